/- The runner of the recursors is sound (own work). -/
import Derived.Test.YtmnofcchfbkbeaaGreatXe
import Derived.Test.YtmnofcchfbkbeaaGreatXL
namespace Go.Ev
open Go.RowKit Go.Sort Go.Proofs
structure gb (M:Nat→Nat→Option Value) (w:World) (E:Rho) (lc:b9) (A:Env) (a:Act) (w1:World) (rows:List V) (hdr:Value):Prop where
 cS:bJ E St.empty w1
 cq:cE E St.empty lc A a w1
 eh:lu M w E w1
 loc:∀k,LP lc A.locs k→w.heap.size≤k
 t4:a.tmps[4]?=some hdr
 out:mX w w1 E lc A rows hdr
 pure:ed rows
 size:26 < a.tmps.size
 marks:∀d∈a.defers,∃r,d.target=.collected r∧w.heap.size≤r
section
variable {M:Nat→Nat→Option Value} {w w1 w2:World} {E E' : Rho} {S:St} {lc lc' : b9} {A A' A'' : Env} {a a' : Act} {rows:List V} {hdr:Value} {l:List Oper} {R:Run}
theorem gb.AV (h:gb M w E lc A a w1 rows hdr) {k:Nat} (hk:k < w.heap.size):¬FL E St.empty lc A k:=fun hf=>by
 rcases hf with hf | hf
 ·exact Ej h.cS rfl k hf
 ·have:=h.loc k hf;omega
theorem gb.res (h:gb M w E lc A a w1 rows hdr) (hk:Kept l a a') (h4:∀o∈l,o.dst≠some 4) (hr:Res E St.empty lc A a' w1 E' St.empty lc' A' w2):gb M w E' lc' A' a' w2 rows hdr where
 cS:=hr.cS
 cq:=hr.cq
 eh:=⟨hr.step.os.trans h.eh.os,hr.step.tape.trans h.eh.tape,hr.step.output.trans h.eh.output,Nat.le_trans h.eh.size hr.step.size,
  fun k hk=>(hr.step.keep k (Nat.lt_of_lt_of_le hk h.eh.size) (h.AV hk)).trans (h.eh.keep k hk),
  fun B o x hx=>by
   rcases hr.step.oP B o x hx with hq | hq | hq
   ·exact h.eh.mem B o x hq
   ·rcases Nat.lt_or_ge B w.heap.size with hlt | hge
    ·exact (h.AV hlt hq).elim
    ·exact .inr hge
   ·exact .inr (Nat.le_trans h.eh.size hq)⟩
 loc k hk':=by
  rcases hr.step.grow k (.inr hk') with hq | hq
  ·rcases Nat.lt_or_ge k w.heap.size with hlt | hge
   ·exact (h.AV hlt hq).elim
   ·exact hge
  ·exact Nat.le_trans h.eh.size hq
 t4:=by rw [hk.off 4 h4];exact h.t4
 out:=h.out.step h.pure h.cS hr
 pure:=h.pure
 size:=by rw [hk.size];exact h.size
 marks:=by rw [hk.defers];exact h.marks
theorem hD (h:spR A S=some A'):S=St.empty∧A'.tmps=spT∧A'.locs=A.locs∧A'.fix=A.fix∧A'.nt=A.nt∧(∀t v,look t A'.tmps=some v→look t A.tmps=some v):=by
 unfold spR at h
 split at h
 ·split at h
  ·rename_i h1 h2
   cases h
   refine⟨rfl,rfl,rfl,rfl,rfl,fun t v ht=>?_⟩
   by_cases e1:t=1
   ·subst e1;rw [spT,bG] at ht;cases ht;exact h1
   ·by_cases e2:t=2
    ·subst e2;rw [spT,aX (by decide),bG] at ht;cases ht;exact h2
    ·rw [spT,aX e1,aX e2] at ht;cases ht
  ·cases h
 ·cases h
theorem gb.reset (h:gb M w E lc A a w1 rows hdr) (hr:spR A S=some A'):gb M w E lc A' a w1 rows hdr:=by
 obtain⟨_,h1,h2,h3,h4,h5⟩:=hD hr
 have jz:=(Res.refl (a:=a) h.cS h.cq).wb (A2:=A') (Nat.le_of_eq h4) h5 (fun d=>by rw [h2]) h3
 exact⟨jz.cS,jz.cq,h.eh,fun k hk=>h.loc k (by rwa [h2] at hk),h.t4,by have:=h.out;unfold mX at this ⊢;rwa [h2],h.pure,h.size,h.marks⟩
theorem gb.free (h:gb M w E lc A a w1 rows hdr) {q:Nat} (hq:look q A.tmps=none) (h4:q≠4) (x:Value):gb M w E lc A (a.put (some q) x) w1 rows hdr where
 cS:=h.cS
 cq:=(np (Res.refl h.cS h.cq) hq x).cq
 eh:=h.eh
 loc:=h.loc
 t4:=by rw [jg h4];exact h.t4
 out:=h.out
 pure:=h.pure
 size:=by rw [iJ];exact h.size
 marks:=h.marks
theorem gb.Ja (h:gb M w E lc A a w1 rows hdr):a.eval (.tmp 4)=hdr:=by
 show a.tmps.getD 4 undef=hdr
 rw [Array.getD_eq_getD_getElem?,h.t4];rfl
theorem kD {t:Nat} (h1:t≠1) (h2:t≠2) (h:A.tmps=spT):look t A.tmps=none:=by
 rw [h,spT,aX h1,aX h2];rfl
theorem gb.NI {jO : List V} {mA : Value} (h:gb M w E lc A a w1 rows hdr) (hA:A.tmps=spT) (hS:bJ E St.empty w2) (hE:cE E St.empty lc A a w2) (ho:mX w w2 E lc A jO mA) (hp:ed jO)
 (h1:w2.os=w1.os) (h2:w2.tape=w1.tape) (h3:w2.output=w1.output) (h4:w1.heap.size≤w2.heap.size) (h5:∀k,k < w.heap.size→w2.heap[k]?=w1.heap[k]?):gb M w E lc A (a.put (some 4) mA) w2 jO mA where
 cS:=hS
 cq:=(np (Res.refl hS hE) (kD (by decide) (by decide) hA) mA).cq
 eh:=⟨h1.trans h.eh.os,h2.trans h.eh.tape,h3.trans h.eh.output,Nat.le_trans h.eh.size h4,fun k hk=>(h5 k hk).trans (h.eh.keep k hk),h.eh.mem⟩
 loc:=h.loc
 t4:=by
  have hz:=h.size
  show (a.tmps.setIfInBounds 4 mA)[4]?=some mA
  simp [show 4 < a.tmps.size by omega]
 out:=ho
 pure:=hp
 size:=by rw [iJ];exact h.size
 marks:=h.marks
theorem uP {o:Oper} {op:Op} (h1:o.op=op) (h2:∀c,op≠.defer c):∀c,o.op≠.defer c:=fun c h3=>h2 c (h1▸h3)
variable {n:Nat} {Q:Exit→Act→World→Prop}
theorem wP (hC:CfgOk Tryz.cfg PP) (hR:cN Tryz.cfg PP R) {i4 i5 i6:Nat} {a0 h0 h1 h2 q0 q1 q2 q3 q4 q5 q6 q7 s0 s1 s2 s3 s4 u0 u1 v0 v1 v2 v3:Oper} {c1 c2:Call}
 (e4:sp4=[h0,h1,h2]) (e5:sp5=[q0,q1,q2,q3,q4,q5,q6,q7]) (e6:sp6=[s0,s1,s2,s3,s4]) (ho:I6 a0 q0 q6 q7 u0 u1 v0 v1 v2 v3 c1 c2)
 (d4:[h0,h1,h2].map (·.dst)=[some 9,some 10,some 11]) (d5:[q1,q2,q3,q4,q5].map (·.dst)=[some 13,some 14,some 15,some 16,some 17]) (d6:[s0,s1,s2,s3,s4].map (·.dst)=[some 19,some 20,some 21,some 22,none]) :
 ∀(m:Nat) {E:Rho} {lc:b9} {A:Env} {a:Act} {w1:World} {rows:List V} {hdr:Value} {A2:Env} {CH:List V},gb M w E lc A a w1 rows hdr→A.tmps=spT→tU R m A rows=some (A2,CH)→
 (∀E' lc' a' w' mA,gb M w E' lc' A2 a' w' CH mA→A2.tmps=spT→Q (.exit 0) a' w')→
 Code.roundsIn (Fw none) n PP (.seq (.seq (.region i4 #[h0,h1,h2] false) (.cond (.tmp 11) .skip (.exit 0))) (.block 1 (.seq (.region i5 #[q0,q1,q2,q3,q4,q5,q6,q7] false) (.region i6 #[s0,s1,s2,s3,s4] false)))) Q m a w1
 | 0,E,lc,A,a,w1,rows,hdr,A2,CH,_,_,h,_=>by cases (show (none:Option (Env×List V))=_ from h)
 | m + 1,E,lc,A,a,w1,rows,hdr,A2,CH,hi,hA,h,hQ=>by
  rw [roundsIn_succ]
  have h' : (match nX R A rows with
   | some (true,A,rows)=>tU R m A rows
   | some (false,A,rows)=>some (A,rows)
   | none=>none)=some (A2,CH):=h
  refine wpIn_seq (wpIn_seq (wpIn_region_list ?_))
  cases hst:nX R A rows with
  | none=>rw [hst] at h';cases h'
  | some bAr=>
   obtain⟨b,A6,TA⟩:=bAr
   rw [hst] at h'
   unfold nX at hst
   split at hst
   ·rename_i A1 S1 yz
    unfold fM at yz
    rw [e4] at yz
    rw [show (#[h0,h1,h2]:Array Oper).toList=[h0,h1,h2]++[] from rfl]
    split at hst
    ·
     rename_i A2' hr1 h11
     cases hst
     cases h'
     obtain⟨rfl,_⟩:=hD hr1
     refine kC hC hR (ops:=#[h0,h1,h2]) [h0,h1,h2] 0 hi.cS hi.cq yz (fun E' lc' a' w' hk hr=>?_)
     have hi1:=hi.res hk (sG d4 (by decide)) hr
     refine wpIn_cond_false (aR hr.cq.tmps (show operand A1 (.tmp 11)=some _ from h11)) (wpIn_exit ?_)
     exact hQ _ _ _ _ _ (hi1.reset hr1) (hD hr1).2.1
    ·
     rename_i A2' hr1 h11
     obtain⟨rfl,hA2,_⟩:=hD hr1
     refine kC hC hR (ops:=#[h0,h1,h2]) [h0,h1,h2] 0 hi.cS hi.cq yz (fun E1 lc1 a1 w1' hk1 wq=>?_)
     have hi1:=(hi.res hk1 (sG d4 (by decide)) wq).reset hr1
     refine wpIn_cond_true (aR wq.cq.tmps (show operand A1 (.tmp 11)=some _ from h11)) (wpIn_skip ?_)
     refine wpIn_block (wpIn_seq (wpIn_region_list (fT ho.q0g ?_)))
     split at hst
     ·rename_i A3 S3 Jb
      unfold fM at Jb
      rw [e5] at Jb
      have Pm : bI Tryz.cfg R (Tryz.cfg.fc 154) (fun _=>.any) [q0,q1,q2,q3,q4,q5,q6,q7] [q1,q2,q3,q4,q5] 1 A2' St.empty=some (A3,S3):=Jb
      split at hst
      ·rename_i A4 jO hr3 qV
       obtain⟨rfl,hA4,_⟩:=hD hr3
       split at hst
       ·rename_i A5 S5 NK
        unfold fM at NK
        rw [e6] at NK
        split at hst
        ·rename_i A6' hr5
         cases hst
         obtain⟨rfl,hA6,_⟩:=hD hr5
         refine fE (uP ho.q0o (fun c hh=>by cases hh)) (cv:=hdr) (by unfold execOp;rw [ho.q0o];simp only [hi1.Ja];rfl) ?_
         rw [ho.q0d]
         have hi2:=hi1.free (q:=12) (kD (by decide) (by decide) hA2) (by decide) hdr
         have Rg:(a1.put (some 12) hdr).tmps[12]?=some hdr:=by
          have hz:=hi1.size
          show (a1.tmps.setIfInBounds 12 hdr)[12]?=some hdr
          simp [show 12 < a1.tmps.size by omega]
         refine kC hC hR (ops:=#[q0,q1,q2,q3,q4,q5,q6,q7]) (rest:=[q6,q7]) [q1,q2,q3,q4,q5] 1 hi2.cS hi2.cq Pm (fun E3 lc3 a3 w3 hk3 MY=>?_)
         have hi3:=(hi2.res hk3 (sG d5 (by decide)) MY).reset hr3
         have Pn : a3.eval (.tmp 12)=hdr:=by
          show a3.tmps.getD 12 undef=hdr
          rw [Array.getD_eq_getD_getElem?,hk3.off 12 (sG d5 (by decide)),Rg];rfl
         unfold Ek at qV
         split at qV
         ·rename_i cs h17
          obtain⟨hch,qV⟩:=aI qV
          cases qV
          simp only [Bool.and_eq_true] at hch
          obtain⟨⟨⟨g1,g2⟩,g3⟩,g4⟩:=hch
          have g1':=Nat.eq_of_beq_eq_true g1
          rw [aq] at g1' g4
          have g4':=Nat.le_of_ble_eq_true g4
          have g3' : cs.all dV=true:=List.all_eq_true.2 (allB_mem g3)
          have hcv:=aR MY.cq.tmps (show operand A3 (.tmp 17)=some _ from h17)
          obtain⟨mA,w4,Nu,kS,kE,kO,k1,k2,k3,k4,k5⟩:=I4 hC hi3.cS hi3.cq hi3.pure hi3.out hi3.eh.size hcv g1' (cr g2) g4' q6.type
          refine fT ho.q6g ?_
          have hx:execOp a3.eval q6=builtin .append c1.argTypes q6.type (c1.args.map fun | .const _=>true | _=>false) (c1.args.map a3.eval):=by
           unfold execOp;rw [ho.q6o];simp only [resolve,ho.q6f,pure_bind,invoke];rfl
          have har:c1.args.map a3.eval = #[hdr,a3.eval (.tmp 17)]:=by rw [ho.q6a];simp [Pn]
          refine lp (uP ho.q6o (fun c hh=>by cases hh)) (s:=Builtin.append_ #[23,23] q6.type #[hdr,a3.eval (.tmp 17)]) (by rw [hx,ho.q6t,har];rfl) Nu ?_
          rw [ho.q6d]
          refine fT ho.q7g ?_
          have NL : ed (rows++[.agg cs]):=fun r hr=>by
           rcases List.mem_append.1 hr with hr | hr
           ·exact hi3.pure r hr
           ·cases hr with
            | head=>exact⟨cs,rfl,g1',cr g2,g3'⟩
            | tail _ hr=>cases hr
          have TL:=hi3.size
          have e18:(a3.put (some 18) mA).eval (.tmp 18)=mA:=eval_at (by omega)
          refine fE (uP ho.q7o (fun c hh=>by cases hh)) (cv:=mA) (by unfold execOp;rw [ho.q7o];simp only [e18];rfl) ?_
          rw [ho.q7d]
          have Rh:=hi3.free (q:=18) (kD (by decide) (by decide) hA4) (by decide) mA
          have kE':=(np (Res.refl kS kE) (kD (t:=18) (by decide) (by decide) hA4) mA).cq
          have hi4:=Rh.NI hA4 kS kE' kO NL k1 k2 k3 k4 k5
          show Code.wpIn _ _ _ _ _ _ _
          refine wpIn_region_list ?_
          rw [show (#[s0,s1,s2,s3,s4]:Array Oper).toList=[s0,s1,s2,s3,s4]++[] from rfl]
          refine kC hC hR (ops:=#[s0,s1,s2,s3,s4]) [s0,s1,s2,s3,s4] 0 hi4.cS hi4.cq NK (fun E5 lc5 a5 w5 hk5 Po=>?_)
          have hi5:=(hi4.res hk5 (sG d6 (by decide)) Po).reset hr5
          rw [bM] at h'
          exact wP hC hR e4 e5 e6 ho d4 d5 d6 m hi5 hA6 h' hQ
         ·cases qV
        ·cases hst
       ·cases hst
      ·cases hst
     ·cases hst
    ·cases hst
   ·cases hst
end
section
variable {M:Nat→Nat→Option Value} {w w1 w2 w' : World} {E E' : Rho} {S:St} {lc lc' : b9} {A A' A'' : Env} {a a' : Act} {rows:List V} {hdr:Value} {l:List Oper} {R:Run} {n k:Nat} {Q:Exit→Act→World→Prop}
theorem F9:∀{vs:List V},within (aM vs) 0→within (one vs).lvl 0
 | [],_=>⟨0,rfl,Nat.le_refl _⟩
 | [_],h=>fJ (aY.1 h).1
 | _::_::_,h=>h
theorem zk:∀{vs:List V},within (aM vs) 0→vs.all gO=true→rB (one vs)=true
 | [],_,_=>rfl
 | [v],h,hp=>by
  have h1:gO v=true:=by simpa using hp
  have h2:=(aY.1 h).1
  cases v<;>first | exact h1 | exact absurd h2 bX
 | _::_::_,_,hp=>hp
theorem wQ (hg:lu M w E w') (hS:bJ E S w') (hE:cE E S lc A a w') (hM:kZ M w) {fn:Func} (hd:∀d∈a.defers,∃r,d.target=.collected r∧w.heap.size≤r)
 (hC:CfgOk Tryz.cfg PP) {vs:List V} (hr:cV Tryz.cfg A S fn.results.toList=some vs) (hl:within (aM vs) 0) (hp:vs.all gO=true) :
 LeavesInM (Fw none) n PP fn a.tmps (nj M w (one vs)) a.defers .returning w':=by
 refine kA (w0:=w) a.defers w' hS hE hd (fun w'' h1 h2 h3 h4 h5 h6 h7=>?_)
 obtain⟨Y,k1,k2⟩:=je hC h1 h2.tmps h2.locs hr
 obtain⟨j1,_⟩:=FZ k2 (a7 hl)
 have eA:(results fn a.tmps).run PP w''=.ok (if h:Y.length=1 then Y[0] else .tuple ⟨Y⟩) w'':=by
  rw [nS,Array.mapM_eq_mapM_toList]
  simp [k1]
 have wy:∀B o x,M B o=some x→B < w.heap.size:=fun B o x hx=>dh (hM B o x hx).1
 have hgr:fL w w'':=⟨h3.trans hg.os,h4.trans hg.tape,h5.trans hg.output,by rw [h6];exact hg.size,fun k hk=>(h7 k hk).trans (hg.keep k hk)⟩
 refine⟨_,eA,_,fun B o=>if B < w.heap.size then M B o else World.all w'' B o,rfl,hgr,?_,?_,?_,?_⟩
 ·intro B o y hy
  by_cases hlt:B < w.heap.size
  ·simp only [hlt,if_true] at hy
   have:=hM B o y hy
   exact Kn.keep (hgr.keep B hlt) this
  ·simp only [hlt,if_false] at hy
   exact all_true w'' B o y hy
 ·intro B o y hy
  simp only [wy B o y hy,if_true];exact hy
 ·intro B o y hy
  by_cases hlt:B < w.heap.size
  ·simp only [hlt,if_true] at hy;exact .inl hy
  ·exact .inr (by omega)
 ·refine (dQ (E:=E) (E':=only fun B o=>if B < w.heap.size then M B o else World.all w'' B o) (l:=lc) (l':=bB) (n:=0) ⟨fun B o y hy=>?_,fun b B hlt _=>by omega⟩ (one vs)).1 _ (F9 hl) (.inr (zk hl hp)) j1
  show (if B < w.heap.size then M B o else World.all w'' B o)=some y
  rcases hg.mem B o y hy with hm | hm
  ·rw [if_pos (wy B o y hm)];exact hm
  ·rw [if_neg (by omega)];exact lW h1 B o y hy
theorem AW (hS:bJ E St.empty w):E.ρ=[]∧E.τ=[]:=
 ⟨List.eq_nil_of_length_eq_zero (by rw [← hS.len];rfl),List.eq_nil_of_length_eq_zero (by rw [← hS.nL];rfl)⟩
theorem wS (h1:E.ρ=[]) (h2:E.τ=[]) (hM:kZ E.M w):bJ E St.empty w where
 len:=by rw [h1];rfl
 blk b B k hb:=by rw [h1] at hb;cases hb
 nodup:=by rw [h1];exact List.nodup_nil
 nL:=by rw [h2];rfl
 tok t o ho:=by rw [h2] at ho;cases ho
 na t u o p ho:=by rw [h2] at ho;cases ho
 tρ t o ho:=by rw [h2] at ho;cases ho
 M:=hM
 Mρ B o x _ hB:=by rw [h1] at hB;cases hB
 Mτ B o x t p _ hp:=by rw [h2] at hp;cases hp
 ll b r d B hb:=by cases hb
 jU b b' r r' d d' B hb:=by cases hb
theorem gb.Pp {jO : List V} {mA : Value} {B:Nat} {cur:Array Value} {e:TypeId} (h:gb M w E lc A a w1 rows hdr) (ho:sD w1 w2 B) (hB:w.heap.size≤B) (hM:∀o,E.M B o=none) (hL:¬LP lc A.locs B) (Au:w1.heap[B]?=some (.cells cur e (0,0)))
 (gU:mX w w2 E lc A jO mA) (hp:ed jO) (h4:mA=hdr):gb M w E lc A a w2 jO mA where
 cS:=wS (AW h.cS).1 (AW h.cS).2 fun B' o x hx=>by
  have hlt:=dh (h.cS.M B' o x hx).1
  have hne:B'≠B:=fun e=>by rw [e,hM] at hx;cases hx
  exact Kn.keep (ho.keep B' hlt hne) (h.cS.M B' o x hx)
 cq:=by
  have hE:=h.cq
  refine⟨hE.nt,hE.tmps,hE.locs.mono (fu.refl E) (fun k hk'=>ho.keep k (hE.apart k hk').2.2 fun e=>hL (e▸hk')),fun B' hB'=>?_,fun d hd=>?_,hE.kY⟩
  ·obtain⟨h1,h2,h3⟩:=hE.apart B' hB'
   exact⟨h1,h2,Nat.lt_of_lt_of_le h3 ho.size⟩
  ·obtain⟨r,h1,h2,h3⟩:=hE.marks d hd
   exact⟨r,h1,by rw [ho.keep r (aGa h2).1 (fun e=>by rw [e,Au] at h2;cases h2)];exact h2,h3⟩
 eh:=⟨ho.os.trans h.eh.os,ho.tape.trans h.eh.tape,ho.output.trans h.eh.output,Nat.le_trans h.eh.size ho.size,fun k hk=>(ho.keep k (Nat.lt_of_lt_of_le hk h.eh.size) (by omega)).trans (h.eh.keep k hk),h.eh.mem⟩
 loc:=h.loc
 t4:=by rw [h4];exact h.t4
 out:=gU
 pure:=hp
 size:=h.size
 marks:=h.marks
theorem ed.shaped (h:ed rows):Shaped 5 rows:=fun r hr=>by
 obtain⟨cs,h1,h2,_⟩:=h r hr;exact⟨cs,h1,h2⟩
theorem ed.lvl:∀{rows:List V},ed rows→within (aM rows) 0
 | [],_=>⟨0,rfl,Nat.le_refl _⟩
 | r::rows,h=>by
  obtain⟨cs,rfl,_,h2,_⟩:=h r aMs
  exact aY.2 ⟨h2,ed.lvl fun q hq=>h q (aMt _ hq)⟩
theorem ed.dV (h:ed rows):(rows.flatMap V.cells).all dV=true:=by
 rw [List.all_eq_true]
 intro v hv
 obtain⟨r,hr,hv⟩:=List.mem_flatMap.1 hv
 obtain⟨cs,rfl,_,_,h3⟩:=h r hr
 exact List.all_eq_true.1 h3 v hv
theorem ed.reverse (h:ed rows):ed rows.reverse:=fun r hr=>h r (List.mem_reverse.1 hr)
theorem gb.told (h:gb M w E lc A a w1 rows hdr):∃Ef,bJ Ef St.empty w1∧cE Ef St.empty lc A a w1∧lu M w Ef w1∧a8 Ef lc (.list 5 .no 0 rows) hdr:=by
 rcases h.out with⟨rfl,rfl⟩ | ⟨B,cap,cur,e,xs,rfl,h2,h3,h4,h5,h6,h7,h8,h9,h10⟩
 ·exact⟨E,h.cS,h.cq,h.eh,⟨0,rfl,Nat.le_refl _⟩,trivial,.inl ⟨rfl,none,rfl⟩⟩
 ·have nf:∀B' o x,E.M B' o=some x→(if B'=B∧o < rows.length * 5 then World.all w1 B o else E.M B' o)=some x:=fun B' o x hx=>by
   rw [if_neg]
   ·exact hx
   ·rintro⟨rfl,_⟩;rw [h7] at hx;cases hx
  have Pq:kZ (fun B' o=>if B'=B∧o < rows.length * 5 then World.all w1 B o else E.M B' o) w1:=fun B' o x hx=>by
   replace hx:(if B'=B∧o < rows.length * 5 then World.all w1 B o else E.M B' o)=some x:=hx
   by_cases hc:B'=B∧o < rows.length * 5
   ·rw [if_pos hc] at hx;obtain⟨rfl,_⟩:=hc;exact all_true w1 _ o x hx
   ·rw [if_neg hc] at hx;exact h.cS.M B' o x hx
  obtain⟨e1,e2⟩:=AW h.cS
  refine⟨{ E with M:=fun B' o=>if B'=B∧o < rows.length * 5 then World.all w1 B o else E.M B' o },wS e1 e2 Pq,?_,?_,?_⟩
  ·have hm:fu E { E with M:=fun B' o=>if B'=B∧o < rows.length * 5 then World.all w1 B o else E.M B' o }:=⟨nf,⟨[],by simp⟩,lR.refl E,fun _ _=>rfl⟩
   refine⟨h.cq.nt,h.cq.tmps.mono hm (fun _ _ _ _ _ h _=>h),h.cq.locs.mono hm (fun _ _=>rfl),fun B' hB'=>?_,h.cq.marks,h.cq.kY⟩
   obtain⟨k1,k2,k3⟩:=h.cq.apart B' hB'
   refine⟨k1,fun o=>?_,k3⟩
   show (if B'=B∧o < rows.length * 5 then World.all w1 B o else E.M B' o)=none
   rw [if_neg]
   ·exact k2 o
   ·rintro⟨rfl,_⟩;exact h8 hB'
  ·refine⟨h.eh.os,h.eh.tape,h.eh.output,h.eh.size,h.eh.keep,fun B' o x hx=>?_⟩
   have hx' : (if B'=B∧o < rows.length * 5 then World.all w1 B o else E.M B' o)=some x:=hx
   by_cases hc:B'=B∧o < rows.length * 5
   ·obtain⟨rfl,_⟩:=hc;exact .inr h4
   ·rw [if_neg hc] at hx';exact h.eh.mem B' o x hx'
  ·refine⟨h.pure.lvl,trivial,.inr ⟨B,0,cap,rfl,h3,gL h.pure.shaped (bE.lh (X:=cellsOf xs) ?_ (fun j x hj=>?_) h.pure.dV)⟩⟩
   ·exact (h9.ext (E':={ E with M:=fun B' o=>if B'=B∧o < rows.length * 5 then World.all w1 B o else E.M B' o }) nf h.pure.ext).vO.jb ((gr h.pure.shaped).2 h.pure.lvl)
   ·have hlt:j < rows.length * 5:=by rw [← h9.length,← gZ];exact (aGs hj).1
    show (if B=B∧0 + j < rows.length * 5 then World.all w1 B (0 + j) else E.M B (0 + j))=some x
    rw [Nat.zero_add,if_pos ⟨rfl,hlt⟩]
    refine jV ?_ (Kn.block h5 (CC xs x (aMg hj)))
    simp only [World.cell?,h5]
    exact h10 j x hj
theorem Es:∃fn c,PP.funcs[183]?=some fn∧(fn.name == "runtime.NumGoroutine")=false∧fn.body=some c:=⟨_,_,Go.Proofs.Tryz.func183,by kernel_rfl,rfl⟩
theorem nZ {vs:List V} {v:V} (h:ze vs=some v):v=one vs∧within (aM vs) 0∧vs.all gO=true:=by
 unfold ze at h
 obtain⟨h1,h⟩:=aI h
 cases h
 simp only [Bool.and_eq_true] at h1
 exact⟨rfl,cr h1.1,List.all_eq_true.2 (allB_mem h1.2)⟩
theorem HC (hC:CfgOk Tryz.cfg PP) (hR:cN Tryz.cfg PP R) {i7 i8:Nat} {a0 q0 q6 q7 u0 u1 v0 v1 v2 v3:Oper} {c1 c2:Call} (ho:I6 a0 q0 q6 q7 u0 u1 v0 v1 v2 v3 c1 c2) (e8:sp8=[v0,v1,v2,v3])
 {v:V} (hi:gb M w E lc A a w1 rows hdr) (hA:A.tmps=spT) (hM:kZ M w) (hlen:rows.length≤9223372036854775807) (hv:uM R A rows=some v)
 (hQ:∀a3 w3,LeavesInM (Fw none) 0 PP Go.Proofs.Tryz.f154 a3.tmps (nj M w v) a3.defers .returning w3→Q .ret a3 w3) :
 (Code.seq (.region i7 #[u0,u1] false) (.seq (.region i8 #[v0,v1,v2,v3] false) .ret)).wpIn (Fw none) n PP Q a w1:=by
 refine wpIn_seq (wpIn_region_list (fT ho.u0g ?_))
 refine fE (uP ho.u0o (fun c hh=>by cases hh)) (cv:=hdr) (by unfold execOp;rw [ho.u0o];simp only [hi.Ja];rfl) ?_
 rw [ho.u0d]
 have hi1:=hi.free (q:=23) (kD (by decide) (by decide) hA) (by decide) hdr
 have hsz:=hi.size
 have e23:(a.put (some 23) hdr).eval (.tmp 23)=hdr:=eval_at (by omega)
 refine fT ho.u1g ?_
 have eZ:c2.args.toList.map (a.put (some 23) hdr).eval=[hdr]:=by rw [ho.u1a];simp [e23]
 have Ri:Calls PP 183 ⟨[hdr]⟩ w1 fun e w2=>e=.returned (.tuple #[])∧gb M w E lc A ((a.put (some 23) hdr).put (some 24) (.tuple #[])) w2 rows.reverse hdr:=by
  rcases hi.out with⟨rfl,rfl⟩ | ⟨B,cap,cur,e,xs,rfl,h2,h3,h4,h5,h6,h7,h8,h9,h10⟩
  ·refine (AP none 0 w1).mono ?_
   rintro e w2 ⟨rfl,rfl⟩
   exact⟨rfl,hi1.free (kD (by decide) (by decide) hA) (by decide) _⟩
  ·have hxl:=h9.length
   have hle:xs.length * 5≤cur.size:=by rw [h6,hxl];exact Nat.mul_le_mul_right _ h3
   have hc:=Ei hC cap h5 h10 hle (by rw [hxl];exact hlen)
   rw [hxl] at hc
   refine hc.mono ?_
   rintro e' w2 ⟨rfl,k1,tT,k2,k3,k4⟩
   exact⟨rfl,(hi1.Pp (jO:=rows.reverse) (mA:=.slice (some ⟨B,0,none⟩) rows.length cap) k1 h4 h7 h8 h5 (.inr ⟨B,cap,tT,e,xs.reverse,by rw [List.length_reverse],by rw [List.length_reverse];exact h2,by rw [List.length_reverse];exact h3,h4,k2,by rw [k3,h6],h7,h8,h9.reverse,k4⟩) hi.pure.reverse rfl).free (kD (by decide) (by decide) hA) (by decide) _⟩
 refine wE (uP ho.u1o (fun c hh=>by cases hh)) (wF ho.u1o ho.u1f Es) (by rw [eZ];exact Ri) ?_
 rintro e' w2 ⟨rfl,hi2⟩
 refine⟨_,rfl,?_⟩
 rw [ho.u1d]
 refine wpIn_seq (wpIn_region_list ?_)
 unfold uM at hv
 split at hv
 ·rename_i A1 S1 yz
  unfold fM at yz
  rw [e8] at yz
  have Pr : bI Tryz.cfg R (Tryz.cfg.fc 154) (fun _=>.any) [v0,v1,v2,v3] [v0] 0 A St.empty=some (A1,S1):=yz
  split at hv
  ·rename_i h26
   split at hv
   ·rename_i A2 S2 wu
    unfold fM at wu
    rw [e8] at wu
    have Ps : bI Tryz.cfg R (Tryz.cfg.fc 154) (fun _=>.any) [v0,v1,v2,v3] [v2] 2 A1 St.empty=some (A2,S2):=wu
    split at hv
    ·rename_i A3 hr3
     split at hv
     ·rename_i vs hvs
      obtain⟨rfl,hA3,_⟩:=hD hr3
      refine kC hC hR (ops:=#[v0,v1,v2,v3]) (rest:=[v1,v2,v3]) [v0] 0 hi2.cS hi2.cq Pr (fun E1 lc1 a1 w3 hk1 wq=>?_)
      have hi3:=hi2.res hk1 (fun o ho'=>by cases ho' with | head=>rw [ho.v0d];decide | tail _ h=>cases h) wq
      refine fT ho.v1g ?_
      refine fE (uP ho.v1o (fun c hh=>by cases hh)) (cv:=hdr) (by unfold execOp;rw [ho.v1o];simp only [hi3.Ja];rfl) ?_
      rw [ho.v1d]
      have hi4:=hi3.free (q:=26) h26 (by decide) hdr
      have Rj:(a1.put (some 26) hdr).tmps[26]?=some hdr:=by
       have hz:=hi3.size
       show (a1.tmps.setIfInBounds 26 hdr)[26]?=some hdr
       simp [show 26 < a1.tmps.size by omega]
      refine kC hC hR (ops:=#[v0,v1,v2,v3]) (rest:=[v3]) [v2] 2 hi4.cS hi4.cq Ps (fun E2 lc2 a2 w4 hk2 la=>?_)
      have hi5:=(hi4.res hk2 (fun o ho'=>by cases ho' with | head=>rw [ho.v2d];decide | tail _ h=>cases h) la).reset hr3
      have e26:a2.eval (.tmp 26)=hdr:=by
       show a2.tmps.getD 26 undef=hdr
       rw [Array.getD_eq_getD_getElem?,hk2.off 26 (fun o ho'=>by cases ho' with | head=>rw [ho.v2d];decide | tail _ h=>cases h),Rj];rfl
      refine fT ho.v3g ?_
      refine fE (uP ho.v3o (fun c hh=>by cases hh)) (cv:=hdr) (by unfold execOp;rw [ho.v3o];simp only [e26];rfl) ?_
      rw [ho.v3d]
      refine wpIn_ret (hQ _ _ ?_)
      obtain⟨Ef,k1,k2,k3,k4⟩:=hi5.told
      obtain⟨rfl,p1,p2⟩:=nZ hv
      have hE6:cE Ef St.empty lc2 { A3 with tmps:=(3,.list 5 .no 0 rows.reverse)::A3.tmps } (a2.put (some 3) hdr) w4:=
       ⟨by rw [iJ];exact k2.nt,wa k2.tmps (by have:=hi5.size;omega) k4,k2.locs,k2.apart,k2.marks,k2.kY⟩
      exact wQ k3 k1 hE6 hM hi5.marks hC hvs p1 p2
     ·cases hv
    ·cases hv
   ·cases hv
  ·cases hv
 ·cases hv
theorem Jc (hC:CfgOk Tryz.cfg PP) (hR:cN Tryz.cfg PP R) {args:List V} {v:V} (h:pI R k (bn V.strip args)=some v):jc PP 154 args v:=by
 obtain⟨i3,i4,i5,i6,i7,i8,a0,h0,h1,h2,q0,q1,q2,q3,q4,q5,q6,q7,s0,s1,s2,s3,s4,u0,u1,v0,v1,v2,v3,c1,c2,CI,e4,e5,e6,e8,ho,d4,d5,d6⟩:=Lb
 have hfn:Tryz.cfg.fn 154=some Go.Proofs.Tryz.f154:=rfl
 have hb:(Go.Proofs.Tryz.f154).body=some spB:=rfl
 have hok:codeOk (Tryz.cfg.fc 154) spB=true:=hC.body _ _ _ hfn hb
 have yC:∀c∈spC,codeOk (Tryz.cfg.fc 154) c=true:=by
  rw [CI] at hok
  obtain⟨k1,k2⟩:=br.1 hok
  obtain⟨k3,k4⟩:=br.1 k2
  intro c hc
  cases hc with
  | head=>exact k1
  | tail _ hc=>cases hc with
   | head=>exact k3
   | tail _ hc=>cases hc
 have wU:∀{R:Run} {A:Env} {rows:List V} {v:V},uM R A rows=some v→∃vs,v=one vs∧within (aM vs) 0∧vs.all gO=true:=fun {R A rows v} h=>by
  unfold uM at h
  split at h
  ·split at h
   ·split at h
    ·split at h
     ·split at h
      ·exact⟨_,nZ h⟩
      ·cases h
     ·cases h
    ·cases h
   ·cases h
  ·cases h
 have hv:∃vs,v=one vs∧within (aM vs) 0∧vs.all gO=true:=by
  unfold pI at h
  split at h
  ·split at h
   ·replace h:=(aI h).2
    split at h
    ·exact wU (aI h).2
    ·cases h
   ·cases h
  ·split at h
   ·exact⟨_,nZ h⟩
   ·cases h
  ·cases h
 obtain⟨vs0,rfl,hl0,hp0⟩:=hv
 refine⟨F9 hl0,zk hl0 hp0,fun M w X hM hX=>?_⟩
 refine (callsIn_wide (n:=0)).1 (callsIn_of_wp_marks (F:=Fw none) Go.Proofs.Tryz.func154 hb trivial ?_)
 have hE0:cE (only M) St.empty bB { nt:=(Go.Proofs.Tryz.f154).ntmps,tmps:=number 0 (bn V.strip args),locs:=[],fix:=[] } ⟨(⟨X⟩ : Array Value)++Array.replicate ((Go.Proofs.Tryz.f154).ntmps - X.length) undef,[]⟩ w:=by
  refine⟨by simp;omega,fun t v ht=>?_,⟨(fun d cs hd=>by cases hd),(fun d d' B hd=>by cases hd)⟩,fun B hB=>?_,fun d hd=>(by cases hd),List.Pairwise.nil⟩
  ·obtain⟨x,h1,h2⟩:=kB (show au (only M) bB (bn V.strip args) X by rw [bH];exact hX) ht
   refine⟨x,?_,h2⟩
   have hlt:t < X.length:=(aGs h1).1
   rw [Array.getElem?_append_left (by simpa using hlt)]
   simpa using h1
  ·obtain⟨d,hd,_⟩:=hB;cases hd
 rw [CI]
 unfold pI at h
 split at h
 ·rename_i A1 S1 hev
  split at h
  ·rename_i A2 hr1
   obtain⟨rfl,hA2,hAl,_,hAn,_⟩:=hD hr1
   have hnt:=(aI h).1
   replace h:=(aI h).2
   rw [Nat.blt_eq] at hnt
   split at h
   ·rename_i A3 rows hlp
    have hlen:=Nat.le_of_ble_eq_true (aI h).1
    replace h:=(aI h).2
    rw [aq] at hlen
    refine pD hC hR spC yC (gN hM) hE0 hev (fun E' lc' a' w' hl hr=>?_)
    have hmarks:∀d∈a'.defers,∃r,d.target=.collected r∧w.heap.size≤r:=fun d hd=>by
     rcases hl d hd with h | h
     ·cases h
     ·exact h
    have la:Res (only M) St.empty bB { nt:=(Go.Proofs.Tryz.f154).ntmps,tmps:=number 0 (bn V.strip args),locs:=[],fix:=[] } a' w E' St.empty lc' A2 w':=
     hr.wb (Nat.le_of_eq (hD hr1).2.2.2.2.1) (hD hr1).2.2.2.2.2 (fun d=>by rw [hAl]) (hD hr1).2.2.2.1
    have Hu:∀k,LP lc' A2.locs k→w.heap.size≤k:=fun k hk=>by
     rcases la.step.grow k (.inr hk) with hq | hq
     ·rcases hq with hq | ⟨d,hd,_⟩
      ·exact (gG hq).elim
      ·cases hd
     ·exact hq
    have hsz:26 < a'.tmps.size:=Nat.lt_of_lt_of_le hnt la.cq.nt
    refine wpIn_seq (wpIn_region_list (fT ho.a0g ?_))
    refine fE (uP ho.a0o (fun c hh=>by cases hh)) (cv:=.slice none 0 0) (by unfold execOp;rw [ho.a0o];rfl) ?_
    rw [ho.a0d]
    have hi:gb M w E' lc' A2 (a'.put (some 4) (.slice none 0 0)) w' [] (.slice none 0 0):=
     { cS:=la.cS
       cq:=(np (Res.refl la.cS la.cq) (kD (t:=4) (by decide) (by decide) hA2) _).cq
       eh:=lu.start rfl la
       loc:=Hu
       t4:=by
        show (a'.tmps.setIfInBounds 4 (.slice none 0 0))[4]?=_
        simp [show 4 < a'.tmps.size by omega]
       out:=.inl ⟨rfl,rfl⟩
       pure:=fun r hr=>by cases hr
       size:=by rw [iJ];exact hsz
       marks:=hmarks }
    refine wpIn_seq (wpIn_block (wpIn_loop_rounds k (wP hC hR e4 e5 e6 ho d4 d5 d6 k hi hA2 hlp (fun E2 lc2 a2 w2 TM hi2 hA3=>?_))))
    exact HC hC hR ho e8 hi2 hA3 hM hlen h (fun a3 w3 h3=>h3)
   ·cases h
  ·cases h
 ·rename_i A1 S1 hev
  split at h
  ·rename_i vs hvs
   obtain⟨h1,p1,p2⟩:=nZ h
   rw [h1]
   refine pD hC hR spC yC (gN hM) hE0 hev (fun E' lc' a' w' hl hr=>?_)
   refine wQ (lu.start rfl hr) hr.cS hr.cq hM (fun d hd=>?_) hC hvs p1 p2
   rcases hl d hd with h | h
   ·cases h
   ·exact h
  ·cases h
 ·cases h
end
end Go.Ev
namespace Go.Ev
open Go.RowKit Go.Proofs
section
variable {M M' : Nat→Nat→Option Value} {E:Rho} {S:St} {lc:b9} {A A2:Env} {a:Act} {w w' : World} {R:Run} {n k:Nat}
theorem zl {v:V} (h:∀vs,v≠.tuple vs):v.cb=v.strip:=by
 cases v<;>first | exact absurd rfl (h _) | rfl
theorem zm {v:V} (h:within (gn v) 0):∀vs,v≠.tuple vs:=fun vs e=>by
 subst e
 exact bX h
theorem Ga:∀{vs:List V},within (aM vs) 0→within (one vs).cb.lvl 0
 | [],_=>⟨0,rfl,Nat.le_refl _⟩
 | [v],h=>by
  have hb:=(aY.1 h).1
  show within v.cb.lvl 0
  rw [zl (zm hb)]
  exact fJ (by rw [js];exact hb)
 | v::u::vs,h=>by
  show within (aM (bn V.strip (v::u::vs))) 0
  rw [bH,dq];exact h
theorem Ld (hM:∀B o x,E.M B o=some x→M' B o=some x):∀{vs:List V} {X:List Value},au E lc vs X→within (aM vs) 0→a8 (only M') bB (one vs).cb (if h:X.length=1 then X[0] else .tuple ⟨X⟩)
 | [],X,h,_=>by
  cases h
  exact⟨rfl,[],rfl,rfl⟩
 | [v],X,h,hl=>by
  have hb:=(aY.1 hl).1
  obtain⟨x,Y,rfl,h1,h2⟩:=jx hM h hl
  cases h2
  show a8 (only M') bB v.cb x
  rw [zl (zm hb)]
  exact h1
 | v::u::vs,X,h,hl=>by
  have h3:=jx hM h hl
  obtain⟨x,Y,rfl,h1,y,Z,rfl,h2⟩:=h
  have hne:¬(x::y::Z).length=1:=by simp
  rw [dif_neg hne]
  refine⟨?_,_,rfl,?_⟩
  ·rw [bH,dq];exact a7 hl
  ·rw [bH];exact h3
theorem tX (hg:lu M w E w') (hS:bJ E S w') (hE:cE E S lc A a w') (hM:kZ M w) {fn:Func} (hd:∀d∈a.defers,∃r,d.target=.collected r∧w.heap.size≤r)
 (hC:CfgOk Tryz.cfg PP) {vs:List V} (hr:cV Tryz.cfg A S fn.results.toList=some vs) (hl:within (aM vs) 0) :
 LeavesInM (Fw none) n PP fn a.tmps (nj M w (one vs).cb) a.defers .returning w':=by
 refine kA (w0:=w) a.defers w' hS hE hd (fun w'' h1 h2 h3 h4 h5 h6 h7=>?_)
 obtain⟨Y,k1,k2⟩:=je hC h1 h2.tmps h2.locs hr
 have eA:(results fn a.tmps).run PP w''=.ok (if h:Y.length=1 then Y[0] else .tuple ⟨Y⟩) w'':=by
  rw [nS,Array.mapM_eq_mapM_toList]
  simp [k1]
 have wy:∀B o x,M B o=some x→B < w.heap.size:=fun B o x hx=>dh (hM B o x hx).1
 have hgr:fL w w'':=⟨h3.trans hg.os,h4.trans hg.tape,h5.trans hg.output,by rw [h6];exact hg.size,fun k hk=>(h7 k hk).trans (hg.keep k hk)⟩
 refine⟨_,eA,_,fun B o=>if B < w.heap.size then M B o else World.all w'' B o,rfl,hgr,?_,?_,?_,?_⟩
 ·intro B o y hy
  by_cases hlt:B < w.heap.size
  ·simp only [hlt,if_true] at hy
   have:=hM B o y hy
   exact Kn.keep (hgr.keep B hlt) this
  ·simp only [hlt,if_false] at hy
   exact all_true w'' B o y hy
 ·intro B o y hy
  simp only [wy B o y hy,if_true];exact hy
 ·intro B o y hy
  by_cases hlt:B < w.heap.size
  ·simp only [hlt,if_true] at hy;exact .inl hy
  ·exact .inr (by omega)
 ·refine Ld (M':=fun B o=>if B < w.heap.size then M B o else World.all w'' B o) (fun B o y hy=>?_) k2 hl
  show (if B < w.heap.size then M B o else World.all w'' B o)=some y
  rcases hg.mem B o y hy with hm | hm
  ·rw [if_pos (wy B o y hm)];exact hm
  ·rw [if_neg (by omega)];exact lW h1 B o y hy
theorem Et {cs:List V} {B o:Nat} (h:bE E lc cs B 0):bE E lc (ga o cs) B o:=by
 rw [ez]
 have:=bE.drop o h
 rwa [Nat.zero_add] at this
theorem CJ:∀{cs:List V} (o:Nat),within (aJ cs) 0→within (aJ (cs.drop o)) 0
 | [],o,h=>by simpa using h
 | c::cs,0,h=>h
 | c::cs,o + 1,h=>CJ (cs:=cs) o (cD.1 h).2
theorem CK {l' : b9} (hM:∀B o x,E.M B o=some x→M' B o=some x) {v:V} {x:Value} (hv:a8 E lc v x) (hp:within (fP v) 0):a8 (only M') l' (ai v) x:=by
 refine (dQ (E:=E) (E':=only M') (l:=lc) (l':=l') (n:=0) ⟨hM,fun b B hlt _=>by omega⟩ (ai v)).1 x (ja (by rw [kh];exact hp)).1 (.inr ?_) hv.ai
 have:=kL v
 cases v with
 | agg cs=>exact absurd hp bX
 | tuple cs=>exact absurd hp bX
 | list sz tok top rows=>cases tok<;>exact this
 | _=>exact this
theorem wV {l' : b9} (hM:∀B o x,E.M B o=some x→M' B o=some x):∀{cs:List V} {X:List Value},au E lc cs X→within (aJ cs) 0→au (only M') l' (cs.map ai) X
 | [],X,h,_=>h
 | c::cs,X,h,hl=>by
  obtain⟨x,Y,rfl,h1,h2⟩:=h
  have hb:=cD.1 hl
  exact⟨x,Y,rfl,CK hM h1 hb.1,wV hM h2 hb.2⟩
structure Told (E:Rho) (M' : Nat→Nat→Option Value) (B0:Nat) (cs:List V):Prop where
 rho:E.ρ[0]?=some B0
 more:∀B o x,E.M B o=some x→M' B o=some x
 cells:∀l,bE (only M') l cs B0 0
 lvl:within (aJ cs) 0
theorem Gb {cs:List V} {B0:Nat} {l' : b9} (ht:Told E M' B0 cs) {v v' : V} {x:Value} (h:fzC cs v=some v') (hv:a8 E lc v x):a8 (only M') l' v' x∧within (fP v') 0:=by
 unfold fzC at h
 split at h
 ·rename_i o
  cases h
  obtain⟨B,h1,rfl⟩:=hv
  rw [ht.rho] at h1
  cases h1
  have hd:within (aJ (ga o cs)) 0:=by rw [ez];exact CJ o ht.lvl
  exact⟨⟨hd,_,o,rfl,Et (ht.cells l')⟩,0,rfl,Nat.le_refl _⟩
 ·obtain⟨h1,h2⟩:=aI h
  cases h2
  have hp:=cr h1
  exact⟨CK ht.more hv hp,by rw [kh];exact hp⟩
theorem wW {cs:List V} {B0:Nat} {l' : b9} (ht:Told E M' B0 cs):∀{vs vs' : List V} {X:List Value},bO (fzC cs) vs=some vs'→au E lc vs X→au (only M') l' vs' X∧within (aJ vs') 0
 | [],vs',X,h,hv=>by
  cases (show some ([]:List V)=some vs' from h)
  exact⟨hv,0,rfl,Nat.le_refl _⟩
 | v::vs,vs',X,h,hv=>by
  rw [bT] at h
  obtain⟨a,b,h1,h2,rfl⟩:=cX h
  obtain⟨x,Y,rfl,k1,k2⟩:=hv
  obtain⟨r1,r2⟩:=Gb (l':=l') ht h1 k1
  obtain⟨r3,r4⟩:=wW (l':=l') ht h2 k2
  exact⟨⟨x,Y,rfl,r1,r3⟩,cD.2 ⟨r2,r4⟩⟩
theorem Le {cs:List V} {B0:Nat} (ht:Told E M' B0 cs) {v v' : V} {x:Value} (h:fzT cs v=some v') (hv:a8 E lc v x):a8 (only M') lc v' x:=by
 unfold fzT at h
 split at h
 ·rename_i l
  split at h
  ·rename_i m hm
   cases h
   obtain⟨h1,X,rfl,h2⟩:=hv
   obtain⟨r1,r2⟩:=wW (l':=lc) ht hm h2
   exact⟨a7 r2,X,rfl,r1⟩
  ·cases h
 ·cases h;exact hv
 ·cases h
 ·exact (Gb ht h hv).1
theorem qu {cs:List V} {all:List (Nat×V)}:∀{l:List (Nat×V)} {t:Nat} {v' : V},look t (Hz cs all l)=some v'→∃v,look t all=some v∧fzT cs v=some v'
 | [],t,v',h=>by cases (show (none:Option V)=some v' from h)
 | p::l,t,v',h=>by
  have e:Hz cs all (p::l)=match look p.1 all with
   | some v=>(match fzT cs v with | some v=>(p.1,v)::Hz cs all l | none=>Hz cs all l)
   | none=>Hz cs all l:=rfl
  rw [e] at h
  split at h
  ·rename_i v hv
   split at h
   ·rename_i v2 hv2
    by_cases hq:t=p.1
    ·subst hq
     rw [bG] at h
     cases h
     exact⟨v,hv,hv2⟩
    ·rw [aX hq] at h
     exact qu h
   ·exact qu h
  ·exact qu h
theorem pO {cs:List V}:∀{l l' : List (Nat×List V)} {d:Nat} {c' : List V},bO (fzL cs) l=some l'→look d l'=some c'→∃c,look d l=some c∧bO (fzC cs) c=some c'
 | [],l',d,c',h,h2=>by cases (show some ([]:List (Nat×List V))=some l' from h);cases h2
 | p::l,l',d,c',h,h2=>by
  rw [bT] at h
  obtain⟨a,b,k1,k2,rfl⟩:=cX h
  unfold fzL at k1
  split at k1
  ·rename_i m hm
   cases k1
   by_cases hq:d=p.1
   ·subst hq
    rw [bG] at h2
    cases h2
    exact⟨p.2,by rw [show p=(p.1,p.2) from rfl,bG],hm⟩
   ·rw [aX hq] at h2
    obtain⟨c,e1,e2⟩:=pO k2 h2
    exact⟨c,by rw [show p=(p.1,p.2) from rfl,aX hq];exact e1,e2⟩
  ·cases k1
theorem NM (hS:bJ E S w) (hE:cE E S lc A a w) (h:rP A S=some A2):∃M' B0,kZ M' w∧(∀B o x,M' B o=some x→E.M B o=some x∨B=B0)∧(∀B o x,E.M B o=some x→M' B o=some x)∧FP E S B0∧
 cE (only M') St.empty lc A2 a w∧(∀B,LP lc A2.locs B→LP lc A.locs B):=by
 unfold rP at h
 split at h
 ·rename_i ty cs hb
  have hz:=(aI h).1
  replace h:=(aI h).2
  split at h
  ·rename_i ls hls
   cases h
   have hcs:=cr hz
   rw [bS] at hb
   have hlt:0 < E.ρ.length:=by rw [← hS.len];exact (aGs hb).1
   obtain⟨B0,hB0⟩ : ∃B0,E.ρ[0]?=some B0:=⟨_,aGe hlt⟩
   obtain⟨arr,ty0,k1,k2,k3,k4⟩ : bA E w B0 cs:=hS.blk 0 B0 _ hB0 hb
   have hF:FP E S B0:=.inl (aMg hB0)
   let M' : Nat→Nat→Option Value:=fun B o=>if B=B0 then World.all w B o else E.M B o
   have hM1:∀B o x,E.M B o=some x→M' B o=some x:=fun B o x hx=>by
    show (if B=B0 then World.all w B o else E.M B o)=some x
    split
    ·exact lW hS B o x hx
    ·exact hx
   have hT:kZ M' w:=fun B o x hx=>by
    by_cases hq:B=B0
    ·have hx' : World.all w B o=some x:=by
      have:=hx
      simp only [M',hq,if_true] at this
      rw [hq];exact this
     exact all_true w B o x hx'
    ·have hx' : E.M B o=some x:=by
      have:=hx
      simp only [M',hq,if_false] at this
      exact this
     exact hS.M B o x hx'
   have hcl:within (aJ (bn ai cs)) 0:=by rw [bH];exact iw hcs
   have told:Told E M' B0 (bn ai cs):=by
    refine⟨hB0,hM1,fun l=>?_,hcl⟩
    rw [bH]
    have h4:au (only M') l (cs.map ai) arr.toList:=wV hM1 k2 hcs
    refine bE.lh h4 (fun j y hj=>?_) (cC _)
    show (if B0=B0 then World.all w B0 (0 + j) else E.M B0 (0 + j))=some y
    rw [if_pos rfl]
    refine jV ?_ (by rw [Nat.zero_add];exact Kn.block k1 (k4 y (aMg hj)))
    rw [Nat.zero_add]
    simp only [World.cell?,k1]
    rw [Array.getElem?_toList] at hj
    exact hj
   have hLP:∀B,LP lc ls B→LP lc A.locs B:=fun B ⟨d,hd,hB⟩=>by
    obtain⟨c',hc'⟩:=Option.isSome_iff_exists.1 hd
    obtain⟨c,e1,_⟩:=pO hls hc'
    exact⟨d,by rw [e1];rfl,hB⟩
   refine⟨M',B0,hT,fun B o x hx=>?_,hM1,hF,⟨hE.nt,fun t v hv=>?_,⟨fun d c' hc'=>?_,fun d d' B h1 h2=>?_⟩,fun B hB=>?_,fun d hd=>?_,hE.kY⟩,hLP⟩
   ·by_cases hq:B=B0
    ·exact .inr hq
    ·have:=hx
     simp only [M',hq,if_false] at this
     exact .inl this
   ·obtain⟨u,e1,e2⟩:=qu hv
    obtain⟨x,x1,x2⟩:=hE.tmps t u e1
    exact⟨x,x1,Le told e2 x2⟩
   ·obtain⟨c,e1,e2⟩:=pO hls hc'
    obtain⟨B,b1,arr,ty1,b2,b3,b4,b5⟩:=hE.locs.cells d c e1
    obtain⟨r1,r2⟩:=wW (l':=fun _=>none) told e2 b3
    exact⟨B,b1,arr,ty1,b2,r1,a7 r2,b5⟩
   ·obtain⟨c,hc⟩:=Option.isSome_iff_exists.1 h1
    obtain⟨c2,hc2⟩:=Option.isSome_iff_exists.1 h2
    obtain⟨c,e1,_⟩:=pO hls hc
    obtain⟨c2,e2,_⟩:=pO hls hc2
    exact hE.locs.inj d d' B (by rw [e1];rfl) (by rw [e2];rfl)
   ·obtain⟨a1,a2,a3⟩:=hE.apart B (hLP B hB)
    refine⟨fun hf=>gG hf,fun o=>?_,a3⟩
    show (if B=B0 then World.all w B o else E.M B o)=none
    rw [if_neg (fun hq:B=B0=>a1 (by rw [hq];exact hF))]
    exact a2 o
   ·obtain⟨r,r1,r2,_⟩:=hE.marks d hd
    exact⟨r,r1,r2,fun hf=>gG hf⟩
  ·cases h
 ·cases h
theorem sK {F:FC}:∀{l:List Code} {z:Code},codeOk F (uF l z)=true→(∀c∈l,codeOk F c=true)∧codeOk F z=true
 | [],z,h=>⟨fun c hc=>(by cases hc),h⟩
 | c::l,z,h=>by
  obtain⟨h1,h2⟩:=br.1 (show cB (codeOk F c) (codeOk F (uF l z))=true from h)
  obtain⟨h3,h4⟩:=sK h2
  exact⟨fun d hd=>by
   cases hd with
   | head=>exact h1
   | tail _ hd=>exact h3 d hd,h4⟩
theorem kF {fn:Func} {v:V} (h:pM fn A S=some v):∃vs,cV Tryz.cfg A S fn.results.toList=some vs∧within (aM vs) 0∧v=(one vs).cb:=by
 unfold pM at h
 split at h
 ·rename_i vs hvs
  have h1:=(aI h).1
  have h2:=(aI h).2
  cases h2
  exact⟨vs,hvs,cr h1,rfl⟩
 ·cases h
theorem wX {id m:Nat} {fn:Func} (hC:CfgOk Tryz.cfg PP) (hR:cN Tryz.cfg PP R) (hfn:Tryz.cfg.fn id=some fn) (hb:fn.body=some (iD fn)) (hsp:iD fn=uF (uO m (iD fn)) (ny m (iD fn)))
 {args:List V} {v:V} (h:sI id m fn R k (bn V.strip args)=some v):jc PP id args v:=by
 obtain⟨hf1,_⟩:=hC.fn id fn hfn
 have hok:codeOk (Tryz.cfg.fc id) (iD fn)=true:=hC.body _ _ _ hfn hb
 rw [hsp] at hok
 obtain⟨yC,NN⟩:=sK hok
 have hv:∃vs,v=(one vs).cb∧within (aM vs) 0:=by
  unfold sI at h
  split at h
  ·split at h
   ·split at h
    ·cases h
    ·obtain⟨vs,_,h2,h3⟩:=kF h;exact⟨vs,h3,h2⟩
    ·cases h
   ·cases h
  ·obtain⟨vs,_,h2,h3⟩:=kF h;exact⟨vs,h3,h2⟩
  ·cases h
 obtain⟨vs0,hv0,hl0⟩:=hv
 refine⟨by rw [hv0];exact Ga hl0,by rw [hv0];exact l6 _,fun M w X hM hX=>?_⟩
 refine (callsIn_wide (n:=0)).1 (callsIn_of_wp_marks (F:=Fw none) hf1 hb trivial ?_)
 have hE0:cE (only M) St.empty bB { nt:=fn.ntmps,tmps:=number 0 (bn V.strip args),locs:=[],fix:=[] } ⟨(⟨X⟩ : Array Value)++Array.replicate (fn.ntmps - X.length) undef,[]⟩ w:=by
  refine⟨by simp;omega,fun t v ht=>?_,⟨(fun d cs hd=>by cases hd),(fun d d' B hd=>by cases hd)⟩,fun B hB=>?_,fun d hd=>(by cases hd),List.Pairwise.nil⟩
  ·obtain⟨x,h1,h2⟩:=kB (show au (only M) bB (bn V.strip args) X by rw [bH];exact hX) ht
   refine⟨x,?_,h2⟩
   have hlt:t < X.length:=(aGs h1).1
   rw [Array.getElem?_append_left (by simpa using hlt)]
   simpa using h1
  ·obtain⟨d,hd,_⟩:=hB;cases hd
 rw [hsp]
 unfold sI at h
 split at h
 ·rename_i A1 S1 hev
  refine pD hC hR _ yC (gN hM) hE0 hev (fun E' lc' a' w' hl hr=>?_)
  have hmarks:∀d∈a'.defers,∃r,d.target=.collected r∧w.heap.size≤r:=fun d hd=>by
   rcases hl d hd with h | h
   ·cases h
   ·exact h
  have hg0:lu M w E' w':=lu.start rfl hr
  split at h
  ·rename_i A2 hfz
   obtain⟨M',B0,hT,hM1,hM2,hF,hE2,hLP⟩:=NM hr.cS hr.cq hfz
   have hB0:w.heap.size≤B0:=wJ rfl hr hF
   have hLw:∀B,LP lc' A2.locs B→w.heap.size≤B:=fun B hB=>by
    rcases hr.step.grow B (.inr (hLP B hB)) with hq | hq
    ·rcases hq with hq | ⟨d,hd,_⟩
     ·exact (gG hq).elim
     ·cases hd
    ·exact hq
   have hFL:∀B,FL (only M') St.empty lc' A2 B→w.heap.size≤B:=fun B hB=>by
    rcases hB with hq | hq
    ·exact (gG hq).elim
    ·exact hLw B hq
   split at h
   ·cases h
   ·rename_i e2 A3 S3 hne wu
    obtain⟨vs,hvs,hlv,rfl⟩:=kF h
    refine nu hC hR none id _ NN (.inl rfl) 0 (gN hT) hE2 wu (fun E3 lc3 a3 w3 hl3 hr3=>?_)
    have hg:lu M w E3 w3:=by
     refine⟨hr3.step.os.trans hg0.os,hr3.step.tape.trans hg0.tape,hr3.step.output.trans hg0.output,Nat.le_trans hg0.size hr3.step.size,fun j hj=>?_,fun B o x hx=>?_⟩
     ·exact (hr3.step.keep j (Nat.lt_of_lt_of_le hj hg0.size) (fun hf=>by have:=hFL j hf;omega)).trans (hg0.keep j hj)
     ·rcases hr3.step.oP B o x hx with hq | hq | hq
      ·rcases hM1 B o x hq with hq | hq
       ·exact hg0.mem B o x hq
       ·exact .inr (by rw [hq];exact hB0)
      ·exact .inr (hFL B hq)
      ·exact .inr (Nat.le_trans hg0.size hq)
    have AX:∀d∈a3.defers,∃r,d.target=.collected r∧w.heap.size≤r:=fun d hd=>by
     rcases hl3 d hd with hq | ⟨r,r1,r2⟩
     ·exact hmarks d hq
     ·exact⟨r,r1,Nat.le_trans hg0.size r2⟩
    have uC:=tX (n:=0) hg hr3.cS hr3.cq hM (fn:=fn) AX hC hvs hlv
    cases e2 with
    | normal=>exact uC
    | ret=>exact uC
    | exit id=>exact (hne _ rfl).elim
   ·cases h
  ·cases h
 ·rename_i A1 S1 hev
  obtain⟨vs,hvs,hlv,rfl⟩:=kF h
  refine pD hC hR _ yC (gN hM) hE0 hev (fun E' lc' a' w' hl hr=>?_)
  refine tX (lu.start rfl hr) hr.cS hr.cq hM (fun d hd=>?_) hC hvs hlv
  rcases hl d hd with h | h
  ·cases h
  ·exact h
 ·cases h
end
section
variable {M M' : Nat→Nat→Option Value} {E:Rho} {S:St} {lc:b9} {A A2:Env} {a:Act} {w w' : World} {R:Run} {n k:Nat}
theorem CL {C:Cfg} {P:Program} {F:FC} {ro:Option Nat} {Q:Exit→Act→World→Prop} (hC:CfgOk C P) (hR:cN C P R) {ops:Array Oper} {ac:Nat→Acc} {l2:List Oper}:∀(l:List Oper) (i:Nat) {E:Rho} {S:St} {lc:b9} {A:Env} {a:Act} {w:World} {r:Env×St},
 bJ E S w→cE E S lc A a w→bI C R F ac ops.toList l i A S=some r→
 (∀E' lc' a' w',a'.defers=a.defers→Res E S lc A a' w E' r.2 lc' r.1 w'→wpListIn (Fw ro) n P ops Q l2 a' w')→wpListIn (Fw ro) n P ops Q (l++l2) a w
 | [],i,E,S,lc,A,a,w,r,hS,hE,h,hQ=>by
  rw [mC] at h
  cases h
  exact hQ _ _ _ _ rfl (Res.refl hS hE)
 | o::l,i,E,S,lc,A,a,w,r,hS,hE,h,hQ=>by
  rw [ir] at h
  exact qn hC hR hS hE h (fun E' lc' A' S' a' w' hd hr hg=>
   CL hC hR l (i + 1) hr.cS hr.cq hg (fun E'' Hl a'' w'' hd' hr'=>hQ _ _ _ _ (hd'.trans hd) (hr.trans hr')))
theorem AY {B o:Nat} {x:Value} (h:w.cell? ⟨B,o,none⟩=some x):w.setCell ⟨B,o,none⟩ x=w:=by
 unfold World.cell? at h
 split at h
 ·rename_i c ty fr hb
  simp only [Option.isSome_none,Bool.false_eq_true,if_false] at h
  have hlt:B < w.heap.size:=(aGa hb).1
  have hB:w.heap[B]=.cells c ty fr:=(aGa hb).2
  have hc:c.setIfInBounds o x=c:=by
   obtain⟨h1,h2⟩:=aGa h
   apply Array.ext
   ·rw [Array.size_setIfInBounds]
   ·intro i i1 i2
    by_cases hi:o=i
    ·subst hi;simp [h2]
    ·rw [Array.getElem_setIfInBounds_ne _ hi]
  have:w.heap.modify B (fun | .cells c ty fr=>.cells (if (⟨B,o,none⟩ : Addr).spot.isSome then c else c.setIfInBounds o x) ty fr | ob=>ob)=w.heap:=by
   apply Array.ext
   ·rw [Array.size_modify]
   ·intro i i1 i2
    rw [Array.getElem_modify]
    split
    ·rename_i hi;subst hi
     rw [hB]
     simp [hc]
    ·rfl
  unfold World.setCell
  simp only
  cases w
  congr
 ·cases h
theorem NO:11 < mK.length:=by rw [show mK.length=12 by kernel_rfl];decide
noncomputable def CM:Oper:=mK.get ⟨11,NO⟩
theorem Jd:∃i,iD Go.Proofs.Tryz.f131=uF (uO 2 lfB) (.seq (.region i ⟨mK⟩ false) (ny 3 lfB))∧mK=takeN 11 mK++[CM]∧CM.op=.store 4 (.tmp 25) (.tmp 23)∧CM.dst=none∧CM.guard=none:=
 ⟨2,by kernel_rfl,by kernel_rfl,by kernel_rfl,by kernel_rfl,by kernel_rfl⟩
theorem lift_pure (hC:CfgOk Tryz.cfg PP) (hR:cN Tryz.cfg PP R) {args:List V} {v:V} (h:sH R k (bn V.strip args)=some v):jc PP 131 args v:=by
 obtain⟨ri,hsp,Rk,ho,DS,hgd⟩:=Jd
 have hb:Go.Proofs.Tryz.f131.body=some (iD Go.Proofs.Tryz.f131):=rfl
 have hfn:Tryz.cfg.fn 131=some Go.Proofs.Tryz.f131:=rfl
 obtain⟨hf1,_⟩:=hC.fn 131 _ hfn
 have hok:codeOk (Tryz.cfg.fc 131) (iD Go.Proofs.Tryz.f131)=true:=hC.body _ _ _ hfn hb
 rw [hsp] at hok
 obtain⟨yC,NN⟩:=sK hok
 obtain⟨_,Rl⟩:=br.1 (show cB (codeOk _ _) (codeOk _ (ny 3 lfB))=true from NN)
 unfold sH at h
 split at h
 ·rename_i A1 S1 hev
  split at h
  ·rename_i A2 S2 wu
   split at h
   ·rename_i cs Rm Ro
    split at h
    ·cases h
    ·rename_i e A3 S3 hne Jb
     obtain⟨vs,hvs,hlv,rfl⟩:=kF h
     refine⟨Ga hlv,l6 _,fun M w X hM hX=>?_⟩
     refine (callsIn_wide (n:=0)).1 (callsIn_of_wp_marks (F:=Fw none) hf1 hb trivial ?_)
     have hE0:cE (only M) St.empty bB { nt:=Go.Proofs.Tryz.f131.ntmps,tmps:=number 0 (bn V.strip args),locs:=[],fix:=[] } ⟨(⟨X⟩ : Array Value)++Array.replicate (Go.Proofs.Tryz.f131.ntmps - X.length) undef,[]⟩ w:=by
      refine⟨by simp;omega,fun t v ht=>?_,⟨(fun d cs hd=>by cases hd),(fun d d' B hd=>by cases hd)⟩,fun B hB=>?_,fun d hd=>(by cases hd),List.Pairwise.nil⟩
      ·obtain⟨x,h1,h2⟩:=kB (show au (only M) bB (bn V.strip args) X by rw [bH];exact hX) ht
       refine⟨x,?_,h2⟩
       have hlt:t < X.length:=(aGs h1).1
       rw [Array.getElem?_append_left (by simpa using hlt)]
       simpa using h1
      ·obtain⟨d,hd,_⟩:=hB;cases hd
     rw [hsp]
     refine pD hC hR _ yC (gN hM) hE0 hev (fun E' lc' a' w' hl hr=>?_)
     refine wpIn_seq (wpIn_region_list ?_)
     rw [show (⟨mK⟩ : Array Oper).toList=takeN 11 mK++[CM] from Rk]
     refine CL hC hR (ops:=⟨mK⟩) (ac:=fun _=>.any) (F:=Tryz.cfg.fc 131) _ 0 hr.cS hr.cq wu (fun E2 lc2 a2 w2 hd2 hr2=>?_)
     refine fT hgd ?_
     obtain⟨hp1,B,o,e25,hp3,_⟩:=aR hr2.cq.tmps (show operand A2 (.tmp 25)=some _ from Rm)
     have e23:a2.eval (.tmp 23)=.bool false:=aR hr2.cq.tmps (show operand A2 (.tmp 23)=some _ from Ro)
     obtain⟨_,y,hy,hy2⟩:=hp3
     obtain rfl:y=.bool false:=hy2
     obtain⟨hc1,hc2⟩:=hr2.cS.M B o _ hy
     have Rq:=hc2.2 _ rfl
     have hi:=hC.ti 4 _ (show Tryz.cfg.ti 4=some Tryz.ti4 from rfl)
     have eA:(Instr.storeAt 4 (.pointer (some ⟨B,o,none⟩)) (.bool false)).run PP w2=.ok () w2:=by
      have hst:(storeCells ⟨B,o,none⟩ [Value.bool false]).run PP w2=.ok () w2:=by
       have h1:(Go.store ⟨B,o,none⟩ (.bool false)).run PP w2=.ok () w2:=by
        rw [run_store PP w2 ⟨B,o,none⟩ (.bool false) _ rfl,hc1]
        simp only [Rq,AY hc1,Bool.false_eq_true,if_false]
       simp only [storeCells,Addr.add,if_true,Sem.run_bind,h1,Result.andThen_ok]
       rfl
      simp only [Instr.storeAt,Instr.sureAddr,Sem.run_bind,Sem.run_pure,Result.andThen_ok,storeVar,hi.dG,show (Value.bool false).cells.size=Tryz.ti4.size from rfl,ne_eq,not_true_eq_false,if_false]
      exact hst
     refine oY (w':=w2) (fun c hc=>by rw [ho] at hc;cases hc) (by unfold execOp;rw [ho];simp only [e25,e23,Sem.run_bind,eA];rfl) ?_
     rw [DS]
     refine (show _→wpListIn (Fw none) 0 PP ⟨mK⟩ _ [] (a2.put none undef) w2 from id) ?_
     have Lf:=hr.trans hr2
     have hg0:lu M w E2 w2:=lu.start rfl Lf
     have hmarks:∀d∈a2.defers,∃r,d.target=.collected r∧w.heap.size≤r:=fun d hd=>by
      rw [hd2] at hd
      rcases hl d hd with h | h
      ·cases h
      ·exact h
     refine nu (k:=k) hC hR none 131 _ Rl (.inl rfl) 0 Lf.cS Lf.cq Jb (fun E3 lc3 a3 w3 hl3 hr3=>?_)
     have Rr:=Lf.trans hr3
     have hg:lu M w E3 w3:=lu.start rfl Rr
     have AX:∀d∈a3.defers,∃r,d.target=.collected r∧w.heap.size≤r:=fun d hd=>by
      rcases hl3 d hd with hq | ⟨r,r1,r2⟩
      ·exact hmarks d hq
      ·exact⟨r,r1,Nat.le_trans hg0.size r2⟩
     have uC:=tX (n:=0) hg hr3.cS hr3.cq hM (fn:=Go.Proofs.Tryz.f131) AX hC hvs hlv
     cases e with
     | normal=>exact uC
     | ret=>exact uC
     | exit id=>exact (hne _ rfl).elim
    ·cases h
   ·cases h
  ·cases h
 ·cases h
end
section
variable {C:Cfg} {P:Program} {R:Run} {F:FC} {ac:Nat→Acc} {ops:Array Oper} {anc:Nat→List Nat} {ro:Option Nat} {n:Nat} {Q:Exit→Act→World→Prop} {S' : St}
 {J:Array Bool→Env→St→Act→World→Prop}
theorem CN (hl:mT C R) (hs:wm F ops.toList ac anc)
 (dN:∀(aQ:Array Bool) (i:Nat) (o:Oper) (A A1:Env) (S S1:St) (a:Act) (w:World),ops[i]?=some o→aQ.getD i true=false→aQ.size=ops.size→Clean F o A→J aQ A S a w→act C R F (ac i) ops.toList o A S=some (A1,S1)→
  ∀K:Act→World→Prop,(∀a' w',J (aQ.setIfInBounds i true) A1 S1 a' w'→K a' w')→
   if Region.wanted o (yielded ops a.tmps) then o.wpIn (Fw ro) n P a w K Q else (∀f,o.about P w a.eval=some f→(Fw ro).fn f)∧K (a.put o.dst undef) w):∀(fuel:Nat) (rem:List (Nat×Oper)) (aQ:Array Bool) {S:St} {A:Env} {a:Act} {w:World} {A' : Env},
 rem.length=fuel→rem.Pairwise (fun p q=>p.1 < q.1)→(∀p,p∈rem↔ops[p.1]?=some p.2∧aQ.getD p.1 true=false)→aQ.size=ops.size→
 (∀j,aQ.getD j false=true→∀k∈anc j,aQ.getD k false=true)→gX F rem A→J aQ A S a w→
 jy C R F ac ops.toList rem A S=some (A',S')→(∀gv a' w' B',Eqv A' B'→J gv B' S' a' w'→Q .normal a' w')→
 wpAnyIn (Fw ro) n P .any ops Q fuel aQ a w
 | 0,rem,aQ,S,A,a,w,A',hlen,_,dM,_,_,_,hJ,hev,hQ=>by
  obtain rfl:=List.length_eq_zero_iff.1 hlen
  refine⟨List.eq_nil_iff_forall_not_mem.2 fun i hi=>?_,?_⟩
  ·obtain⟨h1,o,h2,_⟩:=mem_ready.1 hi
   have:=(dM (i,o)).2 ⟨h2,h1⟩
   cases this
  ·unfold jy at hev
   cases hev
   exact hQ _ _ _ _ (Eqv.refl _) hJ
 | fuel + 1,rem,aQ,S,A,a,w,A',hlen,hpw,dM,hsz,hcl,kN,hJ,hev,hQ=>by
  have sr:∀(j:Nat) (o:Oper),ops[j]?=some o→¬aQ.getD j true=false→aQ.getD j false=true:=fun j o ho hn=>by
   have hj:j < aQ.size:=by rw [hsz];exact (aGa ho).1
   simp [hj] at hn ⊢;exact hn
  have hfa:jY F rem:=by
   refine List.Pairwise.imp_of_mem (R:=fun p q=>p.1 < q.1) (fun {p q} hp hq hlt=>?_) hpw
   exact hs.fresh p.1 q.1 p.2 q.2 hlt (by rw [Array.getElem?_toList];exact ((dM p).1 hp).1) (by rw [Array.getElem?_toList];exact ((dM q).1 hq).1)
  refine⟨fun hr=>?_,fun i hi=>?_⟩
  ·exfalso
   cases rem with
   | nil=>cases hlen
   | cons p rem=>
    obtain⟨h1,h2⟩:=(dM p).1 (aMs)
    have hin:p.1∈Region.ready .any ops aQ:=mem_ready.2 ⟨h2,p.2,h1,fun e he hb=>by
     have hlt:=hs.KX p.1 p.2 (by rw [Array.getElem?_toList];exact h1) e (by simpa using he) hb
     have hje:e.on < ops.size:=Nat.lt_trans hlt (aGa h1).1
     refine sr e.on _ (Array.getElem?_eq_getElem hje) fun hun=>?_
     have hme:=(dM (e.on,ops[e.on])).2 ⟨Array.getElem?_eq_getElem hje,hun⟩
     cases hme with
     | head=>exact absurd hlt (Nat.lt_irrefl _)
     | tail _ hme=>have:=(List.pairwise_cons.1 hpw).1 _ hme;simp only at this;omega⟩
    rw [hr] at hin
    cases hin
  ·obtain⟨hun,o,ho,bt⟩:=mem_ready.1 hi
   have him:=(dM (i,o)).2 ⟨ho,hun⟩
   obtain⟨pre,post,rfl⟩:=List.append_of_mem him
   have wo:=List.pairwise_append.1 hpw
   have hup:∀k∈anc i,aQ.getD k false=true:=fun k hk=>by
    obtain⟨e,he,hb,hor⟩:=hs.up i o (by rw [Array.getElem?_toList];exact ho) k hk
    have hle:=bt e (by simpa using he) hb
    rcases hor with rfl | hor
    ·exact hle
    ·exact hcl _ hle k hor
   have IF:∀p∈pre,qX ops.toList p.2 o (ac p.1) (ac i):=fun p hp=>by
    have hlt:p.1 < i:=wo.2.2 p hp _ (aMs)
    have hpm:=(dM p).1 (List.mem_append_left _ hp)
    rcases hs.pair p.1 i p.2 o hlt (by rw [Array.getElem?_toList];exact hpm.1) (by rw [Array.getElem?_toList];exact ho) with h | h
    ·exact (nR hpm.2 (hup _ h)).elim
    ·exact h
   obtain⟨A1,S1,B',k1,k2,k3⟩:=nQ hl pre IF kN hfa hev
   have su:gX F (pre++post) A1:=fun p hp=>by
    have hpm:p∈pre++(i,o)::post:=by
     rcases List.mem_append.1 hp with h | h
     ·exact List.mem_append_left _ h
     ·exact List.mem_append_right _ (aMt _ h)
    refine jd hl (kN _ him) (kN p hpm) ?_ k1
    rcases List.mem_append.1 hp with h | h
    ·exact fun d hd hd'=>(List.pairwise_append.1 hfa).2.2 p h _ (aMs) d hd' hd
    ·exact (List.pairwise_cons.1 (List.pairwise_append.1 hfa).2.1).1 p h
   have dt:∀a1 w1,J (aQ.setIfInBounds i true) A1 S1 a1 w1→wpAnyIn (Fw ro) n P .any ops Q fuel (aQ.setIfInBounds i true) a1 w1:=fun a1 w1 hJ1=>by
    refine CN hl hs dN fuel (pre++post) (aQ.setIfInBounds i true) ?_ ?_ ?_ ?_ ?_ su hJ1 k2 (fun gv a' w' B'' he hr=>hQ _ _ _ _ (k3.trans he) hr)
    ·simp only [aLa,aLc] at hlen ⊢;omega
    ·exact hpw.sublist (List.Sublist.append_left (List.sublist_cons_self _ _) _)
    ·intro p
     constructor
     ·intro hp
      have hpm:p∈pre++(i,o)::post:=by
       rcases List.mem_append.1 hp with h | h
       ·exact List.mem_append_left _ h
       ·exact List.mem_append_right _ (aMt _ h)
      have hne:i≠p.1:=by
       rcases List.mem_append.1 hp with h | h
       ·have:=wo.2.2 p h _ (aMs);simp only at this;omega
       ·have:=(List.pairwise_cons.1 wo.2.1).1 p h;simp only at this;omega
      obtain⟨q1,q2⟩:=(dM p).1 hpm
      exact⟨q1,by rw [getD_set_ne true hne];exact q2⟩
     ·rintro⟨q1,q2⟩
      have hne:i≠p.1:=fun e=>by
       rw [← e] at q2
       have hj:i < aQ.size:=by rw [hsz];exact (aGa ho).1
       simp [hj] at q2
      rw [getD_set_ne true hne] at q2
      have hpm:=(dM p).2 ⟨q1,q2⟩
      rcases List.mem_append.1 hpm with h | h
      ·exact List.mem_append_left _ h
      ·cases h with
       | head=>exact absurd rfl hne
       | tail _ h=>exact List.mem_append_right _ h
    ·rw [Array.size_setIfInBounds];exact hsz
    ·intro j hj k hk
     by_cases hij:i=j
     ·subst hij;exact getD_set_true (hup k hk)
     ·rw [getD_set_ne false hij] at hj;exact getD_set_true (hcl j hj k hk)
   unfold wpOpIn
   simp only [ho]
   exact dN aQ i o A A1 S S1 a w ho hun hsz (kN _ him) hJ k1 _ dt
theorem Eu (hm:P.follows .mixedOrders=true) (hl:mT C R) {id:Nat} {e:Ex} {A A1:Env} {S:St} {a:Act} {w:World} (hok:qj F id ops=true) (hsp:iu ops.toList=none)
 (dN:∀(aQ:Array Bool) (i:Nat) (o:Oper) (A A1:Env) (S S1:St) (a:Act) (w:World),ops[i]?=some o→aQ.getD i true=false→aQ.size=ops.size→Clean F o A→J aQ A S a w→act C R F (F.acc id i) ops.toList o A S=some (A1,S1)→
  ∀K:Act→World→Prop,(∀a' w',J (aQ.setIfInBounds i true) A1 S1 a' w'→K a' w')→
   if Region.wanted o (yielded ops a.tmps) then o.wpIn (Fw ro) n P a w K Q else (∀f,o.about P w a.eval=some f→(Fw ro).fn f)∧K (a.put o.dst undef) w)
 (hJ:J (Array.replicate ops.size false) { A with tmps:=dA F ops.toList A.tmps } S a { w with drawn:=w.drawn + 1 }) (h:fq C R F id ops true A S=some (e,A1,S'))
 (hQ:∀gv a' w' B',(∀t v,look t A1.tmps=some v→look t B'.tmps=some v)→J gv B' S' a' w'→Q .normal a' w') :
 e=.normal∧(Code.region id ops true).wpIn (Fw ro) n P Q a w:=by
 simp only [fq,yE,hsp] at h
 unfold after at h
 split at h
 ·rename_i A'' S'' hx
  cases h
  refine⟨rfl,?_⟩
  obtain⟨anc,hs⟩:=uz hok
  refine wpIn_region_any hm ?_
  refine CN hl hs dN ops.size (number 0 ops.toList) (Array.replicate ops.size false) ?_ (iN _ _) ?_ (by simp) ?_ ?_ hJ (sv C R F (F.acc id) ops.toList ops.toList 0 hx) ?_
  ·rw [kj];simp
  ·intro p
   rw [gY]
   simp only [Nat.zero_le,true_and,Nat.sub_zero,Array.getElem?_toList]
   constructor
   ·intro hp
    have hj:=(aGa hp).1
    exact⟨hp,by simp [hj]⟩
   ·exact fun hp=>hp.1
  ·intro j hj
   exfalso
   rcases Nat.lt_or_ge j ops.size with h | h
   ·simp [h] at hj
   ·simp [Nat.not_lt.2 h] at hj
  ·intro p hp d hd t u ht
   have hpm:=(gY.1 hp).2
   rw [Nat.sub_zero] at hpm
   exact (eM _ _ ht).2 p.2 (aMg hpm) d hd
  ·intro gv a' w' B' he hr
   exact hQ gv a' w' B' (fun t v ht=>by rw [← he.tmps];exact kz ht) hr
 ·cases h
theorem Lg (hC:CfgOk C P) (hR:cN C P R) {E:Rho} {S S1:St} {lc:b9} {A A1:Env} {a:Act} {w:World} (hS:bJ E S w) (hE:cE E S lc A a w) {ac:Acc} {o:Oper}
 (h:act C R F ac ops.toList o A S=some (A1,S1)) {K:Act→World→Prop}
 (hK:∀E' lc' a' w' x,a'=a.put o.dst x→Res E S lc A a' w E' S1 lc' A1 w'→K a' w') :
 if Region.wanted o (yielded ops a.tmps) then o.wpIn (Fw ro) n P a w K Q else (∀f,o.about P w a.eval=some f→(Fw ro).fn f)∧K (a.put o.dst undef) w:=by
 unfold act bI.one at h
 split at h
 ·rename_i hw
  rw [lI hE.tmps hw]
  simp only [if_true]
  unfold bI.back at h
  split at h
  ·rename_i v A' S' hx
   split at h
   ·rename_i A'' hp
    cases h
    exact rG hC hR hS hE hx (fun E' lc' w' cv hr hv=>hK _ _ _ _ _ rfl (nP hr hv hp))
   ·cases h
  ·cases h
 ·rename_i hw
  rw [lI hE.tmps hw]
  simp only [Bool.false_eq_true,if_false]
  refine⟨fun _ _=>trivial,?_⟩
  unfold bI.back at h
  simp only at h
  split at h
  ·rename_i A'' hp
   cases h
   exact hK _ _ _ _ _ rfl (nP (Res.refl hS hE) tO hp)
  ·cases h
 ·cases h
end
def km (E:Rho) (g:Nat):Nat→Nat→Option Value:=fun B o=>if B=g then none else E.M B o
section
variable {E:Rho} {l l' : b9} {g:Nat}
theorem eo:∀{cs:List V} {B o:Nat},wO cs=true→bE E l cs B o→∃j k z,E.M B j=some (.int k z)
 | .int k z::cs,B,o,_,h=>by
  obtain⟨⟨_,x,h1,h2⟩,_⟩:=h
  exact⟨o,k,z,by rw [h1];exact congrArg some h2⟩
 | [],B,o,h,_=>by cases h
 | .bool _::cs,B,o,h,hc=>eo (cs:=cs) h hc.2
 | .str _::cs,B,o,h,hc=>eo (cs:=cs) h hc.2
 | .nilp::cs,B,o,h,hc=>eo (cs:=cs) h hc.2
 | .ptr _ _::cs,B,o,h,hc=>eo (cs:=cs) h hc.2
 | .imm _ _::cs,B,o,h,hc=>eo (cs:=cs) h hc.2
 | .list _ _ _ _::cs,B,o,h,hc=>eo (cs:=cs) h hc.2
 | .slc _ _ _ _ _::cs,B,o,h,hc=>eo (cs:=cs) h hc.2
 | .nilf::cs,B,o,h,hc=>eo (cs:=cs) h hc.2
 | .fn _ _ _ _::cs,B,o,h,hc=>eo (cs:=cs) h hc.2
 | .yield _::cs,B,o,h,hc=>eo (cs:=cs) h hc.2
 | .nilm::cs,B,o,h,hc=>eo (cs:=cs) h hc.2
 | .map _::cs,B,o,h,hc=>eo (cs:=cs) h hc.2
 | .agg _::cs,B,o,h,hc=>eo (cs:=cs) h hc.2
 | .tuple _::cs,B,o,h,hc=>eo (cs:=cs) h hc.2
theorem zn (hg:∀j x,E.M g j=some x→∃s,x=.string s) {cs:List V} {B o:Nat} (h:wO cs=true) (hc:bE E l cs B o):B≠g:=fun e=>by
 subst e
 obtain⟨j,k,z,h1⟩:=eo h hc
 obtain⟨s,h2⟩:=hg j _ h1
 cases h2
theorem CO (hg:∀j x,E.M g j=some x→∃s,x=.string s):(v:V)→(niS v=true→∀x,a8 E l v x→a8 (only (km E g)) l' v x)∧(niA v=true→∀sz B o,qR E l sz v B o→B≠g∧qR (only (km E g)) l' sz v B o):=by
 refine V.rec (motive_1:=fun v=>(niS v=true→∀x,a8 E l v x→a8 (only (km E g)) l' v x)∧(niA v=true→∀sz B o,qR E l sz v B o→B≠g∧qR (only (km E g)) l' sz v B o))
  (motive_2:=fun vs=>(niL vs=true→∀B o,B≠g→bE E l vs B o→bE (only (km E g)) l' vs B o)∧(niR vs=true→∀sz B o,cW E l sz vs B o→cW (only (km E g)) l' sz vs B o))
  ?bool ?int ?str ?nilp ?ptr ?imm ?list ?slc ?nilf ?fn ?yield ?nilm ?map ?agg ?tuple ?nil ?cons
 case bool=>intro b;exact⟨fun _ x h=>h,fun h=>by simp [niA] at h⟩
 case int=>intro k m;exact⟨fun _ x h=>h,fun h=>by simp [niA] at h⟩
 case str=>intro s;exact⟨fun _ x h=>h,fun h=>by simp [niA] at h⟩
 case nilp=>exact⟨fun _ x h=>h,fun h=>by simp [niA] at h⟩
 case ptr=>intro b o;exact⟨fun h=>by simp [niS] at h,fun h=>by simp [niA] at h⟩
 case imm=>
  intro top cs ih
  refine⟨fun h x hx=>?_,fun h=>by simp [niA] at h⟩
  unfold niS at h
  obtain⟨h1,h2⟩:=Bool.and_eq_true_iff.1 h
  obtain⟨k1,B,o,rfl,k2⟩:=hx
  exact⟨k1,B,o,rfl,ih.1 h2 B o (zn hg h1 k2) k2⟩
 case list=>
  intro sz tok top rows ih
  refine⟨fun h x hx=>?_,fun h=>by simp [niA] at h⟩
  unfold niS at h
  obtain⟨h1,h2⟩:=Bool.and_eq_true_iff.1 h
  obtain⟨k1,k2,k3⟩:=hx
  refine⟨k1,?_,?_⟩
  ·cases tok with
   | own t=>cases h1
   | no=>trivial
   | tight=>exact k2
  ·rcases k3 with k3 | ⟨B,o,cap,k4,k5,k6⟩
   ·exact .inl k3
   ·exact .inr ⟨B,o,cap,k4,k5,ih.2 h2 sz B o k6⟩
 case slc=>intro b o s n c;exact⟨fun h=>by simp [niS] at h,fun h=>by simp [niA] at h⟩
 case nilf=>exact⟨fun h=>by simp [niS] at h,fun h=>by simp [niA] at h⟩
 case fn=>intro f t a b _ _;exact⟨fun h=>by simp [niS] at h,fun h=>by simp [niA] at h⟩
 case yield=>intro b;exact⟨fun h=>by simp [niS] at h,fun h=>by simp [niA] at h⟩
 case nilm=>exact⟨fun h=>by simp [niS] at h,fun h=>by simp [niA] at h⟩
 case map=>intro b;exact⟨fun h=>by simp [niS] at h,fun h=>by simp [niA] at h⟩
 case agg=>
  intro cs ih
  refine⟨fun h=>by simp [niS] at h,fun h sz B o hr=>?_⟩
  unfold niA at h
  obtain⟨h1,h2⟩:=Bool.and_eq_true_iff.1 h
  obtain⟨k1,k2⟩:=hr
  have hB:=zn hg h1 k2
  exact⟨hB,k1,ih.1 h2 B o hB k2⟩
 case tuple=>intro cs _;exact⟨fun h=>by simp [niS] at h,fun h=>by simp [niA] at h⟩
 case nil=>exact⟨fun _ _ _ _ _=>trivial,fun _ _ _ _ _=>trivial⟩
 case cons=>
  intro v vs ihv ihs
  refine⟨fun h B o hB hc=>?_,fun h sz B o hc=>?_⟩
  ·unfold niL at h
   obtain⟨h1,h2⟩:=Bool.and_eq_true_iff.1 h
   obtain⟨⟨k1,x,k2,k3⟩,k4⟩:=hc
   refine⟨⟨k1,x,?_,ihv.1 h1 x k3⟩,ihs.1 h2 B (o + 1) hB k4⟩
   show (if B=g then none else E.M B o)=some x
   rw [if_neg hB];exact k2
  ·unfold niR at h
   obtain⟨h1,h2⟩:=Bool.and_eq_true_iff.1 h
   exact⟨(ihv.2 h1 sz B o hc.1).2,ihs.2 h2 sz B (o + sz) hc.2⟩
end
def fV (n:Nat):V:=.list 0 .no 0 (List.replicate n (.agg []))
section
variable {E:Rho} {l:b9}
theorem w6:∀n:Nat,within (aM (List.replicate n (V.agg []))) 0
 | 0=>⟨0,rfl,Nat.le_refl _⟩
 | n + 1=>aY.2 ⟨⟨0,rfl,Nat.le_refl _⟩,w6 n⟩
theorem uQ:∀(n B o:Nat),cW E l 0 (List.replicate n (V.agg [])) B o
 | 0,_,_=>trivial
 | n + 1,B,o=>⟨⟨rfl,trivial⟩,uQ n B (o + 0)⟩
theorem w7 {B o n cap:Nat} (h:n≤cap):a8 E l (fV n) (.slice (some ⟨B,o,none⟩) n cap):=
 ⟨w6 n,trivial,.inr ⟨B,o,cap,by rw [List.length_replicate],by rw [List.length_replicate];exact h,uQ n B o⟩⟩
theorem HD {E' : Rho} {l' : b9} {sz top:Nat} {tok:Tok} {rows:List V} {x:Value} (h:a8 E' l' (.list sz tok top rows) x):a8 E l (fV rows.length) x:=by
 obtain⟨_,_,h3⟩:=h
 rcases h3 with⟨rfl,a,rfl⟩ | ⟨B,o,cap,rfl,h2,_⟩
 ·exact⟨⟨0,rfl,Nat.le_refl _⟩,trivial,.inl ⟨rfl,a,rfl⟩⟩
 ·exact w7 h2
end
end Go.Ev
namespace Go.Ev
open Go.RowKit Go.Sort Go.Proofs
noncomputable def jB:List Oper:=opsOf (wH (ny 7 ndB))
noncomputable def iO (R:Run) (m:Nat):Run
 | .f id,args,S=>bif Nat.beq id 112 then some (fV m,S) else R (.f id) args S
 | .y b,args,S=>R (.y b) args S
theorem Lh:∃(o0 o1:Oper) (c1:Call),ndB=uF ndC (.seq (.region 13 #[o0,o1] false) (.seq (.region 14 ⟨jB⟩ true) .ret))∧o0.op=.load 42 (.tmp 3)∧o0.dst=some 45∧o0.guard=none∧
 o1.op=.call c1∧c1.callee=.value (.func 111)∧c1.args = #[.tmp 45]∧o1.dst=some 46∧o1.guard=none:=
 ⟨_,_,_,rfl,rfl,rfl,rfl,rfl,rfl,rfl,rfl,rfl⟩
theorem Je:jB.length=17:=by kernel_rfl
theorem Rs:∃o,jB[0]?=some o∧o.op=.load 42 (.tmp 3)∧o.dst=some 47∧o.guard=none:=⟨_,rfl,rfl,rfl,rfl⟩
theorem Rt:∃o c,jB[1]?=some o∧o.op=.call c∧c.callee=.value (.func 112)∧c.args = #[.tmp 47]∧o.dst=some 48∧o.guard=none:=⟨_,_,rfl,rfl,rfl,rfl,rfl,rfl⟩
noncomputable def Jf (o:Oper):Bool:=(match o.dst with | some t=>tC (Nat.beq t 3) && tC (Nat.beq t 47) | none=>true) && tC (memN 3 (looks jB o)) && tC (memN 47 (looks jB o))
theorem NP:∀(i:Nat) (o:Oper),jB[i]?=some o→i≠0→i≠1→Jf o=true∧((Tryz.cfg.fc 54).acc 14 i).ok (.loc 3)=false:=fun i o h h0 h1=>by
 have hlt:i < 17:=by rw [← Je];exact (aGs h).1
 match i,hlt,h with
 | 0,_,_=>exact absurd rfl h0
 | 1,_,_=>exact absurd rfl h1
 | 2,_,h=>cases h;exact⟨by kernel_rfl,by kernel_rfl⟩
 | 3,_,h=>cases h;exact⟨by kernel_rfl,by kernel_rfl⟩
 | 4,_,h=>cases h;exact⟨by kernel_rfl,by kernel_rfl⟩
 | 5,_,h=>cases h;exact⟨by kernel_rfl,by kernel_rfl⟩
 | 6,_,h=>cases h;exact⟨by kernel_rfl,by kernel_rfl⟩
 | 7,_,h=>cases h;exact⟨by kernel_rfl,by kernel_rfl⟩
 | 8,_,h=>cases h;exact⟨by kernel_rfl,by kernel_rfl⟩
 | 9,_,h=>cases h;exact⟨by kernel_rfl,by kernel_rfl⟩
 | 10,_,h=>cases h;exact⟨by kernel_rfl,by kernel_rfl⟩
 | 11,_,h=>cases h;exact⟨by kernel_rfl,by kernel_rfl⟩
 | 12,_,h=>cases h;exact⟨by kernel_rfl,by kernel_rfl⟩
 | 13,_,h=>cases h;exact⟨by kernel_rfl,by kernel_rfl⟩
 | 14,_,h=>cases h;exact⟨by kernel_rfl,by kernel_rfl⟩
 | 15,_,h=>cases h;exact⟨by kernel_rfl,by kernel_rfl⟩
 | 16,_,h=>cases h;exact⟨by kernel_rfl,by kernel_rfl⟩
theorem Li (R:Run) (m:Nat) (A:Env) (S:St):∀(i:Nat) (o:Oper),jB[i]?=some o→i≠1→act Tryz.cfg (iO R m) (Tryz.cfg.fc 54) ((Tryz.cfg.fc 54).acc 14 i) jB o A S=act Tryz.cfg R (Tryz.cfg.fc 54) ((Tryz.cfg.fc 54).acc 14 i) jB o A S:=fun i o h h1=>by
 have hlt:i < 17:=by rw [← Je];exact (aGs h).1
 match i,hlt,h with
 | 1,_,_=>exact absurd rfl h1
 | 0,_,h=>cases h;exact (show _=_ by kernel_rfl)
 | 2,_,h=>cases h;exact (show _=_ by kernel_rfl)
 | 3,_,h=>cases h;exact (show _=_ by kernel_rfl)
 | 4,_,h=>cases h;exact (show _=_ by kernel_rfl)
 | 5,_,h=>cases h;exact (show _=_ by kernel_rfl)
 | 6,_,h=>cases h;exact (show _=_ by kernel_rfl)
 | 7,_,h=>cases h;exact (show _=_ by kernel_rfl)
 | 8,_,h=>cases h;exact (show _=_ by kernel_rfl)
 | 9,_,h=>cases h;exact (show _=_ by kernel_rfl)
 | 10,_,h=>cases h;exact (show _=_ by kernel_rfl)
 | 11,_,h=>cases h;exact (show _=_ by kernel_rfl)
 | 12,_,h=>cases h;exact (show _=_ by kernel_rfl)
 | 13,_,h=>cases h;exact (show _=_ by kernel_rfl)
 | 14,_,h=>cases h;exact (show _=_ by kernel_rfl)
 | 15,_,h=>cases h;exact (show _=_ by kernel_rfl)
 | 16,_,h=>cases h;exact (show _=_ by kernel_rfl)
theorem HE {R:Run} {P:Program} {C:Cfg} {m:Nat} (h:cN C P R):mT C (iO R m) where
 pure f args S v S' h1 h2 h3:=by
  unfold iO at h3
  cases hb:Nat.beq f 112 with
  | true=>simp only [hb,cond_true] at h3;cases h3;exact⟨trivial,⟨0,rfl,Nat.le_refl _⟩,trivial⟩
  | false=>simp only [hb,cond_false] at h3;exact h.lv.pure f args S v S' h1 h2 h3
 call f args S v S' h1 h3:=by
  unfold iO at h3
  cases hb:Nat.beq f 112 with
  | true=>simp only [hb,cond_true] at h3;cases h3;exact⟨rfl,trivial⟩
  | false=>simp only [hb,cond_false] at h3;exact h.lv.call f args S v S' h1 h3
 yield b args S v S' h3:=h.lv.yield b args S v S' h3
section
variable {M:Nat→Nat→Option Value} {E E' : Rho} {S S' : St} {lc:b9} {A A1 B:Env} {a:Act} {w w' w0:World} {R:Run} {n:Nat} {Q:Exit→Act→World→Prop}
theorem bJ.only (h:bJ E S w) {B:Nat} (hB:¬FP E S B) (hM:∀o,E.M B o=none) (ho:sD w w' B):bJ E S w':=by
 have hne:∀k,FP E S k→k≠B:=fun k hf e=>hB (e▸hf)
 refine⟨h.len,?_,h.nodup,h.nL,?_,h.na,h.tρ,?_,h.Mρ,h.Mτ,h.ll,h.jU⟩
 ·intro b C' k hb hk'
  have hlt:b < E.ρ.length:=(aGs hb).1
  exact (h.blk b C' k hb hk').mono (fu.refl E) hlt (ho.keep C' (h.lt hb) (hne C' (.inl (aMg hb)))) (fun r hr j ⟨d,hd,hj⟩=>ho.keep j (h.jv (hr▸hk') hd hj) (hne j (.inr (.inr ⟨b,r,d,hr▸hk',hd,hj⟩))))
 ·intro t o ht
  obtain⟨h1,h2,h3,h4,cur,e,h5,h6⟩:=h.tok t o ht
  exact⟨h1,h2,h3,h4,cur,e,by rw [ho.keep _ (h.lU ht) (hne o.g (.inr (.inl ⟨o,aMg ht,rfl⟩)))];exact h5,h6⟩
 ·intro C' o x hx
  have:=h.M C' o x hx
  have BS : C'≠B:=fun e=>by subst e;rw [hM o] at hx;cases hx
  exact Kn.keep (ho.keep C' (dh this.1) BS) this
theorem cE.only (h:cE E S lc A a w) {B:Nat} {cur:Array Value} {e:TypeId} (hb:w.heap[B]?=some (.cells cur e (0,0))) (hL:¬LP lc A.locs B) (ho:sD w w' B):cE E S lc A a w':=by
 refine⟨h.nt,h.tmps,h.locs.mono (fu.refl E) (fun k hk'=>ho.keep k (h.apart k hk').2.2 fun e=>hL (e▸hk')),fun B' hB'=>?_,fun d hd=>?_,h.kY⟩
 ·obtain⟨h1,h2,h3⟩:=h.apart B' hB'
  exact⟨h1,h2,Nat.lt_of_lt_of_le h3 ho.size⟩
 ·obtain⟨r,h1,h2,h3⟩:=h.marks d hd
  exact⟨r,h1,by rw [ho.keep r (aGa h2).1 (fun e=>by rw [e,hb] at h2;cases h2)];exact h2,h3⟩
structure NJ (M:Nat→Nat→Option Value) (w0:World) (g Bl e0 ty cap:Nat) (zs:List (List UInt8)) (E:Rho) (lc:b9) (B:Env) (aQ:Array Bool) (A:Env) (S:St) (a:Act) (w:World):Prop where
 nt:A.nt=B.nt
 fix:A.fix=B.fix
 tmps:∀t,t≠3→t≠47→look t A.tmps=look t B.tmps
 b3:look 3 B.tmps=none
 b47:look 47 B.tmps=none
 locs:∀d,d≠3→look d A.locs=look d B.locs
 cS:bJ E S w
 cq:cE E S lc B a w
 eh:lu M w0 E w
 new:∀k,FL E S lc B k→w0.heap.size≤k
 marks:∀d∈a.defers,∃r,d.target=.collected r∧w0.heap.size≤r
 gF:¬FL E S lc B g
 bF:¬FL E S lc B Bl
 gM:∀o,E.M g o=none
 gw:w0.heap.size≤g
 bne:Bl≠g
 box:w.heap[Bl]?=some (.cells #[.slice (some ⟨g,0,none⟩) zs.length cap] ty (0,0))
 row:∃cur,w.heap[g]?=some (.cells cur e0 (0,0))∧zs.length≤cur.size∧(aQ.getD 1 true=false→∀(j:Nat) (s:List UInt8),zs[j]?=some s→cur[j]?=some (encStr s))
 t3:a.tmps[3]?=some (.pointer (some ⟨Bl,0,none⟩))
 t47:∀u,look 47 A.tmps=some u→a.tmps[47]?=some (.slice (some ⟨g,0,none⟩) zs.length cap)
 sz:62 < a.tmps.size
theorem w8 {l:Array Bool} {i j:Nat} (h:(l.setIfInBounds i true).getD j true=false):l.getD j true=false:=by
 by_cases hij:i=j
 ·subst hij
  rcases Nat.lt_or_ge i l.size with hj | hj
  ·simp [hj] at h
  ·simp [Nat.not_lt.2 hj] at h
 ·rwa [getD_set_ne true hij] at h
theorem HF {l:Array Bool} {i:Nat} (h:(l.setIfInBounds i true).getD i true=false):False:=by
 rcases Nat.lt_or_ge i l.size with hj | hj
 ·simp [hj] at h
 ·simp [Nat.not_lt.2 hj] at h
theorem Gc {a:Act} {d:Option Nat} {x:Value} {t:Nat} (h:d≠some t):(a.put d x).tmps[t]?=a.tmps[t]?:=by
 cases d with
 | none=>rfl
 | some d=>exact jg (fun e=>h (by rw [e])) x
theorem CP {a b:Nat} (h:tC (Nat.beq a b)=true):a≠b:=fun e=>by
 subst e
 rw [ku] at h
 cases h
theorem Jg {aQ:Array Bool} {i:Nat} {o:Oper} {g Bl e0 ty cap:Nat} {zs:List (List UInt8)} {B1:Env} {S1:St} {lc' : b9} {a' : Act} {x:Value}
 (h:NJ M w0 g Bl e0 ty cap zs E lc B aQ A S a w) (vn:Jf o=true) (hi:i≠1) (hA:∀t,o.dst≠some t→look t A1.tmps=look t A.tmps) (hB:∀t,o.dst≠some t→look t B1.tmps=look t B.tmps)
 (hAB:∀t,o.dst=some t→look t A1.tmps=look t B1.tmps) (hnt:A1.nt=B1.nt) (It:A1.fix=B1.fix) (hl:∀d,d≠3→look d A1.locs=look d B1.locs) (ha:a'=a.put o.dst x) (hr:Res E S lc B a' w E' S1 lc' B1 w') :
 NJ M w0 g Bl e0 ty cap zs E' lc' B1 (aQ.setIfInBounds i true) A1 S1 a' w':=by
 have hd3:o.dst≠some 3:=fun e=>by
  unfold Jf at vn
  simp only [e,Bool.and_eq_true] at vn
  exact CP vn.1.1.1 rfl
 have NQ:o.dst≠some 47:=fun e=>by
  unfold Jf at vn
  simp only [e,Bool.and_eq_true] at vn
  exact CP vn.1.1.2 rfl
 obtain⟨cur,c1,c2,c3⟩:=h.row
 have Rv:g < w.heap.size:=(aGa c1).1
 have BT:Bl < w.heap.size:=(aGa h.box).1
 have hgF:¬FL E' S1 lc' B1 g:=fun hf=>by
  rcases hr.step.grow g hf with hq | hq
  ·exact h.gF hq
  ·omega
 have hbF:¬FL E' S1 lc' B1 Bl:=fun hf=>by
  rcases hr.step.grow Bl hf with hq | hq
  ·exact h.bF hq
  ·omega
 refine⟨hnt,It,fun t h3 h47=>?_,by rw [hB 3 hd3];exact h.b3,by rw [hB 47 NQ];exact h.b47,hl,hr.cS,hr.cq,?_,fun k hk=>?_,?_,hgF,hbF,fun o=>?_,h.gw,h.bne,?_,?_,?_,fun u hu=>?_,?_⟩
 ·by_cases hd:o.dst=some t
  ·exact hAB t hd
  ·rw [hA t hd,hB t hd];exact h.tmps t h3 h47
 ·refine⟨hr.step.os.trans h.eh.os,hr.step.tape.trans h.eh.tape,hr.step.output.trans h.eh.output,Nat.le_trans h.eh.size hr.step.size,fun j hj=>?_,fun B o x hx=>?_⟩
  ·exact (hr.step.keep j (Nat.lt_of_lt_of_le hj h.eh.size) (fun hf=>by have:=h.new j hf;omega)).trans (h.eh.keep j hj)
  ·rcases hr.step.oP B o x hx with hq | hq | hq
   ·exact h.eh.mem B o x hq
   ·exact .inr (h.new B hq)
   ·exact .inr (Nat.le_trans h.eh.size hq)
 ·rcases hr.step.grow k hk with hq | hq
  ·exact h.new k hq
  ·exact Nat.le_trans h.eh.size hq
 ·rw [ha,put_defers];exact h.marks
 ·cases hq:E'.M g o with
  | none=>rfl
  | some y=>
   rcases hr.step.oP g o y hq with h1 | h1 | h1
   ·rw [h.gM o] at h1;cases h1
   ·exact absurd h1 h.gF
   ·omega
 ·rw [hr.step.keep Bl BT h.bF];exact h.box
 ·exact⟨cur,by rw [hr.step.keep g Rv h.gF];exact c1,c2,fun hq=>c3 (w8 hq)⟩
 ·rw [ha,Gc hd3];exact h.t3
 ·rw [ha,Gc NQ]
  rw [hA 47 NQ] at hu
  exact h.t47 u hu
 ·rw [ha,iJ];exact h.sz
end
end Go.Ev
namespace Go.Ev
open Go.RowKit Go.Sort Go.Proofs
set_option maxRecDepth 100000
section
variable {M:Nat→Nat→Option Value} {E E' : Rho} {S S1 S' : St} {lc:b9} {A A1 B:Env} {a:Act} {w w' w0:World} {R:Run} {k n m:Nat} {Q:Exit→Act→World→Prop}
theorem Ew {o:Oper} {c:Call} {F:FC} {ac:Acc} {ops:List Oper} (ho:o.op=.call c) (hf:c.callee=.value (.func 112)) (hd:o.dst=some 48) (hg:o.guard=none) (h:act Tryz.cfg (iO R m) F ac ops o A S=some (A1,S1)) :
 S1=S∧put A (some 48) (fV m)=some A1∧∃args,operands A c.args.toList=some args:=by
 have hw:kX ops A o=some true:=by unfold kX;rw [hg]
 unfold act bI.one bI.back at h
 rw [hw] at h
 simp only at h
 split at h
 ·rename_i v A' S' hx
  unfold exec at hx
  rw [ho] at hx
  replace hx:iC Tryz.cfg (iO R m) A S ac c=some (v,A',S'):=hx
  unfold iC at hx
  split at hx
  ·cases hx
  ·rename_i args eZ
   rw [hf] at hx
   have key:∀l S'',iO R m (.f 112) l S''=some (fV m,S''):=fun _ _=>rfl
   have jz:v=fV m∧A'=A∧S'=S:=by
    cases hk:ac.heap with
    | false=>
     rw [hk] at hx
     simp only [cond_false] at hx
     unfold tB at hx
     split at hx
     ·rename_i f top fs cs hfn
      cases hfn
      obtain⟨_,hx⟩:=aI hx
      rw [key] at hx
      cases hx
      exact⟨rfl,rfl,rfl⟩
     ·cases hx
    | true=>
     rw [hk] at hx
     simp only [cond_true] at hx
     replace hx:eR Tryz.cfg (iO R m) A S ac 112 (cz [] (cz args []))=some (v,A',S'):=hx
     have hat:∀{l:List V},eR.iQ (iO R m) A S 112 l=some (v,A',S')→v=fV m∧A'=A∧S'=S:=fun {l} h=>by
      unfold eR.iQ at h
      split at h
      ·rw [key] at h
       cases h
       exact⟨rfl,rfl,rfl⟩
      ·cases h
     unfold eR at hx
     cases hc:((Tryz.cfg.fc 112).pure && !allB V.pure (cz [] (cz args []))) with
     | false=>rw [hc] at hx;exact hat hx
     | true=>
      rw [hc] at hx
      simp only [cond_true] at hx
      split at hx
      ·rename_i l hl
       cases hp:allB V.pure l with
       | false=>rw [hp] at hx;exact hat hx
       | true=>
        rw [hp,key] at hx
        simp only [cond_true] at hx
        split at hx
        ·cases hx;exact⟨rfl,rfl,rfl⟩
        ·cases hx
      ·cases hx
   obtain⟨rfl,rfl,rfl⟩:=jz
   split at h
   ·rename_i A'' hp
    cases h
    rw [hd] at hp
    exact⟨rfl,hp,args,eZ⟩
   ·cases h
 ·cases h
theorem Lj (hC:CfgOk Tryz.cfg PP) (hR:cN Tryz.cfg PP R) {g Bl e0 ty cap:Nat} {zs:List (List UInt8)} (lk:zs.length≤cap) (hlen:zs.length < 4611686018427387904)
 (aQ:Array Bool) (i:Nat) (o:Oper) (A A1:Env) (S S1:St) (a:Act) (w:World) (ho:(⟨jB⟩ : Array Oper)[i]?=some o) (hun:aQ.getD i true=false) (hls:aQ.size=(⟨jB⟩ : Array Oper).size) (hcl:Clean (Tryz.cfg.fc 54) o A)
 (hJ:∃E lc B,NJ M w0 g Bl e0 ty cap zs E lc B aQ A S a w) (Jh:act Tryz.cfg (iO R (Lib.compact zs).length) (Tryz.cfg.fc 54) ((Tryz.cfg.fc 54).acc 14 i) (⟨jB⟩ : Array Oper).toList o A S=some (A1,S1))
 (K:Act→World→Prop) (hK:∀a' w',(∃E lc B,NJ M w0 g Bl e0 ty cap zs E lc B (aQ.setIfInBounds i true) A1 S1 a' w')→K a' w') :
 if Region.wanted o (yielded (⟨jB⟩ : Array Oper) a.tmps) then o.wpIn (Fw none) n PP a w K Q else (∀f,o.about PP w a.eval=some f→(Fw none).fn f)∧K (a.put o.dst undef) w:=by
 obtain⟨E,lc,B,h⟩:=hJ
 have ho' : jB[i]?=some o:=by simpa using ho
 have nd:∀{op:Op},o.op=op→(∀c,op≠.defer c)→∀c,o.op≠.defer c:=fun h1 h2 c h3=>h2 c (h1▸h3)
 obtain⟨cur,c1,c2,c3⟩:=h.row
 have hsz:=h.sz
 by_cases h0:i=0
 ·
  subst h0
  obtain⟨o',e1,e2,e3,e4⟩:=Rs
  rw [ho'] at e1
  cases e1
  have hw:Region.wanted o (yielded (⟨jB⟩ : Array Oper) a.tmps)=true:=by unfold Region.wanted;rw [e4]
  rw [hw]
  simp only [if_true]
  obtain⟨v,B1,T1,k1,k2,_,_⟩:=jX (B:=A) (T:=S) hcl hcl ⟨rfl,rfl,fun _ _=>rfl,fun _=>rfl⟩ (fun _ _=>rfl) Jh
  obtain⟨l1,l2⟩:=k2.load (by unfold dI;rw [e2])
  have hi:=hC.ti 42 _ F5
  have e3' : a.eval (.tmp 3)=.pointer (some ⟨Bl,0,none⟩):=by
   show a.tmps.getD 3 undef=_
   rw [Array.getD_eq_getD_getElem?,h.t3];rfl
  have qW:w.cell? ⟨Bl,0,none⟩=some (.slice (some ⟨g,0,none⟩) zs.length cap):=by
   simp [World.cell?,h.box]
  have eA:(Instr.loadAt 42 (a.eval (.tmp 3))).run PP w=.ok (.slice (some ⟨g,0,none⟩) zs.length cap) w:=by
   rw [e3']
   simp only [Instr.loadAt,Instr.sureAddr,Sem.run_bind,Sem.run_pure,Result.andThen_ok,loadVar,hi.nN]
   simp [TI.isAgg,qW]
  refine lp (nd e2 (fun c hh=>by cases hh)) (s:=Instr.loadAt _ _) (by unfold execOp;rw [e2]) eA ?_
  rw [e3]
  refine hK _ _ ⟨E,lc,B,⟨k2.nt.trans h.nt,k2.fix.trans h.fix,fun t h3 h47=>?_,h.b3,h.b47,fun d hd=>by rw [l1];exact h.locs d hd,l2▸h.cS,l2▸(np (Res.refl h.cS h.cq) h.b47 _).cq,h.eh,l2▸h.new,h.marks,l2▸h.gF,l2▸h.bF,h.gM,h.gw,h.bne,h.box,⟨cur,c1,c2,fun hq=>c3 (w8 hq)⟩,?_,fun u _=>?_,?_⟩⟩
  ·rw [k2.off t (by rw [e3];exact fun e=>h47 (by cases e;rfl))];exact h.tmps t h3 h47
  ·rw [jg (by decide)];exact h.t3
  ·show (a.tmps.setIfInBounds 47 _)[47]?=_
   rw [Array.getElem?_setIfInBounds_self_of_lt (by omega)]
  ·rw [iJ];exact hsz
 by_cases h1:i=1
 ·
  subst h1
  obtain⟨o',c,e1,e2,ef,ea,e3,e4⟩:=Rt
  rw [ho'] at e1
  cases e1
  have hw:Region.wanted o (yielded (⟨jB⟩ : Array Oper) a.tmps)=true:=by unfold Region.wanted;rw [e4]
  rw [hw]
  simp only [if_true]
  obtain⟨rfl,hp,args,eZ⟩:=Ew e2 ef e3 e4 Jh
  have hu:∃u,look 47 A.tmps=some u:=by
   rw [ea] at eZ
   cases hq:look 47 A.tmps with
   | some u=>exact⟨u,rfl⟩
   | none=>
    have h2:bO (operand A) [Operand.tmp 47]=some args:=eZ
    rw [bT] at h2
    obtain⟨y,m',h3,_,_⟩:=cX h2
    rw [show operand A (.tmp 47)=look 47 A.tmps from rfl,hq] at h3
    cases h3
  obtain⟨u,hu⟩:=hu
  have Pt:=h.t47 u hu
  have e47:a.eval (.tmp 47)=.slice (some ⟨g,0,none⟩) zs.length cap:=by
   show a.tmps.getD 47 undef=_
   rw [Array.getD_eq_getD_getElem?,Pt];rfl
  have NR:c.args.toList.map a.eval=[.slice (some ⟨g,0,none⟩) zs.length cap]:=by rw [ea];simp [e47]
  refine wE (nd e2 (fun c hh=>by cases hh)) (wF e2 ef Eh) (by rw [NR];exact Eg cap c1 (c3 hun) c2 lk hlen) ?_
  rintro e' w2 ⟨rfl,hO,NS,q1,q2,q3⟩
  refine⟨_,rfl,?_⟩
  rw [e3]
  have hS2:=h.cS.only (fun hf=>h.gF (.inl hf)) h.gM hO
  have hE2:=h.cq.only c1 (fun hf=>h.gF (.inr hf)) hO
  have TN:=wC zs
  have hpB:put B (some 48) (fV (Lib.compact zs).length)=some (B.set 48 (fV (Lib.compact zs).length)):=by
   have hp1:=(aI (show (bif Nat.blt 48 A.nt then some (A.set 48 (fV (Lib.compact zs).length)) else none)=some A1 from hp)).1
   show (bif Nat.blt 48 B.nt then some (B.set 48 (fV (Lib.compact zs).length)) else none)=_
   rw [← h.nt,hp1];rfl
  have hA1:A1=A.set 48 (fV (Lib.compact zs).length):=by
   unfold put at hp
   obtain⟨_,hp2⟩:=aI hp
   cases hp2;rfl
  subst hA1
  obtain⟨p1,_,_⟩:=FU hE2 (w7 (E:=E) (l:=lc) (B:=g) (o:=0) (show (Lib.compact zs).length≤cap by omega)) hpB
  refine hK _ _ ⟨E,lc,B.set 48 (fV (Lib.compact zs).length),⟨h.nt,h.fix,fun t h3 h47=>?_,?_,?_,h.locs,hS2,p1,?_,h.new,h.marks,h.gF,h.bF,h.gM,h.gw,h.bne,?_,⟨NS,q1,by rw [q2];exact c2,fun hq=>(HF hq).elim⟩,?_,fun u' hu'=>?_,?_⟩⟩
  ·show look t ((48,_)::A.tmps)=look t ((48,_)::B.tmps)
   by_cases ht:t=48
   ·subst ht;rw [bG,bG]
   ·rw [aX ht,aX ht];exact h.tmps t h3 h47
  ·show look 3 ((48,_)::B.tmps)=none
   rw [aX (by decide)];exact h.b3
  ·show look 47 ((48,_)::B.tmps)=none
   rw [aX (by decide)];exact h.b47
  ·exact⟨hO.os.trans h.eh.os,hO.tape.trans h.eh.tape,hO.output.trans h.eh.output,Nat.le_trans h.eh.size hO.size,fun k hk=>(hO.keep k (Nat.lt_of_lt_of_le hk h.eh.size) (by have:=h.gw;omega)).trans (h.eh.keep k hk),h.eh.mem⟩
  ·rw [hO.keep Bl (aGa h.box).1 h.bne];exact h.box
  ·rw [jg (by decide)];exact h.t3
  ·rw [jg (by decide)];exact Pt
  ·rw [iJ];exact hsz
 ·
  obtain⟨vn,hac⟩:=NP i o ho' h0 h1
  have Pu : act Tryz.cfg R (Tryz.cfg.fc 54) ((Tryz.cfg.fc 54).acc 14 i) jB o A S=some (A1,S1):=by rw [← Li R _ A S i o ho' h1];exact Jh
  have hl3:3∉looks jB o∧47∉looks jB o:=by
   unfold Jf at vn
   simp only [Bool.and_eq_true] at vn
   exact⟨fun hm=>(by have:=vn.1.2;rw [memN_iff.2 hm] at this;cases this),fun hm=>(by have:=vn.2;rw [memN_iff.2 hm] at this;cases this)⟩
  have Rw:Clean (Tryz.cfg.fc 54) o B:=fun d hd t u ht=>by
   by_cases h3:t=3
   ·subst h3;rw [h.b3] at ht;cases ht
   by_cases h47:t=47
   ·subst h47;rw [h.b47] at ht;cases ht
   exact hcl d hd t u (by rw [h.tmps t h3 h47];exact ht)
  obtain⟨v,B1,T1,k1,k2,k3,k4⟩:=jX (B:=B) (T:=S) hcl Rw ⟨h.nt,h.fix,fun d hd=>h.locs d (fun e=>by subst e;rw [hac] at hd;cases hd),fun _=>rfl⟩ (fun t ht=>h.tmps t (fun e=>hl3.1 (e▸ht)) (fun e=>hl3.2 (e▸ht))) Pu
  have hT:T1=S1:=by
   cases hh:((Tryz.cfg.fc 54).acc 14 i).heap with
   | true=>exact (k4.heap hh).symm
   | false=>exact (k3.heap hh).trans (k2.heap hh).symm
  subst hT
  refine Lg (ops:=⟨jB⟩) hC hR h.cS h.cq k1 (fun E' lc' a' w' x ha hr=>hK _ _ ⟨E',lc',B1,?_⟩)
  refine Jg h vn h1 k2.off k3.off (fun t ht=>by rw [k2.at_ t ht,k3.at_ t ht]) k4.nt k4.fix (fun d hd=>?_) ha hr
  cases hh:((Tryz.cfg.fc 54).acc 14 i).ok (.loc d) with
  | true=>exact k4.locs d hh
  | false=>rw [k2.locs d hh,k3.locs d hh];exact h.locs d hd
end
section
variable {M:Nat→Nat→Option Value} {E E' : Rho} {S S1 S' : St} {lc:b9} {A A1 B:Env} {a:Act} {w w' w0:World} {R:Run} {k n m:Nat} {Q:Exit→Act→World→Prop}
theorem Pv {cells:List V} {iv:V} (h:nth cells 14=some iv):∃c0 c1 c2 c3 c4 c5 c6 c7 c8 c9 c10 c11 c12 c13 rest,cells=c0::c1::c2::c3::c4::c5::c6::c7::c8::c9::c10::c11::c12::c13::iv::rest:=by
 rw [bS] at h
 obtain⟨h1,h2⟩:=aGs h
 match cells,h1,h2 with
 | c0::c1::c2::c3::c4::c5::c6::c7::c8::c9::c10::c11::c12::c13::c14::rest,_,h2=>
  exact⟨c0,c1,c2,c3,c4,c5,c6,c7,c8,c9,c10,c11,c12,c13,rest,by rw [← h2];rfl⟩
@[reducible] noncomputable def nd0 (cells:List V) (n b:Nat):Env:={ nt:=63,tmps:=[(0,.imm 0 cells),(3,.ptr (.loc 3) 0),(4,fV b)],locs:=[(3,[fV n])],fix:=[] }
theorem Lk {cells:List V} {sz top b:Nat} {tok:Tok} {rows:List V} {mm:Int} (HG:R (.f 113) [.imm 0 cells] St.empty=some (.int .i64 mm,St.empty)) (hc:nth cells 14=some (.list sz tok top rows)) :
 ∃e A1,fq Tryz.cfg (iO R m) (Tryz.cfg.fc 54) 14 ⟨jB⟩ true (nd0 cells n b) St.empty=some (e,A1,St.empty)∧look 2 A1.tmps=some (.bool (iEq (.ofNat m) (eH .i64 (eH .i64 (.ofNat (aH rows + b)) + mm)))):=by
 obtain⟨c0,c1,c2,c3,c4,c5,c6,c7,c8,c9,c10,c11,c12,c13,rest,rfl⟩:=Pv hc
 generalize hcs:(c0::c1::c2::c3::c4::c5::c6::c7::c8::c9::c10::c11::c12::c13::V.list sz tok top rows::rest)=cs at HG
 have h:er Tryz.cfg (iO R m) (Tryz.cfg.fc 54) 0 54 63 [] (wH (ny 7 ndB)) (nd0 cs n b) St.empty (fun _ A S=>S=St.empty∧look 2 A.tmps=some (.bool (iEq (.ofNat m) (eH .i64 (eH .i64 (.ofNat (aH rows + b)) + mm))))):=by
  subst hcs
  refine ae.mk (fV m) St.empty rfl ?_
  refine ab.mk (.int .i64 (eH .i64 (.ofNat (aH rows) + .ofNat (aH (List.replicate b (V.agg [])))))) rfl ?_
  refine ae.mk (.int .i64 mm) St.empty HG ?_
  refine ab.mk (.int .i64 (eH .i64 (eH .i64 (.ofNat (aH rows) + .ofNat (aH (List.replicate b (V.agg [])))) + mm))) rfl ?_
  have hb:aH (List.replicate b (V.agg []))=b:=by rw [aq,List.length_replicate]
  have hm:aH (List.replicate m (V.agg []))=m:=by rw [aq,List.length_replicate]
  refine ah.mk (fun c=>?_) (fun c=>?_)
  ·refine⟨rfl,?_⟩
   rw [hb,hm] at c
   rw [show Int.ofNat (aH rows + b)=.ofNat (aH rows) + .ofNat b from rfl,c]
   rfl
  ·refine⟨rfl,?_⟩
   rw [hb,hm] at c
   rw [show Int.ofNat (aH rows + b)=.ofNat (aH rows) + .ofNat b from rfl,c]
   rfl
 obtain⟨e,A1,S1,h1,rfl,h3⟩:=cM _ _ _ _ h
 exact⟨e,A1,h1,h3⟩
theorem Ge:qj (Tryz.cfg.fc 54) 14 ⟨jB⟩=true∧iu jB=none:=⟨by kernel_rfl,by kernel_rfl⟩
theorem CQ (ts:List (Nat×V)):dA (Tryz.cfg.fc 54) jB ts=ts:=by kernel_rfl
theorem CR {S:St} {lv:V} {n:Nat} (h:qs S lv=some n):∃sz t top ss,lv=.list sz (.own t) top (ss.map bQ)∧ss≠[]∧nth S.aA t=some ss.length∧ss.length < 4611686018427387904∧n=aH (uJ ss):=by
 unfold qs at h
 split at h
 ·rename_i sz t top rows
  split at h
  ·rename_i s ss gW
   split at h
   ·rename_i m hm
    obtain⟨h1,h2⟩:=aI h
    cases h2
    simp only [Bool.and_eq_true] at h1
    have h3:=Nat.eq_of_beq_eq_true h1.1
    have h4:aH rows < 4611686018427387904:=by have:=h1.2;rwa [Nat.blt_eq] at this
    obtain rfl:=sF gW
    rw [aq,aLm] at h3 h4
    exact⟨sz,t,top,s::ss,rfl,by simp,by rw [hm,h3],h4,rfl⟩
   ·cases h
  ·cases h
 ·cases h
theorem Ji {cells:List V} {Eo:V} {mm:Int} (hR:cN Tryz.cfg PP R) (h:zg R cells Eo=some mm):∃sz tok top rows rz rt Ll rr m,nth cells 14=some (.list sz tok top rows)∧Eo=.list rz rt Ll rr∧
 R (.f 113) [.imm 0 cells] St.empty=some (.int .i64 m,St.empty)∧mm=eH .i64 (eH .i64 (.ofNat (aH rows + aH rr)) + m):=by
 unfold zg at h
 split at h
 ·rename_i iv hiv
  split at h
  ·rename_i a b m S' ha hb hr
   cases h
   obtain rfl:=(hR.pure 113 [.imm 0 cells] St.empty _ _ rfl rfl hr).1
   have hl:∀{v:V} {c:Nat},CG v=some c→∃sz tok top rows,v=.list sz tok top rows∧c=aH rows:=fun {v c} h=>by
    unfold CG at h
    split at h
    ·cases h;exact⟨_,_,_,_,rfl,rfl⟩
    ·cases h
   obtain⟨sz,tok,top,rows,rfl,rfl⟩:=hl ha
   obtain⟨rz,rt,Ll,rr,rfl,rfl⟩:=hl hb
   exact⟨sz,tok,top,rows,rz,rt,Ll,rr,m,hiv,rfl,hr,rfl⟩
  ·cases h
 ·cases h
theorem Jj (hC:CfgOk Tryz.cfg PP) (hm:PP.follows .mixedOrders=true) (hR:cN Tryz.cfg PP R) {o0 o1:Oper} {c1:Call} (h0o:o0.op=.load 42 (.tmp 3)) (h0d:o0.dst=some 45) (h0g:o0.guard=none)
 (h1o:o1.op=.call c1) (h1f:c1.callee=.value (.func 111)) (h1a:c1.args = #[.tmp 45]) (h1d:o1.dst=some 46) (h1g:o1.guard=none) {A0:Env} {v:V} {w2:World} (hl0:A0.locs=[])
 (hr:Res (only M) St.empty bB A0 a w E S1 lc A1 w2) (hM:kZ M w) (hv:pL R A1 S1=some v) (hd:∀d∈a.defers,∃r,d.target=.collected r∧w.heap.size≤r)
 (hQ:∀a3 w3,LeavesInM (Fw none) 0 PP Go.Proofs.Tryz.f54 a3.tmps (nj M w v) a3.defers .returning w3→Q .ret a3 w3) :
 (Code.seq (.region 13 #[o0,o1] false) (.seq (.region 14 ⟨jB⟩ true) .ret)).wpIn (Fw none) n PP Q a w2:=by
 have nd:∀{o:Oper} {op:Op},o.op=op→(∀c,op≠.defer c)→∀c,o.op≠.defer c:=fun h1 h2 c h3=>h2 c (h1▸h3)
 have hg0:lu M w E w2:=lu.start hl0 hr
 have hFP:∀k,FP E S1 k→w.heap.size≤k:=fun k hk=>wJ hl0 hr hk
 unfold pL at hv
 split at hv
 ·rename_i cells lv Eo h0 h3 hl3 h4
  obtain⟨hch,hv⟩:=aI hv
  obtain⟨hok,hnt⟩:=Bool.and_eq_true_iff.1 hch
  rw [Nat.blt_eq] at hnt
  split at hv
  ·rename_i nn mm hun sj
   cases hv
   obtain⟨sz,t,top,ss,rfl,hne,nc,hlen,rfl⟩:=CR hun
   obtain⟨sz',aV,m7,rows,rz,rt,Ll,rr,m,Rx,rfl,HG,rfl⟩:=Ji hR sj
   have hsz:62 < a.tmps.size:=Nat.lt_of_lt_of_le hnt hr.cq.nt
   rw [bS] at nc
   obtain⟨Bl,hBl,arr,ty,hb1,hb2,_,hb4⟩:=hr.cq.locs.cells 3 _ hl3
   obtain⟨xh,Y,hY1,hxh,hY2⟩:=hb2
   cases hY2
   obtain rfl:arr = #[xh]:=Array.toList_inj.1 hY1
   have Pw : a8 E lc (.list sz (.own t) top (ss.map bQ)) xh:=hxh.mono (fu.refl E) (fun _ _ hh _=>by cases hh)
   obtain⟨o,cur,e0,q1,rfl,lk,Au,TO,hcc⟩:=I3 hne hr.cS nc Pw
   obtain⟨x3,hx3,B3,hB3,rfl⟩:=hr.cq.tmps 3 _ h3
   rw [hBl] at hB3
   cases hB3
   have Hg:FP E S1 o.g:=.inr (.inl ⟨o,aMg q1,rfl⟩)
   have hog:w.heap.size≤o.g:=hFP o.g Hg
   have hap:=hr.cq.apart Bl ⟨3,by rw [hl3];rfl,hBl⟩
   have Px:Bl≠o.g:=fun e=>hap.1 (e▸Hg)
   have vi:∀j x,E.M o.g j=some x→∃s,x=.string s:=fun j x hx=>by
    have hlt:=hr.cS.Mτ o.g j x t o hx q1 rfl
    obtain⟨p1,p2,p3,p4,_⟩:=hr.cS.tok t o q1
    rw [p1] at nc
    injection nc with nc
    have Ry:o.sz=1:=by
     obtain⟨_,⟨o',r1,_,r3,_⟩,r6⟩:=Pw
     rw [q1] at r1;cases r1
     rcases r6 with⟨r7,_⟩ | ⟨_,_,_,_,_,r7⟩
     ·exact absurd (List.map_eq_nil_iff.1 r7) hne
     ·cases ss with
      | nil=>exact absurd rfl hne
      | cons s ss=>rw [r3];exact r7.1.1.symm
    rw [Ry,Nat.mul_one,nc] at hlt
    have h1:=(hr.cS.M o.g j x hx).1
    have h2:=hcc j ss[j] (aGe hlt)
    simp only [World.cell?,Au] at h1
    rw [h2] at h1
    cases h1
    exact⟨_,rfl⟩
   refine wpIn_seq (wpIn_region_list (fT h0g ?_))
   have hi:=hC.ti 42 _ F5
   have e3' : a.eval (.tmp 3)=.pointer (some ⟨Bl,0,none⟩):=by
    show a.tmps.getD 3 undef=_
    rw [Array.getD_eq_getD_getElem?,hx3];rfl
   have qW:w2.cell? ⟨Bl,0,none⟩=some (.slice (some ⟨o.g,0,none⟩) ss.length o.cap):=by
    simp [World.cell?,hb1]
   have eA:(Instr.loadAt 42 (a.eval (.tmp 3))).run PP w2=.ok (.slice (some ⟨o.g,0,none⟩) ss.length o.cap) w2:=by
    rw [e3']
    simp only [Instr.loadAt,Instr.sureAddr,Sem.run_bind,Sem.run_pure,Result.andThen_ok,loadVar,hi.nN]
    simp [TI.isAgg,qW]
   refine lp (nd h0o (fun c hh=>by cases hh)) (s:=Instr.loadAt _ _) (by unfold execOp;rw [h0o]) eA ?_
   rw [h0d]
   refine fT h1g ?_
   have e45:(a.put (some 45) (.slice (some ⟨o.g,0,none⟩) ss.length o.cap)).eval (.tmp 45)=.slice (some ⟨o.g,0,none⟩) ss.length o.cap:=eval_at (by omega)
   have eZ:c1.args.toList.map (a.put (some 45) (.slice (some ⟨o.g,0,none⟩) ss.length o.cap)).eval=[.slice (some ⟨o.g,0,none⟩) ss.length o.cap]:=by rw [h1a];simp [e45]
   refine wE (nd h1o (fun c hh=>by cases hh)) (wF h1o h1f K9) (by rw [eZ];exact K8 o.cap Au hcc (by omega) hlen) ?_
   rintro e' w3 ⟨rfl,hO,NS,Py,TB,Rz⟩
   refine⟨_,rfl,?_⟩
   rw [h1d]
   generalize ha2:(a.put (some 45) (.slice (some ⟨o.g,0,none⟩) ss.length o.cap)).put (some 46) (.tuple #[])=a2
   have hs2:a2.tmps.size=a.tmps.size:=by rw [← ha2,iJ,iJ]
   have hd2:a2.defers=a.defers:=by rw [← ha2];rfl
   have ht2:∀t,t≠45→t≠46→a2.tmps[t]?=a.tmps[t]?:=fun t h1 h2=>by rw [← ha2,jg (Ne.symm h2),jg (Ne.symm h1)]
   have hil:(pG ss).length=ss.length:=(nU ss).length_eq
   have hM1:kZ (km E o.g) w3:=fun B j x hx=>by
    have hx' : (if B=o.g then none else E.M B j)=some x:=hx
    by_cases hB:B=o.g
    ·rw [if_pos hB] at hx';cases hx'
    ·rw [if_neg hB] at hx'
     have hk:=hr.cS.M B j x hx'
     exact Kn.keep (hO.keep B (dh hk.1) hB) hk
   obtain⟨x0,hx0,hv0⟩:=hr.cq.tmps 0 _ h0
   obtain⟨x4,hx4,hv4⟩:=hr.cq.tmps 4 _ h4
   have hE0:cE (only (km E o.g)) St.empty bB { nt:=63,tmps:=[(0,.imm 0 cells),(4,fV rr.length)],locs:=[],fix:=[] } a2 w3:=by
    refine⟨by show 63≤a2.tmps.size;omega,fun t u ht=>?_,⟨(fun d cs hd=>by cases hd),(fun d d' B hd=>by cases hd)⟩,fun B hB=>?_,fun d hd'=>?_,by rw [hd2];exact hr.cq.kY⟩
    ·by_cases e0:t=0
     ·subst e0
      rw [bG] at ht
      cases ht
      exact⟨x0,by rw [ht2 0 (by decide) (by decide)];exact hx0,(CO vi _).1 hok x0 hv0⟩
     ·rw [aX e0] at ht
      by_cases e4:t=4
      ·subst e4
       rw [bG] at ht
       cases ht
       exact⟨x4,by rw [ht2 4 (by decide) (by decide)];exact hx4,HD hv4⟩
      ·rw [aX e4] at ht;cases ht
    ·obtain⟨d,hd,_⟩:=hB;cases hd
    ·rw [hd2] at hd'
     obtain⟨r,m1,m2,_⟩:=hr.cq.marks d hd'
     exact⟨r,m1,by rw [hO.keep r (aGa m2).1 (fun hh=>by rw [hh,Au] at m2;cases m2)];exact m2,fun hf=>gG hf⟩
   have NT:∀k,¬FL (only (km E o.g)) St.empty bB { nt:=63,tmps:=[(0,.imm 0 cells),(4,fV rr.length)],locs:=[],fix:=[] } k:=fun k hk=>by
    rcases hk with hk | ⟨d,hd,_⟩
    ·exact gG hk
    ·cases hd
   obtain⟨ex,A3,hev,hl2⟩:=Lk (R:=R) (m:=(Lib.compact (pG ss)).length) (n:=ss.length) (b:=rr.length) HG Rx
   refine wpIn_seq (?_:(Code.region 14 ⟨jB⟩ true).wpIn (Fw none) n PP (Exit.then (Code.ret.wpIn (Fw none) n PP Q) Q) a2 w3)
   refine (Eu (J:=fun aQ A S a w'=>∃E' lc' B,NJ M w o.g Bl e0 ty o.cap (pG ss) E' lc' B aQ A S a w') hm (HE hR) Ge.1 Ge.2
    (fun aQ i op A A1 S S1 a w hop hun hls hcl hJ Jh K hK=>Lj hC hR (by omega) (by omega) aQ i op A A1 S S1 a w hop hun hls hcl hJ Jh K hK) ?_ hev ?_).2
   ·refine⟨only (km E o.g),bB,{ nt:=63,tmps:=[(0,.imm 0 cells),(4,fV rr.length)],locs:=[],fix:=[] },⟨rfl,rfl,fun t t3 t47=>?_,rfl,rfl,fun d hd=>?_,gN hM1,hE0.frame (fu.refl _) (fun k h=>.inl h) (Nat.le_refl _) (fun k _ _=>rfl) (fun _ _ _ h=>.inl h),?_,fun k hk=>(NT k hk).elim,fun d hd'=>?_,NT _,NT _,fun j=>?_,hog,Px,?_,⟨NS,Py,by omega,fun _=>Rz⟩,?_,fun u hu=>?_,by omega⟩⟩
    ·show look t (dA (Tryz.cfg.fc 54) jB _)=_
     rw [CQ]
     show look t ((0,_)::(3,_)::[(4,_)])=look t ((0,_)::[(4,_)])
     by_cases e0:t=0
     ·subst e0;rw [bG,bG]
     ·rw [aX e0,aX t3,aX e0]
    ·show look d [((3:Nat),_)]=look d []
     rw [aX hd]
    ·refine⟨hO.os.trans hg0.os,hO.tape.trans hg0.tape,hO.output.trans hg0.output,Nat.le_trans hg0.size hO.size,fun k hk=>(hO.keep k (Nat.lt_of_lt_of_le hk hg0.size) (by omega)).trans (hg0.keep k hk),fun B j x hx=>?_⟩
     have hx' : (if B=o.g then none else E.M B j)=some x:=hx
     by_cases hB:B=o.g
     ·rw [if_pos hB] at hx';cases hx'
     ·rw [if_neg hB] at hx';exact hg0.mem B j x hx'
    ·rw [hd2] at hd';exact hd d hd'
    ·show (if o.g=o.g then none else E.M o.g j)=none
     rw [if_pos rfl]
    ·show w3.heap[Bl]?=_
     rw [hO.keep Bl (aGa hb1).1 Px,hb1,hil]
    ·rw [ht2 3 (by decide) (by decide)];exact hx3
    ·exfalso
     have:look 47 (dA (Tryz.cfg.fc 54) jB [(0,V.imm 0 cells),(3,.ptr (.loc 3) 0),(4,fV rr.length)])=some u:=hu
     rw [CQ] at this
     cases this
   ·rintro gv a3 w4 B' hlB ⟨E',lc',B,hJ⟩
    refine wpIn_ret (hQ a3 w4 ?_)
    have h2:look 2 B.tmps=some (.bool (iEq (.ofNat (aH (uJ ss))) (eH .i64 (eH .i64 (.ofNat (aH rows + aH rr)) + m)))):=by
     rw [← hJ.tmps 2 (by decide) (by decide)]
     rw [hlB 2 _ hl2,aq (uJ ss),aq rr]
     rfl
    refine zc (v:=.bool (iEq (.ofNat (aH (uJ ss))) (eH .i64 (eH .i64 (.ofNat (aH rows + aH rr)) + m)))) hJ.eh hJ.cS hJ.cq hM hJ.marks hC ?_ ⟨0,rfl,Nat.le_refl _⟩ rfl
    show cV Tryz.cfg B St.empty [.tmp 2]=_
    unfold cV
    simp only [Env.get,h2,cV]
  ·cases hv
 ·cases hv
theorem Ey (hC:CfgOk Tryz.cfg PP) (hm:PP.follows .mixedOrders=true) (hR:cN Tryz.cfg PP R) {args:List V} {v:V} (h:nY R k (bn V.strip args)=some v):jc PP 54 args v:=by
 obtain⟨o0,o1,c1,CI,h0o,h0d,h0g,h1o,h1f,h1a,h1d,h1g⟩:=Lh
 have hfn:Tryz.cfg.fn 54=some Go.Proofs.Tryz.f54:=rfl
 have hb:Go.Proofs.Tryz.f54.body=some ndB:=rfl
 obtain⟨hf1,_⟩:=hC.fn 54 _ hfn
 have hok:codeOk (Tryz.cfg.fc 54) ndB=true:=hC.body _ _ _ hfn hb
 rw [CI] at hok
 obtain⟨yC,_⟩:=sK hok
 have hcl:∃b,v=.bool b:=by
  unfold nY at h
  split at h
  ·split at h
   ·unfold pL at h
    split at h
    ·replace h:=(aI h).2
     split at h
     ·cases h;exact⟨_,rfl⟩
     ·cases h
    ·cases h
   ·split at h
    ·cases h;exact⟨_,rfl⟩
    ·cases h
   ·cases h
  ·cases h
 obtain⟨b,rfl⟩:=hcl
 refine⟨⟨0,rfl,Nat.le_refl _⟩,rfl,fun M w X hM hX=>?_⟩
 refine (callsIn_wide (n:=0)).1 (callsIn_of_wp_marks (F:=Fw none) hf1 hb trivial ?_)
 have hE0:cE (only M) St.empty bB { nt:=Go.Proofs.Tryz.f54.ntmps,tmps:=number 0 (bn V.strip args),locs:=[],fix:=[] } ⟨(⟨X⟩ : Array Value)++Array.replicate (Go.Proofs.Tryz.f54.ntmps - X.length) undef,[]⟩ w:=by
  refine⟨by simp;omega,fun t v ht=>?_,⟨(fun d cs hd=>by cases hd),(fun d d' B hd=>by cases hd)⟩,fun B hB=>?_,fun d hd=>(by cases hd),List.Pairwise.nil⟩
  ·obtain⟨x,h1,h2⟩:=kB (show au (only M) bB (bn V.strip args) X by rw [bH];exact hX) ht
   refine⟨x,?_,h2⟩
   have hlt:t < X.length:=(aGs h1).1
   rw [Array.getElem?_append_left (by simpa using hlt)]
   simpa using h1
  ·obtain⟨d,hd,_⟩:=hB;cases hd
 rw [CI]
 unfold nY at h
 split at h
 ·rename_i RA eZ
  split at h
  ·rename_i A1 S1 hev
   refine pD hC hR ndC yC (gN hM) hE0 hev (fun E' lc' a' w' hl hr=>?_)
   refine Jj hC hm hR h0o h0d h0g h1o h1f h1a h1d h1g rfl hr hM h (fun d hd=>?_) (fun a3 w3 h3=>h3)
   rcases hl d hd with h | h
   ·cases h
   ·exact h
  ·rename_i A1 S1 hev
   split at h
   ·rename_i b' jz
    cases h
    refine pD hC hR ndC yC (gN hM) hE0 hev (fun E' lc' a' w' hl hr=>?_)
    refine zc (lu.start rfl hr) hr.cS hr.cq hM (fun d hd=>?_) hC jz ⟨0,rfl,Nat.le_refl _⟩ rfl
    rcases hl d hd with h | h
    ·cases h
    ·exact h
   ·cases h
  ·cases h
 ·cases h
end
end Go.Ev
namespace Go.Ev
open Go.RowKit Go.Proofs
theorem mixed:PP.follows .mixedOrders=true:=by kernel_rfl
theorem jC {id k:Nat} {g g' : kP} {o:Option kP} (h:(bif Nat.beq id k then some g else o)=some g'):(id=k∧g'=g)∨o=some g':=by
 cases hb:Nat.beq id k with
 | true=>rw [hb] at h;cases h;exact .inl ⟨Nat.eq_of_beq_eq_true hb,rfl⟩
 | false=>rw [hb] at h;exact .inr h
def sL (id:Nat) (g:kP):Prop:=(Tryz.cfg.fc id).pure=true∧(∃fn c,PP.funcs[id]?=some fn∧(fn.name == "runtime.NumGoroutine")=false∧fn.body=some c)∧
 ∀R k args v,cN Tryz.cfg PP R→allB V.pure args=true→g R k (bn V.strip args)=some v→jc PP id args v
theorem sM {T:Nat→Option kP} (h:∀id g,T id=some g→sL id g):uE Tryz.cfg PP T:=
 ⟨fun id g hg=>(h id g hg).1,fun id g hg=>(h id g hg).2.1,fun id g hg=>(h id g hg).2.2⟩
theorem CS:sL 54 nY:=⟨by kernel_rfl,⟨_,_,Go.Proofs.Tryz.func54,by kernel_rfl,rfl⟩,fun R k args v hR _ h=>Ey Tryz.cfgOk mixed hR h⟩
theorem Gf:sL 131 sH:=⟨by kernel_rfl,⟨_,_,Go.Proofs.Tryz.func131,by kernel_rfl,rfl⟩,fun R k args v hR _ h=>lift_pure Tryz.cfgOk hR h⟩
theorem Jl:sL 154 pI:=⟨by kernel_rfl,⟨_,_,Go.Proofs.Tryz.func154,by kernel_rfl,rfl⟩,fun R k args v hR _ h=>Jc Tryz.cfgOk hR h⟩
theorem Lm:uE Tryz.cfg PP Lc:=sM fun id g h=>by
 rcases jC h with⟨rfl,rfl⟩ | h
 ·exact CS
 ·cases h
theorem Gg:uE Tryz.cfg PP HA:=sM fun id g h=>by
 rcases jC h with⟨rfl,rfl⟩ | h
 ·exact Gf
 ·cases h
theorem rQ:∀id,bY id=true→(Tryz.cfg.fc id).pure=true:=fun id h=>by
 have hm:id∈F7:=memN_iff.1 h
 have:∀x∈F7,(Tryz.cfg.fc x).pure=true:=by
  intro x hx
  simp only [F7,List.mem_cons,List.mem_nil_iff,or_false] at hx
  rcases hx with rfl | rfl | rfl | rfl | rfl | rfl<;>kernel_rfl
 exact this id hm
theorem Jm:sL 17 AU:=⟨by kernel_rfl,⟨_,_,Go.Proofs.Tryz.func17,by kernel_rfl,rfl⟩,fun R k args v hR _ h=>wX Tryz.cfgOk (wN (k:=k) Lm rQ hR) rfl rfl (by kernel_rfl) h⟩
theorem Ln:uE Tryz.cfg PP I8:=sM fun id g h=>by
 rcases jC h with⟨rfl,rfl⟩ | h
 ·exact Jm
 ·cases h
theorem NU:sL 7 Ep:=⟨by kernel_rfl,⟨_,_,Go.Proofs.Tryz.func7,by kernel_rfl,rfl⟩,fun R k args v hR _ h=>wX Tryz.cfgOk (nT (k:=k) Ln hR) rfl rfl (by kernel_rfl) h⟩
theorem NV:sL 8 Er:=⟨by kernel_rfl,⟨_,_,Go.Proofs.Tryz.func8,by kernel_rfl,rfl⟩,fun R k args v hR _ h=>wX (m:=6) (fn:=Go.Proofs.Tryz.f8) Tryz.cfgOk hR rfl rfl (by kernel_rfl) h⟩
theorem Lo:sL 64 I9:=⟨by kernel_rfl,⟨_,_,Go.Proofs.Tryz.func64,by kernel_rfl,rfl⟩,fun R k args v hR _ h=>wX Tryz.cfgOk (nT (k:=k) Gg hR) rfl rfl (by kernel_rfl) h⟩
theorem NW:sL 159 NG:=⟨by kernel_rfl,⟨_,_,Go.Proofs.Tryz.func159,by kernel_rfl,rfl⟩,fun R k args v hR _ h=>wX Tryz.cfgOk (nT (k:=k) Gg hR) rfl rfl (by kernel_rfl) h⟩
theorem Gh:uE Tryz.cfg PP cQ:=sM fun id g h=>by
 rcases jC h with⟨rfl,rfl⟩ | h
 ·exact CS
 rcases jC h with⟨rfl,rfl⟩ | h
 ·exact Jl
 rcases jC h with⟨rfl,rfl⟩ | h
 ·exact Gf
 rcases jC h with⟨rfl,rfl⟩ | h
 ·exact NU
 rcases jC h with⟨rfl,rfl⟩ | h
 ·exact NV
 rcases jC h with⟨rfl,rfl⟩ | h
 ·exact Jm
 rcases jC h with⟨rfl,rfl⟩ | h
 ·exact Lo
 rcases jC h with⟨rfl,rfl⟩ | h
 ·exact NW
 ·cases h
theorem rnOk (n:Nat):cN Tryz.cfg PP (RN n):=wN (k:=n) Gh rQ (F6 Tryz.cfgOk Gh rQ n)
end Go.Ev
