/- The runner of the recursors is sound (own work). -/
import Derived.Test.YtmnofcchfbkbeaaGreatXe
import Derived.Test.YtmnofcchfbkbeaaGreatXL
namespace Go.Ev
open Go.RowKit Go.Sort Go.Proofs
structure fQ (M:Nat→Nat→Option Value) (w:World) (E:Rho) (lc:bZ) (A:Env) (a:Act) (w1:World) (rows:List V) (hdr:Value):Prop where
 cP:bI E St.empty w1
 ck:cC E St.empty lc A a w1
 dV:lq M w E w1
 loc:∀k,LP lc A.locs k→w.heap.size≤k
 t4:a.tmps[4]?=some hdr
 out:mU w w1 E lc A rows hdr
 pure:dU rows
 size:26 < a.tmps.size
 marks:∀d∈a.defers,∃r,d.target=.collected r∧w.heap.size≤r
section
variable {M:Nat→Nat→Option Value} {w w1 w2:World} {E E' : Rho} {S:St} {lc lc' : bZ} {A A' A'' : Env} {a a' : Act} {rows:List V} {hdr:Value} {l:List Oper} {R:Run}
theorem fQ.A7 (h:fQ M w E lc A a w1 rows hdr) {k:Nat} (hk:k < w.heap.size):¬FL E St.empty lc A k:=fun hf=>by
 rcases hf with hf | hf
 ·exact EB h.cP rfl k hf
 ·have:=h.loc k hf;omega
theorem fQ.res (h:fQ M w E lc A a w1 rows hdr) (hk:Kept l a a') (h4:∀o∈l,o.dst≠some 4) (hr:Res E St.empty lc A a' w1 E' St.empty lc' A' w2):fQ M w E' lc' A' a' w2 rows hdr where
 cP:=hr.cP
 ck:=hr.ck
 dV:=⟨hr.step.os.trans h.dV.os,hr.step.tape.trans h.dV.tape,hr.step.output.trans h.dV.output,Nat.le_trans h.dV.size hr.step.size,
  fun k hk=>(hr.step.keep k (Nat.lt_of_lt_of_le hk h.dV.size) (h.A7 hk)).trans (h.dV.keep k hk),
  fun B o x hx=>by
   rcases hr.step.oN B o x hx with hq | hq | hq
   ·exact h.dV.mem B o x hq
   ·rcases Nat.lt_or_ge B w.heap.size with hlt | hge
    ·exact (h.A7 hlt hq).elim
    ·exact .inr hge
   ·exact .inr (Nat.le_trans h.dV.size hq)⟩
 loc k hk':=by
  rcases hr.step.grow k (.inr hk') with hq | hq
  ·rcases Nat.lt_or_ge k w.heap.size with hlt | hge
   ·exact (h.A7 hlt hq).elim
   ·exact hge
  ·exact Nat.le_trans h.dV.size hq
 t4:=by rw [hk.off 4 h4];exact h.t4
 out:=h.out.step h.pure h.cP hr
 pure:=h.pure
 size:=by rw [hk.size];exact h.size
 marks:=by rw [hk.defers];exact h.marks
theorem gP (h:spR A S=some A'):S=St.empty∧A'.tmps=spT∧A'.locs=A.locs∧A'.fix=A.fix∧A'.nt=A.nt∧(∀t v,look t A'.tmps=some v→look t A.tmps=some v):=by
 unfold spR at h
 split at h
 ·split at h
  ·rename_i h1 h2
   cases h
   refine⟨rfl,rfl,rfl,rfl,rfl,fun t v ht=>?_⟩
   by_cases e1:t=1
   ·subst e1;rw [spT,bB] at ht;cases ht;exact h1
   ·by_cases e2:t=2
    ·subst e2;rw [spT,aW (by decide),bB] at ht;cases ht;exact h2
    ·rw [spT,aW e1,aW e2] at ht;cases ht
  ·cases h
 ·cases h
theorem fQ.reset (h:fQ M w E lc A a w1 rows hdr) (hr:spR A S=some A'):fQ M w E lc A' a w1 rows hdr:=by
 obtain⟨_,h1,h2,h3,h4,h5⟩:=gP hr
 have jl:=(Res.refl (a:=a) h.cP h.ck).we (A2:=A') (Nat.le_of_eq h4) h5 (fun d=>by rw [h2]) h3
 exact⟨jl.cP,jl.ck,h.dV,fun k hk=>h.loc k (by rwa [h2] at hk),h.t4,by have:=h.out;unfold mU at this ⊢;rwa [h2],h.pure,h.size,h.marks⟩
theorem fQ.free (h:fQ M w E lc A a w1 rows hdr) {q:Nat} (hq:look q A.tmps=none) (h4:q≠4) (x:Value):fQ M w E lc A (a.put (some q) x) w1 rows hdr where
 cP:=h.cP
 ck:=(nh (Res.refl h.cP h.ck) hq x).ck
 dV:=h.dV
 loc:=h.loc
 t4:=by rw [iV h4];exact h.t4
 out:=h.out
 pure:=h.pure
 size:=by rw [iz];exact h.size
 marks:=h.marks
theorem fQ.Jz (h:fQ M w E lc A a w1 rows hdr):a.eval (.tmp 4)=hdr:=by
 show a.tmps.getD 4 undef=hdr
 rw [Array.getD_eq_getD_getElem?,h.t4];rfl
theorem kC {t:Nat} (h1:t≠1) (h2:t≠2) (h:A.tmps=spT):look t A.tmps=none:=by
 rw [h,spT,aW h1,aW h2];rfl
theorem fQ.OA {jI : List V} {mv : Value} (h:fQ M w E lc A a w1 rows hdr) (hA:A.tmps=spT) (hS:bI E St.empty w2) (hE:cC E St.empty lc A a w2) (ho:mU w w2 E lc A jI mv) (hp:dU jI)
 (h1:w2.os=w1.os) (h2:w2.tape=w1.tape) (h3:w2.output=w1.output) (h4:w1.heap.size≤w2.heap.size) (h5:∀k,k < w.heap.size→w2.heap[k]?=w1.heap[k]?):fQ M w E lc A (a.put (some 4) mv) w2 jI mv where
 cP:=hS
 ck:=(nh (Res.refl hS hE) (kC (by decide) (by decide) hA) mv).ck
 dV:=⟨h1.trans h.dV.os,h2.trans h.dV.tape,h3.trans h.dV.output,Nat.le_trans h.dV.size h4,fun k hk=>(h5 k hk).trans (h.dV.keep k hk),h.dV.mem⟩
 loc:=h.loc
 t4:=by
  have hz:=h.size
  show (a.tmps.setIfInBounds 4 mv)[4]?=some mv
  simp [show 4 < a.tmps.size by omega]
 out:=ho
 pure:=hp
 size:=by rw [iz];exact h.size
 marks:=h.marks
theorem uO {o:Oper} {op:Op} (h1:o.op=op) (h2:∀c,op≠.defer c):∀c,o.op≠.defer c:=fun c h3=>h2 c (h1▸h3)
variable {n:Nat} {Q:Exit→Act→World→Prop}
theorem wS (hC:CfgOk Tryz.cfg PP) (hR:cK Tryz.cfg PP R) {i4 i5 i6:Nat} {a0 h0 h1 h2 q0 q1 q2 q3 q4 q5 q6 q7 s0 s1 s2 s3 s4 u0 u1 v0 v1 v2 v3:Oper} {c1 c2:Call}
 (e4:sp4=[h0,h1,h2]) (e5:sp5=[q0,q1,q2,q3,q4,q5,q6,q7]) (e6:sp6=[s0,s1,s2,s3,s4]) (ho:Jt a0 q0 q6 q7 u0 u1 v0 v1 v2 v3 c1 c2)
 (d4:[h0,h1,h2].map (·.dst)=[some 9,some 10,some 11]) (d5:[q1,q2,q3,q4,q5].map (·.dst)=[some 13,some 14,some 15,some 16,some 17]) (d6:[s0,s1,s2,s3,s4].map (·.dst)=[some 19,some 20,some 21,some 22,none]) :
 ∀(m:Nat) {E:Rho} {lc:bZ} {A:Env} {a:Act} {w1:World} {rows:List V} {hdr:Value} {A2:Env} {CS:List V},fQ M w E lc A a w1 rows hdr→A.tmps=spT→tW R m A rows=some (A2,CS)→
 (∀E' lc' a' w' mv,fQ M w E' lc' A2 a' w' CS mv→A2.tmps=spT→Q (.exit 0) a' w')→
 Code.roundsIn (Fw none) n PP (.seq (.seq (.region i4 #[h0,h1,h2] false) (.cond (.tmp 11) .skip (.exit 0))) (.block 1 (.seq (.region i5 #[q0,q1,q2,q3,q4,q5,q6,q7] false) (.region i6 #[s0,s1,s2,s3,s4] false)))) Q m a w1
 | 0,E,lc,A,a,w1,rows,hdr,A2,CS,_,_,h,_=>by cases (show (none:Option (Env×List V))=_ from h)
 | m + 1,E,lc,A,a,w1,rows,hdr,A2,CS,hi,hA,h,hQ=>by
  rw [roundsIn_succ]
  have h' : (match nX R A rows with
   | some (true,A,rows)=>tW R m A rows
   | some (false,A,rows)=>some (A,rows)
   | none=>none)=some (A2,CS):=h
  refine wpIn_seq (wpIn_seq (wpIn_region_list ?_))
  cases hst:nX R A rows with
  | none=>rw [hst] at h';cases h'
  | some bAr=>
   obtain⟨b,A6,Us⟩:=bAr
   rw [hst] at h'
   unfold nX at hst
   split at hst
   ·rename_i A1 S1 yy
    unfold fq at yy
    rw [e4] at yy
    rw [show (#[h0,h1,h2]:Array Oper).toList=[h0,h1,h2]++[] from rfl]
    split at hst
    ·
     rename_i A2' hr1 h11
     cases hst
     cases h'
     obtain⟨rfl,_⟩:=gP hr1
     refine kB hC hR (ops:=#[h0,h1,h2]) [h0,h1,h2] 0 hi.cP hi.ck yy (fun E' lc' a' w' hk hr=>?_)
     have hi1:=hi.res hk (sF d4 (by decide)) hr
     refine wpIn_cond_false (aM hr.ck.tmps (show operand A1 (.tmp 11)=some _ from h11)) (wpIn_exit ?_)
     exact hQ _ _ _ _ _ (hi1.reset hr1) (gP hr1).2.1
    ·
     rename_i A2' hr1 h11
     obtain⟨rfl,hA2,_⟩:=gP hr1
     refine kB hC hR (ops:=#[h0,h1,h2]) [h0,h1,h2] 0 hi.cP hi.ck yy (fun E1 lc1 a1 w1' hk1 wv=>?_)
     have hi1:=(hi.res hk1 (sF d4 (by decide)) wv).reset hr1
     refine wpIn_cond_true (aM wv.ck.tmps (show operand A1 (.tmp 11)=some _ from h11)) (wpIn_skip ?_)
     refine wpIn_block (wpIn_seq (wpIn_region_list (fG ho.q0g ?_)))
     split at hst
     ·rename_i A3 S3 JA
      unfold fq at JA
      rw [e5] at JA
      have Qc : bE Tryz.cfg R (Tryz.cfg.fc 154) (fun _=>.any) [q0,q1,q2,q3,q4,q5,q6,q7] [q1,q2,q3,q4,q5] 1 A2' St.empty=some (A3,S3):=JA
      split at hst
      ·rename_i A4 jI hr3 qS
       obtain⟨rfl,hA4,_⟩:=gP hr3
       split at hst
       ·rename_i A5 S5 OB
        unfold fq at OB
        rw [e6] at OB
        split at hst
        ·rename_i A6' hr5
         cases hst
         obtain⟨rfl,hA6,_⟩:=gP hr5
         refine ff (uO ho.q0o (fun c hh=>by cases hh)) (cv:=hdr) (by unfold execOp;rw [ho.q0o];simp only [hi1.Jz];rfl) ?_
         rw [ho.q0d]
         have hi2:=hi1.free (q:=12) (kC (by decide) (by decide) hA2) (by decide) hdr
         have Sd:(a1.put (some 12) hdr).tmps[12]?=some hdr:=by
          have hz:=hi1.size
          show (a1.tmps.setIfInBounds 12 hdr)[12]?=some hdr
          simp [show 12 < a1.tmps.size by omega]
         refine kB hC hR (ops:=#[q0,q1,q2,q3,q4,q5,q6,q7]) (rest:=[q6,q7]) [q1,q2,q3,q4,q5] 1 hi2.cP hi2.ck Qc (fun E3 lc3 a3 w3 hk3 NL=>?_)
         have hi3:=(hi2.res hk3 (sF d5 (by decide)) NL).reset hr3
         have Qd : a3.eval (.tmp 12)=hdr:=by
          show a3.tmps.getD 12 undef=hdr
          rw [Array.getD_eq_getD_getElem?,hk3.off 12 (sF d5 (by decide)),Sd];rfl
         unfold EC at qS
         split at qS
         ·rename_i cs h17
          obtain⟨hch,qS⟩:=aE qS
          cases qS
          simp only [Bool.and_eq_true] at hch
          obtain⟨⟨⟨g1,g2⟩,g3⟩,g4⟩:=hch
          have g1':=Nat.eq_of_beq_eq_true g1
          rw [an] at g1' g4
          have g4':=Nat.le_of_ble_eq_true g4
          have g3' : cs.all dN=true:=List.all_eq_true.2 (allB_mem g3)
          have hcv:=aM NL.ck.tmps (show operand A3 (.tmp 17)=some _ from h17)
          obtain⟨mv,w4,Oj,kS,kE,kO,k1,k2,k3,k4,k5⟩:=Jr hC hi3.cP hi3.ck hi3.pure hi3.out hi3.dV.size hcv g1' (cm g2) g4' q6.type
          refine fG ho.q6g ?_
          have hx:execOp a3.eval q6=builtin .append c1.argTypes q6.type (c1.args.map fun | .const _=>true | _=>false) (c1.args.map a3.eval):=by
           unfold execOp;rw [ho.q6o];simp only [resolve,ho.q6f,pure_bind,invoke];rfl
          have har:c1.args.map a3.eval = #[hdr,a3.eval (.tmp 17)]:=by rw [ho.q6a];simp [Qd]
          refine lk (uO ho.q6o (fun c hh=>by cases hh)) (s:=Builtin.append_ #[23,23] q6.type #[hdr,a3.eval (.tmp 17)]) (by rw [hx,ho.q6t,har];rfl) Oj ?_
          rw [ho.q6d]
          refine fG ho.q7g ?_
          have OC : dU (rows++[.agg cs]):=fun r hr=>by
           rcases List.mem_append.1 hr with hr | hr
           ·exact hi3.pure r hr
           ·cases hr with
            | head=>exact⟨cs,rfl,g1',cm g2,g3'⟩
            | tail _ hr=>cases hr
          have UA:=hi3.size
          have e18:(a3.put (some 18) mv).eval (.tmp 18)=mv:=eval_at (by omega)
          refine ff (uO ho.q7o (fun c hh=>by cases hh)) (cv:=mv) (by unfold execOp;rw [ho.q7o];simp only [e18];rfl) ?_
          rw [ho.q7d]
          have Se:=hi3.free (q:=18) (kC (by decide) (by decide) hA4) (by decide) mv
          have kE':=(nh (Res.refl kS kE) (kC (t:=18) (by decide) (by decide) hA4) mv).ck
          have hi4:=Se.OA hA4 kS kE' kO OC k1 k2 k3 k4 k5
          show Code.wpIn _ _ _ _ _ _ _
          refine wpIn_region_list ?_
          rw [show (#[s0,s1,s2,s3,s4]:Array Oper).toList=[s0,s1,s2,s3,s4]++[] from rfl]
          refine kB hC hR (ops:=#[s0,s1,s2,s3,s4]) [s0,s1,s2,s3,s4] 0 hi4.cP hi4.ck OB (fun E5 lc5 a5 w5 hk5 Qe=>?_)
          have hi5:=(hi4.res hk5 (sF d6 (by decide)) Qe).reset hr5
          rw [bK] at h'
          exact wS hC hR e4 e5 e6 ho d4 d5 d6 m hi5 hA6 h' hQ
         ·cases qS
        ·cases hst
       ·cases hst
      ·cases hst
     ·cases hst
    ·cases hst
   ·cases hst
end
section
variable {M:Nat→Nat→Option Value} {w w1 w2 w' : World} {E E' : Rho} {S:St} {lc lc' : bZ} {A A' A'' : Env} {a a' : Act} {rows:List V} {hdr:Value} {l:List Oper} {R:Run} {n k:Nat} {Q:Exit→Act→World→Prop}
theorem Gl:∀{vs:List V},within (aJ vs) 0→within (one vs).lvl 0
 | [],_=>⟨0,rfl,Nat.le_refl _⟩
 | [_],h=>fm (aX.1 h).1
 | _::_::_,h=>h
theorem zj:∀{vs:List V},within (aJ vs) 0→vs.all gA=true→rA (one vs)=true
 | [],_,_=>rfl
 | [v],h,hp=>by
  have h1:gA v=true:=by simpa using hp
  have h2:=(aX.1 h).1
  cases v<;>first | exact h1 | exact absurd h2 bU
 | _::_::_,_,hp=>hp
theorem wU (hg:lq M w E w') (hS:bI E S w') (hE:cC E S lc A a w') (hM:kZ M w) {fn:Func} (hd:∀d∈a.defers,∃r,d.target=.collected r∧w.heap.size≤r)
 (hC:CfgOk Tryz.cfg PP) {vs:List V} (hr:cR Tryz.cfg A S fn.results.toList=some vs) (hl:within (aJ vs) 0) (hp:vs.all gA=true) :
 LeavesInM (Fw none) n PP fn a.tmps (nf M w (one vs)) a.defers .returning w':=by
 refine kz (w0:=w) a.defers w' hS hE hd (fun w'' h1 h2 h3 h4 h5 h6 h7=>?_)
 obtain⟨Y,k1,k2⟩:=iT hC h1 h2.tmps h2.locs hr
 obtain⟨j1,_⟩:=Ga k2 (a6 hl)
 have ej:(results fn a.tmps).run PP w''=.ok (if h:Y.length=1 then Y[0] else .tuple ⟨Y⟩) w'':=by
  rw [nS,Array.mapM_eq_mapM_toList]
  simp [k1]
 have wA:∀B o x,M B o=some x→B < w.heap.size:=fun B o x hx=>cZ (hM B o x hx).1
 have hgr:fp w w'':=⟨h3.trans hg.os,h4.trans hg.tape,h5.trans hg.output,by rw [h6];exact hg.size,fun k hk=>(h7 k hk).trans (hg.keep k hk)⟩
 refine⟨_,ej,_,fun B o=>if B < w.heap.size then M B o else World.all w'' B o,rfl,hgr,?_,?_,?_,?_⟩
 ·intro B o y hy
  by_cases hlt:B < w.heap.size
  ·simp only [hlt,if_true] at hy
   have:=hM B o y hy
   exact Kn.keep (hgr.keep B hlt) this
  ·simp only [hlt,if_false] at hy
   exact all_true w'' B o y hy
 ·intro B o y hy
  simp only [wA B o y hy,if_true];exact hy
 ·intro B o y hy
  by_cases hlt:B < w.heap.size
  ·simp only [hlt,if_true] at hy;exact .inl hy
  ·exact .inr (by omega)
 ·refine (dK (E:=E) (E':=only fun B o=>if B < w.heap.size then M B o else World.all w'' B o) (l:=lc) (l':=bw) (n:=0) ⟨fun B o y hy=>?_,fun b B hlt _=>by omega⟩ (one vs)).1 _ (Gl hl) (.inr (zj hl hp)) j1
  show (if B < w.heap.size then M B o else World.all w'' B o)=some y
  rcases hg.mem B o y hy with hm | hm
  ·rw [if_pos (wA B o y hm)];exact hm
  ·rw [if_neg (by omega)];exact lT h1 B o y hy
theorem A8 (hS:bI E St.empty w):E.ρ=[]∧E.τ=[]:=
 ⟨List.eq_nil_of_length_eq_zero (by rw [← hS.len];rfl),List.eq_nil_of_length_eq_zero (by rw [← hS.nL];rfl)⟩
theorem wV (h1:E.ρ=[]) (h2:E.τ=[]) (hM:kZ E.M w):bI E St.empty w where
 len:=by rw [h1];rfl
 blk b B k hb:=by rw [h1] at hb;cases hb
 nodup:=by rw [h1];exact List.nodup_nil
 nL:=by rw [h2];rfl
 tok t o ho:=by rw [h2] at ho;cases ho
 m6 t u o p ho:=by rw [h2] at ho;cases ho
 tρ t o ho:=by rw [h2] at ho;cases ho
 M:=hM
 Mρ B o x _ hB:=by rw [h1] at hB;cases hB
 Mτ B o x t p _ hp:=by rw [h2] at hp;cases hp
 ll b r d B hb:=by cases hb
 jN b b' r r' d d' B hb:=by cases hb
theorem fQ.Qf {jI : List V} {mv : Value} {B:Nat} {cur:Array Value} {e:TypeId} (h:fQ M w E lc A a w1 rows hdr) (ho:sC w1 w2 B) (hB:w.heap.size≤B) (hM:∀o,E.M B o=none) (hL:¬LP lc A.locs B) (Az:w1.heap[B]?=some (.cells cur e (0,0)))
 (ja:mU w w2 E lc A jI mv) (hp:dU jI) (h4:mv=hdr):fQ M w E lc A a w2 jI mv where
 cP:=wV (A8 h.cP).1 (A8 h.cP).2 fun B' o x hx=>by
  have hlt:=cZ (h.cP.M B' o x hx).1
  have hne:B'≠B:=fun e=>by rw [e,hM] at hx;cases hx
  exact Kn.keep (ho.keep B' hlt hne) (h.cP.M B' o x hx)
 ck:=by
  have hE:=h.ck
  refine⟨hE.nt,hE.tmps,hE.locs.mono (eV.refl E) (fun k hk'=>ho.keep k (hE.apart k hk').2.2 fun e=>hL (e▸hk')),fun B' hB'=>?_,fun d hd=>?_,hE.kY⟩
  ·obtain⟨h1,h2,h3⟩:=hE.apart B' hB'
   exact⟨h1,h2,Nat.lt_of_lt_of_le h3 ho.size⟩
  ·obtain⟨r,h1,h2,h3⟩:=hE.marks d hd
   exact⟨r,h1,by rw [ho.keep r (aGa h2).1 (fun e=>by rw [e,Az] at h2;cases h2)];exact h2,h3⟩
 dV:=⟨ho.os.trans h.dV.os,ho.tape.trans h.dV.tape,ho.output.trans h.dV.output,Nat.le_trans h.dV.size ho.size,fun k hk=>(ho.keep k (Nat.lt_of_lt_of_le hk h.dV.size) (by omega)).trans (h.dV.keep k hk),h.dV.mem⟩
 loc:=h.loc
 t4:=by rw [h4];exact h.t4
 out:=ja
 pure:=hp
 size:=h.size
 marks:=h.marks
theorem dU.shaped (h:dU rows):Shaped 5 rows:=fun r hr=>by
 obtain⟨cs,h1,h2,_⟩:=h r hr;exact⟨cs,h1,h2⟩
theorem dU.lvl:∀{rows:List V},dU rows→within (aJ rows) 0
 | [],_=>⟨0,rfl,Nat.le_refl _⟩
 | r::rows,h=>by
  obtain⟨cs,rfl,_,h2,_⟩:=h r aMs
  exact aX.2 ⟨h2,dU.lvl fun q hq=>h q (aMt _ hq)⟩
theorem dU.dN (h:dU rows):(rows.flatMap V.cells).all dN=true:=by
 rw [List.all_eq_true]
 intro v hv
 obtain⟨r,hr,hv⟩:=List.mem_flatMap.1 hv
 obtain⟨cs,rfl,_,_,h3⟩:=h r hr
 exact List.all_eq_true.1 h3 v hv
theorem dU.reverse (h:dU rows):dU rows.reverse:=fun r hr=>h r (List.mem_reverse.1 hr)
theorem fQ.told (h:fQ M w E lc A a w1 rows hdr):∃Ef,bI Ef St.empty w1∧cC Ef St.empty lc A a w1∧lq M w Ef w1∧a7 Ef lc (.list 5 .no 0 rows) hdr:=by
 rcases h.out with⟨rfl,rfl⟩ | ⟨B,cap,cur,e,xs,rfl,h2,h3,h4,h5,h6,h7,h8,h9,h10⟩
 ·exact⟨E,h.cP,h.ck,h.dV,⟨0,rfl,Nat.le_refl _⟩,trivial,.inl ⟨rfl,none,rfl⟩⟩
 ·have m9:∀B' o x,E.M B' o=some x→(if B'=B∧o < rows.length * 5 then World.all w1 B o else E.M B' o)=some x:=fun B' o x hx=>by
   rw [if_neg]
   ·exact hx
   ·rintro⟨rfl,_⟩;rw [h7] at hx;cases hx
  have Qg:kZ (fun B' o=>if B'=B∧o < rows.length * 5 then World.all w1 B o else E.M B' o) w1:=fun B' o x hx=>by
   replace hx:(if B'=B∧o < rows.length * 5 then World.all w1 B o else E.M B' o)=some x:=hx
   by_cases hc:B'=B∧o < rows.length * 5
   ·rw [if_pos hc] at hx;obtain⟨rfl,_⟩:=hc;exact all_true w1 _ o x hx
   ·rw [if_neg hc] at hx;exact h.cP.M B' o x hx
  obtain⟨e1,e2⟩:=A8 h.cP
  refine⟨{ E with M:=fun B' o=>if B'=B∧o < rows.length * 5 then World.all w1 B o else E.M B' o },wV e1 e2 Qg,?_,?_,?_⟩
  ·have hm:eV E { E with M:=fun B' o=>if B'=B∧o < rows.length * 5 then World.all w1 B o else E.M B' o }:=⟨m9,⟨[],by simp⟩,lO.refl E,fun _ _=>rfl⟩
   refine⟨h.ck.nt,h.ck.tmps.mono hm (fun _ _ _ _ _ h _=>h),h.ck.locs.mono hm (fun _ _=>rfl),fun B' hB'=>?_,h.ck.marks,h.ck.kY⟩
   obtain⟨k1,k2,k3⟩:=h.ck.apart B' hB'
   refine⟨k1,fun o=>?_,k3⟩
   show (if B'=B∧o < rows.length * 5 then World.all w1 B o else E.M B' o)=none
   rw [if_neg]
   ·exact k2 o
   ·rintro⟨rfl,_⟩;exact h8 hB'
  ·refine⟨h.dV.os,h.dV.tape,h.dV.output,h.dV.size,h.dV.keep,fun B' o x hx=>?_⟩
   have hx' : (if B'=B∧o < rows.length * 5 then World.all w1 B o else E.M B' o)=some x:=hx
   by_cases hc:B'=B∧o < rows.length * 5
   ·obtain⟨rfl,_⟩:=hc;exact .inr h4
   ·rw [if_neg hc] at hx';exact h.dV.mem B' o x hx'
  ·refine⟨h.pure.lvl,trivial,.inr ⟨B,0,cap,rfl,h3,gy h.pure.shaped (bA.lf (X:=cellsOf xs) ?_ (fun j x hj=>?_) h.pure.dN)⟩⟩
   ·exact (h9.ext (E':={ E with M:=fun B' o=>if B'=B∧o < rows.length * 5 then World.all w1 B o else E.M B' o }) m9 h.pure.ext).vQ.iQ ((fZ h.pure.shaped).2 h.pure.lvl)
   ·have hlt:j < rows.length * 5:=by rw [← h9.length,← gO];exact (aGs hj).1
    show (if B=B∧0 + j < rows.length * 5 then World.all w1 B (0 + j) else E.M B (0 + j))=some x
    rw [Nat.zero_add,if_pos ⟨rfl,hlt⟩]
    refine jO ?_ (Kn.block h5 (CN xs x (aMg hj)))
    simp only [World.cell?,h5]
    exact h10 j x hj
theorem EI:∃fn c,PP.funcs[183]?=some fn∧(fn.name == "runtime.NumGoroutine")=false∧fn.body=some c:=⟨_,_,Go.Proofs.Tryz.func183,by kernel_rfl,rfl⟩
theorem nZ {vs:List V} {v:V} (h:zd vs=some v):v=one vs∧within (aJ vs) 0∧vs.all gA=true:=by
 unfold zd at h
 obtain⟨h1,h⟩:=aE h
 cases h
 simp only [Bool.and_eq_true] at h1
 exact⟨rfl,cm h1.1,List.all_eq_true.2 (allB_mem h1.2)⟩
theorem HS (hC:CfgOk Tryz.cfg PP) (hR:cK Tryz.cfg PP R) {i7 i8:Nat} {a0 q0 q6 q7 u0 u1 v0 v1 v2 v3:Oper} {c1 c2:Call} (ho:Jt a0 q0 q6 q7 u0 u1 v0 v1 v2 v3 c1 c2) (e8:sp8=[v0,v1,v2,v3])
 {v:V} (hi:fQ M w E lc A a w1 rows hdr) (hA:A.tmps=spT) (hM:kZ M w) (hlen:rows.length≤9223372036854775807) (hv:uL R A rows=some v)
 (hQ:∀a3 w3,LeavesInM (Fw none) 0 PP Go.Proofs.Tryz.f154 a3.tmps (nf M w v) a3.defers .returning w3→Q .ret a3 w3) :
 (Code.seq (.region i7 #[u0,u1] false) (.seq (.region i8 #[v0,v1,v2,v3] false) .ret)).wpIn (Fw none) n PP Q a w1:=by
 refine wpIn_seq (wpIn_region_list (fG ho.u0g ?_))
 refine ff (uO ho.u0o (fun c hh=>by cases hh)) (cv:=hdr) (by unfold execOp;rw [ho.u0o];simp only [hi.Jz];rfl) ?_
 rw [ho.u0d]
 have hi1:=hi.free (q:=23) (kC (by decide) (by decide) hA) (by decide) hdr
 have hsz:=hi.size
 have e23:(a.put (some 23) hdr).eval (.tmp 23)=hdr:=eval_at (by omega)
 refine fG ho.u1g ?_
 have eL:c2.args.toList.map (a.put (some 23) hdr).eval=[hdr]:=by rw [ho.u1a];simp [e23]
 have Sf:Calls PP 183 ⟨[hdr]⟩ w1 fun e w2=>e=.returned (.tuple #[])∧fQ M w E lc A ((a.put (some 23) hdr).put (some 24) (.tuple #[])) w2 rows.reverse hdr:=by
  rcases hi.out with⟨rfl,rfl⟩ | ⟨B,cap,cur,e,xs,rfl,h2,h3,h4,h5,h6,h7,h8,h9,h10⟩
  ·refine (AV none 0 w1).mono ?_
   rintro e w2 ⟨rfl,rfl⟩
   exact⟨rfl,hi1.free (kC (by decide) (by decide) hA) (by decide) _⟩
  ·have hxl:=h9.length
   have hle:xs.length * 5≤cur.size:=by rw [h6,hxl];exact Nat.mul_le_mul_right _ h3
   have hc:=EA hC cap h5 h10 hle (by rw [hxl];exact hlen)
   rw [hxl] at hc
   refine hc.mono ?_
   rintro e' w2 ⟨rfl,k1,tV,k2,k3,k4⟩
   exact⟨rfl,(hi1.Qf (jI:=rows.reverse) (mv:=.slice (some ⟨B,0,none⟩) rows.length cap) k1 h4 h7 h8 h5 (.inr ⟨B,cap,tV,e,xs.reverse,by rw [List.length_reverse],by rw [List.length_reverse];exact h2,by rw [List.length_reverse];exact h3,h4,k2,by rw [k3,h6],h7,h8,h9.reverse,k4⟩) hi.pure.reverse rfl).free (kC (by decide) (by decide) hA) (by decide) _⟩
 refine wH (uO ho.u1o (fun c hh=>by cases hh)) (wI ho.u1o ho.u1f EI) (by rw [eL];exact Sf) ?_
 rintro e' w2 ⟨rfl,hi2⟩
 refine⟨_,rfl,?_⟩
 rw [ho.u1d]
 refine wpIn_seq (wpIn_region_list ?_)
 unfold uL at hv
 split at hv
 ·rename_i A1 S1 yy
  unfold fq at yy
  rw [e8] at yy
  have Qh : bE Tryz.cfg R (Tryz.cfg.fc 154) (fun _=>.any) [v0,v1,v2,v3] [v0] 0 A St.empty=some (A1,S1):=yy
  split at hv
  ·rename_i h26
   split at hv
   ·rename_i A2 S2 wx
    unfold fq at wx
    rw [e8] at wx
    have Qi : bE Tryz.cfg R (Tryz.cfg.fc 154) (fun _=>.any) [v0,v1,v2,v3] [v2] 2 A1 St.empty=some (A2,S2):=wx
    split at hv
    ·rename_i A3 hr3
     split at hv
     ·rename_i vs hvs
      obtain⟨rfl,hA3,_⟩:=gP hr3
      refine kB hC hR (ops:=#[v0,v1,v2,v3]) (rest:=[v1,v2,v3]) [v0] 0 hi2.cP hi2.ck Qh (fun E1 lc1 a1 w3 hk1 wv=>?_)
      have hi3:=hi2.res hk1 (fun o ho'=>by cases ho' with | head=>rw [ho.v0d];decide | tail _ h=>cases h) wv
      refine fG ho.v1g ?_
      refine ff (uO ho.v1o (fun c hh=>by cases hh)) (cv:=hdr) (by unfold execOp;rw [ho.v1o];simp only [hi3.Jz];rfl) ?_
      rw [ho.v1d]
      have hi4:=hi3.free (q:=26) h26 (by decide) hdr
      have Sg:(a1.put (some 26) hdr).tmps[26]?=some hdr:=by
       have hz:=hi3.size
       show (a1.tmps.setIfInBounds 26 hdr)[26]?=some hdr
       simp [show 26 < a1.tmps.size by omega]
      refine kB hC hR (ops:=#[v0,v1,v2,v3]) (rest:=[v3]) [v2] 2 hi4.cP hi4.ck Qi (fun E2 lc2 a2 w4 hk2 la=>?_)
      have hi5:=(hi4.res hk2 (fun o ho'=>by cases ho' with | head=>rw [ho.v2d];decide | tail _ h=>cases h) la).reset hr3
      have e26:a2.eval (.tmp 26)=hdr:=by
       show a2.tmps.getD 26 undef=hdr
       rw [Array.getD_eq_getD_getElem?,hk2.off 26 (fun o ho'=>by cases ho' with | head=>rw [ho.v2d];decide | tail _ h=>cases h),Sg];rfl
      refine fG ho.v3g ?_
      refine ff (uO ho.v3o (fun c hh=>by cases hh)) (cv:=hdr) (by unfold execOp;rw [ho.v3o];simp only [e26];rfl) ?_
      rw [ho.v3d]
      refine wpIn_ret (hQ _ _ ?_)
      obtain⟨Ef,k1,k2,k3,k4⟩:=hi5.told
      obtain⟨rfl,p1,p2⟩:=nZ hv
      have hE6:cC Ef St.empty lc2 { A3 with tmps:=(3,.list 5 .no 0 rows.reverse)::A3.tmps } (a2.put (some 3) hdr) w4:=
       ⟨by rw [iz];exact k2.nt,wc k2.tmps (by have:=hi5.size;omega) k4,k2.locs,k2.apart,k2.marks,k2.kY⟩
      exact wU k3 k1 hE6 hM hi5.marks hC hvs p1 p2
     ·cases hv
    ·cases hv
   ·cases hv
  ·cases hv
 ·cases hv
theorem JB (hC:CfgOk Tryz.cfg PP) (hR:cK Tryz.cfg PP R) {args:List V} {v:V} (h:pG R k (bg V.strip args)=some v):iR PP 154 args v:=by
 obtain⟨i3,i4,i5,i6,i7,i8,a0,h0,h1,h2,q0,q1,q2,q3,q4,q5,q6,q7,s0,s1,s2,s3,s4,u0,u1,v0,v1,v2,v3,c1,c2,CT,e4,e5,e6,e8,ho,d4,d5,d6⟩:=LK
 have hfn:Tryz.cfg.fn 154=some Go.Proofs.Tryz.f154:=rfl
 have hb:(Go.Proofs.Tryz.f154).body=some spB:=rfl
 have hok:codeOk (Tryz.cfg.fc 154) spB=true:=hC.body _ _ _ hfn hb
 have yB:∀c∈spC,codeOk (Tryz.cfg.fc 154) c=true:=by
  rw [CT] at hok
  obtain⟨k1,k2⟩:=bq.1 hok
  obtain⟨k3,k4⟩:=bq.1 k2
  intro c hc
  cases hc with
  | head=>exact k1
  | tail _ hc=>cases hc with
   | head=>exact k3
   | tail _ hc=>cases hc
 have wW:∀{R:Run} {A:Env} {rows:List V} {v:V},uL R A rows=some v→∃vs,v=one vs∧within (aJ vs) 0∧vs.all gA=true:=fun {R A rows v} h=>by
  unfold uL at h
  split at h
  ·split at h
   ·split at h
    ·split at h
     ·split at h
      ·exact⟨_,nZ h⟩
      ·cases h
     ·cases h
    ·cases h
   ·cases h
  ·cases h
 have hv:∃vs,v=one vs∧within (aJ vs) 0∧vs.all gA=true:=by
  unfold pG at h
  split at h
  ·split at h
   ·replace h:=(aE h).2
    split at h
    ·exact wW (aE h).2
    ·cases h
   ·cases h
  ·split at h
   ·exact⟨_,nZ h⟩
   ·cases h
  ·cases h
 obtain⟨vs0,rfl,hl0,hp0⟩:=hv
 refine⟨Gl hl0,zj hl0 hp0,fun M w X hM hX=>?_⟩
 refine (callsIn_wide (n:=0)).1 (callsIn_of_wp_marks (F:=Fw none) Go.Proofs.Tryz.func154 hb trivial ?_)
 have hE0:cC (only M) St.empty bw { nt:=(Go.Proofs.Tryz.f154).ntmps,tmps:=number 0 (bg V.strip args),locs:=[],fix:=[] } ⟨(⟨X⟩ : Array Value)++Array.replicate ((Go.Proofs.Tryz.f154).ntmps - X.length) undef,[]⟩ w:=by
  refine⟨by simp;omega,fun t v ht=>?_,⟨(fun d cs hd=>by cases hd),(fun d d' B hd=>by cases hd)⟩,fun B hB=>?_,fun d hd=>(by cases hd),List.Pairwise.nil⟩
  ·obtain⟨x,h1,h2⟩:=kA (show ao (only M) bw (bg V.strip args) X by rw [bD];exact hX) ht
   refine⟨x,?_,h2⟩
   have hlt:t < X.length:=(aGs h1).1
   rw [Array.getElem?_append_left (by simpa using hlt)]
   simpa using h1
  ·obtain⟨d,hd,_⟩:=hB;cases hd
 rw [CT]
 unfold pG at h
 split at h
 ·rename_i A1 S1 hev
  split at h
  ·rename_i A2 hr1
   obtain⟨rfl,hA2,hAl,_,hAn,_⟩:=gP hr1
   have hnt:=(aE h).1
   replace h:=(aE h).2
   rw [Nat.blt_eq] at hnt
   split at h
   ·rename_i A3 rows hlp
    have hlen:=Nat.le_of_ble_eq_true (aE h).1
    replace h:=(aE h).2
    rw [an] at hlen
    refine pB hC hR spC yB (gz hM) hE0 hev (fun E' lc' a' w' hl hr=>?_)
    have hmarks:∀d∈a'.defers,∃r,d.target=.collected r∧w.heap.size≤r:=fun d hd=>by
     rcases hl d hd with h | h
     ·cases h
     ·exact h
    have la:Res (only M) St.empty bw { nt:=(Go.Proofs.Tryz.f154).ntmps,tmps:=number 0 (bg V.strip args),locs:=[],fix:=[] } a' w E' St.empty lc' A2 w':=
     hr.we (Nat.le_of_eq (gP hr1).2.2.2.2.1) (gP hr1).2.2.2.2.2 (fun d=>by rw [hAl]) (gP hr1).2.2.2.1
    have HK:∀k,LP lc' A2.locs k→w.heap.size≤k:=fun k hk=>by
     rcases la.step.grow k (.inr hk) with hq | hq
     ·rcases hq with hq | ⟨d,hd,_⟩
      ·exact (gn hq).elim
      ·cases hd
     ·exact hq
    have hsz:26 < a'.tmps.size:=Nat.lt_of_lt_of_le hnt la.ck.nt
    refine wpIn_seq (wpIn_region_list (fG ho.a0g ?_))
    refine ff (uO ho.a0o (fun c hh=>by cases hh)) (cv:=.slice none 0 0) (by unfold execOp;rw [ho.a0o];rfl) ?_
    rw [ho.a0d]
    have hi:fQ M w E' lc' A2 (a'.put (some 4) (.slice none 0 0)) w' [] (.slice none 0 0):=
     { cP:=la.cP
       ck:=(nh (Res.refl la.cP la.ck) (kC (t:=4) (by decide) (by decide) hA2) _).ck
       dV:=lq.start rfl la
       loc:=HK
       t4:=by
        show (a'.tmps.setIfInBounds 4 (.slice none 0 0))[4]?=_
        simp [show 4 < a'.tmps.size by omega]
       out:=.inl ⟨rfl,rfl⟩
       pure:=fun r hr=>by cases hr
       size:=by rw [iz];exact hsz
       marks:=hmarks }
    refine wpIn_seq (wpIn_block (wpIn_loop_rounds k (wS hC hR e4 e5 e6 ho d4 d5 d6 k hi hA2 hlp (fun E2 lc2 a2 w2 UB hi2 hA3=>?_))))
    exact HS hC hR ho e8 hi2 hA3 hM hlen h (fun a3 w3 h3=>h3)
   ·cases h
  ·cases h
 ·rename_i A1 S1 hev
  split at h
  ·rename_i vs hvs
   obtain⟨h1,p1,p2⟩:=nZ h
   rw [h1]
   refine pB hC hR spC yB (gz hM) hE0 hev (fun E' lc' a' w' hl hr=>?_)
   refine wU (lq.start rfl hr) hr.cP hr.ck hM (fun d hd=>?_) hC hvs p1 p2
   rcases hl d hd with h | h
   ·cases h
   ·exact h
  ·cases h
 ·cases h
end
end Go.Ev
namespace Go.Ev
open Go.RowKit Go.Proofs
section
variable {M M' : Nat→Nat→Option Value} {E:Rho} {S:St} {lc:bZ} {A A2:Env} {a:Act} {w w' : World} {R:Run} {n k:Nat}
theorem zk {v:V} (h:∀vs,v≠.tuple vs):v.b8=v.strip:=by
 cases v<;>first | exact absurd rfl (h _) | rfl
theorem zp {v:V} (h:within (fW v) 0):∀vs,v≠.tuple vs:=fun vs e=>by
 subst e
 exact bU h
theorem Gm:∀{vs:List V},within (aJ vs) 0→within (one vs).b8.lvl 0
 | [],_=>⟨0,rfl,Nat.le_refl _⟩
 | [v],h=>by
  have hb:=(aX.1 h).1
  show within v.b8.lvl 0
  rw [zk (zp hb)]
  exact fm (by rw [jf];exact hb)
 | v::u::vs,h=>by
  show within (aJ (bg V.strip (v::u::vs))) 0
  rw [bD,dc];exact h
theorem LM (hM:∀B o x,E.M B o=some x→M' B o=some x):∀{vs:List V} {X:List Value},ao E lc vs X→within (aJ vs) 0→a7 (only M') bw (one vs).b8 (if h:X.length=1 then X[0] else .tuple ⟨X⟩)
 | [],X,h,_=>by
  cases h
  exact⟨rfl,[],rfl,rfl⟩
 | [v],X,h,hl=>by
  have hb:=(aX.1 hl).1
  obtain⟨x,Y,rfl,h1,h2⟩:=jj hM h hl
  cases h2
  show a7 (only M') bw v.b8 x
  rw [zk (zp hb)]
  exact h1
 | v::u::vs,X,h,hl=>by
  have h3:=jj hM h hl
  obtain⟨x,Y,rfl,h1,y,Z,rfl,h2⟩:=h
  have hne:¬(x::y::Z).length=1:=by simp
  rw [dif_neg hne]
  refine⟨?_,_,rfl,?_⟩
  ·rw [bD,dc];exact a6 hl
  ·rw [bD];exact h3
theorem ua (hg:lq M w E w') (hS:bI E S w') (hE:cC E S lc A a w') (hM:kZ M w) {fn:Func} (hd:∀d∈a.defers,∃r,d.target=.collected r∧w.heap.size≤r)
 (hC:CfgOk Tryz.cfg PP) {vs:List V} (hr:cR Tryz.cfg A S fn.results.toList=some vs) (hl:within (aJ vs) 0) :
 LeavesInM (Fw none) n PP fn a.tmps (nf M w (one vs).b8) a.defers .returning w':=by
 refine kz (w0:=w) a.defers w' hS hE hd (fun w'' h1 h2 h3 h4 h5 h6 h7=>?_)
 obtain⟨Y,k1,k2⟩:=iT hC h1 h2.tmps h2.locs hr
 have ej:(results fn a.tmps).run PP w''=.ok (if h:Y.length=1 then Y[0] else .tuple ⟨Y⟩) w'':=by
  rw [nS,Array.mapM_eq_mapM_toList]
  simp [k1]
 have wA:∀B o x,M B o=some x→B < w.heap.size:=fun B o x hx=>cZ (hM B o x hx).1
 have hgr:fp w w'':=⟨h3.trans hg.os,h4.trans hg.tape,h5.trans hg.output,by rw [h6];exact hg.size,fun k hk=>(h7 k hk).trans (hg.keep k hk)⟩
 refine⟨_,ej,_,fun B o=>if B < w.heap.size then M B o else World.all w'' B o,rfl,hgr,?_,?_,?_,?_⟩
 ·intro B o y hy
  by_cases hlt:B < w.heap.size
  ·simp only [hlt,if_true] at hy
   have:=hM B o y hy
   exact Kn.keep (hgr.keep B hlt) this
  ·simp only [hlt,if_false] at hy
   exact all_true w'' B o y hy
 ·intro B o y hy
  simp only [wA B o y hy,if_true];exact hy
 ·intro B o y hy
  by_cases hlt:B < w.heap.size
  ·simp only [hlt,if_true] at hy;exact .inl hy
  ·exact .inr (by omega)
 ·refine LM (M':=fun B o=>if B < w.heap.size then M B o else World.all w'' B o) (fun B o y hy=>?_) k2 hl
  show (if B < w.heap.size then M B o else World.all w'' B o)=some y
  rcases hg.mem B o y hy with hm | hm
  ·rw [if_pos (wA B o y hm)];exact hm
  ·rw [if_neg (by omega)];exact lT h1 B o y hy
theorem EJ {cs:List V} {B o:Nat} (h:bA E lc cs B 0):bA E lc (fP o cs) B o:=by
 rw [dz]
 have:=bA.drop o h
 rwa [Nat.zero_add] at this
theorem CU:∀{cs:List V} (o:Nat),within (aF cs) 0→within (aF (cs.drop o)) 0
 | [],o,h=>by simpa using h
 | c::cs,0,h=>h
 | c::cs,o + 1,h=>CU (cs:=cs) o (cB.1 h).2
theorem CV {l' : bZ} (hM:∀B o x,E.M B o=some x→M' B o=some x) {v:V} {x:Value} (hv:a7 E lc v x) (hp:within (fE v) 0):a7 (only M') l' (aj v) x:=by
 refine (dK (E:=E) (E':=only M') (l:=lc) (l':=l') (n:=0) ⟨hM,fun b B hlt _=>by omega⟩ (aj v)).1 x (iP (by rw [kb];exact hp)).1 (.inr ?_) hv.aj
 have:=kN v
 cases v with
 | agg cs=>exact absurd hp bU
 | tuple cs=>exact absurd hp bU
 | list sz tok top rows=>cases tok<;>exact this
 | _=>exact this
theorem wX {l' : bZ} (hM:∀B o x,E.M B o=some x→M' B o=some x):∀{cs:List V} {X:List Value},ao E lc cs X→within (aF cs) 0→ao (only M') l' (cs.map aj) X
 | [],X,h,_=>h
 | c::cs,X,h,hl=>by
  obtain⟨x,Y,rfl,h1,h2⟩:=h
  have hb:=cB.1 hl
  exact⟨x,Y,rfl,CV hM h1 hb.1,wX hM h2 hb.2⟩
structure Told (E:Rho) (M' : Nat→Nat→Option Value) (B0:Nat) (cs:List V):Prop where
 rho:E.ρ[0]?=some B0
 more:∀B o x,E.M B o=some x→M' B o=some x
 cells:∀l,bA (only M') l cs B0 0
 lvl:within (aF cs) 0
theorem Gn {cs:List V} {B0:Nat} {l' : bZ} (ht:Told E M' B0 cs) {v v' : V} {x:Value} (h:fzC cs v=some v') (hv:a7 E lc v x):a7 (only M') l' v' x∧within (fE v') 0:=by
 unfold fzC at h
 split at h
 ·rename_i o
  cases h
  obtain⟨B,h1,rfl⟩:=hv
  rw [ht.rho] at h1
  cases h1
  have hd:within (aF (fP o cs)) 0:=by rw [dz];exact CU o ht.lvl
  exact⟨⟨hd,_,o,rfl,EJ (ht.cells l')⟩,0,rfl,Nat.le_refl _⟩
 ·obtain⟨h1,h2⟩:=aE h
  cases h2
  have hp:=cm h1
  exact⟨CV ht.more hv hp,by rw [kb];exact hp⟩
theorem w6 {cs:List V} {B0:Nat} {l' : bZ} (ht:Told E M' B0 cs):∀{vs vs' : List V} {X:List Value},bP (fzC cs) vs=some vs'→ao E lc vs X→ao (only M') l' vs' X∧within (aF vs') 0
 | [],vs',X,h,hv=>by
  cases (show some ([]:List V)=some vs' from h)
  exact⟨hv,0,rfl,Nat.le_refl _⟩
 | v::vs,vs',X,h,hv=>by
  rw [bS] at h
  obtain⟨a,b,h1,h2,rfl⟩:=cT h
  obtain⟨x,Y,rfl,k1,k2⟩:=hv
  obtain⟨r1,r2⟩:=Gn (l':=l') ht h1 k1
  obtain⟨r3,r4⟩:=w6 (l':=l') ht h2 k2
  exact⟨⟨x,Y,rfl,r1,r3⟩,cB.2 ⟨r2,r4⟩⟩
theorem LN {cs:List V} {B0:Nat} (ht:Told E M' B0 cs) {v v' : V} {x:Value} (h:fzT cs v=some v') (hv:a7 E lc v x):a7 (only M') lc v' x:=by
 unfold fzT at h
 split at h
 ·rename_i l
  split at h
  ·rename_i m hm
   cases h
   obtain⟨h1,X,rfl,h2⟩:=hv
   obtain⟨r1,r2⟩:=w6 (l':=lc) ht hm h2
   exact⟨a6 r2,X,rfl,r1⟩
  ·cases h
 ·cases h;exact hv
 ·cases h
 ·exact (Gn ht h hv).1
theorem qw {cs:List V} {all:List (Nat×V)}:∀{l:List (Nat×V)} {t:Nat} {v' : V},look t (HP cs all l)=some v'→∃v,look t all=some v∧fzT cs v=some v'
 | [],t,v',h=>by cases (show (none:Option V)=some v' from h)
 | p::l,t,v',h=>by
  have e:HP cs all (p::l)=match look p.1 all with
   | some v=>(match fzT cs v with | some v=>(p.1,v)::HP cs all l | none=>HP cs all l)
   | none=>HP cs all l:=rfl
  rw [e] at h
  split at h
  ·rename_i v hv
   split at h
   ·rename_i v2 hv2
    by_cases hq:t=p.1
    ·subst hq
     rw [bB] at h
     cases h
     exact⟨v,hv,hv2⟩
    ·rw [aW hq] at h
     exact qw h
   ·exact qw h
  ·exact qw h
theorem pL {cs:List V}:∀{l l' : List (Nat×List V)} {d:Nat} {c' : List V},bP (fzL cs) l=some l'→look d l'=some c'→∃c,look d l=some c∧bP (fzC cs) c=some c'
 | [],l',d,c',h,h2=>by cases (show some ([]:List (Nat×List V))=some l' from h);cases h2
 | p::l,l',d,c',h,h2=>by
  rw [bS] at h
  obtain⟨a,b,k1,k2,rfl⟩:=cT h
  unfold fzL at k1
  split at k1
  ·rename_i m hm
   cases k1
   by_cases hq:d=p.1
   ·subst hq
    rw [bB] at h2
    cases h2
    exact⟨p.2,by rw [show p=(p.1,p.2) from rfl,bB],hm⟩
   ·rw [aW hq] at h2
    obtain⟨c,e1,e2⟩:=pL k2 h2
    exact⟨c,by rw [show p=(p.1,p.2) from rfl,aW hq];exact e1,e2⟩
  ·cases k1
theorem OD (hS:bI E S w) (hE:cC E S lc A a w) (h:tZ A S=some A2):∃M' B0,kZ M' w∧(∀B o x,M' B o=some x→E.M B o=some x∨B=B0)∧(∀B o x,E.M B o=some x→M' B o=some x)∧FP E S B0∧
 cC (only M') St.empty lc A2 a w∧(∀B,LP lc A2.locs B→LP lc A.locs B):=by
 unfold tZ at h
 split at h
 ·rename_i ty cs hb
  have hz:=(aE h).1
  replace h:=(aE h).2
  split at h
  ·rename_i ls hls
   cases h
   have hcs:=cm hz
   rw [bR] at hb
   have hlt:0 < E.ρ.length:=by rw [← hS.len];exact (aGs hb).1
   obtain⟨B0,hB0⟩ : ∃B0,E.ρ[0]?=some B0:=⟨_,aGe hlt⟩
   obtain⟨arr,ty0,k1,k2,k3,k4⟩ : bu E w B0 cs:=hS.blk 0 B0 _ hB0 hb
   have hF:FP E S B0:=.inl (aMg hB0)
   let M' : Nat→Nat→Option Value:=fun B o=>if B=B0 then World.all w B o else E.M B o
   have hM1:∀B o x,E.M B o=some x→M' B o=some x:=fun B o x hx=>by
    show (if B=B0 then World.all w B o else E.M B o)=some x
    split
    ·exact lT hS B o x hx
    ·exact hx
   have hT:kZ M' w:=fun B o x hx=>by
    by_cases hq:B=B0
    ·have hx' : World.all w B o=some x:=by
      have:=hx
      simp only [M',hq,if_true] at this
      rw [hq];exact this
     exact all_true w B o x hx'
    ·have hx' : E.M B o=some x:=by
      have:=hx
      simp only [M',hq,if_false] at this
      exact this
     exact hS.M B o x hx'
   have hcl:within (aF (bg aj cs)) 0:=by rw [bD];exact hD hcs
   have told:Told E M' B0 (bg aj cs):=by
    refine⟨hB0,hM1,fun l=>?_,hcl⟩
    rw [bD]
    have h4:ao (only M') l (cs.map aj) arr.toList:=wX hM1 k2 hcs
    refine bA.lf h4 (fun j y hj=>?_) (cA _)
    show (if B0=B0 then World.all w B0 (0 + j) else E.M B0 (0 + j))=some y
    rw [if_pos rfl]
    refine jO ?_ (by rw [Nat.zero_add];exact Kn.block k1 (k4 y (aMg hj)))
    rw [Nat.zero_add]
    simp only [World.cell?,k1]
    rw [Array.getElem?_toList] at hj
    exact hj
   have hLP:∀B,LP lc ls B→LP lc A.locs B:=fun B ⟨d,hd,hB⟩=>by
    obtain⟨c',hc'⟩:=Option.isSome_iff_exists.1 hd
    obtain⟨c,e1,_⟩:=pL hls hc'
    exact⟨d,by rw [e1];rfl,hB⟩
   refine⟨M',B0,hT,fun B o x hx=>?_,hM1,hF,⟨hE.nt,fun t v hv=>?_,⟨fun d c' hc'=>?_,fun d d' B h1 h2=>?_⟩,fun B hB=>?_,fun d hd=>?_,hE.kY⟩,hLP⟩
   ·by_cases hq:B=B0
    ·exact .inr hq
    ·have:=hx
     simp only [M',hq,if_false] at this
     exact .inl this
   ·obtain⟨u,e1,e2⟩:=qw hv
    obtain⟨x,x1,x2⟩:=hE.tmps t u e1
    exact⟨x,x1,LN told e2 x2⟩
   ·obtain⟨c,e1,e2⟩:=pL hls hc'
    obtain⟨B,b1,arr,ty1,b2,b3,b4,b5⟩:=hE.locs.cells d c e1
    obtain⟨r1,r2⟩:=w6 (l':=fun _=>none) told e2 b3
    exact⟨B,b1,arr,ty1,b2,r1,a6 r2,b5⟩
   ·obtain⟨c,hc⟩:=Option.isSome_iff_exists.1 h1
    obtain⟨c2,hc2⟩:=Option.isSome_iff_exists.1 h2
    obtain⟨c,e1,_⟩:=pL hls hc
    obtain⟨c2,e2,_⟩:=pL hls hc2
    exact hE.locs.inj d d' B (by rw [e1];rfl) (by rw [e2];rfl)
   ·obtain⟨a1,a2,a3⟩:=hE.apart B (hLP B hB)
    refine⟨fun hf=>gn hf,fun o=>?_,a3⟩
    show (if B=B0 then World.all w B o else E.M B o)=none
    rw [if_neg (fun hq:B=B0=>a1 (by rw [hq];exact hF))]
    exact a2 o
   ·obtain⟨r,r1,r2,_⟩:=hE.marks d hd
    exact⟨r,r1,r2,fun hf=>gn hf⟩
  ·cases h
 ·cases h
theorem sJ {F:FC}:∀{l:List Code} {z:Code},codeOk F (uE l z)=true→(∀c∈l,codeOk F c=true)∧codeOk F z=true
 | [],z,h=>⟨fun c hc=>(by cases hc),h⟩
 | c::l,z,h=>by
  obtain⟨h1,h2⟩:=bq.1 (show cu (codeOk F c) (codeOk F (uE l z))=true from h)
  obtain⟨h3,h4⟩:=sJ h2
  exact⟨fun d hd=>by
   cases hd with
   | head=>exact h1
   | tail _ hd=>exact h3 d hd,h4⟩
theorem kD {fn:Func} {v:V} (h:pK fn A S=some v):∃vs,cR Tryz.cfg A S fn.results.toList=some vs∧within (aJ vs) 0∧v=(one vs).b8:=by
 unfold pK at h
 split at h
 ·rename_i vs hvs
  have h1:=(aE h).1
  have h2:=(aE h).2
  cases h2
  exact⟨vs,hvs,cm h1,rfl⟩
 ·cases h
theorem w7 {id m:Nat} {fn:Func} (hC:CfgOk Tryz.cfg PP) (hR:cK Tryz.cfg PP R) (hfn:Tryz.cfg.fn id=some fn) (hb:fn.body=some (il fn)) (hsp:il fn=uE (uN m (il fn)) (nr m (il fn)))
 {args:List V} {v:V} (h:sH id m fn R k (bg V.strip args)=some v):iR PP id args v:=by
 obtain⟨hf1,_⟩:=hC.fn id fn hfn
 have hok:codeOk (Tryz.cfg.fc id) (il fn)=true:=hC.body _ _ _ hfn hb
 rw [hsp] at hok
 obtain⟨yB,OE⟩:=sJ hok
 have hv:∃vs,v=(one vs).b8∧within (aJ vs) 0:=by
  unfold sH at h
  split at h
  ·split at h
   ·split at h
    ·cases h
    ·obtain⟨vs,_,h2,h3⟩:=kD h;exact⟨vs,h3,h2⟩
    ·cases h
   ·cases h
  ·obtain⟨vs,_,h2,h3⟩:=kD h;exact⟨vs,h3,h2⟩
  ·cases h
 obtain⟨vs0,hv0,hl0⟩:=hv
 refine⟨by rw [hv0];exact Gm hl0,by rw [hv0];exact l3 _,fun M w X hM hX=>?_⟩
 refine (callsIn_wide (n:=0)).1 (callsIn_of_wp_marks (F:=Fw none) hf1 hb trivial ?_)
 have hE0:cC (only M) St.empty bw { nt:=fn.ntmps,tmps:=number 0 (bg V.strip args),locs:=[],fix:=[] } ⟨(⟨X⟩ : Array Value)++Array.replicate (fn.ntmps - X.length) undef,[]⟩ w:=by
  refine⟨by simp;omega,fun t v ht=>?_,⟨(fun d cs hd=>by cases hd),(fun d d' B hd=>by cases hd)⟩,fun B hB=>?_,fun d hd=>(by cases hd),List.Pairwise.nil⟩
  ·obtain⟨x,h1,h2⟩:=kA (show ao (only M) bw (bg V.strip args) X by rw [bD];exact hX) ht
   refine⟨x,?_,h2⟩
   have hlt:t < X.length:=(aGs h1).1
   rw [Array.getElem?_append_left (by simpa using hlt)]
   simpa using h1
  ·obtain⟨d,hd,_⟩:=hB;cases hd
 rw [hsp]
 unfold sH at h
 split at h
 ·rename_i A1 S1 hev
  refine pB hC hR _ yB (gz hM) hE0 hev (fun E' lc' a' w' hl hr=>?_)
  have hmarks:∀d∈a'.defers,∃r,d.target=.collected r∧w.heap.size≤r:=fun d hd=>by
   rcases hl d hd with h | h
   ·cases h
   ·exact h
  have hg0:lq M w E' w':=lq.start rfl hr
  split at h
  ·rename_i A2 hfz
   obtain⟨M',B0,hT,hM1,hM2,hF,hE2,hLP⟩:=OD hr.cP hr.ck hfz
   have hB0:w.heap.size≤B0:=wL rfl hr hF
   have hLw:∀B,LP lc' A2.locs B→w.heap.size≤B:=fun B hB=>by
    rcases hr.step.grow B (.inr (hLP B hB)) with hq | hq
    ·rcases hq with hq | ⟨d,hd,_⟩
     ·exact (gn hq).elim
     ·cases hd
    ·exact hq
   have hFL:∀B,FL (only M') St.empty lc' A2 B→w.heap.size≤B:=fun B hB=>by
    rcases hB with hq | hq
    ·exact (gn hq).elim
    ·exact hLw B hq
   split at h
   ·cases h
   ·rename_i e2 A3 S3 hne wx
    obtain⟨vs,hvs,hlv,rfl⟩:=kD h
    refine nk hC hR none id _ OE (.inl rfl) 0 (gz hT) hE2 wx (fun E3 lc3 a3 w3 hl3 hr3=>?_)
    have hg:lq M w E3 w3:=by
     refine⟨hr3.step.os.trans hg0.os,hr3.step.tape.trans hg0.tape,hr3.step.output.trans hg0.output,Nat.le_trans hg0.size hr3.step.size,fun j hj=>?_,fun B o x hx=>?_⟩
     ·exact (hr3.step.keep j (Nat.lt_of_lt_of_le hj hg0.size) (fun hf=>by have:=hFL j hf;omega)).trans (hg0.keep j hj)
     ·rcases hr3.step.oN B o x hx with hq | hq | hq
      ·rcases hM1 B o x hq with hq | hq
       ·exact hg0.mem B o x hq
       ·exact .inr (by rw [hq];exact hB0)
      ·exact .inr (hFL B hq)
      ·exact .inr (Nat.le_trans hg0.size hq)
    have A9:∀d∈a3.defers,∃r,d.target=.collected r∧w.heap.size≤r:=fun d hd=>by
     rcases hl3 d hd with hq | ⟨r,r1,r2⟩
     ·exact hmarks d hq
     ·exact⟨r,r1,Nat.le_trans hg0.size r2⟩
    have uB:=ua (n:=0) hg hr3.cP hr3.ck hM (fn:=fn) A9 hC hvs hlv
    cases e2 with
    | normal=>exact uB
    | ret=>exact uB
    | exit id=>exact (hne _ rfl).elim
   ·cases h
  ·cases h
 ·rename_i A1 S1 hev
  obtain⟨vs,hvs,hlv,rfl⟩:=kD h
  refine pB hC hR _ yB (gz hM) hE0 hev (fun E' lc' a' w' hl hr=>?_)
  refine ua (lq.start rfl hr) hr.cP hr.ck hM (fun d hd=>?_) hC hvs hlv
  rcases hl d hd with h | h
  ·cases h
  ·exact h
 ·cases h
end
section
variable {M M' : Nat→Nat→Option Value} {E:Rho} {S:St} {lc:bZ} {A A2:Env} {a:Act} {w w' : World} {R:Run} {n k:Nat}
theorem CW {C:Cfg} {P:Program} {F:FC} {ro:Option Nat} {Q:Exit→Act→World→Prop} (hC:CfgOk C P) (hR:cK C P R) {ops:Array Oper} {ac:Nat→Acc} {l2:List Oper}:∀(l:List Oper) (i:Nat) {E:Rho} {S:St} {lc:bZ} {A:Env} {a:Act} {w:World} {r:Env×St},
 bI E S w→cC E S lc A a w→bE C R F ac ops.toList l i A S=some r→
 (∀E' lc' a' w',a'.defers=a.defers→Res E S lc A a' w E' r.2 lc' r.1 w'→wpListIn (Fw ro) n P ops Q l2 a' w')→wpListIn (Fw ro) n P ops Q (l++l2) a w
 | [],i,E,S,lc,A,a,w,r,hS,hE,h,hQ=>by
  rw [mw] at h
  cases h
  exact hQ _ _ _ _ rfl (Res.refl hS hE)
 | o::l,i,E,S,lc,A,a,w,r,hS,hE,h,hQ=>by
  rw [gX] at h
  exact qp hC hR hS hE h (fun E' lc' A' S' a' w' hd hr hg=>
   CW hC hR l (i + 1) hr.cP hr.ck hg (fun E'' HB a'' w'' hd' hr'=>hQ _ _ _ _ (hd'.trans hd) (hr.trans hr')))
theorem Ba {B o:Nat} {x:Value} (h:w.cell? ⟨B,o,none⟩=some x):w.setCell ⟨B,o,none⟩ x=w:=by
 unfold World.cell? at h
 split at h
 ·rename_i c ty fr hb
  simp only [Option.isSome_none,Bool.false_eq_true,if_false] at h
  have hlt:B < w.heap.size:=(aGa hb).1
  have hB:w.heap[B]=.cells c ty fr:=(aGa hb).2
  have hc:c.setIfInBounds o x=c:=by
   obtain⟨h1,h2⟩:=aGa h
   apply Array.ext
   ·rw [Array.size_setIfInBounds]
   ·intro i i1 i2
    by_cases hi:o=i
    ·subst hi;simp [h2]
    ·rw [Array.getElem_setIfInBounds_ne _ hi]
  have:w.heap.modify B (fun | .cells c ty fr=>.cells (if (⟨B,o,none⟩ : Addr).spot.isSome then c else c.setIfInBounds o x) ty fr | ob=>ob)=w.heap:=by
   apply Array.ext
   ·rw [Array.size_modify]
   ·intro i i1 i2
    rw [Array.getElem_modify]
    split
    ·rename_i hi;subst hi
     rw [hB]
     simp [hc]
    ·rfl
  unfold World.setCell
  simp only
  cases w
  congr
 ·cases h
theorem OF:11 < mG.length:=by rw [show mG.length=12 by kernel_rfl];decide
noncomputable def CX:Oper:=mG.get ⟨11,OF⟩
theorem JC:∃i,il Go.Proofs.Tryz.f131=uE (uN 2 lfB) (.seq (.region i ⟨mG⟩ false) (nr 3 lfB))∧mG=takeN 11 mG++[CX]∧CX.op=.store 4 (.tmp 25) (.tmp 23)∧CX.dst=none∧CX.guard=none:=
 ⟨2,by kernel_rfl,by kernel_rfl,by kernel_rfl,by kernel_rfl,by kernel_rfl⟩
theorem lift_pure (hC:CfgOk Tryz.cfg PP) (hR:cK Tryz.cfg PP R) {args:List V} {v:V} (h:sG R k (bg V.strip args)=some v):iR PP 131 args v:=by
 obtain⟨ri,hsp,Sj,ho,D7,hgd⟩:=JC
 have hb:Go.Proofs.Tryz.f131.body=some (il Go.Proofs.Tryz.f131):=rfl
 have hfn:Tryz.cfg.fn 131=some Go.Proofs.Tryz.f131:=rfl
 obtain⟨hf1,_⟩:=hC.fn 131 _ hfn
 have hok:codeOk (Tryz.cfg.fc 131) (il Go.Proofs.Tryz.f131)=true:=hC.body _ _ _ hfn hb
 rw [hsp] at hok
 obtain⟨yB,OE⟩:=sJ hok
 obtain⟨_,Sk⟩:=bq.1 (show cu (codeOk _ _) (codeOk _ (nr 3 lfB))=true from OE)
 unfold sG at h
 split at h
 ·rename_i A1 S1 hev
  split at h
  ·rename_i A2 S2 wx
   split at h
   ·rename_i cs Sl Sn
    split at h
    ·cases h
    ·rename_i e A3 S3 hne JA
     obtain⟨vs,hvs,hlv,rfl⟩:=kD h
     refine⟨Gm hlv,l3 _,fun M w X hM hX=>?_⟩
     refine (callsIn_wide (n:=0)).1 (callsIn_of_wp_marks (F:=Fw none) hf1 hb trivial ?_)
     have hE0:cC (only M) St.empty bw { nt:=Go.Proofs.Tryz.f131.ntmps,tmps:=number 0 (bg V.strip args),locs:=[],fix:=[] } ⟨(⟨X⟩ : Array Value)++Array.replicate (Go.Proofs.Tryz.f131.ntmps - X.length) undef,[]⟩ w:=by
      refine⟨by simp;omega,fun t v ht=>?_,⟨(fun d cs hd=>by cases hd),(fun d d' B hd=>by cases hd)⟩,fun B hB=>?_,fun d hd=>(by cases hd),List.Pairwise.nil⟩
      ·obtain⟨x,h1,h2⟩:=kA (show ao (only M) bw (bg V.strip args) X by rw [bD];exact hX) ht
       refine⟨x,?_,h2⟩
       have hlt:t < X.length:=(aGs h1).1
       rw [Array.getElem?_append_left (by simpa using hlt)]
       simpa using h1
      ·obtain⟨d,hd,_⟩:=hB;cases hd
     rw [hsp]
     refine pB hC hR _ yB (gz hM) hE0 hev (fun E' lc' a' w' hl hr=>?_)
     refine wpIn_seq (wpIn_region_list ?_)
     rw [show (⟨mG⟩ : Array Oper).toList=takeN 11 mG++[CX] from Sj]
     refine CW hC hR (ops:=⟨mG⟩) (ac:=fun _=>.any) (F:=Tryz.cfg.fc 131) _ 0 hr.cP hr.ck wx (fun E2 lc2 a2 w2 hd2 hr2=>?_)
     refine fG hgd ?_
     obtain⟨hp1,B,o,e25,hp3,_⟩:=aM hr2.ck.tmps (show operand A2 (.tmp 25)=some _ from Sl)
     have e23:a2.eval (.tmp 23)=.bool false:=aM hr2.ck.tmps (show operand A2 (.tmp 23)=some _ from Sn)
     obtain⟨_,y,hy,hy2⟩:=hp3
     obtain rfl:y=.bool false:=hy2
     obtain⟨hc1,hc2⟩:=hr2.cP.M B o _ hy
     have Sq:=hc2.2 _ rfl
     have hi:=hC.ti 4 _ (show Tryz.cfg.ti 4=some Tryz.ti4 from rfl)
     have ej:(Instr.storeAt 4 (.pointer (some ⟨B,o,none⟩)) (.bool false)).run PP w2=.ok () w2:=by
      have hst:(storeCells ⟨B,o,none⟩ [Value.bool false]).run PP w2=.ok () w2:=by
       have h1:(Go.store ⟨B,o,none⟩ (.bool false)).run PP w2=.ok () w2:=by
        rw [run_store PP w2 ⟨B,o,none⟩ (.bool false) _ rfl,hc1]
        simp only [Sq,Ba hc1,Bool.false_eq_true,if_false]
       simp only [storeCells,Addr.add,if_true,Sem.run_bind,h1,Result.andThen_ok]
       rfl
      simp only [Instr.storeAt,Instr.sureAddr,Sem.run_bind,Sem.run_pure,Result.andThen_ok,storeVar,hi.dm,show (Value.bool false).cells.size=Tryz.ti4.size from rfl,ne_eq,not_true_eq_false,if_false]
      exact hst
     refine oW (w':=w2) (fun c hc=>by rw [ho] at hc;cases hc) (by unfold execOp;rw [ho];simp only [e25,e23,Sem.run_bind,ej];rfl) ?_
     rw [D7]
     refine (show _→wpListIn (Fw none) 0 PP ⟨mG⟩ _ [] (a2.put none undef) w2 from id) ?_
     have LO:=hr.trans hr2
     have hg0:lq M w E2 w2:=lq.start rfl LO
     have hmarks:∀d∈a2.defers,∃r,d.target=.collected r∧w.heap.size≤r:=fun d hd=>by
      rw [hd2] at hd
      rcases hl d hd with h | h
      ·cases h
      ·exact h
     refine nk (k:=k) hC hR none 131 _ Sk (.inl rfl) 0 LO.cP LO.ck JA (fun E3 lc3 a3 w3 hl3 hr3=>?_)
     have Ss:=LO.trans hr3
     have hg:lq M w E3 w3:=lq.start rfl Ss
     have A9:∀d∈a3.defers,∃r,d.target=.collected r∧w.heap.size≤r:=fun d hd=>by
      rcases hl3 d hd with hq | ⟨r,r1,r2⟩
      ·exact hmarks d hq
      ·exact⟨r,r1,Nat.le_trans hg0.size r2⟩
     have uB:=ua (n:=0) hg hr3.cP hr3.ck hM (fn:=Go.Proofs.Tryz.f131) A9 hC hvs hlv
     cases e with
     | normal=>exact uB
     | ret=>exact uB
     | exit id=>exact (hne _ rfl).elim
    ·cases h
   ·cases h
  ·cases h
 ·cases h
end
section
variable {C:Cfg} {P:Program} {R:Run} {F:FC} {ac:Nat→Acc} {ops:Array Oper} {anc:Nat→List Nat} {ro:Option Nat} {n:Nat} {Q:Exit→Act→World→Prop} {S' : St}
 {J:Array Bool→Env→St→Act→World→Prop}
theorem CY (hl:mQ C R) (hs:wq F ops.toList ac anc)
 (gr:∀(aK:Array Bool) (i:Nat) (o:Oper) (A A1:Env) (S S1:St) (a:Act) (w:World),ops[i]?=some o→aK.getD i true=false→aK.size=ops.size→Clean F o A→J aK A S a w→act C R F (ac i) ops.toList o A S=some (A1,S1)→
  ∀K:Act→World→Prop,(∀a' w',J (aK.setIfInBounds i true) A1 S1 a' w'→K a' w')→
   if Region.wanted o (yielded ops a.tmps) then o.wpIn (Fw ro) n P a w K Q else (∀f,o.about P w a.eval=some f→(Fw ro).fn f)∧K (a.put o.dst undef) w):∀(fuel:Nat) (rem:List (Nat×Oper)) (aK:Array Bool) {S:St} {A:Env} {a:Act} {w:World} {A' : Env},
 rem.length=fuel→rem.Pairwise (fun p q=>p.1 < q.1)→(∀p,p∈rem↔ops[p.1]?=some p.2∧aK.getD p.1 true=false)→aK.size=ops.size→
 (∀j,aK.getD j false=true→∀k∈anc j,aK.getD k false=true)→gL F rem A→J aK A S a w→
 jk C R F ac ops.toList rem A S=some (A',S')→(∀ga a' w' B',Eqv A' B'→J ga B' S' a' w'→Q .normal a' w')→
 wpAnyIn (Fw ro) n P .any ops Q fuel aK a w
 | 0,rem,aK,S,A,a,w,A',hlen,_,dB,_,_,_,hJ,hev,hQ=>by
  obtain rfl:=List.length_eq_zero_iff.1 hlen
  refine⟨List.eq_nil_iff_forall_not_mem.2 fun i hi=>?_,?_⟩
  ·obtain⟨h1,o,h2,_⟩:=mem_ready.1 hi
   have:=(dB (i,o)).2 ⟨h2,h1⟩
   cases this
  ·unfold jk at hev
   cases hev
   exact hQ _ _ _ _ (Eqv.refl _) hJ
 | fuel + 1,rem,aK,S,A,a,w,A',hlen,hpw,dB,hsz,hcl,kQ,hJ,hev,hQ=>by
  have sq:∀(j:Nat) (o:Oper),ops[j]?=some o→¬aK.getD j true=false→aK.getD j false=true:=fun j o ho hn=>by
   have hj:j < aK.size:=by rw [hsz];exact (aGa ho).1
   simp [hj] at hn ⊢;exact hn
  have hfa:jR F rem:=by
   refine List.Pairwise.imp_of_mem (R:=fun p q=>p.1 < q.1) (fun {p q} hp hq hlt=>?_) hpw
   exact hs.fresh p.1 q.1 p.2 q.2 hlt (by rw [Array.getElem?_toList];exact ((dB p).1 hp).1) (by rw [Array.getElem?_toList];exact ((dB q).1 hq).1)
  refine⟨fun hr=>?_,fun i hi=>?_⟩
  ·exfalso
   cases rem with
   | nil=>cases hlen
   | cons p rem=>
    obtain⟨h1,h2⟩:=(dB p).1 (aMs)
    have hin:p.1∈Region.ready .any ops aK:=mem_ready.2 ⟨h2,p.2,h1,fun e he hb=>by
     have hlt:=hs.Lu p.1 p.2 (by rw [Array.getElem?_toList];exact h1) e (by simpa using he) hb
     have hje:e.on < ops.size:=Nat.lt_trans hlt (aGa h1).1
     refine sq e.on _ (Array.getElem?_eq_getElem hje) fun hun=>?_
     have hme:=(dB (e.on,ops[e.on])).2 ⟨Array.getElem?_eq_getElem hje,hun⟩
     cases hme with
     | head=>exact absurd hlt (Nat.lt_irrefl _)
     | tail _ hme=>have:=(List.pairwise_cons.1 hpw).1 _ hme;simp only at this;omega⟩
    rw [hr] at hin
    cases hin
  ·obtain⟨hun,o,ho,cg⟩:=mem_ready.1 hi
   have him:=(dB (i,o)).2 ⟨ho,hun⟩
   obtain⟨pre,post,rfl⟩:=List.append_of_mem him
   have wu:=List.pairwise_append.1 hpw
   have hup:∀k∈anc i,aK.getD k false=true:=fun k hk=>by
    obtain⟨e,he,hb,hor⟩:=hs.up i o (by rw [Array.getElem?_toList];exact ho) k hk
    have hle:=cg e (by simpa using he) hb
    rcases hor with rfl | hor
    ·exact hle
    ·exact hcl _ hle k hor
   have I0:∀p∈pre,qU ops.toList p.2 o (ac p.1) (ac i):=fun p hp=>by
    have hlt:p.1 < i:=wu.2.2 p hp _ (aMs)
    have hpm:=(dB p).1 (List.mem_append_left _ hp)
    rcases hs.pair p.1 i p.2 o hlt (by rw [Array.getElem?_toList];exact hpm.1) (by rw [Array.getElem?_toList];exact ho) with h | h
    ·exact (nR hpm.2 (hup _ h)).elim
    ·exact h
   obtain⟨A1,S1,B',k1,k2,k3⟩:=nQ hl pre I0 kQ hfa hev
   have sr:gL F (pre++post) A1:=fun p hp=>by
    have hpm:p∈pre++(i,o)::post:=by
     rcases List.mem_append.1 hp with h | h
     ·exact List.mem_append_left _ h
     ·exact List.mem_append_right _ (aMt _ h)
    refine iS hl (kQ _ him) (kQ p hpm) ?_ k1
    rcases List.mem_append.1 hp with h | h
    ·exact fun d hd hd'=>(List.pairwise_append.1 hfa).2.2 p h _ (aMs) d hd' hd
    ·exact (List.pairwise_cons.1 (List.pairwise_append.1 hfa).2.1).1 p h
   have dy:∀a1 w1,J (aK.setIfInBounds i true) A1 S1 a1 w1→wpAnyIn (Fw ro) n P .any ops Q fuel (aK.setIfInBounds i true) a1 w1:=fun a1 w1 hJ1=>by
    refine CY hl hs gr fuel (pre++post) (aK.setIfInBounds i true) ?_ ?_ ?_ ?_ ?_ sr hJ1 k2 (fun ga a' w' B'' he hr=>hQ _ _ _ _ (k3.trans he) hr)
    ·simp only [aLa,aLc] at hlen ⊢;omega
    ·exact hpw.sublist (List.Sublist.append_left (List.sublist_cons_self _ _) _)
    ·intro p
     constructor
     ·intro hp
      have hpm:p∈pre++(i,o)::post:=by
       rcases List.mem_append.1 hp with h | h
       ·exact List.mem_append_left _ h
       ·exact List.mem_append_right _ (aMt _ h)
      have hne:i≠p.1:=by
       rcases List.mem_append.1 hp with h | h
       ·have:=wu.2.2 p h _ (aMs);simp only at this;omega
       ·have:=(List.pairwise_cons.1 wu.2.1).1 p h;simp only at this;omega
      obtain⟨q1,q2⟩:=(dB p).1 hpm
      exact⟨q1,by rw [getD_set_ne true hne];exact q2⟩
     ·rintro⟨q1,q2⟩
      have hne:i≠p.1:=fun e=>by
       rw [← e] at q2
       have hj:i < aK.size:=by rw [hsz];exact (aGa ho).1
       simp [hj] at q2
      rw [getD_set_ne true hne] at q2
      have hpm:=(dB p).2 ⟨q1,q2⟩
      rcases List.mem_append.1 hpm with h | h
      ·exact List.mem_append_left _ h
      ·cases h with
       | head=>exact absurd rfl hne
       | tail _ h=>exact List.mem_append_right _ h
    ·rw [Array.size_setIfInBounds];exact hsz
    ·intro j hj k hk
     by_cases hij:i=j
     ·subst hij;exact getD_set_true (hup k hk)
     ·rw [getD_set_ne false hij] at hj;exact getD_set_true (hcl j hj k hk)
   unfold wpOpIn
   simp only [ho]
   exact gr aK i o A A1 S S1 a w ho hun hsz (kQ _ him) hJ k1 _ dy
theorem EK (hm:P.follows .mixedOrders=true) (hl:mQ C R) {id:Nat} {e:Ex} {A A1:Env} {S:St} {a:Act} {w:World} (hok:ql F id ops=true) (hsp:gY ops.toList=none)
 (gr:∀(aK:Array Bool) (i:Nat) (o:Oper) (A A1:Env) (S S1:St) (a:Act) (w:World),ops[i]?=some o→aK.getD i true=false→aK.size=ops.size→Clean F o A→J aK A S a w→act C R F (F.acc id i) ops.toList o A S=some (A1,S1)→
  ∀K:Act→World→Prop,(∀a' w',J (aK.setIfInBounds i true) A1 S1 a' w'→K a' w')→
   if Region.wanted o (yielded ops a.tmps) then o.wpIn (Fw ro) n P a w K Q else (∀f,o.about P w a.eval=some f→(Fw ro).fn f)∧K (a.put o.dst undef) w)
 (hJ:J (Array.replicate ops.size false) { A with tmps:=di F ops.toList A.tmps } S a { w with drawn:=w.drawn + 1 }) (h:eU C R F id ops true A S=some (e,A1,S'))
 (hQ:∀ga a' w' B',(∀t v,look t A1.tmps=some v→look t B'.tmps=some v)→J ga B' S' a' w'→Q .normal a' w') :
 e=.normal∧(Code.region id ops true).wpIn (Fw ro) n P Q a w:=by
 simp only [eU,yD,hsp] at h
 unfold after at h
 split at h
 ·rename_i A'' S'' hx
  cases h
  refine⟨rfl,?_⟩
  obtain⟨anc,hs⟩:=uy hok
  refine wpIn_region_any hm ?_
  refine CY hl hs gr ops.size (number 0 ops.toList) (Array.replicate ops.size false) ?_ (iC _ _) ?_ (by simp) ?_ ?_ hJ (su C R F (F.acc id) ops.toList ops.toList 0 hx) ?_
  ·rw [kc];simp
  ·intro p
   rw [gN]
   simp only [Nat.zero_le,true_and,Nat.sub_zero,Array.getElem?_toList]
   constructor
   ·intro hp
    have hj:=(aGa hp).1
    exact⟨hp,by simp [hj]⟩
   ·exact fun hp=>hp.1
  ·intro j hj
   exfalso
   rcases Nat.lt_or_ge j ops.size with h | h
   ·simp [h] at hj
   ·simp [Nat.not_lt.2 h] at hj
  ·intro p hp d hd t u ht
   have hpm:=(gN.1 hp).2
   rw [Nat.sub_zero] at hpm
   exact (ez _ _ ht).2 p.2 (aMg hpm) d hd
  ·intro ga a' w' B' he hr
   exact hQ ga a' w' B' (fun t v ht=>by rw [← he.tmps];exact ky ht) hr
 ·cases h
theorem LQ (hC:CfgOk C P) (hR:cK C P R) {E:Rho} {S S1:St} {lc:bZ} {A A1:Env} {a:Act} {w:World} (hS:bI E S w) (hE:cC E S lc A a w) {ac:Acc} {o:Oper}
 (h:act C R F ac ops.toList o A S=some (A1,S1)) {K:Act→World→Prop}
 (hK:∀E' lc' a' w' x,a'=a.put o.dst x→Res E S lc A a' w E' S1 lc' A1 w'→K a' w') :
 if Region.wanted o (yielded ops a.tmps) then o.wpIn (Fw ro) n P a w K Q else (∀f,o.about P w a.eval=some f→(Fw ro).fn f)∧K (a.put o.dst undef) w:=by
 unfold act bE.one at h
 split at h
 ·rename_i hw
  rw [lG hE.tmps hw]
  simp only [if_true]
  unfold bE.back at h
  split at h
  ·rename_i v A' S' hx
   split at h
   ·rename_i A'' hp
    cases h
    exact rG hC hR hS hE hx (fun E' lc' w' cv hr hv=>hK _ _ _ _ _ rfl (nP hr hv hp))
   ·cases h
  ·cases h
 ·rename_i hw
  rw [lG hE.tmps hw]
  simp only [Bool.false_eq_true,if_false]
  refine⟨fun _ _=>trivial,?_⟩
  unfold bE.back at h
  simp only at h
  split at h
  ·rename_i A'' hp
   cases h
   exact hK _ _ _ _ _ rfl (nP (Res.refl hS hE) tQ hp)
  ·cases h
 ·cases h
end
def ke (E:Rho) (g:Nat):Nat→Nat→Option Value:=fun B o=>if B=g then none else E.M B o
section
variable {E:Rho} {l l' : bZ} {g:Nat}
theorem dY:∀{cs:List V} {B o:Nat},wQ cs=true→bA E l cs B o→∃j k z,E.M B j=some (.int k z)
 | .int k z::cs,B,o,_,h=>by
  obtain⟨⟨_,x,h1,h2⟩,_⟩:=h
  exact⟨o,k,z,by rw [h1];exact congrArg some h2⟩
 | [],B,o,h,_=>by cases h
 | .bool _::cs,B,o,h,hc=>dY (cs:=cs) h hc.2
 | .str _::cs,B,o,h,hc=>dY (cs:=cs) h hc.2
 | .nilp::cs,B,o,h,hc=>dY (cs:=cs) h hc.2
 | .ptr _ _::cs,B,o,h,hc=>dY (cs:=cs) h hc.2
 | .imm _ _::cs,B,o,h,hc=>dY (cs:=cs) h hc.2
 | .list _ _ _ _::cs,B,o,h,hc=>dY (cs:=cs) h hc.2
 | .slc _ _ _ _ _::cs,B,o,h,hc=>dY (cs:=cs) h hc.2
 | .nilf::cs,B,o,h,hc=>dY (cs:=cs) h hc.2
 | .fn _ _ _ _::cs,B,o,h,hc=>dY (cs:=cs) h hc.2
 | .yield _::cs,B,o,h,hc=>dY (cs:=cs) h hc.2
 | .nilm::cs,B,o,h,hc=>dY (cs:=cs) h hc.2
 | .map _::cs,B,o,h,hc=>dY (cs:=cs) h hc.2
 | .agg _::cs,B,o,h,hc=>dY (cs:=cs) h hc.2
 | .tuple _::cs,B,o,h,hc=>dY (cs:=cs) h hc.2
theorem zq (hg:∀j x,E.M g j=some x→∃s,x=.string s) {cs:List V} {B o:Nat} (h:wQ cs=true) (hc:bA E l cs B o):B≠g:=fun e=>by
 subst e
 obtain⟨j,k,z,h1⟩:=dY h hc
 obtain⟨s,h2⟩:=hg j _ h1
 cases h2
theorem CZ (hg:∀j x,E.M g j=some x→∃s,x=.string s):(v:V)→(niS v=true→∀x,a7 E l v x→a7 (only (ke E g)) l' v x)∧(niA v=true→∀sz B o,qO E l sz v B o→B≠g∧qO (only (ke E g)) l' sz v B o):=by
 refine V.rec (motive_1:=fun v=>(niS v=true→∀x,a7 E l v x→a7 (only (ke E g)) l' v x)∧(niA v=true→∀sz B o,qO E l sz v B o→B≠g∧qO (only (ke E g)) l' sz v B o))
  (motive_2:=fun vs=>(niL vs=true→∀B o,B≠g→bA E l vs B o→bA (only (ke E g)) l' vs B o)∧(niR vs=true→∀sz B o,cS E l sz vs B o→cS (only (ke E g)) l' sz vs B o))
  ?bool ?int ?str ?nilp ?ptr ?imm ?list ?slc ?nilf ?fn ?yield ?nilm ?map ?agg ?tuple ?nil ?cons
 case bool=>intro b;exact⟨fun _ x h=>h,fun h=>by simp [niA] at h⟩
 case int=>intro k m;exact⟨fun _ x h=>h,fun h=>by simp [niA] at h⟩
 case str=>intro s;exact⟨fun _ x h=>h,fun h=>by simp [niA] at h⟩
 case nilp=>exact⟨fun _ x h=>h,fun h=>by simp [niA] at h⟩
 case ptr=>intro b o;exact⟨fun h=>by simp [niS] at h,fun h=>by simp [niA] at h⟩
 case imm=>
  intro top cs ih
  refine⟨fun h x hx=>?_,fun h=>by simp [niA] at h⟩
  unfold niS at h
  obtain⟨h1,h2⟩:=Bool.and_eq_true_iff.1 h
  obtain⟨k1,B,o,rfl,k2⟩:=hx
  exact⟨k1,B,o,rfl,ih.1 h2 B o (zq hg h1 k2) k2⟩
 case list=>
  intro sz tok top rows ih
  refine⟨fun h x hx=>?_,fun h=>by simp [niA] at h⟩
  unfold niS at h
  obtain⟨h1,h2⟩:=Bool.and_eq_true_iff.1 h
  obtain⟨k1,k2,k3⟩:=hx
  refine⟨k1,?_,?_⟩
  ·cases tok with
   | own t=>cases h1
   | no=>trivial
   | tight=>exact k2
  ·rcases k3 with k3 | ⟨B,o,cap,k4,k5,k6⟩
   ·exact .inl k3
   ·exact .inr ⟨B,o,cap,k4,k5,ih.2 h2 sz B o k6⟩
 case slc=>intro b o s n c;exact⟨fun h=>by simp [niS] at h,fun h=>by simp [niA] at h⟩
 case nilf=>exact⟨fun h=>by simp [niS] at h,fun h=>by simp [niA] at h⟩
 case fn=>intro f t a b _ _;exact⟨fun h=>by simp [niS] at h,fun h=>by simp [niA] at h⟩
 case yield=>intro b;exact⟨fun h=>by simp [niS] at h,fun h=>by simp [niA] at h⟩
 case nilm=>exact⟨fun h=>by simp [niS] at h,fun h=>by simp [niA] at h⟩
 case map=>intro b;exact⟨fun h=>by simp [niS] at h,fun h=>by simp [niA] at h⟩
 case agg=>
  intro cs ih
  refine⟨fun h=>by simp [niS] at h,fun h sz B o hr=>?_⟩
  unfold niA at h
  obtain⟨h1,h2⟩:=Bool.and_eq_true_iff.1 h
  obtain⟨k1,k2⟩:=hr
  have hB:=zq hg h1 k2
  exact⟨hB,k1,ih.1 h2 B o hB k2⟩
 case tuple=>intro cs _;exact⟨fun h=>by simp [niS] at h,fun h=>by simp [niA] at h⟩
 case nil=>exact⟨fun _ _ _ _ _=>trivial,fun _ _ _ _ _=>trivial⟩
 case cons=>
  intro v vs ihv ihs
  refine⟨fun h B o hB hc=>?_,fun h sz B o hc=>?_⟩
  ·unfold niL at h
   obtain⟨h1,h2⟩:=Bool.and_eq_true_iff.1 h
   obtain⟨⟨k1,x,k2,k3⟩,k4⟩:=hc
   refine⟨⟨k1,x,?_,ihv.1 h1 x k3⟩,ihs.1 h2 B (o + 1) hB k4⟩
   show (if B=g then none else E.M B o)=some x
   rw [if_neg hB];exact k2
  ·unfold niR at h
   obtain⟨h1,h2⟩:=Bool.and_eq_true_iff.1 h
   exact⟨(ihv.2 h1 sz B o hc.1).2,ihs.2 h2 sz B (o + sz) hc.2⟩
end
def fI (n:Nat):V:=.list 0 .no 0 (List.replicate n (.agg []))
section
variable {E:Rho} {l:bZ}
theorem w8:∀n:Nat,within (aJ (List.replicate n (V.agg []))) 0
 | 0=>⟨0,rfl,Nat.le_refl _⟩
 | n + 1=>aX.2 ⟨⟨0,rfl,Nat.le_refl _⟩,w8 n⟩
theorem uP:∀(n B o:Nat),cS E l 0 (List.replicate n (V.agg [])) B o
 | 0,_,_=>trivial
 | n + 1,B,o=>⟨⟨rfl,trivial⟩,uP n B (o + 0)⟩
theorem w9 {B o n cap:Nat} (h:n≤cap):a7 E l (fI n) (.slice (some ⟨B,o,none⟩) n cap):=
 ⟨w8 n,trivial,.inr ⟨B,o,cap,by rw [List.length_replicate],by rw [List.length_replicate];exact h,uP n B o⟩⟩
theorem HT {E' : Rho} {l' : bZ} {sz top:Nat} {tok:Tok} {rows:List V} {x:Value} (h:a7 E' l' (.list sz tok top rows) x):a7 E l (fI rows.length) x:=by
 obtain⟨_,_,h3⟩:=h
 rcases h3 with⟨rfl,a,rfl⟩ | ⟨B,o,cap,rfl,h2,_⟩
 ·exact⟨⟨0,rfl,Nat.le_refl _⟩,trivial,.inl ⟨rfl,a,rfl⟩⟩
 ·exact w9 h2
end
end Go.Ev
namespace Go.Ev
open Go.RowKit Go.Sort Go.Proofs
noncomputable def jo:List Oper:=opsOf (wJ (nr 7 ndB))
noncomputable def iD (R:Run) (m:Nat):Run
 | .f id,args,S=>bif Nat.beq id 112 then some (fI m,S) else R (.f id) args S
 | .y b,args,S=>R (.y b) args S
theorem LR:∃(o0 o1:Oper) (c1:Call),ndB=uE ndC (.seq (.region 13 #[o0,o1] false) (.seq (.region 14 ⟨jo⟩ true) .ret))∧o0.op=.load 42 (.tmp 3)∧o0.dst=some 45∧o0.guard=none∧
 o1.op=.call c1∧c1.callee=.value (.func 111)∧c1.args = #[.tmp 45]∧o1.dst=some 46∧o1.guard=none:=
 ⟨_,_,_,rfl,rfl,rfl,rfl,rfl,rfl,rfl,rfl,rfl⟩
theorem JD:jo.length=17:=by kernel_rfl
theorem Su:∃o,jo[0]?=some o∧o.op=.load 42 (.tmp 3)∧o.dst=some 47∧o.guard=none:=⟨_,rfl,rfl,rfl,rfl⟩
theorem Sv:∃o c,jo[1]?=some o∧o.op=.call c∧c.callee=.value (.func 112)∧c.args = #[.tmp 47]∧o.dst=some 48∧o.guard=none:=⟨_,_,rfl,rfl,rfl,rfl,rfl,rfl⟩
noncomputable def JE (o:Oper):Bool:=(match o.dst with | some t=>tE (Nat.beq t 3) && tE (Nat.beq t 47) | none=>true) && tE (memN 3 (looks jo o)) && tE (memN 47 (looks jo o))
theorem OG:∀(i:Nat) (o:Oper),jo[i]?=some o→i≠0→i≠1→JE o=true∧((Tryz.cfg.fc 54).acc 14 i).ok (.loc 3)=false:=fun i o h h0 h1=>by
 have hlt:i < 17:=by rw [← JD];exact (aGs h).1
 match i,hlt,h with
 | 0,_,_=>exact absurd rfl h0
 | 1,_,_=>exact absurd rfl h1
 | 2,_,h=>cases h;exact⟨by kernel_rfl,by kernel_rfl⟩
 | 3,_,h=>cases h;exact⟨by kernel_rfl,by kernel_rfl⟩
 | 4,_,h=>cases h;exact⟨by kernel_rfl,by kernel_rfl⟩
 | 5,_,h=>cases h;exact⟨by kernel_rfl,by kernel_rfl⟩
 | 6,_,h=>cases h;exact⟨by kernel_rfl,by kernel_rfl⟩
 | 7,_,h=>cases h;exact⟨by kernel_rfl,by kernel_rfl⟩
 | 8,_,h=>cases h;exact⟨by kernel_rfl,by kernel_rfl⟩
 | 9,_,h=>cases h;exact⟨by kernel_rfl,by kernel_rfl⟩
 | 10,_,h=>cases h;exact⟨by kernel_rfl,by kernel_rfl⟩
 | 11,_,h=>cases h;exact⟨by kernel_rfl,by kernel_rfl⟩
 | 12,_,h=>cases h;exact⟨by kernel_rfl,by kernel_rfl⟩
 | 13,_,h=>cases h;exact⟨by kernel_rfl,by kernel_rfl⟩
 | 14,_,h=>cases h;exact⟨by kernel_rfl,by kernel_rfl⟩
 | 15,_,h=>cases h;exact⟨by kernel_rfl,by kernel_rfl⟩
 | 16,_,h=>cases h;exact⟨by kernel_rfl,by kernel_rfl⟩
theorem LS (R:Run) (m:Nat) (A:Env) (S:St):∀(i:Nat) (o:Oper),jo[i]?=some o→i≠1→act Tryz.cfg (iD R m) (Tryz.cfg.fc 54) ((Tryz.cfg.fc 54).acc 14 i) jo o A S=act Tryz.cfg R (Tryz.cfg.fc 54) ((Tryz.cfg.fc 54).acc 14 i) jo o A S:=fun i o h h1=>by
 have hlt:i < 17:=by rw [← JD];exact (aGs h).1
 match i,hlt,h with
 | 1,_,_=>exact absurd rfl h1
 | 0,_,h=>cases h;exact (show _=_ by kernel_rfl)
 | 2,_,h=>cases h;exact (show _=_ by kernel_rfl)
 | 3,_,h=>cases h;exact (show _=_ by kernel_rfl)
 | 4,_,h=>cases h;exact (show _=_ by kernel_rfl)
 | 5,_,h=>cases h;exact (show _=_ by kernel_rfl)
 | 6,_,h=>cases h;exact (show _=_ by kernel_rfl)
 | 7,_,h=>cases h;exact (show _=_ by kernel_rfl)
 | 8,_,h=>cases h;exact (show _=_ by kernel_rfl)
 | 9,_,h=>cases h;exact (show _=_ by kernel_rfl)
 | 10,_,h=>cases h;exact (show _=_ by kernel_rfl)
 | 11,_,h=>cases h;exact (show _=_ by kernel_rfl)
 | 12,_,h=>cases h;exact (show _=_ by kernel_rfl)
 | 13,_,h=>cases h;exact (show _=_ by kernel_rfl)
 | 14,_,h=>cases h;exact (show _=_ by kernel_rfl)
 | 15,_,h=>cases h;exact (show _=_ by kernel_rfl)
 | 16,_,h=>cases h;exact (show _=_ by kernel_rfl)
theorem HU {R:Run} {P:Program} {C:Cfg} {m:Nat} (h:cK C P R):mQ C (iD R m) where
 pure f args S v S' h1 h2 h3:=by
  unfold iD at h3
  cases hb:Nat.beq f 112 with
  | true=>simp only [hb,cond_true] at h3;cases h3;exact⟨trivial,⟨0,rfl,Nat.le_refl _⟩,trivial⟩
  | false=>simp only [hb,cond_false] at h3;exact h.lv.pure f args S v S' h1 h2 h3
 call f args S v S' h1 h3:=by
  unfold iD at h3
  cases hb:Nat.beq f 112 with
  | true=>simp only [hb,cond_true] at h3;cases h3;exact⟨rfl,trivial⟩
  | false=>simp only [hb,cond_false] at h3;exact h.lv.call f args S v S' h1 h3
 yield b args S v S' h3:=h.lv.yield b args S v S' h3
section
variable {M:Nat→Nat→Option Value} {E E' : Rho} {S S' : St} {lc:bZ} {A A1 B:Env} {a:Act} {w w' w0:World} {R:Run} {n:Nat} {Q:Exit→Act→World→Prop}
theorem bI.only (h:bI E S w) {B:Nat} (hB:¬FP E S B) (hM:∀o,E.M B o=none) (ho:sC w w' B):bI E S w':=by
 have hne:∀k,FP E S k→k≠B:=fun k hf e=>hB (e▸hf)
 refine⟨h.len,?_,h.nodup,h.nL,?_,h.m6,h.tρ,?_,h.Mρ,h.Mτ,h.ll,h.jN⟩
 ·intro b C' k hb hk'
  have hlt:b < E.ρ.length:=(aGs hb).1
  exact (h.blk b C' k hb hk').mono (eV.refl E) hlt (ho.keep C' (h.lt hb) (hne C' (.inl (aMg hb)))) (fun r hr j ⟨d,hd,hj⟩=>ho.keep j (h.ji (hr▸hk') hd hj) (hne j (.inr (.inr ⟨b,r,d,hr▸hk',hd,hj⟩))))
 ·intro t o ht
  obtain⟨h1,h2,h3,h4,cur,e,h5,h6⟩:=h.tok t o ht
  exact⟨h1,h2,h3,h4,cur,e,by rw [ho.keep _ (h.lR ht) (hne o.g (.inr (.inl ⟨o,aMg ht,rfl⟩)))];exact h5,h6⟩
 ·intro C' o x hx
  have:=h.M C' o x hx
  have B4 : C'≠B:=fun e=>by subst e;rw [hM o] at hx;cases hx
  exact Kn.keep (ho.keep C' (cZ this.1) B4) this
theorem cC.only (h:cC E S lc A a w) {B:Nat} {cur:Array Value} {e:TypeId} (hb:w.heap[B]?=some (.cells cur e (0,0))) (hL:¬LP lc A.locs B) (ho:sC w w' B):cC E S lc A a w':=by
 refine⟨h.nt,h.tmps,h.locs.mono (eV.refl E) (fun k hk'=>ho.keep k (h.apart k hk').2.2 fun e=>hL (e▸hk')),fun B' hB'=>?_,fun d hd=>?_,h.kY⟩
 ·obtain⟨h1,h2,h3⟩:=h.apart B' hB'
  exact⟨h1,h2,Nat.lt_of_lt_of_le h3 ho.size⟩
 ·obtain⟨r,h1,h2,h3⟩:=h.marks d hd
  exact⟨r,h1,by rw [ho.keep r (aGa h2).1 (fun e=>by rw [e,hb] at h2;cases h2)];exact h2,h3⟩
structure NJ (M:Nat→Nat→Option Value) (w0:World) (g Bl e0 ty cap:Nat) (zs:List (List UInt8)) (E:Rho) (lc:bZ) (B:Env) (aK:Array Bool) (A:Env) (S:St) (a:Act) (w:World):Prop where
 nt:A.nt=B.nt
 fix:A.fix=B.fix
 tmps:∀t,t≠3→t≠47→look t A.tmps=look t B.tmps
 b3:look 3 B.tmps=none
 b47:look 47 B.tmps=none
 locs:∀d,d≠3→look d A.locs=look d B.locs
 cP:bI E S w
 ck:cC E S lc B a w
 dV:lq M w0 E w
 new:∀k,FL E S lc B k→w0.heap.size≤k
 marks:∀d∈a.defers,∃r,d.target=.collected r∧w0.heap.size≤r
 gF:¬FL E S lc B g
 bF:¬FL E S lc B Bl
 gM:∀o,E.M g o=none
 gw:w0.heap.size≤g
 bne:Bl≠g
 box:w.heap[Bl]?=some (.cells #[.slice (some ⟨g,0,none⟩) zs.length cap] ty (0,0))
 row:∃cur,w.heap[g]?=some (.cells cur e0 (0,0))∧zs.length≤cur.size∧(aK.getD 1 true=false→∀(j:Nat) (s:List UInt8),zs[j]?=some s→cur[j]?=some (encStr s))
 t3:a.tmps[3]?=some (.pointer (some ⟨Bl,0,none⟩))
 t47:∀u,look 47 A.tmps=some u→a.tmps[47]?=some (.slice (some ⟨g,0,none⟩) zs.length cap)
 sz:62 < a.tmps.size
theorem xa {l:Array Bool} {i j:Nat} (h:(l.setIfInBounds i true).getD j true=false):l.getD j true=false:=by
 by_cases hij:i=j
 ·subst hij
  rcases Nat.lt_or_ge i l.size with hj | hj
  ·simp [hj] at h
  ·simp [Nat.not_lt.2 hj] at h
 ·rwa [getD_set_ne true hij] at h
theorem HV {l:Array Bool} {i:Nat} (h:(l.setIfInBounds i true).getD i true=false):False:=by
 rcases Nat.lt_or_ge i l.size with hj | hj
 ·simp [hj] at h
 ·simp [Nat.not_lt.2 hj] at h
theorem Gp {a:Act} {d:Option Nat} {x:Value} {t:Nat} (h:d≠some t):(a.put d x).tmps[t]?=a.tmps[t]?:=by
 cases d with
 | none=>rfl
 | some d=>exact iV (fun e=>h (by rw [e])) x
theorem C0 {a b:Nat} (h:tE (Nat.beq a b)=true):a≠b:=fun e=>by
 subst e
 rw [kr] at h
 cases h
theorem JF {aK:Array Bool} {i:Nat} {o:Oper} {g Bl e0 ty cap:Nat} {zs:List (List UInt8)} {B1:Env} {S1:St} {lc' : bZ} {a' : Act} {x:Value}
 (h:NJ M w0 g Bl e0 ty cap zs E lc B aK A S a w) (vk:JE o=true) (_:i≠1) (hA:∀t,o.dst≠some t→look t A1.tmps=look t A.tmps) (hB:∀t,o.dst≠some t→look t B1.tmps=look t B.tmps)
 (hAB:∀t,o.dst=some t→look t A1.tmps=look t B1.tmps) (hnt:A1.nt=B1.nt) (IM:A1.fix=B1.fix) (hl:∀d,d≠3→look d A1.locs=look d B1.locs) (ha:a'=a.put o.dst x) (hr:Res E S lc B a' w E' S1 lc' B1 w') :
 NJ M w0 g Bl e0 ty cap zs E' lc' B1 (aK.setIfInBounds i true) A1 S1 a' w':=by
 have hd3:o.dst≠some 3:=fun e=>by
  unfold JE at vk
  simp only [e,Bool.and_eq_true] at vk
  exact C0 vk.1.1.1 rfl
 have OH:o.dst≠some 47:=fun e=>by
  unfold JE at vk
  simp only [e,Bool.and_eq_true] at vk
  exact C0 vk.1.1.2 rfl
 obtain⟨cur,c1,c2,c3⟩:=h.row
 have Sw:g < w.heap.size:=(aGa c1).1
 have B5:Bl < w.heap.size:=(aGa h.box).1
 have hgF:¬FL E' S1 lc' B1 g:=fun hf=>by
  rcases hr.step.grow g hf with hq | hq
  ·exact h.gF hq
  ·omega
 have hbF:¬FL E' S1 lc' B1 Bl:=fun hf=>by
  rcases hr.step.grow Bl hf with hq | hq
  ·exact h.bF hq
  ·omega
 refine⟨hnt,IM,fun t h3 h47=>?_,by rw [hB 3 hd3];exact h.b3,by rw [hB 47 OH];exact h.b47,hl,hr.cP,hr.ck,?_,fun k hk=>?_,?_,hgF,hbF,fun o=>?_,h.gw,h.bne,?_,?_,?_,fun u hu=>?_,?_⟩
 ·by_cases hd:o.dst=some t
  ·exact hAB t hd
  ·rw [hA t hd,hB t hd];exact h.tmps t h3 h47
 ·refine⟨hr.step.os.trans h.dV.os,hr.step.tape.trans h.dV.tape,hr.step.output.trans h.dV.output,Nat.le_trans h.dV.size hr.step.size,fun j hj=>?_,fun B o x hx=>?_⟩
  ·exact (hr.step.keep j (Nat.lt_of_lt_of_le hj h.dV.size) (fun hf=>by have:=h.new j hf;omega)).trans (h.dV.keep j hj)
  ·rcases hr.step.oN B o x hx with hq | hq | hq
   ·exact h.dV.mem B o x hq
   ·exact .inr (h.new B hq)
   ·exact .inr (Nat.le_trans h.dV.size hq)
 ·rcases hr.step.grow k hk with hq | hq
  ·exact h.new k hq
  ·exact Nat.le_trans h.dV.size hq
 ·rw [ha,put_defers];exact h.marks
 ·cases hq:E'.M g o with
  | none=>rfl
  | some y=>
   rcases hr.step.oN g o y hq with h1 | h1 | h1
   ·rw [h.gM o] at h1;cases h1
   ·exact absurd h1 h.gF
   ·omega
 ·rw [hr.step.keep Bl B5 h.bF];exact h.box
 ·exact⟨cur,by rw [hr.step.keep g Sw h.gF];exact c1,c2,fun hq=>c3 (xa hq)⟩
 ·rw [ha,Gp hd3];exact h.t3
 ·rw [ha,Gp OH]
  rw [hA 47 OH] at hu
  exact h.t47 u hu
 ·rw [ha,iz];exact h.sz
end
end Go.Ev
namespace Go.Ev
open Go.RowKit Go.Sort Go.Proofs
set_option maxRecDepth 100000
section
variable {M:Nat→Nat→Option Value} {E E' : Rho} {S S1 S' : St} {lc:bZ} {A A1 B:Env} {a:Act} {w w' w0:World} {R:Run} {k n m:Nat} {Q:Exit→Act→World→Prop}
theorem EL {o:Oper} {c:Call} {F:FC} {ac:Acc} {ops:List Oper} (ho:o.op=.call c) (hf:c.callee=.value (.func 112)) (hd:o.dst=some 48) (hg:o.guard=none) (h:act Tryz.cfg (iD R m) F ac ops o A S=some (A1,S1)) :
 S1=S∧put A (some 48) (fI m)=some A1∧∃args,operands A c.args.toList=some args:=by
 have hw:kX ops A o=some true:=by unfold kX;rw [hg]
 unfold act bE.one bE.back at h
 rw [hw] at h
 simp only at h
 split at h
 ·rename_i v A' S' hx
  unfold exec at hx
  rw [ho] at hx
  replace hx:ik Tryz.cfg (iD R m) A S ac c=some (v,A',S'):=hx
  unfold ik at hx
  split at hx
  ·cases hx
  ·rename_i args eL
   rw [hf] at hx
   have key:∀l S'',iD R m (.f 112) l S''=some (fI m,S''):=fun _ _=>rfl
   have jl:v=fI m∧A'=A∧S'=S:=by
    cases hk:ac.heap with
    | false=>
     rw [hk] at hx
     simp only [cond_false] at hx
     unfold tD at hx
     split at hx
     ·rename_i f top fs cs hfn
      cases hfn
      obtain⟨_,hx⟩:=aE hx
      rw [key] at hx
      cases hx
      exact⟨rfl,rfl,rfl⟩
     ·cases hx
    | true=>
     rw [hk] at hx
     simp only [cond_true] at hx
     replace hx:eF Tryz.cfg (iD R m) A S ac 112 (cq [] (cq args []))=some (v,A',S'):=hx
     have hat:∀{l:List V},eF.iG (iD R m) A S 112 l=some (v,A',S')→v=fI m∧A'=A∧S'=S:=fun {l} h=>by
      unfold eF.iG at h
      split at h
      ·rw [key] at h
       cases h
       exact⟨rfl,rfl,rfl⟩
      ·cases h
     unfold eF at hx
     cases hc:((Tryz.cfg.fc 112).pure && !allB V.pure (cq [] (cq args []))) with
     | false=>rw [hc] at hx;exact hat hx
     | true=>
      rw [hc] at hx
      simp only [cond_true] at hx
      split at hx
      ·rename_i l hl
       cases hp:allB V.pure l with
       | false=>rw [hp] at hx;exact hat hx
       | true=>
        rw [hp,key] at hx
        simp only [cond_true] at hx
        split at hx
        ·cases hx;exact⟨rfl,rfl,rfl⟩
        ·cases hx
      ·cases hx
   obtain⟨rfl,rfl,rfl⟩:=jl
   split at h
   ·rename_i A'' hp
    cases h
    rw [hd] at hp
    exact⟨rfl,hp,args,eL⟩
   ·cases h
 ·cases h
theorem LU (hC:CfgOk Tryz.cfg PP) (hR:cK Tryz.cfg PP R) {g Bl e0 ty cap:Nat} {zs:List (List UInt8)} (lh:zs.length≤cap) (hlen:zs.length < 4611686018427387904)
 (aK:Array Bool) (i:Nat) (o:Oper) (A A1:Env) (S S1:St) (a:Act) (w:World) (ho:(⟨jo⟩ : Array Oper)[i]?=some o) (hun:aK.getD i true=false) (_:aK.size=(⟨jo⟩ : Array Oper).size) (hcl:Clean (Tryz.cfg.fc 54) o A)
 (hJ:∃E lc B,NJ M w0 g Bl e0 ty cap zs E lc B aK A S a w) (JG:act Tryz.cfg (iD R (Lib.compact zs).length) (Tryz.cfg.fc 54) ((Tryz.cfg.fc 54).acc 14 i) (⟨jo⟩ : Array Oper).toList o A S=some (A1,S1))
 (K:Act→World→Prop) (hK:∀a' w',(∃E lc B,NJ M w0 g Bl e0 ty cap zs E lc B (aK.setIfInBounds i true) A1 S1 a' w')→K a' w') :
 if Region.wanted o (yielded (⟨jo⟩ : Array Oper) a.tmps) then o.wpIn (Fw none) n PP a w K Q else (∀f,o.about PP w a.eval=some f→(Fw none).fn f)∧K (a.put o.dst undef) w:=by
 obtain⟨E,lc,B,h⟩:=hJ
 have ho' : jo[i]?=some o:=by simpa using ho
 have nd:∀{op:Op},o.op=op→(∀c,op≠.defer c)→∀c,o.op≠.defer c:=fun h1 h2 c h3=>h2 c (h1▸h3)
 obtain⟨cur,c1,c2,c3⟩:=h.row
 have hsz:=h.sz
 by_cases h0:i=0
 ·
  subst h0
  obtain⟨o',e1,e2,e3,e4⟩:=Su
  rw [ho'] at e1
  cases e1
  have hw:Region.wanted o (yielded (⟨jo⟩ : Array Oper) a.tmps)=true:=by unfold Region.wanted;rw [e4]
  rw [hw]
  simp only [if_true]
  obtain⟨v,B1,T1,k1,k2,_,_⟩:=jQ (B:=A) (T:=S) hcl hcl ⟨rfl,rfl,fun _ _=>rfl,fun _=>rfl⟩ (fun _ _=>rfl) JG
  obtain⟨l1,l2⟩:=k2.load (by unfold dt;rw [e2])
  have hi:=hC.ti 42 _ Gh
  have e3' : a.eval (.tmp 3)=.pointer (some ⟨Bl,0,none⟩):=by
   show a.tmps.getD 3 undef=_
   rw [Array.getD_eq_getD_getElem?,h.t3];rfl
  have qT:w.cell? ⟨Bl,0,none⟩=some (.slice (some ⟨g,0,none⟩) zs.length cap):=by
   simp [World.cell?,h.box]
  have ej:(Instr.loadAt 42 (a.eval (.tmp 3))).run PP w=.ok (.slice (some ⟨g,0,none⟩) zs.length cap) w:=by
   rw [e3']
   simp only [Instr.loadAt,Instr.sureAddr,Sem.run_bind,Sem.run_pure,Result.andThen_ok,loadVar,hi.nN]
   simp [TI.isAgg,qT]
  refine lk (nd e2 (fun c hh=>by cases hh)) (s:=Instr.loadAt _ _) (by unfold execOp;rw [e2]) ej ?_
  rw [e3]
  refine hK _ _ ⟨E,lc,B,⟨k2.nt.trans h.nt,k2.fix.trans h.fix,fun t h3 h47=>?_,h.b3,h.b47,fun d hd=>by rw [l1];exact h.locs d hd,l2▸h.cP,l2▸(nh (Res.refl h.cP h.ck) h.b47 _).ck,h.dV,l2▸h.new,h.marks,l2▸h.gF,l2▸h.bF,h.gM,h.gw,h.bne,h.box,⟨cur,c1,c2,fun hq=>c3 (xa hq)⟩,?_,fun u _=>?_,?_⟩⟩
  ·rw [k2.off t (by rw [e3];exact fun e=>h47 (by cases e;rfl))];exact h.tmps t h3 h47
  ·rw [iV (by decide)];exact h.t3
  ·show (a.tmps.setIfInBounds 47 _)[47]?=_
   rw [Array.getElem?_setIfInBounds_self_of_lt (by omega)]
  ·rw [iz];exact hsz
 by_cases h1:i=1
 ·
  subst h1
  obtain⟨o',c,e1,e2,ef,ea,e3,e4⟩:=Sv
  rw [ho'] at e1
  cases e1
  have hw:Region.wanted o (yielded (⟨jo⟩ : Array Oper) a.tmps)=true:=by unfold Region.wanted;rw [e4]
  rw [hw]
  simp only [if_true]
  obtain⟨rfl,hp,args,eL⟩:=EL e2 ef e3 e4 JG
  have hu:∃u,look 47 A.tmps=some u:=by
   rw [ea] at eL
   cases hq:look 47 A.tmps with
   | some u=>exact⟨u,rfl⟩
   | none=>
    have h2:bP (operand A) [Operand.tmp 47]=some args:=eL
    rw [bS] at h2
    obtain⟨y,m',h3,_,_⟩:=cT h2
    rw [show operand A (.tmp 47)=look 47 A.tmps from rfl,hq] at h3
    cases h3
  obtain⟨u,hu⟩:=hu
  have Qj:=h.t47 u hu
  have e47:a.eval (.tmp 47)=.slice (some ⟨g,0,none⟩) zs.length cap:=by
   show a.tmps.getD 47 undef=_
   rw [Array.getD_eq_getD_getElem?,Qj];rfl
  have OI:c.args.toList.map a.eval=[.slice (some ⟨g,0,none⟩) zs.length cap]:=by rw [ea];simp [e47]
  refine wH (nd e2 (fun c hh=>by cases hh)) (wI e2 ef Ez) (by rw [OI];exact Ey cap c1 (c3 hun) c2 lh hlen) ?_
  rintro e' w2 ⟨rfl,hO,OJ,q1,q2,q3⟩
  refine⟨_,rfl,?_⟩
  rw [e3]
  have hS2:=h.cP.only (fun hf=>h.gF (.inl hf)) h.gM hO
  have hE2:=h.ck.only c1 (fun hf=>h.gF (.inr hf)) hO
  have UC:=wF zs
  have hpB:put B (some 48) (fI (Lib.compact zs).length)=some (B.set 48 (fI (Lib.compact zs).length)):=by
   have hp1:=(aE (show (bif Nat.blt 48 A.nt then some (A.set 48 (fI (Lib.compact zs).length)) else none)=some A1 from hp)).1
   show (bif Nat.blt 48 B.nt then some (B.set 48 (fI (Lib.compact zs).length)) else none)=_
   rw [← h.nt,hp1];rfl
  have hA1:A1=A.set 48 (fI (Lib.compact zs).length):=by
   unfold put at hp
   obtain⟨_,hp2⟩:=aE hp
   cases hp2;rfl
  subst hA1
  obtain⟨p1,_,_⟩:=F5 hE2 (w9 (E:=E) (l:=lc) (B:=g) (o:=0) (show (Lib.compact zs).length≤cap by omega)) hpB
  refine hK _ _ ⟨E,lc,B.set 48 (fI (Lib.compact zs).length),⟨h.nt,h.fix,fun t h3 h47=>?_,?_,?_,h.locs,hS2,p1,?_,h.new,h.marks,h.gF,h.bF,h.gM,h.gw,h.bne,?_,⟨OJ,q1,by rw [q2];exact c2,fun hq=>(HV hq).elim⟩,?_,fun u' hu'=>?_,?_⟩⟩
  ·show look t ((48,_)::A.tmps)=look t ((48,_)::B.tmps)
   by_cases ht:t=48
   ·subst ht;rw [bB,bB]
   ·rw [aW ht,aW ht];exact h.tmps t h3 h47
  ·show look 3 ((48,_)::B.tmps)=none
   rw [aW (by decide)];exact h.b3
  ·show look 47 ((48,_)::B.tmps)=none
   rw [aW (by decide)];exact h.b47
  ·exact⟨hO.os.trans h.dV.os,hO.tape.trans h.dV.tape,hO.output.trans h.dV.output,Nat.le_trans h.dV.size hO.size,fun k hk=>(hO.keep k (Nat.lt_of_lt_of_le hk h.dV.size) (by have:=h.gw;omega)).trans (h.dV.keep k hk),h.dV.mem⟩
  ·rw [hO.keep Bl (aGa h.box).1 h.bne];exact h.box
  ·rw [iV (by decide)];exact h.t3
  ·rw [iV (by decide)];exact Qj
  ·rw [iz];exact hsz
 ·
  obtain⟨vk,hac⟩:=OG i o ho' h0 h1
  have Qk : act Tryz.cfg R (Tryz.cfg.fc 54) ((Tryz.cfg.fc 54).acc 14 i) jo o A S=some (A1,S1):=by rw [← LS R _ A S i o ho' h1];exact JG
  have hl3:3∉looks jo o∧47∉looks jo o:=by
   unfold JE at vk
   simp only [Bool.and_eq_true] at vk
   exact⟨fun hm=>(by have:=vk.1.2;rw [memN_iff.2 hm] at this;cases this),fun hm=>(by have:=vk.2;rw [memN_iff.2 hm] at this;cases this)⟩
  have Sx:Clean (Tryz.cfg.fc 54) o B:=fun d hd t u ht=>by
   by_cases h3:t=3
   ·subst h3;rw [h.b3] at ht;cases ht
   by_cases h47:t=47
   ·subst h47;rw [h.b47] at ht;cases ht
   exact hcl d hd t u (by rw [h.tmps t h3 h47];exact ht)
  obtain⟨v,B1,T1,k1,k2,k3,k4⟩:=jQ (B:=B) (T:=S) hcl Sx ⟨h.nt,h.fix,fun d hd=>h.locs d (fun e=>by subst e;rw [hac] at hd;cases hd),fun _=>rfl⟩ (fun t ht=>h.tmps t (fun e=>hl3.1 (e▸ht)) (fun e=>hl3.2 (e▸ht))) Qk
  have hT:T1=S1:=by
   cases hh:((Tryz.cfg.fc 54).acc 14 i).heap with
   | true=>exact (k4.heap hh).symm
   | false=>exact (k3.heap hh).trans (k2.heap hh).symm
  subst hT
  refine LQ (ops:=⟨jo⟩) hC hR h.cP h.ck k1 (fun E' lc' a' w' x ha hr=>hK _ _ ⟨E',lc',B1,?_⟩)
  refine JF h vk h1 k2.off k3.off (fun t ht=>by rw [k2.at_ t ht,k3.at_ t ht]) k4.nt k4.fix (fun d hd=>?_) ha hr
  cases hh:((Tryz.cfg.fc 54).acc 14 i).ok (.loc d) with
  | true=>exact k4.locs d hh
  | false=>rw [k2.locs d hh,k3.locs d hh];exact h.locs d hd
end
section
variable {M:Nat→Nat→Option Value} {E E' : Rho} {S S1 S' : St} {lc:bZ} {A A1 B:Env} {a:Act} {w w' w0:World} {R:Run} {k n m:Nat} {Q:Exit→Act→World→Prop}
theorem Ql {cells:List V} {iv:V} (h:nth cells 14=some iv):∃c0 c1 c2 c3 c4 c5 c6 c7 c8 c9 c10 c11 c12 c13 rest,cells=c0::c1::c2::c3::c4::c5::c6::c7::c8::c9::c10::c11::c12::c13::iv::rest:=by
 rw [bR] at h
 obtain⟨h1,h2⟩:=aGs h
 match cells,h1,h2 with
 | c0::c1::c2::c3::c4::c5::c6::c7::c8::c9::c10::c11::c12::c13::c14::rest,_,h2=>
  exact⟨c0,c1,c2,c3,c4,c5,c6,c7,c8,c9,c10,c11,c12,c13,rest,by rw [← h2];rfl⟩
@[reducible] noncomputable def nd0 (cells:List V) (n b:Nat):Env:={ nt:=63,tmps:=[(0,.imm 0 cells),(3,.ptr (.loc 3) 0),(4,fI b)],locs:=[(3,[fI n])],fix:=[] }
theorem LV {cells:List V} {sz top b:Nat} {tok:Tok} {rows:List V} {mm:Int} (HW:R (.f 113) [.imm 0 cells] St.empty=some (.int .i64 mm,St.empty)) (hc:nth cells 14=some (.list sz tok top rows)) :
 ∃e A1,eU Tryz.cfg (iD R m) (Tryz.cfg.fc 54) 14 ⟨jo⟩ true (nd0 cells n b) St.empty=some (e,A1,St.empty)∧look 2 A1.tmps=some (.bool (iEq (.ofNat m) (ep .i64 (ep .i64 (.ofNat (aG rows + b)) + mm)))):=by
 obtain⟨c0,c1,c2,c3,c4,c5,c6,c7,c8,c9,c10,c11,c12,c13,rest,rfl⟩:=Ql hc
 generalize hcs:(c0::c1::c2::c3::c4::c5::c6::c7::c8::c9::c10::c11::c12::c13::V.list sz tok top rows::rest)=cs at HW
 have h:dZ Tryz.cfg (iD R m) (Tryz.cfg.fc 54) 0 54 63 [] (wJ (nr 7 ndB)) (nd0 cs n b) St.empty (fun _ A S=>S=St.empty∧look 2 A.tmps=some (.bool (iEq (.ofNat m) (ep .i64 (ep .i64 (.ofNat (aG rows + b)) + mm))))):=by
  subst hcs
  refine ag.mk (fI m) St.empty rfl ?_
  refine ab.mk (.int .i64 (ep .i64 (.ofNat (aG rows) + .ofNat (aG (List.replicate b (V.agg [])))))) rfl ?_
  refine ag.mk (.int .i64 mm) St.empty HW ?_
  refine ab.mk (.int .i64 (ep .i64 (ep .i64 (.ofNat (aG rows) + .ofNat (aG (List.replicate b (V.agg [])))) + mm))) rfl ?_
  have hb:aG (List.replicate b (V.agg []))=b:=by rw [an,List.length_replicate]
  have hm:aG (List.replicate m (V.agg []))=m:=by rw [an,List.length_replicate]
  refine ah.mk (fun c=>?_) (fun c=>?_)
  ·refine⟨rfl,?_⟩
   rw [hb,hm] at c
   rw [show Int.ofNat (aG rows + b)=.ofNat (aG rows) + .ofNat b from rfl,c]
   rfl
  ·refine⟨rfl,?_⟩
   rw [hb,hm] at c
   rw [show Int.ofNat (aG rows + b)=.ofNat (aG rows) + .ofNat b from rfl,c]
   rfl
 obtain⟨e,A1,S1,h1,rfl,h3⟩:=cJ _ _ _ _ h
 exact⟨e,A1,h1,h3⟩
theorem Gq:ql (Tryz.cfg.fc 54) 14 ⟨jo⟩=true∧gY jo=none:=⟨by kernel_rfl,by kernel_rfl⟩
theorem C1 (ts:List (Nat×V)):di (Tryz.cfg.fc 54) jo ts=ts:=by kernel_rfl
theorem C2 {S:St} {lv:V} {n:Nat} (h:qu S lv=some n):∃sz t top ss,lv=.list sz (.own t) top (ss.map aQ)∧ss≠[]∧nth S.aA t=some ss.length∧ss.length < 4611686018427387904∧n=aG (uI ss):=by
 unfold qu at h
 split at h
 ·rename_i sz t top rows
  split at h
  ·rename_i s ss gK
   split at h
   ·rename_i m hm
    obtain⟨h1,h2⟩:=aE h
    cases h2
    simp only [Bool.and_eq_true] at h1
    have h3:=Nat.eq_of_beq_eq_true h1.1
    have h4:aG rows < 4611686018427387904:=by have:=h1.2;rwa [Nat.blt_eq] at this
    obtain rfl:=sE gK
    rw [an,aLm] at h3 h4
    exact⟨sz,t,top,s::ss,rfl,by simp,by rw [hm,h3],h4,rfl⟩
   ·cases h
  ·cases h
 ·cases h
theorem JH {cells:List V} {EG:V} {mm:Int} (hR:cK Tryz.cfg PP R) (h:zg R cells EG=some mm):∃sz tok top rows rz rt LW rr m,nth cells 14=some (.list sz tok top rows)∧EG=.list rz rt LW rr∧
 R (.f 113) [.imm 0 cells] St.empty=some (.int .i64 m,St.empty)∧mm=ep .i64 (ep .i64 (.ofNat (aG rows + aG rr)) + m):=by
 unfold zg at h
 split at h
 ·rename_i iv hiv
  split at h
  ·rename_i a b m S' ha hb hr
   cases h
   obtain rfl:=(hR.pure 113 [.imm 0 cells] St.empty _ _ rfl rfl hr).1
   have hl:∀{v:V} {c:Nat},CR v=some c→∃sz tok top rows,v=.list sz tok top rows∧c=aG rows:=fun {v c} h=>by
    unfold CR at h
    split at h
    ·cases h;exact⟨_,_,_,_,rfl,rfl⟩
    ·cases h
   obtain⟨sz,tok,top,rows,rfl,rfl⟩:=hl ha
   obtain⟨rz,rt,LW,rr,rfl,rfl⟩:=hl hb
   exact⟨sz,tok,top,rows,rz,rt,LW,rr,m,hiv,rfl,hr,rfl⟩
  ·cases h
 ·cases h
theorem JI (hC:CfgOk Tryz.cfg PP) (hm:PP.follows .mixedOrders=true) (hR:cK Tryz.cfg PP R) {o0 o1:Oper} {c1:Call} (h0o:o0.op=.load 42 (.tmp 3)) (h0d:o0.dst=some 45) (h0g:o0.guard=none)
 (h1o:o1.op=.call c1) (h1f:c1.callee=.value (.func 111)) (h1a:c1.args = #[.tmp 45]) (h1d:o1.dst=some 46) (h1g:o1.guard=none) {A0:Env} {v:V} {w2:World} (hl0:A0.locs=[])
 (hr:Res (only M) St.empty bw A0 a w E S1 lc A1 w2) (hM:kZ M w) (hv:pJ R A1 S1=some v) (hd:∀d∈a.defers,∃r,d.target=.collected r∧w.heap.size≤r)
 (hQ:∀a3 w3,LeavesInM (Fw none) 0 PP Go.Proofs.Tryz.f54 a3.tmps (nf M w v) a3.defers .returning w3→Q .ret a3 w3) :
 (Code.seq (.region 13 #[o0,o1] false) (.seq (.region 14 ⟨jo⟩ true) .ret)).wpIn (Fw none) n PP Q a w2:=by
 have nd:∀{o:Oper} {op:Op},o.op=op→(∀c,op≠.defer c)→∀c,o.op≠.defer c:=fun h1 h2 c h3=>h2 c (h1▸h3)
 have hg0:lq M w E w2:=lq.start hl0 hr
 have hFP:∀k,FP E S1 k→w.heap.size≤k:=fun k hk=>wL hl0 hr hk
 unfold pJ at hv
 split at hv
 ·rename_i cells lv EG h0 h3 hl3 h4
  obtain⟨hch,hv⟩:=aE hv
  obtain⟨hok,hnt⟩:=Bool.and_eq_true_iff.1 hch
  rw [Nat.blt_eq] at hnt
  split at hv
  ·rename_i nn mm hun rF
   cases hv
   obtain⟨sz,t,top,ss,rfl,hne,m8,hlen,rfl⟩:=C2 hun
   obtain⟨sz',aP,m3,rows,rz,rt,LW,rr,m,Sy,rfl,HW,rfl⟩:=JH hR rF
   have hsz:62 < a.tmps.size:=Nat.lt_of_lt_of_le hnt hr.ck.nt
   rw [bR] at m8
   obtain⟨Bl,hBl,arr,ty,hb1,hb2,_,hb4⟩:=hr.ck.locs.cells 3 _ hl3
   obtain⟨xh,Y,hY1,hxh,hY2⟩:=hb2
   cases hY2
   obtain rfl:arr = #[xh]:=Array.toList_inj.1 hY1
   have Qm : a7 E lc (.list sz (.own t) top (ss.map aQ)) xh:=hxh.mono (eV.refl E) (fun _ _ hh _=>by cases hh)
   obtain⟨o,cur,e0,q1,rfl,lh,Az,UD,hcc⟩:=Jq hne hr.cP m8 Qm
   obtain⟨x3,hx3,B3,hB3,rfl⟩:=hr.ck.tmps 3 _ h3
   rw [hBl] at hB3
   cases hB3
   have Hw:FP E S1 o.g:=.inr (.inl ⟨o,aMg q1,rfl⟩)
   have hog:w.heap.size≤o.g:=hFP o.g Hw
   have hap:=hr.ck.apart Bl ⟨3,by rw [hl3];rfl,hBl⟩
   have Qn:Bl≠o.g:=fun e=>hap.1 (e▸Hw)
   have Au:∀j x,E.M o.g j=some x→∃s,x=.string s:=fun j x hx=>by
    have hlt:=hr.cP.Mτ o.g j x t o hx q1 rfl
    obtain⟨p1,p2,p3,p4,_⟩:=hr.cP.tok t o q1
    rw [p1] at m8
    injection m8 with m8
    have Sz:o.sz=1:=by
     obtain⟨_,⟨o',r1,_,r3,_⟩,r6⟩:=Qm
     rw [q1] at r1;cases r1
     rcases r6 with⟨r7,_⟩ | ⟨_,_,_,_,_,r7⟩
     ·exact absurd (List.map_eq_nil_iff.1 r7) hne
     ·cases ss with
      | nil=>exact absurd rfl hne
      | cons s ss=>rw [r3];exact r7.1.1.symm
    rw [Sz,Nat.mul_one,m8] at hlt
    have h1:=(hr.cP.M o.g j x hx).1
    have h2:=hcc j ss[j] (aGe hlt)
    simp only [World.cell?,Az] at h1
    rw [h2] at h1
    cases h1
    exact⟨_,rfl⟩
   refine wpIn_seq (wpIn_region_list (fG h0g ?_))
   have hi:=hC.ti 42 _ Gh
   have e3' : a.eval (.tmp 3)=.pointer (some ⟨Bl,0,none⟩):=by
    show a.tmps.getD 3 undef=_
    rw [Array.getD_eq_getD_getElem?,hx3];rfl
   have qT:w2.cell? ⟨Bl,0,none⟩=some (.slice (some ⟨o.g,0,none⟩) ss.length o.cap):=by
    simp [World.cell?,hb1]
   have ej:(Instr.loadAt 42 (a.eval (.tmp 3))).run PP w2=.ok (.slice (some ⟨o.g,0,none⟩) ss.length o.cap) w2:=by
    rw [e3']
    simp only [Instr.loadAt,Instr.sureAddr,Sem.run_bind,Sem.run_pure,Result.andThen_ok,loadVar,hi.nN]
    simp [TI.isAgg,qT]
   refine lk (nd h0o (fun c hh=>by cases hh)) (s:=Instr.loadAt _ _) (by unfold execOp;rw [h0o]) ej ?_
   rw [h0d]
   refine fG h1g ?_
   have e45:(a.put (some 45) (.slice (some ⟨o.g,0,none⟩) ss.length o.cap)).eval (.tmp 45)=.slice (some ⟨o.g,0,none⟩) ss.length o.cap:=eval_at (by omega)
   have eL:c1.args.toList.map (a.put (some 45) (.slice (some ⟨o.g,0,none⟩) ss.length o.cap)).eval=[.slice (some ⟨o.g,0,none⟩) ss.length o.cap]:=by rw [h1a];simp [e45]
   refine wH (nd h1o (fun c hh=>by cases hh)) (wI h1o h1f LI) (by rw [eL];exact LH o.cap Az hcc (by omega) hlen) ?_
   rintro e' w3 ⟨rfl,hO,OJ,Qo,Ut,SA⟩
   refine⟨_,rfl,?_⟩
   rw [h1d]
   generalize ha2:(a.put (some 45) (.slice (some ⟨o.g,0,none⟩) ss.length o.cap)).put (some 46) (.tuple #[])=a2
   have hs2:a2.tmps.size=a.tmps.size:=by rw [← ha2,iz,iz]
   have hd2:a2.defers=a.defers:=by rw [← ha2];rfl
   have ht2:∀t,t≠45→t≠46→a2.tmps[t]?=a.tmps[t]?:=fun t h1 h2=>by rw [← ha2,iV (Ne.symm h2),iV (Ne.symm h1)]
   have hil:(pE ss).length=ss.length:=(nU ss).length_eq
   have hM1:kZ (ke E o.g) w3:=fun B j x hx=>by
    have hx' : (if B=o.g then none else E.M B j)=some x:=hx
    by_cases hB:B=o.g
    ·rw [if_pos hB] at hx';cases hx'
    ·rw [if_neg hB] at hx'
     have hk:=hr.cP.M B j x hx'
     exact Kn.keep (hO.keep B (cZ hk.1) hB) hk
   obtain⟨x0,hx0,hv0⟩:=hr.ck.tmps 0 _ h0
   obtain⟨x4,hx4,hv4⟩:=hr.ck.tmps 4 _ h4
   have hE0:cC (only (ke E o.g)) St.empty bw { nt:=63,tmps:=[(0,.imm 0 cells),(4,fI rr.length)],locs:=[],fix:=[] } a2 w3:=by
    refine⟨by show 63≤a2.tmps.size;omega,fun t u ht=>?_,⟨(fun d cs hd=>by cases hd),(fun d d' B hd=>by cases hd)⟩,fun B hB=>?_,fun d hd'=>?_,by rw [hd2];exact hr.ck.kY⟩
    ·by_cases e0:t=0
     ·subst e0
      rw [bB] at ht
      cases ht
      exact⟨x0,by rw [ht2 0 (by decide) (by decide)];exact hx0,(CZ Au _).1 hok x0 hv0⟩
     ·rw [aW e0] at ht
      by_cases e4:t=4
      ·subst e4
       rw [bB] at ht
       cases ht
       exact⟨x4,by rw [ht2 4 (by decide) (by decide)];exact hx4,HT hv4⟩
      ·rw [aW e4] at ht;cases ht
    ·obtain⟨d,hd,_⟩:=hB;cases hd
    ·rw [hd2] at hd'
     obtain⟨r,m1,m2,_⟩:=hr.ck.marks d hd'
     exact⟨r,m1,by rw [hO.keep r (aGa m2).1 (fun hh=>by rw [hh,Az] at m2;cases m2)];exact m2,fun hf=>gn hf⟩
   have OK:∀k,¬FL (only (ke E o.g)) St.empty bw { nt:=63,tmps:=[(0,.imm 0 cells),(4,fI rr.length)],locs:=[],fix:=[] } k:=fun k hk=>by
    rcases hk with hk | ⟨d,hd,_⟩
    ·exact gn hk
    ·cases hd
   obtain⟨ex,A3,hev,hl2⟩:=LV (R:=R) (m:=(Lib.compact (pE ss)).length) (n:=ss.length) (b:=rr.length) HW Sy
   refine wpIn_seq (?_:(Code.region 14 ⟨jo⟩ true).wpIn (Fw none) n PP (Exit.then (Code.ret.wpIn (Fw none) n PP Q) Q) a2 w3)
   refine (EK (J:=fun aK A S a w'=>∃E' lc' B,NJ M w o.g Bl e0 ty o.cap (pE ss) E' lc' B aK A S a w') hm (HU hR) Gq.1 Gq.2
    (fun aK i op A A1 S S1 a w hop hun hls hcl hJ JG K hK=>LU hC hR (by omega) (by omega) aK i op A A1 S S1 a w hop hun hls hcl hJ JG K hK) ?_ hev ?_).2
   ·refine⟨only (ke E o.g),bw,{ nt:=63,tmps:=[(0,.imm 0 cells),(4,fI rr.length)],locs:=[],fix:=[] },⟨rfl,rfl,fun t t3 t47=>?_,rfl,rfl,fun d hd=>?_,gz hM1,hE0.frame (eV.refl _) (fun k h=>.inl h) (Nat.le_refl _) (fun k _ _=>rfl) (fun _ _ _ h=>.inl h),?_,fun k hk=>(OK k hk).elim,fun d hd'=>?_,OK _,OK _,fun j=>?_,hog,Qn,?_,⟨OJ,Qo,by omega,fun _=>SA⟩,?_,fun u hu=>?_,by omega⟩⟩
    ·show look t (di (Tryz.cfg.fc 54) jo _)=_
     rw [C1]
     show look t ((0,_)::(3,_)::[(4,_)])=look t ((0,_)::[(4,_)])
     by_cases e0:t=0
     ·subst e0;rw [bB,bB]
     ·rw [aW e0,aW t3,aW e0]
    ·show look d [((3:Nat),_)]=look d []
     rw [aW hd]
    ·refine⟨hO.os.trans hg0.os,hO.tape.trans hg0.tape,hO.output.trans hg0.output,Nat.le_trans hg0.size hO.size,fun k hk=>(hO.keep k (Nat.lt_of_lt_of_le hk hg0.size) (by omega)).trans (hg0.keep k hk),fun B j x hx=>?_⟩
     have hx' : (if B=o.g then none else E.M B j)=some x:=hx
     by_cases hB:B=o.g
     ·rw [if_pos hB] at hx';cases hx'
     ·rw [if_neg hB] at hx';exact hg0.mem B j x hx'
    ·rw [hd2] at hd';exact hd d hd'
    ·show (if o.g=o.g then none else E.M o.g j)=none
     rw [if_pos rfl]
    ·show w3.heap[Bl]?=_
     rw [hO.keep Bl (aGa hb1).1 Qn,hb1,hil]
    ·rw [ht2 3 (by decide) (by decide)];exact hx3
    ·exfalso
     have:look 47 (di (Tryz.cfg.fc 54) jo [(0,V.imm 0 cells),(3,.ptr (.loc 3) 0),(4,fI rr.length)])=some u:=hu
     rw [C1] at this
     cases this
   ·rintro ga a3 w4 B' hlB ⟨E',lc',B,hJ⟩
    refine wpIn_ret (hQ a3 w4 ?_)
    have h2:look 2 B.tmps=some (.bool (iEq (.ofNat (aG (uI ss))) (ep .i64 (ep .i64 (.ofNat (aG rows + aG rr)) + m)))):=by
     rw [← hJ.tmps 2 (by decide) (by decide)]
     rw [hlB 2 _ hl2,an (uI ss),an rr]
     rfl
    refine zb (v:=.bool (iEq (.ofNat (aG (uI ss))) (ep .i64 (ep .i64 (.ofNat (aG rows + aG rr)) + m)))) hJ.dV hJ.cP hJ.ck hM hJ.marks hC ?_ ⟨0,rfl,Nat.le_refl _⟩ rfl
    show cR Tryz.cfg B St.empty [.tmp 2]=_
    unfold cR
    simp only [Env.get,h2,cR]
  ·cases hv
 ·cases hv
theorem EM (hC:CfgOk Tryz.cfg PP) (hm:PP.follows .mixedOrders=true) (hR:cK Tryz.cfg PP R) {args:List V} {v:V} (h:nY R k (bg V.strip args)=some v):iR PP 54 args v:=by
 obtain⟨o0,o1,c1,CT,h0o,h0d,h0g,h1o,h1f,h1a,h1d,h1g⟩:=LR
 have hfn:Tryz.cfg.fn 54=some Go.Proofs.Tryz.f54:=rfl
 have hb:Go.Proofs.Tryz.f54.body=some ndB:=rfl
 obtain⟨hf1,_⟩:=hC.fn 54 _ hfn
 have hok:codeOk (Tryz.cfg.fc 54) ndB=true:=hC.body _ _ _ hfn hb
 rw [CT] at hok
 obtain⟨yB,_⟩:=sJ hok
 have hcl:∃b,v=.bool b:=by
  unfold nY at h
  split at h
  ·split at h
   ·unfold pJ at h
    split at h
    ·replace h:=(aE h).2
     split at h
     ·cases h;exact⟨_,rfl⟩
     ·cases h
    ·cases h
   ·split at h
    ·cases h;exact⟨_,rfl⟩
    ·cases h
   ·cases h
  ·cases h
 obtain⟨b,rfl⟩:=hcl
 refine⟨⟨0,rfl,Nat.le_refl _⟩,rfl,fun M w X hM hX=>?_⟩
 refine (callsIn_wide (n:=0)).1 (callsIn_of_wp_marks (F:=Fw none) hf1 hb trivial ?_)
 have hE0:cC (only M) St.empty bw { nt:=Go.Proofs.Tryz.f54.ntmps,tmps:=number 0 (bg V.strip args),locs:=[],fix:=[] } ⟨(⟨X⟩ : Array Value)++Array.replicate (Go.Proofs.Tryz.f54.ntmps - X.length) undef,[]⟩ w:=by
  refine⟨by simp;omega,fun t v ht=>?_,⟨(fun d cs hd=>by cases hd),(fun d d' B hd=>by cases hd)⟩,fun B hB=>?_,fun d hd=>(by cases hd),List.Pairwise.nil⟩
  ·obtain⟨x,h1,h2⟩:=kA (show ao (only M) bw (bg V.strip args) X by rw [bD];exact hX) ht
   refine⟨x,?_,h2⟩
   have hlt:t < X.length:=(aGs h1).1
   rw [Array.getElem?_append_left (by simpa using hlt)]
   simpa using h1
  ·obtain⟨d,hd,_⟩:=hB;cases hd
 rw [CT]
 unfold nY at h
 split at h
 ·rename_i SB eL
  split at h
  ·rename_i A1 S1 hev
   refine pB hC hR ndC yB (gz hM) hE0 hev (fun E' lc' a' w' hl hr=>?_)
   refine JI hC hm hR h0o h0d h0g h1o h1f h1a h1d h1g rfl hr hM h (fun d hd=>?_) (fun a3 w3 h3=>h3)
   rcases hl d hd with h | h
   ·cases h
   ·exact h
  ·rename_i A1 S1 hev
   split at h
   ·rename_i b' jl
    cases h
    refine pB hC hR ndC yB (gz hM) hE0 hev (fun E' lc' a' w' hl hr=>?_)
    refine zb (lq.start rfl hr) hr.cP hr.ck hM (fun d hd=>?_) hC jl ⟨0,rfl,Nat.le_refl _⟩ rfl
    rcases hl d hd with h | h
    ·cases h
    ·exact h
   ·cases h
  ·cases h
 ·cases h
end
end Go.Ev
namespace Go.Ev
open Go.RowKit Go.Proofs
theorem mixed:PP.follows .mixedOrders=true:=by kernel_rfl
theorem jq {id k:Nat} {g g' : kR} {o:Option kR} (h:(bif Nat.beq id k then some g else o)=some g'):(id=k∧g'=g)∨o=some g':=by
 cases hb:Nat.beq id k with
 | true=>rw [hb] at h;cases h;exact .inl ⟨Nat.eq_of_beq_eq_true hb,rfl⟩
 | false=>rw [hb] at h;exact .inr h
def sK (id:Nat) (g:kR):Prop:=(Tryz.cfg.fc id).pure=true∧(∃fn c,PP.funcs[id]?=some fn∧(fn.name == "runtime.NumGoroutine")=false∧fn.body=some c)∧
 ∀R k args v,cK Tryz.cfg PP R→allB V.pure args=true→g R k (bg V.strip args)=some v→iR PP id args v
theorem sL {T:Nat→Option kR} (h:∀id g,T id=some g→sK id g):uD Tryz.cfg PP T:=
 ⟨fun id g hg=>(h id g hg).1,fun id g hg=>(h id g hg).2.1,fun id g hg=>(h id g hg).2.2⟩
theorem C3:sK 54 nY:=⟨by kernel_rfl,⟨_,_,Go.Proofs.Tryz.func54,by kernel_rfl,rfl⟩,fun R k args v hR _ h=>EM Tryz.cfgOk mixed hR h⟩
theorem Gr:sK 131 sG:=⟨by kernel_rfl,⟨_,_,Go.Proofs.Tryz.func131,by kernel_rfl,rfl⟩,fun R k args v hR _ h=>lift_pure Tryz.cfgOk hR h⟩
theorem JJ:sK 154 pG:=⟨by kernel_rfl,⟨_,_,Go.Proofs.Tryz.func154,by kernel_rfl,rfl⟩,fun R k args v hR _ h=>JB Tryz.cfgOk hR h⟩
theorem LX:uD Tryz.cfg PP LL:=sL fun id g h=>by
 rcases jq h with⟨rfl,rfl⟩ | h
 ·exact C3
 ·cases h
theorem Gs:uD Tryz.cfg PP HQ:=sL fun id g h=>by
 rcases jq h with⟨rfl,rfl⟩ | h
 ·exact Gr
 ·cases h
theorem rP:∀id,bW id=true→(Tryz.cfg.fc id).pure=true:=fun id h=>by
 have hm:id∈Gj:=memN_iff.1 h
 have:∀x∈Gj,(Tryz.cfg.fc x).pure=true:=by
  intro x hx
  simp only [Gj,List.mem_cons,List.mem_nil_iff,or_false] at hx
  rcases hx with rfl | rfl | rfl | rfl | rfl | rfl<;>kernel_rfl
 exact this id hm
theorem JK:sK 17 AZ:=⟨by kernel_rfl,⟨_,_,Go.Proofs.Tryz.func17,by kernel_rfl,rfl⟩,fun R k args v hR _ h=>w7 Tryz.cfgOk (wP (k:=k) LX rP hR) rfl rfl (by kernel_rfl) h⟩
theorem LY:uD Tryz.cfg PP Jv:=sL fun id g h=>by
 rcases jq h with⟨rfl,rfl⟩ | h
 ·exact JK
 ·cases h
theorem OL:sK 7 EH:=⟨by kernel_rfl,⟨_,_,Go.Proofs.Tryz.func7,by kernel_rfl,rfl⟩,fun R k args v hR _ h=>w7 Tryz.cfgOk (nT (k:=k) LY hR) rfl rfl (by kernel_rfl) h⟩
theorem OM:sK 8 Jy:=⟨by kernel_rfl,⟨_,_,Go.Proofs.Tryz.func8,by kernel_rfl,rfl⟩,fun R k args v hR _ h=>w7 (m:=6) (fn:=Go.Proofs.Tryz.f8) Tryz.cfgOk hR rfl rfl (by kernel_rfl) h⟩
theorem LZ:sK 64 Jw:=⟨by kernel_rfl,⟨_,_,Go.Proofs.Tryz.func64,by kernel_rfl,rfl⟩,fun R k args v hR _ h=>w7 Tryz.cfgOk (nT (k:=k) Gs hR) rfl rfl (by kernel_rfl) h⟩
theorem ON:sK 159 Oy:=⟨by kernel_rfl,⟨_,_,Go.Proofs.Tryz.func159,by kernel_rfl,rfl⟩,fun R k args v hR _ h=>w7 Tryz.cfgOk (nT (k:=k) Gs hR) rfl rfl (by kernel_rfl) h⟩
theorem Gt:uD Tryz.cfg PP cO:=sL fun id g h=>by
 rcases jq h with⟨rfl,rfl⟩ | h
 ·exact C3
 rcases jq h with⟨rfl,rfl⟩ | h
 ·exact JJ
 rcases jq h with⟨rfl,rfl⟩ | h
 ·exact Gr
 rcases jq h with⟨rfl,rfl⟩ | h
 ·exact OL
 rcases jq h with⟨rfl,rfl⟩ | h
 ·exact OM
 rcases jq h with⟨rfl,rfl⟩ | h
 ·exact JK
 rcases jq h with⟨rfl,rfl⟩ | h
 ·exact LZ
 rcases jq h with⟨rfl,rfl⟩ | h
 ·exact ON
 ·cases h
theorem rnOk (n:Nat):cK Tryz.cfg PP (RN n):=wP (k:=n) Gt rP (Gi Tryz.cfgOk Gt rP n)
end Go.Ev
