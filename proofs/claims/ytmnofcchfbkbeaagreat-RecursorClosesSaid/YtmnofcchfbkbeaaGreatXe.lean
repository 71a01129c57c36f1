/- The runner of the recursors: functions that are told by themselves, methods that are run with their box alone (own work). -/
import Derived.Test.YtmnofcchfbkbeaaGreatXd
import Derived.Test.YtmnofcchfbkbeaaGreatXp
import Derived.Test.YtmnofcchfbkbeaaGreatSh
import Derived.Sort.Grow
import Derived.Sort.EncStr
import Derived.Sort.EveryDepth
namespace Go.Ev
open Go.RowKit
abbrev kR:=Run→Nat→List V→Option V
noncomputable def bT (T:Nat→Option kR) (k:Nat) (R:Run):Run
 | .f id,args,S=>match T id with
  | some g=>bif allB V.pure args then
   match g R k (bg V.strip args) with
   | some v=>some (v,S)
   | none=>none
   else none
  | none=>R (.f id) args S
 | .y b,args,S=>R (.y b) args S
structure uD (C:Cfg) (P:Program) (T:Nat→Option kR):Prop where
 pure:∀id g,T id=some g→(C.fc id).pure=true
 fn:∀id g,T id=some g→∃fn c,P.funcs[id]?=some fn∧(fn.name == "runtime.NumGoroutine")=false∧fn.body=some c
 ok:∀id g,T id=some g→∀R k args v,cK C P R→allB V.pure args=true→g R k (bg V.strip args)=some v→iR P id args v
section
variable {C:Cfg} {P:Program} {T:Nat→Option kR} {R:Run} {k:Nat}
theorem nT (hT:uD C P T) (hR:cK C P R):cK C P (bT T k R) where
 fn id args S r h:=by
  unfold bT at h
  simp only at h
  split at h
  ·rename_i g hg;exact hT.fn id g hg
  ·exact hR.fn id args S r h
 pure id args S v S' hp ha h:=by
  unfold bT at h
  simp only at h
  split at h
  ·rename_i g hg
   rw [ha] at h
   simp only [cond_true] at h
   split at h
   ·rename_i v' hv
    cases h
    exact⟨rfl,hT.ok id g hg R k args _ hR ha hv⟩
   ·cases h
  ·exact hR.pure id args S v S' hp ha h
 call id args S v S' hq h:=by
  unfold bT at h
  simp only at h
  split at h
  ·rename_i g hg
   rw [hT.pure id g hg,Bool.true_and] at hq
   rw [hq] at h
   cases h
  ·exact hR.call id args S v S' hq h
 yield b args S v S' h:=hR.yield b args S v S' h
end
noncomputable def gb (C:Cfg) (R:Run) (k fid:Nat) (F:FC):List Code→sb
 | []=>fun A S=>some (.normal,A,S)
 | c::l=>fun A S=>iter.andThen (evalCode C R k fid F c A S) (gb C R k fid F l)
def uE:List Code→Code→Code
 | [],z=>z
 | c::l,z=>.seq c (uE l z)
section
variable {C:Cfg} {P:Program} {R:Run} {k fid n:Nat} {ro:Option Nat} {Q:Exit→Act→World→Prop}
theorem pB (hC:CfgOk C P) (hR:cK C P R) {z:Code}:∀(l:List Code) {E:Rho} {S:St} {lc:bZ} {A:Env} {a:Act} {w:World} {e:Ex} {A1:Env} {S1:St},(∀c∈l,codeOk (C.fc fid) c=true)→
 bI E S w→cC E S lc A a w→gb C R k fid (C.fc fid) l A S=some (e,A1,S1)→
 (∀E' lc' a' w',jH w a a'→Res E S lc A a' w E' S1 lc' A1 w'→match e with | .normal=>z.wpIn (Fw none) n P Q a' w' | e=>Q (I5 e) a' w')→(uE l z).wpIn (Fw none) n P Q a w
 | [],E,S,lc,A,a,w,e,A1,S1,_,hS,hE,h,hQ=>by
  cases (show some (Ex.normal,A,S)=some (e,A1,S1) from h)
  exact hQ _ _ _ _ (jH.refl _ _) (Res.refl hS hE)
 | c::l,E,S,lc,A,a,w,e,A1,S1,hok,hS,hE,h,hQ=>by
  refine wpIn_seq ?_
  replace h:iter.andThen (evalCode C R k fid (C.fc fid) c A S) (gb C R k fid (C.fc fid) l)=some (e,A1,S1):=h
  have hc:=nk (k:=k) hC hR none fid c (hok c aMs) (.inl rfl)
  unfold iter.andThen at h
  split at h
  ·rename_i A' S' hf
   exact hc n hS hE hf (fun E' lc' a' w' hl hr=>pB hC hR l (fun d hd=>hok d (aMt _ hd)) hr.cP hr.ck h (fun E'' HB a'' w'' hl' hr'=>hQ _ _ _ _ (hl.trans hr.step.size hl') (hr.trans hr')))
  ·rename_i hne
   refine hc n hS hE h (fun E' lc' a' w' hl hr=>?_)
   have:=hQ _ _ _ _ hl hr
   cases e with
   | normal=>exact absurd h (hne _ _)
   | ret=>exact this
   | exit id=>exact this
end
structure sC (w w' : World) (B:Nat):Prop where
 os:w'.os=w.os
 tape:w'.tape=w.tape
 output:w'.output=w.output
 size:w.heap.size≤w'.heap.size
 keep:∀k,k < w.heap.size→k≠B→w'.heap[k]?=w.heap[k]?
section
variable {w w' w'' : World} {B:Nat}
theorem sC.refl (w:World) (B:Nat):sC w w B:=⟨rfl,rfl,rfl,Nat.le_refl _,fun _ _ _=>rfl⟩
theorem sC.trans (h:sC w w' B) (k:sC w' w'' B):sC w w'' B:=
 ⟨k.os.trans h.os,k.tape.trans h.tape,k.output.trans h.output,Nat.le_trans h.size k.size,fun i hi hB=>(k.keep i (Nat.lt_of_lt_of_le hi h.size) hB).trans (h.keep i hi hB)⟩
open Go.Sort in
theorem pC {α:Type} [Inhabited α] (enc:α→Value) (w:World) (n B off:Nat) (d:Array α) (os:Array Obj):sC w (grow (putRow enc (Sort.ahead w n) B off d) os) B:=by
 refine⟨rfl,rfl,rfl,by simp [Sort.ahead],fun k hk hB=>?_⟩
 rw [heap_grow_old _ _ (by simpa [Sort.ahead] using hk)]
 simp only [putRow,mapBlock,Sort.ahead]
 rw [Array.getElem?_modify]
 have:¬B=k:=fun e=>hB e.symm
 simp [this]
open Go.Sort in
theorem pD {α:Type} [Inhabited α] (enc:α→Value) {w:World} {B:Nat} {cur:Array Value} {e:TypeId} {fr:Nat×Nat} (h:w.heap[B]?=some (.cells cur e fr)) (n off:Nat) (d:Array α) (os:Array Obj) :
 (grow (putRow enc (Sort.ahead w n) B off d) os).heap[B]?=some (.cells (putCells enc off d cur) e fr):=by
 have hlt:B < w.heap.size:=(aGa h).1
 rw [heap_grow_old _ _ (by simpa [Sort.ahead] using hlt)]
 simp only [putRow,mapBlock,Sort.ahead]
 rw [Array.getElem?_modify]
 simp [h,onCells]
open Go.Sort in
theorem mT {α:Type} [Inhabited α] (enc:α→Value) (off:Nat) (d:Array α) (cur:Array Value):(putCells enc off d cur).size=cur.size:=by simp [putCells]
open Go.Sort in
theorem sD {α:Type} [Inhabited α] (enc:α→Value) (l:List α) (cur:Array Value) (hl:l.length≤cur.size) {j:Nat} {x:α} (hj:l[j]?=some x):(putCells enc 0 l.toArray cur)[j]?=some (enc x):=by
 have hlt:j < l.length:=(aGs hj).1
 unfold putCells
 rw [Array.getElem?_mapIdx,Array.getElem?_eq_getElem (by omega)]
 simp only [Option.map_some,Nat.zero_le,true_and,Nat.zero_add,List.size_toArray,hlt,if_true,Nat.sub_zero,Option.some.injEq]
 congr 1
 rw [List.getElem!_toArray]
 rw [List.getElem!_eq_getElem?_getD,hj]
 rfl
end
end Go.Ev
namespace Go.Ev
open Go.RowKit Go.Sort Go.Proofs
def l4 (x y:List UInt8):Bool:=decide (x≤y)
def Ew (x:List UInt8):List (List UInt8)→List (List UInt8)
 | []=>[x]
 | y::l=>match l4 x y with | true=>x::y::l | false=>y::Ew x l
def pE:List (List UInt8)→List (List UInt8)
 | []=>[]
 | x::l=>Ew x (pE l)
theorem uF (x y:List UInt8):(l4 x y || l4 y x)=true:=by
 unfold l4
 rcases List.le_total x y with h | h<;>simp [h]
theorem uG (x y z:List UInt8) (h:l4 x y=true) (k:l4 y z=true):l4 x z=true:=by
 unfold l4 at *
 simp only [decide_eq_true_eq] at *
 exact List.le_trans h k
theorem tU (x:List UInt8):∀l,(Ew x l).Perm (x::l)
 | []=>List.Perm.refl _
 | y::l=>by
  unfold Ew
  split
  ·exact List.Perm.refl _
  ·exact ((tU x l).cons y).trans (List.Perm.swap x y l)
theorem nU:∀l,(pE l).Perm l
 | []=>List.Perm.refl _
 | x::l=>(tU x (pE l)).trans ((nU l).cons x)
theorem uH (x:List UInt8):∀l,l.Pairwise (fun a b=>l4 a b=true)→(Ew x l).Pairwise (fun a b=>l4 a b=true)
 | [],_=>by simp [Ew]
 | y::l,h=>by
  unfold Ew
  have hh:=List.pairwise_cons.1 h
  split
  ·rename_i hxy
   refine List.pairwise_cons.2 ⟨fun z hz=>?_,h⟩
   cases hz with
   | head=>exact hxy
   | tail _ hz=>exact uG _ _ _ hxy (hh.1 z hz)
  ·rename_i hxy
   refine List.pairwise_cons.2 ⟨fun z hz=>?_,uH x l hh.2⟩
   have:=(tU x l).mem_iff.1 hz
   cases this with
   | head=>have ht:=uF x y;rw [hxy] at ht;simpa using ht
   | tail _ hz=>exact hh.1 z hz
theorem nV:∀l,(pE l).Pairwise (fun a b=>l4 a b=true)
 | []=>List.Pairwise.nil
 | x::l=>uH x _ (nV l)
theorem Jm (l:List (List UInt8)):pE l=l.mergeSort fun x y=>decide (x≤y):=by
 refine List.Perm.eq_of_pairwise (le:=fun a b=>l4 a b=true) (fun a b _ _ h1 h2=>?_) (nV l) (List.pairwise_mergeSort uG uF l) ((nU l).trans (List.mergeSort_perm l l4).symm)
 unfold l4 at h1 h2
 simp only [decide_eq_true_eq] at h1 h2
 exact List.le_antisymm h1 h2
noncomputable def uI (ss:List (List UInt8)):List (List UInt8):=Lib.compact (pE ss)
theorem wF (zs:List (List UInt8)):(Lib.compact zs).length≤zs.length:=by
 unfold Lib.compact Lib.compactUpTo
 rw [aLm]
 exact Nat.le_trans (List.length_filter_le _ _) (by simp)
noncomputable abbrev PP:=Go.Proofs.Tryz.prog
section
variable {w w' : World} {B:Nat} {cur:Array Value} {e0:TypeId}
theorem holds_of (hb:w.heap[B]?=some (.cells cur e0 (0,0))) {ss:List (List UInt8)} (hc:∀(j:Nat) (s:List UInt8),ss[j]?=some s→cur[j]?=some (encStr s)):Holds encStr w B 0 ss.toArray:=by
 intro j hj
 have hj' : j < ss.length:=by simpa using hj
 have h1:=hc j _ (aGe hj')
 refine⟨?_,?_⟩
 ·simp only [World.cell?,hb,Nat.zero_add]
  rw [h1]
  congr 1
  simp [hj']
 ·simp [World.frozen?,hb]
theorem LH {ss:List (List UInt8)} (cap:Nat) (hb:w.heap[B]?=some (.cells cur e0 (0,0))) (hc:∀(j:Nat) (s:List UInt8),ss[j]?=some s→cur[j]?=some (encStr s)) (hle:ss.length≤cur.size) (hlen:ss.length < 4611686018427387904) :
 Calls PP 111 #[.slice (some ⟨B,0,none⟩) ss.length cap] w fun e w'=>e=.returned (.tuple #[])∧sC w w' B∧
  ∃tV,w'.heap[B]?=some (.cells tV e0 (0,0))∧tV.size=cur.size∧∀(j:Nat) (s:List UInt8),(pE ss)[j]?=some s→tV[j]?=some (encStr s):=by
 have hlt:B < w.heap.size:=(aGa hb).1
 refine (calls_of_every_depth fun D=>Go.Proofs.AnyS.slices_Sort_string_alone Go.Proofs.Tryz.laysSort D B 0 cap ss w (holds_of hb hc) hlt hlen).mono ?_
 rintro e w' ⟨rfl,m,os,rfl⟩
 refine⟨rfl,pC _ _ _ _ _ _ _,_,pD _ hb _ _ _ _,mT _ _ _ _,fun j s hj=>?_⟩
 rw [Jm] at hj
 exact sD encStr _ cur (by rw [List.length_mergeSort];exact hle) hj
theorem Ey {ss:List (List UInt8)} (cap:Nat) (hb:w.heap[B]?=some (.cells cur e0 (0,0))) (hc:∀(j:Nat) (s:List UInt8),ss[j]?=some s→cur[j]?=some (encStr s)) (hle:ss.length≤cur.size) (lh:ss.length≤cap) (hlen:ss.length < 4611686018427387904) :
 Calls PP 112 #[.slice (some ⟨B,0,none⟩) ss.length cap] w fun e w'=>e=.returned (.slice (some ⟨B,0,none⟩) (Lib.compact ss).length cap)∧sC w w' B∧
  ∃tV,w'.heap[B]?=some (.cells tV e0 (0,0))∧tV.size=cur.size∧∀(j:Nat) (s:List UInt8),(Lib.compact ss++List.replicate (ss.length - (Lib.compact ss).length) [])[j]?=some s→tV[j]?=some (encStr s):=by
 refine (calls_of_every_depth fun D=>Go.Proofs.AnyS.slices_Compact_string_in Go.Proofs.Tryz.laysCompact D B 0 cap ss w (holds_of hb hc) (by omega) lh).mono ?_
 rintro e w' ⟨rfl,q,rfl⟩
 have hl:=wF ss
 refine⟨rfl,?_,?_⟩
 ·have:=pC encStr w q B 0 (Lib.compact ss++List.replicate (ss.length - (Lib.compact ss).length) []).toArray #[]
  rwa [grow_empty] at this
 ·have:=pD encStr hb q 0 (Lib.compact ss++List.replicate (ss.length - (Lib.compact ss).length) []).toArray #[]
  rw [grow_empty] at this
  exact⟨_,this,mT _ _ _ _,fun j s hj=>sD encStr _ cur (by simp;omega) hj⟩
end
section
variable {C:Cfg} {P:Program} {ro:Option Nat} {n:Nat} {o:Oper} {a:Act} {w w' : World} {K:Act→World→Prop} {Q:Exit→Act→World→Prop}
theorem fG {F:Fence} {ops:Array Oper} {l:List Oper} (hg:o.guard=none) (h:o.wpIn F n P a w (wpListIn F n P ops Q l) Q):wpListIn F n P ops Q (o::l) a w:=by
 unfold wpListIn
 have hw:Region.wanted o (yielded ops a.tmps)=true:=by unfold Region.wanted;rw [hg]
 rw [hw]
 exact h
theorem wH {f:Nat} {X:List Value} {R:Ending→World→Prop} (hd:∀c,o.op≠.defer c) (he:(execOp a.eval o).run P w=.ok (.enter f ⟨X⟩) w) (hc:Calls P f ⟨X⟩ w R)
 (hK:∀e w',R e w'→∃cv,e=.returned cv∧K (a.put o.dst cv) w'):o.wpIn (Fw ro) n P a w K Q:=by
 refine⟨fun _ _=>trivial,?_⟩
 rw [Oper.semAt_eq _ _ _ hd,he]
 refine⟨(fun h=>by cases h),?_⟩
 refine (callsIn_wide (n:=n - 1)).2 (hc.mono ?_)
 rintro e w' hR
 obtain⟨cv,rfl,hk⟩:=hK e w' hR
 exact hk
theorem wI {c:Call} {f:Nat} (ho:o.op=.call c) (hf:c.callee=.value (.func f)) (hP:∃fn c,P.funcs[f]?=some fn∧(fn.name == "runtime.NumGoroutine")=false∧fn.body=some c) :
 (execOp a.eval o).run P w=.ok (.enter f ⟨c.args.toList.map a.eval⟩) w:=by
 have he:execOp a.eval o=callFunc f ⟨c.args.toList.map a.eval⟩:=by
  unfold execOp;rw [ho]
  have e1:a.eval (.func f)=.func (.func f) #[] #[]:=rfl
  simp only [resolve,hf,e1,Deferred.ofValue,pure_bind,invoke]
  congr 1
  apply Array.toList_inj.1
  simp
 rw [he]
 exact ln hP
end
noncomputable def wJ:Code→Code | .seq a _=>a | c=>c
noncomputable def wK:Code→Code | .seq _ b=>b | c=>c
noncomputable def il (f:Func):Code:=f.body.getD .skip
structure Sb (o0 o1 p0 p1 p2:Oper) (c1 c2:Call):Prop where
 o0o:o0.op=.load 42 (.tmp 2)
 o0d:o0.dst=some 9
 o0g:o0.guard=none
 o1o:o1.op=.call c1
 o1f:c1.callee=.value (.func 111)
 o1a:c1.args = #[.tmp 9]
 o1d:o1.dst=some 10
 o1g:o1.guard=none
 p0o:p0.op=.load 42 (.tmp 2)
 p0d:p0.dst=some 11
 p0g:p0.guard=none
 p1o:p1.op=.call c2
 p1f:c2.callee=.value (.func 112)
 p1a:c2.args = #[.tmp 11]
 p1d:p1.dst=some 12
 p1g:p1.guard=none
 p2o:p2.op=.store 42 (.tmp 2) (.tmp 12)
 p2d:p2.dst=none
 p2g:p2.guard=none
noncomputable def aQ (s:List UInt8):V:=.agg [.str s]
noncomputable def Jo:V→Option (List UInt8)
 | .agg [.str s]=>some s
 | _=>none
noncomputable def nW (l:List V):Option (List (List UInt8)):=bP Jo l
structure lq (M:Nat→Nat→Option Value) (w:World) (E:Rho) (w' : World):Prop where
 os:w'.os=w.os
 tape:w'.tape=w.tape
 output:w'.output=w.output
 size:w.heap.size≤w'.heap.size
 keep:∀k,k < w.heap.size→w'.heap[k]?=w.heap[k]?
 mem:∀B o x,E.M B o=some x→M B o=some x∨w.heap.size≤B
section
variable {M:Nat→Nat→Option Value} {E E' : Rho} {S S' : St} {lc lc' : bZ} {A A' : Env} {a a' : Act} {w w' w'' : World} {v:V} {cv:Value}
theorem lq.behind {B:Nat} (h:lq M w E w') (ho:sC w' w'' B) (hB:w.heap.size≤B) (hm:∀B o x,E'.M B o=some x→w.heap.size≤B):lq M w E' w'':=
 ⟨ho.os.trans h.os,ho.tape.trans h.tape,ho.output.trans h.output,Nat.le_trans h.size ho.size,fun k hk=>(ho.keep k (Nat.lt_of_lt_of_le hk h.size) (by omega)).trans (h.keep k hk),fun B o x hx=>.inr (hm B o x hx)⟩
theorem lq.start {A0:Env} (hl:A0.locs=[]) (h:Res (only M) St.empty bw A0 a w E S lc A w'):lq M w E w':=by
 have hF:∀k,¬FL (only M) St.empty bw A0 k:=fun k hk=>by
  rcases hk with hk | ⟨d,hd,_⟩
  ·exact gn hk
  ·rw [hl] at hd;cases hd
 exact⟨h.step.os,h.step.tape,h.step.output,h.step.size,fun k hk=>h.step.keep k hk (hF k),fun B o x hx=>(h.step.oN B o x hx).imp_right fun y=>y.elim (fun hf=>(hF B hf).elim) id⟩
theorem wL {A0:Env} (hl:A0.locs=[]) (h:Res (only M) St.empty bw A0 a w E S lc A w') {k:Nat} (hk:FP E S k):w.heap.size≤k:=by
 rcases h.step.grow k (.inl hk) with hf | hf
 ·rcases hf with hf | ⟨d,hd,_⟩
  ·exact (gn hf).elim
  ·rw [hl] at hd;cases hd
 ·exact hf
theorem zb (hg:lq M w E w') (hS:bI E S w') (hE:cC E S lc A a w') (hM:kZ M w) {fn:Func} {n:Nat} (hd:∀d∈a.defers,∃r,d.target=.collected r∧w.heap.size≤r)
 (hC:CfgOk Tryz.cfg PP) (hr:cR Tryz.cfg A S fn.results.toList=some [v]) (hl:within (fW v) 0) (hp:rA v=true) :
 LeavesInM (Fw none) n PP fn a.tmps (nf M w v) a.defers .returning w':=by
 refine kz (w0:=w) a.defers w' hS hE hd (fun w'' h1 h2 h3 h4 h5 h6 h7=>?_)
 obtain⟨Y,k1,k2⟩:=iT hC h1 h2.tmps h2.locs hr
 obtain⟨x,Z,rfl,j1,j2⟩:=k2
 cases j2
 have ej:(results fn a.tmps).run PP w''=.ok x w'':=by
  rw [nS,Array.mapM_eq_mapM_toList]
  simp [k1]
 have wA:∀B o x,M B o=some x→B < w.heap.size:=fun B o x hx=>cZ (hM B o x hx).1
 have hgr:fp w w'':=⟨h3.trans hg.os,h4.trans hg.tape,h5.trans hg.output,by rw [h6];exact hg.size,fun k hk=>(h7 k hk).trans (hg.keep k hk)⟩
 refine⟨x,ej,x,fun B o=>if B < w.heap.size then M B o else World.all w'' B o,rfl,hgr,?_,?_,?_,?_⟩
 ·intro B o y hy
  by_cases hlt:B < w.heap.size
  ·simp only [hlt,if_true] at hy
   have:=hM B o y hy
   exact Kn.keep (hgr.keep B hlt) this
  ·simp only [hlt,if_false] at hy
   exact all_true w'' B o y hy
 ·intro B o y hy
  simp only [wA B o y hy,if_true];exact hy
 ·intro B o y hy
  by_cases hlt:B < w.heap.size
  ·simp only [hlt,if_true] at hy;exact .inl hy
  ·exact .inr (by omega)
 ·refine (dK (E:=E) (E':=only fun B o=>if B < w.heap.size then M B o else World.all w'' B o) (l:=lc) (l':=bw) (n:=0) ⟨fun B o y hy=>?_,fun b B hlt _=>by omega⟩ v).1 x (fm hl) (.inr hp) j1
  show (if B < w.heap.size then M B o else World.all w'' B o)=some y
  rcases hg.mem B o y hy with hm | hm
  ·rw [if_pos (wA B o y hm)];exact hm
  ·rw [if_neg (by omega)];exact lT h1 B o y hy
end
section
variable {M:Nat→Nat→Option Value} {E:Rho} {S:St} {lc:bZ} {A:Env} {a:Act} {w w2:World} {cv:Value} {R:Run} {k:Nat}
theorem Gh:Tryz.cfg.ti 42=some { kind:=.slice 9,size:=1,bytes:=24,zero:=[.list 0 .tight 0 []] }:=rfl
theorem AU {r:V} {rows:List V} {ss:List (List UInt8)} (h:nW (r::rows)=some ss):∃s ts,r=aQ s∧nW rows=some ts∧ss=s::ts:=by
 unfold nW at h
 rw [bS] at h
 obtain⟨s,ts,h1,h2,rfl⟩:=cT h
 refine⟨s,ts,?_,h2,rfl⟩
 unfold Jo at h1
 split at h1
 ·cases h1;rfl
 ·cases h1
theorem sE:∀{rows:List V} {ss:List (List UInt8)},nW rows=some ss→rows=ss.map aQ
 | [],ss,h=>by cases (show some ([]:List (List UInt8))=some ss from h);rfl
 | r::rows,ss,h=>by
  obtain⟨s,ts,rfl,h2,rfl⟩:=AU h
  rw [sE h2];rfl
theorem uJ {B:Nat}:∀{ss:List (List UInt8)} {o:Nat},cS E lc 1 (ss.map aQ) B o→∀(j:Nat) (s:List UInt8),ss[j]?=some s→E.M B (o + j)=some (encStr s)
 | [],_,_,j,s,hj=>by simp at hj
 | s::ss,o,h,j,u,hj=>by
  cases j with
  | zero=>
   simp at hj;subst hj
   obtain⟨⟨_,⟨_,x,h1,h2⟩,_⟩,_⟩:=h
   rw [Nat.add_zero,h1];exact congrArg some h2
  | succ j=>
   have:=uJ h.2 j u (by simpa using hj)
   rwa [show o + (j + 1)=o + 1 + j by omega]
theorem Jq {sz t top:Nat} {ss:List (List UInt8)} {x:Value} (h0:ss≠[]) (hS:bI E S w) (ht:S.aA[t]?=some ss.length) (hv:a7 E lc (.list sz (.own t) top (ss.map aQ)) x) :
 ∃o cur e,E.τ[t]?=some o∧x=.slice (some ⟨o.g,0,none⟩) ss.length o.cap∧ss.length≤o.cap∧w.heap[o.g]?=some (.cells cur e (0,0))∧cur.size=o.cap∧∀(j:Nat) (s:List UInt8),ss[j]?=some s→cur[j]?=some (encStr s):=by
 obtain⟨_,⟨o,q1,q2,q3,q4,q5⟩,h3⟩:=hv
 obtain⟨p1,p2,p3,p4,cur,e,p5,p6⟩:=hS.tok t o q1
 rw [p1] at ht
 injection ht with ht
 rw [aLm] at q5 q4
 have hx:=q5 ht.symm
 rcases h3 with⟨hn,_⟩ | ⟨B,off,cap,hx2,lh,gK⟩
 ·exact absurd (List.map_eq_nil_iff.1 hn) h0
 rw [aLm] at hx2 lh
 rw [hx] at hx2
 cases hx2
 have hsz:sz=1:=by
  cases ss with
  | nil=>exact absurd rfl h0
  | cons s ss=>exact gK.1.1.symm
 subst hsz
 refine⟨o,cur,e,q1,hx,lh,p5,by rw [p6,q3,Nat.mul_one],fun j s hj=>?_⟩
 have h1:=uJ gK j s hj
 have h2:=(hS.M _ _ _ h1).1
 simp only [World.cell?,p5,Nat.zero_add] at h2
 exact h2
end
section
variable {M:Nat→Nat→Option Value} {E:Rho} {S:St} {lc:bZ} {A:Env} {a:Act} {w w2:World} {cv:Value} {R:Run} {k:Nat}
theorem LI:∃fn c,PP.funcs[111]?=some fn∧(fn.name == "runtime.NumGoroutine")=false∧fn.body=some c:=⟨_,_,Go.Proofs.Tryz.func111,by kernel_rfl,rfl⟩
theorem Ez:∃fn c,PP.funcs[112]?=some fn∧(fn.name == "runtime.NumGoroutine")=false∧fn.body=some c:=⟨_,_,Go.Proofs.Tryz.func112,by kernel_rfl,rfl⟩
theorem iz (a:Act) (d:Option Nat) (x:Value):(a.put d x).tmps.size=a.tmps.size:=by
 cases d with
 | none=>rfl
 | some d=>show (a.tmps.setIfInBounds d x).size=_;rw [Array.size_setIfInBounds]
theorem iV {a:Act} {d t:Nat} (h:d≠t) (x:Value):(a.put (some d) x).tmps[t]?=a.tmps[t]?:=by
 show (a.tmps.setIfInBounds d x)[t]?=_
 rw [Array.getElem?_setIfInBounds_ne h]
end
section
variable {C:Cfg} {P:Program} {R:Run} {F:FC} {ro:Option Nat} {n:Nat} {Q:Exit→Act→World→Prop}
structure Kept (l:List Oper) (a a' : Act):Prop where
 off:∀t,(∀o∈l,o.dst≠some t)→a'.tmps[t]?=a.tmps[t]?
 size:a'.tmps.size=a.tmps.size
 defers:a'.defers=a.defers
theorem Kept.put {l:List Oper} {a a' : Act} {o:Oper} {x:Value} (h:Kept l (a.put o.dst x) a'):Kept (o::l) a a':=by
 refine⟨fun t ht=>?_,by rw [h.size,iz],by rw [h.defers,put_defers]⟩
 rw [h.off t (fun p hp=>ht p (aMt _ hp))]
 have hd:=ht o aMs
 cases ho:o.dst with
 | none=>rfl
 | some d=>exact iV (fun e=>hd (by rw [ho,e])) x
theorem kB (hC:CfgOk C P) (hR:cK C P R) {ops:Array Oper} {rest:List Oper} {ac:Nat→Acc}:∀(l:List Oper) (i:Nat) {E:Rho} {S:St} {lc:bZ} {A:Env} {a:Act} {w:World} {r:Env×St},
 bI E S w→cC E S lc A a w→bE C R F ac ops.toList l i A S=some r→
 (∀E' lc' a' w',Kept l a a'→Res E S lc A a' w E' r.2 lc' r.1 w'→wpListIn (Fw ro) n P ops Q rest a' w')→wpListIn (Fw ro) n P ops Q (l++rest) a w
 | [],i,E,S,lc,A,a,w,r,hS,hE,h,hQ=>by
  rw [mw] at h
  cases h
  exact hQ _ _ _ _ ⟨fun _ _=>rfl,rfl,rfl⟩ (Res.refl hS hE)
 | o::l,i,E,S,lc,A,a,w,r,hS,hE,h,hQ=>by
  rw [gX] at h
  unfold bE.one at h
  show wpListIn (Fw ro) n P ops Q (o::(l++rest)) a w
  unfold wpListIn
  split at h
  ·rename_i hw
   rw [lG hE.tmps hw]
   simp only [if_true]
   unfold bE.back at h
   split at h
   ·rename_i v A' S' hx
    split at h
    ·rename_i A'' hp
     exact rG hC hR hS hE hx (fun E' lc' w' cv hr hv=>by
      have hr':=nP hr hv hp
      exact kB hC hR l (i + 1) hr'.cP hr'.ck h (fun E'' HB a'' w'' hk Ov=>hQ _ _ _ _ hk.put (hr'.trans Ov)))
    ·cases h
   ·cases h
  ·rename_i hw
   rw [lG hE.tmps hw]
   simp only [Bool.false_eq_true,if_false]
   refine⟨fun _ _=>trivial,?_⟩
   unfold bE.back at h
   simp only at h
   split at h
   ·rename_i A'' hp
    have hr':=nP (Res.refl hS hE) tQ hp
    exact kB hC hR l (i + 1) hr'.cP hr'.ck h (fun E'' HB a'' w'' hk Ov=>hQ _ _ _ _ hk.put (hr'.trans Ov))
   ·cases h
  ·cases h
end
def Chunk (k:Nat):Type:={ l:List Value // l.length=k∧∀v∈l,v.oneCell'=true }
instance (k:Nat):Inhabited (Chunk k):=⟨⟨List.replicate k (.bool false),by simp,fun v hv=>by rw [(List.mem_replicate.1 hv).2];rfl⟩⟩
def dT (E:Rho) (k:Nat):List V→List (Chunk k)→Prop
 | [],[]=>True
 | r::rs,x::xs=>ao E bw r.cells x.1∧dT E k rs xs
 | _,_=>False
def cellsOf {k:Nat} (xs:List (Chunk k)):List Value:=xs.flatMap (·.1)
section
variable {E E' : Rho} {k:Nat}
theorem dT.length:∀{rs:List V} {xs:List (Chunk k)},dT E k rs xs→xs.length=rs.length
 | [],[],_=>rfl
 | [],_::_,h=>h.elim
 | _::_,[],h=>h.elim
 | _::rs,_::xs,h=>by rw [aLc,aLc,dT.length h.2]
theorem dT.append:∀{rs rs' : List V} {xs xs' : List (Chunk k)},dT E k rs xs→dT E k rs' xs'→dT E k (rs++rs') (xs++xs')
 | [],_,[],_,_,h'=>h'
 | [],_,_::_,_,h,_=>h.elim
 | _::_,_,[],_,h,_=>h.elim
 | _::_,_,_::_,_,h,h'=>⟨h.1,dT.append h.2 h'⟩
theorem dT.reverse:∀{rs:List V} {xs:List (Chunk k)},dT E k rs xs→dT E k rs.reverse xs.reverse
 | [],[],_=>trivial
 | [],_::_,h=>h.elim
 | _::_,[],h=>h.elim
 | r::rs,x::xs,h=>by
  rw [List.reverse_cons,List.reverse_cons]
  exact dT.append (dT.reverse h.2) ⟨h.1,trivial⟩
theorem dT.ext (hM:∀B o x,E.M B o=some x→E'.M B o=some x):∀{rs:List V} {xs:List (Chunk k)},(∀r∈rs,within (aF r.cells) 0∧r.cells.all dN=true)→dT E k rs xs→dT E' k rs xs
 | [],[],_,_=>trivial
 | [],_::_,_,h=>h.elim
 | _::_,[],_,h=>h.elim
 | r::rs,x::xs,hl,h=>by
  refine⟨?_,dT.ext hM (fun q hq=>hl q (aMt _ hq)) h.2⟩
  obtain⟨h1,h2⟩:=hl r aMs
  have:=((show _∧_ from (dK (E:=E) (E':=E') (l:=bw) (l':=bw) (n:=0) ⟨hM,fun b B hlt _=>by omega⟩ (.agg r.cells))).1 (.agg ⟨x.1⟩) h1 (.inr h2) ⟨a6 h1,x.1,rfl,h.1⟩).2
  obtain⟨Y,e1,e2⟩:=this
  cases e1;exact e2
theorem gO:∀(xs:List (Chunk k)),(cellsOf xs).length=xs.length * k
 | []=>by simp [cellsOf]
 | x::xs=>by
  have:=gO xs
  unfold cellsOf at this ⊢
  rw [List.flatMap_cons,aLa,this,x.2.1,aLc,Nat.add_mul];omega
theorem pF (xs ys:List (Chunk k)):cellsOf (xs++ys)=cellsOf xs++cellsOf ys:=List.flatMap_append
theorem CN (xs:List (Chunk k)):∀v∈cellsOf xs,v.oneCell'=true:=fun v hv=>by
 obtain⟨x,_,h2⟩:=List.mem_flatMap.1 hv
 exact x.2.2 v h2
theorem dT.vQ:∀{rs:List V} {xs:List (Chunk k)},dT E k rs xs→ao E bw (rs.flatMap V.cells) (cellsOf xs)
 | [],[],_=>rfl
 | [],_::_,h=>h.elim
 | _::_,[],h=>h.elim
 | r::rs,x::xs,h=>by
  unfold cellsOf
  rw [List.flatMap_cons,List.flatMap_cons]
  exact h.1.append h.2.vQ
theorem uK:∀(xs:List (Chunk k)) (t:Nat),0 < k→t < xs.length * k→∃x,xs[t / k]?=some x∧(cellsOf xs)[t]?=x.1[t % k]?
 | [],t,_,h=>by simp at h
 | x::xs,t,hk,h=>by
  unfold cellsOf
  rw [List.flatMap_cons]
  by_cases ht:t < k
  ·refine⟨x,by rw [Nat.div_eq_of_lt ht];rfl,?_⟩
   rw [List.getElem?_append_left (by rw [x.2.1];exact ht),Nat.mod_eq_of_lt ht]
  ·obtain⟨y,h1,h2⟩:=uK xs (t - k) hk (by rw [aLc,Nat.add_mul,Nat.one_mul] at h;omega)
   refine⟨y,?_,?_⟩
   ·have e:t / k=(t - k) / k + 1:=by rw [← Nat.add_div_right _ hk];congr 1;omega
    rw [e];simpa using h1
   ·rw [List.getElem?_append_right (by rw [x.2.1];omega),x.2.1]
    have e:(t - k) % k=t % k:=by
     have:t=(t - k) + k:=by omega
     conv=>rhs;rw [this]
     rw [Nat.add_mod_right]
    rw [← e];exact h2
end
section
variable {w w' : World} {B:Nat} {cur:Array Value} {e0:TypeId} {k:Nat}
theorem zc {xs:List (Chunk k)} (hk:0 < k) {t:Nat} (ht:t < xs.length * k):(cellsOf xs)[t]?=some ((flatK (fun x:Chunk k=>x.1) k xs.toArray)[t]!):=by
 obtain⟨x,h1,h2⟩:=uK xs t hk ht
 have hm:t % k < x.1.length:=by rw [x.2.1];exact Nat.mod_lt _ hk
 rw [h2,get_flatK _ _ _ _ (by simpa using ht),aGe hm]
 congr 1
 have hx:xs.toArray[t / k]! = x:=by
  rw [List.getElem!_toArray,List.getElem!_eq_getElem?_getD,h1];rfl
 rw [hx,getElem!_pos x.1 (t % k) hm]
theorem HN {xs:List (Chunk k)} (hk:0 < k) (hb:w.heap[B]?=some (.cells cur e0 (0,0))) (hc:∀(j:Nat) (x:Value),(cellsOf xs)[j]?=some x→cur[j]?=some x):HoldsK (fun x:Chunk k=>x.1) k w B 0 xs.toArray:=by
 intro j hj
 have hj' : j < xs.length * k:=by simpa using hj
 have h1:=hc j _ (zc hk hj')
 refine⟨?_,by simp [World.frozen?,hb]⟩
 simp only [World.cell?,hb,Nat.zero_add]
 exact h1
theorem EA (hC:CfgOk Tryz.cfg PP) {xs:List (Chunk 5)} (cap:Nat) (hb:w.heap[B]?=some (.cells cur e0 (0,0))) (hc:∀(j:Nat) (x:Value),(cellsOf xs)[j]?=some x→cur[j]?=some x) (hle:xs.length * 5≤cur.size) (hlen:xs.length≤9223372036854775807) :
 Calls PP 183 #[.slice (some ⟨B,0,none⟩) xs.length cap] w fun e w'=>e=.returned (.tuple #[])∧sC w w' B∧
  ∃tV,w'.heap[B]?=some (.cells tV e0 (0,0))∧tV.size=cur.size∧∀(j:Nat) (x:Value),(cellsOf xs.reverse)[j]?=some x→tV[j]?=some x:=by
 have hti:=hC.ti 25 _ (show Tryz.cfg.ti 25=some Tryz.ti25 from rfl)
 refine (AnyQ.slices_Reverse Go.Proofs.Tryz.laysReverse 5 (fun w=>hti.nN w) (fun w=>hti.dm w) (fun x:Chunk 5=>x.1) (fun x=>x.2.1) (fun x v hv=>x.2.2 v hv) B 0 cap xs.toArray w (HN (by decide) hb hc) (by simpa using hlen)).mono ?_
 rintro e w' ⟨rfl,m,rfl⟩
 refine⟨rfl,?_,?_⟩
 ·have:=pC id w m B 0 (flatK (fun x:Chunk 5=>x.1) 5 xs.toArray.reverse) #[]
  rwa [grow_empty] at this
 ·have:=pD id hb m 0 (flatK (fun x:Chunk 5=>x.1) 5 xs.toArray.reverse) #[]
  rw [grow_empty] at this
  refine⟨_,this,mT _ _ _ _,fun j x hj=>?_⟩
  have hlt:j < xs.reverse.length * 5:=by rw [← gO];exact (aGs hj).1
  rw [zc (by decide) hlt] at hj
  have PT : j < xs.length * 5:=by simpa using hlt
  unfold putCells
  rw [Array.getElem?_mapIdx,Array.getElem?_eq_getElem (by omega)]
  have hsz:(flatK (fun x:Chunk 5=>x.1) 5 xs.toArray.reverse).size=xs.length * 5:=by simp
  simp only [Option.map_some,Nat.zero_le,true_and,Nat.zero_add,hsz,PT,if_true,Nat.sub_zero,id]
  rw [List.reverse_toArray]
  exact hj
theorem AV (ad:Option Addr) (cap:Nat) (w:World):Calls PP 183 #[.slice ad 0 cap] w fun e w'=>e=.returned (.tuple #[])∧w'=w:=
 AnyQ.slices_Reverse_empty Go.Proofs.Tryz.laysReverse ad cap w
end
def mU (w w1:World) (E:Rho) (lc:bZ) (A:Env) (rows:List V) (hdr:Value):Prop:=
 (rows=[]∧hdr=.slice none 0 0)∨∃(B cap:Nat) (cur:Array Value) (e:TypeId) (xs:List (Chunk 5)),hdr=.slice (some ⟨B,0,none⟩) rows.length cap∧0 < rows.length∧rows.length≤cap∧w.heap.size≤B∧
  w1.heap[B]?=some (.cells cur e (0,0))∧cur.size=cap * 5∧(∀o,E.M B o=none)∧¬LP lc A.locs B∧dT E 5 rows xs∧∀(j:Nat) (x:Value),(cellsOf xs)[j]?=some x→cur[j]?=some x
def dU (rows:List V):Prop:=∀r∈rows,∃cs,r=.agg cs∧cs.length=5∧within (aF cs) 0∧cs.all dN=true
section
variable {w w1 w2:World} {E E' : Rho} {lc lc' : bZ} {A A' : Env} {a:Act} {rows:List V} {hdr:Value}
theorem dU.ext (h:dU rows):∀r∈rows,within (aF r.cells) 0∧r.cells.all dN=true:=fun r hr=>by
 obtain⟨cs,rfl,_,h1,h2⟩:=h r hr;exact⟨h1,h2⟩
theorem EB {S:St} (hS:bI E S w) (h:S=St.empty):∀k,¬FP E S k:=fun k hk=>by
 subst h
 have h1:E.ρ=[]:=List.eq_nil_of_length_eq_zero (by rw [← hS.len];rfl)
 have h2:E.τ=[]:=List.eq_nil_of_length_eq_zero (by rw [← hS.nL];rfl)
 rcases hk with hk | ⟨o,ho,_⟩ | ⟨b,r,d,hb,_⟩
 ·rw [h1] at hk;cases hk
 ·rw [h2] at ho;cases ho
 ·cases hb
theorem mU.step (hp:dU rows) (h:mU w w1 E lc A rows hdr) (hS:bI E St.empty w1) (hr:Res E St.empty lc A a w1 E' St.empty lc' A' w2):mU w w2 E' lc' A' rows hdr:=by
 rcases h with h | ⟨B,cap,cur,e,xs,h1,h2,h3,h4,h5,h6,h7,h8,h9,h10⟩
 ·exact .inl h
 ·have hlt:B < w1.heap.size:=(aGa h5).1
  have hFL:¬FL E St.empty lc A B:=fun hf=>hf.elim (EB hS rfl B) h8
  refine .inr ⟨B,cap,cur,e,xs,h1,h2,h3,h4,by rw [hr.step.keep B hlt hFL];exact h5,h6,fun o=>?_,fun hl=>?_,h9.ext hr.step.mem hp.ext,h10⟩
  ·cases hq:E'.M B o with
   | none=>rfl
   | some x=>rcases hr.step.oN B o x hq with h | h | h
             ·rw [h7] at h;cases h
             ·exact (hFL h).elim
             ·omega
  ·exact (hr.step.grow B (.inr hl)).elim hFL (by omega)
theorem CO {S:St} {B:Nat} (hE:cC E S lc A a w1) (hB:¬LP lc A.locs B) {cur:Array Value} {e:TypeId} (Az:w1.heap[B]?=some (.cells cur e (0,0))) (hk:∀k,k≠B→w2.heap[k]?=w1.heap[k]?) (hsz:w1.heap.size≤w2.heap.size):cC E S lc A a w2:=by
 refine⟨hE.nt,hE.tmps,hE.locs.mono (eV.refl E) (fun k hk'=>hk k fun e=>hB (e▸hk')),fun B' hB'=>?_,fun d hd=>?_,hE.kY⟩
 ·obtain⟨h1,h2,h3⟩:=hE.apart B' hB'
  exact⟨h1,h2,Nat.lt_of_lt_of_le h3 hsz⟩
 ·obtain⟨r,h1,h2,h3⟩:=hE.marks d hd
  exact⟨r,h1,by rw [hk r (fun e=>by rw [e,Az] at h2;cases h2)];exact h2,h3⟩
theorem Jr (hC:CfgOk Tryz.cfg PP) (hS:bI E St.empty w1) (hE:cC E St.empty lc A a w1) (hp:dU rows) (h:mU w w1 E lc A rows hdr) (hw:w.heap.size≤w1.heap.size) {cs:List V} {cv:Value} (hcv:a7 E lc (.list 5 .tight 0 [.agg cs]) cv) (hl:cs.length=5)
 (h0:within (aF cs) 0) (Uy:(rows.length + 1) * 81≤140737488355328) (ty:TypeId) :
 ∃mv w2,(Builtin.append_ #[23,23] ty #[hdr,cv]).run PP w1=.ok mv w2∧bI E St.empty w2∧cC E St.empty lc A a w2∧mU w w2 E lc A (rows++[.agg cs]) mv∧
  w2.os=w1.os∧w2.tape=w1.tape∧w2.output=w1.output∧w1.heap.size≤w2.heap.size∧(∀k,k < w.heap.size→w2.heap[k]?=w1.heap[k]?):=by
 obtain⟨_,m8,h3⟩:=hcv
 rcases h3 with⟨hn,_⟩ | ⟨Bs,off,Ow,hcv,Ur,gK⟩
 ·cases hn
 obtain⟨X,x1,x2,x3⟩:=gK.1.2.vQ
 have xl:X.length=5:=by rw [x1.length,hl]
 have hX1:∀x∈X,x.oneCell'=true:=fun x hx=>by
  obtain⟨j,hj⟩:=List.getElem?_of_mem hx
  exact (hS.M _ _ x (x2 j x hj)).2.1
 have hu:PP.underlying 23=some (.slice 25):=(hC.ti 23 _ (show Tryz.cfg.ti 23=some Tryz.ti23 from rfl)).kind
 have hi:=hC.ti 25 _ (show Tryz.cfg.ti 25=some Tryz.ti25 from rfl)
 obtain⟨⟨inf,z,i1,i2,i3,i4,i5,i6⟩,_,_⟩:=hi
 have i2' : inf.size=5:=i2
 have i3' : inf.bytes=80:=i3
 have hzs:z.cells.size=5:=by
  have:=(fe i5 E lc).2.2.2
  rw [Array.length_toList] at this;rw [this];exact i6
 have oI:∀(j:Nat) (u:Value),X[j]?=some u→w1.cell? ((⟨Bs,off,none⟩ : Addr).add j)=some u:=fun j u hj=>by
  rw [Addr.add_lit];exact (hS.M _ _ u (x2 j u hj)).1
 have hch:∃xc:Chunk 5,xc.1=X∧ao E bw cs xc.1:=⟨⟨X,xl,hX1⟩,rfl,x1.iQ h0⟩
 obtain⟨xc,hxc,hxr⟩:=hch
 have CP:(rows++[V.agg cs]).length=rows.length + 1:=by simp
 have tK:∀(old:List (Chunk 5)) (kP : Nat),old.length=rows.length→rows.length + 1≤kP→dT E 5 rows old→
  bI E St.empty (w1.drew.alloc (.cells ((cellsOf old).toArray++X.toArray++Builtin.zeroCells z.cells (kP - (rows.length + 1))) 25))∧
  cC E St.empty lc A a (w1.drew.alloc (.cells ((cellsOf old).toArray++X.toArray++Builtin.zeroCells z.cells (kP - (rows.length + 1))) 25))∧
  mU w (w1.drew.alloc (.cells ((cellsOf old).toArray++X.toArray++Builtin.zeroCells z.cells (kP - (rows.length + 1))) 25)) E lc A (rows++[.agg cs]) (.slice (some ⟨w1.heap.size,0,none⟩) (rows.length + 1) kP):=by
  intro old kP ho yP hrr
  have hg:fp w1 (w1.drew.alloc (.cells ((cellsOf old).toArray++X.toArray++Builtin.zeroCells z.cells (kP - (rows.length + 1))) 25)):=(fp.drew w1).trans (fp.alloc w1.drew _)
  have jl:=lF (a:=a) hS hE hg (fun B o x hx=>Kn.keep (hg.keep B (cZ (hS.M B o x hx).1)) (hS.M B o x hx)) (fun _ _ _ h=>h) (fun _ _ _ h=>.inl h)
  refine⟨jl.cP,jl.ck,.inr ⟨w1.heap.size,kP,_,_,old++[xc],by rw [CP],by omega,by rw [CP];exact yP,hw,eZ w1.drew _,?_,Res.IL hS,fun hl=>?_,hrr.append ⟨hxr,trivial⟩,fun j x hj=>?_⟩⟩
  ·have h1:(cellsOf old).toArray.size=rows.length * 5:=by rw [List.size_toArray,gO,ho]
   rw [Array.size_append,Array.size_append,size_zeroCells,hzs,h1,List.size_toArray,xl]
   have:(rows.length + 1) * 5≤kP * 5:=Nat.mul_le_mul_right _ yP
   rw [Nat.sub_mul];omega
  ·have:=(hE.apart _ hl).2.2;omega
  ·have hj' : (cellsOf old++X)[j]?=some x:=by rw [pF] at hj;simpa [cellsOf,hxc] using hj
   have hlt:=(aGs hj').1
   rw [Array.getElem?_append_left (by simpa using hlt)]
   simpa using hj'
 have NI:∀(c:Obj) (k:Nat),k < w.heap.size→(w1.drew.alloc c).heap[k]?=w1.heap[k]?:=fun c k hk=>((fp.drew w1).trans (fp.alloc w1.drew c)).keep k (Nat.lt_of_lt_of_le hk hw)
 have NK:∀(c:Obj),w1.heap.size≤(w1.drew.alloc c).heap.size:=fun c=>((fp.drew w1).trans (fp.alloc w1.drew c)).size
 rcases h with⟨rfl,rfl⟩ | ⟨B,cap,cur,e,xs,rfl,h2,h3,h4,h5,h6,h7,h8,h9,h10⟩
 ·have ej:=run_append_nil (P:=PP) w1 23 ty 25 inf z hu i1 i4 ⟨Bs,off,none⟩ 1 Ow X (by rw [xl,i2']) oI Nat.one_pos (by decide) (by rw [i3'];decide)
  have hge:(0:Nat) + 1≤grownCap w1 1 0 25:=grownCap_ge w1 1 0 25
  obtain⟨k1,k2,k3⟩:=tK [] (grownCap w1 1 0 25) rfl hge trivial
  refine⟨_,_,by rw [hcv];exact ej,?_,?_,?_,?_⟩
  ·simpa [cellsOf] using k1
  ·simpa [cellsOf] using k2
  ·simpa [cellsOf] using k3
  ·exact⟨rfl,rfl,rfl,NK _,NI _⟩
 ·have hxl:xs.length=rows.length:=h9.length
  have holds:(cellsOf xs).length=rows.length * 5:=by rw [gO,hxl]
  by_cases nc:rows.length + 1≤cap
  ·have Lp:rows.length * inf.size + X.length≤cur.size:=by
    rw [i2',xl,h6]
    have:=Nat.mul_le_mul_right 5 nc;omega
   have ej:=nb (P:=PP) (w:=w1) hu i1 B rows.length cap cur e h5 ⟨Bs,off,none⟩ 1 Ow X (by rw [xl,i2']) oI hX1 nc Lp ty
   have LA:cur.toList.take (rows.length * inf.size)=cellsOf xs:=by
    apply List.ext_getElem?
    intro j
    rw [List.getElem?_take]
    split
    ·rename_i hlt
     have hjl:j < (cellsOf xs).length:=by rw [holds];rw [i2'] at hlt;exact hlt
     have hj:=aGe hjl
     rw [hj]
     simpa using h10 j _ hj
    ·rename_i hge
     rw [List.getElem?_eq_none (by rw [holds];rw [i2'] at hge;omega)]
   rw [LA] at ej
   have hkB:∀k,k≠B→(w1.setRow B (cellsOf xs++X++cur.toList.drop (rows.length * inf.size + X.length)).toArray).heap[k]?=w1.heap[k]?:=fun k hk=>setRow_other w1 B k _ hk
   refine⟨_,_,by rw [hcv];exact ej,hS.except (EB hS rfl B) h7 hkB,CO hE h8 h5 hkB (by rw [setRow_size];exact Nat.le_refl _),.inr ⟨B,cap,_,e,xs++[xc],by rw [CP],by omega,by rw [CP];exact nc,h4,setRow_heap w1 B cur _ e (0,0) h5,?_,h7,h8,h9.append ⟨hxr,trivial⟩,fun j x hj=>?_⟩,rfl,rfl,rfl,by rw [setRow_size];exact Nat.le_refl _,fun k hk=>hkB k (by omega)⟩
   ·have:=Nat.mul_le_mul_right 5 nc
    simp only [List.size_toArray,aLa,List.length_drop,Array.length_toList,h6,holds,i2',xl]
    omega
   ·have hj' : (cellsOf xs++X)[j]?=some x:=by rw [pF] at hj;simpa [cellsOf,hxc] using hj
    have hlt:=(aGs hj').1
    simp only [List.getElem?_toArray]
    rw [List.getElem?_append_left hlt]
    exact hj'
  ·have hb1:(rows.length + 1) * inf.bytes≤140737488355328:=by rw [i3'];omega
   have nO:∀(j:Nat) (x:Value),(cellsOf xs)[j]?=some x→w1.cell? (Addr.add ⟨B,0,none⟩ j)=some x:=fun j x hj=>by
    rw [Addr.add_lit]
    simp only [World.cell?,h5,Nat.zero_add]
    exact h10 j x hj
   have ej:=run_append_grow (P:=PP) w1 23 ty 25 inf z hu i1 i4 ⟨B,0,none⟩ rows.length cap (cellsOf xs) (by rw [holds,i2']) nO ⟨Bs,off,none⟩ 1 Ow X (by rw [xl,i2']) oI (by omega) (by omega) (growslice_fits (by omega) hb1)
   obtain⟨k1,k2,k3⟩:=tK xs _ hxl (grownCap_ge w1 (rows.length + 1) cap 25) h9
   exact⟨_,_,by rw [hcv];exact ej,k1,k2,k3,rfl,rfl,rfl,NK _,NI _⟩
end
noncomputable def AW:Code→List Oper | .region _ ops _=>ops.toList | _=>[]
noncomputable def LJ:Code→Code | .block _ c=>c | .loop c=>c | c=>c
noncomputable def spB:Code:=il Go.Proofs.Tryz.f154
noncomputable def spC:List Code:=[wJ spB,wJ (wK spB)]
noncomputable def Js:Code:=wK (wK (wK spB))
noncomputable def AX:Code:=LJ (LJ (wJ Js))
noncomputable def sp4:List Oper:=AW (wJ (wJ AX))
noncomputable def sp5:List Oper:=AW (wJ (LJ (wK AX)))
noncomputable def sp6:List Oper:=AW (wK (LJ (wK AX)))
noncomputable def sp8:List Oper:=AW (wJ (wK (wK Js)))
structure Jt (a0 q0 q6 q7 u0 u1 v0 v1 v2 v3:Oper) (c1 c2:Call):Prop where
 a0o:a0.op=.assign (.const (.slice none 0 0))
 a0d:a0.dst=some 4
 a0g:a0.guard=none
 q0o:q0.op=.move (.tmp 4)
 q0d:q0.dst=some 12
 q0g:q0.guard=none
 q6o:q6.op=.call c1
 q6f:c1.callee=.builtin .append
 q6a:c1.args = #[.tmp 12,.tmp 17]
 q6t:c1.argTypes = #[23,23]
 q6d:q6.dst=some 18
 q6g:q6.guard=none
 q7o:q7.op=.assign (.tmp 18)
 q7d:q7.dst=some 4
 q7g:q7.guard=none
 u0o:u0.op=.move (.tmp 4)
 u0d:u0.dst=some 23
 u0g:u0.guard=none
 u1o:u1.op=.call c2
 u1f:c2.callee=.value (.func 183)
 u1a:c2.args = #[.tmp 23]
 u1d:u1.dst=some 24
 u1g:u1.guard=none
 v0d:v0.dst=some 25
 v1o:v1.op=.move (.tmp 4)
 v1d:v1.dst=some 26
 v1g:v1.guard=none
 v2d:v2.dst=none
 v3o:v3.op=.assign (.tmp 26)
 v3d:v3.dst=some 3
 v3g:v3.guard=none
theorem LK:∃(i3 i4 i5 i6 i7 i8:Nat) (a0 h0 h1 h2 q0 q1 q2 q3 q4 q5 q6 q7 s0 s1 s2 s3 s4 u0 u1 v0 v1 v2 v3:Oper) (c1 c2:Call),
 spB=uE spC (.seq (.region i3 #[a0] false) (.seq (.block 0 (.loop (.seq (.seq (.region i4 #[h0,h1,h2] false) (.cond (.tmp 11) .skip (.exit 0))) (.block 1 (.seq (.region i5 #[q0,q1,q2,q3,q4,q5,q6,q7] false) (.region i6 #[s0,s1,s2,s3,s4] false))))))
  (.seq (.region i7 #[u0,u1] false) (.seq (.region i8 #[v0,v1,v2,v3] false) .ret))))∧
 sp4=[h0,h1,h2]∧sp5=[q0,q1,q2,q3,q4,q5,q6,q7]∧sp6=[s0,s1,s2,s3,s4]∧sp8=[v0,v1,v2,v3]∧Jt a0 q0 q6 q7 u0 u1 v0 v1 v2 v3 c1 c2∧
 [h0,h1,h2].map (·.dst)=[some 9,some 10,some 11]∧[q1,q2,q3,q4,q5].map (·.dst)=[some 13,some 14,some 15,some 16,some 17]∧[s0,s1,s2,s3,s4].map (·.dst)=[some 19,some 20,some 21,some 22,none]:=
 ⟨_,_,_,_,_,_,_,_,_,_,_,_,_,_,_,_,_,_,_,_,_,_,_,_,_,_,_,_,_,_,_,rfl,rfl,rfl,rfl,rfl,
  ⟨rfl,rfl,rfl,rfl,rfl,rfl,rfl,rfl,rfl,rfl,rfl,rfl,rfl,rfl,rfl,rfl,rfl,rfl,rfl,rfl,rfl,rfl,rfl,rfl,rfl,rfl,rfl,rfl,rfl,rfl,rfl⟩,rfl,rfl,rfl⟩
theorem sF {l:List Oper} {ds:List (Option Nat)} (h:l.map (·.dst)=ds) {t:Nat} (ht:some t∉ds):∀o∈l,o.dst≠some t:=fun o ho he=>ht (by rw [← h,← he];exact List.mem_map_of_mem ho)
noncomputable def spT:List (Nat×V):=[(1,.ptr (.loc 1) 0),(2,.ptr (.loc 2) 0)]
noncomputable def spR (A:Env) (S:St):Option Env:=
 match S with
 | ⟨[],[]⟩=>match look 1 A.tmps,look 2 A.tmps with
  | some (.ptr (.loc 1) 0),some (.ptr (.loc 2) 0)=>some { A with tmps:=spT }
  | _,_=>none
 | _=>none
noncomputable def fq (R:Run) (all l:List Oper) (i:Nat) (A:Env):Option (Env×St):=bE Tryz.cfg R (Tryz.cfg.fc 154) (fun _=>.any) all l i A St.empty
noncomputable def EC (rows:List V):Option V→Option (List V)
 | some (.list 5 .tight 0 [.agg cs])=>bif Nat.beq (aG cs) 5 && isZero (aF cs) && allB dN cs && Nat.ble ((aG rows + 1) * 81) 140737488355328 then some (cq rows [.agg cs]) else none
 | _=>none
noncomputable def nX (R:Run) (A:Env) (rows:List V):Option (Bool×Env×List V):=
 match fq R sp4 sp4 0 A with
 | some (A1,S1)=>match spR A1 S1,look 11 A1.tmps with
  | some A2,some (.bool false)=>some (false,A2,rows)
  | some A2,some (.bool true)=>match fq R sp5 (takeN 5 (fP 1 sp5)) 1 A2 with
   | some (A3,S3)=>match spR A3 S3,EC rows (look 17 A3.tmps) with
    | some A4,some jI=>match fq R sp6 sp6 0 A4 with
     | some (A5,S5)=>match spR A5 S5 with
      | some A6=>some (true,A6,jI)
      | none=>none
     | none=>none
    | _,_=>none
   | none=>none
  | _,_=>none
 | none=>none
noncomputable def tW (R:Run) (m:Nat) (A:Env) (rows:List V):Option (Env×List V):=
 Nat.rec (motive:=fun _=>Env→List V→Option (Env×List V)) (fun _ _=>none) (fun _ ih A rows=>match nX R A rows with
  | some (true,A,rows)=>ih A rows
  | some (false,A,rows)=>some (A,rows)
  | none=>none) m A rows
noncomputable def zd (vs:List V):Option V:=bif isZero (aJ vs) && allB gA vs then some (one vs) else none
noncomputable def uL (R:Run) (A:Env) (rows:List V):Option V:=
 match fq R sp8 (takeN 1 sp8) 0 A with
 | some (A1,S1)=>match S1,look 26 A1.tmps with
  | ⟨[],[]⟩,none=>match fq R sp8 (takeN 1 (fP 2 sp8)) 2 A1 with
   | some (A2,S2)=>match spR A2 S2 with
    | some A3=>match cR Tryz.cfg { A3 with tmps:=(3,.list 5 .no 0 (List.reverse rows))::A3.tmps } St.empty (Go.Proofs.Tryz.f154).results.toList with
     | some vs=>zd vs
     | none=>none
    | none=>none
   | none=>none
  | _,_=>none
 | none=>none
noncomputable def pG:kR:=fun R k args=>
 match gb Tryz.cfg R k 154 (Tryz.cfg.fc 154) spC { nt:=(Go.Proofs.Tryz.f154).ntmps,tmps:=number 0 args,locs:=[],fix:=[] } St.empty with
 | some (.normal,A,S)=>match spR A S with
  | some A=>bif Nat.blt 26 A.nt then match tW R k A [] with
   | some (A,rows)=>bif Nat.ble (aG rows) 9223372036854775807 then uL R A rows else none
   | none=>none
   else none
  | none=>none
 | some (.ret,A,S)=>match cR Tryz.cfg A S (Go.Proofs.Tryz.f154).results.toList with
  | some vs=>zd vs
  | none=>none
 | _=>none
end Go.Ev
namespace Go.Ev
open Go.RowKit
noncomputable def wM (S:St) (k:Nat) (b:Blk):St:={ S with heap:=tC S.heap k b }
noncomputable def tX (S:St) (k:Nat):Option (V×St)→Option (V×St)
 | some (v,S')=>match nth S'.heap 0 with
  | some (.cells ty vs)=>bif isZero v.lvl && isZero (aF vs) then some (v.b8,wM S k (.cells ty (bg aj vs))) else none
  | _=>none
 | none=>none
noncomputable def narrow (R:Run) (id:Nat) (args:List V) (S:St):Option (V×St):=
 match args with
 | .ptr (.box k) 0::rest=>bif isZero (aJ rest) then match nth S.heap k with
  | some (.cells ty vs)=>bif isZero (aF vs) then tX S k (R (.f id) (.ptr (.box 0) 0::bg V.strip rest) { heap:=[.cells ty (bg aj vs)],aA:=[] }) else none
  | _=>none
  else none
 | _=>none
noncomputable def cp (N:Nat→Bool) (R:Run):Run
 | .f id,args,S=>match N id with | true=>narrow R id args S | false=>R (.f id) args S
 | .y b,args,S=>R (.y b) args S
section
variable {C:Cfg} {P:Program} {R:Run} {E:Rho} {S:St} {w:World}
theorem pH {id:Nat} {args:List V} {r:V×St} (h:narrow R id args S=some r) :
 ∃k rest ty vs v S' ty' vs',args=.ptr (.box k) 0::rest∧within (aJ rest) 0∧S.heap[k]?=some (.cells ty vs)∧within (aF vs) 0∧
  R (.f id) (.ptr (.box 0) 0::rest.map V.strip) { heap:=[.cells ty (vs.map aj)],aA:=[] }=some (v,S')∧S'.heap[0]?=some (.cells ty' vs')∧
  within v.lvl 0∧within (aF vs') 0∧r=(v.b8,wM S k (.cells ty' (vs'.map aj))):=by
 unfold narrow at h
 split at h
 ·rename_i k rest
  cases h1:isZero (aJ rest) with
  | false=>rw [h1] at h;cases h
  | true=>
   rw [h1] at h
   simp only [cond_true] at h
   split at h
   ·rename_i ty vs hk
    cases h2:isZero (aF vs) with
    | false=>rw [h2] at h;cases h
    | true=>
     rw [h2] at h
     simp only [cond_true] at h
     unfold tX at h
     split at h
     ·rename_i v S' hr
      split at h
      ·rename_i ty' vs' hk'
       cases h3:isZero v.lvl with
       | false=>rw [h3] at h;cases h
       | true=>
        cases h4:isZero (aF vs') with
        | false=>rw [h3,h4] at h;cases h
        | true=>
         rw [h3,h4] at h
         simp only [Bool.and_self,cond_true,Option.some.injEq] at h
         rw [bR] at hk hk'
         rw [bD,bD] at hr
         rw [bD] at h
         exact⟨k,rest,ty,vs,v,S',ty',vs',rfl,cm h1,hk,cm h2,hr,hk',cm h3,cm h4,h.symm⟩
      ·cases h
     ·cases h
   ·cases h
 ·cases h
def pI (E:Rho) (B:Nat):Rho:=⟨E.M,[B],[],fun _ _=>none⟩
theorem rO {M:Nat→Nat→Option Value} {cs:List V} {X:List Value} (hM:∀B o x,E.M B o=some x→M B o=some x) (h:ao E bw cs X) (hl:within (aF cs) 0):ao (only M) bw (cs.map aj) X:=by
 have h1:ao E bw [.agg cs] [.agg ⟨X⟩]:=⟨_,[],rfl,⟨a6 hl,X,rfl,h⟩,rfl⟩
 obtain⟨x,Y,e,⟨_,X',e',h3⟩,_⟩:=jj hM h1 (aX.2 ⟨hl,⟨0,rfl,Nat.le_refl _⟩⟩)
 cases e
 cases e'
 rw [bD] at h3
 exact h3
theorem qt {M:Nat→Nat→Option Value} (hM:∀B o x,M B o=some x→E.M B o=some x):eV (only M) E:=⟨hM,⟨E.ρ,rfl⟩,(fun t o h=>by cases h),(fun b h=>absurd h (Nat.not_lt_zero _))⟩
theorem wN {E' : Rho} {cs:List V} {X:List Value} (h:ao E bw cs X) (hm:eV E E') (hl:within (aF cs) 0):ao E' bw cs X:=ao.lQ h hm hl
theorem hD {cs:List V} (h:within (aF cs) 0):within (aF (cs.map aj)) 0:=by rw [dA];exact h
theorem ED {k B ty:Nat} {vs:List V} (hS:bI E S w) (hB:E.ρ[k]?=some B) (hk:S.heap[k]?=some (.cells ty vs)) (hl:within (aF vs) 0) :
 bI (pI E B) { heap:=[.cells ty (vs.map aj)],aA:=[] } w where
 len:=rfl
 blk b B' k' hb hk':=by
  cases b with
  | succ b=>cases hb
  | zero=>
   cases hb
   cases hk'
   obtain⟨arr,ty0,h1,h2,h3,h4⟩:=(hS.blk k B _ hB hk:bu E w B vs)
   have h5:=rO (M:=E.M) (fun _ _ _ h=>h) h2 hl
   exact (⟨arr,ty0,h1,wN h5 (qt (E:=pI E B) (fun _ _ _ h=>h)) (hD hl),a6 (hD hl),h4⟩ : bu (pI E B) w B (vs.map aj))
 nodup:=by simp [pI]
 nL:=rfl
 tok t o ho:=by cases ho
 m6 t u o p ho:=by cases ho
 tρ t o ho:=by cases ho
 M:=hS.M
 Mρ B' o x hx hb:=by
  have hb' : B'∈[B]:=hb
  rw [List.mem_singleton] at hb'
  subst hb'
  exact hS.Mρ B' o x hx (aMg hB)
 Mτ B' o x t p _ hp:=by cases hp
 ll b r d B' hb:=by
  cases b with
  | succ b=>cases hb
  | zero=>cases hb
 jN b b' r r' d d' B' hb:=by
  cases b with
  | succ b=>cases hb
  | zero=>cases hb
theorem Ju {B ty:Nat} {vs:List V} {j:Nat}:FP (pI E B) { heap:=[.cells ty vs],aA:=[] } j↔j=B:=by
 constructor
 ·rintro (h | ⟨o,ho,_⟩ | ⟨b,r,d,h1,_⟩)
  ·exact List.mem_singleton.1 h
  ·cases ho
  ·cases b with
   | succ b=>cases h1
   | zero=>cases h1
 ·rintro rfl;exact .inl (List.mem_singleton.2 rfl)
theorem ze {E1 E2:Rho} (hm:eV E1 E2):∀{vs:List V} {X:List Value},ao E1 bw vs X→ao E2 bw vs X
 | [],_,h=>h
 | v::vs,X,h=>by
  obtain⟨x,Y,rfl,h1,h2⟩:=h
  exact⟨x,Y,rfl,h1.mono hm (fun _ _ hn _=>by cases hn),ze hm h2⟩
theorem HO {o:Option Nat} {n m:Nat} (h:within o n) (hm:n≤m):within o m:=by
 obtain⟨q,h1,h2⟩:=h
 exact⟨q,h1,Nat.le_trans h2 hm⟩
theorem yz {v:V} (h:within v.lvl 0):within v.b8.lvl 0:=by
 have key:=jf v
 cases v with
 | tuple vs=>
  show within (aJ (bg V.strip vs)) 0
  rw [bD,dc];exact h
 | _=>exact fm (Eq.mpr (congrArg (fun o=>within o 0) key) h)
theorem yA {M:Nat→Nat→Option Value} {v:V} {x:Value} (hM:∀B o x,E.M B o=some x→M B o=some x) (hv:a7 E bw v x) (h:within v.lvl 0):a7 (only M) bw v.b8 x:=by
 have key:∀v:V,within (fW v) 0→a7 E bw v x→a7 (only M) bw v.strip x:=fun v h hv=>by
  obtain⟨y,Z,e,h1,_⟩:=jj (M:=M) hM (vs:=[v]) (X:=[x]) ⟨x,[],rfl,hv,rfl⟩ (aX.2 ⟨h,⟨0,rfl,Nat.le_refl _⟩⟩)
  cases e
  exact h1
 cases v with
 | tuple vs=>
  obtain⟨_,X,rfl,h2⟩:=hv
  have hw:within (aJ vs) 0:=h
  have h3:=jj hM h2 hw
  refine⟨?_,X,rfl,?_⟩
  ·rw [bD,dc];exact a6 hw
  ·rw [bD];exact h3
 | _=>exact key _ (by exact h) hv
theorem AY (hR:cK C P R) {id:Nat} {args:List V} {v:V} {S' : St} (h:narrow R id args S=some (v,S')) :
 v.lvl.isSome=true∧∀E w X,bI E S w→ao E bw args X→(aJ args).isSome=true→Calls P id ⟨X⟩ w (kx E S w v S'):=by
 obtain⟨k,rest,ty,vs,v0,S0,ty',vs',rfl,jG,hk,hvs,ej,hk0,hv0,Ox,e⟩:=pH h
 cases e
 have wz:=(hR.call id _ _ v0 S0 (by rw [show allB V.pure (V.ptr (.box 0) 0::rest.map V.strip)=false from rfl,Bool.and_false]) ej).2
 have hvl:within v0.b8.lvl 0:=yz hv0
 refine⟨a6 hvl,fun E w X hS hX hlv=>?_⟩
 obtain⟨x,Y,rfl,⟨B,hB,hx⟩,hY⟩:=hX
 have Uz:B < w.heap.size:=hS.lt hB
 have hBm:B∈E.ρ:=aMg hB
 have eL:ao (pI E B) bw (.ptr (.box 0) 0::rest.map V.strip) (x::Y):=
  ⟨x,Y,rfl,⟨B,rfl,hx⟩,ze (qt (E:=pI E B) (fun _ _ _ h=>h)) (jj (M:=E.M) (fun _ _ _ h=>h) hY jG)⟩
 refine (wz (pI E B) w (x::Y) (ED hS hB hk hvs) eL (a6 (n:=1) (aX.2 ⟨⟨1,rfl,Nat.le_refl _⟩,HO (by rw [dc];exact jG) (Nat.zero_le 1)⟩))).mono ?_
 rintro e w' ⟨cv,E',rfl,hS',hst,hv⟩
 obtain⟨r,hr⟩:=hst.rho
 have hB0:E'.ρ[0]?=some B:=by rw [hr];rfl
 have hmn:∀B1 o y,E'.M B1 o=some y→E.M B1 o=some y∨w.heap.size≤B1:=fun B1 o y hy=>by
  rcases hst.oN B1 o y hy with h1 | h1 | h1
  ·exact .inl h1
  ·have:=Ju.1 h1
   subst this
   exact absurd (aMg hB0) (hS'.Mρ _ o y hy)
  ·exact .inr h1
 have oH:∀j,j < w.heap.size→j≠B→w'.heap[j]?=w.heap[j]?:=fun j h1 h2=>hst.keep j h1 (fun hf=>h2 (Ju.1 hf))
 have hm:eV E { E with M:=E'.M }:=⟨hst.mem,⟨[],by simp⟩,(fun t o h=>⟨o,h,rfl,Nat.le_refl _,fun _=>rfl⟩),fun _ _=>rfl⟩
 have Qb:∀b bk,(wM S k (.cells ty' (vs'.map aj))).heap[b]?=some bk→(b=k∧bk=.cells ty' (vs'.map aj))∨(b≠k∧S.heap[b]?=some bk):=fun b bk hb=>by
  have hb' : (tC S.heap k (.cells ty' (vs'.map aj)))[b]?=some bk:=hb
  rw [eT,List.getElem?_set] at hb'
  by_cases hbk:k=b
  ·rw [if_pos hbk] at hb'
   subst hbk
   split at hb'
   ·cases hb';exact .inl ⟨rfl,rfl⟩
   ·cases hb'
  ·rw [if_neg hbk] at hb'
   exact .inr ⟨fun e=>hbk e.symm,hb'⟩
 have ku:∀b rr,(wM S k (.cells ty' (vs'.map aj))).heap[b]?=some (Blk.loop rr)→S.heap[b]?=some (Blk.loop rr):=fun b rr hb=>by
  rcases Qb b _ hb with⟨_,h1⟩ | ⟨_,h1⟩
  ·cases h1
  ·exact h1
 have hbl:∀b rr,S.heap[b]?=some (Blk.loop rr)→∀j,LP (E.lm b) rr.locs j→j≠B∧j < w.heap.size:=fun b rr hb j hj=>by
  obtain⟨d,h1,h2⟩:=hj
  refine⟨fun e=>(hS.ll b rr d j hb h1 h2).1 (e▸hBm),?_⟩
  have hlt:b < E.ρ.length:=by rw [← hS.len];exact (aGs hb).1
  have hh:=hS.blk b _ _ (aGe hlt) hb
  obtain⟨cs,hcs⟩:=Option.isSome_iff_exists.1 h1
  obtain⟨B2,h3,h4⟩:=(hh:fF E w _ _ rr∧qK E w (E.lm b) rr.locs).2.cells d cs hcs
  rw [h2] at h3
  cases h3
  exact h4.lt
 refine⟨cv,{ E with M:=E'.M },rfl,?_,?_,?_⟩
 ·refine⟨?_,?_,hS.nodup,hS.nL,?_,hS.m6,hS.tρ,hS'.M,?_,?_,?_,?_⟩
  ·show (tC S.heap k _).length=_
   rw [eT,List.length_set];exact hS.len
  ·intro b B' bk hb hbk
   rcases Qb b bk hbk with⟨rfl,rfl⟩ | ⟨hne,h1⟩
   ·have:B'=B:=by
     have hb' : E.ρ[b]?=some B':=hb
     rw [hB] at hb';cases hb';rfl
    subst this
    obtain⟨arr,ty0,k1,k2,k3,k4⟩:=(hS'.blk 0 B' _ hB0 hk0:bu E' w' B' vs')
    have k5:=rO (M:=E'.M) (fun _ _ _ h=>h) k2 Ox
    exact (⟨arr,ty0,k1,wN k5 (qt (E:={ E with M:=E'.M }) (fun _ _ _ h=>h)) (hD Ox),a6 (hD Ox),k4⟩ : bu { E with M:=E'.M } w' B' (vs'.map aj))
   ·have hb' : E.ρ[b]?=some B':=hb
    have hlt:b < E.ρ.length:=(aGs hb').1
    have B4 : B'≠B:=fun e=>by
     subst e
     have hkl:k < E.ρ.length:=(aGs hB).1
     exact hne ((List.getElem?_inj hlt hS.nodup).1 (hb'.trans hB.symm))
    refine (hS.blk b B' bk hb' h1).mono hm hlt (oH B' (hS.lt hb') B4) (fun rr e j hj=>?_)
    subst e
    obtain⟨j1,j2⟩:=hbl b rr h1 j hj
    exact oH j j2 j1
  ·intro t o ho
   obtain⟨h1,h2,h3,h4,cur,ee,h5,h6⟩:=hS.tok t o ho
   exact⟨h1,h2,h3,h4,cur,ee,by rw [oH o.g (hS.lR ho) (fun e=>hS.tρ t o ho (e▸hBm))];exact h5,h6⟩
  ·intro B1 o y hy hb1
   rcases hmn B1 o y hy with h1 | h1
   ·exact hS.Mρ B1 o y h1 hb1
   ·have:=hS.tL hb1;omega
  ·intro B1 o y t p hy hp hg
   rcases hmn B1 o y hy with h1 | h1
   ·exact hS.Mτ B1 o y t p h1 hp hg
   ·have:=hS.lR hp;omega
  ·intro b rr d B1 hb h1 h2
   obtain⟨h3,h4,h5⟩:=hS.ll b rr d B1 (ku b rr hb) h1 h2
   refine⟨h3,h4,fun o=>?_⟩
   cases hq:E'.M B1 o with
   | none=>rfl
   | some y=>
    rcases hmn B1 o y hq with h6 | h6
    ·rw [h5 o] at h6;cases h6
    ·have:=(hbl b rr (ku b rr hb) B1 ⟨d,h1,h2⟩).2;omega
  ·intro b b' rr rr' d d' B1 hb hb'
   exact hS.jN b b' rr rr' d d' B1 (ku b rr hb) (ku b' rr' hb')
 ·refine⟨hst.os,hst.tape,hst.output,hst.size,fun j h1 h2=>oH j h1 (fun e=>h2 (.inl (e▸hBm))),?_,hst.mem,fun B1 o y hy=>(hmn B1 o y hy).imp (fun h=>h) .inr,⟨[],by simp⟩,hm.tok,fun _ _=>rfl⟩
  rintro j (h1 | h1 | ⟨b,rr,d,h1,h2,h3⟩)
  ·exact .inl (.inl h1)
  ·exact .inl (.inr (.inl h1))
  ·exact .inl (.inr (.inr ⟨b,rr,d,ku b rr h1,h2,h3⟩))
 ·exact (yA (M:=E'.M) (fun _ _ _ h=>h) hv hv0).mono (qt (fun _ _ _ h=>h)) (fun _ _ hn _=>by cases hn)
theorem EE {N:Nat→Bool} (hR:cK C P R):cK C P (cp N R) where
 fn id args S r h:=by
  unfold cp at h
  simp only at h
  split at h
  ·obtain⟨k,rest,ty,vs,v0,S0,ty',vs',rfl,_,_,_,ej,_⟩:=pH h
   exact hR.fn id _ _ _ ej
  ·exact hR.fn id args S r h
 pure id args S v S' hp ha h:=by
  unfold cp at h
  simp only at h
  split at h
  ·obtain⟨k,rest,ty,vs,v0,S0,ty',vs',rfl,_⟩:=pH h
   cases ha
  ·exact hR.pure id args S v S' hp ha h
 call id args S v S' hq h:=by
  unfold cp at h
  simp only at h
  split at h
  ·exact AY hR h
  ·exact hR.call id args S v S' hq h
 yield b args S v S' h:=hR.yield b args S v S' h
end
noncomputable def readOnly (R:Run) (id:Nat) (args:List V) (S:St):Option (V×St):=
 match args with
 | .ptr (.box k) 0::rest=>bif isZero (aJ rest) then match nth S.heap k with
  | some (.cells _ vs)=>bif isZero (aF vs) then match R (.f id) (.imm 0 (bg aj vs)::bg V.strip rest) St.empty with
   | some (v,_)=>bif rl v then some (v,S) else none
   | none=>none
   else none
  | _=>none
  else none
 | _=>none
noncomputable def cX (F:Nat→Bool) (R:Run):Run
 | .f id,args,S=>match F id with
  | true=>(match args with
   | .ptr _ _::_=>readOnly R id args S
   | _=>R (.f id) args S)
  | false=>R (.f id) args S
 | .y b,args,S=>R (.y b) args S
section
variable {C:Cfg} {P:Program} {R:Run} {E:Rho} {S:St} {w:World}
theorem tY {id:Nat} {args:List V} {r:V×St} (h:readOnly R id args S=some r) :
 ∃k rest ty vs v S',args=.ptr (.box k) 0::rest∧within (aJ rest) 0∧S.heap[k]?=some (.cells ty vs)∧within (aF vs) 0∧
  R (.f id) (.imm 0 (vs.map aj)::rest.map V.strip) St.empty=some (v,S')∧rl v=true∧r=(v,S):=by
 unfold readOnly at h
 split at h
 ·rename_i k rest
  cases h1:isZero (aJ rest) with
  | false=>rw [h1] at h;cases h
  | true=>
   rw [h1] at h
   simp only [cond_true] at h
   split at h
   ·rename_i ty vs hk
    cases h2:isZero (aF vs) with
    | false=>rw [h2] at h;cases h
    | true=>
     rw [h2] at h
     simp only [cond_true] at h
     split at h
     ·rename_i v S' hr
      cases h3:rl v with
      | false=>rw [h3] at h;cases h
      | true=>
       rw [h3] at h
       simp only [cond_true,Option.some.injEq] at h
       rw [bR] at hk
       rw [bD,bD] at hr
       exact⟨k,rest,ty,vs,v,S',rfl,cm h1,hk,cm h2,hr,h3,h.symm⟩
     ·cases h
   ·cases h
 ·cases h
theorem uM:∀{vs:List V},within (aJ vs) 0→allB V.pure vs=true
 | [],_=>rfl
 | v::vs,h=>by
  have hb:=aX.1 h
  refine cE.2 ⟨?_,uM hb.2⟩
  obtain⟨n,h1,h2⟩:=hb.1
  have:n=0:=by omega
  subst this
  unfold V.pure;rw [h1];rfl
theorem EF (hR:cK C P R) {id:Nat} (hp:(C.fc id).pure=true) {args:List V} {v:V} {S' : St} (h:readOnly R id args S=some (v,S')) :
 v.lvl.isSome=true∧∀E w X,bI E S w→ao E bw args X→(aJ args).isSome=true→Calls P id ⟨X⟩ w (kx E S w v S'):=by
 obtain⟨k,rest,ty,vs,v0,S0,rfl,jG,hk,hvs,ej,yQ,e⟩:=tY h
 cases e
 have Au:within (aJ (rest.map V.strip)) 0:=by rw [dc];exact jG
 have hpa:allB V.pure (V.imm 0 (vs.map aj)::rest.map V.strip)=true:=cE.2 ⟨rfl,uM Au⟩
 obtain⟨hS0,hwv,hpl,wz⟩:=hR.pure id _ _ _ _ hp hpa ej
 refine⟨a6 hwv,fun E w X hS hX hlv=>?_⟩
 obtain⟨x,Y,rfl,⟨B,hB,hx⟩,hY⟩:=hX
 obtain⟨arr,ty0,k1,k2,k3,k4⟩:=(hS.blk k B _ hB hk:bu E w B vs)
 have hM:=lT hS
 have h1:ao (only (World.all w)) bw (rest.map V.strip) Y:=jj hM hY jG
 have h2:ao (only (World.all w)) bw ((rest.map V.strip).map V.strip) Y:=jj (E:=only (World.all w)) (fun _ _ _ h=>h) h1 Au
 have h3:=rO (M:=World.all w) hM k2 hvs
 have h4:bA (only (World.all w)) bw (vs.map aj) B 0:=bA.lf h3 (fun j y hj=>by
  refine jO ?_ (by rw [Nat.zero_add];exact Kn.block k1 (k4 y (aMg hj)))
  rw [Nat.zero_add]
  simp only [World.cell?,k1]
  rw [Array.getElem?_toList] at hj
  exact hj) (cA _)
 refine (wz (World.all w) w (x::Y) (all_true w) ⟨x,Y,rfl,⟨?_,B,0,hx,h4⟩,h2⟩).mono ?_
 ·exact hD hvs
 rintro e w' ⟨cv,M',rfl,hg,hT,hM1,hM2,hv⟩
 obtain⟨f1,f2⟩:=hS.frame (E':=E) (w':=w') rfl rfl rfl (fun _ _ _ h=>h) hg.keep (fun _ _ _ h=>.inl h)
 exact⟨cv,E,rfl,f1,⟨hg.os,hg.tape,hg.output,hg.size,fun j h1 _=>hg.keep j h1,fun j h=>.inl h,fun _ _ _ h=>h,fun _ _ _ h=>.inl h,f2.rho,f2.tok,f2.lm⟩,Cf yQ hv E bw⟩
theorem CQ {F:Nat→Bool} (hF:∀id,F id=true→(C.fc id).pure=true) (hR:cK C P R):cK C P (cX F R) where
 fn id args S r h:=by
  unfold cX at h
  simp only at h
  split at h
  ·split at h
   ·obtain⟨k,rest,ty,vs,v,S',_,_,_,_,ej,_⟩:=tY h
    exact hR.fn id _ _ _ ej
   ·exact hR.fn id _ S r h
  ·exact hR.fn id args S r h
 pure id args S v S' hp ha h:=by
  unfold cX at h
  simp only at h
  split at h
  ·split at h
   ·obtain⟨k,rest,ty,vs,v,S',e,_⟩:=tY h
    rw [e] at ha;cases ha
   ·exact hR.pure id _ S v S' hp ha h
  ·exact hR.pure id args S v S' hp ha h
 call id args S v S' hq h:=by
  unfold cX at h
  simp only at h
  split at h
  ·rename_i hf
   split at h
   ·exact EF hR (hF id hf) h
   ·exact hR.call id _ S v S' hq h
  ·exact hR.call id args S v S' hq h
 yield b args S v S' h:=hR.yield b args S v S' h
end
noncomputable def wO (T:Nat→Option kR) (N F:Nat→Bool) (k:Nat) (R:Run):Run:=cX F (cp N (bT T k R))
noncomputable def fD (C:Cfg) (T:Nat→Option kR) (N F:Nat→Bool):Nat→Run
 | 0=>fun _ _ _=>none
 | n + 1=>step C (wO T N F n (fD C T N F n)) n
theorem wP {C:Cfg} {P:Program} {T:Nat→Option kR} {N F:Nat→Bool} {k:Nat} {R:Run} (hT:uD C P T) (hF:∀id,F id=true→(C.fc id).pure=true) (hR:cK C P R):cK C P (wO T N F k R):=
 CQ hF (EE (nT hT hR))
theorem Gi {C:Cfg} {P:Program} {T:Nat→Option kR} {N F:Nat→Bool} (hC:CfgOk C P) (hT:uD C P T) (hF:∀id,F id=true→(C.fc id).pure=true):∀n,cK C P (fD C T N F n)
 | 0=>⟨(fun _ _ _ _ h=>by cases (show (none:Option (V×St))=_ from h)),(fun _ _ _ _ _ _ _ h=>by cases (show (none:Option (V×St))=_ from h)),
  (fun _ _ _ _ _ _ h=>by cases (show (none:Option (V×St))=_ from h)),(fun _ _ _ _ _ h=>by cases (show (none:Option (V×St))=_ from h))⟩
 | n + 1=>Gb (k:=n) hC (wP hT hF (Gi hC hT hF n))
end Go.Ev
namespace Go.Ev
open Go.RowKit Go.Sort Go.Proofs
noncomputable def uN:Nat→Code→List Code
 | 0,_=>[]
 | n + 1,c=>wJ c::uN n (wK c)
noncomputable def nr:Nat→Code→Code
 | 0,c=>c
 | n + 1,c=>nr n (wK c)
noncomputable def ndB:Code:=il Go.Proofs.Tryz.f54
noncomputable def ndC:List Code:=uN 6 ndB
def wQ:List V→Bool
 | []=>false
 | .int _ _::_=>true
 | _::cs=>wQ cs
mutual
def niS:V→Bool
 | .bool _=>true
 | .int _ _=>true
 | .str _=>true
 | .nilp=>true
 | .imm _ cs=>wQ cs && niL cs
 | .list _ tok _ rows=>(match tok with | .own _=>false | _=>true) && niR rows
 | _=>false
def niL:List V→Bool
 | []=>true
 | c::cs=>niS c && niL cs
def niA:V→Bool
 | .agg cs=>wQ cs && niL cs
 | _=>false
def niR:List V→Bool
 | []=>true
 | r::rs=>niA r && niR rs
end
noncomputable def qu (S:St):V→Option Nat
 | .list _ (.own t) _ rows=>match nW rows with
  | some (s::ss)=>match nth S.aA t with
   | some m=>bif Nat.beq m (aG rows) && Nat.blt (aG rows) 4611686018427387904 then some (aG (uI (s::ss))) else none
   | none=>none
  | _=>none
 | _=>none
noncomputable def CR:V→Option Nat
 | .list _ _ _ rows=>some (aG rows)
 | _=>none
noncomputable def zg (R:Run) (cells:List V) (EG:V):Option Int:=
 match nth cells 14 with
 | some iv=>match CR iv,CR EG,R (.f 113) [.imm 0 cells] St.empty with
  | some a,some b,some (.int .i64 m,_)=>some (ep .i64 (ep .i64 (.ofNat (a + b)) + m))
  | _,_,_=>none
 | none=>none
noncomputable def pJ (R:Run) (A:Env) (S:St):Option V:=
 match look 0 A.tmps,look 3 A.tmps,look 3 A.locs,look 4 A.tmps with
 | some (.imm 0 cells),some (.ptr (.loc 3) 0),some [lv],some EG=>bif niS (.imm 0 cells) && Nat.blt 62 A.nt then match qu S lv,zg R cells EG with
  | some n,some m=>some (.bool (iEq (.ofNat n) m))
  | _,_=>none
  else none
 | _,_,_,_=>none
noncomputable def nY:kR:=fun R k args=>
 match args with
 | [.imm 0 _]=>match gb Tryz.cfg R k 54 (Tryz.cfg.fc 54) ndC { nt:=Go.Proofs.Tryz.f54.ntmps,tmps:=number 0 args,locs:=[],fix:=[] } St.empty with
  | some (.normal,A,S)=>pJ R A S
  | some (.ret,A,S)=>match cR Tryz.cfg A S Go.Proofs.Tryz.f54.results.toList with
   | some [.bool b]=>some (.bool b)
   | _=>none
  | _=>none
 | _=>none
noncomputable def pK (fn:Func) (A:Env) (S:St):Option V:=
 match cR Tryz.cfg A S fn.results.toList with
 | some vs=>bif isZero (aJ vs) then some (one vs).b8 else none
 | none=>none
noncomputable def opsOf:Code→List Oper
 | .region _ ops _=>ops.toList
 | _=>[]
noncomputable def lfB:Code:=il Go.Proofs.Tryz.f131
noncomputable def mG:List Oper:=opsOf (wJ (nr 2 lfB))
noncomputable def sG:kR:=fun R k args=>
 match gb Tryz.cfg R k 131 (Tryz.cfg.fc 131) (uN 2 lfB) { nt:=Go.Proofs.Tryz.f131.ntmps,tmps:=number 0 args,locs:=[],fix:=[] } St.empty with
 | some (.normal,A,S)=>match bE Tryz.cfg R (Tryz.cfg.fc 131) (fun _=>.any) mG (takeN 11 mG) 0 A S with
  | some (A,S)=>match look 25 A.tmps,look 23 A.tmps with
   | some (.imm 0 (.bool false::_)),some (.bool false)=>match evalCode Tryz.cfg R k 131 (Tryz.cfg.fc 131) (nr 3 lfB) A S with
    | some (.exit _,_,_)=>none
    | some (_,A,S)=>pK Go.Proofs.Tryz.f131 A S
    | none=>none
   | _,_=>none
  | none=>none
 | _=>none
noncomputable def fzC (cs:List V) (v:V):Option V:=
 match v with
 | .ptr (.box 0) o=>some (.imm 0 (fP o cs))
 | v=>bif isZero (fE v) then some (aj v) else none
noncomputable def fzT (cs:List V) (v:V):Option V:=
 match v with
 | .agg l=>(match bP (fzC cs) l with | some m=>some (.agg m) | none=>none)
 | .ptr (.loc d) o=>some (.ptr (.loc d) o)
 | .tuple _=>none
 | v=>fzC cs v
noncomputable def HP (cs:List V) (all l:List (Nat×V)):List (Nat×V):=List.rec [] (fun p _ ih=>match look p.1 all with
 | some v=>(match fzT cs v with | some v=>(p.1,v)::ih | none=>ih)
 | none=>ih) l
noncomputable def fzL (cs:List V) (p:Nat×List V):Option (Nat×List V):=match bP (fzC cs) p.2 with | some m=>some (p.1,m) | none=>none
noncomputable def tZ (A:Env) (S:St):Option Env:=
 match nth S.heap 0 with
 | some (.cells _ cs)=>bif isZero (aF cs) then match bP (fzL (bg aj cs)) A.locs with
  | some ls=>some { A with tmps:=HP (bg aj cs) A.tmps A.tmps,locs:=ls }
  | none=>none
  else none
 | _=>none
noncomputable def sH (id m:Nat) (fn:Func):kR:=fun R k args=>
 match gb Tryz.cfg R k id (Tryz.cfg.fc id) (uN m (il fn)) { nt:=fn.ntmps,tmps:=number 0 args,locs:=[],fix:=[] } St.empty with
 | some (.normal,A,S)=>match tZ A S with
  | some A=>match evalCode Tryz.cfg R k id (Tryz.cfg.fc id) (nr m (il fn)) A St.empty with
   | some (.exit _,_,_)=>none
   | some (_,A,S)=>pK fn A S
   | none=>none
  | none=>none
 | some (.ret,A,S)=>pK fn A S
 | _=>none
noncomputable def Sc:List Nat:=[55]
noncomputable def cW (id:Nat):Bool:=memN id Sc
noncomputable def Gj:List Nat:=[52,53,54,57,114,115]
noncomputable def bW (id:Nat):Bool:=memN id Gj
noncomputable def LL (id:Nat):Option kR:=bif Nat.beq id 54 then some nY else none
noncomputable def AZ:kR:=fun R k args=>sH 17 3 Go.Proofs.Tryz.f17 (wO LL cW bW k R) k args
noncomputable def Jv (id:Nat):Option kR:=bif Nat.beq id 17 then some AZ else none
noncomputable def EH:kR:=fun R k args=>sH 7 7 Go.Proofs.Tryz.f7 (bT Jv k R) k args
noncomputable def HQ (id:Nat):Option kR:=bif Nat.beq id 131 then some sG else none
noncomputable def Jw:kR:=fun R k args=>sH 64 1 Go.Proofs.Tryz.f64 (bT HQ k R) k args
noncomputable def Oy:kR:=fun R k args=>sH 159 1 Go.Proofs.Tryz.f159 (bT HQ k R) k args
noncomputable def Jy:kR:=sH 8 6 Go.Proofs.Tryz.f8
end Go.Ev
namespace Go.Ev
open Go.RowKit Go.Proofs
noncomputable def cO (id:Nat):Option kR:=bif Nat.beq id 54 then some nY else bif Nat.beq id 154 then some pG else bif Nat.beq id 131 then some sG else
 bif Nat.beq id 7 then some EH else bif Nat.beq id 8 then some Jy else bif Nat.beq id 17 then some AZ else
 bif Nat.beq id 64 then some Jw else bif Nat.beq id 159 then some Oy else none
noncomputable def RN (n:Nat):Run:=wO cO cW bW n (fD Tryz.cfg cO cW bW n)
noncomputable def kT (id:Nat):Bool:=(cO id).isNone && (!(cW id) && !(bW id))
theorem HR {id:Nat} (h:kT id=true):cO id=none∧cW id=false∧bW id=false:=by
 unfold kT at h
 simp only [Bool.and_eq_true,Bool.not_eq_true',Option.isNone_iff_eq_none] at h
 exact⟨h.1,h.2.1,h.2.2⟩
theorem sI {id n:Nat} {args:List V} {S:St} (h:kT id=true):RN (n + 1) (.f id) args S=step Tryz.cfg (RN n) n (.f id) args S:=by
 obtain⟨h1,h2,h3⟩:=HR h
 show cX bW (cp cW (bT cO (n + 1) (fD Tryz.cfg cO cW bW (n + 1)))) (.f id) args S=_
 unfold cX cp bT
 simp only [h1,h2,h3]
 rfl
theorem qv (C:Cfg) (R:Run) (n id:Nat) (args:List V) (S:St):step C R n (.f id) args S=bif (C.fc id).pure && allB V.pure args then
 match frame C R n id (bg V.strip args) St.empty with
 | some (v,S')=>match frz { nt:=0,tmps:=[],locs:=[],fix:=[] } S' .any v with
  | some v=>if isZero v.lvl then some (v.b8,S) else none
  | none=>none
 | none=>none
 else frame C R n id args S:=rfl
theorem zh {C:Cfg} {R:Run} {n id:Nat} {args:List V} {S S' : St} {v v' : V} (h:frame C R n id (bg V.strip args) St.empty=some (v,S')) (hp:(C.fc id).pure=true) (ha:allB V.pure args=true)
 (hf:frz { nt:=0,tmps:=[],locs:=[],fix:=[] } S' .any v=some v') (hz:isZero v'.lvl=true):step C R n (.f id) args S=some (v'.b8,S):=by
 rw [qv,hp,ha,h]
 simp only [Bool.and_self,cond_true,hf,hz,if_true]
theorem Gk {id n:Nat} {args:List V} {S S' : St} {v v' : V} (hp:(Tryz.cfg.fc id).pure=true) (ha:allB V.pure args=true) (h:frame Tryz.cfg (RN n) n id (bg V.strip args) St.empty=some (v,S'))
 (hf:frz { nt:=0,tmps:=[],locs:=[],fix:=[] } S' .any v=some v') (hz:isZero v'.lvl=true) (hc:kT id=true:=by rfl):RN (n + 1) (.f id) args S=some (v'.b8,S):=
 (sI hc).trans (zh h hp ha hf hz)
theorem jS {id n:Nat} {args:List V} {S S' : St} {v v' r:V} (h:frame Tryz.cfg (RN n) n id (bg V.strip args) St.empty=some (v,S')) (hp:(Tryz.cfg.fc id).pure=true) (ha:allB V.pure args=true)
 (hf:frz { nt:=0,tmps:=[],locs:=[],fix:=[] } S' .any v=some v') (hz:isZero v'.lvl=true) (hs:v'.b8=r) (hc:kT id=true:=by rfl):RN (n + 1) (.f id) args S=some (r,S):=by
 subst hs
 exact Gk hp ha h hf hz hc
theorem bG {id n:Nat} {args:List V} {S S' : St} {v v' r:V} (h:frame Tryz.cfg (RN n) n id args St.empty=some (v,S')) (hm:bg V.strip args=args) (hp:(Tryz.cfg.fc id).pure=true) (ha:allB V.pure args=true)
 (hf:frz { nt:=0,tmps:=[],locs:=[],fix:=[] } S' .any v=some v') (hz:isZero v'.lvl=true) (hs:v'.b8=r) (hc:kT id=true:=by rfl):RN (n + 1) (.f id) args S=some (r,S):=
 jS (by rw [hm];exact h) hp ha hf hz hs hc
theorem bC {id n:Nat} {args:List V} {S:St} {r:V×St} (hp:((Tryz.cfg.fc id).pure && allB V.pure args)=false) (h:frame Tryz.cfg (RN n) n id args S=some r) (hc:kT id=true:=by rfl):RN (n + 1) (.f id) args S=some r:=by
 rw [sI hc,qv,hp]
 exact h
theorem fH {b n:Nat} {args:List V} {S:St} {r:V×St} (h:Go.Ev.round Tryz.cfg (RN n) n b args S=some r):RN (n + 1) (.y b) args S=some r:=h
theorem Oz {id n k ty:Nat} {rest:List V} {S S0:St} {cs cs' : List V} {v:V} (hid:cW id=true) (hk:nth S.heap k=some (.cells ty cs)) (hcs:isZero (aF cs)=true) (hst:bg aj cs=cs) (jG:isZero (aJ rest)=true)
 (hrs:bg V.strip rest=rest) (h:frame Tryz.cfg (RN n) n id (.ptr (.box 0) 0::rest) { heap:=[.cells ty cs],aA:=[] }=some (v,S0)) (h0:nth S0.heap 0=some (.cells ty cs')) (hl:isZero v.lvl=true) (hl' : isZero (aF cs')=true)
 (hc:cO id=none:=by rfl) (hr:bW id=false:=by rfl):RN (n + 1) (.f id) (.ptr (.box k) 0::rest) S=some (v.b8,wM S k (.cells ty (bg aj cs'))):=by
 have ej:bT cO (n + 1) (fD Tryz.cfg cO cW bW (n + 1)) (.f id) (.ptr (.box 0) 0::bg V.strip rest) { heap:=[.cells ty (bg aj cs)],aA:=[] }=some (v,S0):=by
  rw [hst,hrs]
  unfold bT
  simp only [hc]
  show step Tryz.cfg (RN n) n (.f id) _ _=_
  rw [qv,show allB V.pure (V.ptr (.box 0) 0::rest)=false from rfl,Bool.and_false]
  exact h
 show cX bW (cp cW (bT cO (n + 1) (fD Tryz.cfg cO cW bW (n + 1)))) (.f id) (.ptr (.box k) 0::rest) S=_
 unfold cX cp
 simp only [hr,hid]
 unfold narrow
 simp only [jG,hk,hcs,cond_true,ej]
 unfold tX
 simp only [h0,hl,hl',Bool.and_self,cond_true]
end Go.Ev
