/- The statement RecursorPlaysSaid is proved: the law returns true at every input, and its arguments read behind the call as before. No condition (own work). -/
import Derived.Test.YtmnofcchfbkbeaaGreatXf
import Derived.Test.YtmnofcchfbkbeaaGreatXu
import Derived.Test.YtmnofcchfbkbeaaGreatXg
import Derived.Test.YtmnofcchfbkbeaaGreatXwB
import Derived.Test.YtmnofcchfbkbeaaGreatXwC
import Derived.Test.YtmnofcchfbkbeaaGreatXwD
import Derived.Test.YtmnofcchfbkbeaaGreatRows
import Derived.WalkKit
import Derived.JoinedCond
namespace Go.Ev
open Go.Proofs Go.RowKit
set_option maxRecDepth 100000
set_option linter.unusedSimpArgs false
set_option linter.unusedVariables false
theorem ko {n t:Nat} {k:IntKind} {cs:List V} (hu:Tryz.prog.underlying t=some (.int k)) (h:Shp Tryz.prog n t cs):∃z,cs=[.int k z]∧(Lit.int k z).wf=true:=by
 cases n with
 | zero=>exact h.elim
 | succ n=>rw [Shp,hu] at h;exact h
theorem MC {n t m e:Nat} {cs:List V} (hu:Tryz.prog.underlying t=some (.array m e)) (h:Shp Tryz.prog n t cs):∃n',Lp (Shp Tryz.prog n' e) m cs:=by
 cases n with
 | zero=>exact h.elim
 | succ n=>rw [Shp,hu] at h;exact⟨n,h⟩
theorem vE {n t:Nat} {cs:List V} (hu:Tryz.prog.underlying t=some .string) (h:Shp Tryz.prog n t cs):∃s:List UInt8,cs=[.str s]∧s.length≤maxLen:=by
 cases n with
 | zero=>exact h.elim
 | succ n=>rw [Shp,hu] at h;exact h
theorem qI {n t e:Nat} {cs:List V} (hu:Tryz.prog.underlying t=some (.slice e)) (h:Shp Tryz.prog n t cs):∃m rows,n=m + 1∧cs=[.list (Tryz.prog.cellsOf e) .no 0 rows]∧rows.length≤maxLen∧∀r∈rows,∃cs,r=.agg cs∧Shp Tryz.prog m e cs:=by
 cases n with
 | zero=>exact h.elim
 | succ n=>
  rw [Shp,hu] at h
  obtain⟨rows,h1,h2,h3⟩:=h
  exact⟨n,rows,rfl,h1,h2,h3⟩
theorem QB {n:Nat} {cs:List V} (h:Shp Tryz.prog n 51 cs):∃l:Lv,cs=dX l:=by
 cases n with
 | zero=>exact h.elim
 | succ n=>
  rw [Shp,Tryz.underlying51] at h
  obtain⟨a,b,rfl,h0,h⟩:=h
  obtain⟨c,d,rfl,h1,h⟩:=h
  obtain rfl:d=[]:=h
  obtain⟨z,rfl,_⟩:=ko Tryz.underlying3 h0
  obtain⟨n',h⟩:=MC Tryz.underlying49 h1
  clear h1
  obtain⟨a,b,rfl,h0,h⟩:=h
  obtain⟨c,d,rfl,h1,h⟩:=h
  obtain⟨e,f,rfl,h2,h⟩:=h
  obtain⟨g,i,rfl,h3,h⟩:=h
  obtain rfl:i=[]:=h
  obtain⟨z0,rfl,_⟩:=ko Tryz.underlying3 h0
  obtain⟨z1,rfl,_⟩:=ko Tryz.underlying3 h1
  obtain⟨z2,rfl,_⟩:=ko Tryz.underlying3 h2
  obtain⟨z3,rfl,_⟩:=ko Tryz.underlying3 h3
  exact⟨⟨z,z0,z1,z2,z3⟩,rfl⟩
theorem tw {α:Type} {f:α→List V} {p:α→Prop} {m e:Nat} (hm:∀cs,Shp Tryz.prog m e cs→∃t:α,cs=f t∧p t):∀{rows:List V},(∀r∈rows,∃cs,r=.agg cs∧Shp Tryz.prog m e cs)→∃ts:List α,rows=ts.map (fun t=>.agg (f t))∧∀t∈ts,p t
 | [],_=>⟨[],rfl,(fun t ht=>by cases ht)⟩
 | r::rows,h=>by
  obtain⟨ts,e,hs⟩:=tw hm (fun r hr=>h r (aMt _ hr))
  obtain⟨cs,e1,h1⟩:=h r aMs
  obtain⟨t,e2,h2⟩:=hm cs h1
  refine⟨t::ts,by rw [List.map_cons,e,e1,e2],fun u hu=>?_⟩
  cases hu with
  | head=>exact h2
  | tail _ hu=>exact hs u hu
theorem zV {α:Type} (l:List α):ao true l=5:=by cases l<;>rfl
theorem G7:∀(n:Nat) (cs:List V),Shp Tryz.prog n 25 cs→∃t:Tm,cs=aC t∧Sm t:=by
 intro n
 induction n using Nat.strongRecOn with
 | ind n ih=>
  intro cs h
  cases n with
  | zero=>exact h.elim
  | succ n=>
   rw [Shp,Tryz.underlying25] at h
   obtain⟨c1,d,rfl,h1,h⟩:=h
   obtain⟨c2,d,rfl,h2,h⟩:=h
   obtain⟨c3,d,rfl,h3,h⟩:=h
   obtain⟨c4,d,rfl,h4,h⟩:=h
   obtain⟨c5,d,rfl,h5,h⟩:=h
   obtain rfl:d=[]:=h
   obtain⟨k,rfl,_⟩:=ko Tryz.underlying5 h1
   obtain⟨z,rfl,_⟩:=ko Tryz.underlying3 h2
   obtain⟨s,rfl,hs⟩:=vE Tryz.underlying9 h3
   obtain⟨m1,r1,_,rfl,hl1,hr1⟩:=qI Tryz.underlying22 h4
   obtain⟨m2,r2,hm2,rfl,hl2,hr2⟩:=qI Tryz.underlying23 h5
   obtain⟨ls,rfl,_⟩:=tw (f:=dX) (p:=fun _=>True) (fun cs hc=>by obtain⟨l,e⟩:=QB hc;exact⟨l,e,trivial⟩) hr1
   obtain⟨ts,rfl,hts⟩:=tw (f:=aC) (p:=Sm) (fun cs hc=>ih m2 (by omega) cs hc) hr2
   have e24:Tryz.prog.cellsOf 51=5:=by kernel_rfl
   have e46:Tryz.prog.cellsOf 25=5:=by kernel_rfl
   have hml:maxLen=9223372036854775807:=by decide
   refine⟨.mk k z s true false true false ls ts,?_,?_⟩
   ·show _=[V.int .u8 k,.int .i64 z,.str s,.list (ao true ls) (aw false) 0 (ls.map enc),.list (ao true ts) (aw false) 0 (ag ts)]
    rw [zV,zV,e24,e46,cZ]
    rfl
   ·rw [hV]
    refine⟨⟨?_,?_⟩,hts⟩
    ·show ls.length≤_
     rw [aLm] at hl1
     omega
    ·show s.length≤_
     omega
theorem QC {n:Nat} {cs:List V} (h:Shp Tryz.prog n 48 cs):∃c:Ct,cs=mh c∧Sm c.ty:=by
 cases n with
 | zero=>exact h.elim
 | succ n=>
  rw [Shp,Tryz.underlying48] at h
  obtain⟨a,b,rfl,h0,h⟩:=h
  obtain⟨c,d,rfl,h1,h⟩:=h
  obtain rfl:d=[]:=h
  obtain⟨s,rfl,hs⟩:=vE Tryz.underlying9 h0
  obtain⟨t,rfl,ht⟩:=G7 _ _ h1
  exact⟨⟨s,t⟩,by rw [List.append_nil];rfl,ht⟩
theorem QD {n:Nat} {cs:List V} (h:Shp Tryz.prog n 45 cs):∃i:In,cs=fe i∧(Sm i.ty∧∀c∈i.cs,Sm c.ty):=by
 cases n with
 | zero=>exact h.elim
 | succ n=>
  rw [Shp,Tryz.underlying45] at h
  obtain⟨a,b,rfl,h0,h⟩:=h
  obtain⟨c,d,rfl,h1,h⟩:=h
  obtain⟨e,f,rfl,h2,h⟩:=h
  obtain rfl:f=[]:=h
  obtain⟨s,rfl,hs⟩:=vE Tryz.underlying9 h0
  obtain⟨t,rfl,ht⟩:=G7 _ _ h1
  obtain⟨m,r,_,rfl,hl,hr⟩:=qI Tryz.underlying43 h2
  obtain⟨l,rfl,hc⟩:=tw (f:=mh) (p:=fun c:Ct=>Sm c.ty) (fun cs hc=>QC hc) hr
  have e48:Tryz.prog.cellsOf 48=6:=by kernel_rfl
  refine⟨⟨s,t,l⟩,?_,ht,hc⟩
  rw [e48]
  rfl
structure OY (d:Dl):Prop where
 ty:Sm d.ty
 val:Sm d.val
 all:∀i∈d.aj,Sm i.ty∧∀c∈i.cs,Sm c.ty
theorem QE {n:Nat} {cs:List V} (h:Shp Tryz.prog n 28 cs):∃d:Dl,cs=bK d∧OY d:=by
 cases n with
 | zero=>exact h.elim
 | succ n=>
  rw [Shp,Tryz.underlying28] at h
  obtain⟨c1,x,rfl,h1,h⟩:=h
  obtain⟨c2,x,rfl,h2,h⟩:=h
  obtain⟨c3,x,rfl,h3,h⟩:=h
  obtain⟨c4,x,rfl,h4,h⟩:=h
  obtain⟨c5,x,rfl,h5,h⟩:=h
  obtain⟨c6,x,rfl,h6,h⟩:=h
  obtain⟨c7,x,rfl,h7,h⟩:=h
  obtain rfl:x=[]:=h
  obtain⟨k,rfl,_⟩:=ko Tryz.underlying5 h1
  obtain⟨p,rfl,_⟩:=ko Tryz.underlying3 h2
  obtain⟨s,rfl,hs⟩:=vE Tryz.underlying9 h3
  obtain⟨t,rfl,ht⟩:=G7 _ _ h4
  obtain⟨v,rfl,hv⟩:=G7 _ _ h5
  obtain⟨f,rfl,_⟩:=ko Tryz.underlying3 h6
  obtain⟨m,r,_,rfl,hl,hr⟩:=qI Tryz.underlying26 h7
  obtain⟨l,rfl,hc⟩:=tw (f:=fe) (p:=fun i:In=>Sm i.ty∧∀c∈i.cs,Sm c.ty) (fun cs hc=>QD hc) hr
  have e45:Tryz.prog.cellsOf 45=7:=by kernel_rfl
  refine⟨⟨k,p,s,t,v,f,l⟩,?_,ht,hv,hc⟩
  rw [e45]
  rfl
theorem Ib {t:Nat} {ts:List Nat} {us:List V} (h:Args Tryz.prog (t::ts) us):∃v rest n c,us=v::rest∧Shp Tryz.prog n t c∧((mY Tryz.prog t=true∧v=.agg c)∨(mY Tryz.prog t=false∧c=[v]))∧Args Tryz.prog ts rest:=h
theorem Tt {ts:List Nat} {us:List V} (h:Args Tryz.prog (28::ts) us):∃(d:Dl) (rest:List V),us=eY d::rest∧OY d∧Args Tryz.prog ts rest:=by
 obtain⟨v,rest,n,c,rfl,h1,h2,h3⟩:=Ib h
 obtain⟨d,rfl,hd⟩:=QE h1
 rcases h2 with⟨_,rfl⟩ | ⟨hh,_⟩
 ·exact⟨d,rest,rfl,hd,h3⟩
 ·rw [show mY Tryz.prog 28=true by kernel_rfl] at hh;cases hh
end Go.Ev
namespace Go.Ev
open Go.Proofs Go.RowKit
set_option maxRecDepth 100000
set_option maxHeartbeats 4000000
set_option linter.unusedVariables false
set_option linter.unusedSimpArgs false
theorem yl:∀{l:List Nat} {x:Nat},x∈l→x≤l.sum
 | a::l,x,h=>by
  rw [List.sum_cons]
  rcases List.mem_cons.1 h with rfl | h
  ·omega
  ·have:=yl h;omega
noncomputable def wD (d:Dl):Nat:=wt d.ty + wt d.val + ((bZ d).map wt).sum + d.aj.length + (d.aj.map fun i=>i.cs.length).sum
theorem KE (d:Dl):Qy d (wD d):=by
 refine⟨by unfold wD;omega,by unfold wD;omega,fun i hi=>⟨?_,?_,fun c hc=>?_⟩,by unfold wD;omega⟩
 ·have:=yl (List.mem_map.2 ⟨i.ty,(dS hi).1,rfl⟩ : wt i.ty∈(bZ d).map wt)
  unfold wD;omega
 ·have:=yl (List.mem_map.2 ⟨i,hi,rfl⟩ : i.cs.length∈d.aj.map fun i=>i.cs.length)
  unfold wD;omega
 ·have:=yl (List.mem_map.2 ⟨c.ty,(dS hi).2 c hc,rfl⟩ : wt c.ty∈(bZ d).map wt)
  unfold wD;omega
theorem OZ {d:Dl} (hs:OY d) (h:qP d=true):qO d (wD d)∧(d.ty.ls.length≤1000∧d.val.ls.length≤1000):=by
 unfold qP at h
 simp only [Bool.and_eq_true,Bool.not_eq_true'] at h
 obtain⟨h1,h2,h3,h4,h5⟩:=h
 rw [cm,decide_eq_false_iff_not] at h1
 simp only [aOn] at h1
 have hw:=KE d
 have hls:∀t:Tm,ld t=false→t.ls.length≤1000:=fun t ht=>by
  unfold ld at ht
  cases hq:dv jh t 131072 8192 with
  | none=>rw [hq] at ht;cases ht
  | some r=>
   obtain⟨_,_,_,_,hp,_⟩:=j0 hq
   have:=Nat.le_of_ble_eq_true hp
   omega
 have bt:∀i∈d.aj,i.cs.length≤10∧ld i.ty=false∧i.name.length≤100∧∀c∈i.cs,ld c.ty=false∧c.name.length≤100:=fun i hi=>by
  have q:=List.all_eq_true.1 h5 i hi
  unfold yj at q
  simp only [Bool.and_eq_true,Bool.not_eq_true'] at q
  obtain⟨q1,q2,q3,q4⟩:=q
  rw [cm,decide_eq_false_iff_not] at q1 q3
  simp only [aOn] at q1 q3
  refine⟨by omega,q2,by omega,fun c hc=>?_⟩
  have r:=List.all_eq_true.1 q4 c hc
  unfold Bw at r
  simp only [Bool.and_eq_true,Bool.not_eq_true'] at r
  obtain⟨r1,r2⟩:=r
  rw [cm,decide_eq_false_iff_not] at r2
  simp only [aOn] at r2
  exact⟨r1,by omega⟩
 refine⟨⟨⟨by omega,fun i hi=>by have:=(bt i hi).1;omega,fun i hi=>⟨(bt i hi).2.2.1,fun c hc=>((bt i hi).2.2.2 c hc).2⟩⟩,fun t ht=>?_,⟨hs.ty,by have:=qy h2;omega,hw.ty⟩,⟨hs.val,by have:=qy h3;omega,hw.val⟩⟩,hls _ h2,hls _ h3⟩
 unfold bZ at ht
 obtain⟨i,hi,ht⟩:=List.mem_flatMap.1 ht
 unfold oo at ht
 rcases List.mem_cons.1 ht with rfl | ht
 ·exact⟨(hs.all i hi).1,by have:=qy (bt i hi).2.1;omega,(hw.all i hi).1⟩
 ·obtain⟨c,hc,rfl⟩:=List.mem_map.1 ht
  exact⟨(hs.all i hi).2 c hc,by have:=qy ((bt i hi).2.2.2 c hc).1;omega,(hw.all i hi).2.2 c hc⟩
noncomputable def wT (d:Dl):Nat:=(((d.aj.zipIdx 0).flatMap fun q=>eE d (ofR d).1 (fxN d) (pN d) (aP d.params).1 (aE d) q.2 q.1).map wt).sum
theorem Ic {d:Dl} (h:xK d):aE d≤1000:=by
 have:=mv h.cs d.aj.length
 have h2:=h.few
 rw [List.take_length] at this
 unfold aE;omega
theorem ym {d:Dl} {W:Nat} (hd:qO d W) {n:Nat} (hn:wT d + 100≤n):∀sh,ofR d=(sh,0)→∀q∈d.aj.zipIdx 0,∀t∈eE d sh (fxN d) (pN d) (aP d.params).1 (aE d) q.2 q.1,Sm t∧wt t + 40≤n:=by
 intro sh ho q hq t ht
 ·have hg:=GP hd ho
  have hx:d.aj[q.2]?=some q.1:=by
   obtain⟨j,hj⟩:=List.mem_iff_getElem?.1 hq
   rw [List.getElem?_zipIdx] at hj
   cases hx:d.aj[j]? with
   | none=>rw [hx] at hj;cases hj
   | some x=>
    rw [hx] at hj
    simp at hj
    rw [← hj]
    exact hx
  have hsm:Sm t:=KC (G1 hg (Ic hd.nm)) hx t ht
  refine⟨hsm,?_⟩
  rw [show sh=(ofR d).1 by rw [ho]] at ht
  have:=yl (List.mem_map.2 ⟨t,List.mem_flatMap.2 ⟨q,hq,ht⟩,rfl⟩ : wt t∈((d.aj.zipIdx 0).flatMap fun q=>eE d (ofR d).1 (fxN d) (pN d) (aP d.params).1 (aE d) q.2 q.1).map wt)
  unfold wT at hn
  omega
end Go.Ev
namespace Go.Ev
open Go.Proofs Go.RowKit
set_option maxRecDepth 100000
set_option linter.unusedVariables false
set_option linter.unusedSimpArgs false
theorem QF:Sm zTm∧eu zTm < 1000000000∧wt zTm≤100:=⟨G4,by decide +kernel,by decide +kernel⟩
theorem MD {d:Dl} {W:Nat} (hd:qO d W) {n:Nat} (hn:wT d + 200≤n) {i:Inf} (hi:i∈(fw d).1):G2 i n:=by
 unfold fw at hi
 split at hi
 ·rename_i h0
  split at hi
  ·rename_i l hl
   unfold rV at hl
   obtain⟨q,hq,hqi⟩:=zF hl hi
   have ho:ofR d=((ofR d).1,0):=by
    rw [← h0]
   have hT:=ym hd (n:=n) (by omega) _ ho q hq
   unfold rj at hqi
   split at hqi
   ·rename_i bt
    cases hqi
    have key:∀t∈eE d (ofR d).1 (fxN d) (pN d) (aP d.params).1 (aE d) q.2 q.1,Sm t∧eu t < 1000000000∧wt t + 1≤n:=fun t ht=>by
     obtain⟨h1,h2⟩:=hT t ht
     have:=kH (List.all_eq_true.1 bt t ht)
     exact⟨h1,by omega,by omega⟩
    have hx:q.1∈d.aj:=by
     obtain⟨j,hj⟩:=List.mem_iff_getElem?.1 hq
     rw [List.getElem?_zipIdx] at hj
     cases hx:d.aj[j]? with
     | none=>rw [hx] at hj;cases hj
     | some x=>
      rw [hx] at hj
      simp at hj
      rw [← hj]
      exact aMg hx
    have hcs:=hd.nm.cs q.1 hx
    obtain⟨z1,z2,z3⟩:=QF
    unfold dd
    unfold eE at key
    cases hr:cg (ofR d).1 with
    | true=>
     rw [hr] at key
     exact⟨key _ (by simp),key _ (by simp),by simp only [List.length_nil];omega,by simp,fun r hr=>by cases hr⟩
    | false=>
     rw [hr] at key
     have hlen:(cF d (ofR d).1 (fxN d) (pN d) (aP d.params).1 (aE d) q.2 q.1).length≤20:=by
      unfold cF
      rw [aLm,List.length_zipIdx]
      exact hcs
     exact⟨key _ (by simp),⟨z1,z2,by show wt zTm + 1≤n;omega⟩,by show (cF d _ _ _ _ _ _ _).length < n;omega,by show (cF d _ _ _ _ _ _ _).length≤_;omega,fun r hr'=>key _ (by
      refine aMt _ (List.mem_map.2 ⟨r,hr',rfl⟩))⟩
   ·cases hqi
  ·cases hi
 ·cases hi
theorem KF {d:Dl} (h:d.aj.length≤10):(fw d).1.length≤10:=by
 unfold fw
 split
 ·split
  ·rename_i l hl
   unfold rV at hl
   rw [eK hl,List.length_zipIdx]
   exact h
  ·exact Nat.zero_le _
 ·exact Nat.zero_le _
@[reducible] noncomputable def FA (i:Inf):List V:=[.int .u8 i.kind,.str i.name,.int .i64 i.params,
  .int .u8 i.ty.k,.int .i64 i.ty.n,.str i.ty.s,.list (ao i.ty.a i.ty.ls) (aw i.ty.b) 0 (i.ty.ls.map enc),.list (ao i.ty.c i.ty.ts) (aw i.ty.d) 0 (ag i.ty.ts),
  .int .u8 i.val.k,.int .i64 i.val.n,.str i.val.s,.list (ao i.val.a i.val.ls) (aw i.val.b) 0 (i.val.ls.map enc),.list (ao i.val.c i.val.ts) (aw i.val.d) 0 (ag i.val.ts),
  .int .i64 0,.str i.block,.str i.of_,.int .i64 i.fixed,.int .i64 i.index,.int .i64 0,.int .i64 0,.int .i64 i.motives,.int .i64 i.minors,gK 7 (i.rules.map bu),.int .i64 0,.bool false]
theorem ME {is:List Inf} {k:Nat} {i:Inf} {z:Nat} {b:Bool} (h:is[k]?=some i) (hz:gK 25 (is.map dH)=.list z (aw b) 0 (is.map dH)) {zi:Nat} {bi:Bool} (hzi:gK 7 (i.rules.map bu)=.list zi (aw bi) 0 (i.rules.map bu)) :
 indexAddr Tryz.cfg 31 (.list z (aw b) 0 (is.map dH)) (.int .i64 (.ofNat k))=some (.imm 0 (eP i zi (aw bi) (i.rules.map bu))):=by
 have e:eP i zi (aw bi) (i.rules.map bu)=FA i:=by unfold FA;rw [hzi]
 rw [← hz,e]
 cases hr:is with
 | nil=>rw [hr] at h;simp at h
 | cons x r=>rw [hr] at h;exact dB (f:=FA) (ei:=Tryz.ti38) rfl rfl h
theorem k9 {n:Nat} {S:St} {i j:Inf} (hi:G2 i n) {zi:Nat} {bi:Bool} (hzi:gK 7 (i.rules.map bu)=.list zi (aw bi) 0 (i.rules.map bu)) {zj:Nat} {bj:Bool} (hzj:gK 7 (j.rules.map bu)=.list zj (aw bj) 0 (j.rules.map bu)) :
 RN (n + 1) (.f 9) [.agg (eP i zi (aw bi) (i.rules.map bu)),.agg (eP j zj (aw bj) (j.rules.map bu))] S=some (.bool (iL i j),S):=by
 rw [← oH hzi,← oH hzj]
 exact h9 hi
theorem law3 (h6:∃c,∀n S,c≤n→RN n (.f 6) [] S=some (.bool true,S)) {us:List V} (h:Args Go.Proofs.Tryz.prog Go.Proofs.Tryz.f3.params.toList us):∃n S',RN n (.f 3) us St.empty=some (.bool true,S'):=by
 obtain⟨c6,h6⟩:=h6
 obtain⟨d,rest,rfl,hs,hr⟩:=Tt (ts:=[]) h
 obtain rfl:rest=[]:=hr
 cases hf:qP d with
 | false=>
  obtain⟨q,hq⟩ : ∃q,q=wD d + 20 + c6:=⟨_,rfl⟩
  refine⟨q + 1,?_⟩
  have k5:=fun S=>h5 (n:=q) (S:=S) (KE d) (by omega)
  rw [hf] at k5
  have k6:=fun S=>h6 q S (by omega)
  have hx:∃r,frame Tryz.cfg (RN q) q 3 [eY d] St.empty=some r∧∃S',r=(.bool true,S'):=by
   refine aU (fn:=Tryz.f3) (p:=fun r=>∃S',r=(.bool true,S')) rfl rfl ?_
   refine ae.mk _ _ (k5 _) ?_
   refine ae.mk _ _ (k6 _) ?_
   exact⟨_,rfl,_,rfl⟩
  obtain⟨r,k,S',rfl⟩:=hx
  exact⟨St.empty,bC k (by simp only [ej,an]) rfl rfl rfl rfl rfl⟩
 | true=>
  obtain⟨hd,hls⟩:=OZ hs hf
  obtain⟨q,hq⟩ : ∃q,q=3 * wD d + 40000000 + wT d + c6 + 1000:=⟨_,rfl⟩
  refine⟨q + 2,?_⟩
  have k5:=fun S=>h5 (n:=q + 1) (S:=S) (KE d) (by omega)
  rw [hf] at k5
  have k6:=fun S=>h6 (q + 1) S (by omega)
  have k7:=fun S=>h7 (n:=q + 1) (S:=S) hd hls (by omega) (ym hd (by omega))
  have k8:=fun S=>h8 (n:=q) (S:=S) hd (by omega) (fun sh ho q hq t ht=>by
   obtain⟨e1,e2⟩:=ym hd (n:=wT d + 100) (Nat.le_refl _) sh ho q hq t ht
   exact⟨e1,by omega⟩)
  have hio:∀i∈(fw d).1,G2 i q:=fun i hi=>MD hd (by omega) hi
  have Qz:=KF hd.nm.few
  obtain⟨z,b,hz⟩:=nH 25 ((fw d).1.map dH)
  rw [hz] at k7 k8
  generalize (fw d).2=e at k7 k8
  generalize hR:(fw d).1=is at k7 k8 hz hio Qz
  have hx:∃r,frame Tryz.cfg (RN (q + 1)) (q + 1) 3 [eY d] St.empty=some r∧∃S',r=(.bool true,S'):=by
   refine aU (fn:=Tryz.f3) (p:=fun r=>∃S',r=(.bool true,S')) rfl rfl ?_
   refine ae.mk _ _ (k5 _) ?_
   refine ae.mk _ _ (k7 _) ?_
   refine ae.mk _ _ (k8 _) ?_
   refine ah.no (by rw [bW];simp) ?_
   refine ah.no (by rw [bW];simp) ?_
   refine aD.loop 49 (σ:=Unit) is.length (fun k _=>{ nt:=49,tmps:=[(3,.list z (aw b) 0 (is.map dH)),(5,.list z (aw b) 0 (is.map dH)),(7,.int .i64 (.ofNat k))],locs:=[(1,bK d)],fix:=[] }) (fun _ _=>St.empty) (fun _ _=>True) () (show is.length < q + 1 by omega) trivial ?_ ?_
   ·intro k _ hk _
    obtain⟨i,hi⟩ : ∃i,is[k]?=some i:=⟨_,aGe hk⟩
    obtain⟨zi,bi,hzi⟩:=nH 7 (i.rules.map bu)
    have hii:=ME hi hz hzi
    have k9':=fun S=>k9 (n:=q) (S:=S) (hio i (aMg hi)) hzi hzi
    rw [Fv] at k9'
    refine ah.yes (by rw [aq,aLm];exact dj hk) ?_
    refine ab.mk _ hii ?_
    refine ab.mk _ hii ?_
    refine ae.mk _ _ (k9' _) ?_
    refine ab.mk _ (az (by omega)) ?_
    exact⟨(),trivial,rfl,rfl⟩
   ·intro _ _
    refine ah.no (by rw [aq,aLm];exact eS (by omega)) ?_
    refine ae.mk _ _ (k6 _) ?_
    exact⟨_,rfl,_,rfl⟩
  obtain⟨r,k,S',rfl⟩:=hx
  exact⟨St.empty,bC k (by simp only [ej,an]) rfl rfl rfl rfl rfl⟩
theorem KG {α:Type} {l:List α} {n:Nat} (h:aH l=n + 1):∃a m,l=a::m∧aH m=n:=by
 cases l with
 | nil=>cases h
 | cons a m=>exact⟨a,m,rfl,by rw [aq] at h ⊢;simpa using h⟩
theorem MF {α:Type} {l:List α} (h:aH l=0):l=[]:=by
 cases l with
 | nil=>rfl
 | cons a m=>rw [aq] at h;simp at h
theorem yn {n:Nat} {r:Option (V×St)} {rows:List V} (h:DI n r=some rows):∃b S,r=some (.list n (aw b) 0 rows,S):=by
 unfold DI at h
 split at h
 ·obtain⟨h1,h2⟩:=aI h
  cases h2
  have:=Nat.eq_of_beq_eq_true h1
  subst this
  exact⟨false,_,rfl⟩
 ·obtain⟨h1,h2⟩:=aI h
  cases h2
  have:=Nat.eq_of_beq_eq_true h1
  subst this
  exact⟨true,_,rfl⟩
 ·cases h
def Nd (k:Nat) (v:V):Prop:=match k with
 | 0=>∃q z,v=.int q z
 | 1=>∃s,v=.str s
 | 2=>∃sz b rows,v=.list sz (aw b) 0 rows
 | _=>∃b,v=.bool b
def lC:List Nat→List V→Prop
 | [],vs=>vs=[]
 | k::ks,vs=>∃v us,vs=v::us∧Nd k v∧lC ks us
theorem KH {k:Nat} {v:V} (h:MB k v=true):Nd k v:=by
 unfold MB at h
 split at h
 ·obtain rfl:=Nat.eq_of_beq_eq_true h;exact⟨_,_,rfl⟩
 ·obtain rfl:=Nat.eq_of_beq_eq_true h;exact⟨_,rfl⟩
 ·obtain rfl:=Nat.eq_of_beq_eq_true h;exact⟨_,false,_,rfl⟩
 ·obtain rfl:=Nat.eq_of_beq_eq_true h;exact⟨_,true,_,rfl⟩
 ·obtain rfl:=Nat.eq_of_beq_eq_true h;exact⟨_,rfl⟩
 ·cases h
theorem zW:∀{ks:List Nat} {vs:List V},G6 ks vs=true→lC ks vs
 | [],[],_=>rfl
 | [],_::_,h=>by cases h
 | _::_,[],h=>by cases h
 | k::ks,v::vs,h=>by
  obtain⟨h1,h2⟩:=Bool.and_eq_true_iff.1 (show (MB k v && G6 ks vs)=true from h)
  exact⟨v,vs,rfl,KH h1,zW h2⟩
theorem yo {ks:List Nat} {o:Option V} {cs:List V} (h:rowOf ks o=some cs):o=some (.agg cs)∧lC ks cs:=by
 unfold rowOf at h
 split at h
 ·obtain⟨h1,h2⟩:=aI h
  cases h2
  exact⟨rfl,zW h1⟩
 ·cases h
theorem KI {r:Option (V×St)} {x:List V} (h:Fy r=some x):∃b S,r=some (.tuple [.list 25 (aw b) 0 [.agg x],.int .i64 0],S)∧lC ksN x:=by
 unfold Fy at h
 split at h
 ·rename_i sz tok top rows e S
  obtain⟨h1,h2⟩:=aI h
  simp only [Bool.and_eq_true,bW,decide_eq_true_eq] at h1
  obtain⟨h1,h3⟩:=h1
  subst h1
  split at h2
  ·rename_i l hl
   obtain⟨b,S',hb⟩:=yn hl
   cases hb
   obtain⟨h4,h5⟩:=yo h2
   obtain⟨a,m,rfl,hm⟩:=KG (Nat.eq_of_beq_eq_true h3)
   obtain rfl:=MF hm
   cases h4
   exact⟨b,S,rfl,h5⟩
  ·cases h2
 ·cases h
theorem Ie {r:Option (V×St)} (h:Fz r=true):∃S,r=some (.bool true,S):=by
 unfold Fz at h
 split at h
 ·subst h;exact⟨_,rfl⟩
 ·cases h
theorem zX {R:Run} {k at_:Nat} (h:zU R k at_=true):∃t15 bs S15 b t7 x S7 t16 is S16 y S9,R (.f 15) [] St.empty=some (.list 15 (aw t15) 0 bs,S15)∧nth bs k=some (.agg b)∧lC ksD b∧
 R (.f 7) [.agg b] St.empty=some (.tuple [.list 25 (aw t7) 0 [.agg x],.int .i64 0],S7)∧lC ksN x∧R (.f 16) [] St.empty=some (.list 25 (aw t16) 0 is,S16)∧nth is at_=some (.agg y)∧lC ksN y∧
 allB V.pure [.agg b]=true∧allB V.pure [.agg x,.agg y]=true∧R (.f 9) [.agg x,.agg y] St.empty=some (.bool true,S9):=by
 unfold zU at h
 split at h
 ·rename_i bs h15
  split at h
  ·rename_i b hb
   split at h
   ·rename_i x h7
    split at h
    ·rename_i is h16
     split at h
     ·rename_i y hy
      obtain⟨p1,p2⟩:=Bool.and_eq_true_iff.1 h
      rw [cG] at p1
      obtain⟨p1,p3⟩:=p1
      obtain⟨t15,S15,e15⟩:=yn h15
      obtain⟨b1,b2⟩:=yo hb
      obtain⟨t7,S7,e7,x2⟩:=KI h7
      obtain⟨t16,S16,e16⟩:=yn h16
      obtain⟨y1,y2⟩:=yo hy
      obtain⟨S9,e9⟩:=Ie p2
      exact⟨t15,bs,S15,b,t7,x,S7,t16,is,S16,y,S9,e15,b1,b2,e7,x2,e16,y1,y2,by rw [cG];exact⟨p1,rfl⟩,p3,e9⟩
     ·cases h
    ·cases h
   ·cases h
  ·cases h
 ·cases h
theorem tx {id n:Nat} {args:List V} {v:V} {S0 S:St} (hp:(Tryz.cfg.fc id).pure=true) (hn:cY id=false) (hr:bY id=false) (ha:allB V.pure args=true) (h:RN (n + 1) (.f id) args St.empty=some (v,S0)):RN (n + 1) (.f id) args S=some (v,S):=by
 have key:∀S,RN (n + 1) (.f id) args S=bV cQ (n + 1) (fN Tryz.cfg cQ cY bY (n + 1)) (.f id) args S:=fun S=>by
  show df bY (cu cY (bV cQ (n + 1) (fN Tryz.cfg cQ cY bY (n + 1)))) (.f id) args S=_
  unfold df cu
  simp only [hr,hn]
 rw [key] at h ⊢
 unfold bV at h ⊢
 cases hc:cQ id with
 | some g=>
  simp only [hc,ha,cond_true] at h ⊢
  split at h
  ·rename_i w hw
   cases h
   rfl
  ·cases h
 | none=>
  simp only [hc] at h ⊢
  replace h:step Tryz.cfg (wM cQ cY bY n (fN Tryz.cfg cQ cY bY n)) n (.f id) args St.empty=some (v,S0):=h
  show step Tryz.cfg (wM cQ cY bY n (fN Tryz.cfg cQ cY bY n)) n (.f id) args S=some (v,S)
  rw [qt] at h ⊢
  rw [hp,ha] at h ⊢
  simp only [Bool.and_self,cond_true] at h ⊢
  split at h
  ·split at h
   ·split at h
    ·cases h;simp_all
    ·cases h
   ·cases h
  ·cases h
theorem uj {LT ET n by' sz:Nat} {z' : List V} {ei:TI} {tk:Tok} {rows cs:List V} {j:Nat} (hl:Tryz.cfg.ti LT=some { kind:=.slice ET,size:=sz,bytes:=by',zero:=z' }) (he:Tryz.cfg.ti ET=some ei) (hn:ei.size=n) (h:nth rows j=some (.agg cs)) :
 indexAddr Tryz.cfg LT (.list n tk 0 rows) (.int .i64 (.ofNat j))=some (.imm 0 cs):=by
 have h':=h
 rw [bS] at h'
 have hj:j < rows.length:=(aGs h').1
 unfold indexAddr
 rw [hl]
 simp only [he]
 rw [aq,pR hj]
 simp only [h,hn]
 show (bif Nat.beq n n then some (V.imm 0 cs) else none)=_
 rw [Nat.beq_refl]
 rfl
theorem KJ {l:List V} (h:lC ksD l):∃q0 z0 q1 z1 s2 q3 z3 q4 z4 s5 n6 b6 r6 n7 b7 r7 q8 z8 q9 z9 s10 n11 b11 r11 n12 b12 r12 q13 z13 n14 b14 r14,
 l=[.int q0 z0,.int q1 z1,.str s2,.int q3 z3,.int q4 z4,.str s5,.list n6 (aw b6) 0 r6,.list n7 (aw b7) 0 r7,.int q8 z8,.int q9 z9,.str s10,.list n11 (aw b11) 0 r11,.list n12 (aw b12) 0 r12,.int q13 z13,.list n14 (aw b14) 0 r14]:=by
 obtain⟨_,_,rfl,⟨q0,z0,rfl⟩,_,_,rfl,⟨q1,z1,rfl⟩,_,_,rfl,⟨s2,rfl⟩,_,_,rfl,⟨q3,z3,rfl⟩,_,_,rfl,⟨q4,z4,rfl⟩,_,_,rfl,⟨s5,rfl⟩,_,_,rfl,⟨n6,b6,r6,rfl⟩,_,_,rfl,⟨n7,b7,r7,rfl⟩,
  _,_,rfl,⟨q8,z8,rfl⟩,_,_,rfl,⟨q9,z9,rfl⟩,_,_,rfl,⟨s10,rfl⟩,_,_,rfl,⟨n11,b11,r11,rfl⟩,_,_,rfl,⟨n12,b12,r12,rfl⟩,_,_,rfl,⟨q13,z13,rfl⟩,_,_,rfl,⟨n14,b14,r14,rfl⟩,rfl⟩:=h
 exact⟨_,_,_,_,_,_,_,_,_,_,_,_,_,_,_,_,_,_,_,_,_,_,_,_,_,_,_,_,_,_,_,_,rfl⟩
@[reducible] noncomputable def QG (q0:IntKind) (z0:Int) (s1:List UInt8) (q2:IntKind) (z2:Int) (q3:IntKind) (z3:Int) (q4:IntKind) (z4:Int) (s5:List UInt8) (n6:Nat) (b6:Bool) (r6:List V) (n7:Nat) (b7:Bool) (r7:List V)
 (q8:IntKind) (z8:Int) (q9:IntKind) (z9:Int) (s10:List UInt8) (n11:Nat) (b11:Bool) (r11:List V) (n12:Nat) (b12:Bool) (r12:List V) (q13:IntKind) (z13:Int) (s14 s15:List UInt8) (q16:IntKind) (z16:Int) (q17:IntKind) (z17:Int)
 (q18:IntKind) (z18:Int) (q19:IntKind) (z19:Int) (q20:IntKind) (z20:Int) (q21:IntKind) (z21:Int) (n22:Nat) (b22:Bool) (r22:List V) (q23:IntKind) (z23:Int) (b24:Bool):List V:=
  [.int q0 z0,.str s1,.int q2 z2,.int q3 z3,.int q4 z4,.str s5,.list n6 (aw b6) 0 r6,.list n7 (aw b7) 0 r7,.int q8 z8,.int q9 z9,.str s10,.list n11 (aw b11) 0 r11,.list n12 (aw b12) 0 r12,.int q13 z13,.str s14,.str s15,.int q16 z16,.int q17 z17,
   .int q18 z18,.int q19 z19,.int q20 z20,.int q21 z21,.list n22 (aw b22) 0 r22,.int q23 z23,.bool b24]
theorem DJ {l:List V} (h:lC ksN l):∃q0 z0 s1 q2 z2 q3 z3 q4 z4 s5 n6 b6 r6 n7 b7 r7 q8 z8 q9 z9 s10 n11 b11 r11 n12 b12 r12 q13 z13 s14 s15 q16 z16 q17 z17 q18 z18 q19 z19 q20 z20 q21 z21 n22 b22 r22 q23 z23 b24,
 l=QG q0 z0 s1 q2 z2 q3 z3 q4 z4 s5 n6 b6 r6 n7 b7 r7 q8 z8 q9 z9 s10 n11 b11 r11 n12 b12 r12 q13 z13 s14 s15 q16 z16 q17 z17 q18 z18 q19 z19 q20 z20 q21 z21 n22 b22 r22 q23 z23 b24:=by
 obtain⟨_,_,rfl,⟨q0,z0,rfl⟩,_,_,rfl,⟨s1,rfl⟩,_,_,rfl,⟨q2,z2,rfl⟩,_,_,rfl,⟨q3,z3,rfl⟩,_,_,rfl,⟨q4,z4,rfl⟩,_,_,rfl,⟨s5,rfl⟩,_,_,rfl,⟨n6,b6,r6,rfl⟩,_,_,rfl,⟨n7,b7,r7,rfl⟩,
  _,_,rfl,⟨q8,z8,rfl⟩,_,_,rfl,⟨q9,z9,rfl⟩,_,_,rfl,⟨s10,rfl⟩,_,_,rfl,⟨n11,b11,r11,rfl⟩,_,_,rfl,⟨n12,b12,r12,rfl⟩,_,_,rfl,⟨q13,z13,rfl⟩,_,_,rfl,⟨s14,rfl⟩,_,_,rfl,⟨s15,rfl⟩,_,_,rfl,⟨q16,z16,rfl⟩,_,_,rfl,⟨q17,z17,rfl⟩,
  _,_,rfl,⟨q18,z18,rfl⟩,_,_,rfl,⟨q19,z19,rfl⟩,_,_,rfl,⟨q20,z20,rfl⟩,_,_,rfl,⟨q21,z21,rfl⟩,_,_,rfl,⟨n22,b22,r22,rfl⟩,_,_,rfl,⟨q23,z23,rfl⟩,_,_,rfl,⟨b24,rfl⟩,rfl⟩:=h
 exact⟨_,_,_,_,_,_,_,_,_,_,_,_,_,_,_,_,_,_,_,_,_,_,_,_,_,_,_,_,_,_,_,_,_,_,_,_,_,_,_,_,_,_,_,_,_,_,_,_,_,rfl⟩
@[reducible] noncomputable def atV:V:=.list 1 .tight 0 [.agg [.int .i64 3],.agg [.int .i64 6],.agg [.int .i64 10]]
noncomputable def atN:Nat→Nat
 | 0=>3
 | 1=>6
 | _=>10
theorem KK {j:Nat} (hj:j < 3):indexAddr Tryz.cfg 63 atV (.int .i64 (.ofNat j))=some (.imm 0 [.int .i64 (.ofNat (atN j))]):=by
 match j,hj with
 | 0,_=>rfl
 | 1,_=>rfl
 | 2,_=>rfl
theorem G8 {a b:List V} {n m:Nat} {t u:Tok} {S S' : St} (h:some (V.list n t 0 a,S)=some (V.list m u 0 b,S')):a=b:=by cases h;rfl
theorem h6:∃c,∀n S,c≤n→RN n (.f 6) [] S=some (.bool true,S):=by
 refine⟨111,fun n S hn=>?_⟩
 obtain⟨m,rfl⟩ : ∃m,n=m + 110 + 1:=⟨n - 111,by omega⟩
 obtain⟨t15,bs,S15,_,_,_,_,t16,is,S16,_,_,k15,_,_,_,_,k16,_⟩:=zX (KD m)
 have hw:∀j,j < 3→zU (RN (m + 110)) j (atN j)=true:=fun j hj=>by
  match j,hj with
  | 0,_=>exact KD m
  | 1,_=>exact OW m
  | 2,_=>exact OX m
 have q15:=fun S=>tx (S:=S) (by kernel_rfl) rfl rfl rfl k15
 have q16:=fun S=>tx (S:=S) (by kernel_rfl) rfl rfl rfl k16
 have hx:∃r,frame Tryz.cfg (RN (m + 110)) (m + 110) 6 [] St.empty=some r∧∃S',r=(.bool true,S'):=by
  refine aU (fn:=Tryz.f6) (p:=fun r=>∃S',r=(.bool true,S')) rfl rfl ?_
  refine ae.mk _ _ (q15 _) ?_
  refine ae.mk _ _ (q16 _) ?_
  refine ab.mk atV rfl ?_
  refine aD.loop 43 (σ:=Unit) 3 (fun k _=>{ nt:=43,tmps:=[(1,.list 15 (aw t15) 0 bs),(2,.list 25 (aw t16) 0 is),(3,atV),(4,.int .i64 (.ofNat k))],locs:=[],fix:=[] }) (fun _ _=>St.empty) (fun _ _=>True) () (show 3 < m + 110 by omega) trivial ?_ ?_
  ·intro j _ hj _
   obtain⟨TX,bs',TY,b,t7,x,S7,TZ,is',T9,y,S9,Tu,hb,hbl,k7,hxl,Tv,hy,hyl,pb,pxy,k9⟩:=zX (hw j hj)
   obtain rfl:bs=bs':=G8 (k15.symm.trans Tu)
   obtain rfl:is=is':=G8 (k16.symm.trans Tv)
   have q7:=fun S=>tx (S:=S) (by kernel_rfl) rfl rfl pb k7
   have q9:=fun S=>tx (S:=S) (by kernel_rfl) rfl rfl pxy k9
   obtain⟨_,_,_,_,_,_,_,_,_,_,_,_,_,_,_,_,_,_,_,_,_,_,_,_,_,_,_,_,_,_,_,_,rfl⟩:=KJ hbl
   obtain⟨_,_,_,_,_,_,_,_,_,_,_,_,_,_,_,_,_,_,_,_,_,_,_,_,_,_,_,_,_,_,_,_,_,_,_,_,_,_,_,_,_,_,_,_,_,_,_,_,_,rfl⟩:=DJ hxl
   obtain⟨_,_,_,_,_,_,_,_,_,_,_,_,_,_,_,_,_,_,_,_,_,_,_,_,_,_,_,_,_,_,_,_,_,_,_,_,_,_,_,_,_,_,_,_,_,_,_,_,_,rfl⟩:=DJ hyl
   refine ah.yes (show iLt (.ofNat j) (.ofNat 3)=true from dj hj) ?_
   refine ab.mk _ (uj (ei:=Tryz.ti28) rfl rfl rfl hb) ?_
   refine ae.mk _ _ (q7 _) ?_
   refine ah.no rfl ?_
   refine ah.no rfl ?_
   refine ab.mk _ (uj (ei:=Tryz.ti38) (j:=0) rfl rfl rfl rfl) ?_
   refine ab.mk _ (KK hj) ?_
   refine ab.mk _ (uj (ei:=Tryz.ti38) rfl rfl rfl hy) ?_
   refine ae.mk _ _ (q9 _) ?_
   refine ab.mk _ (az (by omega)) ?_
   exact⟨(),trivial,rfl,rfl⟩
  ·intro _ _
   refine ah.no rfl ?_
   exact⟨_,rfl,_,rfl⟩
 obtain⟨r,k,S',rfl⟩:=hx
 exact bC k rfl rfl rfl rfl rfl rfl
end Go.Ev

namespace Go.Proofs.YtmnofcchfbkbeaaGreat
open Go.Ev Go.ChangeShapes Go.WideShapes Go.ChangeAt Go.RowKit
theorem evOwn:ownKnob Tryz.prog.godebug=none:=by kernel_rfl
theorem evLaid:laidOutB Tryz.prog=true:=by kernel_rfl
theorem evMaps:mapsRowed Tryz.prog=true:=by kernel_rfl
noncomputable def evTypes:List Nat:=[3,5,9,22,23,25,26,28,43,45,48,49,51]
theorem evPlain:allB (plainT Tryz.prog evTypes) evTypes=true:=by kernel_rfl
theorem evRead:allB (fun t=>Tryz.prog.readableRec t) evTypes=true:=by kernel_rfl
theorem evPar {ts:List Nat} (h:allB (fun t=>memN t evTypes) ts=true):∀t∈ts,memN t evTypes=true∧Tryz.prog.readableRec t=true:=
 fun t ht=>⟨allB_mem h t ht,allB_mem evRead t (memN_iff.1 (allB_mem h t ht))⟩
set_option maxRecDepth 100000 in
theorem recursorPlays_lifted (hlaw:∀us,Args Tryz.prog Tryz.f3.params.toList us→∃n S',Go.Ev.RN n (.f 3) us St.empty=some (.bool true,S')) (os:Os) (started:os.Started) (H:Type) (enc:TypeId×Value→H) :
 ReturnsInHanded {} Tryz.checked os 3 .any (Rows.recursorPlaysSpec.pre6 enc Tryz.prog Tryz.f3 Rows.recursorPlaysRow.domain false) (Rows.recursorPlaysSpec.post enc Tryz.prog Tryz.f3 false true false false):=by
 refine returnsInHanded_of_change (C:=Tryz.checked) evOwn started (by kernel_rfl) Tryz.func3
  (ChangeSpec.witness6 (enc:=enc) (C:=Tryz.checked) false ⟨#[],#[.agg #[.int .u8 0,.int .i64 0,.string ⟨⟨[]⟩⟩,.int .u8 0,.int .i64 0,.string ⟨⟨[]⟩⟩,.slice none 0 0,.slice none 0 0,.int .u8 0,.int .i64 0,.string ⟨⟨[]⟩⟩,.slice none 0 0,.slice none 0 0,.int .i64 0,.slice none 0 0]],[]⟩ 8 (by kernel_rfl) (by kernel_rfl) (by kernel_rfl) (by kernel_rfl)) ?_
 intro W base args ds gs before hval hW _ _
 exact law_contract (C:=Go.Ev.Tryz.cfg) (P:=Tryz.prog) (s:=Rows.recursorPlaysSpec) Go.Ev.rnOk evLaid evMaps evPlain (evPar (by kernel_rfl)) (by kernel_rfl) rfl (tb:=4) (by kernel_rfl) Tryz.underlying4
  (fun _ ds hd=>by
   match ds,(show ds.length=1 from hd) with
   | [d1],_=>rfl) hval hW hlaw
theorem recursorPlays_of (hlaw:∀us,Args Tryz.prog Tryz.f3.params.toList us→∃n S',Go.Ev.RN n (.f 3) us St.empty=some (.bool true,S')):Rows.RecursorPlaysSaid:=
 OpenClaim.holds_of_wide 3 Tryz.f3 rfl rfl rfl rfl rfl rfl rfl ⟨rfl,rfl,rfl,rfl,rfl⟩ rfl rfl rfl rfl rfl (by kernel_rfl) Tryz.func3 (by kernel_rfl)
  (of_decide_eq_true (by kernel_rfl)) (by unfold Func.isWrapper;first | (rw [if_pos (by decide +kernel)];kernel_rfl) | (rw [if_neg (by decide +kernel)];exact⟨rfl,rfl⟩))
  (fun os started H enc _=>recursorPlays_lifted hlaw os started H enc)
theorem recursorPlays_holds : Rows.RecursorPlaysSaid := recursorPlays_of (fun us h => Go.Ev.law3 Go.Ev.h6 h)
end Go.Proofs.YtmnofcchfbkbeaaGreat
