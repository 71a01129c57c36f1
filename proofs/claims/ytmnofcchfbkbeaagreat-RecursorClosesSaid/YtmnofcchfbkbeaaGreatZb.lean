/- The statement RecursorClosesSaid is proved: the law returns true at every input, and its arguments read behind the call as before. No condition (own work). -/
import Derived.Test.YtmnofcchfbkbeaaGreatXf
import Derived.Test.YtmnofcchfbkbeaaGreatXu
import Derived.Test.YtmnofcchfbkbeaaGreatXg
import Derived.Test.YtmnofcchfbkbeaaGreatXwB
import Derived.Test.YtmnofcchfbkbeaaGreatXwC
import Derived.Test.YtmnofcchfbkbeaaGreatXwD
import Derived.Test.YtmnofcchfbkbeaaGreatRows
import Derived.WalkKit
import Derived.JoinedCond
namespace Go.Ev
open Go.Proofs Go.RowKit
set_option maxRecDepth 100000
set_option linter.unusedSimpArgs false
set_option linter.unusedVariables false
theorem km {n t:Nat} {k:IntKind} {cs:List V} (hu:Tryz.prog.underlying t=some (.int k)) (h:Shp Tryz.prog n t cs):∃z,cs=[.int k z]∧(Lit.int k z).wf=true:=by
 cases n with
 | zero=>exact h.elim
 | succ n=>rw [Shp,hu] at h;exact h
theorem Nb {n t m e:Nat} {cs:List V} (hu:Tryz.prog.underlying t=some (.array m e)) (h:Shp Tryz.prog n t cs):∃n',L0 (Shp Tryz.prog n' e) m cs:=by
 cases n with
 | zero=>exact h.elim
 | succ n=>rw [Shp,hu] at h;exact⟨n,h⟩
theorem vE {n t:Nat} {cs:List V} (hu:Tryz.prog.underlying t=some .string) (h:Shp Tryz.prog n t cs):∃s:List UInt8,cs=[.str s]∧s.length≤maxLen:=by
 cases n with
 | zero=>exact h.elim
 | succ n=>rw [Shp,hu] at h;exact h
theorem qI {n t e:Nat} {cs:List V} (hu:Tryz.prog.underlying t=some (.slice e)) (h:Shp Tryz.prog n t cs):∃m rows,n=m + 1∧cs=[.list (Tryz.prog.cellsOf e) .no 0 rows]∧rows.length≤maxLen∧∀r∈rows,∃cs,r=.agg cs∧Shp Tryz.prog m e cs:=by
 cases n with
 | zero=>exact h.elim
 | succ n=>
  rw [Shp,hu] at h
  obtain⟨rows,h1,h2,h3⟩:=h
  exact⟨n,rows,rfl,h1,h2,h3⟩
theorem Rt {n:Nat} {cs:List V} (h:Shp Tryz.prog n 51 cs):∃l:Lv,cs=dQ l:=by
 cases n with
 | zero=>exact h.elim
 | succ n=>
  rw [Shp,Tryz.underlying51] at h
  obtain⟨a,b,rfl,h0,h⟩:=h
  obtain⟨c,d,rfl,h1,h⟩:=h
  obtain rfl:d=[]:=h
  obtain⟨z,rfl,_⟩:=km Tryz.underlying3 h0
  obtain⟨n',h⟩:=Nb Tryz.underlying49 h1
  clear h1
  obtain⟨a,b,rfl,h0,h⟩:=h
  obtain⟨c,d,rfl,h1,h⟩:=h
  obtain⟨e,f,rfl,h2,h⟩:=h
  obtain⟨g,i,rfl,h3,h⟩:=h
  obtain rfl:i=[]:=h
  obtain⟨z0,rfl,_⟩:=km Tryz.underlying3 h0
  obtain⟨z1,rfl,_⟩:=km Tryz.underlying3 h1
  obtain⟨z2,rfl,_⟩:=km Tryz.underlying3 h2
  obtain⟨z3,rfl,_⟩:=km Tryz.underlying3 h3
  exact⟨⟨z,z0,z1,z2,z3⟩,rfl⟩
theorem tw {α:Type} {f:α→List V} {p:α→Prop} {m e:Nat} (hm:∀cs,Shp Tryz.prog m e cs→∃t:α,cs=f t∧p t):∀{rows:List V},(∀r∈rows,∃cs,r=.agg cs∧Shp Tryz.prog m e cs)→∃ts:List α,rows=ts.map (fun t=>.agg (f t))∧∀t∈ts,p t
 | [],_=>⟨[],rfl,(fun t ht=>by cases ht)⟩
 | r::rows,h=>by
  obtain⟨ts,e,hs⟩:=tw hm (fun r hr=>h r (aMt _ hr))
  obtain⟨cs,e1,h1⟩:=h r aMs
  obtain⟨t,e2,h2⟩:=hm cs h1
  refine⟨t::ts,by rw [List.map_cons,e,e1,e2],fun u hu=>?_⟩
  cases hu with
  | head=>exact h2
  | tail _ hu=>exact hs u hu
theorem zV {α:Type} (l:List α):au true l=5:=by cases l<;>rfl
theorem Hg:∀(n:Nat) (cs:List V),Shp Tryz.prog n 25 cs→∃t:Tm,cs=aC t∧Sm t:=by
 intro n
 induction n using Nat.strongRecOn with
 | ind n ih=>
  intro cs h
  cases n with
  | zero=>exact h.elim
  | succ n=>
   rw [Shp,Tryz.underlying25] at h
   obtain⟨c1,d,rfl,h1,h⟩:=h
   obtain⟨c2,d,rfl,h2,h⟩:=h
   obtain⟨c3,d,rfl,h3,h⟩:=h
   obtain⟨c4,d,rfl,h4,h⟩:=h
   obtain⟨c5,d,rfl,h5,h⟩:=h
   obtain rfl:d=[]:=h
   obtain⟨k,rfl,_⟩:=km Tryz.underlying5 h1
   obtain⟨z,rfl,_⟩:=km Tryz.underlying3 h2
   obtain⟨s,rfl,hs⟩:=vE Tryz.underlying9 h3
   obtain⟨m1,r1,_,rfl,hl1,hr1⟩:=qI Tryz.underlying22 h4
   obtain⟨m2,r2,hm2,rfl,hl2,hr2⟩:=qI Tryz.underlying23 h5
   obtain⟨ls,rfl,_⟩:=tw (f:=dQ) (p:=fun _=>True) (fun cs hc=>by obtain⟨l,e⟩:=Rt hc;exact⟨l,e,trivial⟩) hr1
   obtain⟨ts,rfl,hts⟩:=tw (f:=aC) (p:=Sm) (fun cs hc=>ih m2 (by omega) cs hc) hr2
   have e24:Tryz.prog.cellsOf 51=5:=by kernel_rfl
   have e46:Tryz.prog.cellsOf 25=5:=by kernel_rfl
   have hml:maxLen=9223372036854775807:=by decide
   refine⟨.mk k z s true false true false ls ts,?_,?_⟩
   ·show _=[V.int .u8 k,.int .i64 z,.str s,.list (au true ls) (av false) 0 (ls.map enc),.list (au true ts) (av false) 0 (ae ts)]
    rw [zV,zV,e24,e46,cU]
    rfl
   ·rw [gR]
    refine⟨⟨?_,?_⟩,hts⟩
    ·show ls.length≤_
     rw [aLm] at hl1
     omega
    ·show s.length≤_
     omega
theorem Rv {n:Nat} {cs:List V} (h:Shp Tryz.prog n 48 cs):∃c:Ct,cs=mb c∧Sm c.ty:=by
 cases n with
 | zero=>exact h.elim
 | succ n=>
  rw [Shp,Tryz.underlying48] at h
  obtain⟨a,b,rfl,h0,h⟩:=h
  obtain⟨c,d,rfl,h1,h⟩:=h
  obtain rfl:d=[]:=h
  obtain⟨s,rfl,hs⟩:=vE Tryz.underlying9 h0
  obtain⟨t,rfl,ht⟩:=Hg _ _ h1
  exact⟨⟨s,t⟩,by rw [List.append_nil];rfl,ht⟩
theorem Rx {n:Nat} {cs:List V} (h:Shp Tryz.prog n 45 cs):∃i:In,cs=eP i∧(Sm i.ty∧∀c∈i.cs,Sm c.ty):=by
 cases n with
 | zero=>exact h.elim
 | succ n=>
  rw [Shp,Tryz.underlying45] at h
  obtain⟨a,b,rfl,h0,h⟩:=h
  obtain⟨c,d,rfl,h1,h⟩:=h
  obtain⟨e,f,rfl,h2,h⟩:=h
  obtain rfl:f=[]:=h
  obtain⟨s,rfl,hs⟩:=vE Tryz.underlying9 h0
  obtain⟨t,rfl,ht⟩:=Hg _ _ h1
  obtain⟨m,r,_,rfl,hl,hr⟩:=qI Tryz.underlying43 h2
  obtain⟨l,rfl,hc⟩:=tw (f:=mb) (p:=fun c:Ct=>Sm c.ty) (fun cs hc=>Rv hc) hr
  have e48:Tryz.prog.cellsOf 48=6:=by kernel_rfl
  refine⟨⟨s,t,l⟩,?_,ht,hc⟩
  rw [e48]
  rfl
structure PL (d:Dl):Prop where
 ty:Sm d.ty
 val:Sm d.val
 all:∀i∈d.ai,Sm i.ty∧∀c∈i.cs,Sm c.ty
theorem Ry {n:Nat} {cs:List V} (h:Shp Tryz.prog n 28 cs):∃d:Dl,cs=bM d∧PL d:=by
 cases n with
 | zero=>exact h.elim
 | succ n=>
  rw [Shp,Tryz.underlying28] at h
  obtain⟨c1,x,rfl,h1,h⟩:=h
  obtain⟨c2,x,rfl,h2,h⟩:=h
  obtain⟨c3,x,rfl,h3,h⟩:=h
  obtain⟨c4,x,rfl,h4,h⟩:=h
  obtain⟨c5,x,rfl,h5,h⟩:=h
  obtain⟨c6,x,rfl,h6,h⟩:=h
  obtain⟨c7,x,rfl,h7,h⟩:=h
  obtain rfl:x=[]:=h
  obtain⟨k,rfl,_⟩:=km Tryz.underlying5 h1
  obtain⟨p,rfl,_⟩:=km Tryz.underlying3 h2
  obtain⟨s,rfl,hs⟩:=vE Tryz.underlying9 h3
  obtain⟨t,rfl,ht⟩:=Hg _ _ h4
  obtain⟨v,rfl,hv⟩:=Hg _ _ h5
  obtain⟨f,rfl,_⟩:=km Tryz.underlying3 h6
  obtain⟨m,r,_,rfl,hl,hr⟩:=qI Tryz.underlying26 h7
  obtain⟨l,rfl,hc⟩:=tw (f:=eP) (p:=fun i:In=>Sm i.ty∧∀c∈i.cs,Sm c.ty) (fun cs hc=>Rx hc) hr
  have e45:Tryz.prog.cellsOf 45=7:=by kernel_rfl
  refine⟨⟨k,p,s,t,v,f,l⟩,?_,ht,hv,hc⟩
  rw [e45]
  rfl
theorem Iu {t:Nat} {ts:List Nat} {us:List V} (h:Args Tryz.prog (t::ts) us):∃v rest n c,us=v::rest∧Shp Tryz.prog n t c∧((mV Tryz.prog t=true∧v=.agg c)∨(mV Tryz.prog t=false∧c=[v]))∧Args Tryz.prog ts rest:=h
theorem Rz {ts:List Nat} {us:List V} (h:Args Tryz.prog (28::ts) us):∃(d:Dl) (rest:List V),us=eB d::rest∧PL d∧Args Tryz.prog ts rest:=by
 obtain⟨v,rest,n,c,rfl,h1,h2,h3⟩:=Iu h
 obtain⟨d,rfl,hd⟩:=Ry h1
 rcases h2 with⟨_,rfl⟩ | ⟨hh,_⟩
 ·exact⟨d,rest,rfl,hd,h3⟩
 ·rw [show mV Tryz.prog 28=true by kernel_rfl] at hh;cases hh
end Go.Ev
namespace Go.Ev
open Go.Proofs Go.RowKit
set_option maxRecDepth 100000
set_option maxHeartbeats 4000000
set_option linter.unusedVariables false
set_option linter.unusedSimpArgs false
theorem yj:∀{l:List Nat} {x:Nat},x∈l→x≤l.sum
 | a::l,x,h=>by
  rw [List.sum_cons]
  rcases List.mem_cons.1 h with rfl | h
  ·omega
  ·have:=yj h;omega
noncomputable def wD (d:Dl):Nat:=wt d.ty + wt d.val + ((bV d).map wt).sum + d.ai.length + (d.ai.map fun i=>i.cs.length).sum
theorem DT (d:Dl):Rq d (wD d):=by
 refine⟨by unfold wD;omega,by unfold wD;omega,fun i hi=>⟨?_,?_,fun c hc=>?_⟩,by unfold wD;omega⟩
 ·have:=yj (List.mem_map.2 ⟨i.ty,(dM hi).1,rfl⟩ : wt i.ty∈(bV d).map wt)
  unfold wD;omega
 ·have:=yj (List.mem_map.2 ⟨i,hi,rfl⟩ : i.cs.length∈d.ai.map fun i=>i.cs.length)
  unfold wD;omega
 ·have:=yj (List.mem_map.2 ⟨c.ty,(dM hi).2 c hc,rfl⟩ : wt c.ty∈(bV d).map wt)
  unfold wD;omega
theorem KR {d:Dl} (hs:PL d) (h:qf d=true):rT d (wD d)∧(d.ty.ls.length≤1000∧d.val.ls.length≤1000):=by
 unfold qf at h
 simp only [Bool.and_eq_true,Bool.not_eq_true'] at h
 obtain⟨h1,h2,h3,h4,h5⟩:=h
 rw [cb,decide_eq_false_iff_not] at h1
 simp only [aOn] at h1
 have hw:=DT d
 have hls:∀t:Tm,mH t=false→t.ls.length≤1000:=fun t ht=>by
  unfold mH at ht
  cases hq:de jt t 131072 8192 with
  | none=>rw [hq] at ht;cases ht
  | some r=>
   obtain⟨_,_,_,_,hp,_⟩:=jV hq
   have:=Nat.le_of_ble_eq_true hp
   omega
 have cg:∀i∈d.ai,i.cs.length≤10∧mH i.ty=false∧i.name.length≤100∧∀c∈i.cs,mH c.ty=false∧c.name.length≤100:=fun i hi=>by
  have q:=List.all_eq_true.1 h5 i hi
  unfold yh at q
  simp only [Bool.and_eq_true,Bool.not_eq_true'] at q
  obtain⟨q1,q2,q3,q4⟩:=q
  rw [cb,decide_eq_false_iff_not] at q1 q3
  simp only [aOn] at q1 q3
  refine⟨by omega,q2,by omega,fun c hc=>?_⟩
  have r:=List.all_eq_true.1 q4 c hc
  unfold Bz at r
  simp only [Bool.and_eq_true,Bool.not_eq_true'] at r
  obtain⟨r1,r2⟩:=r
  rw [cb,decide_eq_false_iff_not] at r2
  simp only [aOn] at r2
  exact⟨r1,by omega⟩
 refine⟨⟨⟨by omega,fun i hi=>by have:=(cg i hi).1;omega,fun i hi=>⟨(cg i hi).2.2.1,fun c hc=>((cg i hi).2.2.2 c hc).2⟩⟩,fun t ht=>?_,⟨hs.ty,by have:=qB h2;omega,hw.ty⟩,⟨hs.val,by have:=qB h3;omega,hw.val⟩⟩,hls _ h2,hls _ h3⟩
 unfold bV at ht
 obtain⟨i,hi,ht⟩:=List.mem_flatMap.1 ht
 unfold om at ht
 rcases List.mem_cons.1 ht with rfl | ht
 ·exact⟨(hs.all i hi).1,by have:=qB (cg i hi).2.1;omega,(hw.all i hi).1⟩
 ·obtain⟨c,hc,rfl⟩:=List.mem_map.1 ht
  exact⟨(hs.all i hi).2 c hc,by have:=qB ((cg i hi).2.2.2 c hc).1;omega,(hw.all i hi).2.2 c hc⟩
noncomputable def wT (d:Dl):Nat:=(((d.ai.zipIdx 0).flatMap fun q=>dS d (ofR d).1 (fxN d) (pN d) (bY d.params).1 (bt d) q.2 q.1).map wt).sum
theorem zW {d:Dl} (h:vl d):bt d≤1000:=by
 have:=qa h.cs d.ai.length
 have h2:=h.few
 rw [List.take_length] at this
 unfold bt;omega
theorem tx {d:Dl} {W:Nat} (hd:rT d W) {n:Nat} (hn:wT d + 100≤n):∀sh,ofR d=(sh,0)→∀q∈d.ai.zipIdx 0,∀t∈dS d sh (fxN d) (pN d) (bY d.params).1 (bt d) q.2 q.1,Sm t∧wt t + 40≤n:=by
 intro sh ho q hq t ht
 ·have hg:=G1 hd ho
  have hx:d.ai[q.2]?=some q.1:=by
   obtain⟨j,hj⟩:=List.mem_iff_getElem?.1 hq
   rw [List.getElem?_zipIdx] at hj
   cases hx:d.ai[j]? with
   | none=>rw [hx] at hj;cases hj
   | some x=>
    rw [hx] at hj
    simp at hj
    rw [← hj]
    exact hx
  have hsm:Sm t:=KP (By hg (zW hd.nm)) hx t ht
  refine⟨hsm,?_⟩
  rw [show sh=(ofR d).1 by rw [ho]] at ht
  have:=yj (List.mem_map.2 ⟨t,List.mem_flatMap.2 ⟨q,hq,ht⟩,rfl⟩ : wt t∈((d.ai.zipIdx 0).flatMap fun q=>dS d (ofR d).1 (fxN d) (pN d) (bY d.params).1 (bt d) q.2 q.1).map wt)
  unfold wT at hn
  omega
end Go.Ev
namespace Go.Ev
open Go.Proofs Go.RowKit
set_option maxRecDepth 100000
set_option linter.unusedVariables false
set_option linter.unusedSimpArgs false
@[reducible] noncomputable def FM (i:Inf):List V:=[.int .u8 i.kind,.str i.name,.int .i64 i.params,
  .int .u8 i.ty.k,.int .i64 i.ty.n,.str i.ty.s,.list (au i.ty.a i.ty.ls) (av i.ty.b) 0 (i.ty.ls.map enc),.list (au i.ty.c i.ty.ts) (av i.ty.d) 0 (ae i.ty.ts),
  .int .u8 i.val.k,.int .i64 i.val.n,.str i.val.s,.list (au i.val.a i.val.ls) (av i.val.b) 0 (i.val.ls.map enc),.list (au i.val.c i.val.ts) (av i.val.d) 0 (ae i.val.ts),
  .int .i64 0,.str i.block,.str i.of_,.int .i64 i.fixed,.int .i64 i.index,.int .i64 0,.int .i64 0,.int .i64 i.motives,.int .i64 i.minors,jX 7 (i.rules.map cj),.int .i64 0,.bool false]
theorem Hh {is:List Inf} {k:Nat} {i:Inf} {z:Nat} {b:Bool} (h:is[k]?=some i) (hz:jX 25 (is.map gD)=.list z (av b) 0 (is.map gD)) {zi:Nat} {bi:Bool} (hzi:jX 7 (i.rules.map cj)=.list zi (av bi) 0 (i.rules.map cj)) :
 indexAddr Tryz.cfg 31 (.list z (av b) 0 (is.map gD)) (.int .i64 (.ofNat k))=some (.imm 0 (ir i zi (av bi) (i.rules.map cj))):=by
 have e:ir i zi (av bi) (i.rules.map cj)=FM i:=by unfold FM;rw [hzi]
 rw [← hz,e]
 cases hr:is with
 | nil=>rw [hr] at h;simp at h
 | cons x r=>rw [hr] at h;exact dI (f:=FM) (ei:=Tryz.ti38) rfl rfl h
theorem KT {α:Type} {l:List α} {n:Nat} (h:aG l=n + 1):∃a m,l=a::m∧aG m=n:=by
 cases l with
 | nil=>cases h
 | cons a m=>exact⟨a,m,rfl,by rw [an] at h ⊢;simpa using h⟩
theorem Nd {α:Type} {l:List α} (h:aG l=0):l=[]:=by
 cases l with
 | nil=>rfl
 | cons a m=>rw [an] at h;simp at h
theorem yk {n:Nat} {r:Option (V×St)} {rows:List V} (h:DS n r=some rows):∃b S,r=some (.list n (av b) 0 rows,S):=by
 unfold DS at h
 split at h
 ·obtain⟨h1,h2⟩:=aE h
  cases h2
  have:=Nat.eq_of_beq_eq_true h1
  subst this
  exact⟨false,_,rfl⟩
 ·obtain⟨h1,h2⟩:=aE h
  cases h2
  have:=Nat.eq_of_beq_eq_true h1
  subst this
  exact⟨true,_,rfl⟩
 ·cases h
def N1 (k:Nat) (v:V):Prop:=match k with
 | 0=>∃q z,v=.int q z
 | 1=>∃s,v=.str s
 | 2=>∃sz b rows,v=.list sz (av b) 0 rows
 | _=>∃b,v=.bool b
def lA:List Nat→List V→Prop
 | [],vs=>vs=[]
 | k::ks,vs=>∃v us,vs=v::us∧N1 k v∧lA ks us
theorem KU {k:Nat} {v:V} (h:Na k v=true):N1 k v:=by
 unfold Na at h
 split at h
 ·obtain rfl:=Nat.eq_of_beq_eq_true h;exact⟨_,_,rfl⟩
 ·obtain rfl:=Nat.eq_of_beq_eq_true h;exact⟨_,rfl⟩
 ·obtain rfl:=Nat.eq_of_beq_eq_true h;exact⟨_,false,_,rfl⟩
 ·obtain rfl:=Nat.eq_of_beq_eq_true h;exact⟨_,true,_,rfl⟩
 ·obtain rfl:=Nat.eq_of_beq_eq_true h;exact⟨_,rfl⟩
 ·cases h
theorem zX:∀{ks:List Nat} {vs:List V},Hf ks vs=true→lA ks vs
 | [],[],_=>rfl
 | [],_::_,h=>by cases h
 | _::_,[],h=>by cases h
 | k::ks,v::vs,h=>by
  obtain⟨h1,h2⟩:=Bool.and_eq_true_iff.1 (show (Na k v && Hf ks vs)=true from h)
  exact⟨v,vs,rfl,KU h1,zX h2⟩
theorem yl {ks:List Nat} {o:Option V} {cs:List V} (h:rowOf ks o=some cs):o=some (.agg cs)∧lA ks cs:=by
 unfold rowOf at h
 split at h
 ·obtain⟨h1,h2⟩:=aE h
  cases h2
  exact⟨rfl,zX h1⟩
 ·cases h
theorem KV {r:Option (V×St)} {x:List V} (h:FJ r=some x):∃b S,r=some (.tuple [.list 25 (av b) 0 [.agg x],.int .i64 0],S)∧lA ksN x:=by
 unfold FJ at h
 split at h
 ·rename_i sz tok top rows e S
  obtain⟨h1,h2⟩:=aE h
  simp only [Bool.and_eq_true,bp,decide_eq_true_eq] at h1
  obtain⟨h1,h3⟩:=h1
  subst h1
  split at h2
  ·rename_i l hl
   obtain⟨b,S',hb⟩:=yk hl
   cases hb
   obtain⟨h4,h5⟩:=yl h2
   obtain⟨a,m,rfl,hm⟩:=KT (Nat.eq_of_beq_eq_true h3)
   obtain rfl:=Nd hm
   cases h4
   exact⟨b,S,rfl,h5⟩
  ·cases h2
 ·cases h
theorem Iv {r:Option (V×St)} (h:FK r=true):∃S,r=some (.bool true,S):=by
 unfold FK at h
 split at h
 ·subst h;exact⟨_,rfl⟩
 ·cases h
theorem zY {R:Run} {k at_:Nat} (h:zU R k at_=true):∃t15 bs S15 b t7 x S7 t16 is S16 y S9,R (.f 15) [] St.empty=some (.list 15 (av t15) 0 bs,S15)∧nth bs k=some (.agg b)∧lA ksD b∧
 R (.f 7) [.agg b] St.empty=some (.tuple [.list 25 (av t7) 0 [.agg x],.int .i64 0],S7)∧lA ksN x∧R (.f 16) [] St.empty=some (.list 25 (av t16) 0 is,S16)∧nth is at_=some (.agg y)∧lA ksN y∧
 allB V.pure [.agg b]=true∧allB V.pure [.agg x,.agg y]=true∧R (.f 9) [.agg x,.agg y] St.empty=some (.bool true,S9):=by
 unfold zU at h
 split at h
 ·rename_i bs h15
  split at h
  ·rename_i b hb
   split at h
   ·rename_i x h7
    split at h
    ·rename_i is h16
     split at h
     ·rename_i y hy
      obtain⟨p1,p2⟩:=Bool.and_eq_true_iff.1 h
      rw [cE] at p1
      obtain⟨p1,p3⟩:=p1
      obtain⟨t15,S15,e15⟩:=yk h15
      obtain⟨b1,b2⟩:=yl hb
      obtain⟨t7,S7,e7,x2⟩:=KV h7
      obtain⟨t16,S16,e16⟩:=yk h16
      obtain⟨y1,y2⟩:=yl hy
      obtain⟨S9,e9⟩:=Iv p2
      exact⟨t15,bs,S15,b,t7,x,S7,t16,is,S16,y,S9,e15,b1,b2,e7,x2,e16,y1,y2,by rw [cE];exact⟨p1,rfl⟩,p3,e9⟩
     ·cases h
    ·cases h
   ·cases h
  ·cases h
 ·cases h
theorem tA {id n:Nat} {args:List V} {v:V} {S0 S:St} (hp:(Tryz.cfg.fc id).pure=true) (hn:cW id=false) (hr:bW id=false) (ha:allB V.pure args=true) (h:RN (n + 1) (.f id) args St.empty=some (v,S0)):RN (n + 1) (.f id) args S=some (v,S):=by
 have key:∀S,RN (n + 1) (.f id) args S=bT cO (n + 1) (fD Tryz.cfg cO cW bW (n + 1)) (.f id) args S:=fun S=>by
  show cX bW (cp cW (bT cO (n + 1) (fD Tryz.cfg cO cW bW (n + 1)))) (.f id) args S=_
  unfold cX cp
  simp only [hr,hn]
 rw [key] at h ⊢
 unfold bT at h ⊢
 cases hc:cO id with
 | some g=>
  simp only [hc,ha,cond_true] at h ⊢
  split at h
  ·rename_i w hw
   cases h
   rfl
  ·cases h
 | none=>
  simp only [hc] at h ⊢
  replace h:step Tryz.cfg (wO cO cW bW n (fD Tryz.cfg cO cW bW n)) n (.f id) args St.empty=some (v,S0):=h
  show step Tryz.cfg (wO cO cW bW n (fD Tryz.cfg cO cW bW n)) n (.f id) args S=some (v,S)
  rw [qv] at h ⊢
  rw [hp,ha] at h ⊢
  simp only [Bool.and_self,cond_true] at h ⊢
  split at h
  ·split at h
   ·split at h
    ·cases h;simp_all
    ·cases h
   ·cases h
  ·cases h
theorem ui {LT ET n by' sz:Nat} {z' : List V} {ei:TI} {tk:Tok} {rows cs:List V} {j:Nat} (hl:Tryz.cfg.ti LT=some { kind:=.slice ET,size:=sz,bytes:=by',zero:=z' }) (he:Tryz.cfg.ti ET=some ei) (hn:ei.size=n) (h:nth rows j=some (.agg cs)) :
 indexAddr Tryz.cfg LT (.list n tk 0 rows) (.int .i64 (.ofNat j))=some (.imm 0 cs):=by
 have h':=h
 rw [bR] at h'
 have hj:j < rows.length:=(aGs h').1
 unfold indexAddr
 rw [hl]
 simp only [he]
 rw [an,pP hj]
 simp only [h,hn]
 show (bif Nat.beq n n then some (V.imm 0 cs) else none)=_
 rw [Nat.beq_refl]
 rfl
theorem KW {l:List V} (h:lA ksD l):∃q0 z0 q1 z1 s2 q3 z3 q4 z4 s5 n6 b6 r6 n7 b7 r7 q8 z8 q9 z9 s10 n11 b11 r11 n12 b12 r12 q13 z13 n14 b14 r14,
 l=[.int q0 z0,.int q1 z1,.str s2,.int q3 z3,.int q4 z4,.str s5,.list n6 (av b6) 0 r6,.list n7 (av b7) 0 r7,.int q8 z8,.int q9 z9,.str s10,.list n11 (av b11) 0 r11,.list n12 (av b12) 0 r12,.int q13 z13,.list n14 (av b14) 0 r14]:=by
 obtain⟨_,_,rfl,⟨q0,z0,rfl⟩,_,_,rfl,⟨q1,z1,rfl⟩,_,_,rfl,⟨s2,rfl⟩,_,_,rfl,⟨q3,z3,rfl⟩,_,_,rfl,⟨q4,z4,rfl⟩,_,_,rfl,⟨s5,rfl⟩,_,_,rfl,⟨n6,b6,r6,rfl⟩,_,_,rfl,⟨n7,b7,r7,rfl⟩,
  _,_,rfl,⟨q8,z8,rfl⟩,_,_,rfl,⟨q9,z9,rfl⟩,_,_,rfl,⟨s10,rfl⟩,_,_,rfl,⟨n11,b11,r11,rfl⟩,_,_,rfl,⟨n12,b12,r12,rfl⟩,_,_,rfl,⟨q13,z13,rfl⟩,_,_,rfl,⟨n14,b14,r14,rfl⟩,rfl⟩:=h
 exact⟨_,_,_,_,_,_,_,_,_,_,_,_,_,_,_,_,_,_,_,_,_,_,_,_,_,_,_,_,_,_,_,_,rfl⟩
@[reducible] noncomputable def RB (q0:IntKind) (z0:Int) (s1:List UInt8) (q2:IntKind) (z2:Int) (q3:IntKind) (z3:Int) (q4:IntKind) (z4:Int) (s5:List UInt8) (n6:Nat) (b6:Bool) (r6:List V) (n7:Nat) (b7:Bool) (r7:List V)
 (q8:IntKind) (z8:Int) (q9:IntKind) (z9:Int) (s10:List UInt8) (n11:Nat) (b11:Bool) (r11:List V) (n12:Nat) (b12:Bool) (r12:List V) (q13:IntKind) (z13:Int) (s14 s15:List UInt8) (q16:IntKind) (z16:Int) (q17:IntKind) (z17:Int)
 (q18:IntKind) (z18:Int) (q19:IntKind) (z19:Int) (q20:IntKind) (z20:Int) (q21:IntKind) (z21:Int) (n22:Nat) (b22:Bool) (r22:List V) (q23:IntKind) (z23:Int) (b24:Bool):List V:=
  [.int q0 z0,.str s1,.int q2 z2,.int q3 z3,.int q4 z4,.str s5,.list n6 (av b6) 0 r6,.list n7 (av b7) 0 r7,.int q8 z8,.int q9 z9,.str s10,.list n11 (av b11) 0 r11,.list n12 (av b12) 0 r12,.int q13 z13,.str s14,.str s15,.int q16 z16,.int q17 z17,
   .int q18 z18,.int q19 z19,.int q20 z20,.int q21 z21,.list n22 (av b22) 0 r22,.int q23 z23,.bool b24]
theorem DU {l:List V} (h:lA ksN l):∃q0 z0 s1 q2 z2 q3 z3 q4 z4 s5 n6 b6 r6 n7 b7 r7 q8 z8 q9 z9 s10 n11 b11 r11 n12 b12 r12 q13 z13 s14 s15 q16 z16 q17 z17 q18 z18 q19 z19 q20 z20 q21 z21 n22 b22 r22 q23 z23 b24,
 l=RB q0 z0 s1 q2 z2 q3 z3 q4 z4 s5 n6 b6 r6 n7 b7 r7 q8 z8 q9 z9 s10 n11 b11 r11 n12 b12 r12 q13 z13 s14 s15 q16 z16 q17 z17 q18 z18 q19 z19 q20 z20 q21 z21 n22 b22 r22 q23 z23 b24:=by
 obtain⟨_,_,rfl,⟨q0,z0,rfl⟩,_,_,rfl,⟨s1,rfl⟩,_,_,rfl,⟨q2,z2,rfl⟩,_,_,rfl,⟨q3,z3,rfl⟩,_,_,rfl,⟨q4,z4,rfl⟩,_,_,rfl,⟨s5,rfl⟩,_,_,rfl,⟨n6,b6,r6,rfl⟩,_,_,rfl,⟨n7,b7,r7,rfl⟩,
  _,_,rfl,⟨q8,z8,rfl⟩,_,_,rfl,⟨q9,z9,rfl⟩,_,_,rfl,⟨s10,rfl⟩,_,_,rfl,⟨n11,b11,r11,rfl⟩,_,_,rfl,⟨n12,b12,r12,rfl⟩,_,_,rfl,⟨q13,z13,rfl⟩,_,_,rfl,⟨s14,rfl⟩,_,_,rfl,⟨s15,rfl⟩,_,_,rfl,⟨q16,z16,rfl⟩,_,_,rfl,⟨q17,z17,rfl⟩,
  _,_,rfl,⟨q18,z18,rfl⟩,_,_,rfl,⟨q19,z19,rfl⟩,_,_,rfl,⟨q20,z20,rfl⟩,_,_,rfl,⟨q21,z21,rfl⟩,_,_,rfl,⟨n22,b22,r22,rfl⟩,_,_,rfl,⟨q23,z23,rfl⟩,_,_,rfl,⟨b24,rfl⟩,rfl⟩:=h
 exact⟨_,_,_,_,_,_,_,_,_,_,_,_,_,_,_,_,_,_,_,_,_,_,_,_,_,_,_,_,_,_,_,_,_,_,_,_,_,_,_,_,_,_,_,_,_,_,_,_,_,rfl⟩
@[reducible] noncomputable def atV:V:=.list 1 .tight 0 [.agg [.int .i64 3],.agg [.int .i64 6],.agg [.int .i64 10]]
noncomputable def atN:Nat→Nat
 | 0=>3
 | 1=>6
 | _=>10
theorem KX {j:Nat} (hj:j < 3):indexAddr Tryz.cfg 63 atV (.int .i64 (.ofNat j))=some (.imm 0 [.int .i64 (.ofNat (atN j))]):=by
 match j,hj with
 | 0,_=>rfl
 | 1,_=>rfl
 | 2,_=>rfl
theorem Hi {a b:List V} {n m:Nat} {t u:Tok} {S S' : St} (h:some (V.list n t 0 a,S)=some (V.list m u 0 b,S')):a=b:=by cases h;rfl
theorem h6:∃c,∀n S,c≤n→RN n (.f 6) [] S=some (.bool true,S):=by
 refine⟨111,fun n S hn=>?_⟩
 obtain⟨m,rfl⟩ : ∃m,n=m + 110 + 1:=⟨n - 111,by omega⟩
 obtain⟨t15,bs,S15,_,_,_,_,t16,is,S16,_,_,k15,_,_,_,_,k16,_⟩:=zY (KQ m)
 have hw:∀j,j < 3→zU (RN (m + 110)) j (atN j)=true:=fun j hj=>by
  match j,hj with
  | 0,_=>exact KQ m
  | 1,_=>exact PJ m
  | 2,_=>exact PK m
 have q15:=fun S=>tA (S:=S) (by kernel_rfl) rfl rfl rfl k15
 have q16:=fun S=>tA (S:=S) (by kernel_rfl) rfl rfl rfl k16
 have hx:∃r,frame Tryz.cfg (RN (m + 110)) (m + 110) 6 [] St.empty=some r∧∃S',r=(.bool true,S'):=by
  refine aV (fn:=Tryz.f6) (p:=fun r=>∃S',r=(.bool true,S')) rfl rfl ?_
  refine ag.mk _ _ (q15 _) ?_
  refine ag.mk _ _ (q16 _) ?_
  refine ab.mk atV rfl ?_
  refine aB.loop 43 (σ:=Unit) 3 (fun k _=>{ nt:=43,tmps:=[(1,.list 15 (av t15) 0 bs),(2,.list 25 (av t16) 0 is),(3,atV),(4,.int .i64 (.ofNat k))],locs:=[],fix:=[] }) (fun _ _=>St.empty) (fun _ _=>True) () (show 3 < m + 110 by omega) trivial ?_ ?_
  ·intro j _ hj _
   obtain⟨UM,bs',UN,b,t7,x,S7,UO,is',UP,y,S9,Ul,hb,hbl,k7,hxl,Um,hy,hyl,pb,pxy,k9⟩:=zY (hw j hj)
   obtain rfl:bs=bs':=Hi (k15.symm.trans Ul)
   obtain rfl:is=is':=Hi (k16.symm.trans Um)
   have q7:=fun S=>tA (S:=S) (by kernel_rfl) rfl rfl pb k7
   have q9:=fun S=>tA (S:=S) (by kernel_rfl) rfl rfl pxy k9
   obtain⟨_,_,_,_,_,_,_,_,_,_,_,_,_,_,_,_,_,_,_,_,_,_,_,_,_,_,_,_,_,_,_,_,rfl⟩:=KW hbl
   obtain⟨_,_,_,_,_,_,_,_,_,_,_,_,_,_,_,_,_,_,_,_,_,_,_,_,_,_,_,_,_,_,_,_,_,_,_,_,_,_,_,_,_,_,_,_,_,_,_,_,_,rfl⟩:=DU hxl
   obtain⟨_,_,_,_,_,_,_,_,_,_,_,_,_,_,_,_,_,_,_,_,_,_,_,_,_,_,_,_,_,_,_,_,_,_,_,_,_,_,_,_,_,_,_,_,_,_,_,_,_,rfl⟩:=DU hyl
   refine ah.yes (show iLt (.ofNat j) (.ofNat 3)=true from dC hj) ?_
   refine ab.mk _ (ui (ei:=Tryz.ti28) rfl rfl rfl hb) ?_
   refine ag.mk _ _ (q7 _) ?_
   refine ah.no rfl ?_
   refine ah.no rfl ?_
   refine ab.mk _ (ui (ei:=Tryz.ti38) (j:=0) rfl rfl rfl rfl) ?_
   refine ab.mk _ (KX hj) ?_
   refine ab.mk _ (ui (ei:=Tryz.ti38) rfl rfl rfl hy) ?_
   refine ag.mk _ _ (q9 _) ?_
   refine ab.mk _ (az (by omega)) ?_
   exact⟨(),trivial,rfl,rfl⟩
  ·intro _ _
   refine ah.no rfl ?_
   exact⟨_,rfl,_,rfl⟩
 obtain⟨r,k,S',rfl⟩:=hx
 exact bG k rfl rfl rfl rfl rfl rfl
mutual
noncomputable def nmT:Tm→List (List UInt8)
 | .mk k n s a b c d ls ts=>(match s with | []=>[] | x::r=>[x::r])++Iw ts
noncomputable def Iw:List Tm→List (List UInt8)
 | []=>[]
 | t::ts=>nmT t++Iw ts
end
theorem KY {ts:List Tm} {s:List UInt8}:s∈Iw ts↔∃t∈ts,s∈nmT t:=by
 induction ts with
 | nil=>simp [Iw]
 | cons t ts ih=>rw [Iw,List.mem_append,ih];simp
theorem PM (x:Tm):nmT x=(match x.s with | []=>[] | a::r=>[a::r])++Iw x.ts:=by
 cases x with
 | mk k n s a b c d ls ts=>cases s<;>(rw [nmT];rfl)
theorem vF {x:Tm} {s:List UInt8}:s∈nmT x↔(s=x.s∧x.s≠[])∨∃t∈x.ts,s∈nmT t:=by
 rw [PM,List.mem_append,KY]
 cases h:x.s with
 | nil=>simp
 | cons a r=>simp
theorem KZ {sz:Nat} {l:List (List UInt8)} (h:SzS sz l) (m:Nat):SzS sz (l.take m):=h.imp (fun h=>by rw [h];simp) id
theorem K0 {sz:Nat} {l:List (List UInt8)} (h:SzS sz l) (m:Nat):SzS sz (l.drop m):=h.imp (fun h=>by rw [h];simp) id
theorem Ix {l:List (List UInt8)} {sz m:Nat} {tok:Tok} (hs:SzS sz l) (hm:m≤l.length) :
 ∃aP,slice Tryz.cfg 42 (.list sz tok 0 (l.map aQ)) none (some (.int .i64 (.ofNat m))) none=some (.list sz aP 0 ((l.take m).map aQ)):=by
 refine⟨if tok=.tight∧m=aG (l.map aQ) then .tight else .no,?_⟩
 unfold slice
 have hb:bound (some (.int .i64 (.ofNat m)))=some (some m):=by simp [bound]
 have hb0:bound none=some none:=rfl
 rw [hb,hb0]
 simp only [show Tryz.cfg.ti 42=some { kind:=.slice 9,size:=1,bytes:=24,zero:=[.list 0 .tight 0 []] } from rfl,show Tryz.cfg.ti 9=some Tryz.ti9 from rfl]
 rw [if_pos (by rcases hs with rfl | h
                ·left;rfl
                ·right;rw [h];rfl)]
 unfold jK
 simp only [Option.getD_some,Option.getD_none]
 rw [if_pos ⟨Nat.zero_le _,by rw [an,aLm];exact hm⟩,dz,eD,List.drop_zero,List.map_take]
theorem Iy {l:List (List UInt8)} {sz m:Nat} {tok:Tok} (hs:SzS sz l) (hm:m≤l.length) :
 ∃aP,slice Tryz.cfg 42 (.list sz tok 0 (l.map aQ)) (some (.int .i64 (.ofNat m))) none none=some (.list sz aP 0 ((l.drop m).map aQ)):=by
 refine⟨if tok=.tight then .tight else .no,?_⟩
 unfold slice
 have hb:bound (some (.int .i64 (.ofNat m)))=some (some m):=by simp [bound]
 have hb0:bound none=some none:=rfl
 rw [hb,hb0]
 simp only [show Tryz.cfg.ti 42=some { kind:=.slice 9,size:=1,bytes:=24,zero:=[.list 0 .tight 0 []] } from rfl,show Tryz.cfg.ti 9=some Tryz.ti9 from rfl]
 rw [if_pos (by rcases hs with rfl | h
                ·left;rfl
                ·right;rw [h];rfl)]
 unfold jK
 simp only [Option.getD_some,Option.getD_none]
 rw [if_pos ⟨by rw [an,aLm];exact hm,Nat.le_refl _⟩,dz,eD,an,List.take_length,List.map_drop]
 simp
theorem j8 {H:List Blk} {T0 T:List Nat} {done new:List (List UInt8)} {tok bH:Tok} {sz sz2:Nat} (hlen:done.length + new.length < 1000000000) (hs:SzS sz done) (hs2:SzS sz2 new) (hg:fy T0 T done tok) :
 ∃sz' T' aP,(∀(A:Env) (ac:Acc),ac.heap=true→append Tryz.cfg A { heap:=H,aA:=T } ac 42 (.list sz tok 0 (done.map aQ)) (.list sz2 bH 0 (new.map aQ))=some (.list sz' aP 0 ((done++new).map aQ),{ heap:=H,aA:=T' }))∧SzS sz' (done++new)∧fy T0 T' (done++new) aP:=by
 by_cases hne:new=[]
 ·subst hne
  refine⟨sz,T,tok,?_,by rw [List.append_nil];exact hs,by rw [List.append_nil];exact hg⟩
  intro A ac hac
  have hr:fX A { heap:=H,aA:=T } ac 1 (.list sz2 bH 0 [])=some (0,[]):=by
   unfold fX
   exact if_pos (.inl rfl)
  unfold append
  simp only [show Tryz.cfg.ti 42=some { kind:=.slice 9,size:=1,bytes:=24,zero:=[.list 0 .tight 0 []] } from rfl,show Tryz.cfg.ti 9=some Tryz.ti9 from rfl,show Tryz.ti9.size=1 from rfl,List.map_nil,hr,List.append_nil]
  rfl
 ·obtain⟨T',aP,h1,h2⟩:=kJ (H:=H) (T:=T) (bH:=bH) hlen hs hs2 hne hg
  exact⟨1,T',aP,h1,.inr rfl,h2.w⟩
theorem BD {id n:Nat} {args:List V} {S S' : St} {sz:Nat} {tok:Tok} {xs:List (List UInt8)} (h:frame Tryz.cfg (RN n) n id args St.empty=some (.list sz tok 0 (xs.map aQ),S')) (hm:bg V.strip args=args) (hp:(Tryz.cfg.fc id).pure=true) (ha:allB V.pure args=true) (hc:kT id=true:=by rfl) :
 ∃b,RN (n + 1) (.f id) args S=some (.list sz (av b) 0 (xs.map aQ),S):=by
 obtain⟨b,hb⟩ : ∃b,eN tok=av b:=by
  cases tok with
  | no=>exact⟨false,rfl⟩
  | tight=>exact⟨true,rfl⟩
  | own t=>exact⟨false,rfl⟩
 refine⟨b,bG h hm hp ha rfl rfl ?_ hc⟩
 rw [← hb]
 cases tok<;>rfl
noncomputable def atR (s:List UInt8):List (List UInt8)→Nat
 | []=>0
 | x::l=>bif Op.bytesLess x s then atR s l + 1 else 0
theorem N2 {s:List UInt8}:∀{l:List (List UInt8)} {j:Nat},j < atR s l→∃x,l[j]?=some x∧Op.bytesLess x s=true
 | [],j,h=>by rw [atR] at h;omega
 | x::l,j,h=>by
  rw [atR] at h
  cases hx:Op.bytesLess x s with
  | false=>rw [hx] at h;exact absurd h (Nat.not_lt_zero _)
  | true=>
   rw [hx] at h
   simp only [cond_true] at h
   cases j with
   | zero=>exact⟨x,rfl,hx⟩
   | succ j=>
    obtain⟨y,h1,h2⟩:=N2 (s:=s) (l:=l) (j:=j) (by omega)
    exact⟨y,by simpa using h1,h2⟩
theorem K1 {s:List UInt8}:∀{l:List (List UInt8)},atR s l=l.length∨∃x,l[atR s l]?=some x∧Op.bytesLess x s=false
 | []=>.inl (by rw [atR];rfl)
 | x::l=>by
  rw [atR]
  cases hx:Op.bytesLess x s with
  | false=>exact .inr ⟨x,rfl,hx⟩
  | true=>
   simp only [cond_true,aLc,List.getElem?_cons_succ]
   rcases K1 (s:=s) (l:=l) with h | h
   ·exact .inl (by omega)
   ·exact .inr h
theorem N3 {s:List UInt8}:∀{l:List (List UInt8)},atR s l≤l.length
 | []=>by rw [atR];exact Nat.le_refl _
 | x::l=>by
  rw [atR]
  have:=N3 (s:=s) (l:=l)
  cases Op.bytesLess x s with
  | false=>exact Nat.zero_le _
  | true=>simp only [cond_true,aLc];omega
theorem N4 {a b:List UInt8}:binOp Tryz.cfg .lss 9 (.str a) (.str b)=some (.bool (Op.bytesLess a b)):=gZ _
noncomputable def DV (s:List UInt8) (l:List (List UInt8)):List (List UInt8):=l.take (atR s l)++[s]++l.drop (atR s l)
theorem K2 {s x:List UInt8} {l:List (List UInt8)}:x∈DV s l↔x∈l∨x=s:=by
 unfold DV
 have h:=List.take_append_drop (atR s l) l
 rw [List.mem_append,List.mem_append,List.mem_singleton]
 conv=>rhs;rw [← h]
 rw [List.mem_append]
 constructor
 ·rintro ((h | h) | h)
  ·exact .inl (.inl h)
  ·exact .inr h
  ·exact .inl (.inr h)
 ·rintro ((h | h) | h)
  ·exact .inl (.inl h)
  ·exact .inr h
  ·exact .inl (.inr h)
def K3 (s:List UInt8) (l:List (List UInt8)) (q:V×St):Prop:=
 ∃sz tok rows S',q=(.list sz tok 0 (rows.map aQ),S')∧SzS sz rows∧rows.length≤l.length + 1∧∀x,x∈rows↔x∈l∨x=s
theorem h86 {n:Nat} {l:List (List UInt8)} {s:List UInt8} {sz:Nat} {b:Bool} {S:St} (hs:SzS sz l) (hl:l.length≤100000000) (hn:l.length + 3≤n) :
 ∃sz' b' rows,RN n (.f 86) [.list sz (av b) 0 (l.map aQ),.str s] S=some (.list sz' (av b') 0 (rows.map aQ),S)∧SzS sz' rows∧rows.length≤l.length + 1∧∀x,x∈rows↔x∈l∨x=s:=by
 obtain⟨k,rfl⟩:=up (show 1≤n by omega)
 have h:∃q,frame Tryz.cfg (RN k) k 86 [.list sz (av b) 0 (l.map aQ),.str s] St.empty=some q∧K3 s l q:=by
  refine aV (fn:=Tryz.f86) (p:=K3 s l) rfl rfl ?_
  have hA:=@N3 s l
  refine aB.loop 47 (σ:=Unit) (atR s l) (fun j _=>{ nt:=47,tmps:=[(0,.list sz (av b) 0 (l.map aQ)),(1,.str s),(5,.int .i64 (.ofNat j))],locs:=[],fix:=[] }) (fun _ _=>St.empty) (fun _ _=>True) () (by omega) trivial ?_ ?_
  ·intro j _ hj _
   obtain⟨x,hx,hxs⟩:=N2 hj
   refine ah.yes (ltS (by omega)) ?_
   refine ab.mk _ (kl hs hx) ?_
   refine ab.mk _ (N4.trans (by rw [hxs])) ?_
   refine ab.mk _ (az (by omega)) ?_
   exact⟨(),trivial,rfl,rfl⟩
  ·intro _ _
   have tail:∀K:Prop,(∀(aP : Tok) (T' : List Nat) (sz' : Nat),SzS sz' (DV s l)→K3 s l (.list sz' aP 0 ((DV s l).map aQ),{ heap:=[],aA:=T' }) ):=by
    intro _ aP T' sz' hsz
    refine⟨_,_,_,_,rfl,hsz,?_,fun x=>K2⟩
    unfold DV
    simp only [aLa,List.length_take,List.length_drop,aLc,List.length_nil]
    omega
   obtain⟨t1,h1⟩:=Ix (tok:=av b) hs hA
   obtain⟨z2,T2,t2,h2,s2,g2⟩:=j8 (H:=[]) (T0:=[]) (T:=[]) (tok:=.tight) (bH:=t1) (done:=[]) (new:=l.take (atR s l)) (sz:=0) (by rw [List.length_take,List.length_nil];omega) (.inl rfl) (KZ hs _) ⟨ju.refl [],.inl rfl⟩
   rw [List.nil_append] at h2 s2 g2
   obtain⟨z3,T3,t3,h3,s3,g3⟩:=j8 (H:=[]) (bH:=.tight) (new:=[s]) (sz2:=1) (by rw [List.length_take];simp only [aLc,List.length_nil];omega) s2 (.inr rfl) g2
   obtain⟨t4,h4⟩:=Iy (tok:=av b) hs hA
   obtain⟨z5,T5,t5,h5,s5,g5⟩:=j8 (H:=[]) (bH:=t4) (new:=l.drop (atR s l)) (sz2:=sz) (by simp only [aLa,List.length_take,List.length_drop,aLc,List.length_nil];omega) s3 (K0 hs _) g3
   rcases @K1 s l with he | ⟨x,hx,hxs⟩
   ·refine ah.no (geS (by omega)) ?_
    refine ah.no (geS (by omega)) ?_
    refine ab.mk _ h1 ?_
    refine cN.mk _ _ (h2 _ _ rfl) ?_
    refine ab.mk _ (bsS _) ?_
    refine cN.mk _ _ (h3 _ _ rfl) ?_
    refine ab.mk _ h4 ?_
    refine cN.mk _ _ (h5 _ _ rfl) ?_
    exact⟨_,rfl,tail True _ _ _ s5⟩
   ·have hlt:=(aGs hx).1
    refine ah.yes (ltS hlt) ?_
    refine ab.mk _ (kl hs hx) ?_
    refine ab.mk _ (N4.trans (by rw [hxs])) ?_
    refine ah.yes (ltS hlt) ?_
    refine ab.mk _ (kl hs hx) ?_
    refine ab.mkB jJ (fun he=>?_) (fun he=>?_)
    ·have he' : x=s:=by simpa using he
     subst he'
     refine⟨_,rfl,sz,_,l,_,rfl,hs,by omega,fun y=>⟨.inl,fun h=>h.elim id (fun e=>by rw [e];exact aMg hx)⟩⟩
    ·refine ab.mk _ h1 ?_
     refine cN.mk _ _ (h2 _ _ rfl) ?_
     refine ab.mk _ (bsS _) ?_
     refine cN.mk _ _ (h3 _ _ rfl) ?_
     refine ab.mk _ h4 ?_
     refine cN.mk _ _ (h5 _ _ rfl) ?_
     exact⟨_,rfl,tail True _ _ _ s5⟩
 obtain⟨q,h1,sz',tok,rows,S',rfl,h2,h3,h4⟩:=h
 obtain⟨b',h5⟩:=BD (S:=S) h1 (by simp only [Ds,nz,aq]) rfl (by cases b<;>rfl)
 exact⟨sz',b',rows,h5,h2,h3,h4⟩
def K4 (w:Nat) (l more:List (List UInt8)) (q:V×St):Prop:=
 ∃sz tok rows S',q=(.list sz tok 0 (rows.map aQ),S')∧SzS sz rows∧rows.length≤l.length + w∧∀x,x∈rows↔x∈l∨x∈more
theorem K5 {ts:List Tm} {j:Nat} {y:Tm} (h:ts[j]?=some y):wts (ts.take (j + 1))=wts (ts.take j) + (1 + wt y)∧wts (ts.take (j + 1))≤wts ts:=by
 induction ts generalizing j with
 | nil=>simp at h
 | cons t ts ih=>
  cases j with
  | zero=>
   simp at h;subst h
   simp only [List.take_succ_cons,List.take_zero,wts]
   omega
  | succ j=>
   obtain⟨h1,h2⟩:=ih (j:=j) (by simpa using h)
   simp only [List.take_succ_cons,wts]
   omega
theorem h38:∀(w n:Nat) (x:Tm) (l:List (List UInt8)) (sz:Nat) (b:Bool) (S:St),wt x≤w→SzS sz l→l.length + 2 * wt x + 5≤n→l.length + wt x≤100000000→
 ∃sz' b' rows,RN n (.f 38) [.list sz (av b) 0 (l.map aQ),aH x] S=some (.list sz' (av b') 0 (rows.map aQ),S)∧SzS sz' rows∧rows.length≤l.length + wt x∧∀s,s∈rows↔s∈l∨s∈nmT x
 | 0,n,x,l,sz,b,S,hw,_,_,_=>by rw [cr] at hw;omega
 | w + 1,n,x,l,sz,b,S,hw,hs,hn,hl=>by
  obtain⟨k,rfl⟩:=up (show 1≤n by omega)
  have hwe:=cr x
  have hlen:=hV x.ts
  have h:∃q,frame Tryz.cfg (RN k) k 38 [.list sz (av b) 0 (l.map aQ),aH x] St.empty=some q∧K4 (wt x) l (nmT x) q:=by
   refine aV (fn:=Tryz.f38) (p:=K4 (wt x) l (nmT x)) rfl rfl ?_
   have rounds:∀(K:Ex→Env→St→Prop) (l1:List (List UInt8)) (sz1:Nat) (b1:Bool),SzS sz1 l1→l1.length≤l.length + 1→(∀s,s∈l1↔s∈l∨(s=x.s∧x.s≠[]))→
    (∀(sz2:Nat) (b2:Bool) (l2:List (List UInt8)),SzS sz2 l2→l2.length≤l.length + wt x→(∀s,s∈l2↔s∈l∨s∈nmT x)→K (.exit 0) { nt:=28,tmps:=[(0,.list sz2 (av b2) 0 (l2.map aQ)),(3,.ptr (.loc 3) 0),(5,.int .i64 (.ofNat x.ts.length)),(17,.bool false)],locs:=[(3,aC x)],fix:=[] } St.empty)→
    aB (iter (evalCode Tryz.cfg (RN k) k 38 (Tryz.cfg.fc 38) (jr Tryz.f38 0)) k { nt:=28,tmps:=[(0,.list sz1 (av b1) 0 (l1.map aQ)),(3,.ptr (.loc 3) 0),(5,.int .i64 (.ofNat 0))],locs:=[(3,aC x)],fix:=[] } St.empty) K:=by
    intro K l1 sz1 b1 hs1 hl1 hm1 hK
    refine aB.loop 28 (σ:=List (List UInt8)×Nat×Bool) x.ts.length (fun j s=>{ nt:=28,tmps:=[(0,.list s.2.1 (av s.2.2) 0 (s.1.map aQ)),(3,.ptr (.loc 3) 0),(5,.int .i64 (.ofNat j))],locs:=[(3,aC x)],fix:=[] }) (fun _ _=>St.empty)
     (fun j s=>SzS s.2.1 s.1∧s.1.length≤l1.length + wts (x.ts.take j)∧∀z,z∈s.1↔z∈l1∨∃t∈x.ts.take j,z∈nmT t) (l1,sz1,b1) (by omega) ⟨hs1,Nat.le_add_right _ _,fun z=>by simp⟩ ?_ ?_
    ·rintro j ⟨m,z,c⟩ hj ⟨(q1:SzS z m),(q2:m.length≤_),(q3:∀z,z∈m↔_)⟩
     obtain⟨y,hy⟩ : ∃y,x.ts[j]?=some y:=⟨_,aGe hj⟩
     have hym:=aMg hy
     have hyw:=cz hym
     obtain⟨e1,e2⟩:=K5 hy
     obtain⟨z',c',m',r1,r2,r3,r4⟩:=h38 w k y m z c St.empty (by omega) q1 (by omega) (by omega)
     refine ah.yes (gE hj) ?_
     refine ab.mk _ (bJ hy) ?_
     refine ag.mk _ _ r1 ?_
     refine ab.mk _ (az (by omega)) ?_
     refine⟨(m',z',c'),⟨r2,by show m'.length≤_;omega,fun q=>?_⟩,rfl,rfl⟩
     show q∈m'↔_
     rw [r4,q3,List.take_add_one,hy]
     simp only [Option.toList_some,List.mem_append,List.mem_singleton]
     constructor
     ·rintro ((h | ⟨t,h1,h2⟩) | h)
      ·exact .inl h
      ·exact .inr ⟨t,.inl h1,h2⟩
      ·exact .inr ⟨y,.inr rfl,h⟩
     ·rintro (h | ⟨t,h1 | rfl,h2⟩)
      ·exact .inl (.inl h)
      ·exact .inl (.inr ⟨t,h1,h2⟩)
      ·exact .inr h2
    ·rintro⟨m,z,c⟩ ⟨(q1:SzS z m),(q2:m.length≤_),(q3:∀z,z∈m↔_)⟩
     rw [List.take_length] at q2 q3
     refine ah.no (gG (by omega)) ?_
     refine hK z c m q1 (by omega) fun q=>?_
     rw [q3,hm1,vF]
     constructor
     ·rintro ((h | h) | h)
      ·exact .inl h
      ·exact .inr (.inl h)
      ·exact .inr (.inr h)
     ·rintro (h | h | h)
      ·exact .inl (.inl h)
      ·exact .inl (.inr h)
      ·exact .inr h
   refine ab.mkB re (fun h2=>?_) (fun h2=>?_)
   ·have h2' : x.s≠[]:=by simpa using h2
    obtain⟨z',c',m',r1,r2,r3,r4⟩:=h86 (n:=k) (s:=x.s) (b:=b) (S:=St.empty) hs (by omega) (by omega)
    refine ag.mk _ _ r1 ?_
    refine rounds _ m' z' c' r2 r3 (fun s=>by rw [r4];exact⟨fun h=>h.imp id (fun h=>⟨h,h2'⟩),fun h=>h.imp id (fun h=>h.1)⟩) fun sz2 b2 l2 t1 t2 t3=>?_
    exact⟨_,rfl,_,_,_,_,rfl,t1,t2,t3⟩
   ·have h2' : x.s=[]:=by simpa using h2
    refine rounds _ l sz b hs (by omega) (fun s=>⟨.inl,fun h=>h.elim id (fun h=>absurd h2' h.2)⟩) fun sz2 b2 l2 t1 t2 t3=>?_
    exact⟨_,rfl,_,_,_,_,rfl,t1,t2,t3⟩
  obtain⟨q,h1,sz',tok,rows,S',rfl,h2,h3,h4⟩:=h
  obtain⟨b',h5⟩:=BD (S:=S) h1 (by simp only [Ds,br,aq]) rfl (by cases b<;>rfl)
  exact⟨sz',b',rows,h5,h2,h3,h4⟩
theorem h11 {n:Nat} {x:Tm} {S:St} (hn:2 * wt x + 7≤n) (hw:wt x≤100000000) :
 ∃sz' b' rows,RN n (.f 11) [aH x] S=some (.list sz' (av b') 0 (rows.map aQ),S)∧SzS sz' rows∧rows.length≤wt x∧∀s,s∈rows↔s∈nmT x:=by
 obtain⟨k,rfl⟩:=up (show 1≤n by omega)
 obtain⟨sz',b',rows,h1,h2,h3,h4⟩:=h38 (wt x) k x [] 0 true St.empty (Nat.le_refl _) (.inl rfl) (by rw [List.length_nil];omega) (by rw [List.length_nil];omega)
 have h:∃q,frame Tryz.cfg (RN k) k 11 [aH x] St.empty=some q∧q=(.list sz' (av b') 0 (rows.map aQ),St.empty):=by
  refine aV (fn:=Tryz.f11) (p:=fun q=>q=(.list sz' (av b') 0 (rows.map aQ),St.empty)) rfl rfl ?_
  refine ag.mk _ _ h1 ?_
  exact⟨_,rfl,rfl⟩
 obtain⟨q,k1,rfl⟩:=h
 obtain⟨b2,h5⟩:=BD (S:=S) k1 (by simp only [br,aq]) rfl rfl
 exact⟨sz',b2,rows,h5,h2,by simpa using h3,fun s=>by rw [h4];simp⟩
mutual
def Cl (K:List (List UInt8)) (a:Int):Tm→Prop
 | .mk k n s fa fb fc fd ls ts=>(s=[]∨s∈K)∧(iEq k 2=true→n < a)∧Cls K a k 0 ts
def Cls (K:List (List UInt8)) (a k:Int) (i:Nat):List Tm→Prop
 | []=>True
 | t::ts=>Cl K (a + aY k (.ofNat i)) t∧Cls K a k (i + 1) ts
end
theorem Hj (K:List (List UInt8)) (a k:Int):∀(ts:List Tm) (i:Nat),Cls K a k i ts↔∀j y,ts[j]?=some y→Cl K (a + aY k (.ofNat (i + j))) y
 | [],i=>by rw [Cls];simp
 | t::ts,i=>by
  rw [Cls,Hj K a k ts (i + 1)]
  constructor
  ·rintro⟨h1,h2⟩ j y hj
   cases j with
   | zero=>simp at hj;subst hj;exact h1
   | succ j=>have:=h2 j y (by simpa using hj);rwa [show i + 1 + j=i + (j + 1) by omega] at this
  ·intro h
   refine⟨h 0 t (by simp),fun j y hj=>?_⟩
   have:=h (j + 1) y (by simpa using hj)
   rwa [show i + (j + 1)=i + 1 + j by omega] at this
theorem jE (K:List (List UInt8)) (a:Int) (x:Tm):Cl K a x↔(x.s=[]∨x.s∈K)∧(iEq x.k 2=true→x.n < a)∧∀j y,x.ts[j]?=some y→Cl K (a + aY x.k (.ofNat j)) y:=by
 cases x with
 | mk k n s fa fb fc fd ls ts=>
  rw [Cl,Hj]
  simp only [Nat.zero_add]
  exact Iff.rfl
theorem Cl.mono {K:List (List UInt8)}:∀(w:Nat) (x:Tm) {a b:Int},wt x≤w→a≤b→Cl K a x→Cl K b x
 | 0,x,_,_,hw,_,_=>by rw [cr] at hw;omega
 | w + 1,x,a,b,hw,h,hx=>by
  obtain⟨h1,h2,h3⟩:=(jE K a x).1 hx
  exact (jE K b x).2 ⟨h1,fun hk=>by have:=h2 hk;omega,fun j y hy=>Cl.mono w y (by have:=cz (aMg hy);omega) (by omega) (h3 j y hy)⟩
theorem Cl.vars {K:List (List UInt8)}:∀(w:Nat) (x:Tm) {a c:Int},wt x≤w→Cl K a x→(a + wt x≤c)→eC c x
 | 0,x,_,_,hw,_,_=>by rw [cr] at hw;omega
 | w + 1,x,a,c,hw,hx,hc=>by
  obtain⟨h1,h2,h3⟩:=(jE K a x).1 hx
  refine (fA c x).2 ⟨fun hk=>by have:=h2 hk;omega,fun y hy=>?_⟩
  obtain⟨j,hj⟩:=List.mem_iff_getElem?.1 hy
  have hyw:=cz hy
  exact Cl.vars w y (by omega) (h3 j y hj) (by rcases lH x.k (.ofNat j) with h | h<;>omega)
theorem Cl.names {K:List (List UInt8)}:∀(w:Nat) (x:Tm) {a:Int},wt x≤w→Cl K a x→∀s∈nmT x,s∈K
 | 0,x,_,hw,_,_,_=>by rw [cr] at hw;omega
 | w + 1,x,a,hw,hx,s,hs=>by
  obtain⟨h1,h2,h3⟩:=(jE K a x).1 hx
  rcases vF.1 hs with⟨rfl,h⟩ | ⟨t,ht,h⟩
  ·exact h1.resolve_left h
  ·obtain⟨j,hj⟩:=List.mem_iff_getElem?.1 ht
   exact Cl.names w t (by have:=cz ht;omega) (h3 j t hj) s h
theorem Hk {a b:Int} (ha:a≤0) (hb:b≤0):mxI a b≤0:=by unfold mxI;split<;>omega
theorem zZ (k:Int):∀(ts:List Tm) (i:Nat) (aa acc:Int),acc≤0→(∀(j:Nat) (t:Tm),ts[j]?=some t→fS t (dv aa (aY k (.ofNat (i + j))))≤0)→im k ts i aa acc≤0
 | [],i,aa,acc,h,_=>by rw [im];exact h
 | t::ts,i,aa,acc,h,hj=>by
  rw [mI]
  refine zZ k ts (i + 1) aa _ (Hk h (hj 0 t (by simp))) fun j u hu=>?_
  have:=hj (j + 1) u (by simpa using hu)
  rwa [show i + (j + 1)=i + 1 + j by omega] at this
theorem K6 {a:Int} {k i:Int} (h0:0≤a) (h1:a≤1000000):dv a (aY k i)=a + aY k i:=by
 have hb:=lH k i
 exact ec (by rcases hb with h | h<;>omega) (by rcases hb with h | h<;>omega)
theorem Cl.free {K:List (List UInt8)} {x:Tm} (hm:cM x=true) (hx:Cl K 0 x):fS x 0≤0:=by
 obtain⟨r,hr⟩:=kH hm
 refine pR (P:=fun x d=>∀aa:Int,0≤aa→aa + d≤1000000→Cl K aa x→fS x aa≤0) (fun x d hp ih aa h0 hd hc=>?_) x hr 0 (by omega) (by omega) hx
 obtain⟨c1,c2,c3⟩:=(jE K aa x).1 hc
 rw [nu]
 cases hk:iEq x.k 2 with
 | true=>
  simp only [cond_true]
  obtain⟨n0,n1⟩:=ny hp hk
  have e1:dv x.n 1=x.n + 1:=ec (by omega) (by omega)
  rw [e1]
  have e2:sQ (x.n + 1) aa=x.n + 1 - aa:=ec (by omega) (by omega)
  rw [e2]
  have:=c2 hk
  exact Hk (Int.le_refl _) (by omega)
 | false=>
  simp only [cond_false]
  refine zZ _ _ _ _ _ (Int.le_refl _) fun j t hj=>?_
  rw [Nat.zero_add,K6 h0 (by omega)]
  have hb:=lH x.k (.ofNat j)
  exact ih t (aMg hj) _ (by rcases hb with h | h<;>omega) (by rcases hb with h | h<;>omega) (c3 j t hj)
theorem Cl.of {K:List (List UInt8)} {x:Tm} (h:gC x=true) (hK:∀s∈nmT x,s∈K):Cl K 0 x:=by
 unfold gC at h
 simp only [Bool.and_eq_true] at h
 obtain⟨r,hr⟩:=kH h.1
 have hf:fS x 0≤0:=by
  have:=h.2
  rw [cb] at this
  simp only [Bool.not_eq_true',decide_eq_false_iff_not] at this
  omega
 refine pR (P:=fun x d=>∀aa:Int,0≤aa→aa + d≤1000000→fS x aa≤0→(∀s∈nmT x,s∈K)→Cl K aa x) (fun x d hp ih aa h0 hd hfr hK=>?_) x hr 0 (by omega) (by omega) hf hK
 rw [nu] at hfr
 refine (jE _ _ x).2 ⟨?_,fun hk=>?_,fun j y hj=>?_⟩
 ·by_cases hs:x.s=[]
  ·exact .inl hs
  ·exact .inr (hK _ (vF.2 (.inl ⟨rfl,hs⟩)))
 ·rw [hk] at hfr
  simp only [cond_true] at hfr
  obtain⟨n0,n1⟩:=ny hp hk
  have e1:dv x.n 1=x.n + 1:=ec (by omega) (by omega)
  rw [e1] at hfr
  have e2:sQ (x.n + 1) aa=x.n + 1 - aa:=ec (by omega) (by omega)
  rw [e2] at hfr
  have:=@Fp 0 (x.n + 1 - aa)
  omega
 ·have hy:=aMg hj
  have hk:iEq x.k 2=false:=by
   cases hk:iEq x.k 2 with
   | false=>rfl
   | true=>rw [lI hp hk] at hy;cases hy
  rw [hk] at hfr
  simp only [cond_false] at hfr
  have h3:=(qD x.k x.ts 0 aa 0).2 j y hj
  rw [Nat.zero_add,K6 h0 (by omega)] at h3
  have hb:=lH x.k (.ofNat j)
  exact ih y hy _ (by rcases hb with h | h<;>omega) (by rcases hb with h | h<;>omega) (by omega) fun s hs=>hK s (vF.2 (.inr ⟨y,hy,hs⟩))
theorem K7 {k:Int} (h:k=5∨k=6):aY k (.ofNat 0)=0∧aY k (.ofNat 1)=1∧iEq k 2=false:=by rcases h with rfl | rfl<;>exact⟨rfl,rfl,rfl⟩
section
variable {K:List (List UInt8)}
theorem Nf {k a:Int} {x t:Tm} (hk:k=5∨k=6) (hx:Cl K a x) (ht:Cl K (a + 1) t):Cl K a (xu k x t):=by
 obtain⟨b0,b1,b2⟩:=K7 hk
 refine (jE _ _ _).2 ⟨.inl rfl,fun h=>?_,fun j y hj=>?_⟩
 ·have:iEq k 2=true:=h
  rw [b2] at this;cases this
 ·have hj' : [x,t][j]?=some y:=hj
  show Cl K (a + aY k (.ofNat j)) y
  match j,hj' with
  | 0,h=>cases h;rw [b0];simpa using hx
  | 1,h=>cases h;rw [b1];exact ht
theorem Hl {k:Int} (hk:k=5∨k=6):∀{xs:List Tm} {t:Tm} {a:Int},(∀j y,xs[j]?=some y→Cl K (a + (j:Nat)) y)→Cl K (a + (xs.length:Nat)) t→Cl K a (fC k xs t)
 | [],t,a,_,ht=>by show Cl K a t;simpa using ht
 | x::xs,t,a,hx,ht=>by
  refine Nf hk (by have:=hx 0 x (by simp);simpa using this) (Hl hk (fun j y hj=>?_) ?_)
  ·have:=hx (j + 1) y (by simpa using hj)
   rwa [show a + ((j + 1:Nat):Int)=a + 1 + (j:Nat) by omega] at this
  ·rw [aLc] at ht
   rwa [show a + ((xs.length + 1:Nat):Int)=a + 1 + (xs.length:Nat) by omega] at ht
theorem z7 (j:Nat):aY 4 (.ofNat j)=0:=by
 unfold aY
 simp only [show iEq 4 5=false from rfl,show iEq 4 6=false from rfl,show iEq 4 7=false from rfl,Bool.false_or,Bool.false_and,cond_false]
theorem FN {a:Int} {f x:Tm} (hf:Cl K a f) (hx:Cl K a x):Cl K a (pS f x):=by
 refine (jE _ _ _).2 ⟨.inl rfl,(fun h=>by cases (show iEq 4 2=true from h)),fun j y hj=>?_⟩
 have hj' : [f,x][j]?=some y:=hj
 show Cl K (a + aY 4 (.ofNat j)) y
 rw [z7,Int.add_zero]
 match j,hj' with
 | 0,h=>cases h;exact hf
 | 1,h=>cases h;exact hx
theorem gV {a:Int}:∀{xs:List Tm} {f:Tm},Cl K a f→(∀x∈xs,Cl K a x)→Cl K a (eH f xs)
 | [],f,hf,_=>hf
 | x::xs,f,hf,h=>gV (xs:=xs) (FN hf (h x aMs)) (fun y hy=>h y (aMt _ hy))
theorem tB {a:Int} {x:Tm} (hs:x.s=[]∨x.s∈K) (hk:iEq x.k 2=true→x.n < a) (ht:x.ts=[]):Cl K a x:=
 (jE _ _ _).2 ⟨hs,hk,fun j y hj=>by rw [ht] at hj;simp at hj⟩
theorem jF {p:Nat} {r:Int}:Cl K r (ch (.ofNat p) r):=tB (.inl rfl) (fun _=>by show r - 1 - Int.ofNat p < r;simp only [aOn];omega) rfl
theorem qh {f n:Nat} {r:Int}:∀x∈eK f n r,Cl K r x:=fun x hx=>by
 unfold eK at hx
 obtain⟨i,_,rfl⟩:=List.mem_map.1 hx
 exact jF
theorem Ng {a:Int}:Cl K a zTm:=tB (.inl rfl) (fun h=>by cases (show iEq 0 2=true from h)) rfl
theorem DW {a:Int} {s:List UInt8} {f g:Bool} {ls:List Lv} (hs:s∈K):Cl K a (pU s f g ls):=tB (.inr hs) (fun h=>by cases (show iEq 3 2=true from h)) rfl
theorem Nh {a:Int} {u:Lv}:Cl K a (GP u):=tB (.inl rfl) (fun h=>by cases (show iEq 1 2=true from h)) rfl
structure Cg (K:List (List UInt8)) (a:Int) (t:Tm):Prop where
 all:dG t
 cl:Cl K a t
theorem Ni (x:Tm) (n:Int):(x.xk n).s=x.s:=by cases x;rfl
theorem Hm {b:Int} (hb:0≤b) (hb2:b≤1000000):∀(w:Nat) (x:Tm) {a:Int},wt x≤w→dG x→Cl K a x→∀f,Cl K (a + b) (a8 x f b)
 | 0,x,_,hw,_,_,_=>by rw [cr] at hw;omega
 | w + 1,x,a,hw,hx,hc,f=>by
  obtain⟨h1,h2⟩:=(bX x).1 hx
  obtain⟨c1,c2,c3⟩:=(jE K a x).1 hc
  cases hk:iEq x.k 2 with
  | true=>
   obtain⟨n0,n1⟩:=ny h1 hk
   have hn:=c2 hk
   have hts:x.ts=[]:=lI h1 hk
   rw [nC hk]
   cases hq:(!iLt x.n f) with
   | false=>exact Cl.mono _ x (Nat.le_refl _) (by omega) hc
   | true=>
    simp only [cond_true]
    have e:dv x.n b=x.n + b:=ec (by omega) (by omega)
    rw [e]
    exact tB (by rw [Ni];exact c1) (fun _=>by rw [vt];omega) (by rw [sY];exact hts)
  | false=>
   rw [jZ hk]
   refine (jE _ _ _).2 ⟨by rw [G9];exact c1,(fun h=>by rw [ot,hk] at h;cases h),fun j y hj=>?_⟩
   rw [nD] at hj
   rw [ot]
   rw [List.getElem?_map,List.getElem?_zipIdx] at hj
   cases hxj:x.ts[j]? with
   | none=>rw [hxj] at hj;cases hj
   | some t=>
    rw [hxj] at hj
    simp only [Option.map_some,Nat.zero_add,Option.some.injEq] at hj
    subst hj
    have ht:=aMg hxj
    have:=Hm hb hb2 w t (by have:=cz ht;omega) (h2 t ht) (c3 j t hxj) (dv f (aY x.k (.ofNat j)))
    rwa [show a + aY x.k (.ofNat j) + b=a + b + aY x.k (.ofNat j) by omega] at this
structure Cq (K:List (List UInt8)) (W:Nat) (c a:Int) (t:Tm):Prop where
 gd:Gd W c t
 cl:Cl K a t
variable {W:Nat} {c:Int}
theorem Cq.lift {b a:Int} {t:Tm} (h:Cq K W c a t) (hb:0≤b) (hb2:b≤1000000) (hcb:c + b≤1048576) (f:Int):Cq K W (c + b) (a + b) (a8 t f b):=
 ⟨h.gd.lift hb hcb f,Hm hb hb2 _ t (Nat.le_refl _) h.gd.all h.cl f⟩
theorem Cq.mono {a b e:Int} {t:Tm} (h:Cq K W c a t) (hc:c≤e) (hab:a≤b):Cq K W e b t:=⟨h.gd.mono hc,Cl.mono _ t (Nat.le_refl _) hab h.cl⟩
theorem K8 {a:Int} {x t y:Tm} (hk:x.k=6) (ht:x.ts=[t,y]) (h:Cl K a x):Cl K a t∧Cl K (a + 1) y:=by
 obtain⟨_,_,c3⟩:=(jE K a x).1 h
 have h0:=c3 0 t (by rw [ht];rfl)
 have h1:=c3 1 y (by rw [ht];rfl)
 rw [hk] at h0 h1
 rw [show aY 6 (.ofNat 0)=0 from rfl,Int.add_zero] at h0
 exact⟨h0,h1⟩
theorem Cq.pis:∀(w:Nat) (t:Tm) {a:Int},wt t≤w→Cq K W c a t→(∀j y,(ak t).1[j]?=some y→Cq K W c (a + (j:Nat)) y)∧Cq K W c (a + ((ak t).1.length:Nat)) (ak t).2
 | 0,t,_,hw,_=>by rw [cr] at hw;omega
 | w + 1,t,a,hw,h=>by
  cases hk:iEq t.k 6 with
  | false=>rw [lu hk];exact⟨fun j y hj=>by simp at hj,by simpa using h⟩
  | true=>
   obtain⟨x,b,ht⟩:=eO ((bX t).1 h.gd.all).1 (mL hk)
   rw [kj hk ht]
   have hb:=h.gd.kid (y:=b) (by rw [ht];simp)
   have hx:=h.gd.kid (y:=x) (by rw [ht];simp)
   rw [bp,decide_eq_true_eq] at hk
   obtain⟨q1,q2⟩:=K8 hk ht h.cl
   obtain⟨k1,k2⟩:=Cq.pis w b (by have:=cz (x:=b) (y:=t) (by rw [ht];simp);omega) ⟨hb,q2⟩
   refine⟨fun j y hj=>?_,?_⟩
   ·cases j with
    | zero=>simp at hj;subst hj;simpa using (⟨hx,q1⟩ : Cq K W c a x)
    | succ j=>
     have:=k1 j y (by simpa using hj)
     rwa [show a + 1 + (j:Nat)=a + ((j + 1:Nat):Int) by omega] at this
   ·rw [aLc]
    rwa [show a + 1 + ((ak b).1.length:Nat)=a + (((ak b).1.length + 1:Nat):Int) by omega] at k2
theorem Cq.spine:∀(w:Nat) (t:Tm) {a:Int},wt t≤w→Cq K W c a t→Cq K W c a (aD t).1∧∀y∈(aD t).2,Cq K W c a y
 | 0,t,_,hw,_=>by rw [cr] at hw;omega
 | w + 1,t,a,hw,h=>by
  cases hk:iEq t.k 4 with
  | false=>rw [hZ hk];exact⟨h,by simp⟩
  | true=>
   obtain⟨f,x,ht⟩:=eO ((bX t).1 h.gd.all).1 (l9 hk)
   rw [gf hk ht]
   have hf:=h.gd.kid (y:=f) (by rw [ht];simp)
   have hx:=h.gd.kid (y:=x) (by rw [ht];simp)
   obtain⟨_,_,c3⟩:=(jE K a t).1 h.cl
   rw [bp,decide_eq_true_eq] at hk
   have h0:=c3 0 f (by rw [ht];rfl)
   have h1:=c3 1 x (by rw [ht];rfl)
   rw [hk,z7,Int.add_zero] at h0 h1
   obtain⟨k1,k2⟩:=Cq.spine w f (by have:=cz (x:=f) (y:=t) (by rw [ht];simp);omega) ⟨hf,h0⟩
   refine⟨k1,fun y hy=>?_⟩
   rcases List.mem_append.1 hy with hy | hy
   ·exact k2 y hy
   ·rw [List.mem_singleton.1 hy];exact⟨hx,h1⟩
theorem Cq.drop {a:Int} {x:Tm} (hx:Cq K W c a x):∀(n:Nat),n≤(ak x).1.length→Cq K W c (a + (n:Nat)) (eh n x)
 | 0,_=>by show Cq K W c (a + ((0:Nat):Int)) x;simpa using hx
 | n + 1,hn=>by
  have h:=j0 hx.gd.all n (by omega)
  obtain⟨hk,y,b,ht,h'⟩:=h.next (by omega)
  have e:eh (n + 1) x=b:=by
   show ((eh n x).ts[1]?).getD zTm=b
   rw [ht];rfl
  rw [e]
  have hd:=Cq.drop hx n (by omega)
  rw [bp,decide_eq_true_eq] at hk
  have:=(K8 hk ht hd.cl).2
  refine⟨hd.gd.kid (by rw [ht];simp),?_⟩
  rwa [show a + (n:Nat) + 1=a + ((n + 1:Nat):Int) by omega] at this
end
section
variable {K:List (List UInt8)}
def Rw (K:List (List UInt8)) (a:Int) (xs:List Tm):Prop:=∀j y,xs[j]?=some y→Cl K (a + (j:Nat)) y
theorem Rw.nil {a:Int}:Rw K a []:=fun j y h=>by simp at h
theorem Rw.one {a:Int} {y:Tm} (h:Cl K a y):Rw K a [y]:=fun j z hj=>by
 cases j with
 | zero=>simp at hj;subst hj;simpa using h
 | succ j=>simp at hj
theorem Rw.cons {a:Int} {y:Tm} {l:List Tm} (h:Cl K a y) (hl:Rw K (a + 1) l):Rw K a (y::l):=fun j z hj=>by
 cases j with
 | zero=>simp at hj;subst hj;simpa using h
 | succ j=>
  have:=hl j z (by simpa using hj)
  rwa [show a + 1 + (j:Nat)=a + ((j + 1:Nat):Int) by omega] at this
theorem Rw.app {a:Int} {l m:List Tm} (h1:Rw K a l) (h2:Rw K (a + (l.length:Nat)) m):Rw K a (l++m):=fun j y hj=>by
 by_cases h:j < l.length
 ·rw [List.getElem?_append_left h] at hj;exact h1 j y hj
 ·rw [List.getElem?_append_right (by omega)] at hj
  have:=h2 _ y hj
  rwa [show a + (l.length:Nat) + ((j - l.length:Nat):Int)=a + (j:Nat) by omega] at this
theorem nH {k:Int} (hk:k=5∨k=6) {xs:List Tm} {t:Tm} {a:Int} (h:Rw K a xs) (ht:Cl K (a + (xs.length:Nat)) t):Cl K a (fC k xs t):=Hl hk h ht
structure KOk (d:Dl) (K:List (List UInt8)):Prop where
 ty:∀i∈d.ai,Cq K 4000000 4096 0 i.ty∧∀c∈i.cs,Cq K 4000000 4096 0 c.ty
 nm:∀i∈d.ai,i.name∈K∧i.name++cI∈K∧∀c∈i.cs,c.name∈K
variable {d:Dl} {sh:List Sh} {m:Nat} {u:Lv} {fx p:Nat}
theorem qJ {t:Tm} {aa:Nat} (ht:Cq K 4000000 4096 0 t) (hf:fx≤(ak t).1.length) (h1:fx≤aa) (h2:aa≤100000) :
 (∀j y,(aI fx t aa).1[j]?=some y→Cq K 4000000 200000 (.ofNat aa + (j:Nat)) y)∧Cq K 4000000 200000 (.ofNat aa + ((aI fx t aa).1.length:Nat)) (aI fx t aa).2:=by
 have h:=(ht.drop fx hf).lift (b:=.ofNat aa - .ofNat fx) (by simp only [aOn];omega) (by simp only [aOn];omega) (by simp only [aOn];omega) 0
 have h2:=h.mono (e:=200000) (b:=.ofNat aa) (by simp only [aOn];omega) (by simp only [aOn];omega)
 exact Cq.pis _ _ (Nat.le_refl _) h2
theorem vG {name:List UInt8} {aa:Nat} {l:List Tm} (hs:name∈K) (hl:∀x∈l,Cl K (.ofNat aa) x):Cl K (.ofNat aa) (iW fx p name aa l):=by
 unfold iW
 exact gV (gV (DW hs) qh) hl
theorem Iz {x:In} {aa:Nat} (hs:x.name∈K) (ht:Cq K 4000000 4096 0 x.ty) (hf:fx≤(ak x.ty).1.length) (h1:fx≤aa) (h2:aa≤100000):Cl K (.ofNat aa) (iF fx p u x aa):=by
 unfold iF
 obtain⟨b1,b2⟩:=qJ ht hf h1 h2
 refine nH (.inr rfl) (Rw.app (fun j y hj=>(b1 j y hj).cl) (Rw.one ?_)) Nh
 have:=vG (K:=K) (fx:=fx) (p:=p) (aa:=aa + (aI fx x.ty aa).1.length) hs (qh (f:=aa) (n:=(aI fx x.ty aa).1.length))
 rwa [show Int.ofNat aa + ((aI fx x.ty aa).1.length:Nat)=Int.ofNat (aa + (aI fx x.ty aa).1.length) by simp]
theorem Nj {c a aa:Int} {t:Tm} (ht:Cq K 4000000 c a t):∀y∈(cD d fx t aa).2,Cl K a y:=by
 intro y hy
 unfold cD at hy
 cases hb:dq d fx t aa with
 | false=>rw [hb] at hy;cases hy
 | true=>
  rw [hb] at hy
  exact ((Cq.spine _ t (Nat.le_refl _) ht).2 y (List.mem_of_mem_drop hy)).cl
theorem K9 {k:Int} (hk:k=5∨k=6) {t:Tm} {f aa:Nat} {c:Int} (hK:KOk d K) (ht:Cq K 4000000 c (.ofNat aa) t):Cl K (.ofNat aa) (mY d fx p u m k t f aa):=by
 unfold mY
 split
 ·exact Ng
 ·rename_i h0
  obtain⟨p1,p2⟩:=Cq.pis _ t (Nat.le_refl _) ht
  have e:Int.ofNat aa + ((ak t).1.length:Nat)=Int.ofNat (aa + (ak t).1.length):=by simp
  rw [e] at p2
  refine nH hk (fun j y hj=>(p1 j y hj).cl) ?_
  rw [e]
  refine gV (gV ?_ ?_) ?_
  ·unfold uX
   split
   ·exact jF
   ·unfold Kg
    refine gV (DW ?_) qh
    rcases xK d fx (ak t).2 (.ofNat (aa + (ak t).1.length)) with h | ⟨j,x,h,hx⟩
    ·rw [h] at h0;cases h0
    ·rw [h]
     unfold GY
     rw [show (Int.ofNat j).toNat=j from rfl,hx]
     exact (hK.nm x (aMg hx)).2.1
  ·exact Nj p2
  ·intro y hy
   rw [List.mem_singleton.1 hy]
   unfold itR
   exact gV jF qh
theorem BE {n aa:Nat} (hK:KOk d K) (hn:n≤1000):∀(l:List (Tm×(Int×Int))) (i h:Nat),(∀j q,l[j]?=some q→Cq K 4000000 200000 (.ofNat aa + ((i + j:Nat):Int)) q.1)→i + l.length≤n→h + l.length≤1000→
 Rw K (.ofNat (aa + n + h)) (fV d fx p u m n aa l i h)
 | [],i,h,_,_,_=>by rw [fV];exact Rw.nil
 | q::r,i,h,hq,hi,hl=>by
  rw [aLc] at hl hi
  have hr:∀j z,r[j]?=some z→Cq K 4000000 200000 (.ofNat aa + ((i + 1 + j:Nat):Int)) z.1:=fun j z hj=>by
   have:=hq (j + 1) z (by simpa using hj)
   rwa [show i + (j + 1)=i + 1 + j by omega] at this
  rw [fV]
  split
  ·have h0:=(hq 0 q (by simp)).lift (b:=.ofNat (n - i + h)) (by simp only [aOn];omega) (by simp only [aOn];omega) (by simp only [aOn];omega) 0
   rw [show Int.ofNat aa + ((i + 0:Nat):Int) + Int.ofNat (n - i + h)=Int.ofNat (aa + n + h) by simp only [aOn];omega] at h0
   refine Rw.cons (K9 (.inr rfl) hK h0) ?_
   have:=BE hK hn r (i + 1) (h + 1) hr (by omega) (by omega)
   rwa [show Int.ofNat (aa + n + (h + 1))=Int.ofNat (aa + n + h) + 1 by simp only [aOn];omega] at this
  ·exact BE hK hn r _ _ hr (by omega) (by omega)
theorem La {x:Nat} {c:Ct} {fs:List (Int×Int)} {aa:Nat} (hK:KOk d K) (hnm:c.name∈K) (ht:Cq K 4000000 4096 0 c.ty) (hf:fx≤(ak c.ty).1.length) (h12:(ak c.ty).1.length≤fx + 12) (h1:fx≤aa) (h2:aa≤100000):Cl K (.ofNat aa) (kV d fx p u m fs x c aa):=by
 unfold kV
 obtain⟨b1,b2⟩:=qJ ht hf h1 h2
 have hbn:=jA (aa:=aa) ht.gd (by omega) hf
 have hhl:=s7 d fx p u m (aI fx c.ty aa).1.length aa ((aI fx c.ty aa).1.zip fs) 0 0
 have hzl:((aI fx c.ty aa).1.zip fs).length≤(aI fx c.ty aa).1.length:=by rw [List.length_zip];exact Nat.min_le_left _ _
 have hR:=BE (p:=p) (u:=u) (m:=m) (fx:=fx) (n:=(aI fx c.ty aa).1.length) (aa:=aa) hK (by omega) ((aI fx c.ty aa).1.zip fs) 0 0 (fun j q hj=>by
  rw [Nat.zero_add]
  have:=(List.getElem?_zip_eq_some.1 hj).1
  exact b1 j q.1 this) (by omega) (by omega)
 simp only
 generalize hhs:fV d fx p u m (aI fx c.ty aa).1.length aa ((aI fx c.ty aa).1.zip fs) 0 0=hs at *
 have e1:Int.ofNat aa + ((aI fx c.ty aa).1.length:Nat)=Int.ofNat (aa + (aI fx c.ty aa).1.length + 0):=by simp
 have e2:Int.ofNat aa + (((aI fx c.ty aa).1++hs).length:Nat)=Int.ofNat (aa + (aI fx c.ty aa).1.length + hs.length):=by rw [aLa];simp only [aOn];omega
 have hE:=b2.lift (b:=.ofNat hs.length) (by simp only [aOn];omega) (by simp only [aOn];omega) (by simp only [aOn];omega) 0
 rw [show Int.ofNat aa + ((aI fx c.ty aa).1.length:Nat) + Int.ofNat hs.length=Int.ofNat (aa + (aI fx c.ty aa).1.length + hs.length) by simp only [aOn];omega] at hE
 refine nH (.inr rfl) (Rw.app (fun j y hj=>(b1 j y hj).cl) (by rw [e1];exact hR)) ?_
 rw [e2]
 refine gV (gV jF ?_) ?_
 ·intro y hy
  exact ((Cq.spine _ _ (Nat.le_refl _) hE).2 y (List.mem_of_mem_drop hy)).cl
 ·intro y hy
  rw [List.mem_singleton.1 hy]
  exact vG hnm qh
theorem Hn (hb:oF d sh fx p m) (hK:KOk d K):∀(l:List (In×Nat)) (base:Nat),(∀q∈l,d.ai[q.2]?=some q.1)→fx≤base→base + l.length * 20≤10000→Rw K (.ofNat base) (mj d sh fx p u m l base)
 | [],base,_,_,_=>by rw [mj];exact Rw.nil
 | q::r,base,hq,hf,hl=>by
  rw [aLc,Nat.add_mul] at hl
  have hx:=hq q aMs
  have hxm:=aMg hx
  have hcs:=hb.q.bk.nm.cs q.1 hxm
  rw [mj]
  refine Rw.app (fun j y hj=>?_) ?_
  ·unfold xL at hj
   rw [List.getElem?_map,List.getElem?_zipIdx] at hj
   cases hcj:q.1.cs[j]? with
   | none=>rw [hcj] at hj;cases hj
   | some c2=>
    rw [hcj] at hj
    simp only [Option.map_some,Nat.zero_add,Option.some.injEq] at hj
    subst hj
    have hc':=aMg hcj
    have hjl:=(aGs hcj).1
    obtain⟨_,s,_,_,hs2⟩:=hb.so.at_ q.2 q.1 hx
    obtain⟨fs,_,_,h12,_⟩:=hs2 j c2 hcj
    have:=La (fx:=fx) (p:=p) (u:=u) (m:=m) (x:=q.2) (fs:=fsR sh q.2 j) (aa:=base + j) hK ((hK.nm q.1 hxm).2.2 c2 hc') ((hK.ty q.1 hxm).2 c2 hc') ((hb.q.bk.gd q.1 hxm).2.2 c2 hc').2 h12 (by omega) (by omega)
    rwa [show Int.ofNat (base + j)=Int.ofNat base + (j:Nat) by simp] at this
  ·rw [uf]
   have:=Hn hb hK r (base + q.1.cs.length) (fun z hz=>hq z (aMt _ hz)) (by omega) (by omega)
   rwa [show Int.ofNat (base + q.1.cs.length)=Int.ofNat base + (q.1.cs.length:Nat) by simp] at this
theorem ym (hb:oF d sh fx p m) (hK:KOk d K):Rw K 0 (aU d sh fx p u m):=by
 have iB:=hb.q.bk.dl.few
 have p8:=hb.q.bk.f12
 have hz:∀q∈d.ai.zipIdx 0,d.ai[q.2]?=some q.1:=fun q hq=>by
  obtain⟨j,hj⟩:=List.mem_iff_getElem?.1 hq
  rw [List.getElem?_zipIdx] at hj
  cases hx:d.ai[j]? with
  | none=>rw [hx] at hj;cases hj
  | some x=>
   rw [hx] at hj
   simp at hj
   rw [← hj]
   exact hx
 have hfl:=qE hb.q.bk hb.h0
 have hml:(uY d fx p u).length=d.ai.length:=by unfold uY;simp
 unfold aU
 refine Rw.app (Rw.app (fun j y hj=>?_) (fun j y hj=>?_)) ?_
 ·unfold ow at hj
  have:=(Cq.pis _ _ (Nat.le_refl _) (hK.ty _ (aMg hb.h0)).1).1 j y (by
   rw [List.getElem?_take] at hj
   split at hj
   ·exact hj
   ·cases hj)
  exact this.cl
 ·rw [hfl]
  unfold uY at hj
  rw [List.getElem?_map,List.getElem?_zipIdx] at hj
  cases hx:d.ai[j]? with
  | none=>rw [hx] at hj;cases hj
  | some x=>
   rw [hx] at hj
   simp only [Option.map_some,Nat.zero_add,Option.some.injEq] at hj
   subst hj
   have hxm:=aMg hx
   have hjl:=(aGs hx).1
   have:=Iz (fx:=fx) (p:=p) (u:=u) (x:=x) (aa:=fx + j) (hK.nm x hxm).1 (hK.ty x hxm).1 (hb.q.bk.gd x hxm).2.1 (by omega) (by omega)
   rwa [show Int.ofNat (fx + j)=0 + (fx:Nat) + (j:Nat) by simp] at this
 ·have:=Hn (u:=u) hb hK (d.ai.zipIdx 0) (fx + d.ai.length) hz (by omega) (by rw [List.length_zipIdx];omega)
  rw [aLa,hfl,hml]
  rwa [show Int.ofNat (fx + d.ai.length)=0 + ((fx + d.ai.length:Nat):Int) by simp] at this
theorem Nk {x:Nat} {i:In} (hb:oF d sh fx p m) (hK:KOk d K) (hx:d.ai[x]?=some i):Cl K 0 (gJ d sh fx p u m x i):=by
 have hle:=ml (sh:=sh) (u:=u) (m:=m) hb.q.bk hb.h0
 have hfa:=nE (sh:=sh) (u:=u) (m:=m) hb.h0 hb.q.bk
 have hxm:=aMg hx
 have hA:=ym (u:=u) hb hK
 obtain⟨b1,b2⟩:=qJ (hK.ty i hxm).1 (hb.q.bk.gd i hxm).2.1 hfa (by omega)
 unfold gJ zE
 simp only
 generalize aU d sh fx p u m=A at *
 generalize aI fx i.ty A.length=B at *
 refine nH (.inr rfl) (Rw.app (Rw.app hA (fun j y hj=>?_)) (Rw.one ?_)) ?_
 ·have:=(b1 j y hj).cl
  rwa [show Int.ofNat A.length=0 + (A.length:Nat) by simp] at this
 ·rw [show 0 + ((A++B.1).length:Nat)=Int.ofNat (A++B.1).length by simp]
  exact vG (hK.nm i hxm).1 qh
 ·rw [show 0 + ((A++B.1++[iW fx p i.name (A++B.1).length (eK A.length B.1.length (.ofNat (A++B.1).length))]).length:Nat)=Int.ofNat ((A++B.1).length + 1) by simp only [aLa,aLc,List.length_nil,aOn];omega]
  refine gV jF fun y hy=>?_
  rcases List.mem_append.1 hy with hy | hy
  ·exact qh y hy
  ·rw [List.mem_singleton.1 hy];exact jF
theorem BF {n len deep:Nat} (hK:KOk d K) (hl:len≤1000) (hd:deep=n + len):∀(l:List (Tm×(Int×Int))) (i:Nat) (t:Tm),(∀j q,l[j]?=some q→Cq K 4000000 200000 (.ofNat n + ((i + j:Nat):Int)) q.1)→i + l.length≤len→Cl K (.ofNat deep) t→Cl K (.ofNat deep) (kK d fx p u m n len deep l i t)
 | [],i,t,_,_,ht=>by rw [kK];exact ht
 | q::r,i,t,hq,hi,ht=>by
  rw [aLc] at hi
  have hr:∀j z,r[j]?=some z→Cq K 4000000 200000 (.ofNat n + ((i + 1 + j:Nat):Int)) z.1:=fun j z hj=>by
   have:=hq (j + 1) z (by simpa using hj)
   rwa [show i + (j + 1)=i + 1 + j by omega] at this
  rw [kK]
  split
  ·have h0:=(hq 0 q (by simp)).lift (b:=.ofNat (len - i)) (by simp only [aOn];omega) (by simp only [aOn];omega) (by simp only [aOn];omega) 0
   rw [show Int.ofNat n + ((i + 0:Nat):Int) + Int.ofNat (len - i)=Int.ofNat deep by simp only [aOn];omega] at h0
   exact BF hK hl hd r _ _ hr (by omega) (FN ht (K9 (.inl rfl) hK h0))
  ·exact BF hK hl hd r _ _ hr (by omega) ht
theorem Nl {x ci:Nat} {i:In} {c:Ct} {fs:List (Int×Int)} (hb:oF d sh fx p m) (hK:KOk d K) (hx:d.ai[x]?=some i) (hc:c∈i.cs) (h12:(ak c.ty).1.length≤fx + 12):Cl K 0 (ld d sh fx p u m x ci c fs).2.2:=by
 have hle:=ml (sh:=sh) (u:=u) (m:=m) hb.q.bk hb.h0
 have hfa:=nE (sh:=sh) (u:=u) (m:=m) hb.h0 hb.q.bk
 have hxm:=aMg hx
 have hcm:=(hK.ty i hxm).2 c hc
 have hcf:=((hb.q.bk.gd i hxm).2.2 c hc).2
 have hA:=ym (u:=u) hb hK
 obtain⟨b1,b2⟩:=qJ hcm hcf hfa (by omega)
 have hbn:=jA (aa:=(aU d sh fx p u m).length) hcm.gd (by omega) hcf
 unfold ld
 simp only
 generalize aU d sh fx p u m=A at *
 generalize aI fx c.ty A.length=B at *
 refine nH (.inl rfl) (Rw.app hA (fun j y hj=>?_)) ?_
 ·have:=(b1 j y hj).cl
  rwa [show Int.ofNat A.length=0 + (A.length:Nat) by simp] at this
 ·rw [show 0 + ((A++B.1).length:Nat)=Int.ofNat (A.length + B.1.length) by rw [aLa];simp]
  refine BF hK (by omega) rfl _ _ _ (fun j q hj=>?_) (by rw [Nat.zero_add,List.length_zip];exact Nat.min_le_left _ _) (gV jF qh)
  rw [Nat.zero_add]
  exact b1 j q.1 (List.getElem?_zip_eq_some.1 hj).1
theorem Lb (hb:oF d sh fx p m) (hK:KOk d K):Cl K 0 (jB d sh fx p u m):=by
 have hn0:=(hK.nm (in0 d) (aMg hb.h0)).1
 have hA:=ym (u:=u) hb hK
 have hpr:∀k,Cl K (.ofNat ((aU d sh fx p u m).length + 1)) (mZ d sh fx p u m k):=by
  intro k
  unfold mZ
  induction k with
  | zero=>exact jF
  | succ k ih=>
   rw [List.range_succ,List.foldl_append]
   refine FN ih ((jE _ _ _).2 ⟨.inr hn0,(fun h=>by cases (show iEq 8 2=true from h)),fun j y hj=>?_⟩)
   have hj' : [ch (.ofNat (aU d sh fx p u m).length) (.ofNat ((aU d sh fx p u m).length + 1))][j]?=some y:=hj
   show Cl K (_ + aY 8 (.ofNat j)) y
   cases j with
   | zero=>
    simp at hj'
    subst hj'
    rw [show aY 8 (.ofNat 0)=0 from rfl,Int.add_zero]
    exact jF
   | succ j=>simp at hj'
 unfold jB qb
 refine nH (.inl rfl) (Rw.app hA (Rw.one ?_)) ?_
 ·rw [show 0 + ((aU d sh fx p u m).length:Nat)=Int.ofNat (aU d sh fx p u m).length by simp]
  exact vG hn0 (fun x hx=>by cases hx)
 ·rw [show 0 + ((aU d sh fx p u m++[iW fx p (in0 d).name (aU d sh fx p u m).length []]).length:Nat)=Int.ofNat ((aU d sh fx p u m).length + 1) by simp]
  exact hpr _
theorem Lc {x:Nat} {i:In} (hb:oF d sh fx p m) (hK:KOk d K) (hx:d.ai[x]?=some i):∀t∈dS d sh fx p u m x i,Cl K 0 t:=by
 intro t ht
 unfold dS at ht
 rcases List.mem_cons.1 ht with rfl | ht
 ·exact Nk hb hK hx
 ·cases hr:dr sh with
  | true=>
   rw [hr] at ht
   rw [List.mem_singleton.1 ht]
   exact Lb hb hK
  | false=>
   rw [hr] at ht
   obtain⟨r,hr',rfl⟩:=List.mem_map.1 ht
   unfold fB at hr'
   obtain⟨⟨c,k⟩,hc,rfl⟩:=List.mem_map.1 hr'
   have hc' : c∈i.cs:=List.fst_mem_of_mem_zipIdx hc
   obtain⟨j,hj⟩:=List.mem_iff_getElem?.1 hc'
   obtain⟨_,s,_,_,hs2⟩:=hb.so.at_ x i hx
   obtain⟨fs,_,_,h12,_⟩:=hs2 j c hj
   exact Nl hb hK hx hc' h12
end
noncomputable def f4M:Code:=jr Tryz.f4 1
noncomputable def f4R:Code:=((mo f4M)[0]?).getD .skip
noncomputable def f4T:Code:=((mo f4M)[1]?).getD .skip
noncomputable def f4N:Code:=((mo f4T)[0]?).getD .skip
noncomputable def f4Q:Code:=((mo f4N)[0]?).getD .skip
noncomputable def f4K:Code:=jr Tryz.f4 0
structure Fr where
 d:Dl
 zl:Nat
 bl:Bool
 L:List V
 S:List V
 sk:Nat
 tk:Tok
 kn:List (List UInt8)
 m:Nat
@[reducible] noncomputable def Fr.tm (F:Fr) (j:Nat) (r:List (Nat×V)):List (Nat×V):=
  (1,.ptr (.loc 1) 0)::(3,.list F.zl (av F.bl) 0 F.L)::(5,.list 7 .no 0 F.S)::(7,.list F.sk F.tk 0 (F.kn.map aQ))::(8,.int .i64 (.ofNat F.m))::(11,.int .i64 (.ofNat j))::r
structure Xk where
 i:Inf
 z:Nat
 b:Bool
@[reducible] noncomputable def Xk.cells (x:Xk):List V:=ir x.i x.z (av x.b) (x.i.rules.map cj)
@[reducible] noncomputable def Fr.lc (F:Fr) (x:Xk):List (Nat×List V):=[(1,bM F.d),(12,x.cells)]
section
variable {q:Nat} {S:St}
theorem qi {α:Type} {l:List α} {k:Nat} {y x:α} (h:l[k]?=some y):x∈l.take (k + 1)↔x∈l.take k∨x=y:=by
 rw [List.take_add_one,h];simp
theorem Ld (F:Fr) (x:Xk) (j:Nat) (ct:Bool) (ts:List Tm) (tt:Tok) (k:Nat) (zn:Nat) (bn:Bool) (ns:List (List UInt8)) (jn:Nat) (y:List UInt8) (K:Ex→Env→St→Prop) (hs:SzS F.sk F.kn) (hl:F.kn.length < q) (hq:F.kn.length≤150000000) (hzn:SzS zn ns) (hy:ns[jn]?=some y) (hin:y∈F.kn)
 (hK:K (.exit 12) { nt:=357,tmps:=F.tm j [(13,.list (au ct ts) tt 0 (ae ts)),(15,.int .i64 (.ofNat k)),(16,.list zn (av bn) 0 (ns.map aQ)),(17,.int .i64 (.ofNat jn)),(18,.bool true),(19,.int .i64 (.ofNat F.kn.length)),(339,.bool false)],locs:=F.lc x,fix:=[] } S) :
 aB (iter (evalCode Tryz.cfg (RN q) q 4 (Tryz.cfg.fc 4) f4Q) q { nt:=357,tmps:=F.tm j [(13,.list (au ct ts) tt 0 (ae ts)),(15,.int .i64 (.ofNat k)),(16,.list zn (av bn) 0 (ns.map aQ)),(17,.int .i64 (.ofNat jn)),(18,.bool false),(19,.int .i64 (.ofNat 0))],locs:=F.lc x,fix:=[] } S) K:=by
 refine aB.loop 357 (σ:=Bool) F.kn.length (fun e b=>{ nt:=357,tmps:=F.tm j [(13,.list (au ct ts) tt 0 (ae ts)),(15,.int .i64 (.ofNat k)),(16,.list zn (av bn) 0 (ns.map aQ)),(17,.int .i64 (.ofNat jn)),(18,.bool b),(19,.int .i64 (.ofNat e))],locs:=F.lc x,fix:=[] }) (fun _ _=>S) (fun e b=>b=true↔y∈F.kn.take e) false hl (by simp) ?_ ?_
 ·intro e b he hp
  obtain⟨w,hw⟩ : ∃w,F.kn[e]?=some w:=⟨_,aGe he⟩
  refine ah.yes (ltS he) ?_
  cases b with
  | true=>
   refine ab.mk _ (az (by omega)) ?_
   exact⟨true,by rw [qi hw];exact⟨fun _=>.inl (hp.1 rfl),fun _=>rfl⟩,rfl,rfl⟩
  | false=>
   refine ab.mk _ (kl hs hw) ?_
   refine ab.mk _ (kl hzn hy) ?_
   refine ab.mkB jJ (fun c=>?_) (fun c=>?_)
   ·have c' : w=y:=by simpa using c
    refine ab.mk _ (az (by omega)) ?_
    exact⟨true,by rw [qi hw];exact⟨fun _=>.inr c'.symm,fun _=>rfl⟩,rfl,rfl⟩
   ·have c' : w≠y:=by simpa using c
    refine ab.mk _ (az (by omega)) ?_
    refine⟨false,?_,rfl,rfl⟩
    rw [qi hw]
    exact⟨(fun h=>by cases h),fun h=>h.elim (fun h=>hp.2 h) (fun h=>absurd h.symm c')⟩
 ·intro b hp
  rw [List.take_length] at hp
  obtain rfl:b=true:=hp.2 hin
  refine ah.no (geS (by omega)) ?_
  exact hK
theorem Le (F:Fr) (x:Xk) (j:Nat) (ct:Bool) (ts:List Tm) (tt:Tok) (k:Nat) (zn:Nat) (bn:Bool) (ns:List (List UInt8)) (K:Ex→Env→St→Prop) (hs:SzS F.sk F.kn) (hl:F.kn.length < q) (hq:F.kn.length≤150000000) (hzn:SzS zn ns) (hn:ns.length < q) (hnb:ns.length≤100000000) (hin:∀y∈ns,y∈F.kn)
 (hK:K (.exit 10) { nt:=357,tmps:=F.tm j [(13,.list (au ct ts) tt 0 (ae ts)),(15,.int .i64 (.ofNat k)),(16,.list zn (av bn) 0 (ns.map aQ)),(17,.int .i64 (.ofNat ns.length)),(333,.bool false)],locs:=F.lc x,fix:=[] } S) :
 aB (iter (evalCode Tryz.cfg (RN q) q 4 (Tryz.cfg.fc 4) f4N) q { nt:=357,tmps:=F.tm j [(13,.list (au ct ts) tt 0 (ae ts)),(15,.int .i64 (.ofNat k)),(16,.list zn (av bn) 0 (ns.map aQ)),(17,.int .i64 (.ofNat 0))],locs:=F.lc x,fix:=[] } S) K:=by
 refine aB.loop 357 (σ:=Unit) ns.length (fun e _=>{ nt:=357,tmps:=F.tm j [(13,.list (au ct ts) tt 0 (ae ts)),(15,.int .i64 (.ofNat k)),(16,.list zn (av bn) 0 (ns.map aQ)),(17,.int .i64 (.ofNat e))],locs:=F.lc x,fix:=[] }) (fun _ _=>S) (fun _ _=>True) () hn trivial ?_ ?_
 ·intro e _ he _
  obtain⟨y,hy⟩ : ∃y,ns[e]?=some y:=⟨_,aGe he⟩
  refine ah.yes (ltS he) ?_
  refine Ld F x j ct ts tt k zn bn ns e y _ hs hl hq hzn hy (hin y (aMg hy)) ?_
  refine ab.mk _ (az (by omega)) ?_
  exact⟨(),trivial,rfl,rfl⟩
 ·intro _ _
  refine ah.no (geS (by omega)) ?_
  exact hK
theorem DX (F:Fr) (x:Xk) (j:Nat) (ct:Bool) (ts:List Tm) (tt:Tok) (K:Ex→Env→St→Prop) (hs:SzS F.sk F.kn) (hl:F.kn.length < q) (hq:F.kn.length≤150000000) (hn:ts.length < q) (htb:ts.length≤1000000)
 (ht:∀t∈ts,cM t=true∧Sm t∧2 * wt t + 20≤q∧wt t≤100000000∧dW t < 1000000000∧fS t 0≤0∧∀y∈nmT t,y∈F.kn)
 (hK:K (.exit 8) { nt:=357,tmps:=F.tm j [(13,.list (au ct ts) tt 0 (ae ts)),(15,.int .i64 (.ofNat ts.length)),(308,.bool false)],locs:=F.lc x,fix:=[] } S) :
 aB (iter (evalCode Tryz.cfg (RN q) q 4 (Tryz.cfg.fc 4) f4T) q { nt:=357,tmps:=F.tm j [(13,.list (au ct ts) tt 0 (ae ts)),(15,.int .i64 (.ofNat 0))],locs:=F.lc x,fix:=[] } S) K:=by
 refine aB.loop 357 (σ:=Unit) ts.length (fun e _=>{ nt:=357,tmps:=F.tm j [(13,.list (au ct ts) tt 0 (ae ts)),(15,.int .i64 (.ofNat e))],locs:=F.lc x,fix:=[] }) (fun _ _=>S) (fun _ _=>True) () hn trivial ?_ ?_
 ·intro e _ he _
  obtain⟨t,hte⟩ : ∃t,ts[e]?=some t:=⟨_,aGe he⟩
  obtain⟨t1,t2,t3,t4,t5,t6,t7⟩:=ht t (aMg hte)
  obtain⟨zn,bn,ns,r1,r2,r3,r4⟩:=h11 (n:=q) (x:=t) (S:=S) (by omega) t4
  refine ah.yes (gE he) ?_
  refine ab.mk _ (bJ hte) ?_
  refine ag.mk _ _ ((h12 t2 (by omega)).trans (by rw [t1])) ?_
  refine ab.mk _ (bJ hte) ?_
  refine ag.mk _ _ (h13 t5 (by omega)) ?_
  refine ah.no (by rw [cb,decide_eq_false_iff_not];omega) ?_
  refine ab.mk _ (bJ hte) ?_
  refine ag.mk _ _ r1 ?_
  refine Le F x j ct ts tt e zn bn ns _ hs hl hq r2 (by omega) (by omega) (fun y hy=>t7 y ((r4 y).1 hy)) ?_
  refine ab.mk _ (az (by omega)) ?_
  exact⟨(),trivial,rfl,rfl⟩
 ·intro _ _
  refine ah.no (gG (by omega)) ?_
  exact hK
end
theorem yn {rs:List Ru} {z:Nat} {b:Bool} {k:Nat} {r:Ru} (hz:jX 7 (rs.map cj)=.list z (av b) 0 (rs.map cj)) (h:rs[k]?=some r):indexAddr Tryz.cfg 36 (.list z (av b) 0 (rs.map cj)) (.int .i64 (.ofNat k))=some (.imm 0 (ie r)):=by
 rw [← hz]
 cases rs with
 | nil=>simp at h
 | cons a l=>exact M5 h
theorem Lf {fss:List (List (Int×Int))} {c:Nat} {fs:List (Int×Int)} (h:fss[c]?=some fs):∃z b,indexAddr Tryz.cfg 52 (.list 1 .no 0 (fss.map bj)) (.int .i64 (.ofNat c))=some (.imm 0 [.list z (av b) 0 (fs.map dh)]):=by
 have h1:indexAddr Tryz.cfg 52 (.list 1 .no 0 (fss.map bj)) (.int .i64 (.ofNat c))=some (.imm 0 [rh fs]):=dI (f:=fun fs=>[rh fs]) (ei:=Tryz.ti57) rfl rfl h
 obtain⟨z,b,hz⟩:=mu 2 (fs.map dh)
 exact⟨z,b,by rw [h1];unfold rh;rw [hz]⟩
theorem Un (a b:List UInt8):buildSlice Tryz.cfg 42 2 [(0,.str a),(1,.str b)]=some (.list 1 .tight 0 ([a,b].map aQ)):=rfl
def InK (kn:List (List UInt8)) (i:In):Prop:=i.name∈kn∧i.name++cI∈kn∧(∀s∈nmT i.ty,s∈kn)∧∀c∈i.cs,c.name∈kn∧∀s∈nmT c.ty,s∈kn
theorem InK.sup {kn kn' : List (List UInt8)} {i:In} (h:InK kn i) (hs:∀y∈kn,y∈kn'):InK kn' i:=
 ⟨hs _ h.1,hs _ h.2.1,fun s q=>hs _ (h.2.2.1 s q),fun c hc=>⟨hs _ (h.2.2.2 c hc).1,fun s q=>hs _ ((h.2.2.2 c hc).2 s q)⟩⟩
theorem PN {a b c j:Nat} (h:a≤j * 40000000 + 4000002 + c * 4000001) (h2:b≤4000000):a + (0 + 1) + b≤j * 40000000 + 4000002 + (c + 1) * 4000001:=by omega
theorem PO {a l j:Nat} (h:a≤j * 40000000 + 4000002 + l * 4000001) (h2:l≤8):a≤(j + 1) * 40000000:=by omega
section
variable {q:Nat}
theorem DY (F:Fr) (x:Xk) (j:Nat) (c0:Bool) (t0:List Tm) (k0:Tok) (T0:List Nat) (sh:List Sh) (s:Sh) (y:In) (K:Ex→Env→St→Prop) (hS:F.S=sh.map bQ) (hy:F.d.ai[j]?=some y) (hs:sh[j]?=some s)
 (hz:jX 7 (x.i.rules.map cj)=.list x.z (av x.b) 0 (x.i.rules.map cj)) (hn:x.i.rules.length < q) (hl:t0.length + x.i.rules.length < 1000000)
 (hr:∀(e:Nat) (r:Ru),x.i.rules[e]?=some r→∃c:Ct,y.cs[e]?=some c∧r.1=c.name∧∃fs:List (Int×Int),s.fields[e]?=some fs∧r.2.1=fs.length)
 (hg:fy [] T0 (ae t0) k0)
 (hK:∀c k T,K (.exit 6) { nt:=357,tmps:=F.tm j [(12,.ptr (.loc 12) 0),(13,.list (au c (t0++x.i.rules.map (·.2.2))) k 0 (ae (t0++x.i.rules.map (·.2.2)))),(14,.int .i64 (.ofNat x.i.rules.length)),(258,.bool false)],locs:=F.lc x,fix:=[] } { heap:=[],aA:=T }) :
 aB (iter (evalCode Tryz.cfg (RN q) q 4 (Tryz.cfg.fc 4) f4R) q { nt:=357,tmps:=F.tm j [(12,.ptr (.loc 12) 0),(13,.list (au c0 t0) k0 0 (ae t0)),(14,.int .i64 (.ofNat 0))],locs:=F.lc x,fix:=[] } { heap:=[],aA:=T0 }) K:=by
 rcases F with⟨d,zl,bl,L,Sr,sk,tk,kn,m⟩
 subst hS
 refine aB.loop 357 (σ:=List Tm×Bool×Tok×List Nat) x.i.rules.length (fun e g=>{ nt:=357,tmps:=Fr.tm ⟨d,zl,bl,L,sh.map bQ,sk,tk,kn,m⟩ j [(12,.ptr (.loc 12) 0),(13,.list (au g.2.1 g.1) g.2.2.1 0 (ae g.1)),(14,.int .i64 (.ofNat e))],locs:=Fr.lc ⟨d,zl,bl,L,sh.map bQ,sk,tk,kn,m⟩ x,fix:=[] })
  (fun _ g=>{ heap:=[],aA:=g.2.2.2 }) (fun e g=>g.1=t0++(x.i.rules.take e).map (·.2.2)∧fy [] g.2.2.2 (ae g.1) g.2.2.1) (t0,c0,k0,T0) hn ⟨by simp,hg⟩ ?_ ?_
 ·rintro e ⟨l,c1,k1,T1⟩ he ⟨(h1:l=_),(h2:fy [] T1 (ae l) k1)⟩
  obtain⟨r,hre⟩ : ∃r,x.i.rules[e]?=some r:=⟨_,aGe he⟩
  obtain⟨c,r1,r2,fs,r3,r4⟩:=hr e r hre
  have hne:s.fields≠[]:=fun h=>by rw [h] at r3;simp at r3
  obtain⟨zf,bf,hf⟩:=Lf r3
  have hll:l.length < 1000000:=by rw [h1,aLa,aLm,List.length_take];omega
  obtain⟨c2,T2,k2,a1,a2⟩:=oz (LT:=23) (c0:=c1) (c:=false) (bH:=.tight) (H:=[]) (T0:=[]) (T:=T1) (done:=l) (new:=[r.2.2]) (tok:=k1) rfl (by simp only [aLc,List.length_nil];omega) (by simp) h2
  refine ah.yes (by rw [an,aLm];exact dC he) ?_
  refine ab.mk _ (yn hz hre) ?_
  refine ab.mk _ (aO hy) ?_
  refine ab.mk _ (ed r1) ?_
  refine ab.mk (.bool false) (re.trans (by rw [r2];simp)) ?_
  refine ab.mk _ (yn hz hre) ?_
  refine ab.mk _ (MM hs hne) ?_
  refine ab.mk _ hf ?_
  refine ah.no (by rw [bp,r4,an,aLm];simp) ?_
  refine ab.mk _ (yn hz hre) ?_
  refine ab.mk _ (bs1 r.2.2 23 _ _ _ rfl) ?_
  refine cN.mk _ _ (a1 _ _ rfl) ?_
  refine ab.mk _ (az (by omega)) ?_
  refine⟨(l++[r.2.2],c2,k2,T2),⟨?_,a2.w⟩,rfl,rfl⟩
  show l++[r.2.2]=_
  rw [h1,map_take (·.2.2) x.i.rules e r hre]
  simp
 ·rintro⟨l,c1,k1,T1⟩ ⟨(h1:l=_),h2⟩
  rw [List.take_length] at h1
  subst h1
  refine ah.no (by rw [an,aLm];exact fJ (by omega)) ?_
  exact hK _ _ _
theorem Lg (d:Dl) (zl:Nat) (bl:Bool) (L Sr:List V) (K:Ex→Env→St→Prop) (hd:∀i∈d.ai,i.name.length≤100∧wt i.ty≤4000000∧i.cs.length≤8∧∀c∈i.cs,wt c.ty≤4000000) (h3:d.ai.length≤3) (hqn:200000000≤q)
 (hK:∀kn sk tk T,SzS sk kn→kn.length≤150000000→(∀i∈d.ai,InK kn i)→
  K (.exit 0) { nt:=357,tmps:=[(1,.ptr (.loc 1) 0),(3,.list zl (av bl) 0 L),(5,.list 7 .no 0 Sr),(7,.list sk tk 0 (kn.map aQ)),(8,.int .i64 (.ofNat (bt d))),(9,.int .i64 (.ofNat d.ai.length)),(69,.bool false)],locs:=[(1,bM d)],fix:=[] } { heap:=[],aA:=T }) :
 aB (iter (evalCode Tryz.cfg (RN q) q 4 (Tryz.cfg.fc 4) f4K) q { nt:=357,tmps:=[(1,.ptr (.loc 1) 0),(3,.list zl (av bl) 0 L),(5,.list 7 .no 0 Sr),(7,.list 0 .tight 0 []),(8,.int .i64 (.ofNat 0)),(9,.int .i64 (.ofNat 0))],locs:=[(1,bM d)],fix:=[] } St.empty) K:=by
 refine aB.loop 357 (σ:=List (List UInt8)×Nat×Tok×List Nat) d.ai.length (fun j g=>{ nt:=357,tmps:=[(1,.ptr (.loc 1) 0),(3,.list zl (av bl) 0 L),(5,.list 7 .no 0 Sr),(7,.list g.2.1 g.2.2.1 0 (g.1.map aQ)),(8,.int .i64 (.ofNat (((d.ai.take j).map fun i=>i.cs.length).sum))),(9,.int .i64 (.ofNat j))],locs:=[(1,bM d)],fix:=[] })
  (fun _ g=>{ heap:=[],aA:=g.2.2.2 }) (fun j g=>SzS g.2.1 g.1∧fy [] g.2.2.2 g.1 g.2.2.1∧g.1.length≤j * 40000000∧∀i∈d.ai.take j,InK g.1 i) ([],0,.tight,[]) (by omega) ⟨.inl rfl,⟨ju.refl [],.inl rfl⟩,Nat.zero_le _,fun i hi=>by simp at hi⟩ ?_ ?_
 ·rintro j ⟨kn,sk,tk,T1⟩ hj ⟨(g1:SzS sk kn),(g2:fy [] T1 kn tk),(g3:kn.length≤_),(g4:∀i∈d.ai.take j,InK kn i)⟩
  obtain⟨x,hx⟩ : ∃x,d.ai[j]?=some x:=⟨_,aGe hj⟩
  obtain⟨x1,x2,x3,x4⟩:=hd x (aMg hx)
  have hkl:kn.length≤120000000:=by
   have:j * 40000000≤3 * 40000000:=Nat.mul_le_mul_right _ (by omega)
   omega
  have rF:((d.ai.take j).map fun i=>i.cs.length).sum≤1000:=by
   have:=qa (l:=d.ai) (fun i hi=>by have:=(hd i hi).2.2.1;omega) j
   omega
  obtain⟨z2,T2,t2,a1,a2,a3⟩:=j8 (H:=[]) (bH:=.tight) (sz2:=1) (new:=[x.name,x.name++cI]) (by simp only [aLc,List.length_nil];omega) g1 (.inr rfl) g2
  obtain⟨zn,bn,ns,r1,r2,r3,r4⟩:=h11 (n:=q) (x:=x.ty) (S:={ heap:=[],aA:=T2 }) (by omega) (by omega)
  obtain⟨z3,T3,t3,b1,b2,b3⟩:=j8 (H:=[]) (bH:=av bn) (sz2:=zn) (new:=ns) (by simp only [aLa,aLc,List.length_nil];omega) a2 r2 a3
  refine ah.yes (ltM hj) ?_
  refine ab.mk _ (aO hx) ?_
  refine ab.mk _ (aO hx) ?_
  refine ab.mk _ (Fj (b:=cI) (by unfold cI;simp only [aLc,List.length_nil];omega)) ?_
  refine ab.mk _ (Un _ _) ?_
  refine cN.mk _ _ (a1 _ _ rfl) ?_
  refine ab.mk _ (aO hx) ?_
  refine ag.mk _ _ r1 ?_
  refine cN.mk _ _ (b1 _ _ rfl) ?_
  have hk3:(kn++[x.name,x.name++cI]++ns).length≤j * 40000000 + 4000002:=by simp only [aLa,aLc,List.length_nil];omega
  have hm3:∀y∈kn,y∈kn++[x.name,x.name++cI]++ns:=fun y hy=>List.mem_append_left _ (List.mem_append_left _ hy)
  refine aB.loop 357 (σ:=List (List UInt8)×Nat×Tok×List Nat) x.cs.length (fun c g=>{ nt:=357,tmps:=[(1,.ptr (.loc 1) 0),(3,.list zl (av bl) 0 L),(5,.list 7 .no 0 Sr),(7,.list g.2.1 g.2.2.1 0 (g.1.map aQ)),(8,.int .i64 (.ofNat (((d.ai.take j).map fun i=>i.cs.length).sum + c))),(9,.int .i64 (.ofNat j)),(10,.int .i64 (.ofNat c))],locs:=[(1,bM d)],fix:=[] })
   (fun _ g=>{ heap:=[],aA:=g.2.2.2 }) (fun c g=>SzS g.2.1 g.1∧fy [] g.2.2.2 g.1 g.2.2.1∧g.1.length≤j * 40000000 + 4000002 + c * 4000001∧(∀y∈kn++[x.name,x.name++cI]++ns,y∈g.1)∧∀i∈x.cs.take c,i.name∈g.1∧∀s∈nmT i.ty,s∈g.1)
   (kn++[x.name,x.name++cI]++ns,z3,t3,T3) (by omega) ⟨b2,b3,by omega,fun y hy=>hy,fun i hi=>by simp at hi⟩ ?_ ?_
  ·rintro c ⟨kn2,sk2,tk2,T4⟩ hc ⟨(e1:SzS sk2 kn2),(e2:fy [] T4 kn2 tk2),(e3:kn2.length≤_),(e4:∀y∈_,y∈kn2),(e5:∀i∈x.cs.take c,_∈kn2∧_)⟩
   obtain⟨y,hy⟩ : ∃y,x.cs[c]?=some y:=⟨_,aGe hc⟩
   have hyw:=x4 y (aMg hy)
   have hk2:kn2.length≤160000000:=by
    have:j * 40000000≤2 * 40000000:=Nat.mul_le_mul_right _ (by omega)
    have:c * 4000001≤8 * 4000001:=Nat.mul_le_mul_right _ (by omega)
    omega
   obtain⟨z5,T5,t5,f1,f2,f3⟩:=j8 (H:=[]) (bH:=.tight) (sz2:=1) (new:=[y.name]) (by simp only [aLc,List.length_nil];omega) e1 (.inr rfl) e2
   obtain⟨zm,bm,ms,p1,p2,p3,p4⟩:=h11 (n:=q) (x:=y.ty) (S:={ heap:=[],aA:=T5 }) (by omega) (by omega)
   obtain⟨z6,T6,t6,u1,u2,u3⟩:=j8 (H:=[]) (bH:=av bm) (sz2:=zm) (new:=ms) (by simp only [aLa,aLc,List.length_nil];omega) f2 p2 f3
   refine ab.mk _ (aO hx) ?_
   refine ah.yes (ltM hc) ?_
   refine ab.mk _ (az (by omega)) ?_
   refine ab.mk _ (aO hx) ?_
   refine ab.mk _ (ed hy) ?_
   refine ab.mk _ (bsS _) ?_
   refine cN.mk _ _ (f1 _ _ rfl) ?_
   refine ab.mk _ (aO hx) ?_
   refine ab.mk _ (ed hy) ?_
   refine ag.mk _ _ p1 ?_
   refine cN.mk _ _ (u1 _ _ rfl) ?_
   refine ab.mk _ (az (by omega)) ?_
   refine⟨(kn2++[y.name]++ms,z6,t6,T6),⟨u2,u3,?_,fun w hw=>List.mem_append_left _ (List.mem_append_left _ (e4 w hw)),fun i hi=>?_⟩,rfl,rfl⟩
   ·show (kn2++[y.name]++ms).length≤_
    simp only [aLa,aLc,List.length_nil]
    exact PN e3 (Nat.le_trans p3 hyw)
   ·rcases (qi hy).1 hi with h | rfl
    ·obtain⟨w1,w2⟩:=e5 i h
     exact⟨List.mem_append_left _ (List.mem_append_left _ w1),fun s hs=>List.mem_append_left _ (List.mem_append_left _ (w2 s hs))⟩
    ·exact⟨List.mem_append_left _ (List.mem_append_right _ (by simp)),fun s hs=>List.mem_append_right _ ((p4 s).2 hs)⟩
  ·rintro⟨kn2,sk2,tk2,T4⟩ ⟨(e1:SzS sk2 kn2),(e2:fy [] T4 kn2 tk2),(e3:kn2.length≤_),(e4:∀y∈_,y∈kn2),(e5:∀i∈x.cs.take x.cs.length,_∈kn2∧_)⟩
   rw [List.take_length] at e5
   refine ab.mk _ (aO hx) ?_
   refine ah.no (geM (by omega)) ?_
   refine ab.mk _ (az (by omega)) ?_
   refine⟨(kn2,sk2,tk2,T4),⟨e1,e2,?_,fun i hi=>?_⟩,by rw [s8 hx],rfl⟩
   ·show kn2.length≤_
    exact PO e3 x3
   ·rcases (qi hx).1 hi with h | rfl
    ·exact (g4 i h).sup fun y hy=>e4 y (hm3 y hy)
    ·exact⟨e4 _ (List.mem_append_left _ (List.mem_append_right _ (by simp))),e4 _ (List.mem_append_left _ (List.mem_append_right _ (by simp))),fun s hs=>e4 _ (List.mem_append_right _ ((r4 s).2 hs)),e5⟩
 ·rintro⟨kn,sk,tk,T1⟩ ⟨(g1:SzS sk kn),(g2:fy [] T1 kn tk),(g3:kn.length≤_),(g4:∀i∈d.ai.take d.ai.length,InK kn i)⟩
  rw [List.take_length] at g4
  have hkl:kn.length≤150000000:=by
   have:d.ai.length * 40000000≤3 * 40000000:=Nat.mul_le_mul_right _ (by omega)
   omega
  refine ah.no (geM (by omega)) ?_
  have:=hK kn sk tk T1 g1 hkl g4
  unfold bt at this
  rw [List.take_length]
  exact this
end
inductive Jx where
 | a
 | b (x:Xk)
@[reducible] noncomputable def Jx.locs (d:Dl):Jx→List (Nat×List V)
  | .a=>[(1,bM d)]
  | .b x=>[(1,bM d),(12,x.cells)]
theorem Lh {d:Dl} {sh:List Sh} {is:List Inf} (ho:ofR d=(sh,0)) (hr:fM d=(is,0)):mn d sh (fxN d) (pN d) (bY d.params).1 (bt d)=some is:=by
 unfold fM at hr
 rw [ho] at hr
 simp only at hr
 cases h:mn d sh (fxN d) (pN d) (bY d.params).1 (bt d) with
 | none=>rw [h] at hr;simp at hr
 | some l=>rw [h] at hr;simp at hr;rw [hr]
theorem Li {d:Dl} {sh:List Sh} {is:List Inf} {e:Int} (ho:ofR d=(sh,0)) (hr:fM d=(is,e)) (he:e≠0):e=4∧is=[]:=by
 unfold fM at hr
 rw [ho] at hr
 simp only at hr
 cases h:mn d sh (fxN d) (pN d) (bY d.params).1 (bt d) with
 | none=>rw [h] at hr;simp at hr;exact⟨hr.2.symm,hr.1⟩
 | some l=>rw [h] at hr;simp at hr;exact absurd hr.2.symm he
theorem Nn {d:Dl} {e:Int} (he:e≠0) (ho:ofR d=([],e)):fM d=([],e):=by
 unfold fM
 rw [ho]
 split
 ·rename_i h9;exact absurd h9 he
 ·rfl
theorem No {d:Dl} {sh:List Sh} {is:List Inf} (h:mn d sh (fxN d) (pN d) (bY d.params).1 (bt d)=some is) {j:Nat} {x:In} (hx:d.ai[j]?=some x) :
 is[j]?=some (da d sh (fxN d) (pN d) (bY d.params).1 (bt d) j x)∧∀t∈dS d sh (fxN d) (pN d) (bY d.params).1 (bt d) j x,cM t=true:=by
 unfold mn at h
 obtain⟨i,h1,h2⟩:=j5 h (vw hx)
 unfold xO at h2
 simp only at h2
 cases ha:(dS d sh (fxN d) (pN d) (bY d.params).1 (bt d) j x).all cM with
 | false=>rw [ha] at h2;cases h2
 | true=>
  rw [ha] at h2
  cases h2
  exact⟨h1,fun t ht=>List.all_eq_true.1 ha t ht⟩
theorem PQ {d:Dl} {sh:List Sh} {kn:List (List UInt8)} (hg:Good d sh) (hin:∀i∈d.ai,InK kn i):KOk d kn where
 ty:=fun i hi=>⟨⟨(hg.bk.gd i hi).1,Cl.of (hg.may i hi).1 (hin i hi).2.2.1⟩,fun c hc=>⟨((hg.bk.gd i hi).2.2 c hc).1,Cl.of ((hg.may i hi).2 c hc) ((hin i hi).2.2.2 c hc).2⟩⟩
 nm:=fun i hi=>⟨(hin i hi).1,(hin i hi).2.1,fun c hc=>((hin i hi).2.2.2 c hc).1⟩
theorem Np {d:Dl} {sh:List Sh} {kn:List (List UInt8)} {q:Nat} (hg:Good d sh) (hd:vl d) (hin:∀i∈d.ai,InK kn i) (hq:8000020≤q) {j:Nat} {x:In} (hx:d.ai[j]?=some x) {t:Tm} (ht:t∈dS d sh (fxN d) (pN d) (bY d.params).1 (bt d) j x) (hm:cM t=true) :
 cM t=true∧Sm t∧2 * wt t + 20≤q∧wt t≤100000000∧dW t < 1000000000∧fS t 0≤0∧∀y∈nmT t,y∈kn:=by
 have hb:=By hg (zW hd)
 have hc:=Lc (K:=kn) (u:=(bY d.params).1) hb (PQ hg hin) hx t ht
 have hw:=fv hm
 have hs:=jv hm
 exact⟨hm,qd hm,by omega,by omega,by omega,hc.free hm,hc.names _ t (Nat.le_refl _)⟩
theorem law4 (h6:∃c,∀n S,c≤n→RN n (.f 6) [] S=some (.bool true,S)) {us:List V} (h:Args Go.Proofs.Tryz.prog Go.Proofs.Tryz.f4.params.toList us):∃n S',RN n (.f 4) us St.empty=some (.bool true,S'):=by
 obtain⟨c6,h6⟩:=h6
 obtain⟨d,rest,rfl,hs,hr⟩:=Rz (ts:=[]) h
 obtain rfl:rest=[]:=hr
 cases hf:qf d with
 | false=>
  obtain⟨q,hq⟩ : ∃q,q=wD d + 20 + c6:=⟨_,rfl⟩
  refine⟨q + 1,?_⟩
  have k5:=fun S=>h5 (n:=q) (S:=S) (DT d) (by omega)
  rw [hf] at k5
  have k6:=fun S=>h6 q S (by omega)
  have hx:∃r,frame Tryz.cfg (RN q) q 4 [eB d] St.empty=some r∧∃S',r=(.bool true,S'):=by
   refine aV (fn:=Tryz.f4) (p:=fun r=>∃S',r=(.bool true,S')) rfl rfl ?_
   refine ag.mk _ _ (k5 _) ?_
   refine ag.mk _ _ (k6 _) ?_
   exact⟨_,rfl,_,rfl⟩
  obtain⟨r,k,S',rfl⟩:=hx
  exact⟨St.empty,bG k (by simp only [dH,aq]) rfl rfl rfl rfl rfl⟩
 | true=>
  obtain⟨hd,hls⟩:=KR hs hf
  obtain⟨q,hq,hqm⟩ : ∃q,3 * wD d + 240000000 + wT d + c6 + 1000≤q∧q=3 * wD d + 240000000 + wT d + c6 + 1000:=⟨_,Nat.le_refl _,rfl⟩
  refine⟨q + 1,?_⟩
  have k5:=fun S=>h5 (n:=q) (S:=S) (DT d) (by omega)
  rw [hf] at k5
  have k6:=fun S=>h6 q S (by omega)
  have k7:=fun S=>h7 (n:=q) (S:=S) hd hls (by omega) (tx hd (by omega))
  have k10:=fun S=>h10 (n:=q) (S:=S) hd (by omega)
  have hx:∃r,frame Tryz.cfg (RN q) q 4 [eB d] St.empty=some r∧∃S',r=(.bool true,S'):=by
   refine aV (fn:=Tryz.f4) (p:=fun r=>∃S',r=(.bool true,S')) rfl rfl ?_
   refine ag.mk _ _ (k5 _) ?_
   rcases zH hd with⟨e,he,ho⟩ | ⟨s0,r,ho,hg⟩
   ·rw [Nn he ho] at k7
    rw [ho] at k10
    have k7' : ∀S,RN q (.f 7) [eB d] S=some (.tuple [.list 0 .tight 0 [],.int .i64 e],S):=k7
    have Nq : ∀S,RN q (.f 10) [eB d] S=some (.tuple [.list 0 .tight 0 [],.int .i64 e],S):=k10
    refine ag.mk _ _ (k7' _) ?_
    refine ag.mk _ _ (Nq _) ?_
    refine ah.yes (by rw [bp];simp [he]) ?_
    refine ah.yes (by rw [bp];simp) ?_
    refine ah.yes rfl ?_
    refine ag.mk _ _ (k6 _) ?_
    exact⟨_,rfl,_,rfl⟩
   ·rw [ho] at k10
    have Nq : ∀S,RN q (.f 10) [eB d] S=some (.tuple [.list 7 .no 0 ((s0::r).map bQ),.int .i64 0],S):=k10
    obtain⟨is,e,hre⟩ : ∃is e,fM d=(is,e):=⟨_,_,rfl⟩
    rw [hre] at k7
    by_cases he:e=0
    ·subst he
     obtain⟨z,b,hz⟩:=mu 25 (is.map gD)
     have k7' : ∀S,RN q (.f 7) [eB d] S=some (.tuple [.list z (av b) 0 (is.map gD),.int .i64 0],S):=fun S=>by have:=k7 S;rw [hz] at this;exact this
     have BX:=Lh ho hre
     have hlen:is.length=d.ai.length:=by
      unfold mn at BX
      rw [ev BX,List.length_zipIdx]
     refine ag.mk _ _ (k7' _) ?_
     refine ag.mk _ _ (Nq _) ?_
     refine ah.no rfl ?_
     refine ah.no rfl ?_
     refine ah.no (by rw [bp,an,an,aLm,aLm,hlen];simp) ?_
     have RC:200000000≤q:=by omega
     have hW:∀i∈d.ai,i.name.length≤100∧wt i.ty≤4000000∧i.cs.length≤8∧∀c∈i.cs,wt c.ty≤4000000:=fun i hi=>
      ⟨(hd.nm.nm i hi).1,(hg.bk.gd i hi).1.le,hg.eight i hi,fun c hc=>((hg.bk.gd i hi).2.2 c hc).1.le⟩
     refine Lg d z b (is.map gD) ((s0::r).map bQ) _ hW hg.three RC fun kn sk tk T g1 g2 g3=>?_
     have hkq:kn.length < q:=by omega
     have hpp:=hg.bk.hpp
     refine aB.loop 357 (σ:=Jx×List Nat) is.length (fun j J=>{ nt:=357,tmps:=Fr.tm ⟨d,z,b,is.map gD,(s0::r).map bQ,sk,tk,kn,bt d⟩ j [],locs:=J.1.locs d,fix:=[] })
      (fun _ J=>{ heap:=[],aA:=J.2 }) (fun _ _=>True) (.a,T) (by have:=hg.three;omega) trivial ?_ ?_
     ·rintro j ⟨J,T1⟩ hj _
      obtain⟨x,hx⟩ : ∃x,d.ai[j]?=some x:=⟨_,aGe (by omega)⟩
      obtain⟨hij,Fz⟩:=No BX hx
      obtain⟨s,e1,e2,e3⟩:=(hg.so.at_ j x hx).2
      have hxn:=hW x (aMg hx)
      have Ho:=fun t ht=>Np (q:=q) hg hd.nm g3 (by omega) hx ht (Fz t ht)
      obtain⟨i,hi⟩ : ∃i,da d (s0::r) (fxN d) (pN d) (bY d.params).1 (bt d) j x=i:=⟨_,rfl⟩
      rw [hi] at hij
      have hnm:i.name=x.name++cI:=by rw [← hi];unfold da;split<;>rfl
      have hof:i.of_=x.name:=by rw [← hi];unfold da;split<;>rfl
      have hpa:i.params=.ofNat (pN d + 1):=by rw [← hi];unfold da;split<;>rfl
      have hmo:i.motives=.ofNat (aG (d.ai.map encI)):=by rw [← hi];unfold da;split<;>rfl
      have hmi:i.minors=.ofNat (bt d):=by rw [← hi];unfold da;split<;>rfl
      have hfi:i.fixed=d.fixed:=by rw [← hi];unfold da;split<;>rfl
      have hix:i.index=s.index:=by rw [← hi];unfold da;split<;>simp [e1]
      obtain⟨zi,bi,hzi⟩:=mu 7 (i.rules.map cj)
      have hii:=Hh hij hz hzi
      have hsx:indexAddr Tryz.cfg 39 (.list 7 .no 0 ((s0::r).map bQ)) (.int .i64 (.ofNat j))=some (.imm 0 (sV s)):=dI (ei:=Tryz.ti54) rfl rfl e1
      cases dy:dr (s0::r) with
      | true=>
       have hk:i.kind=2:=by rw [← hi];unfold da;rw [dy]
       have hru:i.rules=[]:=by rw [← hi];unfold da;rw [dy]
       have hte:dS d (s0::r) (fxN d) (pN d) (bY d.params).1 (bt d) j x=[i.ty,i.val]:=by rw [← hi];unfold dS da;rw [dy]
       rw [hte] at Ho
       obtain⟨c2,T2,k2,a1,a2⟩:=oz (LT:=23) (c0:=false) (c:=false) (bH:=.tight) (H:=[]) (T0:=[]) (T:=T1) (done:=[i.ty]) (new:=[i.val]) (tok:=.tight) rfl (by simp) (by simp) ⟨Dz _,.inl rfl⟩
       rcases J with _ | x0
       all_goals
        refine ah.yes (by rw [an,aLm];exact dC hj) ?_
        refine ab.mk _ hii ?_
        refine ab.mk _ (aO hx) ?_
        refine ab.mk _ (Fj (b:=cI) (by unfold cI;simp only [aLc,List.length_nil];omega)) ?_
        refine ab.mk (.bool false) (re.trans (by rw [hnm];simp)) ?_
        refine ab.mk _ (aO hx) ?_
        refine ab.mk (.bool false) (re.trans (by rw [hof];simp)) ?_
        refine ab.mk (.int .i64 (.ofNat (pN d + 1))) (by rw [hpp];exact az (by have:=hg.bk.p4;omega)) ?_
        refine ah.no (by rw [bp,hpa];simp) ?_
        refine ah.no (by rw [bp,hmo];simp) ?_
        refine ah.no (by rw [bp,hmi];simp) ?_
        refine ah.no (by rw [bp,hfi];simp) ?_
        refine ab.mk _ hsx ?_
        refine ah.no (by rw [bp,hix];simp) ?_
        refine ab.mk _ (bs1 i.ty 23 _ _ _ rfl) ?_
        refine ah.yes (by rw [hk];rfl) ?_
        refine ab.mk _ (bs1 i.val 23 _ _ _ rfl) ?_
        refine cN.mk _ _ (a1 _ _ rfl) ?_
        refine ah.no (by rw [hk];rfl) ?_
        refine ah.yes (by rw [hk];rfl) ?_
        refine ah.no (by rw [hru];rfl) ?_
        refine ah.yes (by rw [hk];rfl) ?_
        refine ah.no (by rw [hk];rfl) ?_
        refine DY ⟨d,z,b,is.map gD,(s0::r).map bQ,sk,tk,kn,bt d⟩ ⟨i,zi,bi⟩ j c2 [i.ty,i.val] k2 T2 (s0::r) s x _ rfl hx e1 hzi (by rw [hru];show 0 < q;omega) (by rw [hru];simp) (fun e f hef=>by rw [hru] at hef;simp at hef) a2.w fun c3 k3 T3=>?_
        refine DX ⟨d,z,b,is.map gD,(s0::r).map bQ,sk,tk,kn,bt d⟩ ⟨i,zi,bi⟩ j c3 _ k3 _ g1 hkq g2 (by rw [hru];show 2 < q;omega) (by rw [hru];simp) (fun t ht=>Ho t (by rw [hru] at ht;simpa using ht)) ?_
        refine ab.mk _ (az (by have:=hg.three;omega)) ?_
        exact⟨(.b ⟨i,zi,bi⟩,T3),trivial,rfl,rfl⟩
      | false=>
       have hk:i.kind=6:=by rw [← hi];unfold da;rw [dy]
       have hru:i.rules=fB d (s0::r) (fxN d) (pN d) (bY d.params).1 (bt d) j x:=by rw [← hi];unfold da;rw [dy]
       have hrl:i.rules.length=x.cs.length:=by rw [hru];unfold fB;rw [aLm,List.length_zipIdx]
       have hte:dS d (s0::r) (fxN d) (pN d) (bY d.params).1 (bt d) j x=[i.ty]++i.rules.map (·.2.2):=by rw [hru,← hi];unfold dS da;rw [dy];rfl
       rw [hte] at Ho
       have hrs:∀(e:Nat) (f:Ru),i.rules[e]?=some f→∃c:Ct,x.cs[e]?=some c∧f.1=c.name∧∃fs:List (Int×Int),s.fields[e]?=some fs∧f.2.1=fs.length:=fun e f hef=>by
        rw [hru] at hef
        unfold fB at hef
        rw [List.getElem?_map,List.getElem?_zipIdx] at hef
        cases hc:x.cs[e]? with
        | none=>rw [hc] at hef;cases hef
        | some c=>
         rw [hc] at hef
         simp only [Option.map_some,Nat.zero_add,Option.some.injEq] at hef
         obtain⟨fs,f1,f2,f3,f4⟩:=e3 e c hc
         have hcg:=(hg.bk.gd x (aMg hx)).2.2 c (aMg hc)
         refine⟨c,rfl,by rw [← hef];rfl,fs,f1,?_⟩
         rw [← hef,f2]
         exact jA hcg.1 (by omega) hcg.2
       rcases J with _ | x0
       all_goals
        refine ah.yes (by rw [an,aLm];exact dC hj) ?_
        refine ab.mk _ hii ?_
        refine ab.mk _ (aO hx) ?_
        refine ab.mk _ (Fj (b:=cI) (by unfold cI;simp only [aLc,List.length_nil];omega)) ?_
        refine ab.mk (.bool false) (re.trans (by rw [hnm];simp)) ?_
        refine ab.mk _ (aO hx) ?_
        refine ab.mk (.bool false) (re.trans (by rw [hof];simp)) ?_
        refine ab.mk (.int .i64 (.ofNat (pN d + 1))) (by rw [hpp];exact az (by have:=hg.bk.p4;omega)) ?_
        refine ah.no (by rw [bp,hpa];simp) ?_
        refine ah.no (by rw [bp,hmo];simp) ?_
        refine ah.no (by rw [bp,hmi];simp) ?_
        refine ah.no (by rw [bp,hfi];simp) ?_
        refine ab.mk _ hsx ?_
        refine ah.no (by rw [bp,hix];simp) ?_
        refine ab.mk _ (bs1 i.ty 23 _ _ _ rfl) ?_
        refine ah.no (by rw [hk];rfl) ?_
        refine ah.yes (by rw [hk];rfl) ?_
        refine ab.mk _ (aO hx) ?_
        refine ah.no (by rw [bp,an,an,aLm,aLm,hrl];simp) ?_
        refine ah.no (by rw [hk];rfl) ?_
        refine ah.no (by rw [hk];rfl) ?_
        refine DY ⟨d,z,b,is.map gD,(s0::r).map bQ,sk,tk,kn,bt d⟩ ⟨i,zi,bi⟩ j false [i.ty] .tight T1 (s0::r) s x _ rfl hx e1 hzi (by show i.rules.length < q;omega) (by show 1 + i.rules.length < _;omega) hrs ⟨Dz _,.inl rfl⟩ fun c3 k3 T3=>?_
        refine DX ⟨d,z,b,is.map gD,(s0::r).map bQ,sk,tk,kn,bt d⟩ ⟨i,zi,bi⟩ j c3 _ k3 _ g1 hkq g2 (by simp only [aLa,aLm,aLc,List.length_nil];omega) (by simp only [aLa,aLm,aLc,List.length_nil];omega) Ho ?_
        refine ab.mk _ (az (by have:=hg.three;omega)) ?_
        exact⟨(.b ⟨i,zi,bi⟩,T3),trivial,rfl,rfl⟩
     ·rintro⟨J,T1⟩ _
      rcases J with _ | x0
      all_goals
       refine ah.no (by rw [an,aLm];exact fJ (by omega)) ?_
       refine ag.mk _ _ (k6 _) ?_
       exact⟨_,rfl,_,rfl⟩
    ·obtain⟨rfl,rfl⟩:=Li ho hre he
     have k7' : ∀S,RN q (.f 7) [eB d] S=some (.tuple [.list 0 .tight 0 [],.int .i64 4],S):=k7
     refine ag.mk _ _ (k7' _) ?_
     refine ag.mk _ _ (Nq _) ?_
     refine ah.no rfl ?_
     refine ah.yes rfl ?_
     refine ah.yes rfl ?_
     refine ah.yes rfl ?_
     refine ag.mk _ _ (k6 _) ?_
     exact⟨_,rfl,_,rfl⟩
  obtain⟨r,k,S',rfl⟩:=hx
  exact⟨St.empty,bG k (by simp only [dH,aq]) rfl rfl rfl rfl rfl⟩
end Go.Ev

namespace Go.Proofs.YtmnofcchfbkbeaaGreat
open Go.Ev Go.ChangeShapes Go.WideShapes Go.ChangeAt Go.RowKit
theorem evOwn:ownKnob Tryz.prog.godebug=none:=by kernel_rfl
theorem evLaid:laidOutB Tryz.prog=true:=by kernel_rfl
theorem evMaps:mapsRowed Tryz.prog=true:=by kernel_rfl
noncomputable def evTypes:List Nat:=[3,5,9,22,23,25,26,28,43,45,48,49,51]
theorem evPlain:allB (plainT Tryz.prog evTypes) evTypes=true:=by kernel_rfl
theorem evRead:allB (fun t=>Tryz.prog.readableRec t) evTypes=true:=by kernel_rfl
theorem evPar {ts:List Nat} (h:allB (fun t=>memN t evTypes) ts=true):∀t∈ts,memN t evTypes=true∧Tryz.prog.readableRec t=true:=
 fun t ht=>⟨allB_mem h t ht,allB_mem evRead t (memN_iff.1 (allB_mem h t ht))⟩
set_option maxRecDepth 100000 in
theorem recursorCloses_lifted (hlaw:∀us,Args Tryz.prog Tryz.f4.params.toList us→∃n S',Go.Ev.RN n (.f 4) us St.empty=some (.bool true,S')) (os:Os) (started:os.Started) (H:Type) (enc:TypeId×Value→H) :
 ReturnsInHanded {} Tryz.checked os 4 .any (Rows.recursorClosesSpec.pre6 enc Tryz.prog Tryz.f4 Rows.recursorClosesRow.domain false) (Rows.recursorClosesSpec.post enc Tryz.prog Tryz.f4 false true false false):=by
 refine returnsInHanded_of_change (C:=Tryz.checked) evOwn started (by kernel_rfl) Tryz.func4
  (ChangeSpec.witness6 (enc:=enc) (C:=Tryz.checked) false ⟨#[],#[.agg #[.int .u8 0,.int .i64 0,.string ⟨⟨[]⟩⟩,.int .u8 0,.int .i64 0,.string ⟨⟨[]⟩⟩,.slice none 0 0,.slice none 0 0,.int .u8 0,.int .i64 0,.string ⟨⟨[]⟩⟩,.slice none 0 0,.slice none 0 0,.int .i64 0,.slice none 0 0]],[]⟩ 8 (by kernel_rfl) (by kernel_rfl) (by kernel_rfl) (by kernel_rfl)) ?_
 intro W base args ds gs before hval hW _ _
 exact law_contract (C:=Go.Ev.Tryz.cfg) (P:=Tryz.prog) (s:=Rows.recursorClosesSpec) Go.Ev.rnOk evLaid evMaps evPlain (evPar (by kernel_rfl)) (by kernel_rfl) rfl (tb:=4) (by kernel_rfl) Tryz.underlying4
  (fun _ ds hd=>by
   match ds,(show ds.length=1 from hd) with
   | [d1],_=>rfl) hval hW hlaw
theorem recursorCloses_of (hlaw:∀us,Args Tryz.prog Tryz.f4.params.toList us→∃n S',Go.Ev.RN n (.f 4) us St.empty=some (.bool true,S')):Rows.RecursorClosesSaid:=
 OpenClaim.holds_of_wide 4 Tryz.f4 rfl rfl rfl rfl rfl rfl rfl ⟨rfl,rfl,rfl,rfl,rfl⟩ rfl rfl rfl rfl rfl (by kernel_rfl) Tryz.func4 (by kernel_rfl)
  (of_decide_eq_true (by kernel_rfl)) (by unfold Func.isWrapper;first | (rw [if_pos (by decide +kernel)];kernel_rfl) | (rw [if_neg (by decide +kernel)];exact⟨rfl,rfl⟩))
  (fun os started H enc _=>recursorCloses_lifted hlaw os started H enc)
theorem recursorCloses_holds : Rows.RecursorClosesSaid := recursorCloses_of (fun _ h => Go.Ev.law4 Go.Ev.h6 h)
end Go.Proofs.YtmnofcchfbkbeaaGreat
