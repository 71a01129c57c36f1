/- The document: what its recursors are (own work). -/
import Derived.Test.YtmnofcchfbkbeaaGreatXr
namespace Go.Ev
open Go.Proofs Go.RowKit
set_option maxRecDepth 100000
set_option linter.unusedVariables false
set_option linter.unusedSimpArgs false
theorem eE (cs l:List V):bg V.strip (.imm 0 cs::l)=.imm 0 cs::bg V.strip l:=rfl
structure Bq (d:Dl) (fx p:Nat) (W:Nat):Prop where
 dl:pW d W
 nm:vl d
 hfx:d.fixed=.ofNat fx
 hpp:d.params=.ofNat p
 f12:fx≤12
 p4:p < 4
 gd:∀i∈d.ai,Gd W 4096 i.ty∧fx≤(ak i.ty).1.length∧∀c∈i.cs,Gd W 4096 c.ty∧fx≤(ak c.ty).1.length
noncomputable def eh:Nat→Tm→Tm:=fun n t=>Nat.rec t (fun _ c=>(c.ts[1]?).getD zTm) n
theorem j0 {x:Tm} (hx:dG x):∀(n:Nat),n≤(ak x).1.length→ma x n ((ak x).1.take n) (eh n x)
 | 0,_=>ma.start hx
 | n + 1,hn=>by
  have h:=j0 hx n (by omega)
  obtain⟨hk,a,b,ht,h'⟩:=h.next (by omega)
  have e:eh (n + 1) x=b:=by
   show ((eh n x).ts[1]?).getD zTm=b
   rw [ht];rfl
  rw [e]
  exact⟨h'.all,rfl,h'.rest,h'.last⟩
theorem rU {W:Nat} {c:Int} {x:Tm} (hx:Gd W c x):∀(n:Nat),n≤(ak x).1.length→Gd W c (eh n x)
 | 0,_=>hx
 | n + 1,hn=>by
  have h:=j0 hx.all n (by omega)
  obtain⟨hk,a,b,ht,h'⟩:=h.next (by omega)
  have e:eh (n + 1) x=b:=by
   show ((eh n x).ts[1]?).getD zTm=b
   rw [ht];rfl
  rw [e]
  exact (rU hx n (by omega)).kid (by rw [ht];simp)
noncomputable def vu (fx:Nat) (t:Tm) (aa:Nat):Tm:=a8 (eh fx t) 0 (.ofNat aa - .ofNat fx)
noncomputable def aI (fx:Nat) (t:Tm) (aa:Nat):List Tm×Tm:=ak (vu fx t aa)
theorem Io {W fx:Nat} {t:Tm} {aa:Nat} (h:Gd W 4096 t) (hf:fx≤(ak t).1.length) (h1:fx≤aa) (h2:aa≤100000):Gd W 200000 (vu fx t aa):=by
 have hg:=(rU h fx hf).lift (b:=.ofNat aa - .ofNat fx) (by simp only [aOn];omega) (by simp only [aOn];omega) 0
 exact hg.mono (by simp only [aOn];omega)
def Pj (fx:Nat) (t:Tm) (aa:Nat) (H:List Blk) (T:List Nat) (q:V×St):Prop:=
 ∃T' tok,q=(.tuple [.list (au false (aI fx t aa).1) tok 0 (ae (aI fx t aa).1),aH (aI fx t aa).2],{ heap:=H,aA:=T' })∧aw T T' (aI fx t aa).1 tok
theorem bdN {a:Nat} (h:a≤1000000000):Bd (.ofNat a):=by unfold Bd;simp only [aOn];omega
noncomputable def iW (fx p:Nat) (name:List UInt8) (aa:Nat) (l:List Tm):Tm:=eH (eH (pU name false (eW p).isEmpty (eW p)) (eK 0 fx (.ofNat aa))) l
noncomputable def iF (fx p:Nat) (u:Lv) (x:In) (aa:Nat):Tm:=
 let l:=(aI fx x.ty aa).1
 fC 6 (l++[iW fx p x.name (aa + l.length) (eK aa l.length (.ofNat (aa + l.length)))]) (GP u)
section
variable {n:Nat} {d:Dl} {sh:List Sh} {m:Nat} {u:Lv} {fx p W:Nat} {H:List Blk} {T:List Nat} {S:St}
end
theorem ML {x A B:Tm} {a b:Int} (h:iEq x.k 6=true) (ht:x.ts=[A,B]) (ha : -1000000000≤a∧a≤1000000000):(a8 x a b).k=x.k∧(a8 x a b).ts=[a8 A a b,a8 B (a + 1) b]:=by
 have hk:iEq x.k 2=false:=by
  rw [bp,decide_eq_true_eq] at h
  rw [h];rfl
 rw [jZ hk,ot,nD,ht]
 refine⟨rfl,?_⟩
 rw [bp,decide_eq_true_eq] at h
 rw [h]
 show [a8 A (dv a (aY 6 (.ofNat 0))) b,a8 B (dv a (aY 6 (.ofNat 1))) b]=_
 rw [show aY 6 (.ofNat 0)=0 from rfl,show aY 6 (.ofNat 1)=1 from rfl]
 rw [show dv a 0=a + 0 from ec (by omega) (by omega),show dv a 1=a + 1 from ec (by omega) (by omega)]
 simp
theorem GX {x:Tm} {a b:Int}:(a8 x a b).k=x.k:=by
 cases hk:iEq x.k 2 with
 | true=>
  rw [nC hk]
  cases (!iLt x.n a) with
  | true=>simp only [cond_true,Bp]
  | false=>rfl
 | false=>rw [jZ hk,ot]
noncomputable def mh (b:Int):List Tm→Int→List Tm
 | [],_=>[]
 | t::ts,a=>a8 t a b::mh b ts (a + 1)
theorem ou (b:Int):∀(ts:List Tm) (a:Int),(mh b ts a).length=ts.length
 | [],a=>rfl
 | t::ts,a=>by rw [mh,aLc,aLc,ou b ts]
theorem rV (b:Int):∀(ts:List Tm) (a:Int) (i:Nat) (t:Tm),ts[i]?=some t→(mh b ts a)[i]?=some (a8 t (a + .ofNat i) b)
 | [],a,i,t,h=>by simp at h
 | x::ts,a,0,t,h=>by
  simp at h;subst h
  rw [mh]
  show some (a8 x a b)=some (a8 x (a + 0) b)
  rw [Int.add_zero]
 | x::ts,a,i + 1,t,h=>by
  rw [mh]
  have:=rV b ts (a + 1) i t (by simpa using h)
  show (mh b ts (a + 1))[i]?=_
  rw [this]
  congr 2
  simp only [aOn];omega
theorem sZ:∀(w:Nat) (x:Tm),wt x≤w→dG x→∀(a b:Int),0≤a→a + w≤900000000→
 ak (a8 x a b)=(mh b (ak x).1 a,a8 (ak x).2 (a + .ofNat (ak x).1.length) b)
 | 0,x,h,_,_,_,_,_=>by rw [cr] at h;omega
 | w + 1,x,h,hx,a,b,h0,hw=>by
  obtain⟨h1,h2⟩:=(bX x).1 hx
  cases hk:iEq x.k 6 with
  | false=>
   rw [lu hk,lu (by rw [GX];exact hk)]
   show ([],a8 x a b)=([],a8 x (a + 0) b)
   rw [Int.add_zero]
  | true=>
   obtain⟨A,B,ht⟩:=eO h1 (mL hk)
   obtain⟨e1,e2⟩:=ML (b:=b) hk ht (show -1000000000≤a∧a≤1000000000 by omega)
   have hB:=cz (x:=B) (y:=x) (by rw [ht];simp)
   rw [kj hk ht,kj (by rw [e1];exact hk) e2,sZ w B (by omega) (h2 B (by rw [ht];simp)) (a + 1) b (by omega) (by omega)]
   refine Prod.ext ?_ ?_
   ·show _::_=_
    rw [mh]
   ·show a8 _ _ _=a8 _ _ _
    congr 1
    simp only [aLc,aOn]
    omega
theorem DD {x:Tm} (hx:dG x) {n:Nat} (hn:n≤(ak x).1.length):ak (eh n x)=((ak x).1.drop n,(ak x).2):=by
 have h:=j0 hx n hn
 exact Prod.ext h.rest h.last
theorem ue {W fx:Nat} {t:Tm} {aa:Nat} (h:Gd W 4096 t) (hW:W≤100000000) (hf:fx≤(ak t).1.length) :
 aI fx t aa=(mh (.ofNat aa - .ofNat fx) ((ak t).1.drop fx) 0,a8 (ak t).2 (.ofNat ((ak t).1.length - fx)) (.ofNat aa - .ofNat fx)):=by
 have hg:=rU h fx hf
 unfold aI vu
 rw [sZ _ _ (Nat.le_refl _) hg.all 0 _ (by omega) (by have:=hg.le;omega),DD h.all hf]
 simp only [List.length_drop]
 rw [Int.zero_add]
theorem jA {W fx:Nat} {t:Tm} {aa:Nat} (h:Gd W 4096 t) (hW:W≤100000000) (hf:fx≤(ak t).1.length):(aI fx t aa).1.length=(ak t).1.length - fx:=by
 rw [ue h hW hf]
 show (mh _ _ _).length=_
 rw [ou,List.length_drop]
noncomputable def GY (d:Dl) (y:Nat):List UInt8:=((d.ai[y]?).map (·.name)).getD []
noncomputable def Kg (d:Dl) (fx p:Nat) (u:Lv) (m y deep:Nat):Tm:=eH (pU (GY d y++cI) false (eW p++[u]).isEmpty (eW p++[u])) (eK 0 (fx + d.ai.length + m) (.ofNat deep))
noncomputable def uX (d:Dl) (fx p:Nat) (u:Lv) (m:Nat) (k:Int) (y deep:Nat):Tm:=match iEq k 6 with
 | true=>ch (.ofNat (fx + y)) (.ofNat deep)
 | false=>Kg d fx p u m y deep
noncomputable def itR (f aa n:Nat):Tm:=eH (ch (.ofNat f) (.ofNat (aa + n))) (eK aa n (.ofNat (aa + n)))
noncomputable def mY (d:Dl) (fx p:Nat) (u:Lv) (m:Nat) (k:Int) (t:Tm) (f aa:Nat):Tm:=
 match iLt (cD d fx (ak t).2 (.ofNat (aa + (ak t).1.length))).1 0 with
 | true=>zTm
 | false=>fC k (ak t).1 (eH (eH (uX d fx p u m k (cD d fx (ak t).2 (.ofNat (aa + (ak t).1.length))).1.toNat (aa + (ak t).1.length)) (cD d fx (ak t).2 (.ofNat (aa + (ak t).1.length))).2) [itR f aa (ak t).1.length])
theorem xK (d:Dl) (fx:Nat) (t:Tm) (aa:Int):(cD d fx t aa).1 = -1∨∃(j:Nat) (x:In),(cD d fx t aa).1=.ofNat j∧d.ai[j]?=some x:=by
 unfold cD
 cases hb:dq d fx t aa with
 | false=>exact .inl rfl
 | true=>
  right
  unfold dq kI at hb
  simp only [Bool.and_eq_true] at hb
  have h2:=hb.1.2
  cases hw:dw (fun i=>decide (i.name=(aD t).1.s)) d.ai 0 with
  | none=>rw [hw] at h2;cases h2
  | some j=>
   obtain⟨hq,x,hx⟩:=oj hw
   exact⟨j,x,hq,hx⟩
section
variable {n:Nat} {d:Dl} {sh:List Sh} {m:Nat} {u:Lv} {fx p W:Nat} {S:St}
end
theorem Kh {x A B:Tm} {a b:Int} (h:iEq x.k 4=true) (ht:x.ts=[A,B]) (ha : -1000000000≤a∧a≤1000000000):(a8 x a b).k=x.k∧(a8 x a b).ts=[a8 A a b,a8 B a b]:=by
 have hk:iEq x.k 2=false:=by
  rw [bp,decide_eq_true_eq] at h
  rw [h];rfl
 rw [jZ hk,ot,nD,ht]
 refine⟨rfl,?_⟩
 rw [bp,decide_eq_true_eq] at h
 rw [h]
 show [a8 A (dv a (aY 4 (.ofNat 0))) b,a8 B (dv a (aY 4 (.ofNat 1))) b]=_
 rw [show aY 4 (.ofNat 0)=0 from rfl,show aY 4 (.ofNat 1)=0 from rfl]
 rw [show dv a 0=a + 0 from ec (by omega) (by omega),Int.add_zero]
theorem ov:∀(w:Nat) (x:Tm),wt x≤w→dG x→∀(a b:Int),0≤a→a≤900000000→
 aD (a8 x a b)=(a8 (aD x).1 a b,(aD x).2.map fun t=>a8 t a b)
 | 0,x,h,_,_,_,_,_=>by rw [cr] at h;omega
 | w + 1,x,h,hx,a,b,h0,hw=>by
  obtain⟨h1,h2⟩:=(bX x).1 hx
  cases hk:iEq x.k 4 with
  | false=>
   rw [hZ hk,hZ (by rw [GX];exact hk)]
   rfl
  | true=>
   obtain⟨A,B,ht⟩:=eO h1 (l9 hk)
   obtain⟨e1,e2⟩:=Kh (b:=b) hk ht (show -1000000000≤a∧a≤1000000000 by omega)
   have hA:=cz (x:=A) (y:=x) (by rw [ht];simp)
   rw [gf hk ht,gf (by rw [e1];exact hk) e2,ov w A (by omega) (h2 A (by rw [ht];simp)) a b h0 hw]
   simp
theorem mi {LT sz by' : Nat} {z' : List V} {H:List Blk} {T0 T:List Nat} {done new:List Tm} {tok bH:Tok} {c0 c:Bool} (hl:Tryz.cfg.ti LT=some { kind:=.slice 25,size:=sz,bytes:=by',zero:=z' })
 (hlen:done.length + new.length < 1000000000) (hg:aw T0 T done tok) :
 ∃c' T' aP,(∀(A:Env) (ac:Acc),ac.heap=true→append Tryz.cfg A { heap:=H,aA:=T } ac LT (.list (au c0 done) tok 0 (ae done)) (.list (au c new) bH 0 (ae new))=some (.list (au c' (done++new)) aP 0 (ae (done++new)),{ heap:=H,aA:=T' }))∧aw T0 T' (done++new) aP:=by
 have hq:(ae new).isEmpty=true∨au c new=5:=by
  rcases jx c new with rfl | h
  ·left;rw [ae];rfl
  ·exact .inr h
 have hr:∀(A:Env) (ac:Acc) (S:St),fX A S ac 5 (.list (au c new) bH 0 (ae new))=some (0,ae new):=fun A ac S=>by unfold fX;exact if_pos hq
 by_cases hn:new=[]
 ·subst hn
  refine⟨c0,T,tok,?_,by rw [List.append_nil];exact hg⟩
  intro A ac hac
  unfold append
  simp only [hl,show Tryz.cfg.ti 25=some Tryz.ti25 from rfl,show Tryz.ti25.size=5 from rfl,hr]
  rw [show (ae ([]:List Tm)).isEmpty=true by rw [ae];rfl,List.append_nil]
  rfl
 ·have hw:fy T0 T (ae done) tok:=by
   have h2:=hg.w
   refine⟨h2.1,h2.2.imp id (fun⟨t,h1,h2,h3,h4⟩=>⟨t,h1,h2,by rw [← an,al];exact h3,fun e=>h4 ?_⟩)⟩
   have:=al done
   rw [e] at this
   exact List.eq_nil_of_length_eq_zero this.symm
  have hne:ae new≠[]:=fun e=>hn (by
   have:=al new
   rw [e] at this
   exact List.eq_nil_of_length_eq_zero this.symm)
  obtain⟨T',aP,h1,h2⟩:=xH (ei:=Tryz.ti25) (H:=H) (sz:=au c0 done) (new:=ae new) (by decide) (by decide) (by rw [← an,← an,al,al];exact hlen) (by
   rcases jx c0 done with rfl | h
   ·left;rw [ae]
   ·exact .inr h) hw hne
  have e:ae done++ae new=ae (done++new):=by rw [nx,bK]
  rw [e] at h1 h2
  refine⟨false,T',aP,?_,(aw.map ae (fun l=>by rw [← an,al])).1 h2⟩
  intro A ac hac
  have hf:(ae new).isEmpty=false:=by cases hx:ae new with | nil=>exact absurd hx hne | cons a l=>rfl
  unfold append
  simp only [hl,show Tryz.cfg.ti 25=some Tryz.ti25 from rfl,show Tryz.ti25.size=5 from rfl,hr,hf,Bool.false_eq_true,if_false]
  have hs:au false (done++new)=5:=by
   cases hd:done++new with
   | nil=>simp [hn] at hd
   | cons a l=>rfl
  rw [hs]
  exact h1 ac hac
theorem MM {sh:List Sh} {x:Nat} {s:Sh} (h:sh[x]?=some s) (hne:s.fields≠[]):indexAddr Tryz.cfg 39 (.list 7 .no 0 (sh.map bQ)) (.int .i64 (.ofNat x))=some (.imm 0 [.int .i64 s.index,.int .i64 s.level.c,.int .i64 s.level.p0,.int .i64 s.level.p1,.int .i64 s.level.p2,.int .i64 s.level.p3,.list 1 .no 0 (s.fields.map bj)]):=by
 have h1:indexAddr Tryz.cfg 39 (.list 7 .no 0 (sh.map bQ)) (.int .i64 (.ofNat x))=some (.imm 0 (sV s)):=dI (ei:=Tryz.ti54) rfl rfl h
 rw [h1]
 have:jX 1 (s.fields.map fun fs=>V.agg [rh fs])=.list 1 .no 0 (s.fields.map bj):=by
  cases hs:s.fields with
  | nil=>exact absurd hs hne
  | cons a r=>rfl
 rw [← this]
noncomputable def fV (d:Dl) (fx p:Nat) (u:Lv) (m n aa:Nat):List (Tm×(Int×Int))→Nat→Nat→List Tm
 | [],_,_=>[]
 | q::r,i,h=>match !iLt q.2.1 0 with
  | true=>mY d fx p u m 6 (a8 q.1 0 (.ofNat (n - i + h))) (aa + i) (aa + n + h)::fV d fx p u m n aa r (i + 1) (h + 1)
  | false=>fV d fx p u m n aa r (i + 1) h
noncomputable def kV (d:Dl) (fx p:Nat) (u:Lv) (m:Nat) (fs:List (Int×Int)) (x:Nat) (c:Ct) (aa:Nat):Tm:=
 let B:=aI fx c.ty aa
 let hs:=fV d fx p u m B.1.length aa (B.1.zip fs) 0 0
 let deep:=aa + B.1.length + hs.length
 fC 6 (B.1++hs) (eH (eH (ch (.ofNat (fx + x)) (.ofNat deep)) ((aD (a8 B.2 0 (.ofNat hs.length))).2.drop fx)) [iW fx p c.name deep (eK aa B.1.length (.ofNat deep))])
theorem s7 (d:Dl) (fx p:Nat) (u:Lv) (m n aa:Nat):∀(l:List (Tm×(Int×Int))) (i h:Nat),(fV d fx p u m n aa l i h).length≤l.length
 | [],i,h=>by simp [fV]
 | q::r,i,h=>by
  unfold fV
  have h1:=s7 d fx p u m n aa r (i + 1) (h + 1)
  have h2:=s7 d fx p u m n aa r (i + 1) h
  cases (!iLt q.2.1 0) with
  | true=>simp only [aLc];omega
  | false=>simp only [aLc];omega
theorem GZ (d:Dl) (fx p:Nat) (u:Lv) (m n aa:Nat) {l:List (Tm×(Int×Int))} {i h:Nat} {t:Tm} {f:Int×Int} (hq:l[i]?=some (t,f)) :
 fV d fx p u m n aa (l.drop i) i h=match !iLt f.1 0 with
  | true=>mY d fx p u m 6 (a8 t 0 (.ofNat (n - i + h))) (aa + i) (aa + n + h)::fV d fx p u m n aa (l.drop (i + 1)) (i + 1) (h + 1)
  | false=>fV d fx p u m n aa (l.drop (i + 1)) (i + 1) h:=by
 obtain⟨hj,e⟩:=aGs hq
 rw [List.drop_eq_getElem_cons hj,e,fV]
section
variable {n:Nat} {d:Dl} {sh:List Sh} {m:Nat} {u:Lv} {fx p W:Nat} {S:St}
end
noncomputable def fsR (sh:List Sh) (x j:Nat):List (Int×Int):=((sh[x]?).bind fun s=>s.fields[j]?).getD []
structure Pk (d:Dl) (sh:List Sh) (fx:Nat):Prop where
 len:sh.length=d.ai.length
 at_:∀(x:Nat) (i:In),d.ai[x]?=some i→(ak i.ty).1.length≤fx + 12∧∃s:Sh,sh[x]?=some s∧s.fields.length=i.cs.length∧∀(j:Nat) (c:Ct),i.cs[j]?=some c→∃fs:List (Int×Int),s.fields[j]?=some fs∧fs.length=(ak c.ty).1.length - fx∧(ak c.ty).1.length≤fx + 12∧fx≤(aD (ak c.ty).2).2.length
section
variable (d:Dl) (sh:List Sh) (fx p:Nat) (u:Lv) (m:Nat)
noncomputable def xL (x:Nat) (i:In) (base:Nat):List Tm:=(i.cs.zipIdx 0).map fun q=>kV d fx p u m (fsR sh x q.2) x q.1 (base + q.2)
noncomputable def mj:List (In×Nat)→Nat→List Tm
 | [],_=>[]
 | q::r,base=>xL d sh fx p u m q.2 q.1 base++mj r (base + q.1.cs.length)
noncomputable def uY:List Tm:=(d.ai.zipIdx 0).map fun q=>iF fx p u q.1 (fx + q.2)
noncomputable def ow:List Tm:=(ak (in0 d).ty).1.take fx
noncomputable def aU:List Tm:=ow d fx++uY d fx p u++mj d sh fx p u m (d.ai.zipIdx 0) (fx + d.ai.length)
end
theorem uf (d:Dl) (sh:List Sh) (fx p:Nat) (u:Lv) (m:Nat) (x:Nat) (i:In) (base:Nat):(xL d sh fx p u m x i base).length=i.cs.length:=by unfold xL;simp
theorem MN (d:Dl) (sh:List Sh) (fx p:Nat) (u:Lv) (m:Nat) {l:List (In×Nat)} {j x:Nat} {i:In} {base:Nat} (h:l[j]?=some (i,x)) :
 mj d sh fx p u m (l.drop j) base=xL d sh fx p u m x i base++mj d sh fx p u m (l.drop (j + 1)) (base + i.cs.length):=by
 obtain⟨hj,e⟩:=aGs h
 rw [List.drop_eq_getElem_cons hj,e,mj]
theorem DE (d:Dl) (sh:List Sh) (fx p:Nat) (u:Lv) (m:Nat):∀(l:List (In×Nat)) (base:Nat),(∀q∈l,q.1.cs.length≤20)→(mj d sh fx p u m l base).length≤l.length * 20
 | [],base,_=>by simp [mj]
 | q::r,base,h=>by
  rw [mj,aLa,uf,aLc,Nat.add_mul]
  have:=DE d sh fx p u m r (base + q.1.cs.length) (fun y hy=>h y (aMt _ hy))
  have:=h q aMs
  omega
theorem DF {sh:List Sh} {x j:Nat} {s:Sh} {fs:List (Int×Int)} (h1:sh[x]?=some s) (h2:s.fields[j]?=some fs):fsR sh x j=fs:=by
 unfold fsR
 rw [h1]
 show (s.fields[j]?).getD []=fs
 rw [h2];rfl
section
variable {n:Nat} {d:Dl} {sh:List Sh} {m:Nat} {u:Lv} {fx p W:Nat} {H:List Blk} {T:List Nat}
theorem qE (hb:Bq d fx p W) (h0:d.ai[0]?=some (in0 d)):(ow d fx).length=fx:=by
 have:=(hb.gd (in0 d) (aMg h0)).2.1
 unfold ow
 rw [List.length_take];omega
theorem vw {l:List In} {j:Nat} {x:In} (h:l[j]?=some x):(l.zipIdx 0)[j]?=some (x,j):=by rw [List.getElem?_zipIdx,h];simp
theorem Ki {l:List Ct} {j:Nat} {x:Ct} (h:l[j]?=some x):(l.zipIdx 0)[j]?=some (x,j):=by rw [List.getElem?_zipIdx,h];simp
theorem ml (hb:Bq d fx p W) (h0:d.ai[0]?=some (in0 d)):(aU d sh fx p u m).length≤222:=by
 have h1:=qE hb h0
 have h2:=hb.dl.few
 have h3:=hb.f12
 have h4:=DE d sh fx p u m (d.ai.zipIdx 0) (fx + d.ai.length) (fun q hq=>by
  obtain⟨i,x⟩:=q
  exact hb.nm.cs i (List.fst_mem_of_mem_zipIdx hq))
 rw [List.length_zipIdx] at h4
 have:d.ai.length * 20≤10 * 20:=Nat.mul_le_mul (by omega) (by omega)
 unfold aU uY
 simp only [aLa,aLm,List.length_zipIdx]
 omega
end
section
variable (d:Dl) (sh:List Sh) (fx p:Nat) (u:Lv) (m:Nat)
noncomputable def zE (i:In):List Tm:=
 let A:=aU d sh fx p u m
 let idx:=(aI fx i.ty A.length).1
 A++idx++[iW fx p i.name (A++idx).length (eK A.length idx.length (.ofNat (A++idx).length))]
noncomputable def gJ (x:Nat) (i:In):Tm:=
 let A:=aU d sh fx p u m
 let idx:=(aI fx i.ty A.length).1
 fC 6 (zE d sh fx p u m i) (eH (ch (.ofNat (fx + x)) (.ofNat ((A++idx).length + 1))) (eK A.length idx.length (.ofNat ((A++idx).length + 1))++[ch (.ofNat (A++idx).length) (.ofNat ((A++idx).length + 1))]))
noncomputable def ic (x c:Nat):Nat:=c + ((d.ai.take x).map fun i=>i.cs.length).sum
end
theorem s8 {l:List In} {j:Nat} {x:In} (h:l[j]?=some x):((l.take (j + 1)).map fun i=>i.cs.length).sum=((l.take j).map fun i=>i.cs.length).sum + x.cs.length:=by
 rw [map_take _ _ _ _ h];simp
theorem qa {l:List In} (hl:∀i∈l,i.cs.length≤20):∀j,((l.take j).map fun i=>i.cs.length).sum≤l.length * 20:=by
 induction l with
 | nil=>intro j;simp
 | cons a r ih=>
  intro j
  cases j with
  | zero=>simp
  | succ j=>
   have:=ih (fun i hi=>hl i (aMt _ hi)) j
   have:=hl a aMs
   simp only [List.take_succ_cons,List.map_cons,List.sum_cons,aLc,Nat.add_mul]
   omega
section
variable {n:Nat} {d:Dl} {sh:List Sh} {m:Nat} {u:Lv} {fx p W:Nat} {S:St}
theorem nE (h0:d.ai[0]?=some (in0 d)) (hb:Bq d fx p W):fx≤(aU d sh fx p u m).length:=by
 have h1:=qE hb h0
 unfold aU
 simp only [aLa];omega
end
noncomputable def kK (d:Dl) (fx p:Nat) (u:Lv) (m n len deep:Nat):List (Tm×(Int×Int))→Nat→Tm→Tm
 | [],_,t=>t
 | q::r,i,t=>match !iLt q.2.1 0 with
  | true=>kK d fx p u m n len deep r (i + 1) (pS t (mY d fx p u m 5 (a8 q.1 0 (.ofNat (len - i))) (n + i) deep))
  | false=>kK d fx p u m n len deep r (i + 1) t
noncomputable def ld (d:Dl) (sh:List Sh) (fx p:Nat) (u:Lv) (m x ci:Nat) (c:Ct) (fs:List (Int×Int)):List UInt8×Nat×Tm:=
 let A:=aU d sh fx p u m
 let F:=(aI fx c.ty A.length).1
 let deep:=A.length + F.length
 (c.name,F.length,fC 5 (A++F) (kK d fx p u m A.length F.length deep (F.zip fs) 0 (eH (ch (.ofNat (fx + d.ai.length + ic d x ci)) (.ofNat deep)) (eK A.length F.length (.ofNat deep)))))
noncomputable def ie (r:List UInt8×Nat×Tm):List V:=.str r.1::.int .i64 (.ofNat r.2.1)::aC r.2.2
noncomputable def cj (r:List UInt8×Nat×Tm):V:=.agg (ie r)
theorem G0 (d:Dl) (fx p:Nat) (u:Lv) (m n len deep:Nat) {l:List (Tm×(Int×Int))} {i:Nat} {t:Tm} {f:Int×Int} {a:Tm} (hq:l[i]?=some (t,f)) :
 kK d fx p u m n len deep (l.drop i) i a=match !iLt f.1 0 with
  | true=>kK d fx p u m n len deep (l.drop (i + 1)) (i + 1) (pS a (mY d fx p u m 5 (a8 t 0 (.ofNat (len - i))) (n + i) deep))
  | false=>kK d fx p u m n len deep (l.drop (i + 1)) (i + 1) a:=by
 obtain⟨hj,e⟩:=aGs hq
 rw [List.drop_eq_getElem_cons hj,e,kK]
theorem uZ (r:List UInt8×Nat×Tm):(cj r).strip=cj r:=by
 have:bg aj (aC r.2.2)=aC r.2.2:=by
  have:=fu r.2.2
  show _=_
  have h2:(aH r.2.2).strip=.agg (bg aj (aC r.2.2)):=rfl
  rw [h2] at this
  injection this
 show V.agg (bg aj (ie r))=_
 unfold cj ie
 show V.agg (V.str r.1::.int .i64 (.ofNat r.2.1)::bg aj (aC r.2.2))=_
 rw [this]
section
variable {n:Nat} {d:Dl} {sh:List Sh} {m:Nat} {u:Lv} {fx p W:Nat} {S:St}
end
noncomputable def dr:List Sh→Bool
 | [s]=>iEq s.index 0 && (match s.fields with | [f::fs]=>(f::fs).all fun f=>iLt f.1 0 | _=>false)
 | _=>false
noncomputable def zF (i:Nat) (s:List UInt8) (x:Tm):Tm:=.mk 8 (.ofNat i) s false true false true [] [x]
noncomputable def qb (d:Dl) (sh:List Sh) (fx p:Nat) (u:Lv) (m:Nat):List Tm:=
 aU d sh fx p u m++[iW fx p (in0 d).name (aU d sh fx p u m).length []]
noncomputable def mZ (d:Dl) (sh:List Sh) (fx p:Nat) (u:Lv) (m k:Nat):Tm:=
 (List.range k).foldl (fun t i=>pS t (zF i (in0 d).name (ch (.ofNat (aU d sh fx p u m).length) (.ofNat ((aU d sh fx p u m).length + 1))))) (ch (.ofNat (fx + 1)) (.ofNat ((aU d sh fx p u m).length + 1)))
noncomputable def fs0 (sh:List Sh):List (Int×Int):=fsR sh 0 0
noncomputable def jB (d:Dl) (sh:List Sh) (fx p:Nat) (u:Lv) (m:Nat):Tm:=fC 5 (qb d sh fx p u m) (mZ d sh fx p u m (fs0 sh).length)
theorem Pl {ix:Int} {lv:Lv} (fs:List (Int×Int)) (h:iEq ix 0=false):dr [Sh.mk ix lv [fs]]=false:=by simp only [dr,h,Bool.false_and]
theorem xM {sh:List Sh} (h:dr sh=true):∃s f fs,sh=[s]∧s.fields=[f::fs]∧fs0 sh=f::fs:=by
 unfold dr at h
 split at h
 ·rename_i s
  cases hf:s.fields with
  | nil=>rw [hf] at h;simp at h
  | cons a r=>
   cases r with
   | nil=>
    cases a with
    | nil=>rw [hf] at h;simp at h
    | cons f fs=>exact⟨s,f,fs,rfl,hf,by unfold fs0 fsR;simp [hf]⟩
   | cons b r=>rw [hf] at h;simp at h
 ·cases h
section
variable {n:Nat} {d:Dl} {sh:List Sh} {m:Nat} {u:Lv} {fx p W:Nat} {S:St}
theorem Pm (i:Nat) (s:List UInt8) (x:Tm):buildSlice Tryz.cfg 23 1 [(0,.agg [.int .u8 8,.int .i64 (.ofNat i),.str s,.list 0 .tight 0 [],.list (au false [x]) .tight 0 (ae [x])])]=some (.list (au false [zF i s x]) .tight 0 (ae [zF i s x])):=bs1 (zF i s x) 23 _ _ _ rfl
end
theorem j5 {α β:Type} {f:α→Option β}:∀{xs:List α} {l:List β} {j:Nat} {x:α},bP f xs=some l→xs[j]?=some x→∃y,l[j]?=some y∧f x=some y
 | [],l,j,x,_,h=>by simp at h
 | a::xs,l,0,x,h,h2=>by
  simp at h2;subst h2
  rw [bS] at h
  obtain⟨b,m,k1,k2,rfl⟩:=cT h
  exact⟨b,rfl,k1⟩
 | a::xs,l,j + 1,x,h,h2=>by
  rw [bS] at h
  obtain⟨b,m,k1,k2,rfl⟩:=cT h
  exact j5 (j:=j) k2 (by simpa using h2)
structure Good (d:Dl) (sh:List Sh):Prop where
 bk:Bq d (fxN d) (pN d) 4000000
 so:Pk d sh (fxN d)
 h0:d.ai[0]?=some (in0 d)
 sm:∀s∈sh,∀fs∈s.fields,fs.length≤12
 three:d.ai.length≤3
 eight:∀i∈d.ai,i.cs.length≤8
 may:∀i∈d.ai,gC i.ty=true∧∀c∈i.cs,gC c.ty=true
 low:∀i∈d.ai,hiT (pN d) i.ty=false∧∀c∈i.cs,hiT (pN d) c.ty=false
 nms:mf d=true
 shape:gI d (fxN d)=some sh
theorem u6 {d:Dl} {fx:Nat} {t:Tm} {fs:List (Int×Int)} (h:b9 d fx t=some fs):fs.length=(ak t).1.length - fx:=by
 unfold b9 at h
 cases hl:iE d fx (ak t).1 with
 | none=>rw [hl] at h;cases h
 | some l=>
  rw [hl] at h
  simp only at h
  split at h
  ·cases h
  ·cases h
   have:=ev hl
   simpa using this
theorem G1 {d:Dl} {W:Nat} {sh:List Sh} (hd:rT d W) (h:ofR d=(sh,0)):Good d sh:=by
 unfold ofR at h
 split at h
 ·cases h
 rename_i hA
 split at h
 ·cases h
 rename_i hB
 split at h
 ·cases h
 rename_i hN
 split at h
 ·cases h
 rename_i hC
 split at h
 ·cases h
 rename_i l hS
 cases h
 simp only [Bool.and_eq_true] at hA hB hC
 obtain⟨ha,hf,hm⟩:=hA
 obtain⟨hp,hlo⟩:=hB
 obtain⟨hfo,hct⟩:=hC
 unfold iq at ha
 simp only [Bool.and_eq_true,Bool.not_eq_true',cb,decide_eq_false_iff_not,aOn] at ha
 obtain⟨_,_,_,_,a1,a2,a3,a4⟩:=ha
 unfold ud at hp
 simp only [Bool.and_eq_true,Bool.not_eq_true',cb,decide_eq_false_iff_not,decide_eq_true_eq] at hp
 have hfx:d.fixed=.ofNat (fxN d):=by unfold fxN;simp only [aOn];omega
 have hpp:d.params=.ofNat (pN d):=by unfold pN;simp only [aOn];omega
 have p8:fxN d≤12:=by unfold fxN;omega
 have tc:∀i∈d.ai,fxN d≤(ak i.ty).1.length∧(ak i.ty).1.length≤fxN d + 12:=fun i hi=>by
  have hq:=List.all_eq_true.1 hfo i hi
  refine⟨(sW hq hfx).1,?_⟩
  unfold nB at hq
  simp only [Bool.and_eq_true] at hq
  have:=hq.2.2.1
  rw [hfx,cb] at this
  simp only [Bool.not_eq_true',decide_eq_false_iff_not,aOn] at this
  omega
 have Kj:∀i∈d.ai,∀c∈i.cs,fxN d≤(ak c.ty).1.length∧(ak c.ty).1.length≤fxN d + 12∧fxN d≤(aD (ak c.ty).2).2.length:=fun i hi c hc=>by
  obtain⟨j,hj⟩:=List.mem_iff_getElem?.1 hi
  have hz:(d.ai.zipIdx 0)[j]?=some (i,j):=by rw [List.getElem?_zipIdx,hj];simp
  have hq:=List.all_eq_true.1 (List.all_eq_true.1 hct _ (aMg hz)) c hc
  refine⟨Bo hq hfx,?_⟩
  unfold mg at hq
  simp only [Bool.and_eq_true] at hq
  obtain⟨q1,q2,q3,q4⟩:=hq
  rw [hfx,cb] at q2
  simp only [Bool.not_eq_true',decide_eq_false_iff_not,aOn] at q2
  refine⟨by omega,?_⟩
  unfold cD at q4
  cases hmb:dq d (fxN d) (ak c.ty).2 (.ofNat (ak c.ty).1.length) with
  | false=>
   rw [hmb] at q4
   simp only [bp,decide_eq_true_eq,aOn] at q4
   omega
  | true=>
   unfold dq kI at hmb
   simp only [Bool.and_eq_true] at hmb
   have h2:=hmb.1.2
   cases hw:dw (fun i=>decide (i.name=(aD (ak c.ty).2).1.s)) d.ai 0 with
   | none=>rw [hw] at h2;cases h2
   | some k=>
    obtain⟨_,x,hx⟩:=oj hw
    rw [hw] at h2
    simp only [hx,Bool.and_eq_true] at h2
    have h3:=h2.2
    have hxf:=(tc x (aMg hx)).1
    unfold aZ at h3
    rw [hfx,bp,decide_eq_true_eq] at h3
    simp only [aOn] at h3
    omega
 have hdl:=Kc hd hm
 have hmy:∀i∈d.ai,gC i.ty=true∧∀c∈i.cs,gC c.ty=true:=fun i hi=>⟨List.all_eq_true.1 hm _ (dM hi).1,fun c hc=>List.all_eq_true.1 hm _ ((dM hi).2 c hc)⟩
 have hgd:∀t,gC t=true→Gd 4000000 4096 t:=fun t ht=>by
  have hv:=uW ht
  unfold gC at ht
  simp only [Bool.and_eq_true] at ht
  exact⟨cH ht.1,hv,fv ht.1⟩
 have hlen:=ev hS
 have hat:∀(x:Nat) (i:In),d.ai[x]?=some i→∃s:Sh,sh[x]?=some s∧s.fields.length=i.cs.length∧∀(j:Nat) (c:Ct),i.cs[j]?=some c→∃fs:List (Int×Int),s.fields[j]?=some fs∧fs.length=(ak c.ty).1.length - fxN d:=fun x i hx=>by
  obtain⟨s,s1,s2⟩:=j5 hS hx
  unfold iM at s2
  cases hq:bP (fun c:Ct=>b9 d (fxN d) c.ty) i.cs with
  | none=>rw [hq] at s2;cases s2
  | some fss=>
   rw [hq] at s2
   cases s2
   refine⟨_,s1,ev hq,fun j c hc=>?_⟩
   obtain⟨fs,f1,f2⟩:=j5 hq hc
   exact⟨fs,f1,u6 f2⟩
 have hp4:pN d < 4:=by unfold pN;omega
 refine⟨⟨hdl,hd.nm,hfx,hpp,p8,hp4,fun i hi=>⟨hgd _ (hmy i hi).1,(tc i hi).1,fun c hc=>⟨hgd _ ((hmy i hi).2 c hc),(Kj i hi c hc).1⟩⟩⟩,⟨hlen,fun x i hx=>?_⟩,?_,?_,by omega,?_,hmy,?_,hN,hS⟩
 ·obtain⟨s,s1,s2,s3⟩:=hat x i hx
  refine⟨(tc i (aMg hx)).2,s,s1,s2,fun j c hc=>?_⟩
  obtain⟨fs,f1,f2⟩:=s3 j c hc
  obtain⟨c1,c2,c3⟩:=Kj i (aMg hx) c (aMg hc)
  exact⟨fs,f1,f2,c2,c3⟩
 ·unfold in0
  rw [aGe (by omega)];rfl
 ·intro s hs fs hfs
  obtain⟨x,hx⟩:=List.mem_iff_getElem?.1 hs
  obtain⟨j,hj⟩:=List.mem_iff_getElem?.1 hfs
  have hxl:=(aGs hx).1
  obtain⟨s',e1,e2,e3⟩:=hat x _ (aGe (by omega))
  rw [hx] at e1;cases e1
  have hjl:=(aGs hj).1
  obtain⟨fs',f1,f2⟩:=e3 j _ (aGe (by omega))
  rw [hj] at f1;cases f1
  have:=(Kj d.ai[x] (List.getElem_mem (by omega)) (d.ai[x].cs[j]) (List.getElem_mem (by omega))).2.1
  rw [f2]
  omega
 ·intro i hi
  have:=List.all_eq_true.1 hf i hi
  rw [cb] at this
  simp only [Bool.not_eq_true',decide_eq_false_iff_not,aOn] at this
  omega
 ·intro i hi
  have key:∀t∈bV d,hiT (pN d) t=false:=fun t ht=>by simpa using List.all_eq_true.1 hlo t ht
  exact⟨key _ (dM hi).1,fun c hc=>key _ ((dM hi).2 c hc)⟩
theorem zH {d:Dl} {W:Nat} (hd:rT d W):(∃e,e≠0∧ofR d=([],e))∨(∃s r,ofR d=(s::r,0)∧Good d (s::r)):=by
 have key:(∃e,e≠0∧ofR d=([],e))∨∃l,ofR d=(l,0):=by
  unfold ofR
  split
  ·exact .inl ⟨1,by decide,rfl⟩
  split
  ·exact .inl ⟨8,by decide,rfl⟩
  split
  ·exact .inl ⟨5,by decide,rfl⟩
  split
  ·exact .inl ⟨14,by decide,rfl⟩
  split
  ·exact .inl ⟨15,by decide,rfl⟩
  ·exact .inr ⟨_,rfl⟩
 rcases key with h | ⟨l,h⟩
 ·exact .inl h
 ·right
  have hg:=G1 hd h
  have h1:=hg.so.len
  have h2:=(aGs hg.h0).1
  cases l with
  | nil=>simp at h1;omega
  | cons s r=>exact⟨s,r,h,hg⟩
def gj (C:Cfg) (R:Run) (F:FC) (k fid nt:Nat) (l:List Code) (A:Env) (S:St) (K:Ex→Env→St→Prop):Prop:=∃e A' S',gb C R k fid F l A S=some (e,A',S')∧K e A' S'
section
variable {C:Cfg} {R:Run} {F:FC} {k fid nt:Nat} {A:Env} {S:St}
theorem gj.nil {nt:Nat} {K:Ex→Env→St→Prop} (h:K .normal A S):gj C R F k fid nt [] A S K:=⟨_,_,_,rfl,h⟩
theorem gj.cons {c:Code} {l:List Code} {K:Ex→Env→St→Prop} (h:dZ C R F k fid nt [] c A S fun e A S=>match e with | .normal=>gj C R F k fid nt l A S K | e=>K e A S):gj C R F k fid nt (c::l) A S K:=by
 obtain⟨e,A',S',h1,h2⟩:=cJ C R F c h
 cases e with
 | normal=>
  obtain⟨e2,A2,S2,h3,h4⟩:=h2
  refine⟨e2,A2,S2,?_,h4⟩
  show iter.andThen (evalCode C R k fid F c A S) (gb C R k fid F l)=_
  rw [h1];exact h3
 | ret=>
  refine⟨_,_,_,?_,h2⟩
  show iter.andThen (evalCode C R k fid F c A S) (gb C R k fid F l)=_
  rw [h1];rfl
 | exit i=>
  refine⟨_,_,_,?_,h2⟩
  show iter.andThen (evalCode C R k fid F c A S) (gb C R k fid F l)=_
  rw [h1];rfl
end
theorem G2 {id m:Nat} {fn:Func} {R:Run} {k:Nat} {args:List V} {p:V→Prop}
 (h:gj Tryz.cfg R (Tryz.cfg.fc id) k id fn.ntmps (uN m (il fn)) { nt:=fn.ntmps,tmps:=number 0 args,locs:=[],fix:=[] } St.empty fun e A S=>match e with
  | .exit _=>False
  | .ret=>∃v,pK fn A S=some v∧p v
  | .normal=>∃A2,tZ A S=some A2∧dZ Tryz.cfg R (Tryz.cfg.fc id) k id fn.ntmps [] (nr m (il fn)) A2 St.empty fun e A S=>match e with | .exit _=>False | _=>∃v,pK fn A S=some v∧p v) :
 ∃v,sH id m fn R k args=some v∧p v:=by
 obtain⟨e,A,S,h1,h2⟩:=h
 unfold sH
 rw [h1]
 cases e with
 | exit i=>exact h2.elim
 | ret=>exact h2
 | normal=>
  obtain⟨A2,h3,h4⟩:=h2
  obtain⟨e,A',S',h5,h6⟩:=cJ _ _ _ _ h4
  simp only [h3,h5]
  cases e with
  | exit i=>exact h6.elim
  | ret=>exact h6
  | normal=>exact h6
theorem rr {id n:Nat} {args:List V} {S:St} {r:V×St} (h:RN (n + 1) (.f id) args S=some r) (hc:kT id=true:=by rfl):fD Tryz.cfg cO cW bW (n + 1) (.f id) args S=some r:=by
 rw [sI hc] at h
 exact h
theorem xN {id n:Nat} {g:kR} {args:List V} {S:St} {v:V} (hc:cO id=some g) (hr:bW id=false) (hn:cW id=false) (ha:allB V.pure args=true) (hm:bg V.strip args=args) (h:g (fD Tryz.cfg cO cW bW n) n args=some v) :
 RN n (.f id) args S=some (v,S):=by
 show cX bW (cp cW (bT cO n (fD Tryz.cfg cO cW bW n))) (.f id) args S=_
 unfold cX cp bT
 simp only [hr,hn,hc,ha,hm,h,cond_true]
end Go.Ev
namespace Go.Ev
open Go.Proofs Go.RowKit
set_option maxRecDepth 100000
set_option maxHeartbeats 4000000
set_option linter.unusedVariables false
set_option linter.unusedSimpArgs false
def MO (T T' : List Nat) (tok aP : Tok):Prop:=T.length≤T'.length∧(∀u v,nth T u=some v→tok≠.own u→nth T' u=some v)∧∀t,aP=.own t→tok=.own t∨T.length≤t
theorem Fq {ei:TI} {S S' : St} {ac:Acc} {sz sz' top SW Pn:Nat} {tok aP : Tok} {rows new jI : List V} (h:ko ei S ac sz tok top rows SW new=some (.list sz' aP Pn jI,S')):MO S.aA S'.aA tok aP:=by
 unfold ko at h
 split at h
 ·split at h
  ·cases h
  ·cases h
   refine⟨by rw [bK];simp,fun u v hu _=>?_,fun t ht=>?_⟩
   ·rw [bR] at hu
    rw [bK,bR,List.getElem?_append_left (aGs hu).1];exact hu
   ·cases ht
    rw [an];exact .inr (Nat.le_refl _)
  ·split at h
   ·cases h
    refine⟨by rw [eT,List.length_set];exact Nat.le_refl _,fun u v hu hne=>?_,fun t ht=>.inl ht⟩
    rename_i t _
    have:t≠u:=fun e=>hne (by rw [e])
    rw [eT,bR,List.getElem?_set_ne this,← bR];exact hu
   ·cases h
 ·cases h
theorem kL {C:Cfg} {A:Env} {S S' : St} {ac:Acc} {LT:Nat} {sz sz' top Pn:Nat} {tok aP : Tok} {rows jI : List V} {x:V} (h:append C A S ac LT (.list sz tok top rows) x=some (.list sz' aP Pn jI,S')):MO S.aA S'.aA tok aP:=by
 unfold append at h
 split at h
 ·split at h
  ·split at h
   ·rename_i hr he
    cases he
    split at h
    ·cases h
     exact⟨Nat.le_refl _,fun u v hu _=>hu,fun t ht=>.inl ht⟩
    ·exact Fq h
   ·cases h
  ·cases h
 ·cases h
structure Two (T0 T:List Nat) (a:List V) (ta:Tok) (b:List V) (tb:Tok):Prop where
 e:ju T0 T
 ha:(a=[]∧ta=.tight)∨∃t,ta=.own t∧T0.length≤t∧nth T t=some a.length∧a≠[]
 hb:tb=.tight∨∃t,tb=.own t∧T0.length≤t∧nth T t=some b.length∧b≠[]
 ne:∀t,ta=.own t→tb≠.own t
theorem Two.Kk {T0 T T' : List Nat} {a a' b:List V} {ta ta' tb:Tok} (h:Two T0 T a ta b tb) (hg:aw T0 T' a' ta') (hk:MO T T' ta ta'):Two T0 T' a' ta' b tb:=by
 refine⟨hg.1,hg.2,?_,fun t ht hb=>?_⟩
 ·rcases h.hb with h1 | ⟨t,h1,h2,h3,h4⟩
  ·exact .inl h1
  ·exact .inr ⟨t,h1,h2,hk.2.1 t _ h3 (fun e=>h.ne t e h1),h4⟩
 ·rcases hk.2.2 t ht with h1 | h1
  ·exact h.ne t h1 hb
  ·rcases h.hb with h2 | ⟨t',h2,h3,h4,h5⟩
   ·rw [hb] at h2;cases h2
   ·rw [hb] at h2;cases h2
    have:=mK h4
    omega
theorem Two.NS {T0 T T' : List Nat} {a b b' : List V} {ta tb tb' : Tok} (h:Two T0 T a ta b tb) (hg:aw T0 T' b' tb') (hk:MO T T' tb tb'):Two T0 T' a ta b' tb':=by
 refine⟨hg.1,?_,hg.w.2,fun t ht hb=>?_⟩
 ·rcases h.ha with h1 | ⟨t,h1,h2,h3,h4⟩
  ·exact .inl h1
  ·exact .inr ⟨t,h1,h2,hk.2.1 t _ h3 (fun e=>h.ne t h1 e),h4⟩
 ·rcases hk.2.2 t hb with h1 | h1
  ·exact h.ne t ht h1
  ·rcases h.ha with⟨_,h2⟩ | ⟨t',h2,h3,h4,h5⟩
   ·rw [ht] at h2;cases h2
   ·rw [ht] at h2;cases h2
    have:=mK h4
    omega
theorem oz {LT sz by' : Nat} {z' : List V} {H:List Blk} {T0 T:List Nat} {done new:List Tm} {tok bH:Tok} {c0 c:Bool} (hl:Tryz.cfg.ti LT=some { kind:=.slice 25,size:=sz,bytes:=by',zero:=z' })
 (hlen:done.length + new.length < 1000000000) (hne:new≠[]) (hg:fy T0 T (ae done) tok) :
 ∃c' T' aP,(∀(A:Env) (ac:Acc),ac.heap=true→append Tryz.cfg A { heap:=H,aA:=T } ac LT (.list (au c0 done) tok 0 (ae done)) (.list (au c new) bH 0 (ae new))=some (.list (au c' (done++new)) aP 0 (ae (done++new)),{ heap:=H,aA:=T' }))∧aw T0 T' (ae (done++new)) aP:=by
 have hq:(ae new).isEmpty=true∨au c new=5:=by
  rcases jx c new with rfl | h
  ·left;rw [ae];rfl
  ·exact .inr h
 have hr:∀(A:Env) (ac:Acc) (S:St),fX A S ac 5 (.list (au c new) bH 0 (ae new))=some (0,ae new):=fun A ac S=>by unfold fX;exact if_pos hq
 have B4 : ae new≠[]:=fun e=>hne (by
  have:=al new
  rw [e] at this
  exact List.eq_nil_of_length_eq_zero this.symm)
 obtain⟨T',aP,h1,h2⟩:=xH (ei:=Tryz.ti25) (H:=H) (sz:=au c0 done) (new:=ae new) (by decide) (by decide) (by rw [← an,← an,al,al];exact hlen) (by
  rcases jx c0 done with rfl | h
  ·left;rw [ae]
  ·exact .inr h) hg B4
 have e:ae done++ae new=ae (done++new):=by rw [nx,bK]
 rw [e] at h1 h2
 refine⟨false,T',aP,?_,h2⟩
 intro A ac hac
 have hf:(ae new).isEmpty=false:=by cases hx:ae new with | nil=>exact absurd hx B4 | cons a l=>rfl
 unfold append
 simp only [hl,show Tryz.cfg.ti 25=some Tryz.ti25 from rfl,show Tryz.ti25.size=5 from rfl,hr,hf,Bool.false_eq_true,if_false]
 have hs:au false (done++new)=5:=by
  cases hd:done++new with
  | nil=>simp [hne] at hd
  | cons a l=>rfl
 rw [hs]
 exact h1 ac hac
abbrev Ru:=List UInt8×Nat×Tm
structure Inf where
 kind:Int
 name:List UInt8
 params:Int
 ty:Tm
 val:Tm
 block:List UInt8
 of_:List UInt8
 fixed:Int
 index:Int
 motives:Int
 minors:Int
 rules:List Ru
@[reducible] noncomputable def ir (i:Inf) (sz:Nat) (tok:Tok) (rows:List V):List V:=[.int .u8 i.kind,.str i.name,.int .i64 i.params,
  .int .u8 i.ty.k,.int .i64 i.ty.n,.str i.ty.s,.list (au i.ty.a i.ty.ls) (av i.ty.b) 0 (i.ty.ls.map enc),.list (au i.ty.c i.ty.ts) (av i.ty.d) 0 (ae i.ty.ts),
  .int .u8 i.val.k,.int .i64 i.val.n,.str i.val.s,.list (au i.val.a i.val.ls) (av i.val.b) 0 (i.val.ls.map enc),.list (au i.val.c i.val.ts) (av i.val.d) 0 (ae i.val.ts),
  .int .i64 0,.str i.block,.str i.of_,.int .i64 i.fixed,.int .i64 i.index,.int .i64 0,.int .i64 0,.int .i64 i.motives,.int .i64 i.minors,.list sz tok 0 rows,.int .i64 0,.bool false]
noncomputable def gD (i:Inf):V:=.agg [.int .u8 i.kind,.str i.name,.int .i64 i.params,
 .int .u8 i.ty.k,.int .i64 i.ty.n,.str i.ty.s,.list (au i.ty.a i.ty.ls) (av i.ty.b) 0 (i.ty.ls.map enc),.list (au i.ty.c i.ty.ts) (av i.ty.d) 0 (ae i.ty.ts),
 .int .u8 i.val.k,.int .i64 i.val.n,.str i.val.s,.list (au i.val.a i.val.ls) (av i.val.b) 0 (i.val.ls.map enc),.list (au i.val.c i.val.ts) (av i.val.d) 0 (ae i.val.ts),
 .int .i64 0,.str i.block,.str i.of_,.int .i64 i.fixed,.int .i64 i.index,.int .i64 0,.int .i64 0,.int .i64 i.motives,.int .i64 i.minors,jX 7 (i.rules.map cj),.int .i64 0,.bool false]
theorem bsN {T0 T:List Nat} {i:Inf} {tok:Tok} (h:aw T0 T (i.rules.map cj) tok):buildSlice Tryz.cfg 31 1 [(0,.agg (ir i (szG 7 (i.rules.map cj)) tok (i.rules.map cj)))]=some (.list 25 .tight 0 [gD i]):=by
 have e1:aj (.list (au i.ty.a i.ty.ls) (av i.ty.b) 0 (i.ty.ls.map enc))=.list (au i.ty.a i.ty.ls) (av i.ty.b) 0 (i.ty.ls.map enc):=by cases i.ty.b<;>rfl
 have e2:aj (.list (au i.ty.c i.ty.ts) (av i.ty.d) 0 (ae i.ty.ts))=.list (au i.ty.c i.ty.ts) (av i.ty.d) 0 (ae i.ty.ts):=by cases i.ty.d<;>rfl
 have e3:aj (.list (au i.val.a i.val.ls) (av i.val.b) 0 (i.val.ls.map enc))=.list (au i.val.a i.val.ls) (av i.val.b) 0 (i.val.ls.map enc):=by cases i.val.b<;>rfl
 have e4:aj (.list (au i.val.c i.val.ts) (av i.val.d) 0 (ae i.val.ts))=.list (au i.val.c i.val.ts) (av i.val.d) 0 (ae i.val.ts):=by cases i.val.d<;>rfl
 show some (V.list 25 .tight 0 [.agg [.int .u8 i.kind,.str i.name,.int .i64 i.params,.int .u8 i.ty.k,.int .i64 i.ty.n,.str i.ty.s,aj (.list (au i.ty.a i.ty.ls) (av i.ty.b) 0 (i.ty.ls.map enc)),aj (.list (au i.ty.c i.ty.ts) (av i.ty.d) 0 (ae i.ty.ts)),
  .int .u8 i.val.k,.int .i64 i.val.n,.str i.val.s,aj (.list (au i.val.a i.val.ls) (av i.val.b) 0 (i.val.ls.map enc)),aj (.list (au i.val.c i.val.ts) (av i.val.d) 0 (ae i.val.ts)),
  .int .i64 0,.str i.block,.str i.of_,.int .i64 i.fixed,.int .i64 i.index,.int .i64 0,.int .i64 0,.int .i64 i.motives,.int .i64 i.minors,aj (.list (szG 7 (i.rules.map cj)) tok 0 (i.rules.map cj)),.int .i64 0,.bool false]])=_
 rw [e1,e2,e3,e4,gS h]
 rfl
section
variable (d:Dl) (sh:List Sh) (fx p:Nat) (u:Lv) (m:Nat)
noncomputable def fB (x:Nat) (i:In):List Ru:=(i.cs.zipIdx 0).map fun q=>ld d sh fx p u m x q.2 q.1 (fsR sh x q.2)
noncomputable def da (x:Nat) (i:In):Inf:=
 match dr sh with
 | true=>⟨2,i.name++cI,.ofNat (p + 1),gJ d sh fx p u m x i,jB d sh fx p u m,(in0 d).name,i.name,d.fixed,(((sh[x]?).map (·.index)).getD 0),.ofNat (aG (d.ai.map encI)),.ofNat m,[]⟩
 | false=>⟨6,i.name++cI,.ofNat (p + 1),gJ d sh fx p u m x i,zTm,(in0 d).name,i.name,d.fixed,(((sh[x]?).map (·.index)).getD 0),.ofNat (aG (d.ai.map encI)),.ofNat m,fB d sh fx p u m x i⟩
noncomputable def dS (x:Nat) (i:In):List Tm:=gJ d sh fx p u m x i::match dr sh with
 | true=>[jB d sh fx p u m]
 | false=>(fB d sh fx p u m x i).map (·.2.2)
noncomputable def xO (q:In×Nat):Option Inf:=match (dS d sh fx p u m q.2 q.1).all cM with
 | true=>some (da d sh fx p u m q.2 q.1)
 | false=>none
noncomputable def mn:Option (List Inf):=bP (xO d sh fx p u m) (d.ai.zipIdx 0)
end
noncomputable def bt (d:Dl):Nat:=(d.ai.map fun i=>i.cs.length).sum
noncomputable def fM (d:Dl):List Inf×Int:=
 match (ofR d).2 with
 | 0=>(match mn d (ofR d).1 (fxN d) (pN d) (bY d.params).1 (bt d) with
  | some l=>(l,0)
  | none=>([],4))
 | e=>([],e)
noncomputable def mo:Code→List Code
 | .seq a b=>mo a++mo b
 | .cond _ a b=>mo a++mo b
 | .block _ b=>mo b
 | .loop b=>[b]
 | _=>[]
@[reducible] noncomputable def QE:Option Ru→List (Nat×List V)
  | none=>[]
  | some r=>[(13,ie r)]
inductive Jn where
 | a
 | b (i:Inf) (sz:Nat) (tok:Tok) (rows:List V) (o:Option Ru)
@[reducible] noncomputable def Jn.locs:Jn→List (Nat×List V)
  | .a=>[]
  | .b i sz tok rows o=>(10,ir i sz tok rows)::QE o
@[reducible] noncomputable def RX (n:Nat):Run:=fD Tryz.cfg cO cW bW (n + 1)
theorem h14 {n:Nat} {x:Tm} {S:St} (hn:wt x + 2≤n):RN n (.f 14) [aH x] S=some (.bool (mH x),S):=by
 obtain⟨m,rfl⟩:=up (show 1≤n by omega)
 exact O0 m x S (by omega)
theorem SX (r:Ru):buildSlice Tryz.cfg 36 1 [(0,.agg (ie r))]=some (.list 7 .tight 0 [cj r]):=by
 have h:bg aj (ie r)=ie r:=by
  have h2:=uZ r
  unfold cj at h2
  have h3:(V.agg (ie r)).strip=.agg (bg aj (ie r)):=rfl
  rw [h3] at h2
  injection h2
 show some (V.list 7 .tight 0 [.agg (bg aj (ie r))])=_
 rw [h];rfl
section
variable {n:Nat} {d:Dl} {sh:List Sh} {m:Nat} {u:Lv} {fx p W:Nat} {S:St}
end
end Go.Ev
namespace Go.Ev
open Go.Proofs Go.RowKit
set_option maxRecDepth 100000
set_option linter.unusedVariables false
set_option linter.unusedSimpArgs false
theorem xP {fs:List (Int×Int)} {i:Nat} {f:Int×Int} (h:fs[i]?=some f):indexAddr Tryz.cfg 113 (.list 2 .no 0 (fs.map dh)) (.int .i64 (.ofNat i))=some (.imm 0 [.int .i64 f.1,.int .i64 f.2]):=dI (f:=fun f:Int×Int=>[V.int .i64 f.1,.int .i64 f.2]) (ei:=Tryz.ti154) rfl rfl h
theorem xQ {ls:List Lv} {c:Bool} {tok:Tok} {i:Nat} {l:Lv} (h:ls[i]?=some l):indexAddr Tryz.cfg 22 (.list (au c ls) tok 0 (ls.map enc)) (.int .i64 (.ofNat i))=some (.imm 0 (dQ l)):=by
 have hs:au c ls=5:=by
  rcases jx c ls with rfl | h2
  ·simp at h
  ·exact h2
 rw [hs]
 exact dI (f:=dQ) (ei:=Tryz.ti51) rfl rfl h
def mq (i:Int):V:=.agg [.int .i64 i]
theorem MP {is:List Int} {tok:Tok} {j:Nat} {i:Int} (h:is[j]?=some i):indexAddr Tryz.cfg 63 (.list 1 tok 0 (is.map mq)) (.int .i64 (.ofNat j))=some (.imm 0 [.int .i64 i]):=dI (f:=fun i:Int=>[V.int .i64 i]) (ei:=Tryz.ti3) rfl rfl h
theorem eR {α:Type} (p:α→Bool):∀(xs:List α) (j:Nat),(!iLt (qM (dw p xs j)) 0)=xs.any p
 | [],j=>rfl
 | a::l,j=>by
  unfold dw
  rw [List.any_cons]
  cases p a with
  | true=>rfl
  | false=>exact eR p l (j + 1)
theorem xR {id n t:Nat} {cs:List V} {rest:List V} {S S' : St} {v v' r:V} (h:frame Tryz.cfg (RN n) n id (.imm t cs::rest) St.empty=some (v,S')) (hm:bg V.strip (.imm t cs::rest)=.imm t cs::rest) (hp:(Tryz.cfg.fc id).pure=true) (ha:allB V.pure (.imm t cs::rest)=true)
 (hf:frz { nt:=0,tmps:=[],locs:=[],fix:=[] } S' .any v=some v') (hz:isZero v'.lvl=true) (hs:v'.b8=r) (hc:cO id=none:=by rfl) (hn:cW id=false:=by rfl):RN (n + 1) (.f id) (.imm t cs::rest) S=some (r,S):=by
 have gr:step Tryz.cfg (RN n) n (.f id) (.imm t cs::rest) S=some (r,S):=by
  rw [← hs]
  exact zh (by rw [hm];exact h) hp ha hf hz
 have hw:cp cW (bT cO (n + 1) (fD Tryz.cfg cO cW bW (n + 1))) (.f id) (.imm t cs::rest) S=some (r,S):=by
  unfold cp bT
  simp only [hn,hc]
  exact gr
 show (match bW id with
  | true=>cp cW (bT cO (n + 1) (fD Tryz.cfg cO cW bW (n + 1))) (.f id) (.imm t cs::rest) S
  | false=>cp cW (bT cO (n + 1) (fD Tryz.cfg cO cW bW (n + 1))) (.f id) (.imm t cs::rest) S)=_
 cases bW id<;>exact hw
def FnB (n f:Nat) (args:List V) (b:Bool) (S:St):Prop:=
 (((Tryz.cfg.fc f).pure && !allB V.pure args)=false∧(aJ args).isSome=true∧RN n (.f f) args S=some (.bool b,S))∨
 (((Tryz.cfg.fc f).pure && !allB V.pure args)=true∧∃l S',(∀A,bP (jL A S .any) args=some l)∧allB V.pure l=true∧RN n (.f f) l S=some (.bool b,S'))∨
 (((Tryz.cfg.fc f).pure && !allB V.pure args)=true∧(∀A,bP (jL A S .any) args=some args)∧allB V.pure args=false∧(aJ args).isSome=true∧RN n (.f f) args S=some (.bool b,S))
theorem dJ {R:Run} {A:Env} {S S' : St} {f:Nat} {args:List V} {K:V→Env→St→Prop} {v:V} (hv:(aJ args).isSome=true) (h:R (.f f) args S=some (v,S')) (k:K v A S'):qs R A S f args K:=by
 unfold qs
 cases hq:aJ args with
 | none=>rw [hq] at hv;cases hv
 | some n=>exact⟨v,S',h,k⟩
section
variable {n f top:Nat} {first cap:List V} {S:St}
theorem QF (p:Tm→Bool) (xs:List Tm) (c:Bool) (tok:Tok) (hl:xs.length < 1000000000) (hn:xs.length < n) (h:∀x∈xs,FnB n f (cq first (cq [aH x] cap)) (p x) S) :
 frame Tryz.cfg (RN n) n 134 [.list (au c xs) tok 0 (ae xs),.fn f top first cap] S=some (.int .i64 (qM (dw p xs 0)),S):=by
 refine aL Tryz.cfg _ (fn:=Tryz.f134) rfl rfl ?_
 refine aB.loop 19 (σ:=Unit) xs.length (fun j _=>{ nt:=19,tmps:=[(0,.list (au c xs) tok 0 (ae xs)),(1,.fn f top first cap),(7,.int .i64 (.ofNat (aG ((ae xs))))),(8,.int .i64 (.ofNat j))],locs:=[],fix:=[] }) (fun _ _=>S)
  (fun j _=>dw p xs 0=dw p (xs.drop j) j) () (by omega) rfl ?_ ?_
 ·intro j _ hj hp
  obtain⟨x,hx⟩ : ∃x,xs[j]?=some x:=⟨_,aGe hj⟩
  rw [og hx] at hp
  refine ah.yes (gE hj) ?_
  refine ab.mk _ (bJ hx) ?_
  have jU:p x=true→dw p xs 0=some j:=fun he=>by rw [he] at hp;exact hp
  have hno:p x=false→dw p xs 0=dw p (xs.drop (j + 1)) (j + 1):=fun he=>by rw [he] at hp;exact hp
  rcases h x (aMg hx) with⟨h1,h2,h3⟩ | ⟨h1,l,S',h2,h3,h4⟩ | ⟨h1,h2,h3,h4,h5⟩
  ·conv=>whnf
   split
   ·rename_i hq;exact absurd (h1.symm.trans hq) (by decide)
   ·refine dJ h2 h3 ?_
    cases he:p x with
    | true=>rw [jU he];rfl
    | false=>
     refine ab.mk _ (az (by omega)) ?_
     exact⟨(),hno he,rfl,rfl⟩
  ·conv=>whnf
   split
   ·split
    ·rename_i l' hl
     cases (h2 _).symm.trans hl
     split
     ·refine⟨_,_,h4,rfl,?_⟩
      cases he:p x with
      | true=>rw [jU he];rfl
      | false=>
       refine ab.mk _ (az (by omega)) ?_
       exact⟨(),hno he,rfl,rfl⟩
     ·rename_i hq;exact absurd (h3.symm.trans hq) (by decide)
    ·rename_i hl;cases (h2 _).symm.trans hl
   ·rename_i hq;exact absurd (h1.symm.trans hq) (by decide)
  ·conv=>whnf
   split
   ·split
    ·rename_i l' hl
     cases (h2 _).symm.trans hl
     split
     ·rename_i hq;exact absurd (h3.symm.trans hq) (by decide)
     ·refine dJ h4 h5 ?_
      cases he:p x with
      | true=>rw [jU he];rfl
      | false=>
       refine ab.mk _ (az (by omega)) ?_
       exact⟨(),hno he,rfl,rfl⟩
    ·rename_i hl;cases (h2 _).symm.trans hl
   ·rename_i hq;exact absurd (h1.symm.trans hq) (by decide)
 ·intro _ hp
  rw [mc] at hp
  refine ah.no (gG (by omega)) ?_
  rw [hp];rfl
theorem p65 (p:Tm→Bool) (xs:List Tm) (c:Bool) (tb:Bool) (hl:xs.length < 1000000000) (hn:xs.length < n) (hs:V.strip (.fn f 0 first cap)=.fn f 0 first cap) (h:∀x∈xs,FnB n f (cq first (cq [aH x] cap)) (p x) St.empty) :
 RN (n + 2) (.f 65) [.list (au c xs) (av tb) 0 (ae xs),.fn f 0 first cap] S=some (.bool (xs.any p),S):=by
 have hm:bg V.strip [.list (au c xs) (av tb) 0 (ae xs),.fn f 0 first cap]=[.list (au c xs) (av tb) 0 (ae xs),.fn f 0 first cap]:=by
  show [V.strip (.list (au c xs) (av tb) 0 (ae xs)),V.strip (.fn f 0 first cap)]=_
  rw [hs]
  cases tb<;>rfl
 have h1:RN (n + 1) (.f 134) [.list (au c xs) (av tb) 0 (ae xs),.fn f 0 first cap] St.empty=some (.int .i64 (qM (dw p xs 0)),St.empty):=bG (QF p xs c (av tb) hl hn h) hm rfl rfl rfl rfl rfl
 have h2:frame Tryz.cfg (RN (n + 1)) (n + 1) 65 [.list (au c xs) (av tb) 0 (ae xs),.fn f 0 first cap] St.empty=some (.bool (xs.any p),St.empty):=by
  refine aL Tryz.cfg _ (fn:=Tryz.f65) rfl rfl ?_
  refine ag.mk _ _ h1 ?_
  refine ah.mk (fun he=>?_) (fun he=>?_)
  ·rw [(eR p xs 0).symm.trans he];rfl
  ·rw [(eR p xs 0).symm.trans he];rfl
 exact bG h2 hm rfl rfl rfl rfl rfl
theorem q65 (p:Tm→Bool) (xs:List Tm) (c:Bool) (tok:Tok) (hl:xs.length < 1000000000) (hn:xs.length < n) (h:∀x∈xs,FnB n f (cq first (cq [aH x] cap)) (p x) S) :
 RN (n + 2) (.f 65) [.list (au c xs) tok 0 (ae xs),.fn f (top + 1) first cap] S=some (.bool (xs.any p),S):=by
 have h1:RN (n + 1) (.f 134) [.list (au c xs) tok 0 (ae xs),.fn f (top + 1) first cap] S=some (.int .i64 (qM (dw p xs 0)),S):=bC rfl (QF p xs c tok hl hn h)
 refine bC rfl ?_
 refine aL Tryz.cfg _ (fn:=Tryz.f65) rfl rfl ?_
 refine ag.mk _ _ h1 ?_
 refine ah.mk (fun he=>?_) (fun he=>?_)
 ·rw [(eR p xs 0).symm.trans he];rfl
 ·rw [(eR p xs 0).symm.trans he];rfl
theorem Po (p:In→Bool) (xs:List In) (hl:xs.length < 1000000000) (hn:xs.length < n) (h:∀x∈xs,FnB n f (cq first (cq [encI x] cap)) (p x) S) :
 frame Tryz.cfg (RN n) n 143 [.list 7 .no 0 (xs.map encI),.fn f top first cap] S=some (.int .i64 (qM (dw p xs 0)),S):=by
 refine aL Tryz.cfg _ (fn:=Tryz.f143) rfl rfl ?_
 refine aB.loop 19 (σ:=Unit) xs.length (fun j _=>{ nt:=19,tmps:=[(0,.list 7 .no 0 (xs.map encI)),(1,.fn f top first cap),(7,.int .i64 (.ofNat (aG ((xs.map encI))))),(8,.int .i64 (.ofNat j))],locs:=[],fix:=[] }) (fun _ _=>S)
  (fun j _=>dw p xs 0=dw p (xs.drop j) j) () (by omega) rfl ?_ ?_
 ·intro j _ hj hp
  obtain⟨x,hx⟩ : ∃x,xs[j]?=some x:=⟨_,aGe hj⟩
  rw [og hx] at hp
  refine ah.yes (ltM hj) ?_
  refine ab.mk _ (aO hx) ?_
  have jU:p x=true→dw p xs 0=some j:=fun he=>by rw [he] at hp;exact hp
  have hno:p x=false→dw p xs 0=dw p (xs.drop (j + 1)) (j + 1):=fun he=>by rw [he] at hp;exact hp
  rcases h x (aMg hx) with⟨h1,h2,h3⟩ | ⟨h1,l,S',h2,h3,h4⟩ | ⟨h1,h2,h3,h4,h5⟩
  ·conv=>whnf
   split
   ·rename_i hq;exact absurd (h1.symm.trans hq) (by decide)
   ·refine dJ h2 h3 ?_
    cases he:p x with
    | true=>rw [jU he];rfl
    | false=>
     refine ab.mk _ (az (by omega)) ?_
     exact⟨(),hno he,rfl,rfl⟩
  ·conv=>whnf
   split
   ·split
    ·rename_i l' hl
     cases (h2 _).symm.trans hl
     split
     ·refine⟨_,_,h4,rfl,?_⟩
      cases he:p x with
      | true=>rw [jU he];rfl
      | false=>
       refine ab.mk _ (az (by omega)) ?_
       exact⟨(),hno he,rfl,rfl⟩
     ·rename_i hq;exact absurd (h3.symm.trans hq) (by decide)
    ·rename_i hl;cases (h2 _).symm.trans hl
   ·rename_i hq;exact absurd (h1.symm.trans hq) (by decide)
  ·conv=>whnf
   split
   ·split
    ·rename_i l' hl
     cases (h2 _).symm.trans hl
     split
     ·rename_i hq;exact absurd (h3.symm.trans hq) (by decide)
     ·refine dJ h4 h5 ?_
      cases he:p x with
      | true=>rw [jU he];rfl
      | false=>
       refine ab.mk _ (az (by omega)) ?_
       exact⟨(),hno he,rfl,rfl⟩
    ·rename_i hl;cases (h2 _).symm.trans hl
   ·rename_i hq;exact absurd (h1.symm.trans hq) (by decide)
 ·intro _ hp
  rw [mc] at hp
  refine ah.no (geM (by omega)) ?_
  rw [hp];rfl
theorem p96 (p:In→Bool) (xs:List In) (hl:xs.length < 1000000000) (hn:xs.length < n) (hs:V.strip (.fn f 0 first cap)=.fn f 0 first cap) (h:∀x∈xs,FnB n f (cq first (cq [encI x] cap)) (p x) St.empty) :
 RN (n + 2) (.f 96) [.list 7 .no 0 (xs.map encI),.fn f 0 first cap] S=some (.bool (xs.any p),S):=by
 have hm:bg V.strip [.list 7 .no 0 (xs.map encI),.fn f 0 first cap]=[.list 7 .no 0 (xs.map encI),.fn f 0 first cap]:=by
  show [V.strip (.list 7 .no 0 (xs.map encI)),V.strip (.fn f 0 first cap)]=_
  rw [hs]
  rfl
 have h1:RN (n + 1) (.f 143) [.list 7 .no 0 (xs.map encI),.fn f 0 first cap] St.empty=some (.int .i64 (qM (dw p xs 0)),St.empty):=bG (Po p xs hl hn h) hm rfl rfl rfl rfl rfl
 have h2:frame Tryz.cfg (RN (n + 1)) (n + 1) 96 [.list 7 .no 0 (xs.map encI),.fn f 0 first cap] St.empty=some (.bool (xs.any p),St.empty):=by
  refine aL Tryz.cfg _ (fn:=Tryz.f96) rfl rfl ?_
  refine ag.mk _ _ h1 ?_
  refine ah.mk (fun he=>?_) (fun he=>?_)
  ·rw [(eR p xs 0).symm.trans he];rfl
  ·rw [(eR p xs 0).symm.trans he];rfl
 exact bG h2 hm rfl rfl rfl rfl rfl
theorem SY (p:Lv→Bool) (xs:List Lv) (c:Bool) (tok:Tok) (hl:xs.length < 1000000000) (hn:xs.length < n) (h:∀x∈xs,FnB n f (cq first (cq [enc x] cap)) (p x) S) :
 frame Tryz.cfg (RN n) n 147 [.list (au c xs) tok 0 (xs.map enc),.fn f top first cap] S=some (.int .i64 (qM (dw p xs 0)),S):=by
 refine aL Tryz.cfg _ (fn:=Tryz.f147) rfl rfl ?_
 refine aB.loop 19 (σ:=Unit) xs.length (fun j _=>{ nt:=19,tmps:=[(0,.list (au c xs) tok 0 (xs.map enc)),(1,.fn f top first cap),(7,.int .i64 (.ofNat (aG ((xs.map enc))))),(8,.int .i64 (.ofNat j))],locs:=[],fix:=[] }) (fun _ _=>S)
  (fun j _=>dw p xs 0=dw p (xs.drop j) j) () (by omega) rfl ?_ ?_
 ·intro j _ hj hp
  obtain⟨x,hx⟩ : ∃x,xs[j]?=some x:=⟨_,aGe hj⟩
  rw [og hx] at hp
  refine ah.yes (ltM hj) ?_
  refine ab.mk _ (xQ hx) ?_
  have jU:p x=true→dw p xs 0=some j:=fun he=>by rw [he] at hp;exact hp
  have hno:p x=false→dw p xs 0=dw p (xs.drop (j + 1)) (j + 1):=fun he=>by rw [he] at hp;exact hp
  rcases h x (aMg hx) with⟨h1,h2,h3⟩ | ⟨h1,l,S',h2,h3,h4⟩ | ⟨h1,h2,h3,h4,h5⟩
  ·conv=>whnf
   split
   ·rename_i hq;exact absurd (h1.symm.trans hq) (by decide)
   ·refine dJ h2 h3 ?_
    cases he:p x with
    | true=>rw [jU he];rfl
    | false=>
     refine ab.mk _ (az (by omega)) ?_
     exact⟨(),hno he,rfl,rfl⟩
  ·conv=>whnf
   split
   ·split
    ·rename_i l' hl
     cases (h2 _).symm.trans hl
     split
     ·refine⟨_,_,h4,rfl,?_⟩
      cases he:p x with
      | true=>rw [jU he];rfl
      | false=>
       refine ab.mk _ (az (by omega)) ?_
       exact⟨(),hno he,rfl,rfl⟩
     ·rename_i hq;exact absurd (h3.symm.trans hq) (by decide)
    ·rename_i hl;cases (h2 _).symm.trans hl
   ·rename_i hq;exact absurd (h1.symm.trans hq) (by decide)
  ·conv=>whnf
   split
   ·split
    ·rename_i l' hl
     cases (h2 _).symm.trans hl
     split
     ·rename_i hq;exact absurd (h3.symm.trans hq) (by decide)
     ·refine dJ h4 h5 ?_
      cases he:p x with
      | true=>rw [jU he];rfl
      | false=>
       refine ab.mk _ (az (by omega)) ?_
       exact⟨(),hno he,rfl,rfl⟩
    ·rename_i hl;cases (h2 _).symm.trans hl
   ·rename_i hq;exact absurd (h1.symm.trans hq) (by decide)
 ·intro _ hp
  rw [mc] at hp
  refine ah.no (geM (by omega)) ?_
  rw [hp];rfl
theorem SZ (p:Lv→Bool) (xs:List Lv) (c:Bool) (tok:Tok) (hl:xs.length < 1000000000) (hn:xs.length < n) (h:∀x∈xs,FnB n f (cq first (cq [enc x] cap)) (p x) S) :
 RN (n + 2) (.f 103) [.list (au c xs) tok 0 (xs.map enc),.fn f (top + 1) first cap] S=some (.bool (xs.any p),S):=by
 have h1:RN (n + 1) (.f 147) [.list (au c xs) tok 0 (xs.map enc),.fn f (top + 1) first cap] S=some (.int .i64 (qM (dw p xs 0)),S):=bC rfl (SY p xs c tok hl hn h)
 refine bC rfl ?_
 refine aL Tryz.cfg _ (fn:=Tryz.f103) rfl rfl ?_
 refine ag.mk _ _ h1 ?_
 refine ah.mk (fun he=>?_) (fun he=>?_)
 ·rw [(eR p xs 0).symm.trans he];rfl
 ·rw [(eR p xs 0).symm.trans he];rfl
theorem S4 (p:List UInt8→Bool) (xs:List (List UInt8)) (sz:Nat) (tok:Tok) (hz:SzS sz xs) (hl:xs.length < 1000000000) (hn:xs.length < n) (h:∀x∈xs,FnB n f (cq first (cq [.str x] cap)) (p x) S) :
 frame Tryz.cfg (RN n) n 150 [.list sz tok 0 (xs.map aQ),.fn f top first cap] S=some (.int .i64 (qM (dw p xs 0)),S):=by
 refine aL Tryz.cfg _ (fn:=Tryz.f150) rfl rfl ?_
 refine aB.loop 19 (σ:=Unit) xs.length (fun j _=>{ nt:=19,tmps:=[(0,.list sz tok 0 (xs.map aQ)),(1,.fn f top first cap),(7,.int .i64 (.ofNat (aG ((xs.map aQ))))),(8,.int .i64 (.ofNat j))],locs:=[],fix:=[] }) (fun _ _=>S)
  (fun j _=>dw p xs 0=dw p (xs.drop j) j) () (by omega) rfl ?_ ?_
 ·intro j _ hj hp
  obtain⟨x,hx⟩ : ∃x,xs[j]?=some x:=⟨_,aGe hj⟩
  rw [og hx] at hp
  refine ah.yes (ltM hj) ?_
  refine ab.mk _ (kl hz hx) ?_
  have jU:p x=true→dw p xs 0=some j:=fun he=>by rw [he] at hp;exact hp
  have hno:p x=false→dw p xs 0=dw p (xs.drop (j + 1)) (j + 1):=fun he=>by rw [he] at hp;exact hp
  rcases h x (aMg hx) with⟨h1,h2,h3⟩ | ⟨h1,l,S',h2,h3,h4⟩ | ⟨h1,h2,h3,h4,h5⟩
  ·conv=>whnf
   split
   ·rename_i hq;exact absurd (h1.symm.trans hq) (by decide)
   ·refine dJ h2 h3 ?_
    cases he:p x with
    | true=>rw [jU he];rfl
    | false=>
     refine ab.mk _ (az (by omega)) ?_
     exact⟨(),hno he,rfl,rfl⟩
  ·conv=>whnf
   split
   ·split
    ·rename_i l' hl
     cases (h2 _).symm.trans hl
     split
     ·refine⟨_,_,h4,rfl,?_⟩
      cases he:p x with
      | true=>rw [jU he];rfl
      | false=>
       refine ab.mk _ (az (by omega)) ?_
       exact⟨(),hno he,rfl,rfl⟩
     ·rename_i hq;exact absurd (h3.symm.trans hq) (by decide)
    ·rename_i hl;cases (h2 _).symm.trans hl
   ·rename_i hq;exact absurd (h1.symm.trans hq) (by decide)
  ·conv=>whnf
   split
   ·split
    ·rename_i l' hl
     cases (h2 _).symm.trans hl
     split
     ·rename_i hq;exact absurd (h3.symm.trans hq) (by decide)
     ·refine dJ h4 h5 ?_
      cases he:p x with
      | true=>rw [jU he];rfl
      | false=>
       refine ab.mk _ (az (by omega)) ?_
       exact⟨(),hno he,rfl,rfl⟩
    ·rename_i hl;cases (h2 _).symm.trans hl
   ·rename_i hq;exact absurd (h1.symm.trans hq) (by decide)
 ·intro _ hp
  rw [mc] at hp
  refine ah.no (geM (by omega)) ?_
  rw [hp];rfl
theorem S6 (p:List UInt8→Bool) (xs:List (List UInt8)) (sz:Nat) (tb:Bool) (hz:SzS sz xs) (hl:xs.length < 1000000000) (hn:xs.length < n) (hs:V.strip (.fn f 0 first cap)=.fn f 0 first cap) (h:∀x∈xs,FnB n f (cq first (cq [.str x] cap)) (p x) St.empty) :
 RN (n + 2) (.f 108) [.list sz (av tb) 0 (xs.map aQ),.fn f 0 first cap] S=some (.bool (xs.any p),S):=by
 have hm:bg V.strip [.list sz (av tb) 0 (xs.map aQ),.fn f 0 first cap]=[.list sz (av tb) 0 (xs.map aQ),.fn f 0 first cap]:=by
  show [V.strip (.list sz (av tb) 0 (xs.map aQ)),V.strip (.fn f 0 first cap)]=_
  rw [hs]
  cases tb<;>rfl
 have h1:RN (n + 1) (.f 150) [.list sz (av tb) 0 (xs.map aQ),.fn f 0 first cap] St.empty=some (.int .i64 (qM (dw p xs 0)),St.empty):=bG (S4 p xs sz (av tb) hz hl hn h) hm rfl rfl rfl rfl rfl
 have h2:frame Tryz.cfg (RN (n + 1)) (n + 1) 108 [.list sz (av tb) 0 (xs.map aQ),.fn f 0 first cap] St.empty=some (.bool (xs.any p),St.empty):=by
  refine aL Tryz.cfg _ (fn:=Tryz.f108) rfl rfl ?_
  refine ag.mk _ _ h1 ?_
  refine ah.mk (fun he=>?_) (fun he=>?_)
  ·rw [(eR p xs 0).symm.trans he];rfl
  ·rw [(eR p xs 0).symm.trans he];rfl
 exact bG h2 hm rfl rfl rfl rfl rfl
theorem S8 (p:Int→Bool) (xs:List Int) (tok:Tok) (hl:xs.length < 1000000000) (hn:xs.length < n) (h:∀x∈xs,FnB n f (cq first (cq [.int .i64 x] cap)) (p x) S) :
 frame Tryz.cfg (RN n) n 148 [.list 1 tok 0 (xs.map mq),.fn f top first cap] S=some (.int .i64 (qM (dw p xs 0)),S):=by
 refine aL Tryz.cfg _ (fn:=Tryz.f148) rfl rfl ?_
 refine aB.loop 19 (σ:=Unit) xs.length (fun j _=>{ nt:=19,tmps:=[(0,.list 1 tok 0 (xs.map mq)),(1,.fn f top first cap),(7,.int .i64 (.ofNat (aG ((xs.map mq))))),(8,.int .i64 (.ofNat j))],locs:=[],fix:=[] }) (fun _ _=>S)
  (fun j _=>dw p xs 0=dw p (xs.drop j) j) () (by omega) rfl ?_ ?_
 ·intro j _ hj hp
  obtain⟨x,hx⟩ : ∃x,xs[j]?=some x:=⟨_,aGe hj⟩
  rw [og hx] at hp
  refine ah.yes (ltM hj) ?_
  refine ab.mk _ (MP hx) ?_
  have jU:p x=true→dw p xs 0=some j:=fun he=>by rw [he] at hp;exact hp
  have hno:p x=false→dw p xs 0=dw p (xs.drop (j + 1)) (j + 1):=fun he=>by rw [he] at hp;exact hp
  rcases h x (aMg hx) with⟨h1,h2,h3⟩ | ⟨h1,l,S',h2,h3,h4⟩ | ⟨h1,h2,h3,h4,h5⟩
  ·conv=>whnf
   split
   ·rename_i hq;exact absurd (h1.symm.trans hq) (by decide)
   ·refine dJ h2 h3 ?_
    cases he:p x with
    | true=>rw [jU he];rfl
    | false=>
     refine ab.mk _ (az (by omega)) ?_
     exact⟨(),hno he,rfl,rfl⟩
  ·conv=>whnf
   split
   ·split
    ·rename_i l' hl
     cases (h2 _).symm.trans hl
     split
     ·refine⟨_,_,h4,rfl,?_⟩
      cases he:p x with
      | true=>rw [jU he];rfl
      | false=>
       refine ab.mk _ (az (by omega)) ?_
       exact⟨(),hno he,rfl,rfl⟩
     ·rename_i hq;exact absurd (h3.symm.trans hq) (by decide)
    ·rename_i hl;cases (h2 _).symm.trans hl
   ·rename_i hq;exact absurd (h1.symm.trans hq) (by decide)
  ·conv=>whnf
   split
   ·split
    ·rename_i l' hl
     cases (h2 _).symm.trans hl
     split
     ·rename_i hq;exact absurd (h3.symm.trans hq) (by decide)
     ·refine dJ h4 h5 ?_
      cases he:p x with
      | true=>rw [jU he];rfl
      | false=>
       refine ab.mk _ (az (by omega)) ?_
       exact⟨(),hno he,rfl,rfl⟩
    ·rename_i hl;cases (h2 _).symm.trans hl
   ·rename_i hq;exact absurd (h1.symm.trans hq) (by decide)
 ·intro _ hp
  rw [mc] at hp
  refine ah.no (geM (by omega)) ?_
  rw [hp];rfl
theorem Ta (p:Int→Bool) (xs:List Int) (tb:Bool) (hl:xs.length < 1000000000) (hn:xs.length < n) (hs:V.strip (.fn f 0 first cap)=.fn f 0 first cap) (h:∀x∈xs,FnB n f (cq first (cq [.int .i64 x] cap)) (p x) St.empty) :
 RN (n + 2) (.f 105) [.list 1 (av tb) 0 (xs.map mq),.fn f 0 first cap] S=some (.bool (xs.any p),S):=by
 have hm:bg V.strip [.list 1 (av tb) 0 (xs.map mq),.fn f 0 first cap]=[.list 1 (av tb) 0 (xs.map mq),.fn f 0 first cap]:=by
  show [V.strip (.list 1 (av tb) 0 (xs.map mq)),V.strip (.fn f 0 first cap)]=_
  rw [hs]
  cases tb<;>rfl
 have h1:RN (n + 1) (.f 148) [.list 1 (av tb) 0 (xs.map mq),.fn f 0 first cap] St.empty=some (.int .i64 (qM (dw p xs 0)),St.empty):=bG (S8 p xs (av tb) hl hn h) hm rfl rfl rfl rfl rfl
 have h2:frame Tryz.cfg (RN (n + 1)) (n + 1) 105 [.list 1 (av tb) 0 (xs.map mq),.fn f 0 first cap] St.empty=some (.bool (xs.any p),St.empty):=by
  refine aL Tryz.cfg _ (fn:=Tryz.f105) rfl rfl ?_
  refine ag.mk _ _ h1 ?_
  refine ah.mk (fun he=>?_) (fun he=>?_)
  ·rw [(eR p xs 0).symm.trans he];rfl
  ·rw [(eR p xs 0).symm.trans he];rfl
 exact bG h2 hm rfl rfl rfl rfl rfl
theorem Tb (p:Int×Int→Bool) (xs:List (Int×Int)) (hl:xs.length < 1000000000) (hn:xs.length < n) (h:∀x∈xs,FnB n f (cq first (cq [dh x] cap)) (p x) S) :
 frame Tryz.cfg (RN n) n 162 [.list 2 .no 0 (xs.map dh),.fn f top first cap] S=some (.int .i64 (qM (dw p xs 0)),S):=by
 refine aL Tryz.cfg _ (fn:=Tryz.f162) rfl rfl ?_
 refine aB.loop 19 (σ:=Unit) xs.length (fun j _=>{ nt:=19,tmps:=[(0,.list 2 .no 0 (xs.map dh)),(1,.fn f top first cap),(7,.int .i64 (.ofNat (aG ((xs.map dh))))),(8,.int .i64 (.ofNat j))],locs:=[],fix:=[] }) (fun _ _=>S)
  (fun j _=>dw p xs 0=dw p (xs.drop j) j) () (by omega) rfl ?_ ?_
 ·intro j _ hj hp
  obtain⟨x,hx⟩ : ∃x,xs[j]?=some x:=⟨_,aGe hj⟩
  rw [og hx] at hp
  refine ah.yes (ltM hj) ?_
  refine ab.mk _ (xP hx) ?_
  have jU:p x=true→dw p xs 0=some j:=fun he=>by rw [he] at hp;exact hp
  have hno:p x=false→dw p xs 0=dw p (xs.drop (j + 1)) (j + 1):=fun he=>by rw [he] at hp;exact hp
  rcases h x (aMg hx) with⟨h1,h2,h3⟩ | ⟨h1,l,S',h2,h3,h4⟩ | ⟨h1,h2,h3,h4,h5⟩
  ·conv=>whnf
   split
   ·rename_i hq;exact absurd (h1.symm.trans hq) (by decide)
   ·refine dJ h2 h3 ?_
    cases he:p x with
    | true=>rw [jU he];rfl
    | false=>
     refine ab.mk _ (az (by omega)) ?_
     exact⟨(),hno he,rfl,rfl⟩
  ·conv=>whnf
   split
   ·split
    ·rename_i l' hl
     cases (h2 _).symm.trans hl
     split
     ·refine⟨_,_,h4,rfl,?_⟩
      cases he:p x with
      | true=>rw [jU he];rfl
      | false=>
       refine ab.mk _ (az (by omega)) ?_
       exact⟨(),hno he,rfl,rfl⟩
     ·rename_i hq;exact absurd (h3.symm.trans hq) (by decide)
    ·rename_i hl;cases (h2 _).symm.trans hl
   ·rename_i hq;exact absurd (h1.symm.trans hq) (by decide)
  ·conv=>whnf
   split
   ·split
    ·rename_i l' hl
     cases (h2 _).symm.trans hl
     split
     ·rename_i hq;exact absurd (h3.symm.trans hq) (by decide)
     ·refine dJ h4 h5 ?_
      cases he:p x with
      | true=>rw [jU he];rfl
      | false=>
       refine ab.mk _ (az (by omega)) ?_
       exact⟨(),hno he,rfl,rfl⟩
    ·rename_i hl;cases (h2 _).symm.trans hl
   ·rename_i hq;exact absurd (h1.symm.trans hq) (by decide)
 ·intro _ hp
  rw [mc] at hp
  refine ah.no (geM (by omega)) ?_
  rw [hp];rfl
theorem Tc (p:Int×Int→Bool) (xs:List (Int×Int)) (hl:xs.length < 1000000000) (hn:xs.length < n) (hs:V.strip (.fn f 0 first cap)=.fn f 0 first cap) (h:∀x∈xs,FnB n f (cq first (cq [dh x] cap)) (p x) St.empty) :
 RN (n + 2) (.f 126) [.list 2 .no 0 (xs.map dh),.fn f 0 first cap] S=some (.bool (xs.any p),S):=by
 have hm:bg V.strip [.list 2 .no 0 (xs.map dh),.fn f 0 first cap]=[.list 2 .no 0 (xs.map dh),.fn f 0 first cap]:=by
  show [V.strip (.list 2 .no 0 (xs.map dh)),V.strip (.fn f 0 first cap)]=_
  rw [hs]
  rfl
 have h1:RN (n + 1) (.f 162) [.list 2 .no 0 (xs.map dh),.fn f 0 first cap] St.empty=some (.int .i64 (qM (dw p xs 0)),St.empty):=bG (Tb p xs hl hn h) hm rfl rfl rfl rfl rfl
 have h2:frame Tryz.cfg (RN (n + 1)) (n + 1) 126 [.list 2 .no 0 (xs.map dh),.fn f 0 first cap] St.empty=some (.bool (xs.any p),St.empty):=by
  refine aL Tryz.cfg _ (fn:=Tryz.f126) rfl rfl ?_
  refine ag.mk _ _ h1 ?_
  refine ah.mk (fun he=>?_) (fun he=>?_)
  ·rw [(eR p xs 0).symm.trans he];rfl
  ·rw [(eR p xs 0).symm.trans he];rfl
 exact bG h2 hm rfl rfl rfl rfl rfl
end
@[reducible] noncomputable def cV (d:Dl) (sz:Nat) (tok:Tok) (rows:List V):List V:=[.int .u8 d.kind,.int .i64 d.params,.str d.name,
  .int .u8 d.ty.k,.int .i64 d.ty.n,.str d.ty.s,.list (au d.ty.a d.ty.ls) (av d.ty.b) 0 (d.ty.ls.map enc),.list (au d.ty.c d.ty.ts) (av d.ty.d) 0 (ae d.ty.ts),
  .int .u8 d.val.k,.int .i64 d.val.n,.str d.val.s,.list (au d.val.a d.val.ls) (av d.val.b) 0 (d.val.ls.map enc),.list (au d.val.c d.val.ts) (av d.val.d) 0 (ae d.val.ts),
  .int .i64 d.fixed,.list 7 .no 0 (d.ai.map encI),.list sz tok 0 rows]
@[reducible] noncomputable def cQ (d:Dl) (sz:Nat) (tok:Tok) (rows:List V):V:=.imm 0 (cV d sz tok rows)
def SmD (d:Dl):Prop:=d.ai.length≤1000∧∀i∈d.ai,i.cs.length≤1000
theorem vl.smD {d:Dl} (h:vl d):SmD d:=⟨by have:=h.few;omega,fun i hi=>by have:=h.cs i hi;omega⟩
noncomputable def fO (is:List In):List (Nat×Ct):=(is.zipIdx 0).flatMap fun q=>q.1.cs.map fun c=>(q.2,c)
noncomputable def iN (is:List In) (j:Nat):Nat:=((is.take j).map fun i=>i.cs.length).sum
theorem DG : ∀(l:List In) (x0:Nat) {j i:Nat} {x:In} {c:Ct},l[j]?=some x→x.cs[i]?=some c→((l.zipIdx x0).flatMap fun q=>q.1.cs.map fun c=>(q.2,c))[((l.take j).map fun i=>i.cs.length).sum + i]?=some (x0 + j,c)
 | [],_,j,i,x,c,h,_=>by simp at h
 | a::l,x0,0,i,x,c,h,hc=>by
  simp at h;subst h
  rw [List.zipIdx_cons,List.flatMap_cons]
  simp only [List.take_zero,List.map_nil,List.sum_nil,Nat.zero_add,Nat.add_zero]
  rw [List.getElem?_append_left (by rw [aLm];exact (aGs hc).1),List.getElem?_map,hc]
  rfl
 | a::l,x0,j + 1,i,x,c,h,hc=>by
  rw [List.zipIdx_cons,List.flatMap_cons]
  simp only [List.take_succ_cons,List.map_cons,List.sum_cons]
  rw [List.getElem?_append_right (by rw [aLm];omega),aLm]
  have:=DG l (x0 + 1) (j:=j) (i:=i) (by simpa using h) hc
  rw [show a.cs.length + ((l.take j).map fun i=>i.cs.length).sum + i - a.cs.length=((l.take j).map fun i=>i.cs.length).sum + i by omega,this]
  congr 2;omega
theorem mM {is:List In} {j i:Nat} {x:In} {c:Ct} (hx:is[j]?=some x) (hc:x.cs[i]?=some c):(fO is)[iN is j + i]?=some (j,c):=by
 have:=DG is 0 hx hc
 rw [Nat.zero_add] at this
 exact this
theorem td (is:List In):(fO is).length=iN is is.length:=by
 unfold fO iN
 rw [List.take_length]
 have:∀(l:List In) (x0:Nat),((l.zipIdx x0).flatMap fun q=>q.1.cs.map fun c=>(q.2,c)).length=(l.map fun i=>i.cs.length).sum:=by
  intro l
  induction l with
  | nil=>intro x0;rfl
  | cons a l ih=>intro x0;rw [List.zipIdx_cons,List.flatMap_cons,aLa,ih];simp
 exact this is 0
theorem lJ {is:List In} {j:Nat} {x:In} (h:is[j]?=some x):iN is (j + 1)=iN is j + x.cs.length:=s8 h
@[reducible] noncomputable def Fs (k:Nat):Option Ct→List (Nat×List V)
  | none=>[]
  | some c=>[(k,mb c)]
@[reducible] noncomputable def QG:Option (In×Option Ct)→List (Nat×List V)
  | none=>[]
  | some (x,o)=>(4,eP x)::Fs 6 o
section
variable {n:Nat} {d:Dl} {sz:Nat} {tok:Tok} {rows:List V} {S:St}
theorem Pp {B:List Blk} {T:List Nat} {b:Nat} {P:Nat→St→Prop} {Q:St→Prop} (hl:d.ai.length < n) (hcs:∀i∈d.ai,i.cs.length < n) (hn:SmD d) (h0:P 0 { heap:=.cells 106 [cQ d sz tok rows]::B,aA:=T })
 (hy:∀k (q:Nat×Ct) S,(fO d.ai)[k]?=some q→P k S→(∃S',RN n (.y b) [.int .i64 (.ofNat q.1),fw q.2] S=some (.bool true,S')∧P (k + 1) S')∨(∃S',RN n (.y b) [.int .i64 (.ofNat q.1),fw q.2] S=some (.bool false,S')∧Q S')) :
 ∃S',RN (n + 1) (.f 149) [.yield b,.ptr (.box 0) 0] { heap:=.cells 106 [cQ d sz tok rows]::B,aA:=T }=some (.tuple [],S')∧(P (fO d.ai).length S'∨Q S'):=by
 have h:∃r,frame Tryz.cfg (RN n) n 149 [.yield b,.ptr (.box 0) 0] { heap:=.cells 106 [cQ d sz tok rows]::B,aA:=T }=some r∧∃S',r=(.tuple [],S')∧(P (fO d.ai).length S'∨Q S'):=by
  refine aV (fn:=Tryz.f149) (p:=fun r=>∃S',r=(.tuple [],S')∧(P (fO d.ai).length S'∨Q S')) rfl rfl ?_
  refine aB.loop 32 (σ:=Option (In×Option Ct)×St) d.ai.length (fun j s=>{ nt:=32,tmps:=[(0,.yield b),(11,.list 7 .no 0 (d.ai.map encI)),(12,.int .i64 (.ofNat (aG (d.ai.map encI)))),(13,.int .i64 (.ofNat j))],locs:=QG s.1,fix:=[] })
   (fun _ s=>s.2) (fun j s=>P (iN d.ai j) s.2) (none,{ heap:=.cells 106 [cQ d sz tok rows]::B,aA:=T }) (by omega) h0 ?_ ?_
  ·rintro j ⟨o,S1⟩ hj (hp:P (iN d.ai j) S1)
   obtain⟨x,hx⟩ : ∃x,d.ai[j]?=some x:=⟨_,aGe hj⟩
   have hxl:=hcs x (aMg hx)
   have hn1:=hn.1
   have Pq:=hn.2 x (aMg hx)
   rcases o with _ | ⟨x0,_ | c0⟩
   ·refine ah.yes (ltM hj) ?_
    refine ab.mk _ (aO hx) ?_
    refine aB.loop 32 (σ:=Option Ct×St) x.cs.length (fun i s=>{ nt:=32,tmps:=[(0,.yield b),(3,.int .i64 (.ofNat j)),(11,.list 7 .no 0 (d.ai.map encI)),(12,.int .i64 (.ofNat (aG (d.ai.map encI)))),(13,.int .i64 (.ofNat j)),(19,.list 6 .no 0 (x.cs.map fw)),(20,.int .i64 (.ofNat (aG (x.cs.map fw)))),(21,.int .i64 (.ofNat i))],locs:=(4,eP x)::Fs 6 s.1,fix:=[] })
     (fun _ s=>s.2) (fun i s=>P (iN d.ai j + i) s.2) (none,S1) (by omega) hp ?_ ?_
    ·rintro i ⟨o,S2⟩ hi (hp2:P (iN d.ai j + i) S2)
     obtain⟨c,hc⟩ : ∃c,x.cs[i]?=some c:=⟨_,aGe hi⟩
     rcases o with _ | c1
     all_goals
      refine ah.yes (ltM hi) ?_
      refine ab.mk _ (ed hc) ?_
      rcases hy _ _ S2 (mM hx hc) hp2 with⟨S',k1,k2⟩ | ⟨S',k1,k2⟩
      ·refine ag.mk _ _ k1 ?_
       refine ab.mk _ (az (by omega)) ?_
       exact⟨(some c,S'),k2,rfl,rfl⟩
      ·refine ag.mk _ _ k1 ?_
       exact⟨_,rfl,S',rfl,.inr k2⟩
    ·rintro⟨o,S2⟩ (hp2:P (iN d.ai j + x.cs.length) S2)
     rw [← lJ hx] at hp2
     rcases o with _ | c1
     ·refine ah.no (geM (by omega)) ?_
      refine ab.mk _ (az (by omega)) ?_
      exact⟨(some (x,none),S2),hp2,rfl,rfl⟩
     ·refine ah.no (geM (by omega)) ?_
      refine ab.mk _ (az (by omega)) ?_
      exact⟨(some (x,some c1),S2),hp2,rfl,rfl⟩
   ·refine ah.yes (ltM hj) ?_
    refine ab.mk _ (aO hx) ?_
    refine aB.loop 32 (σ:=Option Ct×St) x.cs.length (fun i s=>{ nt:=32,tmps:=[(0,.yield b),(3,.int .i64 (.ofNat j)),(11,.list 7 .no 0 (d.ai.map encI)),(12,.int .i64 (.ofNat (aG (d.ai.map encI)))),(13,.int .i64 (.ofNat j)),(19,.list 6 .no 0 (x.cs.map fw)),(20,.int .i64 (.ofNat (aG (x.cs.map fw)))),(21,.int .i64 (.ofNat i))],locs:=(4,eP x)::Fs 6 s.1,fix:=[] })
     (fun _ s=>s.2) (fun i s=>P (iN d.ai j + i) s.2) (none,S1) (by omega) hp ?_ ?_
    ·rintro i ⟨o,S2⟩ hi (hp2:P (iN d.ai j + i) S2)
     obtain⟨c,hc⟩ : ∃c,x.cs[i]?=some c:=⟨_,aGe hi⟩
     rcases o with _ | c1
     all_goals
      refine ah.yes (ltM hi) ?_
      refine ab.mk _ (ed hc) ?_
      rcases hy _ _ S2 (mM hx hc) hp2 with⟨S',k1,k2⟩ | ⟨S',k1,k2⟩
      ·refine ag.mk _ _ k1 ?_
       refine ab.mk _ (az (by omega)) ?_
       exact⟨(some c,S'),k2,rfl,rfl⟩
      ·refine ag.mk _ _ k1 ?_
       exact⟨_,rfl,S',rfl,.inr k2⟩
    ·rintro⟨o,S2⟩ (hp2:P (iN d.ai j + x.cs.length) S2)
     rw [← lJ hx] at hp2
     rcases o with _ | c1
     ·refine ah.no (geM (by omega)) ?_
      refine ab.mk _ (az (by omega)) ?_
      exact⟨(some (x,none),S2),hp2,rfl,rfl⟩
     ·refine ah.no (geM (by omega)) ?_
      refine ab.mk _ (az (by omega)) ?_
      exact⟨(some (x,some c1),S2),hp2,rfl,rfl⟩
   ·refine ah.yes (ltM hj) ?_
    refine ab.mk _ (aO hx) ?_
    refine aB.loop 32 (σ:=Option Ct×St) x.cs.length (fun i s=>{ nt:=32,tmps:=[(0,.yield b),(3,.int .i64 (.ofNat j)),(11,.list 7 .no 0 (d.ai.map encI)),(12,.int .i64 (.ofNat (aG (d.ai.map encI)))),(13,.int .i64 (.ofNat j)),(19,.list 6 .no 0 (x.cs.map fw)),(20,.int .i64 (.ofNat (aG (x.cs.map fw)))),(21,.int .i64 (.ofNat i))],locs:=(4,eP x)::Fs 6 s.1,fix:=[] })
     (fun _ s=>s.2) (fun i s=>P (iN d.ai j + i) s.2) (some c0,S1) (by omega) hp ?_ ?_
    ·rintro i ⟨o,S2⟩ hi (hp2:P (iN d.ai j + i) S2)
     obtain⟨c,hc⟩ : ∃c,x.cs[i]?=some c:=⟨_,aGe hi⟩
     rcases o with _ | c1
     all_goals
      refine ah.yes (ltM hi) ?_
      refine ab.mk _ (ed hc) ?_
      rcases hy _ _ S2 (mM hx hc) hp2 with⟨S',k1,k2⟩ | ⟨S',k1,k2⟩
      ·refine ag.mk _ _ k1 ?_
       refine ab.mk _ (az (by omega)) ?_
       exact⟨(some c,S'),k2,rfl,rfl⟩
      ·refine ag.mk _ _ k1 ?_
       exact⟨_,rfl,S',rfl,.inr k2⟩
    ·rintro⟨o,S2⟩ (hp2:P (iN d.ai j + x.cs.length) S2)
     rw [← lJ hx] at hp2
     rcases o with _ | c1
     ·refine ah.no (geM (by omega)) ?_
      refine ab.mk _ (az (by omega)) ?_
      exact⟨(some (x,none),S2),hp2,rfl,rfl⟩
     ·refine ah.no (geM (by omega)) ?_
      refine ab.mk _ (az (by omega)) ?_
      exact⟨(some (x,some c1),S2),hp2,rfl,rfl⟩
  ·rintro⟨o,S1⟩ (hp:P (iN d.ai d.ai.length) S1)
   rw [← td] at hp
   rcases o with _ | ⟨x0,_ | c0⟩
   all_goals
    refine ah.no (geM (by omega)) ?_
    exact⟨_,rfl,S1,rfl,.inl hp⟩
 obtain⟨r,h1,S',rfl,h2⟩:=h
 exact⟨S',bC rfl h1,h2⟩
theorem QH {B:List Blk} {T:List Nat} {b:Nat} {P:Nat→St→Prop} {Q:St→Prop} (hl:d.ai.length < n) (hcs:∀i∈d.ai,i.cs.length < n) (hn:SmD d) (h0:P 0 { heap:=.cells 108 (cV d sz tok rows)::.cells 106 [.ptr (.box 0) 0]::B,aA:=T })
 (hy:∀k (q:Nat×Ct) S,(fO d.ai)[k]?=some q→P k S→(∃S',RN n (.y b) [.int .i64 (.ofNat q.1),fw q.2] S=some (.bool true,S')∧P (k + 1) S')∨(∃S',RN n (.y b) [.int .i64 (.ofNat q.1),fw q.2] S=some (.bool false,S')∧Q S')) :
 ∃S',RN (n + 1) (.f 149) [.yield b,.ptr (.box 1) 0] { heap:=.cells 108 (cV d sz tok rows)::.cells 106 [.ptr (.box 0) 0]::B,aA:=T }=some (.tuple [],S')∧(P (fO d.ai).length S'∨Q S'):=by
 have h:∃r,frame Tryz.cfg (RN n) n 149 [.yield b,.ptr (.box 1) 0] { heap:=.cells 108 (cV d sz tok rows)::.cells 106 [.ptr (.box 0) 0]::B,aA:=T }=some r∧∃S',r=(.tuple [],S')∧(P (fO d.ai).length S'∨Q S'):=by
  refine aV (fn:=Tryz.f149) (p:=fun r=>∃S',r=(.tuple [],S')∧(P (fO d.ai).length S'∨Q S')) rfl rfl ?_
  refine aB.loop 32 (σ:=Option (In×Option Ct)×St) d.ai.length (fun j s=>{ nt:=32,tmps:=[(0,.yield b),(11,.list 7 .no 0 (d.ai.map encI)),(12,.int .i64 (.ofNat (aG (d.ai.map encI)))),(13,.int .i64 (.ofNat j))],locs:=QG s.1,fix:=[] })
   (fun _ s=>s.2) (fun j s=>P (iN d.ai j) s.2) (none,{ heap:=.cells 108 (cV d sz tok rows)::.cells 106 [.ptr (.box 0) 0]::B,aA:=T }) (by omega) h0 ?_ ?_
  ·rintro j ⟨o,S1⟩ hj (hp:P (iN d.ai j) S1)
   obtain⟨x,hx⟩ : ∃x,d.ai[j]?=some x:=⟨_,aGe hj⟩
   have hxl:=hcs x (aMg hx)
   have hn1:=hn.1
   have Pq:=hn.2 x (aMg hx)
   rcases o with _ | ⟨x0,_ | c0⟩
   ·refine ah.yes (ltM hj) ?_
    refine ab.mk _ (aO hx) ?_
    refine aB.loop 32 (σ:=Option Ct×St) x.cs.length (fun i s=>{ nt:=32,tmps:=[(0,.yield b),(3,.int .i64 (.ofNat j)),(11,.list 7 .no 0 (d.ai.map encI)),(12,.int .i64 (.ofNat (aG (d.ai.map encI)))),(13,.int .i64 (.ofNat j)),(19,.list 6 .no 0 (x.cs.map fw)),(20,.int .i64 (.ofNat (aG (x.cs.map fw)))),(21,.int .i64 (.ofNat i))],locs:=(4,eP x)::Fs 6 s.1,fix:=[] })
     (fun _ s=>s.2) (fun i s=>P (iN d.ai j + i) s.2) (none,S1) (by omega) hp ?_ ?_
    ·rintro i ⟨o,S2⟩ hi (hp2:P (iN d.ai j + i) S2)
     obtain⟨c,hc⟩ : ∃c,x.cs[i]?=some c:=⟨_,aGe hi⟩
     rcases o with _ | c1
     all_goals
      refine ah.yes (ltM hi) ?_
      refine ab.mk _ (ed hc) ?_
      rcases hy _ _ S2 (mM hx hc) hp2 with⟨S',k1,k2⟩ | ⟨S',k1,k2⟩
      ·refine ag.mk _ _ k1 ?_
       refine ab.mk _ (az (by omega)) ?_
       exact⟨(some c,S'),k2,rfl,rfl⟩
      ·refine ag.mk _ _ k1 ?_
       exact⟨_,rfl,S',rfl,.inr k2⟩
    ·rintro⟨o,S2⟩ (hp2:P (iN d.ai j + x.cs.length) S2)
     rw [← lJ hx] at hp2
     rcases o with _ | c1
     ·refine ah.no (geM (by omega)) ?_
      refine ab.mk _ (az (by omega)) ?_
      exact⟨(some (x,none),S2),hp2,rfl,rfl⟩
     ·refine ah.no (geM (by omega)) ?_
      refine ab.mk _ (az (by omega)) ?_
      exact⟨(some (x,some c1),S2),hp2,rfl,rfl⟩
   ·refine ah.yes (ltM hj) ?_
    refine ab.mk _ (aO hx) ?_
    refine aB.loop 32 (σ:=Option Ct×St) x.cs.length (fun i s=>{ nt:=32,tmps:=[(0,.yield b),(3,.int .i64 (.ofNat j)),(11,.list 7 .no 0 (d.ai.map encI)),(12,.int .i64 (.ofNat (aG (d.ai.map encI)))),(13,.int .i64 (.ofNat j)),(19,.list 6 .no 0 (x.cs.map fw)),(20,.int .i64 (.ofNat (aG (x.cs.map fw)))),(21,.int .i64 (.ofNat i))],locs:=(4,eP x)::Fs 6 s.1,fix:=[] })
     (fun _ s=>s.2) (fun i s=>P (iN d.ai j + i) s.2) (none,S1) (by omega) hp ?_ ?_
    ·rintro i ⟨o,S2⟩ hi (hp2:P (iN d.ai j + i) S2)
     obtain⟨c,hc⟩ : ∃c,x.cs[i]?=some c:=⟨_,aGe hi⟩
     rcases o with _ | c1
     all_goals
      refine ah.yes (ltM hi) ?_
      refine ab.mk _ (ed hc) ?_
      rcases hy _ _ S2 (mM hx hc) hp2 with⟨S',k1,k2⟩ | ⟨S',k1,k2⟩
      ·refine ag.mk _ _ k1 ?_
       refine ab.mk _ (az (by omega)) ?_
       exact⟨(some c,S'),k2,rfl,rfl⟩
      ·refine ag.mk _ _ k1 ?_
       exact⟨_,rfl,S',rfl,.inr k2⟩
    ·rintro⟨o,S2⟩ (hp2:P (iN d.ai j + x.cs.length) S2)
     rw [← lJ hx] at hp2
     rcases o with _ | c1
     ·refine ah.no (geM (by omega)) ?_
      refine ab.mk _ (az (by omega)) ?_
      exact⟨(some (x,none),S2),hp2,rfl,rfl⟩
     ·refine ah.no (geM (by omega)) ?_
      refine ab.mk _ (az (by omega)) ?_
      exact⟨(some (x,some c1),S2),hp2,rfl,rfl⟩
   ·refine ah.yes (ltM hj) ?_
    refine ab.mk _ (aO hx) ?_
    refine aB.loop 32 (σ:=Option Ct×St) x.cs.length (fun i s=>{ nt:=32,tmps:=[(0,.yield b),(3,.int .i64 (.ofNat j)),(11,.list 7 .no 0 (d.ai.map encI)),(12,.int .i64 (.ofNat (aG (d.ai.map encI)))),(13,.int .i64 (.ofNat j)),(19,.list 6 .no 0 (x.cs.map fw)),(20,.int .i64 (.ofNat (aG (x.cs.map fw)))),(21,.int .i64 (.ofNat i))],locs:=(4,eP x)::Fs 6 s.1,fix:=[] })
     (fun _ s=>s.2) (fun i s=>P (iN d.ai j + i) s.2) (some c0,S1) (by omega) hp ?_ ?_
    ·rintro i ⟨o,S2⟩ hi (hp2:P (iN d.ai j + i) S2)
     obtain⟨c,hc⟩ : ∃c,x.cs[i]?=some c:=⟨_,aGe hi⟩
     rcases o with _ | c1
     all_goals
      refine ah.yes (ltM hi) ?_
      refine ab.mk _ (ed hc) ?_
      rcases hy _ _ S2 (mM hx hc) hp2 with⟨S',k1,k2⟩ | ⟨S',k1,k2⟩
      ·refine ag.mk _ _ k1 ?_
       refine ab.mk _ (az (by omega)) ?_
       exact⟨(some c,S'),k2,rfl,rfl⟩
      ·refine ag.mk _ _ k1 ?_
       exact⟨_,rfl,S',rfl,.inr k2⟩
    ·rintro⟨o,S2⟩ (hp2:P (iN d.ai j + x.cs.length) S2)
     rw [← lJ hx] at hp2
     rcases o with _ | c1
     ·refine ah.no (geM (by omega)) ?_
      refine ab.mk _ (az (by omega)) ?_
      exact⟨(some (x,none),S2),hp2,rfl,rfl⟩
     ·refine ah.no (geM (by omega)) ?_
      refine ab.mk _ (az (by omega)) ?_
      exact⟨(some (x,some c1),S2),hp2,rfl,rfl⟩
  ·rintro⟨o,S1⟩ (hp:P (iN d.ai d.ai.length) S1)
   rw [← td] at hp
   rcases o with _ | ⟨x0,_ | c0⟩
   all_goals
    refine ah.no (geM (by omega)) ?_
    exact⟨_,rfl,S1,rfl,.inl hp⟩
 obtain⟨r,h1,S',rfl,h2⟩:=h
 exact⟨S',bC rfl h1,h2⟩
end
end Go.Ev
