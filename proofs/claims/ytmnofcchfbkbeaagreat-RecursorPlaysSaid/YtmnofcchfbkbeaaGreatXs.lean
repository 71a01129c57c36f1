/- The document: what its recursors are (own work). -/
import Derived.Test.YtmnofcchfbkbeaaGreatXr
namespace Go.Ev
open Go.Proofs Go.RowKit
set_option maxRecDepth 100000
set_option linter.unusedVariables false
set_option linter.unusedSimpArgs false
theorem E9 (n:Nat) (rows:List V):ai (gK n rows)=gK n rows:=by cases rows<;>rfl
@[reducible] noncomputable def Fa (d:Dl) (sh:List Sh) (m:Nat) (u:Lv):List V:=[.int .u8 d.kind,.int .i64 d.params,.str d.name,
  .int .u8 d.ty.k,.int .i64 d.ty.n,.str d.ty.s,.list (ao d.ty.a d.ty.ls) (aw d.ty.b) 0 (d.ty.ls.map enc),.list (ao d.ty.c d.ty.ts) (aw d.ty.d) 0 (ag d.ty.ts),
  .int .u8 d.val.k,.int .i64 d.val.n,.str d.val.s,.list (ao d.val.a d.val.ls) (aw d.val.b) 0 (d.val.ls.map enc),.list (ao d.val.c d.val.ts) (aw d.val.d) 0 (ag d.val.ts),
  .int .i64 d.fixed,.list 7 .no 0 (d.aj.map encI),.list 7 .no 0 (sh.map bx),.int .i64 (.ofNat m),.int .i64 u.c,.int .i64 u.p0,.int .i64 u.p1,.int .i64 u.p2,.int .i64 u.p3]
@[reducible] noncomputable def gC (d:Dl) (sh:List Sh) (m:Nat) (u:Lv):V:=.imm 0 (Fa d sh m u)
theorem cJ (cs l:List V):bn V.strip (.imm 0 cs::l)=.imm 0 cs::bn V.strip l:=rfl
structure m6 (d:Dl) (fx p:Nat) (W:Nat):Prop where
 dl:pV d W
 nm:xK d
 hfx:d.fixed=.ofNat fx
 hpp:d.params=.ofNat p
 f12:fx≤12
 p4:p < 4
 gd:∀i∈d.aj,Gd W 4096 i.ty∧fx≤(al i.ty).1.length∧∀c∈i.cs,Gd W 4096 c.ty∧fx≤(al c.ty).1.length
noncomputable def dy:Nat→Tm→Tm:=fun n t=>Nat.rec t (fun _ c=>(c.ts[1]?).getD zTm) n
theorem j6 {x:Tm} (hx:dU x):∀(n:Nat),n≤(al x).1.length→mg x n ((al x).1.take n) (dy n x)
 | 0,_=>mg.start hx
 | n + 1,hn=>by
  have h:=j6 hx n (by omega)
  obtain⟨hk,a,b,ht,h'⟩:=h.next (by omega)
  have e:dy (n + 1) x=b:=by
   show ((dy n x).ts[1]?).getD zTm=b
   rw [ht];rfl
  rw [e]
  exact⟨h'.all,rfl,h'.rest,h'.last⟩
theorem ot {W:Nat} {c:Int} {x:Tm} (hx:Gd W c x):∀(n:Nat),n≤(al x).1.length→Gd W c (dy n x)
 | 0,_=>hx
 | n + 1,hn=>by
  have h:=j6 hx.all n (by omega)
  obtain⟨hk,a,b,ht,h'⟩:=h.next (by omega)
  have e:dy (n + 1) x=b:=by
   show ((dy n x).ts[1]?).getD zTm=b
   rw [ht];rfl
  rw [e]
  exact (ot hx n (by omega)).kid (by rw [ht];simp)
noncomputable def ou (fx:Nat) (t:Tm) (aa:Nat):Tm:=aZ (dy fx t) 0 (.ofNat aa - .ofNat fx)
noncomputable def aG (fx:Nat) (t:Tm) (aa:Nat):List Tm×Tm:=al (ou fx t aa)
theorem nD {W fx:Nat} {t:Tm} {aa:Nat} (h:Gd W 4096 t) (hf:fx≤(al t).1.length) (h1:fx≤aa) (h2:aa≤100000):Gd W 200000 (ou fx t aa):=by
 have hg:=(ot h fx hf).lift (b:=.ofNat aa - .ofNat fx) (by simp only [aOn];omega) (by simp only [aOn];omega) 0
 exact hg.mono (by simp only [aOn];omega)
def H3 (fx:Nat) (t:Tm) (aa:Nat) (H:List Blk) (T:List Nat) (q:V×St):Prop:=
 ∃T' tok,q=(.tuple [.list (ao false (aG fx t aa).1) tok 0 (ag (aG fx t aa).1),aB (aG fx t aa).2],{ heap:=H,aA:=T' })∧av T T' (aG fx t aa).1 tok
theorem bdN {a:Nat} (h:a≤1000000000):Bd (.ofNat a):=by unfold Bd;simp only [aOn];omega
noncomputable def gS (fx p:Nat) (name:List UInt8) (aa:Nat) (l:List Tm):Tm:=de (de (mf name false (fg p).isEmpty (fg p)) (db 0 fx (.ofNat aa))) l
noncomputable def fR (fx p:Nat) (u:Lv) (x:In) (aa:Nat):Tm:=
 let l:=(aG fx x.ty aa).1
 eB 6 (l++[gS fx p x.name (aa + l.length) (db aa l.length (.ofNat (aa + l.length)))]) (zB u)
theorem Fb {W fx:Nat} {t:Tm} {aa:Nat} (ht:Gd W 4096 t) (hf:fx≤(al t).1.length) (h1:fx≤aa) (h2:aa≤100000):(aG fx t aa).1.length≤W:=by
 have hgb:=nD ht hf h1 h2
 have:=(fy _ _ (Nat.le_refl _) hgb.all).1
 have:=hgb.le
 unfold aG;omega
section
variable {n:Nat} {d:Dl} {sh:List Sh} {m:Nat} {u:Lv} {fx p W:Nat} {H:List Blk} {T:List Nat} {S:St}
theorem h70 {t:Tm} {aa:Nat} (hb:m6 d fx p W) (ht:Gd W 4096 t) (hf:fx≤(al t).1.length) (h1:fx≤aa) (h2:aa≤100000) (hn:W + 40≤n) :
 ∃q,RN n (.f 70) [gC d sh m u,aB t,.int .i64 (.ofNat aa)] { heap:=H,aA:=T }=some q∧H3 fx t aa H T q:=by
 obtain⟨k,rfl⟩:=up (show 1≤n by omega)
 have hWm:=hb.dl.qM
 have hfx:=hb.hfx
 have kT:=hb.f12
 have hgb:=nD ht hf h1 h2
 obtain⟨q0,k1,T1,tok,rfl,hg⟩:=h33 (n:=k) (x:=ou fx t aa) (H:=H) (T:=T) hgb.all (by have:=hgb.le;omega) (by have:=hgb.le;omega)
 have h:∃q,frame Tryz.cfg (RN k) k 70 [gC d sh m u,aB t,.int .i64 (.ofNat aa)] { heap:=H,aA:=T }=some q∧H3 fx t aa H T q:=by
  refine aU (fn:=Tryz.f70) (p:=H3 fx t aa H T) rfl rfl ?_
  refine aD.loop 34 (σ:=Unit) fx (fun j _=>{ nt:=34,tmps:=[(0,gC d sh m u),(2,.int .i64 (.ofNat aa)),(4,.ptr (.loc 4) 0),(7,.ptr (.loc 7) 0),(8,.int .i64 (.ofNat j))],locs:=[(4,aC (dy j t)),(7,fI)],fix:=[] }) (fun _ _=>{ heap:=H,aA:=T }) (fun _ _=>True) () (by omega) trivial ?_ ?_
  ·intro j _ hj _
   have hp:=j6 ht.all j (by omega)
   obtain⟨hk,a,b,hts,_⟩:=hp.next (by omega)
   refine ah.yes (by rw [hfx];exact dj hj) ?_
   refine ab.mk _ (show indexAddr Tryz.cfg 23 (.list (ao (dy j t).c (dy j t).ts) (aw (dy j t).d) 0 (ag (dy j t).ts)) (.int .i64 (.ofNat 1))=_ from bz (x:=b) (by rw [hts];rfl)) ?_
   refine ab.mk _ (az (by omega)) ?_
   refine⟨(),trivial,?_,rfl⟩
   have e:dy (j + 1) t=b:=by
    show ((dy j t).ts[1]?).getD zTm=b
    rw [hts];rfl
   rw [e]
  ·intro _ _
   refine ah.no (by rw [hfx];exact eS (by omega)) ?_
   refine ab.mk (.int .i64 (.ofNat aa - .ofNat fx)) (by rw [hfx];exact mB (by simp only [aOn];omega) (by simp only [aOn];omega)) ?_
   refine ae.mk _ _ (h79 (W:=W) (ot ht fx hf).le (by omega) (by omega)) ?_
   refine ae.mk _ _ k1 ?_
   exact⟨_,rfl,T1,tok,rfl,hg⟩
 obtain⟨q,k2,k3⟩:=h
 exact⟨q,bw rfl k2,k3⟩
theorem h71 {name:List UInt8} {aa:Nat} {l:List Tm} {c:Bool} {tok:Tok} (hb:m6 d fx p W) (h2:aa≤1000000) (hl:l.length≤10000000) (hn:l.length + 40≤n) :
 RN n (.f 71) [gC d sh m u,.str name,.int .i64 (.ofNat aa),.list (ao c l) tok 0 (ag l)] S=some (aB (gS fx p name aa l),S):=by
 obtain⟨k,rfl⟩:=up (show 1≤n by omega)
 have hfx:=hb.hfx
 have hpp:=hb.hpp
 have kT:=hb.f12
 have hp4:=hb.p4
 obtain⟨b,hb'⟩:=eC tok
 obtain⟨q0,k1,T1,JL,rfl,hg⟩:=h84 (n:=k) (m:=p) (H:=[]) (T:=[]) (by omega) (by omega)
 rw [← hpp] at k1
 obtain⟨T2,Dr,k2,hg2⟩:=h72 (n:=k) (from_:=0) (m:=fx) (r:=.ofNat aa) (H:=[]) (T:=T1) (by omega) (by omega) (bdN (by omega))
 rw [← hfx] at k2
 have hrl:=ev 0 fx (.ofNat aa)
 have h:∃q,frame Tryz.cfg (RN k) k 71 [gC d sh m u,.str name,.int .i64 (.ofNat aa),.list (ao c l) (aw b) 0 (ag l)] St.empty=some q∧∃S',q=(aB (gS fx p name aa l),S'):=by
  refine aU (fn:=Tryz.f71) (p:=fun q=>∃S',q=(aB (gS fx p name aa l),S')) rfl rfl ?_
  refine ae.mk _ _ k1 ?_
  refine ae.mk _ _ (k44 hg.ep (by omega)) ?_
  refine ae.mk _ _ k2 ?_
  refine ae.mk _ _ (k74 (by rw [hrl];omega) (by rw [hrl];omega)) ?_
  refine ae.mk _ _ (k74 (by omega) (by omega)) ?_
  exact⟨_,rfl,_,rfl⟩
 obtain⟨q,k3,S',rfl⟩:=h
 rw [iW (jQ:=[gC d sh m u,.str name,.int .i64 (.ofNat aa),.list (ao c l) (aw b) 0 (ag l)]) rfl rfl rfl (by simp only [cJ,jI,bf,b8,eD hb',an])]
 exact dZ k3 (by simp only [cJ,jI,bf,b8,an]) rfl rfl
theorem h76 {x:Nat} (hb:m6 d fx p W) (hx:x≤1000) (hn:2≤n):RN n (.f 76) [gC d sh m u,.int .i64 (.ofNat x)] S=some (.int .i64 (.ofNat (fx + x)),S):=by
 obtain⟨k,rfl⟩:=up (show 1≤n by omega)
 have hfx:=hb.hfx
 have kT:=hb.f12
 have h:frame Tryz.cfg (RN k) k 76 [gC d sh m u,.int .i64 (.ofNat x)] St.empty=some (.int .i64 (.ofNat (fx + x)),St.empty):=by
  refine aO Tryz.cfg _ (fn:=Tryz.f76) rfl rfl ?_
  refine ab.mk (.int .i64 (.ofNat (fx + x))) (by rw [hfx];exact addNat (by omega)) ?_
  rfl
 exact bC h (by simp only [cJ,bf,an]) rfl rfl rfl rfl rfl
theorem RV {x:In} {j aa:Nat} (hb:m6 d fx p W) (hx:d.aj[j]?=some x) (h1:fx≤aa) (h2:aa≤1000) (hn:2 * W + 200≤n) (hsm:(aG fx x.ty aa).1.length≤100000) :
 RN n (.f 137) [gC d sh m u,.int .i64 (.ofNat j),.int .i64 (.ofNat aa)] S=some (aB (fR fx p u x aa),S):=by
 obtain⟨k,rfl⟩:=up (show 1≤n by omega)
 obtain⟨hg1,hg2,_⟩:=hb.gd x (aMg hx)
 have hbl:=Fb hg1 hg2 h1 (show aa≤100000 by omega)
 obtain⟨q0,k1,T1,tok,rfl,hg⟩:=h70 (n:=k) (sh:=sh) (m:=m) (u:=u) (H:=[]) (T:=[]) hb hg1 hg2 h1 (by omega) (by omega)
 obtain⟨T2,Dr,k2,hgr⟩:=h72 (n:=k) (from_:=aa) (m:=(aG fx x.ty aa).1.length) (r:=.ofNat (aa + (aG fx x.ty aa).1.length)) (H:=[]) (T:=T1) (by omega) (by omega) (bdN (by omega))
 have hrl:=ev aa (aG fx x.ty aa).1.length (.ofNat (aa + (aG fx x.ty aa).1.length))
 have k3:=h71 (n:=k) (sh:=sh) (m:=m) (u:=u) (S:={ heap:=[],aA:=T2 }) (name:=x.name) (aa:=aa + (aG fx x.ty aa).1.length) (c:=false) (tok:=Dr) (l:=db aa (aG fx x.ty aa).1.length (.ofNat (aa + (aG fx x.ty aa).1.length))) hb (by omega) (by rw [hrl];omega) (by rw [hrl];omega)
 obtain⟨T3,eU,a1,a2⟩:=iA (LT:=23) (c:=false) (bg:=.tight) (H:=[]) (done:=(aG fx x.ty aa).1) (new:=[gS fx p x.name (aa + (aG fx x.ty aa).1.length) (db aa (aG fx x.ty aa).1.length (.ofNat (aa + (aG fx x.ty aa).1.length)))]) rfl (by simp only [aLc,List.length_nil];omega) (hg.ext hgr.1)
 have h:∃q,frame Tryz.cfg (RN k) k 137 [gC d sh m u,.int .i64 (.ofNat j),.int .i64 (.ofNat aa)] St.empty=some q∧∃S',q=(aB (fR fx p u x aa),S'):=by
  refine aU (fn:=Tryz.f137) (p:=fun q=>∃S',q=(aB (fR fx p u x aa),S')) rfl rfl ?_
  refine ab.mk _ (aL hx) ?_
  refine ae.mk _ _ k1 ?_
  refine ab.mk _ (aL hx) ?_
  refine ab.mk (.int .i64 (.ofNat (aa + (aG fx x.ty aa).1.length))) (by rw [ak];exact addNat (by omega)) ?_
  refine ab.mk (.int .i64 (.ofNat (aa + (aG fx x.ty aa).1.length))) (by rw [ak];exact addNat (by omega)) ?_
  refine ae.mk _ _ (by rw [ak];exact k2) ?_
  refine ae.mk _ _ k3 ?_
  refine ab.mk _ (bs1 _ 23 _ _ _ rfl) ?_
  refine cj.mk _ _ (a1 _ _ rfl) ?_
  refine ae.mk _ _ (h89 (by omega)) ?_
  refine ae.mk _ _ (k73 (by simp only [aLa,aLc,List.length_nil];omega) (by simp only [aLa,aLc,List.length_nil];omega)) ?_
  exact⟨_,rfl,_,rfl⟩
 obtain⟨q,k4,S',rfl⟩:=h
 exact dZ k4 (by simp only [cJ,bf,an]) rfl rfl
end
theorem Me {x A B:Tm} {a b:Int} (h:iEq x.k 6=true) (ht:x.ts=[A,B]) (ha : -1000000000≤a∧a≤1000000000):(aZ x a b).k=x.k∧(aZ x a b).ts=[aZ A a b,aZ B (a + 1) b]:=by
 have hk:iEq x.k 2=false:=by
  rw [bW,decide_eq_true_eq] at h
  rw [h];rfl
 rw [lJ hk,sZ,p9,ht]
 refine⟨rfl,?_⟩
 rw [bW,decide_eq_true_eq] at h
 rw [h]
 show [aZ A (dT a (bq 6 (.ofNat 0))) b,aZ B (dT a (bq 6 (.ofNat 1))) b]=_
 rw [show bq 6 (.ofNat 0)=0 from rfl,show bq 6 (.ofNat 1)=1 from rfl]
 rw [show dT a 0=a + 0 from gy (by omega) (by omega),show dT a 1=a + 1 from gy (by omega) (by omega)]
 simp
theorem GM {x:Tm} {a b:Int}:(aZ x a b).k=x.k:=by
 cases hk:iEq x.k 2 with
 | true=>
  rw [p8 hk]
  cases (!iLt x.n a) with
  | true=>simp only [cond_true,Bj]
  | false=>rfl
 | false=>rw [lJ hk,sZ]
noncomputable def mu (b:Int):List Tm→Int→List Tm
 | [],_=>[]
 | t::ts,a=>aZ t a b::mu b ts (a + 1)
theorem ov (b:Int):∀(ts:List Tm) (a:Int),(mu b ts a).length=ts.length
 | [],a=>rfl
 | t::ts,a=>by rw [mu,aLc,aLc,ov b ts]
theorem rU (b:Int):∀(ts:List Tm) (a:Int) (i:Nat) (t:Tm),ts[i]?=some t→(mu b ts a)[i]?=some (aZ t (a + .ofNat i) b)
 | [],a,i,t,h=>by simp at h
 | x::ts,a,0,t,h=>by
  simp at h;subst h
  rw [mu]
  show some (aZ x a b)=some (aZ x (a + 0) b)
  rw [Int.add_zero]
 | x::ts,a,i + 1,t,h=>by
  rw [mu]
  have:=rU b ts (a + 1) i t (by simpa using h)
  show (mu b ts (a + 1))[i]?=_
  rw [this]
  congr 2
  simp only [aOn];omega
theorem s7:∀(w:Nat) (x:Tm),wt x≤w→dU x→∀(a b:Int),0≤a→a + w≤900000000→
 al (aZ x a b)=(mu b (al x).1 a,aZ (al x).2 (a + .ofNat (al x).1.length) b)
 | 0,x,h,_,_,_,_,_=>by rw [cO] at h;omega
 | w + 1,x,h,hx,a,b,h0,hw=>by
  obtain⟨h1,h2⟩:=(cp x).1 hx
  cases hk:iEq x.k 6 with
  | false=>
   rw [mO hk,mO (by rw [GM];exact hk)]
   show ([],aZ x a b)=([],aZ x (a + 0) b)
   rw [Int.add_zero]
  | true=>
   obtain⟨A,B,ht⟩:=fW h1 (og hk)
   obtain⟨e1,e2⟩:=Me (b:=b) hk ht (show -1000000000≤a∧a≤1000000000 by omega)
   have hB:=cT (x:=B) (y:=x) (by rw [ht];simp)
   rw [lA hk ht,lA (by rw [e1];exact hk) e2,s7 w B (by omega) (h2 B (by rw [ht];simp)) (a + 1) b (by omega) (by omega)]
   refine Prod.ext ?_ ?_
   ·show _::_=_
    rw [mu]
   ·show aZ _ _ _=aZ _ _ _
    congr 1
    simp only [aLc,aOn]
    omega
theorem Ds {x:Tm} (hx:dU x) {n:Nat} (hn:n≤(al x).1.length):al (dy n x)=((al x).1.drop n,(al x).2):=by
 have h:=j6 hx n hn
 exact Prod.ext h.rest h.last
theorem qB {W fx:Nat} {t:Tm} {aa:Nat} (h:Gd W 4096 t) (hW:W≤100000000) (hf:fx≤(al t).1.length) :
 aG fx t aa=(mu (.ofNat aa - .ofNat fx) ((al t).1.drop fx) 0,aZ (al t).2 (.ofNat ((al t).1.length - fx)) (.ofNat aa - .ofNat fx)):=by
 have hg:=ot h fx hf
 unfold aG ou
 rw [s7 _ _ (Nat.le_refl _) hg.all 0 _ (by omega) (by have:=hg.le;omega),Ds h.all hf]
 simp only [List.length_drop]
 rw [Int.zero_add]
theorem iK {W fx:Nat} {t:Tm} {aa:Nat} (h:Gd W 4096 t) (hW:W≤100000000) (hf:fx≤(al t).1.length):(aG fx t aa).1.length=(al t).1.length - fx:=by
 rw [qB h hW hf]
 show (mu _ _ _).length=_
 rw [ov,List.length_drop]
noncomputable def GN (d:Dl) (y:Nat):List UInt8:=((d.aj[y]?).map (·.name)).getD []
noncomputable def JV (d:Dl) (fx p:Nat) (u:Lv) (m y deep:Nat):Tm:=de (mf (GN d y++bU) false (fg p++[u]).isEmpty (fg p++[u])) (db 0 (fx + d.aj.length + m) (.ofNat deep))
noncomputable def s8 (d:Dl) (fx p:Nat) (u:Lv) (m:Nat) (k:Int) (y deep:Nat):Tm:=match iEq k 6 with
 | true=>bR (.ofNat (fx + y)) (.ofNat deep)
 | false=>JV d fx p u m y deep
noncomputable def itR (f aa n:Nat):Tm:=de (bR (.ofNat f) (.ofNat (aa + n))) (db aa n (.ofNat (aa + n)))
noncomputable def kU (d:Dl) (fx p:Nat) (u:Lv) (m:Nat) (k:Int) (t:Tm) (f aa:Nat):Tm:=
 match iLt (cI d fx (al t).2 (.ofNat (aa + (al t).1.length))).1 0 with
 | true=>zTm
 | false=>eB k (al t).1 (de (de (s8 d fx p u m k (cI d fx (al t).2 (.ofNat (aa + (al t).1.length))).1.toNat (aa + (al t).1.length)) (cI d fx (al t).2 (.ofNat (aa + (al t).1.length))).2) [itR f aa (al t).1.length])
theorem xO (d:Dl) (fx:Nat) (t:Tm) (aa:Int):(cI d fx t aa).1 = -1∨∃(j:Nat) (x:In),(cI d fx t aa).1=.ofNat j∧d.aj[j]?=some x:=by
 unfold cI
 cases hb:dK d fx t aa with
 | false=>exact .inl rfl
 | true=>
  right
  unfold dK kI at hb
  simp only [Bool.and_eq_true] at hb
  have h2:=hb.1.2
  cases hw:dJ (fun i=>decide (i.name=(aF t).1.s)) d.aj 0 with
  | none=>rw [hw] at h2;cases h2
  | some j=>
   obtain⟨hq,x,hx⟩:=om hw
   exact⟨j,x,hq,hx⟩
section
variable {n:Nat} {d:Dl} {sh:List Sh} {m:Nat} {u:Lv} {fx p W:Nat} {S:St}
theorem h78 {k:Int} {t:Tm} {f aa:Nat} (hb:m6 d fx p W) (ht:dU t) (htw:wt t≤W) (hf:f≤1000000) (ha:aa≤1000000) (hm:m≤1000) (hn:3 * W + 3000≤n) :
 RN n (.f 78) [gC d sh m u,.int .u8 k,aB t,.int .i64 (.ofNat f),.int .i64 (.ofNat aa)] S=some (aB (kU d fx p u m k t f aa),S):=by
 obtain⟨q,rfl⟩:=up (show 1≤n by omega)
 have hWm:=hb.dl.qM
 have gQ:=hb.dl.few
 have hfx:=hb.hfx
 have hpp:=hb.hpp
 have kT:=hb.f12
 have hp4:=hb.p4
 have hpi:∀i∈d.aj,fx≤(al i.ty).1.length:=fun i hi=>(hb.gd i hi).2.1
 obtain⟨q0,k1,T1,tok,rfl,hg⟩:=h33 (n:=q) (x:=t) (H:=[]) (T:=[]) ht (by omega) (by omega)
 obtain⟨p1,p2,p3⟩:=fy _ t (Nat.le_refl _) ht
 obtain⟨c,e,k2⟩:=h35 (n:=q) (S:={ heap:=[],aA:=T1 }) (aa:=.ofNat (aa + (al t).1.length)) hb.dl hpi p2 (by omega) hfx hpp (by omega) (by omega) (bdN (by omega)) (by omega)
 have hml:=pX (d:=d) (fx:=fx) (aa:=.ofNat (aa + (al t).1.length)) p2
 have h:∃r,frame Tryz.cfg (RN q) q 78 [gC d sh m u,.int .u8 k,aB t,.int .i64 (.ofNat f),.int .i64 (.ofNat aa)] St.empty=some r∧∃S',r=(aB (kU d fx p u m k t f aa),S'):=by
  refine aU (fn:=Tryz.f78) (p:=fun r=>∃S',r=(aB (kU d fx p u m k t f aa),S')) rfl rfl ?_
  refine ae.mk _ _ k1 ?_
  refine ab.mk (.int .i64 (.ofNat (aa + (al t).1.length))) (by rw [ak];exact addNat (by omega)) ?_
  refine ae.mk _ _ k2 ?_
  unfold kU
  rcases xO d fx (al t).2 (.ofNat (aa + (al t).1.length)) with hj | ⟨j,x,hj,hx⟩
  ·rw [hj]
   refine ah.yes rfl ?_
   exact⟨_,rfl,_,rfl⟩
  ·rw [hj]
   have hjl:j < d.aj.length:=(aGs hx).1
   refine ah.no rfl ?_
   obtain⟨T2,Dr,k3,hgr⟩:=h72 (n:=q) (from_:=aa) (m:=(al t).1.length) (r:=.ofNat (aa + (al t).1.length)) (H:=[]) (T:=T1) (by omega) (by omega) (bdN (by omega))
   have hrl:=ev aa (al t).1.length (.ofNat (aa + (al t).1.length))
   refine ae.mk _ _ (h75 (by omega) (bdN (by omega)) (bdN (by omega))) ?_
   refine ae.mk _ _ (by rw [ak];exact k3) ?_
   refine ae.mk _ _ (k74 (by rw [hrl];omega) (by rw [hrl];omega)) ?_
   refine ah.mk (fun hk=>?_) (fun hk=>?_)
   ·refine ae.mk _ _ (h76 hb (by omega) (by omega)) ?_
    refine ae.mk _ _ (h75 (by omega) (bdN (by omega)) (bdN (by omega))) ?_
    refine ae.mk _ _ (k74 (by omega) (by omega)) ?_
    refine ab.mk _ (bs1 _ 23 _ _ _ rfl) ?_
    refine ae.mk _ _ (k74 (by simp only [aLc,List.length_nil];omega) (by simp only [aLc,List.length_nil];omega)) ?_
    refine ae.mk _ _ (k73 (by omega) (by omega)) ?_
    refine⟨_,rfl,?_⟩
    unfold s8
    rw [hk]
    exact⟨_,rfl⟩
   ·obtain⟨q1,k4,T3,JL,rfl,hgo⟩:=h84 (n:=q) (m:=p) (H:=[]) (T:=T2) (by omega) (by omega)
    rw [← hpp] at k4
    obtain⟨T4,TC,a1,a2⟩:=oi (c:=false) (bg:=.tight) (H:=[]) (done:=fg p) (new:=[u]) (by rw [fh];simp only [aLc,List.length_nil];omega) hgo
    obtain⟨T5,TD,k5,TQ⟩:=h72 (n:=q) (from_:=0) (m:=fx + d.aj.length + m) (r:=.ofNat (aa + (al t).1.length)) (H:=[]) (T:=T4) (by omega) (by omega) (bdN (by omega))
    have Oy:=ev 0 (fx + d.aj.length + m) (.ofNat (aa + (al t).1.length))
    have hnl:=(hb.nm.nm x (aMg hx)).1
    refine ae.mk _ _ k4 ?_
    refine ab.mk _ (bsL u) ?_
    refine cj.mk _ _ (a1 _ _ rfl) ?_
    refine ab.mk _ (aL hx) ?_
    refine ab.mk _ (xJ (b:=bU) (by unfold bU;simp only [aLc,List.length_nil];omega)) ?_
    refine ae.mk _ _ (k44 a2.ep (by omega)) ?_
    refine ab.mk (.int .i64 (.ofNat (fx + d.aj.length))) (by rw [hfx,aq,aLm];exact addNat (by omega)) ?_
    refine ab.mk (.int .i64 (.ofNat (fx + d.aj.length + m))) (addNat (by omega)) ?_
    refine ae.mk _ _ k5 ?_
    refine ae.mk _ _ (k74 (by rw [Oy];omega) (by rw [Oy];omega)) ?_
    refine ae.mk _ _ (k74 (by omega) (by omega)) ?_
    refine ab.mk _ (bs1 _ 23 _ _ _ rfl) ?_
    refine ae.mk _ _ (k74 (by simp only [aLc,List.length_nil];omega) (by simp only [aLc,List.length_nil];omega)) ?_
    refine ae.mk _ _ (k73 (by omega) (by omega)) ?_
    refine⟨_,rfl,?_⟩
    unfold s8 JV GN
    rw [hk]
    simp only [show (Int.ofNat j).toNat=j from rfl,hx]
    exact⟨_,rfl⟩
 obtain⟨r,k6,S',rfl⟩:=h
 exact dZ k6 (by simp only [cJ,bf,bh,an]) rfl rfl
end
theorem JW {x A B:Tm} {a b:Int} (h:iEq x.k 4=true) (ht:x.ts=[A,B]) (ha : -1000000000≤a∧a≤1000000000):(aZ x a b).k=x.k∧(aZ x a b).ts=[aZ A a b,aZ B a b]:=by
 have hk:iEq x.k 2=false:=by
  rw [bW,decide_eq_true_eq] at h
  rw [h];rfl
 rw [lJ hk,sZ,p9,ht]
 refine⟨rfl,?_⟩
 rw [bW,decide_eq_true_eq] at h
 rw [h]
 show [aZ A (dT a (bq 4 (.ofNat 0))) b,aZ B (dT a (bq 4 (.ofNat 1))) b]=_
 rw [show bq 4 (.ofNat 0)=0 from rfl,show bq 4 (.ofNat 1)=0 from rfl]
 rw [show dT a 0=a + 0 from gy (by omega) (by omega),Int.add_zero]
theorem j7:∀(w:Nat) (x:Tm),wt x≤w→dU x→∀(a b:Int),0≤a→a≤900000000→
 aF (aZ x a b)=(aZ (aF x).1 a b,(aF x).2.map fun t=>aZ t a b)
 | 0,x,h,_,_,_,_,_=>by rw [cO] at h;omega
 | w + 1,x,h,hx,a,b,h0,hw=>by
  obtain⟨h1,h2⟩:=(cp x).1 hx
  cases hk:iEq x.k 4 with
  | false=>
   rw [ji hk,ji (by rw [GM];exact hk)]
   rfl
  | true=>
   obtain⟨A,B,ht⟩:=fW h1 (nB hk)
   obtain⟨e1,e2⟩:=JW (b:=b) hk ht (show -1000000000≤a∧a≤1000000000 by omega)
   have hA:=cT (x:=A) (y:=x) (by rw [ht];simp)
   rw [hZ hk ht,hZ (by rw [e1];exact hk) e2,j7 w A (by omega) (h2 A (by rw [ht];simp)) a b h0 hw]
   simp
theorem dC {LT sz by' : Nat} {z' : List V} {H:List Blk} {T0 T:List Nat} {done new:List Tm} {tok bg:Tok} {c0 c:Bool} (hl:Tryz.cfg.ti LT=some { kind:=.slice 25,size:=sz,bytes:=by',zero:=z' })
 (hlen:done.length + new.length < 1000000000) (hg:av T0 T done tok) :
 ∃c' T' aV,(∀(A:Env) (ac:Acc),ac.heap=true→append Tryz.cfg A { heap:=H,aA:=T } ac LT (.list (ao c0 done) tok 0 (ag done)) (.list (ao c new) bg 0 (ag new))=some (.list (ao c' (done++new)) aV 0 (ag (done++new)),{ heap:=H,aA:=T' }))∧av T0 T' (done++new) aV:=by
 have hq:(ag new).isEmpty=true∨ao c new=5:=by
  rcases jH c new with rfl | h
  ·left;rw [ag];rfl
  ·exact .inr h
 have hr:∀(A:Env) (ac:Acc) (S:St),gV A S ac 5 (.list (ao c new) bg 0 (ag new))=some (0,ag new):=fun A ac S=>by unfold gV;exact if_pos hq
 by_cases hn:new=[]
 ·subst hn
  refine⟨c0,T,tok,?_,by rw [List.append_nil];exact hg⟩
  intro A ac hac
  unfold append
  simp only [hl,show Tryz.cfg.ti 25=some Tryz.ti25 from rfl,show Tryz.ti25.size=5 from rfl,hr]
  rw [show (ag ([]:List Tm)).isEmpty=true by rw [ag];rfl,List.append_nil]
  rfl
 ·have hw:m5 T0 T (ag done) tok:=by
   have h2:=hg.w
   refine⟨h2.1,h2.2.imp id (fun⟨t,h1,h2,h3,h4⟩=>⟨t,h1,h2,by rw [← aq,ak];exact h3,fun e=>h4 ?_⟩)⟩
   have:=ak done
   rw [e] at this
   exact List.eq_nil_of_length_eq_zero this.symm
  have hne:ag new≠[]:=fun e=>hn (by
   have:=ak new
   rw [e] at this
   exact List.eq_nil_of_length_eq_zero this.symm)
  obtain⟨T',aV,h1,h2⟩:=xI (ei:=Tryz.ti25) (H:=H) (sz:=ao c0 done) (new:=ag new) (by decide) (by decide) (by rw [← aq,← aq,ak,ak];exact hlen) (by
   rcases jH c0 done with rfl | h
   ·left;rw [ag]
   ·exact .inr h) hw hne
  have e:ag done++ag new=ag (done++new):=by rw [nz,bM]
  rw [e] at h1 h2
  refine⟨false,T',aV,?_,(av.map ag (fun l=>by rw [← aq,ak])).1 h2⟩
  intro A ac hac
  have hf:(ag new).isEmpty=false:=by cases hx:ag new with | nil=>exact absurd hx hne | cons a l=>rfl
  unfold append
  simp only [hl,show Tryz.cfg.ti 25=some Tryz.ti25 from rfl,show Tryz.ti25.size=5 from rfl,hr,hf,Bool.false_eq_true,if_false]
  have hs:ao false (done++new)=5:=by
   cases hd:done++new with
   | nil=>simp [hn] at hd
   | cons a l=>rfl
  rw [hs]
  exact h1 ac hac
theorem bs0:buildSlice Tryz.cfg 23 0 []=some (.list (ao true ([]:List Tm)) .tight 0 (ag [])):=by
 rw [ag];rfl
theorem qC {sh:List Sh} {x:Nat} {s:Sh} (h:sh[x]?=some s) (hne:s.fields≠[]):indexAddr Tryz.cfg 39 (.list 7 .no 0 (sh.map bx)) (.int .i64 (.ofNat x))=some (.imm 0 [.int .i64 s.index,.int .i64 s.level.c,.int .i64 s.level.p0,.int .i64 s.level.p1,.int .i64 s.level.p2,.int .i64 s.level.p3,.list 1 .no 0 (s.fields.map bp)]):=by
 have h1:indexAddr Tryz.cfg 39 (.list 7 .no 0 (sh.map bx)) (.int .i64 (.ofNat x))=some (.imm 0 (sW s)):=dB (ei:=Tryz.ti54) rfl rfl h
 rw [h1]
 have:gK 1 (s.fields.map fun fs=>V.agg [sV fs])=.list 1 .no 0 (s.fields.map bp):=by
  cases hs:s.fields with
  | nil=>exact absurd hs hne
  | cons a r=>rfl
 rw [← this]
theorem tc {fss:List (List (Int×Int))} {c:Nat} {fs:List (Int×Int)} (h:fss[c]?=some fs) (hne:fs≠[]):indexAddr Tryz.cfg 52 (.list 1 .no 0 (fss.map bp)) (.int .i64 (.ofNat c))=some (.imm 0 [.list 2 .no 0 (fs.map dw)]):=by
 have h1:indexAddr Tryz.cfg 52 (.list 1 .no 0 (fss.map bp)) (.int .i64 (.ofNat c))=some (.imm 0 [sV fs]):=dB (f:=fun fs=>[sV fs]) (ei:=Tryz.ti57) rfl rfl h
 rw [h1]
 cases fs with
 | nil=>exact absurd rfl hne
 | cons a r=>rfl
theorem Bm {fs:List (Int×Int)} {i:Nat} {f:Int×Int} (h:fs[i]?=some f):indexAddr Tryz.cfg 57 (.list 2 .no 0 (fs.map dw)) (.int .i64 (.ofNat i))=some (.imm 0 [.int .i64 f.1,.int .i64 f.2]):=dB (f:=fun f:Int×Int=>[V.int .i64 f.1,.int .i64 f.2]) (ei:=Tryz.ti96) rfl rfl h
noncomputable def gk (d:Dl) (fx p:Nat) (u:Lv) (m n aa:Nat):List (Tm×(Int×Int))→Nat→Nat→List Tm
 | [],_,_=>[]
 | q::r,i,h=>match !iLt q.2.1 0 with
  | true=>kU d fx p u m 6 (aZ q.1 0 (.ofNat (n - i + h))) (aa + i) (aa + n + h)::gk d fx p u m n aa r (i + 1) (h + 1)
  | false=>gk d fx p u m n aa r (i + 1) h
noncomputable def ie (d:Dl) (fx p:Nat) (u:Lv) (m:Nat) (fs:List (Int×Int)) (x:Nat) (c:Ct) (aa:Nat):Tm:=
 let B:=aG fx c.ty aa
 let hs:=gk d fx p u m B.1.length aa (B.1.zip fs) 0 0
 let deep:=aa + B.1.length + hs.length
 eB 6 (B.1++hs) (de (de (bR (.ofNat (fx + x)) (.ofNat deep)) ((aF (aZ B.2 0 (.ofNat hs.length))).2.drop fx)) [gS fx p c.name deep (db aa B.1.length (.ofNat deep))])
theorem xP (d:Dl) (fx p:Nat) (u:Lv) (m n aa:Nat):∀(l:List (Tm×(Int×Int))) (i h:Nat),(gk d fx p u m n aa l i h).length≤l.length
 | [],i,h=>by simp [gk]
 | q::r,i,h=>by
  unfold gk
  have h1:=xP d fx p u m n aa r (i + 1) (h + 1)
  have h2:=xP d fx p u m n aa r (i + 1) h
  cases (!iLt q.2.1 0) with
  | true=>simp only [aLc];omega
  | false=>simp only [aLc];omega
theorem Bn (d:Dl) (fx p:Nat) (u:Lv) (m n aa:Nat) {l:List (Tm×(Int×Int))} {i h:Nat} {t:Tm} {f:Int×Int} (hq:l[i]?=some (t,f)) :
 gk d fx p u m n aa (l.drop i) i h=match !iLt f.1 0 with
  | true=>kU d fx p u m 6 (aZ t 0 (.ofNat (n - i + h))) (aa + i) (aa + n + h)::gk d fx p u m n aa (l.drop (i + 1)) (i + 1) (h + 1)
  | false=>gk d fx p u m n aa (l.drop (i + 1)) (i + 1) h:=by
 obtain⟨hj,e⟩:=aGs hq
 rw [List.drop_eq_getElem_cons hj,e,gk]
section
variable {n:Nat} {d:Dl} {sh:List Sh} {m:Nat} {u:Lv} {fx p W:Nat} {S:St}
theorem RW {x ci aa:Nat} {i:In} {c:Ct} {s:Sh} {fs:List (Int×Int)} (hb:m6 d fx p W) (hx:d.aj[x]?=some i) (hc:i.cs[ci]?=some c) (hsx:sh[x]?=some s) (hsc:s.fields[ci]?=some fs) (hfl:fs.length=(al c.ty).1.length - fx)
 (h12:(al c.ty).1.length≤fx + 12) (hsp:fx≤(aF (al c.ty).2).2.length) (h1:fx≤aa) (h2:aa≤1000) (hm:m≤1000) (hn:3 * W + 3100≤n) :
 RN n (.f 138) [gC d sh m u,.int .i64 (.ofNat x),.int .i64 (.ofNat ci),.int .i64 (.ofNat aa)] S=some (aB (ie d fx p u m fs x c aa),S):=by
 obtain⟨q,rfl⟩:=up (show 1≤n by omega)
 have hWm:=hb.dl.qM
 have gQ:=hb.dl.few
 have hfx:=hb.hfx
 have hpp:=hb.hpp
 have kT:=hb.f12
 have hp4:=hb.p4
 have hxl:x < d.aj.length:=(aGs hx).1
 obtain⟨g1,g2,g3⟩:=hb.gd i (aMg hx)
 obtain⟨c1,c2⟩:=g3 c (aMg hc)
 have hbn:=iK (aa:=aa) c1 (by omega) c2
 have hgb:=nD (aa:=aa) c1 c2 h1 (by omega)
 obtain⟨gp1,gp2⟩:=Gd.pis _ _ (Nat.le_refl _) hgb
 obtain⟨q0,k1,T1,tok,rfl,hg⟩:=h70 (n:=q) (sh:=sh) (m:=m) (u:=u) (H:=[]) (T:=[]) (aa:=aa) hb c1 c2 h1 (by omega) (by omega)
 have hB:aG fx c.ty aa=al (ou fx c.ty aa):=rfl
 generalize hBv:aG fx c.ty aa=B at *
 have hnl:B.1.length≤12:=by rw [hbn];omega
 have hgE:Gd W 200000 B.2:=by rw [hB];exact gp1
 have hgL:∀y∈B.1,Gd W 200000 y:=by rw [hB];exact gp2
 obtain⟨c0,T2,bg,a1,a2⟩:=dC (LT:=23) (c0:=true) (c:=false) (bg:=tok) (H:=[]) (T0:=T1) (T:=T1) (done:=[]) (new:=B.1) (tok:=.tight) rfl (by simp only [List.length_nil];omega) ⟨jm.refl T1,.inl ⟨rfl,rfl⟩⟩
 rw [List.nil_append] at a1 a2
 have RY:fx≤(aF B.2).2.length:=by
  have e:=qB (aa:=aa) c1 (by omega) c2
  rw [hBv] at e
  have hgp:=(Gd.pis _ _ (Nat.le_refl _) c1).1
  rw [e]
  show fx≤(aF (aZ _ _ _)).2.length
  rw [j7 _ _ (Nat.le_refl _) hgp.all _ _ (by simp only [aOn];omega) (by simp only [aOn];omega)]
  simpa using hsp
 have h:∃r,frame Tryz.cfg (RN q) q 138 [gC d sh m u,.int .i64 (.ofNat x),.int .i64 (.ofNat ci),.int .i64 (.ofNat aa)] St.empty=some r∧∃S',r=(aB (ie d fx p u m fs x c aa),S'):=by
  refine aU (fn:=Tryz.f138) (p:=fun r=>∃S',r=(aB (ie d fx p u m fs x c aa),S')) rfl rfl ?_
  refine ab.mk _ (aL hx) ?_
  refine ab.mk _ (ec hc) ?_
  refine ae.mk _ _ k1 ?_
  refine ab.mk _ bs0 ?_
  refine cj.mk _ _ (a1 _ _ rfl) ?_
  refine aD.loop 141 (σ:=List Tm×Nat×Bool×Tok×List Nat) B.1.length (fun j s=>{ nt:=141,tmps:=[(0,gC d sh m u),(1,.int .i64 (.ofNat x)),(2,.int .i64 (.ofNat ci)),(3,.int .i64 (.ofNat aa)),(8,.ptr (.loc 8) 0),(9,.list (ao false B.1) tok 0 (ag B.1)),(10,.ptr (.loc 10) 0),(11,.int .i64 (.ofNat (aH (ag B.1)))),(12,.list (ao s.2.2.1 s.1) s.2.2.2.1 0 (ag s.1)),(13,.int .i64 (.ofNat s.2.1)),(14,.int .i64 (.ofNat j))],locs:=[(8,fI),(10,aC B.2)],fix:=[] })
   (fun _ s=>{ heap:=[],aA:=s.2.2.2.2 }) (fun j s=>(∃done,s.1=B.1++done∧done.length=s.2.1∧s.2.1≤j∧gk d fx p u m B.1.length aa (B.1.zip fs) 0 0=done++gk d fx p u m B.1.length aa ((B.1.zip fs).drop j) j s.2.1)∧av T1 s.2.2.2.2 s.1 s.2.2.2.1) (B.1,0,c0,bg,T2) (by omega) ⟨⟨[],by simp,rfl,Nat.le_refl _,by simp⟩,a2⟩ ?_ ?_
  ·rintro j ⟨all,h,fl,eU,T3⟩ hj ⟨⟨done,(hd1:all=B.1++done),(hd2:done.length=h),(hd3:h≤j),hd4⟩,(hg3:av T1 T3 all eU)⟩
   obtain⟨t,ht⟩ : ∃t,B.1[j]?=some t:=⟨_,aGe hj⟩
   obtain⟨f,hf⟩ : ∃f,fs[j]?=some f:=⟨_,aGe (by rw [hfl,← hbn];exact hj)⟩
   have hz:(B.1.zip fs)[j]?=some (t,f):=by rw [List.getElem?_zip_eq_some];exact⟨ht,hf⟩
   have hgt:=hgL t (aMg ht)
   rw [Bn d fx p u m B.1.length aa hz] at hd4
   have Fc:s.fields≠[]:=fun e=>by rw [e] at hsc;simp at hsc
   have xt:fs≠[]:=fun e=>by rw [e] at hf;simp at hf
   refine ah.yes (by rw [ak];exact dj hj) ?_
   refine ab.mk _ (qC hsx Fc) ?_
   refine ab.mk _ (tc hsc xt) ?_
   refine ab.mk _ (Bm hf) ?_
   refine ah.mk (fun hr=>?_) (fun hr=>?_)
   ·simp only [hr] at hd4
    have hby:(.ofNat (B.1.length - j) + .ofNat h:Int)=.ofNat (B.1.length - j + h):=rfl
    have JX:=hgt.lift (b:=.ofNat (B.1.length - j + h)) (by simp only [aOn];omega) (by simp only [aOn];omega) 0
    have Oz:=h78 (n:=q) (sh:=sh) (m:=m) (u:=u) (S:={ heap:=[],aA:=T3 }) (k:=6) (t:=aZ t 0 (.ofNat (B.1.length - j + h))) (f:=aa + j) (aa:=aa + B.1.length + h) hb JX.all JX.le (by omega) (by omega) hm (by omega)
    obtain⟨c4,T4,qN,b1,b2⟩:=dC (LT:=23) (c0:=fl) (c:=false) (bg:=.tight) (H:=[]) (T0:=T1) (T:=T3) (done:=all) (new:=[kU d fx p u m 6 (aZ t 0 (.ofNat (B.1.length - j + h))) (aa + j) (aa + B.1.length + h)]) (tok:=eU) rfl (by rw [hd1];simp only [aLa,aLc,List.length_nil];omega) hg3
    refine ab.mk (.int .i64 (.ofNat (aa + B.1.length))) (by rw [ak];exact addNat (by omega)) ?_
    refine ab.mk (.int .i64 (.ofNat (aa + B.1.length + h))) (addNat (a:=aa + B.1.length) (b:=h) (by omega)) ?_
    refine ab.mk _ (bz ht) ?_
    refine ab.mk (.int .i64 (.ofNat (B.1.length - j))) ?_ ?_
    ·rw [ak]
     have e:(Int.ofNat B.1.length - Int.ofNat j)=.ofNat (B.1.length - j):=by simp only [aOn];omega
     rw [← e]
     exact mB (by simp only [aOn];omega) (by simp only [aOn];omega)
    refine ab.mk (.int .i64 (.ofNat (B.1.length - j + h))) (addNat (a:=B.1.length - j) (b:=h) (by omega)) ?_
    refine ae.mk _ _ (h79 (W:=W) hgt.le (by omega) (by omega)) ?_
    refine ab.mk (.int .i64 (.ofNat (aa + j))) (addNat (by omega)) ?_
    refine ae.mk _ _ Oz ?_
    refine ab.mk _ (bs1 _ 23 _ _ _ rfl) ?_
    refine cj.mk _ _ (b1 _ _ rfl) ?_
    refine ab.mk _ (az (j:=h) (by omega)) ?_
    refine ab.mk _ (az (by omega)) ?_
    exact⟨(_,h + 1,c4,qN,T4),⟨⟨done++[kU d fx p u m 6 (aZ t 0 (.ofNat (B.1.length - j + h))) (aa + j) (aa + B.1.length + h)],by simp only [hd1,List.append_assoc],by simp [hd2],Nat.succ_le_succ hd3,by rw [hd4];simp⟩,b2⟩,rfl,rfl⟩
   ·simp only [hr] at hd4
    refine ab.mk _ (az (by omega)) ?_
    exact⟨(all,h,fl,eU,T3),⟨⟨done,hd1,hd2,Nat.le_succ_of_le hd3,hd4⟩,hg3⟩,rfl,rfl⟩
  ·rintro⟨all,h,fl,eU,T3⟩ ⟨⟨done,(hd1:all=B.1++done),(hd2:done.length=h),(hd3:h≤B.1.length),hd4⟩,(hg3:av T1 T3 all eU)⟩
   rw [List.drop_of_length_le (by simp;omega),gk,List.append_nil] at hd4
   subst hd4
   refine ah.no (by rw [ak];exact eS (by omega)) ?_
   generalize hhs:gk d fx p u m B.1.length aa (B.1.zip fs) 0 0=hs at *
   have JY:=hgE.lift (b:=.ofNat hs.length) (by simp only [aOn];omega) (by simp only [aOn];omega) 0
   obtain⟨q2,k3,T5,RZ,rfl,hg5⟩:=h82 q (aZ B.2 0 (.ofNat hs.length)) [] T3 JY.all (by have:=JY.le;omega) (by have:=JY.le;omega)
   have OA:fx≤(aF (aZ B.2 0 (.ofNat hs.length))).2.length:=by
    rw [j7 _ _ (Nat.le_refl _) hgE.all _ _ (by omega) (by omega)]
    simpa using RY
   have R0:=(ia _ _ (Nat.le_refl _) JY.all).1
   have hEw:=JY.le
   obtain⟨T6,Dr,k4,hgr⟩:=h72 (n:=q) (from_:=aa) (m:=B.1.length) (r:=.ofNat (aa + B.1.length + hs.length)) (H:=[]) (T:=T5) (by omega) (by omega) (bdN (by omega))
   have hrl:=ev aa B.1.length (.ofNat (aa + B.1.length + hs.length))
   have k5:=h71 (n:=q) (sh:=sh) (m:=m) (u:=u) (S:={ heap:=[],aA:=T6 }) (name:=c.name) (aa:=aa + B.1.length + hs.length) (c:=false) (tok:=Dr) (l:=db aa B.1.length (.ofNat (aa + B.1.length + hs.length))) hb (by omega) (by rw [hrl];omega) (by rw [hrl];omega)
   obtain⟨c',aV,ht',hsl⟩:=ml (LT:=23) (c:=false) (tok:=RZ) (m:=fx) rfl OA
   have rT:=hsl
   rw [← hfx] at rT
   subst hd2
   refine ab.mk (.int .i64 (.ofNat (aa + B.1.length))) (by rw [ak];exact addNat (by omega)) ?_
   refine ab.mk (.int .i64 (.ofNat (aa + B.1.length + hs.length))) (addNat (a:=aa + B.1.length) (b:=hs.length) (by omega)) ?_
   refine ae.mk _ _ (h79 (W:=W) hgE.le (by omega) (by omega)) ?_
   refine ae.mk _ _ k3 ?_
   refine ab.mk _ (aL hx) ?_
   refine ab.mk _ (ec hc) ?_
   refine ae.mk _ _ (by rw [ak];exact k4) ?_
   refine ae.mk _ _ k5 ?_
   refine ae.mk _ _ (h76 hb (by omega) (by omega)) ?_
   refine ae.mk _ _ (h75 (by omega) (bdN (by omega)) (bdN (by omega))) ?_
   refine ab.mk _ rT ?_
   refine ae.mk _ _ (k74 (by rw [List.length_drop];omega) (by rw [List.length_drop];omega)) ?_
   refine ab.mk _ (bs1 _ 23 _ _ _ rfl) ?_
   refine ae.mk _ _ (k74 (by simp only [aLc,List.length_nil];omega) (by simp only [aLc,List.length_nil];omega)) ?_
   refine ae.mk _ _ (k73 (by rw [hd1];simp only [aLa];omega) (by rw [hd1];simp only [aLa];omega)) ?_
   refine⟨_,rfl,?_⟩
   unfold ie
   simp only [hBv,hhs,hd1]
   exact⟨_,rfl⟩
 obtain⟨r,k6,S',rfl⟩:=h
 exact dZ k6 (by simp only [cJ,bf,an]) rfl rfl
end
noncomputable def fsR (sh:List Sh) (x j:Nat):List (Int×Int):=((sh[x]?).bind fun s=>s.fields[j]?).getD []
structure Dt (d:Dl) (sh:List Sh) (fx:Nat):Prop where
 len:sh.length=d.aj.length
 at_:∀(x:Nat) (i:In),d.aj[x]?=some i→(al i.ty).1.length≤fx + 12∧∃s:Sh,sh[x]?=some s∧s.fields.length=i.cs.length∧∀(j:Nat) (c:Ct),i.cs[j]?=some c→∃fs:List (Int×Int),s.fields[j]?=some fs∧fs.length=(al c.ty).1.length - fx∧(al c.ty).1.length≤fx + 12∧fx≤(aF (al c.ty).2).2.length
section
variable (d:Dl) (sh:List Sh) (fx p:Nat) (u:Lv) (m:Nat)
noncomputable def xQ (x:Nat) (i:In) (base:Nat):List Tm:=(i.cs.zipIdx 0).map fun q=>ie d fx p u m (fsR sh x q.2) x q.1 (base + q.2)
noncomputable def lg:List (In×Nat)→Nat→List Tm
 | [],_=>[]
 | q::r,base=>xQ d sh fx p u m q.2 q.1 base++lg r (base + q.1.cs.length)
noncomputable def xR:List Tm:=(d.aj.zipIdx 0).map fun q=>fR fx p u q.1 (fx + q.2)
noncomputable def kV:List Tm:=(al (in0 d).ty).1.take fx
noncomputable def aK:List Tm:=kV d fx++xR d fx p u++lg d sh fx p u m (d.aj.zipIdx 0) (fx + d.aj.length)
end
theorem ud (d:Dl) (sh:List Sh) (fx p:Nat) (u:Lv) (m:Nat) (x:Nat) (i:In) (base:Nat):(xQ d sh fx p u m x i base).length=i.cs.length:=by unfold xQ;simp
theorem GO (d:Dl) (sh:List Sh) (fx p:Nat) (u:Lv) (m:Nat) {l:List (In×Nat)} {j x:Nat} {i:In} {base:Nat} (h:l[j]?=some (i,x)) :
 lg d sh fx p u m (l.drop j) base=xQ d sh fx p u m x i base++lg d sh fx p u m (l.drop (j + 1)) (base + i.cs.length):=by
 obtain⟨hj,e⟩:=aGs h
 rw [List.drop_eq_getElem_cons hj,e,lg]
theorem Du (d:Dl) (sh:List Sh) (fx p:Nat) (u:Lv) (m:Nat):∀(l:List (In×Nat)) (base:Nat),(∀q∈l,q.1.cs.length≤20)→(lg d sh fx p u m l base).length≤l.length * 20
 | [],base,_=>by simp [lg]
 | q::r,base,h=>by
  rw [lg,aLa,ud,aLc,Nat.add_mul]
  have:=Du d sh fx p u m r (base + q.1.cs.length) (fun y hy=>h y (aMt _ hy))
  have:=h q aMs
  omega
theorem td {sh:List Sh} {x j:Nat} {s:Sh} {fs:List (Int×Int)} (h1:sh[x]?=some s) (h2:s.fields[j]?=some fs):fsR sh x j=fs:=by
 unfold fsR
 rw [h1]
 show (s.fields[j]?).getD []=fs
 rw [h2];rfl
section
variable {n:Nat} {d:Dl} {sh:List Sh} {m:Nat} {u:Lv} {fx p W:Nat} {H:List Blk} {T:List Nat}
theorem qD (hb:m6 d fx p W) (h0:d.aj[0]?=some (in0 d)):(kV d fx).length=fx:=by
 have:=(hb.gd (in0 d) (aMg h0)).2.1
 unfold kV
 rw [List.length_take];omega
theorem qE {l:List In} {j:Nat} {x:In} (h:l[j]?=some x):(l.zipIdx 0)[j]?=some (x,j):=by rw [List.getElem?_zipIdx,h];simp
theorem Bo {l:List Ct} {j:Nat} {x:Ct} (h:l[j]?=some x):(l.zipIdx 0)[j]?=some (x,j):=by rw [List.getElem?_zipIdx,h];simp
theorem kJ (hb:m6 d fx p W) (h0:d.aj[0]?=some (in0 d)):(aK d sh fx p u m).length≤222:=by
 have h1:=qD hb h0
 have h2:=hb.dl.few
 have h3:=hb.f12
 have h4:=Du d sh fx p u m (d.aj.zipIdx 0) (fx + d.aj.length) (fun q hq=>by
  obtain⟨i,x⟩:=q
  exact hb.nm.cs i (List.fst_mem_of_mem_zipIdx hq))
 rw [List.length_zipIdx] at h4
 have:d.aj.length * 20≤10 * 20:=Nat.mul_le_mul (by omega) (by omega)
 unfold aK xR
 simp only [aLa,aLm,List.length_zipIdx]
 omega
theorem h69 (hb:m6 d fx p W) (hs:Dt d sh fx) (h0:d.aj[0]?=some (in0 d)) (hm:m≤1000) (hn:3 * W + 3200≤n) :
 ∃c' T' tok,RN n (.f 69) [gC d sh m u] { heap:=H,aA:=T }=some (.list (ao c' (aK d sh fx p u m)) tok 0 (ag (aK d sh fx p u m)),{ heap:=H,aA:=T' })∧av T T' (aK d sh fx p u m) tok:=by
 obtain⟨q,rfl⟩:=up (show 1≤n by omega)
 have hWm:=hb.dl.qM
 have gQ:=hb.dl.few
 have hfx:=hb.hfx
 have kT:=hb.f12
 obtain⟨g1,g2,g3⟩:=hb.gd (in0 d) (aMg h0)
 obtain⟨q0,k1,T1,tok,rfl,hg⟩:=h33 (n:=q) (x:=(in0 d).ty) (H:=H) (T:=T) g1.all (by have:=g1.le;omega) (by have:=g1.le;omega)
 obtain⟨c',JR,hsl⟩:=mr (LT:=23) (c:=false) (tok:=tok) (m:=fx) rfl g2
 rw [← hfx] at hsl
 have hfl:=qD hb h0
 obtain⟨c1,T2,bg,a1,a2⟩:=dC (LT:=23) (c0:=false) (c:=c') (bg:=JR) (H:=H) (T0:=T) (T:=T1) (done:=[]) (new:=kV d fx) (tok:=.tight) rfl (by rw [hfl];simp only [List.length_nil];omega) ⟨hg.1,.inl ⟨rfl,rfl⟩⟩
 rw [List.nil_append] at a1 a2
 have h:∃r,frame Tryz.cfg (RN q) q 69 [gC d sh m u] { heap:=H,aA:=T }=some r∧∃c' T' tok,r=(.list (ao c' (aK d sh fx p u m)) tok 0 (ag (aK d sh fx p u m)),{ heap:=H,aA:=T' })∧av T T' (aK d sh fx p u m) tok:=by
  refine aU (fn:=Tryz.f69) (p:=fun r=>∃c' T' tok,r=(.list (ao c' (aK d sh fx p u m)) tok 0 (ag (aK d sh fx p u m)),{ heap:=H,aA:=T' })∧av T T' (aK d sh fx p u m) tok) rfl rfl ?_
  refine ab.mk _ (show indexAddr Tryz.cfg 26 (.list 7 .no 0 (d.aj.map encI)) (.int .i64 (.ofNat 0))=_ from aL h0) ?_
  refine ae.mk _ _ k1 ?_
  refine ab.mk _ hsl ?_
  refine cj.mk _ _ (a1 _ _ rfl) ?_
  refine aD.loop 82 (σ:=List Tm×Bool×Tok×List Nat) d.aj.length (fun j s=>{ nt:=82,tmps:=[(0,gC d sh m u),(5,.list (ao s.2.1 s.1) s.2.2.1 0 (ag s.1)),(6,.int .i64 (.ofNat j))],locs:=[(4,aC (al (in0 d).ty).2)],fix:=[] })
   (fun _ s=>{ heap:=H,aA:=s.2.2.2 }) (fun j s=>s.1=kV d fx++((d.aj.zipIdx 0).take j).map (fun q=>fR fx p u q.1 (fx + q.2))∧av T s.2.2.2 s.1 s.2.2.1) (kV d fx,c1,bg,T2) (by omega) ⟨by simp,a2⟩ ?_ ?_
  ·rintro j ⟨l,fl,eU,T3⟩ hj ⟨(hl:l=_),(hg3:av T T3 l eU)⟩
   obtain⟨x,hx⟩ : ∃x,d.aj[j]?=some x:=⟨_,aGe hj⟩
   obtain⟨x1,x2,_⟩:=hb.gd x (aMg hx)
   have hll:l.length=fx + j:=by
    rw [hl]
    simp only [aLa,aLm,List.length_take,List.length_zipIdx,hfl]
    omega
   have hbn:=iK (aa:=fx + j) x1 (by omega) x2
   have h12:=(hs.at_ j x hx).1
   have PQ:=RV (n:=q) (sh:=sh) (m:=m) (u:=u) (S:={ heap:=H,aA:=T3 }) (aa:=l.length) hb hx (by omega) (by omega) (by omega) (by rw [hll,hbn];omega)
   obtain⟨c4,T4,qN,b1,b2⟩:=dC (LT:=23) (c0:=fl) (c:=false) (bg:=.tight) (H:=H) (T0:=T) (T:=T3) (done:=l) (new:=[fR fx p u x l.length]) (tok:=eU) rfl (by simp only [aLc,List.length_nil];omega) hg3
   refine ah.yes (ltM hj) ?_
   refine ae.mk _ _ (by rw [ak];exact PQ) ?_
   refine ab.mk _ (bs1 _ 23 _ _ _ rfl) ?_
   refine cj.mk _ _ (b1 _ _ rfl) ?_
   refine ab.mk _ (az (by omega)) ?_
   exact⟨(l++[fR fx p u x l.length],c4,qN,T4),⟨by show l++_=_;rw [map_take _ _ _ _ (qE hx),hll,← List.append_assoc,← hl],b2⟩,rfl,rfl⟩
  ·rintro⟨l,fl,eU,T3⟩ ⟨(hl:l=_),(hg3:av T T3 l eU)⟩
   rw [List.take_of_length_le (by simp)] at hl
   have hl' : l=kV d fx++xR d fx p u:=hl
   have hll:l.length=fx + d.aj.length:=by
    rw [hl']
    unfold xR
    simp only [aLa,aLm,List.length_zipIdx,hfl]
   refine ah.no (geM (by omega)) ?_
   refine aD.loop 82 (σ:=List Tm×Bool×Tok×List Nat) d.aj.length (fun j s=>{ nt:=82,tmps:=[(0,gC d sh m u),(5,.list (ao s.2.1 s.1) s.2.2.1 0 (ag s.1)),(7,.int .i64 (.ofNat j))],locs:=[(4,aC (al (in0 d).ty).2)],fix:=[] })
    (fun _ s=>{ heap:=H,aA:=s.2.2.2 }) (fun j s=>aK d sh fx p u m=s.1++lg d sh fx p u m ((d.aj.zipIdx 0).drop j) s.1.length∧(s.1.length≤22 + 20 * j∧fx + d.aj.length≤s.1.length)∧av T s.2.2.2 s.1 s.2.2.1) (l,fl,eU,T3) (by omega) ⟨by show _=_++lg d sh fx p u m _ l.length;rw [hll,hl'];rfl,⟨by show l.length≤_;omega,by show _≤l.length;omega⟩,hg3⟩ ?_ ?_
   ·rintro j ⟨l1,fl1,qN,T4⟩ hj ⟨(hl1:_=l1++_),⟨(hle:l1.length≤22 + 20 * j),(hlo:_≤l1.length)⟩,(hg4:av T T4 l1 qN)⟩
    obtain⟨x,hx⟩ : ∃x,d.aj[j]?=some x:=⟨_,aGe hj⟩
    have hxc:=hb.nm.cs x (aMg hx)
    obtain⟨_,s,hsx,R3,hsf⟩:=hs.at_ j x hx
    rw [GO d sh fx p u m (qE hx)] at hl1
    refine ah.yes (ltM hj) ?_
    refine aD.loop 82 (σ:=List Tm×Bool×Tok×List Nat) x.cs.length (fun i s=>{ nt:=82,tmps:=[(0,gC d sh m u),(5,.list (ao s.2.1 s.1) s.2.2.1 0 (ag s.1)),(7,.int .i64 (.ofNat j)),(8,.int .i64 (.ofNat i))],locs:=[(4,aC (al (in0 d).ty).2)],fix:=[] })
     (fun _ s=>{ heap:=H,aA:=s.2.2.2 }) (fun i s=>s.1=l1++((x.cs.zipIdx 0).take i).map (fun q=>ie d fx p u m (fsR sh j q.2) j q.1 (l1.length + q.2))∧av T s.2.2.2 s.1 s.2.2.1) (l1,fl1,qN,T4) (by omega) ⟨by simp,hg4⟩ ?_ ?_
    ·rintro i ⟨l2,fl2,cA,T5⟩ hi ⟨(hl2:l2=_),(hg5:av T T5 l2 cA)⟩
     obtain⟨c,hc⟩ : ∃c,x.cs[i]?=some c:=⟨_,aGe hi⟩
     obtain⟨fs,f1,f2,f3,f4⟩:=hsf i c hc
     have Fe:l2.length=l1.length + i:=by
      rw [hl2]
      simp only [aLa,aLm,List.length_take,List.length_zipIdx]
      omega
     have TR:fx≤l1.length + i:=by omega
     have PR:=RW (n:=q) (sh:=sh) (m:=m) (u:=u) (S:={ heap:=H,aA:=T5 }) (aa:=l2.length) hb hx hc hsx f1 f2 f3 f4 (by omega) (by omega) hm (by omega)
     obtain⟨c6,T6,JZ,b1,b2⟩:=dC (LT:=23) (c0:=fl2) (c:=false) (bg:=.tight) (H:=H) (T0:=T) (T:=T5) (done:=l2) (new:=[ie d fx p u m fs j c l2.length]) (tok:=cA) rfl (by simp only [aLc,List.length_nil];omega) hg5
     refine ab.mk _ (aL hx) ?_
     refine ah.yes (ltM hi) ?_
     refine ae.mk _ _ (by rw [ak];exact PR) ?_
     refine ab.mk _ (bs1 _ 23 _ _ _ rfl) ?_
     refine cj.mk _ _ (b1 _ _ rfl) ?_
     refine ab.mk _ (az (by omega)) ?_
     exact⟨(l2++[ie d fx p u m fs j c l2.length],c6,JZ,T6),⟨by show l2++_=_;rw [map_take _ _ _ _ (Bo hc),td hsx f1,Fe,← List.append_assoc,← hl2],b2⟩,rfl,rfl⟩
    ·rintro⟨l2,fl2,cA,T5⟩ ⟨(hl2:l2=_),(hg5:av T T5 l2 cA)⟩
     rw [List.take_of_length_le (by simp)] at hl2
     have PS : l2=l1++xQ d sh fx p u m j x l1.length:=hl2
     have Fe:l2.length=l1.length + x.cs.length:=by rw [PS,aLa,ud]
     refine ab.mk _ (aL hx) ?_
     refine ah.no (geM (by omega)) ?_
     refine ab.mk _ (az (by omega)) ?_
     exact⟨(l2,fl2,cA,T5),⟨by show _=l2++lg d sh fx p u m _ l2.length;rw [Fe,hl1,PS];simp,⟨by show l2.length≤_;omega,by show _≤l2.length;omega⟩,hg5⟩,rfl,rfl⟩
   ·rintro⟨l1,fl1,qN,T4⟩ ⟨(hl1:_=l1++_),⟨(hle:l1.length≤22 + 20 * d.aj.length),_⟩,(hg4:av T T4 l1 qN)⟩
    rw [List.drop_of_length_le (by simp),lg,List.append_nil] at hl1
    refine ah.no (geM (by omega)) ?_
    refine⟨_,rfl,fl1,T4,qN,?_,?_⟩
    ·rw [hl1];rfl
    ·rw [hl1];exact hg4
 obtain⟨r,k6,c2,T',aV,rfl,h2⟩:=h
 exact⟨c2,T',aV,bw rfl k6,h2⟩
end
section
variable (d:Dl) (sh:List Sh) (fx p:Nat) (u:Lv) (m:Nat)
noncomputable def uZ (i:In):List Tm:=
 let A:=aK d sh fx p u m
 let idx:=(aG fx i.ty A.length).1
 A++idx++[gS fx p i.name (A++idx).length (db A.length idx.length (.ofNat (A++idx).length))]
noncomputable def dc (x:Nat) (i:In):Tm:=
 let A:=aK d sh fx p u m
 let idx:=(aG fx i.ty A.length).1
 eB 6 (uZ d sh fx p u m i) (de (bR (.ofNat (fx + x)) (.ofNat ((A++idx).length + 1))) (db A.length idx.length (.ofNat ((A++idx).length + 1))++[bR (.ofNat (A++idx).length) (.ofNat ((A++idx).length + 1))]))
noncomputable def ew (x c:Nat):Nat:=c + ((d.aj.take x).map fun i=>i.cs.length).sum
end
theorem qb {l:List In} {j:Nat} {x:In} (h:l[j]?=some x):((l.take (j + 1)).map fun i=>i.cs.length).sum=((l.take j).map fun i=>i.cs.length).sum + x.cs.length:=by
 rw [map_take _ _ _ _ h];simp
theorem mv {l:List In} (hl:∀i∈l,i.cs.length≤20):∀j,((l.take j).map fun i=>i.cs.length).sum≤l.length * 20:=by
 induction l with
 | nil=>intro j;simp
 | cons a r ih=>
  intro j
  cases j with
  | zero=>simp
  | succ j=>
   have:=ih (fun i hi=>hl i (aMt _ hi)) j
   have:=hl a aMs
   simp only [List.take_succ_cons,List.map_cons,List.sum_cons,aLc,Nat.add_mul]
   omega
section
variable {n:Nat} {d:Dl} {sh:List Sh} {m:Nat} {u:Lv} {fx p W:Nat} {S:St}
theorem nE (h0:d.aj[0]?=some (in0 d)) (hb:m6 d fx p W):fx≤(aK d sh fx p u m).length:=by
 have h1:=qD hb h0
 unfold aK
 simp only [aLa];omega
theorem h23 {x:Nat} {i:In} (hb:m6 d fx p W) (hs:Dt d sh fx) (h0:d.aj[0]?=some (in0 d)) (hx:d.aj[x]?=some i) (hm:m≤1000) (hn:3 * W + 3300≤n) :
 RN n (.f 23) [gC d sh m u,.int .i64 (.ofNat x)] S=some (aB (dc d sh fx p u m x i),S):=by
 obtain⟨q,rfl⟩:=up (show 1≤n by omega)
 have hWm:=hb.dl.qM
 have gQ:=hb.dl.few
 have kT:=hb.f12
 have hxl:x < d.aj.length:=(aGs hx).1
 obtain⟨g1,g2,_⟩:=hb.gd i (aMg hx)
 have h12:=(hs.at_ x i hx).1
 have hle:=kJ (sh:=sh) (u:=u) (m:=m) hb h0
 have hfa:=nE (sh:=sh) (u:=u) (m:=m) h0 hb
 obtain⟨c1,T1,cR,k1,hg1⟩:=h69 (n:=q) (u:=u) (H:=[]) (T:=[]) hb hs h0 hm (by omega)
 have hbn:=iK (aa:=(aK d sh fx p u m).length) g1 (by omega) g2
 obtain⟨q0,k2,T2,bg,rfl,hg2⟩:=h70 (n:=q) (sh:=sh) (m:=m) (u:=u) (H:=[]) (T:=T1) (aa:=(aK d sh fx p u m).length) hb g1 g2 hfa (by omega) (by omega)
 have htl:uZ d sh fx p u m i=aK d sh fx p u m++(aG fx i.ty (aK d sh fx p u m).length).1++[gS fx p i.name (aK d sh fx p u m++(aG fx i.ty (aK d sh fx p u m).length).1).length (db (aK d sh fx p u m).length (aG fx i.ty (aK d sh fx p u m).length).1.length (.ofNat (aK d sh fx p u m++(aG fx i.ty (aK d sh fx p u m).length).1).length))]:=rfl
 have htr:dc d sh fx p u m x i=eB 6 (uZ d sh fx p u m i) (de (bR (.ofNat (fx + x)) (.ofNat ((aK d sh fx p u m++(aG fx i.ty (aK d sh fx p u m).length).1).length + 1))) (db (aK d sh fx p u m).length (aG fx i.ty (aK d sh fx p u m).length).1.length (.ofNat ((aK d sh fx p u m++(aG fx i.ty (aK d sh fx p u m).length).1).length + 1))++[bR (.ofNat (aK d sh fx p u m++(aG fx i.ty (aK d sh fx p u m).length).1).length) (.ofNat ((aK d sh fx p u m++(aG fx i.ty (aK d sh fx p u m).length).1).length + 1))])):=rfl
 generalize hA:aK d sh fx p u m=A at *
 generalize hI:(aG fx i.ty A.length).1=I at *
 have hil:I.length≤12:=by omega
 have hl1:(A++I).length=A.length + I.length:=aLa
 obtain⟨c3,T3,eU,a1,a2⟩:=dC (LT:=23) (c0:=c1) (c:=false) (bg:=bg) (H:=[]) (T0:=[]) (T:=T2) (done:=A) (new:=I) (tok:=cR) rfl (by omega) (hg1.ext hg2.1)
 obtain⟨T4,Dr,k4,hgr⟩:=h72 (n:=q) (from_:=A.length) (m:=I.length) (r:=.ofNat (A++I).length) (H:=[]) (T:=T3) (by omega) (by omega) (bdN (by omega))
 have hrl:=ev A.length I.length (.ofNat (A++I).length)
 have k5:=h71 (n:=q) (sh:=sh) (m:=m) (u:=u) (S:={ heap:=[],aA:=T4 }) (name:=i.name) (aa:=(A++I).length) (c:=false) (tok:=Dr) (l:=db A.length I.length (.ofNat (A++I).length)) hb (by omega) (by rw [hrl];omega) (by rw [hrl];omega)
 obtain⟨c6,T6,JZ,b1,b2⟩:=dC (LT:=23) (c0:=c3) (c:=false) (bg:=.tight) (H:=[]) (T0:=[]) (T:=T4) (done:=A++I) (new:=[gS fx p i.name (A++I).length (db A.length I.length (.ofNat (A++I).length))]) (tok:=eU) rfl (by simp only [aLc,List.length_nil];omega) (a2.ext hgr.1)
 rw [← htl] at b1 b2
 have hlt:(uZ d sh fx p u m i).length=(A++I).length + 1:=by rw [htl,aLa];rfl
 obtain⟨T7,PT,k7,R4⟩:=h72 (n:=q) (from_:=A.length) (m:=I.length) (r:=.ofNat ((A++I).length + 1)) (H:=[]) (T:=T6) (by omega) (by omega) (bdN (by omega))
 have H4:=ev A.length I.length (.ofNat ((A++I).length + 1))
 obtain⟨c8,T8,TS,e1,e2⟩:=dC (LT:=23) (c0:=false) (c:=false) (bg:=.tight) (H:=[]) (T0:=T6) (T:=T7) (done:=db A.length I.length (.ofNat ((A++I).length + 1))) (new:=[bR (.ofNat (A++I).length) (.ofNat ((A++I).length + 1))]) (tok:=PT) rfl (by rw [H4];simp only [aLc,List.length_nil];omega) R4
 have h:∃r,frame Tryz.cfg (RN q) q 23 [gC d sh m u,.int .i64 (.ofNat x)] St.empty=some r∧∃S',r=(aB (dc d sh fx p u m x i),S'):=by
  refine aU (fn:=Tryz.f23) (p:=fun r=>∃S',r=(aB (dc d sh fx p u m x i),S')) rfl rfl ?_
  refine ae.mk _ _ k1 ?_
  refine ab.mk _ (aL hx) ?_
  refine ae.mk _ _ (by rw [ak];exact k2) ?_
  refine cj.mk _ _ (a1 _ _ rfl) ?_
  refine ab.mk _ (aL hx) ?_
  refine ae.mk _ _ (by rw [ak,ak,ak];exact k4) ?_
  refine ae.mk _ _ (by rw [ak];exact k5) ?_
  refine ab.mk _ (bs1 _ 23 _ _ _ rfl) ?_
  refine cj.mk _ _ (b1 _ _ rfl) ?_
  refine ae.mk _ _ (h76 hb (by omega) (by omega)) ?_
  refine ae.mk _ _ (by rw [ak,hlt];exact h75 (by omega) (bdN (by omega)) (bdN (by omega))) ?_
  refine ae.mk _ _ (by rw [ak,ak,ak,hlt];exact k7) ?_
  refine ab.mk _ (by rw [ak,hlt];exact kQ (by omega)) ?_
  refine ae.mk _ _ (by rw [ak,hlt];exact h75 (by omega) (bdN (by omega)) (bdN (by omega))) ?_
  refine ab.mk _ (bs1 _ 23 _ _ _ rfl) ?_
  refine cj.mk _ _ (e1 _ _ rfl) ?_
  refine ae.mk _ _ (k74 (by rw [aLa,H4];simp only [aLc,List.length_nil];omega) (by rw [aLa,H4];simp only [aLc,List.length_nil];omega)) ?_
  refine ae.mk _ _ (k73 (by omega) (by omega)) ?_
  refine⟨_,rfl,?_⟩
  rw [htr]
  exact⟨_,rfl⟩
 obtain⟨r,k6,S',rfl⟩:=h
 exact dZ k6 (by simp only [cJ,bf,an]) rfl rfl
theorem h77 {x c:Nat} (hb:m6 d fx p W) (hx:x < d.aj.length) (hc:c≤20) (hn:d.aj.length + 3≤n) :
 RN n (.f 77) [gC d sh m u,.int .i64 (.ofNat x),.int .i64 (.ofNat c)] S=some (.int .i64 (.ofNat (ew d x c)),S):=by
 obtain⟨q,rfl⟩:=up (show 1≤n by omega)
 have gQ:=hb.dl.few
 have h:∃r,frame Tryz.cfg (RN q) q 77 [gC d sh m u,.int .i64 (.ofNat x),.int .i64 (.ofNat c)] St.empty=some r∧∃S',r=(.int .i64 (.ofNat (ew d x c)),S'):=by
  refine aU (fn:=Tryz.f77) (p:=fun r=>∃S',r=(.int .i64 (.ofNat (ew d x c)),S')) rfl rfl ?_
  refine aD.loop 28 (σ:=Nat) x (fun j s=>{ nt:=28,tmps:=[(0,gC d sh m u),(1,.int .i64 (.ofNat x)),(7,.int .i64 (.ofNat s)),(8,.int .i64 (.ofNat j))],locs:=[],fix:=[] })
   (fun _ _=>St.empty) (fun j s=>s=c + ((d.aj.take j).map fun i=>i.cs.length).sum) c (show x < q by omega) (by simp) ?_ ?_
  ·rintro j s hj (hs:s=_)
   obtain⟨y,hy⟩ : ∃y,d.aj[j]?=some y:=⟨_,aGe (show j < d.aj.length by omega)⟩
   have hyc:=hb.nm.cs y (aMg hy)
   have hsl:=mv hb.nm.cs j
   have:d.aj.length * 20≤10 * 20:=Nat.mul_le_mul (by omega) (by omega)
   refine ah.yes (dj hj) ?_
   refine ab.mk _ (aL hy) ?_
   refine ab.mk (.int .i64 (.ofNat (s + y.cs.length))) (by rw [aq,aLm];exact addNat (by omega)) ?_
   refine ab.mk _ (az (by omega)) ?_
   exact⟨s + y.cs.length,by rw [qb hy,hs];omega,rfl,rfl⟩
  ·rintro s (hs:s=_)
   refine ah.no (eS (by omega)) ?_
   exact⟨_,rfl,_,by rw [hs];rfl⟩
 obtain⟨r,k6,S',rfl⟩:=h
 exact bC k6 (by simp only [cJ,bf,an]) rfl rfl rfl rfl rfl
end
noncomputable def jR (d:Dl) (fx p:Nat) (u:Lv) (m n len deep:Nat):List (Tm×(Int×Int))→Nat→Tm→Tm
 | [],_,t=>t
 | q::r,i,t=>match !iLt q.2.1 0 with
  | true=>jR d fx p u m n len deep r (i + 1) (m3 t (kU d fx p u m 5 (aZ q.1 0 (.ofNat (len - i))) (n + i) deep))
  | false=>jR d fx p u m n len deep r (i + 1) t
noncomputable def gl (d:Dl) (sh:List Sh) (fx p:Nat) (u:Lv) (m x ci:Nat) (c:Ct) (fs:List (Int×Int)):List UInt8×Nat×Tm:=
 let A:=aK d sh fx p u m
 let F:=(aG fx c.ty A.length).1
 let deep:=A.length + F.length
 (c.name,F.length,eB 5 (A++F) (jR d fx p u m A.length F.length deep (F.zip fs) 0 (de (bR (.ofNat (fx + d.aj.length + ew d x ci)) (.ofNat deep)) (db A.length F.length (.ofNat deep)))))
noncomputable def gT (r:List UInt8×Nat×Tm):List V:=.str r.1::.int .i64 (.ofNat r.2.1)::aC r.2.2
noncomputable def bu (r:List UInt8×Nat×Tm):V:=.agg (gT r)
theorem Bp (d:Dl) (fx p:Nat) (u:Lv) (m n len deep:Nat) {l:List (Tm×(Int×Int))} {i:Nat} {t:Tm} {f:Int×Int} {a:Tm} (hq:l[i]?=some (t,f)) :
 jR d fx p u m n len deep (l.drop i) i a=match !iLt f.1 0 with
  | true=>jR d fx p u m n len deep (l.drop (i + 1)) (i + 1) (m3 a (kU d fx p u m 5 (aZ t 0 (.ofNat (len - i))) (n + i) deep))
  | false=>jR d fx p u m n len deep (l.drop (i + 1)) (i + 1) a:=by
 obtain⟨hj,e⟩:=aGs hq
 rw [List.drop_eq_getElem_cons hj,e,jR]
theorem qc (r:List UInt8×Nat×Tm):(bu r).strip=bu r:=by
 have:bn ai (aC r.2.2)=aC r.2.2:=by
  have:=eO r.2.2
  show _=_
  have h2:(aB r.2.2).strip=.agg (bn ai (aC r.2.2)):=rfl
  rw [h2] at this
  injection this
 show V.agg (bn ai (gT r))=_
 unfold bu gT
 show V.agg (V.str r.1::.int .i64 (.ofNat r.2.1)::bn ai (aC r.2.2))=_
 rw [this]
section
variable {n:Nat} {d:Dl} {sh:List Sh} {m:Nat} {u:Lv} {fx p W:Nat} {S:St}
theorem h26 {x ci:Nat} {i:In} {c:Ct} {s:Sh} {fs:List (Int×Int)} (hb:m6 d fx p W) (hs:Dt d sh fx) (h0:d.aj[0]?=some (in0 d)) (hx:d.aj[x]?=some i) (hc:i.cs[ci]?=some c) (hsx:sh[x]?=some s) (hsc:s.fields[ci]?=some fs)
 (hm:m≤1000) (hn:3 * W + 3300≤n) :
 RN n (.f 26) [gC d sh m u,.int .i64 (.ofNat x),.int .i64 (.ofNat ci)] S=some (bu (gl d sh fx p u m x ci c fs),S):=by
 obtain⟨q,rfl⟩:=up (show 1≤n by omega)
 have hWm:=hb.dl.qM
 have gQ:=hb.dl.few
 have hfx:=hb.hfx
 have kT:=hb.f12
 have hxl:x < d.aj.length:=(aGs hx).1
 have hcl:ci < i.cs.length:=(aGs hc).1
 have hcs:=hb.nm.cs i (aMg hx)
 obtain⟨_,_,g3⟩:=hb.gd i (aMg hx)
 obtain⟨c1,c2⟩:=g3 c (aMg hc)
 obtain⟨hfl,h12⟩ : fs.length=(al c.ty).1.length - fx∧(al c.ty).1.length≤fx + 12:=by
  obtain⟨_,s',e1,e2,e3⟩:=hs.at_ x i hx
  rw [hsx] at e1;cases e1
  obtain⟨fs',f1,f2,f3,f4⟩:=e3 ci c hc
  rw [hsc] at f1;cases f1
  exact⟨f2,f3⟩
 have hle:=kJ (sh:=sh) (u:=u) (m:=m) hb h0
 have hfa:=nE (sh:=sh) (u:=u) (m:=m) h0 hb
 have R5:ew d x ci≤220:=by
  have:=mv hb.nm.cs x
  have:d.aj.length * 20≤10 * 20:=Nat.mul_le_mul (by omega) (by omega)
  unfold ew;omega
 obtain⟨c1',T1,cR,k1,hg1⟩:=h69 (n:=q) (u:=u) (H:=[]) (T:=[]) hb hs h0 hm (by omega)
 have hbn:=iK (aa:=(aK d sh fx p u m).length) c1 (by omega) c2
 have hgb:=nD (aa:=(aK d sh fx p u m).length) c1 c2 hfa (by omega)
 obtain⟨_,gp2⟩:=Gd.pis _ _ (Nat.le_refl _) hgb
 have hB:(aG fx c.ty (aK d sh fx p u m).length).1=(al (ou fx c.ty (aK d sh fx p u m).length)).1:=rfl
 obtain⟨q0,k2,T2,bg,rfl,hg2⟩:=h70 (n:=q) (sh:=sh) (m:=m) (u:=u) (H:=[]) (T:=T1) (aa:=(aK d sh fx p u m).length) hb c1 c2 hfa (by omega) (by omega)
 have htr:gl d sh fx p u m x ci c fs=(c.name,(aG fx c.ty (aK d sh fx p u m).length).1.length,eB 5 (aK d sh fx p u m++(aG fx c.ty (aK d sh fx p u m).length).1) (jR d fx p u m (aK d sh fx p u m).length (aG fx c.ty (aK d sh fx p u m).length).1.length ((aK d sh fx p u m).length + (aG fx c.ty (aK d sh fx p u m).length).1.length) ((aG fx c.ty (aK d sh fx p u m).length).1.zip fs) 0 (de (bR (.ofNat (fx + d.aj.length + ew d x ci)) (.ofNat ((aK d sh fx p u m).length + (aG fx c.ty (aK d sh fx p u m).length).1.length))) (db (aK d sh fx p u m).length (aG fx c.ty (aK d sh fx p u m).length).1.length (.ofNat ((aK d sh fx p u m).length + (aG fx c.ty (aK d sh fx p u m).length).1.length)))))):=rfl
 generalize hA:aK d sh fx p u m=A at *
 have hgL:∀y∈(aG fx c.ty A.length).1,Gd W 200000 y:=gp2
 generalize hF:(aG fx c.ty A.length).1=F at *
 have hil:F.length≤12:=by omega
 obtain⟨T4,Dr,k4,hgr⟩:=h72 (n:=q) (from_:=A.length) (m:=F.length) (r:=.ofNat (A.length + F.length)) (H:=[]) (T:=T2) (by omega) (by omega) (bdN (by omega))
 have hrl:=ev A.length F.length (.ofNat (A.length + F.length))
 obtain⟨c3,T3,eU,a1,a2⟩:=dC (LT:=23) (c0:=c1') (c:=false) (bg:=bg) (H:=[]) (T0:=[]) (T:=T4) (done:=A) (new:=F) (tok:=cR) rfl (by omega) ((hg1.ext hg2.1).ext hgr.1)
 have h:∃r,frame Tryz.cfg (RN q) q 26 [gC d sh m u,.int .i64 (.ofNat x),.int .i64 (.ofNat ci)] St.empty=some r∧∃S',r=(bu (gl d sh fx p u m x ci c fs),S'):=by
  refine aU (fn:=Tryz.f26) (p:=fun r=>∃S',r=(bu (gl d sh fx p u m x ci c fs),S')) rfl rfl ?_
  refine ae.mk _ _ k1 ?_
  refine ab.mk _ (aL hx) ?_
  refine ab.mk _ (ec hc) ?_
  refine ae.mk _ _ (by rw [ak];exact k2) ?_
  refine ab.mk (.int .i64 (.ofNat (A.length + F.length))) (by rw [ak,ak];exact addNat (by omega)) ?_
  refine ab.mk (.int .i64 (.ofNat (fx + d.aj.length))) (by rw [hfx,aq,aLm];exact addNat (by omega)) ?_
  refine ae.mk _ _ (h77 hb hxl (by omega) (by omega)) ?_
  refine ab.mk (.int .i64 (.ofNat (fx + d.aj.length + ew d x ci))) (addNat (by omega)) ?_
  refine ae.mk _ _ (h75 (by omega) (bdN (by omega)) (bdN (by omega))) ?_
  refine ae.mk _ _ (by rw [ak,ak];exact k4) ?_
  refine ae.mk _ _ (k74 (by rw [hrl];omega) (by rw [hrl];omega)) ?_
  refine aD.loop 127 (σ:=Tm) F.length (fun j t=>{ nt:=127,tmps:=[(0,gC d sh m u),(1,.int .i64 (.ofNat x)),(2,.int .i64 (.ofNat ci)),(6,.ptr (.loc 6) 0),(7,.list (ao c1' A) cR 0 (ag A)),(8,.int .i64 (.ofNat (aH (ag A)))),(9,.list (ao false F) bg 0 (ag F)),(11,.int .i64 (.ofNat (A.length + F.length))),(12,.ptr (.loc 12) 0),(13,.int .i64 (.ofNat j))],locs:=[(6,Tryz.ti56.zero),(10,aC (aG fx c.ty A.length).2),(12,aC t)],fix:=[] })
   (fun _ _=>{ heap:=[],aA:=T4 }) (fun j t=>jR d fx p u m A.length F.length (A.length + F.length) (F.zip fs) 0 (de (bR (.ofNat (fx + d.aj.length + ew d x ci)) (.ofNat (A.length + F.length))) (db A.length F.length (.ofNat (A.length + F.length))))=jR d fx p u m A.length F.length (A.length + F.length) ((F.zip fs).drop j) j t) _ (by omega) (by rw [List.drop_zero]) ?_ ?_
  ·rintro j t hj (ht:_=_)
   obtain⟨y,hy⟩ : ∃y,F[j]?=some y:=⟨_,aGe hj⟩
   obtain⟨f,hf⟩ : ∃f,fs[j]?=some f:=⟨_,aGe (by omega)⟩
   have hz:(F.zip fs)[j]?=some (y,f):=by rw [List.getElem?_zip_eq_some];exact⟨hy,hf⟩
   have hgt:=hgL y (aMg hy)
   rw [Bp d fx p u m A.length F.length (A.length + F.length) hz] at ht
   have Fc:s.fields≠[]:=fun e=>by rw [e] at hsc;simp at hsc
   have xt:fs≠[]:=fun e=>by rw [e] at hf;simp at hf
   refine ah.yes (by rw [ak];exact dj hj) ?_
   refine ab.mk _ (qC hsx Fc) ?_
   refine ab.mk _ (tc hsc xt) ?_
   refine ab.mk _ (Bm hf) ?_
   refine ah.mk (fun hr=>?_) (fun hr=>?_)
   ·simp only [hr] at ht
    have JX:=hgt.lift (b:=.ofNat (F.length - j)) (by simp only [aOn];omega) (by simp only [aOn];omega) 0
    have Oz:=h78 (n:=q) (sh:=sh) (m:=m) (u:=u) (S:={ heap:=[],aA:=T4 }) (k:=5) (t:=aZ y 0 (.ofNat (F.length - j))) (f:=A.length + j) (aa:=A.length + F.length) hb JX.all JX.le (by omega) (by omega) hm (by omega)
    refine ab.mk _ (bz hy) ?_
    refine ab.mk (.int .i64 (.ofNat (F.length - j))) ?_ ?_
    ·rw [ak]
     have e:(Int.ofNat F.length - Int.ofNat j)=.ofNat (F.length - j):=by simp only [aOn];omega
     rw [← e]
     exact mB (by simp only [aOn];omega) (by simp only [aOn];omega)
    refine ae.mk _ _ (h79 (W:=W) hgt.le (by omega) (by omega)) ?_
    refine ab.mk (.int .i64 (.ofNat (A.length + j))) (by rw [ak];exact addNat (by omega)) ?_
    refine ae.mk _ _ Oz ?_
    refine ab.mk _ (bs1 _ 23 _ _ _ rfl) ?_
    refine ae.mk _ _ (k47 (by simp only [aLc,List.length_nil];omega) (by simp only [aLc,List.length_nil];omega)) ?_
    refine ab.mk _ (az (by omega)) ?_
    exact⟨_,ht,rfl,rfl⟩
   ·simp only [hr] at ht
    refine ab.mk _ (az (by omega)) ?_
    exact⟨t,ht,rfl,rfl⟩
  ·rintro t (ht:_=_)
   rw [List.drop_of_length_le (by simp;omega),jR] at ht
   refine ah.no (by rw [ak];exact eS (by omega)) ?_
   refine ab.mk _ (aL hx) ?_
   refine ab.mk _ (ec hc) ?_
   refine cj.mk _ _ (a1 _ _ rfl) ?_
   refine ae.mk _ _ (k73 (by rw [aLa];omega) (by rw [aLa];omega)) ?_
   refine⟨_,rfl,?_⟩
   rw [htr,ht,ak]
   exact⟨_,rfl⟩
 obtain⟨r,k6,S',rfl⟩:=h
 exact bC k6 (by simp only [cJ,bf,an]) rfl rfl rfl rfl (qc _)
end
noncomputable def cg:List Sh→Bool
 | [s]=>iEq s.index 0 && (match s.fields with | [f::fs]=>(f::fs).all fun f=>iLt f.1 0 | _=>false)
 | _=>false
noncomputable def u6 (i:Nat) (s:List UInt8) (x:Tm):Tm:=.mk 8 (.ofNat i) s false true false true [] [x]
noncomputable def j8 (d:Dl) (sh:List Sh) (fx p:Nat) (u:Lv) (m:Nat):List Tm:=
 aK d sh fx p u m++[gS fx p (in0 d).name (aK d sh fx p u m).length []]
noncomputable def j9 (d:Dl) (sh:List Sh) (fx p:Nat) (u:Lv) (m k:Nat):Tm:=
 (List.range k).foldl (fun t i=>m3 t (u6 i (in0 d).name (bR (.ofNat (aK d sh fx p u m).length) (.ofNat ((aK d sh fx p u m).length + 1))))) (bR (.ofNat (fx + 1)) (.ofNat ((aK d sh fx p u m).length + 1)))
noncomputable def fs0 (sh:List Sh):List (Int×Int):=fsR sh 0 0
noncomputable def fk (d:Dl) (sh:List Sh) (fx p:Nat) (u:Lv) (m:Nat):Tm:=eB 5 (j8 d sh fx p u m) (j9 d sh fx p u m (fs0 sh).length)
theorem J0 {ix:Int} {lv:Lv} (fs:List (Int×Int)) (h:iEq ix 0=false):cg [Sh.mk ix lv [fs]]=false:=by simp only [cg,h,Bool.false_and]
theorem ow {sh:List Sh} (h:cg sh=true):∃s f fs,sh=[s]∧s.fields=[f::fs]∧fs0 sh=f::fs:=by
 unfold cg at h
 split at h
 ·rename_i s
  cases hf:s.fields with
  | nil=>rw [hf] at h;simp at h
  | cons a r=>
   cases r with
   | nil=>
    cases a with
    | nil=>rw [hf] at h;simp at h
    | cons f fs=>exact⟨s,f,fs,rfl,hf,by unfold fs0 fsR;simp [hf]⟩
   | cons b r=>rw [hf] at h;simp at h
 ·cases h
section
variable {n:Nat} {d:Dl} {sh:List Sh} {m:Nat} {u:Lv} {fx p W:Nat} {S:St}
theorem h24 (hl:∀s∈sh,∀fs∈s.fields,fs.length≤1000) (hn:1010≤n):RN n (.f 24) [gK 7 (sh.map bx)] S=some (.bool (cg sh),S):=by
 obtain⟨q,rfl⟩:=up (show 1≤n by omega)
 have hst:bn V.strip [gK 7 (sh.map bx)]=[gK 7 (sh.map bx)]:=by cases sh<;>rfl
 have hpu:allB V.pure [gK 7 (sh.map bx)]=true:=by cases sh<;>rfl
 have h:∃r,frame Tryz.cfg (RN q) q 24 [gK 7 (sh.map bx)] St.empty=some r∧∃S',r=(.bool (cg sh),S'):=by
  refine aU (fn:=Tryz.f24) (p:=fun r=>∃S',r=(.bool (cg sh),S')) rfl rfl ?_
  rcases sh with _ | ⟨s,_ | ⟨s2,sh⟩⟩
  ·refine ah.yes rfl ?_
   exact⟨_,rfl,_,rfl⟩
  ·refine ah.no rfl ?_
   rcases s with⟨ix,lv,fields⟩
   rcases fields with _ | ⟨fs,_ | ⟨fs2,fields⟩⟩
   ·have hrF:cg [Sh.mk ix lv []]=false:=by unfold cg;simp
    rw [hrF]
    refine ab.mk (.imm 0 [.int .i64 ix,.int .i64 lv.c,.int .i64 lv.p0,.int .i64 lv.p1,.int .i64 lv.p2,.int .i64 lv.p3,.list 0 .tight 0 []]) rfl ?_
    refine ah.mk (fun c1=>?_) (fun c1=>?_)
    ·exact⟨_,rfl,_,rfl⟩
    refine ab.mk (.imm 0 [.int .i64 ix,.int .i64 lv.c,.int .i64 lv.p0,.int .i64 lv.p1,.int .i64 lv.p2,.int .i64 lv.p3,.list 0 .tight 0 []]) rfl ?_
    refine ah.yes rfl ?_
    exact⟨_,rfl,_,rfl⟩
   ·have hi:∀fs,indexAddr Tryz.cfg 39 (.list 7 .no 0 ([Sh.mk ix lv [fs]].map bx)) (.int .i64 (.ofNat 0))=some (.imm 0 [.int .i64 ix,.int .i64 lv.c,.int .i64 lv.p0,.int .i64 lv.p1,.int .i64 lv.p2,.int .i64 lv.p3,.list 1 .no 0 ([fs].map bp)]):=fun fs=>qC (sh:=[Sh.mk ix lv [fs]]) (x:=0) rfl (by simp)
    refine ab.mk _ (hi fs) ?_
    refine ah.mk (fun c1=>?_) (fun c1=>?_)
    ·have hrF:cg [Sh.mk ix lv [fs]]=false:=J0 fs (by simpa using c1)
     rw [hrF]
     exact⟨_,rfl,_,rfl⟩
    have c1' : iEq ix 0=true:=by simpa using c1
    refine ab.mk _ (hi fs) ?_
    refine ah.no rfl ?_
    rcases fs with _ | ⟨f,fs⟩
    ·have hrF:cg [Sh.mk ix lv [[]]]=false:=by unfold cg;simp
     rw [hrF]
     refine ab.mk _ (hi []) ?_
     refine ab.mk (.imm 0 [.list 0 .tight 0 []]) rfl ?_
     refine ah.yes rfl ?_
     exact⟨_,rfl,_,rfl⟩
    ·have h52:indexAddr Tryz.cfg 52 (.list 1 .no 0 ([f::fs].map bp)) (.int .i64 (.ofNat 0))=some (.imm 0 [.list 2 .no 0 ((f::fs).map dw)]):=tc (fss:=[f::fs]) (c:=0) rfl (by simp)
     refine ab.mk _ (hi (f::fs)) ?_
     refine ab.mk _ h52 ?_
     have hfl:(f::fs).length≤1000:=hl _ aMs _ aMs
     refine ah.no (by rw [aq,aLm,cm];simp only [aLc,aOn,decide_eq_false_iff_not];omega) ?_
     refine aD.loop 54 (σ:=Unit) (f::fs).length (fun j _=>{ nt:=54,tmps:=[(0,.list 7 .no 0 ([Sh.mk ix lv [f::fs]].map bx)),(3,.int .i64 (.ofNat j))],locs:=[],fix:=[] }) (fun _ _=>St.empty)
      (fun j _=>cg [Sh.mk ix lv [f::fs]]=((f::fs).drop j).all fun f=>iLt f.1 0) () (by omega) (by simp only [cg,c1',Bool.true_and];rfl) ?_ ?_
     ·intro j _ hj hp
      obtain⟨g,hg⟩ : ∃g,(f::fs)[j]?=some g:=⟨_,aGe hj⟩
      rw [fz hg] at hp
      refine ab.mk _ (hi (f::fs)) ?_
      refine ab.mk _ h52 ?_
      refine ah.yes (ltM hj) ?_
      refine ab.mk _ (hi (f::fs)) ?_
      refine ab.mk _ h52 ?_
      refine ab.mk _ (Bm hg) ?_
      refine ah.mk (fun c2=>?_) (fun c2=>?_)
      ·have c2' : iLt g.1 0=false:=by simpa using c2
       rw [c2'] at hp
       rw [hp]
       exact⟨_,rfl,_,rfl⟩
      ·have c2' : iLt g.1 0=true:=by simpa using c2
       rw [c2'] at hp
       refine ab.mk _ (az (by omega)) ?_
       exact⟨(),hp,rfl,rfl⟩
     ·intro _ hp
      rw [List.drop_length] at hp
      refine ab.mk _ (hi (f::fs)) ?_
      refine ab.mk _ h52 ?_
      refine ah.no (geM (by omega)) ?_
      rw [hp]
      exact⟨_,rfl,_,rfl⟩
   ·have hi:indexAddr Tryz.cfg 39 (.list 7 .no 0 ([Sh.mk ix lv (fs::fs2::fields)].map bx)) (.int .i64 (.ofNat 0))=some (.imm 0 [.int .i64 ix,.int .i64 lv.c,.int .i64 lv.p0,.int .i64 lv.p1,.int .i64 lv.p2,.int .i64 lv.p3,.list 1 .no 0 ((fs::fs2::fields).map bp)]):=qC (sh:=[Sh.mk ix lv (fs::fs2::fields)]) (x:=0) rfl (by simp)
    have hrF:cg [Sh.mk ix lv (fs::fs2::fields)]=false:=by unfold cg;simp
    rw [hrF]
    refine ab.mk _ hi ?_
    refine ah.mk (fun c1=>?_) (fun c1=>?_)
    ·exact⟨_,rfl,_,rfl⟩
    refine ab.mk _ hi ?_
    refine ah.yes (by rw [aq,aLm];simp [bW];omega) ?_
    exact⟨_,rfl,_,rfl⟩
  ·have hrF:cg (s::s2::sh)=false:=rfl
   rw [hrF]
   refine ah.yes (by rw [aq];simp [bW];omega) ?_
   exact⟨_,rfl,_,rfl⟩
 obtain⟨r,k6,S',rfl⟩:=h
 exact bC k6 hst rfl hpu rfl rfl rfl
theorem J1 (i:Nat) (s:List UInt8) (x:Tm):buildSlice Tryz.cfg 23 1 [(0,.agg [.int .u8 8,.int .i64 (.ofNat i),.str s,.list 0 .tight 0 [],.list (ao false [x]) .tight 0 (ag [x])])]=some (.list (ao false [u6 i s x]) .tight 0 (ag [u6 i s x])):=bs1 (u6 i s x) 23 _ _ _ rfl
theorem h25 (hb:m6 d fx p W) (hs:Dt d sh fx) (h0:d.aj[0]?=some (in0 d)) (hr:cg sh=true) (hm:m≤1000) (hk:(fs0 sh).length≤1000) (hn:3 * W + 3300≤n) :
 RN n (.f 25) [gC d sh m u] S=some (aB (fk d sh fx p u m),S):=by
 obtain⟨q,rfl⟩:=up (show 1≤n by omega)
 have hWm:=hb.dl.qM
 have hfx:=hb.hfx
 have kT:=hb.f12
 obtain⟨s,f,fs,rfl,hsf,hfs⟩:=ow hr
 have hle:=kJ (sh:=[s]) (u:=u) (m:=m) hb h0
 obtain⟨c1,T1,cR,k1,hg1⟩:=h69 (n:=q) (u:=u) (H:=[]) (T:=[]) hb hs h0 hm (by omega)
 have k5:=h71 (n:=q) (sh:=[s]) (m:=m) (u:=u) (S:={ heap:=[],aA:=T1 }) (name:=(in0 d).name) (aa:=(aK d [s] fx p u m).length) (c:=false) (tok:=.tight) (l:=[]) hb (by omega) (by simp) (by simp;omega)
 rw [show (V.list (ao false ([]:List Tm)) .tight 0 (ag []))=.list 0 .tight 0 [] by rw [ag];rfl] at k5
 have htr:fk d [s] fx p u m=eB 5 (j8 d [s] fx p u m) (j9 d [s] fx p u m (f::fs).length):=by unfold fk;rw [hfs]
 have hvl:j8 d [s] fx p u m=aK d [s] fx p u m++[gS fx p (in0 d).name (aK d [s] fx p u m).length []]:=rfl
 have hpr:∀k,j9 d [s] fx p u m k=(List.range k).foldl (fun t i=>m3 t (u6 i (in0 d).name (bR (.ofNat (aK d [s] fx p u m).length) (.ofNat ((aK d [s] fx p u m).length + 1))))) (bR (.ofNat (fx + 1)) (.ofNat ((aK d [s] fx p u m).length + 1))):=fun _=>rfl
 rw [hfs] at hk
 generalize hA:aK d [s] fx p u m=A at *
 obtain⟨c3,T3,eU,a1,a2⟩:=dC (LT:=23) (c0:=c1) (c:=false) (bg:=.tight) (H:=[]) (T0:=[]) (T:=T1) (done:=A) (new:=[gS fx p (in0 d).name A.length []]) (tok:=cR) rfl (by simp only [aLc,List.length_nil];omega) hg1
 rw [← hvl] at a1 a2
 have hlt:(j8 d [s] fx p u m).length=A.length + 1:=by rw [hvl,aLa];rfl
 have h:∃r,frame Tryz.cfg (RN q) q 25 [gC d [s] m u] St.empty=some r∧∃S',r=(aB (fk d [s] fx p u m),S'):=by
  refine aU (fn:=Tryz.f25) (p:=fun r=>∃S',r=(aB (fk d [s] fx p u m),S')) rfl rfl ?_
  refine ae.mk _ _ k1 ?_
  refine ab.mk _ (aL h0) ?_
  refine ae.mk _ _ (by rw [ak];exact k5) ?_
  refine ab.mk _ (bs1 _ 23 _ _ _ rfl) ?_
  refine cj.mk _ _ (a1 _ _ rfl) ?_
  refine ab.mk (.int .i64 (.ofNat (fx + 1))) (by rw [hfx];exact az (by omega)) ?_
  refine ae.mk _ _ (by rw [ak,hlt];exact h75 (by omega) (bdN (by omega)) (bdN (by omega))) ?_
  refine aD.loop 64 (σ:=Tm) (f::fs).length (fun j t=>{ nt:=64,tmps:=[(0,gC d [s] m u),(2,.ptr (.loc 2) 0),(3,.list (ao c3 (j8 d [s] fx p u m)) eU 0 (ag (j8 d [s] fx p u m))),(4,.str (in0 d).name),(5,.int .i64 (.ofNat (aH (ag (j8 d [s] fx p u m))))),(6,.ptr (.loc 6) 0),(7,.int .i64 (.ofNat j))],locs:=[(2,fI),(6,aC t)],fix:=[] })
   (fun _ _=>{ heap:=[],aA:=T3 }) (fun j t=>t=j9 d [s] fx p u m j) _ (by omega) (by rw [hpr];rfl) ?_ ?_
  ·rintro j t hj rfl
   refine ab.mk _ (qC rfl (by rw [hsf];simp)) ?_
   refine ab.mk _ (tc (by rw [hsf];rfl) (by simp)) ?_
   refine ah.yes (ltM hj) ?_
   refine ab.mk _ (by rw [ak,hlt];exact kQ (by omega)) ?_
   refine ae.mk _ _ (by rw [ak,hlt];exact h75 (by omega) (bdN (by omega)) (bdN (by omega))) ?_
   refine ab.mk _ (bs1 _ 23 _ _ _ rfl) ?_
   refine ab.mk _ (J1 _ _ _) ?_
   refine ae.mk _ _ (k47 (by simp only [aLc,List.length_nil];omega) (by simp only [aLc,List.length_nil];omega)) ?_
   refine ab.mk _ (az (by omega)) ?_
   exact⟨_,(show m3 (j9 d [s] fx p u m j) (u6 j (in0 d).name (bR (.ofNat A.length) (.ofNat (A.length + 1))))=j9 d [s] fx p u m (j + 1) by rw [hpr,hpr,List.range_succ,List.foldl_append];rfl),rfl,rfl⟩
  ·rintro t rfl
   refine ab.mk _ (qC rfl (by rw [hsf];simp)) ?_
   refine ab.mk _ (tc (by rw [hsf];rfl) (by simp)) ?_
   refine ah.no (geM (by omega)) ?_
   refine ae.mk _ _ (k73 (by omega) (by omega)) ?_
   refine⟨_,rfl,?_⟩
   rw [htr]
   exact⟨_,rfl⟩
 obtain⟨r,k6,S',rfl⟩:=h
 exact dZ k6 (by simp only [cJ,an]) rfl rfl
end
theorem lK {α β:Type} {f:α→Option β}:∀{xs:List α} {l:List β} {j:Nat} {x:α},bO f xs=some l→xs[j]?=some x→∃y,l[j]?=some y∧f x=some y
 | [],l,j,x,_,h=>by simp at h
 | a::xs,l,0,x,h,h2=>by
  simp at h2;subst h2
  rw [bT] at h
  obtain⟨b,m,k1,k2,rfl⟩:=cX h
  exact⟨b,rfl,k1⟩
 | a::xs,l,j + 1,x,h,h2=>by
  rw [bT] at h
  obtain⟨b,m,k1,k2,rfl⟩:=cX h
  exact lK (j:=j) k2 (by simpa using h2)
theorem zF {α β:Type} {f:α→Option β}:∀{xs:List α} {l:List β} {y:β},bO f xs=some l→y∈l→∃x∈xs,f x=some y
 | [],l,y,h,hy=>by cases (show some ([]:List β)=some l from h);cases hy
 | a::xs,l,y,h,hy=>by
  rw [bT] at h
  obtain⟨b,m,k1,k2,rfl⟩:=cX h
  cases hy with
  | head=>exact⟨a,aMs,k1⟩
  | tail _ hy=>
   obtain⟨x,hx,e⟩:=zF k2 hy
   exact⟨x,aMt _ hx,e⟩
structure Good (d:Dl) (sh:List Sh):Prop where
 bk:m6 d (fxN d) (pN d) 4000000
 so:Dt d sh (fxN d)
 h0:d.aj[0]?=some (in0 d)
 sm:∀s∈sh,∀fs∈s.fields,fs.length≤12
 three:d.aj.length≤3
 eight:∀i∈d.aj,i.cs.length≤8
 may:∀i∈d.aj,ic i.ty=true∧∀c∈i.cs,ic c.ty=true
 low:∀i∈d.aj,hiT (pN d) i.ty=false∧∀c∈i.cs,hiT (pN d) c.ty=false
 nms:mo d=true
 shape:gR d (fxN d)=some sh
theorem u7 {d:Dl} {fx:Nat} {t:Tm} {fs:List (Int×Int)} (h:cd d fx t=some fs):fs.length=(al t).1.length - fx:=by
 unfold cd at h
 cases hl:iP d fx (al t).1 with
 | none=>rw [hl] at h;cases h
 | some l=>
  rw [hl] at h
  simp only at h
  split at h
  ·cases h
  ·cases h
   have:=eK hl
   simpa using this
theorem GP {d:Dl} {W:Nat} {sh:List Sh} (hd:qO d W) (h:ofR d=(sh,0)):Good d sh:=by
 unfold ofR at h
 split at h
 ·cases h
 rename_i hA
 split at h
 ·cases h
 rename_i hB
 split at h
 ·cases h
 rename_i hN
 split at h
 ·cases h
 rename_i hC
 split at h
 ·cases h
 rename_i l hS
 cases h
 simp only [Bool.and_eq_true] at hA hB hC
 obtain⟨ha,hf,hm⟩:=hA
 obtain⟨hp,hlo⟩:=hB
 obtain⟨hfo,hct⟩:=hC
 unfold iF at ha
 simp only [Bool.and_eq_true,Bool.not_eq_true',cm,decide_eq_false_iff_not,aOn] at ha
 obtain⟨_,_,_,_,a1,a2,a3,a4⟩:=ha
 unfold ub at hp
 simp only [Bool.and_eq_true,Bool.not_eq_true',cm,decide_eq_false_iff_not,decide_eq_true_eq] at hp
 have hfx:d.fixed=.ofNat (fxN d):=by unfold fxN;simp only [aOn];omega
 have hpp:d.params=.ofNat (pN d):=by unfold pN;simp only [aOn];omega
 have kT:fxN d≤12:=by unfold fxN;omega
 have te:∀i∈d.aj,fxN d≤(al i.ty).1.length∧(al i.ty).1.length≤fxN d + 12:=fun i hi=>by
  have hq:=List.all_eq_true.1 hfo i hi
  refine⟨(sX hq hfx).1,?_⟩
  unfold nC at hq
  simp only [Bool.and_eq_true] at hq
  have:=hq.2.2.1
  rw [hfx,cm] at this
  simp only [Bool.not_eq_true',decide_eq_false_iff_not,aOn] at this
  omega
 have J2:∀i∈d.aj,∀c∈i.cs,fxN d≤(al c.ty).1.length∧(al c.ty).1.length≤fxN d + 12∧fxN d≤(aF (al c.ty).2).2.length:=fun i hi c hc=>by
  obtain⟨j,hj⟩:=List.mem_iff_getElem?.1 hi
  have hz:(d.aj.zipIdx 0)[j]?=some (i,j):=by rw [List.getElem?_zipIdx,hj];simp
  have hq:=List.all_eq_true.1 (List.all_eq_true.1 hct _ (aMg hz)) c hc
  refine⟨Bi hq hfx,?_⟩
  unfold mq at hq
  simp only [Bool.and_eq_true] at hq
  obtain⟨q1,q2,q3,q4⟩:=hq
  rw [hfx,cm] at q2
  simp only [Bool.not_eq_true',decide_eq_false_iff_not,aOn] at q2
  refine⟨by omega,?_⟩
  unfold cI at q4
  cases hmb:dK d (fxN d) (al c.ty).2 (.ofNat (al c.ty).1.length) with
  | false=>
   rw [hmb] at q4
   simp only [bW,decide_eq_true_eq,aOn] at q4
   omega
  | true=>
   unfold dK kI at hmb
   simp only [Bool.and_eq_true] at hmb
   have h2:=hmb.1.2
   cases hw:dJ (fun i=>decide (i.name=(aF (al c.ty).2).1.s)) d.aj 0 with
   | none=>rw [hw] at h2;cases h2
   | some k=>
    obtain⟨_,x,hx⟩:=om hw
    rw [hw] at h2
    simp only [hx,Bool.and_eq_true] at h2
    have h3:=h2.2
    have hxf:=(te x (aMg hx)).1
    unfold a6 at h3
    rw [hfx,bW,decide_eq_true_eq] at h3
    simp only [aOn] at h3
    omega
 have hdl:=JS hd hm
 have hmy:∀i∈d.aj,ic i.ty=true∧∀c∈i.cs,ic c.ty=true:=fun i hi=>⟨List.all_eq_true.1 hm _ (dS hi).1,fun c hc=>List.all_eq_true.1 hm _ ((dS hi).2 c hc)⟩
 have hgd:∀t,ic t=true→Gd 4000000 4096 t:=fun t ht=>by
  have hv:=uY ht
  unfold ic at ht
  simp only [Bool.and_eq_true] at ht
  exact⟨cK ht.1,hv,fX ht.1⟩
 have hlen:=eK hS
 have hat:∀(x:Nat) (i:In),d.aj[x]?=some i→∃s:Sh,sh[x]?=some s∧s.fields.length=i.cs.length∧∀(j:Nat) (c:Ct),i.cs[j]?=some c→∃fs:List (Int×Int),s.fields[j]?=some fs∧fs.length=(al c.ty).1.length - fxN d:=fun x i hx=>by
  obtain⟨s,s1,s2⟩:=lK hS hx
  unfold iX at s2
  cases hq:bO (fun c:Ct=>cd d (fxN d) c.ty) i.cs with
  | none=>rw [hq] at s2;cases s2
  | some fss=>
   rw [hq] at s2
   cases s2
   refine⟨_,s1,eK hq,fun j c hc=>?_⟩
   obtain⟨fs,f1,f2⟩:=lK hq hc
   exact⟨fs,f1,u7 f2⟩
 have hp4:pN d < 4:=by unfold pN;omega
 refine⟨⟨hdl,hd.nm,hfx,hpp,kT,hp4,fun i hi=>⟨hgd _ (hmy i hi).1,(te i hi).1,fun c hc=>⟨hgd _ ((hmy i hi).2 c hc),(J2 i hi c hc).1⟩⟩⟩,⟨hlen,fun x i hx=>?_⟩,?_,?_,by omega,?_,hmy,?_,hN,hS⟩
 ·obtain⟨s,s1,s2,s3⟩:=hat x i hx
  refine⟨(te i (aMg hx)).2,s,s1,s2,fun j c hc=>?_⟩
  obtain⟨fs,f1,f2⟩:=s3 j c hc
  obtain⟨c1,c2,c3⟩:=J2 i (aMg hx) c (aMg hc)
  exact⟨fs,f1,f2,c2,c3⟩
 ·unfold in0
  rw [aGe (by omega)];rfl
 ·intro s hs fs hfs
  obtain⟨x,hx⟩:=List.mem_iff_getElem?.1 hs
  obtain⟨j,hj⟩:=List.mem_iff_getElem?.1 hfs
  have hxl:=(aGs hx).1
  obtain⟨s',e1,e2,e3⟩:=hat x _ (aGe (by omega))
  rw [hx] at e1;cases e1
  have hjl:=(aGs hj).1
  obtain⟨fs',f1,f2⟩:=e3 j _ (aGe (by omega))
  rw [hj] at f1;cases f1
  have:=(J2 d.aj[x] (List.getElem_mem (by omega)) (d.aj[x].cs[j]) (List.getElem_mem (by omega))).2.1
  rw [f2]
  omega
 ·intro i hi
  have:=List.all_eq_true.1 hf i hi
  rw [cm] at this
  simp only [Bool.not_eq_true',decide_eq_false_iff_not,aOn] at this
  omega
 ·intro i hi
  have key:∀t∈bZ d,hiT (pN d) t=false:=fun t ht=>by simpa using List.all_eq_true.1 hlo t ht
  exact⟨key _ (dS hi).1,fun c hc=>key _ ((dS hi).2 c hc)⟩
theorem zG {d:Dl} {W:Nat} (hd:qO d W):(∃e,e≠0∧ofR d=([],e))∨(∃s r,ofR d=(s::r,0)∧Good d (s::r)):=by
 have key:(∃e,e≠0∧ofR d=([],e))∨∃l,ofR d=(l,0):=by
  unfold ofR
  split
  ·exact .inl ⟨1,by decide,rfl⟩
  split
  ·exact .inl ⟨8,by decide,rfl⟩
  split
  ·exact .inl ⟨5,by decide,rfl⟩
  split
  ·exact .inl ⟨14,by decide,rfl⟩
  split
  ·exact .inl ⟨15,by decide,rfl⟩
  ·exact .inr ⟨_,rfl⟩
 rcases key with h | ⟨l,h⟩
 ·exact .inl h
 ·right
  have hg:=GP hd h
  have h1:=hg.so.len
  have h2:=(aGs hg.h0).1
  cases l with
  | nil=>simp at h1;omega
  | cons s r=>exact⟨s,r,h,hg⟩
def fm (C:Cfg) (R:Run) (F:FC) (k fid nt:Nat) (l:List Code) (A:Env) (S:St) (K:Ex→Env→St→Prop):Prop:=∃e A' S',gx C R k fid F l A S=some (e,A',S')∧K e A' S'
section
variable {C:Cfg} {R:Run} {F:FC} {k fid nt:Nat} {A:Env} {S:St}
theorem fm.nil {nt:Nat} {K:Ex→Env→St→Prop} (h:K .normal A S):fm C R F k fid nt [] A S K:=⟨_,_,_,rfl,h⟩
theorem fm.cons {c:Code} {l:List Code} {K:Ex→Env→St→Prop} (h:er C R F k fid nt [] c A S fun e A S=>match e with | .normal=>fm C R F k fid nt l A S K | e=>K e A S):fm C R F k fid nt (c::l) A S K:=by
 obtain⟨e,A',S',h1,h2⟩:=cM C R F c h
 cases e with
 | normal=>
  obtain⟨e2,A2,S2,h3,h4⟩:=h2
  refine⟨e2,A2,S2,?_,h4⟩
  show iter.andThen (evalCode C R k fid F c A S) (gx C R k fid F l)=_
  rw [h1];exact h3
 | ret=>
  refine⟨_,_,_,?_,h2⟩
  show iter.andThen (evalCode C R k fid F c A S) (gx C R k fid F l)=_
  rw [h1];rfl
 | exit i=>
  refine⟨_,_,_,?_,h2⟩
  show iter.andThen (evalCode C R k fid F c A S) (gx C R k fid F l)=_
  rw [h1];rfl
end
theorem Dv {id m:Nat} {fn:Func} {R:Run} {k:Nat} {args:List V} {p:V→Prop}
 (h:fm Tryz.cfg R (Tryz.cfg.fc id) k id fn.ntmps (uO m (iD fn)) { nt:=fn.ntmps,tmps:=number 0 args,locs:=[],fix:=[] } St.empty fun e A S=>match e with
  | .exit _=>False
  | .ret=>∃v,pM fn A S=some v∧p v
  | .normal=>∃A2,rP A S=some A2∧er Tryz.cfg R (Tryz.cfg.fc id) k id fn.ntmps [] (ny m (iD fn)) A2 St.empty fun e A S=>match e with | .exit _=>False | _=>∃v,pM fn A S=some v∧p v) :
 ∃v,sI id m fn R k args=some v∧p v:=by
 obtain⟨e,A,S,h1,h2⟩:=h
 unfold sI
 rw [h1]
 cases e with
 | exit i=>exact h2.elim
 | ret=>exact h2
 | normal=>
  obtain⟨A2,h3,h4⟩:=h2
  obtain⟨e,A',S',h5,h6⟩:=cM _ _ _ _ h4
  simp only [h3,h5]
  cases e with
  | exit i=>exact h6.elim
  | ret=>exact h6
  | normal=>exact h6
theorem rr {id n:Nat} {args:List V} {S:St} {r:V×St} (h:RN (n + 1) (.f id) args S=some r) (hc:l8 id=true:=by rfl):fN Tryz.cfg cQ cY bY (n + 1) (.f id) args S=some r:=by
 rw [sJ hc] at h
 exact h
theorem ue {id n:Nat} {g:kP} {args:List V} {S:St} {v:V} (hc:cQ id=some g) (hr:bY id=false) (hn:cY id=false) (ha:allB V.pure args=true) (hm:bn V.strip args=args) (h:g (fN Tryz.cfg cQ cY bY n) n args=some v) :
 RN n (.f id) args S=some (v,S):=by
 show df bY (cu cY (bV cQ n (fN Tryz.cfg cQ cY bY n))) (.f id) args S=_
 unfold df cu bV
 simp only [hr,hn,hc,ha,hm,h,cond_true]
end Go.Ev
namespace Go.Ev
open Go.Proofs Go.RowKit
set_option maxRecDepth 100000
set_option maxHeartbeats 4000000
set_option linter.unusedVariables false
set_option linter.unusedSimpArgs false
def Mf (T T' : List Nat) (tok aV : Tok):Prop:=T.length≤T'.length∧(∀u v,nth T u=some v→tok≠.own u→nth T' u=some v)∧∀t,aV=.own t→tok=.own t∨T.length≤t
theorem Ff {ei:TI} {S S' : St} {ac:Acc} {sz sz' top R6 OB:Nat} {tok aV : Tok} {rows new jO : List V} (h:kp ei S ac sz tok top rows R6 new=some (.list sz' aV OB jO,S')):Mf S.aA S'.aA tok aV:=by
 unfold kp at h
 split at h
 ·split at h
  ·cases h
  ·cases h
   refine⟨by rw [bM];simp,fun u v hu _=>?_,fun t ht=>?_⟩
   ·rw [bS] at hu
    rw [bM,bS,List.getElem?_append_left (aGs hu).1];exact hu
   ·cases ht
    rw [aq];exact .inr (Nat.le_refl _)
  ·split at h
   ·cases h
    refine⟨by rw [fp,List.length_set];exact Nat.le_refl _,fun u v hu hne=>?_,fun t ht=>.inl ht⟩
    rename_i t _
    have:t≠u:=fun e=>hne (by rw [e])
    rw [fp,bS,List.getElem?_set_ne this,← bS];exact hu
   ·cases h
 ·cases h
theorem ij {C:Cfg} {A:Env} {S S' : St} {ac:Acc} {LT:Nat} {sz sz' top OB:Nat} {tok aV : Tok} {rows jO : List V} {x:V} (h:append C A S ac LT (.list sz tok top rows) x=some (.list sz' aV OB jO,S')):Mf S.aA S'.aA tok aV:=by
 unfold append at h
 split at h
 ·split at h
  ·split at h
   ·rename_i hr he
    cases he
    split at h
    ·cases h
     exact⟨Nat.le_refl _,fun u v hu _=>hu,fun t ht=>.inl ht⟩
    ·exact Ff h
   ·cases h
  ·cases h
 ·cases h
structure Two (T0 T:List Nat) (a:List V) (ta:Tok) (b:List V) (tb:Tok):Prop where
 e:jm T0 T
 ha:(a=[]∧ta=.tight)∨∃t,ta=.own t∧T0.length≤t∧nth T t=some a.length∧a≠[]
 hb:tb=.tight∨∃t,tb=.own t∧T0.length≤t∧nth T t=some b.length∧b≠[]
 ne:∀t,ta=.own t→tb≠.own t
theorem Two.GQ {T0 T T' : List Nat} {a a' b:List V} {ta ta' tb:Tok} (h:Two T0 T a ta b tb) (hg:av T0 T' a' ta') (hk:Mf T T' ta ta'):Two T0 T' a' ta' b tb:=by
 refine⟨hg.1,hg.2,?_,fun t ht hb=>?_⟩
 ·rcases h.hb with h1 | ⟨t,h1,h2,h3,h4⟩
  ·exact .inl h1
  ·exact .inr ⟨t,h1,h2,hk.2.1 t _ h3 (fun e=>h.ne t e h1),h4⟩
 ·rcases hk.2.2 t ht with h1 | h1
  ·exact h.ne t h1 hb
  ·rcases h.hb with h2 | ⟨t',h2,h3,h4,h5⟩
   ·rw [hb] at h2;cases h2
   ·rw [hb] at h2;cases h2
    have:=mM h4
    omega
theorem Two.J3 {T0 T T' : List Nat} {a b b' : List V} {ta tb tb' : Tok} (h:Two T0 T a ta b tb) (hg:av T0 T' b' tb') (hk:Mf T T' tb tb'):Two T0 T' a ta b' tb':=by
 refine⟨hg.1,?_,hg.w.2,fun t ht hb=>?_⟩
 ·rcases h.ha with h1 | ⟨t,h1,h2,h3,h4⟩
  ·exact .inl h1
  ·exact .inr ⟨t,h1,h2,hk.2.1 t _ h3 (fun e=>h.ne t h1 e),h4⟩
 ·rcases hk.2.2 t hb with h1 | h1
  ·exact h.ne t ht h1
  ·rcases h.ha with⟨_,h2⟩ | ⟨t',h2,h3,h4,h5⟩
   ·rw [ht] at h2;cases h2
   ·rw [ht] at h2;cases h2
    have:=mM h4
    omega
theorem oz {LT sz by' : Nat} {z' : List V} {H:List Blk} {T0 T:List Nat} {done new:List Tm} {tok bg:Tok} {c0 c:Bool} (hl:Tryz.cfg.ti LT=some { kind:=.slice 25,size:=sz,bytes:=by',zero:=z' })
 (hlen:done.length + new.length < 1000000000) (hne:new≠[]) (hg:m5 T0 T (ag done) tok) :
 ∃c' T' aV,(∀(A:Env) (ac:Acc),ac.heap=true→append Tryz.cfg A { heap:=H,aA:=T } ac LT (.list (ao c0 done) tok 0 (ag done)) (.list (ao c new) bg 0 (ag new))=some (.list (ao c' (done++new)) aV 0 (ag (done++new)),{ heap:=H,aA:=T' }))∧av T0 T' (ag (done++new)) aV:=by
 have hq:(ag new).isEmpty=true∨ao c new=5:=by
  rcases jH c new with rfl | h
  ·left;rw [ag];rfl
  ·exact .inr h
 have hr:∀(A:Env) (ac:Acc) (S:St),gV A S ac 5 (.list (ao c new) bg 0 (ag new))=some (0,ag new):=fun A ac S=>by unfold gV;exact if_pos hq
 have BS : ag new≠[]:=fun e=>hne (by
  have:=ak new
  rw [e] at this
  exact List.eq_nil_of_length_eq_zero this.symm)
 obtain⟨T',aV,h1,h2⟩:=xI (ei:=Tryz.ti25) (H:=H) (sz:=ao c0 done) (new:=ag new) (by decide) (by decide) (by rw [← aq,← aq,ak,ak];exact hlen) (by
  rcases jH c0 done with rfl | h
  ·left;rw [ag]
  ·exact .inr h) hg BS
 have e:ag done++ag new=ag (done++new):=by rw [nz,bM]
 rw [e] at h1 h2
 refine⟨false,T',aV,?_,h2⟩
 intro A ac hac
 have hf:(ag new).isEmpty=false:=by cases hx:ag new with | nil=>exact absurd hx BS | cons a l=>rfl
 unfold append
 simp only [hl,show Tryz.cfg.ti 25=some Tryz.ti25 from rfl,show Tryz.ti25.size=5 from rfl,hr,hf,Bool.false_eq_true,if_false]
 have hs:ao false (done++new)=5:=by
  cases hd:done++new with
  | nil=>simp [hne] at hd
  | cons a l=>rfl
 rw [hs]
 exact h1 ac hac
abbrev Ru:=List UInt8×Nat×Tm
structure Inf where
 kind:Int
 name:List UInt8
 params:Int
 ty:Tm
 val:Tm
 block:List UInt8
 of_:List UInt8
 fixed:Int
 index:Int
 motives:Int
 minors:Int
 rules:List Ru
@[reducible] noncomputable def eP (i:Inf) (sz:Nat) (tok:Tok) (rows:List V):List V:=[.int .u8 i.kind,.str i.name,.int .i64 i.params,
  .int .u8 i.ty.k,.int .i64 i.ty.n,.str i.ty.s,.list (ao i.ty.a i.ty.ls) (aw i.ty.b) 0 (i.ty.ls.map enc),.list (ao i.ty.c i.ty.ts) (aw i.ty.d) 0 (ag i.ty.ts),
  .int .u8 i.val.k,.int .i64 i.val.n,.str i.val.s,.list (ao i.val.a i.val.ls) (aw i.val.b) 0 (i.val.ls.map enc),.list (ao i.val.c i.val.ts) (aw i.val.d) 0 (ag i.val.ts),
  .int .i64 0,.str i.block,.str i.of_,.int .i64 i.fixed,.int .i64 i.index,.int .i64 0,.int .i64 0,.int .i64 i.motives,.int .i64 i.minors,.list sz tok 0 rows,.int .i64 0,.bool false]
noncomputable def dH (i:Inf):V:=.agg [.int .u8 i.kind,.str i.name,.int .i64 i.params,
 .int .u8 i.ty.k,.int .i64 i.ty.n,.str i.ty.s,.list (ao i.ty.a i.ty.ls) (aw i.ty.b) 0 (i.ty.ls.map enc),.list (ao i.ty.c i.ty.ts) (aw i.ty.d) 0 (ag i.ty.ts),
 .int .u8 i.val.k,.int .i64 i.val.n,.str i.val.s,.list (ao i.val.a i.val.ls) (aw i.val.b) 0 (i.val.ls.map enc),.list (ao i.val.c i.val.ts) (aw i.val.d) 0 (ag i.val.ts),
 .int .i64 0,.str i.block,.str i.of_,.int .i64 i.fixed,.int .i64 i.index,.int .i64 0,.int .i64 0,.int .i64 i.motives,.int .i64 i.minors,gK 7 (i.rules.map bu),.int .i64 0,.bool false]
theorem bsN {T0 T:List Nat} {i:Inf} {tok:Tok} (h:av T0 T (i.rules.map bu) tok):buildSlice Tryz.cfg 31 1 [(0,.agg (eP i (szG 7 (i.rules.map bu)) tok (i.rules.map bu)))]=some (.list 25 .tight 0 [dH i]):=by
 have e1:ai (.list (ao i.ty.a i.ty.ls) (aw i.ty.b) 0 (i.ty.ls.map enc))=.list (ao i.ty.a i.ty.ls) (aw i.ty.b) 0 (i.ty.ls.map enc):=by cases i.ty.b<;>rfl
 have e2:ai (.list (ao i.ty.c i.ty.ts) (aw i.ty.d) 0 (ag i.ty.ts))=.list (ao i.ty.c i.ty.ts) (aw i.ty.d) 0 (ag i.ty.ts):=by cases i.ty.d<;>rfl
 have e3:ai (.list (ao i.val.a i.val.ls) (aw i.val.b) 0 (i.val.ls.map enc))=.list (ao i.val.a i.val.ls) (aw i.val.b) 0 (i.val.ls.map enc):=by cases i.val.b<;>rfl
 have e4:ai (.list (ao i.val.c i.val.ts) (aw i.val.d) 0 (ag i.val.ts))=.list (ao i.val.c i.val.ts) (aw i.val.d) 0 (ag i.val.ts):=by cases i.val.d<;>rfl
 show some (V.list 25 .tight 0 [.agg [.int .u8 i.kind,.str i.name,.int .i64 i.params,.int .u8 i.ty.k,.int .i64 i.ty.n,.str i.ty.s,ai (.list (ao i.ty.a i.ty.ls) (aw i.ty.b) 0 (i.ty.ls.map enc)),ai (.list (ao i.ty.c i.ty.ts) (aw i.ty.d) 0 (ag i.ty.ts)),
  .int .u8 i.val.k,.int .i64 i.val.n,.str i.val.s,ai (.list (ao i.val.a i.val.ls) (aw i.val.b) 0 (i.val.ls.map enc)),ai (.list (ao i.val.c i.val.ts) (aw i.val.d) 0 (ag i.val.ts)),
  .int .i64 0,.str i.block,.str i.of_,.int .i64 i.fixed,.int .i64 i.index,.int .i64 0,.int .i64 0,.int .i64 i.motives,.int .i64 i.minors,ai (.list (szG 7 (i.rules.map bu)) tok 0 (i.rules.map bu)),.int .i64 0,.bool false]])=_
 rw [e1,e2,e3,e4,gz h]
 rfl
section
variable (d:Dl) (sh:List Sh) (fx p:Nat) (u:Lv) (m:Nat)
noncomputable def cF (x:Nat) (i:In):List Ru:=(i.cs.zipIdx 0).map fun q=>gl d sh fx p u m x q.2 q.1 (fsR sh x q.2)
noncomputable def dd (x:Nat) (i:In):Inf:=
 match cg sh with
 | true=>⟨2,i.name++bU,.ofNat (p + 1),dc d sh fx p u m x i,fk d sh fx p u m,(in0 d).name,i.name,d.fixed,(((sh[x]?).map (·.index)).getD 0),.ofNat (aH (d.aj.map encI)),.ofNat m,[]⟩
 | false=>⟨6,i.name++bU,.ofNat (p + 1),dc d sh fx p u m x i,zTm,(in0 d).name,i.name,d.fixed,(((sh[x]?).map (·.index)).getD 0),.ofNat (aH (d.aj.map encI)),.ofNat m,cF d sh fx p u m x i⟩
noncomputable def eE (x:Nat) (i:In):List Tm:=dc d sh fx p u m x i::match cg sh with
 | true=>[fk d sh fx p u m]
 | false=>(cF d sh fx p u m x i).map (·.2.2)
noncomputable def rj (q:In×Nat):Option Inf:=match (eE d sh fx p u m q.2 q.1).all cL with
 | true=>some (dd d sh fx p u m q.2 q.1)
 | false=>none
noncomputable def rV:Option (List Inf):=bO (rj d sh fx p u m) (d.aj.zipIdx 0)
end
noncomputable def aE (d:Dl):Nat:=(d.aj.map fun i=>i.cs.length).sum
noncomputable def fw (d:Dl):List Inf×Int:=
 match (ofR d).2 with
 | 0=>(match rV d (ofR d).1 (fxN d) (pN d) (aP d.params).1 (aE d) with
  | some l=>(l,0)
  | none=>([],4))
 | e=>([],e)
noncomputable def oA:Code→List Code
 | .seq a b=>oA a++oA b
 | .cond _ a b=>oA a++oA b
 | .block _ b=>oA b
 | .loop b=>[b]
 | _=>[]
noncomputable def f8M:Code:=jP Tryz.f8 1
noncomputable def f8R:Code:=((oA f8M)[0]?).getD .skip
noncomputable def f8A:Code:=((oA f8M)[1]?).getD .skip
@[reducible] noncomputable def zH:Option Ru→List (Nat×List V)
  | none=>[]
  | some r=>[(13,gT r)]
inductive Jn where
 | a
 | b (i:Inf) (sz:Nat) (tok:Tok) (rows:List V) (o:Option Ru)
@[reducible] noncomputable def Jn.locs:Jn→List (Nat×List V)
  | .a=>[]
  | .b i sz tok rows o=>(10,eP i sz tok rows)::zH o
@[reducible] noncomputable def RX (n:Nat):Run:=fN Tryz.cfg cQ cY bY (n + 1)
theorem h14 {n:Nat} {x:Tm} {S:St} (hn:wt x + 2≤n):RN n (.f 14) [aB x] S=some (.bool (ld x),S):=by
 obtain⟨m,rfl⟩:=up (show 1≤n by omega)
 exact N9 m x S (by omega)
theorem oB (n:Nat) (d:Dl) (sh:List Sh) (m:Nat) (u:Lv) (so:Nat) (to:Tok) (ro:List V) (j:Nat) (all:List Tm) (ca:Bool) (ta:Tok) (i:Inf) (sz:Nat) (tok:Tok) (rows:List V) (o:Option Ru) (T:List Nat) (K:Ex→Env→St→Prop)
 (hw:∀t∈all,Sm t∧wt t + 10≤n) (hl:all.length < n) (hl2:all.length < 1000000000)
 (hR:∀L,all.all cL=false→K .ret { nt:=167,tmps:=[(2,.list 0 .tight 0 []),(3,.int .i64 4)],locs:=L,fix:=[] } { heap:=[],aA:=T })
 (hK:all.all cL=true→K (.exit 6) { nt:=167,tmps:=[(1,.ptr (.loc 1) 0),(4,.list 7 .no 0 (sh.map bx)),(6,gC d sh m u),(8,.list so to 0 ro),(9,.int .i64 (.ofNat j)),(10,.ptr (.loc 10) 0),(11,.list (ao ca all) ta 0 (ag all)),(14,.int .i64 (.ofNat all.length)),(146,.bool false)],locs:=(1,bK d)::(10,eP i sz tok rows)::zH o,fix:=[] } { heap:=[],aA:=T }) :
 aD (iter (evalCode Tryz.cfg (RX n) (n + 1) 8 (Tryz.cfg.fc 8) f8A) (n + 1) { nt:=167,tmps:=[(1,.ptr (.loc 1) 0),(4,.list 7 .no 0 (sh.map bx)),(6,gC d sh m u),(8,.list so to 0 ro),(9,.int .i64 (.ofNat j)),(10,.ptr (.loc 10) 0),(11,.list (ao ca all) ta 0 (ag all)),(14,.int .i64 0)],locs:=(1,bK d)::(10,eP i sz tok rows)::zH o,fix:=[] } { heap:=[],aA:=T }) K:=by
 rcases o with _ | r
 all_goals
  refine aD.loop 167 (σ:=Unit) all.length (fun k _=>{ nt:=167,tmps:=[(1,.ptr (.loc 1) 0),(4,.list 7 .no 0 (sh.map bx)),(6,gC d sh m u),(8,.list so to 0 ro),(9,.int .i64 (.ofNat j)),(10,.ptr (.loc 10) 0),(11,.list (ao ca all) ta 0 (ag all)),(14,.int .i64 (.ofNat k))],locs:=_,fix:=[] })
   (fun _ _=>{ heap:=[],aA:=T }) (fun k _=>all.all cL=(all.drop k).all cL) () (by omega) rfl ?_ ?_
  ·intro k _ hk hp
   obtain⟨t,ht⟩ : ∃t,all[k]?=some t:=⟨_,aGe hk⟩
   obtain⟨t1,t2⟩:=hw t (aMg ht)
   rw [fz ht] at hp
   refine ah.yes (gI hk) ?_
   refine ab.mk _ (bz ht) ?_
   refine ae.mkB (rr (h14 (by omega))) (fun hq=>?_) (fun hq=>?_)
   ·have hmf:cL t=false:=by
     cases hm:cL t with
     | false=>rfl
     | true=>rw [JA hm] at hq;cases hq
    rw [hmf] at hp
    exact hR _ hp
   ·refine ab.mk _ (bz ht) ?_
    refine ae.mkB (rr (h12 t1 (by omega))) (fun hq=>?_) (fun hq=>?_)
    ·rw [hq] at hp
     refine ab.mk _ (az (by omega)) ?_
     exact⟨(),hp,rfl,rfl⟩
    ·rw [hq] at hp
     exact hR _ hp
  ·intro _ hp
   rw [List.drop_length] at hp
   refine ah.no (gJ (by omega)) ?_
   exact hK hp
theorem PU (r:Ru):buildSlice Tryz.cfg 36 1 [(0,.agg (gT r))]=some (.list 7 .tight 0 [bu r]):=by
 have h:bn ai (gT r)=gT r:=by
  have h2:=qc r
  unfold bu at h2
  have h3:(V.agg (gT r)).strip=.agg (bn ai (gT r)):=rfl
  rw [h3] at h2
  injection h2
 show some (V.list 7 .tight 0 [.agg (bn ai (gT r))])=_
 rw [h];rfl
theorem xS (n:Nat) (d:Dl) (sh:List Sh) (m fx p:Nat) (u:Lv) (so:Nat) (to:Tok) (ro:List V) (x:Nat) (it:In) (s:Sh) (ty:Tm) (i:Inf) (o:Option Ru) (T:List Nat) (K:Ex→Env→St→Prop) {W:Nat}
 (hb:m6 d fx p W) (hs:Dt d sh fx) (h0:d.aj[0]?=some (in0 d)) (hx:d.aj[x]?=some it) (hsx:sh[x]?=some s) (hm:m≤1000) (hn:3 * W + 3400≤n)
 (hK:∀o' T' cR c2 bg,Two T T' ((cF d sh fx p u m x it).map bu) cR (ag (ty::(cF d sh fx p u m x it).map (·.2.2))) bg→K (.exit 4) { nt:=167,tmps:=[(1,.ptr (.loc 1) 0),(4,.list 7 .no 0 (sh.map bx)),(6,gC d sh m u),(8,.list so to 0 ro),(9,.int .i64 (.ofNat x)),(10,.ptr (.loc 10) 0),(11,.list (ao c2 (ty::(cF d sh fx p u m x it).map (·.2.2))) bg 0 (ag (ty::(cF d sh fx p u m x it).map (·.2.2)))),(12,.int .i64 (.ofNat it.cs.length)),(125,.bool false)],locs:=(1,bK d)::(10,eP i (szG 7 ((cF d sh fx p u m x it).map bu)) cR ((cF d sh fx p u m x it).map bu))::zH o',fix:=[] } { heap:=[],aA:=T' }) :
 aD (iter (evalCode Tryz.cfg (RX n) (n + 1) 8 (Tryz.cfg.fc 8) f8R) (n + 1) { nt:=167,tmps:=[(1,.ptr (.loc 1) 0),(4,.list 7 .no 0 (sh.map bx)),(6,gC d sh m u),(8,.list so to 0 ro),(9,.int .i64 (.ofNat x)),(10,.ptr (.loc 10) 0),(11,.list (ao false [ty]) .tight 0 (ag [ty])),(12,.int .i64 0)],locs:=(1,bK d)::(10,eP i 0 .tight [])::zH o,fix:=[] } { heap:=[],aA:=T }) K:=by
 have hcs:=hb.nm.cs it (aMg hx)
 obtain⟨_,s',e1,e2,e3⟩:=hs.at_ x it hx
 rw [hsx] at e1;cases e1
 refine aD.loop 167 (σ:=List Ru×Option Ru×Tok×Bool×Tok×List Nat) it.cs.length (fun j s=>{ nt:=167,tmps:=[(1,.ptr (.loc 1) 0),(4,.list 7 .no 0 (sh.map bx)),(6,gC d sh m u),(8,.list so to 0 ro),(9,.int .i64 (.ofNat x)),(10,.ptr (.loc 10) 0),(11,.list (ao s.2.2.2.1 (ty::s.1.map (·.2.2))) s.2.2.2.2.1 0 (ag (ty::s.1.map (·.2.2)))),(12,.int .i64 (.ofNat j))],locs:=(1,bK d)::(10,eP i (szG 7 (s.1.map bu)) s.2.2.1 (s.1.map bu))::zH s.2.1,fix:=[] })
  (fun _ s=>{ heap:=[],aA:=s.2.2.2.2.2 }) (fun j s=>s.1=(cF d sh fx p u m x it).take j∧Two T s.2.2.2.2.2 (s.1.map bu) s.2.2.1 (ag (ty::s.1.map (·.2.2))) s.2.2.2.2.1) ([],o,.tight,false,.tight,T) (by omega) ⟨rfl,⟨jm.refl T,.inl ⟨rfl,rfl⟩,.inl rfl,fun t h=>by cases h⟩⟩ ?_ ?_
 ·rintro j ⟨l,o1,cR,c2,bg,T1⟩ hj ⟨(hl:l=_),(htw:Two T T1 _ cR _ bg)⟩
  obtain⟨c,hc⟩ : ∃c,it.cs[j]?=some c:=⟨_,aGe hj⟩
  obtain⟨fs,f1,f2,f3,f4⟩:=e3 j c hc
  have hll:l.length≤20:=by rw [hl,List.length_take];unfold cF;rw [aLm,List.length_zipIdx];omega
  have R7:=h26 (n:=n + 1) (m:=m) (u:=u) (S:={ heap:=[],aA:=T1 }) hb hs h0 hx hc hsx f1 hm (by omega)
  have J4:l++[gl d sh fx p u m x j c fs]=(cF d sh fx p u m x it).take (j + 1):=by
   have hz:=Bo hc
   unfold cF at hl ⊢
   rw [← List.map_take] at hl ⊢
   rw [map_take _ _ _ _ hz,hl,td hsx f1]
  obtain⟨T2,t1,a1,a2⟩:=dm (LT:=36) (ET:=56) (ei:=Tryz.ti56) (H:=[]) (T0:=T) (T:=T1) (done:=l.map bu) (new:=[bu (gl d sh fx p u m x j c fs)]) (tok:=cR) (bg:=.tight) (sz2:=7) rfl rfl (by decide) (by decide) (by simp;omega) ⟨htw.e,htw.ha⟩ (.inr rfl)
  have ee1:l.map bu++[bu (gl d sh fx p u m x j c fs)]=(l++[gl d sh fx p u m x j c fs]).map bu:=by simp
  rw [ee1] at a1 a2
  have uf:=htw.GQ a2 (ij (a1 ES .any rfl))
  obtain⟨c3,T3,t2,b1,b2⟩:=oz (LT:=23) (c0:=c2) (c:=false) (bg:=.tight) (H:=[]) (T0:=T) (T:=T2) (done:=ty::l.map (·.2.2)) (new:=[(gl d sh fx p u m x j c fs).2.2]) (tok:=bg) rfl (by simp;omega) (by simp) ⟨uf.e,uf.hb⟩
  have Fg:=uf.J3 b2 (ij (b1 ES .any rfl))
  have ee2:ty::l.map (·.2.2)++[(gl d sh fx p u m x j c fs).2.2]=ty::(l++[gl d sh fx p u m x j c fs]).map (·.2.2):=by simp
  rw [ee2] at b1 b2 Fg
  generalize gl d sh fx p u m x j c fs=ru at *
  obtain⟨r1,r2,r3⟩:=ru
  rcases o1 with _ | ⟨q1,q2,q3⟩
  all_goals
   refine ab.mk _ (aL hx) ?_
   refine ah.yes (ltM hj) ?_
   refine ae.mk _ _ (rr R7) ?_
   refine ab.mk _ (PU (r1,r2,r3)) ?_
   refine cj.mk _ _ (a1 _ _ rfl) ?_
   refine ab.mk _ (bs1 r3 23 _ _ _ rfl) ?_
   refine cj.mk _ _ (b1 _ _ rfl) ?_
   refine ab.mk _ (az (by omega)) ?_
   exact⟨(l++[(r1,r2,r3)],some (r1,r2,r3),t1,c3,t2,T3),⟨J4,Fg⟩,rfl,rfl⟩
 ·rintro⟨l,o1,cR,c2,bg,T1⟩ ⟨(hl:l=_),(htw:Two T T1 _ cR _ bg)⟩
  rw [List.take_of_length_le (by unfold cF;simp)] at hl
  subst hl
  rcases o1 with _ | ⟨q1,q2,q3⟩
  ·refine ab.mk _ (aL hx) ?_
   refine ah.no (geM (by omega)) ?_
   exact hK none T1 cR c2 bg htw
  ·refine ab.mk _ (aL hx) ?_
   refine ah.no (geM (by omega)) ?_
   exact hK (some (q1,q2,q3)) T1 cR c2 bg htw
section
variable {n:Nat} {d:Dl} {sh:List Sh} {m:Nat} {u:Lv} {fx p W:Nat} {S:St}
theorem R8 (d:Dl) (sh:List Sh) (m:Nat) (u:Lv) (j:Int) (b:Bool) (T:List Nat) :
 rP { nt:=167,tmps:=[(1,.ptr (.loc 1) 0),(4,.list 7 .no 0 (sh.map bx)),(6,.ptr (.box 0) 0),(7,.int .i64 j),(40,.bool b)],locs:=[(1,bK d)],fix:=[] } { heap:=[.cells 80 (Fa d sh m u)],aA:=T } =
 some { nt:=167,tmps:=[(1,.ptr (.loc 1) 0),(4,.list 7 .no 0 (sh.map bx)),(6,gC d sh m u),(7,.int .i64 j),(40,.bool b)],locs:=[(1,bK d)],fix:=[] }:=by
 rcases d with⟨k,p,nm,⟨k1,n1,s1,a1,b1,c1,d1,l1,t1⟩,⟨k2,n2,s2,a2,b2,c2,d2,l2,t2⟩,fx,is⟩
 cases b1<;>cases d1<;>cases b2<;>cases d2<;>rfl
theorem h8 {W n:Nat} (hd:qO d W) (hn:W + 12100000≤n) (hT:∀sh,ofR d=(sh,0)→∀q∈d.aj.zipIdx 0,∀t∈eE d sh (fxN d) (pN d) (aP d.params).1 (aE d) q.2 q.1,Sm t∧wt t + 10≤n):RN (n + 1) (.f 8) [eY d] S=some (.tuple [gK 25 ((fw d).1.map dH),.int .i64 (fw d).2],S):=by
 have h:∃v,Er (fN Tryz.cfg cQ cY bY (n + 1)) (n + 1) [eY d]=some v∧v=.tuple [gK 25 ((fw d).1.map dH),.int .i64 (fw d).2]:=by
  refine Dv (id:=8) (m:=6) (fn:=Tryz.f8) ?_
  refine fm.cons (nt:=167) ?_
  refine fm.cons (nt:=167) ?_
  have Mg:=h10 (n:=n + 1) (S:=St.empty) hd (by omega)
  rcases zG hd with⟨e,he,ho⟩ | ⟨s0,r,ho,hg⟩
  ·rw [ho] at Mg
   have J5 : RN (n + 1) (.f 10) [eY d] St.empty=some (.tuple [.list 0 .tight 0 [],.int .i64 e],St.empty):=Mg
   refine ae.mk _ _ (rr J5) ?_
   refine fm.cons (nt:=167) ?_
   refine ah.yes (by rw [bW];simp [he]) ?_
   have hro:fw d=([],e):=by
    unfold fw
    rw [ho]
    split
    ·rename_i h9;exact absurd h9 he
    ·rfl
   rw [hro]
   exact⟨_,rfl,rfl⟩
  ·rw [ho] at Mg
   have J5 : RN (n + 1) (.f 10) [eY d] St.empty=some (.tuple [.list 7 .no 0 ((s0::r).map bx),.int .i64 0],St.empty):=Mg
   refine ae.mk _ _ (rr J5) ?_
   refine fm.cons (nt:=167) ?_
   refine ah.no rfl ?_
   refine fm.cons (nt:=167) ?_
   refine fm.cons (nt:=167) ?_
   refine ae.mk _ _ (rr (h22 (by omega))) ?_
   refine fm.cons (nt:=167) ?_
   have hlen:d.aj.length≤3:=hg.three
   refine aD.loop 167 (σ:=Unit) d.aj.length (fun j _=>{ nt:=167,tmps:=[(1,.ptr (.loc 1) 0),(4,.list 7 .no 0 ((s0::r).map bx)),(6,.ptr (.box 0) 0),(7,.int .i64 (.ofNat j))],locs:=[(1,bK d)],fix:=[] })
    (fun j _=>{ heap:=[.cells 80 (Fa d (s0::r) ((d.aj.take j).map fun i=>i.cs.length).sum (aP d.params).1)],aA:=[] }) (fun _ _=>True) () (by omega) trivial ?_ ?_
   ·intro j _ hj _
    obtain⟨x,hx⟩ : ∃x,d.aj[j]?=some x:=⟨_,aGe hj⟩
    have h1:=mv hd.nm.cs j
    have h2:=hd.nm.cs x (aMg hx)
    refine ah.yes (ltM hj) ?_
    refine ab.mk _ (aL hx) ?_
    refine ab.mk (.int .i64 (.ofNat (((d.aj.take (j + 1)).map fun i=>i.cs.length).sum))) (by rw [aq,aLm,qb hx];exact addNat (by omega)) ?_
    refine ab.mk _ (az (by omega)) ?_
    exact⟨(),trivial,rfl,rfl⟩
   intro _ _
   refine ah.no (geM (by omega)) ?_
   refine fm.nil (nt:=167) ?_
   rw [List.take_length]
   refine⟨_,R8 _ _ _ _ _ _ _,?_⟩
   refine aD.loop 167 (σ:=Jn×List Inf×Tok×List Nat) d.aj.length (fun j s=>{ nt:=167,tmps:=[(1,.ptr (.loc 1) 0),(4,.list 7 .no 0 ((s0::r).map bx)),(6,gC d (s0::r) (aE d) (aP d.params).1),(8,.list (szG 25 (s.2.1.map dH)) s.2.2.1 0 (s.2.1.map dH)),(9,.int .i64 (.ofNat j))],locs:=(1,bK d)::s.1.locs,fix:=[] })
    (fun _ s=>{ heap:=[],aA:=s.2.2.2 }) (fun j s=>bO (rj d (s0::r) (fxN d) (pN d) (aP d.params).1 (aE d)) ((d.aj.zipIdx 0).take j)=some s.2.1∧av [] s.2.2.2 (s.2.1.map dH) s.2.2.1) (.a,[],.tight,[]) (by omega) ⟨rfl,⟨E8 [],.inl ⟨rfl,rfl⟩⟩⟩ ?_ ?_
   ·rintro j ⟨J,out,tok,T1⟩ hj ⟨(gU:_=some out),(hgr:av [] T1 (out.map dH) tok)⟩
    obtain⟨x,hx⟩ : ∃x,d.aj[j]?=some x:=⟨_,aGe hj⟩
    obtain⟨s1,e1,e2,e3⟩:=(hg.so.at_ j x hx).2
    have hpp:=hg.bk.hpp
    have hfx:=hg.bk.hfx
    have hnl:=(hg.bk.nm.nm x (aMg hx)).1
    have hol:=eK gU
    rw [List.length_take,List.length_zipIdx] at hol
    have hz:=qE hx
    have hm1:aE d≤1000:=by
     have:=mv hd.nm.cs d.aj.length
     rw [List.take_length] at this
     unfold aE;omega
    have H5:=h23 (n:=n + 1) (u:=(aP d.params).1) (S:=St.empty) hg.bk hg.so hg.h0 hx hm1 (by omega)
    have hix:indexAddr Tryz.cfg 39 (.list 7 .no 0 ((s0::r).map bx)) (.int .i64 (.ofNat j))=some (.imm 0 (sW s1)):=dB (ei:=Tryz.ti54) rfl rfl e1
    have hT':=hT (s0::r) ho (x,j) (aMg hz)
    have dN:∀T2 cR,av T1 T2 ((dd d (s0::r) (fxN d) (pN d) (aP d.params).1 (aE d) j x).rules.map bu) cR→(eE d (s0::r) (fxN d) (pN d) (aP d.params).1 (aE d) j x).all cL=true→
     buildSlice Tryz.cfg 31 1 [(0,.agg (eP (dd d (s0::r) (fxN d) (pN d) (aP d.params).1 (aE d) j x) (szG 7 ((dd d (s0::r) (fxN d) (pN d) (aP d.params).1 (aE d) j x).rules.map bu)) cR ((dd d (s0::r) (fxN d) (pN d) (aP d.params).1 (aE d) j x).rules.map bu)))]=some (.list 25 .tight 0 [dH (dd d (s0::r) (fxN d) (pN d) (aP d.params).1 (aE d) j x)])∧
     ∃T5 cA,(∀(A:Env) (ac:Acc),ac.heap=true→append Tryz.cfg A { heap:=[],aA:=T2 } ac 31 (.list (szG 25 (out.map dH)) tok 0 (out.map dH)) (.list 25 .tight 0 [dH (dd d (s0::r) (fxN d) (pN d) (aP d.params).1 (aE d) j x)])=some (.list (szG 25 ((out++[dd d (s0::r) (fxN d) (pN d) (aP d.params).1 (aE d) j x]).map dH)) cA 0 ((out++[dd d (s0::r) (fxN d) (pN d) (aP d.params).1 (aE d) j x]).map dH),{ heap:=[],aA:=T5 }))∧
      av [] T5 ((out++[dd d (s0::r) (fxN d) (pN d) (aP d.params).1 (aE d) j x]).map dH) cA∧bO (rj d (s0::r) (fxN d) (pN d) (aP d.params).1 (aE d)) ((d.aj.zipIdx 0).take (j + 1))=some (out++[dd d (s0::r) (fxN d) (pN d) (aP d.params).1 (aE d) j x]):=by
     intro T2 cR hg1 bt
     refine⟨bsN hg1,?_⟩
     obtain⟨T5,cA,a1,a2⟩:=dm (LT:=31) (ET:=38) (ei:=Tryz.ti38) (H:=[]) (T0:=[]) (T:=T2) (done:=out.map dH) (new:=[dH (dd d (s0::r) (fxN d) (pN d) (aP d.params).1 (aE d) j x)]) (tok:=tok) (bg:=.tight) (sz2:=25) rfl rfl (by decide) (by decide) (by simp;omega) (hgr.ext hg1.1) (.inr rfl)
     have ee:out.map dH++[dH (dd d (s0::r) (fxN d) (pN d) (aP d.params).1 (aE d) j x)]=(out++[dd d (s0::r) (fxN d) (pN d) (aP d.params).1 (aE d) j x]).map dH:=by simp
     rw [ee] at a1 a2
     exact⟨T5,cA,a1,a2,fj hz gU (by unfold rj;rw [bt])⟩
    have qd:(eE d (s0::r) (fxN d) (pN d) (aP d.params).1 (aE d) j x).all cL=false→fw d=([],4):=fun bt=>by
     have:rV d (s0::r) (fxN d) (pN d) (aP d.params).1 (aE d)=none:=gA hz (by unfold rj;rw [bt])
     unfold fw
     rw [ho]
     simp only [this]
    cases dt:cg (s0::r) with
    | true=>
     have hin:dd d (s0::r) (fxN d) (pN d) (aP d.params).1 (aE d) j x =⟨2,x.name++bU,.ofNat (pN d + 1),dc d (s0::r) (fxN d) (pN d) (aP d.params).1 (aE d) j x,fk d (s0::r) (fxN d) (pN d) (aP d.params).1 (aE d),(in0 d).name,x.name,d.fixed,s1.index,.ofNat (aH (d.aj.map encI)),.ofNat (aE d),[]⟩:=by
      unfold dd
      rw [dt,e1];rfl
     have hte:eE d (s0::r) (fxN d) (pN d) (aP d.params).1 (aE d) j x=[dc d (s0::r) (fxN d) (pN d) (aP d.params).1 (aE d) j x,fk d (s0::r) (fxN d) (pN d) (aP d.params).1 (aE d)]:=by
      unfold eE
      rw [dt]
     have OC:=h25 (n:=n + 1) (u:=(aP d.params).1) (m:=aE d) (S:={ heap:=[],aA:=T1 }) hg.bk hg.so hg.h0 dt hm1 (by
      obtain⟨s9,f9,fs9,q1,q2,q3⟩:=ow dt
      have:=hg.sm s9 (by rw [q1];simp) (f9::fs9) (by rw [q2];simp)
      rw [q3];omega) (by omega)
     rw [hin] at dN
     rw [hte] at dN hT' qd
     have Fh : RN (n + 1) (.f 24) [.list 7 .no 0 ((s0::r).map bx)] { heap:=[],aA:=T1 }=some (.bool true,{ heap:=[],aA:=T1 }):=dt▸h24 (sh:=s0::r) (fun s hs fs hfs=>by have:=hg.sm s hs fs hfs;omega) (by omega)
     obtain⟨c2,T2,bg,b1,b2⟩:=oz (LT:=23) (c0:=false) (c:=false) (bg:=.tight) (H:=[]) (T0:=T1) (T:=T1) (done:=[dc d (s0::r) (fxN d) (pN d) (aP d.params).1 (aE d) j x]) (new:=[fk d (s0::r) (fxN d) (pN d) (aP d.params).1 (aE d)]) (tok:=.tight) rfl (by simp) (by simp) ⟨jm.refl T1,.inl rfl⟩
     rcases J with _ | ⟨i0,z0,k0,r0,_ | f0⟩
     ·refine ah.yes (ltM hj) ?_
      refine ab.mk _ (aL hx) ?_
      refine ab.mk _ (xJ (b:=bU) (by unfold bU;simp only [aLc,List.length_nil];omega)) ?_
      refine ab.mk (.int .i64 (.ofNat (pN d + 1))) (by rw [hpp];exact az (by have:=hg.bk.p4;omega)) ?_
      refine ae.mk _ _ (rr H5) ?_
      refine ab.mk _ (aL hg.h0) ?_
      refine ab.mk _ (aL hx) ?_
      refine ab.mk _ hix ?_
      refine ab.mk _ (bs1 _ 23 _ _ _ rfl) ?_
      refine ae.mk _ _ (rr Fh) ?_
      refine ae.mk _ _ (rr OC) ?_
      refine ab.mk _ (bs1 _ 23 _ _ _ rfl) ?_
      refine cj.mk _ _ (b1 _ _ rfl) ?_
      refine oB n d (s0::r) (aE d) (aP d.params).1 _ _ _ j _ c2 bg ⟨2,x.name++bU,.ofNat (pN d + 1),dc d (s0::r) (fxN d) (pN d) (aP d.params).1 (aE d) j x,fk d (s0::r) (fxN d) (pN d) (aP d.params).1 (aE d),(in0 d).name,x.name,d.fixed,s1.index,.ofNat (aH (d.aj.map encI)),.ofNat (aE d),[]⟩ 0 .tight [] none T2 _ hT' (by simp;omega) (by simp) (fun L bt=>?_) (fun bt=>?_)
      ·exact⟨_,rfl,by rw [qd bt];rfl⟩
      ·obtain⟨hb1,T5,cA,a1,a2,a3⟩:=dN T2 .tight ⟨b2.1,.inl ⟨rfl,rfl⟩⟩ bt
       refine ab.mk _ hb1 ?_
       refine cj.mk _ _ (a1 _ _ rfl) ?_
       refine ab.mk _ (az (by omega)) ?_
       exact⟨(.b _ _ _ _ none,_,cA,T5),⟨a3,a2⟩,rfl,rfl⟩
     ·refine ah.yes (ltM hj) ?_
      refine ab.mk _ (aL hx) ?_
      refine ab.mk _ (xJ (b:=bU) (by unfold bU;simp only [aLc,List.length_nil];omega)) ?_
      refine ab.mk (.int .i64 (.ofNat (pN d + 1))) (by rw [hpp];exact az (by have:=hg.bk.p4;omega)) ?_
      refine ae.mk _ _ (rr H5) ?_
      refine ab.mk _ (aL hg.h0) ?_
      refine ab.mk _ (aL hx) ?_
      refine ab.mk _ hix ?_
      refine ab.mk _ (bs1 _ 23 _ _ _ rfl) ?_
      refine ae.mk _ _ (rr Fh) ?_
      refine ae.mk _ _ (rr OC) ?_
      refine ab.mk _ (bs1 _ 23 _ _ _ rfl) ?_
      refine cj.mk _ _ (b1 _ _ rfl) ?_
      refine oB n d (s0::r) (aE d) (aP d.params).1 _ _ _ j _ c2 bg ⟨2,x.name++bU,.ofNat (pN d + 1),dc d (s0::r) (fxN d) (pN d) (aP d.params).1 (aE d) j x,fk d (s0::r) (fxN d) (pN d) (aP d.params).1 (aE d),(in0 d).name,x.name,d.fixed,s1.index,.ofNat (aH (d.aj.map encI)),.ofNat (aE d),[]⟩ 0 .tight [] none T2 _ hT' (by simp;omega) (by simp) (fun L bt=>?_) (fun bt=>?_)
      ·exact⟨_,rfl,by rw [qd bt];rfl⟩
      ·obtain⟨hb1,T5,cA,a1,a2,a3⟩:=dN T2 .tight ⟨b2.1,.inl ⟨rfl,rfl⟩⟩ bt
       refine ab.mk _ hb1 ?_
       refine cj.mk _ _ (a1 _ _ rfl) ?_
       refine ab.mk _ (az (by omega)) ?_
       exact⟨(.b _ _ _ _ none,_,cA,T5),⟨a3,a2⟩,rfl,rfl⟩
     ·refine ah.yes (ltM hj) ?_
      refine ab.mk _ (aL hx) ?_
      refine ab.mk _ (xJ (b:=bU) (by unfold bU;simp only [aLc,List.length_nil];omega)) ?_
      refine ab.mk (.int .i64 (.ofNat (pN d + 1))) (by rw [hpp];exact az (by have:=hg.bk.p4;omega)) ?_
      refine ae.mk _ _ (rr H5) ?_
      refine ab.mk _ (aL hg.h0) ?_
      refine ab.mk _ (aL hx) ?_
      refine ab.mk _ hix ?_
      refine ab.mk _ (bs1 _ 23 _ _ _ rfl) ?_
      refine ae.mk _ _ (rr Fh) ?_
      refine ae.mk _ _ (rr OC) ?_
      refine ab.mk _ (bs1 _ 23 _ _ _ rfl) ?_
      refine cj.mk _ _ (b1 _ _ rfl) ?_
      refine oB n d (s0::r) (aE d) (aP d.params).1 _ _ _ j _ c2 bg ⟨2,x.name++bU,.ofNat (pN d + 1),dc d (s0::r) (fxN d) (pN d) (aP d.params).1 (aE d) j x,fk d (s0::r) (fxN d) (pN d) (aP d.params).1 (aE d),(in0 d).name,x.name,d.fixed,s1.index,.ofNat (aH (d.aj.map encI)),.ofNat (aE d),[]⟩ 0 .tight [] (some f0) T2 _ hT' (by simp;omega) (by simp) (fun L bt=>?_) (fun bt=>?_)
      ·exact⟨_,rfl,by rw [qd bt];rfl⟩
      ·obtain⟨hb1,T5,cA,a1,a2,a3⟩:=dN T2 .tight ⟨b2.1,.inl ⟨rfl,rfl⟩⟩ bt
       refine ab.mk _ hb1 ?_
       refine cj.mk _ _ (a1 _ _ rfl) ?_
       refine ab.mk _ (az (by omega)) ?_
       exact⟨(.b _ _ _ _ (some f0),_,cA,T5),⟨a3,a2⟩,rfl,rfl⟩
    | false=>
     have hin:dd d (s0::r) (fxN d) (pN d) (aP d.params).1 (aE d) j x =⟨6,x.name++bU,.ofNat (pN d + 1),dc d (s0::r) (fxN d) (pN d) (aP d.params).1 (aE d) j x,zTm,(in0 d).name,x.name,d.fixed,s1.index,.ofNat (aH (d.aj.map encI)),.ofNat (aE d),cF d (s0::r) (fxN d) (pN d) (aP d.params).1 (aE d) j x⟩:=by
      unfold dd
      rw [dt,e1];rfl
     have hte:eE d (s0::r) (fxN d) (pN d) (aP d.params).1 (aE d) j x=dc d (s0::r) (fxN d) (pN d) (aP d.params).1 (aE d) j x::(cF d (s0::r) (fxN d) (pN d) (aP d.params).1 (aE d) j x).map (·.2.2):=by
      unfold eE
      rw [dt]
     have hrl:(cF d (s0::r) (fxN d) (pN d) (aP d.params).1 (aE d) j x).length≤20:=by
      have:=hg.bk.nm.cs x (aMg hx)
      unfold cF;rw [aLm,List.length_zipIdx];exact this
     rw [hin] at dN
     rw [hte] at dN hT' qd
     have Fh : RN (n + 1) (.f 24) [.list 7 .no 0 ((s0::r).map bx)] { heap:=[],aA:=T1 }=some (.bool false,{ heap:=[],aA:=T1 }):=dt▸h24 (sh:=s0::r) (fun s hs fs hfs=>by have:=hg.sm s hs fs hfs;omega) (by omega)
     rcases J with _ | ⟨i0,z0,k0,r0,_ | f0⟩
     ·refine ah.yes (ltM hj) ?_
      refine ab.mk _ (aL hx) ?_
      refine ab.mk _ (xJ (b:=bU) (by unfold bU;simp only [aLc,List.length_nil];omega)) ?_
      refine ab.mk (.int .i64 (.ofNat (pN d + 1))) (by rw [hpp];exact az (by have:=hg.bk.p4;omega)) ?_
      refine ae.mk _ _ (rr H5) ?_
      refine ab.mk _ (aL hg.h0) ?_
      refine ab.mk _ (aL hx) ?_
      refine ab.mk _ hix ?_
      refine ab.mk _ (bs1 _ 23 _ _ _ rfl) ?_
      refine ae.mk _ _ (rr Fh) ?_
      refine xS n d (s0::r) (aE d) (fxN d) (pN d) (aP d.params).1 _ _ _ j x s1 (dc d (s0::r) (fxN d) (pN d) (aP d.params).1 (aE d) j x) ⟨6,x.name++bU,.ofNat (pN d + 1),dc d (s0::r) (fxN d) (pN d) (aP d.params).1 (aE d) j x,zTm,(in0 d).name,x.name,d.fixed,s1.index,.ofNat (aH (d.aj.map encI)),.ofNat (aE d),cF d (s0::r) (fxN d) (pN d) (aP d.params).1 (aE d) j x⟩ none T1 _ hg.bk hg.so hg.h0 hx e1 hm1 (by omega) (fun o' T2 cR c2 bg htw=>?_)
      rcases o' with _ | f1
      ·refine oB n d (s0::r) (aE d) (aP d.params).1 _ _ _ j _ c2 bg ⟨6,x.name++bU,.ofNat (pN d + 1),dc d (s0::r) (fxN d) (pN d) (aP d.params).1 (aE d) j x,zTm,(in0 d).name,x.name,d.fixed,s1.index,.ofNat (aH (d.aj.map encI)),.ofNat (aE d),cF d (s0::r) (fxN d) (pN d) (aP d.params).1 (aE d) j x⟩ _ cR _ none T2 _ hT' (by simp only [aLc,aLm];omega) (by simp only [aLc,aLm];omega) (fun L bt=>?_) (fun bt=>?_)
       ·exact⟨_,rfl,by rw [qd bt];rfl⟩
       ·obtain⟨hb1,T5,cA,a1,a2,a3⟩:=dN T2 cR ⟨htw.e,htw.ha⟩ bt
        refine ab.mk _ hb1 ?_
        refine cj.mk _ _ (a1 _ _ rfl) ?_
        refine ab.mk _ (az (by omega)) ?_
        exact⟨(.b _ _ _ _ none,_,cA,T5),⟨a3,a2⟩,rfl,rfl⟩
      ·refine oB n d (s0::r) (aE d) (aP d.params).1 _ _ _ j _ c2 bg ⟨6,x.name++bU,.ofNat (pN d + 1),dc d (s0::r) (fxN d) (pN d) (aP d.params).1 (aE d) j x,zTm,(in0 d).name,x.name,d.fixed,s1.index,.ofNat (aH (d.aj.map encI)),.ofNat (aE d),cF d (s0::r) (fxN d) (pN d) (aP d.params).1 (aE d) j x⟩ _ cR _ (some f1) T2 _ hT' (by simp only [aLc,aLm];omega) (by simp only [aLc,aLm];omega) (fun L bt=>?_) (fun bt=>?_)
       ·exact⟨_,rfl,by rw [qd bt];rfl⟩
       ·obtain⟨hb1,T5,cA,a1,a2,a3⟩:=dN T2 cR ⟨htw.e,htw.ha⟩ bt
        refine ab.mk _ hb1 ?_
        refine cj.mk _ _ (a1 _ _ rfl) ?_
        refine ab.mk _ (az (by omega)) ?_
        exact⟨(.b _ _ _ _ (some f1),_,cA,T5),⟨a3,a2⟩,rfl,rfl⟩
     ·refine ah.yes (ltM hj) ?_
      refine ab.mk _ (aL hx) ?_
      refine ab.mk _ (xJ (b:=bU) (by unfold bU;simp only [aLc,List.length_nil];omega)) ?_
      refine ab.mk (.int .i64 (.ofNat (pN d + 1))) (by rw [hpp];exact az (by have:=hg.bk.p4;omega)) ?_
      refine ae.mk _ _ (rr H5) ?_
      refine ab.mk _ (aL hg.h0) ?_
      refine ab.mk _ (aL hx) ?_
      refine ab.mk _ hix ?_
      refine ab.mk _ (bs1 _ 23 _ _ _ rfl) ?_
      refine ae.mk _ _ (rr Fh) ?_
      refine xS n d (s0::r) (aE d) (fxN d) (pN d) (aP d.params).1 _ _ _ j x s1 (dc d (s0::r) (fxN d) (pN d) (aP d.params).1 (aE d) j x) ⟨6,x.name++bU,.ofNat (pN d + 1),dc d (s0::r) (fxN d) (pN d) (aP d.params).1 (aE d) j x,zTm,(in0 d).name,x.name,d.fixed,s1.index,.ofNat (aH (d.aj.map encI)),.ofNat (aE d),cF d (s0::r) (fxN d) (pN d) (aP d.params).1 (aE d) j x⟩ none T1 _ hg.bk hg.so hg.h0 hx e1 hm1 (by omega) (fun o' T2 cR c2 bg htw=>?_)
      rcases o' with _ | f1
      ·refine oB n d (s0::r) (aE d) (aP d.params).1 _ _ _ j _ c2 bg ⟨6,x.name++bU,.ofNat (pN d + 1),dc d (s0::r) (fxN d) (pN d) (aP d.params).1 (aE d) j x,zTm,(in0 d).name,x.name,d.fixed,s1.index,.ofNat (aH (d.aj.map encI)),.ofNat (aE d),cF d (s0::r) (fxN d) (pN d) (aP d.params).1 (aE d) j x⟩ _ cR _ none T2 _ hT' (by simp only [aLc,aLm];omega) (by simp only [aLc,aLm];omega) (fun L bt=>?_) (fun bt=>?_)
       ·exact⟨_,rfl,by rw [qd bt];rfl⟩
       ·obtain⟨hb1,T5,cA,a1,a2,a3⟩:=dN T2 cR ⟨htw.e,htw.ha⟩ bt
        refine ab.mk _ hb1 ?_
        refine cj.mk _ _ (a1 _ _ rfl) ?_
        refine ab.mk _ (az (by omega)) ?_
        exact⟨(.b _ _ _ _ none,_,cA,T5),⟨a3,a2⟩,rfl,rfl⟩
      ·refine oB n d (s0::r) (aE d) (aP d.params).1 _ _ _ j _ c2 bg ⟨6,x.name++bU,.ofNat (pN d + 1),dc d (s0::r) (fxN d) (pN d) (aP d.params).1 (aE d) j x,zTm,(in0 d).name,x.name,d.fixed,s1.index,.ofNat (aH (d.aj.map encI)),.ofNat (aE d),cF d (s0::r) (fxN d) (pN d) (aP d.params).1 (aE d) j x⟩ _ cR _ (some f1) T2 _ hT' (by simp only [aLc,aLm];omega) (by simp only [aLc,aLm];omega) (fun L bt=>?_) (fun bt=>?_)
       ·exact⟨_,rfl,by rw [qd bt];rfl⟩
       ·obtain⟨hb1,T5,cA,a1,a2,a3⟩:=dN T2 cR ⟨htw.e,htw.ha⟩ bt
        refine ab.mk _ hb1 ?_
        refine cj.mk _ _ (a1 _ _ rfl) ?_
        refine ab.mk _ (az (by omega)) ?_
        exact⟨(.b _ _ _ _ (some f1),_,cA,T5),⟨a3,a2⟩,rfl,rfl⟩
     ·refine ah.yes (ltM hj) ?_
      refine ab.mk _ (aL hx) ?_
      refine ab.mk _ (xJ (b:=bU) (by unfold bU;simp only [aLc,List.length_nil];omega)) ?_
      refine ab.mk (.int .i64 (.ofNat (pN d + 1))) (by rw [hpp];exact az (by have:=hg.bk.p4;omega)) ?_
      refine ae.mk _ _ (rr H5) ?_
      refine ab.mk _ (aL hg.h0) ?_
      refine ab.mk _ (aL hx) ?_
      refine ab.mk _ hix ?_
      refine ab.mk _ (bs1 _ 23 _ _ _ rfl) ?_
      refine ae.mk _ _ (rr Fh) ?_
      refine xS n d (s0::r) (aE d) (fxN d) (pN d) (aP d.params).1 _ _ _ j x s1 (dc d (s0::r) (fxN d) (pN d) (aP d.params).1 (aE d) j x) ⟨6,x.name++bU,.ofNat (pN d + 1),dc d (s0::r) (fxN d) (pN d) (aP d.params).1 (aE d) j x,zTm,(in0 d).name,x.name,d.fixed,s1.index,.ofNat (aH (d.aj.map encI)),.ofNat (aE d),cF d (s0::r) (fxN d) (pN d) (aP d.params).1 (aE d) j x⟩ (some f0) T1 _ hg.bk hg.so hg.h0 hx e1 hm1 (by omega) (fun o' T2 cR c2 bg htw=>?_)
      rcases o' with _ | f1
      ·refine oB n d (s0::r) (aE d) (aP d.params).1 _ _ _ j _ c2 bg ⟨6,x.name++bU,.ofNat (pN d + 1),dc d (s0::r) (fxN d) (pN d) (aP d.params).1 (aE d) j x,zTm,(in0 d).name,x.name,d.fixed,s1.index,.ofNat (aH (d.aj.map encI)),.ofNat (aE d),cF d (s0::r) (fxN d) (pN d) (aP d.params).1 (aE d) j x⟩ _ cR _ none T2 _ hT' (by simp only [aLc,aLm];omega) (by simp only [aLc,aLm];omega) (fun L bt=>?_) (fun bt=>?_)
       ·exact⟨_,rfl,by rw [qd bt];rfl⟩
       ·obtain⟨hb1,T5,cA,a1,a2,a3⟩:=dN T2 cR ⟨htw.e,htw.ha⟩ bt
        refine ab.mk _ hb1 ?_
        refine cj.mk _ _ (a1 _ _ rfl) ?_
        refine ab.mk _ (az (by omega)) ?_
        exact⟨(.b _ _ _ _ none,_,cA,T5),⟨a3,a2⟩,rfl,rfl⟩
      ·refine oB n d (s0::r) (aE d) (aP d.params).1 _ _ _ j _ c2 bg ⟨6,x.name++bU,.ofNat (pN d + 1),dc d (s0::r) (fxN d) (pN d) (aP d.params).1 (aE d) j x,zTm,(in0 d).name,x.name,d.fixed,s1.index,.ofNat (aH (d.aj.map encI)),.ofNat (aE d),cF d (s0::r) (fxN d) (pN d) (aP d.params).1 (aE d) j x⟩ _ cR _ (some f1) T2 _ hT' (by simp only [aLc,aLm];omega) (by simp only [aLc,aLm];omega) (fun L bt=>?_) (fun bt=>?_)
       ·exact⟨_,rfl,by rw [qd bt];rfl⟩
       ·obtain⟨hb1,T5,cA,a1,a2,a3⟩:=dN T2 cR ⟨htw.e,htw.ha⟩ bt
        refine ab.mk _ hb1 ?_
        refine cj.mk _ _ (a1 _ _ rfl) ?_
        refine ab.mk _ (az (by omega)) ?_
        exact⟨(.b _ _ _ _ (some f1),_,cA,T5),⟨a3,a2⟩,rfl,rfl⟩
   ·rintro⟨J,out,tok,T1⟩ ⟨(gU:_=some out),(hgr:av [] T1 (out.map dH) tok)⟩
    rw [List.take_of_length_le (by simp)] at gU
    have hro:fw d=(out,0):=by
     have:rV d (s0::r) (fxN d) (pN d) (aP d.params).1 (aE d)=some out:=gU
     unfold fw
     rw [ho]
     simp only [this]
    rw [hro]
    have vk:V.tuple [ai (.list (szG 25 (out.map dH)) tok 0 (out.map dH)),.int .i64 0]=.tuple [gK 25 (out.map dH),.int .i64 0]:=by rw [gz hgr]
    rcases J with _ | ⟨i0,z0,k0,r0,_ | f0⟩
    ·refine ah.no (geM (by omega)) ?_
     exact⟨_,rfl,vk⟩
    ·refine ah.no (geM (by omega)) ?_
     exact⟨_,rfl,vk⟩
    ·refine ah.no (geM (by omega)) ?_
     exact⟨_,rfl,vk⟩
 obtain⟨v,h1,rfl⟩:=h
 exact ue rfl rfl rfl rfl (by simp only [ej,an]) h1
end
end Go.Ev
namespace Go.Ev
open Go.Proofs Go.RowKit
set_option maxRecDepth 100000
set_option linter.unusedVariables false
set_option linter.unusedSimpArgs false
theorem xT {fs:List (Int×Int)} {i:Nat} {f:Int×Int} (h:fs[i]?=some f):indexAddr Tryz.cfg 113 (.list 2 .no 0 (fs.map dw)) (.int .i64 (.ofNat i))=some (.imm 0 [.int .i64 f.1,.int .i64 f.2]):=dB (f:=fun f:Int×Int=>[V.int .i64 f.1,.int .i64 f.2]) (ei:=Tryz.ti154) rfl rfl h
theorem xU {ls:List Lv} {c:Bool} {tok:Tok} {i:Nat} {l:Lv} (h:ls[i]?=some l):indexAddr Tryz.cfg 22 (.list (ao c ls) tok 0 (ls.map enc)) (.int .i64 (.ofNat i))=some (.imm 0 (dX l)):=by
 have hs:ao c ls=5:=by
  rcases jH c ls with rfl | h2
  ·simp at h
  ·exact h2
 rw [hs]
 exact dB (f:=dX) (ei:=Tryz.ti51) rfl rfl h
def mw (i:Int):V:=.agg [.int .i64 i]
theorem Mh {is:List Int} {tok:Tok} {j:Nat} {i:Int} (h:is[j]?=some i):indexAddr Tryz.cfg 63 (.list 1 tok 0 (is.map mw)) (.int .i64 (.ofNat j))=some (.imm 0 [.int .i64 i]):=dB (f:=fun i:Int=>[V.int .i64 i]) (ei:=Tryz.ti3) rfl rfl h
theorem fo {α:Type} (p:α→Bool):∀(xs:List α) (j:Nat),(!iLt (qL (dJ p xs j)) 0)=xs.any p
 | [],j=>rfl
 | a::l,j=>by
  unfold dJ
  rw [List.any_cons]
  cases p a with
  | true=>rfl
  | false=>exact fo p l (j + 1)
theorem xV {id n t:Nat} {cs:List V} {rest:List V} {S S' : St} {v v' r:V} (h:frame Tryz.cfg (RN n) n id (.imm t cs::rest) St.empty=some (v,S')) (hm:bn V.strip (.imm t cs::rest)=.imm t cs::rest) (hp:(Tryz.cfg.fc id).pure=true) (ha:allB V.pure (.imm t cs::rest)=true)
 (hf:frz { nt:=0,tmps:=[],locs:=[],fix:=[] } S' .any v=some v') (hz:isZero v'.lvl=true) (hs:v'.cb=r) (hc:cQ id=none:=by rfl) (hn:cY id=false:=by rfl):RN (n + 1) (.f id) (.imm t cs::rest) S=some (r,S):=by
 have dN:step Tryz.cfg (RN n) n (.f id) (.imm t cs::rest) S=some (r,S):=by
  rw [← hs]
  exact zh (by rw [hm];exact h) hp ha hf hz
 have hw:cu cY (bV cQ (n + 1) (fN Tryz.cfg cQ cY bY (n + 1))) (.f id) (.imm t cs::rest) S=some (r,S):=by
  unfold cu bV
  simp only [hn,hc]
  exact dN
 show (match bY id with
  | true=>cu cY (bV cQ (n + 1) (fN Tryz.cfg cQ cY bY (n + 1))) (.f id) (.imm t cs::rest) S
  | false=>cu cY (bV cQ (n + 1) (fN Tryz.cfg cQ cY bY (n + 1))) (.f id) (.imm t cs::rest) S)=_
 cases bY id<;>exact hw
def FnB (n f:Nat) (args:List V) (b:Bool) (S:St):Prop:=
 (((Tryz.cfg.fc f).pure && !allB V.pure args)=false∧(aM args).isSome=true∧RN n (.f f) args S=some (.bool b,S))∨
 (((Tryz.cfg.fc f).pure && !allB V.pure args)=true∧∃l S',(∀A,bO (jS A S .any) args=some l)∧allB V.pure l=true∧RN n (.f f) l S=some (.bool b,S'))∨
 (((Tryz.cfg.fc f).pure && !allB V.pure args)=true∧(∀A,bO (jS A S .any) args=some args)∧allB V.pure args=false∧(aM args).isSome=true∧RN n (.f f) args S=some (.bool b,S))
theorem dP {R:Run} {A:Env} {S S' : St} {f:Nat} {args:List V} {K:V→Env→St→Prop} {v:V} (hv:(aM args).isSome=true) (h:R (.f f) args S=some (v,S')) (k:K v A S'):qp R A S f args K:=by
 unfold qp
 cases hq:aM args with
 | none=>rw [hq] at hv;cases hv
 | some n=>exact⟨v,S',h,k⟩
section
variable {n f top:Nat} {first cap:List V} {S:St}
theorem PV (p:Tm→Bool) (xs:List Tm) (c:Bool) (tok:Tok) (hl:xs.length < 1000000000) (hn:xs.length < n) (h:∀x∈xs,FnB n f (cz first (cz [aB x] cap)) (p x) S) :
 frame Tryz.cfg (RN n) n 134 [.list (ao c xs) tok 0 (ag xs),.fn f top first cap] S=some (.int .i64 (qL (dJ p xs 0)),S):=by
 refine aO Tryz.cfg _ (fn:=Tryz.f134) rfl rfl ?_
 refine aD.loop 19 (σ:=Unit) xs.length (fun j _=>{ nt:=19,tmps:=[(0,.list (ao c xs) tok 0 (ag xs)),(1,.fn f top first cap),(7,.int .i64 (.ofNat (aH ((ag xs))))),(8,.int .i64 (.ofNat j))],locs:=[],fix:=[] }) (fun _ _=>S)
  (fun j _=>dJ p xs 0=dJ p (xs.drop j) j) () (by omega) rfl ?_ ?_
 ·intro j _ hj hp
  obtain⟨x,hx⟩ : ∃x,xs[j]?=some x:=⟨_,aGe hj⟩
  rw [oh hx] at hp
  refine ah.yes (gI hj) ?_
  refine ab.mk _ (bz hx) ?_
  have jZ:p x=true→dJ p xs 0=some j:=fun he=>by rw [he] at hp;exact hp
  have hno:p x=false→dJ p xs 0=dJ p (xs.drop (j + 1)) (j + 1):=fun he=>by rw [he] at hp;exact hp
  rcases h x (aMg hx) with⟨h1,h2,h3⟩ | ⟨h1,l,S',h2,h3,h4⟩ | ⟨h1,h2,h3,h4,h5⟩
  ·conv=>whnf
   split
   ·rename_i hq;exact absurd (h1.symm.trans hq) (by decide)
   ·refine dP h2 h3 ?_
    cases he:p x with
    | true=>rw [jZ he];rfl
    | false=>
     refine ab.mk _ (az (by omega)) ?_
     exact⟨(),hno he,rfl,rfl⟩
  ·conv=>whnf
   split
   ·split
    ·rename_i l' hl
     cases (h2 _).symm.trans hl
     split
     ·refine⟨_,_,h4,rfl,?_⟩
      cases he:p x with
      | true=>rw [jZ he];rfl
      | false=>
       refine ab.mk _ (az (by omega)) ?_
       exact⟨(),hno he,rfl,rfl⟩
     ·rename_i hq;exact absurd (h3.symm.trans hq) (by decide)
    ·rename_i hl;cases (h2 _).symm.trans hl
   ·rename_i hq;exact absurd (h1.symm.trans hq) (by decide)
  ·conv=>whnf
   split
   ·split
    ·rename_i l' hl
     cases (h2 _).symm.trans hl
     split
     ·rename_i hq;exact absurd (h3.symm.trans hq) (by decide)
     ·refine dP h4 h5 ?_
      cases he:p x with
      | true=>rw [jZ he];rfl
      | false=>
       refine ab.mk _ (az (by omega)) ?_
       exact⟨(),hno he,rfl,rfl⟩
    ·rename_i hl;cases (h2 _).symm.trans hl
   ·rename_i hq;exact absurd (h1.symm.trans hq) (by decide)
 ·intro _ hp
  rw [mi] at hp
  refine ah.no (gJ (by omega)) ?_
  rw [hp];rfl
theorem p65 (p:Tm→Bool) (xs:List Tm) (c:Bool) (tb:Bool) (hl:xs.length < 1000000000) (hn:xs.length < n) (hs:V.strip (.fn f 0 first cap)=.fn f 0 first cap) (h:∀x∈xs,FnB n f (cz first (cz [aB x] cap)) (p x) St.empty) :
 RN (n + 2) (.f 65) [.list (ao c xs) (aw tb) 0 (ag xs),.fn f 0 first cap] S=some (.bool (xs.any p),S):=by
 have hm:bn V.strip [.list (ao c xs) (aw tb) 0 (ag xs),.fn f 0 first cap]=[.list (ao c xs) (aw tb) 0 (ag xs),.fn f 0 first cap]:=by
  show [V.strip (.list (ao c xs) (aw tb) 0 (ag xs)),V.strip (.fn f 0 first cap)]=_
  rw [hs]
  cases tb<;>rfl
 have h1:RN (n + 1) (.f 134) [.list (ao c xs) (aw tb) 0 (ag xs),.fn f 0 first cap] St.empty=some (.int .i64 (qL (dJ p xs 0)),St.empty):=bC (PV p xs c (aw tb) hl hn h) hm rfl rfl rfl rfl rfl
 have h2:frame Tryz.cfg (RN (n + 1)) (n + 1) 65 [.list (ao c xs) (aw tb) 0 (ag xs),.fn f 0 first cap] St.empty=some (.bool (xs.any p),St.empty):=by
  refine aO Tryz.cfg _ (fn:=Tryz.f65) rfl rfl ?_
  refine ae.mk _ _ h1 ?_
  refine ah.mk (fun he=>?_) (fun he=>?_)
  ·rw [(fo p xs 0).symm.trans he];rfl
  ·rw [(fo p xs 0).symm.trans he];rfl
 exact bC h2 hm rfl rfl rfl rfl rfl
theorem q65 (p:Tm→Bool) (xs:List Tm) (c:Bool) (tok:Tok) (hl:xs.length < 1000000000) (hn:xs.length < n) (h:∀x∈xs,FnB n f (cz first (cz [aB x] cap)) (p x) S) :
 RN (n + 2) (.f 65) [.list (ao c xs) tok 0 (ag xs),.fn f (top + 1) first cap] S=some (.bool (xs.any p),S):=by
 have h1:RN (n + 1) (.f 134) [.list (ao c xs) tok 0 (ag xs),.fn f (top + 1) first cap] S=some (.int .i64 (qL (dJ p xs 0)),S):=bw rfl (PV p xs c tok hl hn h)
 refine bw rfl ?_
 refine aO Tryz.cfg _ (fn:=Tryz.f65) rfl rfl ?_
 refine ae.mk _ _ h1 ?_
 refine ah.mk (fun he=>?_) (fun he=>?_)
 ·rw [(fo p xs 0).symm.trans he];rfl
 ·rw [(fo p xs 0).symm.trans he];rfl
theorem OD (p:In→Bool) (xs:List In) (hl:xs.length < 1000000000) (hn:xs.length < n) (h:∀x∈xs,FnB n f (cz first (cz [encI x] cap)) (p x) S) :
 frame Tryz.cfg (RN n) n 143 [.list 7 .no 0 (xs.map encI),.fn f top first cap] S=some (.int .i64 (qL (dJ p xs 0)),S):=by
 refine aO Tryz.cfg _ (fn:=Tryz.f143) rfl rfl ?_
 refine aD.loop 19 (σ:=Unit) xs.length (fun j _=>{ nt:=19,tmps:=[(0,.list 7 .no 0 (xs.map encI)),(1,.fn f top first cap),(7,.int .i64 (.ofNat (aH ((xs.map encI))))),(8,.int .i64 (.ofNat j))],locs:=[],fix:=[] }) (fun _ _=>S)
  (fun j _=>dJ p xs 0=dJ p (xs.drop j) j) () (by omega) rfl ?_ ?_
 ·intro j _ hj hp
  obtain⟨x,hx⟩ : ∃x,xs[j]?=some x:=⟨_,aGe hj⟩
  rw [oh hx] at hp
  refine ah.yes (ltM hj) ?_
  refine ab.mk _ (aL hx) ?_
  have jZ:p x=true→dJ p xs 0=some j:=fun he=>by rw [he] at hp;exact hp
  have hno:p x=false→dJ p xs 0=dJ p (xs.drop (j + 1)) (j + 1):=fun he=>by rw [he] at hp;exact hp
  rcases h x (aMg hx) with⟨h1,h2,h3⟩ | ⟨h1,l,S',h2,h3,h4⟩ | ⟨h1,h2,h3,h4,h5⟩
  ·conv=>whnf
   split
   ·rename_i hq;exact absurd (h1.symm.trans hq) (by decide)
   ·refine dP h2 h3 ?_
    cases he:p x with
    | true=>rw [jZ he];rfl
    | false=>
     refine ab.mk _ (az (by omega)) ?_
     exact⟨(),hno he,rfl,rfl⟩
  ·conv=>whnf
   split
   ·split
    ·rename_i l' hl
     cases (h2 _).symm.trans hl
     split
     ·refine⟨_,_,h4,rfl,?_⟩
      cases he:p x with
      | true=>rw [jZ he];rfl
      | false=>
       refine ab.mk _ (az (by omega)) ?_
       exact⟨(),hno he,rfl,rfl⟩
     ·rename_i hq;exact absurd (h3.symm.trans hq) (by decide)
    ·rename_i hl;cases (h2 _).symm.trans hl
   ·rename_i hq;exact absurd (h1.symm.trans hq) (by decide)
  ·conv=>whnf
   split
   ·split
    ·rename_i l' hl
     cases (h2 _).symm.trans hl
     split
     ·rename_i hq;exact absurd (h3.symm.trans hq) (by decide)
     ·refine dP h4 h5 ?_
      cases he:p x with
      | true=>rw [jZ he];rfl
      | false=>
       refine ab.mk _ (az (by omega)) ?_
       exact⟨(),hno he,rfl,rfl⟩
    ·rename_i hl;cases (h2 _).symm.trans hl
   ·rename_i hq;exact absurd (h1.symm.trans hq) (by decide)
 ·intro _ hp
  rw [mi] at hp
  refine ah.no (geM (by omega)) ?_
  rw [hp];rfl
theorem p96 (p:In→Bool) (xs:List In) (hl:xs.length < 1000000000) (hn:xs.length < n) (hs:V.strip (.fn f 0 first cap)=.fn f 0 first cap) (h:∀x∈xs,FnB n f (cz first (cz [encI x] cap)) (p x) St.empty) :
 RN (n + 2) (.f 96) [.list 7 .no 0 (xs.map encI),.fn f 0 first cap] S=some (.bool (xs.any p),S):=by
 have hm:bn V.strip [.list 7 .no 0 (xs.map encI),.fn f 0 first cap]=[.list 7 .no 0 (xs.map encI),.fn f 0 first cap]:=by
  show [V.strip (.list 7 .no 0 (xs.map encI)),V.strip (.fn f 0 first cap)]=_
  rw [hs]
  rfl
 have h1:RN (n + 1) (.f 143) [.list 7 .no 0 (xs.map encI),.fn f 0 first cap] St.empty=some (.int .i64 (qL (dJ p xs 0)),St.empty):=bC (OD p xs hl hn h) hm rfl rfl rfl rfl rfl
 have h2:frame Tryz.cfg (RN (n + 1)) (n + 1) 96 [.list 7 .no 0 (xs.map encI),.fn f 0 first cap] St.empty=some (.bool (xs.any p),St.empty):=by
  refine aO Tryz.cfg _ (fn:=Tryz.f96) rfl rfl ?_
  refine ae.mk _ _ h1 ?_
  refine ah.mk (fun he=>?_) (fun he=>?_)
  ·rw [(fo p xs 0).symm.trans he];rfl
  ·rw [(fo p xs 0).symm.trans he];rfl
 exact bC h2 hm rfl rfl rfl rfl rfl
theorem R9 (p:Lv→Bool) (xs:List Lv) (c:Bool) (tok:Tok) (hl:xs.length < 1000000000) (hn:xs.length < n) (h:∀x∈xs,FnB n f (cz first (cz [enc x] cap)) (p x) S) :
 frame Tryz.cfg (RN n) n 147 [.list (ao c xs) tok 0 (xs.map enc),.fn f top first cap] S=some (.int .i64 (qL (dJ p xs 0)),S):=by
 refine aO Tryz.cfg _ (fn:=Tryz.f147) rfl rfl ?_
 refine aD.loop 19 (σ:=Unit) xs.length (fun j _=>{ nt:=19,tmps:=[(0,.list (ao c xs) tok 0 (xs.map enc)),(1,.fn f top first cap),(7,.int .i64 (.ofNat (aH ((xs.map enc))))),(8,.int .i64 (.ofNat j))],locs:=[],fix:=[] }) (fun _ _=>S)
  (fun j _=>dJ p xs 0=dJ p (xs.drop j) j) () (by omega) rfl ?_ ?_
 ·intro j _ hj hp
  obtain⟨x,hx⟩ : ∃x,xs[j]?=some x:=⟨_,aGe hj⟩
  rw [oh hx] at hp
  refine ah.yes (ltM hj) ?_
  refine ab.mk _ (xU hx) ?_
  have jZ:p x=true→dJ p xs 0=some j:=fun he=>by rw [he] at hp;exact hp
  have hno:p x=false→dJ p xs 0=dJ p (xs.drop (j + 1)) (j + 1):=fun he=>by rw [he] at hp;exact hp
  rcases h x (aMg hx) with⟨h1,h2,h3⟩ | ⟨h1,l,S',h2,h3,h4⟩ | ⟨h1,h2,h3,h4,h5⟩
  ·conv=>whnf
   split
   ·rename_i hq;exact absurd (h1.symm.trans hq) (by decide)
   ·refine dP h2 h3 ?_
    cases he:p x with
    | true=>rw [jZ he];rfl
    | false=>
     refine ab.mk _ (az (by omega)) ?_
     exact⟨(),hno he,rfl,rfl⟩
  ·conv=>whnf
   split
   ·split
    ·rename_i l' hl
     cases (h2 _).symm.trans hl
     split
     ·refine⟨_,_,h4,rfl,?_⟩
      cases he:p x with
      | true=>rw [jZ he];rfl
      | false=>
       refine ab.mk _ (az (by omega)) ?_
       exact⟨(),hno he,rfl,rfl⟩
     ·rename_i hq;exact absurd (h3.symm.trans hq) (by decide)
    ·rename_i hl;cases (h2 _).symm.trans hl
   ·rename_i hq;exact absurd (h1.symm.trans hq) (by decide)
  ·conv=>whnf
   split
   ·split
    ·rename_i l' hl
     cases (h2 _).symm.trans hl
     split
     ·rename_i hq;exact absurd (h3.symm.trans hq) (by decide)
     ·refine dP h4 h5 ?_
      cases he:p x with
      | true=>rw [jZ he];rfl
      | false=>
       refine ab.mk _ (az (by omega)) ?_
       exact⟨(),hno he,rfl,rfl⟩
    ·rename_i hl;cases (h2 _).symm.trans hl
   ·rename_i hq;exact absurd (h1.symm.trans hq) (by decide)
 ·intro _ hp
  rw [mi] at hp
  refine ah.no (geM (by omega)) ?_
  rw [hp];rfl
theorem Sa (p:Lv→Bool) (xs:List Lv) (c:Bool) (tok:Tok) (hl:xs.length < 1000000000) (hn:xs.length < n) (h:∀x∈xs,FnB n f (cz first (cz [enc x] cap)) (p x) S) :
 RN (n + 2) (.f 103) [.list (ao c xs) tok 0 (xs.map enc),.fn f (top + 1) first cap] S=some (.bool (xs.any p),S):=by
 have h1:RN (n + 1) (.f 147) [.list (ao c xs) tok 0 (xs.map enc),.fn f (top + 1) first cap] S=some (.int .i64 (qL (dJ p xs 0)),S):=bw rfl (R9 p xs c tok hl hn h)
 refine bw rfl ?_
 refine aO Tryz.cfg _ (fn:=Tryz.f103) rfl rfl ?_
 refine ae.mk _ _ h1 ?_
 refine ah.mk (fun he=>?_) (fun he=>?_)
 ·rw [(fo p xs 0).symm.trans he];rfl
 ·rw [(fo p xs 0).symm.trans he];rfl
theorem Sb (p:List UInt8→Bool) (xs:List (List UInt8)) (sz:Nat) (tok:Tok) (hz:SzS sz xs) (hl:xs.length < 1000000000) (hn:xs.length < n) (h:∀x∈xs,FnB n f (cz first (cz [.str x] cap)) (p x) S) :
 frame Tryz.cfg (RN n) n 150 [.list sz tok 0 (xs.map bQ),.fn f top first cap] S=some (.int .i64 (qL (dJ p xs 0)),S):=by
 refine aO Tryz.cfg _ (fn:=Tryz.f150) rfl rfl ?_
 refine aD.loop 19 (σ:=Unit) xs.length (fun j _=>{ nt:=19,tmps:=[(0,.list sz tok 0 (xs.map bQ)),(1,.fn f top first cap),(7,.int .i64 (.ofNat (aH ((xs.map bQ))))),(8,.int .i64 (.ofNat j))],locs:=[],fix:=[] }) (fun _ _=>S)
  (fun j _=>dJ p xs 0=dJ p (xs.drop j) j) () (by omega) rfl ?_ ?_
 ·intro j _ hj hp
  obtain⟨x,hx⟩ : ∃x,xs[j]?=some x:=⟨_,aGe hj⟩
  rw [oh hx] at hp
  refine ah.yes (ltM hj) ?_
  refine ab.mk _ (sU hz hx) ?_
  have jZ:p x=true→dJ p xs 0=some j:=fun he=>by rw [he] at hp;exact hp
  have hno:p x=false→dJ p xs 0=dJ p (xs.drop (j + 1)) (j + 1):=fun he=>by rw [he] at hp;exact hp
  rcases h x (aMg hx) with⟨h1,h2,h3⟩ | ⟨h1,l,S',h2,h3,h4⟩ | ⟨h1,h2,h3,h4,h5⟩
  ·conv=>whnf
   split
   ·rename_i hq;exact absurd (h1.symm.trans hq) (by decide)
   ·refine dP h2 h3 ?_
    cases he:p x with
    | true=>rw [jZ he];rfl
    | false=>
     refine ab.mk _ (az (by omega)) ?_
     exact⟨(),hno he,rfl,rfl⟩
  ·conv=>whnf
   split
   ·split
    ·rename_i l' hl
     cases (h2 _).symm.trans hl
     split
     ·refine⟨_,_,h4,rfl,?_⟩
      cases he:p x with
      | true=>rw [jZ he];rfl
      | false=>
       refine ab.mk _ (az (by omega)) ?_
       exact⟨(),hno he,rfl,rfl⟩
     ·rename_i hq;exact absurd (h3.symm.trans hq) (by decide)
    ·rename_i hl;cases (h2 _).symm.trans hl
   ·rename_i hq;exact absurd (h1.symm.trans hq) (by decide)
  ·conv=>whnf
   split
   ·split
    ·rename_i l' hl
     cases (h2 _).symm.trans hl
     split
     ·rename_i hq;exact absurd (h3.symm.trans hq) (by decide)
     ·refine dP h4 h5 ?_
      cases he:p x with
      | true=>rw [jZ he];rfl
      | false=>
       refine ab.mk _ (az (by omega)) ?_
       exact⟨(),hno he,rfl,rfl⟩
    ·rename_i hl;cases (h2 _).symm.trans hl
   ·rename_i hq;exact absurd (h1.symm.trans hq) (by decide)
 ·intro _ hp
  rw [mi] at hp
  refine ah.no (geM (by omega)) ?_
  rw [hp];rfl
theorem Sc (p:List UInt8→Bool) (xs:List (List UInt8)) (sz:Nat) (tb:Bool) (hz:SzS sz xs) (hl:xs.length < 1000000000) (hn:xs.length < n) (hs:V.strip (.fn f 0 first cap)=.fn f 0 first cap) (h:∀x∈xs,FnB n f (cz first (cz [.str x] cap)) (p x) St.empty) :
 RN (n + 2) (.f 108) [.list sz (aw tb) 0 (xs.map bQ),.fn f 0 first cap] S=some (.bool (xs.any p),S):=by
 have hm:bn V.strip [.list sz (aw tb) 0 (xs.map bQ),.fn f 0 first cap]=[.list sz (aw tb) 0 (xs.map bQ),.fn f 0 first cap]:=by
  show [V.strip (.list sz (aw tb) 0 (xs.map bQ)),V.strip (.fn f 0 first cap)]=_
  rw [hs]
  cases tb<;>rfl
 have h1:RN (n + 1) (.f 150) [.list sz (aw tb) 0 (xs.map bQ),.fn f 0 first cap] St.empty=some (.int .i64 (qL (dJ p xs 0)),St.empty):=bC (Sb p xs sz (aw tb) hz hl hn h) hm rfl rfl rfl rfl rfl
 have h2:frame Tryz.cfg (RN (n + 1)) (n + 1) 108 [.list sz (aw tb) 0 (xs.map bQ),.fn f 0 first cap] St.empty=some (.bool (xs.any p),St.empty):=by
  refine aO Tryz.cfg _ (fn:=Tryz.f108) rfl rfl ?_
  refine ae.mk _ _ h1 ?_
  refine ah.mk (fun he=>?_) (fun he=>?_)
  ·rw [(fo p xs 0).symm.trans he];rfl
  ·rw [(fo p xs 0).symm.trans he];rfl
 exact bC h2 hm rfl rfl rfl rfl rfl
theorem Sd (p:Int→Bool) (xs:List Int) (tok:Tok) (hl:xs.length < 1000000000) (hn:xs.length < n) (h:∀x∈xs,FnB n f (cz first (cz [.int .i64 x] cap)) (p x) S) :
 frame Tryz.cfg (RN n) n 148 [.list 1 tok 0 (xs.map mw),.fn f top first cap] S=some (.int .i64 (qL (dJ p xs 0)),S):=by
 refine aO Tryz.cfg _ (fn:=Tryz.f148) rfl rfl ?_
 refine aD.loop 19 (σ:=Unit) xs.length (fun j _=>{ nt:=19,tmps:=[(0,.list 1 tok 0 (xs.map mw)),(1,.fn f top first cap),(7,.int .i64 (.ofNat (aH ((xs.map mw))))),(8,.int .i64 (.ofNat j))],locs:=[],fix:=[] }) (fun _ _=>S)
  (fun j _=>dJ p xs 0=dJ p (xs.drop j) j) () (by omega) rfl ?_ ?_
 ·intro j _ hj hp
  obtain⟨x,hx⟩ : ∃x,xs[j]?=some x:=⟨_,aGe hj⟩
  rw [oh hx] at hp
  refine ah.yes (ltM hj) ?_
  refine ab.mk _ (Mh hx) ?_
  have jZ:p x=true→dJ p xs 0=some j:=fun he=>by rw [he] at hp;exact hp
  have hno:p x=false→dJ p xs 0=dJ p (xs.drop (j + 1)) (j + 1):=fun he=>by rw [he] at hp;exact hp
  rcases h x (aMg hx) with⟨h1,h2,h3⟩ | ⟨h1,l,S',h2,h3,h4⟩ | ⟨h1,h2,h3,h4,h5⟩
  ·conv=>whnf
   split
   ·rename_i hq;exact absurd (h1.symm.trans hq) (by decide)
   ·refine dP h2 h3 ?_
    cases he:p x with
    | true=>rw [jZ he];rfl
    | false=>
     refine ab.mk _ (az (by omega)) ?_
     exact⟨(),hno he,rfl,rfl⟩
  ·conv=>whnf
   split
   ·split
    ·rename_i l' hl
     cases (h2 _).symm.trans hl
     split
     ·refine⟨_,_,h4,rfl,?_⟩
      cases he:p x with
      | true=>rw [jZ he];rfl
      | false=>
       refine ab.mk _ (az (by omega)) ?_
       exact⟨(),hno he,rfl,rfl⟩
     ·rename_i hq;exact absurd (h3.symm.trans hq) (by decide)
    ·rename_i hl;cases (h2 _).symm.trans hl
   ·rename_i hq;exact absurd (h1.symm.trans hq) (by decide)
  ·conv=>whnf
   split
   ·split
    ·rename_i l' hl
     cases (h2 _).symm.trans hl
     split
     ·rename_i hq;exact absurd (h3.symm.trans hq) (by decide)
     ·refine dP h4 h5 ?_
      cases he:p x with
      | true=>rw [jZ he];rfl
      | false=>
       refine ab.mk _ (az (by omega)) ?_
       exact⟨(),hno he,rfl,rfl⟩
    ·rename_i hl;cases (h2 _).symm.trans hl
   ·rename_i hq;exact absurd (h1.symm.trans hq) (by decide)
 ·intro _ hp
  rw [mi] at hp
  refine ah.no (geM (by omega)) ?_
  rw [hp];rfl
theorem Se (p:Int→Bool) (xs:List Int) (tb:Bool) (hl:xs.length < 1000000000) (hn:xs.length < n) (hs:V.strip (.fn f 0 first cap)=.fn f 0 first cap) (h:∀x∈xs,FnB n f (cz first (cz [.int .i64 x] cap)) (p x) St.empty) :
 RN (n + 2) (.f 105) [.list 1 (aw tb) 0 (xs.map mw),.fn f 0 first cap] S=some (.bool (xs.any p),S):=by
 have hm:bn V.strip [.list 1 (aw tb) 0 (xs.map mw),.fn f 0 first cap]=[.list 1 (aw tb) 0 (xs.map mw),.fn f 0 first cap]:=by
  show [V.strip (.list 1 (aw tb) 0 (xs.map mw)),V.strip (.fn f 0 first cap)]=_
  rw [hs]
  cases tb<;>rfl
 have h1:RN (n + 1) (.f 148) [.list 1 (aw tb) 0 (xs.map mw),.fn f 0 first cap] St.empty=some (.int .i64 (qL (dJ p xs 0)),St.empty):=bC (Sd p xs (aw tb) hl hn h) hm rfl rfl rfl rfl rfl
 have h2:frame Tryz.cfg (RN (n + 1)) (n + 1) 105 [.list 1 (aw tb) 0 (xs.map mw),.fn f 0 first cap] St.empty=some (.bool (xs.any p),St.empty):=by
  refine aO Tryz.cfg _ (fn:=Tryz.f105) rfl rfl ?_
  refine ae.mk _ _ h1 ?_
  refine ah.mk (fun he=>?_) (fun he=>?_)
  ·rw [(fo p xs 0).symm.trans he];rfl
  ·rw [(fo p xs 0).symm.trans he];rfl
 exact bC h2 hm rfl rfl rfl rfl rfl
theorem Sf (p:Int×Int→Bool) (xs:List (Int×Int)) (hl:xs.length < 1000000000) (hn:xs.length < n) (h:∀x∈xs,FnB n f (cz first (cz [dw x] cap)) (p x) S) :
 frame Tryz.cfg (RN n) n 162 [.list 2 .no 0 (xs.map dw),.fn f top first cap] S=some (.int .i64 (qL (dJ p xs 0)),S):=by
 refine aO Tryz.cfg _ (fn:=Tryz.f162) rfl rfl ?_
 refine aD.loop 19 (σ:=Unit) xs.length (fun j _=>{ nt:=19,tmps:=[(0,.list 2 .no 0 (xs.map dw)),(1,.fn f top first cap),(7,.int .i64 (.ofNat (aH ((xs.map dw))))),(8,.int .i64 (.ofNat j))],locs:=[],fix:=[] }) (fun _ _=>S)
  (fun j _=>dJ p xs 0=dJ p (xs.drop j) j) () (by omega) rfl ?_ ?_
 ·intro j _ hj hp
  obtain⟨x,hx⟩ : ∃x,xs[j]?=some x:=⟨_,aGe hj⟩
  rw [oh hx] at hp
  refine ah.yes (ltM hj) ?_
  refine ab.mk _ (xT hx) ?_
  have jZ:p x=true→dJ p xs 0=some j:=fun he=>by rw [he] at hp;exact hp
  have hno:p x=false→dJ p xs 0=dJ p (xs.drop (j + 1)) (j + 1):=fun he=>by rw [he] at hp;exact hp
  rcases h x (aMg hx) with⟨h1,h2,h3⟩ | ⟨h1,l,S',h2,h3,h4⟩ | ⟨h1,h2,h3,h4,h5⟩
  ·conv=>whnf
   split
   ·rename_i hq;exact absurd (h1.symm.trans hq) (by decide)
   ·refine dP h2 h3 ?_
    cases he:p x with
    | true=>rw [jZ he];rfl
    | false=>
     refine ab.mk _ (az (by omega)) ?_
     exact⟨(),hno he,rfl,rfl⟩
  ·conv=>whnf
   split
   ·split
    ·rename_i l' hl
     cases (h2 _).symm.trans hl
     split
     ·refine⟨_,_,h4,rfl,?_⟩
      cases he:p x with
      | true=>rw [jZ he];rfl
      | false=>
       refine ab.mk _ (az (by omega)) ?_
       exact⟨(),hno he,rfl,rfl⟩
     ·rename_i hq;exact absurd (h3.symm.trans hq) (by decide)
    ·rename_i hl;cases (h2 _).symm.trans hl
   ·rename_i hq;exact absurd (h1.symm.trans hq) (by decide)
  ·conv=>whnf
   split
   ·split
    ·rename_i l' hl
     cases (h2 _).symm.trans hl
     split
     ·rename_i hq;exact absurd (h3.symm.trans hq) (by decide)
     ·refine dP h4 h5 ?_
      cases he:p x with
      | true=>rw [jZ he];rfl
      | false=>
       refine ab.mk _ (az (by omega)) ?_
       exact⟨(),hno he,rfl,rfl⟩
    ·rename_i hl;cases (h2 _).symm.trans hl
   ·rename_i hq;exact absurd (h1.symm.trans hq) (by decide)
 ·intro _ hp
  rw [mi] at hp
  refine ah.no (geM (by omega)) ?_
  rw [hp];rfl
theorem Sg (p:Int×Int→Bool) (xs:List (Int×Int)) (hl:xs.length < 1000000000) (hn:xs.length < n) (hs:V.strip (.fn f 0 first cap)=.fn f 0 first cap) (h:∀x∈xs,FnB n f (cz first (cz [dw x] cap)) (p x) St.empty) :
 RN (n + 2) (.f 126) [.list 2 .no 0 (xs.map dw),.fn f 0 first cap] S=some (.bool (xs.any p),S):=by
 have hm:bn V.strip [.list 2 .no 0 (xs.map dw),.fn f 0 first cap]=[.list 2 .no 0 (xs.map dw),.fn f 0 first cap]:=by
  show [V.strip (.list 2 .no 0 (xs.map dw)),V.strip (.fn f 0 first cap)]=_
  rw [hs]
  rfl
 have h1:RN (n + 1) (.f 162) [.list 2 .no 0 (xs.map dw),.fn f 0 first cap] St.empty=some (.int .i64 (qL (dJ p xs 0)),St.empty):=bC (Sf p xs hl hn h) hm rfl rfl rfl rfl rfl
 have h2:frame Tryz.cfg (RN (n + 1)) (n + 1) 126 [.list 2 .no 0 (xs.map dw),.fn f 0 first cap] St.empty=some (.bool (xs.any p),St.empty):=by
  refine aO Tryz.cfg _ (fn:=Tryz.f126) rfl rfl ?_
  refine ae.mk _ _ h1 ?_
  refine ah.mk (fun he=>?_) (fun he=>?_)
  ·rw [(fo p xs 0).symm.trans he];rfl
  ·rw [(fo p xs 0).symm.trans he];rfl
 exact bC h2 hm rfl rfl rfl rfl rfl
end
@[reducible] noncomputable def da (d:Dl) (sz:Nat) (tok:Tok) (rows:List V):List V:=[.int .u8 d.kind,.int .i64 d.params,.str d.name,
  .int .u8 d.ty.k,.int .i64 d.ty.n,.str d.ty.s,.list (ao d.ty.a d.ty.ls) (aw d.ty.b) 0 (d.ty.ls.map enc),.list (ao d.ty.c d.ty.ts) (aw d.ty.d) 0 (ag d.ty.ts),
  .int .u8 d.val.k,.int .i64 d.val.n,.str d.val.s,.list (ao d.val.a d.val.ls) (aw d.val.b) 0 (d.val.ls.map enc),.list (ao d.val.c d.val.ts) (aw d.val.d) 0 (ag d.val.ts),
  .int .i64 d.fixed,.list 7 .no 0 (d.aj.map encI),.list sz tok 0 rows]
@[reducible] noncomputable def cU (d:Dl) (sz:Nat) (tok:Tok) (rows:List V):V:=.imm 0 (da d sz tok rows)
def SmD (d:Dl):Prop:=d.aj.length≤1000∧∀i∈d.aj,i.cs.length≤1000
theorem xK.smD {d:Dl} (h:xK d):SmD d:=⟨by have:=h.few;omega,fun i hi=>by have:=h.cs i hi;omega⟩
noncomputable def fZ (is:List In):List (Nat×Ct):=(is.zipIdx 0).flatMap fun q=>q.1.cs.map fun c=>(q.2,c)
noncomputable def iY (is:List In) (j:Nat):Nat:=((is.take j).map fun i=>i.cs.length).sum
theorem Dw : ∀(l:List In) (x0:Nat) {j i:Nat} {x:In} {c:Ct},l[j]?=some x→x.cs[i]?=some c→((l.zipIdx x0).flatMap fun q=>q.1.cs.map fun c=>(q.2,c))[((l.take j).map fun i=>i.cs.length).sum + i]?=some (x0 + j,c)
 | [],_,j,i,x,c,h,_=>by simp at h
 | a::l,x0,0,i,x,c,h,hc=>by
  simp at h;subst h
  rw [List.zipIdx_cons,List.flatMap_cons]
  simp only [List.take_zero,List.map_nil,List.sum_nil,Nat.zero_add,Nat.add_zero]
  rw [List.getElem?_append_left (by rw [aLm];exact (aGs hc).1),List.getElem?_map,hc]
  rfl
 | a::l,x0,j + 1,i,x,c,h,hc=>by
  rw [List.zipIdx_cons,List.flatMap_cons]
  simp only [List.take_succ_cons,List.map_cons,List.sum_cons]
  rw [List.getElem?_append_right (by rw [aLm];omega),aLm]
  have:=Dw l (x0 + 1) (j:=j) (i:=i) (by simpa using h) hc
  rw [show a.cs.length + ((l.take j).map fun i=>i.cs.length).sum + i - a.cs.length=((l.take j).map fun i=>i.cs.length).sum + i by omega,this]
  congr 2;omega
theorem mP {is:List In} {j i:Nat} {x:In} {c:Ct} (hx:is[j]?=some x) (hc:x.cs[i]?=some c):(fZ is)[iY is j + i]?=some (j,c):=by
 have:=Dw is 0 hx hc
 rw [Nat.zero_add] at this
 exact this
theorem tg (is:List In):(fZ is).length=iY is is.length:=by
 unfold fZ iY
 rw [List.take_length]
 have:∀(l:List In) (x0:Nat),((l.zipIdx x0).flatMap fun q=>q.1.cs.map fun c=>(q.2,c)).length=(l.map fun i=>i.cs.length).sum:=by
  intro l
  induction l with
  | nil=>intro x0;rfl
  | cons a l ih=>intro x0;rw [List.zipIdx_cons,List.flatMap_cons,aLa,ih];simp
 exact this is 0
theorem lL {is:List In} {j:Nat} {x:In} (h:is[j]?=some x):iY is (j + 1)=iY is j + x.cs.length:=qb h
@[reducible] noncomputable def Fi (k:Nat):Option Ct→List (Nat×List V)
  | none=>[]
  | some c=>[(k,mh c)]
@[reducible] noncomputable def PW:Option (In×Option Ct)→List (Nat×List V)
  | none=>[]
  | some (x,o)=>(4,fe x)::Fi 6 o
section
variable {n:Nat} {d:Dl} {sz:Nat} {tok:Tok} {rows:List V} {S:St}
theorem OE {B:List Blk} {T:List Nat} {b:Nat} {P:Nat→St→Prop} {Q:St→Prop} (hl:d.aj.length < n) (hcs:∀i∈d.aj,i.cs.length < n) (hn:SmD d) (h0:P 0 { heap:=.cells 106 [cU d sz tok rows]::B,aA:=T })
 (hy:∀k (q:Nat×Ct) S,(fZ d.aj)[k]?=some q→P k S→(∃S',RN n (.y b) [.int .i64 (.ofNat q.1),fO q.2] S=some (.bool true,S')∧P (k + 1) S')∨(∃S',RN n (.y b) [.int .i64 (.ofNat q.1),fO q.2] S=some (.bool false,S')∧Q S')) :
 ∃S',RN (n + 1) (.f 149) [.yield b,.ptr (.box 0) 0] { heap:=.cells 106 [cU d sz tok rows]::B,aA:=T }=some (.tuple [],S')∧(P (fZ d.aj).length S'∨Q S'):=by
 have h:∃r,frame Tryz.cfg (RN n) n 149 [.yield b,.ptr (.box 0) 0] { heap:=.cells 106 [cU d sz tok rows]::B,aA:=T }=some r∧∃S',r=(.tuple [],S')∧(P (fZ d.aj).length S'∨Q S'):=by
  refine aU (fn:=Tryz.f149) (p:=fun r=>∃S',r=(.tuple [],S')∧(P (fZ d.aj).length S'∨Q S')) rfl rfl ?_
  refine aD.loop 32 (σ:=Option (In×Option Ct)×St) d.aj.length (fun j s=>{ nt:=32,tmps:=[(0,.yield b),(11,.list 7 .no 0 (d.aj.map encI)),(12,.int .i64 (.ofNat (aH (d.aj.map encI)))),(13,.int .i64 (.ofNat j))],locs:=PW s.1,fix:=[] })
   (fun _ s=>s.2) (fun j s=>P (iY d.aj j) s.2) (none,{ heap:=.cells 106 [cU d sz tok rows]::B,aA:=T }) (by omega) h0 ?_ ?_
  ·rintro j ⟨o,S1⟩ hj (hp:P (iY d.aj j) S1)
   obtain⟨x,hx⟩ : ∃x,d.aj[j]?=some x:=⟨_,aGe hj⟩
   have hxl:=hcs x (aMg hx)
   have hn1:=hn.1
   have OF:=hn.2 x (aMg hx)
   rcases o with _ | ⟨x0,_ | c0⟩
   ·refine ah.yes (ltM hj) ?_
    refine ab.mk _ (aL hx) ?_
    refine aD.loop 32 (σ:=Option Ct×St) x.cs.length (fun i s=>{ nt:=32,tmps:=[(0,.yield b),(3,.int .i64 (.ofNat j)),(11,.list 7 .no 0 (d.aj.map encI)),(12,.int .i64 (.ofNat (aH (d.aj.map encI)))),(13,.int .i64 (.ofNat j)),(19,.list 6 .no 0 (x.cs.map fO)),(20,.int .i64 (.ofNat (aH (x.cs.map fO)))),(21,.int .i64 (.ofNat i))],locs:=(4,fe x)::Fi 6 s.1,fix:=[] })
     (fun _ s=>s.2) (fun i s=>P (iY d.aj j + i) s.2) (none,S1) (by omega) hp ?_ ?_
    ·rintro i ⟨o,S2⟩ hi (hp2:P (iY d.aj j + i) S2)
     obtain⟨c,hc⟩ : ∃c,x.cs[i]?=some c:=⟨_,aGe hi⟩
     rcases o with _ | c1
     all_goals
      refine ah.yes (ltM hi) ?_
      refine ab.mk _ (ec hc) ?_
      rcases hy _ _ S2 (mP hx hc) hp2 with⟨S',k1,k2⟩ | ⟨S',k1,k2⟩
      ·refine ae.mk _ _ k1 ?_
       refine ab.mk _ (az (by omega)) ?_
       exact⟨(some c,S'),k2,rfl,rfl⟩
      ·refine ae.mk _ _ k1 ?_
       exact⟨_,rfl,S',rfl,.inr k2⟩
    ·rintro⟨o,S2⟩ (hp2:P (iY d.aj j + x.cs.length) S2)
     rw [← lL hx] at hp2
     rcases o with _ | c1
     ·refine ah.no (geM (by omega)) ?_
      refine ab.mk _ (az (by omega)) ?_
      exact⟨(some (x,none),S2),hp2,rfl,rfl⟩
     ·refine ah.no (geM (by omega)) ?_
      refine ab.mk _ (az (by omega)) ?_
      exact⟨(some (x,some c1),S2),hp2,rfl,rfl⟩
   ·refine ah.yes (ltM hj) ?_
    refine ab.mk _ (aL hx) ?_
    refine aD.loop 32 (σ:=Option Ct×St) x.cs.length (fun i s=>{ nt:=32,tmps:=[(0,.yield b),(3,.int .i64 (.ofNat j)),(11,.list 7 .no 0 (d.aj.map encI)),(12,.int .i64 (.ofNat (aH (d.aj.map encI)))),(13,.int .i64 (.ofNat j)),(19,.list 6 .no 0 (x.cs.map fO)),(20,.int .i64 (.ofNat (aH (x.cs.map fO)))),(21,.int .i64 (.ofNat i))],locs:=(4,fe x)::Fi 6 s.1,fix:=[] })
     (fun _ s=>s.2) (fun i s=>P (iY d.aj j + i) s.2) (none,S1) (by omega) hp ?_ ?_
    ·rintro i ⟨o,S2⟩ hi (hp2:P (iY d.aj j + i) S2)
     obtain⟨c,hc⟩ : ∃c,x.cs[i]?=some c:=⟨_,aGe hi⟩
     rcases o with _ | c1
     all_goals
      refine ah.yes (ltM hi) ?_
      refine ab.mk _ (ec hc) ?_
      rcases hy _ _ S2 (mP hx hc) hp2 with⟨S',k1,k2⟩ | ⟨S',k1,k2⟩
      ·refine ae.mk _ _ k1 ?_
       refine ab.mk _ (az (by omega)) ?_
       exact⟨(some c,S'),k2,rfl,rfl⟩
      ·refine ae.mk _ _ k1 ?_
       exact⟨_,rfl,S',rfl,.inr k2⟩
    ·rintro⟨o,S2⟩ (hp2:P (iY d.aj j + x.cs.length) S2)
     rw [← lL hx] at hp2
     rcases o with _ | c1
     ·refine ah.no (geM (by omega)) ?_
      refine ab.mk _ (az (by omega)) ?_
      exact⟨(some (x,none),S2),hp2,rfl,rfl⟩
     ·refine ah.no (geM (by omega)) ?_
      refine ab.mk _ (az (by omega)) ?_
      exact⟨(some (x,some c1),S2),hp2,rfl,rfl⟩
   ·refine ah.yes (ltM hj) ?_
    refine ab.mk _ (aL hx) ?_
    refine aD.loop 32 (σ:=Option Ct×St) x.cs.length (fun i s=>{ nt:=32,tmps:=[(0,.yield b),(3,.int .i64 (.ofNat j)),(11,.list 7 .no 0 (d.aj.map encI)),(12,.int .i64 (.ofNat (aH (d.aj.map encI)))),(13,.int .i64 (.ofNat j)),(19,.list 6 .no 0 (x.cs.map fO)),(20,.int .i64 (.ofNat (aH (x.cs.map fO)))),(21,.int .i64 (.ofNat i))],locs:=(4,fe x)::Fi 6 s.1,fix:=[] })
     (fun _ s=>s.2) (fun i s=>P (iY d.aj j + i) s.2) (some c0,S1) (by omega) hp ?_ ?_
    ·rintro i ⟨o,S2⟩ hi (hp2:P (iY d.aj j + i) S2)
     obtain⟨c,hc⟩ : ∃c,x.cs[i]?=some c:=⟨_,aGe hi⟩
     rcases o with _ | c1
     all_goals
      refine ah.yes (ltM hi) ?_
      refine ab.mk _ (ec hc) ?_
      rcases hy _ _ S2 (mP hx hc) hp2 with⟨S',k1,k2⟩ | ⟨S',k1,k2⟩
      ·refine ae.mk _ _ k1 ?_
       refine ab.mk _ (az (by omega)) ?_
       exact⟨(some c,S'),k2,rfl,rfl⟩
      ·refine ae.mk _ _ k1 ?_
       exact⟨_,rfl,S',rfl,.inr k2⟩
    ·rintro⟨o,S2⟩ (hp2:P (iY d.aj j + x.cs.length) S2)
     rw [← lL hx] at hp2
     rcases o with _ | c1
     ·refine ah.no (geM (by omega)) ?_
      refine ab.mk _ (az (by omega)) ?_
      exact⟨(some (x,none),S2),hp2,rfl,rfl⟩
     ·refine ah.no (geM (by omega)) ?_
      refine ab.mk _ (az (by omega)) ?_
      exact⟨(some (x,some c1),S2),hp2,rfl,rfl⟩
  ·rintro⟨o,S1⟩ (hp:P (iY d.aj d.aj.length) S1)
   rw [← tg] at hp
   rcases o with _ | ⟨x0,_ | c0⟩
   all_goals
    refine ah.no (geM (by omega)) ?_
    exact⟨_,rfl,S1,rfl,.inl hp⟩
 obtain⟨r,h1,S',rfl,h2⟩:=h
 exact⟨S',bw rfl h1,h2⟩
theorem PX {B:List Blk} {T:List Nat} {b:Nat} {P:Nat→St→Prop} {Q:St→Prop} (hl:d.aj.length < n) (hcs:∀i∈d.aj,i.cs.length < n) (hn:SmD d) (h0:P 0 { heap:=.cells 108 (da d sz tok rows)::.cells 106 [.ptr (.box 0) 0]::B,aA:=T })
 (hy:∀k (q:Nat×Ct) S,(fZ d.aj)[k]?=some q→P k S→(∃S',RN n (.y b) [.int .i64 (.ofNat q.1),fO q.2] S=some (.bool true,S')∧P (k + 1) S')∨(∃S',RN n (.y b) [.int .i64 (.ofNat q.1),fO q.2] S=some (.bool false,S')∧Q S')) :
 ∃S',RN (n + 1) (.f 149) [.yield b,.ptr (.box 1) 0] { heap:=.cells 108 (da d sz tok rows)::.cells 106 [.ptr (.box 0) 0]::B,aA:=T }=some (.tuple [],S')∧(P (fZ d.aj).length S'∨Q S'):=by
 have h:∃r,frame Tryz.cfg (RN n) n 149 [.yield b,.ptr (.box 1) 0] { heap:=.cells 108 (da d sz tok rows)::.cells 106 [.ptr (.box 0) 0]::B,aA:=T }=some r∧∃S',r=(.tuple [],S')∧(P (fZ d.aj).length S'∨Q S'):=by
  refine aU (fn:=Tryz.f149) (p:=fun r=>∃S',r=(.tuple [],S')∧(P (fZ d.aj).length S'∨Q S')) rfl rfl ?_
  refine aD.loop 32 (σ:=Option (In×Option Ct)×St) d.aj.length (fun j s=>{ nt:=32,tmps:=[(0,.yield b),(11,.list 7 .no 0 (d.aj.map encI)),(12,.int .i64 (.ofNat (aH (d.aj.map encI)))),(13,.int .i64 (.ofNat j))],locs:=PW s.1,fix:=[] })
   (fun _ s=>s.2) (fun j s=>P (iY d.aj j) s.2) (none,{ heap:=.cells 108 (da d sz tok rows)::.cells 106 [.ptr (.box 0) 0]::B,aA:=T }) (by omega) h0 ?_ ?_
  ·rintro j ⟨o,S1⟩ hj (hp:P (iY d.aj j) S1)
   obtain⟨x,hx⟩ : ∃x,d.aj[j]?=some x:=⟨_,aGe hj⟩
   have hxl:=hcs x (aMg hx)
   have hn1:=hn.1
   have OF:=hn.2 x (aMg hx)
   rcases o with _ | ⟨x0,_ | c0⟩
   ·refine ah.yes (ltM hj) ?_
    refine ab.mk _ (aL hx) ?_
    refine aD.loop 32 (σ:=Option Ct×St) x.cs.length (fun i s=>{ nt:=32,tmps:=[(0,.yield b),(3,.int .i64 (.ofNat j)),(11,.list 7 .no 0 (d.aj.map encI)),(12,.int .i64 (.ofNat (aH (d.aj.map encI)))),(13,.int .i64 (.ofNat j)),(19,.list 6 .no 0 (x.cs.map fO)),(20,.int .i64 (.ofNat (aH (x.cs.map fO)))),(21,.int .i64 (.ofNat i))],locs:=(4,fe x)::Fi 6 s.1,fix:=[] })
     (fun _ s=>s.2) (fun i s=>P (iY d.aj j + i) s.2) (none,S1) (by omega) hp ?_ ?_
    ·rintro i ⟨o,S2⟩ hi (hp2:P (iY d.aj j + i) S2)
     obtain⟨c,hc⟩ : ∃c,x.cs[i]?=some c:=⟨_,aGe hi⟩
     rcases o with _ | c1
     all_goals
      refine ah.yes (ltM hi) ?_
      refine ab.mk _ (ec hc) ?_
      rcases hy _ _ S2 (mP hx hc) hp2 with⟨S',k1,k2⟩ | ⟨S',k1,k2⟩
      ·refine ae.mk _ _ k1 ?_
       refine ab.mk _ (az (by omega)) ?_
       exact⟨(some c,S'),k2,rfl,rfl⟩
      ·refine ae.mk _ _ k1 ?_
       exact⟨_,rfl,S',rfl,.inr k2⟩
    ·rintro⟨o,S2⟩ (hp2:P (iY d.aj j + x.cs.length) S2)
     rw [← lL hx] at hp2
     rcases o with _ | c1
     ·refine ah.no (geM (by omega)) ?_
      refine ab.mk _ (az (by omega)) ?_
      exact⟨(some (x,none),S2),hp2,rfl,rfl⟩
     ·refine ah.no (geM (by omega)) ?_
      refine ab.mk _ (az (by omega)) ?_
      exact⟨(some (x,some c1),S2),hp2,rfl,rfl⟩
   ·refine ah.yes (ltM hj) ?_
    refine ab.mk _ (aL hx) ?_
    refine aD.loop 32 (σ:=Option Ct×St) x.cs.length (fun i s=>{ nt:=32,tmps:=[(0,.yield b),(3,.int .i64 (.ofNat j)),(11,.list 7 .no 0 (d.aj.map encI)),(12,.int .i64 (.ofNat (aH (d.aj.map encI)))),(13,.int .i64 (.ofNat j)),(19,.list 6 .no 0 (x.cs.map fO)),(20,.int .i64 (.ofNat (aH (x.cs.map fO)))),(21,.int .i64 (.ofNat i))],locs:=(4,fe x)::Fi 6 s.1,fix:=[] })
     (fun _ s=>s.2) (fun i s=>P (iY d.aj j + i) s.2) (none,S1) (by omega) hp ?_ ?_
    ·rintro i ⟨o,S2⟩ hi (hp2:P (iY d.aj j + i) S2)
     obtain⟨c,hc⟩ : ∃c,x.cs[i]?=some c:=⟨_,aGe hi⟩
     rcases o with _ | c1
     all_goals
      refine ah.yes (ltM hi) ?_
      refine ab.mk _ (ec hc) ?_
      rcases hy _ _ S2 (mP hx hc) hp2 with⟨S',k1,k2⟩ | ⟨S',k1,k2⟩
      ·refine ae.mk _ _ k1 ?_
       refine ab.mk _ (az (by omega)) ?_
       exact⟨(some c,S'),k2,rfl,rfl⟩
      ·refine ae.mk _ _ k1 ?_
       exact⟨_,rfl,S',rfl,.inr k2⟩
    ·rintro⟨o,S2⟩ (hp2:P (iY d.aj j + x.cs.length) S2)
     rw [← lL hx] at hp2
     rcases o with _ | c1
     ·refine ah.no (geM (by omega)) ?_
      refine ab.mk _ (az (by omega)) ?_
      exact⟨(some (x,none),S2),hp2,rfl,rfl⟩
     ·refine ah.no (geM (by omega)) ?_
      refine ab.mk _ (az (by omega)) ?_
      exact⟨(some (x,some c1),S2),hp2,rfl,rfl⟩
   ·refine ah.yes (ltM hj) ?_
    refine ab.mk _ (aL hx) ?_
    refine aD.loop 32 (σ:=Option Ct×St) x.cs.length (fun i s=>{ nt:=32,tmps:=[(0,.yield b),(3,.int .i64 (.ofNat j)),(11,.list 7 .no 0 (d.aj.map encI)),(12,.int .i64 (.ofNat (aH (d.aj.map encI)))),(13,.int .i64 (.ofNat j)),(19,.list 6 .no 0 (x.cs.map fO)),(20,.int .i64 (.ofNat (aH (x.cs.map fO)))),(21,.int .i64 (.ofNat i))],locs:=(4,fe x)::Fi 6 s.1,fix:=[] })
     (fun _ s=>s.2) (fun i s=>P (iY d.aj j + i) s.2) (some c0,S1) (by omega) hp ?_ ?_
    ·rintro i ⟨o,S2⟩ hi (hp2:P (iY d.aj j + i) S2)
     obtain⟨c,hc⟩ : ∃c,x.cs[i]?=some c:=⟨_,aGe hi⟩
     rcases o with _ | c1
     all_goals
      refine ah.yes (ltM hi) ?_
      refine ab.mk _ (ec hc) ?_
      rcases hy _ _ S2 (mP hx hc) hp2 with⟨S',k1,k2⟩ | ⟨S',k1,k2⟩
      ·refine ae.mk _ _ k1 ?_
       refine ab.mk _ (az (by omega)) ?_
       exact⟨(some c,S'),k2,rfl,rfl⟩
      ·refine ae.mk _ _ k1 ?_
       exact⟨_,rfl,S',rfl,.inr k2⟩
    ·rintro⟨o,S2⟩ (hp2:P (iY d.aj j + x.cs.length) S2)
     rw [← lL hx] at hp2
     rcases o with _ | c1
     ·refine ah.no (geM (by omega)) ?_
      refine ab.mk _ (az (by omega)) ?_
      exact⟨(some (x,none),S2),hp2,rfl,rfl⟩
     ·refine ah.no (geM (by omega)) ?_
      refine ab.mk _ (az (by omega)) ?_
      exact⟨(some (x,some c1),S2),hp2,rfl,rfl⟩
  ·rintro⟨o,S1⟩ (hp:P (iY d.aj d.aj.length) S1)
   rw [← tg] at hp
   rcases o with _ | ⟨x0,_ | c0⟩
   all_goals
    refine ah.no (geM (by omega)) ?_
    exact⟨_,rfl,S1,rfl,.inl hp⟩
 obtain⟨r,h1,S',rfl,h2⟩:=h
 exact⟨S',bw rfl h1,h2⟩
end
end Go.Ev
