/- The package: what positive says of a declaration (own work). -/
import Derived.Test.YtmnofcchfbkbeaaGreatXs
namespace Go.Ev
open Go.Proofs Go.RowKit
set_option maxRecDepth 100000
set_option linter.unusedVariables false
set_option linter.unusedSimpArgs false
theorem eF (d:Dl) (sz:Nat) (tok:Tok) (rows l:List V):bn V.strip (cU d sz tok rows::l)=cU d sz tok rows::bn V.strip l:=rfl
noncomputable def mz (x:Tm):Bool:=iEq x.k 0 && (iEq x.n 0 && (decide (x.s=[]) && iEq (.ofNat (x.ls.length + x.ts.length)) 0))
theorem zI (x:Tm):mz x=dz x zTm:=by
 cases x with
 | mk k n s a b c d ls ts=>
  unfold mz
  rw [sS]
  show (iEq k 0 && (iEq n 0 && (decide (s=[]) && iEq (.ofNat (ls.length + ts.length)) 0)))=((iEq k 0 && iEq n 0 && decide (s=[]) && iEq (.ofNat (aH (ls.map enc))) 0 && iEq (.ofNat (aH (ag ts))) (.ofNat (aH (ag [])))) && (decide (ls=[]) && iV ts []))
  rw [ak,ak,aq,aLm]
  cases ls with
  | nil=>
   cases ts with
   | nil=>rw [iV];simp only [List.length_nil,Bool.and_assoc];simp [bW]
   | cons t ts=>
    have e1:iEq (.ofNat (([]:List Lv).length + (t::ts).length)) 0=false:=by rw [bW];simp only [List.length_nil,aLc,aOn,decide_eq_false_iff_not];omega
    have e2:iEq (.ofNat (t::ts).length) (.ofNat ([]:List Tm).length)=false:=by rw [bW];simp only [List.length_nil,aLc,aOn,decide_eq_false_iff_not];omega
    rw [e1,e2];simp
  | cons l ls=>
   have e1:iEq (.ofNat ((l::ls).length + ts.length)) 0=false:=by rw [bW];simp only [aLc,aOn,decide_eq_false_iff_not];omega
   have e2:iEq (.ofNat (l::ls).length) 0=false:=by rw [bW];simp only [aLc,aOn,decide_eq_false_iff_not];omega
   rw [e1,e2];simp
section
variable {n:Nat} {d:Dl} {sz:Nat} {tok:Tok} {rows:List V} {S:St}
theorem h95 {x:Tm} (hl:x.ls.length≤1000000000) (hl2:x.ts.length≤1000000000) (hn:2≤n):RN n (.f 95) [aB x] S=some (.bool (mz x),S):=by
 obtain⟨q,rfl⟩:=up (show 1≤n by omega)
 have h:∃r,frame Tryz.cfg (RN q) q 95 [aB x] St.empty=some r∧∃S',r=(.bool (mz x),S'):=by
  refine aU (fn:=Tryz.f95) (p:=fun r=>∃S',r=(.bool (mz x),S')) rfl rfl ?_
  refine ah.mk (fun c1=>?_) (fun c1=>?_)
  ·refine ah.mk (fun c2=>?_) (fun c2=>?_)
   ·refine ab.mkB lf (fun c3=>?_) (fun c3=>?_)
    ·refine ab.mk (.int .i64 (.ofNat (x.ls.length + x.ts.length))) (by rw [aq,aLm,ak];exact addNat (by omega)) ?_
     refine ah.mk (fun c4=>?_) (fun c4=>?_)
     ·have e:mz x=true:=by unfold mz;rw [c1,c2,c3,c4];rfl
      rw [e];exact⟨_,rfl,_,rfl⟩
     ·have e:mz x=false:=by unfold mz;rw [c1,c2,c3,c4];rfl
      rw [e];exact⟨_,rfl,_,rfl⟩
    ·have e:mz x=false:=by unfold mz;rw [c1,c2,c3];rfl
     rw [e];exact⟨_,rfl,_,rfl⟩
   ·have e:mz x=false:=by unfold mz;rw [c1,c2];rfl
    rw [e];exact⟨_,rfl,_,rfl⟩
  ·have e:mz x=false:=by unfold mz;rw [c1];rfl
   rw [e];exact⟨_,rfl,_,rfl⟩
 obtain⟨r,k6,S',rfl⟩:=h
 exact bC k6 (by simp only [bh,an]) rfl rfl rfl rfl rfl
theorem J6 {T:List Nat} (hn:1≤n):RN n (.f 107) [cU d sz tok rows] { heap:=[],aA:=T }=some (.fn 149 1 [] [.ptr (.box 0) 0],{ heap:=[.cells 106 [cU d sz tok rows]],aA:=T }):=by
 obtain⟨q,rfl⟩:=up hn
 refine bw rfl ?_
 kernel_rfl
noncomputable def ug (k:Int):dD:={ fid:=113,nt:=10,tmps:=[(2,.ptr (.loc 2) 0),(4,.fn 149 1 [] [.ptr (.box 0) 0])],locs:=[(2,[.int .i64 k])],params:=[5,6],assign:=ma Tryz.f113,body:=mb Tryz.f113,st:=.ready,jj:=none }
noncomputable def Dx (d:Dl) (sz:Nat) (tok:Tok) (rows:List V) (k:Int):St:={ heap:=[.cells 106 [cU d sz tok rows],.loop (ug k)],aA:=[] }
theorem HG (hl:d.aj.length + 5≤n) (hcs:∀i∈d.aj,i.cs.length + 5≤n) (hn:SmD d) (hs:(fZ d.aj).length < 1000000000) :
 RN n (.f 113) [cU d sz tok rows] S=some (.int .i64 (.ofNat (fZ d.aj).length),S):=by
 obtain⟨q,rfl⟩:=up (show 3≤n by omega)
 have xW:∀(k:Nat) (x:Int) (c:Ct),k < 1000000000→RN (q + 1) (.y 1) [.int .i64 x,fO c] (Dx d sz tok rows (.ofNat k))=some (.bool true,Dx d sz tok rows (.ofNat (k + 1))):=by
  intro k x c hk
  refine fU ?_
  refine fH (r:=ug (.ofNat k)) (nt:=10) (fx:=[2]) rfl rfl rfl rfl rfl rfl rfl ?_
  refine ab.mk _ (az (by omega)) ?_
  rfl
 obtain⟨S1,k1,k2⟩:=OE (n:=q + 1) (d:=d) (sz:=sz) (tok:=tok) (rows:=rows) (b:=1) (B:=[.loop (ug 0)]) (T:=[]) (P:=fun k S=>S=Dx d sz tok rows (.ofNat k)) (Q:=fun _=>False) (by omega) (fun i hi=>by have:=hcs i hi;omega) hn rfl (fun k q S hk hp=>by
  subst hp
  have:=(aGs hk).1
  exact .inl ⟨_,xW k _ _ (by omega),rfl⟩)
 have k3:S1=Dx d sz tok rows (.ofNat (fZ d.aj).length):=k2.elim id False.elim
 subst k3
 have h:frame Tryz.cfg (RN (q + 2)) (q + 2) 113 [cU d sz tok rows] St.empty=some (.int .i64 (.ofNat (fZ d.aj).length),{ heap:=[.cells 106 [cU d sz tok rows],.loop { ug (.ofNat (fZ d.aj).length) with st:=.rk,locs:=[],tmps:=[] }],aA:=[] }):=by
  refine aO Tryz.cfg _ (fn:=Tryz.f113) rfl rfl ?_
  refine ae.mk _ _ (J6 (by omega)) ?_
  refine aD.mk _ _ _ (dR (f:=149) (top:=1) (first:=[]) (cap:=[.ptr (.box 0) 0]) (l:=ug 0) (r:=ug (.ofNat (fZ d.aj).length)) (S':=Dx d sz tok rows (.ofNat (fZ d.aj).length)) (v:=.tuple []) (by rfl) (by rfl) k1 (by rfl) (.inl rfl)) ?_
  rfl
 exact bC h (by simp only [eF,an]) rfl rfl rfl rfl rfl
end
theorem Bq (t:Tm):bn ai (aC t)=aC t:=by
 have h:=eO t
 have h2:(aB t).strip=.agg (bn ai (aC t)):=rfl
 rw [h2] at h
 injection h
theorem inT {A A2:Env} {S S2:St} {r:InT} {ki:Nat} {sz bsz tp by' : Nat} {z' : List V} {tok t2:Tok} {rows bc:List V} {t:Tm} {v:V} {k0:IntKind}
 (h1:Tryz.cfg.ti r.T=some { kind:=.slice 25,size:=ki,bytes:=by',zero:=z' }) (h2:operand A r.s=some (.list sz tok 0 rows)) (h3:operand A r.x=some (aB t)) (h4:operand A (.tmp r.n)=some (.int k0 (.ofNat (aH rows)))) (h5:operand A (.tmp r.bd)=some (.list bsz t2 tp [.agg bc])) (h6:look r.q A.tmps=none)
 (h7:(Nat.beq (aH bc) 5 && (Nat.beq bsz 5 && (Nat.beq r.Te 25 && Nat.ble (r.q + 1) A.nt)))=true) (hg:kp Tryz.ti25 S .any sz tok 0 rows 0 [aB t]=some (v,S2)) (hp:put A (some r.v) v=some A2):rv Tryz.cfg A S r=some (A2,S2):=by
 unfold rv
 have hl:aJ (aC t)=some 0:=rfl
 simp only [Bool.and_eq_true] at h7
 simp only [h1,h2,h3,h4,h5,h6,show Tryz.cfg.ti 25=some Tryz.ti25 from rfl,show (aB t).cells=aC t from rfl,Bq,hl,show Tryz.ti25.size=5 from rfl,h7.1,h7.2.1,h7.2.2.1,h7.2.2.2]
 rw [show (iEq (.ofNat (aH rows)) (.ofNat (aH rows)) && (aH (aC t)).beq 5 && true && true && true && true)=true by rw [bW];simp;rfl]
 simp only [cond_true,show V.agg (aC t)=aB t from rfl,hg,hp]
theorem xX {H:List Blk} {T0 T:List Nat} {done:List Tm} {t:Tm} {tok:Tok} {c0:Bool} (hlen:done.length < 1000000) (hg:av T0 T done tok) :
 ∃T' aV,kp Tryz.ti25 { heap:=H,aA:=T } .any (ao c0 done) tok 0 (ag done) 0 [aB t]=some (.list (ao false (done++[t])) aV 0 (ag (done++[t])),{ heap:=H,aA:=T' })∧av T0 T' (done++[t]) aV:=by
 have hg' : av T0 T (ag done) tok:=(av.map ag (fun l=>by rw [← aq,ak])).2 hg
 obtain⟨T',aV,h1,h2⟩:=xI (ei:=Tryz.ti25) (H:=H) (sz:=ao c0 done) (new:=[aB t]) (by decide) (by decide) (by rw [← aq,ak];simp;omega) (by
  rcases jH c0 done with rfl | h
  ·left;rw [ag]
  ·exact .inr h) hg'.w (by simp)
 have e:ag done++[aB t]=ag (done++[t]):=by
  rw [nz,bM]
  congr 1
  rw [cZ]
  rfl
 rw [e] at h1 h2
 refine⟨T',aV,?_,(av.map ag (fun l=>by rw [← aq,ak])).1 h2⟩
 have hs:ao false (done++[t])=5:=by cases done<;>rfl
 rw [hs]
 exact h1 .any rfl
noncomputable def eG (d:Dl):List Tm:=d.aj.map (·.ty)++(fZ d.aj).map (·.2.ty)
@[reducible] noncomputable def M6 (l:List Tm) (tk:Tok) (o:Option In) (o2:Option Ct):List (Nat×List V):=(2,[.list (ao false l) tk 0 (ag l)])::((match o with | none=>[] | some x=>[(4,fe x)])++match o2 with | none=>[] | some c=>[(6,mh c)])
noncomputable def th (d:Dl) (sz:Nat) (tok:Tok) (rows:List V) (l:List Tm) (tk:Tok) (o:Option In) (o2:Option Ct):dD:={ fid:=98,nt:=37,tmps:=[(2,.ptr (.loc 2) 0),(26,.fn 149 1 [] [.ptr (.box 0) 0])],locs:=M6 l tk o o2,params:=[27,28],assign:=ma Tryz.f98,body:=mb Tryz.f98,st:=.ready,jj:=none }
noncomputable def PY (d:Dl) (sz:Nat) (tok:Tok) (rows:List V) (l:List Tm) (tk:Tok) (o:Option In) (o2:Option Ct) (T:List Nat):St:={ heap:=[.cells 106 [cU d sz tok rows],.loop (th d sz tok rows l tk o o2)],aA:=T }
section
variable {n:Nat} {d:Dl} {sz:Nat} {tok:Tok} {rows:List V} {S:St}
theorem h98 (hl:d.aj.length + 5≤n) (hcs:∀i∈d.aj,i.cs.length + 5≤n) (hn:SmD d) (hs:(eG d).length < 1000000) :
 ∃b,RN n (.f 98) [cU d sz tok rows] S=some (.list (ao false (eG d)) (aw b) 0 (ag (eG d)),S):=by
 obtain⟨q,rfl⟩:=up (show 3≤n by omega)
 have hn1:=hn.1
 have h:∃r,frame Tryz.cfg (RN (q + 2)) (q + 2) 98 [cU d sz tok rows] St.empty=some r∧∃S' tk T,r=(.list (ao false (eG d)) tk 0 (ag (eG d)),S')∧av [] T (eG d) tk:=by
  refine aU (fn:=Tryz.f98) (p:=fun r=>∃S' tk T,r=(.list (ao false (eG d)) tk 0 (ag (eG d)),S')∧av [] T (eG d) tk) rfl rfl ?_
  refine aD.loop 37 (σ:=Option In×List Tm×Tok×List Nat) d.aj.length (fun j s=>{ nt:=37,tmps:=[(0,cU d sz tok rows),(2,.ptr (.loc 2) 0),(11,.list 7 .no 0 (d.aj.map encI)),(12,.int .i64 (.ofNat (aH (d.aj.map encI)))),(13,.int .i64 (.ofNat j))],locs:=M6 s.2.1 s.2.2.1 s.1 none,fix:=[] })
   (fun _ s=>{ heap:=[],aA:=s.2.2.2 }) (fun j s=>s.2.1=(d.aj.take j).map (·.ty)∧av [] s.2.2.2 s.2.1 s.2.2.1) (none,[],.tight,[]) (by omega) ⟨rfl,av.start []⟩ ?_ ?_
  ·rintro j ⟨o,l,tk,T⟩ hj ⟨(hp:l=_),(hg:av [] T l tk)⟩
   obtain⟨x,hx⟩ : ∃x,d.aj[j]?=some x:=⟨_,aGe hj⟩
   have hll:l.length < 1000000:=by
    rw [hp]
    unfold eG at hs
    simp only [aLa,aLm,List.length_take] at hs ⊢;omega
   obtain⟨T',tk',g1,g2⟩:=xX (H:=[]) (t:=x.ty) (c0:=false) hll hg
   rcases o with _ | x0
   all_goals
    refine ah.yes (ltM hj) ?_
    refine ab.mk _ (aL hx) ?_
    refine ab.mk _ rfl ?_
    refine AM.mk _ _ (inT (t:=x.ty) rfl rfl rfl rfl rfl rfl rfl g1 rfl) ?_
    refine ab.mk _ (az (by omega)) ?_
    exact⟨(some x,l++[x.ty],tk',T'),⟨by rw [map_take _ _ _ _ hx,hp],g2⟩,rfl,rfl⟩
  ·rintro⟨o,l,tk,T⟩ ⟨(hp:l=_),(hg:av [] T l tk)⟩
   rw [List.take_length] at hp
   obtain⟨S1,k1,k2⟩:=OE (n:=q + 1) (d:=d) (sz:=sz) (tok:=tok) (rows:=rows) (b:=1) (B:=[.loop (th d sz tok rows l tk o none)]) (T:=T) (P:=fun k S=>∃l2 tk2 T2,S=PY d sz tok rows l2 tk2 o none T2∧l2=l++((fZ d.aj).take k).map (·.2.ty)∧av [] T2 l2 tk2) (Q:=fun _=>False) (by omega) (fun i hi=>by have:=hcs i hi;omega) hn ⟨l,tk,T,rfl,by simp,hg⟩ (fun k y S hk ⟨l2,tk2,T2,e1,e2,e3⟩=>by
    subst e1
    have hkl:=(aGs hk).1
    have hll:l2.length < 1000000:=by
     rw [e2,hp]
     unfold eG at hs
     simp only [aLa,aLm,List.length_take] at hs ⊢;omega
    obtain⟨T',tk',g1,g2⟩:=xX (H:=[.cells 106 [cU d sz tok rows],.loop { th d sz tok rows l2 tk2 o none with st:=.busy,locs:=[] }]) (t:=y.2.ty) (c0:=false) hll e3
    refine .inl ⟨PY d sz tok rows (l2++[y.2.ty]) tk' o none T',?_,l2++[y.2.ty],tk',T',rfl,by rw [map_take _ _ _ _ hk,e2,List.append_assoc],g2⟩
    refine fU ?_
    rcases o with _ | x0
    ·refine fH (r:=th d sz tok rows l2 tk2 none none) (nt:=37) (fx:=[2]) rfl rfl rfl rfl rfl rfl rfl ?_
     refine ab.mk _ rfl ?_
     refine AM.mk _ _ (inT (t:=y.2.ty) rfl rfl rfl rfl rfl rfl rfl g1 rfl) ?_
     conv=>whnf
     rfl
    ·refine fH (r:=th d sz tok rows l2 tk2 (some x0) none) (nt:=37) (fx:=[2,4]) rfl rfl rfl rfl rfl rfl rfl ?_
     refine ab.mk _ rfl ?_
     refine AM.mk _ _ (inT (t:=y.2.ty) rfl rfl rfl rfl rfl rfl rfl g1 rfl) ?_
     conv=>whnf
     rfl)
   obtain⟨l2,tk2,T2,e1,e2,e3⟩:=k2.elim id False.elim
   rw [List.take_length,hp] at e2
   have e2' : l2=eG d:=e2
   subst e1
   subst e2'
   rcases o with _ | x0
   ·refine ah.no (geM (by omega)) ?_
    refine ae.mk _ _ (J6 (by omega)) ?_
    refine aD.mk _ _ _ (dR (f:=149) (top:=1) (first:=[]) (cap:=[.ptr (.box 0) 0]) (l:=th d sz tok rows l tk none none) (r:=th d sz tok rows (eG d) tk2 none none) (v:=.tuple []) (by rfl) (by rfl) k1 (by rfl) (.inl rfl)) ?_
    exact⟨_,rfl,_,tk2,T2,rfl,e3⟩
   ·refine ah.no (geM (by omega)) ?_
    refine ae.mk _ _ (J6 (by omega)) ?_
    refine aD.mk _ _ _ (dR (f:=149) (top:=1) (first:=[]) (cap:=[.ptr (.box 0) 0]) (l:=th d sz tok rows l tk (some x0) none) (r:=th d sz tok rows (eG d) tk2 (some x0) none) (v:=.tuple []) (by rfl) (by rfl) k1 (by rfl) (.inl rfl)) ?_
    exact⟨_,rfl,_,tk2,T2,rfl,e3⟩
 obtain⟨r,k6,S',tk,T,rfl,hg⟩:=h
 obtain⟨b,hb⟩:=eC tk
 exact⟨b,xw k6 hb (by simp only [eF,an]) rfl rfl⟩
end
noncomputable def fcl:V:=.fn 145 1 [] [.ptr (.box 0) 0]
noncomputable def stF (acc:Int):St:={ heap:=[.cells 3 [.int .i64 acc]],aA:=[] }
noncomputable def Fj (x:Tm) (a acc:Int):Int:=match iEq x.k 2 with
 | true=>mxI acc (vo (dT x.n 1) a)
 | false=>acc
mutual
noncomputable def qe:Tm→Int→Int→Int
 | .mk k n s a b c d ls ts,ar,acc=>ka k ts 0 ar (Fj (.mk k n s a b c d ls ts) ar acc)
noncomputable def ka (k:Int):List Tm→Nat→Int→Int→Int
 | [],_,_,acc=>acc
 | t::ts,i,ar,acc=>ka k ts (i + 1) ar (qe t (dT ar (bq k (.ofNat i))) acc)
end
theorem Dy (x:Tm) (ar acc:Int):qe x ar acc=ka x.k x.ts 0 ar (Fj x ar acc):=by cases x;rw [qe];rfl
theorem u9 (k:Int) (t:Tm) (ts:List Tm) (i:Nat) (ar acc:Int):ka k (t::ts) i ar acc=ka k ts (i + 1) ar (qe t (dT ar (bq k (.ofNat i))) acc):=by rw [ka]
theorem rW (k:Int) (i:Nat) (ar acc:Int):ka k [] i ar acc=acc:=by rw [ka]
theorem H6 (k:Int) {l:List Tm} {j:Nat} {t:Tm} (ar acc:Int) (h:l[j]?=some t):ka k (l.drop j) j ar acc=ka k (l.drop (j + 1)) (j + 1) ar (qe t (dT ar (bq k (.ofNat j))) acc):=by
 obtain⟨hj,e⟩:=aGs h
 rw [List.drop_eq_getElem_cons hj,e,u9]
theorem Sj (n:Nat) (x:Tm) (a acc:Int):RN (n + 1) (.f 145) [aB x,.int .i64 a,.ptr (.box 0) 0] (stF acc)=some (.bool true,stF (Fj x a acc)):=by
 refine bw rfl ?_
 refine aO Tryz.cfg _ (fn:=Tryz.f145) rfl rfl ?_
 unfold Fj
 refine ah.mk (fun h=>?_) (fun h=>?_)
 ·rw [h]
  refine ab.mk _ (show binOp Tryz.cfg .add 3 (.int .i64 x.n) (.int .i64 1)=some (.int .i64 (dT x.n 1)) from rfl) ?_
  refine ab.mk _ (show binOp Tryz.cfg .sub 3 (.int .i64 (dT x.n 1)) (.int .i64 a)=some (.int .i64 (vo (dT x.n 1) a)) from rfl) ?_
  rfl
 ·rw [h];rfl
@[reducible] noncomputable def PZ (k:Nat):Option Tm→List (Nat×List V)
  | none=>[]
  | some c=>[(k,aC c)]
theorem P0:∀(n:Nat) (x:Tm) (a acc:Int),wt x + 3≤n→wt x < 1000000000→RN n (.f 144) [aB x,.int .i64 a,fcl] (stF acc)=some (.bool true,stF (qe x a acc))
 | 0,x,_,_,h,_=>by omega
 | n + 1,x,a,acc,h,hw=>by
  have hxl:x.ts.length < 1000000000∧x.ts.length + 3≤n:=by
   have:=cO x
   have:=iz x.ts
   omega
  obtain⟨q,rfl⟩:=up (show 1≤n by omega)
  refine bw rfl ?_
  refine aO Tryz.cfg _ (fn:=Tryz.f144) rfl rfl ?_
  refine ae.mk _ _ (Sj q x a acc) ?_
  refine aD.loop 32 (σ:=Option Tm×Int) x.ts.length (fun j s=>{ nt:=32,tmps:=[(1,.int .i64 a),(2,fcl),(3,.ptr (.loc 3) 0),(15,.list (ao x.c x.ts) (aw x.d) 0 (ag x.ts)),(16,.int .i64 (.ofNat (aH (ag x.ts)))),(17,.int .i64 (.ofNat j))],locs:=(3,aC x)::PZ 8 s.1,fix:=[] })
   (fun _ s=>stF s.2) (fun j s=>qe x a acc=ka x.k (x.ts.drop j) j a s.2) (none,Fj x a acc) (by omega) (by rw [Dy];rfl) ?_ ?_
  ·rintro j ⟨o,c⟩ hj (hp:_=_)
   obtain⟨y,hy⟩ : ∃y,x.ts[j]?=some y:=⟨_,aGe hj⟩
   have hyw:=cT (aMg hy)
   rw [H6 _ _ _ hy] at hp
   have dt:=P0 (q + 1) y (dT a (bq x.k (.ofNat j))) c (by omega) (by omega)
   rcases o with _ | y0
   all_goals
    refine ah.yes (gI hj) ?_
    refine ab.mk _ (bz hy) ?_
    refine ae.mk _ _ (LV q x (.ofNat j) _) ?_
    refine ab.mk _ (show binOp Tryz.cfg .add 3 (.int .i64 a) (.int .i64 (bq x.k (.ofNat j)))=some (.int .i64 (dT a (bq x.k (.ofNat j)))) from rfl) ?_
    refine ae.mk _ _ dt ?_
    refine ab.mk _ (az (by omega)) ?_
    exact⟨(some y,qe y (dT a (bq x.k (.ofNat j))) c),hp,rfl,rfl⟩
  ·rintro⟨o,c⟩ (hp:_=_)
   rw [List.drop_length,rW] at hp
   rw [hp]
   rcases o with _ | y0
   all_goals
    refine ah.no (gJ (by omega)) ?_
    rfl
noncomputable def xY (x:Tm):Int:=match cL x with
 | true=>qe x 0 0
 | false=>0
theorem Sk {n:Nat} {x:Tm} {S:St} (hs:Sm x) (hn:wt x + 20≤n) (hw:wt x < 1000000000):RN n (.f 100) [aB x] S=some (.int .i64 (xY x),S):=by
 obtain⟨q,rfl⟩:=up (show 1≤n by omega)
 have h:∃r,frame Tryz.cfg (RN q) q 100 [aB x] St.empty=some r∧∃S',r=(.int .i64 (xY x),S'):=by
  refine aU (fn:=Tryz.f100) (p:=fun r=>∃S',r=(.int .i64 (xY x),S')) rfl rfl ?_
  unfold xY
  refine ae.mkB (h67 hs (by omega)) (fun hm=>?_) (fun hm=>?_)
  ·rw [hm]
   refine ae.mk _ _ (P0 q x 0 0 (by omega) hw) ?_
   exact⟨_,rfl,_,rfl⟩
  ·rw [hm]
   exact⟨_,rfl,_,rfl⟩
 obtain⟨r,k6,S',rfl⟩:=h
 exact bC k6 (by simp only [bh,an]) rfl rfl rfl rfl rfl
theorem zJ (a b c:Int):mxI (mxI a b) c=mxI a (mxI b c):=by
 unfold mxI
 split<;>split<;>(try split)<;>(try split)<;>omega
mutual
theorem zK:∀(x:Tm),dU x→∀(a acc:Int),0≤acc→qe x a acc=mxI acc (jE x a)
 | .mk k n s b1 b2 b3 b4 ls ts,h,a,acc,h0=>by
  have hx:=(cp _).1 h
  rw [Dy,sR]
  show ka k ts 0 a (Fj (.mk k n s b1 b2 b3 b4 ls ts) a acc)=mxI acc (bif iEq k 2 then mxI 0 (vo (dT n 1) a) else jF k ts 0 a 0)
  unfold Fj
  cases hk:iEq k 2 with
  | true=>
   have hts:ts=[]:=qA hx.1 hk
   subst hts
   rw [show iEq (Tm.mk k n s b1 b2 b3 b4 ls []).k 2=true from hk,rW]
   show mxI acc (vo (dT n 1) a)=mxI acc (mxI 0 (vo (dT n 1) a))
   rw [← zJ]
   congr 1
   unfold mxI;split<;>omega
  | false=>
   rw [show iEq (Tm.mk k n s b1 b2 b3 b4 ls ts).k 2=false from hk]
   have:=xZ k ts (fun y hy=>hx.2 y hy) 0 a acc 0 h0 (by omega)
   rw [show mxI acc 0=acc by unfold mxI;split<;>omega] at this
   exact this
theorem xZ (k:Int):∀(ts:List Tm),(∀y∈ts,dU y)→∀(i:Nat) (a acc c:Int),0≤acc→0≤c→ka k ts i a (mxI acc c)=mxI acc (jF k ts i a c)
 | [],_,i,a,acc,c,_,_=>by rw [rW,jF]
 | t::ts,h,i,a,acc,c,h0,h1=>by
  rw [u9,pS,zK t (h t aMs) _ _ (by unfold mxI;split<;>omega),zJ]
  exact xZ k ts (fun y hy=>h y (aMt _ hy)) (i + 1) a acc _ h0 (by unfold mxI;split<;>omega)
end
theorem Br (x:Tm) (a:Int):0≤jE x a:=by
 rw [sR]
 cases iEq x.k 2 with
 | true=>simp only [cond_true];unfold mxI;split<;>omega
 | false=>simp only [cond_false];exact (uc x.k x.ts 0 a 0).1
theorem J7 {x:Tm} (h:cL x=true):xY x=jE x 0:=by
 unfold xY
 rw [h]
 show qe x 0 0=_
 rw [zK x (cK h) 0 0 (by omega)]
 have:=Br x 0
 unfold mxI;split<;>omega
noncomputable def Bt (t:Tm):Bool:=!cL t || iLt 0 (xY t)
theorem Mi (t:Tm):Bt t = !ic t:=by
 unfold Bt ic
 cases h:cL t with
 | false=>rfl
 | true=>rw [J7 h];simp
noncomputable def kb (d:Dl):Bool:=!iF d || (d.aj.any (fun i=>iLt 8 (.ofNat i.cs.length)) || (eG d).any Bt)
theorem di (z:Nat) (b:Bool) (rows:List V):ai (.list z (aw b) 0 rows)=.list z (aw b) 0 rows:=by cases b<;>rfl
theorem Fk (x:In):V.strip (encI x)=encI x:=by
 show V.agg [.str x.name,.int .u8 x.ty.k,.int .i64 x.ty.n,.str x.ty.s,ai (.list (ao x.ty.a x.ty.ls) (aw x.ty.b) 0 (x.ty.ls.map enc)),ai (.list (ao x.ty.c x.ty.ts) (aw x.ty.d) 0 (ag x.ty.ts)),.list 6 .no 0 (x.cs.map fO)]=_
 rw [di,di]
theorem Fl (x:Ct):V.strip (fO x)=fO x:=by
 show V.agg [.str x.name,.int .u8 x.ty.k,.int .i64 x.ty.n,.str x.ty.s,ai (.list (ao x.ty.a x.ty.ls) (aw x.ty.b) 0 (x.ty.ls.map enc)),ai (.list (ao x.ty.c x.ty.ts) (aw x.ty.d) 0 (ag x.ty.ts))]=_
 rw [di,di]
theorem x7 (x:In) (l:List V):bn V.strip (encI x::l)=encI x::bn V.strip l:=by
 show V.strip (encI x)::_=_
 rw [Fk];rfl
theorem tj (x:Ct) (l:List V):bn V.strip (fO x::l)=fO x::bn V.strip l:=by
 show V.strip (fO x)::_=_
 rw [Fl];rfl
section
variable {n:Nat} {d:Dl} {sz:Nat} {tok:Tok} {rows:List V} {S:St}
theorem h97 {x:In} (hn:1≤n):RN n (.f 97) [encI x] S=some (.bool (iLt 8 (.ofNat x.cs.length)),S):=by
 obtain⟨q,rfl⟩:=up hn
 have h:∃r,frame Tryz.cfg (RN q) q 97 [encI x] St.empty=some r∧∃S',r=(.bool (iLt 8 (.ofNat x.cs.length)),S'):=by
  refine aU (fn:=Tryz.f97) (p:=fun r=>∃S',r=(.bool (iLt 8 (.ofNat x.cs.length)),S')) rfl rfl ?_
  refine ah.mk (fun hm=>?_) (fun hm=>?_)
  ·rw [aq,aLm] at hm
   rw [hm];exact⟨_,rfl,_,rfl⟩
  ·rw [aq,aLm] at hm
   rw [hm];exact⟨_,rfl,_,rfl⟩
 obtain⟨r,k6,S',rfl⟩:=h
 exact bC k6 (by simp only [x7,an]) rfl rfl rfl rfl rfl
theorem h99 {x:Tm} (hs:Sm x) (hn:wt x + 30≤n):RN n (.f 99) [aB x] S=some (.bool (Bt x),S):=by
 obtain⟨q,rfl⟩:=up (show 1≤n by omega)
 have h:∃r,frame Tryz.cfg (RN q) q 99 [aB x] St.empty=some r∧∃S',r=(.bool (Bt x),S'):=by
  refine aU (fn:=Tryz.f99) (p:=fun r=>∃S',r=(.bool (Bt x),S')) rfl rfl ?_
  unfold Bt
  refine ae.mkB (h67 hs (by omega)) (fun hm=>?_) (fun hm=>?_)
  ·rw [hm]
   refine ae.mk _ _ (Sk hs (by omega) (by have:=fX hm;omega)) ?_
   refine ah.mk (fun hq=>?_) (fun hq=>?_)
   ·rw [hq];exact⟨_,rfl,_,rfl⟩
   ·rw [hq];exact⟨_,rfl,_,rfl⟩
  ·rw [hm]
   exact⟨_,rfl,_,rfl⟩
 obtain⟨r,k6,S',rfl⟩:=h
 exact bC k6 (by simp only [bh,an]) rfl rfl rfl rfl rfl
theorem x8 {d:Dl} (h:xK d):(eG d).length≤210:=by
 have h1:=mv h.cs d.aj.length
 have h2:=h.few
 have:d.aj.length * 20≤10 * 20:=Nat.mul_le_mul (by omega) (by omega)
 unfold eG
 rw [aLa,aLm,aLm,tg]
 unfold iY
 omega
theorem tm {is:List In} {q:Nat×Ct} (h:q∈fZ is):∃i∈is,q.2∈i.cs:=by
 unfold fZ at h
 obtain⟨⟨i,x⟩,h1,h2⟩:=List.mem_flatMap.1 h
 obtain⟨c,h3,rfl⟩:=List.mem_map.1 h2
 exact⟨i,List.fst_mem_of_mem_zipIdx h1,h3⟩
theorem oC {d:Dl} {t:Tm} (h:t∈eG d):t∈bZ d:=by
 unfold eG at h
 rcases List.mem_append.1 h with h | h
 ·obtain⟨i,hi,rfl⟩:=List.mem_map.1 h
  exact (dS hi).1
 ·obtain⟨q,hq,rfl⟩:=List.mem_map.1 h
  obtain⟨i,hi,hc⟩:=tm hq
  exact (dS hi).2 _ hc
theorem h52 {W:Nat} (hd:qO d W) (hls:d.ty.ls.length≤1000∧d.val.ls.length≤1000) (hn:W + 1000≤n):RN n (.f 52) [cU d sz tok rows] S=some (.bool (kb d),S):=by
 obtain⟨q,rfl⟩:=up (show 1≤n by omega)
 have gQ:=hd.nm.few
 have htl:=x8 hd.nm
 obtain⟨q2,hq2⟩ : ∃q2,q=q2 + 2:=⟨q - 2,by omega⟩
 have h:∃r,frame Tryz.cfg (RN q) q 52 [cU d sz tok rows] St.empty=some r∧∃S',r=(.bool (kb d),S'):=by
  refine aU (fn:=Tryz.f52) (p:=fun r=>∃S',r=(.bool (kb d),S')) rfl rfl ?_
  have tl1:d.ty.ts.length≤1000000000:=by have:=iU d.ty.ts;have:=eQ d.ty;have:=hd.dty.2.1;omega
  have tl2:d.val.ts.length≤1000000000:=by have:=iU d.val.ts;have:=eQ d.val;have:=hd.H0.2.1;omega
  have fin:∀(b:Bool) (r:V×St),kb d=b→(∃S',r=(.bool b,S'))→∃S',r=(.bool (kb d),S'):=fun b r h1 h2=>by rw [h1];exact h2
  have p7:iF d=false→kb d=true:=fun h=>by unfold kb;rw [h];rfl
  have n1:=zI d.ty
  have n2:=zI d.val
  refine ah.mk (fun c1=>?_) (fun c1=>?_)
  ·exact⟨_,rfl,fin true _ (p7 (by unfold iF;rw [show iEq d.kind 4=false by simpa using c1];rfl)) ⟨_,rfl⟩⟩
  have c1' : iEq d.kind 4=true:=by simpa using c1
  refine ab.mkB uT (fun c2=>?_) (fun c2=>?_)
  ·exact⟨_,rfl,fin true _ (p7 (by unfold iF;rw [c1',show decide (d.name=[])=false by simpa using c2];rfl)) ⟨_,rfl⟩⟩
  have c2' : decide (d.name=[])=true:=by simpa using c2
  refine ae.mkB (h95 (x:=d.ty) (by omega) tl1 (by omega)) (fun c3=>?_) (fun c3=>?_)
  rotate_left
  ·exact⟨_,rfl,fin true _ (p7 (by unfold iF;rw [c1',c2',← n1,c3];rfl)) ⟨_,rfl⟩⟩
  refine ae.mkB (h95 (x:=d.val) (by omega) tl2 (by omega)) (fun c4=>?_) (fun c4=>?_)
  rotate_left
  ·exact⟨_,rfl,fin true _ (p7 (by unfold iF;rw [c1',c2',← n1,c3,← n2,c4];rfl)) ⟨_,rfl⟩⟩
  refine ah.mk (fun c5=>?_) (fun c5=>?_)
  ·exact⟨_,rfl,fin true _ (p7 (by unfold iF;rw [c1',c2',← n1,c3,← n2,c4,c5];rfl)) ⟨_,rfl⟩⟩
  refine ah.mk (fun c6=>?_) (fun c6=>?_)
  ·exact⟨_,rfl,fin true _ (p7 (by unfold iF;rw [c1',c2',← n1,c3,← n2,c4,c5,c6];rfl)) ⟨_,rfl⟩⟩
  refine ah.mk (fun c7=>?_) (fun c7=>?_)
  ·rw [aq,aLm] at c7
   exact⟨_,rfl,fin true _ (p7 (by unfold iF;rw [c1',c2',← n1,c3,← n2,c4,c5,c6,c7];rfl)) ⟨_,rfl⟩⟩
  rw [aq,aLm] at c7
  refine ah.mk (fun c8=>?_) (fun c8=>?_)
  ·rw [aq,aLm] at c8
   exact⟨_,rfl,fin true _ (p7 (by unfold iF;rw [c1',c2',← n1,c3,← n2,c4,c5,c6,c7,c8];rfl)) ⟨_,rfl⟩⟩
  rw [aq,aLm] at c8
  have ha:iF d=true:=by unfold iF;rw [c1',c2',← n1,c3,← n2,c4,c5,c6,c7,c8];rfl
  have Sl:=p96 (n:=q2) (f:=97) (first:=[]) (cap:=[]) (S:=St.empty) (fun i:In=>iLt 8 (.ofNat i.cs.length)) d.aj (by omega) (by omega) rfl (fun x _=>.inl ⟨rfl,rfl,h97 (by omega)⟩)
  obtain⟨b,OG⟩:=h98 (n:=q) (d:=d) (sz:=sz) (tok:=tok) (rows:=rows) (S:=St.empty) (by omega) (fun i hi=>by have:=hd.nm.cs i hi;omega) hd.nm.smD (by omega)
  have Sn:=p65 (n:=q2) (f:=99) (first:=[]) (cap:=[]) (S:=St.empty) Bt (eG d) false b (by omega) (by omega) rfl (fun x hx=>by
   obtain⟨x1,x2,x3⟩:=hd.ty x (oC hx)
   exact .inl ⟨rfl,rfl,h99 x1 (by omega)⟩)
  subst hq2
  refine ae.mkB Sl (fun c9=>?_) (fun c9=>?_)
  ·exact⟨_,rfl,fin true _ (by unfold kb;rw [ha,c9];rfl) ⟨_,rfl⟩⟩
  ·refine ae.mk _ _ OG ?_
   refine ae.mkB Sn (fun c10=>?_) (fun c10=>?_)
   ·exact⟨_,rfl,fin true _ (by unfold kb;rw [ha,c9,c10];rfl) ⟨_,rfl⟩⟩
   ·exact⟨_,rfl,fin false _ (by unfold kb;rw [ha,c9,c10];rfl) ⟨_,rfl⟩⟩
 obtain⟨r,k6,S',rfl⟩:=h
 exact xV k6 (by simp only [eF,an]) rfl rfl rfl rfl rfl
end
noncomputable def wcl:V:=.fn 146 3 [] [.ptr (.box 1) 0,.ptr (.box 2) 0]
noncomputable def stS (B0:Blk) (g:V) (T:List Nat):St:={ heap:=[B0,.cells 58 [g],.cells 58 [wcl]],aA:=T }
section
variable {f top:Nat} {first cap:List V} {B0:Blk} {T:List Nat} {p:Tm→Bool} {Q:Tm→Prop} (hQ:∀x,Q x→∀y∈x.ts,Q y)
include hQ
theorem P1:∀(n:Nat) (x:Tm),Q x→3 * wt x + 3≤n→wt x < 1000000000→(∀y m,Q y→wt y≤wt x→n≤m + 3 * wt x + 1→FnB m f (cz first (cz [aB y] cap)) (p y) (stS B0 (.fn f top first cap) T))→
 RN n (.f 146) [aB x,.ptr (.box 1) 0,.ptr (.box 2) 0] (stS B0 (.fn f top first cap) T)=some (.bool (m4 p x),stS B0 (.fn f top first cap) T)
 | 0,x,_,h,_,_=>by omega
 | n + 1,x,hqx,h,hw,hp=>by
  have hxl:x.ts.length < 1000000000∧x.ts.length + 3≤n:=by
   have:=cO x
   have:=iz x.ts
   omega
  have hq:∃r,frame Tryz.cfg (RN n) n 146 [aB x,.ptr (.box 1) 0,.ptr (.box 2) 0] (stS B0 (.fn f top first cap) T)=some r∧r=(.bool (m4 p x),stS B0 (.fn f top first cap) T):=by
   refine aU (fn:=Tryz.f146) (p:=fun r=>r=(.bool (m4 p x),stS B0 (.fn f top first cap) T)) rfl rfl ?_
   obtain⟨m,rfl⟩:=up (show 2≤n by omega)
   have h65:RN (m + 2) (.f 65) [.list (ao x.c x.ts) (aw x.d) 0 (ag x.ts),wcl] (stS B0 (.fn f top first cap) T)=some (.bool (x.ts.any (m4 p)),stS B0 (.fn f top first cap) T):=
    q65 (n:=m) (f:=146) (top:=2) (first:=[]) (cap:=[.ptr (.box 1) 0,.ptr (.box 2) 0]) (m4 p) x.ts x.c (aw x.d) hxl.1 (by omega) (fun y hy=>by
     have hyw:=cT hy
     exact .inr (.inr ⟨rfl,fun A=>rfl,rfl,rfl,P1 m y (hQ x hqx y hy) (by omega) (by omega) (fun z k h0 h1 h2=>hp z k h0 (by omega) (by omega))⟩))
   have hf:=hp x (m + 2) hqx (Nat.le_refl _) (by omega)
   have jz:m4 p x=(p x || x.ts.any (m4 p)):=by rw [Be,xE]
   have cont:p x=true→m4 p x=true:=fun h=>by rw [jz,h];rfl
   have zL:p x=false→m4 p x=x.ts.any (m4 p):=fun h=>by rw [jz,h];rfl
   rcases hf with⟨h1,h2,h3⟩ | ⟨h1,l,S',h2,h3,h4⟩ | ⟨h1,h2,h3,h4,h5⟩
   ·conv=>whnf
    split
    ·rename_i hq;exact absurd (h1.symm.trans hq) (by decide)
    ·refine dP h2 h3 ?_
     cases he:p x with
     | true=>exact⟨_,rfl,by rw [cont he];rfl⟩
     | false=>
      refine ae.mkB h65 (fun hb=>?_) (fun hb=>?_)
      ·exact⟨_,rfl,by rw [zL he,hb];rfl⟩
      ·exact⟨_,rfl,by rw [zL he,hb];rfl⟩
   ·conv=>whnf
    split
    ·split
     ·rename_i l' hl
      cases (h2 _).symm.trans hl
      split
      ·refine⟨_,_,h4,rfl,?_⟩
       cases he:p x with
       | true=>exact⟨_,rfl,by rw [cont he];rfl⟩
       | false=>
        refine ae.mkB h65 (fun hb=>?_) (fun hb=>?_)
        ·exact⟨_,rfl,by rw [zL he,hb];rfl⟩
        ·exact⟨_,rfl,by rw [zL he,hb];rfl⟩
      ·rename_i hq;exact absurd (h3.symm.trans hq) (by decide)
     ·rename_i hl;cases (h2 _).symm.trans hl
    ·rename_i hq;exact absurd (h1.symm.trans hq) (by decide)
   ·conv=>whnf
    split
    ·split
     ·rename_i l' hl
      cases (h2 _).symm.trans hl
      split
      ·rename_i hq;exact absurd (h3.symm.trans hq) (by decide)
      ·refine dP h4 h5 ?_
       cases he:p x with
       | true=>exact⟨_,rfl,by rw [cont he];rfl⟩
       | false=>
        refine ae.mkB h65 (fun hb=>?_) (fun hb=>?_)
        ·exact⟨_,rfl,by rw [zL he,hb];rfl⟩
        ·exact⟨_,rfl,by rw [zL he,hb];rfl⟩
     ·rename_i hl;cases (h2 _).symm.trans hl
    ·rename_i hq;exact absurd (h1.symm.trans hq) (by decide)
  obtain⟨r,k1,rfl⟩:=hq
  exact bw rfl k1
theorem P2 {n:Nat} {xs:List Tm} {c:Bool} {tok:Tok} {w:Nat} (hl:xs.length < 1000000000) (hw:∀y∈xs,Q y∧wt y≤w) (hww:w < 1000000000) (hn:3 * w + xs.length + 20≤n)
 (hp:∀y m,Q y→wt y≤w→n≤m + 3 * w + 20→FnB m f (cz first (cz [aB y] cap)) (p y) (stS B0 (.fn f (top + 1) first cap) T)) :
 ∃S',RN n (.f 101) [.list (ao c xs) tok 0 (ag xs),.fn f (top + 1) first cap] { heap:=[B0],aA:=T }=some (.bool (xs.any (m4 p)),S'):=by
 obtain⟨q,rfl⟩:=up (show 4≤n by omega)
 have h65:RN (q + 3) (.f 65) [.list (ao c xs) tok 0 (ag xs),wcl] (stS B0 (.fn f (top + 1) first cap) T)=some (.bool (xs.any (m4 p)),stS B0 (.fn f (top + 1) first cap) T):=
  q65 (n:=q + 1) (f:=146) (top:=2) (first:=[]) (cap:=[.ptr (.box 1) 0,.ptr (.box 2) 0]) (m4 p) xs c tok hl (by omega) (fun y hy=>by
   have hyw:=(hw y hy).2
   exact .inr (.inr ⟨rfl,fun A=>rfl,rfl,rfl,P1 hQ (q + 1) y (hw y hy).1 (by omega) (by omega) (fun z k h0 h1 h2=>hp z k h0 (by omega) (by omega))⟩))
 have h:∃r,frame Tryz.cfg (RN (q + 3)) (q + 3) 101 [.list (ao c xs) tok 0 (ag xs),.fn f (top + 1) first cap] { heap:=[B0],aA:=T }=some r∧∃S',r=(.bool (xs.any (m4 p)),S'):=by
  refine aU (fn:=Tryz.f101) (p:=fun r=>∃S',r=(.bool (xs.any (m4 p)),S')) rfl rfl ?_
  refine ae.mkB h65 (fun hb=>?_) (fun hb=>?_)
  ·exact⟨_,rfl,by rw [hb];exact⟨_,rfl⟩⟩
  ·exact⟨_,rfl,by rw [hb];exact⟨_,rfl⟩⟩
 obtain⟨r,k1,S',rfl⟩:=h
 exact⟨S',bw rfl k1⟩
end
section
variable {n:Nat} {d:Dl} {sz:Nat} {tok:Tok} {rows:List V} {S:St}
theorem Sq {x:In} {s:List UInt8} (hn:1≤n):RN n (.f 184) [encI x,.ptr (.box 0) 0] { heap:=[.cells 9 [.str s]],aA:=[] }=some (.bool (decide (x.name=s)),{ heap:=[.cells 9 [.str s]],aA:=[] }):=by
 obtain⟨q,rfl⟩:=up hn
 refine bw rfl ?_
 refine aO Tryz.cfg _ (fn:=Tryz.f184) rfl rfl ?_
 refine ab.mkB lf (fun h=>?_) (fun h=>?_)
 ·rw [h];rfl
 ·rw [h];rfl
theorem P3 {s:List UInt8} (hl:d.aj.length≤100) (hn:110≤n):RN n (.f 155) [cU d sz tok rows,.str s] S=some (.int .i64 (ff d.aj s),S):=by
 obtain⟨q,rfl⟩:=up (show 4≤n by omega)
 have hg:=OD (n:=q + 2) (f:=184) (top:=1) (first:=[]) (cap:=[.ptr (.box 0) 0]) (S:={ heap:=[.cells 9 [.str s]],aA:=[] }) (fun i:In=>decide (i.name=s)) d.aj (by omega) (by omega) (fun x _=>.inr (.inr ⟨rfl,fun A=>rfl,rfl,rfl,Sq (by omega)⟩))
 have OH:RN (q + 3) (.f 143) [.list 7 .no 0 (d.aj.map encI),.fn 184 1 [] [.ptr (.box 0) 0]] { heap:=[.cells 9 [.str s]],aA:=[] }=some (.int .i64 (ff d.aj s),{ heap:=[.cells 9 [.str s]],aA:=[] }):=bw rfl hg
 have h:∃r,frame Tryz.cfg (RN (q + 3)) (q + 3) 155 [cU d sz tok rows,.str s] St.empty=some r∧∃S',r=(.int .i64 (ff d.aj s),S'):=by
  refine aU (fn:=Tryz.f155) (p:=fun r=>∃S',r=(.int .i64 (ff d.aj s),S')) rfl rfl ?_
  refine ae.mk _ _ OH ?_
  exact⟨_,rfl,_,rfl⟩
 obtain⟨r,k6,S',rfl⟩:=h
 exact bC k6 (by simp only [eF,jI,an]) rfl rfl rfl rfl rfl
theorem Sr {x:Tm} {g:V} {T:List Nat} (hl:d.aj.length≤100) (hn:120≤n):RN n (.f 157) [aB x,.ptr (.box 0) 0] (stS (.cells 106 [cU d sz tok rows]) g T)=some (.bool (mj d.aj x),stS (.cells 106 [cU d sz tok rows]) g T):=by
 obtain⟨q,rfl⟩:=up (show 1≤n by omega)
 refine bw rfl ?_
 refine aO Tryz.cfg _ (fn:=Tryz.f157) rfl rfl ?_
 unfold mj
 refine ah.mk (fun h=>?_) (fun h=>?_)
 ·rw [h]
  refine ae.mk _ _ (P3 hl (by omega)) ?_
  refine ah.mk (fun h2=>?_) (fun h2=>?_)
  ·rw [h2];rfl
  ·rw [h2];rfl
 ·rw [h];rfl
theorem Ss {xs:List Tm} {c:Bool} {tb:Bool} {w:Nat} (hd:d.aj.length≤100) (hl:xs.length < 1000000000) (hw:∀y∈xs,wt y≤w) (hww:w < 1000000000) (hn:3 * w + xs.length + 200≤n) :
 RN n (.f 117) [cU d sz tok rows,.list (ao c xs) (aw tb) 0 (ag xs)] S=some (.bool (gg d.aj xs),S):=by
 obtain⟨q,rfl⟩:=up (show 1≤n by omega)
 obtain⟨S1,OI⟩:=P2 (n:=q) (xs:=xs) (c:=c) (tok:=aw tb) (w:=w) (f:=157) (top:=0) (first:=[]) (cap:=[.ptr (.box 0) 0]) (B0:=.cells 106 [cU d sz tok rows]) (T:=[]) (p:=mj d.aj) (Q:=fun _=>True) (fun _ _ _ _=>trivial) hl (fun y hy=>⟨trivial,hw y hy⟩) hww (by omega)
  (fun y m _ _ h2=>.inr (.inr ⟨rfl,fun A=>rfl,rfl,rfl,Sr hd (by omega)⟩))
 have h:∃r,frame Tryz.cfg (RN q) q 117 [cU d sz tok rows,.list (ao c xs) (aw tb) 0 (ag xs)] St.empty=some r∧∃S',r=(.bool (gg d.aj xs),S'):=by
  refine aU (fn:=Tryz.f117) (p:=fun r=>∃S',r=(.bool (gg d.aj xs),S')) rfl rfl ?_
  refine ae.mk _ _ OI ?_
  exact⟨_,rfl,_,rfl⟩
 obtain⟨r,k6,S',rfl⟩:=h
 exact bC k6 (by simp only [eF,b8,an]) rfl rfl rfl rfl rfl
theorem Su {i:Int} (hn:1≤n):RN n (.f 106) [.int .i64 i] S=some (.bool (!iLt i 0),S):=by
 obtain⟨q,rfl⟩:=up hn
 have h:∃r,frame Tryz.cfg (RN q) q 106 [.int .i64 i] St.empty=some r∧∃S',r=(.bool (!iLt i 0),S'):=by
  refine aU (fn:=Tryz.f106) (p:=fun r=>∃S',r=(.bool (!iLt i 0),S')) rfl rfl ?_
  refine ah.mk (fun h=>?_) (fun h=>?_)
  ·rw [h];exact⟨_,rfl,_,rfl⟩
  ·rw [h];exact⟨_,rfl,_,rfl⟩
 obtain⟨r,k6,S',rfl⟩:=h
 exact bC k6 (by simp only [bf,an]) rfl rfl rfl rfl rfl
noncomputable def psL (l:Lv) (m:Nat):List Int:=[l.p0,l.p1,l.p2,l.p3].drop m
theorem P4 (l:Lv) (m:Nat) (hm:m < 4):(psL l m).any (fun i=>!iLt i 0)=hiL m l:=by
 unfold psL hiL
 rcases m with _ | _ | _ | _ | m
 ·rfl
 ·rfl
 ·rfl
 ·rfl
 ·omega
theorem Sv {l:Lv} {m:Nat} {g:V} {T:List Nat} (hm:m < 4) (hn:20≤n):RN n (.f 104) [enc l,.ptr (.box 0) 0] (stS (.cells 3 [.int .i64 (.ofNat m)]) g T)=some (.bool (hiL m l),stS (.cells 3 [.int .i64 (.ofNat m)]) g T):=by
 obtain⟨q,rfl⟩:=up (show 3≤n by omega)
 have Mj:RN (q + 2) (.f 105) [.list 1 (aw true) 0 ((psL l m).map mw),.fn 106 0 [] []] (stS (.cells 3 [.int .i64 (.ofNat m)]) g T)=some (.bool (hiL m l),stS (.cells 3 [.int .i64 (.ofNat m)]) g T):=by
  rw [← P4 l m hm]
  exact Se (n:=q) (f:=106) (first:=[]) (cap:=[]) (fun i=>!iLt i 0) (psL l m) true (by unfold psL;rw [List.length_drop];simp only [aLc,List.length_nil];omega) (by unfold psL;rw [List.length_drop];simp only [aLc,List.length_nil];omega) rfl (fun x _=>.inl ⟨rfl,rfl,Su (by omega)⟩)
 refine bw rfl ?_
 refine aO Tryz.cfg _ (fn:=Tryz.f104) rfl rfl ?_
 rcases m with _ | _ | _ | _ | m
 ·refine ab.mk (.slc (.loc 2) 1 1 4 4) rfl ?_
  refine ae.mk _ _ Mj ⟨rfl,?_⟩
  rfl
 ·refine ab.mk (.slc (.loc 2) 2 1 3 3) rfl ?_
  refine ae.mk _ _ Mj ⟨rfl,?_⟩
  rfl
 ·refine ab.mk (.slc (.loc 2) 3 1 2 2) rfl ?_
  refine ae.mk _ _ Mj ⟨rfl,?_⟩
  rfl
 ·refine ab.mk (.slc (.loc 2) 4 1 1 1) rfl ?_
  refine ae.mk _ _ Mj ⟨rfl,?_⟩
  rfl
 ·omega
theorem Sw {x:Tm} {m:Nat} {g:V} {T:List Nat} (hm:m < 4) (hl:x.ls.length < 1000000000) (hn:x.ls.length + 40≤n):RN n (.f 102) [aB x,.ptr (.box 0) 0] (stS (.cells 3 [.int .i64 (.ofNat m)]) g T)=some (.bool (x.ls.any (hiL m)),stS (.cells 3 [.int .i64 (.ofNat m)]) g T):=by
 obtain⟨q,rfl⟩:=up (show 3≤n by omega)
 have Sx:=Sa (n:=q) (f:=104) (top:=0) (first:=[]) (cap:=[.ptr (.box 0) 0]) (S:=stS (.cells 3 [.int .i64 (.ofNat m)]) g T) (hiL m) x.ls x.a (aw x.b) hl (by omega) (fun y _=>.inr (.inr ⟨rfl,fun A=>rfl,rfl,rfl,Sv hm (by omega)⟩))
 refine bw rfl ?_
 refine aO Tryz.cfg _ (fn:=Tryz.f102) rfl rfl ?_
 refine ae.mk _ _ Sx ?_
 rfl
theorem vz {x:Tm} (h:bm x=true):x.ls.length≤20:=by
 have:=xo h
 unfold jh at this
 rwa [Nat.ble_eq] at this
noncomputable def x9 (d:Dl):Bool:=iLt d.params 0 || (!iLt d.params 4 || (eG d).any (hiT (pN d)))
theorem h53 {W:Nat} (hd:qO d W) (hls:∀t∈eG d,dU t) (hW:W < 100000000) (hn:3 * W + 1000≤n):RN n (.f 53) [cU d sz tok rows] S=some (.bool (x9 d),S):=by
 obtain⟨q,rfl⟩:=up (show 1≤n by omega)
 have gQ:=hd.nm.few
 have htl:=x8 hd.nm
 have h:∃r,frame Tryz.cfg (RN q) q 53 [cU d sz tok rows] St.empty=some r∧∃S',r=(.bool (x9 d),S'):=by
  refine aU (fn:=Tryz.f53) (p:=fun r=>∃S',r=(.bool (x9 d),S')) rfl rfl ?_
  unfold x9
  refine ah.mk (fun c1=>?_) (fun c1=>?_)
  ·rw [c1];exact⟨_,rfl,_,rfl⟩
  refine ah.mk (fun c2=>?_) (fun c2=>?_)
  ·rw [c1,c2];exact⟨_,rfl,_,rfl⟩
  have hpp:d.params=.ofNat (pN d):=by
   rw [cm,decide_eq_false_iff_not] at c1
   unfold pN
   simp only [aOn];omega
  have hp4:pN d < 4:=by
   have c2' : iLt d.params 4=true:=by simpa using c2
   rw [hpp,cm,decide_eq_true_eq] at c2'
   simp only [aOn] at c2';omega
  obtain⟨b,OG⟩:=h98 (n:=q) (d:=d) (sz:=sz) (tok:=tok) (rows:=rows) (S:={ heap:=[.cells 3 [.int .i64 (.ofNat (pN d))]],aA:=[] }) (by omega) (fun i hi=>by have:=hd.nm.cs i hi;omega) hd.nm.smD (by omega)
  obtain⟨S1,OI⟩:=P2 (n:=q) (xs:=eG d) (c:=false) (tok:=aw b) (w:=W) (f:=102) (top:=0) (first:=[]) (cap:=[.ptr (.box 0) 0]) (B0:=.cells 3 [.int .i64 (.ofNat (pN d))]) (T:=[]) (p:=fun x=>x.ls.any (hiL (pN d))) (Q:=dU) (fun x hx y hy=>((cp x).1 hx).2 y hy) (by omega) (fun y hy=>⟨hls y hy,(hd.ty y (oC hy)).2.2⟩) (by omega) (by omega)
   (fun y m h0 h1 h2=>.inr (.inr ⟨rfl,fun A=>rfl,rfl,rfl,Sw hp4 (by have:=vz ((cp y).1 h0).1;omega) (by have:=vz ((cp y).1 h0).1;omega)⟩))
  rw [hpp] at c1 c2 ⊢
  rw [c1,c2]
  refine ae.mk _ _ OG ?_
  refine ae.mk _ _ OI ?_
  exact⟨_,rfl,_,rfl⟩
 obtain⟨r,k6,S',rfl⟩:=h
 exact xV k6 (by simp only [eF,an]) rfl rfl rfl rfl rfl
end
section
variable {n:Nat} {S:St}
theorem P5 {ls ms:List Lv} {a a2 b b2:Bool} (hl:ls.length < 1000000000) (hn:ls.length + 3≤n):RN n (.f 156) [.list (ao a ls) (aw b) 0 (ls.map enc),.list (ao a2 ms) (aw b2) 0 (ms.map enc)] S=some (.bool (decide (ls=ms)),S):=by
 obtain⟨q,rfl⟩:=up (show 1≤n by omega)
 have h:∃r,frame Tryz.cfg (RN q) q 156 [.list (ao a ls) (aw b) 0 (ls.map enc),.list (ao a2 ms) (aw b2) 0 (ms.map enc)] St.empty=some r∧∃S',r=(.bool (decide (ls=ms)),S'):=by
  refine aU (fn:=Tryz.f156) (p:=fun r=>∃S',r=(.bool (decide (ls=ms)),S')) rfl rfl ?_
  refine ah.mk (fun hc=>?_) (fun hc=>?_)
  ·rw [aq,aq,aLm,aLm] at hc
   have he:decide (ls=ms)=false:=by
    rw [decide_eq_false_iff_not]
    intro e
    rw [e,bW] at hc
    simp at hc
   rw [he];exact⟨_,rfl,_,rfl⟩
  ·rw [aq,aq,aLm,aLm] at hc
   have hlen:ls.length=ms.length:=by
    rw [fQ] at hc
    simpa using hc
   refine aD.loop 26 (σ:=Unit) ls.length (fun j _=>{ nt:=26,tmps:=[(0,.list (ao a ls) (aw b) 0 (ls.map enc)),(1,.list (ao a2 ms) (aw b2) 0 (ms.map enc)),(12,.int .i64 (.ofNat (aH (ls.map enc)))),(13,.int .i64 (.ofNat j))],locs:=[],fix:=[] }) (fun _ _=>St.empty)
    (fun j _=>decide (ls=ms)=((ls.zip ms).drop j).all fun q=>decide (q.1=q.2)) () (by omega) (by rw [List.drop_zero,JJ hlen]) ?_ ?_
   ·intro j _ hj hp
    obtain⟨x,hx⟩ : ∃x,ls[j]?=some x:=⟨_,aGe hj⟩
    obtain⟨y,hy⟩ : ∃y,ms[j]?=some y:=⟨_,aGe (by omega)⟩
    rw [fz (GJ hx hy)] at hp
    refine ah.yes (ltM hj) ?_
    refine ab.mk _ (xU hx) ?_
    refine ab.mk _ (xU hy) ?_
    refine ab.mkB (eqL x y) (fun he=>?_) (fun he=>?_)
    ·have he' : decide (x=y)=false:=by simpa using he
     rw [he'] at hp
     rw [hp];exact⟨_,rfl,_,rfl⟩
    ·have he' : decide (x=y)=true:=by simpa using he
     rw [he'] at hp
     refine ab.mk _ (az (by omega)) ?_
     exact⟨(),hp,rfl,rfl⟩
   ·intro _ hp
    rw [List.drop_of_length_le (by simp;omega)] at hp
    refine ah.no (geM (by omega)) ?_
    rw [hp];exact⟨_,rfl,_,rfl⟩
 obtain⟨r,k6,S',rfl⟩:=h
 exact bC k6 (by cases b<;>cases b2<;>rfl) rfl rfl rfl rfl rfl
noncomputable def eqP (p:Tm→Tm→Bool) (xs ys:List Tm):Bool:=decide (xs.length=ys.length) && (xs.zip ys).all fun q=>p q.1 q.2
@[reducible] noncomputable def J8 (o:Option (Tm×Tm)):List (Nat×List V):=match o with | none=>[] | some (x,y)=>[(8,aC x),(9,aC y)]
theorem Sy {xs ys:List Tm} {a a2 b b2:Bool} (p:Tm→Tm→Bool) (hl:xs.length < 1000000000) (hn:xs.length + 3≤n) (h:∀x∈xs,∀y∈ys,RN (n - 1) (.f 200) [aB x,aB y] St.empty=some (.bool (p x y),St.empty)) :
 RN n (.f 181) [.list (ao a xs) (aw b) 0 (ag xs),.list (ao a2 ys) (aw b2) 0 (ag ys),.fn 200 0 [] []] S=some (.bool (eqP p xs ys),S):=by
 obtain⟨q,rfl⟩:=up (show 1≤n by omega)
 rw [show q + 1 - 1=q from rfl] at h
 have hm:bn V.strip [.list (ao a xs) (aw b) 0 (ag xs),.list (ao a2 ys) (aw b2) 0 (ag ys),.fn 200 0 [] []]=[.list (ao a xs) (aw b) 0 (ag xs),.list (ao a2 ys) (aw b2) 0 (ag ys),.fn 200 0 [] []]:=by cases b<;>cases b2<;>rfl
 have h:∃r,frame Tryz.cfg (RN q) q 181 [.list (ao a xs) (aw b) 0 (ag xs),.list (ao a2 ys) (aw b2) 0 (ag ys),.fn 200 0 [] []] St.empty=some r∧∃S',r=(.bool (eqP p xs ys),S'):=by
  refine aU (fn:=Tryz.f181) (p:=fun r=>∃S',r=(.bool (eqP p xs ys),S')) rfl rfl ?_
  refine ah.mk (fun hc=>?_) (fun hc=>?_)
  ·rw [ak,ak,fQ] at hc
   have he:eqP p xs ys=false:=by unfold eqP;rw [show decide (xs.length=ys.length)=false by simpa using hc];rfl
   rw [he];exact⟨_,rfl,_,rfl⟩
  ·rw [ak,ak,fQ] at hc
   have hlen:xs.length=ys.length:=by simpa using hc
   refine aD.loop 32 (σ:=Option (Tm×Tm)) xs.length (fun j o=>{ nt:=32,tmps:=[(1,.list (ao a2 ys) (aw b2) 0 (ag ys)),(2,.fn 200 0 [] []),(15,.list (ao a xs) (aw b) 0 (ag xs)),(16,.int .i64 (.ofNat (aH (ag xs)))),(17,.int .i64 (.ofNat j))],locs:=J8 o,fix:=[] }) (fun _ _=>St.empty)
    (fun j _=>eqP p xs ys=((xs.zip ys).drop j).all fun q=>p q.1 q.2) none (by omega) (by unfold eqP;rw [hlen];simp) ?_ ?_
   ·intro j o hj hp
    obtain⟨x,hx⟩ : ∃x,xs[j]?=some x:=⟨_,aGe hj⟩
    obtain⟨y,hy⟩ : ∃y,ys[j]?=some y:=⟨_,aGe (by omega)⟩
    rw [fz (x:=(x,y)) (List.getElem?_zip_eq_some.2 ⟨hx,hy⟩)] at hp
    have hxy:=h x (aMg hx) y (aMg hy)
    rcases o with _ | ⟨x0,y0⟩
    all_goals
     refine ah.yes (gI hj) ?_
     refine ab.mk _ (bz hx) ?_
     refine ab.mk _ (bz hy) ?_
     refine ae.mkB hxy (fun he=>?_) (fun he=>?_)
     ·rw [he] at hp
      refine ab.mk _ (az (by omega)) ?_
      exact⟨some (x,y),hp,rfl,rfl⟩
     ·rw [he] at hp
      rw [hp];exact⟨_,rfl,_,rfl⟩
   ·intro o hp
    rw [List.drop_of_length_le (by simp;omega)] at hp
    rcases o with _ | ⟨x0,y0⟩
    all_goals
     refine ah.no (gJ (by omega)) ?_
     rw [hp];exact⟨_,rfl,_,rfl⟩
 obtain⟨r,k6,S',rfl⟩:=h
 exact bC k6 hm rfl rfl rfl rfl rfl
theorem Sz {xs ys:List Tm} {a a2 b b2:Bool} (p:Tm→Tm→Bool) (hl:xs.length < 1000000000) (hn:xs.length + 3≤n) (h:∀x∈xs,∀y∈ys,RN (n - 1) (.f 182) [aB x,aB y] St.empty=some (.bool (p x y),St.empty)) :
 RN n (.f 181) [.list (ao a xs) (aw b) 0 (ag xs),.list (ao a2 ys) (aw b2) 0 (ag ys),.fn 182 0 [] []] S=some (.bool (eqP p xs ys),S):=by
 obtain⟨q,rfl⟩:=up (show 1≤n by omega)
 rw [show q + 1 - 1=q from rfl] at h
 have hm:bn V.strip [.list (ao a xs) (aw b) 0 (ag xs),.list (ao a2 ys) (aw b2) 0 (ag ys),.fn 182 0 [] []]=[.list (ao a xs) (aw b) 0 (ag xs),.list (ao a2 ys) (aw b2) 0 (ag ys),.fn 182 0 [] []]:=by cases b<;>cases b2<;>rfl
 have h:∃r,frame Tryz.cfg (RN q) q 181 [.list (ao a xs) (aw b) 0 (ag xs),.list (ao a2 ys) (aw b2) 0 (ag ys),.fn 182 0 [] []] St.empty=some r∧∃S',r=(.bool (eqP p xs ys),S'):=by
  refine aU (fn:=Tryz.f181) (p:=fun r=>∃S',r=(.bool (eqP p xs ys),S')) rfl rfl ?_
  refine ah.mk (fun hc=>?_) (fun hc=>?_)
  ·rw [ak,ak,fQ] at hc
   have he:eqP p xs ys=false:=by unfold eqP;rw [show decide (xs.length=ys.length)=false by simpa using hc];rfl
   rw [he];exact⟨_,rfl,_,rfl⟩
  ·rw [ak,ak,fQ] at hc
   have hlen:xs.length=ys.length:=by simpa using hc
   refine aD.loop 32 (σ:=Option (Tm×Tm)) xs.length (fun j o=>{ nt:=32,tmps:=[(1,.list (ao a2 ys) (aw b2) 0 (ag ys)),(2,.fn 182 0 [] []),(15,.list (ao a xs) (aw b) 0 (ag xs)),(16,.int .i64 (.ofNat (aH (ag xs)))),(17,.int .i64 (.ofNat j))],locs:=J8 o,fix:=[] }) (fun _ _=>St.empty)
    (fun j _=>eqP p xs ys=((xs.zip ys).drop j).all fun q=>p q.1 q.2) none (by omega) (by unfold eqP;rw [hlen];simp) ?_ ?_
   ·intro j o hj hp
    obtain⟨x,hx⟩ : ∃x,xs[j]?=some x:=⟨_,aGe hj⟩
    obtain⟨y,hy⟩ : ∃y,ys[j]?=some y:=⟨_,aGe (by omega)⟩
    rw [fz (x:=(x,y)) (List.getElem?_zip_eq_some.2 ⟨hx,hy⟩)] at hp
    have hxy:=h x (aMg hx) y (aMg hy)
    rcases o with _ | ⟨x0,y0⟩
    all_goals
     refine ah.yes (gI hj) ?_
     refine ab.mk _ (bz hx) ?_
     refine ab.mk _ (bz hy) ?_
     refine ae.mkB hxy (fun he=>?_) (fun he=>?_)
     ·rw [he] at hp
      refine ab.mk _ (az (by omega)) ?_
      exact⟨some (x,y),hp,rfl,rfl⟩
     ·rw [he] at hp
      rw [hp];exact⟨_,rfl,_,rfl⟩
   ·intro o hp
    rw [List.drop_of_length_le (by simp;omega)] at hp
    rcases o with _ | ⟨x0,y0⟩
    all_goals
     refine ah.no (gJ (by omega)) ?_
     rw [hp];exact⟨_,rfl,_,rfl⟩
 obtain⟨r,k6,S',rfl⟩:=h
 exact bC k6 hm rfl rfl rfl rfl rfl
theorem zM:∀(ts us:List Tm),ts.length=us.length→iV ts us=(ts.zip us).all fun q=>dz q.1 q.2
 | [],us,h=>by rw [iV];rfl
 | t::ts,[],h=>by simp at h
 | t::ts,u::us,h=>by rw [iV,zM ts us (by simpa using h)];rfl
theorem qF (a b:Tm):dz a b=(iEq a.k b.k && (iEq a.n b.n && (decide (a.s=b.s) && (decide (a.ls=b.ls) && eqP dz a.ts b.ts)))):=by
 rw [sS,ak,ak,aq,aq,aLm,aLm,fQ,fQ]
 unfold eqP
 by_cases h1:a.ls=b.ls
 ·by_cases h2:a.ts.length=b.ts.length
  ·rw [zM _ _ h2,h1]
   simp [h2,Bool.and_assoc]
  ·simp [h2]
 ·simp [h1]
theorem P6:∀(n:Nat) (a b:Tm) (S:St),dU a→2 * wt a + 30≤n→wt a < 100000000→RN n (.f 200) [aB a,aB b] S=some (.bool (dz a b),S)
 | 0,a,b,S,_,h,_=>by omega
 | n + 1,a,b,S,ha,hn,hw=>by
  have GR:=(cp a).1 ha
  have hls:=vz GR.1
  have hxl:a.ts.length < 1000000000∧a.ts.length + 3≤n:=by
   have:=cO a
   have:=iz a.ts
   omega
  have h:∃r,frame Tryz.cfg (RN n) n 200 [aB a,aB b] St.empty=some r∧∃S',r=(.bool (dz a b),S'):=by
   refine aU (fn:=Tryz.f200) (p:=fun r=>∃S',r=(.bool (dz a b),S')) rfl rfl ?_
   rw [qF]
   refine ah.mk (fun c1=>?_) (fun c1=>?_)
   ·refine ah.mk (fun c2=>?_) (fun c2=>?_)
    ·refine ab.mkB lf (fun c3=>?_) (fun c3=>?_)
     ·refine ae.mkB (P5 (by omega) (by omega)) (fun c4=>?_) (fun c4=>?_)
      ·refine ae.mkB (Sy dz hxl.1 hxl.2 (fun x hx y _=>P6 (n - 1) x y _ (GR.2 x hx) (by have:=cT hx;omega) (by have:=cT hx;omega))) (fun c5=>?_) (fun c5=>?_)
       ·rw [c1,c2,c3,c4,c5];exact⟨_,rfl,_,rfl⟩
       ·rw [c1,c2,c3,c4,c5];exact⟨_,rfl,_,rfl⟩
      ·rw [c1,c2,c3,c4];exact⟨_,rfl,_,rfl⟩
     ·rw [c1,c2,c3];exact⟨_,rfl,_,rfl⟩
    ·rw [c1,c2];exact⟨_,rfl,_,rfl⟩
   ·rw [c1];exact⟨_,rfl,_,rfl⟩
  obtain⟨r,k6,S',rfl⟩:=h
  exact bC k6 (by simp only [bh,an]) rfl rfl rfl rfl rfl
termination_by n=>n
decreasing_by omega
theorem SA {a b:Tm} (ha:cL a=true) (hsa:Sm a) (hsb:Sm b) (hb:cL b=true) (hn:2 * wt a + wt b + 60≤n):RN n (.f 182) [aB a,aB b] S=some (.bool (dz a b),S):=by
 obtain⟨q,rfl⟩:=up (show 1≤n by omega)
 have hw:=fX ha
 have h:∃r,frame Tryz.cfg (RN q) q 182 [aB a,aB b] St.empty=some r∧∃S',r=(.bool (dz a b),S'):=by
  refine aU (fn:=Tryz.f182) (p:=fun r=>∃S',r=(.bool (dz a b),S')) rfl rfl ?_
  have e1:=h67 (n:=q) (S:=St.empty) hsa (by omega)
  have e2:=h67 (n:=q) (S:=St.empty) hsb (by omega)
  rw [ha] at e1
  rw [hb] at e2
  refine ae.mk _ _ e1 ?_
  refine ae.mk _ _ e2 ?_
  refine ae.mk _ _ (P6 q a b _ (cK ha) (by omega) (by omega)) ?_
  exact⟨_,rfl,_,rfl⟩
 obtain⟨r,k6,S',rfl⟩:=h
 exact bC k6 (by simp only [bh,an]) rfl rfl rfl rfl rfl
end
theorem vb {p:Tm→Bool} {d:Nat}:∀{ts:List Tm} {l r:Nat},dO p ts l d=some r→∀y∈ts,∃l' r',l'≤l∧dv p y l' d=some r'
 | [],l,r,_,y,hy=>by cases hy
 | t::ts,l,r,h,y,hy=>by
  rw [eX] at h
  split at h
  ·rename_i l' h1
   have hle:=sQ _ _ h1
   cases hy with
   | head=>exact⟨_,_,Nat.le_refl _,h1⟩
   | tail _ hy=>
    obtain⟨l2,r2,k1,k2⟩:=vb h y hy
    exact⟨l2,r2,by omega,k2⟩
  ·cases h
theorem tn {x y:Tm} (h:cL x=true) (hy:y∈x.ts):cL y=true:=by
 obtain⟨r,hr⟩:=me h
 obtain⟨l',d',h1,h2,_,hts⟩:=j0 hr
 obtain⟨l2,r2,k1,k2⟩:=vb hts y hy
 have:=zy (q:=bm) (fun _ h=>h) y k2 (by omega:l2≤65536) (by omega:d'≤4096)
 unfold cL
 rw [this];rfl
theorem oD:∀(w:Nat) (x:Tm),wt x≤w→cL x=true→cL (al x).2=true∧∀y∈(al x).1,cL y=true
 | 0,x,hw,_=>by rw [cO] at hw;omega
 | w + 1,x,hw,h=>by
  cases hk:iEq x.k 6 with
  | false=>rw [mO hk];exact⟨h,by simp⟩
  | true=>
   obtain⟨a,b,ht⟩:=fW ((cp x).1 (cK h)).1 (og hk)
   rw [lA hk ht]
   have hb:=tn h (y:=b) (by rw [ht];simp)
   have ha:=tn h (y:=a) (by rw [ht];simp)
   obtain⟨k1,k2⟩:=oD w b (by have:=cT (x:=b) (y:=x) (by rw [ht];simp);omega) hb
   refine⟨k1,fun y hy=>?_⟩
   cases hy with
   | head=>exact ha
   | tail _ hy=>exact k2 y hy
theorem uh:∀(w:Nat) (x:Tm),wt x≤w→cL x=true→cL (aF x).1=true∧∀y∈(aF x).2,cL y=true
 | 0,x,hw,_=>by rw [cO] at hw;omega
 | w + 1,x,hw,h=>by
  cases hk:iEq x.k 4 with
  | false=>rw [ji hk];exact⟨h,by simp⟩
  | true=>
   obtain⟨f,a,ht⟩:=fW ((cp x).1 (cK h)).1 (nB hk)
   rw [hZ hk ht]
   have hf:=tn h (y:=f) (by rw [ht];simp)
   have ha:=tn h (y:=a) (by rw [ht];simp)
   obtain⟨k1,k2⟩:=uh w f (by have:=cT (x:=f) (y:=x) (by rw [ht];simp);omega) hf
   refine⟨k1,fun y hy=>?_⟩
   rcases List.mem_append.1 hy with hy | hy
   ·exact k2 y hy
   ·rw [List.mem_singleton.1 hy];exact ha
theorem rX {x:Tm} (h:cL x=true):Sm x:=(cK h).sm
theorem Fm (a:Tm):∀b,dz a b=dz b a:=by
 induction a using Tm.ind with
 | h a ih=>
  intro b
  rw [qF,qF]
  have e1:iEq a.k b.k=iEq b.k a.k:=by rw [bW,bW,Bool.eq_iff_iff,decide_eq_true_eq,decide_eq_true_eq];exact eq_comm
  have e2:iEq a.n b.n=iEq b.n a.n:=by rw [bW,bW,Bool.eq_iff_iff,decide_eq_true_eq,decide_eq_true_eq];exact eq_comm
  have e3:decide (a.s=b.s)=decide (b.s=a.s):=by rw [Bool.eq_iff_iff,decide_eq_true_eq,decide_eq_true_eq];exact eq_comm
  have e4:decide (a.ls=b.ls)=decide (b.ls=a.ls):=by rw [Bool.eq_iff_iff,decide_eq_true_eq,decide_eq_true_eq];exact eq_comm
  have e5:∀(xs ys:List Tm),(∀x∈xs,∀y,dz x y=dz y x)→eqP dz xs ys=eqP dz ys xs:=by
   intro xs
   induction xs with
   | nil=>intro ys _;cases ys<;>rfl
   | cons x xs ihx=>
    intro ys h
    cases ys with
    | nil=>rfl
    | cons y ys=>
     have h1:=ihx ys (fun z hz=>h z (aMt _ hz))
     have h2:=h x aMs y
     unfold eqP at h1 ⊢
     simp only [aLc,List.zip_cons_cons,List.all_cons]
     rw [h2]
     have e:∀p q r:Bool,(p && (q && r))=(q && (p && r)):=by decide
     rw [e,e (decide (ys.length + 1=xs.length + 1))]
     congr 1
     simpa using h1
  rw [e1,e2,e3,e4,e5 a.ts b.ts (fun x hx y=>ih x hx y)]
noncomputable def tq (fx:Nat) (F l:List Tm):Bool:=!iLt (.ofNat l.length) (.ofNat fx) && (!iLt 12 (.ofNat l.length - .ofNat fx) && (!iLt (.ofNat F.length) (.ofNat fx) && eqP dz (l.take fx) (F.take fx)))
theorem H7 {fx:Nat} {F l:List Tm} (h1:fx≤F.length) (h2:fx≤l.length):eqP dz (l.take fx) (F.take fx)=oj fx F l:=by
 unfold eqP oj
 rw [show decide ((l.take fx).length=(F.take fx).length)=true by rw [decide_eq_true_eq,List.length_take,List.length_take];omega,Bool.true_and]
 have:∀(xs ys:List Tm),((xs.zip ys).all fun q=>dz q.1 q.2)=((ys.zip xs).all fun p=>dz p.1 p.2):=by
  intro xs
  induction xs with
  | nil=>intro ys;cases ys<;>rfl
  | cons x xs ih=>
   intro ys
   cases ys with
   | nil=>rfl
   | cons y ys=>
    simp only [List.zip_cons_cons,List.all_cons]
    rw [ih ys,Fm x y]
 exact this _ _
theorem qf {LT sz by' : Nat} {z' : List V} {xs:List Tm} {c:Bool} {tok:Tok} {m:Nat} (hl:Tryz.cfg.ti LT=some { kind:=.slice 25,size:=sz,bytes:=by',zero:=z' }) (hm:m≤xs.length) :
 ∃c' b',slice Tryz.cfg LT (.list (ao c xs) tok 0 (ag xs)) none (some (.int .i64 (.ofNat m))) none=some (.list (ao c' (xs.take m)) (aw b') 0 (ag (xs.take m))):=by
 obtain⟨c',aV,h⟩:=mr (c:=c) (tok:=tok) hl hm
 have:aV=.tight∨aV=.no:=by
  unfold slice at h
  have hb:bound (some (.int .i64 (.ofNat m)))=some (some m):=by simp [bound]
  have hb0:bound none=some none:=rfl
  rw [hb,hb0] at h
  simp only [hl] at h
  rw [show Tryz.cfg.ti 25=some Tryz.ti25 from rfl] at h
  simp only at h
  have hq:(ag xs).isEmpty=true∨ao c xs=Tryz.ti25.size:=by
   rcases jH c xs with rfl | h
   ·left;rw [ag];rfl
   ·right;rw [h];rfl
  rw [if_pos hq] at h
  unfold lM at h
  simp only [Option.getD_some,Option.getD_none] at h
  rw [if_pos ⟨Nat.zero_le _,by rw [ak];exact hm⟩] at h
  injection h with h
  injection h with _ h2 _ _
  rw [← h2]
  split
  ·exact .inl rfl
  ·exact .inr rfl
 obtain⟨b,rfl⟩:=qz this
 exact⟨c',b,h⟩
section
variable {n:Nat} {d:Dl} {F:List Tm} {c0 e0:Bool} {S:St} {fx W:Nat}
theorem h57 {x:In} {j:Nat} {sz:Nat} {tok:Tok} {rows:List V} (hx:d.aj[j]?=some x) (hfx:d.fixed=.ofNat fx) (hf:fx≤100) (ha:dU x.ty) (hw:wt x.ty < 1000000000) (hn:wt x.ty + 10≤n):RN n (.f 57) [cU d sz tok rows,.int .i64 (.ofNat j)] S=some (.int .i64 (a6 d x),S):=by
 obtain⟨q,rfl⟩:=up (show 1≤n by omega)
 have hpw:=(fy _ _ (Nat.le_refl _) ha).1
 obtain⟨q0,k1,T1,tk,rfl,hg⟩:=h56 (n:=q) (x:=x.ty) (H:=[]) (T:=[]) ha (by omega) (by omega)
 have h:∃r,frame Tryz.cfg (RN q) q 57 [cU d sz tok rows,.int .i64 (.ofNat j)] St.empty=some r∧∃S',r=(.int .i64 (a6 d x),S'):=by
  refine aU (fn:=Tryz.f57) (p:=fun r=>∃S',r=(.int .i64 (a6 d x),S')) rfl rfl ?_
  refine ab.mk _ (aL hx) ?_
  refine ae.mk _ _ k1 ?_
  refine ab.mk (.int .i64 (a6 d x)) (by unfold a6;rw [ak,hfx];exact mB (by simp only [aOn];omega) (by simp only [aOn];omega)) ?_
  exact⟨_,rfl,_,rfl⟩
 obtain⟨r,k6,S',rfl⟩:=h
 exact xV k6 (by simp only [eF,bf,an]) rfl rfl rfl rfl rfl
theorem SB {l:List Tm} {c e:Bool} (hfx:d.fixed=.ofNat fx) (hf:fx≤100) (hl:l.length < 1000000) (hFl:F.length < 1000000) (hml:∀y∈l,cL y=true∧wt y≤W) (hmF:∀y∈F,cL y=true∧wt y≤W) (hn:3 * W + 300≤n) :
 RN n (.f 153) [cU d (ao c0 F) (aw e0) (ag F),.list (ao c l) (aw e) 0 (ag l)] S=some (.bool (tq fx F l),S):=by
 obtain⟨q,rfl⟩:=up (show 1≤n by omega)
 have h:∃r,frame Tryz.cfg (RN q) q 153 [cU d (ao c0 F) (aw e0) (ag F),.list (ao c l) (aw e) 0 (ag l)] St.empty=some r∧∃S',r=(.bool (tq fx F l),S'):=by
  refine aU (fn:=Tryz.f153) (p:=fun r=>∃S',r=(.bool (tq fx F l),S')) rfl rfl ?_
  unfold tq
  refine ah.mk (fun c1=>?_) (fun c1=>?_)
  ·rw [ak,hfx] at c1
   rw [c1]
   refine ab.mk (.int .i64 (.ofNat l.length - .ofNat fx)) (by rw [ak,hfx];exact mB (by simp only [aOn];omega) (by simp only [aOn];omega)) ?_
   refine ah.mk (fun c2=>?_) (fun c2=>?_)
   ·rw [c2]
    refine ah.mk (fun c3=>?_) (fun c3=>?_)
    ·rw [ak,hfx] at c3
     rw [c3]
     have h1:fx≤l.length:=by
      rw [cm] at c1
      simp only [Bool.not_eq_true',decide_eq_false_iff_not,aOn] at c1;omega
     have h2:fx≤F.length:=by
      rw [cm] at c3
      simp only [Bool.not_eq_true',decide_eq_false_iff_not,aOn] at c3;omega
     obtain⟨c4,b4,s1⟩:=qf (LT:=23) (c:=c) (tok:=aw e) (m:=fx) rfl h1
     obtain⟨c5,b5,s2⟩:=qf (LT:=23) (c:=c0) (tok:=aw e0) (m:=fx) rfl h2
     rw [← hfx] at s1 s2
     refine ab.mk _ s1 ?_
     refine ab.mk _ s2 ?_
     refine ae.mkB (Sz (n:=q) (S:=St.empty) dz (by rw [List.length_take];omega) (by rw [List.length_take];omega) (fun x hx y hy=>by
      obtain⟨x1,x2⟩:=hml x (List.mem_of_mem_take hx)
      obtain⟨y1,y2⟩:=hmF y (List.mem_of_mem_take hy)
      exact SA x1 (rX x1) (rX y1) y1 (by omega))) (fun c6=>?_) (fun c6=>?_)
     ·rw [c6];exact⟨_,rfl,_,rfl⟩
     ·rw [c6];exact⟨_,rfl,_,rfl⟩
    ·rw [ak,hfx] at c3
     rw [c3];exact⟨_,rfl,_,rfl⟩
   ·rw [c2];exact⟨_,rfl,_,rfl⟩
  ·rw [ak,hfx] at c1
   rw [c1];exact⟨_,rfl,_,rfl⟩
 obtain⟨r,k6,S',rfl⟩:=h
 exact bC k6 (by simp only [eF,b8,an]) rfl rfl rfl rfl rfl
end
theorem Mk {fx:Nat} {l:List Tm} {aa:Int} {i:Nat} {x:Tm} (hi:i < fx) (hx:l[i]?=some x) :
 ((List.range fx).drop i).all (fun i=>match l[i]? with | some x=>iEq x.k 2 && iEq x.n (aa - 1 - .ofNat i) | none=>false)=((iEq x.k 2 && iEq x.n (aa - 1 - .ofNat i)) && ((List.range fx).drop (i + 1)).all (fun i=>match l[i]? with | some x=>iEq x.k 2 && iEq x.n (aa - 1 - .ofNat i) | none=>false)):=by
 rw [fz (xG hi),hx]
section
variable {n:Nat} {d:Dl} {sz:Nat} {tok:Tok} {rows:List V} {S:St} {fx p W:Nat}
theorem OJ {t:Tm} {aa:Int} (hd:pV d W) (hpi:∀i∈d.aj,fx≤(al i.ty).1.length) (ht:cL t=true) (htw:wt t≤W) (hfx:d.fixed=.ofNat fx) (hpp:d.params=.ofNat p) (hf:fx≤100) (hp:p≤100) (hr:Bd aa) (hn:2 * W + 1300≤n) :
 ∃c e,RN n (.f 116) [cU d sz tok rows,aB t,.int .i64 aa] S=some (.tuple [.int .i64 (cI d fx t aa).1,.list (ao c (cI d fx t aa).2) (aw e) 0 (ag (cI d fx t aa).2)],S):=by
 obtain⟨k,rfl⟩:=up (show 1≤n by omega)
 have hWm:=hd.qM
 have gQ:=hd.few
 have hta:=cK ht
 obtain⟨s1,s2,s3,s4⟩:=ia _ t (Nat.le_refl _) hta
 have GS:=PL (n:=k) (S:=St.empty) ht (rX ht) (by omega)
 rw [show V.list 5 .no 0 (ag (aF t).2)=.list (ao true (aF t).2) (aw false) 0 (ag (aF t).2) by cases (aF t).2<;>rfl] at GS
 have oS:dK d fx t aa=false→∀S',uX (cI d fx t aa) (.tuple [.int .i64 (-1),.list 0 .tight 0 []],S'):=fun e S'=>by
  unfold cI
  rw [e]
  exact⟨false,true,S',by rw [ag];rfl⟩
 have hls:=vz ((cp _).1 (cK (uh _ t (Nat.le_refl _) ht).1)).1
 have h:∃q,frame Tryz.cfg (RN k) k 116 [cU d sz tok rows,aB t,.int .i64 aa] St.empty=some q∧uX (cI d fx t aa) q:=by
  refine aU (fn:=Tryz.f116) (p:=uX (cI d fx t aa)) rfl rfl ?_
  refine ae.mk _ _ GS ?_
  refine ae.mk _ _ (P3 (by omega) (by omega)) ?_
  refine ah.mk (fun h3=>?_) (fun h3=>?_)
  ·have h3' : iEq (aF t).1.k 3=false:=by simpa using h3
   exact⟨_,rfl,oS (by unfold dK kI;rw [h3'];rfl) _⟩
  have h3' : iEq (aF t).1.k 3=true:=by simpa using h3
  cases hw:dJ (fun i=>decide (i.name=(aF t).1.s)) d.aj 0 with
  | none=>
   have hq:ff d.aj (aF t).1.s = -1:=by unfold ff;rw [hw];rfl
   rw [hq]
   refine ah.yes rfl ?_
   exact⟨_,rfl,oS (by unfold dK kI;rw [h3',hw];rfl) _⟩
  | some j=>
   obtain⟨hq,x,hx⟩:=om hw
   rw [hq]
   refine ah.no rfl ?_
   have hxa:=hd.all x (aMg hx)
   have J9:=h19 (n:=k) (m:=p) (S:=St.empty) (by omega) (by omega)
   rw [← hpp] at J9
   refine ae.mk _ _ J9 ?_
   refine ae.mkB (P5 (ls:=(aF t).1.ls) (ms:=fg p) (by omega) (by omega)) (fun h4=>?_) (fun h4=>?_)
   ·refine ae.mk _ _ (h57 hx hfx hf hxa.1 (by omega) (by omega)) ?_
    have hpw:=(fy _ _ (Nat.le_refl _) hxa.1).1
    refine ab.mk (.int .i64 (d.fixed + a6 d x)) (by rw [hfx];unfold a6;rw [hfx];exact L0 (by simp only [aOn];omega) (by simp only [aOn];omega)) ?_
    have Ml:(aF t).1.ls=fg p:=by simpa using h4
    have hlen:(aF t).1.ls.length=p:=by rw [Ml,fh]
    have M7:kI d (aF t).1 (aF t).2=iEq (.ofNat (aF t).2.length) (d.fixed + a6 d x):=by
     unfold kI
     rw [h3',hw]
     simp only [hx,Bool.true_and]
     rw [hpp,hlen,show iEq (.ofNat p) (.ofNat p)=true by rw [bW];simp,Bool.true_and]
    refine ah.mk (fun h5=>?_) (fun h5=>?_)
    ·rw [ak] at h5
     have h5' : iEq (.ofNat (aF t).2.length) (d.fixed + a6 d x)=false:=by simpa using h5
     exact⟨_,rfl,oS (by unfold dK;rw [M7,h5'];rfl) _⟩
    ·rw [ak] at h5
     have h5' : iEq (.ofNat (aF t).2.length) (d.fixed + a6 d x)=true:=by simpa using h5
     have hfl:fx≤(aF t).2.length:=by
      have:=hpi x (aMg hx)
      unfold a6 at h5'
      rw [hfx,bW,decide_eq_true_eq] at h5'
      simp only [aOn] at h5'
      omega
     have hmb:dK d fx t aa=uW fx (aF t).2 aa:=by
      unfold dK
      rw [M7,h5',hlen,Ml,Bool.true_and]
      simp
     obtain⟨c2,b2,hsl⟩:=qf (LT:=23) (c:=true) (tok:=aw false) (m:=fx) rfl hfl
     rw [← hfx] at hsl
     refine ab.mk _ hsl ?_
     have Gi:uW fx (aF t).2 aa=(List.range fx).all fun i=>match (aF t).2[i]? with | some x=>iEq x.k 2 && iEq x.n (aa - 1 - .ofNat i) | none=>false:=rfl
     have htl:((aF t).2.take fx).length=fx:=by rw [List.length_take];omega
     refine aD.loop 88 (σ:=Option Tm) fx (fun i o=>{ nt:=88,tmps:=[(0,cU d sz tok rows),(2,.int .i64 aa),(6,.int .i64 (.ofNat j)),(9,.list (ao true (aF t).2) (aw false) 0 (ag (aF t).2)),(60,.list (ao c2 ((aF t).2.take fx)) (aw b2) 0 (ag ((aF t).2.take fx))),(61,.int .i64 (.ofNat (aH (ag ((aF t).2.take fx))))),(62,.int .i64 (.ofNat i))],locs:=(4,aC t)::(8,aC (aF t).1)::PZ 11 o,fix:=[] }) (fun _ _=>St.empty)
      (fun i _=>dK d fx t aa=((List.range fx).drop i).all fun i=>match (aF t).2[i]? with | some x=>iEq x.k 2 && iEq x.n (aa - 1 - .ofNat i) | none=>false) none (by omega) (by rw [hmb,Gi];rfl) ?_ ?_
     ·intro i o hi hv
      obtain⟨y,hy⟩ : ∃y,(aF t).2[i]?=some y:=⟨_,aGe (by omega)⟩
      have hy' : ((aF t).2.take fx)[i]?=some y:=by rw [List.getElem?_take_of_lt hi];exact hy
      rw [Mk hi hy] at hv
      rcases o with _ | y0
      all_goals
       refine ah.yes (gI (by omega)) ?_
       refine ab.mk _ (bz hy') ?_
       refine ah.mk (fun h6=>?_) (fun h6=>?_)
       ·have h6' : iEq y.k 2=false:=by simpa using h6
        rw [h6'] at hv
        exact⟨_,rfl,oS hv _⟩
       ·have h6' : iEq y.k 2=true:=by simpa using h6
        rw [h6'] at hv
        refine ab.mk _ (mB (by unfold Bd at hr;omega) (by unfold Bd at hr;omega)) ?_
        refine ab.mk _ (mB (b:=.ofNat i) (by unfold Bd at hr;simp only [aOn];omega) (by unfold Bd at hr;simp only [aOn];omega)) ?_
        refine ah.mk (fun h7=>?_) (fun h7=>?_)
        ·have h7' : iEq y.n (aa - 1 - .ofNat i)=false:=by simpa using h7
         rw [h7'] at hv
         exact⟨_,rfl,oS hv _⟩
        ·have h7' : iEq y.n (aa - 1 - .ofNat i)=true:=by simpa using h7
         rw [h7'] at hv
         refine ab.mk _ (az (by omega)) ?_
         exact⟨some y,hv,rfl,rfl⟩
     ·intro o hv
      rw [List.drop_of_length_le (by simp)] at hv
      have hmt:dK d fx t aa=true:=hv
      obtain⟨c',aV,ht',hs⟩:=ml (LT:=23) (c:=true) (tok:=aw false) (m:=fx) rfl hfl
      rw [← hfx] at hs
      obtain⟨b,rfl⟩:=qz ht'
      have hmr:cI d fx t aa=(.ofNat j,(aF t).2.drop fx):=by unfold cI;rw [hmt,hq]
      rw [hmr]
      rcases o with _ | y0
      all_goals
       refine ah.no (gJ (by omega)) ?_
       refine ab.mk _ hs ?_
       exact⟨_,rfl,c',b,_,rfl⟩
   ·have hf' : decide ((aF t).1.ls=fg p)=false:=h4
    have:dK d fx t aa=false:=by
     unfold dK kI
     rw [h3',hw]
     simp only [hx,Bool.true_and]
     by_cases hlen:(aF t).1.ls.length=p
     ·rw [show decide ((aF t).1.ls=fg (aF t).1.ls.length)=false by rw [hlen];exact hf']
      simp
     ·rw [hpp,show iEq (.ofNat (aF t).1.ls.length) (.ofNat p)=false by rw [fQ];simpa using hlen]
      simp
    exact⟨_,rfl,oS this _⟩
 obtain⟨q,k2,c,e,S',rfl⟩:=h
 exact⟨c,e,bC k2 (by simp only [eF,bh,bf,an]) rfl rfl rfl rfl (by
  show V.tuple [_,ai (.list _ (aw e) 0 _)]=_
  rw [hU]
  rfl)⟩
end
section
variable {n:Nat} {d:Dl} {F:List Tm} {c0 e0:Bool} {S:St} {fx p W:Nat}
theorem P7 {l:List Tm} {c:Bool} {tok:Tok} (hfx:d.fixed=.ofNat fx) (hf:fx≤100) (hl:l.length < 1000000) (hFl:F.length < 1000000) (hml:∀y∈l,cL y=true∧wt y≤W) (hmF:∀y∈F,cL y=true∧wt y≤W) (hn:3 * W + 300≤n) :
 RN n (.f 153) [cU d (ao c0 F) (aw e0) (ag F),.list (ao c l) tok 0 (ag l)] S=some (.bool (tq fx F l),S):=by
 obtain⟨b,hb⟩:=eC tok
 obtain⟨q,rfl⟩:=up (show 1≤n by omega)
 rw [iW (jQ:=[cU d (ao c0 F) (aw e0) (ag F),.list (ao c l) (aw b) 0 (ag l)]) rfl rfl rfl (by simp only [eF,b8,eD hb,an])]
 exact SB hfx hf hl hFl hml hmF hn
theorem H8 {sz:Nat} {tk:Tok} {rows:List V} {xs:List Tm} {c:Bool} {tok:Tok} {w:Nat} (hd:d.aj.length≤100) (hl:xs.length < 1000000000) (hw:∀y∈xs,wt y≤w) (hww:w < 1000000000) (hn:3 * w + xs.length + 200≤n) :
 RN n (.f 117) [cU d sz tk rows,.list (ao c xs) tok 0 (ag xs)] S=some (.bool (gg d.aj xs),S):=by
 obtain⟨b,hb⟩:=eC tok
 obtain⟨q,rfl⟩:=up (show 1≤n by omega)
 rw [iW (jQ:=[cU d sz tk rows,.list (ao c xs) (aw b) 0 (ag xs)]) rfl rfl rfl (by simp only [eF,b8,eD hb,an])]
 exact Ss hd hl hw hww hn
noncomputable def kW (d:Dl) (fx:Nat) (F:List Tm) (x:In):Bool:=iEq (al x.ty).2.k 1 && (tq fx F (al x.ty).1 && !gg d.aj (al x.ty).1)
noncomputable def iZ (d:Dl) (fx:Nat) (F:List Tm) (at_:Nat) (t:Tm):Bool:=tq fx F (al t).1 && iEq (cI d fx (al t).2 (.ofNat (al t).1.length)).1 (.ofNat at_)
theorem ya {l:List Tm}:tq fx F l=(!iLt (.ofNat l.length) (.ofNat fx) && (!iLt 12 (.ofNat l.length - .ofNat fx) && (!iLt (.ofNat F.length) (.ofNat fx) && oj fx F l))):=by
 unfold tq
 cases h1:iLt (.ofNat l.length) (.ofNat fx) with
 | true=>rfl
 | false=>
  cases h2:iLt (.ofNat F.length) (.ofNat fx) with
  | true=>rfl
  | false=>
   rw [cm,decide_eq_false_iff_not] at h1 h2
   simp only [aOn] at h1 h2
   rw [H7 (by omega) (by omega)]
theorem Dz {x0 x:In} (hfx:d.fixed=.ofNat fx):kW d fx (al x0.ty).1 x=nC d fx x0 x:=by
 unfold kW nC
 rw [ya,hfx]
 have e:∀a b c e f g:Bool,(a && ((b && (c && (e && f))) && g))=(a && (b && (c && (e && (g && f))))):=by decide
 exact e _ _ _ _ _ _
theorem Ka {x0:In} {at_:Nat} {t:Tm} (hfx:d.fixed=.ofNat fx) (h0:fx≤(al x0.ty).1.length):iZ d fx (al x0.ty).1 at_ t=mq d fx x0 at_ t:=by
 unfold iZ mq
 rw [ya,hfx]
 have h:iLt (.ofNat (al x0.ty).1.length) (.ofNat fx)=false:=by
  rw [cm,decide_eq_false_iff_not]
  simp only [aOn];omega
 rw [h]
 have e:∀a b f g:Bool,((a && (b && (!false && f))) && g)=(a && (b && (f && g))):=by decide
 exact e _ _ _ _
theorem SC {x:In} (hd:pV d W) (hfx:d.fixed=.ofNat fx) (hf:fx≤100) (hFl:F.length < 1000000) (hmF:∀y∈F,cL y=true∧wt y≤4000000) (hx:cL x.ty=true) (hl:(al x.ty).1.length < 1000000) (hn:12100000 + 3000000≤n) :
 RN n (.f 114) [cU d (ao c0 F) (aw e0) (ag F),encI x] S=some (.bool (kW d fx F x),S):=by
 obtain⟨q,rfl⟩:=up (show 1≤n by omega)
 have gQ:=hd.few
 have hxa:=cK hx
 have hxw:=fX hx
 obtain⟨m1,m2⟩:=oD _ x.ty (Nat.le_refl _) hx
 obtain⟨p1,p2,p3⟩:=fy _ x.ty (Nat.le_refl _) hxa
 obtain⟨q0,k1,T1,tk,rfl,hg⟩:=h56 (n:=q) (x:=x.ty) (H:=[]) (T:=[]) hxa (by omega) (by omega)
 have h:∃r,frame Tryz.cfg (RN q) q 114 [cU d (ao c0 F) (aw e0) (ag F),encI x] St.empty=some r∧∃S',r=(.bool (kW d fx F x),S'):=by
  refine aU (fn:=Tryz.f114) (p:=fun r=>∃S',r=(.bool (kW d fx F x),S')) rfl rfl ?_
  unfold kW
  refine ae.mk _ _ k1 ?_
  refine ah.mk (fun c1=>?_) (fun c1=>?_)
  ·rw [c1]
   refine ae.mkB (P7 (W:=4000000) hfx hf hl hFl (fun y hy=>⟨m2 y hy,by have:=(p3 y hy).2;omega⟩) hmF (by omega)) (fun c2=>?_) (fun c2=>?_)
   ·rw [c2]
    refine ae.mkB (H8 (w:=4000000) (by omega) (by omega) (fun y hy=>by have:=(p3 y hy).2;omega) (by omega) (by omega)) (fun c3=>?_) (fun c3=>?_)
    ·rw [c3];exact⟨_,rfl,_,rfl⟩
    ·rw [c3];exact⟨_,rfl,_,rfl⟩
   ·rw [c2];exact⟨_,rfl,_,rfl⟩
  ·rw [c1];exact⟨_,rfl,_,rfl⟩
 obtain⟨r,k6,S',rfl⟩:=h
 exact xV k6 (by simp only [eF,x7,an]) rfl rfl rfl rfl rfl
theorem SD {c:Ct} {j:Nat} (hd:pV d 4000000) (hpi:∀i∈d.aj,fx≤(al i.ty).1.length) (hfx:d.fixed=.ofNat fx) (hpp:d.params=.ofNat p) (hf:fx≤100) (hp:p≤100) (hFl:F.length < 1000000) (hmF:∀y∈F,cL y=true∧wt y≤4000000) (hx:cL c.ty=true) (hl:(al c.ty).1.length < 1000000) (hn:12100000 + 3000000≤n) :
 RN n (.f 115) [cU d (ao c0 F) (aw e0) (ag F),.int .i64 (.ofNat j),fO c] S=some (.bool (iZ d fx F j c.ty),S):=by
 obtain⟨q,rfl⟩:=up (show 1≤n by omega)
 have gQ:=hd.few
 have hxa:=cK hx
 have hxw:=fX hx
 obtain⟨m1,m2⟩:=oD _ c.ty (Nat.le_refl _) hx
 obtain⟨p1,p2,p3⟩:=fy _ c.ty (Nat.le_refl _) hxa
 obtain⟨q0,k1,T1,tk,rfl,hg⟩:=h56 (n:=q) (x:=c.ty) (H:=[]) (T:=[]) hxa (by omega) (by omega)
 obtain⟨cc,ce,k2⟩:=OJ (n:=q) (sz:=ao c0 F) (tok:=aw e0) (rows:=ag F) (S:={ heap:=[],aA:=T1 }) (t:=(al c.ty).2) (aa:=.ofNat (al c.ty).1.length) hd hpi m1 (by omega) hfx hpp hf hp (bdN (by omega)) (by omega)
 have h:∃r,frame Tryz.cfg (RN q) q 115 [cU d (ao c0 F) (aw e0) (ag F),.int .i64 (.ofNat j),fO c] St.empty=some r∧∃S',r=(.bool (iZ d fx F j c.ty),S'):=by
  refine aU (fn:=Tryz.f115) (p:=fun r=>∃S',r=(.bool (iZ d fx F j c.ty),S')) rfl rfl ?_
  unfold iZ
  refine ae.mk _ _ k1 ?_
  refine ae.mkB (P7 (W:=4000000) hfx hf hl hFl (fun y hy=>⟨m2 y hy,by have:=(p3 y hy).2;omega⟩) hmF (by omega)) (fun c2=>?_) (fun c2=>?_)
  ·rw [c2]
   refine ae.mk _ _ (by rw [ak];exact k2) ?_
   refine ah.mk (fun c3=>?_) (fun c3=>?_)
   ·rw [c3];exact⟨_,rfl,_,rfl⟩
   ·rw [c3];exact⟨_,rfl,_,rfl⟩
  ·rw [c2];exact⟨_,rfl,_,rfl⟩
 obtain⟨r,k6,S',rfl⟩:=h
 exact xV k6 (by simp only [eF,bf,tj,an]) rfl rfl rfl rfl rfl
end
section
variable {n:Nat} {d:Dl} {sz:Nat} {tok:Tok} {rows:List V} {S:St} {fx p W:Nat}
theorem SE {t:Tm} {aa:Int} (hd:pV d 4000000) (hpi:∀i∈d.aj,fx≤(al i.ty).1.length) (ht:cL t=true) (hfx:d.fixed=.ofNat fx) (hpp:d.params=.ofNat p) (hf:fx≤100) (hp:p≤100) (hr : -100000000000≤aa∧aa≤100000000000) (hn:20000000≤n) :
 RN n (.f 118) [cU d sz tok rows,aB t,.int .i64 aa] S=some (.tuple [dw (ct d fx t aa).1,.bool (ct d fx t aa).2],S):=by
 obtain⟨q,rfl⟩:=up (show 1≤n by omega)
 have gQ:=hd.few
 have hxa:=cK ht
 have hxw:=fX ht
 obtain⟨m1,m2⟩:=oD _ t (Nat.le_refl _) ht
 obtain⟨p1,p2,p3⟩:=fy _ t (Nat.le_refl _) hxa
 obtain⟨q0,k1,T1,tk,rfl,hg⟩:=h56 (n:=q) (x:=t) (H:=[]) (T:=[]) hxa (by omega) (by omega)
 obtain⟨cc,ce,k2⟩:=OJ (n:=q) (sz:=sz) (tok:=tok) (rows:=rows) (S:={ heap:=[],aA:=T1 }) (t:=(al t).2) (aa:=aa + .ofNat (al t).1.length) hd hpi m1 (by omega) hfx hpp hf hp (by unfold Bd;simp only [aOn];omega) (by omega)
 have hmm:=pW (d:=d) (fx:=fx) (aa:=aa + .ofNat (al t).1.length) p2
 have hml:=pX (d:=d) (fx:=fx) (aa:=aa + .ofNat (al t).1.length) p2
 have h:∃r,frame Tryz.cfg (RN q) q 118 [cU d sz tok rows,aB t,.int .i64 aa] St.empty=some r∧∃S',r=(.tuple [dw (ct d fx t aa).1,.bool (ct d fx t aa).2],S'):=by
  refine aU (fn:=Tryz.f118) (p:=fun r=>∃S',r=(.tuple [dw (ct d fx t aa).1,.bool (ct d fx t aa).2],S')) rfl rfl ?_
  have e1:iLt (cI d fx (al t).2 (aa + .ofNat (al t).1.length)).1 0=true→ct d fx t aa=((-1,0),!jJ d.aj t):=fun h=>by unfold ct;simp only [h]
  have e2:iLt (cI d fx (al t).2 (aa + .ofNat (al t).1.length)).1 0=false→ct d fx t aa=(((cI d fx (al t).2 (aa + .ofNat (al t).1.length)).1,.ofNat (al t).1.length),!gg d.aj (al t).1 && !gg d.aj (cI d fx (al t).2 (aa + .ofNat (al t).1.length)).2):=fun h=>by unfold ct;simp only [h]
  refine ae.mk _ _ k1 ?_
  refine ab.mk (.int .i64 (aa + .ofNat (al t).1.length)) (by rw [ak];exact L0 (by simp only [aOn];omega) (by simp only [aOn];omega)) ?_
  refine ae.mk _ _ k2 ?_
  refine ah.mk (fun c1=>?_) (fun c1=>?_)
  ·rw [e1 c1]
   have hs1:gg d.aj [t]=jJ d.aj t:=by unfold gg;simp
   refine ab.mk _ (bs1 t 23 _ _ _ rfl) ?_
   have hm:=H8 (n:=q) (d:=d) (sz:=sz) (tk:=tok) (rows:=rows) (S:={ heap:=[],aA:=T1 }) (xs:=[t]) (c:=false) (tok:=.tight) (w:=4000000) (by omega) (by simp) (fun y hy=>by rw [List.mem_singleton.1 hy];omega) (by omega) (by simp;omega)
   rw [hs1] at hm
   refine ae.mkB hm (fun c2=>?_) (fun c2=>?_)
   ·rw [c2];exact⟨_,rfl,_,rfl⟩
   ·rw [c2];exact⟨_,rfl,_,rfl⟩
  ·rw [e2 c1]
   refine ae.mkB (H8 (w:=4000000) (by omega) (by omega) (fun y hy=>by have:=(p3 y hy).2;omega) (by omega) (by omega)) (fun c2=>?_) (fun c2=>?_)
   ·rw [c2,ak];exact⟨_,rfl,_,rfl⟩
   ·rw [c2]
    refine ae.mkB (H8 (w:=4000000) (by omega) (by omega) (fun y hy=>by have:=(hmm y hy).2;omega) (by omega) (by omega)) (fun c3=>?_) (fun c3=>?_)
    ·rw [c3,ak];exact⟨_,rfl,_,rfl⟩
    ·rw [c3,ak];exact⟨_,rfl,_,rfl⟩
 obtain⟨r,k6,S',rfl⟩:=h
 exact bC k6 (by simp only [eF,bh,bf,an]) rfl rfl rfl rfl rfl
noncomputable def Mm:Option (List (Int×Int))→V
 | some fs=>.tuple [sV fs,.bool true]
 | none=>.tuple [.list 0 .tight 0 [],.bool false]
theorem SF (f:Int×Int):buildSlice Tryz.cfg 113 1 [(0,dw f)]=some (.list 2 .tight 0 [dw f]):=rfl
noncomputable def vc (d:Dl) (fx:Nat) (q:Tm×Nat):Option (Int×Int):=match ct d fx q.1 (.ofNat q.2) with | (f,true)=>some f | (_,false)=>none
theorem Fo (d:Dl) (fx:Nat) (l:List Tm):iP d fx l=bO (vc d fx) ((l.drop fx).zipIdx fx):=rfl
@[reducible] noncomputable def P8 (c:Ct) (t:Tm) (o:Option (Tm×(Int×Int))):List (Nat×List V):=(3,mh c)::(7,aC t)::(match o with | none=>[] | some (y,f)=>[(11,aC y),(12,[.int .i64 f.1,.int .i64 f.2])])
def FsQ (o:Option (List (Int×Int))) (r:V×St):Prop:=∃(fs:List (Int×Int)) (tk:Tok) (T:List Nat) (S' : St),(r=(.tuple [.list 0 .tight 0 [],.bool false],S')∧o=none)∨(r=(.tuple [.list (szG 2 (fs.map dw)) tk 0 (fs.map dw),.bool true],S')∧o=some fs∧av [] T (fs.map dw) tk)
theorem h58 {c:Ct} (hd:pV d 4000000) (hpi:∀i∈d.aj,fx≤(al i.ty).1.length) (ht:cL c.ty=true) (hfl:fx≤(al c.ty).1.length) (hfx:d.fixed=.ofNat fx) (hpp:d.params=.ofNat p) (hf:fx≤100) (hp:p≤100) (hn:30000000≤n) :
 RN n (.f 58) [cU d sz tok rows,fO c] S=some (Mm (cd d fx c.ty),S):=by
 obtain⟨q,rfl⟩:=up (show 1≤n by omega)
 have gQ:=hd.few
 have hxa:=cK ht
 have hxw:=fX ht
 obtain⟨m1,m2⟩:=oD _ c.ty (Nat.le_refl _) ht
 obtain⟨p1,p2,p3⟩:=fy _ c.ty (Nat.le_refl _) hxa
 obtain⟨q0,k1,T1,tk,rfl,hg⟩:=h56 (n:=q) (x:=c.ty) (H:=[]) (T:=[]) hxa (by omega) (by omega)
 obtain⟨cc,ce,k2⟩:=OJ (n:=q) (sz:=sz) (tok:=tok) (rows:=rows) (S:={ heap:=[],aA:=T1 }) (t:=(al c.ty).2) (aa:=.ofNat (al c.ty).1.length) hd hpi m1 (by omega) hfx hpp hf hp (bdN (by omega)) (by omega)
 have hmm:=pW (d:=d) (fx:=fx) (aa:=.ofNat (al c.ty).1.length) p2
 have hml:=pX (d:=d) (fx:=fx) (aa:=.ofNat (al c.ty).1.length) p2
 obtain⟨c4,tk4,hsl⟩:=mr (LT:=23) (c:=false) (tok:=tk) (m:=fx) rfl hfl
 obtain⟨c5,tk5,ht5,hsd⟩:=ml (LT:=23) (c:=false) (tok:=tk) (m:=fx) rfl hfl
 rw [← hfx] at hsl hsd
 have h:∃r,frame Tryz.cfg (RN q) q 58 [cU d sz tok rows,fO c] St.empty=some r∧FsQ (cd d fx c.ty) r:=by
  refine aU (fn:=Tryz.f58) (p:=FsQ (cd d fx c.ty)) rfl rfl ?_
  have oS:(gg d.aj (cI d fx (al c.ty).2 (.ofNat (al c.ty).1.length)).2 || gg d.aj ((al c.ty).1.take fx))=true→cd d fx c.ty=none:=fun h=>by
   unfold cd
   cases iP d fx (al c.ty).1 with
   | none=>rfl
   | some fs=>simp only [h]
  refine ae.mk _ _ k1 ?_
  refine ae.mk _ _ (by rw [ak];exact k2) ?_
  refine ae.mkB (H8 (w:=4000000) (by omega) (by omega) (fun y hy=>by have:=(hmm y hy).2;omega) (by omega) (by omega)) (fun c1=>?_) (fun c1=>?_)
  ·exact⟨_,rfl,[],.no,[],_,.inl ⟨rfl,oS (by rw [c1];rfl)⟩⟩
  refine ab.mk _ hsl ?_
  refine ae.mkB (H8 (w:=4000000) (by omega) (by rw [List.length_take];omega) (fun y hy=>by have:=(p3 y (List.mem_of_mem_take hy)).2;omega) (by omega) (by rw [List.length_take];omega)) (fun c2=>?_) (fun c2=>?_)
  ·exact⟨_,rfl,[],.no,[],_,.inl ⟨rfl,oS (by rw [c2];simp)⟩⟩
  refine ab.mk _ hsd ?_
  have hdl:((al c.ty).1.drop fx).length=(al c.ty).1.length - fx:=List.length_drop
  have hfr:cd d fx c.ty=bO (vc d fx) (((al c.ty).1.drop fx).zipIdx fx):=by
   unfold cd
   rw [Fo]
   cases bO (vc d fx) (((al c.ty).1.drop fx).zipIdx fx) with
   | none=>rfl
   | some fs=>simp only [c1,c2];rfl
  refine aD.loop 76 (σ:=Option (Tm×(Int×Int))×List (Int×Int)×Tok×List Nat) ((al c.ty).1.drop fx).length (fun i s=>{ nt:=76,tmps:=[(0,cU d sz tok rows),(4,.list (szG 2 (s.2.1.map dw)) s.2.2.1 0 (s.2.1.map dw)),(48,.list (ao c5 ((al c.ty).1.drop fx)) tk5 0 (ag ((al c.ty).1.drop fx))),(49,.int .i64 (.ofNat (aH (ag ((al c.ty).1.drop fx))))),(50,.int .i64 (.ofNat i))],locs:=P8 c (al c.ty).2 s.1,fix:=[] })
   (fun _ s=>{ heap:=[],aA:=s.2.2.2 }) (fun i s=>bO (vc d fx) ((((al c.ty).1.drop fx).zipIdx fx).take i)=some s.2.1∧av [] s.2.2.2 (s.2.1.map dw) s.2.2.1) (none,[],.tight,T1) (by omega) ⟨rfl,⟨E8 T1,.inl ⟨rfl,rfl⟩⟩⟩ ?_ ?_
  ·rintro i ⟨o,fs,tk6,T6⟩ hi ⟨(hfs:_=some fs),(hg6:av [] T6 (fs.map dw) tk6)⟩
   obtain⟨y,hy⟩ : ∃y,((al c.ty).1.drop fx)[i]?=some y:=⟨_,aGe hi⟩
   have hz:(((al c.ty).1.drop fx).zipIdx fx)[i]?=some (y,fx + i):=by rw [List.getElem?_zipIdx,hy];simp
   have hym:=m2 y (List.mem_of_mem_drop (aMg hy))
   have SG:=eK hfs
   rw [List.length_take,List.length_zipIdx] at SG
   have GU:=SE (n:=q) (sz:=sz) (tok:=tok) (rows:=rows) (S:={ heap:=[],aA:=T6 }) (t:=y) (aa:=.ofNat (fx + i)) hd hpi hym hfx hpp hf hp (by simp only [aOn];omega) (by omega)
   obtain⟨T7,tk7,a1,a2⟩:=dm (LT:=113) (ET:=154) (ei:=Tryz.ti154) (H:=[]) (T0:=[]) (T:=T6) (done:=fs.map dw) (new:=[dw (ct d fx y (.ofNat (fx + i))).1]) (tok:=tk6) (bg:=.tight) (sz2:=2) rfl rfl (by decide) (by decide) (by simp;omega) hg6 (.inr rfl)
   have ee:fs.map dw++[dw (ct d fx y (.ofNat (fx + i))).1]=(fs++[(ct d fx y (.ofNat (fx + i))).1]).map dw:=by simp
   rw [ee] at a1 a2
   cases hb:(ct d fx y (.ofNat (fx + i))).2 with
   | true=>
    have hst:vc d fx (y,fx + i)=some (ct d fx y (.ofNat (fx + i))).1:=by
     unfold vc
     simp only
     rw [← Prod.eta (ct d fx y (.ofNat (fx + i))),hb]
    rw [hb] at GU
    rcases o with _ | ⟨y0,f0⟩
    all_goals
     refine ah.yes (gI hi) ?_
     refine ab.mk _ (bz hy) ?_
     refine ab.mk (.int .i64 (.ofNat (fx + i))) (by rw [hfx];exact addNat (by omega)) ?_
     refine ae.mk _ _ GU ?_
     refine ab.mk _ (SF _) ?_
     refine cj.mk _ _ (a1 _ _ rfl) ?_
     refine ab.mk _ (az (by omega)) ?_
     exact⟨(some (y,(ct d fx y (.ofNat (fx + i))).1),_,tk7,T7),⟨fj hz hfs hst,a2⟩,rfl,rfl⟩
   | false=>
    have hst:vc d fx (y,fx + i)=none:=by
     unfold vc
     simp only
     rw [← Prod.eta (ct d fx y (.ofNat (fx + i))),hb]
    rw [hb] at GU
    rcases o with _ | ⟨y0,f0⟩
    all_goals
     refine ah.yes (gI hi) ?_
     refine ab.mk _ (bz hy) ?_
     refine ab.mk (.int .i64 (.ofNat (fx + i))) (by rw [hfx];exact addNat (by omega)) ?_
     refine ae.mk _ _ GU ?_
     exact⟨_,rfl,[],.no,[],_,.inl ⟨rfl,by rw [hfr];exact gA hz hst⟩⟩
  ·rintro⟨o,fs,tk6,T6⟩ ⟨(hfs:_=some fs),(hg6:av [] T6 (fs.map dw) tk6)⟩
   rw [List.take_of_length_le (by simp)] at hfs
   rcases o with _ | ⟨y0,f0⟩
   all_goals
    refine ah.no (gJ (by omega)) ?_
    exact⟨_,rfl,fs,tk6,T6,_,.inr ⟨rfl,by rw [hfr];exact hfs,hg6⟩⟩
 obtain⟨r,k6,fs,tk6,T6,S',⟨rfl,hr⟩ | ⟨rfl,hr,hg6⟩⟩:=h
 ·rw [hr]
  exact bC k6 (by simp only [eF,tj,an]) rfl rfl rfl rfl rfl
 ·rw [hr]
  refine bC k6 (by simp only [eF,tj,an]) rfl rfl rfl rfl ?_
  show V.tuple [ai (.list (szG 2 _) tk6 0 _),_]=_
  rw [gz hg6]
  rfl
end
theorem tr {id n k ty:Nat} {rest:List V} {S S' : St} {cs cs' : List V} {v:V} (hid:bY id=true) (hk:nth S.heap k=some (.cells ty cs)) (hcs:isZero (aJ cs)=true) (hst:bn ai cs=cs') (jM:isZero (aM rest)=true) (hrs:bn V.strip rest=rest)
 (h:RN n (.f id) (.imm 0 cs'::rest) St.empty=some (v,S')) (hf:rm v=true):RN n (.f id) (.ptr (.box k) 0::rest) S=some (v,S):=by
 have h2:cu cY (bV cQ n (fN Tryz.cfg cQ cY bY n)) (.f id) (.imm 0 cs'::rest) St.empty=some (v,S'):=by
  have h3:(match bY id with
   | true=>cu cY (bV cQ n (fN Tryz.cfg cQ cY bY n)) (.f id) (.imm 0 cs'::rest) St.empty
   | false=>cu cY (bV cQ n (fN Tryz.cfg cQ cY bY n)) (.f id) (.imm 0 cs'::rest) St.empty)=some (v,S'):=h
  rw [hid] at h3
  exact h3
 show (match bY id with
  | true=>readOnly (cu cY (bV cQ n (fN Tryz.cfg cQ cY bY n))) id (.ptr (.box k) 0::rest) S
  | false=>cu cY (bV cQ n (fN Tryz.cfg cQ cY bY n)) (.f id) (.ptr (.box k) 0::rest) S)=_
 rw [hid]
 show readOnly (cu cY (bV cQ n (fN Tryz.cfg cQ cY bY n))) id (.ptr (.box k) 0::rest) S=_
 unfold readOnly
 simp only [jM,hk,hcs,cond_true,hst,hrs,h2,hf]
theorem vd (z:Nat) (tok:Tok) (rows:List V):ai (.list z tok 0 rows)=.list z (ep tok) 0 rows:=by cases tok<;>rfl
theorem lB (d:Dl) (sz:Nat) (tok:Tok) (rows:List V):bn ai (da d sz tok rows)=da d sz (ep tok) rows:=by
 show [_,_,_,_,_,_,ai (.list _ (aw d.ty.b) 0 _),ai (.list _ (aw d.ty.d) 0 _),_,_,_,ai (.list _ (aw d.val.b) 0 _),ai (.list _ (aw d.val.d) 0 _),_,_,ai (.list sz tok 0 rows)]=_
 rw [di,di,di,di,vd sz tok rows]
 rfl
noncomputable def oO (d:Dl) (fx:Nat) (F:List Tm):Bool:=d.aj.all (kW d fx F) && (fZ d.aj).all fun q=>iZ d fx F q.1 q.2.ty
section
variable {n:Nat} {d:Dl} {S:St} {fx p W:Nat}
@[reducible] noncomputable def M8 (b:Bool) (o:Option In):List (Nat×List V):=(1,[.ptr (.box 0) 0])::(2,[.bool b])::(match o with | none=>[] | some x=>[(4,fe x)])
noncomputable def mQ (b:Bool) (o:Option In) (st:RSt) (pe:Option Ex):dD:={ fid:=55,nt:=46,tmps:=[(1,.ptr (.loc 1) 0),(2,.ptr (.loc 2) 0),(38,.fn 149 2 [] [.ptr (.box 1) 0])],locs:=M8 b o,params:=[39,40],assign:=ma Tryz.f55,body:=mb Tryz.f55,st:=st,jj:=pe }
noncomputable def Kb (d:Dl) (F:List Tm) (tk:Tok) (b:Bool) (o:Option In) (st:RSt) (pe:Option Ex) (T:List Nat):St:={ heap:=[.cells 108 (da d (ao false F) tk (ag F)),.cells 106 [.ptr (.box 0) 0],.loop (mQ b o st pe)],aA:=T }
theorem GV {c:Blk} {T:List Nat} (hn:1≤n):RN n (.f 107) [.ptr (.box 0) 0] { heap:=[c],aA:=T }=some (.fn 149 2 [] [.ptr (.box 1) 0],{ heap:=[c,.cells 106 [.ptr (.box 0) 0]],aA:=T }):=by
 obtain⟨q,rfl⟩:=up hn
 refine bw rfl ?_
 kernel_rfl
theorem Mn (hd:pV d 4000000) (hnm:xK d) (h0:d.aj[0]?=some (in0 d)) (Kc:∀i∈d.aj,cL i.ty=true∧∀c∈i.cs,cL c.ty=true) (hlen:∀i∈d.aj,(al i.ty).1.length < 1000000∧∀c∈i.cs,(al c.ty).1.length < 1000000)
 (hfx:d.fixed=.ofNat fx) (hpp:d.params=.ofNat p) (hf:fx≤100) (hp:p≤100) (hn:30000000≤n) :
 ∃r,frame Tryz.cfg (RN n) n 55 [.ptr (.box 0) 0] { heap:=[.cells 108 (da d 0 .tight [])],aA:=[] }=some r∧∃S' tk,r=(.bool (oO d fx (al (in0 d).ty).1),S')∧nth S'.heap 0=some (.cells 108 (da d (ao false (al (in0 d).ty).1) tk (ag (al (in0 d).ty).1))):=by
 have gQ:=hd.few
 obtain⟨i1,i2⟩:=Kc (in0 d) (aMg h0)
 obtain⟨l1,l2⟩:=hlen (in0 d) (aMg h0)
 have hxa:=cK i1
 have hxw:=fX i1
 obtain⟨m1,m2⟩:=oD _ (in0 d).ty (Nat.le_refl _) i1
 obtain⟨p1,p2,p3⟩:=fy _ (in0 d).ty (Nat.le_refl _) hxa
 obtain⟨q0,k1,T1,tk,rfl,hg⟩:=h56 (n:=n) (x:=(in0 d).ty) (H:=[.cells 108 (da d 0 .tight [])]) (T:=[]) hxa (by omega) (by omega)
 generalize hF:(al (in0 d).ty).1=F at *
 have hmF:∀y∈F,cL y=true∧wt y≤4000000:=fun y hy=>⟨m2 y hy,by have:=(p3 y hy).2;omega⟩
 obtain⟨tb,htb⟩:=eC tk
 have hty:∀(x:In) (S:St) ,x∈d.aj→nth S.heap 0=some (.cells 108 (da d (ao false F) tk (ag F)))→RN n (.f 114) [.ptr (.box 0) 0,encI x] S=some (.bool (kW d fx F x),S):=fun x S hx hk=>
  tr (S':=St.empty) (cs':=da d (ao false F) (aw tb) (ag F)) rfl hk rfl (by rw [lB,htb]) rfl (by simp only [x7,an]) (SC hd hfx hf (by omega) hmF (Kc x hx).1 (hlen x hx).1 (by omega)) rfl
 have hmk:(∀i∈d.aj,fx≤(al i.ty).1.length)→∀(m j:Nat) (c:Ct) (S:St),20000000≤m→(∃i∈d.aj,c∈i.cs)→nth S.heap 0=some (.cells 108 (da d (ao false F) tk (ag F)))→RN m (.f 115) [.ptr (.box 0) 0,.int .i64 (.ofNat j),fO c] S=some (.bool (iZ d fx F j c.ty),S):=fun hpi m j c S hm ⟨i,hi,hc⟩ hk=>
  tr (S':=St.empty) (cs':=da d (ao false F) (aw tb) (ag F)) rfl hk rfl (by rw [lB,htb]) rfl (by simp only [bf,tj,an]) (SD hd hpi hfx hpp hf hp (by omega) hmF ((Kc i hi).2 c hc) ((hlen i hi).2 c hc) (by omega)) rfl
 refine aU (fn:=Tryz.f55) (p:=fun r=>∃S' tk,r=(.bool (oO d fx F),S')∧nth S'.heap 0=some (.cells 108 (da d (ao false F) tk (ag F)))) rfl rfl ?_
 refine ab.mk _ (aL h0) ?_
 refine ae.mk _ _ k1 ?_
 have fin:∀(b:Bool) (S' : St) (tk' : Tok),oO d fx F=b→nth S'.heap 0=some (.cells 108 (da d (ao false F) tk' (ag F)))→∃S2 tk2,((.bool b,S'):V×St)=(.bool (oO d fx F),S2)∧nth S2.heap 0=some (.cells 108 (da d (ao false F) tk2 (ag F))):=fun b S' tk' h1 h2=>⟨S',tk',by rw [h1],h2⟩
 refine aD.loop 46 (σ:=Option In) d.aj.length (fun j o=>{ nt:=46,tmps:=[(1,.ptr (.loc 1) 0),(2,.ptr (.loc 2) 0),(26,.list 7 .no 0 (d.aj.map encI)),(27,.int .i64 (.ofNat (aH (d.aj.map encI)))),(28,.int .i64 (.ofNat j))],locs:=M8 false o,fix:=[] })
  (fun _ _=>{ heap:=[.cells 108 (da d (ao false F) tk (ag F))],aA:=T1 }) (fun j _=>d.aj.all (kW d fx F)=(d.aj.drop j).all (kW d fx F)) none (by omega) rfl ?_ ?_
 ·intro j o hj hv
  obtain⟨x,hx⟩ : ∃x,d.aj[j]?=some x:=⟨_,aGe hj⟩
  have hxm:=aMg hx
  rw [fz hx] at hv
  have SH:=hty x { heap:=[.cells 108 (da d (ao false F) tk (ag F))],aA:=T1 } hxm rfl
  rcases o with _ | x0
  all_goals
   refine ah.yes (ltM hj) ?_
   refine ab.mk _ (aL hx) ?_
   refine ae.mkB SH (fun c1=>?_) (fun c1=>?_)
   ·rw [c1] at hv
    refine ab.mk _ (az (by omega)) ?_
    exact⟨some x,hv,rfl,rfl⟩
   ·rw [c1] at hv
    exact⟨_,rfl,fin false _ tk (by unfold oO;rw [hv];rfl) rfl⟩
 ·intro o hv
  rw [List.drop_length] at hv
  have bt:d.aj.all (kW d fx F)=true:=hv
  have hpi:∀i∈d.aj,fx≤(al i.ty).1.length:=fun i hi=>by
   have h9:=List.all_eq_true.1 bt i hi
   rw [← hF,Dz hfx] at h9
   have e:fxN d=fx:=by unfold fxN;rw [hfx];rfl
   rw [← e] at h9 ⊢
   exact (sX h9 (by rw [hfx,e])).1
  obtain⟨q,rfl⟩:=up (show 1≤n by omega)
  obtain⟨q2,rfl⟩:=up (show 1≤q by omega)
  have xW:∀(k:Nat) (y:Nat×Ct),(fZ d.aj)[k]?=some y→RN (q2 + 1) (.y 2) [.int .i64 (.ofNat y.1),fO y.2] (Kb d F tk false o .ready none T1)=some (.bool (iZ d fx F y.1 y.2.ty),match iZ d fx F y.1 y.2.ty with | true=>Kb d F tk false o .ready none T1 | false=>Kb d F tk false o .done (some .ret) T1):=by
   intro k y hk
   obtain⟨i,hi,hc⟩:=tm (aMg hk)
   refine fU ?_
   rcases o with _ | x0
   ·have hm:=hmk hpi q2 y.1 y.2 { heap:=[.cells 108 (da d (ao false F) tk (ag F)),.cells 106 [.ptr (.box 0) 0],.loop { mQ false none .ready none with st:=.busy,locs:=[] }],aA:=T1 } (by omega) ⟨i,hi,hc⟩ rfl
    refine fH (r:=mQ false none .ready none) (nt:=46) (fx:=[1,2]) rfl rfl rfl rfl rfl rfl rfl ?_
    refine ae.mkB hm (fun c1=>?_) (fun c1=>?_)
    ·rw [c1];rfl
    ·rw [c1];rfl
   ·have hm:=hmk hpi q2 y.1 y.2 { heap:=[.cells 108 (da d (ao false F) tk (ag F)),.cells 106 [.ptr (.box 0) 0],.loop { mQ false (some x0) .ready none with st:=.busy,locs:=[] }],aA:=T1 } (by omega) ⟨i,hi,hc⟩ rfl
    refine fH (r:=mQ false (some x0) .ready none) (nt:=46) (fx:=[1,2,4]) rfl rfl rfl rfl rfl rfl rfl ?_
    refine ae.mkB hm (fun c1=>?_) (fun c1=>?_)
    ·rw [c1];rfl
    ·rw [c1];rfl
  obtain⟨S1,g1,g2⟩:=PX (n:=q2 + 1) (d:=d) (sz:=ao false F) (tok:=tk) (rows:=ag F) (b:=2) (B:=[.loop (mQ false o .ready none)]) (T:=T1)
   (P:=fun k S=>S=Kb d F tk false o .ready none T1∧((fZ d.aj).all fun q=>iZ d fx F q.1 q.2.ty)=((fZ d.aj).drop k).all fun q=>iZ d fx F q.1 q.2.ty)
   (Q:=fun S=>S=Kb d F tk false o .done (some .ret) T1∧((fZ d.aj).all fun q=>iZ d fx F q.1 q.2.ty)=false) (by omega) (fun i hi=>by have:=hnm.cs i hi;omega) hnm.smD ⟨rfl,rfl⟩ (fun k y S hk ⟨e1,e2⟩=>by
    subst e1
    rw [fz hk] at e2
    have hr:=xW k y hk
    cases hm:iZ d fx F y.1 y.2.ty with
    | true=>
     rw [hm] at hr e2
     exact .inl ⟨_,hr,rfl,e2⟩
    | false=>
     rw [hm] at hr e2
     exact .inr ⟨_,hr,rfl,e2⟩)
  rcases g2 with⟨rfl,e2⟩ | ⟨rfl,e2⟩
  ·rw [List.drop_length] at e2
   have SI:((fZ d.aj).all fun q=>iZ d fx F q.1 q.2.ty)=true:=e2
   have te:oO d fx F=true:=by unfold oO;rw [bt,SI];rfl
   rcases o with _ | x0
   ·refine ah.no (geM (by omega)) ?_
    refine ae.mk _ _ (GV (by omega)) ?_
    refine aD.mk _ _ _ (dR (f:=149) (top:=2) (first:=[]) (cap:=[.ptr (.box 1) 0]) (l:=mQ false none .ready none) (r:=mQ false none .ready none) (v:=.tuple []) (by rfl) (by rfl) g1 (by rfl) (.inl rfl)) ?_
    exact⟨_,rfl,fin true _ tk te rfl⟩
   ·refine ah.no (geM (by omega)) ?_
    refine ae.mk _ _ (GV (by omega)) ?_
    refine aD.mk _ _ _ (dR (f:=149) (top:=2) (first:=[]) (cap:=[.ptr (.box 1) 0]) (l:=mQ false (some x0) .ready none) (r:=mQ false (some x0) .ready none) (v:=.tuple []) (by rfl) (by rfl) g1 (by rfl) (.inl rfl)) ?_
    exact⟨_,rfl,fin true _ tk te rfl⟩
  ·have te:oO d fx F=false:=by unfold oO;rw [e2];simp
   rcases o with _ | x0
   ·refine ah.no (geM (by omega)) ?_
    refine ae.mk _ _ (GV (by omega)) ?_
    refine aD.mk _ _ _ (dR (f:=149) (top:=2) (first:=[]) (cap:=[.ptr (.box 1) 0]) (l:=mQ false none .ready none) (r:=mQ false none .done (some .ret)) (v:=.tuple []) (by rfl) (by rfl) g1 (by rfl) (.inr rfl)) ?_
    exact⟨_,rfl,fin false _ tk te rfl⟩
   ·refine ah.no (geM (by omega)) ?_
    refine ae.mk _ _ (GV (by omega)) ?_
    refine aD.mk _ _ _ (dR (f:=149) (top:=2) (first:=[]) (cap:=[.ptr (.box 1) 0]) (l:=mQ false (some x0) .ready none) (r:=mQ false (some x0) .done (some .ret)) (v:=.tuple []) (by rfl) (by rfl) g1 (by rfl) (.inr rfl)) ?_
    exact⟨_,rfl,fin false _ tk te rfl⟩
end
theorem DA (ss:List (List UInt8)):iEq (.ofNat (aH (uJ ss))) (.ofNat ss.length)=decide ss.Nodup:=by
 rw [aq,fQ,Bool.eq_iff_iff,decide_eq_true_eq,decide_eq_true_eq]
 have hp:=nU ss
 have hs:=nV ss
 rw [← hp.length_eq,← hp.nodup_iff]
 unfold uJ
 generalize pG ss=zs at *
 constructor
 ·intro h
  unfold Lib.compact Lib.compactUpTo at h
  rw [aLm] at h
  have bt:∀j∈List.range zs.length,Lib.keeps zs.toArray j=true:=by
   rw [← List.length_filter_eq_length_iff,List.length_range]
   exact h
  refine List.pairwise_iff_getElem.2 fun i j hi hj hij e=>?_
  have hk:=bt j (List.mem_range.2 hj)
  unfold Lib.keeps at hk
  rw [decide_eq_true_eq] at hk
  have h1:zs.toArray[j]! = zs[j]:=by rw [getElem!_pos zs.toArray j (by simpa using hj)];simp
  have h2:zs.toArray[j - 1]! = zs[j - 1]:=by rw [getElem!_pos zs.toArray (j - 1) (by simp;omega)];simp
  rw [h1,h2] at hk
  rcases hk with hk | hk
  ·omega
  ·by_cases hq:i=j - 1
   ·subst hq;exact hk e.symm
   ·have a1:=List.pairwise_iff_getElem.1 hs i (j - 1) hi (by omega) (by omega)
    have a2:=List.pairwise_iff_getElem.1 hs (j - 1) j (by omega) hj (by omega)
    unfold l7 at a1 a2
    simp only [decide_eq_true_eq] at a1 a2
    rw [e] at a1
    exact hk (List.le_antisymm a1 a2)
 ·intro h
  rw [Lib.compact_all]
  intro j hj
  unfold Lib.keeps
  rw [decide_eq_true_eq]
  by_cases h0:j=0
  ·exact .inl h0
  ·right
   rw [getElem!_pos zs.toArray j (by simpa using hj),getElem!_pos zs.toArray (j - 1) (by simp;omega)]
   simp only [List.getElem_toArray]
   intro e
   have:=List.pairwise_iff_getElem.1 h (j - 1) j (by omega) hj (by omega)
   exact this e.symm
noncomputable def vt (s:List UInt8):Bool:=!mL s || iLt 28 (.ofNat (aH s))
theorem GW (s:List UInt8):vt s = !okN s:=by
 unfold vt okN
 cases mL s<;>simp
noncomputable def lN (d:Dl):List (List UInt8):=d.aj.map (·.name)++(fZ d.aj).map (·.2.name)
noncomputable def rN (d:Dl):List (List UInt8):=d.aj.map fun i=>i.name++bU
noncomputable def oE (d:Dl):Bool:=match (lN d).any vt with
 | true=>false
 | false=>decide (lN d++rN d).Nodup
theorem zN:∀(l:List In) (x0:Nat),(l.flatMap yD).Perm (l.map (·.name)++((l.zipIdx x0).flatMap fun q=>q.1.cs.map fun c=>(q.2,c)).map (·.2.name)++l.map fun i=>i.name++bU)
 | [],x0=>List.Perm.refl _
 | a::l,x0=>by
  rw [List.flatMap_cons,List.zipIdx_cons,List.flatMap_cons,List.map_cons,List.map_cons,List.map_append]
  have ih:=zN l (x0 + 1)
  have e:(List.map (fun x=>x.2.name) (List.map (fun c=>(x0,c)) a.cs))=a.cs.map (·.name):=by rw [List.map_map];rfl
  rw [e]
  unfold yD nmI
  refine List.Perm.trans (List.Perm.append_left _ ih) ?_
  rw [List.perm_iff_count]
  intro s
  simp only [List.count_append,List.count_cons,List.count_nil]
  omega
theorem DB (d:Dl):oE d=mo d:=by
 unfold oE mo
 have h1:(lN d).any vt = !(d.aj.all fun i=>(nmI i).all okN):=by
  rw [Bool.eq_iff_iff]
  constructor
  ·intro h
   obtain⟨s,hs,hb⟩:=List.any_eq_true.1 h
   rw [GW] at hb
   rw [Bool.not_eq_true',← Bool.not_eq_true]
   intro bt
   unfold lN at hs
   rcases List.mem_append.1 hs with hs | hs
   ·obtain⟨i,hi,rfl⟩:=List.mem_map.1 hs
    have:=List.all_eq_true.1 (List.all_eq_true.1 bt i hi) i.name (by unfold nmI;simp)
    rw [this] at hb;cases hb
   ·obtain⟨q,hq,rfl⟩:=List.mem_map.1 hs
    obtain⟨i,hi,hc⟩:=tm hq
    have:=List.all_eq_true.1 (List.all_eq_true.1 bt i hi) q.2.name (by unfold nmI;exact aMt _ (List.mem_map.2 ⟨q.2,hc,rfl⟩))
    rw [this] at hb;cases hb
  ·intro h
   rw [Bool.not_eq_true'] at h
   obtain⟨i,hi,h2⟩:=List.all_eq_false.1 h
   have h2' : (nmI i).all okN=false:=by simpa using h2
   obtain⟨s,hs,h3⟩:=List.all_eq_false.1 h2'
   refine List.any_eq_true.2 ⟨s,?_,by rw [GW];simpa using h3⟩
   unfold lN
   unfold nmI at hs
   cases hs with
   | head=>exact List.mem_append_left _ (List.mem_map.2 ⟨i,hi,rfl⟩)
   | tail _ hs=>
    obtain⟨c,hc,rfl⟩:=List.mem_map.1 hs
    obtain⟨j,hj⟩:=List.mem_iff_getElem?.1 hi
    obtain⟨k,hk⟩:=List.mem_iff_getElem?.1 hc
    exact List.mem_append_right _ (List.mem_map.2 ⟨(j,c),aMg (mP hj hk),rfl⟩)
 have h2:decide (lN d++rN d).Nodup=decide (d.aj.flatMap yD).Nodup:=by
  rw [Bool.eq_iff_iff,decide_eq_true_eq,decide_eq_true_eq]
  exact (zN d.aj 0).nodup_iff.symm
 rw [h1,h2]
 cases (d.aj.all fun i=>(nmI i).all okN)<;>rfl
section
variable {n:Nat} {d:Dl} {sz:Nat} {tok:Tok} {rows:List V} {S:St}
theorem SJ {s:List UInt8} (hs:s.length≤1000) (hn:1010≤n):RN n (.f 109) [.str s] S=some (.bool (vt s),S):=by
 obtain⟨q,rfl⟩:=up (show 2≤n by omega)
 have h:∃r,frame Tryz.cfg (RN (q + 1)) (q + 1) 109 [.str s] St.empty=some r∧∃S',r=(.bool (vt s),S'):=by
  refine aU (fn:=Tryz.f109) (p:=fun r=>∃S',r=(.bool (vt s),S')) rfl rfl ?_
  unfold vt
  refine ae.mkB (qx q s _ (by omega) (by omega)) (fun c1=>?_) (fun c1=>?_)
  ·rw [c1]
   refine ah.mk (fun c2=>?_) (fun c2=>?_)
   ·rw [c2];exact⟨_,rfl,_,rfl⟩
   ·rw [c2];exact⟨_,rfl,_,rfl⟩
  ·rw [c1];exact⟨_,rfl,_,rfl⟩
 obtain⟨r,k6,S',rfl⟩:=h
 exact bC k6 (by simp only [jI,an]) rfl rfl rfl rfl rfl
theorem Fp (ss:List (List UInt8)):nW (ss.map bQ)=some ss:=by
 unfold nW
 induction ss with
 | nil=>rfl
 | cons s ss ih=>rw [List.map_cons,bT,ih];rfl
structure NmQ (l r:List (List UInt8)) (s1 s2:Nat) (t1 t2:Tok) (T:List Nat):Prop where
 two:Two [] T (l.map bQ) t1 (r.map bQ) t2
 h1:SzS s1 l
 h2:SzS s2 r
@[reducible] noncomputable def M9 (sz:Nat) (tk:Tok) (l:List (List UInt8)) (o:Option In):List (Nat×List V):=(3,[.list sz tk 0 (l.map bQ)])::(match o with | none=>[] | some x=>[(6,fe x)])
noncomputable def mR (d:Dl) (z:Nat) (tk0:Tok) (rows:List V) (s1:Nat) (t1:Tok) (l:List (List UInt8)) (s2:Nat) (t2:Tok) (r:List (List UInt8)) (o:Option In):dD:={ fid:=54,nt:=63,tmps:=[(0,cU d z tk0 rows),(2,.bool false),(3,.ptr (.loc 3) 0),(4,.list s2 t2 0 (r.map bQ)),(32,.fn 149 1 [] [.ptr (.box 0) 0])],locs:=M9 s1 t1 l o,params:=[33,34],assign:=ma Tryz.f54,body:=mb Tryz.f54,st:=.ready,jj:=none }
theorem vA (sz:Nat) (b:Bool) (rows:List V):niS (.list sz (aw b) 0 rows)=niR rows:=by
 unfold niS
 cases b<;>rfl
theorem Bu (ls:List Lv):niR (ls.map enc)=true:=by
 induction ls with
 | nil=>rfl
 | cons l ls ih=>
  rw [List.map_cons]
  unfold niR
  rw [ih]
  rfl
theorem Ke {ts:List Tm} (h:∀y∈ts,niA (aB y)=true):niR (ag ts)=true:=by
 induction ts with
 | nil=>rfl
 | cons t ts ih=>
  rw [show ag (t::ts)=aB t::ag ts by rw [cZ,cZ,List.map_cons]]
  unfold niR
  rw [h t aMs,ih (fun y hy=>h y (aMt _ hy))]
  rfl
theorem tt (c:V) (cs:List V):niL (c::cs)=(niS c && niL cs):=rfl
theorem vB (k:IntKind) (z:Int):niS (.int k z)=true:=rfl
theorem vC (s:List UInt8):niS (.str s)=true:=rfl
theorem OK (x:Tm):niA (aB x)=true:=by
 induction x using Tm.ind with
 | h x ih=>
  show (true && niL (aC x))=true
  simp only [tt,vB,vC,vA,Bu,Ke ih,Bool.true_and]
  rfl
theorem Fq (ts:List Tm):niR (ag ts)=true:=Ke fun y _=>OK y
theorem GX {α:Type} {f:α→V} {l:List α} (h:∀x∈l,niA (f x)=true):niR (l.map f)=true:=by
 induction l with
 | nil=>rfl
 | cons x l ih=>
  rw [List.map_cons]
  unfold niR
  rw [h x aMs,ih (fun y hy=>h y (aMt _ hy))]
  rfl
theorem P9 (c:Ct):niA (fO c)=true:=by
 show (true && niL (mh c))=true
 simp only [tt,vB,vC,vA,Bu,Fq,Bool.true_and]
 rfl
theorem Kf (sz:Nat) (rows:List V):niS (.list sz .no 0 rows)=niR rows:=rfl
theorem Qa (i:In):niA (encI i)=true:=by
 show (true && niL (fe i))=true
 simp only [tt,vB,vC,vA,Kf,Bu,Fq,GX (fun c _=>P9 c),Bool.true_and]
 rfl
theorem Qb (d:Dl):niS (cU d 0 .tight [])=true:=by
 show (true && niL (da d 0 .tight []))=true
 simp only [tt,vB,vC,vA,Kf,Bu,Fq,GX (fun c _=>Qa c),Bool.true_and]
 rfl
theorem h54 (hok:niS (cU d sz tok rows)=true) (hd:xK d) (hne:d.aj≠[]) (hn:3000≤n):RN (n + 1) (.f 54) [cU d sz tok rows] S=some (.bool (oE d),S):=by
 have gQ:=hd.few
 have TT:(fZ d.aj).length≤200:=by
  have h1:=mv hd.cs d.aj.length
  have:d.aj.length * 20≤10 * 20:=Nat.mul_le_mul (by omega) (by omega)
  rw [tg];unfold iY;omega
 have h:∃v,nY (fN Tryz.cfg cQ cY bY (n + 1)) (n + 1) [cU d sz tok rows]=some v∧v=.bool (oE d):=by
  have hw:fm Tryz.cfg (RX n) (Tryz.cfg.fc 54) (n + 1) 54 63 ndC { nt:=Tryz.f54.ntmps,tmps:=number 0 [cU d sz tok rows],locs:=[],fix:=[] } St.empty fun e A S=>match e with
   | .exit _=>False
   | .ret=>(lN d).any vt=true∧cV Tryz.cfg A S Tryz.f54.results.toList=some [.bool false]
   | .normal=>(lN d).any vt=false∧∃z t z2 t2 T,look 3 A.locs=some [.list z (.own t) 0 ((lN d++rN d).map bQ)]∧nth T t=some (lN d++rN d).length∧look 4 A.tmps=some (.list z2 t2 0 ((rN d).map bQ))∧S.aA=T∧look 0 A.tmps=some (cU d sz tok rows)∧look 3 A.tmps=some (.ptr (.loc 3) 0)∧A.nt=63:=by
   refine fm.cons (nt:=63) ?_
   refine fm.cons (nt:=63) ?_
   refine fm.cons (nt:=63) ?_
   refine aD.loop 63 (σ:=Option In×List (List UInt8)×List (List UInt8)×Nat×Nat×Tok×Tok×List Nat) d.aj.length (fun j s=>{ nt:=63,tmps:=[(0,cU d sz tok rows),(2,.bool false),(3,.ptr (.loc 3) 0),(4,.list s.2.2.2.2.1 s.2.2.2.2.2.2.1 0 (s.2.2.1.map bQ)),(13,.list 7 .no 0 (d.aj.map encI)),(14,.int .i64 (.ofNat (aH (d.aj.map encI)))),(15,.int .i64 (.ofNat j))],locs:=M9 s.2.2.2.1 s.2.2.2.2.2.1 s.2.1 s.1,fix:=[] })
    (fun _ s=>{ heap:=[],aA:=s.2.2.2.2.2.2.2 }) (fun j s=>s.2.1=(d.aj.take j).map (·.name)∧s.2.2.1=(d.aj.take j).map (fun i=>i.name++bU)∧NmQ s.2.1 s.2.2.1 s.2.2.2.1 s.2.2.2.2.1 s.2.2.2.2.2.1 s.2.2.2.2.2.2.1 s.2.2.2.2.2.2.2) (none,[],[],0,0,.tight,.tight,[]) (show d.aj.length < n + 1 by omega) ⟨rfl,rfl,⟨jm.refl [],.inl ⟨rfl,rfl⟩,.inl rfl,fun t h=>by cases h⟩,.inl rfl,.inl rfl⟩ ?_ ?_
   ·rintro j ⟨o,l,r,s1,s2,t1,t2,T⟩ hj ⟨(hl:l=_),(hr:r=_),(hq:NmQ l r s1 s2 t1 t2 T)⟩
    obtain⟨x,hx⟩ : ∃x,d.aj[j]?=some x:=⟨_,aGe hj⟩
    have hnl:=(hd.nm x (aMg hx)).1
    have hll:l.length≤10:=by rw [hl,aLm,List.length_take];omega
    have hrl:r.length≤10:=by rw [hr,aLm,List.length_take];omega
    have hrw:∀(l:List (List UInt8)) (T0 T:List Nat) (tk:Tok),av T0 T (l.map bQ) tk↔av T0 T l tk:=fun l T0 T tk=>av.map (List.map bQ) (fun l=>by simp)
    obtain⟨T2,t1',a1,a2⟩:=mn (H:=[]) (T0:=[]) (T:=T) (done:=l) (new:=[x.name]) (tok:=t1) (bg:=.tight) (sz:=s1) (sz2:=1) (by simp;omega) hq.h1 (.inr rfl) (by simp) (((hrw _ _ _ _).1 ⟨hq.two.e,hq.two.ha⟩).w)
    have uf:=hq.two.GQ ((hrw _ _ _ _).2 a2) (ij (a1 ES .any rfl))
    have hgw:m5 [] T2 r t2:=⟨uf.e,uf.hb.imp id (fun⟨t,q1,q2,q3,q4⟩=>⟨t,q1,q2,by rw [aLm] at q3;exact q3,by simpa using q4⟩)⟩
    obtain⟨T3,t2',b1,b2⟩:=mn (H:=[]) (T0:=[]) (T:=T2) (done:=r) (new:=[x.name++bU]) (tok:=t2) (bg:=.tight) (sz:=s2) (sz2:=1) (by simp;omega) hq.h2 (.inr rfl) (by simp) hgw
    have Fg:=uf.J3 ((hrw _ _ _ _).2 b2) (ij (b1 ES .any rfl))
    rcases o with _ | x0
    all_goals
     refine ah.yes (ltM hj) ?_
     refine ab.mk _ (aL hx) ?_
     refine ab.mk _ (bsS x.name) ?_
     refine cj.mk _ _ (a1 _ _ rfl) ?_
     refine ab.mk _ (xJ (b:=bU) (by unfold bU;simp only [aLc,List.length_nil];omega)) ?_
     refine ab.mk _ (bsS (x.name++bU)) ?_
     refine cj.mk _ _ (b1 _ _ rfl) ?_
     refine ab.mk _ (az (by omega)) ?_
     exact⟨(some x,l++[x.name],r++[x.name++bU],1,1,t1',t2',T3),⟨by rw [map_take _ _ _ _ hx,hl],by rw [map_take _ _ _ _ hx,hr],Fg,.inr rfl,.inr rfl⟩,rfl,rfl⟩
   ·rintro⟨o,l,r,s1,s2,t1,t2,T⟩ ⟨(hl:l=_),(hr:r=_),(hq:NmQ l r s1 s2 t1 t2 T)⟩
    rw [List.take_length] at hl hr
    have hrw:∀(l:List (List UInt8)) (T0 T:List Nat) (tk:Tok),av T0 T (l.map bQ) tk↔av T0 T l tk:=fun l T0 T tk=>av.map (List.map bQ) (fun l=>by simp)
    obtain⟨m,rfl⟩:=up (show 1≤n by omega)
    have xW:∀(k:Nat) (y:Nat×Ct) (l2:List (List UInt8)) (z1:Nat) (k1:Tok) (T2:List Nat),(fZ d.aj)[k]?=some y→l2.length≤1000→NmQ l2 r z1 s2 k1 t2 T2→
     ∃z1' k1' T',RN (m + 1) (.y 1) [.int .i64 (.ofNat y.1),fO y.2] { heap:=[.cells 106 [cU d sz tok rows],.loop (mR d sz tok rows z1 k1 l2 s2 t2 r o)],aA:=T2 }=some (.bool true,{ heap:=[.cells 106 [cU d sz tok rows],.loop (mR d sz tok rows z1' k1' (l2++[y.2.name]) s2 t2 r o)],aA:=T' })∧NmQ (l2++[y.2.name]) r z1' s2 k1' t2 T':=by
     intro k y l2 z1 k1 T2 hk hl2 hq2
     obtain⟨T3,t1',a1,a2⟩:=mn (H:=[.cells 106 [cU d sz tok rows],.loop { mR d sz tok rows z1 k1 l2 s2 t2 r o with st:=.busy,locs:=[] }]) (T0:=[]) (T:=T2) (done:=l2) (new:=[y.2.name]) (tok:=k1) (bg:=.tight) (sz:=z1) (sz2:=1) (by simp;omega) hq2.h1 (.inr rfl) (by simp) (((hrw _ _ _ _).1 ⟨hq2.two.e,hq2.two.ha⟩).w)
     have uf:=hq2.two.GQ ((hrw _ _ _ _).2 a2) (ij (a1 ES .any rfl))
     refine⟨1,t1',T3,?_,uf,.inr rfl,hq2.h2⟩
     refine fU ?_
     rcases o with _ | x0
     ·refine fH (r:=mR d sz tok rows z1 k1 l2 s2 t2 r none) (nt:=63) (fx:=[3]) rfl rfl rfl rfl rfl rfl rfl ?_
      refine ab.mk _ (bsS y.2.name) ?_
      refine cj.mk _ _ (a1 _ _ rfl) ?_
      conv=>whnf
      rfl
     ·refine fH (r:=mR d sz tok rows z1 k1 l2 s2 t2 r (some x0)) (nt:=63) (fx:=[3,6]) rfl rfl rfl rfl rfl rfl rfl ?_
      refine ab.mk _ (bsS y.2.name) ?_
      refine cj.mk _ _ (a1 _ _ rfl) ?_
      conv=>whnf
      rfl
    obtain⟨S1,g1,g2⟩:=OE (n:=m + 1) (d:=d) (sz:=sz) (tok:=tok) (rows:=rows) (b:=1) (B:=[.loop (mR d sz tok rows s1 t1 l s2 t2 r o)]) (T:=T)
     (P:=fun k S=>∃l2 z1 k1 T2,S={ heap:=[.cells 106 [cU d sz tok rows],.loop (mR d sz tok rows z1 k1 l2 s2 t2 r o)],aA:=T2 }∧l2=l++((fZ d.aj).take k).map (·.2.name)∧NmQ l2 r z1 s2 k1 t2 T2)
     (Q:=fun _=>False) (by omega) (fun i hi=>by have:=hd.cs i hi;omega) hd.smD ⟨l,s1,t1,T,rfl,by simp,hq⟩ (fun k y S hk ⟨l2,z1,k1,T2,e1,e2,e3⟩=>by
      subst e1
      have hkl:=(aGs hk).1
      obtain⟨z1',k1',T',q1,q2⟩:=xW k y l2 z1 k1 T2 hk (by rw [e2,hl];simp only [aLa,aLm,List.length_take];omega) e3
      exact .inl ⟨_,q1,l2++[y.2.name],z1',k1',T',rfl,by rw [map_take _ _ _ _ hk,e2,List.append_assoc],q2⟩)
    obtain⟨l2,z1,k1,T2,e1,e2,hq2⟩:=g2.elim id False.elim
    rw [List.take_length,hl] at e2
    have e2' : l2=lN d:=e2
    have hr' : r=rN d:=hr
    subst e1
    subst e2'
    subst hr'
    have hLl:(lN d).length≤300:=by unfold lN;simp only [aLa,aLm];omega
    have hRl:(rN d).length≤10:=by unfold rN;rw [aLm];omega
    have Qc:rN d≠[]:=by unfold rN;simpa using hne
    have hsl:∀s∈lN d,s.length≤1000:=by
     intro s hs
     unfold lN at hs
     rcases List.mem_append.1 hs with hs | hs
     ·obtain⟨i,hi,rfl⟩:=List.mem_map.1 hs
      have:=(hd.nm i hi).1;omega
     ·obtain⟨q,hq,rfl⟩:=List.mem_map.1 hs
      obtain⟨i,hi,hc⟩:=tm hq
      have:=(hd.nm i hi).2 _ hc;omega
    obtain⟨tb,htb⟩:=eC k1
    have Qd:RN (m + 2) (.f 108) [.list z1 k1 0 ((lN d).map bQ),.fn 109 0 [] []] { heap:=[.cells 106 [cU d sz tok rows],.loop { mR d sz tok rows z1 k1 (lN d) s2 t2 (rN d) o with st:=.rk,locs:=[],tmps:=[] }],aA:=T2 }=some (.bool ((lN d).any vt),{ heap:=[.cells 106 [cU d sz tok rows],.loop { mR d sz tok rows z1 k1 (lN d) s2 t2 (rN d) o with st:=.rk,locs:=[],tmps:=[] }],aA:=T2 }):=by
     rw [iW (jQ:=[.list z1 (aw tb) 0 ((lN d).map bQ),.fn 109 0 [] []]) rfl rfl rfl (by rw [eD htb,eD (nA tb)])]
     exact Sc (n:=m) (f:=109) (first:=[]) (cap:=[]) vt (lN d) z1 tb hq2.h1 (by omega) (by omega) rfl (fun x hx=>.inl ⟨rfl,rfl,SJ (hsl x hx) (by omega)⟩)
    obtain⟨T5,t5,b1,b2⟩:=mn (H:=[.cells 106 [cU d sz tok rows],.loop { mR d sz tok rows z1 k1 (lN d) s2 t2 (rN d) o with st:=.rk,locs:=[],tmps:=[] }]) (T0:=[]) (T:=T2) (done:=lN d) (new:=rN d) (tok:=k1) (bg:=t2) (sz:=z1) (sz2:=s2) (by omega) hq2.h1 hq2.h2 Qc (((hrw _ _ _ _).1 ⟨hq2.two.e,hq2.two.ha⟩).w)
    have Ml:∃t,t5=.own t∧nth T5 t=some (lN d++rN d).length:=by
     rcases b2.2 with⟨h,_⟩ | ⟨t,h1,_,h3,_⟩
     ·simp [Qc] at h
     ·exact⟨t,h1,h3⟩
    obtain⟨t,rfl,hlen⟩:=Ml
    rcases o with _ | x0
    ·refine ah.no (geM (by omega)) ?_
     refine fm.cons (nt:=63) ?_
     refine ae.mk _ _ (rr (J6 (by omega))) ?_
     refine aD.mk _ _ _ (dR (f:=149) (top:=1) (first:=[]) (cap:=[.ptr (.box 0) 0]) (l:=mR d sz tok rows s1 t1 l s2 t2 (rN d) none) (r:=mR d sz tok rows z1 k1 (lN d) s2 t2 (rN d) none) (v:=.tuple []) (by rfl) (by rfl) (rr g1) (by rfl) (.inl rfl)) ?_
     refine fm.cons (nt:=63) ?_
     refine ae.mkB (rr Qd) (fun c1=>?_) (fun c1=>?_)
     ·exact⟨c1,rfl⟩
     ·refine fm.cons (nt:=63) ?_
      refine cj.mk _ _ (b1 _ _ rfl) ?_
      refine fm.nil (nt:=63) ?_
      exact⟨c1,1,t,s2,t2,T5,rfl,hlen,rfl,rfl,rfl,rfl,rfl⟩
    ·refine ah.no (geM (by omega)) ?_
     refine fm.cons (nt:=63) ?_
     refine ae.mk _ _ (rr (J6 (by omega))) ?_
     refine aD.mk _ _ _ (dR (f:=149) (top:=1) (first:=[]) (cap:=[.ptr (.box 0) 0]) (l:=mR d sz tok rows s1 t1 l s2 t2 (rN d) (some x0)) (r:=mR d sz tok rows z1 k1 (lN d) s2 t2 (rN d) (some x0)) (v:=.tuple []) (by rfl) (by rfl) (rr g1) (by rfl) (.inl rfl)) ?_
     refine fm.cons (nt:=63) ?_
     refine ae.mkB (rr Qd) (fun c1=>?_) (fun c1=>?_)
     ·exact⟨c1,rfl⟩
     ·refine fm.cons (nt:=63) ?_
      refine cj.mk _ _ (b1 _ _ rfl) ?_
      refine fm.nil (nt:=63) ?_
      exact⟨c1,1,t,s2,t2,T5,rfl,hlen,rfl,rfl,rfl,rfl,rfl⟩
  obtain⟨e,A,S',h1,h2⟩:=hw
  unfold nY
  simp only [h1]
  cases e with
  | exit i=>exact h2.elim
  | ret=>
   obtain⟨h3,h4⟩:=h2
   simp only [h4]
   exact⟨_,rfl,by unfold oE;rw [h3]⟩
  | normal=>
   obtain⟨h3,z,t,z2,t2,T,h4,h5,h6,h7,h8,h9,h10⟩:=h2
   have Qe:=rr (HG (n:=n + 1) (d:=d) (sz:=sz) (tok:=tok) (rows:=rows) (S:=St.empty) (by omega) (fun i hi=>by have:=hd.cs i hi;omega) hd.smD (by omega))
   have hRl:(rN d).length=d.aj.length:=by unfold rN;rw [aLm]
   have hLl:(lN d).length=d.aj.length + (fZ d.aj).length:=by unfold lN;rw [aLa,aLm,aLm]
   have sj:zg (fN Tryz.cfg cQ cY bY (n + 1)) (da d sz tok rows) (.list z2 t2 0 ((rN d).map bQ))=some (.ofNat (lN d++rN d).length):=by
    unfold zg
    simp only [show nth (da d sz tok rows) 14=some (.list 7 .no 0 (d.aj.map encI)) from rfl,CG,Qe,aq,aLm]
    rw [hRl,aLa,hRl,hLl]
    rw [show eH .i64 (.ofNat (d.aj.length + d.aj.length))=.ofNat (d.aj.length + d.aj.length) from gy (by simp only [aOn];omega) (by simp only [aOn];omega)]
    rw [show eH .i64 (Int.ofNat (d.aj.length + d.aj.length) + Int.ofNat (fZ d.aj).length)=Int.ofNat (d.aj.length + d.aj.length) + Int.ofNat (fZ d.aj).length from gy (by simp only [aOn];omega) (by simp only [aOn];omega)]
    rw [show (Int.ofNat (d.aj.length + d.aj.length) + Int.ofNat (fZ d.aj).length)=Int.ofNat (d.aj.length + d.aj.length + (fZ d.aj).length) from rfl,show d.aj.length + d.aj.length + (fZ d.aj).length=d.aj.length + (fZ d.aj).length + d.aj.length by omega]
   have xt:lN d++rN d≠[]:=by
    intro h
    have h8:(lN d++rN d).length=0:=by rw [h];rfl
    rw [aLa,hRl] at h8
    exact hne (List.eq_nil_of_length_eq_zero (by omega))
   have SK:qs S' (.list z (.own t) 0 ((lN d++rN d).map bQ))=some (aH (uJ (lN d++rN d))):=by
    unfold qs
    simp only [Fp]
    cases hL:lN d++rN d with
    | nil=>exact absurd hL xt
    | cons a l=>
     rw [hL] at h5
     simp only [h7,h5,aq,aLm]
     rw [show (Nat.beq (a::l).length (a::l).length && Nat.blt (a::l).length 4611686018427387904)=true by
      have hq:(a::l).length < 4611686018427387904:=by rw [← hL,aLa,hRl,hLl];omega
      rw [Nat.beq_refl,Bool.true_and]
      exact dj hq]
     rfl
   unfold pL
   dsimp only
   rw [h8,h9,h4,h6]
   show ∃v,(bif niS (cU d sz tok rows) && Nat.blt 62 A.nt then match qs S' (.list z (.own t) 0 ((lN d++rN d).map bQ)),zg (fN Tryz.cfg cQ cY bY (n + 1)) (da d sz tok rows) (.list z2 t2 0 ((rN d).map bQ)) with
    | some n,some m=>some (V.bool (iEq (Int.ofNat n) m))
    | _,_=>none else none)=some v∧v=V.bool (oE d)
   rw [hok,h10,SK,sj]
   simp only [show Nat.blt 62 63=true from rfl,Bool.and_self,cond_true]
   refine⟨_,rfl,?_⟩
   rw [DA]
   unfold oE
   rw [h3]
 obtain⟨v,h1,rfl⟩:=h
 have SL:bV cQ (n + 1) (fN Tryz.cfg cQ cY bY (n + 1)) (.f 54) [cU d sz tok rows] S=some (.bool (oE d),S):=by
  unfold bV
  have hc:cQ 54=some nY:=rfl
  simp only [hc]
  rw [show allB V.pure [cU d sz tok rows]=true from rfl,eF,an,h1]
  rfl
 exact SL
end
end Go.Ev
