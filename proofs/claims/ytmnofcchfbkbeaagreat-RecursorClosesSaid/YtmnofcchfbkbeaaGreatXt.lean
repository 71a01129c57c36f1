/- The package: what positive says of a declaration (own work). -/
import Derived.Test.YtmnofcchfbkbeaaGreatXs
namespace Go.Ev
open Go.Proofs Go.RowKit
set_option maxRecDepth 100000
set_option linter.unusedVariables false
set_option linter.unusedSimpArgs false
theorem ek (d:Dl) (sz:Nat) (tok:Tok) (rows l:List V):bg V.strip (cQ d sz tok rows::l)=cQ d sz tok rows::bg V.strip l:=rfl
noncomputable def mr (x:Tm):Bool:=iEq x.k 0 && (iEq x.n 0 && (decide (x.s=[]) && iEq (.ofNat (x.ls.length + x.ts.length)) 0))
theorem zI (x:Tm):mr x=dx x zTm:=by
 cases x with
 | mk k n s a b c d ls ts=>
  unfold mr
  rw [sS]
  show (iEq k 0 && (iEq n 0 && (decide (s=[]) && iEq (.ofNat (ls.length + ts.length)) 0)))=((iEq k 0 && iEq n 0 && decide (s=[]) && iEq (.ofNat (aG (ls.map enc))) 0 && iEq (.ofNat (aG (ae ts))) (.ofNat (aG (ae [])))) && (decide (ls=[]) && iK ts []))
  rw [al,al,an,aLm]
  cases ls with
  | nil=>
   cases ts with
   | nil=>rw [iK];simp only [List.length_nil,Bool.and_assoc];simp [bp]
   | cons t ts=>
    have e1:iEq (.ofNat (([]:List Lv).length + (t::ts).length)) 0=false:=by rw [bp];simp only [List.length_nil,aLc,aOn,decide_eq_false_iff_not];omega
    have e2:iEq (.ofNat (t::ts).length) (.ofNat ([]:List Tm).length)=false:=by rw [bp];simp only [List.length_nil,aLc,aOn,decide_eq_false_iff_not];omega
    rw [e1,e2];simp
  | cons l ls=>
   have e1:iEq (.ofNat ((l::ls).length + ts.length)) 0=false:=by rw [bp];simp only [aLc,aOn,decide_eq_false_iff_not];omega
   have e2:iEq (.ofNat (l::ls).length) 0=false:=by rw [bp];simp only [aLc,aOn,decide_eq_false_iff_not];omega
   rw [e1,e2];simp
section
variable {n:Nat} {d:Dl} {sz:Nat} {tok:Tok} {rows:List V} {S:St}
theorem h95 {x:Tm} (hl:x.ls.length≤1000000000) (hl2:x.ts.length≤1000000000) (hn:2≤n):RN n (.f 95) [aH x] S=some (.bool (mr x),S):=by
 obtain⟨q,rfl⟩:=up (show 1≤n by omega)
 have h:∃r,frame Tryz.cfg (RN q) q 95 [aH x] St.empty=some r∧∃S',r=(.bool (mr x),S'):=by
  refine aV (fn:=Tryz.f95) (p:=fun r=>∃S',r=(.bool (mr x),S')) rfl rfl ?_
  refine ah.mk (fun c1=>?_) (fun c1=>?_)
  ·refine ah.mk (fun c2=>?_) (fun c2=>?_)
   ·refine ab.mkB jJ (fun c3=>?_) (fun c3=>?_)
    ·refine ab.mk (.int .i64 (.ofNat (x.ls.length + x.ts.length))) (by rw [an,aLm,al];exact addNat (by omega)) ?_
     refine ah.mk (fun c4=>?_) (fun c4=>?_)
     ·have e:mr x=true:=by unfold mr;rw [c1,c2,c3,c4];rfl
      rw [e];exact⟨_,rfl,_,rfl⟩
     ·have e:mr x=false:=by unfold mr;rw [c1,c2,c3,c4];rfl
      rw [e];exact⟨_,rfl,_,rfl⟩
    ·have e:mr x=false:=by unfold mr;rw [c1,c2,c3];rfl
     rw [e];exact⟨_,rfl,_,rfl⟩
   ·have e:mr x=false:=by unfold mr;rw [c1,c2];rfl
    rw [e];exact⟨_,rfl,_,rfl⟩
  ·have e:mr x=false:=by unfold mr;rw [c1];rfl
   rw [e];exact⟨_,rfl,_,rfl⟩
 obtain⟨r,k6,S',rfl⟩:=h
 exact bG k6 (by simp only [br,aq]) rfl rfl rfl rfl rfl
theorem Kl {T:List Nat} (hn:1≤n):RN n (.f 107) [cQ d sz tok rows] { heap:=[],aA:=T }=some (.fn 149 1 [] [.ptr (.box 0) 0],{ heap:=[.cells 106 [cQ d sz tok rows]],aA:=T }):=by
 obtain⟨q,rfl⟩:=up hn
 refine bC rfl ?_
 kernel_rfl
noncomputable def ug (k:Int):dj:={ fid:=113,nt:=10,tmps:=[(2,.ptr (.loc 2) 0),(4,.fn 149 1 [] [.ptr (.box 0) 0])],locs:=[(2,[.int .i64 k])],params:=[5,6],assign:=l6 Tryz.f113,body:=l7 Tryz.f113,st:=.ready,iX:=none }
noncomputable def DH (d:Dl) (sz:Nat) (tok:Tok) (rows:List V) (k:Int):St:={ heap:=[.cells 106 [cQ d sz tok rows],.loop (ug k)],aA:=[] }
theorem HW (hl:d.ai.length + 5≤n) (hcs:∀i∈d.ai,i.cs.length + 5≤n) (hn:SmD d) (hs:(fO d.ai).length < 1000000000) :
 RN n (.f 113) [cQ d sz tok rows] S=some (.int .i64 (.ofNat (fO d.ai).length),S):=by
 obtain⟨q,rfl⟩:=up (show 3≤n by omega)
 have xS:∀(k:Nat) (x:Int) (c:Ct),k < 1000000000→RN (q + 1) (.y 1) [.int .i64 x,fw c] (DH d sz tok rows (.ofNat k))=some (.bool true,DH d sz tok rows (.ofNat (k + 1))):=by
  intro k x c hk
  refine fH ?_
  refine fj (r:=ug (.ofNat k)) (nt:=10) (fx:=[2]) rfl rfl rfl rfl rfl rfl rfl ?_
  refine ab.mk _ (az (by omega)) ?_
  rfl
 obtain⟨S1,k1,k2⟩:=Pp (n:=q + 1) (d:=d) (sz:=sz) (tok:=tok) (rows:=rows) (b:=1) (B:=[.loop (ug 0)]) (T:=[]) (P:=fun k S=>S=DH d sz tok rows (.ofNat k)) (Q:=fun _=>False) (by omega) (fun i hi=>by have:=hcs i hi;omega) hn rfl (fun k q S hk hp=>by
  subst hp
  have:=(aGs hk).1
  exact .inl ⟨_,xS k _ _ (by omega),rfl⟩)
 have k3:S1=DH d sz tok rows (.ofNat (fO d.ai).length):=k2.elim id False.elim
 subst k3
 have h:frame Tryz.cfg (RN (q + 2)) (q + 2) 113 [cQ d sz tok rows] St.empty=some (.int .i64 (.ofNat (fO d.ai).length),{ heap:=[.cells 106 [cQ d sz tok rows],.loop { ug (.ofNat (fO d.ai).length) with st:=.rj,locs:=[],tmps:=[] }],aA:=[] }):=by
  refine aL Tryz.cfg _ (fn:=Tryz.f113) rfl rfl ?_
  refine ag.mk _ _ (Kl (by omega)) ?_
  refine aB.mk _ _ _ (dL (f:=149) (top:=1) (first:=[]) (cap:=[.ptr (.box 0) 0]) (l:=ug 0) (r:=ug (.ofNat (fO d.ai).length)) (S':=DH d sz tok rows (.ofNat (fO d.ai).length)) (v:=.tuple []) (by rfl) (by rfl) k1 (by rfl) (.inl rfl)) ?_
  rfl
 exact bG h (by simp only [ek,aq]) rfl rfl rfl rfl rfl
end
theorem Br (t:Tm):bg aj (aC t)=aC t:=by
 have h:=fu t
 have h2:(aH t).strip=.agg (bg aj (aC t)):=rfl
 rw [h2] at h
 injection h
theorem inT {A A2:Env} {S S2:St} {r:InT} {ki:Nat} {sz bsz tp by' : Nat} {z' : List V} {tok t2:Tok} {rows bc:List V} {t:Tm} {v:V} {k0:IntKind}
 (h1:Tryz.cfg.ti r.T=some { kind:=.slice 25,size:=ki,bytes:=by',zero:=z' }) (h2:operand A r.s=some (.list sz tok 0 rows)) (h3:operand A r.x=some (aH t)) (h4:operand A (.tmp r.n)=some (.int k0 (.ofNat (aG rows)))) (h5:operand A (.tmp r.bd)=some (.list bsz t2 tp [.agg bc])) (h6:look r.q A.tmps=none)
 (h7:(Nat.beq (aG bc) 5 && (Nat.beq bsz 5 && (Nat.beq r.Te 25 && Nat.ble (r.q + 1) A.nt)))=true) (hg:ko Tryz.ti25 S .any sz tok 0 rows 0 [aH t]=some (v,S2)) (hp:put A (some r.v) v=some A2):rq Tryz.cfg A S r=some (A2,S2):=by
 unfold rq
 have hl:aF (aC t)=some 0:=rfl
 simp only [Bool.and_eq_true] at h7
 simp only [h1,h2,h3,h4,h5,h6,show Tryz.cfg.ti 25=some Tryz.ti25 from rfl,show (aH t).cells=aC t from rfl,Br,hl,show Tryz.ti25.size=5 from rfl,h7.1,h7.2.1,h7.2.2.1,h7.2.2.2]
 rw [show (iEq (.ofNat (aG rows)) (.ofNat (aG rows)) && (aG (aC t)).beq 5 && true && true && true && true)=true by rw [bp];simp;rfl]
 simp only [cond_true,show V.agg (aC t)=aH t from rfl,hg,hp]
theorem xT {H:List Blk} {T0 T:List Nat} {done:List Tm} {t:Tm} {tok:Tok} {c0:Bool} (hlen:done.length < 1000000) (hg:aw T0 T done tok) :
 ∃T' aP,ko Tryz.ti25 { heap:=H,aA:=T } .any (au c0 done) tok 0 (ae done) 0 [aH t]=some (.list (au false (done++[t])) aP 0 (ae (done++[t])),{ heap:=H,aA:=T' })∧aw T0 T' (done++[t]) aP:=by
 have hg' : aw T0 T (ae done) tok:=(aw.map ae (fun l=>by rw [← an,al])).2 hg
 obtain⟨T',aP,h1,h2⟩:=xH (ei:=Tryz.ti25) (H:=H) (sz:=au c0 done) (new:=[aH t]) (by decide) (by decide) (by rw [← an,al];simp;omega) (by
  rcases jx c0 done with rfl | h
  ·left;rw [ae]
  ·exact .inr h) hg'.w (by simp)
 have e:ae done++[aH t]=ae (done++[t]):=by
  rw [nx,bK]
  congr 1
  rw [cU]
  rfl
 rw [e] at h1 h2
 refine⟨T',aP,?_,(aw.map ae (fun l=>by rw [← an,al])).1 h2⟩
 have hs:au false (done++[t])=5:=by cases done<;>rfl
 rw [hs]
 exact h1 .any rfl
noncomputable def eo (d:Dl):List Tm:=d.ai.map (·.ty)++(fO d.ai).map (·.2.ty)
@[reducible] noncomputable def NT (l:List Tm) (tk:Tok) (o:Option In) (o2:Option Ct):List (Nat×List V):=(2,[.list (au false l) tk 0 (ae l)])::((match o with | none=>[] | some x=>[(4,eP x)])++match o2 with | none=>[] | some c=>[(6,mb c)])
noncomputable def te (d:Dl) (sz:Nat) (tok:Tok) (rows:List V) (l:List Tm) (tk:Tok) (o:Option In) (o2:Option Ct):dj:={ fid:=98,nt:=37,tmps:=[(2,.ptr (.loc 2) 0),(26,.fn 149 1 [] [.ptr (.box 0) 0])],locs:=NT l tk o o2,params:=[27,28],assign:=l6 Tryz.f98,body:=l7 Tryz.f98,st:=.ready,iX:=none }
noncomputable def QI (d:Dl) (sz:Nat) (tok:Tok) (rows:List V) (l:List Tm) (tk:Tok) (o:Option In) (o2:Option Ct) (T:List Nat):St:={ heap:=[.cells 106 [cQ d sz tok rows],.loop (te d sz tok rows l tk o o2)],aA:=T }
section
variable {n:Nat} {d:Dl} {sz:Nat} {tok:Tok} {rows:List V} {S:St}
theorem h98 (hl:d.ai.length + 5≤n) (hcs:∀i∈d.ai,i.cs.length + 5≤n) (hn:SmD d) (hs:(eo d).length < 1000000) :
 ∃b,RN n (.f 98) [cQ d sz tok rows] S=some (.list (au false (eo d)) (av b) 0 (ae (eo d)),S):=by
 obtain⟨q,rfl⟩:=up (show 3≤n by omega)
 have hn1:=hn.1
 have h:∃r,frame Tryz.cfg (RN (q + 2)) (q + 2) 98 [cQ d sz tok rows] St.empty=some r∧∃S' tk T,r=(.list (au false (eo d)) tk 0 (ae (eo d)),S')∧aw [] T (eo d) tk:=by
  refine aV (fn:=Tryz.f98) (p:=fun r=>∃S' tk T,r=(.list (au false (eo d)) tk 0 (ae (eo d)),S')∧aw [] T (eo d) tk) rfl rfl ?_
  refine aB.loop 37 (σ:=Option In×List Tm×Tok×List Nat) d.ai.length (fun j s=>{ nt:=37,tmps:=[(0,cQ d sz tok rows),(2,.ptr (.loc 2) 0),(11,.list 7 .no 0 (d.ai.map encI)),(12,.int .i64 (.ofNat (aG (d.ai.map encI)))),(13,.int .i64 (.ofNat j))],locs:=NT s.2.1 s.2.2.1 s.1 none,fix:=[] })
   (fun _ s=>{ heap:=[],aA:=s.2.2.2 }) (fun j s=>s.2.1=(d.ai.take j).map (·.ty)∧aw [] s.2.2.2 s.2.1 s.2.2.1) (none,[],.tight,[]) (by omega) ⟨rfl,aw.start []⟩ ?_ ?_
  ·rintro j ⟨o,l,tk,T⟩ hj ⟨(hp:l=_),(hg:aw [] T l tk)⟩
   obtain⟨x,hx⟩ : ∃x,d.ai[j]?=some x:=⟨_,aGe hj⟩
   have hll:l.length < 1000000:=by
    rw [hp]
    unfold eo at hs
    simp only [aLa,aLm,List.length_take] at hs ⊢;omega
   obtain⟨T',tk',g1,g2⟩:=xT (H:=[]) (t:=x.ty) (c0:=false) hll hg
   rcases o with _ | x0
   all_goals
    refine ah.yes (ltM hj) ?_
    refine ab.mk _ (aO hx) ?_
    refine ab.mk _ rfl ?_
    refine AR.mk _ _ (inT (t:=x.ty) rfl rfl rfl rfl rfl rfl rfl g1 rfl) ?_
    refine ab.mk _ (az (by omega)) ?_
    exact⟨(some x,l++[x.ty],tk',T'),⟨by rw [map_take _ _ _ _ hx,hp],g2⟩,rfl,rfl⟩
  ·rintro⟨o,l,tk,T⟩ ⟨(hp:l=_),(hg:aw [] T l tk)⟩
   rw [List.take_length] at hp
   obtain⟨S1,k1,k2⟩:=Pp (n:=q + 1) (d:=d) (sz:=sz) (tok:=tok) (rows:=rows) (b:=1) (B:=[.loop (te d sz tok rows l tk o none)]) (T:=T) (P:=fun k S=>∃l2 tk2 T2,S=QI d sz tok rows l2 tk2 o none T2∧l2=l++((fO d.ai).take k).map (·.2.ty)∧aw [] T2 l2 tk2) (Q:=fun _=>False) (by omega) (fun i hi=>by have:=hcs i hi;omega) hn ⟨l,tk,T,rfl,by simp,hg⟩ (fun k y S hk ⟨l2,tk2,T2,e1,e2,e3⟩=>by
    subst e1
    have hkl:=(aGs hk).1
    have hll:l2.length < 1000000:=by
     rw [e2,hp]
     unfold eo at hs
     simp only [aLa,aLm,List.length_take] at hs ⊢;omega
    obtain⟨T',tk',g1,g2⟩:=xT (H:=[.cells 106 [cQ d sz tok rows],.loop { te d sz tok rows l2 tk2 o none with st:=.busy,locs:=[] }]) (t:=y.2.ty) (c0:=false) hll e3
    refine .inl ⟨QI d sz tok rows (l2++[y.2.ty]) tk' o none T',?_,l2++[y.2.ty],tk',T',rfl,by rw [map_take _ _ _ _ hk,e2,List.append_assoc],g2⟩
    refine fH ?_
    rcases o with _ | x0
    ·refine fj (r:=te d sz tok rows l2 tk2 none none) (nt:=37) (fx:=[2]) rfl rfl rfl rfl rfl rfl rfl ?_
     refine ab.mk _ rfl ?_
     refine AR.mk _ _ (inT (t:=y.2.ty) rfl rfl rfl rfl rfl rfl rfl g1 rfl) ?_
     conv=>whnf
     rfl
    ·refine fj (r:=te d sz tok rows l2 tk2 (some x0) none) (nt:=37) (fx:=[2,4]) rfl rfl rfl rfl rfl rfl rfl ?_
     refine ab.mk _ rfl ?_
     refine AR.mk _ _ (inT (t:=y.2.ty) rfl rfl rfl rfl rfl rfl rfl g1 rfl) ?_
     conv=>whnf
     rfl)
   obtain⟨l2,tk2,T2,e1,e2,e3⟩:=k2.elim id False.elim
   rw [List.take_length,hp] at e2
   have e2' : l2=eo d:=e2
   subst e1
   subst e2'
   rcases o with _ | x0
   ·refine ah.no (geM (by omega)) ?_
    refine ag.mk _ _ (Kl (by omega)) ?_
    refine aB.mk _ _ _ (dL (f:=149) (top:=1) (first:=[]) (cap:=[.ptr (.box 0) 0]) (l:=te d sz tok rows l tk none none) (r:=te d sz tok rows (eo d) tk2 none none) (v:=.tuple []) (by rfl) (by rfl) k1 (by rfl) (.inl rfl)) ?_
    exact⟨_,rfl,_,tk2,T2,rfl,e3⟩
   ·refine ah.no (geM (by omega)) ?_
    refine ag.mk _ _ (Kl (by omega)) ?_
    refine aB.mk _ _ _ (dL (f:=149) (top:=1) (first:=[]) (cap:=[.ptr (.box 0) 0]) (l:=te d sz tok rows l tk (some x0) none) (r:=te d sz tok rows (eo d) tk2 (some x0) none) (v:=.tuple []) (by rfl) (by rfl) k1 (by rfl) (.inl rfl)) ?_
    exact⟨_,rfl,_,tk2,T2,rfl,e3⟩
 obtain⟨r,k6,S',tk,T,rfl,hg⟩:=h
 obtain⟨b,hb⟩:=fL tk
 exact⟨b,xw k6 hb (by simp only [ek,aq]) rfl rfl⟩
end
noncomputable def fcl:V:=.fn 145 1 [] [.ptr (.box 0) 0]
noncomputable def stF (acc:Int):St:={ heap:=[.cells 3 [.int .i64 acc]],aA:=[] }
noncomputable def Ft (x:Tm) (a acc:Int):Int:=match iEq x.k 2 with
 | true=>mxI acc (sQ (dv x.n 1) a)
 | false=>acc
mutual
noncomputable def qc:Tm→Int→Int→Int
 | .mk k n s a b c d ls ts,ar,acc=>j6 k ts 0 ar (Ft (.mk k n s a b c d ls ts) ar acc)
noncomputable def j6 (k:Int):List Tm→Nat→Int→Int→Int
 | [],_,_,acc=>acc
 | t::ts,i,ar,acc=>j6 k ts (i + 1) ar (qc t (dv ar (aY k (.ofNat i))) acc)
end
theorem DI (x:Tm) (ar acc:Int):qc x ar acc=j6 x.k x.ts 0 ar (Ft x ar acc):=by cases x;rw [qc];rfl
theorem u7 (k:Int) (t:Tm) (ts:List Tm) (i:Nat) (ar acc:Int):j6 k (t::ts) i ar acc=j6 k ts (i + 1) ar (qc t (dv ar (aY k (.ofNat i))) acc):=by rw [j6]
theorem rW (k:Int) (i:Nat) (ar acc:Int):j6 k [] i ar acc=acc:=by rw [j6]
theorem Ip (k:Int) {l:List Tm} {j:Nat} {t:Tm} (ar acc:Int) (h:l[j]?=some t):j6 k (l.drop j) j ar acc=j6 k (l.drop (j + 1)) (j + 1) ar (qc t (dv ar (aY k (.ofNat j))) acc):=by
 obtain⟨hj,e⟩:=aGs h
 rw [List.drop_eq_getElem_cons hj,e,u7]
theorem Td (n:Nat) (x:Tm) (a acc:Int):RN (n + 1) (.f 145) [aH x,.int .i64 a,.ptr (.box 0) 0] (stF acc)=some (.bool true,stF (Ft x a acc)):=by
 refine bC rfl ?_
 refine aL Tryz.cfg _ (fn:=Tryz.f145) rfl rfl ?_
 unfold Ft
 refine ah.mk (fun h=>?_) (fun h=>?_)
 ·rw [h]
  refine ab.mk _ (show binOp Tryz.cfg .add 3 (.int .i64 x.n) (.int .i64 1)=some (.int .i64 (dv x.n 1)) from rfl) ?_
  refine ab.mk _ (show binOp Tryz.cfg .sub 3 (.int .i64 (dv x.n 1)) (.int .i64 a)=some (.int .i64 (sQ (dv x.n 1) a)) from rfl) ?_
  rfl
 ·rw [h];rfl
@[reducible] noncomputable def QJ (k:Nat):Option Tm→List (Nat×List V)
  | none=>[]
  | some c=>[(k,aC c)]
theorem QK:∀(n:Nat) (x:Tm) (a acc:Int),wt x + 3≤n→wt x < 1000000000→RN n (.f 144) [aH x,.int .i64 a,fcl] (stF acc)=some (.bool true,stF (qc x a acc))
 | 0,x,_,_,h,_=>by omega
 | n + 1,x,a,acc,h,hw=>by
  have hxl:x.ts.length < 1000000000∧x.ts.length + 3≤n:=by
   have:=cr x
   have:=hV x.ts
   omega
  obtain⟨q,rfl⟩:=up (show 1≤n by omega)
  refine bC rfl ?_
  refine aL Tryz.cfg _ (fn:=Tryz.f144) rfl rfl ?_
  refine ag.mk _ _ (Td q x a acc) ?_
  refine aB.loop 32 (σ:=Option Tm×Int) x.ts.length (fun j s=>{ nt:=32,tmps:=[(1,.int .i64 a),(2,fcl),(3,.ptr (.loc 3) 0),(15,.list (au x.c x.ts) (av x.d) 0 (ae x.ts)),(16,.int .i64 (.ofNat (aG (ae x.ts)))),(17,.int .i64 (.ofNat j))],locs:=(3,aC x)::QJ 8 s.1,fix:=[] })
   (fun _ s=>stF s.2) (fun j s=>qc x a acc=j6 x.k (x.ts.drop j) j a s.2) (none,Ft x a acc) (by omega) (by rw [DI];rfl) ?_ ?_
  ·rintro j ⟨o,c⟩ hj (hp:_=_)
   obtain⟨y,hy⟩ : ∃y,x.ts[j]?=some y:=⟨_,aGe hj⟩
   have hyw:=cz (aMg hy)
   rw [Ip _ _ _ hy] at hp
   have dy:=QK (q + 1) y (dv a (aY x.k (.ofNat j))) c (by omega) (by omega)
   rcases o with _ | y0
   all_goals
    refine ah.yes (gE hj) ?_
    refine ab.mk _ (bJ hy) ?_
    refine ag.mk _ _ (Mv q x (.ofNat j) _) ?_
    refine ab.mk _ (show binOp Tryz.cfg .add 3 (.int .i64 a) (.int .i64 (aY x.k (.ofNat j)))=some (.int .i64 (dv a (aY x.k (.ofNat j)))) from rfl) ?_
    refine ag.mk _ _ dy ?_
    refine ab.mk _ (az (by omega)) ?_
    exact⟨(some y,qc y (dv a (aY x.k (.ofNat j))) c),hp,rfl,rfl⟩
  ·rintro⟨o,c⟩ (hp:_=_)
   rw [List.drop_length,rW] at hp
   rw [hp]
   rcases o with _ | y0
   all_goals
    refine ah.no (gG (by omega)) ?_
    rfl
noncomputable def xU (x:Tm):Int:=match cM x with
 | true=>qc x 0 0
 | false=>0
theorem Tf {n:Nat} {x:Tm} {S:St} (hs:Sm x) (hn:wt x + 20≤n) (hw:wt x < 1000000000):RN n (.f 100) [aH x] S=some (.int .i64 (xU x),S):=by
 obtain⟨q,rfl⟩:=up (show 1≤n by omega)
 have h:∃r,frame Tryz.cfg (RN q) q 100 [aH x] St.empty=some r∧∃S',r=(.int .i64 (xU x),S'):=by
  refine aV (fn:=Tryz.f100) (p:=fun r=>∃S',r=(.int .i64 (xU x),S')) rfl rfl ?_
  unfold xU
  refine ag.mkB (h67 hs (by omega)) (fun hm=>?_) (fun hm=>?_)
  ·rw [hm]
   refine ag.mk _ _ (QK q x 0 0 (by omega) hw) ?_
   exact⟨_,rfl,_,rfl⟩
  ·rw [hm]
   exact⟨_,rfl,_,rfl⟩
 obtain⟨r,k6,S',rfl⟩:=h
 exact bG k6 (by simp only [br,aq]) rfl rfl rfl rfl rfl
theorem zJ (a b c:Int):mxI (mxI a b) c=mxI a (mxI b c):=by
 unfold mxI
 split<;>split<;>(try split)<;>(try split)<;>omega
mutual
theorem zK:∀(x:Tm),dG x→∀(a acc:Int),0≤acc→qc x a acc=mxI acc (fS x a)
 | .mk k n s b1 b2 b3 b4 ls ts,h,a,acc,h0=>by
  have hx:=(bX _).1 h
  rw [DI,nu]
  show j6 k ts 0 a (Ft (.mk k n s b1 b2 b3 b4 ls ts) a acc)=mxI acc (bif iEq k 2 then mxI 0 (sQ (dv n 1) a) else im k ts 0 a 0)
  unfold Ft
  cases hk:iEq k 2 with
  | true=>
   have hts:ts=[]:=lI hx.1 hk
   subst hts
   rw [show iEq (Tm.mk k n s b1 b2 b3 b4 ls []).k 2=true from hk,rW]
   show mxI acc (sQ (dv n 1) a)=mxI acc (mxI 0 (sQ (dv n 1) a))
   rw [← zJ]
   congr 1
   unfold mxI;split<;>omega
  | false=>
   rw [show iEq (Tm.mk k n s b1 b2 b3 b4 ls ts).k 2=false from hk]
   have:=xV k ts (fun y hy=>hx.2 y hy) 0 a acc 0 h0 (by omega)
   rw [show mxI acc 0=acc by unfold mxI;split<;>omega] at this
   exact this
theorem xV (k:Int):∀(ts:List Tm),(∀y∈ts,dG y)→∀(i:Nat) (a acc c:Int),0≤acc→0≤c→j6 k ts i a (mxI acc c)=mxI acc (im k ts i a c)
 | [],_,i,a,acc,c,_,_=>by rw [rW,im]
 | t::ts,h,i,a,acc,c,h0,h1=>by
  rw [u7,mI,zK t (h t aMs) _ _ (by unfold mxI;split<;>omega),zJ]
  exact xV k ts (fun y hy=>h y (aMt _ hy)) (i + 1) a acc _ h0 (by unfold mxI;split<;>omega)
end
theorem Bt (x:Tm) (a:Int):0≤fS x a:=by
 rw [nu]
 cases iEq x.k 2 with
 | true=>simp only [cond_true];unfold mxI;split<;>omega
 | false=>simp only [cond_false];exact (qD x.k x.ts 0 a 0).1
theorem Km {x:Tm} (h:cM x=true):xU x=fS x 0:=by
 unfold xU
 rw [h]
 show qc x 0 0=_
 rw [zK x (cH h) 0 0 (by omega)]
 have:=Bt x 0
 unfold mxI;split<;>omega
noncomputable def Bu (t:Tm):Bool:=!cM t || iLt 0 (xU t)
theorem MQ (t:Tm):Bu t = !gC t:=by
 unfold Bu gC
 cases h:cM t with
 | false=>rfl
 | true=>rw [Km h];simp
noncomputable def j7 (d:Dl):Bool:=!iq d || (d.ai.any (fun i=>iLt 8 (.ofNat i.cs.length)) || (eo d).any Bu)
theorem eS (z:Nat) (b:Bool) (rows:List V):aj (.list z (av b) 0 rows)=.list z (av b) 0 rows:=by cases b<;>rfl
theorem Fu (x:In):V.strip (encI x)=encI x:=by
 show V.agg [.str x.name,.int .u8 x.ty.k,.int .i64 x.ty.n,.str x.ty.s,aj (.list (au x.ty.a x.ty.ls) (av x.ty.b) 0 (x.ty.ls.map enc)),aj (.list (au x.ty.c x.ty.ts) (av x.ty.d) 0 (ae x.ty.ts)),.list 6 .no 0 (x.cs.map fw)]=_
 rw [eS,eS]
theorem Fv (x:Ct):V.strip (fw x)=fw x:=by
 show V.agg [.str x.name,.int .u8 x.ty.k,.int .i64 x.ty.n,.str x.ty.s,aj (.list (au x.ty.a x.ty.ls) (av x.ty.b) 0 (x.ty.ls.map enc)),aj (.list (au x.ty.c x.ty.ts) (av x.ty.d) 0 (ae x.ty.ts))]=_
 rw [eS,eS]
theorem xW (x:In) (l:List V):bg V.strip (encI x::l)=encI x::bg V.strip l:=by
 show V.strip (encI x)::_=_
 rw [Fu];rfl
theorem tg (x:Ct) (l:List V):bg V.strip (fw x::l)=fw x::bg V.strip l:=by
 show V.strip (fw x)::_=_
 rw [Fv];rfl
section
variable {n:Nat} {d:Dl} {sz:Nat} {tok:Tok} {rows:List V} {S:St}
theorem h97 {x:In} (hn:1≤n):RN n (.f 97) [encI x] S=some (.bool (iLt 8 (.ofNat x.cs.length)),S):=by
 obtain⟨q,rfl⟩:=up hn
 have h:∃r,frame Tryz.cfg (RN q) q 97 [encI x] St.empty=some r∧∃S',r=(.bool (iLt 8 (.ofNat x.cs.length)),S'):=by
  refine aV (fn:=Tryz.f97) (p:=fun r=>∃S',r=(.bool (iLt 8 (.ofNat x.cs.length)),S')) rfl rfl ?_
  refine ah.mk (fun hm=>?_) (fun hm=>?_)
  ·rw [an,aLm] at hm
   rw [hm];exact⟨_,rfl,_,rfl⟩
  ·rw [an,aLm] at hm
   rw [hm];exact⟨_,rfl,_,rfl⟩
 obtain⟨r,k6,S',rfl⟩:=h
 exact bG k6 (by simp only [xW,aq]) rfl rfl rfl rfl rfl
theorem h99 {x:Tm} (hs:Sm x) (hn:wt x + 30≤n):RN n (.f 99) [aH x] S=some (.bool (Bu x),S):=by
 obtain⟨q,rfl⟩:=up (show 1≤n by omega)
 have h:∃r,frame Tryz.cfg (RN q) q 99 [aH x] St.empty=some r∧∃S',r=(.bool (Bu x),S'):=by
  refine aV (fn:=Tryz.f99) (p:=fun r=>∃S',r=(.bool (Bu x),S')) rfl rfl ?_
  unfold Bu
  refine ag.mkB (h67 hs (by omega)) (fun hm=>?_) (fun hm=>?_)
  ·rw [hm]
   refine ag.mk _ _ (Tf hs (by omega) (by have:=fv hm;omega)) ?_
   refine ah.mk (fun hq=>?_) (fun hq=>?_)
   ·rw [hq];exact⟨_,rfl,_,rfl⟩
   ·rw [hq];exact⟨_,rfl,_,rfl⟩
  ·rw [hm]
   exact⟨_,rfl,_,rfl⟩
 obtain⟨r,k6,S',rfl⟩:=h
 exact bG k6 (by simp only [br,aq]) rfl rfl rfl rfl rfl
theorem xX {d:Dl} (h:vl d):(eo d).length≤210:=by
 have h1:=qa h.cs d.ai.length
 have h2:=h.few
 have:d.ai.length * 20≤10 * 20:=Nat.mul_le_mul (by omega) (by omega)
 unfold eo
 rw [aLa,aLm,aLm,td]
 unfold iN
 omega
theorem th {is:List In} {q:Nat×Ct} (h:q∈fO is):∃i∈is,q.2∈i.cs:=by
 unfold fO at h
 obtain⟨⟨i,x⟩,h1,h2⟩:=List.mem_flatMap.1 h
 obtain⟨c,h3,rfl⟩:=List.mem_map.1 h2
 exact⟨i,List.fst_mem_of_mem_zipIdx h1,h3⟩
theorem oA {d:Dl} {t:Tm} (h:t∈eo d):t∈bV d:=by
 unfold eo at h
 rcases List.mem_append.1 h with h | h
 ·obtain⟨i,hi,rfl⟩:=List.mem_map.1 h
  exact (dM hi).1
 ·obtain⟨q,hq,rfl⟩:=List.mem_map.1 h
  obtain⟨i,hi,hc⟩:=th hq
  exact (dM hi).2 _ hc
theorem h52 {W:Nat} (hd:rT d W) (hls:d.ty.ls.length≤1000∧d.val.ls.length≤1000) (hn:W + 1000≤n):RN n (.f 52) [cQ d sz tok rows] S=some (.bool (j7 d),S):=by
 obtain⟨q,rfl⟩:=up (show 1≤n by omega)
 have iB:=hd.nm.few
 have htl:=xX hd.nm
 obtain⟨q2,hq2⟩ : ∃q2,q=q2 + 2:=⟨q - 2,by omega⟩
 have h:∃r,frame Tryz.cfg (RN q) q 52 [cQ d sz tok rows] St.empty=some r∧∃S',r=(.bool (j7 d),S'):=by
  refine aV (fn:=Tryz.f52) (p:=fun r=>∃S',r=(.bool (j7 d),S')) rfl rfl ?_
  have tl1:d.ty.ts.length≤1000000000:=by have:=jT d.ty.ts;have:=eM d.ty;have:=hd.dty.2.1;omega
  have tl2:d.val.ts.length≤1000000000:=by have:=jT d.val.ts;have:=eM d.val;have:=hd.Il.2.1;omega
  have fin:∀(b:Bool) (r:V×St),j7 d=b→(∃S',r=(.bool b,S'))→∃S',r=(.bool (j7 d),S'):=fun b r h1 h2=>by rw [h1];exact h2
  have p7:iq d=false→j7 d=true:=fun h=>by unfold j7;rw [h];rfl
  have n1:=zI d.ty
  have n2:=zI d.val
  refine ah.mk (fun c1=>?_) (fun c1=>?_)
  ·exact⟨_,rfl,fin true _ (p7 (by unfold iq;rw [show iEq d.kind 4=false by simpa using c1];rfl)) ⟨_,rfl⟩⟩
  have c1' : iEq d.kind 4=true:=by simpa using c1
  refine ab.mkB re (fun c2=>?_) (fun c2=>?_)
  ·exact⟨_,rfl,fin true _ (p7 (by unfold iq;rw [c1',show decide (d.name=[])=false by simpa using c2];rfl)) ⟨_,rfl⟩⟩
  have c2' : decide (d.name=[])=true:=by simpa using c2
  refine ag.mkB (h95 (x:=d.ty) (by omega) tl1 (by omega)) (fun c3=>?_) (fun c3=>?_)
  rotate_left
  ·exact⟨_,rfl,fin true _ (p7 (by unfold iq;rw [c1',c2',← n1,c3];rfl)) ⟨_,rfl⟩⟩
  refine ag.mkB (h95 (x:=d.val) (by omega) tl2 (by omega)) (fun c4=>?_) (fun c4=>?_)
  rotate_left
  ·exact⟨_,rfl,fin true _ (p7 (by unfold iq;rw [c1',c2',← n1,c3,← n2,c4];rfl)) ⟨_,rfl⟩⟩
  refine ah.mk (fun c5=>?_) (fun c5=>?_)
  ·exact⟨_,rfl,fin true _ (p7 (by unfold iq;rw [c1',c2',← n1,c3,← n2,c4,c5];rfl)) ⟨_,rfl⟩⟩
  refine ah.mk (fun c6=>?_) (fun c6=>?_)
  ·exact⟨_,rfl,fin true _ (p7 (by unfold iq;rw [c1',c2',← n1,c3,← n2,c4,c5,c6];rfl)) ⟨_,rfl⟩⟩
  refine ah.mk (fun c7=>?_) (fun c7=>?_)
  ·rw [an,aLm] at c7
   exact⟨_,rfl,fin true _ (p7 (by unfold iq;rw [c1',c2',← n1,c3,← n2,c4,c5,c6,c7];rfl)) ⟨_,rfl⟩⟩
  rw [an,aLm] at c7
  refine ah.mk (fun c8=>?_) (fun c8=>?_)
  ·rw [an,aLm] at c8
   exact⟨_,rfl,fin true _ (p7 (by unfold iq;rw [c1',c2',← n1,c3,← n2,c4,c5,c6,c7,c8];rfl)) ⟨_,rfl⟩⟩
  rw [an,aLm] at c8
  have ha:iq d=true:=by unfold iq;rw [c1',c2',← n1,c3,← n2,c4,c5,c6,c7,c8];rfl
  have Tg:=p96 (n:=q2) (f:=97) (first:=[]) (cap:=[]) (S:=St.empty) (fun i:In=>iLt 8 (.ofNat i.cs.length)) d.ai (by omega) (by omega) rfl (fun x _=>.inl ⟨rfl,rfl,h97 (by omega)⟩)
  obtain⟨b,Pr⟩:=h98 (n:=q) (d:=d) (sz:=sz) (tok:=tok) (rows:=rows) (S:=St.empty) (by omega) (fun i hi=>by have:=hd.nm.cs i hi;omega) hd.nm.smD (by omega)
  have Th:=p65 (n:=q2) (f:=99) (first:=[]) (cap:=[]) (S:=St.empty) Bu (eo d) false b (by omega) (by omega) rfl (fun x hx=>by
   obtain⟨x1,x2,x3⟩:=hd.ty x (oA hx)
   exact .inl ⟨rfl,rfl,h99 x1 (by omega)⟩)
  subst hq2
  refine ag.mkB Tg (fun c9=>?_) (fun c9=>?_)
  ·exact⟨_,rfl,fin true _ (by unfold j7;rw [ha,c9];rfl) ⟨_,rfl⟩⟩
  ·refine ag.mk _ _ Pr ?_
   refine ag.mkB Th (fun c10=>?_) (fun c10=>?_)
   ·exact⟨_,rfl,fin true _ (by unfold j7;rw [ha,c9,c10];rfl) ⟨_,rfl⟩⟩
   ·exact⟨_,rfl,fin false _ (by unfold j7;rw [ha,c9,c10];rfl) ⟨_,rfl⟩⟩
 obtain⟨r,k6,S',rfl⟩:=h
 exact xR k6 (by simp only [ek,aq]) rfl rfl rfl rfl rfl
end
noncomputable def wcl:V:=.fn 146 3 [] [.ptr (.box 1) 0,.ptr (.box 2) 0]
noncomputable def stS (B0:Blk) (g:V) (T:List Nat):St:={ heap:=[B0,.cells 58 [g],.cells 58 [wcl]],aA:=T }
section
variable {f top:Nat} {first cap:List V} {B0:Blk} {T:List Nat} {p:Tm→Bool} {Q:Tm→Prop} (hQ:∀x,Q x→∀y∈x.ts,Q y)
include hQ
theorem QL:∀(n:Nat) (x:Tm),Q x→3 * wt x + 3≤n→wt x < 1000000000→(∀y m,Q y→wt y≤wt x→n≤m + 3 * wt x + 1→FnB m f (cq first (cq [aH y] cap)) (p y) (stS B0 (.fn f top first cap) T))→
 RN n (.f 146) [aH x,.ptr (.box 1) 0,.ptr (.box 2) 0] (stS B0 (.fn f top first cap) T)=some (.bool (mW p x),stS B0 (.fn f top first cap) T)
 | 0,x,_,h,_,_=>by omega
 | n + 1,x,hqx,h,hw,hp=>by
  have hxl:x.ts.length < 1000000000∧x.ts.length + 3≤n:=by
   have:=cr x
   have:=hV x.ts
   omega
  have hq:∃r,frame Tryz.cfg (RN n) n 146 [aH x,.ptr (.box 1) 0,.ptr (.box 2) 0] (stS B0 (.fn f top first cap) T)=some r∧r=(.bool (mW p x),stS B0 (.fn f top first cap) T):=by
   refine aV (fn:=Tryz.f146) (p:=fun r=>r=(.bool (mW p x),stS B0 (.fn f top first cap) T)) rfl rfl ?_
   obtain⟨m,rfl⟩:=up (show 2≤n by omega)
   have h65:RN (m + 2) (.f 65) [.list (au x.c x.ts) (av x.d) 0 (ae x.ts),wcl] (stS B0 (.fn f top first cap) T)=some (.bool (x.ts.any (mW p)),stS B0 (.fn f top first cap) T):=
    q65 (n:=m) (f:=146) (top:=2) (first:=[]) (cap:=[.ptr (.box 1) 0,.ptr (.box 2) 0]) (mW p) x.ts x.c (av x.d) hxl.1 (by omega) (fun y hy=>by
     have hyw:=cz hy
     exact .inr (.inr ⟨rfl,fun A=>rfl,rfl,rfl,QL m y (hQ x hqx y hy) (by omega) (by omega) (fun z k h0 h1 h2=>hp z k h0 (by omega) (by omega))⟩))
   have hf:=hp x (m + 2) hqx (Nat.le_refl _) (by omega)
   have jl:mW p x=(p x || x.ts.any (mW p)):=by rw [Bj,xD]
   have cont:p x=true→mW p x=true:=fun h=>by rw [jl,h];rfl
   have zL:p x=false→mW p x=x.ts.any (mW p):=fun h=>by rw [jl,h];rfl
   rcases hf with⟨h1,h2,h3⟩ | ⟨h1,l,S',h2,h3,h4⟩ | ⟨h1,h2,h3,h4,h5⟩
   ·conv=>whnf
    split
    ·rename_i hq;exact absurd (h1.symm.trans hq) (by decide)
    ·refine dJ h2 h3 ?_
     cases he:p x with
     | true=>exact⟨_,rfl,by rw [cont he];rfl⟩
     | false=>
      refine ag.mkB h65 (fun hb=>?_) (fun hb=>?_)
      ·exact⟨_,rfl,by rw [zL he,hb];rfl⟩
      ·exact⟨_,rfl,by rw [zL he,hb];rfl⟩
   ·conv=>whnf
    split
    ·split
     ·rename_i l' hl
      cases (h2 _).symm.trans hl
      split
      ·refine⟨_,_,h4,rfl,?_⟩
       cases he:p x with
       | true=>exact⟨_,rfl,by rw [cont he];rfl⟩
       | false=>
        refine ag.mkB h65 (fun hb=>?_) (fun hb=>?_)
        ·exact⟨_,rfl,by rw [zL he,hb];rfl⟩
        ·exact⟨_,rfl,by rw [zL he,hb];rfl⟩
      ·rename_i hq;exact absurd (h3.symm.trans hq) (by decide)
     ·rename_i hl;cases (h2 _).symm.trans hl
    ·rename_i hq;exact absurd (h1.symm.trans hq) (by decide)
   ·conv=>whnf
    split
    ·split
     ·rename_i l' hl
      cases (h2 _).symm.trans hl
      split
      ·rename_i hq;exact absurd (h3.symm.trans hq) (by decide)
      ·refine dJ h4 h5 ?_
       cases he:p x with
       | true=>exact⟨_,rfl,by rw [cont he];rfl⟩
       | false=>
        refine ag.mkB h65 (fun hb=>?_) (fun hb=>?_)
        ·exact⟨_,rfl,by rw [zL he,hb];rfl⟩
        ·exact⟨_,rfl,by rw [zL he,hb];rfl⟩
     ·rename_i hl;cases (h2 _).symm.trans hl
    ·rename_i hq;exact absurd (h1.symm.trans hq) (by decide)
  obtain⟨r,k1,rfl⟩:=hq
  exact bC rfl k1
theorem QM {n:Nat} {xs:List Tm} {c:Bool} {tok:Tok} {w:Nat} (hl:xs.length < 1000000000) (hw:∀y∈xs,Q y∧wt y≤w) (hww:w < 1000000000) (hn:3 * w + xs.length + 20≤n)
 (hp:∀y m,Q y→wt y≤w→n≤m + 3 * w + 20→FnB m f (cq first (cq [aH y] cap)) (p y) (stS B0 (.fn f (top + 1) first cap) T)) :
 ∃S',RN n (.f 101) [.list (au c xs) tok 0 (ae xs),.fn f (top + 1) first cap] { heap:=[B0],aA:=T }=some (.bool (xs.any (mW p)),S'):=by
 obtain⟨q,rfl⟩:=up (show 4≤n by omega)
 have h65:RN (q + 3) (.f 65) [.list (au c xs) tok 0 (ae xs),wcl] (stS B0 (.fn f (top + 1) first cap) T)=some (.bool (xs.any (mW p)),stS B0 (.fn f (top + 1) first cap) T):=
  q65 (n:=q + 1) (f:=146) (top:=2) (first:=[]) (cap:=[.ptr (.box 1) 0,.ptr (.box 2) 0]) (mW p) xs c tok hl (by omega) (fun y hy=>by
   have hyw:=(hw y hy).2
   exact .inr (.inr ⟨rfl,fun A=>rfl,rfl,rfl,QL hQ (q + 1) y (hw y hy).1 (by omega) (by omega) (fun z k h0 h1 h2=>hp z k h0 (by omega) (by omega))⟩))
 have h:∃r,frame Tryz.cfg (RN (q + 3)) (q + 3) 101 [.list (au c xs) tok 0 (ae xs),.fn f (top + 1) first cap] { heap:=[B0],aA:=T }=some r∧∃S',r=(.bool (xs.any (mW p)),S'):=by
  refine aV (fn:=Tryz.f101) (p:=fun r=>∃S',r=(.bool (xs.any (mW p)),S')) rfl rfl ?_
  refine ag.mkB h65 (fun hb=>?_) (fun hb=>?_)
  ·exact⟨_,rfl,by rw [hb];exact⟨_,rfl⟩⟩
  ·exact⟨_,rfl,by rw [hb];exact⟨_,rfl⟩⟩
 obtain⟨r,k1,S',rfl⟩:=h
 exact⟨S',bC rfl k1⟩
end
section
variable {n:Nat} {d:Dl} {sz:Nat} {tok:Tok} {rows:List V} {S:St}
theorem Ti {x:In} {s:List UInt8} (hn:1≤n):RN n (.f 184) [encI x,.ptr (.box 0) 0] { heap:=[.cells 9 [.str s]],aA:=[] }=some (.bool (decide (x.name=s)),{ heap:=[.cells 9 [.str s]],aA:=[] }):=by
 obtain⟨q,rfl⟩:=up hn
 refine bC rfl ?_
 refine aL Tryz.cfg _ (fn:=Tryz.f184) rfl rfl ?_
 refine ab.mkB jJ (fun h=>?_) (fun h=>?_)
 ·rw [h];rfl
 ·rw [h];rfl
theorem QN {s:List UInt8} (hl:d.ai.length≤100) (hn:110≤n):RN n (.f 155) [cQ d sz tok rows,.str s] S=some (.int .i64 (eQ d.ai s),S):=by
 obtain⟨q,rfl⟩:=up (show 4≤n by omega)
 have hg:=Po (n:=q + 2) (f:=184) (top:=1) (first:=[]) (cap:=[.ptr (.box 0) 0]) (S:={ heap:=[.cells 9 [.str s]],aA:=[] }) (fun i:In=>decide (i.name=s)) d.ai (by omega) (by omega) (fun x _=>.inr (.inr ⟨rfl,fun A=>rfl,rfl,rfl,Ti (by omega)⟩))
 have Ps:RN (q + 3) (.f 143) [.list 7 .no 0 (d.ai.map encI),.fn 184 1 [] [.ptr (.box 0) 0]] { heap:=[.cells 9 [.str s]],aA:=[] }=some (.int .i64 (eQ d.ai s),{ heap:=[.cells 9 [.str s]],aA:=[] }):=bC rfl hg
 have h:∃r,frame Tryz.cfg (RN (q + 3)) (q + 3) 155 [cQ d sz tok rows,.str s] St.empty=some r∧∃S',r=(.int .i64 (eQ d.ai s),S'):=by
  refine aV (fn:=Tryz.f155) (p:=fun r=>∃S',r=(.int .i64 (eQ d.ai s),S')) rfl rfl ?_
  refine ag.mk _ _ Ps ?_
  exact⟨_,rfl,_,rfl⟩
 obtain⟨r,k6,S',rfl⟩:=h
 exact bG k6 (by simp only [ek,nz,aq]) rfl rfl rfl rfl rfl
theorem Tj {x:Tm} {g:V} {T:List Nat} (hl:d.ai.length≤100) (hn:120≤n):RN n (.f 157) [aH x,.ptr (.box 0) 0] (stS (.cells 106 [cQ d sz tok rows]) g T)=some (.bool (me d.ai x),stS (.cells 106 [cQ d sz tok rows]) g T):=by
 obtain⟨q,rfl⟩:=up (show 1≤n by omega)
 refine bC rfl ?_
 refine aL Tryz.cfg _ (fn:=Tryz.f157) rfl rfl ?_
 unfold me
 refine ah.mk (fun h=>?_) (fun h=>?_)
 ·rw [h]
  refine ag.mk _ _ (QN hl (by omega)) ?_
  refine ah.mk (fun h2=>?_) (fun h2=>?_)
  ·rw [h2];rfl
  ·rw [h2];rfl
 ·rw [h];rfl
theorem Tk {xs:List Tm} {c:Bool} {tb:Bool} {w:Nat} (hd:d.ai.length≤100) (hl:xs.length < 1000000000) (hw:∀y∈xs,wt y≤w) (hww:w < 1000000000) (hn:3 * w + xs.length + 200≤n) :
 RN n (.f 117) [cQ d sz tok rows,.list (au c xs) (av tb) 0 (ae xs)] S=some (.bool (fT d.ai xs),S):=by
 obtain⟨q,rfl⟩:=up (show 1≤n by omega)
 obtain⟨S1,Pt⟩:=QM (n:=q) (xs:=xs) (c:=c) (tok:=av tb) (w:=w) (f:=157) (top:=0) (first:=[]) (cap:=[.ptr (.box 0) 0]) (B0:=.cells 106 [cQ d sz tok rows]) (T:=[]) (p:=me d.ai) (Q:=fun _=>True) (fun _ _ _ _=>trivial) hl (fun y hy=>⟨trivial,hw y hy⟩) hww (by omega)
  (fun y m _ _ h2=>.inr (.inr ⟨rfl,fun A=>rfl,rfl,rfl,Tj hd (by omega)⟩))
 have h:∃r,frame Tryz.cfg (RN q) q 117 [cQ d sz tok rows,.list (au c xs) (av tb) 0 (ae xs)] St.empty=some r∧∃S',r=(.bool (fT d.ai xs),S'):=by
  refine aV (fn:=Tryz.f117) (p:=fun r=>∃S',r=(.bool (fT d.ai xs),S')) rfl rfl ?_
  refine ag.mk _ _ Pt ?_
  exact⟨_,rfl,_,rfl⟩
 obtain⟨r,k6,S',rfl⟩:=h
 exact bG k6 (by simp only [ek,dp,aq]) rfl rfl rfl rfl rfl
theorem Tl {i:Int} (hn:1≤n):RN n (.f 106) [.int .i64 i] S=some (.bool (!iLt i 0),S):=by
 obtain⟨q,rfl⟩:=up hn
 have h:∃r,frame Tryz.cfg (RN q) q 106 [.int .i64 i] St.empty=some r∧∃S',r=(.bool (!iLt i 0),S'):=by
  refine aV (fn:=Tryz.f106) (p:=fun r=>∃S',r=(.bool (!iLt i 0),S')) rfl rfl ?_
  refine ah.mk (fun h=>?_) (fun h=>?_)
  ·rw [h];exact⟨_,rfl,_,rfl⟩
  ·rw [h];exact⟨_,rfl,_,rfl⟩
 obtain⟨r,k6,S',rfl⟩:=h
 exact bG k6 (by simp only [bx,aq]) rfl rfl rfl rfl rfl
noncomputable def psL (l:Lv) (m:Nat):List Int:=[l.p0,l.p1,l.p2,l.p3].drop m
theorem QO (l:Lv) (m:Nat) (hm:m < 4):(psL l m).any (fun i=>!iLt i 0)=hiL m l:=by
 unfold psL hiL
 rcases m with _ | _ | _ | _ | m
 ·rfl
 ·rfl
 ·rfl
 ·rfl
 ·omega
theorem Tn {l:Lv} {m:Nat} {g:V} {T:List Nat} (hm:m < 4) (hn:20≤n):RN n (.f 104) [enc l,.ptr (.box 0) 0] (stS (.cells 3 [.int .i64 (.ofNat m)]) g T)=some (.bool (hiL m l),stS (.cells 3 [.int .i64 (.ofNat m)]) g T):=by
 obtain⟨q,rfl⟩:=up (show 3≤n by omega)
 have MR:RN (q + 2) (.f 105) [.list 1 (av true) 0 ((psL l m).map mq),.fn 106 0 [] []] (stS (.cells 3 [.int .i64 (.ofNat m)]) g T)=some (.bool (hiL m l),stS (.cells 3 [.int .i64 (.ofNat m)]) g T):=by
  rw [← QO l m hm]
  exact Ta (n:=q) (f:=106) (first:=[]) (cap:=[]) (fun i=>!iLt i 0) (psL l m) true (by unfold psL;rw [List.length_drop];simp only [aLc,List.length_nil];omega) (by unfold psL;rw [List.length_drop];simp only [aLc,List.length_nil];omega) rfl (fun x _=>.inl ⟨rfl,rfl,Tl (by omega)⟩)
 refine bC rfl ?_
 refine aL Tryz.cfg _ (fn:=Tryz.f104) rfl rfl ?_
 rcases m with _ | _ | _ | _ | m
 ·refine ab.mk (.slc (.loc 2) 1 1 4 4) rfl ?_
  refine ag.mk _ _ MR ⟨rfl,?_⟩
  rfl
 ·refine ab.mk (.slc (.loc 2) 2 1 3 3) rfl ?_
  refine ag.mk _ _ MR ⟨rfl,?_⟩
  rfl
 ·refine ab.mk (.slc (.loc 2) 3 1 2 2) rfl ?_
  refine ag.mk _ _ MR ⟨rfl,?_⟩
  rfl
 ·refine ab.mk (.slc (.loc 2) 4 1 1 1) rfl ?_
  refine ag.mk _ _ MR ⟨rfl,?_⟩
  rfl
 ·omega
theorem To {x:Tm} {m:Nat} {g:V} {T:List Nat} (hm:m < 4) (hl:x.ls.length < 1000000000) (hn:x.ls.length + 40≤n):RN n (.f 102) [aH x,.ptr (.box 0) 0] (stS (.cells 3 [.int .i64 (.ofNat m)]) g T)=some (.bool (x.ls.any (hiL m)),stS (.cells 3 [.int .i64 (.ofNat m)]) g T):=by
 obtain⟨q,rfl⟩:=up (show 3≤n by omega)
 have Tp:=SZ (n:=q) (f:=104) (top:=0) (first:=[]) (cap:=[.ptr (.box 0) 0]) (S:=stS (.cells 3 [.int .i64 (.ofNat m)]) g T) (hiL m) x.ls x.a (av x.b) hl (by omega) (fun y _=>.inr (.inr ⟨rfl,fun A=>rfl,rfl,rfl,Tn hm (by omega)⟩))
 refine bC rfl ?_
 refine aL Tryz.cfg _ (fn:=Tryz.f102) rfl rfl ?_
 refine ag.mk _ _ Tp ?_
 rfl
theorem vz {x:Tm} (h:bh x=true):x.ls.length≤20:=by
 have:=Dq h
 unfold jt at this
 rwa [Nat.ble_eq] at this
noncomputable def xY (d:Dl):Bool:=iLt d.params 0 || (!iLt d.params 4 || (eo d).any (hiT (pN d)))
theorem h53 {W:Nat} (hd:rT d W) (hls:∀t∈eo d,dG t) (hW:W < 100000000) (hn:3 * W + 1000≤n):RN n (.f 53) [cQ d sz tok rows] S=some (.bool (xY d),S):=by
 obtain⟨q,rfl⟩:=up (show 1≤n by omega)
 have iB:=hd.nm.few
 have htl:=xX hd.nm
 have h:∃r,frame Tryz.cfg (RN q) q 53 [cQ d sz tok rows] St.empty=some r∧∃S',r=(.bool (xY d),S'):=by
  refine aV (fn:=Tryz.f53) (p:=fun r=>∃S',r=(.bool (xY d),S')) rfl rfl ?_
  unfold xY
  refine ah.mk (fun c1=>?_) (fun c1=>?_)
  ·rw [c1];exact⟨_,rfl,_,rfl⟩
  refine ah.mk (fun c2=>?_) (fun c2=>?_)
  ·rw [c1,c2];exact⟨_,rfl,_,rfl⟩
  have hpp:d.params=.ofNat (pN d):=by
   rw [cb,decide_eq_false_iff_not] at c1
   unfold pN
   simp only [aOn];omega
  have hp4:pN d < 4:=by
   have c2' : iLt d.params 4=true:=by simpa using c2
   rw [hpp,cb,decide_eq_true_eq] at c2'
   simp only [aOn] at c2';omega
  obtain⟨b,Pr⟩:=h98 (n:=q) (d:=d) (sz:=sz) (tok:=tok) (rows:=rows) (S:={ heap:=[.cells 3 [.int .i64 (.ofNat (pN d))]],aA:=[] }) (by omega) (fun i hi=>by have:=hd.nm.cs i hi;omega) hd.nm.smD (by omega)
  obtain⟨S1,Pt⟩:=QM (n:=q) (xs:=eo d) (c:=false) (tok:=av b) (w:=W) (f:=102) (top:=0) (first:=[]) (cap:=[.ptr (.box 0) 0]) (B0:=.cells 3 [.int .i64 (.ofNat (pN d))]) (T:=[]) (p:=fun x=>x.ls.any (hiL (pN d))) (Q:=dG) (fun x hx y hy=>((bX x).1 hx).2 y hy) (by omega) (fun y hy=>⟨hls y hy,(hd.ty y (oA hy)).2.2⟩) (by omega) (by omega)
   (fun y m h0 h1 h2=>.inr (.inr ⟨rfl,fun A=>rfl,rfl,rfl,To hp4 (by have:=vz ((bX y).1 h0).1;omega) (by have:=vz ((bX y).1 h0).1;omega)⟩))
  rw [hpp] at c1 c2 ⊢
  rw [c1,c2]
  refine ag.mk _ _ Pr ?_
  refine ag.mk _ _ Pt ?_
  exact⟨_,rfl,_,rfl⟩
 obtain⟨r,k6,S',rfl⟩:=h
 exact xR k6 (by simp only [ek,aq]) rfl rfl rfl rfl rfl
end
section
variable {n:Nat} {S:St}
theorem QP {ls ms:List Lv} {a a2 b b2:Bool} (hl:ls.length < 1000000000) (hn:ls.length + 3≤n):RN n (.f 156) [.list (au a ls) (av b) 0 (ls.map enc),.list (au a2 ms) (av b2) 0 (ms.map enc)] S=some (.bool (decide (ls=ms)),S):=by
 obtain⟨q,rfl⟩:=up (show 1≤n by omega)
 have h:∃r,frame Tryz.cfg (RN q) q 156 [.list (au a ls) (av b) 0 (ls.map enc),.list (au a2 ms) (av b2) 0 (ms.map enc)] St.empty=some r∧∃S',r=(.bool (decide (ls=ms)),S'):=by
  refine aV (fn:=Tryz.f156) (p:=fun r=>∃S',r=(.bool (decide (ls=ms)),S')) rfl rfl ?_
  refine ah.mk (fun hc=>?_) (fun hc=>?_)
  ·rw [an,an,aLm,aLm] at hc
   have he:decide (ls=ms)=false:=by
    rw [decide_eq_false_iff_not]
    intro e
    rw [e,bp] at hc
    simp at hc
   rw [he];exact⟨_,rfl,_,rfl⟩
  ·rw [an,an,aLm,aLm] at hc
   have hlen:ls.length=ms.length:=by
    rw [gH] at hc
    simpa using hc
   refine aB.loop 26 (σ:=Unit) ls.length (fun j _=>{ nt:=26,tmps:=[(0,.list (au a ls) (av b) 0 (ls.map enc)),(1,.list (au a2 ms) (av b2) 0 (ms.map enc)),(12,.int .i64 (.ofNat (aG (ls.map enc)))),(13,.int .i64 (.ofNat j))],locs:=[],fix:=[] }) (fun _ _=>St.empty)
    (fun j _=>decide (ls=ms)=((ls.zip ms).drop j).all fun q=>decide (q.1=q.2)) () (by omega) (by rw [List.drop_zero,J5 hlen]) ?_ ?_
   ·intro j _ hj hp
    obtain⟨x,hx⟩ : ∃x,ls[j]?=some x:=⟨_,aGe hj⟩
    obtain⟨y,hy⟩ : ∃y,ms[j]?=some y:=⟨_,aGe (by omega)⟩
    rw [gg (GU hx hy)] at hp
    refine ah.yes (ltM hj) ?_
    refine ab.mk _ (xQ hx) ?_
    refine ab.mk _ (xQ hy) ?_
    refine ab.mkB (eqL x y) (fun he=>?_) (fun he=>?_)
    ·have he' : decide (x=y)=false:=by simpa using he
     rw [he'] at hp
     rw [hp];exact⟨_,rfl,_,rfl⟩
    ·have he' : decide (x=y)=true:=by simpa using he
     rw [he'] at hp
     refine ab.mk _ (az (by omega)) ?_
     exact⟨(),hp,rfl,rfl⟩
   ·intro _ hp
    rw [List.drop_of_length_le (by simp;omega)] at hp
    refine ah.no (geM (by omega)) ?_
    rw [hp];exact⟨_,rfl,_,rfl⟩
 obtain⟨r,k6,S',rfl⟩:=h
 exact bG k6 (by cases b<;>cases b2<;>rfl) rfl rfl rfl rfl rfl
noncomputable def eqP (p:Tm→Tm→Bool) (xs ys:List Tm):Bool:=decide (xs.length=ys.length) && (xs.zip ys).all fun q=>p q.1 q.2
@[reducible] noncomputable def Ko (o:Option (Tm×Tm)):List (Nat×List V):=match o with | none=>[] | some (x,y)=>[(8,aC x),(9,aC y)]
theorem Tq {xs ys:List Tm} {a a2 b b2:Bool} (p:Tm→Tm→Bool) (hl:xs.length < 1000000000) (hn:xs.length + 3≤n) (h:∀x∈xs,∀y∈ys,RN (n - 1) (.f 200) [aH x,aH y] St.empty=some (.bool (p x y),St.empty)) :
 RN n (.f 181) [.list (au a xs) (av b) 0 (ae xs),.list (au a2 ys) (av b2) 0 (ae ys),.fn 200 0 [] []] S=some (.bool (eqP p xs ys),S):=by
 obtain⟨q,rfl⟩:=up (show 1≤n by omega)
 rw [show q + 1 - 1=q from rfl] at h
 have hm:bg V.strip [.list (au a xs) (av b) 0 (ae xs),.list (au a2 ys) (av b2) 0 (ae ys),.fn 200 0 [] []]=[.list (au a xs) (av b) 0 (ae xs),.list (au a2 ys) (av b2) 0 (ae ys),.fn 200 0 [] []]:=by cases b<;>cases b2<;>rfl
 have h:∃r,frame Tryz.cfg (RN q) q 181 [.list (au a xs) (av b) 0 (ae xs),.list (au a2 ys) (av b2) 0 (ae ys),.fn 200 0 [] []] St.empty=some r∧∃S',r=(.bool (eqP p xs ys),S'):=by
  refine aV (fn:=Tryz.f181) (p:=fun r=>∃S',r=(.bool (eqP p xs ys),S')) rfl rfl ?_
  refine ah.mk (fun hc=>?_) (fun hc=>?_)
  ·rw [al,al,gH] at hc
   have he:eqP p xs ys=false:=by unfold eqP;rw [show decide (xs.length=ys.length)=false by simpa using hc];rfl
   rw [he];exact⟨_,rfl,_,rfl⟩
  ·rw [al,al,gH] at hc
   have hlen:xs.length=ys.length:=by simpa using hc
   refine aB.loop 32 (σ:=Option (Tm×Tm)) xs.length (fun j o=>{ nt:=32,tmps:=[(1,.list (au a2 ys) (av b2) 0 (ae ys)),(2,.fn 200 0 [] []),(15,.list (au a xs) (av b) 0 (ae xs)),(16,.int .i64 (.ofNat (aG (ae xs)))),(17,.int .i64 (.ofNat j))],locs:=Ko o,fix:=[] }) (fun _ _=>St.empty)
    (fun j _=>eqP p xs ys=((xs.zip ys).drop j).all fun q=>p q.1 q.2) none (by omega) (by unfold eqP;rw [hlen];simp) ?_ ?_
   ·intro j o hj hp
    obtain⟨x,hx⟩ : ∃x,xs[j]?=some x:=⟨_,aGe hj⟩
    obtain⟨y,hy⟩ : ∃y,ys[j]?=some y:=⟨_,aGe (by omega)⟩
    rw [gg (x:=(x,y)) (List.getElem?_zip_eq_some.2 ⟨hx,hy⟩)] at hp
    have hxy:=h x (aMg hx) y (aMg hy)
    rcases o with _ | ⟨x0,y0⟩
    all_goals
     refine ah.yes (gE hj) ?_
     refine ab.mk _ (bJ hx) ?_
     refine ab.mk _ (bJ hy) ?_
     refine ag.mkB hxy (fun he=>?_) (fun he=>?_)
     ·rw [he] at hp
      refine ab.mk _ (az (by omega)) ?_
      exact⟨some (x,y),hp,rfl,rfl⟩
     ·rw [he] at hp
      rw [hp];exact⟨_,rfl,_,rfl⟩
   ·intro o hp
    rw [List.drop_of_length_le (by simp;omega)] at hp
    rcases o with _ | ⟨x0,y0⟩
    all_goals
     refine ah.no (gG (by omega)) ?_
     rw [hp];exact⟨_,rfl,_,rfl⟩
 obtain⟨r,k6,S',rfl⟩:=h
 exact bG k6 hm rfl rfl rfl rfl rfl
theorem Ts {xs ys:List Tm} {a a2 b b2:Bool} (p:Tm→Tm→Bool) (hl:xs.length < 1000000000) (hn:xs.length + 3≤n) (h:∀x∈xs,∀y∈ys,RN (n - 1) (.f 182) [aH x,aH y] St.empty=some (.bool (p x y),St.empty)) :
 RN n (.f 181) [.list (au a xs) (av b) 0 (ae xs),.list (au a2 ys) (av b2) 0 (ae ys),.fn 182 0 [] []] S=some (.bool (eqP p xs ys),S):=by
 obtain⟨q,rfl⟩:=up (show 1≤n by omega)
 rw [show q + 1 - 1=q from rfl] at h
 have hm:bg V.strip [.list (au a xs) (av b) 0 (ae xs),.list (au a2 ys) (av b2) 0 (ae ys),.fn 182 0 [] []]=[.list (au a xs) (av b) 0 (ae xs),.list (au a2 ys) (av b2) 0 (ae ys),.fn 182 0 [] []]:=by cases b<;>cases b2<;>rfl
 have h:∃r,frame Tryz.cfg (RN q) q 181 [.list (au a xs) (av b) 0 (ae xs),.list (au a2 ys) (av b2) 0 (ae ys),.fn 182 0 [] []] St.empty=some r∧∃S',r=(.bool (eqP p xs ys),S'):=by
  refine aV (fn:=Tryz.f181) (p:=fun r=>∃S',r=(.bool (eqP p xs ys),S')) rfl rfl ?_
  refine ah.mk (fun hc=>?_) (fun hc=>?_)
  ·rw [al,al,gH] at hc
   have he:eqP p xs ys=false:=by unfold eqP;rw [show decide (xs.length=ys.length)=false by simpa using hc];rfl
   rw [he];exact⟨_,rfl,_,rfl⟩
  ·rw [al,al,gH] at hc
   have hlen:xs.length=ys.length:=by simpa using hc
   refine aB.loop 32 (σ:=Option (Tm×Tm)) xs.length (fun j o=>{ nt:=32,tmps:=[(1,.list (au a2 ys) (av b2) 0 (ae ys)),(2,.fn 182 0 [] []),(15,.list (au a xs) (av b) 0 (ae xs)),(16,.int .i64 (.ofNat (aG (ae xs)))),(17,.int .i64 (.ofNat j))],locs:=Ko o,fix:=[] }) (fun _ _=>St.empty)
    (fun j _=>eqP p xs ys=((xs.zip ys).drop j).all fun q=>p q.1 q.2) none (by omega) (by unfold eqP;rw [hlen];simp) ?_ ?_
   ·intro j o hj hp
    obtain⟨x,hx⟩ : ∃x,xs[j]?=some x:=⟨_,aGe hj⟩
    obtain⟨y,hy⟩ : ∃y,ys[j]?=some y:=⟨_,aGe (by omega)⟩
    rw [gg (x:=(x,y)) (List.getElem?_zip_eq_some.2 ⟨hx,hy⟩)] at hp
    have hxy:=h x (aMg hx) y (aMg hy)
    rcases o with _ | ⟨x0,y0⟩
    all_goals
     refine ah.yes (gE hj) ?_
     refine ab.mk _ (bJ hx) ?_
     refine ab.mk _ (bJ hy) ?_
     refine ag.mkB hxy (fun he=>?_) (fun he=>?_)
     ·rw [he] at hp
      refine ab.mk _ (az (by omega)) ?_
      exact⟨some (x,y),hp,rfl,rfl⟩
     ·rw [he] at hp
      rw [hp];exact⟨_,rfl,_,rfl⟩
   ·intro o hp
    rw [List.drop_of_length_le (by simp;omega)] at hp
    rcases o with _ | ⟨x0,y0⟩
    all_goals
     refine ah.no (gG (by omega)) ?_
     rw [hp];exact⟨_,rfl,_,rfl⟩
 obtain⟨r,k6,S',rfl⟩:=h
 exact bG k6 hm rfl rfl rfl rfl rfl
theorem zM:∀(ts us:List Tm),ts.length=us.length→iK ts us=(ts.zip us).all fun q=>dx q.1 q.2
 | [],us,h=>by rw [iK];rfl
 | t::ts,[],h=>by simp at h
 | t::ts,u::us,h=>by rw [iK,zM ts us (by simpa using h)];rfl
theorem qF (a b:Tm):dx a b=(iEq a.k b.k && (iEq a.n b.n && (decide (a.s=b.s) && (decide (a.ls=b.ls) && eqP dx a.ts b.ts)))):=by
 rw [sS,al,al,an,an,aLm,aLm,gH,gH]
 unfold eqP
 by_cases h1:a.ls=b.ls
 ·by_cases h2:a.ts.length=b.ts.length
  ·rw [zM _ _ h2,h1]
   simp [h2,Bool.and_assoc]
  ·simp [h2]
 ·simp [h1]
theorem QQ:∀(n:Nat) (a b:Tm) (S:St),dG a→2 * wt a + 30≤n→wt a < 100000000→RN n (.f 200) [aH a,aH b] S=some (.bool (dx a b),S)
 | 0,a,b,S,_,h,_=>by omega
 | n + 1,a,b,S,ha,hn,hw=>by
  have G3:=(bX a).1 ha
  have hls:=vz G3.1
  have hxl:a.ts.length < 1000000000∧a.ts.length + 3≤n:=by
   have:=cr a
   have:=hV a.ts
   omega
  have h:∃r,frame Tryz.cfg (RN n) n 200 [aH a,aH b] St.empty=some r∧∃S',r=(.bool (dx a b),S'):=by
   refine aV (fn:=Tryz.f200) (p:=fun r=>∃S',r=(.bool (dx a b),S')) rfl rfl ?_
   rw [qF]
   refine ah.mk (fun c1=>?_) (fun c1=>?_)
   ·refine ah.mk (fun c2=>?_) (fun c2=>?_)
    ·refine ab.mkB jJ (fun c3=>?_) (fun c3=>?_)
     ·refine ag.mkB (QP (by omega) (by omega)) (fun c4=>?_) (fun c4=>?_)
      ·refine ag.mkB (Tq dx hxl.1 hxl.2 (fun x hx y _=>QQ (n - 1) x y _ (G3.2 x hx) (by have:=cz hx;omega) (by have:=cz hx;omega))) (fun c5=>?_) (fun c5=>?_)
       ·rw [c1,c2,c3,c4,c5];exact⟨_,rfl,_,rfl⟩
       ·rw [c1,c2,c3,c4,c5];exact⟨_,rfl,_,rfl⟩
      ·rw [c1,c2,c3,c4];exact⟨_,rfl,_,rfl⟩
     ·rw [c1,c2,c3];exact⟨_,rfl,_,rfl⟩
    ·rw [c1,c2];exact⟨_,rfl,_,rfl⟩
   ·rw [c1];exact⟨_,rfl,_,rfl⟩
  obtain⟨r,k6,S',rfl⟩:=h
  exact bG k6 (by simp only [br,aq]) rfl rfl rfl rfl rfl
termination_by n=>n
decreasing_by omega
theorem Tt {a b:Tm} (ha:cM a=true) (hsa:Sm a) (hsb:Sm b) (hb:cM b=true) (hn:2 * wt a + wt b + 60≤n):RN n (.f 182) [aH a,aH b] S=some (.bool (dx a b),S):=by
 obtain⟨q,rfl⟩:=up (show 1≤n by omega)
 have hw:=fv ha
 have h:∃r,frame Tryz.cfg (RN q) q 182 [aH a,aH b] St.empty=some r∧∃S',r=(.bool (dx a b),S'):=by
  refine aV (fn:=Tryz.f182) (p:=fun r=>∃S',r=(.bool (dx a b),S')) rfl rfl ?_
  have e1:=h67 (n:=q) (S:=St.empty) hsa (by omega)
  have e2:=h67 (n:=q) (S:=St.empty) hsb (by omega)
  rw [ha] at e1
  rw [hb] at e2
  refine ag.mk _ _ e1 ?_
  refine ag.mk _ _ e2 ?_
  refine ag.mk _ _ (QQ q a b _ (cH ha) (by omega) (by omega)) ?_
  exact⟨_,rfl,_,rfl⟩
 obtain⟨r,k6,S',rfl⟩:=h
 exact bG k6 (by simp only [br,aq]) rfl rfl rfl rfl rfl
end
theorem u9 {p:Tm→Bool} {d:Nat}:∀{ts:List Tm} {l r:Nat},dD p ts l d=some r→∀y∈ts,∃l' r',l'≤l∧de p y l' d=some r'
 | [],l,r,_,y,hy=>by cases hy
 | t::ts,l,r,h,y,hy=>by
  rw [eJ] at h
  split at h
  ·rename_i l' h1
   have hle:=sP _ _ h1
   cases hy with
   | head=>exact⟨_,_,Nat.le_refl _,h1⟩
   | tail _ hy=>
    obtain⟨l2,r2,k1,k2⟩:=u9 h y hy
    exact⟨l2,r2,by omega,k2⟩
  ·cases h
theorem tj {x y:Tm} (h:cM x=true) (hy:y∈x.ts):cM y=true:=by
 obtain⟨r,hr⟩:=kH h
 obtain⟨l',d',h1,h2,_,hts⟩:=jV hr
 obtain⟨l2,r2,k1,k2⟩:=u9 hts y hy
 have:=Ib (q:=bh) (fun _ h=>h) y k2 (by omega:l2≤65536) (by omega:d'≤4096)
 unfold cM
 rw [this];rfl
theorem oB:∀(w:Nat) (x:Tm),wt x≤w→cM x=true→cM (ak x).2=true∧∀y∈(ak x).1,cM y=true
 | 0,x,hw,_=>by rw [cr] at hw;omega
 | w + 1,x,hw,h=>by
  cases hk:iEq x.k 6 with
  | false=>rw [lu hk];exact⟨h,by simp⟩
  | true=>
   obtain⟨a,b,ht⟩:=eO ((bX x).1 (cH h)).1 (mL hk)
   rw [kj hk ht]
   have hb:=tj h (y:=b) (by rw [ht];simp)
   have ha:=tj h (y:=a) (by rw [ht];simp)
   obtain⟨k1,k2⟩:=oB w b (by have:=cz (x:=b) (y:=x) (by rw [ht];simp);omega) hb
   refine⟨k1,fun y hy=>?_⟩
   cases hy with
   | head=>exact ha
   | tail _ hy=>exact k2 y hy
theorem uh:∀(w:Nat) (x:Tm),wt x≤w→cM x=true→cM (aD x).1=true∧∀y∈(aD x).2,cM y=true
 | 0,x,hw,_=>by rw [cr] at hw;omega
 | w + 1,x,hw,h=>by
  cases hk:iEq x.k 4 with
  | false=>rw [hZ hk];exact⟨h,by simp⟩
  | true=>
   obtain⟨f,a,ht⟩:=eO ((bX x).1 (cH h)).1 (l9 hk)
   rw [gf hk ht]
   have hf:=tj h (y:=f) (by rw [ht];simp)
   have ha:=tj h (y:=a) (by rw [ht];simp)
   obtain⟨k1,k2⟩:=uh w f (by have:=cz (x:=f) (y:=x) (by rw [ht];simp);omega) hf
   refine⟨k1,fun y hy=>?_⟩
   rcases List.mem_append.1 hy with hy | hy
   ·exact k2 y hy
   ·rw [List.mem_singleton.1 hy];exact ha
theorem qd {x:Tm} (h:cM x=true):Sm x:=(cH h).sm
theorem Fx (a:Tm):∀b,dx a b=dx b a:=by
 induction a using Tm.ind with
 | h a ih=>
  intro b
  rw [qF,qF]
  have e1:iEq a.k b.k=iEq b.k a.k:=by rw [bp,bp,Bool.eq_iff_iff,decide_eq_true_eq,decide_eq_true_eq];exact eq_comm
  have e2:iEq a.n b.n=iEq b.n a.n:=by rw [bp,bp,Bool.eq_iff_iff,decide_eq_true_eq,decide_eq_true_eq];exact eq_comm
  have e3:decide (a.s=b.s)=decide (b.s=a.s):=by rw [Bool.eq_iff_iff,decide_eq_true_eq,decide_eq_true_eq];exact eq_comm
  have e4:decide (a.ls=b.ls)=decide (b.ls=a.ls):=by rw [Bool.eq_iff_iff,decide_eq_true_eq,decide_eq_true_eq];exact eq_comm
  have e5:∀(xs ys:List Tm),(∀x∈xs,∀y,dx x y=dx y x)→eqP dx xs ys=eqP dx ys xs:=by
   intro xs
   induction xs with
   | nil=>intro ys _;cases ys<;>rfl
   | cons x xs ihx=>
    intro ys h
    cases ys with
    | nil=>rfl
    | cons y ys=>
     have h1:=ihx ys (fun z hz=>h z (aMt _ hz))
     have h2:=h x aMs y
     unfold eqP at h1 ⊢
     simp only [aLc,List.zip_cons_cons,List.all_cons]
     rw [h2]
     have e:∀p q r:Bool,(p && (q && r))=(q && (p && r)):=by decide
     rw [e,e (decide (ys.length + 1=xs.length + 1))]
     congr 1
     simpa using h1
  rw [e1,e2,e3,e4,e5 a.ts b.ts (fun x hx y=>ih x hx y)]
noncomputable def tn (fx:Nat) (F l:List Tm):Bool:=!iLt (.ofNat l.length) (.ofNat fx) && (!iLt 12 (.ofNat l.length - .ofNat fx) && (!iLt (.ofNat F.length) (.ofNat fx) && eqP dx (l.take fx) (F.take fx)))
theorem Iq {fx:Nat} {F l:List Tm} (h1:fx≤F.length) (h2:fx≤l.length):eqP dx (l.take fx) (F.take fx)=oh fx F l:=by
 unfold eqP oh
 rw [show decide ((l.take fx).length=(F.take fx).length)=true by rw [decide_eq_true_eq,List.length_take,List.length_take];omega,Bool.true_and]
 have:∀(xs ys:List Tm),((xs.zip ys).all fun q=>dx q.1 q.2)=((ys.zip xs).all fun p=>dx p.1 p.2):=by
  intro xs
  induction xs with
  | nil=>intro ys;cases ys<;>rfl
  | cons x xs ih=>
   intro ys
   cases ys with
   | nil=>rfl
   | cons y ys=>
    simp only [List.zip_cons_cons,List.all_cons]
    rw [ih ys,Fx x y]
 exact this _ _
theorem qe {LT sz by' : Nat} {z' : List V} {xs:List Tm} {c:Bool} {tok:Tok} {m:Nat} (hl:Tryz.cfg.ti LT=some { kind:=.slice 25,size:=sz,bytes:=by',zero:=z' }) (hm:m≤xs.length) :
 ∃c' b',slice Tryz.cfg LT (.list (au c xs) tok 0 (ae xs)) none (some (.int .i64 (.ofNat m))) none=some (.list (au c' (xs.take m)) (av b') 0 (ae (xs.take m))):=by
 obtain⟨c',aP,h⟩:=oo (c:=c) (tok:=tok) hl hm
 have:aP=.tight∨aP=.no:=by
  unfold slice at h
  have hb:bound (some (.int .i64 (.ofNat m)))=some (some m):=by simp [bound]
  have hb0:bound none=some none:=rfl
  rw [hb,hb0] at h
  simp only [hl] at h
  rw [show Tryz.cfg.ti 25=some Tryz.ti25 from rfl] at h
  simp only at h
  have hq:(ae xs).isEmpty=true∨au c xs=Tryz.ti25.size:=by
   rcases jx c xs with rfl | h
   ·left;rw [ae];rfl
   ·right;rw [h];rfl
  rw [if_pos hq] at h
  unfold jK at h
  simp only [Option.getD_some,Option.getD_none] at h
  rw [if_pos ⟨Nat.zero_le _,by rw [al];exact hm⟩] at h
  injection h with h
  injection h with _ h2 _ _
  rw [← h2]
  split
  ·exact .inl rfl
  ·exact .inr rfl
 obtain⟨b,rfl⟩:=qC this
 exact⟨c',b,h⟩
section
variable {n:Nat} {d:Dl} {F:List Tm} {c0 e0:Bool} {S:St} {fx W:Nat}
theorem h57 {x:In} {j:Nat} {sz:Nat} {tok:Tok} {rows:List V} (hx:d.ai[j]?=some x) (hfx:d.fixed=.ofNat fx) (hf:fx≤100) (ha:dG x.ty) (hw:wt x.ty < 1000000000) (hn:wt x.ty + 10≤n):RN n (.f 57) [cQ d sz tok rows,.int .i64 (.ofNat j)] S=some (.int .i64 (aZ d x),S):=by
 obtain⟨q,rfl⟩:=up (show 1≤n by omega)
 have hpw:=(fK _ _ (Nat.le_refl _) ha).1
 obtain⟨q0,k1,T1,tk,rfl,hg⟩:=h56 (n:=q) (x:=x.ty) (H:=[]) (T:=[]) ha (by omega) (by omega)
 have h:∃r,frame Tryz.cfg (RN q) q 57 [cQ d sz tok rows,.int .i64 (.ofNat j)] St.empty=some r∧∃S',r=(.int .i64 (aZ d x),S'):=by
  refine aV (fn:=Tryz.f57) (p:=fun r=>∃S',r=(.int .i64 (aZ d x),S')) rfl rfl ?_
  refine ab.mk _ (aO hx) ?_
  refine ag.mk _ _ k1 ?_
  refine ab.mk (.int .i64 (aZ d x)) (by unfold aZ;rw [al,hfx];exact pT (by simp only [aOn];omega) (by simp only [aOn];omega)) ?_
  exact⟨_,rfl,_,rfl⟩
 obtain⟨r,k6,S',rfl⟩:=h
 exact xR k6 (by simp only [ek,bx,aq]) rfl rfl rfl rfl rfl
theorem Tu {l:List Tm} {c e:Bool} (hfx:d.fixed=.ofNat fx) (hf:fx≤100) (hl:l.length < 1000000) (hFl:F.length < 1000000) (hml:∀y∈l,cM y=true∧wt y≤W) (hmF:∀y∈F,cM y=true∧wt y≤W) (hn:3 * W + 300≤n) :
 RN n (.f 153) [cQ d (au c0 F) (av e0) (ae F),.list (au c l) (av e) 0 (ae l)] S=some (.bool (tn fx F l),S):=by
 obtain⟨q,rfl⟩:=up (show 1≤n by omega)
 have h:∃r,frame Tryz.cfg (RN q) q 153 [cQ d (au c0 F) (av e0) (ae F),.list (au c l) (av e) 0 (ae l)] St.empty=some r∧∃S',r=(.bool (tn fx F l),S'):=by
  refine aV (fn:=Tryz.f153) (p:=fun r=>∃S',r=(.bool (tn fx F l),S')) rfl rfl ?_
  unfold tn
  refine ah.mk (fun c1=>?_) (fun c1=>?_)
  ·rw [al,hfx] at c1
   rw [c1]
   refine ab.mk (.int .i64 (.ofNat l.length - .ofNat fx)) (by rw [al,hfx];exact pT (by simp only [aOn];omega) (by simp only [aOn];omega)) ?_
   refine ah.mk (fun c2=>?_) (fun c2=>?_)
   ·rw [c2]
    refine ah.mk (fun c3=>?_) (fun c3=>?_)
    ·rw [al,hfx] at c3
     rw [c3]
     have h1:fx≤l.length:=by
      rw [cb] at c1
      simp only [Bool.not_eq_true',decide_eq_false_iff_not,aOn] at c1;omega
     have h2:fx≤F.length:=by
      rw [cb] at c3
      simp only [Bool.not_eq_true',decide_eq_false_iff_not,aOn] at c3;omega
     obtain⟨c4,b4,s1⟩:=qe (LT:=23) (c:=c) (tok:=av e) (m:=fx) rfl h1
     obtain⟨c5,b5,s2⟩:=qe (LT:=23) (c:=c0) (tok:=av e0) (m:=fx) rfl h2
     rw [← hfx] at s1 s2
     refine ab.mk _ s1 ?_
     refine ab.mk _ s2 ?_
     refine ag.mkB (Ts (n:=q) (S:=St.empty) dx (by rw [List.length_take];omega) (by rw [List.length_take];omega) (fun x hx y hy=>by
      obtain⟨x1,x2⟩:=hml x (List.mem_of_mem_take hx)
      obtain⟨y1,y2⟩:=hmF y (List.mem_of_mem_take hy)
      exact Tt x1 (qd x1) (qd y1) y1 (by omega))) (fun c6=>?_) (fun c6=>?_)
     ·rw [c6];exact⟨_,rfl,_,rfl⟩
     ·rw [c6];exact⟨_,rfl,_,rfl⟩
    ·rw [al,hfx] at c3
     rw [c3];exact⟨_,rfl,_,rfl⟩
   ·rw [c2];exact⟨_,rfl,_,rfl⟩
  ·rw [al,hfx] at c1
   rw [c1];exact⟨_,rfl,_,rfl⟩
 obtain⟨r,k6,S',rfl⟩:=h
 exact bG k6 (by simp only [ek,dp,aq]) rfl rfl rfl rfl rfl
end
theorem MS {fx:Nat} {l:List Tm} {aa:Int} {i:Nat} {x:Tm} (hi:i < fx) (hx:l[i]?=some x) :
 ((List.range fx).drop i).all (fun i=>match l[i]? with | some x=>iEq x.k 2 && iEq x.n (aa - 1 - .ofNat i) | none=>false)=((iEq x.k 2 && iEq x.n (aa - 1 - .ofNat i)) && ((List.range fx).drop (i + 1)).all (fun i=>match l[i]? with | some x=>iEq x.k 2 && iEq x.n (aa - 1 - .ofNat i) | none=>false)):=by
 rw [gg (xF hi),hx]
section
variable {n:Nat} {d:Dl} {sz:Nat} {tok:Tok} {rows:List V} {S:St} {fx p W:Nat}
theorem Pu {t:Tm} {aa:Int} (hd:pW d W) (hpi:∀i∈d.ai,fx≤(ak i.ty).1.length) (ht:cM t=true) (htw:wt t≤W) (hfx:d.fixed=.ofNat fx) (hpp:d.params=.ofNat p) (hf:fx≤100) (hp:p≤100) (hr:Bd aa) (hn:2 * W + 1300≤n) :
 ∃c e,RN n (.f 116) [cQ d sz tok rows,aH t,.int .i64 aa] S=some (.tuple [.int .i64 (cD d fx t aa).1,.list (au c (cD d fx t aa).2) (av e) 0 (ae (cD d fx t aa).2)],S):=by
 obtain⟨k,rfl⟩:=up (show 1≤n by omega)
 have hWm:=hd.Bk
 have iB:=hd.few
 have hta:=cH ht
 obtain⟨s1,s2,s3,s4⟩:=iA _ t (Nat.le_refl _) hta
 have G4:=QA (n:=k) (S:=St.empty) ht (qd ht) (by omega)
 rw [show V.list 5 .no 0 (ae (aD t).2)=.list (au true (aD t).2) (av false) 0 (ae (aD t).2) by cases (aD t).2<;>rfl] at G4
 have oQ:dq d fx t aa=false→∀S',uV (cD d fx t aa) (.tuple [.int .i64 (-1),.list 0 .tight 0 []],S'):=fun e S'=>by
  unfold cD
  rw [e]
  exact⟨false,true,S',by rw [ae];rfl⟩
 have hls:=vz ((bX _).1 (cH (uh _ t (Nat.le_refl _) ht).1)).1
 have h:∃q,frame Tryz.cfg (RN k) k 116 [cQ d sz tok rows,aH t,.int .i64 aa] St.empty=some q∧uV (cD d fx t aa) q:=by
  refine aV (fn:=Tryz.f116) (p:=uV (cD d fx t aa)) rfl rfl ?_
  refine ag.mk _ _ G4 ?_
  refine ag.mk _ _ (QN (by omega) (by omega)) ?_
  refine ah.mk (fun h3=>?_) (fun h3=>?_)
  ·have h3' : iEq (aD t).1.k 3=false:=by simpa using h3
   exact⟨_,rfl,oQ (by unfold dq kI;rw [h3'];rfl) _⟩
  have h3' : iEq (aD t).1.k 3=true:=by simpa using h3
  cases hw:dw (fun i=>decide (i.name=(aD t).1.s)) d.ai 0 with
  | none=>
   have hq:eQ d.ai (aD t).1.s = -1:=by unfold eQ;rw [hw];rfl
   rw [hq]
   refine ah.yes rfl ?_
   exact⟨_,rfl,oQ (by unfold dq kI;rw [h3',hw];rfl) _⟩
  | some j=>
   obtain⟨hq,x,hx⟩:=oj hw
   rw [hq]
   refine ah.no rfl ?_
   have hxa:=hd.all x (aMg hx)
   have Kp:=h19 (n:=k) (m:=p) (S:=St.empty) (by omega) (by omega)
   rw [← hpp] at Kp
   refine ag.mk _ _ Kp ?_
   refine ag.mkB (QP (ls:=(aD t).1.ls) (ms:=eW p) (by omega) (by omega)) (fun h4=>?_) (fun h4=>?_)
   ·refine ag.mk _ _ (h57 hx hfx hf hxa.1 (by omega) (by omega)) ?_
    have hpw:=(fK _ _ (Nat.le_refl _) hxa.1).1
    refine ab.mk (.int .i64 (d.fixed + aZ d x)) (by rw [hfx];unfold aZ;rw [hfx];exact MA (by simp only [aOn];omega) (by simp only [aOn];omega)) ?_
    have MT:(aD t).1.ls=eW p:=by simpa using h4
    have hlen:(aD t).1.ls.length=p:=by rw [MT,fk]
    have NU:kI d (aD t).1 (aD t).2=iEq (.ofNat (aD t).2.length) (d.fixed + aZ d x):=by
     unfold kI
     rw [h3',hw]
     simp only [hx,Bool.true_and]
     rw [hpp,hlen,show iEq (.ofNat p) (.ofNat p)=true by rw [bp];simp,Bool.true_and]
    refine ah.mk (fun h5=>?_) (fun h5=>?_)
    ·rw [al] at h5
     have h5' : iEq (.ofNat (aD t).2.length) (d.fixed + aZ d x)=false:=by simpa using h5
     exact⟨_,rfl,oQ (by unfold dq;rw [NU,h5'];rfl) _⟩
    ·rw [al] at h5
     have h5' : iEq (.ofNat (aD t).2.length) (d.fixed + aZ d x)=true:=by simpa using h5
     have hfl:fx≤(aD t).2.length:=by
      have:=hpi x (aMg hx)
      unfold aZ at h5'
      rw [hfx,bp,decide_eq_true_eq] at h5'
      simp only [aOn] at h5'
      omega
     have hmb:dq d fx t aa=uU fx (aD t).2 aa:=by
      unfold dq
      rw [NU,h5',hlen,MT,Bool.true_and]
      simp
     obtain⟨c2,b2,hsl⟩:=qe (LT:=23) (c:=true) (tok:=av false) (m:=fx) rfl hfl
     rw [← hfx] at hsl
     refine ab.mk _ hsl ?_
     have Gu:uU fx (aD t).2 aa=(List.range fx).all fun i=>match (aD t).2[i]? with | some x=>iEq x.k 2 && iEq x.n (aa - 1 - .ofNat i) | none=>false:=rfl
     have htl:((aD t).2.take fx).length=fx:=by rw [List.length_take];omega
     refine aB.loop 88 (σ:=Option Tm) fx (fun i o=>{ nt:=88,tmps:=[(0,cQ d sz tok rows),(2,.int .i64 aa),(6,.int .i64 (.ofNat j)),(9,.list (au true (aD t).2) (av false) 0 (ae (aD t).2)),(60,.list (au c2 ((aD t).2.take fx)) (av b2) 0 (ae ((aD t).2.take fx))),(61,.int .i64 (.ofNat (aG (ae ((aD t).2.take fx))))),(62,.int .i64 (.ofNat i))],locs:=(4,aC t)::(8,aC (aD t).1)::QJ 11 o,fix:=[] }) (fun _ _=>St.empty)
      (fun i _=>dq d fx t aa=((List.range fx).drop i).all fun i=>match (aD t).2[i]? with | some x=>iEq x.k 2 && iEq x.n (aa - 1 - .ofNat i) | none=>false) none (by omega) (by rw [hmb,Gu];rfl) ?_ ?_
     ·intro i o hi hv
      obtain⟨y,hy⟩ : ∃y,(aD t).2[i]?=some y:=⟨_,aGe (by omega)⟩
      have hy' : ((aD t).2.take fx)[i]?=some y:=by rw [List.getElem?_take_of_lt hi];exact hy
      rw [MS hi hy] at hv
      rcases o with _ | y0
      all_goals
       refine ah.yes (gE (by omega)) ?_
       refine ab.mk _ (bJ hy') ?_
       refine ah.mk (fun h6=>?_) (fun h6=>?_)
       ·have h6' : iEq y.k 2=false:=by simpa using h6
        rw [h6'] at hv
        exact⟨_,rfl,oQ hv _⟩
       ·have h6' : iEq y.k 2=true:=by simpa using h6
        rw [h6'] at hv
        refine ab.mk _ (pT (by unfold Bd at hr;omega) (by unfold Bd at hr;omega)) ?_
        refine ab.mk _ (pT (b:=.ofNat i) (by unfold Bd at hr;simp only [aOn];omega) (by unfold Bd at hr;simp only [aOn];omega)) ?_
        refine ah.mk (fun h7=>?_) (fun h7=>?_)
        ·have h7' : iEq y.n (aa - 1 - .ofNat i)=false:=by simpa using h7
         rw [h7'] at hv
         exact⟨_,rfl,oQ hv _⟩
        ·have h7' : iEq y.n (aa - 1 - .ofNat i)=true:=by simpa using h7
         rw [h7'] at hv
         refine ab.mk _ (az (by omega)) ?_
         exact⟨some y,hv,rfl,rfl⟩
     ·intro o hv
      rw [List.drop_of_length_le (by simp)] at hv
      have hmt:dq d fx t aa=true:=hv
      obtain⟨c',aP,ht',hs⟩:=oi (LT:=23) (c:=true) (tok:=av false) (m:=fx) rfl hfl
      rw [← hfx] at hs
      obtain⟨b,rfl⟩:=qC ht'
      have hmr:cD d fx t aa=(.ofNat j,(aD t).2.drop fx):=by unfold cD;rw [hmt,hq]
      rw [hmr]
      rcases o with _ | y0
      all_goals
       refine ah.no (gG (by omega)) ?_
       refine ab.mk _ hs ?_
       exact⟨_,rfl,c',b,_,rfl⟩
   ·have hf' : decide ((aD t).1.ls=eW p)=false:=h4
    have:dq d fx t aa=false:=by
     unfold dq kI
     rw [h3',hw]
     simp only [hx,Bool.true_and]
     by_cases hlen:(aD t).1.ls.length=p
     ·rw [show decide ((aD t).1.ls=eW (aD t).1.ls.length)=false by rw [hlen];exact hf']
      simp
     ·rw [hpp,show iEq (.ofNat (aD t).1.ls.length) (.ofNat p)=false by rw [gH];simpa using hlen]
      simp
    exact⟨_,rfl,oQ this _⟩
 obtain⟨q,k2,c,e,S',rfl⟩:=h
 exact⟨c,e,bG k2 (by simp only [ek,br,bx,aq]) rfl rfl rfl rfl (by
  show V.tuple [_,aj (.list _ (av e) 0 _)]=_
  rw [gQ]
  rfl)⟩
end
section
variable {n:Nat} {d:Dl} {F:List Tm} {c0 e0:Bool} {S:St} {fx p W:Nat}
theorem QR {l:List Tm} {c:Bool} {tok:Tok} (hfx:d.fixed=.ofNat fx) (hf:fx≤100) (hl:l.length < 1000000) (hFl:F.length < 1000000) (hml:∀y∈l,cM y=true∧wt y≤W) (hmF:∀y∈F,cM y=true∧wt y≤W) (hn:3 * W + 300≤n) :
 RN n (.f 153) [cQ d (au c0 F) (av e0) (ae F),.list (au c l) tok 0 (ae l)] S=some (.bool (tn fx F l),S):=by
 obtain⟨b,hb⟩:=fL tok
 obtain⟨q,rfl⟩:=up (show 1≤n by omega)
 rw [mX (nA:=[cQ d (au c0 F) (av e0) (ae F),.list (au c l) (av b) 0 (ae l)]) rfl rfl rfl (by simp only [ek,dp,gv hb,aq])]
 exact Tu hfx hf hl hFl hml hmF hn
theorem Ir {sz:Nat} {tk:Tok} {rows:List V} {xs:List Tm} {c:Bool} {tok:Tok} {w:Nat} (hd:d.ai.length≤100) (hl:xs.length < 1000000000) (hw:∀y∈xs,wt y≤w) (hww:w < 1000000000) (hn:3 * w + xs.length + 200≤n) :
 RN n (.f 117) [cQ d sz tk rows,.list (au c xs) tok 0 (ae xs)] S=some (.bool (fT d.ai xs),S):=by
 obtain⟨b,hb⟩:=fL tok
 obtain⟨q,rfl⟩:=up (show 1≤n by omega)
 rw [mX (nA:=[cQ d sz tk rows,.list (au c xs) (av b) 0 (ae xs)]) rfl rfl rfl (by simp only [ek,dp,gv hb,aq])]
 exact Tk hd hl hw hww hn
noncomputable def kW (d:Dl) (fx:Nat) (F:List Tm) (x:In):Bool:=iEq (ak x.ty).2.k 1 && (tn fx F (ak x.ty).1 && !fT d.ai (ak x.ty).1)
noncomputable def iO (d:Dl) (fx:Nat) (F:List Tm) (at_:Nat) (t:Tm):Bool:=tn fx F (ak t).1 && iEq (cD d fx (ak t).2 (.ofNat (ak t).1.length)).1 (.ofNat at_)
theorem xZ {l:List Tm}:tn fx F l=(!iLt (.ofNat l.length) (.ofNat fx) && (!iLt 12 (.ofNat l.length - .ofNat fx) && (!iLt (.ofNat F.length) (.ofNat fx) && oh fx F l))):=by
 unfold tn
 cases h1:iLt (.ofNat l.length) (.ofNat fx) with
 | true=>rfl
 | false=>
  cases h2:iLt (.ofNat F.length) (.ofNat fx) with
  | true=>rfl
  | false=>
   rw [cb,decide_eq_false_iff_not] at h1 h2
   simp only [aOn] at h1 h2
   rw [Iq (by omega) (by omega)]
theorem DJ {x0 x:In} (hfx:d.fixed=.ofNat fx):kW d fx (ak x0.ty).1 x=nB d fx x0 x:=by
 unfold kW nB
 rw [xZ,hfx]
 have e:∀a b c e f g:Bool,(a && ((b && (c && (e && f))) && g))=(a && (b && (c && (e && (g && f))))):=by decide
 exact e _ _ _ _ _ _
theorem Kq {x0:In} {at_:Nat} {t:Tm} (hfx:d.fixed=.ofNat fx) (h0:fx≤(ak x0.ty).1.length):iO d fx (ak x0.ty).1 at_ t=mg d fx x0 at_ t:=by
 unfold iO mg
 rw [xZ,hfx]
 have h:iLt (.ofNat (ak x0.ty).1.length) (.ofNat fx)=false:=by
  rw [cb,decide_eq_false_iff_not]
  simp only [aOn];omega
 rw [h]
 have e:∀a b f g:Bool,((a && (b && (!false && f))) && g)=(a && (b && (f && g))):=by decide
 exact e _ _ _ _
theorem Tv {x:In} (hd:pW d W) (hfx:d.fixed=.ofNat fx) (hf:fx≤100) (hFl:F.length < 1000000) (hmF:∀y∈F,cM y=true∧wt y≤4000000) (hx:cM x.ty=true) (hl:(ak x.ty).1.length < 1000000) (hn:12100000 + 3000000≤n) :
 RN n (.f 114) [cQ d (au c0 F) (av e0) (ae F),encI x] S=some (.bool (kW d fx F x),S):=by
 obtain⟨q,rfl⟩:=up (show 1≤n by omega)
 have iB:=hd.few
 have hxa:=cH hx
 have hxw:=fv hx
 obtain⟨m1,m2⟩:=oB _ x.ty (Nat.le_refl _) hx
 obtain⟨p1,p2,p3⟩:=fK _ x.ty (Nat.le_refl _) hxa
 obtain⟨q0,k1,T1,tk,rfl,hg⟩:=h56 (n:=q) (x:=x.ty) (H:=[]) (T:=[]) hxa (by omega) (by omega)
 have h:∃r,frame Tryz.cfg (RN q) q 114 [cQ d (au c0 F) (av e0) (ae F),encI x] St.empty=some r∧∃S',r=(.bool (kW d fx F x),S'):=by
  refine aV (fn:=Tryz.f114) (p:=fun r=>∃S',r=(.bool (kW d fx F x),S')) rfl rfl ?_
  unfold kW
  refine ag.mk _ _ k1 ?_
  refine ah.mk (fun c1=>?_) (fun c1=>?_)
  ·rw [c1]
   refine ag.mkB (QR (W:=4000000) hfx hf hl hFl (fun y hy=>⟨m2 y hy,by have:=(p3 y hy).2;omega⟩) hmF (by omega)) (fun c2=>?_) (fun c2=>?_)
   ·rw [c2]
    refine ag.mkB (Ir (w:=4000000) (by omega) (by omega) (fun y hy=>by have:=(p3 y hy).2;omega) (by omega) (by omega)) (fun c3=>?_) (fun c3=>?_)
    ·rw [c3];exact⟨_,rfl,_,rfl⟩
    ·rw [c3];exact⟨_,rfl,_,rfl⟩
   ·rw [c2];exact⟨_,rfl,_,rfl⟩
  ·rw [c1];exact⟨_,rfl,_,rfl⟩
 obtain⟨r,k6,S',rfl⟩:=h
 exact xR k6 (by simp only [ek,xW,aq]) rfl rfl rfl rfl rfl
theorem Tw {c:Ct} {j:Nat} (hd:pW d 4000000) (hpi:∀i∈d.ai,fx≤(ak i.ty).1.length) (hfx:d.fixed=.ofNat fx) (hpp:d.params=.ofNat p) (hf:fx≤100) (hp:p≤100) (hFl:F.length < 1000000) (hmF:∀y∈F,cM y=true∧wt y≤4000000) (hx:cM c.ty=true) (hl:(ak c.ty).1.length < 1000000) (hn:12100000 + 3000000≤n) :
 RN n (.f 115) [cQ d (au c0 F) (av e0) (ae F),.int .i64 (.ofNat j),fw c] S=some (.bool (iO d fx F j c.ty),S):=by
 obtain⟨q,rfl⟩:=up (show 1≤n by omega)
 have iB:=hd.few
 have hxa:=cH hx
 have hxw:=fv hx
 obtain⟨m1,m2⟩:=oB _ c.ty (Nat.le_refl _) hx
 obtain⟨p1,p2,p3⟩:=fK _ c.ty (Nat.le_refl _) hxa
 obtain⟨q0,k1,T1,tk,rfl,hg⟩:=h56 (n:=q) (x:=c.ty) (H:=[]) (T:=[]) hxa (by omega) (by omega)
 obtain⟨cc,ce,k2⟩:=Pu (n:=q) (sz:=au c0 F) (tok:=av e0) (rows:=ae F) (S:={ heap:=[],aA:=T1 }) (t:=(ak c.ty).2) (aa:=.ofNat (ak c.ty).1.length) hd hpi m1 (by omega) hfx hpp hf hp (bdN (by omega)) (by omega)
 have h:∃r,frame Tryz.cfg (RN q) q 115 [cQ d (au c0 F) (av e0) (ae F),.int .i64 (.ofNat j),fw c] St.empty=some r∧∃S',r=(.bool (iO d fx F j c.ty),S'):=by
  refine aV (fn:=Tryz.f115) (p:=fun r=>∃S',r=(.bool (iO d fx F j c.ty),S')) rfl rfl ?_
  unfold iO
  refine ag.mk _ _ k1 ?_
  refine ag.mkB (QR (W:=4000000) hfx hf hl hFl (fun y hy=>⟨m2 y hy,by have:=(p3 y hy).2;omega⟩) hmF (by omega)) (fun c2=>?_) (fun c2=>?_)
  ·rw [c2]
   refine ag.mk _ _ (by rw [al];exact k2) ?_
   refine ah.mk (fun c3=>?_) (fun c3=>?_)
   ·rw [c3];exact⟨_,rfl,_,rfl⟩
   ·rw [c3];exact⟨_,rfl,_,rfl⟩
  ·rw [c2];exact⟨_,rfl,_,rfl⟩
 obtain⟨r,k6,S',rfl⟩:=h
 exact xR k6 (by simp only [ek,bx,tg,aq]) rfl rfl rfl rfl rfl
end
section
variable {n:Nat} {d:Dl} {sz:Nat} {tok:Tok} {rows:List V} {S:St} {fx p W:Nat}
theorem Tx {t:Tm} {aa:Int} (hd:pW d 4000000) (hpi:∀i∈d.ai,fx≤(ak i.ty).1.length) (ht:cM t=true) (hfx:d.fixed=.ofNat fx) (hpp:d.params=.ofNat p) (hf:fx≤100) (hp:p≤100) (hr : -100000000000≤aa∧aa≤100000000000) (hn:20000000≤n) :
 RN n (.f 118) [cQ d sz tok rows,aH t,.int .i64 aa] S=some (.tuple [dh (cn d fx t aa).1,.bool (cn d fx t aa).2],S):=by
 obtain⟨q,rfl⟩:=up (show 1≤n by omega)
 have iB:=hd.few
 have hxa:=cH ht
 have hxw:=fv ht
 obtain⟨m1,m2⟩:=oB _ t (Nat.le_refl _) ht
 obtain⟨p1,p2,p3⟩:=fK _ t (Nat.le_refl _) hxa
 obtain⟨q0,k1,T1,tk,rfl,hg⟩:=h56 (n:=q) (x:=t) (H:=[]) (T:=[]) hxa (by omega) (by omega)
 obtain⟨cc,ce,k2⟩:=Pu (n:=q) (sz:=sz) (tok:=tok) (rows:=rows) (S:={ heap:=[],aA:=T1 }) (t:=(ak t).2) (aa:=aa + .ofNat (ak t).1.length) hd hpi m1 (by omega) hfx hpp hf hp (by unfold Bd;simp only [aOn];omega) (by omega)
 have hmm:=pX (d:=d) (fx:=fx) (aa:=aa + .ofNat (ak t).1.length) p2
 have hml:=sU (d:=d) (fx:=fx) (aa:=aa + .ofNat (ak t).1.length) p2
 have h:∃r,frame Tryz.cfg (RN q) q 118 [cQ d sz tok rows,aH t,.int .i64 aa] St.empty=some r∧∃S',r=(.tuple [dh (cn d fx t aa).1,.bool (cn d fx t aa).2],S'):=by
  refine aV (fn:=Tryz.f118) (p:=fun r=>∃S',r=(.tuple [dh (cn d fx t aa).1,.bool (cn d fx t aa).2],S')) rfl rfl ?_
  have e1:iLt (cD d fx (ak t).2 (aa + .ofNat (ak t).1.length)).1 0=true→cn d fx t aa=((-1,0),!jz d.ai t):=fun h=>by unfold cn;simp only [h]
  have e2:iLt (cD d fx (ak t).2 (aa + .ofNat (ak t).1.length)).1 0=false→cn d fx t aa=(((cD d fx (ak t).2 (aa + .ofNat (ak t).1.length)).1,.ofNat (ak t).1.length),!fT d.ai (ak t).1 && !fT d.ai (cD d fx (ak t).2 (aa + .ofNat (ak t).1.length)).2):=fun h=>by unfold cn;simp only [h]
  refine ag.mk _ _ k1 ?_
  refine ab.mk (.int .i64 (aa + .ofNat (ak t).1.length)) (by rw [al];exact MA (by simp only [aOn];omega) (by simp only [aOn];omega)) ?_
  refine ag.mk _ _ k2 ?_
  refine ah.mk (fun c1=>?_) (fun c1=>?_)
  ·rw [e1 c1]
   have hs1:fT d.ai [t]=jz d.ai t:=by unfold fT;simp
   refine ab.mk _ (bs1 t 23 _ _ _ rfl) ?_
   have hm:=Ir (n:=q) (d:=d) (sz:=sz) (tk:=tok) (rows:=rows) (S:={ heap:=[],aA:=T1 }) (xs:=[t]) (c:=false) (tok:=.tight) (w:=4000000) (by omega) (by simp) (fun y hy=>by rw [List.mem_singleton.1 hy];omega) (by omega) (by simp;omega)
   rw [hs1] at hm
   refine ag.mkB hm (fun c2=>?_) (fun c2=>?_)
   ·rw [c2];exact⟨_,rfl,_,rfl⟩
   ·rw [c2];exact⟨_,rfl,_,rfl⟩
  ·rw [e2 c1]
   refine ag.mkB (Ir (w:=4000000) (by omega) (by omega) (fun y hy=>by have:=(p3 y hy).2;omega) (by omega) (by omega)) (fun c2=>?_) (fun c2=>?_)
   ·rw [c2,al];exact⟨_,rfl,_,rfl⟩
   ·rw [c2]
    refine ag.mkB (Ir (w:=4000000) (by omega) (by omega) (fun y hy=>by have:=(hmm y hy).2;omega) (by omega) (by omega)) (fun c3=>?_) (fun c3=>?_)
    ·rw [c3,al];exact⟨_,rfl,_,rfl⟩
    ·rw [c3,al];exact⟨_,rfl,_,rfl⟩
 obtain⟨r,k6,S',rfl⟩:=h
 exact bG k6 (by simp only [ek,br,bx,aq]) rfl rfl rfl rfl rfl
noncomputable def MU:Option (List (Int×Int))→V
 | some fs=>.tuple [rh fs,.bool true]
 | none=>.tuple [.list 0 .tight 0 [],.bool false]
theorem Ty (f:Int×Int):buildSlice Tryz.cfg 113 1 [(0,dh f)]=some (.list 2 .tight 0 [dh f]):=rfl
noncomputable def vb (d:Dl) (fx:Nat) (q:Tm×Nat):Option (Int×Int):=match cn d fx q.1 (.ofNat q.2) with | (f,true)=>some f | (_,false)=>none
theorem Fy (d:Dl) (fx:Nat) (l:List Tm):iE d fx l=bP (vb d fx) ((l.drop fx).zipIdx fx):=rfl
@[reducible] noncomputable def QS (c:Ct) (t:Tm) (o:Option (Tm×(Int×Int))):List (Nat×List V):=(3,mb c)::(7,aC t)::(match o with | none=>[] | some (y,f)=>[(11,aC y),(12,[.int .i64 f.1,.int .i64 f.2])])
def FsQ (o:Option (List (Int×Int))) (r:V×St):Prop:=∃(fs:List (Int×Int)) (tk:Tok) (T:List Nat) (S' : St),(r=(.tuple [.list 0 .tight 0 [],.bool false],S')∧o=none)∨(r=(.tuple [.list (szG 2 (fs.map dh)) tk 0 (fs.map dh),.bool true],S')∧o=some fs∧aw [] T (fs.map dh) tk)
theorem h58 {c:Ct} (hd:pW d 4000000) (hpi:∀i∈d.ai,fx≤(ak i.ty).1.length) (ht:cM c.ty=true) (hfl:fx≤(ak c.ty).1.length) (hfx:d.fixed=.ofNat fx) (hpp:d.params=.ofNat p) (hf:fx≤100) (hp:p≤100) (hn:30000000≤n) :
 RN n (.f 58) [cQ d sz tok rows,fw c] S=some (MU (b9 d fx c.ty),S):=by
 obtain⟨q,rfl⟩:=up (show 1≤n by omega)
 have iB:=hd.few
 have hxa:=cH ht
 have hxw:=fv ht
 obtain⟨m1,m2⟩:=oB _ c.ty (Nat.le_refl _) ht
 obtain⟨p1,p2,p3⟩:=fK _ c.ty (Nat.le_refl _) hxa
 obtain⟨q0,k1,T1,tk,rfl,hg⟩:=h56 (n:=q) (x:=c.ty) (H:=[]) (T:=[]) hxa (by omega) (by omega)
 obtain⟨cc,ce,k2⟩:=Pu (n:=q) (sz:=sz) (tok:=tok) (rows:=rows) (S:={ heap:=[],aA:=T1 }) (t:=(ak c.ty).2) (aa:=.ofNat (ak c.ty).1.length) hd hpi m1 (by omega) hfx hpp hf hp (bdN (by omega)) (by omega)
 have hmm:=pX (d:=d) (fx:=fx) (aa:=.ofNat (ak c.ty).1.length) p2
 have hml:=sU (d:=d) (fx:=fx) (aa:=.ofNat (ak c.ty).1.length) p2
 obtain⟨c4,tk4,hsl⟩:=oo (LT:=23) (c:=false) (tok:=tk) (m:=fx) rfl hfl
 obtain⟨c5,tk5,ht5,hsd⟩:=oi (LT:=23) (c:=false) (tok:=tk) (m:=fx) rfl hfl
 rw [← hfx] at hsl hsd
 have h:∃r,frame Tryz.cfg (RN q) q 58 [cQ d sz tok rows,fw c] St.empty=some r∧FsQ (b9 d fx c.ty) r:=by
  refine aV (fn:=Tryz.f58) (p:=FsQ (b9 d fx c.ty)) rfl rfl ?_
  have oQ:(fT d.ai (cD d fx (ak c.ty).2 (.ofNat (ak c.ty).1.length)).2 || fT d.ai ((ak c.ty).1.take fx))=true→b9 d fx c.ty=none:=fun h=>by
   unfold b9
   cases iE d fx (ak c.ty).1 with
   | none=>rfl
   | some fs=>simp only [h]
  refine ag.mk _ _ k1 ?_
  refine ag.mk _ _ (by rw [al];exact k2) ?_
  refine ag.mkB (Ir (w:=4000000) (by omega) (by omega) (fun y hy=>by have:=(hmm y hy).2;omega) (by omega) (by omega)) (fun c1=>?_) (fun c1=>?_)
  ·exact⟨_,rfl,[],.no,[],_,.inl ⟨rfl,oQ (by rw [c1];rfl)⟩⟩
  refine ab.mk _ hsl ?_
  refine ag.mkB (Ir (w:=4000000) (by omega) (by rw [List.length_take];omega) (fun y hy=>by have:=(p3 y (List.mem_of_mem_take hy)).2;omega) (by omega) (by rw [List.length_take];omega)) (fun c2=>?_) (fun c2=>?_)
  ·exact⟨_,rfl,[],.no,[],_,.inl ⟨rfl,oQ (by rw [c2];simp)⟩⟩
  refine ab.mk _ hsd ?_
  have hdl:((ak c.ty).1.drop fx).length=(ak c.ty).1.length - fx:=List.length_drop
  have hfr:b9 d fx c.ty=bP (vb d fx) (((ak c.ty).1.drop fx).zipIdx fx):=by
   unfold b9
   rw [Fy]
   cases bP (vb d fx) (((ak c.ty).1.drop fx).zipIdx fx) with
   | none=>rfl
   | some fs=>simp only [c1,c2];rfl
  refine aB.loop 76 (σ:=Option (Tm×(Int×Int))×List (Int×Int)×Tok×List Nat) ((ak c.ty).1.drop fx).length (fun i s=>{ nt:=76,tmps:=[(0,cQ d sz tok rows),(4,.list (szG 2 (s.2.1.map dh)) s.2.2.1 0 (s.2.1.map dh)),(48,.list (au c5 ((ak c.ty).1.drop fx)) tk5 0 (ae ((ak c.ty).1.drop fx))),(49,.int .i64 (.ofNat (aG (ae ((ak c.ty).1.drop fx))))),(50,.int .i64 (.ofNat i))],locs:=QS c (ak c.ty).2 s.1,fix:=[] })
   (fun _ s=>{ heap:=[],aA:=s.2.2.2 }) (fun i s=>bP (vb d fx) ((((ak c.ty).1.drop fx).zipIdx fx).take i)=some s.2.1∧aw [] s.2.2.2 (s.2.1.map dh) s.2.2.1) (none,[],.tight,T1) (by omega) ⟨rfl,⟨Dz T1,.inl ⟨rfl,rfl⟩⟩⟩ ?_ ?_
  ·rintro i ⟨o,fs,tk6,T6⟩ hi ⟨(hfs:_=some fs),(hg6:aw [] T6 (fs.map dh) tk6)⟩
   obtain⟨y,hy⟩ : ∃y,((ak c.ty).1.drop fx)[i]?=some y:=⟨_,aGe hi⟩
   have hz:(((ak c.ty).1.drop fx).zipIdx fx)[i]?=some (y,fx + i):=by rw [List.getElem?_zipIdx,hy];simp
   have hym:=m2 y (List.mem_of_mem_drop (aMg hy))
   have Tz:=ev hfs
   rw [List.length_take,List.length_zipIdx] at Tz
   have G5:=Tx (n:=q) (sz:=sz) (tok:=tok) (rows:=rows) (S:={ heap:=[],aA:=T6 }) (t:=y) (aa:=.ofNat (fx + i)) hd hpi hym hfx hpp hf hp (by simp only [aOn];omega) (by omega)
   obtain⟨T7,tk7,a1,a2⟩:=dP (LT:=113) (ET:=154) (ei:=Tryz.ti154) (H:=[]) (T0:=[]) (T:=T6) (done:=fs.map dh) (new:=[dh (cn d fx y (.ofNat (fx + i))).1]) (tok:=tk6) (bH:=.tight) (sz2:=2) rfl rfl (by decide) (by decide) (by simp;omega) hg6 (.inr rfl)
   have ee:fs.map dh++[dh (cn d fx y (.ofNat (fx + i))).1]=(fs++[(cn d fx y (.ofNat (fx + i))).1]).map dh:=by simp
   rw [ee] at a1 a2
   cases hb:(cn d fx y (.ofNat (fx + i))).2 with
   | true=>
    have hst:vb d fx (y,fx + i)=some (cn d fx y (.ofNat (fx + i))).1:=by
     unfold vb
     simp only
     rw [← Prod.eta (cn d fx y (.ofNat (fx + i))),hb]
    rw [hb] at G5
    rcases o with _ | ⟨y0,f0⟩
    all_goals
     refine ah.yes (gE hi) ?_
     refine ab.mk _ (bJ hy) ?_
     refine ab.mk (.int .i64 (.ofNat (fx + i))) (by rw [hfx];exact addNat (by omega)) ?_
     refine ag.mk _ _ G5 ?_
     refine ab.mk _ (Ty _) ?_
     refine cN.mk _ _ (a1 _ _ rfl) ?_
     refine ab.mk _ (az (by omega)) ?_
     exact⟨(some (y,(cn d fx y (.ofNat (fx + i))).1),_,tk7,T7),⟨fz hz hfs hst,a2⟩,rfl,rfl⟩
   | false=>
    have hst:vb d fx (y,fx + i)=none:=by
     unfold vb
     simp only
     rw [← Prod.eta (cn d fx y (.ofNat (fx + i))),hb]
    rw [hb] at G5
    rcases o with _ | ⟨y0,f0⟩
    all_goals
     refine ah.yes (gE hi) ?_
     refine ab.mk _ (bJ hy) ?_
     refine ab.mk (.int .i64 (.ofNat (fx + i))) (by rw [hfx];exact addNat (by omega)) ?_
     refine ag.mk _ _ G5 ?_
     exact⟨_,rfl,[],.no,[],_,.inl ⟨rfl,by rw [hfr];exact gT hz hst⟩⟩
  ·rintro⟨o,fs,tk6,T6⟩ ⟨(hfs:_=some fs),(hg6:aw [] T6 (fs.map dh) tk6)⟩
   rw [List.take_of_length_le (by simp)] at hfs
   rcases o with _ | ⟨y0,f0⟩
   all_goals
    refine ah.no (gG (by omega)) ?_
    exact⟨_,rfl,fs,tk6,T6,_,.inr ⟨rfl,by rw [hfr];exact hfs,hg6⟩⟩
 obtain⟨r,k6,fs,tk6,T6,S',⟨rfl,hr⟩ | ⟨rfl,hr,hg6⟩⟩:=h
 ·rw [hr]
  exact bG k6 (by simp only [ek,tg,aq]) rfl rfl rfl rfl rfl
 ·rw [hr]
  refine bG k6 (by simp only [ek,tg,aq]) rfl rfl rfl rfl ?_
  show V.tuple [aj (.list (szG 2 _) tk6 0 _),_]=_
  rw [gS hg6]
  rfl
end
theorem tq {id n k ty:Nat} {rest:List V} {S S' : St} {cs cs' : List V} {v:V} (hid:bW id=true) (hk:nth S.heap k=some (.cells ty cs)) (hcs:isZero (aF cs)=true) (hst:bg aj cs=cs') (jG:isZero (aJ rest)=true) (hrs:bg V.strip rest=rest)
 (h:RN n (.f id) (.imm 0 cs'::rest) St.empty=some (v,S')) (hf:rl v=true):RN n (.f id) (.ptr (.box k) 0::rest) S=some (v,S):=by
 have h2:cp cW (bT cO n (fD Tryz.cfg cO cW bW n)) (.f id) (.imm 0 cs'::rest) St.empty=some (v,S'):=by
  have h3:(match bW id with
   | true=>cp cW (bT cO n (fD Tryz.cfg cO cW bW n)) (.f id) (.imm 0 cs'::rest) St.empty
   | false=>cp cW (bT cO n (fD Tryz.cfg cO cW bW n)) (.f id) (.imm 0 cs'::rest) St.empty)=some (v,S'):=h
  rw [hid] at h3
  exact h3
 show (match bW id with
  | true=>readOnly (cp cW (bT cO n (fD Tryz.cfg cO cW bW n))) id (.ptr (.box k) 0::rest) S
  | false=>cp cW (bT cO n (fD Tryz.cfg cO cW bW n)) (.f id) (.ptr (.box k) 0::rest) S)=_
 rw [hid]
 show readOnly (cp cW (bT cO n (fD Tryz.cfg cO cW bW n))) id (.ptr (.box k) 0::rest) S=_
 unfold readOnly
 simp only [jG,hk,hcs,cond_true,hst,hrs,h2,hf]
theorem vc (z:Nat) (tok:Tok) (rows:List V):aj (.list z tok 0 rows)=.list z (eN tok) 0 rows:=by cases tok<;>rfl
theorem lz (d:Dl) (sz:Nat) (tok:Tok) (rows:List V):bg aj (cV d sz tok rows)=cV d sz (eN tok) rows:=by
 show [_,_,_,_,_,_,aj (.list _ (av d.ty.b) 0 _),aj (.list _ (av d.ty.d) 0 _),_,_,_,aj (.list _ (av d.val.b) 0 _),aj (.list _ (av d.val.d) 0 _),_,_,aj (.list sz tok 0 rows)]=_
 rw [eS,eS,eS,eS,vc sz tok rows]
 rfl
noncomputable def oM (d:Dl) (fx:Nat) (F:List Tm):Bool:=d.ai.all (kW d fx F) && (fO d.ai).all fun q=>iO d fx F q.1 q.2.ty
section
variable {n:Nat} {d:Dl} {S:St} {fx p W:Nat}
@[reducible] noncomputable def NV (b:Bool) (o:Option In):List (Nat×List V):=(1,[.ptr (.box 0) 0])::(2,[.bool b])::(match o with | none=>[] | some x=>[(4,eP x)])
noncomputable def mN (b:Bool) (o:Option In) (st:RSt) (pe:Option Ex):dj:={ fid:=55,nt:=46,tmps:=[(1,.ptr (.loc 1) 0),(2,.ptr (.loc 2) 0),(38,.fn 149 2 [] [.ptr (.box 1) 0])],locs:=NV b o,params:=[39,40],assign:=l6 Tryz.f55,body:=l7 Tryz.f55,st:=st,iX:=pe }
noncomputable def Kr (d:Dl) (F:List Tm) (tk:Tok) (b:Bool) (o:Option In) (st:RSt) (pe:Option Ex) (T:List Nat):St:={ heap:=[.cells 108 (cV d (au false F) tk (ae F)),.cells 106 [.ptr (.box 0) 0],.loop (mN b o st pe)],aA:=T }
theorem G6 {c:Blk} {T:List Nat} (hn:1≤n):RN n (.f 107) [.ptr (.box 0) 0] { heap:=[c],aA:=T }=some (.fn 149 2 [] [.ptr (.box 1) 0],{ heap:=[c,.cells 106 [.ptr (.box 0) 0]],aA:=T }):=by
 obtain⟨q,rfl⟩:=up hn
 refine bC rfl ?_
 kernel_rfl
theorem MV (hd:pW d 4000000) (hnm:vl d) (h0:d.ai[0]?=some (in0 d)) (Fz:∀i∈d.ai,cM i.ty=true∧∀c∈i.cs,cM c.ty=true) (hlen:∀i∈d.ai,(ak i.ty).1.length < 1000000∧∀c∈i.cs,(ak c.ty).1.length < 1000000)
 (hfx:d.fixed=.ofNat fx) (hpp:d.params=.ofNat p) (hf:fx≤100) (hp:p≤100) (hn:30000000≤n) :
 ∃r,frame Tryz.cfg (RN n) n 55 [.ptr (.box 0) 0] { heap:=[.cells 108 (cV d 0 .tight [])],aA:=[] }=some r∧∃S' tk,r=(.bool (oM d fx (ak (in0 d).ty).1),S')∧nth S'.heap 0=some (.cells 108 (cV d (au false (ak (in0 d).ty).1) tk (ae (ak (in0 d).ty).1))):=by
 have iB:=hd.few
 obtain⟨i1,i2⟩:=Fz (in0 d) (aMg h0)
 obtain⟨l1,l2⟩:=hlen (in0 d) (aMg h0)
 have hxa:=cH i1
 have hxw:=fv i1
 obtain⟨m1,m2⟩:=oB _ (in0 d).ty (Nat.le_refl _) i1
 obtain⟨p1,p2,p3⟩:=fK _ (in0 d).ty (Nat.le_refl _) hxa
 obtain⟨q0,k1,T1,tk,rfl,hg⟩:=h56 (n:=n) (x:=(in0 d).ty) (H:=[.cells 108 (cV d 0 .tight [])]) (T:=[]) hxa (by omega) (by omega)
 generalize hF:(ak (in0 d).ty).1=F at *
 have hmF:∀y∈F,cM y=true∧wt y≤4000000:=fun y hy=>⟨m2 y hy,by have:=(p3 y hy).2;omega⟩
 obtain⟨tb,htb⟩:=fL tk
 have hty:∀(x:In) (S:St) ,x∈d.ai→nth S.heap 0=some (.cells 108 (cV d (au false F) tk (ae F)))→RN n (.f 114) [.ptr (.box 0) 0,encI x] S=some (.bool (kW d fx F x),S):=fun x S hx hk=>
  tq (S':=St.empty) (cs':=cV d (au false F) (av tb) (ae F)) rfl hk rfl (by rw [lz,htb]) rfl (by simp only [xW,aq]) (Tv hd hfx hf (by omega) hmF (Fz x hx).1 (hlen x hx).1 (by omega)) rfl
 have hmk:(∀i∈d.ai,fx≤(ak i.ty).1.length)→∀(m j:Nat) (c:Ct) (S:St),20000000≤m→(∃i∈d.ai,c∈i.cs)→nth S.heap 0=some (.cells 108 (cV d (au false F) tk (ae F)))→RN m (.f 115) [.ptr (.box 0) 0,.int .i64 (.ofNat j),fw c] S=some (.bool (iO d fx F j c.ty),S):=fun hpi m j c S hm ⟨i,hi,hc⟩ hk=>
  tq (S':=St.empty) (cs':=cV d (au false F) (av tb) (ae F)) rfl hk rfl (by rw [lz,htb]) rfl (by simp only [bx,tg,aq]) (Tw hd hpi hfx hpp hf hp (by omega) hmF ((Fz i hi).2 c hc) ((hlen i hi).2 c hc) (by omega)) rfl
 refine aV (fn:=Tryz.f55) (p:=fun r=>∃S' tk,r=(.bool (oM d fx F),S')∧nth S'.heap 0=some (.cells 108 (cV d (au false F) tk (ae F)))) rfl rfl ?_
 refine ab.mk _ (aO h0) ?_
 refine ag.mk _ _ k1 ?_
 have fin:∀(b:Bool) (S' : St) (tk' : Tok),oM d fx F=b→nth S'.heap 0=some (.cells 108 (cV d (au false F) tk' (ae F)))→∃S2 tk2,((.bool b,S'):V×St)=(.bool (oM d fx F),S2)∧nth S2.heap 0=some (.cells 108 (cV d (au false F) tk2 (ae F))):=fun b S' tk' h1 h2=>⟨S',tk',by rw [h1],h2⟩
 refine aB.loop 46 (σ:=Option In) d.ai.length (fun j o=>{ nt:=46,tmps:=[(1,.ptr (.loc 1) 0),(2,.ptr (.loc 2) 0),(26,.list 7 .no 0 (d.ai.map encI)),(27,.int .i64 (.ofNat (aG (d.ai.map encI)))),(28,.int .i64 (.ofNat j))],locs:=NV false o,fix:=[] })
  (fun _ _=>{ heap:=[.cells 108 (cV d (au false F) tk (ae F))],aA:=T1 }) (fun j _=>d.ai.all (kW d fx F)=(d.ai.drop j).all (kW d fx F)) none (by omega) rfl ?_ ?_
 ·intro j o hj hv
  obtain⟨x,hx⟩ : ∃x,d.ai[j]?=some x:=⟨_,aGe hj⟩
  have hxm:=aMg hx
  rw [gg hx] at hv
  have TA:=hty x { heap:=[.cells 108 (cV d (au false F) tk (ae F))],aA:=T1 } hxm rfl
  rcases o with _ | x0
  all_goals
   refine ah.yes (ltM hj) ?_
   refine ab.mk _ (aO hx) ?_
   refine ag.mkB TA (fun c1=>?_) (fun c1=>?_)
   ·rw [c1] at hv
    refine ab.mk _ (az (by omega)) ?_
    exact⟨some x,hv,rfl,rfl⟩
   ·rw [c1] at hv
    exact⟨_,rfl,fin false _ tk (by unfold oM;rw [hv];rfl) rfl⟩
 ·intro o hv
  rw [List.drop_length] at hv
  have cg:d.ai.all (kW d fx F)=true:=hv
  have hpi:∀i∈d.ai,fx≤(ak i.ty).1.length:=fun i hi=>by
   have h9:=List.all_eq_true.1 cg i hi
   rw [← hF,DJ hfx] at h9
   have e:fxN d=fx:=by unfold fxN;rw [hfx];rfl
   rw [← e] at h9 ⊢
   exact (sW h9 (by rw [hfx,e])).1
  obtain⟨q,rfl⟩:=up (show 1≤n by omega)
  obtain⟨q2,rfl⟩:=up (show 1≤q by omega)
  have xS:∀(k:Nat) (y:Nat×Ct),(fO d.ai)[k]?=some y→RN (q2 + 1) (.y 2) [.int .i64 (.ofNat y.1),fw y.2] (Kr d F tk false o .ready none T1)=some (.bool (iO d fx F y.1 y.2.ty),match iO d fx F y.1 y.2.ty with | true=>Kr d F tk false o .ready none T1 | false=>Kr d F tk false o .done (some .ret) T1):=by
   intro k y hk
   obtain⟨i,hi,hc⟩:=th (aMg hk)
   refine fH ?_
   rcases o with _ | x0
   ·have hm:=hmk hpi q2 y.1 y.2 { heap:=[.cells 108 (cV d (au false F) tk (ae F)),.cells 106 [.ptr (.box 0) 0],.loop { mN false none .ready none with st:=.busy,locs:=[] }],aA:=T1 } (by omega) ⟨i,hi,hc⟩ rfl
    refine fj (r:=mN false none .ready none) (nt:=46) (fx:=[1,2]) rfl rfl rfl rfl rfl rfl rfl ?_
    refine ag.mkB hm (fun c1=>?_) (fun c1=>?_)
    ·rw [c1];rfl
    ·rw [c1];rfl
   ·have hm:=hmk hpi q2 y.1 y.2 { heap:=[.cells 108 (cV d (au false F) tk (ae F)),.cells 106 [.ptr (.box 0) 0],.loop { mN false (some x0) .ready none with st:=.busy,locs:=[] }],aA:=T1 } (by omega) ⟨i,hi,hc⟩ rfl
    refine fj (r:=mN false (some x0) .ready none) (nt:=46) (fx:=[1,2,4]) rfl rfl rfl rfl rfl rfl rfl ?_
    refine ag.mkB hm (fun c1=>?_) (fun c1=>?_)
    ·rw [c1];rfl
    ·rw [c1];rfl
  obtain⟨S1,g1,g2⟩:=QH (n:=q2 + 1) (d:=d) (sz:=au false F) (tok:=tk) (rows:=ae F) (b:=2) (B:=[.loop (mN false o .ready none)]) (T:=T1)
   (P:=fun k S=>S=Kr d F tk false o .ready none T1∧((fO d.ai).all fun q=>iO d fx F q.1 q.2.ty)=((fO d.ai).drop k).all fun q=>iO d fx F q.1 q.2.ty)
   (Q:=fun S=>S=Kr d F tk false o .done (some .ret) T1∧((fO d.ai).all fun q=>iO d fx F q.1 q.2.ty)=false) (by omega) (fun i hi=>by have:=hnm.cs i hi;omega) hnm.smD ⟨rfl,rfl⟩ (fun k y S hk ⟨e1,e2⟩=>by
    subst e1
    rw [gg hk] at e2
    have hr:=xS k y hk
    cases hm:iO d fx F y.1 y.2.ty with
    | true=>
     rw [hm] at hr e2
     exact .inl ⟨_,hr,rfl,e2⟩
    | false=>
     rw [hm] at hr e2
     exact .inr ⟨_,hr,rfl,e2⟩)
  rcases g2 with⟨rfl,e2⟩ | ⟨rfl,e2⟩
  ·rw [List.drop_length] at e2
   have TB:((fO d.ai).all fun q=>iO d fx F q.1 q.2.ty)=true:=e2
   have tc:oM d fx F=true:=by unfold oM;rw [cg,TB];rfl
   rcases o with _ | x0
   ·refine ah.no (geM (by omega)) ?_
    refine ag.mk _ _ (G6 (by omega)) ?_
    refine aB.mk _ _ _ (dL (f:=149) (top:=2) (first:=[]) (cap:=[.ptr (.box 1) 0]) (l:=mN false none .ready none) (r:=mN false none .ready none) (v:=.tuple []) (by rfl) (by rfl) g1 (by rfl) (.inl rfl)) ?_
    exact⟨_,rfl,fin true _ tk tc rfl⟩
   ·refine ah.no (geM (by omega)) ?_
    refine ag.mk _ _ (G6 (by omega)) ?_
    refine aB.mk _ _ _ (dL (f:=149) (top:=2) (first:=[]) (cap:=[.ptr (.box 1) 0]) (l:=mN false (some x0) .ready none) (r:=mN false (some x0) .ready none) (v:=.tuple []) (by rfl) (by rfl) g1 (by rfl) (.inl rfl)) ?_
    exact⟨_,rfl,fin true _ tk tc rfl⟩
  ·have tc:oM d fx F=false:=by unfold oM;rw [e2];simp
   rcases o with _ | x0
   ·refine ah.no (geM (by omega)) ?_
    refine ag.mk _ _ (G6 (by omega)) ?_
    refine aB.mk _ _ _ (dL (f:=149) (top:=2) (first:=[]) (cap:=[.ptr (.box 1) 0]) (l:=mN false none .ready none) (r:=mN false none .done (some .ret)) (v:=.tuple []) (by rfl) (by rfl) g1 (by rfl) (.inr rfl)) ?_
    exact⟨_,rfl,fin false _ tk tc rfl⟩
   ·refine ah.no (geM (by omega)) ?_
    refine ag.mk _ _ (G6 (by omega)) ?_
    refine aB.mk _ _ _ (dL (f:=149) (top:=2) (first:=[]) (cap:=[.ptr (.box 1) 0]) (l:=mN false (some x0) .ready none) (r:=mN false (some x0) .done (some .ret)) (v:=.tuple []) (by rfl) (by rfl) g1 (by rfl) (.inr rfl)) ?_
    exact⟨_,rfl,fin false _ tk tc rfl⟩
end
theorem DK (ss:List (List UInt8)):iEq (.ofNat (aG (uI ss))) (.ofNat ss.length)=decide ss.Nodup:=by
 rw [an,gH,Bool.eq_iff_iff,decide_eq_true_eq,decide_eq_true_eq]
 have hp:=nU ss
 have hs:=nV ss
 rw [← hp.length_eq,← hp.nodup_iff]
 unfold uI
 generalize pE ss=zs at *
 constructor
 ·intro h
  unfold Lib.compact Lib.compactUpTo at h
  rw [aLm] at h
  have cg:∀j∈List.range zs.length,Lib.keeps zs.toArray j=true:=by
   rw [← List.length_filter_eq_length_iff,List.length_range]
   exact h
  refine List.pairwise_iff_getElem.2 fun i j hi hj hij e=>?_
  have hk:=cg j (List.mem_range.2 hj)
  unfold Lib.keeps at hk
  rw [decide_eq_true_eq] at hk
  have h1:zs.toArray[j]! = zs[j]:=by rw [getElem!_pos zs.toArray j (by simpa using hj)];simp
  have h2:zs.toArray[j - 1]! = zs[j - 1]:=by rw [getElem!_pos zs.toArray (j - 1) (by simp;omega)];simp
  rw [h1,h2] at hk
  rcases hk with hk | hk
  ·omega
  ·by_cases hq:i=j - 1
   ·subst hq;exact hk e.symm
   ·have a1:=List.pairwise_iff_getElem.1 hs i (j - 1) hi (by omega) (by omega)
    have a2:=List.pairwise_iff_getElem.1 hs (j - 1) j (by omega) hj (by omega)
    unfold l4 at a1 a2
    simp only [decide_eq_true_eq] at a1 a2
    rw [e] at a1
    exact hk (List.le_antisymm a1 a2)
 ·intro h
  rw [Lib.compact_all]
  intro j hj
  unfold Lib.keeps
  rw [decide_eq_true_eq]
  by_cases h0:j=0
  ·exact .inl h0
  ·right
   rw [getElem!_pos zs.toArray j (by simpa using hj),getElem!_pos zs.toArray (j - 1) (by simp;omega)]
   simp only [List.getElem_toArray]
   intro e
   have:=List.pairwise_iff_getElem.1 h (j - 1) j (by omega) hj (by omega)
   exact this e.symm
noncomputable def vo (s:List UInt8):Bool:=!mJ s || iLt 28 (.ofNat (aG s))
theorem G7 (s:List UInt8):vo s = !okN s:=by
 unfold vo okN
 cases mJ s<;>simp
noncomputable def lN (d:Dl):List (List UInt8):=d.ai.map (·.name)++(fO d.ai).map (·.2.name)
noncomputable def rN (d:Dl):List (List UInt8):=d.ai.map fun i=>i.name++cI
noncomputable def oC (d:Dl):Bool:=match (lN d).any vo with
 | true=>false
 | false=>decide (lN d++rN d).Nodup
theorem zN:∀(l:List In) (x0:Nat),(l.flatMap yC).Perm (l.map (·.name)++((l.zipIdx x0).flatMap fun q=>q.1.cs.map fun c=>(q.2,c)).map (·.2.name)++l.map fun i=>i.name++cI)
 | [],x0=>List.Perm.refl _
 | a::l,x0=>by
  rw [List.flatMap_cons,List.zipIdx_cons,List.flatMap_cons,List.map_cons,List.map_cons,List.map_append]
  have ih:=zN l (x0 + 1)
  have e:(List.map (fun x=>x.2.name) (List.map (fun c=>(x0,c)) a.cs))=a.cs.map (·.name):=by rw [List.map_map];rfl
  rw [e]
  unfold yC nmI
  refine List.Perm.trans (List.Perm.append_left _ ih) ?_
  rw [List.perm_iff_count]
  intro s
  simp only [List.count_append,List.count_cons,List.count_nil]
  omega
theorem DL (d:Dl):oC d=mf d:=by
 unfold oC mf
 have h1:(lN d).any vo = !(d.ai.all fun i=>(nmI i).all okN):=by
  rw [Bool.eq_iff_iff]
  constructor
  ·intro h
   obtain⟨s,hs,hb⟩:=List.any_eq_true.1 h
   rw [G7] at hb
   rw [Bool.not_eq_true',← Bool.not_eq_true]
   intro cg
   unfold lN at hs
   rcases List.mem_append.1 hs with hs | hs
   ·obtain⟨i,hi,rfl⟩:=List.mem_map.1 hs
    have:=List.all_eq_true.1 (List.all_eq_true.1 cg i hi) i.name (by unfold nmI;simp)
    rw [this] at hb;cases hb
   ·obtain⟨q,hq,rfl⟩:=List.mem_map.1 hs
    obtain⟨i,hi,hc⟩:=th hq
    have:=List.all_eq_true.1 (List.all_eq_true.1 cg i hi) q.2.name (by unfold nmI;exact aMt _ (List.mem_map.2 ⟨q.2,hc,rfl⟩))
    rw [this] at hb;cases hb
  ·intro h
   rw [Bool.not_eq_true'] at h
   obtain⟨i,hi,h2⟩:=List.all_eq_false.1 h
   have h2' : (nmI i).all okN=false:=by simpa using h2
   obtain⟨s,hs,h3⟩:=List.all_eq_false.1 h2'
   refine List.any_eq_true.2 ⟨s,?_,by rw [G7];simpa using h3⟩
   unfold lN
   unfold nmI at hs
   cases hs with
   | head=>exact List.mem_append_left _ (List.mem_map.2 ⟨i,hi,rfl⟩)
   | tail _ hs=>
    obtain⟨c,hc,rfl⟩:=List.mem_map.1 hs
    obtain⟨j,hj⟩:=List.mem_iff_getElem?.1 hi
    obtain⟨k,hk⟩:=List.mem_iff_getElem?.1 hc
    exact List.mem_append_right _ (List.mem_map.2 ⟨(j,c),aMg (mM hj hk),rfl⟩)
 have h2:decide (lN d++rN d).Nodup=decide (d.ai.flatMap yC).Nodup:=by
  rw [Bool.eq_iff_iff,decide_eq_true_eq,decide_eq_true_eq]
  exact (zN d.ai 0).nodup_iff.symm
 rw [h1,h2]
 cases (d.ai.all fun i=>(nmI i).all okN)<;>rfl
section
variable {n:Nat} {d:Dl} {sz:Nat} {tok:Tok} {rows:List V} {S:St}
theorem TC {s:List UInt8} (hs:s.length≤1000) (hn:1010≤n):RN n (.f 109) [.str s] S=some (.bool (vo s),S):=by
 obtain⟨q,rfl⟩:=up (show 2≤n by omega)
 have h:∃r,frame Tryz.cfg (RN (q + 1)) (q + 1) 109 [.str s] St.empty=some r∧∃S',r=(.bool (vo s),S'):=by
  refine aV (fn:=Tryz.f109) (p:=fun r=>∃S',r=(.bool (vo s),S')) rfl rfl ?_
  unfold vo
  refine ag.mkB (qz q s _ (by omega) (by omega)) (fun c1=>?_) (fun c1=>?_)
  ·rw [c1]
   refine ah.mk (fun c2=>?_) (fun c2=>?_)
   ·rw [c2];exact⟨_,rfl,_,rfl⟩
   ·rw [c2];exact⟨_,rfl,_,rfl⟩
  ·rw [c1];exact⟨_,rfl,_,rfl⟩
 obtain⟨r,k6,S',rfl⟩:=h
 exact bG k6 (by simp only [nz,aq]) rfl rfl rfl rfl rfl
theorem FA (ss:List (List UInt8)):nW (ss.map aQ)=some ss:=by
 unfold nW
 induction ss with
 | nil=>rfl
 | cons s ss ih=>rw [List.map_cons,bS,ih];rfl
structure NmQ (l r:List (List UInt8)) (s1 s2:Nat) (t1 t2:Tok) (T:List Nat):Prop where
 two:Two [] T (l.map aQ) t1 (r.map aQ) t2
 h1:SzS s1 l
 h2:SzS s2 r
@[reducible] noncomputable def NW (sz:Nat) (tk:Tok) (l:List (List UInt8)) (o:Option In):List (Nat×List V):=(3,[.list sz tk 0 (l.map aQ)])::(match o with | none=>[] | some x=>[(6,eP x)])
noncomputable def mO (d:Dl) (z:Nat) (tk0:Tok) (rows:List V) (s1:Nat) (t1:Tok) (l:List (List UInt8)) (s2:Nat) (t2:Tok) (r:List (List UInt8)) (o:Option In):dj:={ fid:=54,nt:=63,tmps:=[(0,cQ d z tk0 rows),(2,.bool false),(3,.ptr (.loc 3) 0),(4,.list s2 t2 0 (r.map aQ)),(32,.fn 149 1 [] [.ptr (.box 0) 0])],locs:=NW s1 t1 l o,params:=[33,34],assign:=l6 Tryz.f54,body:=l7 Tryz.f54,st:=.ready,iX:=none }
theorem vA (sz:Nat) (b:Bool) (rows:List V):niS (.list sz (av b) 0 rows)=niR rows:=by
 unfold niS
 cases b<;>rfl
theorem Bv (ls:List Lv):niR (ls.map enc)=true:=by
 induction ls with
 | nil=>rfl
 | cons l ls ih=>
  rw [List.map_cons]
  unfold niR
  rw [ih]
  rfl
theorem Ks {ts:List Tm} (h:∀y∈ts,niA (aH y)=true):niR (ae ts)=true:=by
 induction ts with
 | nil=>rfl
 | cons t ts ih=>
  rw [show ae (t::ts)=aH t::ae ts by rw [cU,cU,List.map_cons]]
  unfold niR
  rw [h t aMs,ih (fun y hy=>h y (aMt _ hy))]
  rfl
theorem tr (c:V) (cs:List V):niL (c::cs)=(niS c && niL cs):=rfl
theorem vB (k:IntKind) (z:Int):niS (.int k z)=true:=rfl
theorem vC (s:List UInt8):niS (.str s)=true:=rfl
theorem Pv (x:Tm):niA (aH x)=true:=by
 induction x using Tm.ind with
 | h x ih=>
  show (true && niL (aC x))=true
  simp only [tr,vB,vC,vA,Bv,Ks ih,Bool.true_and]
  rfl
theorem FB (ts:List Tm):niR (ae ts)=true:=Ks fun y _=>Pv y
theorem G8 {α:Type} {f:α→V} {l:List α} (h:∀x∈l,niA (f x)=true):niR (l.map f)=true:=by
 induction l with
 | nil=>rfl
 | cons x l ih=>
  rw [List.map_cons]
  unfold niR
  rw [h x aMs,ih (fun y hy=>h y (aMt _ hy))]
  rfl
theorem QT (c:Ct):niA (fw c)=true:=by
 show (true && niL (mb c))=true
 simp only [tr,vB,vC,vA,Bv,FB,Bool.true_and]
 rfl
theorem Kt (sz:Nat) (rows:List V):niS (.list sz .no 0 rows)=niR rows:=rfl
theorem QU (i:In):niA (encI i)=true:=by
 show (true && niL (eP i))=true
 simp only [tr,vB,vC,vA,Kt,Bv,FB,G8 (fun c _=>QT c),Bool.true_and]
 rfl
theorem QV (d:Dl):niS (cQ d 0 .tight [])=true:=by
 show (true && niL (cV d 0 .tight []))=true
 simp only [tr,vB,vC,vA,Kt,Bv,FB,G8 (fun c _=>QU c),Bool.true_and]
 rfl
theorem h54 (hok:niS (cQ d sz tok rows)=true) (hd:vl d) (hne:d.ai≠[]) (hn:3000≤n):RN (n + 1) (.f 54) [cQ d sz tok rows] S=some (.bool (oC d),S):=by
 have iB:=hd.few
 have UF:(fO d.ai).length≤200:=by
  have h1:=qa hd.cs d.ai.length
  have:d.ai.length * 20≤10 * 20:=Nat.mul_le_mul (by omega) (by omega)
  rw [td];unfold iN;omega
 have h:∃v,nY (fD Tryz.cfg cO cW bW (n + 1)) (n + 1) [cQ d sz tok rows]=some v∧v=.bool (oC d):=by
  have hw:gj Tryz.cfg (RX n) (Tryz.cfg.fc 54) (n + 1) 54 63 ndC { nt:=Tryz.f54.ntmps,tmps:=number 0 [cQ d sz tok rows],locs:=[],fix:=[] } St.empty fun e A S=>match e with
   | .exit _=>False
   | .ret=>(lN d).any vo=true∧cR Tryz.cfg A S Tryz.f54.results.toList=some [.bool false]
   | .normal=>(lN d).any vo=false∧∃z t z2 t2 T,look 3 A.locs=some [.list z (.own t) 0 ((lN d++rN d).map aQ)]∧nth T t=some (lN d++rN d).length∧look 4 A.tmps=some (.list z2 t2 0 ((rN d).map aQ))∧S.aA=T∧look 0 A.tmps=some (cQ d sz tok rows)∧look 3 A.tmps=some (.ptr (.loc 3) 0)∧A.nt=63:=by
   refine gj.cons (nt:=63) ?_
   refine gj.cons (nt:=63) ?_
   refine gj.cons (nt:=63) ?_
   refine aB.loop 63 (σ:=Option In×List (List UInt8)×List (List UInt8)×Nat×Nat×Tok×Tok×List Nat) d.ai.length (fun j s=>{ nt:=63,tmps:=[(0,cQ d sz tok rows),(2,.bool false),(3,.ptr (.loc 3) 0),(4,.list s.2.2.2.2.1 s.2.2.2.2.2.2.1 0 (s.2.2.1.map aQ)),(13,.list 7 .no 0 (d.ai.map encI)),(14,.int .i64 (.ofNat (aG (d.ai.map encI)))),(15,.int .i64 (.ofNat j))],locs:=NW s.2.2.2.1 s.2.2.2.2.2.1 s.2.1 s.1,fix:=[] })
    (fun _ s=>{ heap:=[],aA:=s.2.2.2.2.2.2.2 }) (fun j s=>s.2.1=(d.ai.take j).map (·.name)∧s.2.2.1=(d.ai.take j).map (fun i=>i.name++cI)∧NmQ s.2.1 s.2.2.1 s.2.2.2.1 s.2.2.2.2.1 s.2.2.2.2.2.1 s.2.2.2.2.2.2.1 s.2.2.2.2.2.2.2) (none,[],[],0,0,.tight,.tight,[]) (show d.ai.length < n + 1 by omega) ⟨rfl,rfl,⟨ju.refl [],.inl ⟨rfl,rfl⟩,.inl rfl,fun t h=>by cases h⟩,.inl rfl,.inl rfl⟩ ?_ ?_
   ·rintro j ⟨o,l,r,s1,s2,t1,t2,T⟩ hj ⟨(hl:l=_),(hr:r=_),(hq:NmQ l r s1 s2 t1 t2 T)⟩
    obtain⟨x,hx⟩ : ∃x,d.ai[j]?=some x:=⟨_,aGe hj⟩
    have hnl:=(hd.nm x (aMg hx)).1
    have hll:l.length≤10:=by rw [hl,aLm,List.length_take];omega
    have hrl:r.length≤10:=by rw [hr,aLm,List.length_take];omega
    have hrw:∀(l:List (List UInt8)) (T0 T:List Nat) (tk:Tok),aw T0 T (l.map aQ) tk↔aw T0 T l tk:=fun l T0 T tk=>aw.map (List.map aQ) (fun l=>by simp)
    obtain⟨T2,t1',a1,a2⟩:=kJ (H:=[]) (T0:=[]) (T:=T) (done:=l) (new:=[x.name]) (tok:=t1) (bH:=.tight) (sz:=s1) (sz2:=1) (by simp;omega) hq.h1 (.inr rfl) (by simp) (((hrw _ _ _ _).1 ⟨hq.two.e,hq.two.ha⟩).w)
    have Bw:=hq.two.Kk ((hrw _ _ _ _).2 a2) (kL (a1 JX .any rfl))
    have hgw:fy [] T2 r t2:=⟨Bw.e,Bw.hb.imp id (fun⟨t,q1,q2,q3,q4⟩=>⟨t,q1,q2,by rw [aLm] at q3;exact q3,by simpa using q4⟩)⟩
    obtain⟨T3,t2',b1,b2⟩:=kJ (H:=[]) (T0:=[]) (T:=T2) (done:=r) (new:=[x.name++cI]) (tok:=t2) (bH:=.tight) (sz:=s2) (sz2:=1) (by simp;omega) hq.h2 (.inr rfl) (by simp) hgw
    have MW:=Bw.NS ((hrw _ _ _ _).2 b2) (kL (b1 JX .any rfl))
    rcases o with _ | x0
    all_goals
     refine ah.yes (ltM hj) ?_
     refine ab.mk _ (aO hx) ?_
     refine ab.mk _ (bsS x.name) ?_
     refine cN.mk _ _ (a1 _ _ rfl) ?_
     refine ab.mk _ (Fj (b:=cI) (by unfold cI;simp only [aLc,List.length_nil];omega)) ?_
     refine ab.mk _ (bsS (x.name++cI)) ?_
     refine cN.mk _ _ (b1 _ _ rfl) ?_
     refine ab.mk _ (az (by omega)) ?_
     exact⟨(some x,l++[x.name],r++[x.name++cI],1,1,t1',t2',T3),⟨by rw [map_take _ _ _ _ hx,hl],by rw [map_take _ _ _ _ hx,hr],MW,.inr rfl,.inr rfl⟩,rfl,rfl⟩
   ·rintro⟨o,l,r,s1,s2,t1,t2,T⟩ ⟨(hl:l=_),(hr:r=_),(hq:NmQ l r s1 s2 t1 t2 T)⟩
    rw [List.take_length] at hl hr
    have hrw:∀(l:List (List UInt8)) (T0 T:List Nat) (tk:Tok),aw T0 T (l.map aQ) tk↔aw T0 T l tk:=fun l T0 T tk=>aw.map (List.map aQ) (fun l=>by simp)
    obtain⟨m,rfl⟩:=up (show 1≤n by omega)
    have xS:∀(k:Nat) (y:Nat×Ct) (l2:List (List UInt8)) (z1:Nat) (k1:Tok) (T2:List Nat),(fO d.ai)[k]?=some y→l2.length≤1000→NmQ l2 r z1 s2 k1 t2 T2→
     ∃z1' k1' T',RN (m + 1) (.y 1) [.int .i64 (.ofNat y.1),fw y.2] { heap:=[.cells 106 [cQ d sz tok rows],.loop (mO d sz tok rows z1 k1 l2 s2 t2 r o)],aA:=T2 }=some (.bool true,{ heap:=[.cells 106 [cQ d sz tok rows],.loop (mO d sz tok rows z1' k1' (l2++[y.2.name]) s2 t2 r o)],aA:=T' })∧NmQ (l2++[y.2.name]) r z1' s2 k1' t2 T':=by
     intro k y l2 z1 k1 T2 hk hl2 hq2
     obtain⟨T3,t1',a1,a2⟩:=kJ (H:=[.cells 106 [cQ d sz tok rows],.loop { mO d sz tok rows z1 k1 l2 s2 t2 r o with st:=.busy,locs:=[] }]) (T0:=[]) (T:=T2) (done:=l2) (new:=[y.2.name]) (tok:=k1) (bH:=.tight) (sz:=z1) (sz2:=1) (by simp;omega) hq2.h1 (.inr rfl) (by simp) (((hrw _ _ _ _).1 ⟨hq2.two.e,hq2.two.ha⟩).w)
     have Bw:=hq2.two.Kk ((hrw _ _ _ _).2 a2) (kL (a1 JX .any rfl))
     refine⟨1,t1',T3,?_,Bw,.inr rfl,hq2.h2⟩
     refine fH ?_
     rcases o with _ | x0
     ·refine fj (r:=mO d sz tok rows z1 k1 l2 s2 t2 r none) (nt:=63) (fx:=[3]) rfl rfl rfl rfl rfl rfl rfl ?_
      refine ab.mk _ (bsS y.2.name) ?_
      refine cN.mk _ _ (a1 _ _ rfl) ?_
      conv=>whnf
      rfl
     ·refine fj (r:=mO d sz tok rows z1 k1 l2 s2 t2 r (some x0)) (nt:=63) (fx:=[3,6]) rfl rfl rfl rfl rfl rfl rfl ?_
      refine ab.mk _ (bsS y.2.name) ?_
      refine cN.mk _ _ (a1 _ _ rfl) ?_
      conv=>whnf
      rfl
    obtain⟨S1,g1,g2⟩:=Pp (n:=m + 1) (d:=d) (sz:=sz) (tok:=tok) (rows:=rows) (b:=1) (B:=[.loop (mO d sz tok rows s1 t1 l s2 t2 r o)]) (T:=T)
     (P:=fun k S=>∃l2 z1 k1 T2,S={ heap:=[.cells 106 [cQ d sz tok rows],.loop (mO d sz tok rows z1 k1 l2 s2 t2 r o)],aA:=T2 }∧l2=l++((fO d.ai).take k).map (·.2.name)∧NmQ l2 r z1 s2 k1 t2 T2)
     (Q:=fun _=>False) (by omega) (fun i hi=>by have:=hd.cs i hi;omega) hd.smD ⟨l,s1,t1,T,rfl,by simp,hq⟩ (fun k y S hk ⟨l2,z1,k1,T2,e1,e2,e3⟩=>by
      subst e1
      have hkl:=(aGs hk).1
      obtain⟨z1',k1',T',q1,q2⟩:=xS k y l2 z1 k1 T2 hk (by rw [e2,hl];simp only [aLa,aLm,List.length_take];omega) e3
      exact .inl ⟨_,q1,l2++[y.2.name],z1',k1',T',rfl,by rw [map_take _ _ _ _ hk,e2,List.append_assoc],q2⟩)
    obtain⟨l2,z1,k1,T2,e1,e2,hq2⟩:=g2.elim id False.elim
    rw [List.take_length,hl] at e2
    have e2' : l2=lN d:=e2
    have hr' : r=rN d:=hr
    subst e1
    subst e2'
    subst hr'
    have hLl:(lN d).length≤300:=by unfold lN;simp only [aLa,aLm];omega
    have hRl:(rN d).length≤10:=by unfold rN;rw [aLm];omega
    have QW:rN d≠[]:=by unfold rN;simpa using hne
    have hsl:∀s∈lN d,s.length≤1000:=by
     intro s hs
     unfold lN at hs
     rcases List.mem_append.1 hs with hs | hs
     ·obtain⟨i,hi,rfl⟩:=List.mem_map.1 hs
      have:=(hd.nm i hi).1;omega
     ·obtain⟨q,hq,rfl⟩:=List.mem_map.1 hs
      obtain⟨i,hi,hc⟩:=th hq
      have:=(hd.nm i hi).2 _ hc;omega
    obtain⟨tb,htb⟩:=fL k1
    have QX:RN (m + 2) (.f 108) [.list z1 k1 0 ((lN d).map aQ),.fn 109 0 [] []] { heap:=[.cells 106 [cQ d sz tok rows],.loop { mO d sz tok rows z1 k1 (lN d) s2 t2 (rN d) o with st:=.rj,locs:=[],tmps:=[] }],aA:=T2 }=some (.bool ((lN d).any vo),{ heap:=[.cells 106 [cQ d sz tok rows],.loop { mO d sz tok rows z1 k1 (lN d) s2 t2 (rN d) o with st:=.rj,locs:=[],tmps:=[] }],aA:=T2 }):=by
     rw [mX (nA:=[.list z1 (av tb) 0 ((lN d).map aQ),.fn 109 0 [] []]) rfl rfl rfl (by rw [gv htb,gv (qA tb)])]
     exact S6 (n:=m) (f:=109) (first:=[]) (cap:=[]) vo (lN d) z1 tb hq2.h1 (by omega) (by omega) rfl (fun x hx=>.inl ⟨rfl,rfl,TC (hsl x hx) (by omega)⟩)
    obtain⟨T5,t5,b1,b2⟩:=kJ (H:=[.cells 106 [cQ d sz tok rows],.loop { mO d sz tok rows z1 k1 (lN d) s2 t2 (rN d) o with st:=.rj,locs:=[],tmps:=[] }]) (T0:=[]) (T:=T2) (done:=lN d) (new:=rN d) (tok:=k1) (bH:=t2) (sz:=z1) (sz2:=s2) (by omega) hq2.h1 hq2.h2 QW (((hrw _ _ _ _).1 ⟨hq2.two.e,hq2.two.ha⟩).w)
    have MT:∃t,t5=.own t∧nth T5 t=some (lN d++rN d).length:=by
     rcases b2.2 with⟨h,_⟩ | ⟨t,h1,_,h3,_⟩
     ·simp [QW] at h
     ·exact⟨t,h1,h3⟩
    obtain⟨t,rfl,hlen⟩:=MT
    rcases o with _ | x0
    ·refine ah.no (geM (by omega)) ?_
     refine gj.cons (nt:=63) ?_
     refine ag.mk _ _ (rr (Kl (by omega))) ?_
     refine aB.mk _ _ _ (dL (f:=149) (top:=1) (first:=[]) (cap:=[.ptr (.box 0) 0]) (l:=mO d sz tok rows s1 t1 l s2 t2 (rN d) none) (r:=mO d sz tok rows z1 k1 (lN d) s2 t2 (rN d) none) (v:=.tuple []) (by rfl) (by rfl) (rr g1) (by rfl) (.inl rfl)) ?_
     refine gj.cons (nt:=63) ?_
     refine ag.mkB (rr QX) (fun c1=>?_) (fun c1=>?_)
     ·exact⟨c1,rfl⟩
     ·refine gj.cons (nt:=63) ?_
      refine cN.mk _ _ (b1 _ _ rfl) ?_
      refine gj.nil (nt:=63) ?_
      exact⟨c1,1,t,s2,t2,T5,rfl,hlen,rfl,rfl,rfl,rfl,rfl⟩
    ·refine ah.no (geM (by omega)) ?_
     refine gj.cons (nt:=63) ?_
     refine ag.mk _ _ (rr (Kl (by omega))) ?_
     refine aB.mk _ _ _ (dL (f:=149) (top:=1) (first:=[]) (cap:=[.ptr (.box 0) 0]) (l:=mO d sz tok rows s1 t1 l s2 t2 (rN d) (some x0)) (r:=mO d sz tok rows z1 k1 (lN d) s2 t2 (rN d) (some x0)) (v:=.tuple []) (by rfl) (by rfl) (rr g1) (by rfl) (.inl rfl)) ?_
     refine gj.cons (nt:=63) ?_
     refine ag.mkB (rr QX) (fun c1=>?_) (fun c1=>?_)
     ·exact⟨c1,rfl⟩
     ·refine gj.cons (nt:=63) ?_
      refine cN.mk _ _ (b1 _ _ rfl) ?_
      refine gj.nil (nt:=63) ?_
      exact⟨c1,1,t,s2,t2,T5,rfl,hlen,rfl,rfl,rfl,rfl,rfl⟩
  obtain⟨e,A,S',h1,h2⟩:=hw
  unfold nY
  simp only [h1]
  cases e with
  | exit i=>exact h2.elim
  | ret=>
   obtain⟨h3,h4⟩:=h2
   simp only [h4]
   exact⟨_,rfl,by unfold oC;rw [h3]⟩
  | normal=>
   obtain⟨h3,z,t,z2,t2,T,h4,h5,h6,h7,h8,h9,h10⟩:=h2
   have QY:=rr (HW (n:=n + 1) (d:=d) (sz:=sz) (tok:=tok) (rows:=rows) (S:=St.empty) (by omega) (fun i hi=>by have:=hd.cs i hi;omega) hd.smD (by omega))
   have hRl:(rN d).length=d.ai.length:=by unfold rN;rw [aLm]
   have hLl:(lN d).length=d.ai.length + (fO d.ai).length:=by unfold lN;rw [aLa,aLm,aLm]
   have rF:zg (fD Tryz.cfg cO cW bW (n + 1)) (cV d sz tok rows) (.list z2 t2 0 ((rN d).map aQ))=some (.ofNat (lN d++rN d).length):=by
    unfold zg
    simp only [show nth (cV d sz tok rows) 14=some (.list 7 .no 0 (d.ai.map encI)) from rfl,CR,QY,an,aLm]
    rw [hRl,aLa,hRl,hLl]
    rw [show ep .i64 (.ofNat (d.ai.length + d.ai.length))=.ofNat (d.ai.length + d.ai.length) from ec (by simp only [aOn];omega) (by simp only [aOn];omega)]
    rw [show ep .i64 (Int.ofNat (d.ai.length + d.ai.length) + Int.ofNat (fO d.ai).length)=Int.ofNat (d.ai.length + d.ai.length) + Int.ofNat (fO d.ai).length from ec (by simp only [aOn];omega) (by simp only [aOn];omega)]
    rw [show (Int.ofNat (d.ai.length + d.ai.length) + Int.ofNat (fO d.ai).length)=Int.ofNat (d.ai.length + d.ai.length + (fO d.ai).length) from rfl,show d.ai.length + d.ai.length + (fO d.ai).length=d.ai.length + (fO d.ai).length + d.ai.length by omega]
   have Fb:lN d++rN d≠[]:=by
    intro h
    have h8:(lN d++rN d).length=0:=by rw [h];rfl
    rw [aLa,hRl] at h8
    exact hne (List.eq_nil_of_length_eq_zero (by omega))
   have TD:qu S' (.list z (.own t) 0 ((lN d++rN d).map aQ))=some (aG (uI (lN d++rN d))):=by
    unfold qu
    simp only [FA]
    cases hL:lN d++rN d with
    | nil=>exact absurd hL Fb
    | cons a l=>
     rw [hL] at h5
     simp only [h7,h5,an,aLm]
     rw [show (Nat.beq (a::l).length (a::l).length && Nat.blt (a::l).length 4611686018427387904)=true by
      have hq:(a::l).length < 4611686018427387904:=by rw [← hL,aLa,hRl,hLl];omega
      rw [Nat.beq_refl,Bool.true_and]
      exact dC hq]
     rfl
   unfold pJ
   dsimp only
   rw [h8,h9,h4,h6]
   show ∃v,(bif niS (cQ d sz tok rows) && Nat.blt 62 A.nt then match qu S' (.list z (.own t) 0 ((lN d++rN d).map aQ)),zg (fD Tryz.cfg cO cW bW (n + 1)) (cV d sz tok rows) (.list z2 t2 0 ((rN d).map aQ)) with
    | some n,some m=>some (V.bool (iEq (Int.ofNat n) m))
    | _,_=>none else none)=some v∧v=V.bool (oC d)
   rw [hok,h10,TD,rF]
   simp only [show Nat.blt 62 63=true from rfl,Bool.and_self,cond_true]
   refine⟨_,rfl,?_⟩
   rw [DK]
   unfold oC
   rw [h3]
 obtain⟨v,h1,rfl⟩:=h
 have TE:bT cO (n + 1) (fD Tryz.cfg cO cW bW (n + 1)) (.f 54) [cQ d sz tok rows] S=some (.bool (oC d),S):=by
  unfold bT
  have hc:cO 54=some nY:=rfl
  simp only [hc]
  rw [show allB V.pure [cQ d sz tok rows]=true from rfl,ek,aq,h1]
  rfl
 exact TE
end
end Go.Ev
