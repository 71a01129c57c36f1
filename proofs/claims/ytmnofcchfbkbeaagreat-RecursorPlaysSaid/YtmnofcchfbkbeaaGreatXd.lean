/- The evaluator is sound: code, activations, loops over functions, with any fuel (own work). -/
import Derived.Test.YtmnofcchfbkbeaaGreatXc
import Derived.LoopNIn
namespace Go.Ev
open Go.RowKit
def IK:Ex→Exit
 | .normal=>.normal
 | .ret=>.ret
 | .exit id=>.exit id
section
variable {C:Cfg} {P:Program} {R:Run} {ro:Option Nat} {n:Nat} {k fid:Nat}
def jN (w:World) (a a' : Act):Prop:=∀d∈a'.defers,d∈a.defers∨∃r,d.target=.collected r∧w.heap.size≤r
theorem jN.refl (w:World) (a:Act):jN w a a:=fun _ h=>.inl h
theorem jN.same {w:World} {a a' : Act} (h:a'.defers=a.defers):jN w a a':=fun _ hd=>.inl (h▸hd)
theorem jN.trans {w w' : World} {a a' a'' : Act} (h:jN w a a') (hs:w.heap.size≤w'.heap.size) (k:jN w' a' a''):jN w a a'':=fun d hd=>by
 rcases k d hd with h1 | ⟨r,h1,h2⟩
 ·exact h d h1
 ·exact .inr ⟨r,h1,Nat.le_trans hs h2⟩
def dp (P:Program) (ro:Option Nat) (c:Code) (f:sc):Prop:=
 ∀(n:Nat) {E:Rho} {S:St} {lc:b9} {A:Env} {a:Act} {w:World} {e:Ex} {A1:Env} {S1:St} {Q:Exit→Act→World→Prop},
  bJ E S w→cE E S lc A a w→f A S=some (e,A1,S1)→(∀E' lc' a' w',jN w a a'→Res E S lc A a' w E' S1 lc' A1 w'→Q (IK e) a' w')→c.wpIn (Fw ro) n P Q a w
theorem Hr {x y:Code} {f g:sc} (hx:dp P ro x f) (hy:dp P ro y g):dp P ro (.seq x y) (fun A S=>iter.andThen (f A S) g):=by
 intro n E S lc A a w e A1 S1 Q hS hE h hQ
 refine wpIn_seq ?_
 replace h:iter.andThen (f A S) g=some (e,A1,S1):=h
 unfold iter.andThen at h
 split at h
 ·rename_i A' S' hf
  exact hx n hS hE hf (fun E' lc' a' w' hl hr=>hy n hr.cS hr.cq h (fun E'' Hl a'' w'' hl' hr'=>hQ _ _ _ _ (hl.trans hr.step.size hl') (hr.trans hr')))
 ·rename_i hne
  refine hx n hS hE h (fun E' lc' a' w' hl hr=>?_)
  have:=hQ _ _ _ _ hl hr
  cases e with
  | normal=>exact absurd h (hne _ _)
  | ret=>exact this
  | exit id=>exact this
theorem DZ {c:Operand} {x y:Code} {f g:sc} (hx:dp P ro x f) (hy:dp P ro y g):dp P ro (.cond c x y) (fun A S=>yG A S c f g):=by
 intro n E S lc A a w e A1 S1 Q hS hE h hQ
 replace h:yG A S c f g=some (e,A1,S1):=h
 unfold yG at h
 split at h
 ·rename_i hc
  exact wpIn_cond_true (aR hE.tmps hc) (hx n hS hE h hQ)
 ·rename_i hc
  exact wpIn_cond_false (aR hE.tmps hc) (hy n hS hE h hQ)
 ·cases h
theorem Cn {id:Nat} {x:Code} {f:sc} (hx:dp P ro x f):dp P ro (.block id x) (fun A S=>vL id (f A S)):=by
 intro n E S lc A a w e A1 S1 Q hS hE h hQ
 refine wpIn_block ?_
 replace h:vL id (f A S)=some (e,A1,S1):=h
 unfold vL at h
 split at h
 ·rename_i i A' S' hf
  cases h
  refine hx n hS hE hf (fun E' lc' a' w' hl hr=>?_)
  have:=hQ _ _ _ _ hl hr
  cases hi:Nat.beq i id with
  | true=>
   have hid:=Nat.eq_of_beq_eq_true hi
   subst hid
   rw [hi] at this
   simp only [IK,Exit.inBlock,if_true]
   exact this
  | false=>
   have hne:i≠id:=fun e=>by rw [e,ku] at hi;cases hi
   rw [hi] at this
   simp only [IK,Exit.inBlock,hne,if_false]
   exact this
 ·rename_i hne
  refine hx n hS hE h (fun E' lc' a' w' hl hr=>?_)
  have:=hQ _ _ _ _ hl hr
  cases e with
  | normal=>exact this
  | ret=>exact this
  | exit i=>exact absurd h (hne _ _ _)
theorem wv {x:Code} {f:sc} (hx:dp P ro x f) (n:Nat) {Q:Exit→Act→World→Prop}:∀(m:Nat) {E:Rho} {S:St} {lc:b9} {A:Env} {a:Act} {w:World} {e:Ex} {A1:Env} {S1:St},
 bJ E S w→cE E S lc A a w→iter f m A S=some (e,A1,S1)→(∀E' lc' a' w',jN w a a'→Res E S lc A a' w E' S1 lc' A1 w'→Q (IK e) a' w')→Code.roundsIn (Fw ro) n P x Q m a w
 | 0,_,_,_,_,_,_,_,_,_,_,_,h,_=>by rw [Hb] at h;cases h
 | m + 1,E,S,lc,A,a,w,e,A1,S1,hS,hE,h,hQ=>by
  rw [lE] at h
  rw [roundsIn_succ]
  unfold iter.andThen at h
  split at h
  ·rename_i A' S' hf
   exact hx n hS hE hf (fun E' lc' a' w' hl hr=>wv hx n m hr.cS hr.cq h (fun E'' Hl a'' w'' hl' hr'=>hQ _ _ _ _ (hl.trans hr.step.size hl') (hr.trans hr')))
  ·rename_i hne
   refine hx n hS hE h (fun E' lc' a' w' hl hr=>?_)
   have:=hQ _ _ _ _ hl hr
   cases e with
   | normal=>exact absurd h (hne _ _)
   | ret=>exact this
   | exit id=>exact this
theorem D0 {x:Code} {f:sc} (hx:dp P ro x f):dp P ro (.loop x) (fun A S=>iter f k A S):=by
 intro n E S lc A a w e A1 S1 Q hS hE h hQ
 exact wpIn_loop_rounds k (wv hx n k hS hE h hQ)
theorem iS (hC:CfgOk C P) (hR:cN C P R)
 (rK:∀g ps x y,ro=none→codeOk (C.fc fid) (.rangeFunc g ps x y)=true→dp P ro (.rangeFunc g ps x y) (fun A S=>mS R fid g ps x y A S)) :
 ∀c:Code,codeOk (C.fc fid) c=true→(ro=none∨dx c=true)→dp P ro c (fun A S=>evalCode C R k fid (C.fc fid) c A S)
 | .skip,_,_=>fun n E S lc A a w e A1 S1 Q hS hE h hQ=>by
  replace h:some (Ex.normal,A,S)=some (e,A1,S1):=h
  cases h
  exact wpIn_skip (hQ _ _ _ _ (jN.refl _ _) (Res.refl hS hE))
 | .region id ops draw,hok,_=>fun n E S lc A a w e A1 S1 Q hS hE h hQ=>by
  replace h:fq C R (C.fc fid) id ops draw A S=some (e,A1,S1):=h
  cases draw with
  | true=>
   refine (Cm (n:=n) (ro:=ro) (Q:=Q) hC hC.mixed hR hok hS hE h (fun E' lc' a' w' hd hr=>?_)).2
   have hl:=jN.same (w:=w) hd
   ·have hee:e=.normal:=by
     simp only [fq] at h
     unfold after at h
     split at h
     ·cases h;rfl
     ·cases h
    have:=hQ _ _ _ _ hl hr
    rw [hee] at this
    exact this
  | false=>
   refine (AD (n:=n) (ro:=ro) (Q:=Q) hC hR hS hE h (fun E' lc' a' w' hd hr=>?_)).2
   have hl:=jN.same (w:=w) hd
   ·have hee:e=.normal:=by
     simp only [fq] at h
     unfold after at h
     split at h
     ·cases h;rfl
     ·cases h
    have:=hQ _ _ _ _ hl hr
    rw [hee] at this
    exact this
 | .seq x y,hok,hn=>by
  obtain⟨h1,h2⟩:=br.1 hok
  have hn':=hn.imp_right (fun h=>br.1 (show cB (dx x) (dx y)=true from h))
  have:=Hr (iS hC hR rK x h1 (hn'.imp_right And.left)) (iS hC hR rK y h2 (hn'.imp_right And.right))
  exact this
 | .cond c x y,hok,hn=>by
  obtain⟨h1,h2⟩:=br.1 hok
  have hn':=hn.imp_right (fun h=>br.1 (show cB (dx x) (dx y)=true from h))
  have:=DZ (c:=c) (iS hC hR rK x h1 (hn'.imp_right And.left)) (iS hC hR rK y h2 (hn'.imp_right And.right))
  exact this
 | .block id x,hok,hn=>Cn (iS hC hR rK x hok hn)
 | .loop x,hok,hn=>D0 (iS hC hR rK x hok hn)
 | .rangeFunc g ps x y,hok,hn=>by
  rcases hn with hn | hn
  ·exact rK g ps x y hn hok
  ·cases hn
 | .exit id,_,_=>fun n E S lc A a w e A1 S1 Q hS hE h hQ=>by
  replace h:some (Ex.exit id,A,S)=some (e,A1,S1):=h
  cases h
  exact wpIn_exit (hQ _ _ _ _ (jN.refl _ _) (Res.refl hS hE))
 | .ret,_,_=>fun n E S lc A a w e A1 S1 Q hS hE h hQ=>by
  replace h:some (Ex.ret,A,S)=some (e,A1,S1):=h
  cases h
  exact wpIn_ret (hQ _ _ _ _ (jN.refl _ _) (Res.refl hS hE))
 | .goto _,_,_=>fun n E S lc A a w e A1 S1 Q hS hE h hQ=>by
  replace h:none=some (e,A1,S1):=h
  cases h
 | .label _,_,_=>fun n E S lc A a w e A1 S1 Q hS hE h hQ=>by
  replace h:none=some (e,A1,S1):=h
  cases h
 | .scope _,_,_=>fun n E S lc A a w e A1 S1 Q hS hE h hQ=>by
  replace h:none=some (e,A1,S1):=h
  cases h
 | .refuse _,_,_=>fun n E S lc A a w e A1 S1 Q hS hE h hQ=>by
  replace h:none=some (e,A1,S1):=h
  cases h
end
section
variable {C:Cfg} {P:Program} {R:Run} {E:Rho} {S:St} {lc:b9} {A:Env} {w w' w0:World} {k:Nat}
theorem IL {r:Nat} (h:w.heap[r]?=some (.deferred (some []))) :
 (Instr.takeDeferred r).run P w=.ok [] { w with heap:=w.heap.setIfInBounds r (.deferred none) }:=by
 simp [Instr.takeDeferred,getObj,setObj,Sem.run,h]
theorem kA {fn:Func} {T:Array Value} {Q:Ending→World→Prop} {n:Nat}:∀(ds:List Deferred) (w:World),bJ E S w→cE E S lc A ⟨T,ds⟩ w→
 (∀d∈ds,∃r,d.target=.collected r∧w0.heap.size≤r)→
 (∀w',bJ E S w'→cE E S lc A ⟨T,[]⟩ w'→w'.os=w.os→w'.tape=w.tape→w'.output=w.output→w'.heap.size=w.heap.size→(∀k,k < w0.heap.size→w'.heap[k]?=w.heap[k]?)→
  ∃v,(results fn T).run P w'=.ok v w'∧Q (.returned v) w')→
 LeavesInM (Fw none) n P fn T Q ds .returning w
 | [],w,hS,hE,_,hK=>hK w hS hE rfl rfl rfl rfl (fun _ _=>rfl)
 | d::ds,w,hS,hE,hd,hK=>by
  obtain⟨r,hr1,hr2,hr3⟩:=hE.marks d (aMs)
  obtain⟨r',hr4,hr5⟩:=hd d (aMs)
  rw [hr1] at hr4
  cases hr4
  have hlt:r < w.heap.size:=(aGa hr2).1
  have hk:∀k,k≠r→({ w with heap:=w.heap.setIfInBounds r (.deferred none) }:World).heap[k]?=w.heap[k]?:=fun k hk=>Array.getElem?_setIfInBounds_ne (Ne.symm hk)
  have hM:∀o,E.M r o=none:=fun o=>by
   cases hq:E.M r o with
   | none=>rfl
   | some x=>have:=(hS.M r o x hq).1;simp [World.cell?,hr2] at this
  have hS1:bJ E S { w with heap:=w.heap.setIfInBounds r (.deferred none) }:=hS.except hr3 hM hk
  have hsz:({ w with heap:=w.heap.setIfInBounds r (.deferred none) }:World).heap.size=w.heap.size:=Array.size_setIfInBounds
  obtain⟨hp1,hp2⟩:=List.pairwise_cons.1 (show ((d::ds).map (·.target)).Pairwise _ from hE.kY)
  have hE1:cE E S lc A ⟨T,ds⟩ { w with heap:=w.heap.setIfInBounds r (.deferred none) }:=by
   refine⟨hE.nt,hE.tmps,hE.locs.mono (fu.refl E) (fun k hk'=>hk k fun e=>?_),fun B hB=>?_,fun d' hd'=>?_,hp2⟩
   ·obtain⟨e',h1,h2⟩:=hk'
    obtain⟨cs,hcs⟩:=Option.isSome_iff_exists.1 h1
    obtain⟨B,h3,arr,ty,h4,_⟩:=hE.locs.cells e' cs hcs
    rw [h2] at h3
    cases h3
    rw [e,hr2] at h4
    cases h4
   ·obtain⟨h1,h2,h3⟩:=hE.apart B hB
    exact⟨h1,h2,by rw [hsz];exact h3⟩
   ·obtain⟨s,h1,h2,h3⟩:=hE.marks d' (aMt _ hd')
    refine⟨s,h1,?_,h3⟩
    rw [hk s (fun e=>hp1 _ (List.mem_map_of_mem hd') r s hr1 h1 e.symm)]
    exact h2
  refine⟨by simp,.inl ⟨r,_,hr1,IL hr2,?_⟩⟩
  refine kA ds _ hS1 hE1 (fun d' hd'=>hd d' (aMt _ hd')) (fun w' h1 h2 h3 h4 h5 h6 h7=>hK w' h1 h2 h3 h4 h5 (h6.trans hsz) (fun k hk'=>?_))
  rw [h7 k hk',hk k (by omega)]
def AK (T:Array Value):ResultVar→Sem Value
 | .tmp t=>pure (T.getD t undef)
 | .cell a t=>do loadVar t (← asAddr (T.getD a undef))
theorem nS (fn:Func) (T:Array Value):results fn T=(do
 let vs ← fn.results.mapM (AK T)
 pure (if h:vs.size=1 then vs[0] else .tuple vs)):=by
 unfold results
 congr 1
theorem je (hC:CfgOk C P) (hS:bJ E S w) {T:Array Value} (hT:qK E lc A.tmps T) (hL:qJ E w lc A.locs):∀{l:List ResultVar} {vs:List V},cV C A S l=some vs→
 ∃X:List Value,(l.mapM (AK T)).run P w=.ok X w∧au E lc vs X
 | [],vs,h=>by
  unfold cV at h
  cases h
  exact⟨[],by simp,rfl⟩
 | .tmp t::l,vs,h=>by
  unfold cV at h
  split at h
  ·rename_i v vs' h1 h2
   cases h
   obtain⟨X,k1,k2⟩:=je hC hS hT hL h2
   obtain⟨x,j1,j2⟩:=hT t v h1
   refine⟨x::X,?_,x,X,rfl,j2,k2⟩
   rw [List.mapM_cons]
   simp [AK,k1,Array.getD_eq_getD_getElem?,j1]
  ·cases h
 | .cell a ty::l,vs,h=>by
  unfold cV at h
  split at h
  ·rename_i p hp
   split at h
   ·rename_i v vs' h1 h2
    cases h
    obtain⟨X,k1,k2⟩:=je hC hS hT hL h2
    obtain⟨x,j1,j2⟩:=hT a p hp
    obtain⟨cv,i1,i2⟩:=vP hC hS hL h1 j2
    refine⟨cv::X,?_,cv,X,rfl,i2,k2⟩
    have i3:(do loadVar ty (← asAddr (T.getD a undef)):Sem Value).run P w=.ok cv w:=by
     rw [Array.getD_eq_getD_getElem?,j1]
     have hpt:∃ad,x=.pointer (some ad):=by
      cases p with
      | ptr b o=>exact mE j2
      | imm top cs=>obtain⟨_,B,o,e,_⟩:=j2;exact⟨_,e⟩
      | _=>simp [load] at h1;split at h1<;>cases h1
     obtain⟨ad,rfl⟩:=hpt
     simpa [Instr.loadAt,Instr.sureAddr,asAddr] using i1
    have i4:(AK T (.cell a ty)).run P w=.ok cv w:=i3
    rw [List.mapM_cons]
    simp [Sem.run_bind,i4,k1]
   ·cases h
  ·cases h
theorem kB {args:List V} {X:List Value} (h:au E lc args X) {t:Nat} {v:V} (ht:look t (number 0 args)=some v):∃x,X[t]?=some x∧a8 E lc v x:=by
 have key:∀(l:List V) (i:Nat),look t (number i l)=some v→i≤t∧l[t - i]?=some v:=by
  intro l
  induction l with
  | nil=>intro i h;cases h
  | cons a l ih=>
   intro i h
   have e:number i (a::l)=(i,a)::number (i + 1) l:=rfl
   rw [e] at h
   by_cases hti:t=i
   ·subst hti
    rw [bG] at h
    cases h
    simp
   ·rw [aX hti] at h
    obtain⟨h1,h2⟩:=ih (i + 1) h
    refine⟨by omega,?_⟩
    rw [show t - i=(t - (i + 1)) + 1 by omega]
    simpa using h2
 obtain⟨_,h2⟩:=key args 0 ht
 exact h.get h2
theorem FZ {vs:List V} {X:List Value} (h:au E lc vs X) (hl:(aM vs).isSome=true):a8 E lc (one vs) (if h:X.length=1 then X[0] else .tuple ⟨X⟩)∧(one vs).lvl.isSome=true:=by
 match vs,h,hl with
 | [],h,hl=>cases h;exact⟨⟨rfl,[],rfl,rfl⟩,rfl⟩
 | [v],h,hl=>
  obtain⟨x,Y,rfl,h1,h2⟩:=h
  cases h2
  refine⟨h1,?_⟩
  obtain⟨n,hn⟩:=bD hl
  have:=(aY.1 hn).1
  exact a7 (fJ this)
 | v::u::vs,h,hl=>
  refine⟨?_,hl⟩
  obtain⟨x,Y,rfl,h1,y,Z,rfl,h2⟩:=h
  have hne:¬(x::y::Z).length=1:=by simp
  rw [dif_neg hne]
  exact⟨hl,_,rfl,⟨x,_,rfl,h1,y,Z,rfl,h2⟩⟩
theorem uB (hC:CfgOk C P) (y8:∀fid c,codeOk (C.fc fid) c=true→dp P none c (fun A S=>evalCode C R k fid (C.fc fid) c A S)) {id:Nat} {args:List V} {v:V} {S' : St}
 (h:frame C R k id args S=some (v,S')):v.lvl.isSome=true∧
 ∀E w X,bJ E S w→au E bB args X→Calls P id ⟨X⟩ w (ky E S w v S'):=by
 unfold frame at h
 split at h
 ·rename_i fn hfn
  split at h
  ·rename_i c hc
   split at h
   ·cases h
   ·rename_i e A1 S1 hne hev
    split at h
    ·rename_i vs hvs
     split at h
     ·rename_i top jk
      cases h
      have hls:(aM vs).isSome=true:=by rw [jk];rfl
      have hlv:(one vs).lvl.isSome=true:=by
       match vs,hls with
       | [],_=>rfl
       | [v],hl=>
        obtain⟨n,hn⟩:=bD hl
        exact a7 (fJ (aY.1 hn).1)
       | v::u::vs,hl=>exact hl
      refine⟨hlv,fun E w X hS hX=>?_⟩
      obtain⟨hf1,_⟩:=hC.fn id fn hfn
      refine (callsIn_wide (n:=0)).1 (callsIn_of_wp_marks (F:=Fw none) hf1 hc trivial ?_)
      have hE0:cE E S bB { nt:=fn.ntmps,tmps:=number 0 args,locs:=[],fix:=[] } ⟨(⟨X⟩ : Array Value)++Array.replicate (fn.ntmps - X.length) undef,[]⟩ w:=by
       refine⟨by simp;omega,fun t v ht=>?_,⟨(fun d cs hd=>by cases hd),(fun d d' B hd=>by cases hd)⟩,fun B hB=>?_,fun d hd=>(by cases hd),List.Pairwise.nil⟩
       ·obtain⟨x,h1,h2⟩:=kB hX ht
        refine⟨x,?_,h2⟩
        have hlt:t < X.length:=(aGs h1).1
        rw [Array.getElem?_append_left (by simpa using hlt)]
        simpa using h1
       ·obtain⟨d,hd,_⟩:=hB;cases hd
      refine y8 id c (hC.body id fn c hfn hc) 0 hS hE0 hev (fun E' lc' a' w' hl hr=>?_)
      have hmarks:∀d∈a'.defers,∃r,d.target=.collected r∧w.heap.size≤r:=fun d hd=>by
       rcases hl d hd with h | h
       ·cases h
       ·exact h
      have uC:LeavesInM (Fw none) 0 P fn a'.tmps (ky E S w (one vs) S') a'.defers .returning w':=by
       refine kA (w0:=w) a'.defers w' hr.cS hr.cq hmarks (fun w'' h1 h2 h3 h4 h5 h6 h7=>?_)
       obtain⟨Y,k1,k2⟩:=je hC h1 h2.tmps h2.locs hvs
       obtain⟨k3,_⟩:=FZ k2 hls
       have eA:(results fn a'.tmps).run P w''=.ok (if h:Y.length=1 then Y[0] else .tuple ⟨Y⟩) w'':=by
        rw [nS,Array.mapM_eq_mapM_toList]
        simp [k1]
       refine⟨_,eA,_,E',rfl,h1,?_,k3.BF (bD hlv).choose_spec⟩
       have hst:=hr.step
       exact⟨h3.trans hst.os,h4.trans hst.tape,h5.trans hst.output,by rw [h6];exact hst.size,
        fun k hk hn=>(h7 k hk).trans (hst.keep k hk (fun hf=>hf.elim hn (fun⟨d,hd,_⟩=>by cases hd))),
        fun k hk=>(hst.grow k (.inl hk)).imp_left (fun hf=>hf.elim (fun hq=>hq) (fun⟨d,hd,_⟩=>by cases hd)),
        hst.mem,fun B o x hx=>(hst.oP B o x hx).imp_right (fun y=>y.imp_left (fun hf=>hf.elim (fun hq=>hq) (fun⟨d,hd,_⟩=>by cases hd))),
        hst.rho,hst.tok,hst.lm⟩
      cases e with
      | normal=>exact uC
      | ret=>exact uC
      | exit id=>exact (hne _ rfl).elim
     ·cases h
    ·cases h
   ·cases h
  ·cases h
 ·cases h
end
section
variable {C:Cfg} {P:Program} {R:Run} {E:Rho} {S:St} {lc:b9} {A:Env} {w w' : World} {k:Nat}
theorem cr {o:Option Nat} (h:isZero o=true):within o 0:=by
 unfold isZero at h
 split at h
 ·exact⟨0,rfl,Nat.le_refl _⟩
 ·cases h
theorem Co {l:List V} (h:within (aM l) 0):allB V.pure l=true:=by
 induction l with
 | nil=>rfl
 | cons v l ih=>
  have hb:=aY.1 h
  refine cG.2 ⟨?_,ih hb.2⟩
  unfold V.pure isZero
  obtain⟨n,h1,h2⟩:=hb.1
  have:n=0:=by omega
  subst this
  rw [h1]
  rfl
theorem l6 (v:V):rB v.cb=true:=by
 cases v with
 | tuple vs=>
  show (bn V.strip vs).all gO=true
  rw [bH,List.all_map]
  simp [Function.comp_def,jt]
 | agg cs=>exact jt (.agg cs)
 | list sz tok top rows=>cases tok<;>rfl
 | _=>rfl
theorem K3 {ac:Acc} {M' : Nat→Nat→Option Value} (hM1:∀B o x,E.M B o=some x→M' B o=some x)
 (hM2:∀B,FL E S lc A B→∀o x,w.cell? ⟨B,o,none⟩=some x→Kn w B o x→M' B o=some x) (hS:bJ E S w) (hL:qJ E w lc A.locs)
 {v v' : V} {x:Value} (h:frz A S ac v=some v') (hv:a8 E lc v x) (hz:isZero v'.lvl=true):a8 (only M') bB v'.cb x:=by
 unfold frz at h
 split at h
 ·rename_i vs
  split at h
  ·rename_i l hl
   cases h
   obtain⟨h1,X,rfl,h2⟩:=hv
   have hp:=Co (cr hz)
   have hr:=pr hM1 hM2 hS hL hl h2 hp
   refine⟨?_,X,rfl,?_⟩
   ·rw [bH,dq];exact a7 (cr hz)
   ·rw [bH];exact hr
  ·cases h
 ·rename_i hnt
  have hn:∀vs,v'≠.tuple vs:=fun vs e=>by
   subst e
   unfold jS at h
   split at h
   ·split at h
    ·cases h
    ·cases h
   ·unfold jo at h
    split at h
    ·replace h:=(aI h).2
     split at h
     ·replace h:=(aI h).2
      split at h
      ·cases h
      ·cases h
     ·cases h
    ·cases h;exact hnt _ rfl
  have hp:v'.pure=true:=by
   cases v'<;>first | exact absurd rfl (hn _) | exact hz
  have:=v7 hM1 hM2 hS hL h hv hp
  cases v'<;>first | exact absurd rfl (hn _) | exact this
theorem gN {M:Nat→Nat→Option Value} (hM:kZ M w):bJ (only M) St.empty w where
 len:=rfl
 blk b B k hb:=by cases hb
 nodup:=List.nodup_nil
 nL:=rfl
 tok t o ho:=by cases ho
 na t u o p ho:=by cases ho
 tρ t o ho:=by cases ho
 M:=hM
 Mρ B o x _ hB:=by cases hB
 Mτ B o x t p _ hp:=by cases hp
 ll b r d B hb:=by cases hb
 jU b b' r r' d d' B hb:=by cases hb
theorem gG {M:Nat→Nat→Option Value} {k:Nat} (h:FP (only M) St.empty k):False:=by
 rcases h with h | ⟨o,ho,_⟩ | ⟨b,r,d,h1,_⟩
 ·cases h
 ·cases ho
 ·cases h1
theorem D1 (hC:CfgOk C P) (y8:∀fid c,codeOk (C.fc fid) c=true→dp P none c (fun A S=>evalCode C R k fid (C.fc fid) c A S)) {id:Nat} {args:List V} {v v' : V} {S' : St}
 (h:frame C R k id (bn V.strip args) St.empty=some (v,S')) (hf:frz { nt:=0,tmps:=[],locs:=[],fix:=[] } S' .any v=some v') (hz:isZero v'.lvl=true) :
 jc P id args v'.cb:=by
 obtain⟨_,wx⟩:=uB hC y8 h
 refine⟨?_,l6 v',fun M w X hM hX=>?_⟩
 ·have hw:=cr hz
  cases v' with
  | tuple vs=>show within (aM (bn V.strip vs)) 0;rw [bH,dq];exact hw
  | agg cs=>exact fJ (v:=(V.agg cs).strip) (by rw [js];exact hw)
  | list sz tok top rows=>cases tok<;>exact hw
  | _=>exact hw
 ·refine (wx (only M) w X (gN hM) (by rw [bH];exact hX)).mono ?_
  rintro e w' ⟨cv,E',rfl,hS',hst,hv⟩
  have wy:∀B o x,M B o=some x→B < w.heap.size:=fun B o x hx=>dh (hM B o x hx).1
  have hM1:∀B o x,E'.M B o=some x→(if B < w.heap.size then M B o else World.all w' B o)=some x:=fun B o x hx=>by
   rcases hst.oP B o x hx with h | h | h
   ·rw [if_pos (wy B o x h)];exact h
   ·exact (gG h).elim
   ·rw [if_neg (by omega)];exact lW hS' B o x hx
  refine⟨cv,fun B o=>if B < w.heap.size then M B o else World.all w' B o,rfl,⟨hst.os,hst.tape,hst.output,hst.size,fun k hk=>hst.keep k hk (fun hf=>gG hf)⟩,?_,?_,?_,?_⟩
  ·intro B o x hx
   by_cases hlt:B < w.heap.size
   ·simp only [hlt,if_true] at hx
    exact hS'.M B o x (hst.mem B o x hx)
   ·simp only [hlt,if_false] at hx
    exact all_true w' B o x hx
  ·intro B o x hx
   simp only [wy B o x hx,if_true];exact hx
  ·intro B o x hx
   by_cases hlt:B < w.heap.size
   ·simp only [hlt,if_true] at hx;exact .inl hx
   ·exact .inr (by omega)
  ·refine K3 (A:={ nt:=0,tmps:=[],locs:=[],fix:=[] }) (lc:=bB) hM1 ?_ hS' ⟨(fun d cs hd=>by cases hd),(fun d d' B hd=>by cases hd)⟩ hf hv hz
   intro B hB o x hx hx1
   rcases hB with hB | ⟨d,hd,_⟩
   ·rcases hst.grow B hB with h | h
    ·exact (gG h).elim
    ·show (if B < w.heap.size then M B o else World.all w' B o)=some x
     rw [if_neg (by omega)];exact jV hx hx1
   ·cases hd
end
section
variable {C:Cfg} {P:Program} {R:Run} {E:Rho} {S:St} {lc:b9} {A:Env} {a:Act} {w w' : World}
def D2 (E:Rho) (S:St) (b B:Nat):Prop:=
 B∉E.ρ∧(∀(t:Nat) (o:Own),E.τ[t]?=some o→o.g≠B)∧(∀o,E.M B o=none)∧
  ∀b' r d,b'≠b→S.heap[b']?=some (.loop r)→(look d r.locs).isSome=true→E.lm b' d≠some B
theorem sA (hS:bJ E S w) {b l:Nat} (hb:E.ρ[b]?=some l) {r r' : dD} (hr:S.heap[b]?=some (.loop r)) (hk:∀k,k≠l→w'.heap[k]?=w.heap[k]?)
 (hH:fS E w' l (E.lm b) r') (hL:qJ E w' (E.lm b) r'.locs) (hll:∀d B,(look d r'.locs).isSome=true→E.lm b d=some B→D2 E S b B) :
 bJ E { S with heap:=S.heap.set b (.loop r') } w':=by
 have BT:b < S.heap.length:=(aGs hr).1
 have y9:l∈E.ρ:=aMg hb
 have jl:∀b',b'≠b→(S.heap.set b (.loop r'))[b']?=S.heap[b']?:=fun b' h=>by rw [List.getElem?_set_ne (Ne.symm h)]
 have sg:(S.heap.set b (.loop r'))[b]?=some (.loop r'):=by rw [List.getElem?_set_self BT]
 refine⟨by simp [hS.len],?_,hS.nodup,hS.nL,?_,hS.na,hS.tρ,?_,hS.Mρ,hS.Mτ,?_,?_⟩
 ·intro b' B k hB hk'
  by_cases hbb:b'=b
  ·subst hbb
   rw [hb] at hB
   cases hB
   have vT : (S.heap.set b' (.loop r'))[b']?=some k:=hk'
   rw [sg] at vT
   cases vT
   exact⟨hH,hL⟩
  ·have vT : (S.heap.set b (.loop r'))[b']?=some k:=hk'
   rw [jl b' hbb] at vT
   have hBl:B≠l:=fun e=>by
    subst e
    have h1:=(aGs hB).1
    have h2:=(aGs hb).1
    exact hbb ((List.getElem_inj hS.nodup).1 (by rw [(aGs hB).2,(aGs hb).2]))
   exact (hS.blk b' B k hB vT).mono (fu.refl E) (aGs hB).1 (hk B hBl) (fun q hq j ⟨d,hd,hj⟩=>hk j fun e=>by
    subst hq
    exact (hS.ll b' q d j vT hd hj).1 (e▸y9))
 ·intro t o ho
  obtain⟨h1,h2,h3,h4,cur,e,h5,h6⟩:=hS.tok t o ho
  exact⟨h1,h2,h3,h4,cur,e,by rw [hk o.g (fun e'=>hS.tρ t o ho (by rw [e'];exact y9))];exact h5,h6⟩
 ·intro B o x hx
  obtain⟨h1,h2⟩:=hS.M B o x hx
  have hBl:B≠l:=fun e=>hS.Mρ B o x hx (e▸y9)
  exact Kn.keep (hk B hBl) ⟨h1,h2⟩
 ·intro b' q d B hq hd hB
  have hq' : (S.heap.set b (.loop r'))[b']?=some (.loop q):=hq
  by_cases hbb:b'=b
  ·subst hbb
   rw [sg] at hq'
   cases hq'
   obtain⟨h1,h2,h3,_⟩:=hll d B hd hB
   exact⟨h1,h2,h3⟩
  ·rw [jl b' hbb] at hq'
   exact hS.ll b' q d B hq' hd hB
 ·intro b1 b2 q1 q2 d1 d2 B hq1 hq2 hd1 hd2 hB1 hB2
  have AL : (S.heap.set b (.loop r'))[b1]?=some (.loop q1):=hq1
  have yy : (S.heap.set b (.loop r'))[b2]?=some (.loop q2):=hq2
  by_cases h1:b1=b
  ·by_cases h2:b2=b
   ·rw [h1,h2]
   ·exfalso
    subst h1
    rw [sg] at AL
    cases AL
    rw [jl b2 h2] at yy
    exact (hll d1 B hd1 hB1).2.2.2 b2 q2 d2 h2 yy hd2 hB2
  ·by_cases h2:b2=b
   ·exfalso
    subst h2
    rw [sg] at yy
    cases yy
    rw [jl b1 h1] at AL
    exact (hll d2 B hd2 hB2).2.2.2 b1 q1 d1 h1 AL hd1 hB1
   ·rw [jl b1 h1] at AL
    rw [jl b2 h2] at yy
    exact hS.jU b1 b2 q1 q2 d1 d2 B AL yy hd1 hd2 hB1 hB2
theorem sB (hS:bJ E S w) {b d B:Nat} {r:dD} (hr:S.heap[b]?=some (.loop r)) (hd:(look d r.locs).isSome=true) (hB:E.lm b d=some B):D2 E S b B:=by
 obtain⟨h1,h2,h3⟩:=hS.ll b r d B hr hd hB
 exact⟨h1,h2,h3,fun b' r' d' hne hr' hd' hB'=>hne (hS.jU b' b r' r d' d B hr' hr hd' hd hB' hB)⟩
theorem vl (hE:cE E S lc A a w) {b d B:Nat} (hd:(look d A.locs).isSome=true) (hB:lc d=some B):D2 E S b B:=by
 obtain⟨h1,h2,_⟩:=hE.apart B ⟨d,hd,hB⟩
 exact⟨fun h=>h1 (.inl h),fun t o ho e=>h1 (.inr (.inl ⟨o,aMg ho,e⟩)),h2,fun b' r d' _ hr hd' hB'=>h1 (.inr (.inr ⟨b',r,d',hr,hd',hB'⟩))⟩
def Rho.gH (E:Rho) (l:Nat) (lc:b9):Rho:={ E with ρ:=E.ρ++[l],lm:=fun b=>if b=E.ρ.length then lc else E.lm b }
theorem mV (E:Rho) (l:Nat) (lc:b9):fu E (E.gH l lc):=
 ⟨fun _ _ _ h=>h,⟨[l],rfl⟩,fun _ o h=>⟨o,h,rfl,Nat.le_refl _,fun _=>rfl⟩,fun _ hb=>if_neg (Nat.ne_of_lt hb)⟩
theorem pC {l k:Nat} {r:dD} (hS:bJ E S w) (hr:r.locs=A.locs) (h:FP (E.gH l lc) { S with heap:=S.heap++[.loop r] } k):FP E S k∨k=l∨LP lc A.locs k:=by
 rcases h with h | ⟨o,ho,hg⟩ | ⟨b,q,d,h1,h2,h3⟩
 ·rcases List.mem_append.1 (show k∈E.ρ++[l] from h) with h | h
  ·exact .inl (.inl h)
  ·exact .inr (.inl (List.mem_singleton.1 h))
 ·exact .inl (.inr (.inl ⟨o,ho,hg⟩))
 ·have h1' : (S.heap++[Blk.loop r])[b]?=some (.loop q):=h1
  have h3' : (if b=E.ρ.length then lc else E.lm b) d=some k:=h3
  by_cases hb:b=E.ρ.length
  ·subst hb
   rw [← hS.len] at h1'
   simp only [List.getElem?_concat_length,Option.some.injEq,Blk.loop.injEq] at h1'
   subst h1'
   rw [if_pos rfl] at h3'
   exact .inr (.inr ⟨d,by rw [← hr];exact h2,h3'⟩)
  ·have hlt:b < S.heap.length:=by
    have:=(aGs h1').1
    rw [aLa,List.length_singleton] at this
    have:=hS.len
    omega
   rw [List.getElem?_append_left hlt] at h1'
   rw [if_neg hb] at h3'
   exact .inl (.inr (.inr ⟨b,q,d,h1',h2,h3'⟩))
theorem Hs (hS:bJ E S w) (hE:cE E S lc A a w) (hg:fL w w') {l:Nat} (hl:w.heap.size≤l) {r:dD} (hr:r.locs=A.locs)
 (hH:fS (E.gH l lc) w' l lc r):bJ (E.gH l lc) { S with heap:=S.heap++[.loop r] } w':=by
 have hm:=mV E l lc
 have jl:∀b:Nat,b < E.ρ.length→(S.heap++[Blk.loop r])[b]?=S.heap[b]?:=fun b hb=>List.getElem?_append_left (by rw [hS.len];exact hb)
 have Ph:(S.heap++[Blk.loop r])[E.ρ.length]?=some (.loop r):=by rw [← hS.len];simp
 have hρ:∀b:Nat,b < E.ρ.length→(E.gH l lc).ρ[b]?=E.ρ[b]?:=fun b hb=>List.getElem?_append_left hb
 have hbound:∀(b:Nat) (k:Blk),(S.heap++[Blk.loop r])[b]?=some k→b < E.ρ.length∨(b=E.ρ.length∧k=.loop r):=fun b k hb=>by
  have h1:=(aGs hb).1
  rw [aLa,List.length_singleton,hS.len] at h1
  by_cases he:b=E.ρ.length
  ·subst he
   rw [Ph] at hb
   cases hb
   exact .inr ⟨rfl,rfl⟩
  ·exact .inl (by omega)
 have hlm:∀b:Nat,b < E.ρ.length→(E.gH l lc).lm b=E.lm b:=hm.lm
 have K4:(E.gH l lc).lm E.ρ.length=lc:=if_pos rfl
 have hap:∀d B,(look d r.locs).isSome=true→lc d=some B→¬FP E S B∧(∀o,E.M B o=none)∧B < w.heap.size:=fun d B hd hB=>hE.apart B ⟨d,by rw [← hr];exact hd,hB⟩
 refine⟨by show (S.heap++[_]).length=(E.ρ++[l]).length;simp [hS.len],?_,?_,hS.nL,?_,hS.na,?_,?_,?_,hS.Mτ,?_,?_⟩
 ·intro b B k hB hk
  rcases hbound b k hk with hb | ⟨rfl,rfl⟩
  ·rw [hρ b hb] at hB
   have hk' : S.heap[b]?=some k:=by rw [← jl b hb];exact hk
   exact (hS.blk b B k hB hk').mono hm hb (hg.keep B (hS.lt hB)) (fun q hq j ⟨d,hd,hj⟩=>hg.keep j (hS.jv (hq▸hk') hd hj))
  ·have hBl:B=l:=by
    have:(E.ρ++[l])[E.ρ.length]?=some B:=hB
    simp at this
    exact this.symm
   subst hBl
   rw [K4]
   refine⟨hH,?_⟩
   rw [hr]
   exact hE.locs.mono hm (fun k hk=>hg.keep k (hE.apart k hk).2.2)
 ·show (E.ρ++[l]).Nodup
  rw [List.nodup_append]
  exact⟨hS.nodup,by simp,fun x hx y hy e=>by
   rw [List.mem_singleton] at hy
   have:=hS.tJ hx
   omega⟩
 ·intro t o ho
  obtain⟨h1,h2,h3,h4,cur,e,h5,h6⟩:=hS.tok t o ho
  exact⟨h1,h2,h3,h4,cur,e,by rw [hg.keep _ (hS.lU ho)];exact h5,h6⟩
 ·intro t o ho dM
  rcases List.mem_append.1 (show o.g∈E.ρ++[l] from dM) with h | h
  ·exact hS.tρ t o ho h
  ·have:=hS.lU ho
   rw [List.mem_singleton] at h
   omega
 ·intro B o x hx
  obtain⟨h1,h2⟩:=hS.M B o x hx
  exact Kn.keep (hg.keep B (dh h1)) ⟨h1,h2⟩
 ·intro B o x hx dM
  rcases List.mem_append.1 (show B∈E.ρ++[l] from dM) with h | h
  ·exact hS.Mρ B o x hx h
  ·have:=dh (hS.M B o x hx).1
   rw [List.mem_singleton] at h
   omega
 ·intro b q d B hq hd hB
  rcases hbound b _ hq with hb | ⟨rfl,hqr⟩
  ·rw [hlm b hb] at hB
   have hq' : S.heap[b]?=some (.loop q):=by rw [← jl b hb];exact hq
   obtain⟨h1,h2,h3⟩:=hS.ll b q d B hq' hd hB
   refine⟨fun dM=>?_,h2,h3⟩
   rcases List.mem_append.1 (show B∈E.ρ++[l] from dM) with h | h
   ·exact h1 h
   ·have:=hS.jv hq' hd hB
    rw [List.mem_singleton] at h
    omega
  ·cases hqr
   rw [K4] at hB
   obtain⟨h1,h2,h3⟩:=hap d B hd hB
   refine⟨fun dM=>?_,fun t o ho e=>h1 (.inr (.inl ⟨o,aMg ho,e⟩)),h2⟩
   rcases List.mem_append.1 (show B∈E.ρ++[l] from dM) with h | h
   ·exact h1 (.inl h)
   ·rw [List.mem_singleton] at h
    omega
 ·intro b1 b2 q1 q2 d1 d2 B hq1 hq2 hd1 hd2 hB1 hB2
  rcases hbound b1 _ hq1 with hb1 | ⟨rfl,Q4⟩
  ·have AL : S.heap[b1]?=some (.loop q1):=by rw [← jl b1 hb1];exact hq1
   rw [hlm b1 hb1] at hB1
   rcases hbound b2 _ hq2 with hb2 | ⟨rfl,Pj⟩
   ·have yy : S.heap[b2]?=some (.loop q2):=by rw [← jl b2 hb2];exact hq2
    rw [hlm b2 hb2] at hB2
    exact hS.jU b1 b2 q1 q2 d1 d2 B AL yy hd1 hd2 hB1 hB2
   ·exfalso
    cases Pj
    rw [K4] at hB2
    exact (hap d2 B hd2 hB2).1 (.inr (.inr ⟨b1,q1,d1,AL,hd1,hB1⟩))
  ·rcases hbound b2 _ hq2 with hb2 | ⟨rfl,Pj⟩
   ·exfalso
    cases Q4
    have yy : S.heap[b2]?=some (.loop q2):=by rw [← jl b2 hb2];exact hq2
    rw [hlm b2 hb2] at hB2
    rw [K4] at hB1
    exact (hap d1 B hd1 hB1).1 (.inr (.inr ⟨b2,q2,d2,yy,hd2,hB2⟩))
   ·rfl
end
section
variable {C:Cfg} {P:Program} {R:Run} {E:Rho} {S:St} {lc:b9} {A:Env} {a:Act} {w w' : World} {fid:Nat}
theorem run_endLoop {l:Nat} {L:Loop} (h:w.heap[l]?=some (.loop L)) (hs:L.state≠.busy) :
 (Instr.endLoop l).run P w=.ok L.pending { w with heap:=w.heap.setIfInBounds l (.loop { L with state:=.exhausted }) }:=by
 simp [Instr.endLoop,Instr.getLoop,getObj,setObj,Sem.run,h,hs]
theorem jf {b k:Nat} {r' : dD} (hr:r'.locs=[]) (h:FP E { S with heap:=S.heap.set b (.loop r') } k):FP E S k:=by
 rcases h with h | h | ⟨b',q,d,h1,h2,h3⟩
 ·exact .inl h
 ·exact .inr (.inl h)
 ·have h1' : (S.heap.set b (.loop r'))[b']?=some (.loop q):=h1
  by_cases hb:b'=b
  ·subst hb
   rw [List.getElem?_set] at h1'
   simp only [if_true] at h1'
   split at h1'
   ·cases h1'
    rw [hr] at h2
    cases h2
   ·cases h1'
  ·rw [List.getElem?_set_ne (Ne.symm hb)] at h1'
   exact .inr (.inr ⟨b',q,d,h1',h2,h3⟩)
theorem IM (hS:bJ E S w) (hE:cE E S lc A a w) {r:dD} (hr:r.locs=A.locs) {L:Loop} :
 cE (E.gH (w.heap.size + 1) lc) { S with heap:=S.heap++[.loop r] } lc { A with locs:=[] } ⟨a.tmps,{ target:=.collected w.heap.size,args:=#[] }::a.defers⟩
  ((w.alloc (.deferred (some []))).alloc (.loop L)):=by
 have hm:=mV E (w.heap.size + 1) lc
 have hg1:=fL.alloc w (.deferred (some []))
 have hg2:=fL.alloc (w.alloc (.deferred (some []))) (.loop L)
 have oJ:∀k,k < w.heap.size→((w.alloc (.deferred (some []))).alloc (.loop L)).heap[k]?=w.heap[k]?:=fun k hk=>
  (hg2.keep k (Nat.lt_of_lt_of_le hk hg1.size)).trans (hg1.keep k hk)
 refine⟨hE.nt,hE.tmps.mono hm (fun _ _ _ _ _ h _=>h),⟨(fun d cs hd=>by cases hd),(fun d d' B hd=>by cases hd)⟩,fun B hB=>?_,fun d hd=>?_,?_⟩
 ·obtain⟨d,hd,_⟩:=hB;cases hd
 ·rcases List.mem_cons.1 hd with rfl | hd
  ·refine⟨w.heap.size,rfl,?_,fun hf=>?_⟩
   ·rw [hg2.keep _ (by rw [iR];omega)];exact fB w _
   ·rcases pC hS hr hf with h | h | h
    ·have:=hS.MM h;omega
    ·omega
    ·have:=(hE.apart _ h).2.2;omega
  ·obtain⟨s,h1,h2,h3⟩:=hE.marks d hd
   have hlt:s < w.heap.size:=(aGa h2).1
   refine⟨s,h1,by rw [oJ s hlt];exact h2,fun hf=>?_⟩
   rcases pC hS hr hf with h | h | ⟨d',k1,k2⟩
   ·exact h3 h
   ·omega
   ·obtain⟨cs,hcs⟩:=Option.isSome_iff_exists.1 k1
    obtain⟨B,k3,arr,ty,k4,_⟩:=hE.locs.cells d' cs hcs
    rw [k2] at k3
    cases k3
    rw [h2] at k4
    cases k4
 ·show List.Pairwise _ ((_::a.defers).map (·.target))
  rw [List.map_cons]
  refine List.Pairwise.cons (fun t ht=>?_) hE.kY
  obtain⟨d,hd,rfl⟩:=List.mem_map.1 ht
  intro r s h1 h2
  cases h1
  obtain⟨s',k1,k2,_⟩:=hE.marks d hd
  rw [h2] at k1
  cases k1
  have:=(aGa k2).1
  omega
theorem isSome_max {o p:Option Nat} {top:Nat} (h:within (both o p) top):o.isSome=true∧p.isSome=true:=by
 cases o<;>cases p<;>first | exact⟨rfl,rfl⟩ | exact absurd h bX
theorem Cp {l m:List V} (hl:(aM l).isSome=true) (hm:(aM m).isSome=true):(aM (l++m)).isSome=true:=by
 obtain⟨i,hi⟩:=bD hl
 obtain⟨j,hj⟩:=bD hm
 exact a7 (n:=max i j) (jr.2 ⟨dW hi (Nat.le_max_left _ _),dW hj (Nat.le_max_right _ _)⟩)
theorem Ht {v:V} {m:List V} (hl:(gn v).isSome=true) (hm:(aM m).isSome=true):(aM (v::m)).isSome=true:=by
 obtain⟨i,hi⟩:=bD hl
 obtain⟨j,hj⟩:=bD hm
 exact a7 (n:=max i j) (aY.2 ⟨dW hi (Nat.le_max_left _ _),dW hj (Nat.le_max_right _ _)⟩)
theorem Cq (hC:CfgOk C P) (hR:cN C P R) {g:Operand} {ps:Array Tmp} {x y:Code} (hok:codeOk (C.fc fid) (.rangeFunc g ps x y)=true) :
 dp P none (.rangeFunc g ps x y) (fun A S=>mS R fid g ps x y A S):=by
 intro n E S lc A a w e A1 S1 Q hS hE h hQ
 replace h:mS R fid g ps x y A S=some (e,A1,S1):=h
 unfold mS at h
 split at h
 ·rename_i f top first cap hg
  split at h
  ·rename_i v S' eA
   split at h
   ·rename_i r hr
    split at h
    ·rename_i hst
     cases h
     rw [bS,aq] at hr
     rw [bM,bM,aq] at eA
     obtain⟨ok1,ok2⟩:=br.1 (show cB (cB (codeOk (C.fc fid) x) (dx x)) (cB (codeOk (C.fc fid) y) (dx y))=true from hok)
     obtain⟨w0,hw0⟩ : ∃w0:World,w0=w:=⟨w,rfl⟩
     have hlen:=hS.len
     have hm:=mV E (w.heap.size + 1) lc
     have MR:(w.alloc (.deferred (some []))).heap.size=w.heap.size + 1:=iR w _
     have hg1:=fL.alloc w (.deferred (some []))
     have wx:∀fn:FuncId,∃(l:Nat) (mark:List Deferred) (w₁:World) (d:Deferred) (w₁' : World) (f:FuncId) (args:Array Value) (w₂:World),
      (Instr.enterLoop fn a.tmps ps x y (Fw none).round).run P w=.ok (l,mark) w₁∧(resolve a.eval (rangeCall g l) 0).run P w₁=.ok d w₁'∧
      (∀f',Target.leads P w₁' d.target d.args=some f'→(Fw none).fn f')∧(invoke d.target d.args).run P w₁'=.ok (.enter f args) w₂∧
      ((Fw none).depth.isSome=true→1≤n)∧CallsIn (Fw none) (n - 1) P f args w₂ (rangePost (Fw none) n P l Q { a with defers:=mark++a.defers }):=by
      intro fn
      obtain⟨hvt,hp1,hp2,Xf,Xc,hcx,hXf,hXc⟩:=aR hE.tmps hg
      have hvE:a8 E lc (.fn f top first cap) (.func (.func f) ⟨Xf⟩ ⟨Xc⟩):=⟨hvt,hp1,hp2,Xf,Xc,rfl,hXf,hXc⟩
      obtain⟨_,_,_,Yf,Yc,hcy,hYf,hYc⟩:=a8.mono (lc':=bB) hvE hm (fun d B _ hi=>by cases hi)
      injection hcy with _ e1 e2
      have e1' : Xf=Yf:=congrArg Array.toList e1
      have e2' : Xc=Yc:=congrArg Array.toList e2
      subst e1';subst e2'
      let L:Loop:={ state:=.ready,pending:=none,fn:=fn,tmps:=a.tmps,params:=ps,assign:=x,body:=y,defers:=w.heap.size }
      let r0:dD:={ fid:=fid,nt:=A.nt,tmps:=A.tmps,locs:=A.locs,params:=ps.toList,assign:=x,body:=y,st:=.ready,jj:=none }
      have hgL:fL w ((w.alloc (.deferred (some []))).alloc (.loop L)):=by
       have hg2:=fL.alloc (w.alloc (.deferred (some []))) (.loop L)
       exact⟨hg2.os.trans hg1.os,hg2.tape.trans hg1.tape,hg2.output.trans hg1.output,Nat.le_trans hg1.size hg2.size,
        fun k hk=>(hg2.keep k (Nat.lt_of_lt_of_le hk hg1.size)).trans (hg1.keep k hk)⟩
      have tI:((w.alloc (.deferred (some []))).alloc (.loop L)).heap[w.heap.size + 1]?=some (.loop L):=by
       rw [← MR];exact fB _ _
      have hH:fS (E.gH (w.heap.size + 1) lc) ((w.alloc (.deferred (some []))).alloc (.loop L)) (w.heap.size + 1) lc r0:=
       ⟨L,tI,rfl,fun _=>⟨⟨(hC.okc fid x).2 (br.1 ok1),(hC.okc fid y).2 (br.1 ok2)⟩,rfl,rfl,rfl,hE.nt,hE.tmps.mono hm (fun _ _ _ _ _ h _=>h)⟩,
        fun _=>rfl,fun _=>rfl,fun h=>by cases h⟩
      have hS1:=Hs hS hE hgL (l:=w.heap.size + 1) (by omega) (r:=r0) rfl hH
      have hE1:=IM hS hE (r:=r0) rfl (L:=L)
      have hb:(E.gH (w.heap.size + 1) lc).ρ[S.heap.length]?=some (w.heap.size + 1):=by
       rw [hS.len];show (E.ρ++[_])[E.ρ.length]?=_;simp
      obtain⟨hl1,hl2⟩:=isSome_max hvt
      have eZ:au (E.gH (w.heap.size + 1) lc) bB (first++.yield S.heap.length::cap) (Xf++(.func (.yield (w.heap.size + 1)) #[] #[])::Xc):=
       hYf.append ⟨_,_,rfl,⟨_,hb,rfl⟩,hYc⟩
      have Pk:(aM (first++.yield S.heap.length::cap)).isSome=true:=Cp hl1 (Ht rfl hl2)
      have hnp:((C.fc f).pure && allB V.pure (first++.yield S.heap.length::cap))=false:=by
       cases hq:allB V.pure (first++.yield S.heap.length::cap) with
       | false=>cases (C.fc f).pure<;>rfl
       | true=>have:=allB_mem hq (.yield S.heap.length) (List.mem_append_right _ (aMs));cases this
      obtain⟨_,D3⟩:=hR.call f _ _ v S' hnp eA
      refine⟨w.heap.size + 1,[{ target:=.collected w.heap.size,args:=#[] }],(w.alloc (.deferred (some []))).alloc (.loop L),
       { target:=.fn (.func f) ⟨Xc⟩,args:=⟨Xf++[.func (.yield (w.heap.size + 1)) #[] #[]]⟩},(w.alloc (.deferred (some []))).alloc (.loop L),f,
       ⟨Xf++(.func (.yield (w.heap.size + 1)) #[] #[])::Xc⟩,(w.alloc (.deferred (some []))).alloc (.loop L),?_,?_,fun _ _=>trivial,?_,fun h=>(by cases h),?_⟩
      ·show Result.ok ((w.alloc (.deferred (some []))).heap.size,_) _=_
       rw [MR]
       rfl
      ·have:a.eval g=.func (.func f) ⟨Xf⟩ ⟨Xc⟩:=hcx
       have hc:a.eval (.const (.func (.yield (w.heap.size + 1)) #[] #[]))=.func (.yield (w.heap.size + 1)) #[] #[]:=rfl
       simp [resolve,Deferred.ofValue,this,hc]
      ·have:((⟨Xf++[.func (.yield (w.heap.size + 1)) #[] #[]]⟩ : Array Value)++(⟨Xc⟩ : Array Value)) =⟨Xf++(.func (.yield (w.heap.size + 1)) #[] #[])::Xc⟩:=by
        apply Array.toList_inj.1;simp
       show (callFunc f (_++_)).run P _=_
       rw [this]
       exact lq (hR.fn f _ _ _ eA)
      ·refine (callsIn_wide (n:=n - 1)).2 ((D3 _ _ _ hS1 eZ Pk).mono ?_)
       rintro e' w2 ⟨cv,E2,rfl,hS2,oR,_⟩
       have hb2:=oR.mono.ln hb
       have K5:E2.lm S.heap.length=lc:=by
        rw [oR.lm _ (aGs hb).1,hlen];exact if_pos rfl
       obtain⟨⟨L2,q1,q2,q3,q4,q5,q6⟩,MS⟩:=hS2.blk _ _ _ hb2 hr
       rw [K5] at MS
       have hnb:L2.state≠.busy:=by
        rcases hst with h | h
        ·rw [h] at q2;intro hh;rw [show L2.state=.ready from q2] at hh;cases hh
        ·rw [h] at q2;intro hh;rw [show L2.state=.done from q2] at hh;cases hh
       have IN:w.heap.size + 1 < w2.heap.size:=(aGa q1).1
       have hk4:∀k,k≠w.heap.size + 1→({ w2 with heap:=w2.heap.setIfInBounds (w.heap.size + 1) (.loop { L2 with state:=.exhausted }) }:World).heap[k]?=w2.heap[k]?:=
        fun k hk=>Array.getElem?_setIfInBounds_ne (Ne.symm hk)
       have hS3:=sA (w':={ w2 with heap:=w2.heap.setIfInBounds (w.heap.size + 1) (.loop { L2 with state:=.exhausted }) }) hS2 hb2 hr hk4
        (r':={ r with st:=.rk,locs:=[],tmps:=[],jj:=none })
        ⟨{ L2 with state:=.exhausted },(by simp [IN]),trivial,fun h=>absurd rfl h,fun _=>rfl,fun h=>(by cases h),fun h=>(by cases h)⟩
        ⟨(fun d cs hd=>by cases hd),(fun d d' B hd=>by cases hd)⟩ (fun d B hd=>by cases hd)
       have hE2:=hE1.frame oR.mono oR.grow oR.size oR.keep oR.oP
       have y9:w.heap.size + 1∈E2.ρ:=aMg hb2
       have hE3:cE E2 { S' with heap:=S'.heap.set S.heap.length (.loop { r with st:=.rk,locs:=[],tmps:=[],jj:=none }) } lc { A with locs:=r.locs }
        ⟨a.tmps,{ target:=.collected w.heap.size,args:=#[] }::a.defers⟩ { w2 with heap:=w2.heap.setIfInBounds (w.heap.size + 1) (.loop { L2 with state:=.exhausted }) }:=by
        refine⟨hE.nt,hE2.tmps,MS.mono (fu.refl E2) (fun k hk=>hk4 k fun e=>?_),fun B hB=>?_,fun d hd=>?_,hE2.kY⟩
        ·obtain⟨d,hd,hB⟩:=hk
         exact (hS2.ll _ r d k hr hd (by rw [K5];exact hB)).1 (by rw [e];exact y9)
        ·obtain⟨d,hd,hB⟩:=hB
         have hB' : E2.lm S.heap.length d=some B:=by rw [K5];exact hB
         obtain⟨j1,j2,j3,j4⟩:=sB hS2 hr hd hB'
         refine⟨fun hf=>?_,j3,?_⟩
         ·rcases hf with hf | ⟨o,ho,hog⟩ | ⟨b',r',d',i1,i2,i3⟩
          ·exact j1 hf
          ·obtain⟨t,ht⟩:=List.mem_iff_getElem?.1 ho
           exact j2 t o ht hog
          ·have i1' : (S'.heap.set S.heap.length (.loop { r with st:=.rk,locs:=[],tmps:=[],jj:=none }))[b']?=some (.loop r'):=i1
           by_cases hbb:b'=S.heap.length
           ·subst hbb
            rw [List.getElem?_set_self (aGs hr).1] at i1'
            cases i1'
            cases i2
           ·rw [List.getElem?_set_ne (Ne.symm hbb)] at i1'
            exact j4 b' r' d' hbb i1' i2 i3
         ·show B < (w2.heap.setIfInBounds _ _).size
          rw [Array.size_setIfInBounds];exact hS2.jv hr hd hB'
        ·obtain⟨s,i1,i2,i3⟩:=hE2.marks d hd
         exact⟨s,i1,by rw [hk4 s (fun e=>i3 (.inl (by rw [e];exact y9)))];exact i2,fun hf=>i3 (jf rfl hf)⟩
       have jz:Res E S lc A ⟨a.tmps,{ target:=.collected w.heap.size,args:=#[] }::a.defers⟩ w E2
        { S' with heap:=S'.heap.set S.heap.length (.loop { r with st:=.rk,locs:=[],tmps:=[],jj:=none }) } lc { A with locs:=r.locs }
        { w2 with heap:=w2.heap.setIfInBounds (w.heap.size + 1) (.loop { L2 with state:=.exhausted }) }:=by
        have Nw:∀k,FP (E.gH (w.heap.size + 1) lc) { S with heap:=S.heap++[.loop r0] } k→FL E S lc A k∨w.heap.size≤k:=fun k hk=>by
         rcases pC hS rfl hk with h | h | h
         ·exact .inl (.inl h)
         ·exact .inr (by omega)
         ·exact .inl (.inr h)
        refine⟨hS3,hE3,⟨oR.os.trans hgL.os,oR.tape.trans hgL.tape,oR.output.trans hgL.output,?_,fun k hk hn=>?_,fun k hk=>?_,oR.mem,fun B o z hz=>?_,?_,oR.tok,fun b hb=>?_⟩,rfl,fun _ _=>rfl⟩
        ·show w.heap.size≤(w2.heap.setIfInBounds _ _).size
         rw [Array.size_setIfInBounds];exact Nat.le_trans hgL.size oR.size
        ·rw [hk4 k (by omega),oR.keep k (Nat.lt_of_lt_of_le hk hgL.size) (fun hf=>(Nw k hf).elim hn (by omega)),hgL.keep k hk]
        ·have Q5:FP E2 S' k:=by
          rcases hk with hk | ⟨d,hd,hB⟩
          ·exact jf rfl hk
          ·exact .inr (.inr ⟨_,r,d,hr,hd,by rw [K5];exact hB⟩)
         rcases oR.grow k Q5 with h | h
         ·exact Nw k h
         ·exact .inr (Nat.le_trans hgL.size h)
        ·rcases oR.oP B o z hz with h | h | h
         ·exact .inl h
         ·exact .inr (Nw B h)
         ·exact .inr (.inr (Nat.le_trans hgL.size h))
        ·obtain⟨rr,hrr⟩:=oR.rho
         exact⟨(w.heap.size + 1)::rr,by rw [hrr];show (E.ρ++[_])++rr=_;simp⟩
        ·rw [oR.lm b (by show b < (E.ρ++[_]).length;simp;omega)];exact hm.lm b hb
       have Nx:jN w a ⟨a.tmps,{ target:=.collected w.heap.size,args:=#[] }::a.defers⟩:=fun d hd=>by
        rcases List.mem_cons.1 hd with rfl | hd
        ·exact .inr ⟨_,rfl,Nat.le_refl _⟩
        ·exact .inl hd
       have hq:=hQ E2 lc _ _ Nx (by rw [fp,aq];exact jz)
       refine⟨L2.pending,_,run_endLoop q1 hnb,?_⟩
       rcases hst with h | h
       ·rw [q4 (.inl h)] at hq
        rw [q5 h] at hq ⊢
        exact hq
       ·obtain⟨ex,z1,z2,z3⟩:=q6 h
        rw [z1] at hq
        rw [z2] at hq ⊢
        cases ex with
        | normal=>exact absurd rfl z3
        | ret=>exact wpIn_ret hq
        | exit i=>exact wpIn_exit hq
     exact wpIn_rangeFunc (fun fn _=>wx fn)
    ·cases h
   ·cases h
  ·cases h
 ·cases h
end
section
variable {C:Cfg} {P:Program} {R:Run} {E:Rho} {S S1:St} {lc:b9} {A:Env} {a:Act} {w w' : World} {k:Nat}
theorem qY {b:Nat} {st:RSt} {r:dD} (h:oV S b st=some r):S.heap[b]?=some (.loop r)∧r.st=st∧r.locs=[]:=by
 unfold oV at h
 split at h
 ·rename_i r' hr
  split at h
  ·rename_i hc
   cases h
   rw [bS] at hr
   exact⟨hr,hc.1,List.isEmpty_iff.1 hc.2⟩
  ·cases h
 ·cases h
theorem iT (S:St) (b:Nat) (r:dD):eI S b r={ S with heap:=S.heap.set b (.loop r) }:=by
 unfold eI;rw [fp]
theorem run_getLoop {l:Nat} {L:Loop} (h:w.heap[l]?=some (.loop L)):(Instr.getLoop l).run P w=.ok L w:=by
 simp [Instr.getLoop,getObj,Sem.run,h]
theorem run_beginRound {l:Nat} {L:Loop} (h:w.heap[l]?=some (.loop L)) (hs:L.state=.ready) :
 (Instr.beginRound l).run P w=.ok () { w with heap:=w.heap.setIfInBounds l (.loop { L with state:=.busy }) }:=by
 simp [Instr.beginRound,Instr.getLoop,getObj,setObj,Sem.run,h,hs]
theorem run_endRound {l:Nat} {L:Loop} (h:w.heap[l]?=some (.loop L)) (j:Option Code) :
 (Instr.endRound l j).run P w=.ok (.bool j.isNone) { w with heap:=w.heap.setIfInBounds l (.loop { L with state:=if j.isNone then .ready else .done,pending:=j }) }:=by
 simp [Instr.endRound,Instr.getLoop,getObj,setObj,Sem.run,h]
theorem D4 {l:b9} {ts:List Nat}:∀{T:Array Value} {tmps Cr : List (Nat×V)} {vs:List V} {X:List Value},rA tmps ts vs=some Cr→qK E l tmps T→au E l vs X→(∀t∈ts,t < T.size)→
 qK E l Cr ((ts.zip X).foldl (fun T p=>T.setIfInBounds p.1 p.2) T)∧((ts.zip X).foldl (fun T p=>T.setIfInBounds p.1 p.2) T).size=T.size:=by
 induction ts with
 | nil=>
  intro T tmps Cr vs X h hT hX _
  cases vs with
  | nil=>cases h;exact⟨hT,rfl⟩
  | cons v vs=>cases h
 | cons t ts ih=>
  intro T tmps Cr vs X h hT hX hlt
  cases vs with
  | nil=>cases h
  | cons v vs=>
   obtain⟨x,Y,rfl,h1,h2⟩:=hX
   have h' : rA ((t,v)::tmps) ts vs=some Cr:=h
   have:=ih (T:=T.setIfInBounds t x) h' (wa hT (hlt t (aMs)) h1) h2 (fun s hs=>by rw [Array.size_setIfInBounds];exact hlt s (aMt _ hs))
   rw [List.zip_cons_cons,List.foldl_cons]
   exact⟨this.1,this.2.trans (by rw [Array.size_setIfInBounds])⟩
end
section
variable {C:Cfg} {P:Program} {R:Run} {E:Rho} {S S1:St} {lc:b9} {A:Env} {a:Act} {w w' : World} {k:Nat}
theorem qZ:∀{l l' : List (Nat×V)} {ts:List Nat} {vs:List V},rA l ts vs=some l'→vs.length=ts.length
 | _,_,[],[],_=>rfl
 | _,_,[],_::_,h=>by cases h
 | _,_,_::_,[],h=>by cases h
 | l,l',t::ts,v::vs,h=>by
  have h' : rA ((t,v)::l) ts vs=some l':=h
  rw [aLc,aLc,qZ h']
theorem run_yield {B:Nat} {L:Loop} (h:w.heap[B]?=some (.loop L)) {X:List Value} (hX:X.length=L.params.size) :
 (Instr.yield B ⟨X⟩).run P w=.ok (.round B L.fn ((L.params.toList.zip X).foldl (fun T p=>T.setIfInBounds p.1 p.2) L.tmps) L.assign L.body) w:=by
 have hf:(L.params.zip ⟨X⟩).foldl (fun tmps (x:Tmp×Value)=>tmps.setIfInBounds x.1 x.2) L.tmps=(L.params.toList.zip X).foldl (fun T p=>T.setIfInBounds p.1 p.2) L.tmps:=by
  rw [← Array.foldl_toList,Array.toList_zip]
 simp only [Instr.yield,Sem.run_bind,run_getLoop h,Result.andThen_ok]
 have hz:(L.params.zip (⟨X⟩ : Array Value)).size=L.params.size:=by simp [hX]
 rw [hz] at hf
 simp [hX]
 exact hf
theorem Cs (hS:bJ E S w) {b B:Nat} (hb:E.ρ[b]?=some B) {r:dD} (hr:S.heap[b]?=some (.loop r)) (hst:r.st=.ready) {ts:List (Nat×V)} {T:Array Value}
 (hT:qK E (E.lm b) ts T) (hnt:r.nt≤T.size) :
 bJ E (eI S b { r with st:=.ke,locs:=[] }) w∧
 cE E (eI S b { r with st:=.ke,locs:=[] }) (E.lm b) { nt:=r.nt,tmps:=ts,locs:=r.locs,fix:=jT r.locs } ⟨T,[]⟩ w:=by
 rw [iT]
 obtain⟨⟨L,q1,q2,q3,q4,q5,q6⟩,hL⟩:=hS.blk _ _ _ hb hr
 rw [hst] at q2
 refine⟨sA hS hb hr (fun _ _=>rfl) ⟨L,q1,q2,fun _=>q3 (by rw [hst];intro h;cases h),fun _=>q4 (.inl hst),fun h=>(by cases h),fun h=>(by cases h)⟩
  ⟨(fun d cs hd=>by cases hd),(fun d d' B hd=>by cases hd)⟩ (fun d B hd=>by cases hd),⟨hnt,hT,hL,fun j hj=>?_,fun d hd=>(by cases hd),List.Pairwise.nil⟩⟩
 obtain⟨d,hd,hB⟩:=hj
 obtain⟨j1,j2,j3,j4⟩:=sB hS hr hd hB
 refine⟨fun hf=>?_,j3,hS.jv hr hd hB⟩
 rcases hf with hf | ⟨o,ho,hog⟩ | ⟨b',r',d',i1,i2,i3⟩
 ·exact j1 hf
 ·obtain⟨t,ht⟩:=List.mem_iff_getElem?.1 ho
  exact j2 t o ht hog
 ·have i1' : (S.heap.set b (.loop { r with st:=.ke,locs:=[] }))[b']?=some (.loop r'):=i1
  by_cases hbb:b'=b
  ·subst hbb
   rw [List.getElem?_set_self (aGs hr).1] at i1'
   cases i1'
   cases i2
  ·rw [List.getElem?_set_ne (Ne.symm hbb)] at i1'
   exact j4 b' r' d' hbb i1' i2 i3
theorem kl {l:List (Nat×List V)} {d:Nat} {cs:List V}:∀{ks:List Nat},look d (gD l ks)=some cs→d∈ks∧look d l=some cs
 | [],h=>by cases h
 | t::ts,h=>by
  unfold gD at h
  split at h
  ·rename_i v hv
   by_cases hdt:d=t
   ·subst hdt
    rw [bG] at h
    cases h
    exact⟨aMs,hv⟩
   ·rw [aX hdt] at h
    obtain⟨h1,h2⟩:=kl (ks:=ts) h
    exact⟨aMt _ h1,h2⟩
  ·obtain⟨h1,h2⟩:=kl (ks:=ts) h
   exact⟨aMt _ h1,h2⟩
theorem Cu (hS:bJ E S w) (hE:cE E S lc A a w) {b B:Nat} (hb:E.ρ[b]?=some B) {r r' : dD} (hr:S.heap[b]?=some (.loop r)) {keys:List Nat}
 (hlc:∀d∈keys,lc d=E.lm b d) (Hu:r'.locs=gD A.locs keys) {L:Loop} (hk:∀k,k≠B→w'.heap[k]?=w.heap[k]?) (hw:w.heap[B]?=some (.loop L))
 (hH:fS E w' B (E.lm b) r'):bJ E (eI S b r') w':=by
 rw [iT]
 have hin:∀d cs,look d r'.locs=some cs→d∈keys∧look d A.locs=some cs:=fun d cs hd=>kl (by rw [← Hu];exact hd)
 refine sA hS hb hr hk hH ⟨fun d cs hd=>?_,fun d d' C h1 h2 h3 h4=>?_⟩ (fun d C hd hC=>?_)
 ·obtain⟨h1,h2⟩:=hin d cs hd
  obtain⟨C,h3,h4⟩:=hE.locs.cells d cs h2
  refine⟨C,by rw [← hlc d h1];exact h3,h4.mono (fu.refl E) (hk C fun e=>?_)⟩
  obtain⟨arr,ty,h5,_⟩:=h4
  rw [e,hw] at h5
  cases h5
 ·obtain⟨cs,hcs⟩:=Option.isSome_iff_exists.1 h1
  obtain⟨cs',Q6⟩:=Option.isSome_iff_exists.1 h2
  obtain⟨i1,i2⟩:=hin d cs hcs
  obtain⟨j1,j2⟩:=hin d' cs' Q6
  exact hE.locs.inj d d' C (by rw [i2];rfl) (by rw [j2];rfl) (by rw [hlc d i1];exact h3) (by rw [hlc d' j1];exact h4)
 ·obtain⟨cs,hcs⟩:=Option.isSome_iff_exists.1 hd
  obtain⟨i1,i2⟩:=hin d cs hcs
  exact vl hE (by rw [i2];rfl) (by rw [hlc d i1];exact hC)
end
section
variable {C:Cfg} {P:Program} {R:Run} {k:Nat}
theorem Cv {l:List (Nat×List V)} {d:Nat} (h:d∈jT l):memN d (jT l)=true:=memN_iff.2 h
theorem IP {E:Rho} {S:St} {lc:b9} {A:Env} {a:Act} {w w' : World} (hE:cE E S lc A a w) {b B:Nat} (hb:E.ρ[b]?=some B) {r' : dD} (Hu:r'.locs=[])
 (hk:∀k,k≠B→w'.heap[k]?=w.heap[k]?) (hsz:w'.heap.size=w.heap.size):cE E (eI S b r') lc A a w':=by
 rw [iT]
 have hB:FP E S B:=.inl (aMg hb)
 refine⟨hE.nt,hE.tmps,hE.locs.mono (fu.refl E) (fun k hk'=>hk k fun e=>(hE.apart k hk').1 (by rw [e];exact hB)),fun C hC=>?_,fun d hd=>?_,hE.kY⟩
 ·obtain⟨h1,h2,h3⟩:=hE.apart C hC
  exact⟨fun hf=>h1 (jf Hu hf),h2,by rw [hsz];exact h3⟩
 ·obtain⟨s,h1,h2,h3⟩:=hE.marks d hd
  exact⟨s,h1,by rw [hk s (fun e=>h3 (by rw [e];exact hB))];exact h2,fun hf=>h3 (jf Hu hf)⟩
theorem D5 {E E1 E2:Rho} {S S1 S2:St} {lc1 lc2:b9} {A1 A2:Env} {a1 a2:Act} {w w1 w1' w2 w3:World} {b B:Nat} {r r1 r3:dD} {L2:Loop} {nt:Nat} {ts:List (Nat×V)} (hb:E.ρ[b]?=some B)
 (hr:S.heap[b]?=some (.loop r))
 (hr1:Res E (eI S b { r with st:=.ke,locs:=[] }) (E.lm b) { nt:=nt,tmps:=ts,locs:=r.locs,fix:=jT r.locs } a1 w E1 S1 lc1 A1 w1)
 (h1:r1.locs=[]) (hk1:∀k,k≠B→w1'.heap[k]?=w1.heap[k]?) (ho1:w1'.os=w1.os) (ht1:w1'.tape=w1.tape) (hu1:w1'.output=w1.output) (hs1:w1'.heap.size=w1.heap.size)
 (hr2:Res E1 (eI S1 b r1) lc1 A1 a2 w1' E2 S2 lc2 A2 w2) {r2:dD} (hg2:S2.heap[b]?=some (.loop r2)) (hq:w2.heap[B]?=some (.loop L2))
 (h3:r3.locs=gD A2.locs (jT r.locs)) (hk3:∀k,k≠B→w3.heap[k]?=w2.heap[k]?) (ho3:w3.os=w2.os) (ht3:w3.tape=w2.tape) (hu3:w3.output=w2.output) (hs3:w3.heap.size=w2.heap.size)
 (hH:fS E2 w3 B (E2.lm b) r3) :
 bJ E2 (eI S2 b r3) w3∧Step E E2 (FP E S) (FP E2 (eI S2 b r3)) w w3:=by
 have BT:b < E.ρ.length:=(aGs hb).1
 have hb1:=hr1.step.mono.ln hb
 have hb2:=hr2.step.mono.ln hb1
 have hlc:∀d∈jT r.locs,lc2 d=E2.lm b d:=fun d hd=>by
  have e1:lc1 d=E.lm b d:=hr1.fix.2 d (Cv hd)
  have e2:lc2 d=lc1 d:=hr2.fix.2 d (by rw [hr1.fix.1];exact Cv hd)
  rw [e2,e1,hr2.step.lm b (Nat.lt_of_lt_of_le BT hr1.step.mono.len),hr1.step.lm b BT]
 have Q7:FL E1 S1 lc1 A1 B:=.inl (.inl (aMg hb1))
 have Q8:FL E2 S2 lc2 A2 B:=.inl (.inl (aMg hb2))
 have s1:Step E E1 (FP E S) (FL E1 S1 lc1 A1) w w1:=hr1.step.wider fun k hk=>by
  rcases hk with hk | ⟨d,hd,hB⟩
  ·rw [iT] at hk;exact jf rfl hk
  ·exact .inr (.inr ⟨b,r,d,hr,hd,hB⟩)
 have s2:Step E1 E1 (FL E1 S1 lc1 A1) (FL E1 (eI S1 b r1) lc1 A1) w1 w1':=
  ⟨ho1,ht1,hu1,by rw [hs1];exact Nat.le_refl _,fun k _ hn=>hk1 k fun e=>hn (by rw [e];exact Q7),fun k hk=>.inl (by
   rcases hk with hk | hk
   ·rw [iT] at hk;exact .inl (jf h1 hk)
   ·exact .inr hk),fun _ _ _ h=>h,fun _ _ _ h=>.inl h,⟨[],by simp⟩,lR.refl E1,fun _ _=>rfl⟩
 have s3:Step E2 E2 (FL E2 S2 lc2 A2) (FP E2 (eI S2 b r3)) w2 w3:=
  ⟨ho3,ht3,hu3,by rw [hs3];exact Nat.le_refl _,fun k _ hn=>hk3 k fun e=>hn (by rw [e];exact Q8),fun k hk=>.inl (by
   rw [iT] at hk
   rcases hk with hk | hk | ⟨b',q,d,i1,i2,i3⟩
   ·exact .inl (.inl hk)
   ·exact .inl (.inr (.inl hk))
   ·have i1' : (S2.heap.set b (.loop r3))[b']?=some (.loop q):=i1
    by_cases hbb:b'=b
    ·subst hbb
     rw [List.getElem?_set_self (aGs hg2).1] at i1'
     cases i1'
     obtain⟨cs,hcs⟩:=Option.isSome_iff_exists.1 i2
     obtain⟨j1,j2⟩:=kl (by rw [← h3];exact hcs)
     exact .inr ⟨d,by rw [j2];rfl,by rw [hlc d j1];exact i3⟩
    ·rw [List.getElem?_set_ne (Ne.symm hbb)] at i1'
     exact .inl (.inr (.inr ⟨b',q,d,i1',i2,i3⟩))),fun _ _ _ h=>h,fun _ _ _ h=>.inl h,⟨[],by simp⟩,lR.refl E2,fun _ _=>rfl⟩
 exact⟨Cu hr2.cS hr2.cq hb2 hg2 hlc h3 hk3 hq hH,((s1.trans s2).trans hr2.step).trans s3⟩
theorem Cw (hC:CfgOk C P) (y8:∀ro fid c,codeOk (C.fc fid) c=true→(ro=none∨dx c=true)→dp P ro c (fun A S=>evalCode C R k fid (C.fc fid) c A S))
 {b:Nat} {args:List V} {S S' : St} {v:V} (h:round C R k b args S=some (v,S')):v.lvl.isSome=true∧
 ∀E w X B,bJ E S w→au E bB args X→(aM args).isSome=true→E.ρ[b]?=some B→Yields P B ⟨X⟩ w (ky E S w v S'):=by
 unfold round at h
 split at h
 ·rename_i r hr
  rw [bS] at hr
  split at h
  ·rename_i yW
   obtain⟨hst,Tx,D6⟩:=yW
   split at h
   ·rename_i ts hts
    unfold tF at h
    split at h
    ·rename_i A1 S1 yz
     split at h
     ·rename_i r1 hl1
      unfold vN at h
      split at h
      ·rename_i e A2 S2 wu
       split at h
       ·rename_i r2 hl2
        obtain⟨g1,g2,g3⟩:=qY hl1
        obtain⟨f1,f2,f3⟩:=qY hl2
        have hv:v.lvl.isSome=true:=by cases e<;>(cases h;rfl)
        refine⟨hv,fun E w X B hS hX hlX hb=>?_⟩
        obtain⟨⟨L,q1,q2,q3,q4,q5,q6⟩,hL⟩:=hS.blk _ _ _ hb hr
        obtain⟨⟨o1,o2⟩,p1,p2,p3,p4,p5⟩:=q3 (by rw [hst];intro h;cases h)
        have hlen:X.length=L.params.size:=by
         rw [hX.length,qZ hts,← p1,Array.length_toList]
        obtain⟨n0,hn0⟩:=bD hlX
        obtain⟨hT,hTs⟩:=D4 hts p5 (hX.nM hn0) (fun t ht=>by
         have:=allB_mem D6 t ht
         rw [Nat.blt_eq] at this
         omega)
        obtain⟨hS0,hE0⟩:=Cs hS hb hr hst hT (by rw [hTs];exact p4)
        refine⟨_,_,_,_,run_yield q1 hlen,fun n=>roundIn_of_wpIn trivial ?_⟩
        rw [p1,p2,p3]
        obtain⟨c1,c2⟩:=(hC.okc _ _).1 o1
        obtain⟨c3,c4⟩:=(hC.okc _ _).1 o2
        refine y8 (some B) r.fid r.assign c1 (.inr c2) n hS0 hE0 yz (fun E1 lc1 a1 w1 _ hr1=>?_)
        have hb1:=hr1.step.mono.ln hb
        obtain⟨⟨L1,x1,x2,x3,x4,x5,x6⟩,_⟩:=hr1.cS.blk _ _ _ hb1 g1
        rw [g2] at x2
        have hk1:∀k,k≠B→({ w1 with heap:=w1.heap.setIfInBounds B (.loop { L1 with state:=.busy }) }:World).heap[k]?=w1.heap[k]?:=fun k hk=>Array.getElem?_setIfInBounds_ne (Ne.symm hk)
        have Q9:B < w1.heap.size:=(aGa x1).1
        refine⟨_,run_beginRound x1 x2,?_⟩
        have hS1:bJ E1 (eI S1 b { r1 with st:=.busy }) { w1 with heap:=w1.heap.setIfInBounds B (.loop { L1 with state:=.busy }) }:=by
         rw [iT]
         exact sA hr1.cS hb1 g1 hk1 ⟨{ L1 with state:=.busy },(by simp [Q9]),rfl,fun _=>x3 (by rw [g2];intro h;cases h),fun _=>x4 (.inr (.inl g2)),fun h=>(by cases h),fun h=>(by cases h)⟩
          ⟨(fun d cs hd=>by rw [show ({ r1 with st:=RSt.busy }:dD).locs=r1.locs from rfl,g3] at hd;cases hd),(fun d d' B hd=>by rw [show ({ r1 with st:=RSt.busy }:dD).locs=r1.locs from rfl,g3] at hd;cases hd)⟩
          (fun d B hd=>by rw [show ({ r1 with st:=RSt.busy }:dD).locs=r1.locs from rfl,g3] at hd;cases hd)
        have hE1:=IP (w':={ w1 with heap:=w1.heap.setIfInBounds B (.loop { L1 with state:=.busy }) }) (S:=S1) hr1.cq hb1 (r':={ r1 with st:=.busy }) g3 hk1 (Array.size_setIfInBounds)
        refine y8 (some B) r.fid r.body c3 (.inr c4) n hS1 hE1 wu (fun E2 lc2 a2 w2 _ hr2=>?_)
        have hb2:=hr2.step.mono.ln hb1
        obtain⟨⟨L2,y1,y2,y3,y4,y5,y6⟩,_⟩:=hr2.cS.blk _ _ _ hb2 f1
        have IN:B < w2.heap.size:=(aGa y1).1
        have y3':=y3 (by rw [f2];intro h;cases h)
        have vk:∀(j:Option Code) (r3:dD),r3.locs=gD A2.locs (jT r.locs)→
         fS E2 { w2 with heap:=w2.heap.setIfInBounds B (.loop { L2 with state:=if j.isNone then .ready else .done,pending:=j }) } B (E2.lm b) r3→
         ∃v' w',(Instr.endRound B j).run P w2=.ok v' w'∧ky E S w (.bool j.isNone) (eI S2 b r3) (.returned v') w':=fun j r3 h3 hH=>by
         obtain⟨t1,t2⟩:=D5 hb hr hr1 (r1:={ r1 with st:=.busy }) g3 hk1 rfl rfl rfl (Array.size_setIfInBounds) hr2 f1 y1 h3
          (w3:={ w2 with heap:=w2.heap.setIfInBounds B (.loop { L2 with state:=if j.isNone then .ready else .done,pending:=j }) })
          (fun k hk=>Array.getElem?_setIfInBounds_ne (Ne.symm hk)) rfl rfl rfl (Array.size_setIfInBounds) hH
         exact⟨_,_,run_endRound y1 j,_,E2,rfl,t1,t2,rfl⟩
        cases e with
        | normal=>
         cases h
         exact vk none { r2 with st:=.ready,locs:=gD A2.locs (jT r.locs) } rfl
          ⟨{ L2 with state:=.ready,pending:=none },by simp [IN],rfl,fun _=>y3',fun _=>y4 (.inr (.inr f2)),fun _=>rfl,fun h=>by cases h⟩
        | ret=>
         cases h
         exact vk (some .ret) { r2 with st:=.done,locs:=gD A2.locs (jT r.locs),jj:=some .ret } rfl
          ⟨{ L2 with state:=.done,pending:=some .ret },by simp [IN],rfl,fun _=>y3',fun h=>(by rcases h with h | h | h<;>cases h),fun h=>(by cases h),fun _=>⟨.ret,rfl,rfl,by intro h;cases h⟩⟩
        | exit id=>
         cases h
         exact vk (some (.exit id)) { r2 with st:=.done,locs:=gD A2.locs (jT r.locs),jj:=some (.exit id) } rfl
          ⟨{ L2 with state:=.done,pending:=some (.exit id) },by simp [IN],rfl,fun _=>y3',fun h=>(by rcases h with h | h | h<;>cases h),fun h=>(by cases h),fun _=>⟨.exit id,rfl,rfl,by intro h;cases h⟩⟩
       ·cases h
      ·cases h
     ·cases h
    ·cases h
   ·cases h
  ·cases h
 ·cases h
end
section
variable {C:Cfg} {P:Program} {R:Run} {k:Nat}
theorem nu (hC:CfgOk C P) (hR:cN C P R) (ro:Option Nat) (fid:Nat) (c:Code) (hok:codeOk (C.fc fid) c=true) (hro:ro=none∨dx c=true) :
 dp P ro c (fun A S=>evalCode C R k fid (C.fc fid) c A S):=
 iS hC hR (fun g ps x y hn Ra=>by subst hn;exact Cq hC hR Ra) c hok hro
theorem Cx (hC:CfgOk C P) {id:Nat} {args:List V} {S:St} {r:V×St} (h:frame C R k id args S=some r) :
 ∃fn c,P.funcs[id]?=some fn∧(fn.name == "runtime.NumGoroutine")=false∧fn.body=some c:=by
 unfold frame at h
 split at h
 ·rename_i fn hfn
  split at h
  ·rename_i c hc
   obtain⟨h1,h2⟩:=hC.fn id fn hfn
   exact⟨fn,c,h1,h2,hc⟩
  ·cases h
 ·cases h
theorem D7 (id:Nat) (args:List V) (S:St):step C R k (.f id) args S =
 bif (C.fc id).pure && allB V.pure args then
  match frame C R k id (bn V.strip args) St.empty with
  | some (v,S')=>match frz { nt:=0,tmps:=[],locs:=[],fix:=[] } S' .any v with
   | some v=>if isZero v.lvl then some (v.cb,S) else none
   | none=>none
  | none=>none
 else frame C R k id args S:=rfl
theorem F0 (hC:CfgOk C P) (hR:cN C P R):cN C P (step C R k) where
 fn id args S r h:=by
  rw [D7] at h
  cases hq:((C.fc id).pure && allB V.pure args) with
  | true=>
   rw [hq] at h
   simp only [cond_true] at h
   split at h
   ·rename_i v S' hf
    exact Cx hC hf
   ·cases h
  | false=>
   rw [hq] at h
   exact Cx hC h
 pure id args S v S' hp ha h:=by
  rw [D7,hp,ha] at h
  simp only [Bool.and_self,cond_true] at h
  split at h
  ·rename_i v0 S0 hf
   split at h
   ·rename_i v1 hz
    split at h
    ·rename_i hz0
     cases h
     exact⟨rfl,D1 hC (fun fid c hok=>nu hC hR none fid c hok (.inl rfl)) hf hz hz0⟩
    ·cases h
   ·cases h
  ·cases h
 call id args S v S' hq h:=by
  rw [D7,hq] at h
  obtain⟨h1,h2⟩:=uB hC (fun fid c hok=>nu hC hR none fid c hok (.inl rfl)) (show frame C R k id args S=some (v,S') from h)
  exact⟨h1,fun E w X hS hX _=>h2 E w X hS hX⟩
 yield b args S v S' h:=Cw hC (fun ro fid c hok hro=>nu hC hR ro fid c hok hro) (show round C R k b args S=some (v,S') from h)
theorem Ny (hC:CfgOk C P):∀n,cN C P (run C n)
 | 0=>⟨(fun _ _ _ _ h=>by cases (show (none:Option (V×St))=_ from h)),(fun _ _ _ _ _ _ _ h=>by cases (show (none:Option (V×St))=_ from h)),
  (fun _ _ _ _ _ _ h=>by cases (show (none:Option (V×St))=_ from h)),(fun _ _ _ _ _ h=>by cases (show (none:Option (V×St))=_ from h))⟩
 | n + 1=>F0 (k:=n) hC (Ny hC n)
end
noncomputable def vu:List (Nat×Nat)→List (Nat×Nat)→Bool
 | [],[]=>true
 | a::l,b::m=>cB (Nat.beq a.1 b.1) (cB (Nat.beq a.2 b.2) (vu l m))
 | _,_=>false
theorem wz:∀{l m:List (Nat×Nat)},vu l m=true→l=m
 | [],[],_=>rfl
 | [],_::_,h=>by cases h
 | _::_,[],h=>by cases h
 | (a,b)::l,(c,d)::m,h=>by
  obtain⟨h1,h2⟩:=br.1 (show cB (Nat.beq a c) (cB (Nat.beq b d) (vu l m))=true from h)
  obtain⟨h3,h4⟩:=br.1 h2
  rw [Nat.eq_of_beq_eq_true h1,Nat.eq_of_beq_eq_true h3,wz h4]
noncomputable def IQ (P:Program) (T:Nat) (k:Kd):Bool:=
 match k,P.underlying T with
 | .bool,some .bool=>true
 | .int k,some (.int j)=>decide (j=k)
 | .str,some .string=>true
 | .ptr e,some (.pointer f)=>Nat.beq f e
 | .slice e,some (.slice f)=>Nat.beq f e
 | .arr n e,some (.array m f)=>cB (Nat.beq m n) (Nat.beq f e)
 | .struct fs,some (.struct fields)=>cB (vu (fields.toList.map (fun f=>(f.offset,f.type))) fs) (allB (fun f=>(P.info? f.type).isSome) fields.toList)
 | .map k e,some (.map j f)=>cB (Nat.beq j k) (Nat.beq f e)
 | .func,some (.func _ _ _)=>true
 | .other,_=>true
 | _,_=>false
theorem IS {P:Program} {T:Nat} {k:Kd} (h:IQ P T k=true):Ag P T k:=by
 unfold IQ at h
 split at h
 ·assumption
 ·rename_i hq;rw [of_decide_eq_true h] at hq;exact hq
 ·assumption
 ·rename_i hq;rw [Nat.eq_of_beq_eq_true h] at hq;exact hq
 ·rename_i hq;rw [Nat.eq_of_beq_eq_true h] at hq;exact hq
 ·rename_i hq
  obtain⟨h1,h2⟩:=br.1 h
  rw [Nat.eq_of_beq_eq_true h1,Nat.eq_of_beq_eq_true h2] at hq;exact hq
 ·rename_i fs fields hq
  obtain⟨h1,h2⟩:=br.1 h
  exact⟨fields,hq,wz h1,fun f hf=>allB_mem h2 f hf⟩
 ·rename_i hq
  obtain⟨h1,h2⟩:=br.1 h
  rw [Nat.eq_of_beq_eq_true h1,Nat.eq_of_beq_eq_true h2] at hq;exact hq
 ·rename_i hq;exact⟨_,_,_,hq⟩
 ·trivial
 ·cases h
noncomputable def MT (P:Program) (T:Nat) (i:TI):Bool:=
 match P.info? T with
 | some inf=>cB (Nat.beq inf.size i.size) (cB (Nat.beq inf.bytes i.bytes) (match inf.zero with | some z=>nb i.zero z.cells.toList | none=>false))
 | none=>false
noncomputable def MU (P:Program) (T:Nat) (i:TI):Bool:=
 match P.underlying T with
 | some (.struct _)=>false
 | some (.array _ _)=>false
 | some _=>Nat.beq i.size 1
 | none=>false
noncomputable def tiB (P:Program) (T:Nat) (i:TI):Bool:=
 cB (MT P T i) (cB (Nat.beq (aH i.zero) i.size) (cB (IQ P T i.kind) (orB i.isAgg (MU P T i))))
theorem tiB_ok {P:Program} {T:Nat} {i:TI} (h:tiB P T i=true):tG P T i:=by
 obtain⟨h1,h2⟩:=br.1 h
 obtain⟨h3,h4⟩:=br.1 h2
 obtain⟨h5,h6⟩:=br.1 h4
 refine⟨?_,IS h5,?_⟩
 ·unfold MT at h1
  split at h1
  ·rename_i inf KR
   obtain⟨k1,k2⟩:=br.1 h1
   obtain⟨k3,k4⟩:=br.1 k2
   split at k4
   ·rename_i z hz
    exact⟨inf,z,KR,Nat.eq_of_beq_eq_true k1,Nat.eq_of_beq_eq_true k3,hz,k4,by rw [← aq];exact Nat.eq_of_beq_eq_true h3⟩
   ·cases k4
  ·cases h1
 ·rcases lZ.1 h6 with h | h
  ·exact .inl h
  ·right
   unfold MU at h
   split at h
   ·cases h
   ·cases h
   ·rename_i d hs ha hd
    refine⟨Nat.eq_of_beq_eq_true h,d,hd,?_⟩
    cases d<;>first | trivial | exact absurd rfl (hs _) | exact absurd rfl (ha _ _)
   ·cases h
noncomputable def Cy (C:Cfg) (f:Nat) (fn:Func):Bool:=match fn.body with | some c=>codeOk (C.fc f) c | none=>true
def FnOk (C:Cfg) (P:Program) (f:Nat) (fn:Func):Prop:=P.funcs[f]?=some fn∧(fn.name == "runtime.NumGoroutine")=false∧Cy C f fn=true
theorem body_of {C:Cfg} {f:Nat} {fn:Func} {c:Code} (h:Cy C f fn=true) (hc:fn.body=some c):codeOk (C.fc f) c=true:=by
 unfold Cy at h
 rw [hc] at h
 exact h
noncomputable def IT (l:List Nat) (o:Oper):Nat:=
 List.rec (motive:=fun _=>Nat) 0 (fun e _ ih=>bif Region.binds .any e then Nat.lor (Nat.lor (Nat.pow 2 e.on) (match nth l e.on with | some m=>m | none=>0)) ih else ih) o.after.toList
noncomputable def F1 (F:FC) (ops:List Oper) (ac:Nat→Acc) (y:Oper) (ly:List Nat) (j:Nat) (anc:Nat):List Oper→Nat→Bool
 | [],_=>true
 | x::rest,i=>
  cB (match Nat.blt i j with
   | true=>cB (orB (Nat.testBit anc i) (indep (looks ops x) ly x y (ac i) (ac j))) (tD (bP F x) (bP F y))
   | false=>true) (F1 F ops ac y ly j anc rest (i + 1))
noncomputable def za (F:FC) (ops:List Oper) (ac:Nat→Acc):List Oper→Nat→List Nat→Bool
 | [],_,_=>true
 | y::rest,j,l=>
  cB (lQ j y.after.toList) (cB (F1 F ops ac y (looks ops y) j (IT l y) ops 0) (za F ops ac rest (j + 1) (cz l [IT l y])))
def qo (m:Nat) (l:List Nat):Prop:=∀i,Nat.testBit m i=memN i l
theorem IU (i:Nat) (a b:List Nat):memN i (cz a b)=(memN i a || memN i b):=by
 rw [Bool.eq_iff_iff,memN_iff,bM,List.mem_append,Bool.or_eq_true,memN_iff,memN_iff]
theorem D8 (i a:Nat) (l:List Nat):memN i (a::l)=(decide (a=i) || memN i l):=by
 rw [Bool.eq_iff_iff,memN_iff,List.mem_cons,Bool.or_eq_true,memN_iff,decide_eq_true_eq]
 constructor
 ·rintro (h | h)
  ·exact .inl h.symm
  ·exact .inr h
 ·rintro (h | h)
  ·exact .inl h.symm
  ·exact .inr h
theorem tR (i:Nat):memN i []=false:=by
 cases h:memN i [] with
 | false=>rfl
 | true=>rw [memN_iff] at h;cases h
noncomputable def K6 (l:List (List Nat)) (e:Edge):List Nat:=bif Region.binds .any e then e.on::(match nth l e.on with | some m=>m | none=>[]) else []
noncomputable def Nz (l:List Nat) (es:List Edge):Nat:=List.rec (motive:=fun _=>Nat) 0 (fun e _ ih=>bif Region.binds .any e then Nat.lor (Nat.lor (Nat.pow 2 e.on) (match nth l e.on with | some m=>m | none=>0)) ih else ih) es
theorem F2 {l:List Nat} {l' : List (List Nat)} (h:∀j,(∃m k,nth l j=some m∧nth l' j=some k∧qo m k)∨(nth l j=none∧nth l' j=none)) (i:Nat):∀es:List Edge,Nat.testBit (Nz l es) i=memN i (yF (K6 l') es)
 | []=>(Nat.zero_testBit i).trans (tR i).symm
 | e::es=>by
  have ih:=F2 h i es
  show Nat.testBit (bif Region.binds .any e then Nat.lor (Nat.lor (Nat.pow 2 e.on) (match nth l e.on with | some m=>m | none=>0)) (Nz l es) else Nz l es) i=memN i (cz (K6 l' e) (yF (K6 l') es))
  rw [IU,← ih]
  unfold K6
  cases Region.binds .any e with
  | false=>simp only [cond_false];rw [tR,Bool.false_or]
  | true=>
   simp only [cond_true]
   rw [D8]
   show Nat.testBit ((2 ^ e.on ||| _) ||| _) i=_
   rw [Nat.testBit_or,Nat.testBit_or,Nat.testBit_two_pow]
   congr 2
   rcases h e.on with⟨m,k,h1,h2,h3⟩ | ⟨h1,h2⟩
   ·rw [h1,h2];exact h3 i
   ·rw [h1,h2];simp only;rw [tR];exact Nat.zero_testBit i
theorem K7 {l:List Nat} {l' : List (List Nat)} (h:∀j,(∃m k,nth l j=some m∧nth l' j=some k∧qo m k)∨(nth l j=none∧nth l' j=none)) (o:Oper):qo (IT l o) (qQ l' o):=
 fun i=>F2 h i o.after.toList
theorem Cz {F:FC} {ops:List Oper} {ac:Nat→Acc} {y:Oper} {ly:List Nat} {j m:Nat} {anc:List Nat} (h:qo m anc):∀(l:List Oper) (i:Nat),F1 F ops ac y ly j m l i=tE F ops ac y ly j anc l i
 | [],_=>rfl
 | x::rest,i=>by
  rw [F1,tE,Cz h rest (i + 1),h i]
  cases Nat.blt i j<;>rfl
theorem CA {F:FC} {ops:List Oper} {ac:Nat→Acc}:∀(r:List Oper) (j:Nat) (l:List Nat) (l' : List (List Nat)),l.length=l'.length→(∀(i m:Nat) (k:List Nat),l[i]?=some m→l'[i]?=some k→qo m k)→za F ops ac r j l=nK F ops ac r j l'
 | [],_,_,_,_,_=>rfl
 | y::rest,j,l,l',hl,h=>by
  have ha:qo (IT l y) (qQ l' y):=K7 (fun j=>by
   rw [bS,bS]
   cases h1:l[j]? with
   | none=>right;rw [List.getElem?_eq_none_iff] at h1;exact⟨rfl,List.getElem?_eq_none_iff.2 (by omega)⟩
   | some m=>
    have hj:=(aGs h1).1
    left
    exact⟨m,l'[j],rfl,aGe (by omega),h j m _ h1 (aGe (by omega))⟩) y
  rw [za,nK,Cz ha,bM,bM,CA rest (j + 1) (l++[IT l y]) (l'++[qQ l' y]) (by simp [hl]) (fun i m k hm hk=>by
   by_cases hi:i < l.length
   ·rw [List.getElem?_append_left hi] at hm
    rw [List.getElem?_append_left (by omega)] at hk
    exact h i m k hm hk
   ·rw [List.getElem?_append_right (by omega)] at hm
    rw [List.getElem?_append_right (by omega)] at hk
    rw [← hl] at hk
    cases hq:i - l.length with
    | zero=>rw [hq] at hm hk;cases hm;cases hk;exact ha
    | succ q=>rw [hq] at hm;cases hm)]
noncomputable def IV (F:FC) (id:Nat) (ops:Array Oper):Bool:=match iu ops.toList with
 | none=>za F ops.toList (F.acc id) ops.toList 0 []
 | some q=>cB (za F ops.toList (F.acc id) (cz q.pre [q.b]) 0 []) (cB (lQ (aH q.pre + 1) q.p.after.toList) (cB (lQ (aH q.pre + 2) q.i.after.toList) (cB (lQ (aH q.pre + 3) q.e.after.toList) (cB (lQ (aH q.pre + 4) q.h.after.toList)
  (cB (Aa q.p (aH q.pre + 1)) (cB (jq q.i (aH q.pre + 1)) (cB (jq q.e (aH q.pre + 2)) (jq q.h (aH q.pre + 1)))))))))
theorem IW (F:FC) (id:Nat) (ops:Array Oper):IV F id ops=vK F id ops:=by
 have key:∀r,za F ops.toList (F.acc id) r 0 []=nK F ops.toList (F.acc id) r 0 []:=fun r=>CA r 0 [] [] rfl (fun i m k h _=>by cases h)
 unfold IV vK
 cases iu ops.toList with
 | none=>exact key _
 | some q=>simp only [KP,key]
noncomputable def lb (F:FC):Code→Bool
 | .region id ops draw=>(match draw with | true=>IV F id ops | false=>true)
 | .seq a b=>cB (lb F a) (lb F b)
 | .cond _ a b=>cB (lb F a) (lb F b)
 | .block _ b=>lb F b
 | .loop b=>lb F b
 | .rangeFunc _ _ a b=>cB (cB (lb F a) (dx a)) (cB (lb F b) (dx b))
 | _=>true
theorem IX (F:FC) (c:Code):lb F c=codeOk F c:=by
 induction c with
 | region id ops draw=>cases draw with
  | true=>exact IW F id ops
  | false=>rfl
 | seq a b ha hb=>show cB (lb F a) (lb F b)=cB (codeOk F a) (codeOk F b);rw [ha,hb]
 | cond c a b ha hb=>show cB (lb F a) (lb F b)=cB (codeOk F a) (codeOk F b);rw [ha,hb]
 | block id b hb=>exact hb
 | loop b hb=>exact hb
 | rangeFunc f ps a b ha hb=>show cB (cB (lb F a) (dx a)) (cB (lb F b) (dx b))=cB (cB (codeOk F a) (dx a)) (cB (codeOk F b) (dx b));rw [ha,hb]
 | _=>rfl
noncomputable def MV (C:Cfg) (f:Nat) (fn:Func):Bool:=match fn.body with | some c=>lb (C.fc f) c | none=>true
theorem body_q {C:Cfg} {f:Nat} {fn:Func} (h:MV C f fn=true):Cy C f fn=true:=by
 unfold MV at h
 unfold Cy
 cases hc:fn.body with
 | none=>rfl
 | some c=>rw [hc] at h;exact (IX (C.fc f) c).symm.trans h
end Go.Ev
