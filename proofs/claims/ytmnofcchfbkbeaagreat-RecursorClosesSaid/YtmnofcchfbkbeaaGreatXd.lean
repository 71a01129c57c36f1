/- The evaluator is sound: code, activations, loops over functions, with any fuel (own work). -/
import Derived.Test.YtmnofcchfbkbeaaGreatXc
import Derived.LoopNIn
namespace Go.Ev
open Go.RowKit
def I5:Ex→Exit
 | .normal=>.normal
 | .ret=>.ret
 | .exit id=>.exit id
section
variable {C:Cfg} {P:Program} {R:Run} {ro:Option Nat} {n:Nat} {k fid:Nat}
def jH (w:World) (a a' : Act):Prop:=∀d∈a'.defers,d∈a.defers∨∃r,d.target=.collected r∧w.heap.size≤r
theorem jH.refl (w:World) (a:Act):jH w a a:=fun _ h=>.inl h
theorem jH.same {w:World} {a a' : Act} (h:a'.defers=a.defers):jH w a a':=fun _ hd=>.inl (h▸hd)
theorem jH.trans {w w' : World} {a a' a'' : Act} (h:jH w a a') (hs:w.heap.size≤w'.heap.size) (k:jH w' a' a''):jH w a a'':=fun d hd=>by
 rcases k d hd with h1 | ⟨r,h1,h2⟩
 ·exact h d h1
 ·exact .inr ⟨r,h1,Nat.le_trans hs h2⟩
def db (P:Program) (ro:Option Nat) (c:Code) (f:sb):Prop:=
 ∀(n:Nat) {E:Rho} {S:St} {lc:bZ} {A:Env} {a:Act} {w:World} {e:Ex} {A1:Env} {S1:St} {Q:Exit→Act→World→Prop},
  bI E S w→cC E S lc A a w→f A S=some (e,A1,S1)→(∀E' lc' a' w',jH w a a'→Res E S lc A a' w E' S1 lc' A1 w'→Q (I5 e) a' w')→c.wpIn (Fw ro) n P Q a w
theorem HH {x y:Code} {f g:sb} (hx:db P ro x f) (hy:db P ro y g):db P ro (.seq x y) (fun A S=>iter.andThen (f A S) g):=by
 intro n E S lc A a w e A1 S1 Q hS hE h hQ
 refine wpIn_seq ?_
 replace h:iter.andThen (f A S) g=some (e,A1,S1):=h
 unfold iter.andThen at h
 split at h
 ·rename_i A' S' hf
  exact hx n hS hE hf (fun E' lc' a' w' hl hr=>hy n hr.cP hr.ck h (fun E'' HB a'' w'' hl' hr'=>hQ _ _ _ _ (hl.trans hr.step.size hl') (hr.trans hr')))
 ·rename_i hne
  refine hx n hS hE h (fun E' lc' a' w' hl hr=>?_)
  have:=hQ _ _ _ _ hl hr
  cases e with
  | normal=>exact absurd h (hne _ _)
  | ret=>exact this
  | exit id=>exact this
theorem Ee {c:Operand} {x y:Code} {f g:sb} (hx:db P ro x f) (hy:db P ro y g):db P ro (.cond c x y) (fun A S=>yF A S c f g):=by
 intro n E S lc A a w e A1 S1 Q hS hE h hQ
 replace h:yF A S c f g=some (e,A1,S1):=h
 unfold yF at h
 split at h
 ·rename_i hc
  exact wpIn_cond_true (aM hE.tmps hc) (hx n hS hE h hQ)
 ·rename_i hc
  exact wpIn_cond_false (aM hE.tmps hc) (hy n hS hE h hQ)
 ·cases h
theorem CA {id:Nat} {x:Code} {f:sb} (hx:db P ro x f):db P ro (.block id x) (fun A S=>vN id (f A S)):=by
 intro n E S lc A a w e A1 S1 Q hS hE h hQ
 refine wpIn_block ?_
 replace h:vN id (f A S)=some (e,A1,S1):=h
 unfold vN at h
 split at h
 ·rename_i i A' S' hf
  cases h
  refine hx n hS hE hf (fun E' lc' a' w' hl hr=>?_)
  have:=hQ _ _ _ _ hl hr
  cases hi:Nat.beq i id with
  | true=>
   have hid:=Nat.eq_of_beq_eq_true hi
   subst hid
   rw [hi] at this
   simp only [I5,Exit.inBlock,if_true]
   exact this
  | false=>
   have hne:i≠id:=fun e=>by rw [e,kr] at hi;cases hi
   rw [hi] at this
   simp only [I5,Exit.inBlock,hne,if_false]
   exact this
 ·rename_i hne
  refine hx n hS hE h (fun E' lc' a' w' hl hr=>?_)
  have:=hQ _ _ _ _ hl hr
  cases e with
  | normal=>exact this
  | ret=>exact this
  | exit i=>exact absurd h (hne _ _ _)
theorem wy {x:Code} {f:sb} (hx:db P ro x f) (n:Nat) {Q:Exit→Act→World→Prop}:∀(m:Nat) {E:Rho} {S:St} {lc:bZ} {A:Env} {a:Act} {w:World} {e:Ex} {A1:Env} {S1:St},
 bI E S w→cC E S lc A a w→iter f m A S=some (e,A1,S1)→(∀E' lc' a' w',jH w a a'→Res E S lc A a' w E' S1 lc' A1 w'→Q (I5 e) a' w')→Code.roundsIn (Fw ro) n P x Q m a w
 | 0,_,_,_,_,_,_,_,_,_,_,_,h,_=>by rw [Hr] at h;cases h
 | m + 1,E,S,lc,A,a,w,e,A1,S1,hS,hE,h,hQ=>by
  rw [lC] at h
  rw [roundsIn_succ]
  unfold iter.andThen at h
  split at h
  ·rename_i A' S' hf
   exact hx n hS hE hf (fun E' lc' a' w' hl hr=>wy hx n m hr.cP hr.ck h (fun E'' HB a'' w'' hl' hr'=>hQ _ _ _ _ (hl.trans hr.step.size hl') (hr.trans hr')))
  ·rename_i hne
   refine hx n hS hE h (fun E' lc' a' w' hl hr=>?_)
   have:=hQ _ _ _ _ hl hr
   cases e with
   | normal=>exact absurd h (hne _ _)
   | ret=>exact this
   | exit id=>exact this
theorem Eg {x:Code} {f:sb} (hx:db P ro x f):db P ro (.loop x) (fun A S=>iter f k A S):=by
 intro n E S lc A a w e A1 S1 Q hS hE h hQ
 exact wpIn_loop_rounds k (wy hx n k hS hE h hQ)
theorem iI (hC:CfgOk C P) (hR:cK C P R)
 (rK:∀g ps x y,ro=none→codeOk (C.fc fid) (.rangeFunc g ps x y)=true→db P ro (.rangeFunc g ps x y) (fun A S=>mP R fid g ps x y A S)) :
 ∀c:Code,codeOk (C.fc fid) c=true→(ro=none∨dg c=true)→db P ro c (fun A S=>evalCode C R k fid (C.fc fid) c A S)
 | .skip,_,_=>fun n E S lc A a w e A1 S1 Q hS hE h hQ=>by
  replace h:some (Ex.normal,A,S)=some (e,A1,S1):=h
  cases h
  exact wpIn_skip (hQ _ _ _ _ (jH.refl _ _) (Res.refl hS hE))
 | .region id ops draw,hok,_=>fun n E S lc A a w e A1 S1 Q hS hE h hQ=>by
  replace h:eU C R (C.fc fid) id ops draw A S=some (e,A1,S1):=h
  cases draw with
  | true=>
   refine (Cz (n:=n) (ro:=ro) (Q:=Q) hC hC.mixed hR hok hS hE h (fun E' lc' a' w' hd hr=>?_)).2
   have hl:=jH.same (w:=w) hd
   ·have hee:e=.normal:=by
     simp only [eU] at h
     unfold after at h
     split at h
     ·cases h;rfl
     ·cases h
    have:=hQ _ _ _ _ hl hr
    rw [hee] at this
    exact this
  | false=>
   refine (AI (n:=n) (ro:=ro) (Q:=Q) hC hR hS hE h (fun E' lc' a' w' hd hr=>?_)).2
   have hl:=jH.same (w:=w) hd
   ·have hee:e=.normal:=by
     simp only [eU] at h
     unfold after at h
     split at h
     ·cases h;rfl
     ·cases h
    have:=hQ _ _ _ _ hl hr
    rw [hee] at this
    exact this
 | .seq x y,hok,hn=>by
  obtain⟨h1,h2⟩:=bq.1 hok
  have hn':=hn.imp_right (fun h=>bq.1 (show cu (dg x) (dg y)=true from h))
  have:=HH (iI hC hR rK x h1 (hn'.imp_right And.left)) (iI hC hR rK y h2 (hn'.imp_right And.right))
  exact this
 | .cond c x y,hok,hn=>by
  obtain⟨h1,h2⟩:=bq.1 hok
  have hn':=hn.imp_right (fun h=>bq.1 (show cu (dg x) (dg y)=true from h))
  have:=Ee (c:=c) (iI hC hR rK x h1 (hn'.imp_right And.left)) (iI hC hR rK y h2 (hn'.imp_right And.right))
  exact this
 | .block id x,hok,hn=>CA (iI hC hR rK x hok hn)
 | .loop x,hok,hn=>Eg (iI hC hR rK x hok hn)
 | .rangeFunc g ps x y,hok,hn=>by
  rcases hn with hn | hn
  ·exact rK g ps x y hn hok
  ·cases hn
 | .exit id,_,_=>fun n E S lc A a w e A1 S1 Q hS hE h hQ=>by
  replace h:some (Ex.exit id,A,S)=some (e,A1,S1):=h
  cases h
  exact wpIn_exit (hQ _ _ _ _ (jH.refl _ _) (Res.refl hS hE))
 | .ret,_,_=>fun n E S lc A a w e A1 S1 Q hS hE h hQ=>by
  replace h:some (Ex.ret,A,S)=some (e,A1,S1):=h
  cases h
  exact wpIn_ret (hQ _ _ _ _ (jH.refl _ _) (Res.refl hS hE))
 | .goto _,_,_=>fun n E S lc A a w e A1 S1 Q hS hE h hQ=>by
  replace h:none=some (e,A1,S1):=h
  cases h
 | .label _,_,_=>fun n E S lc A a w e A1 S1 Q hS hE h hQ=>by
  replace h:none=some (e,A1,S1):=h
  cases h
 | .scope _,_,_=>fun n E S lc A a w e A1 S1 Q hS hE h hQ=>by
  replace h:none=some (e,A1,S1):=h
  cases h
 | .refuse _,_,_=>fun n E S lc A a w e A1 S1 Q hS hE h hQ=>by
  replace h:none=some (e,A1,S1):=h
  cases h
end
section
variable {C:Cfg} {P:Program} {R:Run} {E:Rho} {S:St} {lc:bZ} {A:Env} {w w' w0:World} {k:Nat}
theorem I6 {r:Nat} (h:w.heap[r]?=some (.deferred (some []))) :
 (Instr.takeDeferred r).run P w=.ok [] { w with heap:=w.heap.setIfInBounds r (.deferred none) }:=by
 simp [Instr.takeDeferred,getObj,setObj,Sem.run,h]
theorem kz {fn:Func} {T:Array Value} {Q:Ending→World→Prop} {n:Nat}:∀(ds:List Deferred) (w:World),bI E S w→cC E S lc A ⟨T,ds⟩ w→
 (∀d∈ds,∃r,d.target=.collected r∧w0.heap.size≤r)→
 (∀w',bI E S w'→cC E S lc A ⟨T,[]⟩ w'→w'.os=w.os→w'.tape=w.tape→w'.output=w.output→w'.heap.size=w.heap.size→(∀k,k < w0.heap.size→w'.heap[k]?=w.heap[k]?)→
  ∃v,(results fn T).run P w'=.ok v w'∧Q (.returned v) w')→
 LeavesInM (Fw none) n P fn T Q ds .returning w
 | [],w,hS,hE,_,hK=>hK w hS hE rfl rfl rfl rfl (fun _ _=>rfl)
 | d::ds,w,hS,hE,hd,hK=>by
  obtain⟨r,hr1,hr2,hr3⟩:=hE.marks d (aMs)
  obtain⟨r',hr4,hr5⟩:=hd d (aMs)
  rw [hr1] at hr4
  cases hr4
  have hlt:r < w.heap.size:=(aGa hr2).1
  have hk:∀k,k≠r→({ w with heap:=w.heap.setIfInBounds r (.deferred none) }:World).heap[k]?=w.heap[k]?:=fun k hk=>Array.getElem?_setIfInBounds_ne (Ne.symm hk)
  have hM:∀o,E.M r o=none:=fun o=>by
   cases hq:E.M r o with
   | none=>rfl
   | some x=>have:=(hS.M r o x hq).1;simp [World.cell?,hr2] at this
  have hS1:bI E S { w with heap:=w.heap.setIfInBounds r (.deferred none) }:=hS.except hr3 hM hk
  have hsz:({ w with heap:=w.heap.setIfInBounds r (.deferred none) }:World).heap.size=w.heap.size:=Array.size_setIfInBounds
  obtain⟨hp1,hp2⟩:=List.pairwise_cons.1 (show ((d::ds).map (·.target)).Pairwise _ from hE.kY)
  have hE1:cC E S lc A ⟨T,ds⟩ { w with heap:=w.heap.setIfInBounds r (.deferred none) }:=by
   refine⟨hE.nt,hE.tmps,hE.locs.mono (eV.refl E) (fun k hk'=>hk k fun e=>?_),fun B hB=>?_,fun d' hd'=>?_,hp2⟩
   ·obtain⟨e',h1,h2⟩:=hk'
    obtain⟨cs,hcs⟩:=Option.isSome_iff_exists.1 h1
    obtain⟨B,h3,arr,ty,h4,_⟩:=hE.locs.cells e' cs hcs
    rw [h2] at h3
    cases h3
    rw [e,hr2] at h4
    cases h4
   ·obtain⟨h1,h2,h3⟩:=hE.apart B hB
    exact⟨h1,h2,by rw [hsz];exact h3⟩
   ·obtain⟨s,h1,h2,h3⟩:=hE.marks d' (aMt _ hd')
    refine⟨s,h1,?_,h3⟩
    rw [hk s (fun e=>hp1 _ (List.mem_map_of_mem hd') r s hr1 h1 e.symm)]
    exact h2
  refine⟨by simp,.inl ⟨r,_,hr1,I6 hr2,?_⟩⟩
  refine kz ds _ hS1 hE1 (fun d' hd'=>hd d' (aMt _ hd')) (fun w' h1 h2 h3 h4 h5 h6 h7=>hK w' h1 h2 h3 h4 h5 (h6.trans hsz) (fun k hk'=>?_))
  rw [h7 k hk',hk k (by omega)]
def AP (T:Array Value):ResultVar→Sem Value
 | .tmp t=>pure (T.getD t undef)
 | .cell a t=>do loadVar t (← asAddr (T.getD a undef))
theorem nS (fn:Func) (T:Array Value):results fn T=(do
 let vs ← fn.results.mapM (AP T)
 pure (if h:vs.size=1 then vs[0] else .tuple vs)):=by
 unfold results
 congr 1
theorem iT (hC:CfgOk C P) (hS:bI E S w) {T:Array Value} (hT:qL E lc A.tmps T) (hL:qK E w lc A.locs):∀{l:List ResultVar} {vs:List V},cR C A S l=some vs→
 ∃X:List Value,(l.mapM (AP T)).run P w=.ok X w∧ao E lc vs X
 | [],vs,h=>by
  unfold cR at h
  cases h
  exact⟨[],by simp,rfl⟩
 | .tmp t::l,vs,h=>by
  unfold cR at h
  split at h
  ·rename_i v vs' h1 h2
   cases h
   obtain⟨X,k1,k2⟩:=iT hC hS hT hL h2
   obtain⟨x,j1,j2⟩:=hT t v h1
   refine⟨x::X,?_,x,X,rfl,j2,k2⟩
   rw [List.mapM_cons]
   simp [AP,k1,Array.getD_eq_getD_getElem?,j1]
  ·cases h
 | .cell a ty::l,vs,h=>by
  unfold cR at h
  split at h
  ·rename_i p hp
   split at h
   ·rename_i v vs' h1 h2
    cases h
    obtain⟨X,k1,k2⟩:=iT hC hS hT hL h2
    obtain⟨x,j1,j2⟩:=hT a p hp
    obtain⟨cv,i1,i2⟩:=vR hC hS hL h1 j2
    refine⟨cv::X,?_,cv,X,rfl,i2,k2⟩
    have i3:(do loadVar ty (← asAddr (T.getD a undef)):Sem Value).run P w=.ok cv w:=by
     rw [Array.getD_eq_getD_getElem?,j1]
     have hpt:∃ad,x=.pointer (some ad):=by
      cases p with
      | ptr b o=>exact mA j2
      | imm top cs=>obtain⟨_,B,o,e,_⟩:=j2;exact⟨_,e⟩
      | _=>simp [load] at h1;split at h1<;>cases h1
     obtain⟨ad,rfl⟩:=hpt
     simpa [Instr.loadAt,Instr.sureAddr,asAddr] using i1
    have i4:(AP T (.cell a ty)).run P w=.ok cv w:=i3
    rw [List.mapM_cons]
    simp [Sem.run_bind,i4,k1]
   ·cases h
  ·cases h
theorem kA {args:List V} {X:List Value} (h:ao E lc args X) {t:Nat} {v:V} (ht:look t (number 0 args)=some v):∃x,X[t]?=some x∧a7 E lc v x:=by
 have key:∀(l:List V) (i:Nat),look t (number i l)=some v→i≤t∧l[t - i]?=some v:=by
  intro l
  induction l with
  | nil=>intro i h;cases h
  | cons a l ih=>
   intro i h
   have e:number i (a::l)=(i,a)::number (i + 1) l:=rfl
   rw [e] at h
   by_cases hti:t=i
   ·subst hti
    rw [bB] at h
    cases h
    simp
   ·rw [aW hti] at h
    obtain⟨h1,h2⟩:=ih (i + 1) h
    refine⟨by omega,?_⟩
    rw [show t - i=(t - (i + 1)) + 1 by omega]
    simpa using h2
 obtain⟨_,h2⟩:=key args 0 ht
 exact h.get h2
theorem Ga {vs:List V} {X:List Value} (h:ao E lc vs X) (hl:(aJ vs).isSome=true):a7 E lc (one vs) (if h:X.length=1 then X[0] else .tuple ⟨X⟩)∧(one vs).lvl.isSome=true:=by
 match vs,h,hl with
 | [],h,hl=>cases h;exact⟨⟨rfl,[],rfl,rfl⟩,rfl⟩
 | [v],h,hl=>
  obtain⟨x,Y,rfl,h1,h2⟩:=h
  cases h2
  refine⟨h1,?_⟩
  obtain⟨n,hn⟩:=bz hl
  have:=(aX.1 hn).1
  exact a6 (fm this)
 | v::u::vs,h,hl=>
  refine⟨?_,hl⟩
  obtain⟨x,Y,rfl,h1,y,Z,rfl,h2⟩:=h
  have hne:¬(x::y::Z).length=1:=by simp
  rw [dif_neg hne]
  exact⟨hl,_,rfl,⟨x,_,rfl,h1,y,Z,rfl,h2⟩⟩
theorem uA (hC:CfgOk C P) (y7:∀fid c,codeOk (C.fc fid) c=true→db P none c (fun A S=>evalCode C R k fid (C.fc fid) c A S)) {id:Nat} {args:List V} {v:V} {S' : St}
 (h:frame C R k id args S=some (v,S')):v.lvl.isSome=true∧
 ∀E w X,bI E S w→ao E bw args X→Calls P id ⟨X⟩ w (kx E S w v S'):=by
 unfold frame at h
 split at h
 ·rename_i fn hfn
  split at h
  ·rename_i c hc
   split at h
   ·cases h
   ·rename_i e A1 S1 hne hev
    split at h
    ·rename_i vs hvs
     split at h
     ·rename_i top iY
      cases h
      have hls:(aJ vs).isSome=true:=by rw [iY];rfl
      have hlv:(one vs).lvl.isSome=true:=by
       match vs,hls with
       | [],_=>rfl
       | [v],hl=>
        obtain⟨n,hn⟩:=bz hl
        exact a6 (fm (aX.1 hn).1)
       | v::u::vs,hl=>exact hl
      refine⟨hlv,fun E w X hS hX=>?_⟩
      obtain⟨hf1,_⟩:=hC.fn id fn hfn
      refine (callsIn_wide (n:=0)).1 (callsIn_of_wp_marks (F:=Fw none) hf1 hc trivial ?_)
      have hE0:cC E S bw { nt:=fn.ntmps,tmps:=number 0 args,locs:=[],fix:=[] } ⟨(⟨X⟩ : Array Value)++Array.replicate (fn.ntmps - X.length) undef,[]⟩ w:=by
       refine⟨by simp;omega,fun t v ht=>?_,⟨(fun d cs hd=>by cases hd),(fun d d' B hd=>by cases hd)⟩,fun B hB=>?_,fun d hd=>(by cases hd),List.Pairwise.nil⟩
       ·obtain⟨x,h1,h2⟩:=kA hX ht
        refine⟨x,?_,h2⟩
        have hlt:t < X.length:=(aGs h1).1
        rw [Array.getElem?_append_left (by simpa using hlt)]
        simpa using h1
       ·obtain⟨d,hd,_⟩:=hB;cases hd
      refine y7 id c (hC.body id fn c hfn hc) 0 hS hE0 hev (fun E' lc' a' w' hl hr=>?_)
      have hmarks:∀d∈a'.defers,∃r,d.target=.collected r∧w.heap.size≤r:=fun d hd=>by
       rcases hl d hd with h | h
       ·cases h
       ·exact h
      have uB:LeavesInM (Fw none) 0 P fn a'.tmps (kx E S w (one vs) S') a'.defers .returning w':=by
       refine kz (w0:=w) a'.defers w' hr.cP hr.ck hmarks (fun w'' h1 h2 h3 h4 h5 h6 h7=>?_)
       obtain⟨Y,k1,k2⟩:=iT hC h1 h2.tmps h2.locs hvs
       obtain⟨k3,_⟩:=Ga k2 hls
       have ej:(results fn a'.tmps).run P w''=.ok (if h:Y.length=1 then Y[0] else .tuple ⟨Y⟩) w'':=by
        rw [nS,Array.mapM_eq_mapM_toList]
        simp [k1]
       refine⟨_,ej,_,E',rfl,h1,?_,k3.BM (bz hlv).choose_spec⟩
       have hst:=hr.step
       exact⟨h3.trans hst.os,h4.trans hst.tape,h5.trans hst.output,by rw [h6];exact hst.size,
        fun k hk hn=>(h7 k hk).trans (hst.keep k hk (fun hf=>hf.elim hn (fun⟨d,hd,_⟩=>by cases hd))),
        fun k hk=>(hst.grow k (.inl hk)).imp_left (fun hf=>hf.elim (fun hq=>hq) (fun⟨d,hd,_⟩=>by cases hd)),
        hst.mem,fun B o x hx=>(hst.oN B o x hx).imp_right (fun y=>y.imp_left (fun hf=>hf.elim (fun hq=>hq) (fun⟨d,hd,_⟩=>by cases hd))),
        hst.rho,hst.tok,hst.lm⟩
      cases e with
      | normal=>exact uB
      | ret=>exact uB
      | exit id=>exact (hne _ rfl).elim
     ·cases h
    ·cases h
   ·cases h
  ·cases h
 ·cases h
end
section
variable {C:Cfg} {P:Program} {R:Run} {E:Rho} {S:St} {lc:bZ} {A:Env} {w w' : World} {k:Nat}
theorem cm {o:Option Nat} (h:isZero o=true):within o 0:=by
 unfold isZero at h
 split at h
 ·exact⟨0,rfl,Nat.le_refl _⟩
 ·cases h
theorem CB {l:List V} (h:within (aJ l) 0):allB V.pure l=true:=by
 induction l with
 | nil=>rfl
 | cons v l ih=>
  have hb:=aX.1 h
  refine cE.2 ⟨?_,ih hb.2⟩
  unfold V.pure isZero
  obtain⟨n,h1,h2⟩:=hb.1
  have:n=0:=by omega
  subst this
  rw [h1]
  rfl
theorem l3 (v:V):rA v.b8=true:=by
 cases v with
 | tuple vs=>
  show (bg V.strip vs).all gA=true
  rw [bD,List.all_map]
  simp [Function.comp_def,jg]
 | agg cs=>exact jg (.agg cs)
 | list sz tok top rows=>cases tok<;>rfl
 | _=>rfl
theorem LB {ac:Acc} {M' : Nat→Nat→Option Value} (hM1:∀B o x,E.M B o=some x→M' B o=some x)
 (hM2:∀B,FL E S lc A B→∀o x,w.cell? ⟨B,o,none⟩=some x→Kn w B o x→M' B o=some x) (hS:bI E S w) (hL:qK E w lc A.locs)
 {v v' : V} {x:Value} (h:frz A S ac v=some v') (hv:a7 E lc v x) (hz:isZero v'.lvl=true):a7 (only M') bw v'.b8 x:=by
 unfold frz at h
 split at h
 ·rename_i vs
  split at h
  ·rename_i l hl
   cases h
   obtain⟨h1,X,rfl,h2⟩:=hv
   have hp:=CB (cm hz)
   have hr:=pn hM1 hM2 hS hL hl h2 hp
   refine⟨?_,X,rfl,?_⟩
   ·rw [bD,dc];exact a6 (cm hz)
   ·rw [bD];exact hr
  ·cases h
 ·rename_i hnt
  have hn:∀vs,v'≠.tuple vs:=fun vs e=>by
   subst e
   unfold jL at h
   split at h
   ·split at h
    ·cases h
    ·cases h
   ·unfold jc at h
    split at h
    ·replace h:=(aE h).2
     split at h
     ·replace h:=(aE h).2
      split at h
      ·cases h
      ·cases h
     ·cases h
    ·cases h;exact hnt _ rfl
  have hp:v'.pure=true:=by
   cases v'<;>first | exact absurd rfl (hn _) | exact hz
  have:=wa hM1 hM2 hS hL h hv hp
  cases v'<;>first | exact absurd rfl (hn _) | exact this
theorem gz {M:Nat→Nat→Option Value} (hM:kZ M w):bI (only M) St.empty w where
 len:=rfl
 blk b B k hb:=by cases hb
 nodup:=List.nodup_nil
 nL:=rfl
 tok t o ho:=by cases ho
 m6 t u o p ho:=by cases ho
 tρ t o ho:=by cases ho
 M:=hM
 Mρ B o x _ hB:=by cases hB
 Mτ B o x t p _ hp:=by cases hp
 ll b r d B hb:=by cases hb
 jN b b' r r' d d' B hb:=by cases hb
theorem gn {M:Nat→Nat→Option Value} {k:Nat} (h:FP (only M) St.empty k):False:=by
 rcases h with h | ⟨o,ho,_⟩ | ⟨b,r,d,h1,_⟩
 ·cases h
 ·cases ho
 ·cases h1
theorem Eh (hC:CfgOk C P) (y7:∀fid c,codeOk (C.fc fid) c=true→db P none c (fun A S=>evalCode C R k fid (C.fc fid) c A S)) {id:Nat} {args:List V} {v v' : V} {S' : St}
 (h:frame C R k id (bg V.strip args) St.empty=some (v,S')) (hf:frz { nt:=0,tmps:=[],locs:=[],fix:=[] } S' .any v=some v') (hz:isZero v'.lvl=true) :
 iR P id args v'.b8:=by
 obtain⟨_,wz⟩:=uA hC y7 h
 refine⟨?_,l3 v',fun M w X hM hX=>?_⟩
 ·have hw:=cm hz
  cases v' with
  | tuple vs=>show within (aJ (bg V.strip vs)) 0;rw [bD,dc];exact hw
  | agg cs=>exact fm (v:=(V.agg cs).strip) (by rw [jf];exact hw)
  | list sz tok top rows=>cases tok<;>exact hw
  | _=>exact hw
 ·refine (wz (only M) w X (gz hM) (by rw [bD];exact hX)).mono ?_
  rintro e w' ⟨cv,E',rfl,hS',hst,hv⟩
  have wA:∀B o x,M B o=some x→B < w.heap.size:=fun B o x hx=>cZ (hM B o x hx).1
  have hM1:∀B o x,E'.M B o=some x→(if B < w.heap.size then M B o else World.all w' B o)=some x:=fun B o x hx=>by
   rcases hst.oN B o x hx with h | h | h
   ·rw [if_pos (wA B o x h)];exact h
   ·exact (gn h).elim
   ·rw [if_neg (by omega)];exact lT hS' B o x hx
  refine⟨cv,fun B o=>if B < w.heap.size then M B o else World.all w' B o,rfl,⟨hst.os,hst.tape,hst.output,hst.size,fun k hk=>hst.keep k hk (fun hf=>gn hf)⟩,?_,?_,?_,?_⟩
  ·intro B o x hx
   by_cases hlt:B < w.heap.size
   ·simp only [hlt,if_true] at hx
    exact hS'.M B o x (hst.mem B o x hx)
   ·simp only [hlt,if_false] at hx
    exact all_true w' B o x hx
  ·intro B o x hx
   simp only [wA B o x hx,if_true];exact hx
  ·intro B o x hx
   by_cases hlt:B < w.heap.size
   ·simp only [hlt,if_true] at hx;exact .inl hx
   ·exact .inr (by omega)
  ·refine LB (A:={ nt:=0,tmps:=[],locs:=[],fix:=[] }) (lc:=bw) hM1 ?_ hS' ⟨(fun d cs hd=>by cases hd),(fun d d' B hd=>by cases hd)⟩ hf hv hz
   intro B hB o x hx hx1
   rcases hB with hB | ⟨d,hd,_⟩
   ·rcases hst.grow B hB with h | h
    ·exact (gn h).elim
    ·show (if B < w.heap.size then M B o else World.all w' B o)=some x
     rw [if_neg (by omega)];exact jO hx hx1
   ·cases hd
end
section
variable {C:Cfg} {P:Program} {R:Run} {E:Rho} {S:St} {lc:bZ} {A:Env} {a:Act} {w w' : World}
def Ei (E:Rho) (S:St) (b B:Nat):Prop:=
 B∉E.ρ∧(∀(t:Nat) (o:Own),E.τ[t]?=some o→o.g≠B)∧(∀o,E.M B o=none)∧
  ∀b' r d,b'≠b→S.heap[b']?=some (.loop r)→(look d r.locs).isSome=true→E.lm b' d≠some B
theorem sy (hS:bI E S w) {b l:Nat} (hb:E.ρ[b]?=some l) {r r' : dj} (hr:S.heap[b]?=some (.loop r)) (hk:∀k,k≠l→w'.heap[k]?=w.heap[k]?)
 (hH:fF E w' l (E.lm b) r') (hL:qK E w' (E.lm b) r'.locs) (hll:∀d B,(look d r'.locs).isSome=true→E.lm b d=some B→Ei E S b B) :
 bI E { S with heap:=S.heap.set b (.loop r') } w':=by
 have B5:b < S.heap.length:=(aGs hr).1
 have y8:l∈E.ρ:=aMg hb
 have iZ:∀b',b'≠b→(S.heap.set b (.loop r'))[b']?=S.heap[b']?:=fun b' h=>by rw [List.getElem?_set_ne (Ne.symm h)]
 have sf:(S.heap.set b (.loop r'))[b]?=some (.loop r'):=by rw [List.getElem?_set_self B5]
 refine⟨by simp [hS.len],?_,hS.nodup,hS.nL,?_,hS.m6,hS.tρ,?_,hS.Mρ,hS.Mτ,?_,?_⟩
 ·intro b' B k hB hk'
  by_cases hbb:b'=b
  ·subst hbb
   rw [hb] at hB
   cases hB
   have vV : (S.heap.set b' (.loop r'))[b']?=some k:=hk'
   rw [sf] at vV
   cases vV
   exact⟨hH,hL⟩
  ·have vV : (S.heap.set b (.loop r'))[b']?=some k:=hk'
   rw [iZ b' hbb] at vV
   have hBl:B≠l:=fun e=>by
    subst e
    have h1:=(aGs hB).1
    have h2:=(aGs hb).1
    exact hbb ((List.getElem_inj hS.nodup).1 (by rw [(aGs hB).2,(aGs hb).2]))
   exact (hS.blk b' B k hB vV).mono (eV.refl E) (aGs hB).1 (hk B hBl) (fun q hq j ⟨d,hd,hj⟩=>hk j fun e=>by
    subst hq
    exact (hS.ll b' q d j vV hd hj).1 (e▸y8))
 ·intro t o ho
  obtain⟨h1,h2,h3,h4,cur,e,h5,h6⟩:=hS.tok t o ho
  exact⟨h1,h2,h3,h4,cur,e,by rw [hk o.g (fun e'=>hS.tρ t o ho (by rw [e'];exact y8))];exact h5,h6⟩
 ·intro B o x hx
  obtain⟨h1,h2⟩:=hS.M B o x hx
  have hBl:B≠l:=fun e=>hS.Mρ B o x hx (e▸y8)
  exact Kn.keep (hk B hBl) ⟨h1,h2⟩
 ·intro b' q d B hq hd hB
  have hq' : (S.heap.set b (.loop r'))[b']?=some (.loop q):=hq
  by_cases hbb:b'=b
  ·subst hbb
   rw [sf] at hq'
   cases hq'
   obtain⟨h1,h2,h3,_⟩:=hll d B hd hB
   exact⟨h1,h2,h3⟩
  ·rw [iZ b' hbb] at hq'
   exact hS.ll b' q d B hq' hd hB
 ·intro b1 b2 q1 q2 d1 d2 B hq1 hq2 hd1 hd2 hB1 hB2
  have AQ : (S.heap.set b (.loop r'))[b1]?=some (.loop q1):=hq1
  have yw : (S.heap.set b (.loop r'))[b2]?=some (.loop q2):=hq2
  by_cases h1:b1=b
  ·by_cases h2:b2=b
   ·rw [h1,h2]
   ·exfalso
    subst h1
    rw [sf] at AQ
    cases AQ
    rw [iZ b2 h2] at yw
    exact (hll d1 B hd1 hB1).2.2.2 b2 q2 d2 h2 yw hd2 hB2
  ·by_cases h2:b2=b
   ·exfalso
    subst h2
    rw [sf] at yw
    cases yw
    rw [iZ b1 h1] at AQ
    exact (hll d2 B hd2 hB2).2.2.2 b1 q1 d1 h1 AQ hd1 hB1
   ·rw [iZ b1 h1] at AQ
    rw [iZ b2 h2] at yw
    exact hS.jN b1 b2 q1 q2 d1 d2 B AQ yw hd1 hd2 hB1 hB2
theorem sA (hS:bI E S w) {b d B:Nat} {r:dj} (hr:S.heap[b]?=some (.loop r)) (hd:(look d r.locs).isSome=true) (hB:E.lm b d=some B):Ei E S b B:=by
 obtain⟨h1,h2,h3⟩:=hS.ll b r d B hr hd hB
 exact⟨h1,h2,h3,fun b' r' d' hne hr' hd' hB'=>hne (hS.jN b' b r' r d' d B hr' hr hd' hd hB' hB)⟩
theorem vi (hE:cC E S lc A a w) {b d B:Nat} (hd:(look d A.locs).isSome=true) (hB:lc d=some B):Ei E S b B:=by
 obtain⟨h1,h2,_⟩:=hE.apart B ⟨d,hd,hB⟩
 exact⟨fun h=>h1 (.inl h),fun t o ho e=>h1 (.inr (.inl ⟨o,aMg ho,e⟩)),h2,fun b' r d' _ hr hd' hB'=>h1 (.inr (.inr ⟨b',r,d',hr,hd',hB'⟩))⟩
def Rho.gq (E:Rho) (l:Nat) (lc:bZ):Rho:={ E with ρ:=E.ρ++[l],lm:=fun b=>if b=E.ρ.length then lc else E.lm b }
theorem mS (E:Rho) (l:Nat) (lc:bZ):eV E (E.gq l lc):=
 ⟨fun _ _ _ h=>h,⟨[l],rfl⟩,fun _ o h=>⟨o,h,rfl,Nat.le_refl _,fun _=>rfl⟩,fun _ hb=>if_neg (Nat.ne_of_lt hb)⟩
theorem pA {l k:Nat} {r:dj} (hS:bI E S w) (hr:r.locs=A.locs) (h:FP (E.gq l lc) { S with heap:=S.heap++[.loop r] } k):FP E S k∨k=l∨LP lc A.locs k:=by
 rcases h with h | ⟨o,ho,hg⟩ | ⟨b,q,d,h1,h2,h3⟩
 ·rcases List.mem_append.1 (show k∈E.ρ++[l] from h) with h | h
  ·exact .inl (.inl h)
  ·exact .inr (.inl (List.mem_singleton.1 h))
 ·exact .inl (.inr (.inl ⟨o,ho,hg⟩))
 ·have h1' : (S.heap++[Blk.loop r])[b]?=some (.loop q):=h1
  have h3' : (if b=E.ρ.length then lc else E.lm b) d=some k:=h3
  by_cases hb:b=E.ρ.length
  ·subst hb
   rw [← hS.len] at h1'
   simp only [List.getElem?_concat_length,Option.some.injEq,Blk.loop.injEq] at h1'
   subst h1'
   rw [if_pos rfl] at h3'
   exact .inr (.inr ⟨d,by rw [← hr];exact h2,h3'⟩)
  ·have hlt:b < S.heap.length:=by
    have:=(aGs h1').1
    rw [aLa,List.length_singleton] at this
    have:=hS.len
    omega
   rw [List.getElem?_append_left hlt] at h1'
   rw [if_neg hb] at h3'
   exact .inl (.inr (.inr ⟨b,q,d,h1',h2,h3'⟩))
theorem HI (hS:bI E S w) (hE:cC E S lc A a w) (hg:fp w w') {l:Nat} (hl:w.heap.size≤l) {r:dj} (hr:r.locs=A.locs)
 (hH:fF (E.gq l lc) w' l lc r):bI (E.gq l lc) { S with heap:=S.heap++[.loop r] } w':=by
 have hm:=mS E l lc
 have iZ:∀b:Nat,b < E.ρ.length→(S.heap++[Blk.loop r])[b]?=S.heap[b]?:=fun b hb=>List.getElem?_append_left (by rw [hS.len];exact hb)
 have P8:(S.heap++[Blk.loop r])[E.ρ.length]?=some (.loop r):=by rw [← hS.len];simp
 have hρ:∀b:Nat,b < E.ρ.length→(E.gq l lc).ρ[b]?=E.ρ[b]?:=fun b hb=>List.getElem?_append_left hb
 have hbound:∀(b:Nat) (k:Blk),(S.heap++[Blk.loop r])[b]?=some k→b < E.ρ.length∨(b=E.ρ.length∧k=.loop r):=fun b k hb=>by
  have h1:=(aGs hb).1
  rw [aLa,List.length_singleton,hS.len] at h1
  by_cases he:b=E.ρ.length
  ·subst he
   rw [P8] at hb
   cases hb
   exact .inr ⟨rfl,rfl⟩
  ·exact .inl (by omega)
 have hlm:∀b:Nat,b < E.ρ.length→(E.gq l lc).lm b=E.lm b:=hm.lm
 have LC:(E.gq l lc).lm E.ρ.length=lc:=if_pos rfl
 have hap:∀d B,(look d r.locs).isSome=true→lc d=some B→¬FP E S B∧(∀o,E.M B o=none)∧B < w.heap.size:=fun d B hd hB=>hE.apart B ⟨d,by rw [← hr];exact hd,hB⟩
 refine⟨by show (S.heap++[_]).length=(E.ρ++[l]).length;simp [hS.len],?_,?_,hS.nL,?_,hS.m6,?_,?_,?_,hS.Mτ,?_,?_⟩
 ·intro b B k hB hk
  rcases hbound b k hk with hb | ⟨rfl,rfl⟩
  ·rw [hρ b hb] at hB
   have hk' : S.heap[b]?=some k:=by rw [← iZ b hb];exact hk
   exact (hS.blk b B k hB hk').mono hm hb (hg.keep B (hS.lt hB)) (fun q hq j ⟨d,hd,hj⟩=>hg.keep j (hS.ji (hq▸hk') hd hj))
  ·have hBl:B=l:=by
    have:(E.ρ++[l])[E.ρ.length]?=some B:=hB
    simp at this
    exact this.symm
   subst hBl
   rw [LC]
   refine⟨hH,?_⟩
   rw [hr]
   exact hE.locs.mono hm (fun k hk=>hg.keep k (hE.apart k hk).2.2)
 ·show (E.ρ++[l]).Nodup
  rw [List.nodup_append]
  exact⟨hS.nodup,by simp,fun x hx y hy e=>by
   rw [List.mem_singleton] at hy
   have:=hS.tL hx
   omega⟩
 ·intro t o ho
  obtain⟨h1,h2,h3,h4,cur,e,h5,h6⟩:=hS.tok t o ho
  exact⟨h1,h2,h3,h4,cur,e,by rw [hg.keep _ (hS.lR ho)];exact h5,h6⟩
 ·intro t o ho dB
  rcases List.mem_append.1 (show o.g∈E.ρ++[l] from dB) with h | h
  ·exact hS.tρ t o ho h
  ·have:=hS.lR ho
   rw [List.mem_singleton] at h
   omega
 ·intro B o x hx
  obtain⟨h1,h2⟩:=hS.M B o x hx
  exact Kn.keep (hg.keep B (cZ h1)) ⟨h1,h2⟩
 ·intro B o x hx dB
  rcases List.mem_append.1 (show B∈E.ρ++[l] from dB) with h | h
  ·exact hS.Mρ B o x hx h
  ·have:=cZ (hS.M B o x hx).1
   rw [List.mem_singleton] at h
   omega
 ·intro b q d B hq hd hB
  rcases hbound b _ hq with hb | ⟨rfl,hqr⟩
  ·rw [hlm b hb] at hB
   have hq' : S.heap[b]?=some (.loop q):=by rw [← iZ b hb];exact hq
   obtain⟨h1,h2,h3⟩:=hS.ll b q d B hq' hd hB
   refine⟨fun dB=>?_,h2,h3⟩
   rcases List.mem_append.1 (show B∈E.ρ++[l] from dB) with h | h
   ·exact h1 h
   ·have:=hS.ji hq' hd hB
    rw [List.mem_singleton] at h
    omega
  ·cases hqr
   rw [LC] at hB
   obtain⟨h1,h2,h3⟩:=hap d B hd hB
   refine⟨fun dB=>?_,fun t o ho e=>h1 (.inr (.inl ⟨o,aMg ho,e⟩)),h2⟩
   rcases List.mem_append.1 (show B∈E.ρ++[l] from dB) with h | h
   ·exact h1 (.inl h)
   ·rw [List.mem_singleton] at h
    omega
 ·intro b1 b2 q1 q2 d1 d2 B hq1 hq2 hd1 hd2 hB1 hB2
  rcases hbound b1 _ hq1 with hb1 | ⟨rfl,R4⟩
  ·have AQ : S.heap[b1]?=some (.loop q1):=by rw [← iZ b1 hb1];exact hq1
   rw [hlm b1 hb1] at hB1
   rcases hbound b2 _ hq2 with hb2 | ⟨rfl,P9⟩
   ·have yw : S.heap[b2]?=some (.loop q2):=by rw [← iZ b2 hb2];exact hq2
    rw [hlm b2 hb2] at hB2
    exact hS.jN b1 b2 q1 q2 d1 d2 B AQ yw hd1 hd2 hB1 hB2
   ·exfalso
    cases P9
    rw [LC] at hB2
    exact (hap d2 B hd2 hB2).1 (.inr (.inr ⟨b1,q1,d1,AQ,hd1,hB1⟩))
  ·rcases hbound b2 _ hq2 with hb2 | ⟨rfl,P9⟩
   ·exfalso
    cases R4
    have yw : S.heap[b2]?=some (.loop q2):=by rw [← iZ b2 hb2];exact hq2
    rw [hlm b2 hb2] at hB2
    rw [LC] at hB1
    exact (hap d1 B hd1 hB1).1 (.inr (.inr ⟨b2,q2,d2,yw,hd2,hB2⟩))
   ·rfl
end
section
variable {C:Cfg} {P:Program} {R:Run} {E:Rho} {S:St} {lc:bZ} {A:Env} {a:Act} {w w' : World} {fid:Nat}
theorem run_endLoop {l:Nat} {L:Loop} (h:w.heap[l]?=some (.loop L)) (hs:L.state≠.busy) :
 (Instr.endLoop l).run P w=.ok L.pending { w with heap:=w.heap.setIfInBounds l (.loop { L with state:=.exhausted }) }:=by
 simp [Instr.endLoop,Instr.getLoop,getObj,setObj,Sem.run,h,hs]
theorem iU {b k:Nat} {r' : dj} (hr:r'.locs=[]) (h:FP E { S with heap:=S.heap.set b (.loop r') } k):FP E S k:=by
 rcases h with h | h | ⟨b',q,d,h1,h2,h3⟩
 ·exact .inl h
 ·exact .inr (.inl h)
 ·have h1' : (S.heap.set b (.loop r'))[b']?=some (.loop q):=h1
  by_cases hb:b'=b
  ·subst hb
   rw [List.getElem?_set] at h1'
   simp only [if_true] at h1'
   split at h1'
   ·cases h1'
    rw [hr] at h2
    cases h2
   ·cases h1'
  ·rw [List.getElem?_set_ne (Ne.symm hb)] at h1'
   exact .inr (.inr ⟨b',q,d,h1',h2,h3⟩)
theorem I7 (hS:bI E S w) (hE:cC E S lc A a w) {r:dj} (hr:r.locs=A.locs) {L:Loop} :
 cC (E.gq (w.heap.size + 1) lc) { S with heap:=S.heap++[.loop r] } lc { A with locs:=[] } ⟨a.tmps,{ target:=.collected w.heap.size,args:=#[] }::a.defers⟩
  ((w.alloc (.deferred (some []))).alloc (.loop L)):=by
 have hm:=mS E (w.heap.size + 1) lc
 have hg1:=fp.alloc w (.deferred (some []))
 have hg2:=fp.alloc (w.alloc (.deferred (some []))) (.loop L)
 have oH:∀k,k < w.heap.size→((w.alloc (.deferred (some []))).alloc (.loop L)).heap[k]?=w.heap[k]?:=fun k hk=>
  (hg2.keep k (Nat.lt_of_lt_of_le hk hg1.size)).trans (hg1.keep k hk)
 refine⟨hE.nt,hE.tmps.mono hm (fun _ _ _ _ _ h _=>h),⟨(fun d cs hd=>by cases hd),(fun d d' B hd=>by cases hd)⟩,fun B hB=>?_,fun d hd=>?_,?_⟩
 ·obtain⟨d,hd,_⟩:=hB;cases hd
 ·rcases List.mem_cons.1 hd with rfl | hd
  ·refine⟨w.heap.size,rfl,?_,fun hf=>?_⟩
   ·rw [hg2.keep _ (by rw [iH];omega)];exact eZ w _
   ·rcases pA hS hr hf with h | h | h
    ·have:=hS.Nx h;omega
    ·omega
    ·have:=(hE.apart _ h).2.2;omega
  ·obtain⟨s,h1,h2,h3⟩:=hE.marks d hd
   have hlt:s < w.heap.size:=(aGa h2).1
   refine⟨s,h1,by rw [oH s hlt];exact h2,fun hf=>?_⟩
   rcases pA hS hr hf with h | h | ⟨d',k1,k2⟩
   ·exact h3 h
   ·omega
   ·obtain⟨cs,hcs⟩:=Option.isSome_iff_exists.1 k1
    obtain⟨B,k3,arr,ty,k4,_⟩:=hE.locs.cells d' cs hcs
    rw [k2] at k3
    cases k3
    rw [h2] at k4
    cases k4
 ·show List.Pairwise _ ((_::a.defers).map (·.target))
  rw [List.map_cons]
  refine List.Pairwise.cons (fun t ht=>?_) hE.kY
  obtain⟨d,hd,rfl⟩:=List.mem_map.1 ht
  intro r s h1 h2
  cases h1
  obtain⟨s',k1,k2,_⟩:=hE.marks d hd
  rw [h2] at k1
  cases k1
  have:=(aGa k2).1
  omega
theorem isSome_max {o p:Option Nat} {top:Nat} (h:within (both o p) top):o.isSome=true∧p.isSome=true:=by
 cases o<;>cases p<;>first | exact⟨rfl,rfl⟩ | exact absurd h bU
theorem CC {l m:List V} (hl:(aJ l).isSome=true) (hm:(aJ m).isSome=true):(aJ (l++m)).isSome=true:=by
 obtain⟨i,hi⟩:=bz hl
 obtain⟨j,hj⟩:=bz hm
 exact a6 (n:=max i j) (je.2 ⟨dO hi (Nat.le_max_left _ _),dO hj (Nat.le_max_right _ _)⟩)
theorem HJ {v:V} {m:List V} (hl:(fW v).isSome=true) (hm:(aJ m).isSome=true):(aJ (v::m)).isSome=true:=by
 obtain⟨i,hi⟩:=bz hl
 obtain⟨j,hj⟩:=bz hm
 exact a6 (n:=max i j) (aX.2 ⟨dO hi (Nat.le_max_left _ _),dO hj (Nat.le_max_right _ _)⟩)
theorem CD (hC:CfgOk C P) (hR:cK C P R) {g:Operand} {ps:Array Tmp} {x y:Code} (hok:codeOk (C.fc fid) (.rangeFunc g ps x y)=true) :
 db P none (.rangeFunc g ps x y) (fun A S=>mP R fid g ps x y A S):=by
 intro n E S lc A a w e A1 S1 Q hS hE h hQ
 replace h:mP R fid g ps x y A S=some (e,A1,S1):=h
 unfold mP at h
 split at h
 ·rename_i f top first cap hg
  split at h
  ·rename_i v S' ej
   split at h
   ·rename_i r hr
    split at h
    ·rename_i hst
     cases h
     rw [bR,an] at hr
     rw [bK,bK,an] at ej
     obtain⟨ok1,ok2⟩:=bq.1 (show cu (cu (codeOk (C.fc fid) x) (dg x)) (cu (codeOk (C.fc fid) y) (dg y))=true from hok)
     obtain⟨w0,hw0⟩ : ∃w0:World,w0=w:=⟨w,rfl⟩
     have hlen:=hS.len
     have hm:=mS E (w.heap.size + 1) lc
     have NC:(w.alloc (.deferred (some []))).heap.size=w.heap.size + 1:=iH w _
     have hg1:=fp.alloc w (.deferred (some []))
     have wz:∀fn:FuncId,∃(l:Nat) (mark:List Deferred) (w₁:World) (d:Deferred) (w₁' : World) (f:FuncId) (args:Array Value) (w₂:World),
      (Instr.enterLoop fn a.tmps ps x y (Fw none).round).run P w=.ok (l,mark) w₁∧(resolve a.eval (rangeCall g l) 0).run P w₁=.ok d w₁'∧
      (∀f',Target.leads P w₁' d.target d.args=some f'→(Fw none).fn f')∧(invoke d.target d.args).run P w₁'=.ok (.enter f args) w₂∧
      ((Fw none).depth.isSome=true→1≤n)∧CallsIn (Fw none) (n - 1) P f args w₂ (rangePost (Fw none) n P l Q { a with defers:=mark++a.defers }):=by
      intro fn
      obtain⟨hvt,hp1,hp2,Xf,Xc,hcx,hXf,hXc⟩:=aM hE.tmps hg
      have hvE:a7 E lc (.fn f top first cap) (.func (.func f) ⟨Xf⟩ ⟨Xc⟩):=⟨hvt,hp1,hp2,Xf,Xc,rfl,hXf,hXc⟩
      obtain⟨_,_,_,Yf,Yc,hcy,hYf,hYc⟩:=a7.mono (lc':=bw) hvE hm (fun d B _ hi=>by cases hi)
      injection hcy with _ e1 e2
      have e1' : Xf=Yf:=congrArg Array.toList e1
      have e2' : Xc=Yc:=congrArg Array.toList e2
      subst e1';subst e2'
      let L:Loop:={ state:=.ready,pending:=none,fn:=fn,tmps:=a.tmps,params:=ps,assign:=x,body:=y,defers:=w.heap.size }
      let r0:dj:={ fid:=fid,nt:=A.nt,tmps:=A.tmps,locs:=A.locs,params:=ps.toList,assign:=x,body:=y,st:=.ready,iX:=none }
      have hgL:fp w ((w.alloc (.deferred (some []))).alloc (.loop L)):=by
       have hg2:=fp.alloc (w.alloc (.deferred (some []))) (.loop L)
       exact⟨hg2.os.trans hg1.os,hg2.tape.trans hg1.tape,hg2.output.trans hg1.output,Nat.le_trans hg1.size hg2.size,
        fun k hk=>(hg2.keep k (Nat.lt_of_lt_of_le hk hg1.size)).trans (hg1.keep k hk)⟩
      have tK:((w.alloc (.deferred (some []))).alloc (.loop L)).heap[w.heap.size + 1]?=some (.loop L):=by
       rw [← NC];exact eZ _ _
      have hH:fF (E.gq (w.heap.size + 1) lc) ((w.alloc (.deferred (some []))).alloc (.loop L)) (w.heap.size + 1) lc r0:=
       ⟨L,tK,rfl,fun _=>⟨⟨(hC.okc fid x).2 (bq.1 ok1),(hC.okc fid y).2 (bq.1 ok2)⟩,rfl,rfl,rfl,hE.nt,hE.tmps.mono hm (fun _ _ _ _ _ h _=>h)⟩,
        fun _=>rfl,fun _=>rfl,fun h=>by cases h⟩
      have hS1:=HI hS hE hgL (l:=w.heap.size + 1) (by omega) (r:=r0) rfl hH
      have hE1:=I7 hS hE (r:=r0) rfl (L:=L)
      have hb:(E.gq (w.heap.size + 1) lc).ρ[S.heap.length]?=some (w.heap.size + 1):=by
       rw [hS.len];show (E.ρ++[_])[E.ρ.length]?=_;simp
      obtain⟨hl1,hl2⟩:=isSome_max hvt
      have eL:ao (E.gq (w.heap.size + 1) lc) bw (first++.yield S.heap.length::cap) (Xf++(.func (.yield (w.heap.size + 1)) #[] #[])::Xc):=
       hYf.append ⟨_,_,rfl,⟨_,hb,rfl⟩,hYc⟩
      have Qa:(aJ (first++.yield S.heap.length::cap)).isSome=true:=CC hl1 (HJ rfl hl2)
      have hnp:((C.fc f).pure && allB V.pure (first++.yield S.heap.length::cap))=false:=by
       cases hq:allB V.pure (first++.yield S.heap.length::cap) with
       | false=>cases (C.fc f).pure<;>rfl
       | true=>have:=allB_mem hq (.yield S.heap.length) (List.mem_append_right _ (aMs));cases this
      obtain⟨_,Ej⟩:=hR.call f _ _ v S' hnp ej
      refine⟨w.heap.size + 1,[{ target:=.collected w.heap.size,args:=#[] }],(w.alloc (.deferred (some []))).alloc (.loop L),
       { target:=.fn (.func f) ⟨Xc⟩,args:=⟨Xf++[.func (.yield (w.heap.size + 1)) #[] #[]]⟩},(w.alloc (.deferred (some []))).alloc (.loop L),f,
       ⟨Xf++(.func (.yield (w.heap.size + 1)) #[] #[])::Xc⟩,(w.alloc (.deferred (some []))).alloc (.loop L),?_,?_,fun _ _=>trivial,?_,fun h=>(by cases h),?_⟩
      ·show Result.ok ((w.alloc (.deferred (some []))).heap.size,_) _=_
       rw [NC]
       rfl
      ·have:a.eval g=.func (.func f) ⟨Xf⟩ ⟨Xc⟩:=hcx
       have hc:a.eval (.const (.func (.yield (w.heap.size + 1)) #[] #[]))=.func (.yield (w.heap.size + 1)) #[] #[]:=rfl
       simp [resolve,Deferred.ofValue,this,hc]
      ·have:((⟨Xf++[.func (.yield (w.heap.size + 1)) #[] #[]]⟩ : Array Value)++(⟨Xc⟩ : Array Value)) =⟨Xf++(.func (.yield (w.heap.size + 1)) #[] #[])::Xc⟩:=by
        apply Array.toList_inj.1;simp
       show (callFunc f (_++_)).run P _=_
       rw [this]
       exact ln (hR.fn f _ _ _ ej)
      ·refine (callsIn_wide (n:=n - 1)).2 ((Ej _ _ _ hS1 eL Qa).mono ?_)
       rintro e' w2 ⟨cv,E2,rfl,hS2,oP,_⟩
       have hb2:=oP.mono.lj hb
       have LD:E2.lm S.heap.length=lc:=by
        rw [oP.lm _ (aGs hb).1,hlen];exact if_pos rfl
       obtain⟨⟨L2,q1,q2,q3,q4,q5,q6⟩,ND⟩:=hS2.blk _ _ _ hb2 hr
       rw [LD] at ND
       have hnb:L2.state≠.busy:=by
        rcases hst with h | h
        ·rw [h] at q2;intro hh;rw [show L2.state=.ready from q2] at hh;cases hh
        ·rw [h] at q2;intro hh;rw [show L2.state=.done from q2] at hh;cases hh
       have I8:w.heap.size + 1 < w2.heap.size:=(aGa q1).1
       have hk4:∀k,k≠w.heap.size + 1→({ w2 with heap:=w2.heap.setIfInBounds (w.heap.size + 1) (.loop { L2 with state:=.exhausted }) }:World).heap[k]?=w2.heap[k]?:=
        fun k hk=>Array.getElem?_setIfInBounds_ne (Ne.symm hk)
       have hS3:=sy (w':={ w2 with heap:=w2.heap.setIfInBounds (w.heap.size + 1) (.loop { L2 with state:=.exhausted }) }) hS2 hb2 hr hk4
        (r':={ r with st:=.rj,locs:=[],tmps:=[],iX:=none })
        ⟨{ L2 with state:=.exhausted },(by simp [I8]),trivial,fun h=>absurd rfl h,fun _=>rfl,fun h=>(by cases h),fun h=>(by cases h)⟩
        ⟨(fun d cs hd=>by cases hd),(fun d d' B hd=>by cases hd)⟩ (fun d B hd=>by cases hd)
       have hE2:=hE1.frame oP.mono oP.grow oP.size oP.keep oP.oN
       have y8:w.heap.size + 1∈E2.ρ:=aMg hb2
       have hE3:cC E2 { S' with heap:=S'.heap.set S.heap.length (.loop { r with st:=.rj,locs:=[],tmps:=[],iX:=none }) } lc { A with locs:=r.locs }
        ⟨a.tmps,{ target:=.collected w.heap.size,args:=#[] }::a.defers⟩ { w2 with heap:=w2.heap.setIfInBounds (w.heap.size + 1) (.loop { L2 with state:=.exhausted }) }:=by
        refine⟨hE.nt,hE2.tmps,ND.mono (eV.refl E2) (fun k hk=>hk4 k fun e=>?_),fun B hB=>?_,fun d hd=>?_,hE2.kY⟩
        ·obtain⟨d,hd,hB⟩:=hk
         exact (hS2.ll _ r d k hr hd (by rw [LD];exact hB)).1 (by rw [e];exact y8)
        ·obtain⟨d,hd,hB⟩:=hB
         have hB' : E2.lm S.heap.length d=some B:=by rw [LD];exact hB
         obtain⟨j1,j2,j3,j4⟩:=sA hS2 hr hd hB'
         refine⟨fun hf=>?_,j3,?_⟩
         ·rcases hf with hf | ⟨o,ho,hog⟩ | ⟨b',r',d',i1,i2,i3⟩
          ·exact j1 hf
          ·obtain⟨t,ht⟩:=List.mem_iff_getElem?.1 ho
           exact j2 t o ht hog
          ·have i1' : (S'.heap.set S.heap.length (.loop { r with st:=.rj,locs:=[],tmps:=[],iX:=none }))[b']?=some (.loop r'):=i1
           by_cases hbb:b'=S.heap.length
           ·subst hbb
            rw [List.getElem?_set_self (aGs hr).1] at i1'
            cases i1'
            cases i2
           ·rw [List.getElem?_set_ne (Ne.symm hbb)] at i1'
            exact j4 b' r' d' hbb i1' i2 i3
         ·show B < (w2.heap.setIfInBounds _ _).size
          rw [Array.size_setIfInBounds];exact hS2.ji hr hd hB'
        ·obtain⟨s,i1,i2,i3⟩:=hE2.marks d hd
         exact⟨s,i1,by rw [hk4 s (fun e=>i3 (.inl (by rw [e];exact y8)))];exact i2,fun hf=>i3 (iU rfl hf)⟩
       have jl:Res E S lc A ⟨a.tmps,{ target:=.collected w.heap.size,args:=#[] }::a.defers⟩ w E2
        { S' with heap:=S'.heap.set S.heap.length (.loop { r with st:=.rj,locs:=[],tmps:=[],iX:=none }) } lc { A with locs:=r.locs }
        { w2 with heap:=w2.heap.setIfInBounds (w.heap.size + 1) (.loop { L2 with state:=.exhausted }) }:=by
        have Om:∀k,FP (E.gq (w.heap.size + 1) lc) { S with heap:=S.heap++[.loop r0] } k→FL E S lc A k∨w.heap.size≤k:=fun k hk=>by
         rcases pA hS rfl hk with h | h | h
         ·exact .inl (.inl h)
         ·exact .inr (by omega)
         ·exact .inl (.inr h)
        refine⟨hS3,hE3,⟨oP.os.trans hgL.os,oP.tape.trans hgL.tape,oP.output.trans hgL.output,?_,fun k hk hn=>?_,fun k hk=>?_,oP.mem,fun B o z hz=>?_,?_,oP.tok,fun b hb=>?_⟩,rfl,fun _ _=>rfl⟩
        ·show w.heap.size≤(w2.heap.setIfInBounds _ _).size
         rw [Array.size_setIfInBounds];exact Nat.le_trans hgL.size oP.size
        ·rw [hk4 k (by omega),oP.keep k (Nat.lt_of_lt_of_le hk hgL.size) (fun hf=>(Om k hf).elim hn (by omega)),hgL.keep k hk]
        ·have R5:FP E2 S' k:=by
          rcases hk with hk | ⟨d,hd,hB⟩
          ·exact iU rfl hk
          ·exact .inr (.inr ⟨_,r,d,hr,hd,by rw [LD];exact hB⟩)
         rcases oP.grow k R5 with h | h
         ·exact Om k h
         ·exact .inr (Nat.le_trans hgL.size h)
        ·rcases oP.oN B o z hz with h | h | h
         ·exact .inl h
         ·exact .inr (Om B h)
         ·exact .inr (.inr (Nat.le_trans hgL.size h))
        ·obtain⟨rr,hrr⟩:=oP.rho
         exact⟨(w.heap.size + 1)::rr,by rw [hrr];show (E.ρ++[_])++rr=_;simp⟩
        ·rw [oP.lm b (by show b < (E.ρ++[_]).length;simp;omega)];exact hm.lm b hb
       have On:jH w a ⟨a.tmps,{ target:=.collected w.heap.size,args:=#[] }::a.defers⟩:=fun d hd=>by
        rcases List.mem_cons.1 hd with rfl | hd
        ·exact .inr ⟨_,rfl,Nat.le_refl _⟩
        ·exact .inl hd
       have hq:=hQ E2 lc _ _ On (by rw [eT,an];exact jl)
       refine⟨L2.pending,_,run_endLoop q1 hnb,?_⟩
       rcases hst with h | h
       ·rw [q4 (.inl h)] at hq
        rw [q5 h] at hq ⊢
        exact hq
       ·obtain⟨ex,z1,z2,z3⟩:=q6 h
        rw [z1] at hq
        rw [z2] at hq ⊢
        cases ex with
        | normal=>exact absurd rfl z3
        | ret=>exact wpIn_ret hq
        | exit i=>exact wpIn_exit hq
     exact wpIn_rangeFunc (fun fn _=>wz fn)
    ·cases h
   ·cases h
  ·cases h
 ·cases h
end
section
variable {C:Cfg} {P:Program} {R:Run} {E:Rho} {S S1:St} {lc:bZ} {A:Env} {a:Act} {w w' : World} {k:Nat}
theorem qV {b:Nat} {st:RSt} {r:dj} (h:oT S b st=some r):S.heap[b]?=some (.loop r)∧r.st=st∧r.locs=[]:=by
 unfold oT at h
 split at h
 ·rename_i r' hr
  split at h
  ·rename_i hc
   cases h
   rw [bR] at hr
   exact⟨hr,hc.1,List.isEmpty_iff.1 hc.2⟩
  ·cases h
 ·cases h
theorem iJ (S:St) (b:Nat) (r:dj):er S b r={ S with heap:=S.heap.set b (.loop r) }:=by
 unfold er;rw [eT]
theorem run_getLoop {l:Nat} {L:Loop} (h:w.heap[l]?=some (.loop L)):(Instr.getLoop l).run P w=.ok L w:=by
 simp [Instr.getLoop,getObj,Sem.run,h]
theorem run_beginRound {l:Nat} {L:Loop} (h:w.heap[l]?=some (.loop L)) (hs:L.state=.ready) :
 (Instr.beginRound l).run P w=.ok () { w with heap:=w.heap.setIfInBounds l (.loop { L with state:=.busy }) }:=by
 simp [Instr.beginRound,Instr.getLoop,getObj,setObj,Sem.run,h,hs]
theorem run_endRound {l:Nat} {L:Loop} (h:w.heap[l]?=some (.loop L)) (j:Option Code) :
 (Instr.endRound l j).run P w=.ok (.bool j.isNone) { w with heap:=w.heap.setIfInBounds l (.loop { L with state:=if j.isNone then .ready else .done,pending:=j }) }:=by
 simp [Instr.endRound,Instr.getLoop,getObj,setObj,Sem.run,h]
theorem Ek {l:bZ} {ts:List Nat}:∀{T:Array Value} {tmps CE : List (Nat×V)} {vs:List V} {X:List Value},ry tmps ts vs=some CE→qL E l tmps T→ao E l vs X→(∀t∈ts,t < T.size)→
 qL E l CE ((ts.zip X).foldl (fun T p=>T.setIfInBounds p.1 p.2) T)∧((ts.zip X).foldl (fun T p=>T.setIfInBounds p.1 p.2) T).size=T.size:=by
 induction ts with
 | nil=>
  intro T tmps CE vs X h hT hX _
  cases vs with
  | nil=>cases h;exact⟨hT,rfl⟩
  | cons v vs=>cases h
 | cons t ts ih=>
  intro T tmps CE vs X h hT hX hlt
  cases vs with
  | nil=>cases h
  | cons v vs=>
   obtain⟨x,Y,rfl,h1,h2⟩:=hX
   have h' : ry ((t,v)::tmps) ts vs=some CE:=h
   have:=ih (T:=T.setIfInBounds t x) h' (wc hT (hlt t (aMs)) h1) h2 (fun s hs=>by rw [Array.size_setIfInBounds];exact hlt s (aMt _ hs))
   rw [List.zip_cons_cons,List.foldl_cons]
   exact⟨this.1,this.2.trans (by rw [Array.size_setIfInBounds])⟩
end
section
variable {C:Cfg} {P:Program} {R:Run} {E:Rho} {S S1:St} {lc:bZ} {A:Env} {a:Act} {w w' : World} {k:Nat}
theorem qW:∀{l l' : List (Nat×V)} {ts:List Nat} {vs:List V},ry l ts vs=some l'→vs.length=ts.length
 | _,_,[],[],_=>rfl
 | _,_,[],_::_,h=>by cases h
 | _,_,_::_,[],h=>by cases h
 | l,l',t::ts,v::vs,h=>by
  have h' : ry ((t,v)::l) ts vs=some l':=h
  rw [aLc,aLc,qW h']
theorem run_yield {B:Nat} {L:Loop} (h:w.heap[B]?=some (.loop L)) {X:List Value} (hX:X.length=L.params.size) :
 (Instr.yield B ⟨X⟩).run P w=.ok (.round B L.fn ((L.params.toList.zip X).foldl (fun T p=>T.setIfInBounds p.1 p.2) L.tmps) L.assign L.body) w:=by
 have hf:(L.params.zip ⟨X⟩).foldl (fun tmps (x:Tmp×Value)=>tmps.setIfInBounds x.1 x.2) L.tmps=(L.params.toList.zip X).foldl (fun T p=>T.setIfInBounds p.1 p.2) L.tmps:=by
  rw [← Array.foldl_toList,Array.toList_zip]
 simp only [Instr.yield,Sem.run_bind,run_getLoop h,Result.andThen_ok]
 have hz:(L.params.zip (⟨X⟩ : Array Value)).size=L.params.size:=by simp [hX]
 rw [hz] at hf
 simp [hX]
 exact hf
theorem CF (hS:bI E S w) {b B:Nat} (hb:E.ρ[b]?=some B) {r:dj} (hr:S.heap[b]?=some (.loop r)) (hst:r.st=.ready) {ts:List (Nat×V)} {T:Array Value}
 (hT:qL E (E.lm b) ts T) (hnt:r.nt≤T.size) :
 bI E (er S b { r with st:=.ka,locs:=[] }) w∧
 cC E (er S b { r with st:=.ka,locs:=[] }) (E.lm b) { nt:=r.nt,tmps:=ts,locs:=r.locs,fix:=jM r.locs } ⟨T,[]⟩ w:=by
 rw [iJ]
 obtain⟨⟨L,q1,q2,q3,q4,q5,q6⟩,hL⟩:=hS.blk _ _ _ hb hr
 rw [hst] at q2
 refine⟨sy hS hb hr (fun _ _=>rfl) ⟨L,q1,q2,fun _=>q3 (by rw [hst];intro h;cases h),fun _=>q4 (.inl hst),fun h=>(by cases h),fun h=>(by cases h)⟩
  ⟨(fun d cs hd=>by cases hd),(fun d d' B hd=>by cases hd)⟩ (fun d B hd=>by cases hd),⟨hnt,hT,hL,fun j hj=>?_,fun d hd=>(by cases hd),List.Pairwise.nil⟩⟩
 obtain⟨d,hd,hB⟩:=hj
 obtain⟨j1,j2,j3,j4⟩:=sA hS hr hd hB
 refine⟨fun hf=>?_,j3,hS.ji hr hd hB⟩
 rcases hf with hf | ⟨o,ho,hog⟩ | ⟨b',r',d',i1,i2,i3⟩
 ·exact j1 hf
 ·obtain⟨t,ht⟩:=List.mem_iff_getElem?.1 ho
  exact j2 t o ht hog
 ·have i1' : (S.heap.set b (.loop { r with st:=.ka,locs:=[] }))[b']?=some (.loop r'):=i1
  by_cases hbb:b'=b
  ·subst hbb
   rw [List.getElem?_set_self (aGs hr).1] at i1'
   cases i1'
   cases i2
  ·rw [List.getElem?_set_ne (Ne.symm hbb)] at i1'
   exact j4 b' r' d' hbb i1' i2 i3
theorem kd {l:List (Nat×List V)} {d:Nat} {cs:List V}:∀{ks:List Nat},look d (gk l ks)=some cs→d∈ks∧look d l=some cs
 | [],h=>by cases h
 | t::ts,h=>by
  unfold gk at h
  split at h
  ·rename_i v hv
   by_cases hdt:d=t
   ·subst hdt
    rw [bB] at h
    cases h
    exact⟨aMs,hv⟩
   ·rw [aW hdt] at h
    obtain⟨h1,h2⟩:=kd (ks:=ts) h
    exact⟨aMt _ h1,h2⟩
  ·obtain⟨h1,h2⟩:=kd (ks:=ts) h
   exact⟨aMt _ h1,h2⟩
theorem CG (hS:bI E S w) (hE:cC E S lc A a w) {b B:Nat} (hb:E.ρ[b]?=some B) {r r' : dj} (hr:S.heap[b]?=some (.loop r)) {keys:List Nat}
 (hlc:∀d∈keys,lc d=E.lm b d) (HK:r'.locs=gk A.locs keys) {L:Loop} (hk:∀k,k≠B→w'.heap[k]?=w.heap[k]?) (hw:w.heap[B]?=some (.loop L))
 (hH:fF E w' B (E.lm b) r'):bI E (er S b r') w':=by
 rw [iJ]
 have hin:∀d cs,look d r'.locs=some cs→d∈keys∧look d A.locs=some cs:=fun d cs hd=>kd (by rw [← HK];exact hd)
 refine sy hS hb hr hk hH ⟨fun d cs hd=>?_,fun d d' C h1 h2 h3 h4=>?_⟩ (fun d C hd hC=>?_)
 ·obtain⟨h1,h2⟩:=hin d cs hd
  obtain⟨C,h3,h4⟩:=hE.locs.cells d cs h2
  refine⟨C,by rw [← hlc d h1];exact h3,h4.mono (eV.refl E) (hk C fun e=>?_)⟩
  obtain⟨arr,ty,h5,_⟩:=h4
  rw [e,hw] at h5
  cases h5
 ·obtain⟨cs,hcs⟩:=Option.isSome_iff_exists.1 h1
  obtain⟨cs',R6⟩:=Option.isSome_iff_exists.1 h2
  obtain⟨i1,i2⟩:=hin d cs hcs
  obtain⟨j1,j2⟩:=hin d' cs' R6
  exact hE.locs.inj d d' C (by rw [i2];rfl) (by rw [j2];rfl) (by rw [hlc d i1];exact h3) (by rw [hlc d' j1];exact h4)
 ·obtain⟨cs,hcs⟩:=Option.isSome_iff_exists.1 hd
  obtain⟨i1,i2⟩:=hin d cs hcs
  exact vi hE (by rw [i2];rfl) (by rw [hlc d i1];exact hC)
end
section
variable {C:Cfg} {P:Program} {R:Run} {k:Nat}
theorem CH {l:List (Nat×List V)} {d:Nat} (h:d∈jM l):memN d (jM l)=true:=memN_iff.2 h
theorem I9 {E:Rho} {S:St} {lc:bZ} {A:Env} {a:Act} {w w' : World} (hE:cC E S lc A a w) {b B:Nat} (hb:E.ρ[b]?=some B) {r' : dj} (HK:r'.locs=[])
 (hk:∀k,k≠B→w'.heap[k]?=w.heap[k]?) (hsz:w'.heap.size=w.heap.size):cC E (er S b r') lc A a w':=by
 rw [iJ]
 have hB:FP E S B:=.inl (aMg hb)
 refine⟨hE.nt,hE.tmps,hE.locs.mono (eV.refl E) (fun k hk'=>hk k fun e=>(hE.apart k hk').1 (by rw [e];exact hB)),fun C hC=>?_,fun d hd=>?_,hE.kY⟩
 ·obtain⟨h1,h2,h3⟩:=hE.apart C hC
  exact⟨fun hf=>h1 (iU HK hf),h2,by rw [hsz];exact h3⟩
 ·obtain⟨s,h1,h2,h3⟩:=hE.marks d hd
  exact⟨s,h1,by rw [hk s (fun e=>h3 (by rw [e];exact hB))];exact h2,fun hf=>h3 (iU HK hf)⟩
theorem El {E E1 E2:Rho} {S S1 S2:St} {lc1 lc2:bZ} {A1 A2:Env} {a1 a2:Act} {w w1 w1' w2 w3:World} {b B:Nat} {r r1 r3:dj} {L2:Loop} {nt:Nat} {ts:List (Nat×V)} (hb:E.ρ[b]?=some B)
 (hr:S.heap[b]?=some (.loop r))
 (hr1:Res E (er S b { r with st:=.ka,locs:=[] }) (E.lm b) { nt:=nt,tmps:=ts,locs:=r.locs,fix:=jM r.locs } a1 w E1 S1 lc1 A1 w1)
 (h1:r1.locs=[]) (hk1:∀k,k≠B→w1'.heap[k]?=w1.heap[k]?) (ho1:w1'.os=w1.os) (ht1:w1'.tape=w1.tape) (hu1:w1'.output=w1.output) (hs1:w1'.heap.size=w1.heap.size)
 (hr2:Res E1 (er S1 b r1) lc1 A1 a2 w1' E2 S2 lc2 A2 w2) {r2:dj} (hg2:S2.heap[b]?=some (.loop r2)) (hq:w2.heap[B]?=some (.loop L2))
 (h3:r3.locs=gk A2.locs (jM r.locs)) (hk3:∀k,k≠B→w3.heap[k]?=w2.heap[k]?) (ho3:w3.os=w2.os) (ht3:w3.tape=w2.tape) (hu3:w3.output=w2.output) (hs3:w3.heap.size=w2.heap.size)
 (hH:fF E2 w3 B (E2.lm b) r3) :
 bI E2 (er S2 b r3) w3∧Step E E2 (FP E S) (FP E2 (er S2 b r3)) w w3:=by
 have B5:b < E.ρ.length:=(aGs hb).1
 have hb1:=hr1.step.mono.lj hb
 have hb2:=hr2.step.mono.lj hb1
 have hlc:∀d∈jM r.locs,lc2 d=E2.lm b d:=fun d hd=>by
  have e1:lc1 d=E.lm b d:=hr1.fix.2 d (CH hd)
  have e2:lc2 d=lc1 d:=hr2.fix.2 d (by rw [hr1.fix.1];exact CH hd)
  rw [e2,e1,hr2.step.lm b (Nat.lt_of_lt_of_le B5 hr1.step.mono.len),hr1.step.lm b B5]
 have R7:FL E1 S1 lc1 A1 B:=.inl (.inl (aMg hb1))
 have R8:FL E2 S2 lc2 A2 B:=.inl (.inl (aMg hb2))
 have s1:Step E E1 (FP E S) (FL E1 S1 lc1 A1) w w1:=hr1.step.wider fun k hk=>by
  rcases hk with hk | ⟨d,hd,hB⟩
  ·rw [iJ] at hk;exact iU rfl hk
  ·exact .inr (.inr ⟨b,r,d,hr,hd,hB⟩)
 have s2:Step E1 E1 (FL E1 S1 lc1 A1) (FL E1 (er S1 b r1) lc1 A1) w1 w1':=
  ⟨ho1,ht1,hu1,by rw [hs1];exact Nat.le_refl _,fun k _ hn=>hk1 k fun e=>hn (by rw [e];exact R7),fun k hk=>.inl (by
   rcases hk with hk | hk
   ·rw [iJ] at hk;exact .inl (iU h1 hk)
   ·exact .inr hk),fun _ _ _ h=>h,fun _ _ _ h=>.inl h,⟨[],by simp⟩,lO.refl E1,fun _ _=>rfl⟩
 have s3:Step E2 E2 (FL E2 S2 lc2 A2) (FP E2 (er S2 b r3)) w2 w3:=
  ⟨ho3,ht3,hu3,by rw [hs3];exact Nat.le_refl _,fun k _ hn=>hk3 k fun e=>hn (by rw [e];exact R8),fun k hk=>.inl (by
   rw [iJ] at hk
   rcases hk with hk | hk | ⟨b',q,d,i1,i2,i3⟩
   ·exact .inl (.inl hk)
   ·exact .inl (.inr (.inl hk))
   ·have i1' : (S2.heap.set b (.loop r3))[b']?=some (.loop q):=i1
    by_cases hbb:b'=b
    ·subst hbb
     rw [List.getElem?_set_self (aGs hg2).1] at i1'
     cases i1'
     obtain⟨cs,hcs⟩:=Option.isSome_iff_exists.1 i2
     obtain⟨j1,j2⟩:=kd (by rw [← h3];exact hcs)
     exact .inr ⟨d,by rw [j2];rfl,by rw [hlc d j1];exact i3⟩
    ·rw [List.getElem?_set_ne (Ne.symm hbb)] at i1'
     exact .inl (.inr (.inr ⟨b',q,d,i1',i2,i3⟩))),fun _ _ _ h=>h,fun _ _ _ h=>.inl h,⟨[],by simp⟩,lO.refl E2,fun _ _=>rfl⟩
 exact⟨CG hr2.cP hr2.ck hb2 hg2 hlc h3 hk3 hq hH,((s1.trans s2).trans hr2.step).trans s3⟩
theorem CI (hC:CfgOk C P) (y7:∀ro fid c,codeOk (C.fc fid) c=true→(ro=none∨dg c=true)→db P ro c (fun A S=>evalCode C R k fid (C.fc fid) c A S))
 {b:Nat} {args:List V} {S S' : St} {v:V} (h:round C R k b args S=some (v,S')):v.lvl.isSome=true∧
 ∀E w X B,bI E S w→ao E bw args X→(aJ args).isSome=true→E.ρ[b]?=some B→Yields P B ⟨X⟩ w (kx E S w v S'):=by
 unfold round at h
 split at h
 ·rename_i r hr
  rw [bR] at hr
  split at h
  ·rename_i yV
   obtain⟨hst,Up,Em⟩:=yV
   split at h
   ·rename_i ts hts
    unfold tH at h
    split at h
    ·rename_i A1 S1 yy
     split at h
     ·rename_i r1 hl1
      unfold vP at h
      split at h
      ·rename_i e A2 S2 wx
       split at h
       ·rename_i r2 hl2
        obtain⟨g1,g2,g3⟩:=qV hl1
        obtain⟨f1,f2,f3⟩:=qV hl2
        have hv:v.lvl.isSome=true:=by cases e<;>(cases h;rfl)
        refine⟨hv,fun E w X B hS hX hlX hb=>?_⟩
        obtain⟨⟨L,q1,q2,q3,q4,q5,q6⟩,hL⟩:=hS.blk _ _ _ hb hr
        obtain⟨⟨o1,o2⟩,p1,p2,p3,p4,p5⟩:=q3 (by rw [hst];intro h;cases h)
        have hlen:X.length=L.params.size:=by
         rw [hX.length,qW hts,← p1,Array.length_toList]
        obtain⟨n0,hn0⟩:=bz hlX
        obtain⟨hT,hTs⟩:=Ek hts p5 (hX.nM hn0) (fun t ht=>by
         have:=allB_mem Em t ht
         rw [Nat.blt_eq] at this
         omega)
        obtain⟨hS0,hE0⟩:=CF hS hb hr hst hT (by rw [hTs];exact p4)
        refine⟨_,_,_,_,run_yield q1 hlen,fun n=>roundIn_of_wpIn trivial ?_⟩
        rw [p1,p2,p3]
        obtain⟨c1,c2⟩:=(hC.okc _ _).1 o1
        obtain⟨c3,c4⟩:=(hC.okc _ _).1 o2
        refine y7 (some B) r.fid r.assign c1 (.inr c2) n hS0 hE0 yy (fun E1 lc1 a1 w1 _ hr1=>?_)
        have hb1:=hr1.step.mono.lj hb
        obtain⟨⟨L1,x1,x2,x3,x4,x5,x6⟩,_⟩:=hr1.cP.blk _ _ _ hb1 g1
        rw [g2] at x2
        have hk1:∀k,k≠B→({ w1 with heap:=w1.heap.setIfInBounds B (.loop { L1 with state:=.busy }) }:World).heap[k]?=w1.heap[k]?:=fun k hk=>Array.getElem?_setIfInBounds_ne (Ne.symm hk)
        have R9:B < w1.heap.size:=(aGa x1).1
        refine⟨_,run_beginRound x1 x2,?_⟩
        have hS1:bI E1 (er S1 b { r1 with st:=.busy }) { w1 with heap:=w1.heap.setIfInBounds B (.loop { L1 with state:=.busy }) }:=by
         rw [iJ]
         exact sy hr1.cP hb1 g1 hk1 ⟨{ L1 with state:=.busy },(by simp [R9]),rfl,fun _=>x3 (by rw [g2];intro h;cases h),fun _=>x4 (.inr (.inl g2)),fun h=>(by cases h),fun h=>(by cases h)⟩
          ⟨(fun d cs hd=>by rw [show ({ r1 with st:=RSt.busy }:dj).locs=r1.locs from rfl,g3] at hd;cases hd),(fun d d' B hd=>by rw [show ({ r1 with st:=RSt.busy }:dj).locs=r1.locs from rfl,g3] at hd;cases hd)⟩
          (fun d B hd=>by rw [show ({ r1 with st:=RSt.busy }:dj).locs=r1.locs from rfl,g3] at hd;cases hd)
        have hE1:=I9 (w':={ w1 with heap:=w1.heap.setIfInBounds B (.loop { L1 with state:=.busy }) }) (S:=S1) hr1.ck hb1 (r':={ r1 with st:=.busy }) g3 hk1 (Array.size_setIfInBounds)
        refine y7 (some B) r.fid r.body c3 (.inr c4) n hS1 hE1 wx (fun E2 lc2 a2 w2 _ hr2=>?_)
        have hb2:=hr2.step.mono.lj hb1
        obtain⟨⟨L2,y1,y2,y3,y4,y5,y6⟩,_⟩:=hr2.cP.blk _ _ _ hb2 f1
        have I8:B < w2.heap.size:=(aGa y1).1
        have y3':=y3 (by rw [f2];intro h;cases h)
        have Ch:∀(j:Option Code) (r3:dj),r3.locs=gk A2.locs (jM r.locs)→
         fF E2 { w2 with heap:=w2.heap.setIfInBounds B (.loop { L2 with state:=if j.isNone then .ready else .done,pending:=j }) } B (E2.lm b) r3→
         ∃v' w',(Instr.endRound B j).run P w2=.ok v' w'∧kx E S w (.bool j.isNone) (er S2 b r3) (.returned v') w':=fun j r3 h3 hH=>by
         obtain⟨t1,t2⟩:=El hb hr hr1 (r1:={ r1 with st:=.busy }) g3 hk1 rfl rfl rfl (Array.size_setIfInBounds) hr2 f1 y1 h3
          (w3:={ w2 with heap:=w2.heap.setIfInBounds B (.loop { L2 with state:=if j.isNone then .ready else .done,pending:=j }) })
          (fun k hk=>Array.getElem?_setIfInBounds_ne (Ne.symm hk)) rfl rfl rfl (Array.size_setIfInBounds) hH
         exact⟨_,_,run_endRound y1 j,_,E2,rfl,t1,t2,rfl⟩
        cases e with
        | normal=>
         cases h
         exact Ch none { r2 with st:=.ready,locs:=gk A2.locs (jM r.locs) } rfl
          ⟨{ L2 with state:=.ready,pending:=none },by simp [I8],rfl,fun _=>y3',fun _=>y4 (.inr (.inr f2)),fun _=>rfl,fun h=>by cases h⟩
        | ret=>
         cases h
         exact Ch (some .ret) { r2 with st:=.done,locs:=gk A2.locs (jM r.locs),iX:=some .ret } rfl
          ⟨{ L2 with state:=.done,pending:=some .ret },by simp [I8],rfl,fun _=>y3',fun h=>(by rcases h with h | h | h<;>cases h),fun h=>(by cases h),fun _=>⟨.ret,rfl,rfl,by intro h;cases h⟩⟩
        | exit id=>
         cases h
         exact Ch (some (.exit id)) { r2 with st:=.done,locs:=gk A2.locs (jM r.locs),iX:=some (.exit id) } rfl
          ⟨{ L2 with state:=.done,pending:=some (.exit id) },by simp [I8],rfl,fun _=>y3',fun h=>(by rcases h with h | h | h<;>cases h),fun h=>(by cases h),fun _=>⟨.exit id,rfl,rfl,by intro h;cases h⟩⟩
       ·cases h
      ·cases h
     ·cases h
    ·cases h
   ·cases h
  ·cases h
 ·cases h
end
section
variable {C:Cfg} {P:Program} {R:Run} {k:Nat}
theorem nk (hC:CfgOk C P) (hR:cK C P R) (ro:Option Nat) (fid:Nat) (c:Code) (hok:codeOk (C.fc fid) c=true) (hro:ro=none∨dg c=true) :
 db P ro c (fun A S=>evalCode C R k fid (C.fc fid) c A S):=
 iI hC hR (fun g ps x y hn Sa=>by subst hn;exact CD hC hR Sa) c hok hro
theorem CJ (hC:CfgOk C P) {id:Nat} {args:List V} {S:St} {r:V×St} (h:frame C R k id args S=some r) :
 ∃fn c,P.funcs[id]?=some fn∧(fn.name == "runtime.NumGoroutine")=false∧fn.body=some c:=by
 unfold frame at h
 split at h
 ·rename_i fn hfn
  split at h
  ·rename_i c hc
   obtain⟨h1,h2⟩:=hC.fn id fn hfn
   exact⟨fn,c,h1,h2,hc⟩
  ·cases h
 ·cases h
theorem En (id:Nat) (args:List V) (S:St):step C R k (.f id) args S =
 bif (C.fc id).pure && allB V.pure args then
  match frame C R k id (bg V.strip args) St.empty with
  | some (v,S')=>match frz { nt:=0,tmps:=[],locs:=[],fix:=[] } S' .any v with
   | some v=>if isZero v.lvl then some (v.b8,S) else none
   | none=>none
  | none=>none
 else frame C R k id args S:=rfl
theorem Gb (hC:CfgOk C P) (hR:cK C P R):cK C P (step C R k) where
 fn id args S r h:=by
  rw [En] at h
  cases hq:((C.fc id).pure && allB V.pure args) with
  | true=>
   rw [hq] at h
   simp only [cond_true] at h
   split at h
   ·rename_i v S' hf
    exact CJ hC hf
   ·cases h
  | false=>
   rw [hq] at h
   exact CJ hC h
 pure id args S v S' hp ha h:=by
  rw [En,hp,ha] at h
  simp only [Bool.and_self,cond_true] at h
  split at h
  ·rename_i v0 S0 hf
   split at h
   ·rename_i v1 hz
    split at h
    ·rename_i hz0
     cases h
     exact⟨rfl,Eh hC (fun fid c hok=>nk hC hR none fid c hok (.inl rfl)) hf hz hz0⟩
    ·cases h
   ·cases h
  ·cases h
 call id args S v S' hq h:=by
  rw [En,hq] at h
  obtain⟨h1,h2⟩:=uA hC (fun fid c hok=>nk hC hR none fid c hok (.inl rfl)) (show frame C R k id args S=some (v,S') from h)
  exact⟨h1,fun E w X hS hX _=>h2 E w X hS hX⟩
 yield b args S v S' h:=CI hC (fun ro fid c hok hro=>nk hC hR ro fid c hok hro) (show round C R k b args S=some (v,S') from h)
theorem Oo (hC:CfgOk C P):∀n,cK C P (run C n)
 | 0=>⟨(fun _ _ _ _ h=>by cases (show (none:Option (V×St))=_ from h)),(fun _ _ _ _ _ _ _ h=>by cases (show (none:Option (V×St))=_ from h)),
  (fun _ _ _ _ _ _ h=>by cases (show (none:Option (V×St))=_ from h)),(fun _ _ _ _ _ h=>by cases (show (none:Option (V×St))=_ from h))⟩
 | n + 1=>Gb (k:=n) hC (Oo hC n)
end
noncomputable def vp:List (Nat×Nat)→List (Nat×Nat)→Bool
 | [],[]=>true
 | a::l,b::m=>cu (Nat.beq a.1 b.1) (cu (Nat.beq a.2 b.2) (vp l m))
 | _,_=>false
theorem wB:∀{l m:List (Nat×Nat)},vp l m=true→l=m
 | [],[],_=>rfl
 | [],_::_,h=>by cases h
 | _::_,[],h=>by cases h
 | (a,b)::l,(c,d)::m,h=>by
  obtain⟨h1,h2⟩:=bq.1 (show cu (Nat.beq a c) (cu (Nat.beq b d) (vp l m))=true from h)
  obtain⟨h3,h4⟩:=bq.1 h2
  rw [Nat.eq_of_beq_eq_true h1,Nat.eq_of_beq_eq_true h3,wB h4]
noncomputable def Ja (P:Program) (T:Nat) (k:Kd):Bool:=
 match k,P.underlying T with
 | .bool,some .bool=>true
 | .int k,some (.int j)=>decide (j=k)
 | .str,some .string=>true
 | .ptr e,some (.pointer f)=>Nat.beq f e
 | .slice e,some (.slice f)=>Nat.beq f e
 | .arr n e,some (.array m f)=>cu (Nat.beq m n) (Nat.beq f e)
 | .struct fs,some (.struct fields)=>cu (vp (fields.toList.map (fun f=>(f.offset,f.type))) fs) (allB (fun f=>(P.info? f.type).isSome) fields.toList)
 | .map k e,some (.map j f)=>cu (Nat.beq j k) (Nat.beq f e)
 | .func,some (.func _ _ _)=>true
 | .other,_=>true
 | _,_=>false
theorem Jb {P:Program} {T:Nat} {k:Kd} (h:Ja P T k=true):Al P T k:=by
 unfold Ja at h
 split at h
 ·assumption
 ·rename_i hq;rw [of_decide_eq_true h] at hq;exact hq
 ·assumption
 ·rename_i hq;rw [Nat.eq_of_beq_eq_true h] at hq;exact hq
 ·rename_i hq;rw [Nat.eq_of_beq_eq_true h] at hq;exact hq
 ·rename_i hq
  obtain⟨h1,h2⟩:=bq.1 h
  rw [Nat.eq_of_beq_eq_true h1,Nat.eq_of_beq_eq_true h2] at hq;exact hq
 ·rename_i fs fields hq
  obtain⟨h1,h2⟩:=bq.1 h
  exact⟨fields,hq,wB h1,fun f hf=>allB_mem h2 f hf⟩
 ·rename_i hq
  obtain⟨h1,h2⟩:=bq.1 h
  rw [Nat.eq_of_beq_eq_true h1,Nat.eq_of_beq_eq_true h2] at hq;exact hq
 ·rename_i hq;exact⟨_,_,_,hq⟩
 ·trivial
 ·cases h
noncomputable def NF (P:Program) (T:Nat) (i:TI):Bool:=
 match P.info? T with
 | some inf=>cu (Nat.beq inf.size i.size) (cu (Nat.beq inf.bytes i.bytes) (match inf.zero with | some z=>m7 i.zero z.cells.toList | none=>false))
 | none=>false
noncomputable def NG (P:Program) (T:Nat) (i:TI):Bool:=
 match P.underlying T with
 | some (.struct _)=>false
 | some (.array _ _)=>false
 | some _=>Nat.beq i.size 1
 | none=>false
noncomputable def tiB (P:Program) (T:Nat) (i:TI):Bool:=
 cu (NF P T i) (cu (Nat.beq (aG i.zero) i.size) (cu (Ja P T i.kind) (orB i.isAgg (NG P T i))))
theorem tiB_ok {P:Program} {T:Nat} {i:TI} (h:tiB P T i=true):tI P T i:=by
 obtain⟨h1,h2⟩:=bq.1 h
 obtain⟨h3,h4⟩:=bq.1 h2
 obtain⟨h5,h6⟩:=bq.1 h4
 refine⟨?_,Jb h5,?_⟩
 ·unfold NF at h1
  split at h1
  ·rename_i inf BX
   obtain⟨k1,k2⟩:=bq.1 h1
   obtain⟨k3,k4⟩:=bq.1 k2
   split at k4
   ·rename_i z hz
    exact⟨inf,z,BX,Nat.eq_of_beq_eq_true k1,Nat.eq_of_beq_eq_true k3,hz,k4,by rw [← an];exact Nat.eq_of_beq_eq_true h3⟩
   ·cases k4
  ·cases h1
 ·rcases lW.1 h6 with h | h
  ·exact .inl h
  ·right
   unfold NG at h
   split at h
   ·cases h
   ·cases h
   ·rename_i d hs ha hd
    refine⟨Nat.eq_of_beq_eq_true h,d,hd,?_⟩
    cases d<;>first | trivial | exact absurd rfl (hs _) | exact absurd rfl (ha _ _)
   ·cases h
noncomputable def CK (C:Cfg) (f:Nat) (fn:Func):Bool:=match fn.body with | some c=>codeOk (C.fc f) c | none=>true
def FnOk (C:Cfg) (P:Program) (f:Nat) (fn:Func):Prop:=P.funcs[f]?=some fn∧(fn.name == "runtime.NumGoroutine")=false∧CK C f fn=true
theorem body_of {C:Cfg} {f:Nat} {fn:Func} {c:Code} (h:CK C f fn=true) (hc:fn.body=some c):codeOk (C.fc f) c=true:=by
 unfold CK at h
 rw [hc] at h
 exact h
noncomputable def Jc (l:List Nat) (o:Oper):Nat:=
 List.rec (motive:=fun _=>Nat) 0 (fun e _ ih=>bif Region.binds .any e then Nat.lor (Nat.lor (Nat.pow 2 e.on) (match nth l e.on with | some m=>m | none=>0)) ih else ih) o.after.toList
noncomputable def Gc (F:FC) (ops:List Oper) (ac:Nat→Acc) (y:Oper) (ly:List Nat) (j:Nat) (anc:Nat):List Oper→Nat→Bool
 | [],_=>true
 | x::rest,i=>
  cu (match Nat.blt i j with
   | true=>cu (orB (Nat.testBit anc i) (indep (looks ops x) ly x y (ac i) (ac j))) (tF (bO F x) (bO F y))
   | false=>true) (Gc F ops ac y ly j anc rest (i + 1))
noncomputable def y9 (F:FC) (ops:List Oper) (ac:Nat→Acc):List Oper→Nat→List Nat→Bool
 | [],_,_=>true
 | y::rest,j,l=>
  cu (lM j y.after.toList) (cu (Gc F ops ac y (looks ops y) j (Jc l y) ops 0) (y9 F ops ac rest (j + 1) (cq l [Jc l y])))
def qq (m:Nat) (l:List Nat):Prop:=∀i,Nat.testBit m i=memN i l
theorem Jd (i:Nat) (a b:List Nat):memN i (cq a b)=(memN i a || memN i b):=by
 rw [Bool.eq_iff_iff,memN_iff,bK,List.mem_append,Bool.or_eq_true,memN_iff,memN_iff]
theorem Eo (i a:Nat) (l:List Nat):memN i (a::l)=(decide (a=i) || memN i l):=by
 rw [Bool.eq_iff_iff,memN_iff,List.mem_cons,Bool.or_eq_true,memN_iff,decide_eq_true_eq]
 constructor
 ·rintro (h | h)
  ·exact .inl h.symm
  ·exact .inr h
 ·rintro (h | h)
  ·exact .inl h.symm
  ·exact .inr h
theorem tT (i:Nat):memN i []=false:=by
 cases h:memN i [] with
 | false=>rfl
 | true=>rw [memN_iff] at h;cases h
noncomputable def LF (l:List (List Nat)) (e:Edge):List Nat:=bif Region.binds .any e then e.on::(match nth l e.on with | some m=>m | none=>[]) else []
noncomputable def Oq (l:List Nat) (es:List Edge):Nat:=List.rec (motive:=fun _=>Nat) 0 (fun e _ ih=>bif Region.binds .any e then Nat.lor (Nat.lor (Nat.pow 2 e.on) (match nth l e.on with | some m=>m | none=>0)) ih else ih) es
theorem Ge {l:List Nat} {l' : List (List Nat)} (h:∀j,(∃m k,nth l j=some m∧nth l' j=some k∧qq m k)∨(nth l j=none∧nth l' j=none)) (i:Nat):∀es:List Edge,Nat.testBit (Oq l es) i=memN i (yE (LF l') es)
 | []=>(Nat.zero_testBit i).trans (tT i).symm
 | e::es=>by
  have ih:=Ge h i es
  show Nat.testBit (bif Region.binds .any e then Nat.lor (Nat.lor (Nat.pow 2 e.on) (match nth l e.on with | some m=>m | none=>0)) (Oq l es) else Oq l es) i=memN i (cq (LF l' e) (yE (LF l') es))
  rw [Jd,← ih]
  unfold LF
  cases Region.binds .any e with
  | false=>simp only [cond_false];rw [tT,Bool.false_or]
  | true=>
   simp only [cond_true]
   rw [Eo]
   show Nat.testBit ((2 ^ e.on ||| _) ||| _) i=_
   rw [Nat.testBit_or,Nat.testBit_or,Nat.testBit_two_pow]
   congr 2
   rcases h e.on with⟨m,k,h1,h2,h3⟩ | ⟨h1,h2⟩
   ·rw [h1,h2];exact h3 i
   ·rw [h1,h2];simp only;rw [tT];exact Nat.zero_testBit i
theorem LG {l:List Nat} {l' : List (List Nat)} (h:∀j,(∃m k,nth l j=some m∧nth l' j=some k∧qq m k)∨(nth l j=none∧nth l' j=none)) (o:Oper):qq (Jc l o) (qN l' o):=
 fun i=>Ge h i o.after.toList
theorem CL {F:FC} {ops:List Oper} {ac:Nat→Acc} {y:Oper} {ly:List Nat} {j m:Nat} {anc:List Nat} (h:qq m anc):∀(l:List Oper) (i:Nat),Gc F ops ac y ly j m l i=tG F ops ac y ly j anc l i
 | [],_=>rfl
 | x::rest,i=>by
  rw [Gc,tG,CL h rest (i + 1),h i]
  cases Nat.blt i j<;>rfl
theorem CM {F:FC} {ops:List Oper} {ac:Nat→Acc}:∀(r:List Oper) (j:Nat) (l:List Nat) (l' : List (List Nat)),l.length=l'.length→(∀(i m:Nat) (k:List Nat),l[i]?=some m→l'[i]?=some k→qq m k)→y9 F ops ac r j l=nK F ops ac r j l'
 | [],_,_,_,_,_=>rfl
 | y::rest,j,l,l',hl,h=>by
  have ha:qq (Jc l y) (qN l' y):=LG (fun j=>by
   rw [bR,bR]
   cases h1:l[j]? with
   | none=>right;rw [List.getElem?_eq_none_iff] at h1;exact⟨rfl,List.getElem?_eq_none_iff.2 (by omega)⟩
   | some m=>
    have hj:=(aGs h1).1
    left
    exact⟨m,l'[j],rfl,aGe (by omega),h j m _ h1 (aGe (by omega))⟩) y
  rw [y9,nK,CL ha,bK,bK,CM rest (j + 1) (l++[Jc l y]) (l'++[qN l' y]) (by simp [hl]) (fun i m k hm hk=>by
   by_cases hi:i < l.length
   ·rw [List.getElem?_append_left hi] at hm
    rw [List.getElem?_append_left (by omega)] at hk
    exact h i m k hm hk
   ·rw [List.getElem?_append_right (by omega)] at hm
    rw [List.getElem?_append_right (by omega)] at hk
    rw [← hl] at hk
    cases hq:i - l.length with
    | zero=>rw [hq] at hm hk;cases hm;cases hk;exact ha
    | succ q=>rw [hq] at hm;cases hm)]
noncomputable def Je (F:FC) (id:Nat) (ops:Array Oper):Bool:=match gY ops.toList with
 | none=>y9 F ops.toList (F.acc id) ops.toList 0 []
 | some q=>cu (y9 F ops.toList (F.acc id) (cq q.pre [q.b]) 0 []) (cu (lM (aG q.pre + 1) q.p.after.toList) (cu (lM (aG q.pre + 2) q.i.after.toList) (cu (lM (aG q.pre + 3) q.e.after.toList) (cu (lM (aG q.pre + 4) q.h.after.toList)
  (cu (Ae q.p (aG q.pre + 1)) (cu (jd q.i (aG q.pre + 1)) (cu (jd q.e (aG q.pre + 2)) (jd q.h (aG q.pre + 1)))))))))
theorem Jf (F:FC) (id:Nat) (ops:Array Oper):Je F id ops=vM F id ops:=by
 have key:∀r,y9 F ops.toList (F.acc id) r 0 []=nK F ops.toList (F.acc id) r 0 []:=fun r=>CM r 0 [] [] rfl (fun i m k h _=>by cases h)
 unfold Je vM
 cases gY ops.toList with
 | none=>exact key _
 | some q=>simp only [Ln,key]
noncomputable def lb (F:FC):Code→Bool
 | .region id ops draw=>(match draw with | true=>Je F id ops | false=>true)
 | .seq a b=>cu (lb F a) (lb F b)
 | .cond _ a b=>cu (lb F a) (lb F b)
 | .block _ b=>lb F b
 | .loop b=>lb F b
 | .rangeFunc _ _ a b=>cu (cu (lb F a) (dg a)) (cu (lb F b) (dg b))
 | _=>true
theorem Jg (F:FC) (c:Code):lb F c=codeOk F c:=by
 induction c with
 | region id ops draw=>cases draw with
  | true=>exact Jf F id ops
  | false=>rfl
 | seq a b ha hb=>show cu (lb F a) (lb F b)=cu (codeOk F a) (codeOk F b);rw [ha,hb]
 | cond c a b ha hb=>show cu (lb F a) (lb F b)=cu (codeOk F a) (codeOk F b);rw [ha,hb]
 | block id b hb=>exact hb
 | loop b hb=>exact hb
 | rangeFunc f ps a b ha hb=>show cu (cu (lb F a) (dg a)) (cu (lb F b) (dg b))=cu (cu (codeOk F a) (dg a)) (cu (codeOk F b) (dg b));rw [ha,hb]
 | _=>rfl
noncomputable def NH (C:Cfg) (f:Nat) (fn:Func):Bool:=match fn.body with | some c=>lb (C.fc f) c | none=>true
theorem body_q {C:Cfg} {f:Nat} {fn:Func} (h:NH C f fn=true):CK C f fn=true:=by
 unfold NH at h
 unfold CK
 cases hc:fn.body with
 | none=>rfl
 | some c=>rw [hc] at h;exact (Jg (C.fc f) c).symm.trans h
end Go.Ev
