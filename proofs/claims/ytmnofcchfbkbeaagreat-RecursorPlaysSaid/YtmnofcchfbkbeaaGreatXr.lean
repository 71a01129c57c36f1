/- The document: what its functions on declarations give (own work). -/
import Derived.Test.YtmnofcchfbkbeaaGreatXq
namespace Go.Ev
open Go.Proofs Go.RowKit
set_option maxRecDepth 100000
section
variable {C:Cfg} {R:Run} {F:FC} {k fid nt:Nat} {fx:List Nat}
theorem aD.times {σ:Type} {c:Code} {K:Ex→Env→St→Prop} (N:Nat) (env:Nat→σ→Env) (st:Nat→σ→St) (P:Nat→σ→Prop)
 (dN:∀j s,j < N→P j s→er C R F k fid nt fx c (env j s) (st j s) fun e A S=>match e with | .normal=>∃s',P (j + 1) s'∧A=env (j + 1) s'∧S=st (j + 1) s' | e=>K e A S)
 (wU:∀s,P N s→er C R F k fid nt fx c (env N s) (st N s) fun e A S=>match e with | .normal=>False | e=>K e A S) :
 ∀(m j f:Nat) (s:σ),m + j=N→m < f→P j s→aD (iter (evalCode C R k fid F c) f (env j s) (st j s)) K
 | 0,j,f + 1,s,h,_,hp=>by
  obtain rfl:j=N:=by omega
  obtain⟨e,A',S',h1,h2⟩:=cM C R F c (wU s hp)
  rw [lE,h1]
  cases e with
  | normal=>exact h2.elim
  | ret=>exact⟨_,_,_,rfl,h2⟩
  | exit i=>exact⟨_,_,_,rfl,h2⟩
 | m + 1,j,f + 1,s,h,hf,hp=>by
  obtain⟨e,A',S',h1,h2⟩:=cM C R F c (dN j s (by omega) hp)
  rw [lE,h1]
  cases e with
  | normal=>
   obtain⟨s',k1,rfl,rfl⟩:=h2
   exact aD.times N env st P dN wU m (j + 1) f s' (by omega) (by omega) k1
  | ret=>exact⟨_,_,_,rfl,h2⟩
  | exit i=>exact⟨_,_,_,rfl,h2⟩
theorem aD.loop (nt:Nat) {σ:Type} {c:Code} {K:Ex→Env→St→Prop} {f:Nat} (N:Nat) (env:Nat→σ→Env) (st:Nat→σ→St) (P:Nat→σ→Prop) (s:σ) (hf:N < f) (hp:P 0 s)
 (dN:∀j s,j < N→P j s→er C R F k fid nt [] c (env j s) (st j s) fun e A S=>match e with | .normal=>∃s',P (j + 1) s'∧A=env (j + 1) s'∧S=st (j + 1) s' | e=>K e A S)
 (wU:∀s,P N s→er C R F k fid nt [] c (env N s) (st N s) fun e A S=>match e with | .normal=>False | e=>K e A S) :
 aD (iter (evalCode C R k fid F c) f (env 0 s) (st 0 s)) K:=aD.times N env st P dN wU N 0 f s rfl hf hp
theorem aD.M4 {σ:Type} {c:Code} {K:Ex→Env→St→Prop} (env:Nat→σ→Env) (st:Nat→σ→St) (P:Nat→σ→Prop)
 (dN:∀m s,P (m + 1) s→er C R F k fid nt fx c (env (m + 1) s) (st (m + 1) s) fun e A S=>match e with | .normal=>∃s',P m s'∧A=env m s'∧S=st m s' | e=>K e A S)
 (wU:∀s,P 0 s→er C R F k fid nt fx c (env 0 s) (st 0 s) fun e A S=>match e with | .normal=>False | e=>K e A S) :
 ∀(m f:Nat) (s:σ),m < f→P m s→aD (iter (evalCode C R k fid F c) f (env m s) (st m s)) K
 | 0,f + 1,s,_,hp=>by
  obtain⟨e,A',S',h1,h2⟩:=cM C R F c (wU s hp)
  rw [lE,h1]
  cases e with
  | normal=>exact h2.elim
  | ret=>exact⟨_,_,_,rfl,h2⟩
  | exit i=>exact⟨_,_,_,rfl,h2⟩
 | m + 1,f + 1,s,hf,hp=>by
  obtain⟨e,A',S',h1,h2⟩:=cM C R F c (dN m s hp)
  rw [lE,h1]
  cases e with
  | normal=>
   obtain⟨s',k1,rfl,rfl⟩:=h2
   exact aD.M4 env st P dN wU m f s' (by omega) k1
  | ret=>exact⟨_,_,_,rfl,h2⟩
  | exit i=>exact⟨_,_,_,rfl,h2⟩
theorem aD.down (nt:Nat) {σ:Type} {c:Code} {K:Ex→Env→St→Prop} {f:Nat} (N:Nat) (env:Nat→σ→Env) (st:Nat→σ→St) (P:Nat→σ→Prop) (s:σ) (hf:N < f) (hp:P N s)
 (dN:∀m s,P (m + 1) s→er C R F k fid nt [] c (env (m + 1) s) (st (m + 1) s) fun e A S=>match e with | .normal=>∃s',P m s'∧A=env m s'∧S=st m s' | e=>K e A S)
 (wU:∀s,P 0 s→er C R F k fid nt [] c (env 0 s) (st 0 s) fun e A S=>match e with | .normal=>False | e=>K e A S) :
 aD (iter (evalCode C R k fid F c) f (env N s) (st N s)) K:=aD.M4 env st P dN wU N f s hf hp
end
section
variable {C:Cfg} {R:Run}
theorem aU {k id:Nat} {args:List V} {S:St} {fn:Func} {c:Code} {p:V×St→Prop} (hf:C.fn id=some fn) (hc:fn.body=some c)
 (h:er C R (C.fc id) k id fn.ntmps [] c { nt:=fn.ntmps,tmps:=number 0 args,locs:=[],fix:=[] } S fun e A S=>match e with | .exit _=>False | _=>∃r,finish C fn A S=some r∧p r) :
 ∃r,frame C R k id args S=some r∧p r:=by
 obtain⟨e,A,S',h1,h3⟩:=cM C R (C.fc id) c h
 unfold frame
 simp only [hf,hc,h1]
 cases e with
 | exit i=>exact h3.elim
 | normal=>exact h3
 | ret=>exact h3
end
@[reducible] def ES:Env:={ nt:=0,tmps:=[],locs:=[],fix:=[] }
def szG (n:Nat):List V→Nat
 | []=>0
 | _::_=>n
theorem HU {ei:TI} {H:List Blk} {T0 T:List Nat} {done new:List V} {tok:Tok} (h0:0 < ei.size) (hb:ei.bytes≤1000) (hlen:done.length + new.length < 1000000000) (hg:av T0 T done tok) (hne:new≠[]) :
 ∃T' aV,(∀ac:Acc,ac.heap=true→kp ei { heap:=H,aA:=T } ac (szG ei.size done) tok 0 done 0 new=some (.list ei.size aV 0 (done++new),{ heap:=H,aA:=T' }))∧av T0 T' (done++new) aV:=by
 obtain⟨xr,hg⟩:=hg
 have hl:(aH done + aH new) * (ei.bytes + 1)≤140737488355328:=by
  rw [aq,aq]
  have:(done.length + new.length) * (ei.bytes + 1)≤1000000000 * 1001:=Nat.mul_le_mul (by omega) (by omega)
  omega
 have xt:done++new≠[]:=by simp [hne]
 rcases hg with⟨rfl,rfl⟩ | ⟨t,rfl,h1,h2,h3⟩
 ·refine⟨cz T [aH ([]:List V) + aH new],.own (aH T),?_,⟨?_,?_⟩,.inr ⟨_,rfl,?_,?_,xt⟩⟩
  ·intro ac hac
   unfold kp
   rw [if_pos ⟨h0,.inl rfl,hl,hac⟩]
   rfl
  ·rw [bM];have:=xr.1;simp;omega
  ·intro t v hv
   have:=xr.2 t v hv
   rw [bS] at this
   rw [bM,bS,List.getElem?_append_left (aGs this).1];exact this
  ·rw [aq];exact xr.1
  ·rw [bM,bS,aq (l:=T),List.getElem?_append_right (Nat.le_refl _),Nat.sub_self]
   simp [aq]
 ·have hsz:szG ei.size done=ei.size:=by
   cases done with
   | nil=>exact absurd rfl h3
   | cons d ds=>rfl
  have htl:t < T.length:=mM h2
  refine⟨tA T t (aH done + aH new),.own t,?_,⟨?_,?_⟩,.inr ⟨t,rfl,h1,?_,xt⟩⟩
  ·intro ac hac
   unfold kp
   rw [if_pos ⟨h0,.inr hsz,hl,hac⟩]
   show (if nth T t=some (aH done) then _ else none)=_
   rw [if_pos (by rw [h2,aq])]
   simp [bM]
  ·rw [fp,List.length_set];exact xr.1
  ·intro u v hv
   have hu:=mM hv
   rw [fp,bS,List.getElem?_set_ne (by omega),← bS]
   exact xr.2 u v hv
  ·rw [fp,bS,List.getElem?_set_self htl,aq,aq,aLa]
theorem dm {LT ET sz by' : Nat} {z' : List V} {ei:TI} {H:List Blk} {T0 T:List Nat} {done new:List V} {tok bg:Tok} {sz2:Nat} (hl:Tryz.cfg.ti LT=some { kind:=.slice ET,size:=sz,bytes:=by',zero:=z' }) (he:Tryz.cfg.ti ET=some ei)
 (h0:0 < ei.size) (hb:ei.bytes≤1000) (hlen:done.length + new.length < 1000000000) (hg:av T0 T done tok) (h2:new=[]∨sz2=ei.size) :
 ∃T' aV,(∀(A:Env) (ac:Acc),ac.heap=true→append Tryz.cfg A { heap:=H,aA:=T } ac LT (.list (szG ei.size done) tok 0 done) (.list sz2 bg 0 new)=some (.list (szG ei.size (done++new)) aV 0 (done++new),{ heap:=H,aA:=T' }))∧av T0 T' (done++new) aV:=by
 have hq:(new.isEmpty=true∨sz2=ei.size):=by
  rcases h2 with rfl | h2
  ·exact .inl rfl
  ·exact .inr h2
 have hr:∀(A:Env) (ac:Acc) (S:St),gV A S ac ei.size (.list sz2 bg 0 new)=some (0,new):=fun A ac S=>by unfold gV;exact if_pos hq
 by_cases hn:new=[]
 ·subst hn
  refine⟨T,tok,?_,by rw [List.append_nil];exact hg⟩
  intro A ac hac
  unfold append
  simp only [hl,he,hr,List.isEmpty_nil,if_true,List.append_nil]
 ·obtain⟨T',aV,h1,h3⟩:=HU (H:=H) h0 hb hlen hg hn
  refine⟨T',aV,?_,h3⟩
  intro A ac hac
  unfold append
  have hf:new.isEmpty=false:=by cases new with | nil=>exact absurd rfl hn | cons a l=>rfl
  simp only [hl,he,hr,hf,Bool.false_eq_true,if_false]
  have hs:szG ei.size (done++new)=ei.size:=by
   cases hd:done++new with
   | nil=>simp [hn] at hd
   | cons a l=>rfl
  rw [h1 ac hac,hs]
theorem zA (xs:List Tm):szG 5 (ag xs)=ao false xs:=by
 cases xs with
 | nil=>rw [ag];rfl
 | cons x xs=>rw [ag];rfl
theorem GF {α:Type} (f:α→V) (xs:List α):szG 5 (xs.map f)=ao false xs:=by cases xs<;>rfl
theorem av.map {α β:Type} {T0 T:List Nat} {done:List α} {tok:Tok} (f:List α→List β) (hf:∀l,(f l).length=l.length):av T0 T (f done) tok↔av T0 T done tok:=by
 have he:f done=[]↔done=[]:=by
  constructor
  ·intro h;have:=hf done;rw [h] at this;exact List.eq_nil_of_length_eq_zero (by simpa using this.symm)
  ·intro h;have:=hf done;rw [h] at this ⊢;exact List.eq_nil_of_length_eq_zero (by simpa using this)
 unfold av
 rw [hf,he]
 simp only [ne_eq,he]
theorem jH {α:Type} (c:Bool) (xs:List α):xs=[]∨ao c xs=5:=by cases xs<;>simp [ao]
theorem iA {LT sz by' : Nat} {z' : List V} {H:List Blk} {T0 T:List Nat} {done new:List Tm} {tok bg:Tok} {c:Bool} (hl:Tryz.cfg.ti LT=some { kind:=.slice 25,size:=sz,bytes:=by',zero:=z' })
 (hlen:done.length + new.length < 1000000000) (hg:av T0 T done tok) :
 ∃T' aV,(∀(A:Env) (ac:Acc),ac.heap=true→append Tryz.cfg A { heap:=H,aA:=T } ac LT (.list (ao false done) tok 0 (ag done)) (.list (ao c new) bg 0 (ag new))=some (.list (ao false (done++new)) aV 0 (ag (done++new)),{ heap:=H,aA:=T' }))∧av T0 T' (done++new) aV:=by
 have h:=dm (LT:=LT) (ET:=25) (ei:=Tryz.ti25) (H:=H) (T0:=T0) (T:=T) (done:=ag done) (new:=ag new) (tok:=tok) (bg:=bg) (sz2:=ao c new) hl rfl (by decide) (by decide)
  (by rw [← aq,← aq,ak,ak];exact hlen) ((av.map ag (fun l=>by rw [← aq,ak])).2 hg) (by
   rcases jH c new with h | h
   ·exact .inl (by rw [h,ag])
   ·exact .inr h)
 obtain⟨T',aV,h1,h2⟩:=h
 have e:ag done++ag new=ag (done++new):=by rw [nz,bM]
 rw [e] at h1 h2
 refine⟨T',aV,?_,(av.map ag (fun l=>by rw [← aq,ak])).1 h2⟩
 rw [show Tryz.ti25.size=5 from rfl,zA,zA] at h1
 exact h1
theorem bs1 (x:Tm) (LT:Nat) (sz by' : Nat) (z' : List V) (hl:Tryz.cfg.ti LT=some { kind:=.slice 25,size:=sz,bytes:=by',zero:=z' }):buildSlice Tryz.cfg LT 1 [(0,aB x)]=some (.list (ao false [x]) .tight 0 (ag [x])):=by
 have h:buildSlice Tryz.cfg LT 1 [(0,aB x)]=some (.list 5 .tight 0 [.agg (bn ai (aC x))]):=by
  unfold buildSlice
  simp only [hl]
  rfl
 rw [h,cZ]
 show some (V.list 5 .tight 0 [(aB x).strip])=_
 rw [eO];rfl
theorem bs2 (x y:Tm):buildSlice Tryz.cfg 23 2 [(0,aB x),(1,aB y)]=some (.list (ao false [x,y]) .tight 0 (ag [x,y])):=by
 have h:buildSlice Tryz.cfg 23 2 [(0,aB x),(1,aB y)]=some (.list 5 .tight 0 [.agg (bn ai (aC x)),.agg (bn ai (aC y))]):=rfl
 rw [h,cZ]
 show some (V.list 5 .tight 0 [(aB x).strip,(aB y).strip])=_
 rw [eO,eO];rfl
noncomputable def m3 (f x:Tm):Tm:=.mk 4 0 [] false true false true [] [f,x]
noncomputable def de (f:Tm) (xs:List Tm):Tm:=xs.foldl m3 f
noncomputable def xu (k:Int) (a b:Tm):Tm:=.mk k 0 [] false true false true [] [a,b]
noncomputable def eB (k:Int) (xs:List Tm) (t:Tm):Tm:=xs.foldr (xu k) t
noncomputable def JB (n:Int):Tm:=.mk 2 n [] false true false true [] []
noncomputable def bR (at_ aa:Int):Tm:=JB (aa - 1 - at_)
noncomputable def db (from_ n:Nat) (aa:Int):List Tm:=(List.range n).map fun i=>bR (.ofNat (from_ + i)) aa
theorem L0 {T:Nat} {a b:Int} (h : -9223372036854775808≤a + b) (h2:a + b≤9223372036854775807):binOp Tryz.cfg .add T (.int .i64 a) (.int .i64 b)=some (.int .i64 (a + b)):=by
 show some (V.int .i64 (eH .i64 (a + b)))=_
 rw [gy h h2]
theorem mB {T:Nat} {a b:Int} (h : -9223372036854775808≤a - b) (h2:a - b≤9223372036854775807):binOp Tryz.cfg .sub T (.int .i64 a) (.int .i64 b)=some (.int .i64 (a - b)):=by
 show some (V.int .i64 (eH .i64 (a - b)))=_
 rw [gy h h2]
def Bd (a:Int):Prop:=-1000000000000≤a∧a≤1000000000000
theorem dZ {id n:Nat} {args:List V} {S S' : St} {x:Tm} (h:frame Tryz.cfg (RN n) n id args St.empty=some (aB x,S')) (hm:bn V.strip args=args) (hp:(Tryz.cfg.fc id).pure=true) (ha:allB V.pure args=true) (hc:l8 id=true:=by rfl) :
 RN (n + 1) (.f id) args S=some (aB x,S):=bC h hm hp ha rfl rfl (eO x) hc
theorem xw {id n:Nat} {args:List V} {S S' : St} {sz:Nat} {tok:Tok} {b:Bool} {xs:List Tm} (h:frame Tryz.cfg (RN n) n id args St.empty=some (.list sz tok 0 (ag xs),S')) (ht:ep tok=aw b) (hm:bn V.strip args=args) (hp:(Tryz.cfg.fc id).pure=true) (ha:allB V.pure args=true) (hc:l8 id=true:=by rfl) :
 RN (n + 1) (.f id) args S=some (.list sz (aw b) 0 (ag xs),S):=by
 refine bC h hm hp ha rfl rfl ?_ hc
 rw [← ht]
 cases tok<;>rfl
theorem jI (s:List UInt8) (l:List V):bn V.strip (.str s::l)=.str s::bn V.strip l:=rfl
theorem Oj (n:Nat) (i:Int) (S:St):RN (n + 1) (.f 46) [.int .i64 i] S=some (aB (JB i),S):=
 iE (v:=aB (JB i)) (S':=St.empty) (by kernel_rfl) rfl rfl rfl rfl rfl
theorem JC (n:Nat) (a r:Int) (ha:Bd a) (hr:Bd r) (S:St):RN (n + 2) (.f 75) [.int .i64 a,.int .i64 r] S=some (aB (bR a r),S):=by
 have h:frame Tryz.cfg (RN (n + 1)) (n + 1) 75 [.int .i64 a,.int .i64 r] St.empty=some (aB (bR a r),St.empty):=by
  refine aO Tryz.cfg _ (fn:=Tryz.f75) rfl rfl ?_
  refine ab.mk _ (mB (by unfold Bd at *;omega) (by unfold Bd at *;omega)) ?_
  refine ab.mk _ (mB (by unfold Bd at *;omega) (by unfold Bd at *;omega)) ?_
  refine ae.mk _ _ (Oj n _ _) ?_
  rfl
 exact iE h rfl rfl rfl rfl rfl
theorem GG (n:Nat) (a r:Int) (ha:Bd a) (hr:Bd r) (S:St):RN (n + 1) (.f 125) [.int .i64 a,.int .i64 r] S=some (aB (bR a r),S):=by
 have h:frame Tryz.cfg (RN n) n 125 [.int .i64 a,.int .i64 r] St.empty=some (aB (bR a r),St.empty):=by
  refine aO Tryz.cfg _ (fn:=Tryz.f125) rfl rfl ?_
  refine ab.mk _ (mB (by unfold Bd at *;omega) (by unfold Bd at *;omega)) ?_
  refine ab.mk _ (mB (by unfold Bd at *;omega) (by unfold Bd at *;omega)) ?_
  rfl
 exact iE h rfl rfl rfl rfl rfl
theorem L3 (n:Nat) (f x:Tm) (S:St):RN (n + 1) (.f 139) [aB f,aB x] S=some (aB (m3 f x),S):=by
 have h:frame Tryz.cfg (RN n) n 139 [aB f,aB x] St.empty=some (aB (m3 f x),St.empty):=by
  refine aO Tryz.cfg _ (fn:=Tryz.f139) rfl rfl ?_
  refine ab.mk _ (bs2 f x) ?_
  rfl
 exact dZ h (by simp only [bh,an]) rfl rfl
theorem ua (f:Tm) (xs:List Tm) (j:Nat) (x:Tm) (h:xs[j]?=some x):(xs.take (j + 1)).foldl m3 f=m3 ((xs.take j).foldl m3 f) x:=by
 rw [List.take_add_one,h];simp [List.foldl_append]
theorem JD (n:Nat) (f:Tm) (xs:List Tm) (c d:Bool) (hn:xs.length < n + 1) (hl:xs.length < 1000000000) (S:St) :
 RN (n + 2) (.f 74) [aB f,.list (ao c xs) (aw d) 0 (ag xs)] S=some (aB (de f xs),S):=by
 have h:frame Tryz.cfg (RN (n + 1)) (n + 1) 74 [aB f,.list (ao c xs) (aw d) 0 (ag xs)] St.empty=some (aB (de f xs),St.empty):=by
  refine aO Tryz.cfg _ (fn:=Tryz.f74) rfl rfl ?_
  refine aD.loop 19 (σ:=Unit) xs.length (fun j _=>{ nt:=19,tmps:=[(1,.list (ao c xs) (aw d) 0 (ag xs)),(2,.ptr (.loc 2) 0),(4,.ptr (.loc 4) 0),(5,.int .i64 (.ofNat j))],locs:=[(2,aC ((xs.take j).foldl m3 f)),(4,fI)],fix:=[] }) (fun _ _=>St.empty) (fun _ _=>True) () hn trivial ?_ ?_
  ·intro j _ hj _
   obtain⟨x,hx⟩ : ∃x,xs[j]?=some x:=⟨_,aGe hj⟩
   refine ah.yes (gI hj) ?_
   refine ab.mk _ (bz hx) ?_
   refine ae.mk _ _ (L3 n _ _ _) ?_
   refine ab.mk _ (az (by omega)) ?_
   exact⟨(),trivial,by rw [ua f xs j x hx],rfl⟩
  ·intro _ _
   refine ah.no (gJ (by omega)) ?_
   rw [List.take_length]
   rfl
 exact dZ h (by simp only [bh,b8,an]) rfl rfl
theorem De (from_ n:Nat) (aa:Int) (j:Nat) (h:j < n):(db from_ n aa).take (j + 1)=(db from_ n aa).take j++[bR (.ofNat (from_ + j)) aa]:=by
 unfold db
 rw [List.take_add_one,← List.map_take,List.getElem?_map,List.getElem?_range h]
 rfl
theorem ev (from_ n:Nat) (aa:Int):(db from_ n aa).length=n:=by unfold db;simp
theorem Ol (n:Nat) (from_ m:Nat) (r:Int) (hf:from_ + m < 1000000000) (hr:Bd r) (hn:m < n + 2) (H:List Blk) (T:List Nat) :
 ∃T' tok,RN (n + 3) (.f 72) [.int .i64 (.ofNat from_),.int .i64 (.ofNat m),.int .i64 r] { heap:=H,aA:=T }=some (.list (ao false (db from_ m r)) tok 0 (ag (db from_ m r)),{ heap:=H,aA:=T' })∧av T T' (db from_ m r) tok:=by
 have h:∃q,frame Tryz.cfg (RN (n + 2)) (n + 2) 72 [.int .i64 (.ofNat from_),.int .i64 (.ofNat m),.int .i64 r] { heap:=H,aA:=T }=some q∧(∃T' tok,q=(.list (ao false (db from_ m r)) tok 0 (ag (db from_ m r)),{ heap:=H,aA:=T' })∧av T T' (db from_ m r) tok):=by
  refine aU (fn:=Tryz.f72) (p:=fun q=>∃T' tok,q=(.list (ao false (db from_ m r)) tok 0 (ag (db from_ m r)),{ heap:=H,aA:=T' })∧av T T' (db from_ m r) tok) rfl rfl ?_
  refine aD.loop 23 (σ:=Tok×List Nat) m (fun j s=>{ nt:=23,tmps:=[(0,.int .i64 (.ofNat from_)),(1,.int .i64 (.ofNat m)),(2,.int .i64 r),(7,.list (ao false ((db from_ m r).take j)) s.1 0 (ag ((db from_ m r).take j))),(8,.int .i64 (.ofNat j))],locs:=[],fix:=[] })
   (fun _ s=>{ heap:=H,aA:=s.2 }) (fun j s=>av T s.2 ((db from_ m r).take j) s.1) (.tight,T) hn (av.start T) ?_ ?_
  ·rintro j ⟨tok,T1⟩ hj hg
   refine ah.yes (dj hj) ?_
   refine ab.mk _ (addNat (by omega)) ?_
   refine ae.mk _ _ (JC n _ r (by unfold Bd;simp only [aOn];omega) hr _) ?_
   refine ab.mk _ (bs1 _ 23 _ _ _ rfl) ?_
   obtain⟨T',aV,h1,h2⟩:=iA (LT:=23) (c:=false) (bg:=.tight) (H:=H) (new:=[bR (.ofNat (from_ + j)) r]) rfl (by rw [List.length_take,ev];simp;omega) hg
   rw [← De from_ m r j hj] at h1 h2
   refine cj.mk _ _ (h1 _ _ rfl) ?_
   refine ab.mk _ (az (by omega)) ?_
   exact⟨(aV,T'),h2,rfl,rfl⟩
  ·rintro⟨tok,T1⟩ hg
   refine ah.no (eS (by omega)) ?_
   rw [List.take_of_length_le (by rw [ev];exact Nat.le_refl _)] at hg ⊢
   exact⟨_,rfl,_,_,rfl,hg⟩
 obtain⟨q,h1,T',tok,rfl,h2⟩:=h
 exact⟨T',tok,bw rfl h1,h2⟩
theorem L4 (n:Nat) (from_ m:Nat) (r:Int) (hf:from_ + m < 1000000000) (hr:Bd r) (hn:m < n + 1) (S:St) :
 RN (n + 2) (.f 122) [.int .i64 (.ofNat from_),.int .i64 (.ofNat m),.int .i64 r] S=some (.list (ao false (db from_ m r)) (aw (db from_ m r).isEmpty) 0 (ag (db from_ m r)),S):=by
 have h:∃q,frame Tryz.cfg (RN (n + 1)) (n + 1) 122 [.int .i64 (.ofNat from_),.int .i64 (.ofNat m),.int .i64 r] St.empty=some q∧(∃T' tok,q=(.list (ao false (db from_ m r)) tok 0 (ag (db from_ m r)),{ heap:=[],aA:=T' })∧av [] T' (db from_ m r) tok):=by
  refine aU (fn:=Tryz.f122) (p:=fun q=>∃T' tok,q=(.list (ao false (db from_ m r)) tok 0 (ag (db from_ m r)),{ heap:=[],aA:=T' })∧av [] T' (db from_ m r) tok) rfl rfl ?_
  refine aD.loop 22 (σ:=Tok×List Nat) m (fun j s=>{ nt:=22,tmps:=[(0,.int .i64 (.ofNat from_)),(2,.int .i64 r),(6,.list (ao false ((db from_ m r).take j)) s.1 0 (ag ((db from_ m r).take j))),(8,.int .i64 (.ofNat m)),(9,.int .i64 (.ofNat j))],locs:=[],fix:=[] })
   (fun _ s=>{ heap:=[],aA:=s.2 }) (fun j s=>av [] s.2 ((db from_ m r).take j) s.1) (.tight,[]) hn (av.start []) ?_ ?_
  ·rintro j ⟨tok,T1⟩ hj hg
   refine ah.yes (dj hj) ?_
   refine ab.mk _ (addNat (by omega)) ?_
   refine ae.mk _ _ (GG n _ r (by unfold Bd;simp only [aOn];omega) hr _) ?_
   refine ab.mk _ (bs1 _ 23 _ _ _ rfl) ?_
   obtain⟨T',aV,h1,h2⟩:=iA (LT:=23) (c:=false) (bg:=.tight) (H:=[]) (new:=[bR (.ofNat (from_ + j)) r]) rfl (by rw [List.length_take,ev];simp;omega) hg
   rw [← De from_ m r j hj] at h1 h2
   refine cj.mk _ _ (h1 _ _ rfl) ?_
   refine ab.mk _ (az (by omega)) ?_
   exact⟨(aV,T'),h2,rfl,rfl⟩
  ·rintro⟨tok,T1⟩ hg
   refine ah.no (eS (by omega)) ?_
   rw [List.take_of_length_le (by rw [ev];exact Nat.le_refl _)] at hg ⊢
   exact⟨_,rfl,_,_,rfl,hg⟩
 obtain⟨q,h1,T',tok,rfl,h2⟩:=h
 exact xw h1 h2.ep rfl rfl rfl
noncomputable def dn:Nat→Int | 0=>-1 | m + 1=>.ofNat m
theorem xx (k:Int) (xs:List Tm) (t x:Tm) (m:Nat) (h:xs[m]?=some x):eB k (xs.drop m) t=xu k x (eB k (xs.drop (m + 1)) t):=by
 have hm:=(aGs h)
 unfold eB
 rw [List.drop_eq_getElem_cons hm.1,List.foldr_cons,hm.2]
theorem Df {T m:Nat} (h:m < 9223372036854775807):binOp Tryz.cfg .sub T (.int .i64 (dn (m + 1))) (.int .i64 1)=some (.int .i64 (dn m)):=by
 cases m with
 | zero=>exact mB (by simp [dn]) (by simp [dn])
 | succ m=>exact kQ (by omega)
theorem Om (n:Nat) (k:Int) (xs:List Tm) (t:Tm) (c d:Bool) (hn:xs.length < n) (hl:xs.length < 1000000000) (S:St) :
 RN (n + 1) (.f 73) [.int .u8 k,.list (ao c xs) (aw d) 0 (ag xs),aB t] S=some (aB (eB k xs t),S):=by
 have h:frame Tryz.cfg (RN n) n 73 [.int .u8 k,.list (ao c xs) (aw d) 0 (ag xs),aB t] St.empty=some (aB (eB k xs t),St.empty):=by
  refine aO Tryz.cfg _ (fn:=Tryz.f73) rfl rfl ?_
  have h0:binOp Tryz.cfg .sub 3 (.int .i64 (.ofNat (aH (ag xs)))) (.int .i64 1)=some (.int .i64 (dn xs.length)):=by
   rw [ak]
   cases hq:xs.length with
   | zero=>rfl
   | succ m=>rw [hq] at hl;exact kQ (by omega)
  refine ab.mk _ h0 ?_
  refine aD.down 24 (σ:=Tm) xs.length (fun m s=>{ nt:=24,tmps:=[(0,.int .u8 k),(1,.list (ao c xs) (aw d) 0 (ag xs)),(5,.ptr (.loc 5) 0),(6,.ptr (.loc 6) 0),(7,.int .i64 (dn m))],locs:=[(5,aC s),(6,fI)],fix:=[] }) (fun _ _=>St.empty) (fun m s=>m≤xs.length∧s=eB k (xs.drop m) t) t hn ⟨Nat.le_refl _,by rw [List.drop_length];rfl⟩ ?_ ?_
  ·rintro m _ ⟨hm,rfl⟩
   obtain⟨x,hx⟩ : ∃x,xs[m]?=some x:=⟨_,aGe hm⟩
   refine ah.yes rfl ?_
   refine ab.mk _ (bz hx) ?_
   refine ab.mk _ (bs2 _ _) ?_
   refine ab.mk _ (Df (by omega)) ?_
   exact⟨xu k x (eB k (xs.drop (m + 1)) t),⟨by omega,(xx k xs t x m hx).symm⟩,rfl,rfl⟩
  ·rintro _ ⟨_,rfl⟩
   refine ah.no rfl ?_
   rfl
 exact dZ h (by simp only [bh,bf,b8,an]) rfl rfl
theorem L5 (n:Nat) (f:Tm) (xs:List Tm) (c d:Bool) (hn:xs.length < n) (hl:xs.length < 1000000000) (S:St) :
 RN (n + 1) (.f 124) [aB f,.list (ao c xs) (aw d) 0 (ag xs)] S=some (aB (de f xs),S):=by
 have h:frame Tryz.cfg (RN n) n 124 [aB f,.list (ao c xs) (aw d) 0 (ag xs)] St.empty=some (aB (de f xs),St.empty):=by
  refine aO Tryz.cfg _ (fn:=Tryz.f124) rfl rfl ?_
  refine aD.loop 19 (σ:=Option Tm×Tm) xs.length (fun j s=>{ nt:=19,tmps:=[(2,.ptr (.loc 2) 0),(4,.ptr (.loc 4) 0),(7,.list (ao c xs) (aw d) 0 (ag xs)),(8,.int .i64 (.ofNat (aH (ag xs)))),(9,.int .i64 (.ofNat j))],locs:=(2,aC s.2)::(4,fI)::oneMore 6 s.1,fix:=[] }) (fun _ _=>St.empty) (fun j s=>s.2=(xs.take j).foldl m3 f) (none,f) hn rfl ?_ ?_
  ·rintro j ⟨o,_⟩ hj rfl
   obtain⟨x,hx⟩ : ∃x,xs[j]?=some x:=⟨_,aGe hj⟩
   cases o with
   | none=>
    refine ah.yes (gI hj) ?_
    refine ab.mk _ (bz hx) ?_
    refine ab.mk _ (bs2 _ _) ?_
    refine ab.mk _ (az (by omega)) ?_
    exact⟨(some x,m3 ((xs.take j).foldl m3 f) x),(ua f xs j x hx).symm,rfl,rfl⟩
   | some y=>
    refine ah.yes (gI hj) ?_
    refine ab.mk _ (bz hx) ?_
    refine ab.mk _ (bs2 _ _) ?_
    refine ab.mk _ (az (by omega)) ?_
    exact⟨(some x,m3 ((xs.take j).foldl m3 f) x),(ua f xs j x hx).symm,rfl,rfl⟩
  ·rintro⟨o,_⟩ rfl
   cases o with
   | none=>
    refine ah.no (gJ (by omega)) ?_
    rw [List.take_length]
    rfl
   | some y=>
    refine ah.no (gJ (by omega)) ?_
    rw [List.take_length]
    rfl
 exact dZ h (by simp only [bh,b8,an]) rfl rfl
theorem On (n:Nat) (f:Tm) (xs:List Tm) (c d:Bool) (hn:xs.length < n + 1) (hl:xs.length < 1000000000) (S:St) :
 RN (n + 3) (.f 47) [aB f,.list (ao c xs) (aw d) 0 (ag xs)] S=some (aB (de f xs),S):=by
 have h:frame Tryz.cfg (RN (n + 2)) (n + 2) 47 [aB f,.list (ao c xs) (aw d) 0 (ag xs)] St.empty=some (aB (de f xs),St.empty):=by
  refine aO Tryz.cfg _ (fn:=Tryz.f47) rfl rfl ?_
  refine ae.mk _ _ (JD n f xs c d hn hl _) ?_
  rfl
 exact dZ h (by simp only [bh,b8,an]) rfl rfl
noncomputable def zB (l:Lv):Tm:=.mk 1 0 [] false true false true [l] []
noncomputable def mf (s:List UInt8) (a b:Bool) (ls:List Lv):Tm:=.mk 3 0 s a b false true ls []
theorem Oo (n:Nat) (l:Lv) (S:St):RN (n + 1) (.f 89) [enc l] S=some (aB (zB l),S):=by
 have h:frame Tryz.cfg (RN n) n 89 [enc l] St.empty=some (aB (zB l),St.empty):=by
  refine aO Tryz.cfg _ (fn:=Tryz.f89) rfl rfl ?_
  refine ab.mk _ rfl ?_
  rfl
 exact dZ h rfl rfl rfl
theorem Oq (n:Nat) (s:List UInt8) (a b:Bool) (ls:List Lv) (S:St):RN (n + 1) (.f 44) [.str s,.list (ao a ls) (aw b) 0 (ls.map enc)] S=some (aB (mf s a b ls),S):=by
 have h:frame Tryz.cfg (RN n) n 44 [.str s,.list (ao a ls) (aw b) 0 (ls.map enc)] St.empty=some (aB (mf s a b ls),St.empty):=by kernel_rfl
 exact dZ h (by simp only [jI,b8,an]) rfl rfl
theorem Dg {LT sz by' : Nat} {z' : List V} {ts:List Tm} {c:Bool} {tk:Tok} {j:Nat} {x:Tm} (hl:Tryz.cfg.ti LT=some { kind:=.slice 25,size:=sz,bytes:=by',zero:=z' }) (h:ts[j]?=some x):indexAddr Tryz.cfg LT (.list (ao c ts) tk 0 (ag ts)) (.int .i64 (.ofNat j))=some (.imm 0 (aC x)):=by
 have:=bz (c:=c) (tk:=tk) h
 unfold indexAddr at this ⊢
 rw [hl]
 rw [show Tryz.cfg.ti 23=some { kind:=.slice 25,size:=1,bytes:=24,zero:=[.list 0 .tight 0 []] } from rfl] at this
 exact this
theorem xz {ts:List Tm} {c:Bool} {tk:Tok} {j:Nat} {x:Tm} (h:ts[j]?=some x):indexAddr Tryz.cfg 157 (.list (ao c ts) tk 0 (ag ts)) (.int .i64 (.ofNat j))=some (.imm 0 (aC x)):=Dg rfl h
noncomputable def xA:dD:={ fid:=123,nt:=19,tmps:=[(5,.ptr (.box 1) 0),(6,.ptr (.loc 6) 0),(7,.ptr (.loc 7) 0),(12,.fn 187 3 [] [.ptr (.box 2) 0])],locs:=[(6,fI),(7,[.fn 160 2 [] [.ptr (.box 0) 0,.ptr (.box 1) 0]])],params:=[13,14],assign:=ma Tryz.f123,body:=mb Tryz.f123,st:=.ready,jj:=none }
noncomputable def zC (k:Int) (xs:List Tm) (c d:Bool) (t:Tm):St:={ heap:=[.cells 5 [.int .u8 k],.cells 25 (aC t),.cells 157 [.list (ao c xs) (aw d) 0 (ag xs)],.loop xA],aA:=[] }
theorem L6 (n:Nat) (k:Int) (x t:Tm) (B:List Blk):RN (n + 1) (.f 160) [aB x,.ptr (.box 0) 0,.ptr (.box 1) 0] { heap:=.cells 5 [.int .u8 k]::.cells 25 (aC t)::B,aA:=[] } =
 some (.tuple [],{ heap:=.cells 5 [.int .u8 k]::.cells 25 (aC (xu k x t))::B,aA:=[] }):=by
 refine bw rfl ?_
 refine aO Tryz.cfg _ (fn:=Tryz.f160) rfl rfl ?_
 refine ab.mk _ (bs2 _ _) ?_
 rfl
theorem EU (n:Nat) (i:Int) (k:Int) (xs:List Tm) (c d:Bool) (x t:Tm):RN (n + 2) (.y 3) [.int .i64 i,aB x] (zC k xs c d t)=some (.bool true,zC k xs c d (xu k x t)):=by
 refine fU ?_
 refine fH (r:=xA) (nt:=19) (fx:=[6,7]) rfl rfl rfl rfl rfl rfl rfl ?_
 refine ae.mk _ _ (L6 n k x t _) ?_
 rfl
theorem L7 (n:Nat) (k:Int) (xs:List Tm) (c d:Bool) (t:Tm) (hn:xs.length < n + 2) (hl:xs.length < 1000000000):RN (n + 3) (.f 187) [.yield 3,.ptr (.box 2) 0] (zC k xs c d t)=some (.tuple [],zC k xs c d (eB k xs t)):=by
 refine bw rfl ?_
 refine aO Tryz.cfg _ (fn:=Tryz.f187) rfl rfl ?_
 have h0:binOp Tryz.cfg .sub 3 (.int .i64 (.ofNat (aH (ag xs)))) (.int .i64 1)=some (.int .i64 (dn xs.length)):=by
  rw [ak]
  cases hq:xs.length with
  | zero=>rfl
  | succ m=>rw [hq] at hl;exact kQ (by omega)
 refine ab.mk _ h0 ?_
 refine aD.down 19 (σ:=Tm) xs.length (fun m s=>{ nt:=19,tmps:=[(0,.yield 3),(1,.ptr (.box 2) 0),(3,.int .i64 (dn m))],locs:=[],fix:=[] }) (fun _ s=>zC k xs c d s) (fun m s=>m≤xs.length∧s=eB k (xs.drop m) t) t hn ⟨Nat.le_refl _,by rw [List.drop_length];rfl⟩ ?_ ?_
 ·rintro m _ ⟨hm,rfl⟩
  obtain⟨x,hx⟩ : ∃x,xs[m]?=some x:=⟨_,aGe hm⟩
  refine ah.yes rfl ?_
  refine ab.mk _ (xz hx) ?_
  refine ae.mk _ _ (EU n _ k xs c d x _) ?_
  refine ab.mk _ (Df (by omega)) ?_
  exact⟨xu k x (eB k (xs.drop (m + 1)) t),⟨by omega,(xx k xs t x m hx).symm⟩,rfl,rfl⟩
 ·rintro _ ⟨_,rfl⟩
  refine ah.no rfl ?_
  rfl
theorem L8 (n:Nat) (k:Int) (xs:List Tm) (c d:Bool) (t:Tm) (hn:xs.length < n + 2) (hl:xs.length < 1000000000) (S:St) :
 RN (n + 4) (.f 123) [.list (ao c xs) (aw d) 0 (ag xs),.int .u8 k,aB t] S=some (aB (eB k xs t),S):=by
 have h:frame Tryz.cfg (RN (n + 3)) (n + 3) 123 [.list (ao c xs) (aw d) 0 (ag xs),.int .u8 k,aB t] St.empty=some (aB (eB k xs t),{ heap:=[.cells 5 [.int .u8 k],.cells 25 (aC (eB k xs t)),.cells 157 [.list (ao c xs) (aw d) 0 (ag xs)],.loop { xA with st:=.rk,locs:=[],tmps:=[] }],aA:=[] }):=by
  refine aO Tryz.cfg _ (fn:=Tryz.f123) rfl rfl ?_
  have RJ:RN (n + 3) (.f 161) [.list (ao c xs) (aw d) 0 (ag xs)] { heap:=[.cells 5 [.int .u8 k],.cells 25 (aC t)],aA:=[] }=some (.fn 187 3 [] [.ptr (.box 2) 0],{ heap:=[.cells 5 [.int .u8 k],.cells 25 (aC t),.cells 157 [.list (ao c xs) (aw d) 0 (ag xs)]],aA:=[] }):=by
   refine bw rfl ?_
   kernel_rfl
  refine ae.mk _ _ RJ ?_
  refine aD.mk _ _ _ (dR (f:=187) (top:=3) (first:=[]) (cap:=[.ptr (.box 2) 0]) (l:=xA) (r:=xA) (S':=zC k xs c d (eB k xs t)) (v:=.tuple []) (by rfl) (by rfl) (L7 n k xs c d t hn hl) (by rfl) (.inl rfl)) ?_
  rfl
 exact dZ h (by simp only [bh,bf,b8,an]) rfl rfl
end Go.Ev
namespace Go.Ev
open Go.Proofs Go.RowKit
set_option maxRecDepth 100000
set_option linter.unusedVariables false
theorem up {n c:Nat} (h:c≤n):∃m,n=m + c:=⟨n - c,by omega⟩
theorem h75 {n:Nat} {a r:Int} {S:St} (hn:2≤n) (ha:Bd a) (hr:Bd r):RN n (.f 75) [.int .i64 a,.int .i64 r] S=some (aB (bR a r),S):=by
 obtain⟨m,rfl⟩:=up hn;exact JC m a r ha hr S
theorem Dh {n:Nat} {a r:Int} {S:St} (hn:1≤n) (ha:Bd a) (hr:Bd r):RN n (.f 125) [.int .i64 a,.int .i64 r] S=some (aB (bR a r),S):=by
 obtain⟨m,rfl⟩:=up hn;exact GG m a r ha hr S
theorem h74 {n:Nat} {f:Tm} {xs:List Tm} {c d:Bool} {S:St} (hn:xs.length + 2≤n) (hl:xs.length < 1000000000):RN n (.f 74) [aB f,.list (ao c xs) (aw d) 0 (ag xs)] S=some (aB (de f xs),S):=by
 obtain⟨m,rfl⟩:=up (show 2≤n by omega);exact JD m f xs c d (by omega) hl S
theorem h47 {n:Nat} {f:Tm} {xs:List Tm} {c d:Bool} {S:St} (hn:xs.length + 3≤n) (hl:xs.length < 1000000000):RN n (.f 47) [aB f,.list (ao c xs) (aw d) 0 (ag xs)] S=some (aB (de f xs),S):=by
 obtain⟨m,rfl⟩:=up (show 3≤n by omega);exact On m f xs c d (by omega) hl S
theorem RK {n:Nat} {f:Tm} {xs:List Tm} {c d:Bool} {S:St} (hn:xs.length + 2≤n) (hl:xs.length < 1000000000):RN n (.f 124) [aB f,.list (ao c xs) (aw d) 0 (ag xs)] S=some (aB (de f xs),S):=by
 obtain⟨m,rfl⟩:=up (show 1≤n by omega);exact L5 m f xs c d (by omega) hl S
theorem h72 {n from_ m:Nat} {r:Int} {H:List Blk} {T:List Nat} (hn:m + 3≤n) (hf:from_ + m < 1000000000) (hr:Bd r) :
 ∃T' tok,RN n (.f 72) [.int .i64 (.ofNat from_),.int .i64 (.ofNat m),.int .i64 r] { heap:=H,aA:=T }=some (.list (ao false (db from_ m r)) tok 0 (ag (db from_ m r)),{ heap:=H,aA:=T' })∧av T T' (db from_ m r) tok:=by
 obtain⟨q,rfl⟩:=up (show 3≤n by omega);exact Ol q from_ m r hf hr (by omega) H T
theorem Bb {n from_ m:Nat} {r:Int} {S:St} (hn:m + 2≤n) (hf:from_ + m < 1000000000) (hr:Bd r) :
 RN n (.f 122) [.int .i64 (.ofNat from_),.int .i64 (.ofNat m),.int .i64 r] S=some (.list (ao false (db from_ m r)) (aw (db from_ m r).isEmpty) 0 (ag (db from_ m r)),S):=by
 obtain⟨q,rfl⟩:=up (show 2≤n by omega);exact L4 q from_ m r hf hr (by omega) S
theorem h73 {n:Nat} {k:Int} {xs:List Tm} {t:Tm} {c d:Bool} {S:St} (hn:xs.length + 2≤n) (hl:xs.length < 1000000000):RN n (.f 73) [.int .u8 k,.list (ao c xs) (aw d) 0 (ag xs),aB t] S=some (aB (eB k xs t),S):=by
 obtain⟨m,rfl⟩:=up (show 1≤n by omega);exact Om m k xs t c d (by omega) hl S
theorem Da {n:Nat} {k:Int} {xs:List Tm} {t:Tm} {c d:Bool} {S:St} (hn:xs.length + 4≤n) (hl:xs.length < 1000000000):RN n (.f 123) [.list (ao c xs) (aw d) 0 (ag xs),.int .u8 k,aB t] S=some (aB (eB k xs t),S):=by
 obtain⟨m,rfl⟩:=up (show 4≤n by omega);exact L8 m k xs c d t (by omega) hl S
theorem h89 {n:Nat} {l:Lv} {S:St} (hn:1≤n):RN n (.f 89) [enc l] S=some (aB (zB l),S):=by
 obtain⟨m,rfl⟩:=up hn;exact Oo m l S
theorem h44 {n:Nat} {s:List UInt8} {a b:Bool} {ls:List Lv} {S:St} (hn:1≤n):RN n (.f 44) [.str s,.list (ao a ls) (aw b) 0 (ls.map enc)] S=some (aB (mf s a b ls),S):=by
 obtain⟨m,rfl⟩:=up hn;exact Oq m s a b ls S
mutual
def dU:Tm→Prop
 | .mk k n s a b c d ls ts=>bm (.mk k n s a b c d ls ts)=true∧Di ts
def Di:List Tm→Prop
 | []=>True
 | t::ts=>dU t∧Di ts
end
theorem HV (ts:List Tm):Di ts↔∀y∈ts,dU y:=by
 induction ts with
 | nil=>simp [Di]
 | cons t ts ih=>rw [Di,ih];simp
theorem cp (x:Tm):dU x↔bm x=true∧∀y∈x.ts,dU y:=by cases x;rw [dU,HV];rfl
theorem cK {x:Tm} (h:cL x=true):dU x:=by
 obtain⟨r,hr⟩:=me h
 exact xn (P:=fun x _=>dU x) (fun x d hp ih=>(cp x).2 ⟨hp,ih⟩) x hr
theorem Dj {x:Tm} (h:bm x=true):(!iLt (cH x.k) 0 && iEq (.ofNat (aH (ag x.ts))) (cH x.k))=true:=by
 unfold bm at h
 simp only [Bool.and_eq_true] at h ⊢
 exact h.1.1
theorem fW {x:Tm} (h:bm x=true) (hk:cH x.k=2):∃a b,x.ts=[a,b]:=by
 have:=Dj h
 rw [hk,ak] at this
 simp only [Bool.and_eq_true,bW,decide_eq_true_eq] at this
 have hl:x.ts.length=2:=by have:=this.2;simp at this;omega
 match hx:x.ts,hl with
 | [a,b],_=>exact⟨a,b,rfl⟩
theorem og {k:Int} (h:iEq k 6=true):cH k=2:=by
 rw [bW,decide_eq_true_eq] at h;subst h;rfl
theorem nB {k:Int} (h:iEq k 4=true):cH k=2:=by
 rw [bW,decide_eq_true_eq] at h;subst h;rfl
mutual
noncomputable def al:Tm→List Tm×Tm
 | .mk k n s a b c d ls ts=>match iEq k 6,ts,JE ts with
  | true,[x,_],[_,r]=>(x::r.1,r.2)
  | _,_,_=>([],.mk k n s a b c d ls ts)
noncomputable def JE:List Tm→List (List Tm×Tm)
 | []=>[]
 | t::ts=>al t::JE ts
end
theorem lA {x a b:Tm} (h:iEq x.k 6=true) (ht:x.ts=[a,b]):al x=(a::(al b).1,(al b).2):=by
 obtain⟨k,n,s,fa,fb,fc,fd,ls,ts⟩:=x
 have ht' : ts=[a,b]:=ht
 subst ht'
 have hk:iEq k 6=true:=h
 conv=>lhs;unfold al
 rw [hk]
 simp only [JE]
theorem mO {x:Tm} (h:iEq x.k 6=false):al x=([],x):=by
 obtain⟨k,n,s,fa,fb,fc,fd,ls,ts⟩:=x
 have hk:iEq k 6=false:=h
 unfold al
 rw [hk]
theorem fy:∀(w:Nat) (x:Tm),wt x≤w→dU x→(al x).1.length + wt (al x).2≤wt x∧dU (al x).2∧(∀y∈(al x).1,dU y∧wt y≤wt x)
 | 0,x,h,_=>by rw [cO] at h;omega
 | w + 1,x,h,hx=>by
  obtain⟨h1,h2⟩:=(cp x).1 hx
  cases hk:iEq x.k 6 with
  | false=>rw [mO hk];exact⟨by simp,hx,by simp⟩
  | true=>
   obtain⟨a,b,ht⟩:=fW h1 (og hk)
   rw [lA hk ht]
   have hb:=cT (x:=b) (y:=x) (by rw [ht];simp)
   have ha:=cT (x:=a) (y:=x) (by rw [ht];simp)
   obtain⟨k1,k2,k3⟩:=fy w b (by omega) (h2 b (by rw [ht];simp))
   refine⟨by simp only [aLc];omega,k2,fun y hy=>?_⟩
   cases hy with
   | head=>exact⟨h2 a (by rw [ht];simp),by omega⟩
   | tail _ hy=>exact⟨(k3 y hy).1,by have:=(k3 y hy).2;omega⟩
structure mg (x:Tm) (j:Nat) (l:List Tm) (cur:Tm):Prop where
 all:dU cur
 done:l=(al x).1.take j
 rest:(al cur).1=(al x).1.drop j
 last:(al cur).2=(al x).2
theorem mg.next {x:Tm} {j:Nat} {l:List Tm} {cur:Tm} (h:mg x j l cur) (hj:j < (al x).1.length):iEq cur.k 6=true∧∃a b,cur.ts=[a,b]∧mg x (j + 1) (l++[a]) b:=by
 obtain⟨h1,h2⟩:=(cp cur).1 h.all
 have hr:=h.rest
 cases hk:iEq cur.k 6 with
 | false=>
  rw [mO hk] at hr
  have:=congrArg List.length hr
  simp at this
  omega
 | true=>
  obtain⟨a,b,ht⟩:=fW h1 (og hk)
  refine⟨rfl,a,b,ht,?_⟩
  rw [lA hk ht] at hr
  have hl:=h.last
  rw [lA hk ht] at hl
  have e:=List.drop_eq_getElem_cons hj
  rw [e] at hr
  injection hr with e1 e2
  refine⟨h2 b (by rw [ht];simp),?_,e2,hl⟩
  rw [h.done,List.take_add_one,aGe hj,e1]
  rfl
theorem mg.end_ {x:Tm} {l:List Tm} {cur:Tm} (h:mg x (al x).1.length l cur):iEq cur.k 6=false∧l=(al x).1∧cur=(al x).2:=by
 obtain⟨h1,h2⟩:=(cp cur).1 h.all
 have hr:=h.rest
 rw [List.drop_length] at hr
 cases hk:iEq cur.k 6 with
 | true=>
  obtain⟨a,b,ht⟩:=fW h1 (og hk)
  rw [lA hk ht] at hr
  cases hr
 | false=>
  have hl:=h.last
  rw [mO hk] at hl
  exact⟨rfl,by rw [h.done,List.take_length],hl⟩
theorem mg.start {x:Tm} (h:dU x):mg x 0 [] x:=⟨h,rfl,rfl,rfl⟩
def HW (x:Tm) (H:List Blk) (T:List Nat) (q:V×St):Prop:=
 ∃T' tok,q=(.tuple [.list (ao false (al x).1) tok 0 (ag (al x).1),aB (al x).2],{ heap:=H,aA:=T' })∧av T T' (al x).1 tok
theorem h33 {n:Nat} {x:Tm} {H:List Blk} {T:List Nat} (hx:dU x) (hn:wt x + 2≤n) (hw:wt x < 1000000000):∃q,RN n (.f 33) [aB x] { heap:=H,aA:=T }=some q∧HW x H T q:=by
 obtain⟨m,rfl⟩:=up (show 1≤n by omega)
 have hl:=(fy _ x (Nat.le_refl _) hx).1
 have h:∃q,frame Tryz.cfg (RN m) m 33 [aB x] { heap:=H,aA:=T }=some q∧HW x H T q:=by
  refine aU (fn:=Tryz.f33) (p:=HW x H T) rfl rfl ?_
  refine aD.loop 21 (σ:=(List Tm×Tm)×Tok×List Nat) (al x).1.length (fun j s=>{ nt:=21,tmps:=[(1,.ptr (.loc 1) 0),(3,.ptr (.loc 3) 0),(4,.list (ao false s.1.1) s.2.1 0 (ag s.1.1))],locs:=[(1,aC s.1.2),(3,fI)],fix:=[] })
   (fun _ s=>{ heap:=H,aA:=s.2.2 }) (fun j s=>mg x j s.1.1 s.1.2∧av T s.2.2 s.1.1 s.2.1) (([],x),.tight,T) (by omega) ⟨mg.start hx,av.start T⟩ ?_ ?_
  ·rintro j ⟨⟨l,cur⟩,tok,T1⟩ hj ⟨(hp:mg x j l cur),(hg:av T T1 l tok)⟩
   obtain⟨hk,a,b,ht,hp'⟩:=hp.next hj
   refine ah.yes hk ?_
   refine ab.mk _ (show indexAddr Tryz.cfg 23 (.list (ao cur.c cur.ts) (aw cur.d) 0 (ag cur.ts)) (.int .i64 (.ofNat 0))=_ from bz (by rw [ht];rfl)) ?_
   refine ab.mk _ (bs1 a 23 _ _ _ rfl) ?_
   obtain⟨T',aV,h1,h2⟩:=iA (LT:=23) (c:=false) (bg:=.tight) (H:=H) (done:=l) (new:=[a]) rfl (by have:=hp.done;rw [this,List.length_take];simp;omega) hg
   refine cj.mk _ _ (h1 _ _ rfl) ?_
   refine ab.mk _ (show indexAddr Tryz.cfg 23 (.list (ao cur.c cur.ts) (aw cur.d) 0 (ag cur.ts)) (.int .i64 (.ofNat 1))=_ from bz (x:=b) (by rw [ht];rfl)) ?_
   exact⟨((l++[a],b),aV,T'),⟨hp',h2⟩,rfl,rfl⟩
  ·rintro⟨⟨l,cur⟩,tok,T1⟩ ⟨hp,hg⟩
   obtain⟨hk,rfl,rfl⟩:=hp.end_
   refine ah.no hk ?_
   exact⟨_,rfl,_,_,rfl,hg⟩
 obtain⟨q,h1,h2⟩:=h
 exact⟨q,bw rfl h1,h2⟩
theorem h56 {n:Nat} {x:Tm} {H:List Blk} {T:List Nat} (hx:dU x) (hn:wt x + 2≤n) (hw:wt x < 1000000000):∃q,RN n (.f 56) [aB x] { heap:=H,aA:=T }=some q∧HW x H T q:=by
 obtain⟨m,rfl⟩:=up (show 1≤n by omega)
 have hl:=(fy _ x (Nat.le_refl _) hx).1
 have h:∃q,frame Tryz.cfg (RN m) m 56 [aB x] { heap:=H,aA:=T }=some q∧HW x H T q:=by
  refine aU (fn:=Tryz.f56) (p:=HW x H T) rfl rfl ?_
  refine aD.loop 20 (σ:=(List Tm×Tm)×Tok×List Nat) (al x).1.length (fun j s=>{ nt:=20,tmps:=[(1,.ptr (.loc 1) 0),(2,.list (ao false s.1.1) s.2.1 0 (ag s.1.1)),(3,.ptr (.loc 3) 0)],locs:=[(1,aC s.1.2),(3,fI)],fix:=[] })
   (fun _ s=>{ heap:=H,aA:=s.2.2 }) (fun j s=>mg x j s.1.1 s.1.2∧av T s.2.2 s.1.1 s.2.1) (([],x),.tight,T) (by omega) ⟨mg.start hx,av.start T⟩ ?_ ?_
  ·rintro j ⟨⟨l,cur⟩,tok,T1⟩ hj ⟨(hp:mg x j l cur),(hg:av T T1 l tok)⟩
   obtain⟨hk,a,b,ht,hp'⟩:=hp.next hj
   refine ah.yes hk ?_
   refine ab.mk _ (show indexAddr Tryz.cfg 23 (.list (ao cur.c cur.ts) (aw cur.d) 0 (ag cur.ts)) (.int .i64 (.ofNat 0))=_ from bz (by rw [ht];rfl)) ?_
   refine ab.mk _ (bs1 a 23 _ _ _ rfl) ?_
   obtain⟨T',aV,h1,h2⟩:=iA (LT:=23) (c:=false) (bg:=.tight) (H:=H) (done:=l) (new:=[a]) rfl (by have:=hp.done;rw [this,List.length_take];simp;omega) hg
   refine cj.mk _ _ (h1 _ _ rfl) ?_
   refine ab.mk _ (show indexAddr Tryz.cfg 23 (.list (ao cur.c cur.ts) (aw cur.d) 0 (ag cur.ts)) (.int .i64 (.ofNat 1))=_ from bz (x:=b) (by rw [ht];rfl)) ?_
   exact⟨((l++[a],b),aV,T'),⟨hp',h2⟩,rfl,rfl⟩
  ·rintro⟨⟨l,cur⟩,tok,T1⟩ ⟨hp,hg⟩
   obtain⟨hk,rfl,rfl⟩:=hp.end_
   refine ah.no hk ?_
   exact⟨_,rfl,_,_,rfl,hg⟩
 obtain⟨q,h1,h2⟩:=h
 exact⟨q,bw rfl h1,h2⟩
mutual
noncomputable def aF:Tm→Tm×List Tm
 | .mk k n s a b c d ls ts=>match iEq k 4,ts,Bc ts with
  | true,[_,x],[r,_]=>(r.1,r.2++[x])
  | _,_,_=>(.mk k n s a b c d ls ts,[])
noncomputable def Bc:List Tm→List (Tm×List Tm)
 | []=>[]
 | t::ts=>aF t::Bc ts
end
theorem hZ {x f a:Tm} (h:iEq x.k 4=true) (ht:x.ts=[f,a]):aF x=((aF f).1,(aF f).2++[a]):=by
 obtain⟨k,n,s,fa,fb,fc,fd,ls,ts⟩:=x
 have ht' : ts=[f,a]:=ht
 subst ht'
 have hk:iEq k 4=true:=h
 conv=>lhs;unfold aF
 rw [hk]
 simp only [Bc]
theorem ji {x:Tm} (h:iEq x.k 4=false):aF x=(x,[]):=by
 obtain⟨k,n,s,fa,fb,fc,fd,ls,ts⟩:=x
 have hk:iEq k 4=false:=h
 unfold aF
 rw [hk]
theorem ia:∀(w:Nat) (x:Tm),wt x≤w→dU x→(aF x).2.length + wt (aF x).1≤wt x∧dU (aF x).1∧(∀y∈(aF x).2,dU y∧wt y≤wt x)∧iEq (aF x).1.k 4=false
 | 0,x,h,_=>by rw [cO] at h;omega
 | w + 1,x,h,hx=>by
  obtain⟨h1,h2⟩:=(cp x).1 hx
  cases hk:iEq x.k 4 with
  | false=>rw [ji hk];exact⟨by simp,hx,by simp,hk⟩
  | true=>
   obtain⟨f,a,ht⟩:=fW h1 (nB hk)
   rw [hZ hk ht]
   have hf:=cT (x:=f) (y:=x) (by rw [ht];simp)
   have ha:=cT (x:=a) (y:=x) (by rw [ht];simp)
   obtain⟨k1,k2,k3,k4⟩:=ia w f (by omega) (h2 f (by rw [ht];simp))
   refine⟨by simp only [aLa,aLc,List.length_nil];omega,k2,fun y hy=>?_,k4⟩
   rcases List.mem_append.1 hy with hy | hy
   ·exact⟨(k3 y hy).1,by have:=(k3 y hy).2;omega⟩
   ·obtain rfl:=List.mem_singleton.1 hy
    exact⟨h2 y (by rw [ht];simp),by omega⟩
def EV (x:Tm) (H:List Blk) (T:List Nat) (q:V×St):Prop:=
 ∃T' tok,q=(.tuple [aB (aF x).1,.list (ao false (aF x).2) tok 0 (ag (aF x).2)],{ heap:=H,aA:=T' })∧av T T' (aF x).2 tok
theorem h82:∀(n:Nat) (x:Tm) (H:List Blk) (T:List Nat),dU x→wt x + 2≤n→wt x < 1000000000→∃q,RN n (.f 82) [aB x] { heap:=H,aA:=T }=some q∧EV x H T q
 | 0,x,H,T,_,h,_=>by omega
 | n + 1,x,H,T,hx,hn,hw=>by
  obtain⟨h1,h2⟩:=(cp x).1 hx
  have h:∃q,frame Tryz.cfg (RN n) n 82 [aB x] { heap:=H,aA:=T }=some q∧EV x H T q:=by
   refine aU (fn:=Tryz.f82) (p:=EV x H T) rfl rfl ?_
   cases hk:iEq x.k 4 with
   | false=>
    refine ah.yes (by rw [hk];rfl) ?_
    refine⟨_,rfl,T,.tight,?_,?_⟩
    ·rw [ji hk];rfl
    ·rw [ji hk];exact av.start T
   | true=>
    obtain⟨f,a,ht⟩:=fW h1 (nB hk)
    have hf:=cT (x:=f) (y:=x) (by rw [ht];simp)
    obtain⟨q,k1,T1,tok,rfl,hg⟩:=h82 n f H T (h2 f (by rw [ht];simp)) (by omega) (by omega)
    have hl:=(ia _ f (Nat.le_refl _) (h2 f (by rw [ht];simp))).1
    refine ah.no (by rw [hk];rfl) ?_
    refine ab.mk _ (show indexAddr Tryz.cfg 23 (.list (ao x.c x.ts) (aw x.d) 0 (ag x.ts)) (.int .i64 (.ofNat 0))=_ from bz (x:=f) (by rw [ht];rfl)) ?_
    refine ae.mk _ _ k1 ?_
    refine ab.mk _ (show indexAddr Tryz.cfg 23 (.list (ao x.c x.ts) (aw x.d) 0 (ag x.ts)) (.int .i64 (.ofNat 1))=_ from bz (x:=a) (by rw [ht];rfl)) ?_
    refine ab.mk _ (bs1 a 23 _ _ _ rfl) ?_
    obtain⟨T',aV,k3,k4⟩:=iA (LT:=23) (c:=false) (bg:=.tight) (H:=H) (done:=(aF f).2) (new:=[a]) rfl (by simp;omega) hg
    refine cj.mk _ _ (k3 _ _ rfl) ?_
    refine⟨_,rfl,T',aV,?_,?_⟩
    ·rw [hZ hk ht];rfl
    ·rw [hZ hk ht];exact k4
  obtain⟨q,k1,k2⟩:=h
  exact⟨q,bw rfl k1,k2⟩
section
variable {C:Cfg} {R:Run} {k fid nt:Nat} {F:FC} {A:Env} {S:St}
theorem xB {c:Code} {l:List Code} {r:Option (Ex×Env×St)} (h:er C R F k fid nt [] c A S fun e A S=>match e with | .normal=>gx C R k fid F l A S=r | e=>some (e,A,S)=r):gx C R k fid F (c::l) A S=r:=by
 obtain⟨e,A',S',h1,h2⟩:=cM C R F c h
 show iter.andThen (evalCode C R k fid F c A S) (gx C R k fid F l)=r
 rw [h1]
 cases e with
 | normal=>exact h2
 | ret=>exact h2
 | exit i=>exact h2
end
theorem vw {C:Cfg} {R:Run} {F:FC} {ac:Nat→Acc} {ops l:List Oper} {i:Nat} {A A' : Env} {S S' : St} (h:vm C R F ac ops l i A S fun B U=>B=A'∧U=S'):bI C R F ac ops l i A S=some (A',S'):=by
 obtain⟨B,U,h1,rfl,rfl⟩:=jA C R F h
 exact h1
noncomputable def spE (cur:Tm):Env:={ nt:=27,tmps:=spT,locs:=[(1,aC cur),(2,fI)],fix:=[] }
theorem pU (A:Env) (h1:look 1 A.tmps=some (.ptr (.loc 1) 0)) (h2:look 2 A.tmps=some (.ptr (.loc 2) 0)):spR A St.empty=some { A with tmps:=spT }:=by
 unfold spR
 show (match look 1 A.tmps,look 2 A.tmps with | some (.ptr (.loc 1) 0),some (.ptr (.loc 2) 0)=>some { A with tmps:=spT } | _,_=>none)=_
 rw [h1,h2]
 rfl
theorem xC (sz:Nat) (b:Bool) (top:Nat) (rows:List V):dV (.list sz (aw b) top rows)=true:=by cases b<;>rfl
theorem EW (R:Run) (cur:Tm) (rows:List V) (hk:iEq cur.k 4=false):nX R (spE cur) rows=some (false,spE cur,rows):=by
 have h:fM R sp4 sp4 0 (spE cur)=some ({ nt:=27,tmps:=(11,.bool false)::(10,.int .u8 cur.k)::(9,.ptr (.loc 1) 0)::spT,locs:=[(1,aC cur),(2,fI)],fix:=[] },St.empty):=by
  refine vw ?_
  refine ah.no hk ?_
  exact⟨rfl,rfl⟩
 unfold nX
 rw [h]
 simp only
 rw [pU _ rfl rfl]
 rfl
theorem Dk (R:Run) (cur f a:Tm) (rows:List V) (hk:iEq cur.k 4=true) (ht:cur.ts=[f,a]) (hl:rows.length < 1000000000):nX R (spE cur) rows=some (true,spE f,rows++[aB a]):=by
 have h:fM R sp4 sp4 0 (spE cur)=some ({ nt:=27,tmps:=(11,.bool true)::(10,.int .u8 cur.k)::(9,.ptr (.loc 1) 0)::spT,locs:=[(1,aC cur),(2,fI)],fix:=[] },St.empty):=by
  refine vw ?_
  refine ah.yes hk ?_
  exact⟨rfl,rfl⟩
 have h5:∃ts,fM R sp5 (takeN 5 (ga 1 sp5)) 1 (spE cur)=some ({ nt:=27,tmps:=ts,locs:=[(1,aC cur),(2,fI)],fix:=[] },St.empty)∧look 17 ts=some (.list 5 .tight 0 [aB a])∧look 1 ts=some (.ptr (.loc 1) 0)∧look 2 ts=some (.ptr (.loc 2) 0):=by
  have:∃B U,fM R sp5 (takeN 5 (ga 1 sp5)) 1 (spE cur)=some (B,U)∧(B.nt=27∧B.locs=[(1,aC cur),(2,fI)]∧B.fix=[]∧U=St.empty∧look 17 B.tmps=some (.list 5 .tight 0 [aB a])∧look 1 B.tmps=some (.ptr (.loc 1) 0)∧look 2 B.tmps=some (.ptr (.loc 2) 0)):=by
   refine jA _ _ _ ?_
   refine ab.mk _ (show indexAddr Tryz.cfg 23 (.list (ao cur.c cur.ts) (aw cur.d) 0 (ag cur.ts)) (.int .i64 (.ofNat 1))=_ from bz (x:=a) (by rw [ht];rfl)) ?_
   refine ab.mk _ (bs1 a 23 _ _ _ rfl) ?_
   refine⟨rfl,rfl,rfl,rfl,?_,rfl,rfl⟩
   show some (V.list 5 .tight 0 (ag [a]))=_
   rw [cZ];rfl
  obtain⟨⟨nt,ts,ls,fx⟩,U,k1,rfl,rfl,rfl,rfl,k2,k3,k4⟩:=this
  exact⟨ts,k1,k2,k3,k4⟩
 obtain⟨ts,h5,g17,g1,g2⟩:=h5
 have h6:∃ts',fM R sp6 sp6 0 (spE cur)=some ({ nt:=27,tmps:=ts',locs:=[(1,aC f),(2,fI)],fix:=[] },St.empty)∧look 1 ts'=some (.ptr (.loc 1) 0)∧look 2 ts'=some (.ptr (.loc 2) 0):=by
  have:∃B U,fM R sp6 sp6 0 (spE cur)=some (B,U)∧(B.nt=27∧B.locs=[(1,aC f),(2,fI)]∧B.fix=[]∧U=St.empty∧look 1 B.tmps=some (.ptr (.loc 1) 0)∧look 2 B.tmps=some (.ptr (.loc 2) 0)):=by
   refine jA _ _ _ ?_
   refine ab.mk _ (show indexAddr Tryz.cfg 23 (.list (ao cur.c cur.ts) (aw cur.d) 0 (ag cur.ts)) (.int .i64 (.ofNat 0))=_ from bz (x:=f) (by rw [ht];rfl)) ?_
   exact⟨rfl,rfl,rfl,rfl,rfl,rfl⟩
  obtain⟨⟨nt,ts,ls,fx⟩,U,k1,rfl,rfl,rfl,rfl,k3,k4⟩:=this
  exact⟨ts,k1,k3,k4⟩
 obtain⟨ts',h6,e1,e2⟩:=h6
 have hp:Ek rows (some (.list 5 .tight 0 [aB a]))=some (rows++[aB a]):=by
  show (bif Nat.beq (aH (aC a)) 5 && isZero (aJ (aC a)) && allB dV (aC a) && Nat.ble ((aH rows + 1) * 81) 140737488355328 then some (cz rows [.agg (aC a)]) else none)=_
  have hno:allB dV (aC a)=true:=cG.2 ⟨rfl,cG.2 ⟨rfl,cG.2 ⟨rfl,cG.2 ⟨xC _ _ _ _,cG.2 ⟨xC _ _ _ _,rfl⟩⟩⟩⟩⟩
  rw [hno,show Nat.ble ((aH rows + 1) * 81) 140737488355328=true from Nat.ble_eq_true_of_le (by rw [aq];omega),bM]
  rfl
 unfold nX
 rw [h]
 simp only
 rw [pU _ rfl rfl]
 show (match fM R sp5 (takeN 5 (ga 1 sp5)) 1 (spE cur) with | some (A3,S3)=>_ | none=>none)=_
 rw [h5]
 simp only
 rw [pU _ g1 g2,g17,hp]
 show (match fM R sp6 sp6 0 (spE cur) with | some (A5,S5)=>_ | none=>none)=_
 rw [h6]
 simp only
 rw [pU _ e1 e2]
 rfl
theorem GH (R:Run):∀(m:Nat) (cur:Tm) (rows:List V),dU cur→(aF cur).2.length < m→rows.length + wt cur < 1000000000→tU R m (spE cur) rows=some (spE (aF cur).1,rows++((aF cur).2.map aB).reverse)
 | 0,cur,rows,_,h,_=>by omega
 | m + 1,cur,rows,hx,hm,hl=>by
  obtain⟨h1,h2⟩:=(cp cur).1 hx
  show (match nX R (spE cur) rows with
   | some (true,A,rows)=>tU R m A rows
   | some (false,A,rows)=>some (A,rows)
   | none=>none)=_
  cases hk:iEq cur.k 4 with
  | false=>rw [EW R cur rows hk,ji hk];simp
  | true=>
   obtain⟨f,a,ht⟩:=fW h1 (nB hk)
   have hf:=cT (x:=f) (y:=cur) (by rw [ht];simp)
   rw [Dk R cur f a rows hk ht (by omega)]
   rw [hZ hk ht] at hm ⊢
   simp only
   rw [GH R m f (rows++[aB a]) (h2 f (by rw [ht];simp)) (by simp at hm;omega) (by simp;omega)]
   simp
theorem Ot (R:Run) (h:Tm) (l:List Tm):uM R (spE h) ((l.map aB).reverse)=some (.tuple [aB h,.list 5 .no 0 (ag l)]):=by
 have h1:∃ts,fM R sp8 (takeN 1 sp8) 0 (spE h)=some ({ nt:=27,tmps:=ts,locs:=[(1,aC h),(2,fI)],fix:=[] },St.empty)∧look 26 ts=none∧ts=(25,aB h)::spT:=⟨_,by
  refine vw ?_
  exact⟨rfl,rfl⟩,rfl,rfl⟩
 obtain⟨ts,h1,h26,rfl⟩:=h1
 have h2:∃ts',fM R sp8 (takeN 1 (ga 2 sp8)) 2 { nt:=27,tmps:=(25,aB h)::spT,locs:=[(1,aC h),(2,fI)],fix:=[] }=some ({ nt:=27,tmps:=ts',locs:=[(1,aC h),(2,aC h)],fix:=[] },St.empty)∧look 1 ts'=some (.ptr (.loc 1) 0)∧look 2 ts'=some (.ptr (.loc 2) 0):=⟨_,by
  refine vw ?_
  exact⟨rfl,rfl⟩,rfl,rfl⟩
 obtain⟨ts',h2,g1,g2⟩:=h2
 unfold uM
 rw [h1]
 simp only [h26]
 show (match fM R sp8 (takeN 1 (ga 2 sp8)) 2 { nt:=27,tmps:=(25,aB h)::spT,locs:=[(1,aC h),(2,fI)],fix:=[] } with | some (A2,S2)=>_ | none=>none)=_
 rw [h2]
 show ze [aB h,.list 5 .no 0 ((l.map aB).reverse.reverse)]=_
 rw [List.reverse_reverse,← cZ]
 have hpl:allB gO [aB h,.list 5 .no 0 (ag l)]=true:=by
  refine cG.2 ⟨?_,rfl⟩
  show List.all (aC h) dV=true
  simp only [List.all_cons,List.all_nil,xC,Bool.and_true]
  rfl
 unfold ze
 simp only [hpl,Bool.and_true]
 rfl
theorem xD {x:Tm} (h:bm x=true):x.s.length≤32∧x.ls.length≤20:=by
 refine⟨?_,?_⟩
 ·unfold bm at h
  simp only [Bool.and_eq_true] at h
  have hn:=h.2.1.1
  unfold mc at hn
  cases hq:(iEq x.k 3 || iEq x.k 8) with
  | true=>
   rw [hq] at hn
   simp only [cond_true] at hn
   unfold mL at hn
   simp only [Bool.and_eq_true,Bool.not_eq_true',cm,decide_eq_false_iff_not,aq] at hn
   have:=hn.2
   simp at this
   omega
  | false=>
   rw [hq] at hn
   simp only [cond_false,decide_eq_true_eq] at hn
   rw [hn];simp
 ·have:=xo h
  unfold jh at this
  exact Nat.le_of_ble_eq_true this
theorem JF:∀(w:Nat) (x:Tm),wt x≤w→dU x→wt x≤60 * eu x
 | 0,x,h,_=>by rw [cO] at h;omega
 | w + 1,x,h,hx=>by
  obtain⟨h1,h2⟩:=(cp x).1 hx
  obtain⟨k1,k2⟩:=xD h1
  rw [cO] at h ⊢
  rw [eQ]
  have:∀ts:List Tm,wts ts≤w→(∀y∈ts,dU y)→wts ts≤60 * gP ts + ts.length:=by
   intro ts
   induction ts with
   | nil=>intro _ _;simp [wts]
   | cons t ts ih=>
    intro hw ha
    rw [wts] at hw ⊢
    rw [gf]
    have a1:=JF w t (by omega) (ha t aMs)
    have a2:=ih (by omega) (fun y hy=>ha y (aMt _ hy))
    simp only [aLc];omega
  have:=this x.ts (by omega) h2
  have:=Gw h1
  omega
theorem fX {x:Tm} (h:cL x=true):wt x≤4000000:=by
 have:=JF _ x (Nat.le_refl _) (cK h)
 have:=kH h
 omega
theorem h67 {n:Nat} {x:Tm} {S:St} (hs:Sm x) (hn:wt x + 14≤n):RN n (.f 67) [aB x] S=some (.bool (cL x),S):=by
 obtain⟨m,rfl⟩:=up (show 13≤n by omega);exact EL m x S hs (by omega)
theorem HX {R:Run} {k:Nat} {x:Tm} (h67:R (.f 67) [aB x] St.empty=some (.bool true,St.empty)) (hx:dU x) (hk:wt x < k) (hw:wt x < 1000000000):pI R k [aB x]=some (.tuple [aB (aF x).1,.list 5 .no 0 (ag (aF x).2)]):=by
 have h1:∃ts,gx Tryz.cfg R k 154 (Tryz.cfg.fc 154) spC { nt:=(Go.Proofs.Tryz.f154).ntmps,tmps:=number 0 [aB x],locs:=[],fix:=[] } St.empty=some (.normal,{ nt:=27,tmps:=ts,locs:=[(1,aC x),(2,fI)],fix:=[] },St.empty)∧look 1 ts=some (.ptr (.loc 1) 0)∧look 2 ts=some (.ptr (.loc 2) 0):=⟨_,by
  refine xB (nt:=27) ?_
  refine xB (nt:=27) ?_
  refine ae.mk _ _ h67 ?_
  rfl,rfl,rfl⟩
 have hl:=(ia _ x (Nat.le_refl _) hx).1
 obtain⟨ts,h1,g1,g2⟩:=h1
 unfold pI
 rw [h1]
 simp only
 rw [pU _ g1 g2]
 show (bif Nat.blt 26 27 then match tU R k (spE x) [] with
       | some (A,rows)=>bif Nat.ble (aH rows) 9223372036854775807 then uM R A rows else none
       | none=>none
  else none)=_
 rw [GH R k x [] hx (by omega) (by simp;omega)]
 simp only [List.nil_append]
 rw [show Nat.ble (aH ((aF x).2.map aB).reverse) 9223372036854775807=true from Nat.ble_eq_true_of_le (by rw [aq];simp;omega)]
 exact Ot R _ _
theorem PL {n:Nat} {x:Tm} {S:St} (hm:cL x=true) (hs:Sm x) (hn:wt x + 20≤n):RN n (.f 154) [aB x] S=some (.tuple [aB (aF x).1,.list 5 .no 0 (ag (aF x).2)],S):=by
 have hx:=cK hm
 have hw:=fX hm
 obtain⟨m,rfl⟩:=up (show 1≤n by omega)
 have e:∀q,fN Tryz.cfg cQ cY bY (m + 1) (.f 67) [aB x] St.empty=q→q=some (.bool true,St.empty):=by
  rintro q rfl
  have:=h67 (n:=m + 1) (S:=St.empty) hs (by omega)
  rw [hm] at this
  exact this
 have hg:=HX (R:=fN Tryz.cfg cQ cY bY (m + 1)) (k:=m + 1) (x:=x) (e _ rfl) hx (by omega) (by omega)
 show df bY (cu cY (bV cQ (m + 1) (fN Tryz.cfg cQ cY bY (m + 1)))) (.f 154) [aB x] S=_
 unfold df cu bV
 have hc:cQ 154=some pI:=rfl
 have hr:bY 154=false:=rfl
 have hnn:cY 154=false:=rfl
 simp only [hr,hnn,hc]
 rw [show allB V.pure [aB x]=true from rfl,bh,an,hg]
 rfl
end Go.Ev
namespace Go.Ev
open Go.Proofs Go.RowKit
set_option maxRecDepth 100000
set_option linter.unusedVariables false
set_option linter.unusedSimpArgs false
structure Ct where
 name:List UInt8
 ty:Tm
structure In where
 name:List UInt8
 ty:Tm
 cs:List Ct
structure Dl where
 kind:Int
 params:Int
 name:List UInt8
 ty:Tm
 val:Tm
 fixed:Int
 aj:List In
@[reducible] noncomputable def mh (c:Ct):List V:=[.str c.name,.int .u8 c.ty.k,.int .i64 c.ty.n,.str c.ty.s,.list (ao c.ty.a c.ty.ls) (aw c.ty.b) 0 (c.ty.ls.map enc),.list (ao c.ty.c c.ty.ts) (aw c.ty.d) 0 (ag c.ty.ts)]
@[reducible] noncomputable def fO (c:Ct):V:=.agg (mh c)
@[reducible] noncomputable def fe (c:In):List V:=[.str c.name,.int .u8 c.ty.k,.int .i64 c.ty.n,.str c.ty.s,.list (ao c.ty.a c.ty.ls) (aw c.ty.b) 0 (c.ty.ls.map enc),.list (ao c.ty.c c.ty.ts) (aw c.ty.d) 0 (ag c.ty.ts),.list 6 .no 0 (c.cs.map fO)]
@[reducible] noncomputable def encI (c:In):V:=.agg (fe c)
@[reducible] noncomputable def bK (d:Dl):List V:=[.int .u8 d.kind,.int .i64 d.params,.str d.name,
  .int .u8 d.ty.k,.int .i64 d.ty.n,.str d.ty.s,.list (ao d.ty.a d.ty.ls) (aw d.ty.b) 0 (d.ty.ls.map enc),.list (ao d.ty.c d.ty.ts) (aw d.ty.d) 0 (ag d.ty.ts),
  .int .u8 d.val.k,.int .i64 d.val.n,.str d.val.s,.list (ao d.val.a d.val.ls) (aw d.val.b) 0 (d.val.ls.map enc),.list (ao d.val.c d.val.ts) (aw d.val.d) 0 (ag d.val.ts),
  .int .i64 d.fixed,.list 7 .no 0 (d.aj.map encI)]
@[reducible] noncomputable def eY (d:Dl):V:=.agg (bK d)
theorem EX (d:Dl):(eY d).strip=eY d:=by
 show V.agg [_,_,_,_,_,_,ai (.list _ (aw d.ty.b) 0 _),ai (.list _ (aw d.ty.d) 0 _),_,_,_,ai (.list _ (aw d.val.b) 0 _),ai (.list _ (aw d.val.d) 0 _),_,_]=_
 rw [hU,hU,hU,hU]
 rfl
theorem ej (d:Dl) (l:List V):bn V.strip (eY d::l)=eY d::bn V.strip l:=by
 show (eY d).strip::bn V.strip l=_
 rw [EX]
theorem ltM {α:Type} {f:α→V} {xs:List α} {j:Nat} (h:j < xs.length):iLt (.ofNat j) (.ofNat (aH (xs.map f)))=true:=by rw [aq,aLm];exact dj h
theorem geM {α:Type} {f:α→V} {xs:List α} {j:Nat} (h:¬j < xs.length):iLt (.ofNat j) (.ofNat (aH (xs.map f)))=false:=by rw [aq,aLm];exact eS h
theorem dB {α:Type} {LT ET sz by' : Nat} {z' : List V} {ei:TI} {f:α→List V} {xs:List α} {tk:Tok} {j:Nat} {x:α} (hl:Tryz.cfg.ti LT=some { kind:=.slice ET,size:=sz,bytes:=by',zero:=z' }) (he:Tryz.cfg.ti ET=some ei) (h:xs[j]?=some x) :
 indexAddr Tryz.cfg LT (.list ei.size tk 0 (xs.map fun a=>V.agg (f a))) (.int .i64 (.ofNat j))=some (.imm 0 (f x)):=by
 have hj:j < xs.length:=(aGs h).1
 unfold indexAddr
 rw [hl]
 simp only [he]
 rw [aq,aLm,pR hj]
 simp only
 rw [bS,List.getElem?_map,h]
 show (bif Nat.beq ei.size ei.size then some (V.imm 0 (f x)) else none)=_
 rw [show Nat.beq ei.size ei.size=true by simp]
 rfl
theorem aL {is:List In} {j:Nat} {x:In} (h:is[j]?=some x):indexAddr Tryz.cfg 26 (.list 7 .no 0 (is.map encI)) (.int .i64 (.ofNat j))=some (.imm 0 (fe x)):=dB (ei:=Tryz.ti45) rfl rfl h
theorem ec {cs:List Ct} {j:Nat} {x:Ct} (h:cs[j]?=some x):indexAddr Tryz.cfg 43 (.list 6 .no 0 (cs.map fO)) (.int .i64 (.ofNat j))=some (.imm 0 (mh x)):=dB (ei:=Tryz.ti48) rfl rfl h
noncomputable def dJ {α:Type} (p:α→Bool):List α→Nat→Option Nat
 | [],_=>none
 | a::l,j=>match p a with | true=>some j | false=>dJ p l (j + 1)
noncomputable def qL:Option Nat→Int | some j=>.ofNat j | none=>-1
theorem oh {α:Type} {p:α→Bool} {xs:List α} {j:Nat} {x:α} (h:xs[j]?=some x):dJ p (xs.drop j) j=match p x with | true=>some j | false=>dJ p (xs.drop (j + 1)) (j + 1):=by
 obtain⟨hj,e⟩:=aGs h
 rw [List.drop_eq_getElem_cons hj,e];rfl
theorem mi {α:Type} {p:α→Bool} {xs:List α}:dJ p (xs.drop xs.length) xs.length=none:=by rw [List.drop_length];rfl
theorem GI {α:Type} {p:α→Bool}:∀{xs:List α} {j k:Nat},dJ p xs j=some k→∃x,xs[k - j]?=some x∧j≤k∧p x=true
 | [],_,_,h=>by cases h
 | a::l,j,k,h=>by
  unfold dJ at h
  cases hp:p a with
  | true=>rw [hp] at h;cases h;exact⟨a,by simp,Nat.le_refl _,hp⟩
  | false=>
   rw [hp] at h
   obtain⟨x,h1,h2,h3⟩:=GI h
   refine⟨x,?_,by omega,h3⟩
   rw [show k - j=(k - (j + 1)) + 1 by omega];simpa using h1
noncomputable def ff (is:List In) (s:List UInt8):Int:=qL (dJ (fun i=>decide (i.name=s)) is 0)
theorem h83 {n:Nat} {d:Dl} {s:List UInt8} {S:St} (hn:d.aj.length + 2≤n) (hl:d.aj.length < 1000000000):RN n (.f 83) [eY d,.str s] S=some (.int .i64 (ff d.aj s),S):=by
 obtain⟨m,rfl⟩:=up (show 1≤n by omega)
 have h:frame Tryz.cfg (RN m) m 83 [eY d,.str s] St.empty=some (.int .i64 (ff d.aj s),St.empty):=by
  refine aO Tryz.cfg _ (fn:=Tryz.f83) rfl rfl ?_
  refine aD.loop 22 (σ:=Unit) d.aj.length (fun j _=>{ nt:=22,tmps:=[(1,.str s),(2,.ptr (.loc 2) 0),(5,.int .i64 (.ofNat j))],locs:=[(2,bK d)],fix:=[] }) (fun _ _=>St.empty)
   (fun j _=>ff d.aj s=qL (dJ (fun i=>decide (i.name=s)) (d.aj.drop j) j)) () (by omega) rfl ?_ ?_
  ·intro j _ hj hp
   obtain⟨x,hx⟩ : ∃x,d.aj[j]?=some x:=⟨_,aGe hj⟩
   rw [oh hx] at hp
   refine ah.yes (ltM hj) ?_
   refine ab.mk _ (aL hx) ?_
   refine ab.mkB (lf) (fun he=>?_) (fun he=>?_)
   ·rw [he] at hp
    rw [hp];rfl
   ·rw [he] at hp
    refine ab.mk _ (az (by omega)) ?_
    exact⟨(),hp,rfl,rfl⟩
  ·intro _ hp
   rw [mi] at hp
   refine ah.no (geM (by omega)) ?_
   rw [hp];rfl
 exact bC h (by simp only [ej,jI,an]) rfl rfl rfl rfl rfl
mutual
noncomputable def m4 (p:Tm→Bool):Tm→Bool
 | .mk k n s a b c d ls ts=>p (.mk k n s a b c d ls ts) || oN p ts
noncomputable def oN (p:Tm→Bool):List Tm→Bool
 | []=>false
 | t::ts=>m4 p t || oN p ts
end
theorem Be (p:Tm→Bool) (x:Tm):m4 p x=(p x || oN p x.ts):=by cases x;rw [m4];rfl
theorem xE (p:Tm→Bool) (ts:List Tm):oN p ts=ts.any (m4 p):=by
 induction ts with
 | nil=>rw [oN];rfl
 | cons t ts ih=>rw [oN,ih];rfl
noncomputable def mj (is:List In) (t:Tm):Bool:=iEq t.k 3 && !iLt (ff is t.s) 0
noncomputable def jJ (is:List In) (t:Tm):Bool:=m4 (mj is) t
theorem xF {α:Type} {p:α→Bool} {xs:List α} {j:Nat} {x:α} (h:xs[j]?=some x):(xs.drop j).any p=(p x || (xs.drop (j + 1)).any p):=by
 obtain⟨hj,e⟩:=aGs h
 rw [List.drop_eq_getElem_cons hj,e];rfl
noncomputable def RL:Code:=jP Tryz.f85 0
theorem JG (n k:Nat) (d:Dl) (x:Tm) (S:St) (K:Ex→Env→St→Prop) (hl:x.ts.length < 1000000000)
 (dt:∀y∈x.ts,RN n (.f 85) [eY d,aB y] S=some (.bool (jJ d.aj y),S))
 (hT:oN (mj d.aj) x.ts=true→K .ret { nt:=30,tmps:=[(4,.bool true)],locs:=[(2,bK d),(3,aC x)],fix:=[] } S)
 (hE:oN (mj d.aj) x.ts=false→K (.exit 0) { nt:=30,tmps:=[(2,.ptr (.loc 2) 0),(3,.ptr (.loc 3) 0),(5,.int .i64 (.ofNat x.ts.length)),(20,.bool false)],locs:=[(2,bK d),(3,aC x)],fix:=[] } S) (f:Nat) (hf:x.ts.length < f) :
 aD (iter (evalCode Tryz.cfg (RN n) k 85 (Tryz.cfg.fc 85) RL) f { nt:=30,tmps:=[(2,.ptr (.loc 2) 0),(3,.ptr (.loc 3) 0),(5,.int .i64 0)],locs:=[(2,bK d),(3,aC x)],fix:=[] } S) K:=by
 refine aD.loop 30 (σ:=Unit) x.ts.length (fun j _=>{ nt:=30,tmps:=[(2,.ptr (.loc 2) 0),(3,.ptr (.loc 3) 0),(5,.int .i64 (.ofNat j))],locs:=[(2,bK d),(3,aC x)],fix:=[] }) (fun _ _=>S)
  (fun j _=>oN (mj d.aj) x.ts=(x.ts.drop j).any (jJ d.aj)) () hf (by rw [xE];rfl) ?_ ?_
 ·intro j _ hj hp
  obtain⟨y,hy⟩ : ∃y,x.ts[j]?=some y:=⟨_,aGe hj⟩
  rw [xF hy] at hp
  refine ah.yes (gI hj) ?_
  refine ab.mk _ (bz hy) ?_
  refine ae.mkB (dt y (aMg hy)) (fun he=>?_) (fun he=>?_)
  ·rw [he] at hp
   exact hT hp
  ·rw [he] at hp
   refine ab.mk _ (az (by omega)) ?_
   exact⟨(),hp,rfl,rfl⟩
 ·intro _ hp
  rw [List.drop_length] at hp
  refine ah.no (gJ (by omega)) ?_
  exact hE hp
theorem h85:∀(n:Nat) (d:Dl) (x:Tm) (S:St),d.aj.length + wt x + 3≤n→d.aj.length < 1000000000→wt x < 1000000000→RN n (.f 85) [eY d,aB x] S=some (.bool (jJ d.aj x),S)
 | 0,d,x,S,h,_,_=>by omega
 | n + 1,d,x,S,hn,hl,hw=>by
  have hlen:x.ts.length≤wts x.ts:=iz _
  have hw':=cO x
  have h:frame Tryz.cfg (RN n) n 85 [eY d,aB x] St.empty=some (.bool (jJ d.aj x),St.empty):=by
   refine aO Tryz.cfg _ (fn:=Tryz.f85) rfl rfl ?_
   have hs:jJ d.aj x=(mj d.aj x || oN (mj d.aj) x.ts):=Be _ _
   have dt:∀y∈x.ts,RN n (.f 85) [eY d,aB y] St.empty=some (.bool (jJ d.aj y),St.empty):=fun y hy=>h85 n d y _ (by have:=cT hy;omega) hl (by have:=cT hy;omega)
   refine ah.mk (fun h3=>?_) (fun h3=>?_)
   ·refine ae.mk _ _ (h83 (by omega) hl) ?_
    refine ah.mk (fun hq=>?_) (fun hq=>?_)
    ·rw [hs,show mj d.aj x=true by unfold mj;rw [h3,hq];rfl]
     rfl
    ·have hz:mj d.aj x=false:=by unfold mj;rw [h3,hq];rfl
     rw [hs,hz]
     refine JG n n d x _ _ (by omega) dt (fun ha=>?_) (fun ha=>?_) n (by omega)
     ·rw [ha];rfl
     ·rw [ha];rfl
   ·have hz:mj d.aj x=false:=by unfold mj;rw [h3];rfl
    rw [hs,hz]
    refine JG n n d x _ _ (by omega) dt (fun ha=>?_) (fun ha=>?_) n (by omega)
    ·rw [ha];rfl
    ·rw [ha];rfl
  exact bC h (by simp only [ej,bh,an]) rfl rfl rfl rfl rfl
noncomputable def gg (is:List In) (l:List Tm):Bool:=l.any (jJ is)
theorem h37 {n:Nat} {d:Dl} {xs:List Tm} {c e:Bool} {S:St} {w:Nat} (hw:∀y∈xs,wt y≤w) (hn:d.aj.length + w + xs.length + 5≤n) (hl:d.aj.length < 1000000000) (hww:w < 1000000000) (hxl:xs.length < 1000000000) :
 RN n (.f 37) [eY d,.list (ao c xs) (aw e) 0 (ag xs)] S=some (.bool (gg d.aj xs),S):=by
 obtain⟨m,rfl⟩:=up (show 1≤n by omega)
 have h:frame Tryz.cfg (RN m) m 37 [eY d,.list (ao c xs) (aw e) 0 (ag xs)] St.empty=some (.bool (gg d.aj xs),St.empty):=by
  refine aO Tryz.cfg _ (fn:=Tryz.f37) rfl rfl ?_
  refine aD.loop 18 (σ:=Unit) xs.length (fun j _=>{ nt:=18,tmps:=[(1,.list (ao c xs) (aw e) 0 (ag xs)),(2,.ptr (.loc 2) 0),(5,.int .i64 (.ofNat j))],locs:=[(2,bK d)],fix:=[] }) (fun _ _=>St.empty)
   (fun j _=>gg d.aj xs=(xs.drop j).any (jJ d.aj)) () (by omega) rfl ?_ ?_
  ·intro j _ hj hp
   obtain⟨y,hy⟩ : ∃y,xs[j]?=some y:=⟨_,aGe hj⟩
   have:=hw y (aMg hy)
   rw [xF hy] at hp
   refine ah.yes (gI hj) ?_
   refine ab.mk _ (bz hy) ?_
   refine ae.mkB (h85 m d y _ (by omega) hl (by omega)) (fun he=>?_) (fun he=>?_)
   ·rw [he] at hp
    rw [hp];rfl
   ·rw [he] at hp
    refine ab.mk _ (az (by omega)) ?_
    exact⟨(),hp,rfl,rfl⟩
  ·intro _ hp
   rw [List.drop_length] at hp
   refine ah.no (gJ (by omega)) ?_
   rw [hp];rfl
 exact bC h (by simp only [ej,b8,an]) rfl rfl rfl rfl rfl
theorem Bf:∀(w:Nat) (x:Tm),wt x≤w→eu x≤wt x
 | 0,x,h=>by rw [cO] at h;omega
 | w + 1,x,h=>by
  rw [eQ,cO x]
  rw [cO] at h
  have:∀ts:List Tm,wts ts≤w→gP ts≤wts ts:=by
   intro ts
   induction ts with
   | nil=>intro _;simp [gP,wts]
   | cons t ts ih=>
    intro hw
    rw [wts] at hw ⊢
    rw [gf]
    have a1:=Bf w t (by omega)
    have a2:=ih (by omega)
    omega
  have:=this x.ts (by omega)
  omega
theorem JH:∀(w:Nat) (x:Tm),wt x≤w→dU x→Sm x
 | 0,x,h,_=>by rw [cO] at h;omega
 | w + 1,x,h,hx=>by
  obtain⟨h1,h2⟩:=(cp x).1 hx
  obtain⟨k1,k2⟩:=xD h1
  exact (hV x).2 ⟨⟨by omega,by omega⟩,fun y hy=>JH w y (by have:=cT hy;omega) (h2 y hy)⟩
theorem dU.sm {x:Tm} (h:dU x):Sm x:=JH _ x (Nat.le_refl _) h
theorem h27 {n:Nat} {a b:Tm} {S:St} (ha:dU a) (hn:wt a + 1≤n) (hw:wt a < 1000000000):RN n (.f 27) [aB a,aB b] S=some (.bool (dz a b),S):=
 EN n a b S ha.sm (by have:=Bf _ a (Nat.le_refl _);omega) (by omega)
theorem oi {H:List Blk} {T0 T:List Nat} {done new:List Lv} {tok bg:Tok} {c:Bool} (hlen:done.length + new.length < 1000000000) (hg:av T0 T done tok) :
 ∃T' aV,(∀(A:Env) (ac:Acc),ac.heap=true→append Tryz.cfg A { heap:=H,aA:=T } ac 22 (.list (ao false done) tok 0 (done.map enc)) (.list (ao c new) bg 0 (new.map enc))=some (.list (ao false (done++new)) aV 0 ((done++new).map enc),{ heap:=H,aA:=T' }))∧av T0 T' (done++new) aV:=by
 have h:=dm (LT:=22) (ET:=51) (ei:=Tryz.ti51) (H:=H) (T0:=T0) (T:=T) (done:=done.map enc) (new:=new.map enc) (tok:=tok) (bg:=bg) (sz2:=ao c new) rfl rfl (by decide) (by decide)
  (by rw [aLm,aLm];exact hlen) ((av.map (List.map enc) (fun l=>by simp)).2 hg) (by
   rcases jH c new with h | h
   ·exact .inl (by rw [h];rfl)
   ·exact .inr h)
 obtain⟨T',aV,h1,h2⟩:=h
 rw [← List.map_append] at h1 h2
 refine⟨T',aV,?_,(av.map (List.map enc) (fun l=>by simp)).1 h2⟩
 rw [show Tryz.ti51.size=5 from rfl,GF,GF] at h1
 exact h1
theorem bsL (l:Lv):buildSlice Tryz.cfg 22 1 [(0,enc l)]=some (.list (ao false [l]) .tight 0 ([l].map enc)):=rfl
noncomputable def fg (n:Nat):List Lv:=(List.range n).map fun i=>(aP (.ofNat i)).1
theorem fh (n:Nat):(fg n).length=n:=by unfold fg;simp
theorem Dm (n j:Nat) (h:j < n):(fg n).take (j + 1)=(fg n).take j++[(aP (.ofNat j)).1]:=by
 unfold fg
 rw [List.take_add_one,← List.map_take,List.getElem?_map,List.getElem?_range h]
 rfl
@[reducible] noncomputable def M5 (d:Nat):Option Lv→List (Nat×List V)
  | none=>[]
  | some l=>[(d,dX l)]
def JI (m:Nat) (H:List Blk) (T:List Nat) (q:V×St):Prop:=∃T' tok,q=(.list (ao false (fg m)) tok 0 ((fg m).map enc),{ heap:=H,aA:=T' })∧av T T' (fg m) tok
theorem h22 {n:Nat} {i:Int} {S:St} (hn:2≤n):RN n (.f 22) [.int .i64 i] S=some (.tuple [enc (aP i).1,.int .i64 (aP i).2],S):=by
 obtain⟨m,rfl⟩:=up hn;exact N6 m i S
theorem h18 {n:Nat} {i:Int} {S:St} (hn:7≤n):RN n (.f 18) [.int .i64 i] S=some (.tuple [enc (aP i).1,.int .i64 (aP i).2],S):=by
 obtain⟨m,rfl⟩:=up hn;exact N3 m i S
theorem h84 {n m:Nat} {H:List Blk} {T:List Nat} (hn:m + 4≤n) (hm:m < 1000000000):∃q,RN n (.f 84) [.int .i64 (.ofNat m)] { heap:=H,aA:=T }=some q∧JI m H T q:=by
 obtain⟨k,rfl⟩:=up (show 1≤n by omega)
 have h:∃q,frame Tryz.cfg (RN k) k 84 [.int .i64 (.ofNat m)] { heap:=H,aA:=T }=some q∧JI m H T q:=by
  refine aU (fn:=Tryz.f84) (p:=JI m H T) rfl rfl ?_
  refine aD.loop 22 (σ:=Option Lv×Tok×List Nat) m (fun j s=>{ nt:=22,tmps:=[(0,.int .i64 (.ofNat m)),(3,.list (ao false ((fg m).take j)) s.2.1 0 (((fg m).take j).map enc)),(4,.int .i64 (.ofNat j))],locs:=M5 5 s.1,fix:=[] })
   (fun _ s=>{ heap:=H,aA:=s.2.2 }) (fun j s=>av T s.2.2 ((fg m).take j) s.2.1) (none,.tight,T) (by omega) (av.start T) ?_ ?_
  ·rintro j ⟨o,tok,T1⟩ hj hg
   obtain⟨T',aV,h1,h2⟩:=oi (c:=false) (bg:=.tight) (H:=H) (new:=[(aP (.ofNat j)).1]) (by rw [List.length_take,fh];simp;omega) hg
   rw [← Dm m j hj] at h1 h2
   cases o with
   | none=>
    refine ah.yes (dj hj) ?_
    refine ae.mk _ _ (h22 (by omega)) ?_
    refine ab.mk _ (bsL _) ?_
    refine cj.mk _ _ (h1 _ _ rfl) ?_
    refine ab.mk _ (az (by omega)) ?_
    exact⟨(some (aP (.ofNat j)).1,aV,T'),h2,rfl,rfl⟩
   | some l=>
    refine ah.yes (dj hj) ?_
    refine ae.mk _ _ (h22 (by omega)) ?_
    refine ab.mk _ (bsL _) ?_
    refine cj.mk _ _ (h1 _ _ rfl) ?_
    refine ab.mk _ (az (by omega)) ?_
    exact⟨(some (aP (.ofNat j)).1,aV,T'),h2,rfl,rfl⟩
  ·rintro⟨o,tok,T1⟩ hg
   rw [List.take_of_length_le (by rw [fh];exact Nat.le_refl _)] at hg ⊢
   cases o with
   | none=>
    refine ah.no (eS (by omega)) ?_
    exact⟨_,rfl,_,_,rfl,hg⟩
   | some l=>
    refine ah.no (eS (by omega)) ?_
    exact⟨_,rfl,_,_,rfl,hg⟩
 obtain⟨q,h1,h2⟩:=h
 exact⟨q,bw rfl h1,h2⟩
theorem h19 {n m:Nat} {S:St} (hn:m + 9≤n) (hm:m < 1000000000):RN n (.f 19) [.int .i64 (.ofNat m)] S=some (.list (ao false (fg m)) (aw (fg m).isEmpty) 0 ((fg m).map enc),S):=by
 obtain⟨k,rfl⟩:=up (show 1≤n by omega)
 have h:∃q,frame Tryz.cfg (RN k) k 19 [.int .i64 (.ofNat m)] St.empty=some q∧JI m [] [] q:=by
  refine aU (fn:=Tryz.f19) (p:=JI m [] []) rfl rfl ?_
  refine aD.loop 21 (σ:=Option Lv×Tok×List Nat) m (fun j s=>{ nt:=21,tmps:=[(2,.list (ao false ((fg m).take j)) s.2.1 0 (((fg m).take j).map enc)),(6,.int .i64 (.ofNat m)),(7,.int .i64 (.ofNat j))],locs:=M5 4 s.1,fix:=[] })
   (fun _ s=>{ heap:=[],aA:=s.2.2 }) (fun j s=>av [] s.2.2 ((fg m).take j) s.2.1) (none,.tight,[]) (by omega) (av.start []) ?_ ?_
  ·rintro j ⟨o,tok,T1⟩ hj hg
   obtain⟨T',aV,h1,h2⟩:=oi (c:=false) (bg:=.tight) (H:=[]) (new:=[(aP (.ofNat j)).1]) (by rw [List.length_take,fh];simp;omega) hg
   rw [← Dm m j hj] at h1 h2
   cases o with
   | none=>
    refine ah.yes (dj hj) ?_
    refine ae.mk _ _ (h18 (by omega)) ?_
    refine ab.mk _ (bsL _) ?_
    refine cj.mk _ _ (h1 _ _ rfl) ?_
    refine ab.mk _ (az (by omega)) ?_
    exact⟨(some (aP (.ofNat j)).1,aV,T'),h2,rfl,rfl⟩
   | some l=>
    refine ah.yes (dj hj) ?_
    refine ae.mk _ _ (h18 (by omega)) ?_
    refine ab.mk _ (bsL _) ?_
    refine cj.mk _ _ (h1 _ _ rfl) ?_
    refine ab.mk _ (az (by omega)) ?_
    exact⟨(some (aP (.ofNat j)).1,aV,T'),h2,rfl,rfl⟩
  ·rintro⟨o,tok,T1⟩ hg
   rw [List.take_of_length_le (by rw [fh];exact Nat.le_refl _)] at hg ⊢
   cases o with
   | none=>
    refine ah.no (eS (by omega)) ?_
    exact⟨_,rfl,_,_,rfl,hg⟩
   | some l=>
    refine ah.no (eS (by omega)) ?_
    exact⟨_,rfl,_,_,rfl,hg⟩
 obtain⟨q,h1,T',tok,rfl,hg⟩:=h
 refine bC h1 rfl rfl rfl rfl rfl ?_
 rw [← hg.ep]
 cases tok<;>rfl
noncomputable def oj (n:Nat) (xs ys:List Tm):Bool:=((xs.take n).zip (ys.take n)).all fun p=>dz p.1 p.2
theorem fz {α:Type} {p:α→Bool} {xs:List α} {j:Nat} {x:α} (h:xs[j]?=some x):(xs.drop j).all p=(p x && (xs.drop (j + 1)).all p):=by
 obtain⟨hj,e⟩:=aGs h
 rw [List.drop_eq_getElem_cons hj,e];rfl
theorem h81 {n m:Nat} {xs ys:List Tm} {c e c' e' : Bool} {S:St} {w:Nat} (hx:∀y∈xs,dU y∧wt y≤w) (h1:m≤xs.length) (h2:m≤ys.length) (hn:m + w + 3≤n) (hm:m < 1000000000) (hw:w < 1000000000) :
 RN n (.f 81) [.list (ao c xs) (aw e) 0 (ag xs),.list (ao c' ys) (aw e') 0 (ag ys),.int .i64 (.ofNat m)] S=some (.bool (oj m xs ys),S):=by
 obtain⟨k,rfl⟩:=up (show 1≤n by omega)
 have h:frame Tryz.cfg (RN k) k 81 [.list (ao c xs) (aw e) 0 (ag xs),.list (ao c' ys) (aw e') 0 (ag ys),.int .i64 (.ofNat m)] St.empty=some (.bool (oj m xs ys),St.empty):=by
  refine aO Tryz.cfg _ (fn:=Tryz.f81) rfl rfl ?_
  refine aD.loop 23 (σ:=Unit) m (fun j _=>{ nt:=23,tmps:=[(0,.list (ao c xs) (aw e) 0 (ag xs)),(1,.list (ao c' ys) (aw e') 0 (ag ys)),(2,.int .i64 (.ofNat m)),(7,.int .i64 (.ofNat j))],locs:=[],fix:=[] }) (fun _ _=>St.empty)
   (fun j _=>oj m xs ys=(((xs.take m).zip (ys.take m)).drop j).all fun p=>dz p.1 p.2) () (by omega) rfl ?_ ?_
  ·intro j _ hj hp
   obtain⟨x,hx1⟩ : ∃x,xs[j]?=some x:=⟨_,aGe (by omega)⟩
   obtain⟨y,hy1⟩ : ∃y,ys[j]?=some y:=⟨_,aGe (by omega)⟩
   have hz:((xs.take m).zip (ys.take m))[j]?=some (x,y):=by
    rw [List.getElem?_zip_eq_some]
    exact⟨by rw [List.getElem?_take_of_lt hj];exact hx1,by rw [List.getElem?_take_of_lt hj];exact hy1⟩
   rw [fz hz] at hp
   obtain⟨a1,a2⟩:=hx x (aMg hx1)
   refine ah.yes (dj hj) ?_
   refine ab.mk _ (bz hx1) ?_
   refine ab.mk _ (bz hy1) ?_
   refine ae.mkB (h27 a1 (by omega) (by omega)) (fun he=>?_) (fun he=>?_)
   ·rw [he] at hp
    refine ab.mk _ (az (by omega)) ?_
    exact⟨(),hp,rfl,rfl⟩
   ·rw [he] at hp
    rw [hp];rfl
  ·intro _ hp
   rw [List.drop_of_length_le (by simp;omega)] at hp
   refine ah.no (eS (by omega)) ?_
   rw [hp];rfl
 exact bC h (by simp only [bf,b8,an]) rfl rfl rfl rfl rfl
noncomputable def a6 (d:Dl) (x:In):Int:=.ofNat (al x.ty).1.length - d.fixed
theorem h34 {n j:Nat} {d:Dl} {x:In} {S:St} (hx:d.aj[j]?=some x) (ha:dU x.ty) (hw:wt x.ty < 1000000000) (hn:wt x.ty + 3≤n) (hf:Bd d.fixed):RN n (.f 34) [eY d,.int .i64 (.ofNat j)] S=some (.int .i64 (a6 d x),S):=by
 obtain⟨k,rfl⟩:=up (show 1≤n by omega)
 obtain⟨q,h1,T',tok,rfl,hg⟩:=h33 (n:=k) (x:=x.ty) (H:=[]) (T:=[]) ha (by omega) hw
 have hl:=(fy _ x.ty (Nat.le_refl _) ha).1
 have h:frame Tryz.cfg (RN k) k 34 [eY d,.int .i64 (.ofNat j)] St.empty=some (.int .i64 (a6 d x),{ heap:=[],aA:=T' }):=by
  refine aO Tryz.cfg _ (fn:=Tryz.f34) rfl rfl ?_
  refine ab.mk _ (aL hx) ?_
  refine ae.mk _ _ h1 ?_
  refine ab.mk (.int .i64 (a6 d x)) ?_ ?_
  ·rw [ak]
   exact mB (by unfold Bd at hf;simp only [aOn];omega) (by unfold Bd at hf;simp only [aOn];omega)
  ·rfl
 exact bC h (by simp only [ej,bf,an]) rfl rfl rfl rfl rfl
noncomputable def uW (fx:Nat) (l:List Tm) (aa:Int):Bool:=(List.range fx).all fun i=>match l[i]? with | some x=>iEq x.k 2 && iEq x.n (aa - 1 - .ofNat i) | none=>false
noncomputable def kI (d:Dl) (h:Tm) (l:List Tm):Bool:=iEq h.k 3 && (match dJ (fun i=>decide (i.name=h.s)) d.aj 0 with
 | some j=>iEq (.ofNat h.ls.length) d.params && (match d.aj[j]? with | some x=>iEq (.ofNat l.length) (d.fixed + a6 d x) | none=>false)
 | none=>false)
noncomputable def dK (d:Dl) (fx:Nat) (t:Tm) (aa:Int):Bool:=
 kI d (aF t).1 (aF t).2 && (decide ((aF t).1.ls=fg (aF t).1.ls.length) && uW fx (aF t).2 aa)
noncomputable def cI (d:Dl) (fx:Nat) (t:Tm) (aa:Int):Int×List Tm:=match dK d fx t aa with
 | true=>(ff d.aj (aF t).1.s,(aF t).2.drop fx)
 | false=>(-1,[])
structure pV (d:Dl) (W:Nat):Prop where
 few:d.aj.length≤10
 all:∀i∈d.aj,dU i.ty∧wt i.ty≤W
 qM:W≤100000000
theorem eqL (a b:Lv):binOp Tryz.cfg .neq 51 (enc a) (enc b)=some (.bool (!decide (a=b))):=Jq a b
theorem ml {LT sz by' : Nat} {z' : List V} {xs:List Tm} {c:Bool} {tok:Tok} {m:Nat} (hl:Tryz.cfg.ti LT=some { kind:=.slice 25,size:=sz,bytes:=by',zero:=z' }) (hm:m≤xs.length) :
 ∃c' aV,(aV=.tight∨aV=.no)∧slice Tryz.cfg LT (.list (ao c xs) tok 0 (ag xs)) (some (.int .i64 (.ofNat m))) none none=some (.list (ao c' (xs.drop m)) aV 0 (ag (xs.drop m))):=by
 have hq:(ag xs).isEmpty=true∨ao c xs=Tryz.ti25.size:=by
  rcases jH c xs with rfl | h
  ·left;rw [ag];rfl
  ·right;rw [h];rfl
 have hd:ga m (takeN (aH (ag xs)) (ag xs))=ag (xs.drop m):=by
  rw [ez,fC,aq,List.take_length,cZ,cZ,List.map_drop]
 have hsz:∃c',ao c' (xs.drop m)=ao c xs:=by
  cases hx:xs.drop m with
  | cons a l=>
   refine⟨true,?_⟩
   cases xs with
   | nil=>simp at hx
   | cons b k=>rfl
  | nil=>
   cases xs with
   | nil=>exact⟨c,rfl⟩
   | cons b k=>exact⟨true,rfl⟩
 obtain⟨c',hc'⟩:=hsz
 refine⟨c',if tok=.tight then .tight else .no,?_,?_⟩
 ·split
  ·exact .inl rfl
  ·exact .inr rfl
 ·unfold slice
  have hb:bound (some (.int .i64 (.ofNat m)))=some (some m):=by simp [bound]
  have hb0:bound none=some none:=rfl
  rw [hb,hb0]
  simp only [hl]
  rw [show Tryz.cfg.ti 25=some Tryz.ti25 from rfl]
  simp only
  rw [if_pos hq]
  unfold lM
  simp only [Option.getD_some,Option.getD_none]
  rw [if_pos ⟨by rw [ak];exact hm,Nat.le_refl _⟩,hd,hc']
  simp
theorem qz {t:Tok} (h:t=.tight∨t=.no):∃b,t=aw b:=by
 rcases h with rfl | rfl
 ·exact⟨true,rfl⟩
 ·exact⟨false,rfl⟩
theorem om {is:List In} {s:List UInt8} {j:Nat} (h:dJ (fun i=>decide (i.name=s)) is 0=some j):ff is s=.ofNat j∧∃x,is[j]?=some x:=by
 unfold ff
 rw [h]
 obtain⟨x,h1,_,_⟩:=GI h
 exact⟨rfl,x,by simpa using h1⟩
def uX (r:Int×List Tm) (q:V×St):Prop:=∃c e S',q=(.tuple [.int .i64 r.1,.list (ao c r.2) (aw e) 0 (ag r.2)],S')
noncomputable def RM:Code:=ny 4 (Tryz.f35.body.getD .skip)
theorem GJ {ls os:List Lv} {j:Nat} {a b:Lv} (h1:ls[j]?=some a) (h2:os[j]?=some b):(ls.zip os)[j]?=some (a,b):=by
 rw [List.getElem?_zip_eq_some];exact⟨h1,h2⟩
theorem JJ {ls os:List Lv} (h:ls.length=os.length):((ls.zip os).all fun p=>decide (p.1=p.2))=decide (ls=os):=by
 induction ls generalizing os with
 | nil=>cases os with | nil=>rfl | cons b os=>cases h
 | cons a ls ih=>cases os with
  | nil=>cases h
  | cons b os=>
   rw [List.zip_cons_cons,List.all_cons,ih (by simpa using h)]
   simp
theorem sT {ls:List Lv} {a:Bool} {tk:Tok} {j:Nat} {x:Lv} (h:ls[j]?=some x):indexAddr Tryz.cfg 22 (.list (ao a ls) tk 0 (ls.map enc)) (.int .i64 (.ofNat j))=some (.imm 0 (dX x)):=by
 rw [xf h];exact Gk h
theorem xG {n j:Nat} (h:j < n):(List.range n)[j]?=some j:=List.getElem?_range h
theorem JK (n k:Nat) (d:Dl) (fx p:Nat) (t h:Tm) (l:List Tm) (tok:Tok) (T:List Nat) (j:Nat) (aa:Int) (hfx:d.fixed=.ofNat fx) (hpp:d.params=.ofNat p) (hls:h.ls.length=p) (hll:fx≤l.length) (hr:Bd aa) (hn:p + 10≤n) (hk:p + 10≤k) (hk2:fx + 10≤k) (hp:p < 1000000) (hf:fx < 1000000)
 (r:Int×List Tm) (hrr:r=match decide (h.ls=fg p) && uW fx l aa with | true=>(.ofNat j,l.drop fx) | false=>(-1,[])) :
 er Tryz.cfg (RN n) (Tryz.cfg.fc 35) k 35 97 [] RM { nt:=97,tmps:=[(2,.int .i64 aa),(3,.ptr (.loc 3) 0),(8,.ptr (.loc 8) 0),(9,.list (ao false l) tok 0 (ag l)),(10,.int .i64 (.ofNat j))],locs:=[(3,bK d),(4,aC t),(8,aC h)],fix:=[] } { heap:=[],aA:=T }
  (fun e A S=>match e with | .exit _=>False | _=>∃q,finish Tryz.cfg Tryz.f35 A S=some q∧uX r q):=by
 obtain⟨q,h1,T1,JL,rfl,hg⟩:=h84 (n:=n) (m:=p) (H:=[]) (T:=T) (by omega) (by omega)
 have h1' : RN n (.f 84) [.int .i64 d.params] { heap:=[],aA:=T }=some (.list (ao false (fg p)) JL 0 ((fg p).map enc),{ heap:=[],aA:=T1 }):=by rw [hpp];exact h1
 refine ae.mk _ _ h1' ?_
 have oS:r=(-1,[])→uX r (.tuple [.int .i64 (-1),.list 0 .tight 0 []],{ heap:=[],aA:=T1 }):=fun e=>by
  subst e
  exact⟨false,true,{ heap:=[],aA:=T1 },by rw [ag];rfl⟩
 refine aD.loop 97 (σ:=Unit) p (fun i _=>{ nt:=97,tmps:=[(2,.int .i64 aa),(3,.ptr (.loc 3) 0),(8,.ptr (.loc 8) 0),(9,.list (ao false l) tok 0 (ag l)),(10,.int .i64 (.ofNat j)),(11,.list (ao false (fg p)) JL 0 ((fg p).map enc)),(12,.int .i64 (.ofNat i))],locs:=[(3,bK d),(4,aC t),(8,aC h)],fix:=[] }) (fun _ _=>{ heap:=[],aA:=T1 })
  (fun i _=>decide (h.ls=fg p)=((h.ls.zip (fg p)).drop i).all fun q=>decide (q.1=q.2)) () (by omega) (by rw [List.drop_zero,JJ (by rw [fh];exact hls)]) ?_ ?_
 ·intro i _ hi hp'
  obtain⟨a,ha⟩ : ∃a,h.ls[i]?=some a:=⟨_,aGe (by omega)⟩
  obtain⟨b,hb⟩ : ∃b,(fg p)[i]?=some b:=⟨_,aGe (by rw [fh];exact hi)⟩
  rw [fz (GJ ha hb)] at hp'
  refine ah.yes (by rw [aq,aLm,fh];exact dj hi) ?_
  refine ab.mk _ (sT ha) ?_
  refine ab.mk _ (sT hb) ?_
  refine ab.mkB (eqL a b) (fun he=>?_) (fun he=>?_)
  ·have he' : decide (a=b)=false:=by simpa using he
   rw [he'] at hp'
   have hq:r=(-1,[]):=by rw [hrr,hp'];rfl
   exact⟨_,rfl,oS hq⟩
  ·have he' : decide (a=b)=true:=by simpa using he
   rw [he'] at hp'
   refine ab.mk _ (az (by omega)) ?_
   exact⟨(),hp',rfl,rfl⟩
 ·intro _ hp'
  rw [List.drop_of_length_le (by simp [fh];omega)] at hp'
  refine ah.no (by rw [aq,aLm,fh];exact eS (by omega)) ?_
  refine aD.loop 97 (σ:=Unit) fx (fun i _=>{ nt:=97,tmps:=[(2,.int .i64 aa),(3,.ptr (.loc 3) 0),(9,.list (ao false l) tok 0 (ag l)),(10,.int .i64 (.ofNat j)),(13,.int .i64 (.ofNat i))],locs:=[(3,bK d),(4,aC t),(8,aC h)],fix:=[] }) (fun _ _=>{ heap:=[],aA:=T1 })
   (fun i _=>uW fx l aa=((List.range fx).drop i).all fun i=>match l[i]? with | some x=>iEq x.k 2 && iEq x.n (aa - 1 - .ofNat i) | none=>false) () (by omega) rfl ?_ ?_
  ·intro i _ hi hv
   obtain⟨x,hx⟩ : ∃x,l[i]?=some x:=⟨_,aGe (by omega)⟩
   rw [fz (xG hi),hx] at hv
   simp only at hv
   refine ah.yes (by rw [hfx];exact dj hi) ?_
   refine ab.mk _ (bz hx) ?_
   refine ah.mk (fun h2=>?_) (fun h2=>?_)
   ·have h2' : iEq x.k 2=false:=by simpa using h2
    rw [h2'] at hv
    have hq:r=(-1,[]):=by rw [hrr,hv];simp
    exact⟨_,rfl,oS hq⟩
   ·have h2' : iEq x.k 2=true:=by simpa using h2
    rw [h2'] at hv
    refine ab.mk _ (bz hx) ?_
    refine ab.mk _ (mB (by unfold Bd at hr;omega) (by unfold Bd at hr;omega)) ?_
    refine ab.mk _ (mB (b:=.ofNat i) (by unfold Bd at hr;simp only [aOn];omega) (by unfold Bd at hr;simp only [aOn];omega)) ?_
    refine ah.mk (fun h3=>?_) (fun h3=>?_)
    ·have h3' : iEq x.n (aa - 1 - .ofNat i)=false:=by simpa using h3
     rw [h3'] at hv
     have hq:r=(-1,[]):=by rw [hrr,hv];simp
     exact⟨_,rfl,oS hq⟩
    ·have h3' : iEq x.n (aa - 1 - .ofNat i)=true:=by simpa using h3
     rw [h3'] at hv
     refine ab.mk _ (az (by omega)) ?_
     exact⟨(),hv,rfl,rfl⟩
  ·intro _ hv
   rw [List.drop_of_length_le (by simp)] at hv
   refine ah.no (by rw [hfx];exact eS (by omega)) ?_
   obtain⟨c',aV,ht',hs⟩:=ml (LT:=23) (c:=false) (tok:=tok) (m:=fx) rfl hll
   refine ab.mk _ (show slice Tryz.cfg 23 (.list (ao false l) tok 0 (ag l)) (some (.int .i64 d.fixed)) none none=_ by rw [hfx];exact hs) ?_
   have hq:r=(.ofNat j,l.drop fx):=by rw [hrr,hp',hv];rfl
   subst hq
   obtain⟨b,rfl⟩:=qz ht'
   exact⟨_,rfl,c',b,{ heap:=[],aA:=T1 },rfl⟩
theorem h35 {n fx p:Nat} {d:Dl} {t:Tm} {aa:Int} {S:St} {W:Nat} (hd:pV d W) (hpi:∀i∈d.aj,fx≤(al i.ty).1.length) (ht:dU t) (htw:wt t≤W) (hfx:d.fixed=.ofNat fx) (hpp:d.params=.ofNat p) (hf:fx < 1000) (hp:p < 1000) (hr:Bd aa) (hn:W + 1100≤n) :
 ∃c e,RN n (.f 35) [eY d,aB t,.int .i64 aa] S=some (.tuple [.int .i64 (cI d fx t aa).1,.list (ao c (cI d fx t aa).2) (aw e) 0 (ag (cI d fx t aa).2)],S):=by
 obtain⟨k,rfl⟩:=up (show 1≤n by omega)
 have hWm:=hd.qM
 have gQ:=hd.few
 obtain⟨q,h1,T1,tok,rfl,hg⟩:=h82 k t [] [] ht (by omega) (by omega)
 obtain⟨s1,s2,s3,s4⟩:=ia _ t (Nat.le_refl _) ht
 have oS:∀b:Bool,dK d fx t aa=false→uX (cI d fx t aa) (.tuple [.int .i64 (-1),.list 0 .tight 0 []],{ heap:=[],aA:=T1 }):=fun _ e=>by
  unfold cI
  rw [e]
  exact⟨false,true,{ heap:=[],aA:=T1 },by rw [ag];rfl⟩
 have h:∃q,frame Tryz.cfg (RN k) k 35 [eY d,aB t,.int .i64 aa] St.empty=some q∧uX (cI d fx t aa) q:=by
  refine aU (fn:=Tryz.f35) (p:=uX (cI d fx t aa)) rfl rfl ?_
  refine ae.mk _ _ h1 ?_
  refine ae.mk _ _ (h83 (by omega) (by omega)) ?_
  refine ah.mk (fun h3=>?_) (fun h3=>?_)
  ·have h3' : iEq (aF t).1.k 3=false:=by simpa using h3
   exact⟨_,rfl,oS true (by unfold dK kI;rw [h3'];rfl)⟩
  have h3' : iEq (aF t).1.k 3=true:=by simpa using h3
  cases hw:dJ (fun i=>decide (i.name=(aF t).1.s)) d.aj 0 with
  | none=>
   have hq:ff d.aj (aF t).1.s = -1:=by unfold ff;rw [hw];rfl
   rw [hq]
   refine ah.yes rfl ?_
   exact⟨_,rfl,oS true (by unfold dK kI;rw [h3',hw];rfl)⟩
  | some j=>
   obtain⟨hq,x,hx⟩:=om hw
   rw [hq]
   refine ah.no rfl ?_
   refine ah.mk (fun h4=>?_) (fun h4=>?_)
   ·have h4' : iEq (.ofNat (aF t).1.ls.length) d.params=false:=by simpa [aq] using h4
    exact⟨_,rfl,oS true (by unfold dK kI;rw [h3',hw];simp only [h4'];rfl)⟩
   have h4' : iEq (.ofNat (aF t).1.ls.length) d.params=true:=by simpa [aq] using h4
   have hxi:=hd.all x (aMg hx)
   refine ae.mk _ _ (h34 hx hxi.1 (by omega) (by omega) (by rw [hfx];unfold Bd;simp only [aOn];omega)) ?_
   have hix:a6 d x=.ofNat (al x.ty).1.length - .ofNat fx:=by unfold a6;rw [hfx]
   have hpl:=(fy _ x.ty (Nat.le_refl _) hxi.1).1
   refine ab.mk (.int .i64 (d.fixed + a6 d x)) (L0 (by rw [hix,hfx];simp only [aOn];omega) (by rw [hix,hfx];simp only [aOn];omega)) ?_
   refine ah.mk (fun h5=>?_) (fun h5=>?_)
   ·have h5' : iEq (.ofNat (aF t).2.length) (d.fixed + a6 d x)=false:=by rw [ak] at h5;simpa using h5
    exact⟨_,rfl,oS true (by unfold dK kI;rw [h3',hw];simp only [h4',hx,h5'];rfl)⟩
   have h5' : iEq (.ofNat (aF t).2.length) (d.fixed + a6 d x)=true:=by rw [ak] at h5;simpa using h5
   have hls:(aF t).1.ls.length=p:=by
    rw [hpp,bW,decide_eq_true_eq] at h4'
    exact Int.ofNat_inj.1 h4'
   have hll:fx≤(aF t).2.length:=by
    rw [hix,hfx,bW,decide_eq_true_eq] at h5'
    simp only [aOn] at h5'
    have:=hpi x (aMg hx)
    omega
   refine JK k k d fx p t (aF t).1 (aF t).2 tok T1 j aa hfx hpp hls hll hr (by omega) (by omega) (by omega) (by omega) (by omega) _ ?_
   unfold cI dK kI
   rw [h3',hw]
   rw [hls] at h4'
   simp only [h4',hx,h5',Bool.and_self,Bool.true_and,hls]
   cases hbb:(decide ((aF t).1.ls=fg p) && uW fx (aF t).2 aa) with
   | true=>simp only [hq]
   | false=>rfl
 obtain⟨q,k1,c,e,S',rfl⟩:=h
 refine⟨c,e,bC k1 (by simp only [ej,bh,bf,an]) rfl rfl rfl rfl ?_⟩
 show V.tuple [_,ai (.list _ (aw e) 0 _)]=_
 rw [hU]
 rfl
theorem pW {d:Dl} {fx:Nat} {t:Tm} {aa:Int} (ht:dU t):∀y∈(cI d fx t aa).2,dU y∧wt y≤wt t:=by
 obtain⟨_,_,s3,_⟩:=ia _ t (Nat.le_refl _) ht
 intro y hy
 unfold cI at hy
 cases hb:dK d fx t aa with
 | true=>rw [hb] at hy;exact s3 y (List.mem_of_mem_drop hy)
 | false=>rw [hb] at hy;cases hy
theorem pX {d:Dl} {fx:Nat} {t:Tm} {aa:Int} (ht:dU t):(cI d fx t aa).2.length≤wt t:=by
 obtain⟨s1,_,s3,_⟩:=ia _ t (Nat.le_refl _) ht
 unfold cI
 cases hb:dK d fx t aa with
 | true=>simp;omega
 | false=>simp
theorem iW {id n:Nat} {args jQ : List V} {S:St} (hp:(Tryz.cfg.fc id).pure=true) (ha:allB V.pure args=true) (ha' : allB V.pure jQ=true) (he:bn V.strip args=bn V.strip jQ) (hc:l8 id=true:=by rfl):RN (n + 1) (.f id) args S=RN (n + 1) (.f id) jQ S:=by
 rw [sJ hc,sJ hc,qt,qt,hp,ha,ha',he]
 rfl
theorem eC (tok:Tok):∃b,ep tok=aw b:=by
 cases tok with
 | no=>exact⟨false,rfl⟩
 | tight=>exact⟨true,rfl⟩
 | own t=>exact⟨false,rfl⟩
theorem eD {sz:Nat} {tok:Tok} {b:Bool} (h:ep tok=aw b) (top:Nat) (rows l:List V):bn V.strip (.list sz tok top rows::l)=.list sz (aw b) top rows::bn V.strip l:=by
 rw [← h]
 cases tok<;>rfl
theorem k37 {n:Nat} {d:Dl} {xs:List Tm} {c:Bool} {tok:Tok} {S:St} {w:Nat} (hw:∀y∈xs,wt y≤w) (hn:d.aj.length + w + xs.length + 5≤n) (hl:d.aj.length < 1000000000) (hww:w < 1000000000) (hxl:xs.length < 1000000000) :
 RN n (.f 37) [eY d,.list (ao c xs) tok 0 (ag xs)] S=some (.bool (gg d.aj xs),S):=by
 obtain⟨m,rfl⟩:=up (show 1≤n by omega)
 obtain⟨b,hb⟩:=eC tok
 rw [iW (jQ:=[eY d,.list (ao c xs) (aw b) 0 (ag xs)]) rfl rfl rfl (by simp only [ej,b8,eD hb,an])]
 exact h37 hw hn hl hww hxl
theorem k81 {n m:Nat} {xs ys:List Tm} {c c' : Bool} {tok aV : Tok} {S:St} {w:Nat} (hx:∀y∈xs,dU y∧wt y≤w) (h1:m≤xs.length) (h2:m≤ys.length) (hn:m + w + 3≤n) (hm:m < 1000000000) (hw:w < 1000000000) :
 RN n (.f 81) [.list (ao c xs) tok 0 (ag xs),.list (ao c' ys) aV 0 (ag ys),.int .i64 (.ofNat m)] S=some (.bool (oj m xs ys),S):=by
 obtain⟨k,rfl⟩:=up (show 1≤n by omega)
 obtain⟨b,hb⟩:=eC tok
 obtain⟨b',hb'⟩:=eC aV
 rw [iW (jQ:=[.list (ao c xs) (aw b) 0 (ag xs),.list (ao c' ys) (aw b') 0 (ag ys),.int .i64 (.ofNat m)]) rfl rfl rfl (by simp only [b8,bf,eD hb,eD hb',an])]
 exact h81 hx h1 h2 hn hm hw
theorem k74 {n:Nat} {f:Tm} {xs:List Tm} {c:Bool} {tok:Tok} {S:St} (hn:xs.length + 2≤n) (hl:xs.length < 1000000000):RN n (.f 74) [aB f,.list (ao c xs) tok 0 (ag xs)] S=some (aB (de f xs),S):=by
 obtain⟨k,rfl⟩:=up (show 1≤n by omega)
 obtain⟨b,hb⟩:=eC tok
 rw [iW (jQ:=[aB f,.list (ao c xs) (aw b) 0 (ag xs)]) rfl rfl rfl (by simp only [bh,b8,eD hb,an])]
 exact h74 hn hl
theorem k47 {n:Nat} {f:Tm} {xs:List Tm} {c:Bool} {tok:Tok} {S:St} (hn:xs.length + 3≤n) (hl:xs.length < 1000000000):RN n (.f 47) [aB f,.list (ao c xs) tok 0 (ag xs)] S=some (aB (de f xs),S):=by
 obtain⟨k,rfl⟩:=up (show 1≤n by omega)
 obtain⟨b,hb⟩:=eC tok
 rw [iW (jQ:=[aB f,.list (ao c xs) (aw b) 0 (ag xs)]) rfl rfl rfl (by simp only [bh,b8,eD hb,an])]
 exact h47 hn hl
theorem rS {n:Nat} {f:Tm} {xs:List Tm} {c:Bool} {tok:Tok} {S:St} (hn:xs.length + 2≤n) (hl:xs.length < 1000000000):RN n (.f 124) [aB f,.list (ao c xs) tok 0 (ag xs)] S=some (aB (de f xs),S):=by
 obtain⟨k,rfl⟩:=up (show 1≤n by omega)
 obtain⟨b,hb⟩:=eC tok
 rw [iW (jQ:=[aB f,.list (ao c xs) (aw b) 0 (ag xs)]) rfl rfl rfl (by simp only [bh,b8,eD hb,an])]
 exact RK hn hl
theorem k73 {n:Nat} {k:Int} {xs:List Tm} {t:Tm} {c:Bool} {tok:Tok} {S:St} (hn:xs.length + 2≤n) (hl:xs.length < 1000000000):RN n (.f 73) [.int .u8 k,.list (ao c xs) tok 0 (ag xs),aB t] S=some (aB (eB k xs t),S):=by
 obtain⟨m,rfl⟩:=up (show 1≤n by omega)
 obtain⟨b,hb⟩:=eC tok
 rw [iW (jQ:=[.int .u8 k,.list (ao c xs) (aw b) 0 (ag xs),aB t]) rfl rfl rfl (by simp only [bh,bf,b8,eD hb,an])]
 exact h73 hn hl
theorem EY {n:Nat} {k:Int} {xs:List Tm} {t:Tm} {c:Bool} {tok:Tok} {S:St} (hn:xs.length + 4≤n) (hl:xs.length < 1000000000):RN n (.f 123) [.list (ao c xs) tok 0 (ag xs),.int .u8 k,aB t] S=some (aB (eB k xs t),S):=by
 obtain⟨m,rfl⟩:=up (show 1≤n by omega)
 obtain⟨b,hb⟩:=eC tok
 rw [iW (jQ:=[.list (ao c xs) (aw b) 0 (ag xs),.int .u8 k,aB t]) rfl rfl rfl (by simp only [bh,bf,b8,eD hb,an])]
 exact Da hn hl
theorem k44 {n:Nat} {s:List UInt8} {a:Bool} {tok:Tok} {b:Bool} {ls:List Lv} {S:St} (hb:ep tok=aw b) (hn:1≤n):RN n (.f 44) [.str s,.list (ao a ls) tok 0 (ls.map enc)] S=some (aB (mf s a b ls),S):=by
 obtain⟨m,rfl⟩:=up hn
 rw [iW (jQ:=[.str s,.list (ao a ls) (aw b) 0 (ls.map enc)]) rfl rfl rfl (by simp only [jI,b8,eD hb,an])]
 exact h44 hn
noncomputable def ct (d:Dl) (fx:Nat) (t:Tm) (aa:Int):(Int×Int)×Bool:=
 let m:=cI d fx (al t).2 (aa + .ofNat (al t).1.length)
 match iLt m.1 0 with
 | true=>((-1,0),!jJ d.aj t)
 | false=>((m.1,.ofNat (al t).1.length),!gg d.aj (al t).1 && !gg d.aj m.2)
@[reducible] noncomputable def dw (f:Int×Int):V:=.agg [.int .i64 f.1,.int .i64 f.2]
theorem h36 {n fx p:Nat} {d:Dl} {t:Tm} {aa:Int} {S:St} {W:Nat} (hd:pV d W) (hpi:∀i∈d.aj,fx≤(al i.ty).1.length) (ht:dU t) (htw:wt t≤W) (hfx:d.fixed=.ofNat fx) (hpp:d.params=.ofNat p) (hf:fx < 1000) (hp:p < 1000) (hr : -100000000000≤aa∧aa≤100000000000) (hn:3 * W + 1200≤n) :
 RN n (.f 36) [eY d,aB t,.int .i64 aa] S=some (.tuple [dw (ct d fx t aa).1,.bool (ct d fx t aa).2],S):=by
 obtain⟨k,rfl⟩:=up (show 1≤n by omega)
 have hWm:=hd.qM
 have gQ:=hd.few
 obtain⟨q,h1,T1,tok,rfl,hg⟩:=h33 (n:=k) (x:=t) (H:=[]) (T:=[]) ht (by omega) (by omega)
 obtain⟨p1,p2,p3⟩:=fy _ t (Nat.le_refl _) ht
 have hbd:Bd (aa + .ofNat (al t).1.length):=by unfold Bd;simp only [aOn];omega
 obtain⟨c,e,h2⟩:=h35 (n:=k) (S:={ heap:=[],aA:=T1 }) hd hpi p2 (by omega) hfx hpp hf hp hbd (by omega)
 have hml:=pX (d:=d) (fx:=fx) (aa:=aa + .ofNat (al t).1.length) p2
 have hmm:=pW (d:=d) (fx:=fx) (aa:=aa + .ofNat (al t).1.length) p2
 have h:frame Tryz.cfg (RN k) k 36 [eY d,aB t,.int .i64 aa] St.empty=some (.tuple [dw (ct d fx t aa).1,.bool (ct d fx t aa).2],{ heap:=[],aA:=T1 }):=by
  refine aO Tryz.cfg _ (fn:=Tryz.f36) rfl rfl ?_
  refine ae.mk _ _ h1 ?_
  refine ab.mk (.int .i64 (aa + .ofNat (al t).1.length)) (by rw [ak];exact L0 (by unfold Bd at hbd;omega) (by unfold Bd at hbd;omega)) ?_
  refine ae.mk _ _ h2 ?_
  unfold ct
  refine ah.mk (fun hq=>?_) (fun hq=>?_)
  ·simp only [hq]
   refine ae.mkB (h85 k d t _ (by omega) (by omega) (by omega)) (fun he=>?_) (fun he=>?_)
   ·rw [he];rfl
   ·rw [he];rfl
  ·simp only [hq]
   have hw1:∀y∈(al t).1,wt y≤W:=fun y hy=>by have:=(p3 y hy).2;omega
   have hw2:∀y∈(cI d fx (al t).2 (aa + .ofNat (al t).1.length)).2,wt y≤W:=fun y hy=>by have:=(hmm y hy).2;omega
   refine ae.mkB (k37 (w:=W) hw1 (by omega) (by omega) (by omega) (by omega)) (fun he=>?_) (fun he=>?_)
   ·rw [he,ak];rfl
   ·rw [he,ak]
    refine ae.mkB (k37 (w:=W) hw2 (by omega) (by omega) (by omega) (by omega)) (fun he=>?_) (fun he=>?_)
    ·rw [he];rfl
    ·rw [he];rfl
 exact bC h (by simp only [ej,bh,bf,an]) rfl rfl rfl rfl rfl
noncomputable def oo (i:In):List Tm:=i.ty::i.cs.map (·.ty)
noncomputable def bZ (d:Dl):List Tm:=d.aj.flatMap oo
theorem zD {α β:Type} (f:α→List β) (xs:List α) (j:Nat) (x:α) (h:xs[j]?=some x):(xs.take (j + 1)).flatMap f=(xs.take j).flatMap f++f x:=by
 rw [List.take_add_one,h];simp
theorem map_take {α β:Type} (f:α→β) (xs:List α) (j:Nat) (x:α) (h:xs[j]?=some x):(xs.take (j + 1)).map f=(xs.take j).map f++[f x]:=by
 rw [List.take_add_one,h];simp
def JM (l:List Tm) (H:List Blk) (T:List Nat) (q:V×St):Prop:=∃T' tok,q=(.list (ao false l) tok 0 (ag l),{ heap:=H,aA:=T' })∧av T T' l tok
theorem xH {α β:Type} (f:α→List β) (xs:List α) (m:Nat) (h:∀x∈xs,(f x).length≤m):(xs.flatMap f).length≤xs.length * m:=by
 induction xs with
 | nil=>simp
 | cons x xs ih=>
  rw [List.flatMap_cons,aLa,aLc,Nat.add_mul]
  have:=h x aMs
  have:=ih (fun y hy=>h y (aMt _ hy))
  omega
theorem h28 {n:Nat} {d:Dl} {S:St} (hi:d.aj.length≤10) (hc:∀i∈d.aj,i.cs.length≤20) (hn:50≤n):∃b,RN n (.f 28) [eY d] S=some (.list (ao false (bZ d)) (aw b) 0 (ag (bZ d)),S):=by
 obtain⟨k,rfl⟩:=up (show 1≤n by omega)
 have h:∃q,frame Tryz.cfg (RN k) k 28 [eY d] St.empty=some q∧JM (bZ d) [] [] q:=by
  refine aU (fn:=Tryz.f28) (p:=JM (bZ d) [] []) rfl rfl ?_
  refine aD.loop 47 (σ:=Tok×List Nat) d.aj.length (fun j s=>{ nt:=47,tmps:=[(1,.ptr (.loc 1) 0),(3,.list (ao false ((d.aj.take j).flatMap oo)) s.1 0 (ag ((d.aj.take j).flatMap oo))),(4,.int .i64 (.ofNat j))],locs:=[(1,bK d)],fix:=[] })
   (fun _ s=>{ heap:=[],aA:=s.2 }) (fun j s=>av [] s.2 ((d.aj.take j).flatMap oo) s.1) (.tight,[]) (by omega) (av.start []) ?_ ?_
  ·rintro j ⟨tok,T1⟩ hj (hg:av [] T1 _ tok)
   obtain⟨x,hx⟩ : ∃x,d.aj[j]?=some x:=⟨_,aGe hj⟩
   have hxc:=hc x (aMg hx)
   have hlen:((d.aj.take j).flatMap oo).length≤210:=by
    have:=xH oo (d.aj.take j) 21 (fun y hy=>by have:=hc y (List.mem_of_mem_take hy);unfold oo;simp;omega)
    rw [List.length_take] at this
    have:min j d.aj.length * 21≤10 * 21:=Nat.mul_le_mul (by omega) (by omega)
    omega
   refine ah.yes (ltM hj) ?_
   refine ab.mk _ (aL hx) ?_
   refine ab.mk _ (bs1 x.ty 23 _ _ _ rfl) ?_
   obtain⟨T2,bg,h1,h2⟩:=iA (LT:=23) (c:=false) (bg:=.tight) (H:=[]) (done:=(d.aj.take j).flatMap oo) (new:=[x.ty]) rfl (by simp only [aLc,List.length_nil];omega) hg
   refine cj.mk _ _ (h1 _ _ rfl) ?_
   refine aD.loop 47 (σ:=List Tm×Tok×List Nat) x.cs.length (fun i s=>{ nt:=47,tmps:=[(1,.ptr (.loc 1) 0),(3,.list (ao false s.1) s.2.1 0 (ag s.1)),(4,.int .i64 (.ofNat j)),(5,.int .i64 (.ofNat i))],locs:=[(1,bK d)],fix:=[] })
    (fun _ s=>{ heap:=[],aA:=s.2.2 }) (fun i s=>s.1=(d.aj.take j).flatMap oo++[x.ty]++(x.cs.take i).map (·.ty)∧av [] s.2.2 s.1 s.2.1) ((d.aj.take j).flatMap oo++[x.ty],bg,T2) (by omega) ⟨by simp,h2⟩ ?_ ?_
   ·rintro i ⟨l,eU,T3⟩ hi' ⟨(hl3:l=_),(hg3:av [] T3 l eU)⟩
    obtain⟨y,hy⟩ : ∃y,x.cs[i]?=some y:=⟨_,aGe hi'⟩
    have hll:l.length≤240:=by
     rw [hl3]
     simp only [aLa,aLc,List.length_nil,aLm,List.length_take]
     omega
    refine ab.mk _ (aL hx) ?_
    refine ah.yes (ltM hi') ?_
    refine ab.mk _ (aL hx) ?_
    refine ab.mk _ (ec hy) ?_
    refine ab.mk _ (bs1 y.ty 23 _ _ _ rfl) ?_
    obtain⟨T4,qN,h3,h4⟩:=iA (LT:=23) (c:=false) (bg:=.tight) (H:=[]) (done:=l) (new:=[y.ty]) rfl (by simp only [aLc,List.length_nil];omega) hg3
    refine cj.mk _ _ (h3 _ _ rfl) ?_
    refine ab.mk _ (az (by omega)) ?_
    exact⟨(l++[y.ty],qN,T4),⟨by rw [hl3,map_take (·.ty) x.cs i y hy];simp,h4⟩,rfl,rfl⟩
   ·rintro⟨l,eU,T3⟩ ⟨(hl3:l=_),(hg3:av [] T3 l eU)⟩
    refine ab.mk _ (aL hx) ?_
    refine ah.no (geM (by omega)) ?_
    refine ab.mk _ (az (by omega)) ?_
    rw [List.take_length] at hl3
    have e:l=(d.aj.take (j + 1)).flatMap oo:=by rw [hl3,zD oo d.aj j x hx];unfold oo;simp
    subst e
    exact⟨(eU,T3),hg3,rfl,rfl⟩
  ·rintro⟨tok,T1⟩ (hg:av [] T1 _ tok)
   refine ah.no (geM (by omega)) ?_
   rw [List.take_length] at hg ⊢
   exact⟨_,rfl,_,_,rfl,hg⟩
 obtain⟨q,h1,T',tok,rfl,hg⟩:=h
 exact⟨_,xw h1 hg.ep (by simp only [ej,an]) rfl rfl⟩
noncomputable def hiL (n:Nat) (l:Lv):Bool:=(List.range (4 - n)).any fun j=>!iLt (Lv.get (.ofNat (n + j)) l) 0
noncomputable def hiT (n:Nat) (t:Tm):Bool:=m4 (fun x=>x.ls.any (hiL n)) t
noncomputable def RO:Code:=jP Tryz.f29 0
theorem Ou (R:Run) (k m:Nat) (x:Tm) (S:St) (K:Ex→Env→St→Prop) (hm:m≤4) (hl:x.ls.length < 1000000000)
 (hT:x.ls.any (hiL m)=true→K .ret { nt:=44,tmps:=[(4,.bool false)],locs:=[(2,aC x)],fix:=[] } S)
 (hE:x.ls.any (hiL m)=false→K (.exit 0) { nt:=44,tmps:=[(1,.int .i64 (.ofNat m)),(2,.ptr (.loc 2) 0),(5,.int .i64 (.ofNat x.ls.length)),(12,.bool false)],locs:=[(2,aC x)],fix:=[] } S) (f:Nat) (hf:x.ls.length < f) (hk:5≤k) :
 aD (iter (evalCode Tryz.cfg R k 29 (Tryz.cfg.fc 29) RO) f { nt:=44,tmps:=[(1,.int .i64 (.ofNat m)),(2,.ptr (.loc 2) 0),(5,.int .i64 0)],locs:=[(2,aC x)],fix:=[] } S) K:=by
 refine aD.loop 44 (σ:=Unit) x.ls.length (fun j _=>{ nt:=44,tmps:=[(1,.int .i64 (.ofNat m)),(2,.ptr (.loc 2) 0),(5,.int .i64 (.ofNat j))],locs:=[(2,aC x)],fix:=[] }) (fun _ _=>S)
  (fun j _=>x.ls.any (hiL m)=(x.ls.drop j).any (hiL m)) () hf rfl ?_ ?_
 ·intro j _ hj hp
  obtain⟨l,hy⟩ : ∃y,x.ls[j]?=some y:=⟨_,aGe hj⟩
  rw [xF hy] at hp
  refine ah.yes (A8 hj) ?_
  refine aD.loop 44 (σ:=Nat) (4 - m) (fun i s=>{ nt:=44,tmps:=[(1,.int .i64 (.ofNat m)),(2,.ptr (.loc 2) 0),(5,.int .i64 (.ofNat j)),(6,.int .i64 (.ofNat s))],locs:=[(2,aC x)],fix:=[] }) (fun _ _=>S)
   (fun i s=>s=m + i∧hiL m l=((List.range (4 - m)).drop i).any fun j=>!iLt (Lv.get (.ofNat (m + j)) l) 0) m (by omega) ⟨rfl,rfl⟩ ?_ ?_
  ·rintro i s hi ⟨hs,hq⟩
   rw [xF (xG hi),← hs] at hq
   generalize hz:(!iLt (Lv.get (.ofNat s) l) 0)=z at hq
   have hc:s=0∨s=1∨s=2∨s=3:=by omega
   rcases hc with rfl | rfl | rfl | rfl
   all_goals
    refine ah.yes rfl ?_
    refine ab.mk _ (sT hy) ?_
    refine ab.mk _ rfl ?_
    refine ah.mk (fun hg=>?_) (fun hg=>?_)
    ·rw [show z=true from hz.symm.trans hg] at hq
     have hq' : hiL m l=true:=hq
     rw [hq'] at hp
     exact hT hp
    ·rw [show z=false from hz.symm.trans hg] at hq
     refine ab.mk _ (az (by decide)) ?_
     refine⟨_,⟨?_,hq⟩,rfl,rfl⟩
     omega
  ·rintro s ⟨hs,hq⟩
   have hs4:s=4:=by omega
   subst hs4
   rw [List.drop_of_length_le (by simp)] at hq
   have hq' : hiL m l=false:=hq
   rw [hq'] at hp
   refine ah.no rfl ?_
   refine ab.mk _ (az (by omega)) ?_
   exact⟨(),hp,rfl,rfl⟩
 ·intro _ hp
  rw [List.drop_length] at hp
  refine ah.no (A9 (by omega)) ?_
  exact hE hp
theorem h29:∀(n:Nat) (x:Tm) (m:Nat) (S:St),m≤4→wt x + 7≤n→wt x < 1000000000→RN n (.f 29) [aB x,.int .i64 (.ofNat m)] S=some (.bool (!hiT m x),S)
 | 0,x,m,S,_,h,_=>by omega
 | n + 1,x,m,S,hm,hn,hw=>by
  have hw':=cO x
  have hlen:x.ts.length≤wts x.ts:=iz _
  have hs:hiT m x=(x.ls.any (hiL m) || oN (fun x=>x.ls.any (hiL m)) x.ts):=Be _ _
  have dt:∀y∈x.ts,RN n (.f 29) [aB y,.int .i64 (.ofNat m)] St.empty=some (.bool (!hiT m y),St.empty):=fun y hy=>h29 n y m _ hm (by have:=cT hy;omega) (by have:=cT hy;omega)
  have h:frame Tryz.cfg (RN n) n 29 [aB x,.int .i64 (.ofNat m)] St.empty=some (.bool (!hiT m x),St.empty):=by
   refine aO Tryz.cfg _ (fn:=Tryz.f29) rfl rfl ?_
   refine Ou _ n m x _ _ hm (by omega) (fun ha=>?_) (fun ha=>?_) n (by omega) (by omega)
   ·rw [hs,ha];rfl
   ·rw [hs,ha]
    refine aD.loop 44 (σ:=Unit) x.ts.length (fun j _=>{ nt:=44,tmps:=[(1,.int .i64 (.ofNat m)),(2,.ptr (.loc 2) 0),(7,.int .i64 (.ofNat j))],locs:=[(2,aC x)],fix:=[] }) (fun _ _=>St.empty)
     (fun j _=>oN (fun x=>x.ls.any (hiL m)) x.ts=(x.ts.drop j).any (hiT m)) () (by omega) (by rw [xE];rfl) ?_ ?_
    ·intro j _ hj hp
     obtain⟨y,hy⟩ : ∃y,x.ts[j]?=some y:=⟨_,aGe hj⟩
     rw [xF hy] at hp
     refine ah.yes (gI hj) ?_
     refine ab.mk _ (bz hy) ?_
     refine ae.mkB (dt y (aMg hy)) (fun he=>?_) (fun he=>?_)
     ·have he' : hiT m y=false:=by simpa using he
      rw [he'] at hp
      refine ab.mk _ (az (by omega)) ?_
      exact⟨(),hp,rfl,rfl⟩
     ·have he' : hiT m y=true:=by simpa using he
      rw [he'] at hp
      rw [hp];rfl
    ·intro _ hp
     rw [List.drop_length] at hp
     refine ah.no (gJ (by omega)) ?_
     rw [hp];rfl
  exact bC h (by simp only [bh,bf,an]) rfl rfl rfl rfl rfl
def m5 {α:Type} (T0 T:List Nat) (done:List α) (tok:Tok):Prop:=jm T0 T∧(tok=.tight∨∃t,tok=.own t∧T0.length≤t∧nth T t=some done.length∧done≠[])
theorem av.w {α:Type} {T0 T:List Nat} {done:List α} {tok:Tok} (h:av T0 T done tok):m5 T0 T done tok:=⟨h.1,h.2.imp (fun h=>h.2) id⟩
theorem xI {ei:TI} {H:List Blk} {T0 T:List Nat} {done new:List V} {tok:Tok} {sz:Nat} (h0:0 < ei.size) (hb:ei.bytes≤1000) (hlen:done.length + new.length < 1000000000) (hs:done=[]∨sz=ei.size) (hg:m5 T0 T done tok) (hne:new≠[]) :
 ∃T' aV,(∀ac:Acc,ac.heap=true→kp ei { heap:=H,aA:=T } ac sz tok 0 done 0 new=some (.list ei.size aV 0 (done++new),{ heap:=H,aA:=T' }))∧av T0 T' (done++new) aV:=by
 obtain⟨xr,hg⟩:=hg
 have hl:(aH done + aH new) * (ei.bytes + 1)≤140737488355328:=by
  rw [aq,aq]
  have:(done.length + new.length) * (ei.bytes + 1)≤1000000000 * 1001:=Nat.mul_le_mul (by omega) (by omega)
  omega
 have xt:done++new≠[]:=by simp [hne]
 have hq:done.isEmpty=true∨sz=ei.size:=by
  rcases hs with rfl | h
  ·exact .inl rfl
  ·exact .inr h
 rcases hg with rfl | ⟨t,rfl,h1,h2,h3⟩
 ·refine⟨cz T [aH done + aH new],.own (aH T),?_,⟨?_,?_⟩,.inr ⟨_,rfl,?_,?_,xt⟩⟩
  ·intro ac hac
   unfold kp
   rw [if_pos ⟨h0,hq,hl,hac⟩]
   simp [bM]
  ·rw [bM];have:=xr.1;simp;omega
  ·intro t v hv
   have:=xr.2 t v hv
   rw [bS] at this
   rw [bM,bS,List.getElem?_append_left (aGs this).1];exact this
  ·rw [aq];exact xr.1
  ·rw [bM,bS,aq (l:=T),List.getElem?_append_right (Nat.le_refl _),Nat.sub_self]
   simp [aq]
 ·have htl:t < T.length:=mM h2
  refine⟨tA T t (aH done + aH new),.own t,?_,⟨?_,?_⟩,.inr ⟨t,rfl,h1,?_,xt⟩⟩
  ·intro ac hac
   unfold kp
   rw [if_pos ⟨h0,hq,hl,hac⟩]
   show (if nth T t=some (aH done) then _ else none)=_
   rw [if_pos (by rw [h2,aq])]
   simp [bM]
  ·rw [fp,List.length_set];exact xr.1
  ·intro u v hv
   have hu:=mM hv
   rw [fp,bS,List.getElem?_set_ne (by omega),← bS]
   exact xr.2 u v hv
  ·rw [fp,bS,List.getElem?_set_self htl,aq,aq,aLa]
def sz1 {α:Type}:List α→Nat
 | []=>0
 | _::_=>1
def SzS (sz:Nat) (l:List (List UInt8)):Prop:=l=[]∨sz=1
theorem mn {H:List Blk} {T0 T:List Nat} {done new:List (List UInt8)} {tok bg:Tok} {sz sz2:Nat} (hlen:done.length + new.length < 1000000000) (hs:SzS sz done) (hs2:SzS sz2 new) (hne:new≠[]) (hg:m5 T0 T done tok) :
 ∃T' aV,(∀(A:Env) (ac:Acc),ac.heap=true→append Tryz.cfg A { heap:=H,aA:=T } ac 42 (.list sz tok 0 (done.map bQ)) (.list sz2 bg 0 (new.map bQ))=some (.list 1 aV 0 ((done++new).map bQ),{ heap:=H,aA:=T' }))∧av T0 T' (done++new) aV:=by
 have hw:m5 T0 T (done.map bQ) tok:=⟨hg.1,hg.2.imp id (fun⟨t,h1,h2,h3,h4⟩=>⟨t,h1,h2,by rw [aLm];exact h3,by simpa using h4⟩)⟩
 obtain⟨T',aV,h1,h2⟩:=xI (ei:=Tryz.ti9) (H:=H) (sz:=sz) (new:=new.map bQ) (by decide) (by decide) (by simpa using hlen) (hs.imp (fun h=>by rw [h];rfl) id) hw (by simpa using hne)
 rw [← List.map_append] at h1 h2
 refine⟨T',aV,?_,(av.map (List.map bQ) (fun l=>by simp)).1 h2⟩
 intro A ac hac
 have hr:gV A { heap:=H,aA:=T } ac 1 (.list sz2 bg 0 (new.map bQ))=some (0,new.map bQ):=by
  have hq:(new.map bQ).isEmpty=true∨sz2=1:=by
   rcases hs2 with h | h
   ·exact absurd h hne
   ·exact .inr h
  unfold gV
  exact if_pos hq
 have hf:(new.map bQ).isEmpty=false:=by cases new with | nil=>exact absurd rfl hne | cons a l=>rfl
 unfold append
 simp only [show Tryz.cfg.ti 42=some { kind:=.slice 9,size:=1,bytes:=24,zero:=[.list 0 .tight 0 []] } from rfl,show Tryz.cfg.ti 9=some Tryz.ti9 from rfl,show Tryz.ti9.size=1 from rfl,hr,hf,Bool.false_eq_true,if_false]
 exact h1 ac hac
theorem bsS (s:List UInt8):buildSlice Tryz.cfg 42 1 [(0,.str s)]=some (.list 1 .tight 0 ([s].map bQ)):=rfl
theorem sU {ss:List (List UInt8)} {sz:Nat} {tk:Tok} {j:Nat} {x:List UInt8} (hs:SzS sz ss) (h:ss[j]?=some x):indexAddr Tryz.cfg 42 (.list sz tk 0 (ss.map bQ)) (.int .i64 (.ofNat j))=some (.imm 0 [.str x]):=by
 have:sz=1:=by
  rcases hs with rfl | h'
  ·simp at h
  ·exact h'
 subst this
 exact dB (f:=fun s=>[V.str s]) (ei:=Tryz.ti9) rfl rfl h
noncomputable def bU:List UInt8:=[46,114,101,99]
noncomputable def nmI (i:In):List (List UInt8):=i.name::i.cs.map (·.name)
noncomputable def yD (i:In):List (List UInt8):=nmI i++[i.name++bU]
noncomputable def okN (s:List UInt8):Bool:=mL s && !iLt 28 (.ofNat (aH s))
noncomputable def mo (d:Dl):Bool:=(d.aj.all fun i=>(nmI i).all okN) && decide ((d.aj.flatMap yD).Nodup)
theorem h80 {n:Nat} {s:List UInt8} {S:St} (hs:s.length≤1000) (hn:1010≤n):RN n (.f 80) [.str s] S=some (.bool (mL s),S):=by
 obtain⟨m,rfl⟩:=up (show 1≤n by omega);exact qw m s S (by omega) (by omega)
theorem xJ {a b:List UInt8} (h:a.length + b.length≤10000):binOp Tryz.cfg .add 9 (.str a) (.str b)=some (.str (a++b)):=by
 show rl .add a b=_
 unfold rl
 simp only
 rw [if_pos (by omega)]
theorem JN {l:List (List UInt8)} {a b:Nat} {x:List UInt8} (hab:a < b) (ha:l[a]?=some x) (hb:l[b]?=some x):decide l.Nodup=false:=by
 rw [decide_eq_false_iff_not]
 intro hn
 obtain⟨h1,e1⟩:=aGs ha
 obtain⟨h2,e2⟩:=aGs hb
 have:=(List.pairwise_iff_getElem.1 hn) a b h1 h2 hab
 exact this (e1.trans e2.symm)
theorem HY {l:List (List UInt8)} (h:∀b < l.length,∀a < b,∀x y,l[a]?=some x→l[b]?=some y→x≠y):decide l.Nodup=true:=by
 rw [decide_eq_true_eq]
 refine List.pairwise_iff_getElem.2 fun a b h1 h2 hab=>h b h2 a hab _ _ (aGe h1) (aGe h2)
structure xK (d:Dl):Prop where
 few:d.aj.length≤10
 cs:∀i∈d.aj,i.cs.length≤20
 nm:∀i∈d.aj,i.name.length≤100∧∀c∈i.cs,c.name.length≤100
theorem GK {d:Dl} (h:xK d) (j:Nat):((d.aj.take j).flatMap yD).length≤250:=by
 have:=xH yD (d.aj.take j) 22 (fun y hy=>by have:=h.cs y (List.mem_of_mem_take hy);unfold yD nmI;simp;omega)
 rw [List.length_take] at this
 have h2:=h.few
 have:min j d.aj.length * 22≤10 * 22:=Nat.mul_le_mul (by omega) (by omega)
 omega
theorem ltS {ss:List (List UInt8)} {j:Nat} (h:j < ss.length):iLt (.ofNat j) (.ofNat (aH (ss.map bQ)))=true:=ltM h
theorem geS {ss:List (List UInt8)} {j:Nat} (h:¬j < ss.length):iLt (.ofNat j) (.ofNat (aH (ss.map bQ)))=false:=geM h
theorem h30 {n:Nat} {d:Dl} {S:St} (hd:xK d) (hn:1100≤n):RN n (.f 30) [eY d] S=some (.bool (mo d),S):=by
 obtain⟨k,rfl⟩:=up (show 1≤n by omega)
 have gQ:=hd.few
 have h:∃q,frame Tryz.cfg (RN k) k 30 [eY d] St.empty=some q∧(∃T',q=(.bool (mo d),{ heap:=[],aA:=T' })):=by
  refine aU (fn:=Tryz.f30) (p:=fun q=>∃T',q=(.bool (mo d),{ heap:=[],aA:=T' })) rfl rfl ?_
  refine aD.loop 100 (σ:=List (List UInt8)×Nat×Tok×List Nat) d.aj.length (fun j s=>{ nt:=100,tmps:=[(1,.ptr (.loc 1) 0),(3,.list s.2.1 s.2.2.1 0 (s.1.map bQ)),(4,.int .i64 (.ofNat j))],locs:=[(1,bK d)],fix:=[] })
   (fun _ s=>{ heap:=[],aA:=s.2.2.2 }) (fun j s=>s.1=(d.aj.take j).flatMap yD∧SzS s.2.1 s.1∧av [] s.2.2.2 s.1 s.2.2.1∧(d.aj.all fun i=>(nmI i).all okN)=((d.aj.drop j).all fun i=>(nmI i).all okN)) ([],0,.tight,[]) (by omega) ⟨rfl,.inl rfl,av.start [],rfl⟩ ?_ ?_
  ·rintro j ⟨l,sz,tok,T1⟩ hj ⟨(hl:l=_),(hsz:SzS sz l),(hg:av [] T1 l tok),ha⟩
   obtain⟨x,hx⟩ : ∃x,d.aj[j]?=some x:=⟨_,aGe hj⟩
   have hxm:=aMg hx
   have hxc:=hd.cs x hxm
   have hxn:=hd.nm x hxm
   have hll:=GK hd j
   rw [← hl] at hll
   rw [fz hx] at ha
   refine ah.yes (ltM hj) ?_
   refine ab.mk _ (aL hx) ?_
   refine ab.mk _ (bsS x.name) ?_
   refine aD.loop 100 (σ:=List (List UInt8)×Tok×List Nat) x.cs.length (fun i s=>{ nt:=100,tmps:=[(1,.ptr (.loc 1) 0),(3,.list sz tok 0 (l.map bQ)),(4,.int .i64 (.ofNat j)),(5,.list 1 s.2.1 0 (s.1.map bQ)),(6,.int .i64 (.ofNat i))],locs:=[(1,bK d)],fix:=[] })
    (fun _ s=>{ heap:=[],aA:=s.2.2 }) (fun i s=>s.1=x.name::(x.cs.take i).map (·.name)∧m5 T1 s.2.2 s.1 s.2.1) ([x.name],.tight,T1) (by omega) ⟨by simp,⟨jm.refl T1,.inl rfl⟩⟩ ?_ ?_
   ·rintro i ⟨m,eU,T3⟩ hi ⟨(hm:m=_),(hg3:m5 T1 T3 m eU)⟩
    obtain⟨y,hy⟩ : ∃y,x.cs[i]?=some y:=⟨_,aGe hi⟩
    have hml:m.length≤30:=by rw [hm];simp only [aLc,aLm,List.length_take];omega
    obtain⟨T4,qN,h3,h4⟩:=mn (H:=[]) (sz:=1) (sz2:=1) (bg:=.tight) (new:=[y.name]) (by simp only [aLc,List.length_nil];omega) (.inr rfl) (.inr rfl) (by simp) hg3
    refine ab.mk _ (aL hx) ?_
    refine ah.yes (ltM hi) ?_
    refine ab.mk _ (aL hx) ?_
    refine ab.mk _ (ec hy) ?_
    refine ab.mk _ (bsS y.name) ?_
    refine cj.mk _ _ (h3 _ _ rfl) ?_
    refine ab.mk _ (az (by omega)) ?_
    exact⟨(m++[y.name],qN,T4),⟨by rw [hm,map_take (·.name) x.cs i y hy];simp,h4.w⟩,rfl,rfl⟩
   ·rintro⟨m,eU,T3⟩ ⟨(hm:m=_),(hg3:m5 T1 T3 m eU)⟩
    rw [List.take_length] at hm
    have hm' : m=nmI x:=hm
    refine ab.mk _ (aL hx) ?_
    refine ah.no (geM (by omega)) ?_
    have hml:m.length≤30:=by rw [hm];simp only [aLc,aLm];omega
    have dM:∀s∈m,s.length≤100:=by
     rw [hm]
     intro s hs
     rcases List.mem_cons.1 hs with rfl | hs
     ·exact hxn.1
     ·obtain⟨c,hc,rfl⟩:=List.mem_map.1 hs
      exact hxn.2 c hc
    refine aD.loop 100 (σ:=Unit) m.length (fun i _=>{ nt:=100,tmps:=[(1,.ptr (.loc 1) 0),(3,.list sz tok 0 (l.map bQ)),(4,.int .i64 (.ofNat j)),(5,.list 1 eU 0 (m.map bQ)),(7,.int .i64 (.ofNat i))],locs:=[(1,bK d)],fix:=[] })
     (fun _ _=>{ heap:=[],aA:=T3 }) (fun i _=>(nmI x).all okN=(m.drop i).all okN) () (by omega) (by rw [hm'];rfl) ?_ ?_
    ·intro i _ hi hq
     obtain⟨s,hs⟩ : ∃y,m[i]?=some y:=⟨_,aGe hi⟩
     have hsl:=dM s (aMg hs)
     rw [fz hs] at hq
     refine ah.yes (ltS hi) ?_
     refine ab.mk _ (sU (.inr rfl) hs) ?_
     refine ae.mkB (h80 (by omega) (by omega)) (fun he=>?_) (fun he=>?_)
     ·refine ab.mk _ (sU (.inr rfl) hs) ?_
      refine ah.mk (fun hw=>?_) (fun hw=>?_)
      ·have ho:okN s=false:=by unfold okN;rw [he,hw];rfl
       rw [ho] at hq
       refine⟨_,rfl,T3,?_⟩
       unfold mo
       rw [ha,hq];rfl
      ·have ho:okN s=true:=by unfold okN;rw [he,hw];rfl
       rw [ho] at hq
       refine ab.mk _ (az (by omega)) ?_
       exact⟨(),hq,rfl,rfl⟩
     ·have ho:okN s=false:=by unfold okN;rw [he];rfl
      rw [ho] at hq
      refine⟨_,rfl,T3,?_⟩
      unfold mo
      rw [ha,hq];rfl
    ·intro _ hq
     rw [List.drop_length] at hq
     rw [hq] at ha
     refine ah.no (geS (by omega)) ?_
     have RP:m≠[]:=by rw [hm];simp
     obtain⟨T4,qN,h3,h4⟩:=mn (H:=[]) (sz:=sz) (sz2:=1) (bg:=eU) (new:=m) (by omega) hsz (.inr rfl) RP (hg.ext hg3.1).w
     have TP:(l++m).length≤300:=by rw [aLa];omega
     obtain⟨T5,cA,h5,h6⟩:=mn (H:=[]) (sz:=1) (sz2:=1) (bg:=.tight) (new:=[x.name++bU]) (by simp only [aLc,List.length_nil];omega) (.inr rfl) (.inr rfl) (by simp) h4.w
     refine cj.mk _ _ (h3 _ _ rfl) ?_
     refine ab.mk _ (aL hx) ?_
     refine ab.mk _ (xJ (b:=bU) (by have:=hxn.1;unfold bU;simp only [aLc,List.length_nil];omega)) ?_
     refine ab.mk _ (bsS _) ?_
     refine cj.mk _ _ (h5 _ _ rfl) ?_
     refine ab.mk _ (az (by omega)) ?_
     refine⟨(l++m++[x.name++bU],1,cA,T5),⟨?_,.inr rfl,h6,ha⟩,rfl,rfl⟩
     rw [zD yD d.aj j x hx,hl,hm']
     unfold yD;simp
  ·rintro⟨l,sz,tok,T1⟩ ⟨(hl:l=_),(hsz:SzS sz l),(hg:av [] T1 l tok),ha⟩
   have hll:=GK hd d.aj.length
   rw [← hl] at hll
   rw [List.take_length] at hl
   rw [List.drop_length] at ha
   refine ah.no (geM (by omega)) ?_
   refine aD.loop 100 (σ:=Unit) l.length (fun b _=>{ nt:=100,tmps:=[(3,.list sz tok 0 (l.map bQ)),(8,.int .i64 (.ofNat b))],locs:=[(1,bK d)],fix:=[] })
    (fun _ _=>{ heap:=[],aA:=T1 }) (fun b _=>∀b' < b,∀a < b',∀x y,l[a]?=some x→l[b']?=some y→x≠y) () (by omega) (fun b' h=>by omega) ?_ ?_
   ·intro b _ hb hP
    obtain⟨y,hy⟩ : ∃y,l[b]?=some y:=⟨_,aGe hb⟩
    refine ah.yes (ltS hb) ?_
    refine aD.loop 100 (σ:=Unit) b (fun a _=>{ nt:=100,tmps:=[(3,.list sz tok 0 (l.map bQ)),(8,.int .i64 (.ofNat b)),(9,.int .i64 (.ofNat a))],locs:=[(1,bK d)],fix:=[] })
     (fun _ _=>{ heap:=[],aA:=T1 }) (fun a _=>∀a' < a,∀x,l[a']?=some x→x≠y) () (by omega) (fun b' h=>by omega) ?_ ?_
    ·intro a _ hab hQ
     obtain⟨x,hx⟩ : ∃y,l[a]?=some y:=⟨_,aGe (by omega)⟩
     refine ah.yes (dj hab) ?_
     refine ab.mk _ (sU hsz hy) ?_
     refine ab.mk _ (sU hsz hx) ?_
     refine ab.mkB lf (fun he=>?_) (fun he=>?_)
     ·have he' : y=x:=by simpa using he
      subst he'
      refine⟨_,rfl,T1,?_⟩
      unfold mo
      rw [← hl,JN hab hx hy,Bool.and_false]
      rfl
     ·have he' : y≠x:=by simpa using he
      refine ab.mk _ (az (by omega)) ?_
      refine⟨(),fun a' ha' z hz=>?_,rfl,rfl⟩
      by_cases hq:a'=a
      ·subst hq;rw [hx] at hz;cases hz;exact fun e=>he' e.symm
      ·exact hQ a' (by omega) z hz
    ·intro _ hQ
     refine ah.no (eS (by omega)) ?_
     refine ab.mk _ (az (by omega)) ?_
     refine⟨(),fun b' hb' a hab x z hx hz=>?_,rfl,rfl⟩
     by_cases hq:b'=b
     ·subst hq;rw [hy] at hz;cases hz;exact hQ a hab x hx
     ·exact hP b' (by omega) a hab x z hx hz
   ·intro _ hP
    refine ah.no (geS (by omega)) ?_
    refine⟨_,rfl,T1,?_⟩
    unfold mo
    rw [ha,← hl,HY hP];rfl
 obtain⟨q,h1,T',rfl⟩:=h
 exact bC h1 (by simp only [ej,an]) rfl rfl rfl rfl rfl
noncomputable def nC (d:Dl) (fx:Nat) (x0 x:In):Bool:=
 iEq (al x.ty).2.k 1 && (!iLt (.ofNat (al x.ty).1.length) d.fixed && (!iLt 12 (.ofNat (al x.ty).1.length - d.fixed) && (!iLt (.ofNat (al x0.ty).1.length) d.fixed && (!gg d.aj (al x.ty).1 && oj fx (al x0.ty).1 (al x.ty).1))))
theorem h31 {n j fx:Nat} {d:Dl} {x0 x:In} {S:St} {W:Nat} (hd:pV d W) (h0:d.aj[0]?=some x0) (hx:d.aj[j]?=some x) (hfx:d.fixed=.ofNat fx) (hf:fx < 1000) (hn:3 * W + 1200≤n):RN n (.f 31) [eY d,.int .i64 (.ofNat j)] S=some (.bool (nC d fx x0 x),S):=by
 obtain⟨k,rfl⟩:=up (show 1≤n by omega)
 have hWm:=hd.qM
 have gQ:=hd.few
 obtain⟨a0,w0⟩:=hd.all x0 (aMg h0)
 obtain⟨a1,w1⟩:=hd.all x (aMg hx)
 obtain⟨q,h1,T1,tok,rfl,hg⟩:=h33 (n:=k) (x:=x0.ty) (H:=[]) (T:=[]) a0 (by omega) (by omega)
 obtain⟨q,h2,T2,bg,rfl,hg2⟩:=h33 (n:=k) (x:=x.ty) (H:=[]) (T:=T1) a1 (by omega) (by omega)
 obtain⟨p1,p2,p3⟩:=fy _ x0.ty (Nat.le_refl _) a0
 obtain⟨r1,r2,r3⟩:=fy _ x.ty (Nat.le_refl _) a1
 have h:∃q,frame Tryz.cfg (RN k) k 31 [eY d,.int .i64 (.ofNat j)] St.empty=some q∧q=(.bool (nC d fx x0 x),{ heap:=[],aA:=T2 }):=by
  refine aU (fn:=Tryz.f31) (p:=fun q=>q=(.bool (nC d fx x0 x),{ heap:=[],aA:=T2 })) rfl rfl ?_
  refine ab.mk _ (show indexAddr Tryz.cfg 26 (.list 7 .no 0 (d.aj.map encI)) (.int .i64 (.ofNat 0))=_ from aL h0) ?_
  refine ae.mk _ _ h1 ?_
  refine ab.mk _ (aL hx) ?_
  refine ae.mk _ _ h2 ?_
  unfold nC
  refine ah.mk (fun c1=>?_) (fun c1=>?_)
  ·have c1' : iEq (al x.ty).2.k 1=false:=by simpa using c1
   rw [c1'];exact⟨_,rfl,rfl⟩
  have c1' : iEq (al x.ty).2.k 1=true:=by simpa using c1
  refine ah.mk (fun c2=>?_) (fun c2=>?_)
  ·rw [ak] at c2
   rw [c1',c2];exact⟨_,rfl,rfl⟩
  rw [ak] at c2
  refine ab.mk (.int .i64 (.ofNat (al x.ty).1.length - d.fixed)) (by rw [ak];exact mB (by rw [hfx];simp only [aOn];omega) (by rw [hfx];simp only [aOn];omega)) ?_
  refine ah.mk (fun c3=>?_) (fun c3=>?_)
  ·rw [c1',c2,c3];exact⟨_,rfl,rfl⟩
  refine ah.mk (fun c4=>?_) (fun c4=>?_)
  ·rw [ak] at c4
   rw [c1',c2,c3,c4];exact⟨_,rfl,rfl⟩
  rw [ak] at c4
  refine ae.mkB (k37 (w:=W) (fun y hy=>by have:=(r3 y hy).2;omega) (by omega) (by omega) (by omega) (by omega)) (fun c5=>?_) (fun c5=>?_)
  ·rw [c1',c2,c3,c4,c5];exact⟨_,rfl,rfl⟩
  have l1:fx≤(al x.ty).1.length:=by
   rw [hfx,cm,decide_eq_false_iff_not] at c2
   simp only [aOn] at c2;omega
  have l0:fx≤(al x0.ty).1.length:=by
   rw [hfx,cm,decide_eq_false_iff_not] at c4
   simp only [aOn] at c4;omega
  have JO:=k81 (n:=k) (m:=fx) (c:=false) (c':=false) (tok:=tok) (aV:=bg) (S:={ heap:=[],aA:=T2 }) (w:=W) (xs:=(al x0.ty).1) (ys:=(al x.ty).1) (fun y hy=>⟨(p3 y hy).1,by have:=(p3 y hy).2;omega⟩) l0 l1 (by omega) (by omega) (by omega)
  rw [← hfx] at JO
  refine ae.mk _ _ JO ?_
  rw [c1',c2,c3,c4,c5]
  exact⟨_,rfl,rfl⟩
 obtain⟨q,h3,rfl⟩:=h
 exact bC h3 (by simp only [ej,bf,an]) rfl rfl rfl rfl rfl
noncomputable def mq (d:Dl) (fx:Nat) (x0:In) (at_:Nat) (t:Tm):Bool:=
 !iLt (.ofNat (al t).1.length) d.fixed && (!iLt 12 (.ofNat (al t).1.length - d.fixed) && (oj fx (al x0.ty).1 (al t).1 && iEq (cI d fx (al t).2 (.ofNat (al t).1.length)).1 (.ofNat at_)))
theorem h32 {n j fx p:Nat} {d:Dl} {x0:In} {t:Tm} {S:St} {W:Nat} (hd:pV d W) (hpi:∀i∈d.aj,fx≤(al i.ty).1.length) (h0:d.aj[0]?=some x0) (ht:dU t) (htw:wt t≤W) (hfx:d.fixed=.ofNat fx) (hpp:d.params=.ofNat p) (hf:fx < 1000) (hp:p < 1000) (hn:3 * W + 1200≤n) :
 RN n (.f 32) [eY d,.int .i64 (.ofNat j),aB t] S=some (.bool (mq d fx x0 j t),S):=by
 obtain⟨k,rfl⟩:=up (show 1≤n by omega)
 have hWm:=hd.qM
 have gQ:=hd.few
 obtain⟨a0,w0⟩:=hd.all x0 (aMg h0)
 have l0:=hpi x0 (aMg h0)
 obtain⟨q,h1,T1,tok,rfl,hg⟩:=h33 (n:=k) (x:=x0.ty) (H:=[]) (T:=[]) a0 (by omega) (by omega)
 obtain⟨q,h2,T2,bg,rfl,hg2⟩:=h33 (n:=k) (x:=t) (H:=[]) (T:=T1) ht (by omega) (by omega)
 obtain⟨p1,p2,p3⟩:=fy _ x0.ty (Nat.le_refl _) a0
 obtain⟨r1,r2,r3⟩:=fy _ t (Nat.le_refl _) ht
 have hbd:Bd (.ofNat (al t).1.length):=by unfold Bd;simp only [aOn];omega
 obtain⟨c,e,h3⟩:=h35 (n:=k) (S:={ heap:=[],aA:=T2 }) hd hpi r2 (by omega) hfx hpp hf hp hbd (by omega)
 have h:∃q,frame Tryz.cfg (RN k) k 32 [eY d,.int .i64 (.ofNat j),aB t] St.empty=some q∧q=(.bool (mq d fx x0 j t),{ heap:=[],aA:=T2 }):=by
  refine aU (fn:=Tryz.f32) (p:=fun q=>q=(.bool (mq d fx x0 j t),{ heap:=[],aA:=T2 })) rfl rfl ?_
  refine ab.mk _ (show indexAddr Tryz.cfg 26 (.list 7 .no 0 (d.aj.map encI)) (.int .i64 (.ofNat 0))=_ from aL h0) ?_
  refine ae.mk _ _ h1 ?_
  refine ae.mk _ _ h2 ?_
  unfold mq
  refine ah.mk (fun c2=>?_) (fun c2=>?_)
  ·rw [ak] at c2
   rw [c2];exact⟨_,rfl,rfl⟩
  rw [ak] at c2
  refine ab.mk (.int .i64 (.ofNat (al t).1.length - d.fixed)) (by rw [ak];exact mB (by rw [hfx];simp only [aOn];omega) (by rw [hfx];simp only [aOn];omega)) ?_
  refine ah.mk (fun c3=>?_) (fun c3=>?_)
  ·rw [c2,c3];exact⟨_,rfl,rfl⟩
  have l1:fx≤(al t).1.length:=by
   rw [hfx,cm,decide_eq_false_iff_not] at c2
   simp only [aOn] at c2;omega
  have JO:=k81 (n:=k) (m:=fx) (c:=false) (c':=false) (tok:=tok) (aV:=bg) (S:={ heap:=[],aA:=T2 }) (w:=W) (xs:=(al x0.ty).1) (ys:=(al t).1) (fun y hy=>⟨(p3 y hy).1,by have:=(p3 y hy).2;omega⟩) l0 l1 (by omega) (by omega) (by omega)
  rw [← hfx] at JO
  refine ae.mkB JO (fun c4=>?_) (fun c4=>?_)
  ·rw [c2,c3,c4]
   refine ae.mk _ _ (by rw [ak];exact h3) ?_
   refine ah.sym ?_
   exact⟨_,rfl,rfl⟩
  ·rw [c2,c3,c4];exact⟨_,rfl,rfl⟩
 obtain⟨q,h4,rfl⟩:=h
 exact bC h4 (by simp only [ej,bf,bh,an]) rfl rfl rfl rfl rfl
structure Sh where
 index:Int
 level:Lv
 fields:List (List (Int×Int))
noncomputable def gK (n:Nat):List V→V
 | []=>.list 0 .tight 0 []
 | r::rows=>.list n .no 0 (r::rows)
noncomputable def sV (fs:List (Int×Int)):V:=gK 2 (fs.map dw)
@[reducible] noncomputable def sW (s:Sh):List V:=[.int .i64 s.index,.int .i64 s.level.c,.int .i64 s.level.p0,.int .i64 s.level.p1,.int .i64 s.level.p2,.int .i64 s.level.p3,gK 1 (s.fields.map fun fs=>.agg [sV fs])]
@[reducible] noncomputable def bx (s:Sh):V:=.agg (sW s)
theorem gz {T0 T:List Nat} {rows:List V} {tok:Tok} {n:Nat} (h:av T0 T rows tok):ai (.list (szG n rows) tok 0 rows)=gK n rows:=by
 rcases h.2 with⟨rfl,rfl⟩ | ⟨t,rfl,_,_,h4⟩
 ·rfl
 ·cases rows with
  | nil=>exact absurd rfl h4
  | cons r rows=>rfl
theorem fj {α β:Type} {f:α→Option β}:∀{xs:List α} {j:Nat} {x:α} {l:List β} {y:β},xs[j]?=some x→bO f (xs.take j)=some l→f x=some y→bO f (xs.take (j + 1))=some (l++[y])
 | [],j,x,l,y,h,_,_=>by simp at h
 | a::xs,0,x,l,y,h,h1,h2=>by
  simp at h;subst h
  cases (show some ([]:List β)=some l from h1)
  rw [List.take_succ_cons,bT,h2];rfl
 | a::xs,j + 1,x,l,y,h,h1,h2=>by
  rw [List.take_succ_cons,bT] at h1
  obtain⟨b,m,k1,k2,rfl⟩:=cX h1
  rw [List.take_succ_cons,bT,k1,fj (by simpa using h) k2 h2]
  rfl
theorem gA {α β:Type} {f:α→Option β}:∀{xs:List α} {j:Nat} {x:α},xs[j]?=some x→f x=none→bO f xs=none
 | [],j,x,h,_=>by simp at h
 | a::xs,0,x,h,h2=>by
  simp at h;subst h
  rw [bT,h2];rfl
 | a::xs,j + 1,x,h,h2=>by
  rw [bT,gA (j:=j) (by simpa using h) h2]
  cases f a<;>rfl
noncomputable def iP (d:Dl) (fx:Nat) (l:List Tm):Option (List (Int×Int)):=
 bO (fun q:Tm×Nat=>match ct d fx q.1 (.ofNat q.2) with | (f,true)=>some f | (_,false)=>none) ((l.drop fx).zipIdx fx)
noncomputable def cd (d:Dl) (fx:Nat) (t:Tm):Option (List (Int×Int)):=match iP d fx (al t).1 with
 | some fs=>(match gg d.aj (cI d fx (al t).2 (.ofNat (al t).1.length)).2 || gg d.aj ((al t).1.take fx) with | true=>none | false=>some fs)
 | none=>none
noncomputable def JP (i:In):Lv:=((al i.ty).2.ls[0]?).getD HN
noncomputable def iX (d:Dl) (fx:Nat) (i:In):Option Sh:=match bO (fun c:Ct=>cd d fx c.ty) i.cs with
 | some fss=>some ⟨a6 d i,JP i,fss⟩
 | none=>none
noncomputable def gR (d:Dl) (fx:Nat):Option (List Sh):=bO (iX d fx) d.aj
theorem mr {LT sz by' : Nat} {z' : List V} {xs:List Tm} {c:Bool} {tok:Tok} {m:Nat} (hl:Tryz.cfg.ti LT=some { kind:=.slice 25,size:=sz,bytes:=by',zero:=z' }) (hm:m≤xs.length) :
 ∃c' aV,slice Tryz.cfg LT (.list (ao c xs) tok 0 (ag xs)) none (some (.int .i64 (.ofNat m))) none=some (.list (ao c' (xs.take m)) aV 0 (ag (xs.take m))):=by
 have hq:(ag xs).isEmpty=true∨ao c xs=Tryz.ti25.size:=by
  rcases jH c xs with rfl | h
  ·left;rw [ag];rfl
  ·right;rw [h];rfl
 have hd:ga 0 (takeN m (ag xs))=ag (xs.take m):=by
  rw [ez,fC,List.drop_zero,cZ,cZ,List.map_take]
 have hsz:∃c',ao c' (xs.take m)=ao c xs:=by
  cases xs with
  | nil=>exact⟨c,by simp⟩
  | cons b k=>
   refine⟨true,?_⟩
   cases (b::k).take m<;>rfl
 obtain⟨c',hc'⟩:=hsz
 refine⟨c',if tok=.tight∧m=aH (ag xs) then .tight else .no,?_⟩
 unfold slice
 have hb:bound (some (.int .i64 (.ofNat m)))=some (some m):=by simp [bound]
 have hb0:bound none=some none:=rfl
 rw [hb,hb0]
 simp only [hl]
 rw [show Tryz.cfg.ti 25=some Tryz.ti25 from rfl]
 simp only
 rw [if_pos hq]
 unfold lM
 simp only [Option.getD_some,Option.getD_none]
 rw [if_pos ⟨Nat.zero_le _,by rw [ak];exact hm⟩,hd,hc']
theorem EZ {l:List Tm} {fx i:Nat} {t:Tm} (h:l[fx + i]?=some t):((l.drop fx).zipIdx fx)[i]?=some (t,fx + i):=by
 rw [List.getElem?_zipIdx,List.getElem?_drop,h];rfl
@[reducible] noncomputable def j5 (i:Int) (l:Lv) (sz:Nat) (tok:Tok) (rows:List V):List V:=[.int .i64 i,.int .i64 l.c,.int .i64 l.p0,.int .i64 l.p1,.int .i64 l.p2,.int .i64 l.p3,.list sz tok 0 rows]
inductive Jk where
 | a
 | b (e:Tm) (ix:Int) (lv:Lv) (sz:Nat) (tok:Tok) (rows:List V) (o:Option (Tm×Option (Int×Int)))
theorem bsF (f:Int×Int):buildSlice Tryz.cfg 57 1 [(0,dw f)]=some (.list 2 .tight 0 [dw f]):=rfl
theorem HZ {T0 T:List Nat} {rows:List V} {tok:Tok} (h:av T0 T rows tok):buildSlice Tryz.cfg 52 1 [(0,.list (szG 2 rows) tok 0 rows)]=some (.list 1 .tight 0 [.agg [gK 2 rows]]):=by
 show some (V.list 1 .tight 0 [.agg [ai (.list (szG 2 rows) tok 0 rows)]])=_
 rw [gz h]
theorem vp {T0 T:List Nat} {rows:List V} {tok:Tok} (h:av T0 T rows tok) (i:Int) (l:Lv):buildSlice Tryz.cfg 39 1 [(0,.agg (j5 i l (szG 1 rows) tok rows))]=some (.list 7 .tight 0 [.agg [.int .i64 i,.int .i64 l.c,.int .i64 l.p0,.int .i64 l.p1,.int .i64 l.p2,.int .i64 l.p3,gK 1 rows]]):=by
 show some (V.list 7 .tight 0 [.agg [.int .i64 i,.int .i64 l.c,.int .i64 l.p0,.int .i64 l.p1,.int .i64 l.p2,.int .i64 l.p3,ai (.list (szG 1 rows) tok 0 rows)]])=_
 rw [gz h]
theorem zE {x:Tm} (h:dU x) (hk:iEq x.k 1=true):∃l,x.ls[0]?=some l:=by
 have hn:=((cp x).1 h).1
 unfold bm at hn
 simp only [Bool.and_eq_true] at hn
 have hl:=hn.2.2
 unfold lz at hl
 rw [hk] at hl
 simp only [cond_true,bW,decide_eq_true_eq,aq,aLm] at hl
 cases hx:x.ls with
 | nil=>rw [hx] at hl;simp at hl
 | cons a r=>exact⟨a,rfl⟩
noncomputable def PM:Code:=((qv (jP Tryz.f10 5))[0]?).getD .skip
noncomputable def RQ:Code:=((qv PM)[0]?).getD .skip
@[reducible] noncomputable def L9:Option (Int×Int)→List (Nat×List V)
  | none=>[]
  | some f=>[(23,[.int .i64 f.1,.int .i64 f.2])]
theorem eK {α β:Type} {f:α→Option β}:∀{xs:List α} {m:List β},bO f xs=some m→m.length=xs.length
 | [],m,h=>by cases h;rfl
 | a::xs,m,h=>by
  rw [bT] at h
  obtain⟨b,m',_,h2,rfl⟩:=cX h
  rw [aLc,aLc,eK h2]
theorem E4 (k:Nat) (d:Dl) (fx p:Nat) (l:List Tm) (so si:Nat) (to ti:Tok) (ro ri:List V) (ix:Int) (lv:Lv) (Ov:Nat) (JQ:Tok) (E6:List V) (e m:Tm) (j i:Nat) (tok:Tok) (o:Option (Int×Int)) (T0:List Nat) (K:Ex→Env→St→Prop) {W:Nat} (hd:pV d W) (hpi:∀i∈d.aj,fx≤(al i.ty).1.length)
 (hl:∀y∈l,dU y∧wt y≤W) (hlf:fx≤l.length) (hll:l.length≤100000000) (hfx:d.fixed=.ofNat fx) (hpp:d.params=.ofNat p) (hf:fx < 1000) (hp:p < 1000) (hk:3 * W + 1300≤k) (hkl:l.length < k)
 (hR:∀L T',iP d fx l=none→K .ret { nt:=278,tmps:=[(2,.list 0 .tight 0 []),(3,.int .i64 15)],locs:=L,fix:=[] } { heap:=[],aA:=T' })
 (hK:∀o' fs aV T',iP d fx l=some fs→av T0 T' (fs.map dw) aV→K (.exit 16) { nt:=278,tmps:=[(1,.ptr (.loc 1) 0),(11,.list so to 0 ro),(12,.int .i64 (.ofNat j)),(15,.ptr (.loc 15) 0),(16,.int .i64 (.ofNat i)),(17,.list (ao false l) tok 0 (ag l)),(20,.list si ti 0 ri),(21,.list (szG 2 (fs.map dw)) aV 0 (fs.map dw)),(22,.int .i64 (.ofNat l.length)),(237,.bool false)],locs:=(1,bK d)::(14,aC e)::(15,j5 ix lv Ov JQ E6)::(18,aC m)::L9 o',fix:=[] } { heap:=[],aA:=T' }) :
 aD (iter (evalCode Tryz.cfg (RN k) k 10 (Tryz.cfg.fc 10) RQ) k { nt:=278,tmps:=[(1,.ptr (.loc 1) 0),(11,.list so to 0 ro),(12,.int .i64 (.ofNat j)),(15,.ptr (.loc 15) 0),(16,.int .i64 (.ofNat i)),(17,.list (ao false l) tok 0 (ag l)),(20,.list si ti 0 ri),(21,.list 0 .tight 0 []),(22,.int .i64 d.fixed)],locs:=(1,bK d)::(14,aC e)::(15,j5 ix lv Ov JQ E6)::(18,aC m)::L9 o,fix:=[] } { heap:=[],aA:=T0 }) K:=by
 have hWm:=hd.qM
 have hzl:((l.drop fx).zipIdx fx).length=l.length - fx:=by simp
 rw [hfx]
 refine aD.loop 278 (σ:=Nat×Option (Int×Int)×List (Int×Int)×Tok×List Nat) (l.length - fx) (fun q s=>{ nt:=278,tmps:=[(1,.ptr (.loc 1) 0),(11,.list so to 0 ro),(12,.int .i64 (.ofNat j)),(15,.ptr (.loc 15) 0),(16,.int .i64 (.ofNat i)),(17,.list (ao false l) tok 0 (ag l)),(20,.list si ti 0 ri),(21,.list (szG 2 (s.2.2.1.map dw)) s.2.2.2.1 0 (s.2.2.1.map dw)),(22,.int .i64 (.ofNat s.1))],locs:=(1,bK d)::(14,aC e)::(15,j5 ix lv Ov JQ E6)::(18,aC m)::L9 s.2.1,fix:=[] })
  (fun _ s=>{ heap:=[],aA:=s.2.2.2.2 }) (fun q s=>s.1=fx + q∧bO (fun q:Tm×Nat=>match ct d fx q.1 (.ofNat q.2) with | (f,true)=>some f | (_,false)=>none) (((l.drop fx).zipIdx fx).take q)=some s.2.2.1∧av T0 s.2.2.2.2 (s.2.2.1.map dw) s.2.2.2.1) (fx,o,[],.tight,T0) (by omega) ⟨rfl,rfl,av.start T0⟩ ?_ ?_
 ·rintro q ⟨c,o1,fs,cR,T1⟩ hq ⟨(hc:c=fx + q),(hfs:bO _ _=some fs),(hg:av T0 T1 (fs.map dw) cR)⟩
  obtain⟨t,ht⟩ : ∃t,l[c]?=some t:=⟨_,aGe (by omega)⟩
  obtain⟨ht1,ht2⟩:=hl t (aMg ht)
  have hz:((l.drop fx).zipIdx fx)[q]?=some (t,fx + q):=EZ (by rw [← hc];exact ht)
  have hfl:fs.length≤100000000:=by
   have:=eK hfs
   rw [List.length_take,hzl] at this
   omega
  have Ma:=h36 (n:=k) (S:={ heap:=[],aA:=T1 }) (aa:=.ofNat c) hd hpi ht1 ht2 hfx hpp hf hp (by simp only [aOn];omega) (by omega)
  obtain⟨T2,bg,a1,a2⟩:=dm (LT:=57) (ET:=96) (ei:=Tryz.ti96) (H:=[]) (T0:=T0) (T:=T1) (done:=fs.map dw) (new:=[dw (ct d fx t (.ofNat c)).1]) (bg:=.tight) (sz2:=2) rfl rfl (by decide) (by decide) (by simp;omega) hg (.inr rfl)
  have e1:fs.map dw++[dw (ct d fx t (.ofNat c)).1]=(fs++[(ct d fx t (.ofNat c)).1]).map dw:=by simp
  rw [e1] at a1 a2
  have yW:iLt (.ofNat c) (.ofNat (aH (ag l)))=true:=gI (by omega)
  cases hb:(ct d fx t (.ofNat c)).2 with
  | false=>
   have gj:iP d fx l=none:=by
    unfold iP
    refine gA hz ?_
    rw [← hc]
    show (match ct d fx t (.ofNat c) with | (f,true)=>some f | (_,false)=>none)=none
    rw [show ct d fx t (.ofNat c)=((ct d fx t (.ofNat c)).1,(ct d fx t (.ofNat c)).2) from rfl,hb]
   rw [hb] at Ma
   cases o1
   all_goals
    refine ah.yes yW ?_
    refine ab.mk _ (bz ht) ?_
    refine ae.mk _ _ Ma ?_
    exact hR _ _ gj
  | true=>
   have qT:(match ct d fx t (.ofNat (fx + q)) with | (f,true)=>some f | (_,false)=>none)=some (ct d fx t (.ofNat c)).1:=by
    rw [← hc,show ct d fx t (.ofNat c)=((ct d fx t (.ofNat c)).1,(ct d fx t (.ofNat c)).2) from rfl,hb]
   rw [hb] at Ma
   have hnx:=fj hz hfs qT
   cases o1
   all_goals
    refine ah.yes yW ?_
    refine ab.mk _ (bz ht) ?_
    refine ae.mk _ _ Ma ?_
    refine ab.mk _ (bsF _) ?_
    refine cj.mk _ _ (a1 _ _ rfl) ?_
    refine ab.mk _ (az (by omega)) ?_
    exact⟨(c + 1,some (ct d fx t (.ofNat c)).1,fs++[(ct d fx t (.ofNat c)).1],bg,T2),⟨by rw [hc];rfl,hnx,a2⟩,rfl,rfl⟩
 ·rintro⟨c,o1,fs,cR,T1⟩ ⟨(hc:c=fx + (l.length - fx)),(hfs:bO _ _=some fs),(hg:av T0 T1 (fs.map dw) cR)⟩
  have hc' : c=l.length:=by omega
  subst hc'
  rw [List.take_of_length_le (by rw [hzl];omega)] at hfs
  rcases o1 with _ | f1
  ·refine ah.no (gJ (by omega)) ?_
   exact hK none fs cR T1 hfs hg
  ·refine ah.no (gJ (by omega)) ?_
   exact hK (some f1) fs cR T1 hfs hg
noncomputable def bp (fs:List (Int×Int)):V:=.agg [sV fs]
@[reducible] noncomputable def Mb:Option (Tm×Option (Int×Int))→List (Nat×List V)
  | none=>[]
  | some (m,o)=>(18,aC m)::L9 o
@[reducible] noncomputable def Jk.locs:Jk→List (Nat×List V)
  | .a=>[]
  | .b e ix lv sz tok rows o=>(14,aC e)::(15,j5 ix lv sz tok rows)::Mb o
theorem Bg (k:Nat) (d:Dl) (fx p:Nat) (x:In) (so:Nat) (to:Tok) (ro:List V) (ix:Int) (lv:Lv) (e:Tm) (j:Nat) (o:Option (Tm×Option (Int×Int))) (T0:List Nat) (K:Ex→Env→St→Prop) {W:Nat} (hx:d.aj[j]?=some x) (hd:pV d W) (hpi:∀i∈d.aj,fx≤(al i.ty).1.length)
 (hcs:x.cs.length≤20∧∀c∈x.cs,dU c.ty∧wt c.ty≤W∧fx≤(al c.ty).1.length) (hfx:d.fixed=.ofNat fx) (hpp:d.params=.ofNat p) (hf:fx < 1000) (hp:p < 1000) (hk:3 * W + 1300≤k)
 (hR:∀L T',bO (fun c:Ct=>cd d fx c.ty) x.cs=none→K .ret { nt:=278,tmps:=[(2,.list 0 .tight 0 []),(3,.int .i64 15)],locs:=L,fix:=[] } { heap:=[],aA:=T' })
 (hK:∀o' fss aV T',bO (fun c:Ct=>cd d fx c.ty) x.cs=some fss→av T0 T' (fss.map bp) aV→K (.exit 14) { nt:=278,tmps:=[(1,.ptr (.loc 1) 0),(11,.list so to 0 ro),(12,.int .i64 (.ofNat j)),(15,.ptr (.loc 15) 0),(16,.int .i64 (.ofNat x.cs.length)),(207,.bool false)],locs:=(1,bK d)::(14,aC e)::(15,j5 ix lv (szG 1 (fss.map bp)) aV (fss.map bp))::Mb o',fix:=[] } { heap:=[],aA:=T' }) :
 aD (iter (evalCode Tryz.cfg (RN k) k 10 (Tryz.cfg.fc 10) PM) k { nt:=278,tmps:=[(1,.ptr (.loc 1) 0),(11,.list so to 0 ro),(12,.int .i64 (.ofNat j)),(15,.ptr (.loc 15) 0),(16,.int .i64 0)],locs:=(1,bK d)::(14,aC e)::(15,j5 ix lv 0 .tight [])::Mb o,fix:=[] } { heap:=[],aA:=T0 }) K:=by
 have hWm:=hd.qM
 have gQ:=hd.few
 obtain⟨hc1,hc2⟩:=hcs
 refine aD.loop 278 (σ:=Option (Tm×Option (Int×Int))×List (List (Int×Int))×Tok×List Nat) x.cs.length (fun i s=>{ nt:=278,tmps:=[(1,.ptr (.loc 1) 0),(11,.list so to 0 ro),(12,.int .i64 (.ofNat j)),(15,.ptr (.loc 15) 0),(16,.int .i64 (.ofNat i))],locs:=(1,bK d)::(14,aC e)::(15,j5 ix lv (szG 1 (s.2.1.map bp)) s.2.2.1 (s.2.1.map bp))::Mb s.1,fix:=[] })
  (fun _ s=>{ heap:=[],aA:=s.2.2.2 }) (fun i s=>bO (fun c:Ct=>cd d fx c.ty) (x.cs.take i)=some s.2.1∧av T0 s.2.2.2 (s.2.1.map bp) s.2.2.1) (o,[],.tight,T0) (by omega) ⟨rfl,av.start T0⟩ ?_ ?_
 ·rintro i ⟨o1,fss,cR,T1⟩ hi ⟨(iB:_=some fss),(hg:av T0 T1 (fss.map bp) cR)⟩
  obtain⟨c,hc⟩ : ∃c,x.cs[i]?=some c:=⟨_,aGe hi⟩
  obtain⟨ca,cw,cf⟩:=hc2 c (aMg hc)
  have hfl:=eK iB
  rw [List.length_take] at hfl
  obtain⟨q,h1,T2,bg,rfl,hg2⟩:=h33 (n:=k) (x:=c.ty) (H:=[]) (T:=T1) ca (by omega) (by omega)
  obtain⟨p1,p2,p3⟩:=fy _ c.ty (Nat.le_refl _) ca
  obtain⟨cc,ce,h2⟩:=h35 (n:=k) (S:={ heap:=[],aA:=T2 }) (aa:=.ofNat (al c.ty).1.length) hd hpi p2 (by omega) hfx hpp hf hp (by unfold Bd;simp only [aOn];omega) (by omega)
  have hmm:=pW (d:=d) (fx:=fx) (aa:=.ofNat (al c.ty).1.length) p2
  have hml:=pX (d:=d) (fx:=fx) (aa:=.ofNat (al c.ty).1.length) p2
  have hcl:iLt (.ofNat i) (.ofNat (aH (x.cs.map fO)))=true:=ltM hi
  obtain⟨c',JR,hsl⟩:=mr (LT:=23) (c:=false) (tok:=bg) (m:=fx) rfl cf
  have rT : slice Tryz.cfg 23 (.list (ao false (al c.ty).1) bg 0 (ag (al c.ty).1)) none (some (.int .i64 d.fixed)) none=some (.list (ao c' ((al c.ty).1.take fx)) JR 0 (ag ((al c.ty).1.take fx))):=by rw [hfx];exact hsl
  have jM:∀(o2:Option (Int×Int)) (fs:List (Int×Int)) (eU:Tok) (T3:List Nat),iP d fx (al c.ty).1=some fs→av T2 T3 (fs.map dw) eU→
   (cd d fx c.ty=none∧(gg d.aj (cI d fx (al c.ty).2 (.ofNat (al c.ty).1.length)).2 || gg d.aj ((al c.ty).1.take fx))=true)∨
   (cd d fx c.ty=some fs∧(gg d.aj (cI d fx (al c.ty).2 (.ofNat (al c.ty).1.length)).2 || gg d.aj ((al c.ty).1.take fx))=false):=by
   intro o2 fs eU T3 hfs hg3
   unfold cd
   rw [hfs]
   cases hb:(gg d.aj (cI d fx (al c.ty).2 (.ofNat (al c.ty).1.length)).2 || gg d.aj ((al c.ty).1.take fx)) with
   | true=>exact .inl ⟨rfl,rfl⟩
   | false=>exact .inr ⟨rfl,rfl⟩
  have gj:cd d fx c.ty=none→bO (fun c:Ct=>cd d fx c.ty) x.cs=none:=fun h=>gA hc h
  have hw2:∀y∈(cI d fx (al c.ty).2 (.ofNat (al c.ty).1.length)).2,wt y≤W:=fun y hy=>by have:=(hmm y hy).2;omega
  have hw1:∀y∈(al c.ty).1.take fx,wt y≤W:=fun y hy=>by have:=(p3 y (List.mem_of_mem_take hy)).2;omega
  rcases o1 with _ | ⟨m1,_ | f1⟩
  ·refine ab.mk _ (aL hx) ?_
   refine ah.yes hcl ?_
   refine ab.mk _ (aL hx) ?_
   refine ab.mk _ (ec hc) ?_
   refine ae.mk _ _ h1 ?_
   refine ae.mk _ _ (by rw [ak];exact h2) ?_
   refine E4 k d fx p (al c.ty).1 so _ to _ ro _ ix lv _ _ _ e _ j i bg none T2 _ hd hpi (fun y hy=>⟨(p3 y hy).1,by have:=(p3 y hy).2;omega⟩) cf (by omega) hfx hpp hf hp hk (by omega) (fun L T' hn=>?_) (fun o' fs eU T3 hfs hg3=>?_)
   ·exact hR L T' (gj (by unfold cd;rw [hn]))
   ·have hg4:=(hg.ext hg2.1).ext hg3.1
    obtain⟨T5,cA,a1,a2⟩:=dm (LT:=52) (ET:=57) (ei:=Tryz.ti57) (H:=[]) (T0:=T0) (T:=T3) (done:=fss.map bp) (new:=[bp fs]) (bg:=.tight) (sz2:=1) rfl rfl (by decide) (by decide) (by simp;omega) hg4 (.inr rfl)
    have e1:fss.map bp++[bp fs]=(fss++[fs]).map bp:=by simp
    rw [e1] at a1 a2
    rcases jM none fs eU T3 hfs hg3 with⟨q1,q2⟩ | ⟨q1,q2⟩
    ·rcases o' with _ | f2
     ·refine ae.mkB (k37 (w:=W) hw2 (by omega) (by omega) (by omega) (by omega)) (fun b1=>?_) (fun b1=>?_)
      ·exact hR _ T3 (gj q1)
      ·refine ab.mk _ rT ?_
       refine ae.mkB (k37 (w:=W) hw1 (by have:=List.length_take_le fx (al c.ty).1;omega) (by omega) (by omega) (by have:=List.length_take_le fx (al c.ty).1;omega)) (fun b2=>?_) (fun b2=>?_)
       ·exact hR _ T3 (gj q1)
       ·rw [b1,b2] at q2;cases q2
     ·refine ae.mkB (k37 (w:=W) hw2 (by omega) (by omega) (by omega) (by omega)) (fun b1=>?_) (fun b1=>?_)
      ·exact hR _ T3 (gj q1)
      ·refine ab.mk _ rT ?_
       refine ae.mkB (k37 (w:=W) hw1 (by have:=List.length_take_le fx (al c.ty).1;omega) (by omega) (by omega) (by have:=List.length_take_le fx (al c.ty).1;omega)) (fun b2=>?_) (fun b2=>?_)
       ·exact hR _ T3 (gj q1)
       ·rw [b1,b2] at q2;cases q2
    ·have hnx:=fj hc iB q1
     rcases o' with _ | f2
     ·refine ae.mkB (k37 (w:=W) hw2 (by omega) (by omega) (by omega) (by omega)) (fun b1=>?_) (fun b1=>?_)
      ·rw [b1] at q2;cases q2
      ·refine ab.mk _ rT ?_
       refine ae.mkB (k37 (w:=W) hw1 (by have:=List.length_take_le fx (al c.ty).1;omega) (by omega) (by omega) (by have:=List.length_take_le fx (al c.ty).1;omega)) (fun b2=>?_) (fun b2=>?_)
       ·rw [b1,b2] at q2;cases q2
       ·refine ab.mk _ (HZ hg3) ?_
        refine cj.mk _ _ (a1 _ _ rfl) ?_
        refine ab.mk _ (az (by omega)) ?_
        exact⟨(some ((al c.ty).2,none),fss++[fs],cA,T5),⟨hnx,a2⟩,rfl,rfl⟩
     ·refine ae.mkB (k37 (w:=W) hw2 (by omega) (by omega) (by omega) (by omega)) (fun b1=>?_) (fun b1=>?_)
      ·rw [b1] at q2;cases q2
      ·refine ab.mk _ rT ?_
       refine ae.mkB (k37 (w:=W) hw1 (by have:=List.length_take_le fx (al c.ty).1;omega) (by omega) (by omega) (by have:=List.length_take_le fx (al c.ty).1;omega)) (fun b2=>?_) (fun b2=>?_)
       ·rw [b1,b2] at q2;cases q2
       ·refine ab.mk _ (HZ hg3) ?_
        refine cj.mk _ _ (a1 _ _ rfl) ?_
        refine ab.mk _ (az (by omega)) ?_
        exact⟨(some ((al c.ty).2,some f2),fss++[fs],cA,T5),⟨hnx,a2⟩,rfl,rfl⟩
  ·refine ab.mk _ (aL hx) ?_
   refine ah.yes hcl ?_
   refine ab.mk _ (aL hx) ?_
   refine ab.mk _ (ec hc) ?_
   refine ae.mk _ _ h1 ?_
   refine ae.mk _ _ (by rw [ak];exact h2) ?_
   refine E4 k d fx p (al c.ty).1 so _ to _ ro _ ix lv _ _ _ e _ j i bg none T2 _ hd hpi (fun y hy=>⟨(p3 y hy).1,by have:=(p3 y hy).2;omega⟩) cf (by omega) hfx hpp hf hp hk (by omega) (fun L T' hn=>?_) (fun o' fs eU T3 hfs hg3=>?_)
   ·exact hR L T' (gj (by unfold cd;rw [hn]))
   ·have hg4:=(hg.ext hg2.1).ext hg3.1
    obtain⟨T5,cA,a1,a2⟩:=dm (LT:=52) (ET:=57) (ei:=Tryz.ti57) (H:=[]) (T0:=T0) (T:=T3) (done:=fss.map bp) (new:=[bp fs]) (bg:=.tight) (sz2:=1) rfl rfl (by decide) (by decide) (by simp;omega) hg4 (.inr rfl)
    have e1:fss.map bp++[bp fs]=(fss++[fs]).map bp:=by simp
    rw [e1] at a1 a2
    rcases jM none fs eU T3 hfs hg3 with⟨q1,q2⟩ | ⟨q1,q2⟩
    ·rcases o' with _ | f2
     ·refine ae.mkB (k37 (w:=W) hw2 (by omega) (by omega) (by omega) (by omega)) (fun b1=>?_) (fun b1=>?_)
      ·exact hR _ T3 (gj q1)
      ·refine ab.mk _ rT ?_
       refine ae.mkB (k37 (w:=W) hw1 (by have:=List.length_take_le fx (al c.ty).1;omega) (by omega) (by omega) (by have:=List.length_take_le fx (al c.ty).1;omega)) (fun b2=>?_) (fun b2=>?_)
       ·exact hR _ T3 (gj q1)
       ·rw [b1,b2] at q2;cases q2
     ·refine ae.mkB (k37 (w:=W) hw2 (by omega) (by omega) (by omega) (by omega)) (fun b1=>?_) (fun b1=>?_)
      ·exact hR _ T3 (gj q1)
      ·refine ab.mk _ rT ?_
       refine ae.mkB (k37 (w:=W) hw1 (by have:=List.length_take_le fx (al c.ty).1;omega) (by omega) (by omega) (by have:=List.length_take_le fx (al c.ty).1;omega)) (fun b2=>?_) (fun b2=>?_)
       ·exact hR _ T3 (gj q1)
       ·rw [b1,b2] at q2;cases q2
    ·have hnx:=fj hc iB q1
     rcases o' with _ | f2
     ·refine ae.mkB (k37 (w:=W) hw2 (by omega) (by omega) (by omega) (by omega)) (fun b1=>?_) (fun b1=>?_)
      ·rw [b1] at q2;cases q2
      ·refine ab.mk _ rT ?_
       refine ae.mkB (k37 (w:=W) hw1 (by have:=List.length_take_le fx (al c.ty).1;omega) (by omega) (by omega) (by have:=List.length_take_le fx (al c.ty).1;omega)) (fun b2=>?_) (fun b2=>?_)
       ·rw [b1,b2] at q2;cases q2
       ·refine ab.mk _ (HZ hg3) ?_
        refine cj.mk _ _ (a1 _ _ rfl) ?_
        refine ab.mk _ (az (by omega)) ?_
        exact⟨(some ((al c.ty).2,none),fss++[fs],cA,T5),⟨hnx,a2⟩,rfl,rfl⟩
     ·refine ae.mkB (k37 (w:=W) hw2 (by omega) (by omega) (by omega) (by omega)) (fun b1=>?_) (fun b1=>?_)
      ·rw [b1] at q2;cases q2
      ·refine ab.mk _ rT ?_
       refine ae.mkB (k37 (w:=W) hw1 (by have:=List.length_take_le fx (al c.ty).1;omega) (by omega) (by omega) (by have:=List.length_take_le fx (al c.ty).1;omega)) (fun b2=>?_) (fun b2=>?_)
       ·rw [b1,b2] at q2;cases q2
       ·refine ab.mk _ (HZ hg3) ?_
        refine cj.mk _ _ (a1 _ _ rfl) ?_
        refine ab.mk _ (az (by omega)) ?_
        exact⟨(some ((al c.ty).2,some f2),fss++[fs],cA,T5),⟨hnx,a2⟩,rfl,rfl⟩
  ·refine ab.mk _ (aL hx) ?_
   refine ah.yes hcl ?_
   refine ab.mk _ (aL hx) ?_
   refine ab.mk _ (ec hc) ?_
   refine ae.mk _ _ h1 ?_
   refine ae.mk _ _ (by rw [ak];exact h2) ?_
   refine E4 k d fx p (al c.ty).1 so _ to _ ro _ ix lv _ _ _ e _ j i bg (some f1) T2 _ hd hpi (fun y hy=>⟨(p3 y hy).1,by have:=(p3 y hy).2;omega⟩) cf (by omega) hfx hpp hf hp hk (by omega) (fun L T' hn=>?_) (fun o' fs eU T3 hfs hg3=>?_)
   ·exact hR L T' (gj (by unfold cd;rw [hn]))
   ·have hg4:=(hg.ext hg2.1).ext hg3.1
    obtain⟨T5,cA,a1,a2⟩:=dm (LT:=52) (ET:=57) (ei:=Tryz.ti57) (H:=[]) (T0:=T0) (T:=T3) (done:=fss.map bp) (new:=[bp fs]) (bg:=.tight) (sz2:=1) rfl rfl (by decide) (by decide) (by simp;omega) hg4 (.inr rfl)
    have e1:fss.map bp++[bp fs]=(fss++[fs]).map bp:=by simp
    rw [e1] at a1 a2
    rcases jM none fs eU T3 hfs hg3 with⟨q1,q2⟩ | ⟨q1,q2⟩
    ·rcases o' with _ | f2
     ·refine ae.mkB (k37 (w:=W) hw2 (by omega) (by omega) (by omega) (by omega)) (fun b1=>?_) (fun b1=>?_)
      ·exact hR _ T3 (gj q1)
      ·refine ab.mk _ rT ?_
       refine ae.mkB (k37 (w:=W) hw1 (by have:=List.length_take_le fx (al c.ty).1;omega) (by omega) (by omega) (by have:=List.length_take_le fx (al c.ty).1;omega)) (fun b2=>?_) (fun b2=>?_)
       ·exact hR _ T3 (gj q1)
       ·rw [b1,b2] at q2;cases q2
     ·refine ae.mkB (k37 (w:=W) hw2 (by omega) (by omega) (by omega) (by omega)) (fun b1=>?_) (fun b1=>?_)
      ·exact hR _ T3 (gj q1)
      ·refine ab.mk _ rT ?_
       refine ae.mkB (k37 (w:=W) hw1 (by have:=List.length_take_le fx (al c.ty).1;omega) (by omega) (by omega) (by have:=List.length_take_le fx (al c.ty).1;omega)) (fun b2=>?_) (fun b2=>?_)
       ·exact hR _ T3 (gj q1)
       ·rw [b1,b2] at q2;cases q2
    ·have hnx:=fj hc iB q1
     rcases o' with _ | f2
     ·refine ae.mkB (k37 (w:=W) hw2 (by omega) (by omega) (by omega) (by omega)) (fun b1=>?_) (fun b1=>?_)
      ·rw [b1] at q2;cases q2
      ·refine ab.mk _ rT ?_
       refine ae.mkB (k37 (w:=W) hw1 (by have:=List.length_take_le fx (al c.ty).1;omega) (by omega) (by omega) (by have:=List.length_take_le fx (al c.ty).1;omega)) (fun b2=>?_) (fun b2=>?_)
       ·rw [b1,b2] at q2;cases q2
       ·refine ab.mk _ (HZ hg3) ?_
        refine cj.mk _ _ (a1 _ _ rfl) ?_
        refine ab.mk _ (az (by omega)) ?_
        exact⟨(some ((al c.ty).2,none),fss++[fs],cA,T5),⟨hnx,a2⟩,rfl,rfl⟩
     ·refine ae.mkB (k37 (w:=W) hw2 (by omega) (by omega) (by omega) (by omega)) (fun b1=>?_) (fun b1=>?_)
      ·rw [b1] at q2;cases q2
      ·refine ab.mk _ rT ?_
       refine ae.mkB (k37 (w:=W) hw1 (by have:=List.length_take_le fx (al c.ty).1;omega) (by omega) (by omega) (by have:=List.length_take_le fx (al c.ty).1;omega)) (fun b2=>?_) (fun b2=>?_)
       ·rw [b1,b2] at q2;cases q2
       ·refine ab.mk _ (HZ hg3) ?_
        refine cj.mk _ _ (a1 _ _ rfl) ?_
        refine ab.mk _ (az (by omega)) ?_
        exact⟨(some ((al c.ty).2,some f2),fss++[fs],cA,T5),⟨hnx,a2⟩,rfl,rfl⟩
 ·rintro⟨o1,fss,cR,T1⟩ ⟨(iB:_=some fss),(hg:av T0 T1 (fss.map bp) cR)⟩
  rw [List.take_length] at iB
  rcases o1 with _ | ⟨m1,_ | f1⟩
  ·refine ab.mk _ (aL hx) ?_
   refine ah.no (geM (by omega)) ?_
   exact hK none fss cR T1 iB hg
  ·refine ab.mk _ (aL hx) ?_
   refine ah.no (geM (by omega)) ?_
   exact hK (some (m1,none)) fss cR T1 iB hg
  ·refine ab.mk _ (aL hx) ?_
   refine ah.no (geM (by omega)) ?_
   exact hK (some (m1,some f1)) fss cR T1 iB hg
structure Mc (d:Dl) (fx W:Nat):Prop where
 cs:∀i∈d.aj,i.cs.length≤20∧∀c∈i.cs,dU c.ty∧wt c.ty≤W∧fx≤(al c.ty).1.length
 pi:∀i∈d.aj,fx≤(al i.ty).1.length
 so:∀i∈d.aj,iEq (al i.ty).2.k 1=true
noncomputable def RR:Code:=jP Tryz.f10 5
theorem E7 (k:Nat) (d:Dl) (fx p:Nat) (T:List Nat) (K:Ex→Env→St→Prop) {W:Nat} (hd:pV d W) (hc:Mc d fx W)
 (hfx:d.fixed=.ofNat fx) (hpp:d.params=.ofNat p) (hf:fx < 1000) (hp:p < 1000) (hk:3 * W + 1300≤k)
 (hR:∀L T',gR d fx=none→K .ret { nt:=278,tmps:=[(2,.list 0 .tight 0 []),(3,.int .i64 15)],locs:=L,fix:=[] } { heap:=[],aA:=T' })
 (hK:∀J out tok T',gR d fx=some out→av [] T' (out.map bx) tok→K (.exit 12) { nt:=278,tmps:=[(1,.ptr (.loc 1) 0),(11,.list (szG 7 (out.map bx)) tok 0 (out.map bx)),(12,.int .i64 (.ofNat d.aj.length)),(178,.bool false)],locs:=(1,bK d)::Jk.locs J,fix:=[] } { heap:=[],aA:=T' }) :
 aD (iter (evalCode Tryz.cfg (RN k) k 10 (Tryz.cfg.fc 10) RR) k { nt:=278,tmps:=[(1,.ptr (.loc 1) 0),(11,.list 0 .tight 0 []),(12,.int .i64 0)],locs:=[(1,bK d)],fix:=[] } { heap:=[],aA:=T }) K:=by
 have hWm:=hd.qM
 have gQ:=hd.few
 have hT0:∀T:List Nat,jm [] T:=fun T=>⟨Nat.zero_le _,fun t v h=>by rw [bS] at h;simp at h⟩
 refine aD.loop 278 (σ:=Jk×List Sh×Tok×List Nat) d.aj.length (fun j s=>{ nt:=278,tmps:=[(1,.ptr (.loc 1) 0),(11,.list (szG 7 (s.2.1.map bx)) s.2.2.1 0 (s.2.1.map bx)),(12,.int .i64 (.ofNat j))],locs:=(1,bK d)::s.1.locs,fix:=[] })
  (fun _ s=>{ heap:=[],aA:=s.2.2.2 }) (fun j s=>bO (iX d fx) (d.aj.take j)=some s.2.1∧av [] s.2.2.2 (s.2.1.map bx) s.2.2.1) (.a,[],.tight,T) (by omega) ⟨rfl,⟨hT0 T,.inl ⟨rfl,rfl⟩⟩⟩ ?_ ?_
 ·rintro j ⟨J,out,tok,T1⟩ hj ⟨(gU:bO (iX d fx) (d.aj.take j)=some out),(hg:av [] T1 (out.map bx) tok)⟩
  obtain⟨x,hx⟩ : ∃x,d.aj[j]?=some x:=⟨_,aGe hj⟩
  have hxm:=aMg hx
  obtain⟨hxa,hxw⟩:=hd.all x hxm
  have hxc:=hc.cs x hxm
  obtain⟨lv,hlv⟩:=zE (fy _ x.ty (Nat.le_refl _) hxa).2.1 (hc.so x hxm)
  have Ow:JP x=lv:=by unfold JP;rw [hlv];rfl
  have hol:=eK gU
  rw [List.length_take] at hol
  obtain⟨q,h1,T2,bg,rfl,hg2⟩:=h33 (n:=k) (x:=x.ty) (H:=[]) (T:=T1) hxa (by omega) (by omega)
  have hg':=hg.ext hg2.1
  have Md:=h34 (n:=k) (S:={ heap:=[],aA:=T2 }) hx hxa (by omega) (by omega) (by rw [hfx];unfold Bd;simp only [aOn];omega)
  have hii:indexAddr Tryz.cfg 22 (.list (ao (al x.ty).2.a (al x.ty).2.ls) (aw (al x.ty).2.b) 0 ((al x.ty).2.ls.map enc)) (.int .i64 (.ofNat 0))=_:=sT hlv
  have gj:bO (fun c:Ct=>cd d fx c.ty) x.cs=none→gR d fx=none:=fun h=>gA hx (by unfold iX;rw [h])
  have dN:∀(fss:List (List (Int×Int))) aV T',bO (fun c:Ct=>cd d fx c.ty) x.cs=some fss→av T2 T' (fss.map bp) aV→
   ∃T5 cA,(∀(A:Env) (ac:Acc),ac.heap=true→append Tryz.cfg A { heap:=[],aA:=T' } ac 39 (.list (szG 7 (out.map bx)) tok 0 (out.map bx)) (.list 7 .tight 0 [bx (Sh.mk (a6 d x) lv fss)])=some (.list (szG 7 ((out++[(Sh.mk (a6 d x) lv fss)]).map bx)) cA 0 ((out++[(Sh.mk (a6 d x) lv fss)]).map bx),{ heap:=[],aA:=T5 }))∧
    av [] T5 ((out++[(Sh.mk (a6 d x) lv fss)]).map bx) cA∧bO (iX d fx) (d.aj.take (j + 1))=some (out++[(Sh.mk (a6 d x) lv fss)]):=by
   intro fss aV T' iB hg3
   obtain⟨T5,cA,a1,a2⟩:=dm (LT:=39) (ET:=54) (ei:=Tryz.ti54) (H:=[]) (T0:=[]) (T:=T') (done:=out.map bx) (new:=[bx (Sh.mk (a6 d x) lv fss)]) (bg:=.tight) (sz2:=7) rfl rfl (by decide) (by decide) (by simp;omega) (hg'.ext hg3.1) (.inr rfl)
   have e1:out.map bx++[bx (Sh.mk (a6 d x) lv fss)]=(out++[(Sh.mk (a6 d x) lv fss)]).map bx:=by simp
   rw [e1] at a1 a2
   refine⟨T5,cA,a1,a2,fj hx gU ?_⟩
   unfold iX
   rw [iB,Ow]
  rcases J with _ | ⟨e0,i0,l0,z0,k0,r0,_ | ⟨m0,_ | f0⟩⟩
  ·refine ah.yes (ltM hj) ?_
   refine ab.mk _ (aL hx) ?_
   refine ae.mk _ _ h1 ?_
   refine ae.mk _ _ Md ?_
   refine ab.mk _ hii ?_
   refine Bg k d fx p x _ _ _ (a6 d x) lv (al x.ty).2 j none T2 _ hx hd hc.pi hxc hfx hpp hf hp hk (fun L T' hn=>hR L T' (gj hn)) (fun o' fss aV T' iB hg3=>?_)
   obtain⟨T5,cA,a1,a2,a3⟩:=dN fss aV T' iB hg3
   rcases o' with _ | ⟨m',_ | f'⟩
   ·refine ab.mk _ (vp hg3 _ _) ?_
    refine cj.mk _ _ (a1 _ _ rfl) ?_
    refine ab.mk _ (az (by omega)) ?_
    exact⟨(.b (al x.ty).2 (a6 d x) lv (szG 1 (fss.map bp)) aV (fss.map bp) none,out++[Sh.mk (a6 d x) lv fss],cA,T5),⟨a3,a2⟩,rfl,rfl⟩
   ·refine ab.mk _ (vp hg3 _ _) ?_
    refine cj.mk _ _ (a1 _ _ rfl) ?_
    refine ab.mk _ (az (by omega)) ?_
    exact⟨(.b (al x.ty).2 (a6 d x) lv (szG 1 (fss.map bp)) aV (fss.map bp) (some (m',none)),out++[Sh.mk (a6 d x) lv fss],cA,T5),⟨a3,a2⟩,rfl,rfl⟩
   ·refine ab.mk _ (vp hg3 _ _) ?_
    refine cj.mk _ _ (a1 _ _ rfl) ?_
    refine ab.mk _ (az (by omega)) ?_
    exact⟨(.b (al x.ty).2 (a6 d x) lv (szG 1 (fss.map bp)) aV (fss.map bp) (some (m',some f')),out++[Sh.mk (a6 d x) lv fss],cA,T5),⟨a3,a2⟩,rfl,rfl⟩
  ·refine ah.yes (ltM hj) ?_
   refine ab.mk _ (aL hx) ?_
   refine ae.mk _ _ h1 ?_
   refine ae.mk _ _ Md ?_
   refine ab.mk _ hii ?_
   refine Bg k d fx p x _ _ _ (a6 d x) lv (al x.ty).2 j none T2 _ hx hd hc.pi hxc hfx hpp hf hp hk (fun L T' hn=>hR L T' (gj hn)) (fun o' fss aV T' iB hg3=>?_)
   obtain⟨T5,cA,a1,a2,a3⟩:=dN fss aV T' iB hg3
   rcases o' with _ | ⟨m',_ | f'⟩
   ·refine ab.mk _ (vp hg3 _ _) ?_
    refine cj.mk _ _ (a1 _ _ rfl) ?_
    refine ab.mk _ (az (by omega)) ?_
    exact⟨(.b (al x.ty).2 (a6 d x) lv (szG 1 (fss.map bp)) aV (fss.map bp) none,out++[Sh.mk (a6 d x) lv fss],cA,T5),⟨a3,a2⟩,rfl,rfl⟩
   ·refine ab.mk _ (vp hg3 _ _) ?_
    refine cj.mk _ _ (a1 _ _ rfl) ?_
    refine ab.mk _ (az (by omega)) ?_
    exact⟨(.b (al x.ty).2 (a6 d x) lv (szG 1 (fss.map bp)) aV (fss.map bp) (some (m',none)),out++[Sh.mk (a6 d x) lv fss],cA,T5),⟨a3,a2⟩,rfl,rfl⟩
   ·refine ab.mk _ (vp hg3 _ _) ?_
    refine cj.mk _ _ (a1 _ _ rfl) ?_
    refine ab.mk _ (az (by omega)) ?_
    exact⟨(.b (al x.ty).2 (a6 d x) lv (szG 1 (fss.map bp)) aV (fss.map bp) (some (m',some f')),out++[Sh.mk (a6 d x) lv fss],cA,T5),⟨a3,a2⟩,rfl,rfl⟩
  ·refine ah.yes (ltM hj) ?_
   refine ab.mk _ (aL hx) ?_
   refine ae.mk _ _ h1 ?_
   refine ae.mk _ _ Md ?_
   refine ab.mk _ hii ?_
   refine Bg k d fx p x _ _ _ (a6 d x) lv (al x.ty).2 j (some (m0,none)) T2 _ hx hd hc.pi hxc hfx hpp hf hp hk (fun L T' hn=>hR L T' (gj hn)) (fun o' fss aV T' iB hg3=>?_)
   obtain⟨T5,cA,a1,a2,a3⟩:=dN fss aV T' iB hg3
   rcases o' with _ | ⟨m',_ | f'⟩
   ·refine ab.mk _ (vp hg3 _ _) ?_
    refine cj.mk _ _ (a1 _ _ rfl) ?_
    refine ab.mk _ (az (by omega)) ?_
    exact⟨(.b (al x.ty).2 (a6 d x) lv (szG 1 (fss.map bp)) aV (fss.map bp) none,out++[Sh.mk (a6 d x) lv fss],cA,T5),⟨a3,a2⟩,rfl,rfl⟩
   ·refine ab.mk _ (vp hg3 _ _) ?_
    refine cj.mk _ _ (a1 _ _ rfl) ?_
    refine ab.mk _ (az (by omega)) ?_
    exact⟨(.b (al x.ty).2 (a6 d x) lv (szG 1 (fss.map bp)) aV (fss.map bp) (some (m',none)),out++[Sh.mk (a6 d x) lv fss],cA,T5),⟨a3,a2⟩,rfl,rfl⟩
   ·refine ab.mk _ (vp hg3 _ _) ?_
    refine cj.mk _ _ (a1 _ _ rfl) ?_
    refine ab.mk _ (az (by omega)) ?_
    exact⟨(.b (al x.ty).2 (a6 d x) lv (szG 1 (fss.map bp)) aV (fss.map bp) (some (m',some f')),out++[Sh.mk (a6 d x) lv fss],cA,T5),⟨a3,a2⟩,rfl,rfl⟩
  ·refine ah.yes (ltM hj) ?_
   refine ab.mk _ (aL hx) ?_
   refine ae.mk _ _ h1 ?_
   refine ae.mk _ _ Md ?_
   refine ab.mk _ hii ?_
   refine Bg k d fx p x _ _ _ (a6 d x) lv (al x.ty).2 j (some (m0,some f0)) T2 _ hx hd hc.pi hxc hfx hpp hf hp hk (fun L T' hn=>hR L T' (gj hn)) (fun o' fss aV T' iB hg3=>?_)
   obtain⟨T5,cA,a1,a2,a3⟩:=dN fss aV T' iB hg3
   rcases o' with _ | ⟨m',_ | f'⟩
   ·refine ab.mk _ (vp hg3 _ _) ?_
    refine cj.mk _ _ (a1 _ _ rfl) ?_
    refine ab.mk _ (az (by omega)) ?_
    exact⟨(.b (al x.ty).2 (a6 d x) lv (szG 1 (fss.map bp)) aV (fss.map bp) none,out++[Sh.mk (a6 d x) lv fss],cA,T5),⟨a3,a2⟩,rfl,rfl⟩
   ·refine ab.mk _ (vp hg3 _ _) ?_
    refine cj.mk _ _ (a1 _ _ rfl) ?_
    refine ab.mk _ (az (by omega)) ?_
    exact⟨(.b (al x.ty).2 (a6 d x) lv (szG 1 (fss.map bp)) aV (fss.map bp) (some (m',none)),out++[Sh.mk (a6 d x) lv fss],cA,T5),⟨a3,a2⟩,rfl,rfl⟩
   ·refine ab.mk _ (vp hg3 _ _) ?_
    refine cj.mk _ _ (a1 _ _ rfl) ?_
    refine ab.mk _ (az (by omega)) ?_
    exact⟨(.b (al x.ty).2 (a6 d x) lv (szG 1 (fss.map bp)) aV (fss.map bp) (some (m',some f')),out++[Sh.mk (a6 d x) lv fss],cA,T5),⟨a3,a2⟩,rfl,rfl⟩
 ·rintro⟨J,out,tok,T1⟩ ⟨(gU:bO (iX d fx) (d.aj.take d.aj.length)=some out),(hg:av [] T1 (out.map bx) tok)⟩
  rw [List.take_length] at gU
  rcases J with _ | ⟨e0,i0,l0,z0,k0,r0,_ | ⟨m0,_ | f0⟩⟩
  ·refine ah.no (geM (by omega)) ?_
   exact hK .a out tok T1 gU hg
  ·refine ah.no (geM (by omega)) ?_
   exact hK (.b e0 i0 l0 z0 k0 r0 none) out tok T1 gU hg
  ·refine ah.no (geM (by omega)) ?_
   exact hK (.b e0 i0 l0 z0 k0 r0 (some (m0,none))) out tok T1 gU hg
  ·refine ah.no (geM (by omega)) ?_
   exact hK (.b e0 i0 l0 z0 k0 r0 (some (m0,some f0))) out tok T1 gU hg
noncomputable def iF (d:Dl):Bool:=iEq d.kind 4 && (decide (d.name=[]) && (dz d.ty zTm && (dz d.val zTm && (!iLt d.fixed 0 && (!iLt 12 d.fixed && (!iLt (.ofNat d.aj.length) 1 && !iLt 3 (.ofNat d.aj.length)))))))
noncomputable def Bh (d:Dl):Bool:=d.aj.all fun i=>!iLt 8 (.ofNat i.cs.length)
noncomputable def ic (t:Tm):Bool:=cL t && !iLt 0 (jE t 0)
noncomputable def ub (d:Dl):Bool:=!iLt d.params 0 && iLt d.params 4
noncomputable def fxN (d:Dl):Nat:=d.fixed.toNat
noncomputable def pN (d:Dl):Nat:=d.params.toNat
noncomputable def in0 (d:Dl):In:=(d.aj[0]?).getD ⟨[],zTm,[]⟩
noncomputable def pY (d:Dl):Bool:=d.aj.all (nC d (fxN d) (in0 d))
noncomputable def pZ (d:Dl):Bool:=(d.aj.zipIdx 0).all fun q=>q.1.cs.all fun c=>mq d (fxN d) (in0 d) q.2 c.ty
noncomputable def ofR (d:Dl):List Sh×Int:=
 match iF d && (Bh d && (bZ d).all ic) with
 | false=>([],1)
 | true=>match ub d && (bZ d).all (fun t=>!hiT (pN d) t) with
  | false=>([],8)
  | true=>match mo d with
   | false=>([],5)
   | true=>match pY d && pZ d with
    | false=>([],14)
    | true=>match gR d (fxN d) with
     | none=>([],15)
     | some l=>(l,0)
def OfQ (d:Dl) (q:V×St):Prop:=∃T' tok,q=(.tuple [.list (szG 7 ((ofR d).1.map bx)) tok 0 ((ofR d).1.map bx),.int .i64 (ofR d).2],{ heap:=[],aA:=T' })∧av [] T' ((ofR d).1.map bx) tok
theorem E8 (T:List Nat):jm [] T:=⟨Nat.zero_le _,fun t v h=>by rw [bS] at h;simp at h⟩
theorem oq {d:Dl} {e:Int} (h:ofR d=([],e)) (T' : List Nat):OfQ d (.tuple [.list 0 .tight 0 [],.int .i64 e],{ heap:=[],aA:=T' }):=by
 unfold OfQ
 rw [h]
 exact⟨T',.tight,rfl,⟨E8 T',.inl ⟨rfl,rfl⟩⟩⟩
structure qO (d:Dl) (W:Nat):Prop where
 nm:xK d
 ty:∀t∈bZ d,Sm t∧eu t < 1000000000∧wt t≤W
 dty:Sm d.ty∧eu d.ty < 1000000000∧wt d.ty≤W
 H0:Sm d.val∧eu d.val < 1000000000∧wt d.val≤W
theorem H2 {d:Dl} (h:xK d):(bZ d).length≤210:=by
 have:=xH oo d.aj 21 (fun y hy=>by have:=h.cs y hy;unfold oo;simp;omega)
 have h2:=h.few
 have:d.aj.length * 21≤10 * 21:=Nat.mul_le_mul (by omega) (by omega)
 unfold bZ;omega
theorem dS {d:Dl} {i:In} (hi:i∈d.aj):i.ty∈bZ d∧∀c∈i.cs,c.ty∈bZ d:=
 ⟨List.mem_flatMap.2 ⟨i,hi,by unfold oo;simp⟩,fun c hc=>List.mem_flatMap.2 ⟨i,hi,by unfold oo;exact aMt _ (List.mem_map.2 ⟨c,hc,rfl⟩)⟩⟩
theorem h12 {n:Nat} {x:Tm} {S:St} (hs:Sm x) (hn:wt x + 9≤n):RN n (.f 12) [aB x] S=some (.bool (cL x),S):=by
 obtain⟨m,rfl⟩:=up (show 8≤n by omega);exact Oe m x S hs (by omega)
theorem h13 {n:Nat} {x:Tm} {S:St} (hl:eu x < 1000000000) (hn:wt x + 3≤n):RN n (.f 13) [aB x] S=some (.int .i64 (jE x 0),S):=by
 obtain⟨m,rfl⟩:=up (show 2≤n by omega);exact Oa m x S hl (by omega)
theorem k27 {n:Nat} {a b:Tm} {S:St} (ha:Sm a) (hs:eu a < 1000000000) (hn:wt a + 1≤n):RN n (.f 27) [aB a,aB b] S=some (.bool (dz a b),S):=EN n a b S ha hs (by omega)
theorem JS {d:Dl} {W:Nat} (h:qO d W) (hm:(bZ d).all ic=true):pV d 4000000 where
 few:=h.nm.few
 all i hi:=by
  have:=(List.all_eq_true.1 hm) i.ty (dS hi).1
  unfold ic at this
  simp only [Bool.and_eq_true] at this
  exact⟨cK this.1,fX this.1⟩
 qM:=by omega
theorem xL {d:Dl} (hm:(bZ d).all ic=true) {i:In} (hi:i∈d.aj) {c:Ct} (hc:c∈i.cs):dU c.ty∧wt c.ty≤4000000:=by
 have:=(List.all_eq_true.1 hm) c.ty ((dS hi).2 c hc)
 unfold ic at this
 simp only [Bool.and_eq_true] at this
 exact⟨cK this.1,fX this.1⟩
theorem sX {d:Dl} {x0 x:In} (h:nC d (fxN d) x0 x=true) (hfx:d.fixed=.ofNat (fxN d)):fxN d≤(al x.ty).1.length∧iEq (al x.ty).2.k 1=true:=by
 unfold nC at h
 simp only [Bool.and_eq_true] at h
 refine⟨?_,h.1⟩
 have:=h.2.1
 rw [hfx,cm] at this
 simp only [Bool.not_eq_true',decide_eq_false_iff_not,aOn] at this
 omega
theorem Bi {d:Dl} {x0:In} {j:Nat} {t:Tm} (h:mq d (fxN d) x0 j t=true) (hfx:d.fixed=.ofNat (fxN d)):fxN d≤(al t).1.length:=by
 unfold mq at h
 simp only [Bool.and_eq_true] at h
 have:=h.1
 rw [hfx,cm] at this
 simp only [Bool.not_eq_true',decide_eq_false_iff_not,aOn] at this
 omega
theorem h10 {n:Nat} {d:Dl} {S:St} {W:Nat} (hd:qO d W) (hn:W + 12100000≤n) :
 RN n (.f 10) [eY d] S=some (.tuple [gK 7 ((ofR d).1.map bx),.int .i64 (ofR d).2],S):=by
 obtain⟨k,rfl⟩:=up (show 1≤n by omega)
 have gQ:=hd.nm.few
 have h:∃q,frame Tryz.cfg (RN k) k 10 [eY d] St.empty=some q∧OfQ d q:=by
  refine aU (fn:=Tryz.f10) (p:=OfQ d) rfl rfl ?_
  have p7:iF d=false→∀T',OfQ d (.tuple [.list 0 .tight 0 [],.int .i64 1],{ heap:=[],aA:=T' }):=fun h T'=>oq (by unfold ofR;rw [h];rfl) T'
  refine ah.mk (fun c1=>?_) (fun c1=>?_)
  ·exact⟨_,rfl,p7 (by unfold iF;rw [show iEq d.kind 4=false by simpa using c1];rfl) []⟩
  have c1' : iEq d.kind 4=true:=by simpa using c1
  refine ab.mkB uT (fun c2=>?_) (fun c2=>?_)
  ·exact⟨_,rfl,p7 (by unfold iF;rw [c1',show decide (d.name=[])=false by simpa using c2];rfl) []⟩
  have c2' : decide (d.name=[])=true:=by simpa using c2
  refine ae.mkB (k27 (b:=zTm) hd.dty.1 hd.dty.2.1 (by have:=hd.dty.2.2;omega)) (fun c3=>?_) (fun c3=>?_)
  rotate_left
  ·exact⟨_,rfl,p7 (by unfold iF;rw [c1',c2',c3];rfl) []⟩
  refine ae.mkB (k27 (b:=zTm) hd.H0.1 hd.H0.2.1 (by have:=hd.H0.2.2;omega)) (fun c4=>?_) (fun c4=>?_)
  rotate_left
  ·exact⟨_,rfl,p7 (by unfold iF;rw [c1',c2',c3,c4];rfl) []⟩
  refine ah.mk (fun c5=>?_) (fun c5=>?_)
  ·exact⟨_,rfl,p7 (by unfold iF;rw [c1',c2',c3,c4,c5];rfl) []⟩
  refine ah.mk (fun c6=>?_) (fun c6=>?_)
  ·exact⟨_,rfl,p7 (by unfold iF;rw [c1',c2',c3,c4,c5,c6];rfl) []⟩
  refine ah.mk (fun c7=>?_) (fun c7=>?_)
  ·rw [aq,aLm] at c7
   exact⟨_,rfl,p7 (by unfold iF;rw [c1',c2',c3,c4,c5,c6,c7];rfl) []⟩
  rw [aq,aLm] at c7
  refine ah.mk (fun c8=>?_) (fun c8=>?_)
  ·rw [aq,aLm] at c8
   exact⟨_,rfl,p7 (by unfold iF;rw [c1',c2',c3,c4,c5,c6,c7,c8];rfl) []⟩
  rw [aq,aLm] at c8
  have ha:iF d=true:=by unfold iF;rw [c1',c2',c3,c4,c5,c6,c7,c8];rfl
  have hfx:d.fixed=.ofNat (fxN d):=by
   rw [cm,decide_eq_false_iff_not] at c5
   unfold fxN
   simp only [aOn];omega
  have kT:fxN d≤12:=by
   rw [hfx,cm,decide_eq_false_iff_not] at c6
   simp only [aOn] at c6;omega
  have CE:1≤d.aj.length:=by
   rw [cm,decide_eq_false_iff_not] at c7
   simp only [aOn] at c7;omega
  have h0:d.aj[0]?=some (in0 d):=by
   unfold in0
   rw [aGe (by omega)];rfl
  have RS:Bh d=false→∀T',OfQ d (.tuple [.list 0 .tight 0 [],.int .i64 1],{ heap:=[],aA:=T' }):=fun h T'=>oq (by unfold ofR;rw [ha,h];rfl) T'
  refine aD.loop 278 (σ:=Unit) d.aj.length (fun j _=>{ nt:=278,tmps:=[(1,.ptr (.loc 1) 0),(4,.int .i64 (.ofNat j))],locs:=[(1,bK d)],fix:=[] }) (fun _ _=>St.empty)
   (fun j _=>Bh d=(d.aj.drop j).all fun i=>!iLt 8 (.ofNat i.cs.length)) () (by omega) rfl ?_ ?_
  ·intro j _ hj hp
   obtain⟨x,hx⟩ : ∃x,d.aj[j]?=some x:=⟨_,aGe hj⟩
   rw [fz hx] at hp
   refine ah.yes (ltM hj) ?_
   refine ab.mk _ (aL hx) ?_
   refine ah.mk (fun hq=>?_) (fun hq=>?_)
   ·rw [aq,aLm] at hq
    rw [hq] at hp
    exact⟨_,rfl,RS hp []⟩
   ·rw [aq,aLm] at hq
    rw [hq] at hp
    refine ab.mk _ (az (by omega)) ?_
    exact⟨(),hp,rfl,rfl⟩
  intro _ hp
  rw [List.drop_length] at hp
  have hfb:Bh d=true:=hp
  refine ah.no (geM (by omega)) ?_
  obtain⟨tb,RT⟩:=h28 (n:=k) (S:=St.empty) gQ hd.nm.cs (by omega)
  have htl:=H2 hd.nm
  have PN:(bZ d).all ic=false→∀T',OfQ d (.tuple [.list 0 .tight 0 [],.int .i64 1],{ heap:=[],aA:=T' }):=fun h T'=>oq (by unfold ofR;rw [ha,hfb,h];rfl) T'
  refine ae.mk _ _ RT ?_
  refine aD.loop 278 (σ:=Unit) (bZ d).length (fun j _=>{ nt:=278,tmps:=[(1,.ptr (.loc 1) 0),(5,.list (ao false (bZ d)) (aw tb) 0 (ag (bZ d))),(6,.int .i64 (.ofNat j))],locs:=[(1,bK d)],fix:=[] }) (fun _ _=>St.empty)
   (fun j _=>(bZ d).all ic=((bZ d).drop j).all ic) () (by omega) rfl ?_ ?_
  ·intro j _ hj hp
   obtain⟨x,hx⟩ : ∃x,(bZ d)[j]?=some x:=⟨_,aGe hj⟩
   obtain⟨x1,x2,x3⟩:=hd.ty x (aMg hx)
   rw [fz hx] at hp
   refine ah.yes (gI hj) ?_
   refine ab.mk _ (bz hx) ?_
   refine ae.mkB (h12 x1 (by omega)) (fun hq=>?_) (fun hq=>?_)
   ·refine ab.mk _ (bz hx) ?_
    refine ae.mk _ _ (h13 x2 (by omega)) ?_
    refine ah.mk (fun hw=>?_) (fun hw=>?_)
    ·rw [show ic x=false by unfold ic;rw [hq,hw];rfl] at hp
     exact⟨_,rfl,PN hp []⟩
    ·rw [show ic x=true by unfold ic;rw [hq,hw];rfl] at hp
     refine ab.mk _ (az (by omega)) ?_
     exact⟨(),hp,rfl,rfl⟩
   ·rw [show ic x=false by unfold ic;rw [hq];rfl] at hp
    exact⟨_,rfl,PN hp []⟩
  intro _ hp
  rw [List.drop_length] at hp
  have hmb:(bZ d).all ic=true:=hp
  refine ah.no (gJ (by omega)) ?_
  have hdl:=JS hd hmb
  have hA:(iF d && (Bh d && (bZ d).all ic))=true:=by rw [ha,hfb,hmb];rfl
  have Ox:(ub d && (bZ d).all (fun t=>!hiT (pN d) t))=false→∀T',OfQ d (.tuple [.list 0 .tight 0 [],.int .i64 8],{ heap:=[],aA:=T' }):=fun h T'=>oq (by unfold ofR;rw [hA,h]) T'
  refine ah.mk (fun c9=>?_) (fun c9=>?_)
  ·exact⟨_,rfl,Ox (by unfold ub;rw [c9];rfl) []⟩
  refine ah.mk (fun c10=>?_) (fun c10=>?_)
  ·have vr : iLt d.params 4=false:=by simpa using c10
   exact⟨_,rfl,Ox (by unfold ub;rw [c9,vr];rfl) []⟩
  have vr : iLt d.params 4=true:=by simpa using c10
  have hpb:ub d=true:=by unfold ub;rw [c9,vr];rfl
  have hpp:d.params=.ofNat (pN d):=by
   rw [cm,decide_eq_false_iff_not] at c9
   unfold pN
   simp only [aOn];omega
  have hp4:pN d < 4:=by
   rw [hpp,cm,decide_eq_true_eq] at vr
   simp only [aOn] at vr;omega
  refine aD.loop 278 (σ:=Unit) (bZ d).length (fun j _=>{ nt:=278,tmps:=[(1,.ptr (.loc 1) 0),(5,.list (ao false (bZ d)) (aw tb) 0 (ag (bZ d))),(7,.int .i64 (.ofNat j))],locs:=[(1,bK d)],fix:=[] }) (fun _ _=>St.empty)
   (fun j _=>(bZ d).all (fun t=>!hiT (pN d) t)=((bZ d).drop j).all (fun t=>!hiT (pN d) t)) () (by omega) rfl ?_ ?_
  ·intro j _ hj hp
   obtain⟨x,hx⟩ : ∃x,(bZ d)[j]?=some x:=⟨_,aGe hj⟩
   have hxm:=(List.all_eq_true.1 hmb) x (aMg hx)
   unfold ic at hxm
   simp only [Bool.and_eq_true] at hxm
   have hxw:=fX hxm.1
   rw [fz hx] at hp
   have RU : RN k (.f 29) [aB x,.int .i64 d.params] St.empty=some (.bool (!hiT (pN d) x),St.empty):=by rw [hpp];exact h29 k x (pN d) _ (by omega) (by omega) (by omega)
   refine ah.yes (gI hj) ?_
   refine ab.mk _ (bz hx) ?_
   refine ae.mkB RU (fun hq=>?_) (fun hq=>?_)
   ·rw [hq] at hp
    refine ab.mk _ (az (by omega)) ?_
    exact⟨(),hp,rfl,rfl⟩
   ·rw [hq] at hp
    exact⟨_,rfl,Ox (by rw [hp];simp) []⟩
  intro _ hp
  rw [List.drop_length] at hp
  have hlo:(bZ d).all (fun t=>!hiT (pN d) t)=true:=hp
  refine ah.no (gJ (by omega)) ?_
  have hB:(ub d && (bZ d).all (fun t=>!hiT (pN d) t))=true:=by rw [hpb,hlo];rfl
  refine ae.mkB (h30 hd.nm (by omega)) (fun c11=>?_) (fun c11=>?_)
  rotate_left
  ·exact⟨_,rfl,oq (by unfold ofR;rw [hA,hB,c11]) []⟩
  have PO:(pY d && pZ d)=false→∀T',OfQ d (.tuple [.list 0 .tight 0 [],.int .i64 14],{ heap:=[],aA:=T' }):=fun h T'=>oq (by unfold ofR;rw [hA,hB,c11,h]) T'
  refine aD.loop 278 (σ:=Unit) d.aj.length (fun j _=>{ nt:=278,tmps:=[(1,.ptr (.loc 1) 0),(8,.int .i64 (.ofNat j))],locs:=[(1,bK d)],fix:=[] }) (fun _ _=>St.empty)
   (fun j _=>pY d=(d.aj.drop j).all (nC d (fxN d) (in0 d))) () (by omega) rfl ?_ ?_
  ·intro j _ hj hp
   obtain⟨x,hx⟩ : ∃x,d.aj[j]?=some x:=⟨_,aGe hj⟩
   rw [fz hx] at hp
   refine ah.yes (ltM hj) ?_
   refine ae.mkB (h31 hdl h0 hx hfx (by omega) (by omega)) (fun hq=>?_) (fun hq=>?_)
   ·rw [hq] at hp
    refine ab.mk _ (az (by omega)) ?_
    exact⟨(),hp,rfl,rfl⟩
   ·rw [hq] at hp
    exact⟨_,rfl,PO (by rw [hp];rfl) []⟩
  intro _ hp
  rw [List.drop_length] at hp
  have hfo:pY d=true:=hp
  refine ah.no (geM (by omega)) ?_
  have hpi:∀i∈d.aj,fxN d≤(al i.ty).1.length∧iEq (al i.ty).2.k 1=true:=fun i hi=>sX (List.all_eq_true.1 hfo i hi) hfx
  refine aD.loop 278 (σ:=Unit) d.aj.length (fun j _=>{ nt:=278,tmps:=[(1,.ptr (.loc 1) 0),(9,.int .i64 (.ofNat j))],locs:=[(1,bK d)],fix:=[] }) (fun _ _=>St.empty)
   (fun j _=>pZ d=((d.aj.zipIdx 0).drop j).all fun q=>q.1.cs.all fun c=>mq d (fxN d) (in0 d) q.2 c.ty) () (by omega) rfl ?_ ?_
  ·intro j _ hj hp
   obtain⟨x,hx⟩ : ∃x,d.aj[j]?=some x:=⟨_,aGe hj⟩
   have hxm:=aMg hx
   have hxc:=hd.nm.cs x hxm
   have hz:(d.aj.zipIdx 0)[j]?=some (x,j):=by rw [List.getElem?_zipIdx,hx];simp
   rw [fz hz] at hp
   refine ah.yes (ltM hj) ?_
   refine aD.loop 278 (σ:=Unit) x.cs.length (fun i _=>{ nt:=278,tmps:=[(1,.ptr (.loc 1) 0),(9,.int .i64 (.ofNat j)),(10,.int .i64 (.ofNat i))],locs:=[(1,bK d)],fix:=[] }) (fun _ _=>St.empty)
    (fun i _=>(x.cs.all fun c=>mq d (fxN d) (in0 d) j c.ty)=(x.cs.drop i).all fun c=>mq d (fxN d) (in0 d) j c.ty) () (by omega) rfl ?_ ?_
   ·intro i _ hi hq
    obtain⟨c,hc⟩ : ∃c,x.cs[i]?=some c:=⟨_,aGe hi⟩
    obtain⟨ca,cw⟩:=xL hmb hxm (aMg hc)
    rw [fz hc] at hq
    refine ab.mk _ (aL hx) ?_
    refine ah.yes (ltM hi) ?_
    refine ab.mk _ (aL hx) ?_
    refine ab.mk _ (ec hc) ?_
    refine ae.mkB (h32 (p:=pN d) hdl (fun i hi=>(hpi i hi).1) h0 ca cw hfx hpp (by omega) (by omega) (by omega)) (fun hw=>?_) (fun hw=>?_)
    ·rw [hw] at hq
     refine ab.mk _ (az (by omega)) ?_
     exact⟨(),hq,rfl,rfl⟩
    ·rw [hw] at hq
     have hq' : (x.cs.all fun c=>mq d (fxN d) (in0 d) j c.ty)=false:=hq
     simp only [hq',Bool.false_and] at hp
     exact⟨_,rfl,PO (by rw [hp];simp) []⟩
   ·intro _ hq
    rw [List.drop_length] at hq
    have hq' : (x.cs.all fun c=>mq d (fxN d) (in0 d) j c.ty)=true:=hq
    simp only [hq',Bool.true_and] at hp
    refine ab.mk _ (aL hx) ?_
    refine ah.no (geM (by omega)) ?_
    refine ab.mk _ (az (by omega)) ?_
    exact⟨(),hp,rfl,rfl⟩
  intro _ hp
  rw [List.drop_of_length_le (by simp)] at hp
  have hct:pZ d=true:=hp
  refine ah.no (geM (by omega)) ?_
  have hC:(pY d && pZ d)=true:=by rw [hfo,hct];rfl
  have hcs:Mc d (fxN d) 4000000:=by
   refine⟨fun i hi=>⟨hd.nm.cs i hi,fun c hc=>?_⟩,fun i hi=>(hpi i hi).1,fun i hi=>(hpi i hi).2⟩
   obtain⟨ca,cw⟩:=xL hmb hi hc
   obtain⟨j,hj⟩:=List.mem_iff_getElem?.1 hi
   have hz:(d.aj.zipIdx 0)[j]?=some (i,j):=by rw [List.getElem?_zipIdx,hj];simp
   have h1:=(List.all_eq_true.1 hct) _ (aMg hz)
   have h2:=(List.all_eq_true.1 h1) c hc
   exact⟨ca,cw,Bi h2 hfx⟩
  have hof:ofR d=match gR d (fxN d) with | none=>([],15) | some l=>(l,0):=by
   unfold ofR;rw [hA,hB,c11,hC]
  refine E7 k d (fxN d) (pN d) [] _ hdl hcs hfx hpp (by omega) (by omega) (by omega) (fun L T' hn=>?_) (fun J out tok T' gU hg=>?_)
  ·exact⟨_,rfl,oq (by rw [hof,hn]) T'⟩
  ·have hq:OfQ d (.tuple [.list (szG 7 (out.map bx)) tok 0 (out.map bx),.int .i64 0],{ heap:=[],aA:=T' }):=by
    unfold OfQ
    rw [hof,gU]
    exact⟨T',tok,rfl,hg⟩
   rcases J with _ | ⟨e0,i0,l0,z0,k0,r0,_ | ⟨m0,_ | f0⟩⟩
   ·exact⟨_,rfl,hq⟩
   ·exact⟨_,rfl,hq⟩
   ·exact⟨_,rfl,hq⟩
   ·exact⟨_,rfl,hq⟩
 obtain⟨q,h1,T',tok,rfl,hg⟩:=h
 refine bC h1 (by simp only [ej,an]) rfl rfl rfl rfl ?_
 show V.tuple [ai (.list (szG 7 _) tok 0 _),_]=_
 rw [gz hg]
 rfl
mutual
def eV (c:Int):Tm→Prop
 | .mk k n s a b fc fd ls ts=>(iEq k 2=true→n≤c)∧sY c ts
def sY (c:Int):List Tm→Prop
 | []=>True
 | t::ts=>eV c t∧sY c ts
end
theorem Dn (c:Int) (ts:List Tm):sY c ts↔∀y∈ts,eV c y:=by
 induction ts with
 | nil=>simp [sY]
 | cons t ts ih=>rw [sY,ih];simp
theorem gB (c:Int) (x:Tm):eV c x↔(iEq x.k 2=true→x.n≤c)∧∀y∈x.ts,eV c y:=by cases x;rw [eV,Dn];rfl
theorem eV.mono {c e:Int} (h:c≤e):∀(w:Nat) (x:Tm),wt x≤w→eV c x→eV e x
 | 0,x,hw,_=>by rw [cO] at hw;omega
 | w + 1,x,hw,hx=>by
  obtain⟨h1,h2⟩:=(gB c x).1 hx
  exact (gB e x).2 ⟨fun hk=>by have:=h1 hk;omega,fun y hy=>eV.mono h w y (by have:=cT hy;omega) (h2 y hy)⟩
theorem Dp (b:Int) (k:Int):∀(ts:List Tm) (i:Nat) (a:Int),(cn (ch b) k ts i () a).1=(ts.zipIdx i).map fun q=>aZ q.1 (dT a (bq k (.ofNat q.2))) b
 | [],i,a=>by rw [cn];rfl
 | t::ts,i,a=>by
  rw [cn,List.zipIdx_cons,List.map_cons]
  simp only
  congr 1
  exact Dp b k ts (i + 1) a
theorem p8 {x:Tm} {a b:Int} (h:iEq x.k 2=true):aZ x a b=bif !iLt x.n a then x.zu (dT x.n b) else x:=by
 unfold aZ
 rw [jG,h];rfl
theorem lJ {x:Tm} {a b:Int} (h:iEq x.k 2=false):aZ x a b=x.mN ((x.ts.zipIdx 0).map fun q=>aZ q.1 (dT a (bq x.k (.ofNat q.2))) b):=by
 unfold aZ
 rw [jG,h]
 simp only [cond_false]
 rw [Dp]
 rfl
theorem p9 (x:Tm) (l:List Tm):(x.mN l).ts=l:=by cases x;rfl
theorem sZ (x:Tm) (l:List Tm):(x.mN l).k=x.k:=by cases x;rfl
theorem xM (x:Tm) (n:Int):(x.zu n).ts=x.ts:=by cases x;rfl
theorem Bj (x:Tm) (n:Int):(x.zu n).k=x.k:=by cases x;rfl
theorem Bk (x:Tm) (n:Int):(x.zu n).n=n:=by cases x;rfl
theorem qA {x:Tm} (h:bm x=true) (hk:iEq x.k 2=true):x.ts=[]:=by
 have:=Dj h
 rw [bW,decide_eq_true_eq] at hk
 rw [hk,ak,show cH 2=0 from rfl] at this
 simp only [Bool.and_eq_true,bW,decide_eq_true_eq,aOn] at this
 exact List.eq_nil_of_length_eq_zero (by omega)
theorem xN {x:Tm} {l:List Tm} (h:l.length=x.ts.length):bm (x.mN l)=bm x:=by
 unfold bm
 rw [show (x.mN l).ts=l by cases x;rfl,ak,ak,h]
 cases x;rfl
theorem Dq {x:Tm} {a b:Int}:((x.ts.zipIdx 0).map fun q=>aZ q.1 (dT a (bq x.k (.ofNat q.2))) b).length=x.ts.length:=by simp
theorem JT {x:Tm} {a b:Int} {y:Tm} (h:y∈(x.ts.zipIdx 0).map fun q=>aZ q.1 (dT a (bq x.k (.ofNat q.2))) b):∃t∈x.ts,∃a',y=aZ t a' b:=by
 obtain⟨q,hq,rfl⟩:=List.mem_map.1 h
 obtain⟨t,i⟩:=q
 exact⟨t,List.fst_mem_of_mem_zipIdx hq,_,rfl⟩
theorem qa {c b:Int} (hb:0≤b) (hcb:c + b≤1048576):∀(w:Nat) (x:Tm),wt x≤w→dU x→eV c x→∀a,dU (aZ x a b)∧eV (c + b) (aZ x a b)
 | 0,x,hw,_,_,_=>by rw [cO] at hw;omega
 | w + 1,x,hw,hx,hv,a=>by
  obtain⟨h1,h2⟩:=(cp x).1 hx
  obtain⟨v1,v2⟩:=(gB c x).1 hv
  cases hk:iEq x.k 2 with
  | true=>
   obtain⟨n0,n1⟩:=xp h1 hk
   have hn:=v1 hk
   rw [p8 hk]
   have hts:x.ts=[]:=qA h1 hk
   cases hq:(!iLt x.n a) with
   | false=>exact⟨hx,eV.mono (by omega) _ x (Nat.le_refl _) hv⟩
   | true=>
    simp only [cond_true]
    have e:dT x.n b=x.n + b:=gy (by omega) (by omega)
    rw [e]
    refine⟨(cp _).2 ⟨?_,?_⟩,(gB _ _).2 ⟨?_,?_⟩⟩
    ·have hg:=h1
     unfold bm at hg ⊢
     simp only [Bool.and_eq_true] at hg ⊢
     refine⟨by cases x;exact hg.1,⟨⟨by cases x;exact hg.2.1.1,?_⟩,by cases x;exact hg.2.2⟩⟩
     unfold kR
     rw [Bj,Bk,hk]
     simp only [cond_true,Bool.and_eq_true,Bool.not_eq_true',cm,decide_eq_false_iff_not]
     omega
    ·intro y hy
     rw [xM,hts] at hy
     cases hy
    ·intro _
     rw [Bk]
     omega
    ·intro y hy
     rw [xM,hts] at hy
     cases hy
  | false=>
   rw [lJ hk]
   have dt:∀y∈(x.ts.zipIdx 0).map fun q=>aZ q.1 (dT a (bq x.k (.ofNat q.2))) b,dU y∧eV (c + b) y:=by
    intro y hy
    obtain⟨t,ht,a',rfl⟩:=JT hy
    exact qa hb hcb w t (by have:=cT ht;omega) (h2 t ht) (v2 t ht) a'
   refine⟨(cp _).2 ⟨by rw [xN Dq];exact h1,?_⟩,(gB _ _).2 ⟨?_,?_⟩⟩
   ·intro y hy
    rw [p9] at hy
    exact (dt y hy).1
   ·intro hk'
    rw [sZ,hk] at hk'
    cases hk'
   ·intro y hy
    rw [p9] at hy
    exact (dt y hy).2
theorem GL (x:Tm) (a b:Int):wt (aZ x a b)=wt x:=(EP x a b).1
theorem JU {a b:Int}:a≤mxI a b∧b≤mxI a b:=by unfold mxI;split<;>omega
theorem uc (k:Int):∀(ts:List Tm) (i:Nat) (aa acc:Int),acc≤jF k ts i aa acc∧∀(j:Nat) (t:Tm),ts[j]?=some t→jE t (dT aa (bq k (.ofNat (i + j))))≤jF k ts i aa acc
 | [],i,aa,acc=>⟨by rw [jF];omega,fun j t h=>by simp at h⟩
 | t::ts,i,aa,acc=>by
  rw [pS]
  obtain⟨h1,h2⟩:=uc k ts (i + 1) aa (mxI acc (jE t (dT aa (bq k (.ofNat i)))))
  have hm:=@JU acc (jE t (dT aa (bq k (.ofNat i))))
  refine⟨by omega,fun j u hj=>?_⟩
  cases j with
  | zero=>
   simp at hj;subst hj
   rw [Nat.add_zero];omega
  | succ j=>
   have:=h2 j u (by simpa using hj)
   rwa [show i + 1 + j=i + (j + 1) by omega] at this
theorem uY {x:Tm} (h:ic x=true):eV 4096 x:=by
 unfold ic at h
 simp only [Bool.and_eq_true] at h
 obtain⟨r,hr⟩:=me h.1
 have hf:jE x 0≤0:=by
  have:=h.2
  rw [cm] at this
  simp only [Bool.not_eq_true',decide_eq_false_iff_not] at this
  omega
 have key:=xn (P:=fun x d=>∀aa:Int,0≤aa→aa + d≤1000000→jE x aa≤0→eV (aa + d) x) (fun x d hp ih aa h0 hd hfr=>by
  rw [sR] at hfr
  refine (gB _ x).2 ⟨fun hk=>?_,fun y hy=>?_⟩
  ·rw [hk] at hfr
   simp only [cond_true] at hfr
   obtain⟨n0,n1⟩:=xp hp hk
   have e1:dT x.n 1=x.n + 1:=gy (by omega) (by omega)
   rw [e1] at hfr
   have e2:vo (x.n + 1) aa=x.n + 1 - aa:=gy (by omega) (by omega)
   rw [e2] at hfr
   have:=@JU 0 (x.n + 1 - aa)
   omega
  ·have hk:iEq x.k 2=false:=by
    cases hk:iEq x.k 2 with
    | false=>rfl
    | true=>
     rw [qA hp hk] at hy
     cases hy
   rw [hk] at hfr
   simp only [cond_false] at hfr
   obtain⟨j,hj⟩:=List.mem_iff_getElem?.1 hy
   have h3:=(uc x.k x.ts 0 aa 0).2 j y hj
   rw [Nat.zero_add] at h3
   have hb:=zz x.k (.ofNat j)
   have e1:dT aa (bq x.k (.ofNat j))=aa + bq x.k (.ofNat j):=gy (by rcases hb with h | h<;>omega) (by rcases hb with h | h<;>omega)
   rw [e1] at h3
   have:=ih y hy (aa + bq x.k (.ofNat j)) (by rcases hb with h | h<;>omega) (by rcases hb with h | h<;>omega) (by omega)
   exact eV.mono (by rcases hb with h | h<;>omega) _ y (Nat.le_refl _) this) x hr
 have:=key 0 (by omega) (by omega) hf
 exact eV.mono (by omega) _ x (Nat.le_refl _) this
structure Gd (W:Nat) (c:Int) (t:Tm):Prop where
 all:dU t
 vars:eV c t
 le:wt t≤W
theorem Gd.lift {W:Nat} {c b:Int} {t:Tm} (h:Gd W c t) (hb:0≤b) (hcb:c + b≤1048576) (a:Int):Gd W (c + b) (aZ t a b):=
 ⟨(qa hb hcb _ t (Nat.le_refl _) h.all h.vars a).1,(qa hb hcb _ t (Nat.le_refl _) h.all h.vars a).2,by rw [GL];exact h.le⟩
theorem Gd.mono {W:Nat} {c e:Int} {t:Tm} (h:Gd W c t) (hc:c≤e):Gd W e t:=⟨h.all,eV.mono hc _ t (Nat.le_refl _) h.vars,h.le⟩
theorem Gd.kid {W:Nat} {c:Int} {t y:Tm} (h:Gd W c t) (hy:y∈t.ts):Gd W c y:=⟨((cp t).1 h.all).2 y hy,((gB c t).1 h.vars).2 y hy,by have:=cT hy;have:=h.le;omega⟩
theorem Gd.pis {W:Nat} {c:Int}:∀(w:Nat) (t:Tm),wt t≤w→Gd W c t→Gd W c (al t).2∧∀y∈(al t).1,Gd W c y
 | 0,t,hw,_=>by rw [cO] at hw;omega
 | w + 1,t,hw,h=>by
  cases hk:iEq t.k 6 with
  | false=>rw [mO hk];exact⟨h,by simp⟩
  | true=>
   obtain⟨a,b,ht⟩:=fW ((cp t).1 h.all).1 (og hk)
   rw [lA hk ht]
   have hb:=h.kid (y:=b) (by rw [ht];simp)
   have ha:=h.kid (y:=a) (by rw [ht];simp)
   obtain⟨k1,k2⟩:=Gd.pis w b (by have:=cT (x:=b) (y:=t) (by rw [ht];simp);omega) hb
   refine⟨k1,fun y hy=>?_⟩
   cases hy with
   | head=>exact ha
   | tail _ hy=>exact k2 y hy
theorem Gd.spine {W:Nat} {c:Int}:∀(w:Nat) (t:Tm),wt t≤w→Gd W c t→Gd W c (aF t).1∧∀y∈(aF t).2,Gd W c y
 | 0,t,hw,_=>by rw [cO] at hw;omega
 | w + 1,t,hw,h=>by
  cases hk:iEq t.k 4 with
  | false=>rw [ji hk];exact⟨h,by simp⟩
  | true=>
   obtain⟨f,a,ht⟩:=fW ((cp t).1 h.all).1 (nB hk)
   rw [hZ hk ht]
   have hf:=h.kid (y:=f) (by rw [ht];simp)
   have ha:=h.kid (y:=a) (by rw [ht];simp)
   obtain⟨k1,k2⟩:=Gd.spine w f (by have:=cT (x:=f) (y:=t) (by rw [ht];simp);omega) hf
   refine⟨k1,fun y hy=>?_⟩
   rcases List.mem_append.1 hy with hy | hy
   ·exact k2 y hy
   ·rw [List.mem_singleton.1 hy];exact ha
theorem h79 {n:Nat} {x:Tm} {a b:Int} {S:St} {W:Nat} (hw:wt x≤W) (hW:W < 1000000000) (hn:W + 3≤n):RN n (.f 79) [aB x,.int .i64 a,.int .i64 b] S=some (aB (aZ x a b),S):=by
 obtain⟨m,rfl⟩:=up (show 1≤n by omega)
 exact GC m x b a S (by have:=Bf _ x (Nat.le_refl _);omega) (by omega)
end Go.Ev
