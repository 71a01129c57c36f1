/- The document: what its functions on declarations give (own work). -/
import Derived.Test.YtmnofcchfbkbeaaGreatXq
namespace Go.Ev
open Go.Proofs Go.RowKit
set_option maxRecDepth 100000
section
variable {C:Cfg} {R:Run} {F:FC} {k fid nt:Nat} {fx:List Nat}
theorem aB.times {σ:Type} {c:Code} {K:Ex→Env→St→Prop} (N:Nat) (env:Nat→σ→Env) (st:Nat→σ→St) (P:Nat→σ→Prop)
 (gr:∀j s,j < N→P j s→dZ C R F k fid nt fx c (env j s) (st j s) fun e A S=>match e with | .normal=>∃s',P (j + 1) s'∧A=env (j + 1) s'∧S=st (j + 1) s' | e=>K e A S)
 (wW:∀s,P N s→dZ C R F k fid nt fx c (env N s) (st N s) fun e A S=>match e with | .normal=>False | e=>K e A S) :
 ∀(m j f:Nat) (s:σ),m + j=N→m < f→P j s→aB (iter (evalCode C R k fid F c) f (env j s) (st j s)) K
 | 0,j,f + 1,s,h,_,hp=>by
  obtain rfl:j=N:=by omega
  obtain⟨e,A',S',h1,h2⟩:=cJ C R F c (wW s hp)
  rw [lC,h1]
  cases e with
  | normal=>exact h2.elim
  | ret=>exact⟨_,_,_,rfl,h2⟩
  | exit i=>exact⟨_,_,_,rfl,h2⟩
 | m + 1,j,f + 1,s,h,hf,hp=>by
  obtain⟨e,A',S',h1,h2⟩:=cJ C R F c (gr j s (by omega) hp)
  rw [lC,h1]
  cases e with
  | normal=>
   obtain⟨s',k1,rfl,rfl⟩:=h2
   exact aB.times N env st P gr wW m (j + 1) f s' (by omega) (by omega) k1
  | ret=>exact⟨_,_,_,rfl,h2⟩
  | exit i=>exact⟨_,_,_,rfl,h2⟩
theorem aB.loop (nt:Nat) {σ:Type} {c:Code} {K:Ex→Env→St→Prop} {f:Nat} (N:Nat) (env:Nat→σ→Env) (st:Nat→σ→St) (P:Nat→σ→Prop) (s:σ) (hf:N < f) (hp:P 0 s)
 (gr:∀j s,j < N→P j s→dZ C R F k fid nt [] c (env j s) (st j s) fun e A S=>match e with | .normal=>∃s',P (j + 1) s'∧A=env (j + 1) s'∧S=st (j + 1) s' | e=>K e A S)
 (wW:∀s,P N s→dZ C R F k fid nt [] c (env N s) (st N s) fun e A S=>match e with | .normal=>False | e=>K e A S) :
 aB (iter (evalCode C R k fid F c) f (env 0 s) (st 0 s)) K:=aB.times N env st P gr wW N 0 f s rfl hf hp
theorem aB.NQ {σ:Type} {c:Code} {K:Ex→Env→St→Prop} (env:Nat→σ→Env) (st:Nat→σ→St) (P:Nat→σ→Prop)
 (gr:∀m s,P (m + 1) s→dZ C R F k fid nt fx c (env (m + 1) s) (st (m + 1) s) fun e A S=>match e with | .normal=>∃s',P m s'∧A=env m s'∧S=st m s' | e=>K e A S)
 (wW:∀s,P 0 s→dZ C R F k fid nt fx c (env 0 s) (st 0 s) fun e A S=>match e with | .normal=>False | e=>K e A S) :
 ∀(m f:Nat) (s:σ),m < f→P m s→aB (iter (evalCode C R k fid F c) f (env m s) (st m s)) K
 | 0,f + 1,s,_,hp=>by
  obtain⟨e,A',S',h1,h2⟩:=cJ C R F c (wW s hp)
  rw [lC,h1]
  cases e with
  | normal=>exact h2.elim
  | ret=>exact⟨_,_,_,rfl,h2⟩
  | exit i=>exact⟨_,_,_,rfl,h2⟩
 | m + 1,f + 1,s,hf,hp=>by
  obtain⟨e,A',S',h1,h2⟩:=cJ C R F c (gr m s hp)
  rw [lC,h1]
  cases e with
  | normal=>
   obtain⟨s',k1,rfl,rfl⟩:=h2
   exact aB.NQ env st P gr wW m f s' (by omega) k1
  | ret=>exact⟨_,_,_,rfl,h2⟩
  | exit i=>exact⟨_,_,_,rfl,h2⟩
theorem aB.down (nt:Nat) {σ:Type} {c:Code} {K:Ex→Env→St→Prop} {f:Nat} (N:Nat) (env:Nat→σ→Env) (st:Nat→σ→St) (P:Nat→σ→Prop) (s:σ) (hf:N < f) (hp:P N s)
 (gr:∀m s,P (m + 1) s→dZ C R F k fid nt [] c (env (m + 1) s) (st (m + 1) s) fun e A S=>match e with | .normal=>∃s',P m s'∧A=env m s'∧S=st m s' | e=>K e A S)
 (wW:∀s,P 0 s→dZ C R F k fid nt [] c (env 0 s) (st 0 s) fun e A S=>match e with | .normal=>False | e=>K e A S) :
 aB (iter (evalCode C R k fid F c) f (env N s) (st N s)) K:=aB.NQ env st P gr wW N f s hf hp
end
section
variable {C:Cfg} {R:Run}
theorem aV {k id:Nat} {args:List V} {S:St} {fn:Func} {c:Code} {p:V×St→Prop} (hf:C.fn id=some fn) (hc:fn.body=some c)
 (h:dZ C R (C.fc id) k id fn.ntmps [] c { nt:=fn.ntmps,tmps:=number 0 args,locs:=[],fix:=[] } S fun e A S=>match e with | .exit _=>False | _=>∃r,finish C fn A S=some r∧p r) :
 ∃r,frame C R k id args S=some r∧p r:=by
 obtain⟨e,A,S',h1,h3⟩:=cJ C R (C.fc id) c h
 unfold frame
 simp only [hf,hc,h1]
 cases e with
 | exit i=>exact h3.elim
 | normal=>exact h3
 | ret=>exact h3
end
@[reducible] def JX:Env:={ nt:=0,tmps:=[],locs:=[],fix:=[] }
def szG (n:Nat):List V→Nat
 | []=>0
 | _::_=>n
theorem Ic {ei:TI} {H:List Blk} {T0 T:List Nat} {done new:List V} {tok:Tok} (h0:0 < ei.size) (hb:ei.bytes≤1000) (hlen:done.length + new.length < 1000000000) (hg:aw T0 T done tok) (hne:new≠[]) :
 ∃T' aP,(∀ac:Acc,ac.heap=true→ko ei { heap:=H,aA:=T } ac (szG ei.size done) tok 0 done 0 new=some (.list ei.size aP 0 (done++new),{ heap:=H,aA:=T' }))∧aw T0 T' (done++new) aP:=by
 obtain⟨xt,hg⟩:=hg
 have hl:(aG done + aG new) * (ei.bytes + 1)≤140737488355328:=by
  rw [an,an]
  have:(done.length + new.length) * (ei.bytes + 1)≤1000000000 * 1001:=Nat.mul_le_mul (by omega) (by omega)
  omega
 have Fb:done++new≠[]:=by simp [hne]
 rcases hg with⟨rfl,rfl⟩ | ⟨t,rfl,h1,h2,h3⟩
 ·refine⟨cq T [aG ([]:List V) + aG new],.own (aG T),?_,⟨?_,?_⟩,.inr ⟨_,rfl,?_,?_,Fb⟩⟩
  ·intro ac hac
   unfold ko
   rw [if_pos ⟨h0,.inl rfl,hl,hac⟩]
   rfl
  ·rw [bK];have:=xt.1;simp;omega
  ·intro t v hv
   have:=xt.2 t v hv
   rw [bR] at this
   rw [bK,bR,List.getElem?_append_left (aGs this).1];exact this
  ·rw [an];exact xt.1
  ·rw [bK,bR,an (l:=T),List.getElem?_append_right (Nat.le_refl _),Nat.sub_self]
   simp [an]
 ·have hsz:szG ei.size done=ei.size:=by
   cases done with
   | nil=>exact absurd rfl h3
   | cons d ds=>rfl
  have htl:t < T.length:=mK h2
  refine⟨tC T t (aG done + aG new),.own t,?_,⟨?_,?_⟩,.inr ⟨t,rfl,h1,?_,Fb⟩⟩
  ·intro ac hac
   unfold ko
   rw [if_pos ⟨h0,.inr hsz,hl,hac⟩]
   show (if nth T t=some (aG done) then _ else none)=_
   rw [if_pos (by rw [h2,an])]
   simp [bK]
  ·rw [eT,List.length_set];exact xt.1
  ·intro u v hv
   have hu:=mK hv
   rw [eT,bR,List.getElem?_set_ne (by omega),← bR]
   exact xt.2 u v hv
  ·rw [eT,bR,List.getElem?_set_self htl,an,an,aLa]
theorem dP {LT ET sz by' : Nat} {z' : List V} {ei:TI} {H:List Blk} {T0 T:List Nat} {done new:List V} {tok bH:Tok} {sz2:Nat} (hl:Tryz.cfg.ti LT=some { kind:=.slice ET,size:=sz,bytes:=by',zero:=z' }) (he:Tryz.cfg.ti ET=some ei)
 (h0:0 < ei.size) (hb:ei.bytes≤1000) (hlen:done.length + new.length < 1000000000) (hg:aw T0 T done tok) (h2:new=[]∨sz2=ei.size) :
 ∃T' aP,(∀(A:Env) (ac:Acc),ac.heap=true→append Tryz.cfg A { heap:=H,aA:=T } ac LT (.list (szG ei.size done) tok 0 done) (.list sz2 bH 0 new)=some (.list (szG ei.size (done++new)) aP 0 (done++new),{ heap:=H,aA:=T' }))∧aw T0 T' (done++new) aP:=by
 have hq:(new.isEmpty=true∨sz2=ei.size):=by
  rcases h2 with rfl | h2
  ·exact .inl rfl
  ·exact .inr h2
 have hr:∀(A:Env) (ac:Acc) (S:St),fX A S ac ei.size (.list sz2 bH 0 new)=some (0,new):=fun A ac S=>by unfold fX;exact if_pos hq
 by_cases hn:new=[]
 ·subst hn
  refine⟨T,tok,?_,by rw [List.append_nil];exact hg⟩
  intro A ac hac
  unfold append
  simp only [hl,he,hr,List.isEmpty_nil,if_true,List.append_nil]
 ·obtain⟨T',aP,h1,h3⟩:=Ic (H:=H) h0 hb hlen hg hn
  refine⟨T',aP,?_,h3⟩
  intro A ac hac
  unfold append
  have hf:new.isEmpty=false:=by cases new with | nil=>exact absurd rfl hn | cons a l=>rfl
  simp only [hl,he,hr,hf,Bool.false_eq_true,if_false]
  have hs:szG ei.size (done++new)=ei.size:=by
   cases hd:done++new with
   | nil=>simp [hn] at hd
   | cons a l=>rfl
  rw [h1 ac hac,hs]
theorem zz (xs:List Tm):szG 5 (ae xs)=au false xs:=by
 cases xs with
 | nil=>rw [ae];rfl
 | cons x xs=>rw [ae];rfl
theorem GN {α:Type} (f:α→V) (xs:List α):szG 5 (xs.map f)=au false xs:=by cases xs<;>rfl
theorem aw.map {α β:Type} {T0 T:List Nat} {done:List α} {tok:Tok} (f:List α→List β) (hf:∀l,(f l).length=l.length):aw T0 T (f done) tok↔aw T0 T done tok:=by
 have he:f done=[]↔done=[]:=by
  constructor
  ·intro h;have:=hf done;rw [h] at this;exact List.eq_nil_of_length_eq_zero (by simpa using this.symm)
  ·intro h;have:=hf done;rw [h] at this ⊢;exact List.eq_nil_of_length_eq_zero (by simpa using this)
 unfold aw
 rw [hf,he]
 simp only [ne_eq,he]
theorem jx {α:Type} (c:Bool) (xs:List α):xs=[]∨au c xs=5:=by cases xs<;>simp [au]
theorem jW {LT sz by' : Nat} {z' : List V} {H:List Blk} {T0 T:List Nat} {done new:List Tm} {tok bH:Tok} {c:Bool} (hl:Tryz.cfg.ti LT=some { kind:=.slice 25,size:=sz,bytes:=by',zero:=z' })
 (hlen:done.length + new.length < 1000000000) (hg:aw T0 T done tok) :
 ∃T' aP,(∀(A:Env) (ac:Acc),ac.heap=true→append Tryz.cfg A { heap:=H,aA:=T } ac LT (.list (au false done) tok 0 (ae done)) (.list (au c new) bH 0 (ae new))=some (.list (au false (done++new)) aP 0 (ae (done++new)),{ heap:=H,aA:=T' }))∧aw T0 T' (done++new) aP:=by
 have h:=dP (LT:=LT) (ET:=25) (ei:=Tryz.ti25) (H:=H) (T0:=T0) (T:=T) (done:=ae done) (new:=ae new) (tok:=tok) (bH:=bH) (sz2:=au c new) hl rfl (by decide) (by decide)
  (by rw [← an,← an,al,al];exact hlen) ((aw.map ae (fun l=>by rw [← an,al])).2 hg) (by
   rcases jx c new with h | h
   ·exact .inl (by rw [h,ae])
   ·exact .inr h)
 obtain⟨T',aP,h1,h2⟩:=h
 have e:ae done++ae new=ae (done++new):=by rw [nx,bK]
 rw [e] at h1 h2
 refine⟨T',aP,?_,(aw.map ae (fun l=>by rw [← an,al])).1 h2⟩
 rw [show Tryz.ti25.size=5 from rfl,zz,zz] at h1
 exact h1
theorem bs1 (x:Tm) (LT:Nat) (sz by' : Nat) (z' : List V) (hl:Tryz.cfg.ti LT=some { kind:=.slice 25,size:=sz,bytes:=by',zero:=z' }):buildSlice Tryz.cfg LT 1 [(0,aH x)]=some (.list (au false [x]) .tight 0 (ae [x])):=by
 have h:buildSlice Tryz.cfg LT 1 [(0,aH x)]=some (.list 5 .tight 0 [.agg (bg aj (aC x))]):=by
  unfold buildSlice
  simp only [hl]
  rfl
 rw [h,cU]
 show some (V.list 5 .tight 0 [(aH x).strip])=_
 rw [fu];rfl
theorem bs2 (x y:Tm):buildSlice Tryz.cfg 23 2 [(0,aH x),(1,aH y)]=some (.list (au false [x,y]) .tight 0 (ae [x,y])):=by
 have h:buildSlice Tryz.cfg 23 2 [(0,aH x),(1,aH y)]=some (.list 5 .tight 0 [.agg (bg aj (aC x)),.agg (bg aj (aC y))]):=rfl
 rw [h,cU]
 show some (V.list 5 .tight 0 [(aH x).strip,(aH y).strip])=_
 rw [fu,fu];rfl
noncomputable def pS (f x:Tm):Tm:=.mk 4 0 [] false true false true [] [f,x]
noncomputable def eH (f:Tm) (xs:List Tm):Tm:=xs.foldl pS f
noncomputable def xu (k:Int) (a b:Tm):Tm:=.mk k 0 [] false true false true [] [a,b]
noncomputable def fC (k:Int) (xs:List Tm) (t:Tm):Tm:=xs.foldr (xu k) t
noncomputable def Pa (n:Int):Tm:=.mk 2 n [] false true false true [] []
noncomputable def ch (at_ aa:Int):Tm:=Pa (aa - 1 - at_)
noncomputable def eK (from_ n:Nat) (aa:Int):List Tm:=(List.range n).map fun i=>ch (.ofNat (from_ + i)) aa
theorem MA {T:Nat} {a b:Int} (h : -9223372036854775808≤a + b) (h2:a + b≤9223372036854775807):binOp Tryz.cfg .add T (.int .i64 a) (.int .i64 b)=some (.int .i64 (a + b)):=by
 show some (V.int .i64 (ep .i64 (a + b)))=_
 rw [ec h h2]
theorem pT {T:Nat} {a b:Int} (h : -9223372036854775808≤a - b) (h2:a - b≤9223372036854775807):binOp Tryz.cfg .sub T (.int .i64 a) (.int .i64 b)=some (.int .i64 (a - b)):=by
 show some (V.int .i64 (ep .i64 (a - b)))=_
 rw [ec h h2]
def Bd (a:Int):Prop:=-1000000000000≤a∧a≤1000000000000
theorem kh {id n:Nat} {args:List V} {S S' : St} {x:Tm} (h:frame Tryz.cfg (RN n) n id args St.empty=some (aH x,S')) (hm:bg V.strip args=args) (hp:(Tryz.cfg.fc id).pure=true) (ha:allB V.pure args=true) (hc:kT id=true:=by rfl) :
 RN (n + 1) (.f id) args S=some (aH x,S):=bG h hm hp ha rfl rfl (fu x) hc
theorem xw {id n:Nat} {args:List V} {S S' : St} {sz:Nat} {tok:Tok} {b:Bool} {xs:List Tm} (h:frame Tryz.cfg (RN n) n id args St.empty=some (.list sz tok 0 (ae xs),S')) (ht:eN tok=av b) (hm:bg V.strip args=args) (hp:(Tryz.cfg.fc id).pure=true) (ha:allB V.pure args=true) (hc:kT id=true:=by rfl) :
 RN (n + 1) (.f id) args S=some (.list sz (av b) 0 (ae xs),S):=by
 refine bG h hm hp ha rfl rfl ?_ hc
 rw [← ht]
 cases tok<;>rfl
theorem Ds (sz:Nat) (b:Bool) (top:Nat) (rows:List V) (l:List V):bg V.strip (.list sz (av b) top rows::l)=.list sz (av b) top rows::bg V.strip l:=dp sz b top rows l
theorem nz (s:List UInt8) (l:List V):bg V.strip (.str s::l)=.str s::bg V.strip l:=rfl
theorem GO (n:Nat) (a r:Int) (ha:Bd a) (hr:Bd r) (S:St):RN (n + 1) (.f 125) [.int .i64 a,.int .i64 r] S=some (aH (ch a r),S):=by
 have h:frame Tryz.cfg (RN n) n 125 [.int .i64 a,.int .i64 r] St.empty=some (aH (ch a r),St.empty):=by
  refine aL Tryz.cfg _ (fn:=Tryz.f125) rfl rfl ?_
  refine ab.mk _ (pT (by unfold Bd at *;omega) (by unfold Bd at *;omega)) ?_
  refine ab.mk _ (pT (by unfold Bd at *;omega) (by unfold Bd at *;omega)) ?_
  rfl
 exact jS h rfl rfl rfl rfl rfl
theorem zA (f:Tm) (xs:List Tm) (j:Nat) (x:Tm) (h:xs[j]?=some x):(xs.take (j + 1)).foldl pS f=pS ((xs.take j).foldl pS f) x:=by
 rw [List.take_add_one,h];simp [List.foldl_append]
theorem JY (from_ n:Nat) (aa:Int) (j:Nat) (h:j < n):(eK from_ n aa).take (j + 1)=(eK from_ n aa).take j++[ch (.ofNat (from_ + j)) aa]:=by
 unfold eK
 rw [List.take_add_one,← List.map_take,List.getElem?_map,List.getElem?_range h]
 rfl
theorem jy (from_ n:Nat) (aa:Int):(eK from_ n aa).length=n:=by unfold eK;simp
theorem MB (n:Nat) (from_ m:Nat) (r:Int) (hf:from_ + m < 1000000000) (hr:Bd r) (hn:m < n + 1) (S:St) :
 RN (n + 2) (.f 122) [.int .i64 (.ofNat from_),.int .i64 (.ofNat m),.int .i64 r] S=some (.list (au false (eK from_ m r)) (av (eK from_ m r).isEmpty) 0 (ae (eK from_ m r)),S):=by
 have h:∃q,frame Tryz.cfg (RN (n + 1)) (n + 1) 122 [.int .i64 (.ofNat from_),.int .i64 (.ofNat m),.int .i64 r] St.empty=some q∧(∃T' tok,q=(.list (au false (eK from_ m r)) tok 0 (ae (eK from_ m r)),{ heap:=[],aA:=T' })∧aw [] T' (eK from_ m r) tok):=by
  refine aV (fn:=Tryz.f122) (p:=fun q=>∃T' tok,q=(.list (au false (eK from_ m r)) tok 0 (ae (eK from_ m r)),{ heap:=[],aA:=T' })∧aw [] T' (eK from_ m r) tok) rfl rfl ?_
  refine aB.loop 22 (σ:=Tok×List Nat) m (fun j s=>{ nt:=22,tmps:=[(0,.int .i64 (.ofNat from_)),(2,.int .i64 r),(6,.list (au false ((eK from_ m r).take j)) s.1 0 (ae ((eK from_ m r).take j))),(8,.int .i64 (.ofNat m)),(9,.int .i64 (.ofNat j))],locs:=[],fix:=[] })
   (fun _ s=>{ heap:=[],aA:=s.2 }) (fun j s=>aw [] s.2 ((eK from_ m r).take j) s.1) (.tight,[]) hn (aw.start []) ?_ ?_
  ·rintro j ⟨tok,T1⟩ hj hg
   refine ah.yes (dC hj) ?_
   refine ab.mk _ (addNat (by omega)) ?_
   refine ag.mk _ _ (GO n _ r (by unfold Bd;simp only [aOn];omega) hr _) ?_
   refine ab.mk _ (bs1 _ 23 _ _ _ rfl) ?_
   obtain⟨T',aP,h1,h2⟩:=jW (LT:=23) (c:=false) (bH:=.tight) (H:=[]) (new:=[ch (.ofNat (from_ + j)) r]) rfl (by rw [List.length_take,jy];simp;omega) hg
   rw [← JY from_ m r j hj] at h1 h2
   refine cN.mk _ _ (h1 _ _ rfl) ?_
   refine ab.mk _ (az (by omega)) ?_
   exact⟨(aP,T'),h2,rfl,rfl⟩
  ·rintro⟨tok,T1⟩ hg
   refine ah.no (fJ (by omega)) ?_
   rw [List.take_of_length_le (by rw [jy];exact Nat.le_refl _)] at hg ⊢
   exact⟨_,rfl,_,_,rfl,hg⟩
 obtain⟨q,h1,T',tok,rfl,h2⟩:=h
 exact xw h1 h2.eN rfl rfl rfl
noncomputable def dn:Nat→Int | 0=>-1 | m + 1=>.ofNat m
theorem Fc (k:Int) (xs:List Tm) (t x:Tm) (m:Nat) (h:xs[m]?=some x):fC k (xs.drop m) t=xu k x (fC k (xs.drop (m + 1)) t):=by
 have hm:=(aGs h)
 unfold fC
 rw [List.drop_eq_getElem_cons hm.1,List.foldr_cons,hm.2]
theorem JZ {T m:Nat} (h:m < 9223372036854775807):binOp Tryz.cfg .sub T (.int .i64 (dn (m + 1))) (.int .i64 1)=some (.int .i64 (dn m)):=by
 cases m with
 | zero=>exact pT (by simp [dn]) (by simp [dn])
 | succ m=>exact od (by omega)
theorem MC (n:Nat) (f:Tm) (xs:List Tm) (c d:Bool) (hn:xs.length < n) (hl:xs.length < 1000000000) (S:St) :
 RN (n + 1) (.f 124) [aH f,.list (au c xs) (av d) 0 (ae xs)] S=some (aH (eH f xs),S):=by
 have h:frame Tryz.cfg (RN n) n 124 [aH f,.list (au c xs) (av d) 0 (ae xs)] St.empty=some (aH (eH f xs),St.empty):=by
  refine aL Tryz.cfg _ (fn:=Tryz.f124) rfl rfl ?_
  refine aB.loop 19 (σ:=Option Tm×Tm) xs.length (fun j s=>{ nt:=19,tmps:=[(2,.ptr (.loc 2) 0),(4,.ptr (.loc 4) 0),(7,.list (au c xs) (av d) 0 (ae xs)),(8,.int .i64 (.ofNat (aG (ae xs)))),(9,.int .i64 (.ofNat j))],locs:=(2,aC s.2)::(4,ij)::oneMore 6 s.1,fix:=[] }) (fun _ _=>St.empty) (fun j s=>s.2=(xs.take j).foldl pS f) (none,f) hn rfl ?_ ?_
  ·rintro j ⟨o,_⟩ hj rfl
   obtain⟨x,hx⟩ : ∃x,xs[j]?=some x:=⟨_,aGe hj⟩
   cases o with
   | none=>
    refine ah.yes (gE hj) ?_
    refine ab.mk _ (bJ hx) ?_
    refine ab.mk _ (bs2 _ _) ?_
    refine ab.mk _ (az (by omega)) ?_
    exact⟨(some x,pS ((xs.take j).foldl pS f) x),(zA f xs j x hx).symm,rfl,rfl⟩
   | some y=>
    refine ah.yes (gE hj) ?_
    refine ab.mk _ (bJ hx) ?_
    refine ab.mk _ (bs2 _ _) ?_
    refine ab.mk _ (az (by omega)) ?_
    exact⟨(some x,pS ((xs.take j).foldl pS f) x),(zA f xs j x hx).symm,rfl,rfl⟩
  ·rintro⟨o,_⟩ rfl
   cases o with
   | none=>
    refine ah.no (gG (by omega)) ?_
    rw [List.take_length]
    rfl
   | some y=>
    refine ah.no (gG (by omega)) ?_
    rw [List.take_length]
    rfl
 exact kh h (by simp only [br,dp,aq]) rfl rfl
noncomputable def GP (l:Lv):Tm:=.mk 1 0 [] false true false true [l] []
noncomputable def pU (s:List UInt8) (a b:Bool) (ls:List Lv):Tm:=.mk 3 0 s a b false true ls []
theorem Dt {LT sz by' : Nat} {z' : List V} {ts:List Tm} {c:Bool} {tk:Tok} {j:Nat} {x:Tm} (hl:Tryz.cfg.ti LT=some { kind:=.slice 25,size:=sz,bytes:=by',zero:=z' }) (h:ts[j]?=some x):indexAddr Tryz.cfg LT (.list (au c ts) tk 0 (ae ts)) (.int .i64 (.ofNat j))=some (.imm 0 (aC x)):=by
 have:=bJ (c:=c) (tk:=tk) h
 unfold indexAddr at this ⊢
 rw [hl]
 rw [show Tryz.cfg.ti 23=some { kind:=.slice 25,size:=1,bytes:=24,zero:=[.list 0 .tight 0 []] } from rfl] at this
 exact this
theorem xx {ts:List Tm} {c:Bool} {tk:Tok} {j:Nat} {x:Tm} (h:ts[j]?=some x):indexAddr Tryz.cfg 157 (.list (au c ts) tk 0 (ae ts)) (.int .i64 (.ofNat j))=some (.imm 0 (aC x)):=Dt rfl h
noncomputable def xz:dj:={ fid:=123,nt:=19,tmps:=[(5,.ptr (.box 1) 0),(6,.ptr (.loc 6) 0),(7,.ptr (.loc 7) 0),(12,.fn 187 3 [] [.ptr (.box 2) 0])],locs:=[(6,ij),(7,[.fn 160 2 [] [.ptr (.box 0) 0,.ptr (.box 1) 0]])],params:=[13,14],assign:=l6 Tryz.f123,body:=l7 Tryz.f123,st:=.ready,iX:=none }
noncomputable def zB (k:Int) (xs:List Tm) (c d:Bool) (t:Tm):St:={ heap:=[.cells 5 [.int .u8 k],.cells 25 (aC t),.cells 157 [.list (au c xs) (av d) 0 (ae xs)],.loop xz],aA:=[] }
theorem MD (n:Nat) (k:Int) (x t:Tm) (B:List Blk):RN (n + 1) (.f 160) [aH x,.ptr (.box 0) 0,.ptr (.box 1) 0] { heap:=.cells 5 [.int .u8 k]::.cells 25 (aC t)::B,aA:=[] } =
 some (.tuple [],{ heap:=.cells 5 [.int .u8 k]::.cells 25 (aC (xu k x t))::B,aA:=[] }):=by
 refine bC rfl ?_
 refine aL Tryz.cfg _ (fn:=Tryz.f160) rfl rfl ?_
 refine ab.mk _ (bs2 _ _) ?_
 rfl
theorem Fe (n:Nat) (i:Int) (k:Int) (xs:List Tm) (c d:Bool) (x t:Tm):RN (n + 2) (.y 3) [.int .i64 i,aH x] (zB k xs c d t)=some (.bool true,zB k xs c d (xu k x t)):=by
 refine fH ?_
 refine fj (r:=xz) (nt:=19) (fx:=[6,7]) rfl rfl rfl rfl rfl rfl rfl ?_
 refine ag.mk _ _ (MD n k x t _) ?_
 rfl
theorem ME (n:Nat) (k:Int) (xs:List Tm) (c d:Bool) (t:Tm) (hn:xs.length < n + 2) (hl:xs.length < 1000000000):RN (n + 3) (.f 187) [.yield 3,.ptr (.box 2) 0] (zB k xs c d t)=some (.tuple [],zB k xs c d (fC k xs t)):=by
 refine bC rfl ?_
 refine aL Tryz.cfg _ (fn:=Tryz.f187) rfl rfl ?_
 have h0:binOp Tryz.cfg .sub 3 (.int .i64 (.ofNat (aG (ae xs)))) (.int .i64 1)=some (.int .i64 (dn xs.length)):=by
  rw [al]
  cases hq:xs.length with
  | zero=>rfl
  | succ m=>rw [hq] at hl;exact od (by omega)
 refine ab.mk _ h0 ?_
 refine aB.down 19 (σ:=Tm) xs.length (fun m s=>{ nt:=19,tmps:=[(0,.yield 3),(1,.ptr (.box 2) 0),(3,.int .i64 (dn m))],locs:=[],fix:=[] }) (fun _ s=>zB k xs c d s) (fun m s=>m≤xs.length∧s=fC k (xs.drop m) t) t hn ⟨Nat.le_refl _,by rw [List.drop_length];rfl⟩ ?_ ?_
 ·rintro m _ ⟨hm,rfl⟩
  obtain⟨x,hx⟩ : ∃x,xs[m]?=some x:=⟨_,aGe hm⟩
  refine ah.yes rfl ?_
  refine ab.mk _ (xx hx) ?_
  refine ag.mk _ _ (Fe n _ k xs c d x _) ?_
  refine ab.mk _ (JZ (by omega)) ?_
  exact⟨xu k x (fC k (xs.drop (m + 1)) t),⟨by omega,(Fc k xs t x m hx).symm⟩,rfl,rfl⟩
 ·rintro _ ⟨_,rfl⟩
  refine ah.no rfl ?_
  rfl
theorem MF (n:Nat) (k:Int) (xs:List Tm) (c d:Bool) (t:Tm) (hn:xs.length < n + 2) (hl:xs.length < 1000000000) (S:St) :
 RN (n + 4) (.f 123) [.list (au c xs) (av d) 0 (ae xs),.int .u8 k,aH t] S=some (aH (fC k xs t),S):=by
 have h:frame Tryz.cfg (RN (n + 3)) (n + 3) 123 [.list (au c xs) (av d) 0 (ae xs),.int .u8 k,aH t] St.empty=some (aH (fC k xs t),{ heap:=[.cells 5 [.int .u8 k],.cells 25 (aC (fC k xs t)),.cells 157 [.list (au c xs) (av d) 0 (ae xs)],.loop { xz with st:=.rj,locs:=[],tmps:=[] }],aA:=[] }):=by
  refine aL Tryz.cfg _ (fn:=Tryz.f123) rfl rfl ?_
  have SK:RN (n + 3) (.f 161) [.list (au c xs) (av d) 0 (ae xs)] { heap:=[.cells 5 [.int .u8 k],.cells 25 (aC t)],aA:=[] }=some (.fn 187 3 [] [.ptr (.box 2) 0],{ heap:=[.cells 5 [.int .u8 k],.cells 25 (aC t),.cells 157 [.list (au c xs) (av d) 0 (ae xs)]],aA:=[] }):=by
   refine bC rfl ?_
   kernel_rfl
  refine ag.mk _ _ SK ?_
  refine aB.mk _ _ _ (dL (f:=187) (top:=3) (first:=[]) (cap:=[.ptr (.box 2) 0]) (l:=xz) (r:=xz) (S':=zB k xs c d (fC k xs t)) (v:=.tuple []) (by rfl) (by rfl) (ME n k xs c d t hn hl) (by rfl) (.inl rfl)) ?_
  rfl
 exact kh h (by simp only [br,bx,dp,aq]) rfl rfl
end Go.Ev
namespace Go.Ev
open Go.Proofs Go.RowKit
set_option maxRecDepth 100000
set_option linter.unusedVariables false
theorem up {n c:Nat} (h:c≤n):∃m,n=m + c:=⟨n - c,by omega⟩
theorem Du {n:Nat} {a r:Int} {S:St} (hn:1≤n) (ha:Bd a) (hr:Bd r):RN n (.f 125) [.int .i64 a,.int .i64 r] S=some (aH (ch a r),S):=by
 obtain⟨m,rfl⟩:=up hn;exact GO m a r ha hr S
theorem SL {n:Nat} {f:Tm} {xs:List Tm} {c d:Bool} {S:St} (hn:xs.length + 2≤n) (hl:xs.length < 1000000000):RN n (.f 124) [aH f,.list (au c xs) (av d) 0 (ae xs)] S=some (aH (eH f xs),S):=by
 obtain⟨m,rfl⟩:=up (show 1≤n by omega);exact MC m f xs c d (by omega) hl S
theorem Bh {n from_ m:Nat} {r:Int} {S:St} (hn:m + 2≤n) (hf:from_ + m < 1000000000) (hr:Bd r) :
 RN n (.f 122) [.int .i64 (.ofNat from_),.int .i64 (.ofNat m),.int .i64 r] S=some (.list (au false (eK from_ m r)) (av (eK from_ m r).isEmpty) 0 (ae (eK from_ m r)),S):=by
 obtain⟨q,rfl⟩:=up (show 2≤n by omega);exact MB q from_ m r hf hr (by omega) S
theorem Dm {n:Nat} {k:Int} {xs:List Tm} {t:Tm} {c d:Bool} {S:St} (hn:xs.length + 4≤n) (hl:xs.length < 1000000000):RN n (.f 123) [.list (au c xs) (av d) 0 (ae xs),.int .u8 k,aH t] S=some (aH (fC k xs t),S):=by
 obtain⟨m,rfl⟩:=up (show 4≤n by omega);exact MF m k xs c d t (by omega) hl S
mutual
def dG:Tm→Prop
 | .mk k n s a b c d ls ts=>bh (.mk k n s a b c d ls ts)=true∧Dv ts
def Dv:List Tm→Prop
 | []=>True
 | t::ts=>dG t∧Dv ts
end
theorem Ie (ts:List Tm):Dv ts↔∀y∈ts,dG y:=by
 induction ts with
 | nil=>simp [Dv]
 | cons t ts ih=>rw [Dv,ih];simp
theorem bX (x:Tm):dG x↔bh x=true∧∀y∈x.ts,dG y:=by cases x;rw [dG,Ie];rfl
theorem cH {x:Tm} (h:cM x=true):dG x:=by
 obtain⟨r,hr⟩:=kH h
 exact pR (P:=fun x _=>dG x) (fun x d hp ih=>(bX x).2 ⟨hp,ih⟩) x hr
theorem Dw {x:Tm} (h:bh x=true):(!iLt (cF x.k) 0 && iEq (.ofNat (aG (ae x.ts))) (cF x.k))=true:=by
 unfold bh at h
 simp only [Bool.and_eq_true] at h ⊢
 exact h.1.1
theorem eO {x:Tm} (h:bh x=true) (hk:cF x.k=2):∃a b,x.ts=[a,b]:=by
 have:=Dw h
 rw [hk,al] at this
 simp only [Bool.and_eq_true,bp,decide_eq_true_eq] at this
 have hl:x.ts.length=2:=by have:=this.2;simp at this;omega
 match hx:x.ts,hl with
 | [a,b],_=>exact⟨a,b,rfl⟩
theorem mL {k:Int} (h:iEq k 6=true):cF k=2:=by
 rw [bp,decide_eq_true_eq] at h;subst h;rfl
theorem l9 {k:Int} (h:iEq k 4=true):cF k=2:=by
 rw [bp,decide_eq_true_eq] at h;subst h;rfl
mutual
noncomputable def ak:Tm→List Tm×Tm
 | .mk k n s a b c d ls ts=>match iEq k 6,ts,J0 ts with
  | true,[x,_],[_,r]=>(x::r.1,r.2)
  | _,_,_=>([],.mk k n s a b c d ls ts)
noncomputable def J0:List Tm→List (List Tm×Tm)
 | []=>[]
 | t::ts=>ak t::J0 ts
end
theorem kj {x a b:Tm} (h:iEq x.k 6=true) (ht:x.ts=[a,b]):ak x=(a::(ak b).1,(ak b).2):=by
 obtain⟨k,n,s,fa,fb,fc,fd,ls,ts⟩:=x
 have ht' : ts=[a,b]:=ht
 subst ht'
 have hk:iEq k 6=true:=h
 conv=>lhs;unfold ak
 rw [hk]
 simp only [J0]
theorem lu {x:Tm} (h:iEq x.k 6=false):ak x=([],x):=by
 obtain⟨k,n,s,fa,fb,fc,fd,ls,ts⟩:=x
 have hk:iEq k 6=false:=h
 unfold ak
 rw [hk]
theorem fK:∀(w:Nat) (x:Tm),wt x≤w→dG x→(ak x).1.length + wt (ak x).2≤wt x∧dG (ak x).2∧(∀y∈(ak x).1,dG y∧wt y≤wt x)
 | 0,x,h,_=>by rw [cr] at h;omega
 | w + 1,x,h,hx=>by
  obtain⟨h1,h2⟩:=(bX x).1 hx
  cases hk:iEq x.k 6 with
  | false=>rw [lu hk];exact⟨by simp,hx,by simp⟩
  | true=>
   obtain⟨a,b,ht⟩:=eO h1 (mL hk)
   rw [kj hk ht]
   have hb:=cz (x:=b) (y:=x) (by rw [ht];simp)
   have ha:=cz (x:=a) (y:=x) (by rw [ht];simp)
   obtain⟨k1,k2,k3⟩:=fK w b (by omega) (h2 b (by rw [ht];simp))
   refine⟨by simp only [aLc];omega,k2,fun y hy=>?_⟩
   cases hy with
   | head=>exact⟨h2 a (by rw [ht];simp),by omega⟩
   | tail _ hy=>exact⟨(k3 y hy).1,by have:=(k3 y hy).2;omega⟩
structure ma (x:Tm) (j:Nat) (l:List Tm) (cur:Tm):Prop where
 all:dG cur
 done:l=(ak x).1.take j
 rest:(ak cur).1=(ak x).1.drop j
 last:(ak cur).2=(ak x).2
theorem ma.next {x:Tm} {j:Nat} {l:List Tm} {cur:Tm} (h:ma x j l cur) (hj:j < (ak x).1.length):iEq cur.k 6=true∧∃a b,cur.ts=[a,b]∧ma x (j + 1) (l++[a]) b:=by
 obtain⟨h1,h2⟩:=(bX cur).1 h.all
 have hr:=h.rest
 cases hk:iEq cur.k 6 with
 | false=>
  rw [lu hk] at hr
  have:=congrArg List.length hr
  simp at this
  omega
 | true=>
  obtain⟨a,b,ht⟩:=eO h1 (mL hk)
  refine⟨rfl,a,b,ht,?_⟩
  rw [kj hk ht] at hr
  have hl:=h.last
  rw [kj hk ht] at hl
  have e:=List.drop_eq_getElem_cons hj
  rw [e] at hr
  injection hr with e1 e2
  refine⟨h2 b (by rw [ht];simp),?_,e2,hl⟩
  rw [h.done,List.take_add_one,aGe hj,e1]
  rfl
theorem ma.end_ {x:Tm} {l:List Tm} {cur:Tm} (h:ma x (ak x).1.length l cur):iEq cur.k 6=false∧l=(ak x).1∧cur=(ak x).2:=by
 obtain⟨h1,h2⟩:=(bX cur).1 h.all
 have hr:=h.rest
 rw [List.drop_length] at hr
 cases hk:iEq cur.k 6 with
 | true=>
  obtain⟨a,b,ht⟩:=eO h1 (mL hk)
  rw [kj hk ht] at hr
  cases hr
 | false=>
  have hl:=h.last
  rw [lu hk] at hl
  exact⟨rfl,by rw [h.done,List.take_length],hl⟩
theorem ma.start {x:Tm} (h:dG x):ma x 0 [] x:=⟨h,rfl,rfl,rfl⟩
def Ig (x:Tm) (H:List Blk) (T:List Nat) (q:V×St):Prop:=
 ∃T' tok,q=(.tuple [.list (au false (ak x).1) tok 0 (ae (ak x).1),aH (ak x).2],{ heap:=H,aA:=T' })∧aw T T' (ak x).1 tok
theorem h33 {n:Nat} {x:Tm} {H:List Blk} {T:List Nat} (hx:dG x) (hn:wt x + 2≤n) (hw:wt x < 1000000000):∃q,RN n (.f 33) [aH x] { heap:=H,aA:=T }=some q∧Ig x H T q:=by
 obtain⟨m,rfl⟩:=up (show 1≤n by omega)
 have hl:=(fK _ x (Nat.le_refl _) hx).1
 have h:∃q,frame Tryz.cfg (RN m) m 33 [aH x] { heap:=H,aA:=T }=some q∧Ig x H T q:=by
  refine aV (fn:=Tryz.f33) (p:=Ig x H T) rfl rfl ?_
  refine aB.loop 21 (σ:=(List Tm×Tm)×Tok×List Nat) (ak x).1.length (fun j s=>{ nt:=21,tmps:=[(1,.ptr (.loc 1) 0),(3,.ptr (.loc 3) 0),(4,.list (au false s.1.1) s.2.1 0 (ae s.1.1))],locs:=[(1,aC s.1.2),(3,ij)],fix:=[] })
   (fun _ s=>{ heap:=H,aA:=s.2.2 }) (fun j s=>ma x j s.1.1 s.1.2∧aw T s.2.2 s.1.1 s.2.1) (([],x),.tight,T) (by omega) ⟨ma.start hx,aw.start T⟩ ?_ ?_
  ·rintro j ⟨⟨l,cur⟩,tok,T1⟩ hj ⟨(hp:ma x j l cur),(hg:aw T T1 l tok)⟩
   obtain⟨hk,a,b,ht,hp'⟩:=hp.next hj
   refine ah.yes hk ?_
   refine ab.mk _ (show indexAddr Tryz.cfg 23 (.list (au cur.c cur.ts) (av cur.d) 0 (ae cur.ts)) (.int .i64 (.ofNat 0))=_ from bJ (by rw [ht];rfl)) ?_
   refine ab.mk _ (bs1 a 23 _ _ _ rfl) ?_
   obtain⟨T',aP,h1,h2⟩:=jW (LT:=23) (c:=false) (bH:=.tight) (H:=H) (done:=l) (new:=[a]) rfl (by have:=hp.done;rw [this,List.length_take];simp;omega) hg
   refine cN.mk _ _ (h1 _ _ rfl) ?_
   refine ab.mk _ (show indexAddr Tryz.cfg 23 (.list (au cur.c cur.ts) (av cur.d) 0 (ae cur.ts)) (.int .i64 (.ofNat 1))=_ from bJ (x:=b) (by rw [ht];rfl)) ?_
   exact⟨((l++[a],b),aP,T'),⟨hp',h2⟩,rfl,rfl⟩
  ·rintro⟨⟨l,cur⟩,tok,T1⟩ ⟨hp,hg⟩
   obtain⟨hk,rfl,rfl⟩:=hp.end_
   refine ah.no hk ?_
   exact⟨_,rfl,_,_,rfl,hg⟩
 obtain⟨q,h1,h2⟩:=h
 exact⟨q,bC rfl h1,h2⟩
theorem h56 {n:Nat} {x:Tm} {H:List Blk} {T:List Nat} (hx:dG x) (hn:wt x + 2≤n) (hw:wt x < 1000000000):∃q,RN n (.f 56) [aH x] { heap:=H,aA:=T }=some q∧Ig x H T q:=by
 obtain⟨m,rfl⟩:=up (show 1≤n by omega)
 have hl:=(fK _ x (Nat.le_refl _) hx).1
 have h:∃q,frame Tryz.cfg (RN m) m 56 [aH x] { heap:=H,aA:=T }=some q∧Ig x H T q:=by
  refine aV (fn:=Tryz.f56) (p:=Ig x H T) rfl rfl ?_
  refine aB.loop 20 (σ:=(List Tm×Tm)×Tok×List Nat) (ak x).1.length (fun j s=>{ nt:=20,tmps:=[(1,.ptr (.loc 1) 0),(2,.list (au false s.1.1) s.2.1 0 (ae s.1.1)),(3,.ptr (.loc 3) 0)],locs:=[(1,aC s.1.2),(3,ij)],fix:=[] })
   (fun _ s=>{ heap:=H,aA:=s.2.2 }) (fun j s=>ma x j s.1.1 s.1.2∧aw T s.2.2 s.1.1 s.2.1) (([],x),.tight,T) (by omega) ⟨ma.start hx,aw.start T⟩ ?_ ?_
  ·rintro j ⟨⟨l,cur⟩,tok,T1⟩ hj ⟨(hp:ma x j l cur),(hg:aw T T1 l tok)⟩
   obtain⟨hk,a,b,ht,hp'⟩:=hp.next hj
   refine ah.yes hk ?_
   refine ab.mk _ (show indexAddr Tryz.cfg 23 (.list (au cur.c cur.ts) (av cur.d) 0 (ae cur.ts)) (.int .i64 (.ofNat 0))=_ from bJ (by rw [ht];rfl)) ?_
   refine ab.mk _ (bs1 a 23 _ _ _ rfl) ?_
   obtain⟨T',aP,h1,h2⟩:=jW (LT:=23) (c:=false) (bH:=.tight) (H:=H) (done:=l) (new:=[a]) rfl (by have:=hp.done;rw [this,List.length_take];simp;omega) hg
   refine cN.mk _ _ (h1 _ _ rfl) ?_
   refine ab.mk _ (show indexAddr Tryz.cfg 23 (.list (au cur.c cur.ts) (av cur.d) 0 (ae cur.ts)) (.int .i64 (.ofNat 1))=_ from bJ (x:=b) (by rw [ht];rfl)) ?_
   exact⟨((l++[a],b),aP,T'),⟨hp',h2⟩,rfl,rfl⟩
  ·rintro⟨⟨l,cur⟩,tok,T1⟩ ⟨hp,hg⟩
   obtain⟨hk,rfl,rfl⟩:=hp.end_
   refine ah.no hk ?_
   exact⟨_,rfl,_,_,rfl,hg⟩
 obtain⟨q,h1,h2⟩:=h
 exact⟨q,bC rfl h1,h2⟩
mutual
noncomputable def aD:Tm→Tm×List Tm
 | .mk k n s a b c d ls ts=>match iEq k 4,ts,Bi ts with
  | true,[_,x],[r,_]=>(r.1,r.2++[x])
  | _,_,_=>(.mk k n s a b c d ls ts,[])
noncomputable def Bi:List Tm→List (Tm×List Tm)
 | []=>[]
 | t::ts=>aD t::Bi ts
end
theorem gf {x f a:Tm} (h:iEq x.k 4=true) (ht:x.ts=[f,a]):aD x=((aD f).1,(aD f).2++[a]):=by
 obtain⟨k,n,s,fa,fb,fc,fd,ls,ts⟩:=x
 have ht' : ts=[f,a]:=ht
 subst ht'
 have hk:iEq k 4=true:=h
 conv=>lhs;unfold aD
 rw [hk]
 simp only [Bi]
theorem hZ {x:Tm} (h:iEq x.k 4=false):aD x=(x,[]):=by
 obtain⟨k,n,s,fa,fb,fc,fd,ls,ts⟩:=x
 have hk:iEq k 4=false:=h
 unfold aD
 rw [hk]
theorem iA:∀(w:Nat) (x:Tm),wt x≤w→dG x→(aD x).2.length + wt (aD x).1≤wt x∧dG (aD x).1∧(∀y∈(aD x).2,dG y∧wt y≤wt x)∧iEq (aD x).1.k 4=false
 | 0,x,h,_=>by rw [cr] at h;omega
 | w + 1,x,h,hx=>by
  obtain⟨h1,h2⟩:=(bX x).1 hx
  cases hk:iEq x.k 4 with
  | false=>rw [hZ hk];exact⟨by simp,hx,by simp,hk⟩
  | true=>
   obtain⟨f,a,ht⟩:=eO h1 (l9 hk)
   rw [gf hk ht]
   have hf:=cz (x:=f) (y:=x) (by rw [ht];simp)
   have ha:=cz (x:=a) (y:=x) (by rw [ht];simp)
   obtain⟨k1,k2,k3,k4⟩:=iA w f (by omega) (h2 f (by rw [ht];simp))
   refine⟨by simp only [aLa,aLc,List.length_nil];omega,k2,fun y hy=>?_,k4⟩
   rcases List.mem_append.1 hy with hy | hy
   ·exact⟨(k3 y hy).1,by have:=(k3 y hy).2;omega⟩
   ·obtain rfl:=List.mem_singleton.1 hy
    exact⟨h2 y (by rw [ht];simp),by omega⟩
def Ff (x:Tm) (H:List Blk) (T:List Nat) (q:V×St):Prop:=
 ∃T' tok,q=(.tuple [aH (aD x).1,.list (au false (aD x).2) tok 0 (ae (aD x).2)],{ heap:=H,aA:=T' })∧aw T T' (aD x).2 tok
theorem h82:∀(n:Nat) (x:Tm) (H:List Blk) (T:List Nat),dG x→wt x + 2≤n→wt x < 1000000000→∃q,RN n (.f 82) [aH x] { heap:=H,aA:=T }=some q∧Ff x H T q
 | 0,x,H,T,_,h,_=>by omega
 | n + 1,x,H,T,hx,hn,hw=>by
  obtain⟨h1,h2⟩:=(bX x).1 hx
  have h:∃q,frame Tryz.cfg (RN n) n 82 [aH x] { heap:=H,aA:=T }=some q∧Ff x H T q:=by
   refine aV (fn:=Tryz.f82) (p:=Ff x H T) rfl rfl ?_
   cases hk:iEq x.k 4 with
   | false=>
    refine ah.yes (by rw [hk];rfl) ?_
    refine⟨_,rfl,T,.tight,?_,?_⟩
    ·rw [hZ hk];rfl
    ·rw [hZ hk];exact aw.start T
   | true=>
    obtain⟨f,a,ht⟩:=eO h1 (l9 hk)
    have hf:=cz (x:=f) (y:=x) (by rw [ht];simp)
    obtain⟨q,k1,T1,tok,rfl,hg⟩:=h82 n f H T (h2 f (by rw [ht];simp)) (by omega) (by omega)
    have hl:=(iA _ f (Nat.le_refl _) (h2 f (by rw [ht];simp))).1
    refine ah.no (by rw [hk];rfl) ?_
    refine ab.mk _ (show indexAddr Tryz.cfg 23 (.list (au x.c x.ts) (av x.d) 0 (ae x.ts)) (.int .i64 (.ofNat 0))=_ from bJ (x:=f) (by rw [ht];rfl)) ?_
    refine ag.mk _ _ k1 ?_
    refine ab.mk _ (show indexAddr Tryz.cfg 23 (.list (au x.c x.ts) (av x.d) 0 (ae x.ts)) (.int .i64 (.ofNat 1))=_ from bJ (x:=a) (by rw [ht];rfl)) ?_
    refine ab.mk _ (bs1 a 23 _ _ _ rfl) ?_
    obtain⟨T',aP,k3,k4⟩:=jW (LT:=23) (c:=false) (bH:=.tight) (H:=H) (done:=(aD f).2) (new:=[a]) rfl (by simp;omega) hg
    refine cN.mk _ _ (k3 _ _ rfl) ?_
    refine⟨_,rfl,T',aP,?_,?_⟩
    ·rw [gf hk ht];rfl
    ·rw [gf hk ht];exact k4
  obtain⟨q,k1,k2⟩:=h
  exact⟨q,bC rfl k1,k2⟩
section
variable {C:Cfg} {R:Run} {k fid nt:Nat} {F:FC} {A:Env} {S:St}
theorem xA {c:Code} {l:List Code} {r:Option (Ex×Env×St)} (h:dZ C R F k fid nt [] c A S fun e A S=>match e with | .normal=>gb C R k fid F l A S=r | e=>some (e,A,S)=r):gb C R k fid F (c::l) A S=r:=by
 obtain⟨e,A',S',h1,h2⟩:=cJ C R F c h
 show iter.andThen (evalCode C R k fid F c A S) (gb C R k fid F l)=r
 rw [h1]
 cases e with
 | normal=>exact h2
 | ret=>exact h2
 | exit i=>exact h2
end
theorem vr {C:Cfg} {R:Run} {F:FC} {ac:Nat→Acc} {ops l:List Oper} {i:Nat} {A A' : Env} {S S' : St} (h:vj C R F ac ops l i A S fun B U=>B=A'∧U=S'):bE C R F ac ops l i A S=some (A',S'):=by
 obtain⟨B,U,h1,rfl,rfl⟩:=jm C R F h
 exact h1
noncomputable def spE (cur:Tm):Env:={ nt:=27,tmps:=spT,locs:=[(1,aC cur),(2,ij)],fix:=[] }
theorem pV (A:Env) (h1:look 1 A.tmps=some (.ptr (.loc 1) 0)) (h2:look 2 A.tmps=some (.ptr (.loc 2) 0)):spR A St.empty=some { A with tmps:=spT }:=by
 unfold spR
 show (match look 1 A.tmps,look 2 A.tmps with | some (.ptr (.loc 1) 0),some (.ptr (.loc 2) 0)=>some { A with tmps:=spT } | _,_=>none)=_
 rw [h1,h2]
 rfl
theorem xB (sz:Nat) (b:Bool) (top:Nat) (rows:List V):dN (.list sz (av b) top rows)=true:=by cases b<;>rfl
theorem Fg (R:Run) (cur:Tm) (rows:List V) (hk:iEq cur.k 4=false):nX R (spE cur) rows=some (false,spE cur,rows):=by
 have h:fq R sp4 sp4 0 (spE cur)=some ({ nt:=27,tmps:=(11,.bool false)::(10,.int .u8 cur.k)::(9,.ptr (.loc 1) 0)::spT,locs:=[(1,aC cur),(2,ij)],fix:=[] },St.empty):=by
  refine vr ?_
  refine ah.no hk ?_
  exact⟨rfl,rfl⟩
 unfold nX
 rw [h]
 simp only
 rw [pV _ rfl rfl]
 rfl
theorem Dx (R:Run) (cur f a:Tm) (rows:List V) (hk:iEq cur.k 4=true) (ht:cur.ts=[f,a]) (hl:rows.length < 1000000000):nX R (spE cur) rows=some (true,spE f,rows++[aH a]):=by
 have h:fq R sp4 sp4 0 (spE cur)=some ({ nt:=27,tmps:=(11,.bool true)::(10,.int .u8 cur.k)::(9,.ptr (.loc 1) 0)::spT,locs:=[(1,aC cur),(2,ij)],fix:=[] },St.empty):=by
  refine vr ?_
  refine ah.yes hk ?_
  exact⟨rfl,rfl⟩
 have h5:∃ts,fq R sp5 (takeN 5 (fP 1 sp5)) 1 (spE cur)=some ({ nt:=27,tmps:=ts,locs:=[(1,aC cur),(2,ij)],fix:=[] },St.empty)∧look 17 ts=some (.list 5 .tight 0 [aH a])∧look 1 ts=some (.ptr (.loc 1) 0)∧look 2 ts=some (.ptr (.loc 2) 0):=by
  have:∃B U,fq R sp5 (takeN 5 (fP 1 sp5)) 1 (spE cur)=some (B,U)∧(B.nt=27∧B.locs=[(1,aC cur),(2,ij)]∧B.fix=[]∧U=St.empty∧look 17 B.tmps=some (.list 5 .tight 0 [aH a])∧look 1 B.tmps=some (.ptr (.loc 1) 0)∧look 2 B.tmps=some (.ptr (.loc 2) 0)):=by
   refine jm _ _ _ ?_
   refine ab.mk _ (show indexAddr Tryz.cfg 23 (.list (au cur.c cur.ts) (av cur.d) 0 (ae cur.ts)) (.int .i64 (.ofNat 1))=_ from bJ (x:=a) (by rw [ht];rfl)) ?_
   refine ab.mk _ (bs1 a 23 _ _ _ rfl) ?_
   refine⟨rfl,rfl,rfl,rfl,?_,rfl,rfl⟩
   show some (V.list 5 .tight 0 (ae [a]))=_
   rw [cU];rfl
  obtain⟨⟨nt,ts,ls,fx⟩,U,k1,rfl,rfl,rfl,rfl,k2,k3,k4⟩:=this
  exact⟨ts,k1,k2,k3,k4⟩
 obtain⟨ts,h5,g17,g1,g2⟩:=h5
 have h6:∃ts',fq R sp6 sp6 0 (spE cur)=some ({ nt:=27,tmps:=ts',locs:=[(1,aC f),(2,ij)],fix:=[] },St.empty)∧look 1 ts'=some (.ptr (.loc 1) 0)∧look 2 ts'=some (.ptr (.loc 2) 0):=by
  have:∃B U,fq R sp6 sp6 0 (spE cur)=some (B,U)∧(B.nt=27∧B.locs=[(1,aC f),(2,ij)]∧B.fix=[]∧U=St.empty∧look 1 B.tmps=some (.ptr (.loc 1) 0)∧look 2 B.tmps=some (.ptr (.loc 2) 0)):=by
   refine jm _ _ _ ?_
   refine ab.mk _ (show indexAddr Tryz.cfg 23 (.list (au cur.c cur.ts) (av cur.d) 0 (ae cur.ts)) (.int .i64 (.ofNat 0))=_ from bJ (x:=f) (by rw [ht];rfl)) ?_
   exact⟨rfl,rfl,rfl,rfl,rfl,rfl⟩
  obtain⟨⟨nt,ts,ls,fx⟩,U,k1,rfl,rfl,rfl,rfl,k3,k4⟩:=this
  exact⟨ts,k1,k3,k4⟩
 obtain⟨ts',h6,e1,e2⟩:=h6
 have hp:EC rows (some (.list 5 .tight 0 [aH a]))=some (rows++[aH a]):=by
  show (bif Nat.beq (aG (aC a)) 5 && isZero (aF (aC a)) && allB dN (aC a) && Nat.ble ((aG rows + 1) * 81) 140737488355328 then some (cq rows [.agg (aC a)]) else none)=_
  have hno:allB dN (aC a)=true:=cE.2 ⟨rfl,cE.2 ⟨rfl,cE.2 ⟨rfl,cE.2 ⟨xB _ _ _ _,cE.2 ⟨xB _ _ _ _,rfl⟩⟩⟩⟩⟩
  rw [hno,show Nat.ble ((aG rows + 1) * 81) 140737488355328=true from Nat.ble_eq_true_of_le (by rw [an];omega),bK]
  rfl
 unfold nX
 rw [h]
 simp only
 rw [pV _ rfl rfl]
 show (match fq R sp5 (takeN 5 (fP 1 sp5)) 1 (spE cur) with | some (A3,S3)=>_ | none=>none)=_
 rw [h5]
 simp only
 rw [pV _ g1 g2,g17,hp]
 show (match fq R sp6 sp6 0 (spE cur) with | some (A5,S5)=>_ | none=>none)=_
 rw [h6]
 simp only
 rw [pV _ e1 e2]
 rfl
theorem GQ (R:Run):∀(m:Nat) (cur:Tm) (rows:List V),dG cur→(aD cur).2.length < m→rows.length + wt cur < 1000000000→tW R m (spE cur) rows=some (spE (aD cur).1,rows++((aD cur).2.map aH).reverse)
 | 0,cur,rows,_,h,_=>by omega
 | m + 1,cur,rows,hx,hm,hl=>by
  obtain⟨h1,h2⟩:=(bX cur).1 hx
  show (match nX R (spE cur) rows with
   | some (true,A,rows)=>tW R m A rows
   | some (false,A,rows)=>some (A,rows)
   | none=>none)=_
  cases hk:iEq cur.k 4 with
  | false=>rw [Fg R cur rows hk,hZ hk];simp
  | true=>
   obtain⟨f,a,ht⟩:=eO h1 (l9 hk)
   have hf:=cz (x:=f) (y:=cur) (by rw [ht];simp)
   rw [Dx R cur f a rows hk ht (by omega)]
   rw [gf hk ht] at hm ⊢
   simp only
   rw [GQ R m f (rows++[aH a]) (h2 f (by rw [ht];simp)) (by simp at hm;omega) (by simp;omega)]
   simp
theorem Pb (R:Run) (h:Tm) (l:List Tm):uL R (spE h) ((l.map aH).reverse)=some (.tuple [aH h,.list 5 .no 0 (ae l)]):=by
 have h1:∃ts,fq R sp8 (takeN 1 sp8) 0 (spE h)=some ({ nt:=27,tmps:=ts,locs:=[(1,aC h),(2,ij)],fix:=[] },St.empty)∧look 26 ts=none∧ts=(25,aH h)::spT:=⟨_,by
  refine vr ?_
  exact⟨rfl,rfl⟩,rfl,rfl⟩
 obtain⟨ts,h1,h26,rfl⟩:=h1
 have h2:∃ts',fq R sp8 (takeN 1 (fP 2 sp8)) 2 { nt:=27,tmps:=(25,aH h)::spT,locs:=[(1,aC h),(2,ij)],fix:=[] }=some ({ nt:=27,tmps:=ts',locs:=[(1,aC h),(2,aC h)],fix:=[] },St.empty)∧look 1 ts'=some (.ptr (.loc 1) 0)∧look 2 ts'=some (.ptr (.loc 2) 0):=⟨_,by
  refine vr ?_
  exact⟨rfl,rfl⟩,rfl,rfl⟩
 obtain⟨ts',h2,g1,g2⟩:=h2
 unfold uL
 rw [h1]
 simp only [h26]
 show (match fq R sp8 (takeN 1 (fP 2 sp8)) 2 { nt:=27,tmps:=(25,aH h)::spT,locs:=[(1,aC h),(2,ij)],fix:=[] } with | some (A2,S2)=>_ | none=>none)=_
 rw [h2]
 show zd [aH h,.list 5 .no 0 ((l.map aH).reverse.reverse)]=_
 rw [List.reverse_reverse,← cU]
 have hpl:allB gA [aH h,.list 5 .no 0 (ae l)]=true:=by
  refine cE.2 ⟨?_,rfl⟩
  show List.all (aC h) dN=true
  simp only [List.all_cons,List.all_nil,xB,Bool.and_true]
  rfl
 unfold zd
 simp only [hpl,Bool.and_true]
 rfl
theorem xC {x:Tm} (h:bh x=true):x.s.length≤32∧x.ls.length≤20:=by
 refine⟨?_,?_⟩
 ·unfold bh at h
  simp only [Bool.and_eq_true] at h
  have hn:=h.2.1.1
  unfold l8 at hn
  cases hq:(iEq x.k 3 || iEq x.k 8) with
  | true=>
   rw [hq] at hn
   simp only [cond_true] at hn
   unfold mJ at hn
   simp only [Bool.and_eq_true,Bool.not_eq_true',cb,decide_eq_false_iff_not,an] at hn
   have:=hn.2
   simp at this
   omega
  | false=>
   rw [hq] at hn
   simp only [cond_false,decide_eq_true_eq] at hn
   rw [hn];simp
 ·have:=Dq h
  unfold jt at this
  exact Nat.le_of_ble_eq_true this
theorem J1:∀(w:Nat) (x:Tm),wt x≤w→dG x→wt x≤60 * dW x
 | 0,x,h,_=>by rw [cr] at h;omega
 | w + 1,x,h,hx=>by
  obtain⟨h1,h2⟩:=(bX x).1 hx
  obtain⟨k1,k2⟩:=xC h1
  rw [cr] at h ⊢
  rw [eM]
  have:∀ts:List Tm,wts ts≤w→(∀y∈ts,dG y)→wts ts≤60 * gB ts + ts.length:=by
   intro ts
   induction ts with
   | nil=>intro _ _;simp [wts]
   | cons t ts ih=>
    intro hw ha
    rw [wts] at hw ⊢
    rw [fR]
    have a1:=J1 w t (by omega) (ha t aMs)
    have a2:=ih (by omega) (fun y hy=>ha y (aMt _ hy))
    simp only [aLc];omega
  have:=this x.ts (by omega) h2
  have:=GH h1
  omega
theorem fv {x:Tm} (h:cM x=true):wt x≤4000000:=by
 have:=J1 _ x (Nat.le_refl _) (cH h)
 have:=jv h
 omega
theorem h67 {n:Nat} {x:Tm} {S:St} (hs:Sm x) (hn:wt x + 14≤n):RN n (.f 67) [aH x] S=some (.bool (cM x),S):=by
 obtain⟨m,rfl⟩:=up (show 13≤n by omega);exact E6 m x S hs (by omega)
theorem Ih {R:Run} {k:Nat} {x:Tm} (h67:R (.f 67) [aH x] St.empty=some (.bool true,St.empty)) (hx:dG x) (hk:wt x < k) (hw:wt x < 1000000000):pG R k [aH x]=some (.tuple [aH (aD x).1,.list 5 .no 0 (ae (aD x).2)]):=by
 have h1:∃ts,gb Tryz.cfg R k 154 (Tryz.cfg.fc 154) spC { nt:=(Go.Proofs.Tryz.f154).ntmps,tmps:=number 0 [aH x],locs:=[],fix:=[] } St.empty=some (.normal,{ nt:=27,tmps:=ts,locs:=[(1,aC x),(2,ij)],fix:=[] },St.empty)∧look 1 ts=some (.ptr (.loc 1) 0)∧look 2 ts=some (.ptr (.loc 2) 0):=⟨_,by
  refine xA (nt:=27) ?_
  refine xA (nt:=27) ?_
  refine ag.mk _ _ h67 ?_
  rfl,rfl,rfl⟩
 have hl:=(iA _ x (Nat.le_refl _) hx).1
 obtain⟨ts,h1,g1,g2⟩:=h1
 unfold pG
 rw [h1]
 simp only
 rw [pV _ g1 g2]
 show (bif Nat.blt 26 27 then match tW R k (spE x) [] with
       | some (A,rows)=>bif Nat.ble (aG rows) 9223372036854775807 then uL R A rows else none
       | none=>none
  else none)=_
 rw [GQ R k x [] hx (by omega) (by simp;omega)]
 simp only [List.nil_append]
 rw [show Nat.ble (aG ((aD x).2.map aH).reverse) 9223372036854775807=true from Nat.ble_eq_true_of_le (by rw [an];simp;omega)]
 exact Pb R _ _
theorem QA {n:Nat} {x:Tm} {S:St} (hm:cM x=true) (hs:Sm x) (hn:wt x + 20≤n):RN n (.f 154) [aH x] S=some (.tuple [aH (aD x).1,.list 5 .no 0 (ae (aD x).2)],S):=by
 have hx:=cH hm
 have hw:=fv hm
 obtain⟨m,rfl⟩:=up (show 1≤n by omega)
 have e:∀q,fD Tryz.cfg cO cW bW (m + 1) (.f 67) [aH x] St.empty=q→q=some (.bool true,St.empty):=by
  rintro q rfl
  have:=h67 (n:=m + 1) (S:=St.empty) hs (by omega)
  rw [hm] at this
  exact this
 have hg:=Ih (R:=fD Tryz.cfg cO cW bW (m + 1)) (k:=m + 1) (x:=x) (e _ rfl) hx (by omega) (by omega)
 show cX bW (cp cW (bT cO (m + 1) (fD Tryz.cfg cO cW bW (m + 1)))) (.f 154) [aH x] S=_
 unfold cX cp bT
 have hc:cO 154=some pG:=rfl
 have hr:bW 154=false:=rfl
 have hnn:cW 154=false:=rfl
 simp only [hr,hnn,hc]
 rw [show allB V.pure [aH x]=true from rfl,br,aq,hg]
 rfl
end Go.Ev
namespace Go.Ev
open Go.Proofs Go.RowKit
set_option maxRecDepth 100000
set_option linter.unusedVariables false
set_option linter.unusedSimpArgs false
structure Ct where
 name:List UInt8
 ty:Tm
structure In where
 name:List UInt8
 ty:Tm
 cs:List Ct
structure Dl where
 kind:Int
 params:Int
 name:List UInt8
 ty:Tm
 val:Tm
 fixed:Int
 ai:List In
@[reducible] noncomputable def mb (c:Ct):List V:=[.str c.name,.int .u8 c.ty.k,.int .i64 c.ty.n,.str c.ty.s,.list (au c.ty.a c.ty.ls) (av c.ty.b) 0 (c.ty.ls.map enc),.list (au c.ty.c c.ty.ts) (av c.ty.d) 0 (ae c.ty.ts)]
@[reducible] noncomputable def fw (c:Ct):V:=.agg (mb c)
@[reducible] noncomputable def eP (c:In):List V:=[.str c.name,.int .u8 c.ty.k,.int .i64 c.ty.n,.str c.ty.s,.list (au c.ty.a c.ty.ls) (av c.ty.b) 0 (c.ty.ls.map enc),.list (au c.ty.c c.ty.ts) (av c.ty.d) 0 (ae c.ty.ts),.list 6 .no 0 (c.cs.map fw)]
@[reducible] noncomputable def encI (c:In):V:=.agg (eP c)
@[reducible] noncomputable def bM (d:Dl):List V:=[.int .u8 d.kind,.int .i64 d.params,.str d.name,
  .int .u8 d.ty.k,.int .i64 d.ty.n,.str d.ty.s,.list (au d.ty.a d.ty.ls) (av d.ty.b) 0 (d.ty.ls.map enc),.list (au d.ty.c d.ty.ts) (av d.ty.d) 0 (ae d.ty.ts),
  .int .u8 d.val.k,.int .i64 d.val.n,.str d.val.s,.list (au d.val.a d.val.ls) (av d.val.b) 0 (d.val.ls.map enc),.list (au d.val.c d.val.ts) (av d.val.d) 0 (ae d.val.ts),
  .int .i64 d.fixed,.list 7 .no 0 (d.ai.map encI)]
@[reducible] noncomputable def eB (d:Dl):V:=.agg (bM d)
theorem Fh (d:Dl):(eB d).strip=eB d:=by
 show V.agg [_,_,_,_,_,_,aj (.list _ (av d.ty.b) 0 _),aj (.list _ (av d.ty.d) 0 _),_,_,_,aj (.list _ (av d.val.b) 0 _),aj (.list _ (av d.val.d) 0 _),_,_]=_
 rw [gQ,gQ,gQ,gQ]
 rfl
theorem dH (d:Dl) (l:List V):bg V.strip (eB d::l)=eB d::bg V.strip l:=by
 show (eB d).strip::bg V.strip l=_
 rw [Fh]
theorem ltM {α:Type} {f:α→V} {xs:List α} {j:Nat} (h:j < xs.length):iLt (.ofNat j) (.ofNat (aG (xs.map f)))=true:=by rw [an,aLm];exact dC h
theorem geM {α:Type} {f:α→V} {xs:List α} {j:Nat} (h:¬j < xs.length):iLt (.ofNat j) (.ofNat (aG (xs.map f)))=false:=by rw [an,aLm];exact fJ h
theorem dI {α:Type} {LT ET sz by' : Nat} {z' : List V} {ei:TI} {f:α→List V} {xs:List α} {tk:Tok} {j:Nat} {x:α} (hl:Tryz.cfg.ti LT=some { kind:=.slice ET,size:=sz,bytes:=by',zero:=z' }) (he:Tryz.cfg.ti ET=some ei) (h:xs[j]?=some x) :
 indexAddr Tryz.cfg LT (.list ei.size tk 0 (xs.map fun a=>V.agg (f a))) (.int .i64 (.ofNat j))=some (.imm 0 (f x)):=by
 have hj:j < xs.length:=(aGs h).1
 unfold indexAddr
 rw [hl]
 simp only [he]
 rw [an,aLm,pP hj]
 simp only
 rw [bR,List.getElem?_map,h]
 show (bif Nat.beq ei.size ei.size then some (V.imm 0 (f x)) else none)=_
 rw [show Nat.beq ei.size ei.size=true by simp]
 rfl
theorem aO {is:List In} {j:Nat} {x:In} (h:is[j]?=some x):indexAddr Tryz.cfg 26 (.list 7 .no 0 (is.map encI)) (.int .i64 (.ofNat j))=some (.imm 0 (eP x)):=dI (ei:=Tryz.ti45) rfl rfl h
theorem ed {cs:List Ct} {j:Nat} {x:Ct} (h:cs[j]?=some x):indexAddr Tryz.cfg 43 (.list 6 .no 0 (cs.map fw)) (.int .i64 (.ofNat j))=some (.imm 0 (mb x)):=dI (ei:=Tryz.ti48) rfl rfl h
noncomputable def dw {α:Type} (p:α→Bool):List α→Nat→Option Nat
 | [],_=>none
 | a::l,j=>match p a with | true=>some j | false=>dw p l (j + 1)
noncomputable def qM:Option Nat→Int | some j=>.ofNat j | none=>-1
theorem og {α:Type} {p:α→Bool} {xs:List α} {j:Nat} {x:α} (h:xs[j]?=some x):dw p (xs.drop j) j=match p x with | true=>some j | false=>dw p (xs.drop (j + 1)) (j + 1):=by
 obtain⟨hj,e⟩:=aGs h
 rw [List.drop_eq_getElem_cons hj,e];rfl
theorem mc {α:Type} {p:α→Bool} {xs:List α}:dw p (xs.drop xs.length) xs.length=none:=by rw [List.drop_length];rfl
theorem GR {α:Type} {p:α→Bool}:∀{xs:List α} {j k:Nat},dw p xs j=some k→∃x,xs[k - j]?=some x∧j≤k∧p x=true
 | [],_,_,h=>by cases h
 | a::l,j,k,h=>by
  unfold dw at h
  cases hp:p a with
  | true=>rw [hp] at h;cases h;exact⟨a,by simp,Nat.le_refl _,hp⟩
  | false=>
   rw [hp] at h
   obtain⟨x,h1,h2,h3⟩:=GR h
   refine⟨x,?_,by omega,h3⟩
   rw [show k - j=(k - (j + 1)) + 1 by omega];simpa using h1
noncomputable def eQ (is:List In) (s:List UInt8):Int:=qM (dw (fun i=>decide (i.name=s)) is 0)
theorem h83 {n:Nat} {d:Dl} {s:List UInt8} {S:St} (hn:d.ai.length + 2≤n) (hl:d.ai.length < 1000000000):RN n (.f 83) [eB d,.str s] S=some (.int .i64 (eQ d.ai s),S):=by
 obtain⟨m,rfl⟩:=up (show 1≤n by omega)
 have h:frame Tryz.cfg (RN m) m 83 [eB d,.str s] St.empty=some (.int .i64 (eQ d.ai s),St.empty):=by
  refine aL Tryz.cfg _ (fn:=Tryz.f83) rfl rfl ?_
  refine aB.loop 22 (σ:=Unit) d.ai.length (fun j _=>{ nt:=22,tmps:=[(1,.str s),(2,.ptr (.loc 2) 0),(5,.int .i64 (.ofNat j))],locs:=[(2,bM d)],fix:=[] }) (fun _ _=>St.empty)
   (fun j _=>eQ d.ai s=qM (dw (fun i=>decide (i.name=s)) (d.ai.drop j) j)) () (by omega) rfl ?_ ?_
  ·intro j _ hj hp
   obtain⟨x,hx⟩ : ∃x,d.ai[j]?=some x:=⟨_,aGe hj⟩
   rw [og hx] at hp
   refine ah.yes (ltM hj) ?_
   refine ab.mk _ (aO hx) ?_
   refine ab.mkB (jJ) (fun he=>?_) (fun he=>?_)
   ·rw [he] at hp
    rw [hp];rfl
   ·rw [he] at hp
    refine ab.mk _ (az (by omega)) ?_
    exact⟨(),hp,rfl,rfl⟩
  ·intro _ hp
   rw [mc] at hp
   refine ah.no (geM (by omega)) ?_
   rw [hp];rfl
 exact bG h (by simp only [dH,nz,aq]) rfl rfl rfl rfl rfl
mutual
noncomputable def mW (p:Tm→Bool):Tm→Bool
 | .mk k n s a b c d ls ts=>p (.mk k n s a b c d ls ts) || oL p ts
noncomputable def oL (p:Tm→Bool):List Tm→Bool
 | []=>false
 | t::ts=>mW p t || oL p ts
end
theorem Bj (p:Tm→Bool) (x:Tm):mW p x=(p x || oL p x.ts):=by cases x;rw [mW];rfl
theorem xD (p:Tm→Bool) (ts:List Tm):oL p ts=ts.any (mW p):=by
 induction ts with
 | nil=>rw [oL];rfl
 | cons t ts ih=>rw [oL,ih];rfl
noncomputable def me (is:List In) (t:Tm):Bool:=iEq t.k 3 && !iLt (eQ is t.s) 0
noncomputable def jz (is:List In) (t:Tm):Bool:=mW (me is) t
theorem xE {α:Type} {p:α→Bool} {xs:List α} {j:Nat} {x:α} (h:xs[j]?=some x):(xs.drop j).any p=(p x || (xs.drop (j + 1)).any p):=by
 obtain⟨hj,e⟩:=aGs h
 rw [List.drop_eq_getElem_cons hj,e];rfl
noncomputable def SM:Code:=jr Tryz.f85 0
theorem J2 (n k:Nat) (d:Dl) (x:Tm) (S:St) (K:Ex→Env→St→Prop) (hl:x.ts.length < 1000000000)
 (dy:∀y∈x.ts,RN n (.f 85) [eB d,aH y] S=some (.bool (jz d.ai y),S))
 (hT:oL (me d.ai) x.ts=true→K .ret { nt:=30,tmps:=[(4,.bool true)],locs:=[(2,bM d),(3,aC x)],fix:=[] } S)
 (hE:oL (me d.ai) x.ts=false→K (.exit 0) { nt:=30,tmps:=[(2,.ptr (.loc 2) 0),(3,.ptr (.loc 3) 0),(5,.int .i64 (.ofNat x.ts.length)),(20,.bool false)],locs:=[(2,bM d),(3,aC x)],fix:=[] } S) (f:Nat) (hf:x.ts.length < f) :
 aB (iter (evalCode Tryz.cfg (RN n) k 85 (Tryz.cfg.fc 85) SM) f { nt:=30,tmps:=[(2,.ptr (.loc 2) 0),(3,.ptr (.loc 3) 0),(5,.int .i64 0)],locs:=[(2,bM d),(3,aC x)],fix:=[] } S) K:=by
 refine aB.loop 30 (σ:=Unit) x.ts.length (fun j _=>{ nt:=30,tmps:=[(2,.ptr (.loc 2) 0),(3,.ptr (.loc 3) 0),(5,.int .i64 (.ofNat j))],locs:=[(2,bM d),(3,aC x)],fix:=[] }) (fun _ _=>S)
  (fun j _=>oL (me d.ai) x.ts=(x.ts.drop j).any (jz d.ai)) () hf (by rw [xD];rfl) ?_ ?_
 ·intro j _ hj hp
  obtain⟨y,hy⟩ : ∃y,x.ts[j]?=some y:=⟨_,aGe hj⟩
  rw [xE hy] at hp
  refine ah.yes (gE hj) ?_
  refine ab.mk _ (bJ hy) ?_
  refine ag.mkB (dy y (aMg hy)) (fun he=>?_) (fun he=>?_)
  ·rw [he] at hp
   exact hT hp
  ·rw [he] at hp
   refine ab.mk _ (az (by omega)) ?_
   exact⟨(),hp,rfl,rfl⟩
 ·intro _ hp
  rw [List.drop_length] at hp
  refine ah.no (gG (by omega)) ?_
  exact hE hp
theorem h85:∀(n:Nat) (d:Dl) (x:Tm) (S:St),d.ai.length + wt x + 3≤n→d.ai.length < 1000000000→wt x < 1000000000→RN n (.f 85) [eB d,aH x] S=some (.bool (jz d.ai x),S)
 | 0,d,x,S,h,_,_=>by omega
 | n + 1,d,x,S,hn,hl,hw=>by
  have hlen:x.ts.length≤wts x.ts:=hV _
  have hw':=cr x
  have h:frame Tryz.cfg (RN n) n 85 [eB d,aH x] St.empty=some (.bool (jz d.ai x),St.empty):=by
   refine aL Tryz.cfg _ (fn:=Tryz.f85) rfl rfl ?_
   have hs:jz d.ai x=(me d.ai x || oL (me d.ai) x.ts):=Bj _ _
   have dy:∀y∈x.ts,RN n (.f 85) [eB d,aH y] St.empty=some (.bool (jz d.ai y),St.empty):=fun y hy=>h85 n d y _ (by have:=cz hy;omega) hl (by have:=cz hy;omega)
   refine ah.mk (fun h3=>?_) (fun h3=>?_)
   ·refine ag.mk _ _ (h83 (by omega) hl) ?_
    refine ah.mk (fun hq=>?_) (fun hq=>?_)
    ·rw [hs,show me d.ai x=true by unfold me;rw [h3,hq];rfl]
     rfl
    ·have hz:me d.ai x=false:=by unfold me;rw [h3,hq];rfl
     rw [hs,hz]
     refine J2 n n d x _ _ (by omega) dy (fun ha=>?_) (fun ha=>?_) n (by omega)
     ·rw [ha];rfl
     ·rw [ha];rfl
   ·have hz:me d.ai x=false:=by unfold me;rw [h3];rfl
    rw [hs,hz]
    refine J2 n n d x _ _ (by omega) dy (fun ha=>?_) (fun ha=>?_) n (by omega)
    ·rw [ha];rfl
    ·rw [ha];rfl
  exact bG h (by simp only [dH,br,aq]) rfl rfl rfl rfl rfl
noncomputable def fT (is:List In) (l:List Tm):Bool:=l.any (jz is)
theorem h37 {n:Nat} {d:Dl} {xs:List Tm} {c e:Bool} {S:St} {w:Nat} (hw:∀y∈xs,wt y≤w) (hn:d.ai.length + w + xs.length + 5≤n) (hl:d.ai.length < 1000000000) (hww:w < 1000000000) (hxl:xs.length < 1000000000) :
 RN n (.f 37) [eB d,.list (au c xs) (av e) 0 (ae xs)] S=some (.bool (fT d.ai xs),S):=by
 obtain⟨m,rfl⟩:=up (show 1≤n by omega)
 have h:frame Tryz.cfg (RN m) m 37 [eB d,.list (au c xs) (av e) 0 (ae xs)] St.empty=some (.bool (fT d.ai xs),St.empty):=by
  refine aL Tryz.cfg _ (fn:=Tryz.f37) rfl rfl ?_
  refine aB.loop 18 (σ:=Unit) xs.length (fun j _=>{ nt:=18,tmps:=[(1,.list (au c xs) (av e) 0 (ae xs)),(2,.ptr (.loc 2) 0),(5,.int .i64 (.ofNat j))],locs:=[(2,bM d)],fix:=[] }) (fun _ _=>St.empty)
   (fun j _=>fT d.ai xs=(xs.drop j).any (jz d.ai)) () (by omega) rfl ?_ ?_
  ·intro j _ hj hp
   obtain⟨y,hy⟩ : ∃y,xs[j]?=some y:=⟨_,aGe hj⟩
   have:=hw y (aMg hy)
   rw [xE hy] at hp
   refine ah.yes (gE hj) ?_
   refine ab.mk _ (bJ hy) ?_
   refine ag.mkB (h85 m d y _ (by omega) hl (by omega)) (fun he=>?_) (fun he=>?_)
   ·rw [he] at hp
    rw [hp];rfl
   ·rw [he] at hp
    refine ab.mk _ (az (by omega)) ?_
    exact⟨(),hp,rfl,rfl⟩
  ·intro _ hp
   rw [List.drop_length] at hp
   refine ah.no (gG (by omega)) ?_
   rw [hp];rfl
 exact bG h (by simp only [dH,dp,aq]) rfl rfl rfl rfl rfl
theorem GS:∀(w:Nat) (x:Tm),wt x≤w→dW x≤wt x
 | 0,x,h=>by rw [cr] at h;omega
 | w + 1,x,h=>by
  rw [eM,cr x]
  rw [cr] at h
  have:∀ts:List Tm,wts ts≤w→gB ts≤wts ts:=by
   intro ts
   induction ts with
   | nil=>intro _;simp [gB,wts]
   | cons t ts ih=>
    intro hw
    rw [wts] at hw ⊢
    rw [fR]
    have a1:=GS w t (by omega)
    have a2:=ih (by omega)
    omega
  have:=this x.ts (by omega)
  omega
theorem J3:∀(w:Nat) (x:Tm),wt x≤w→dG x→Sm x
 | 0,x,h,_=>by rw [cr] at h;omega
 | w + 1,x,h,hx=>by
  obtain⟨h1,h2⟩:=(bX x).1 hx
  obtain⟨k1,k2⟩:=xC h1
  exact (gR x).2 ⟨⟨by omega,by omega⟩,fun y hy=>J3 w y (by have:=cz hy;omega) (h2 y hy)⟩
theorem dG.sm {x:Tm} (h:dG x):Sm x:=J3 _ x (Nat.le_refl _) h
theorem h27 {n:Nat} {a b:Tm} {S:St} (ha:dG a) (hn:wt a + 1≤n) (hw:wt a < 1000000000):RN n (.f 27) [aH a,aH b] S=some (.bool (dx a b),S):=
 E7 n a b S ha.sm (by have:=GS _ a (Nat.le_refl _);omega) (by omega)
theorem rR {H:List Blk} {T0 T:List Nat} {done new:List Lv} {tok bH:Tok} {c:Bool} (hlen:done.length + new.length < 1000000000) (hg:aw T0 T done tok) :
 ∃T' aP,(∀(A:Env) (ac:Acc),ac.heap=true→append Tryz.cfg A { heap:=H,aA:=T } ac 22 (.list (au false done) tok 0 (done.map enc)) (.list (au c new) bH 0 (new.map enc))=some (.list (au false (done++new)) aP 0 ((done++new).map enc),{ heap:=H,aA:=T' }))∧aw T0 T' (done++new) aP:=by
 have h:=dP (LT:=22) (ET:=51) (ei:=Tryz.ti51) (H:=H) (T0:=T0) (T:=T) (done:=done.map enc) (new:=new.map enc) (tok:=tok) (bH:=bH) (sz2:=au c new) rfl rfl (by decide) (by decide)
  (by rw [aLm,aLm];exact hlen) ((aw.map (List.map enc) (fun l=>by simp)).2 hg) (by
   rcases jx c new with h | h
   ·exact .inl (by rw [h];rfl)
   ·exact .inr h)
 obtain⟨T',aP,h1,h2⟩:=h
 rw [← List.map_append] at h1 h2
 refine⟨T',aP,?_,(aw.map (List.map enc) (fun l=>by simp)).1 h2⟩
 rw [show Tryz.ti51.size=5 from rfl,GN,GN] at h1
 exact h1
theorem bsL (l:Lv):buildSlice Tryz.cfg 22 1 [(0,enc l)]=some (.list (au false [l]) .tight 0 ([l].map enc)):=rfl
noncomputable def eW (n:Nat):List Lv:=(List.range n).map fun i=>(bY (.ofNat i)).1
theorem fk (n:Nat):(eW n).length=n:=by unfold eW;simp
theorem Dy (n j:Nat) (h:j < n):(eW n).take (j + 1)=(eW n).take j++[(bY (.ofNat j)).1]:=by
 unfold eW
 rw [List.take_add_one,← List.map_take,List.getElem?_map,List.getElem?_range h]
 rfl
@[reducible] noncomputable def NR (d:Nat):Option Lv→List (Nat×List V)
  | none=>[]
  | some l=>[(d,dQ l)]
def J4 (m:Nat) (H:List Blk) (T:List Nat) (q:V×St):Prop:=∃T' tok,q=(.list (au false (eW m)) tok 0 ((eW m).map enc),{ heap:=H,aA:=T' })∧aw T T' (eW m) tok
theorem h22 {n:Nat} {i:Int} {S:St} (hn:2≤n):RN n (.f 22) [.int .i64 i] S=some (.tuple [enc (bY i).1,.int .i64 (bY i).2],S):=by
 obtain⟨m,rfl⟩:=up hn;exact OX m i S
theorem h18 {n:Nat} {i:Int} {S:St} (hn:7≤n):RN n (.f 18) [.int .i64 i] S=some (.tuple [enc (bY i).1,.int .i64 (bY i).2],S):=by
 obtain⟨m,rfl⟩:=up hn;exact OU m i S
theorem h84 {n m:Nat} {H:List Blk} {T:List Nat} (hn:m + 4≤n) (hm:m < 1000000000):∃q,RN n (.f 84) [.int .i64 (.ofNat m)] { heap:=H,aA:=T }=some q∧J4 m H T q:=by
 obtain⟨k,rfl⟩:=up (show 1≤n by omega)
 have h:∃q,frame Tryz.cfg (RN k) k 84 [.int .i64 (.ofNat m)] { heap:=H,aA:=T }=some q∧J4 m H T q:=by
  refine aV (fn:=Tryz.f84) (p:=J4 m H T) rfl rfl ?_
  refine aB.loop 22 (σ:=Option Lv×Tok×List Nat) m (fun j s=>{ nt:=22,tmps:=[(0,.int .i64 (.ofNat m)),(3,.list (au false ((eW m).take j)) s.2.1 0 (((eW m).take j).map enc)),(4,.int .i64 (.ofNat j))],locs:=NR 5 s.1,fix:=[] })
   (fun _ s=>{ heap:=H,aA:=s.2.2 }) (fun j s=>aw T s.2.2 ((eW m).take j) s.2.1) (none,.tight,T) (by omega) (aw.start T) ?_ ?_
  ·rintro j ⟨o,tok,T1⟩ hj hg
   obtain⟨T',aP,h1,h2⟩:=rR (c:=false) (bH:=.tight) (H:=H) (new:=[(bY (.ofNat j)).1]) (by rw [List.length_take,fk];simp;omega) hg
   rw [← Dy m j hj] at h1 h2
   cases o with
   | none=>
    refine ah.yes (dC hj) ?_
    refine ag.mk _ _ (h22 (by omega)) ?_
    refine ab.mk _ (bsL _) ?_
    refine cN.mk _ _ (h1 _ _ rfl) ?_
    refine ab.mk _ (az (by omega)) ?_
    exact⟨(some (bY (.ofNat j)).1,aP,T'),h2,rfl,rfl⟩
   | some l=>
    refine ah.yes (dC hj) ?_
    refine ag.mk _ _ (h22 (by omega)) ?_
    refine ab.mk _ (bsL _) ?_
    refine cN.mk _ _ (h1 _ _ rfl) ?_
    refine ab.mk _ (az (by omega)) ?_
    exact⟨(some (bY (.ofNat j)).1,aP,T'),h2,rfl,rfl⟩
  ·rintro⟨o,tok,T1⟩ hg
   rw [List.take_of_length_le (by rw [fk];exact Nat.le_refl _)] at hg ⊢
   cases o with
   | none=>
    refine ah.no (fJ (by omega)) ?_
    exact⟨_,rfl,_,_,rfl,hg⟩
   | some l=>
    refine ah.no (fJ (by omega)) ?_
    exact⟨_,rfl,_,_,rfl,hg⟩
 obtain⟨q,h1,h2⟩:=h
 exact⟨q,bC rfl h1,h2⟩
theorem h19 {n m:Nat} {S:St} (hn:m + 9≤n) (hm:m < 1000000000):RN n (.f 19) [.int .i64 (.ofNat m)] S=some (.list (au false (eW m)) (av (eW m).isEmpty) 0 ((eW m).map enc),S):=by
 obtain⟨k,rfl⟩:=up (show 1≤n by omega)
 have h:∃q,frame Tryz.cfg (RN k) k 19 [.int .i64 (.ofNat m)] St.empty=some q∧J4 m [] [] q:=by
  refine aV (fn:=Tryz.f19) (p:=J4 m [] []) rfl rfl ?_
  refine aB.loop 21 (σ:=Option Lv×Tok×List Nat) m (fun j s=>{ nt:=21,tmps:=[(2,.list (au false ((eW m).take j)) s.2.1 0 (((eW m).take j).map enc)),(6,.int .i64 (.ofNat m)),(7,.int .i64 (.ofNat j))],locs:=NR 4 s.1,fix:=[] })
   (fun _ s=>{ heap:=[],aA:=s.2.2 }) (fun j s=>aw [] s.2.2 ((eW m).take j) s.2.1) (none,.tight,[]) (by omega) (aw.start []) ?_ ?_
  ·rintro j ⟨o,tok,T1⟩ hj hg
   obtain⟨T',aP,h1,h2⟩:=rR (c:=false) (bH:=.tight) (H:=[]) (new:=[(bY (.ofNat j)).1]) (by rw [List.length_take,fk];simp;omega) hg
   rw [← Dy m j hj] at h1 h2
   cases o with
   | none=>
    refine ah.yes (dC hj) ?_
    refine ag.mk _ _ (h18 (by omega)) ?_
    refine ab.mk _ (bsL _) ?_
    refine cN.mk _ _ (h1 _ _ rfl) ?_
    refine ab.mk _ (az (by omega)) ?_
    exact⟨(some (bY (.ofNat j)).1,aP,T'),h2,rfl,rfl⟩
   | some l=>
    refine ah.yes (dC hj) ?_
    refine ag.mk _ _ (h18 (by omega)) ?_
    refine ab.mk _ (bsL _) ?_
    refine cN.mk _ _ (h1 _ _ rfl) ?_
    refine ab.mk _ (az (by omega)) ?_
    exact⟨(some (bY (.ofNat j)).1,aP,T'),h2,rfl,rfl⟩
  ·rintro⟨o,tok,T1⟩ hg
   rw [List.take_of_length_le (by rw [fk];exact Nat.le_refl _)] at hg ⊢
   cases o with
   | none=>
    refine ah.no (fJ (by omega)) ?_
    exact⟨_,rfl,_,_,rfl,hg⟩
   | some l=>
    refine ah.no (fJ (by omega)) ?_
    exact⟨_,rfl,_,_,rfl,hg⟩
 obtain⟨q,h1,T',tok,rfl,hg⟩:=h
 refine bG h1 rfl rfl rfl rfl rfl ?_
 rw [← hg.eN]
 cases tok<;>rfl
noncomputable def oh (n:Nat) (xs ys:List Tm):Bool:=((xs.take n).zip (ys.take n)).all fun p=>dx p.1 p.2
theorem gg {α:Type} {p:α→Bool} {xs:List α} {j:Nat} {x:α} (h:xs[j]?=some x):(xs.drop j).all p=(p x && (xs.drop (j + 1)).all p):=by
 obtain⟨hj,e⟩:=aGs h
 rw [List.drop_eq_getElem_cons hj,e];rfl
theorem h81 {n m:Nat} {xs ys:List Tm} {c e c' e' : Bool} {S:St} {w:Nat} (hx:∀y∈xs,dG y∧wt y≤w) (h1:m≤xs.length) (h2:m≤ys.length) (hn:m + w + 3≤n) (hm:m < 1000000000) (hw:w < 1000000000) :
 RN n (.f 81) [.list (au c xs) (av e) 0 (ae xs),.list (au c' ys) (av e') 0 (ae ys),.int .i64 (.ofNat m)] S=some (.bool (oh m xs ys),S):=by
 obtain⟨k,rfl⟩:=up (show 1≤n by omega)
 have h:frame Tryz.cfg (RN k) k 81 [.list (au c xs) (av e) 0 (ae xs),.list (au c' ys) (av e') 0 (ae ys),.int .i64 (.ofNat m)] St.empty=some (.bool (oh m xs ys),St.empty):=by
  refine aL Tryz.cfg _ (fn:=Tryz.f81) rfl rfl ?_
  refine aB.loop 23 (σ:=Unit) m (fun j _=>{ nt:=23,tmps:=[(0,.list (au c xs) (av e) 0 (ae xs)),(1,.list (au c' ys) (av e') 0 (ae ys)),(2,.int .i64 (.ofNat m)),(7,.int .i64 (.ofNat j))],locs:=[],fix:=[] }) (fun _ _=>St.empty)
   (fun j _=>oh m xs ys=(((xs.take m).zip (ys.take m)).drop j).all fun p=>dx p.1 p.2) () (by omega) rfl ?_ ?_
  ·intro j _ hj hp
   obtain⟨x,hx1⟩ : ∃x,xs[j]?=some x:=⟨_,aGe (by omega)⟩
   obtain⟨y,hy1⟩ : ∃y,ys[j]?=some y:=⟨_,aGe (by omega)⟩
   have hz:((xs.take m).zip (ys.take m))[j]?=some (x,y):=by
    rw [List.getElem?_zip_eq_some]
    exact⟨by rw [List.getElem?_take_of_lt hj];exact hx1,by rw [List.getElem?_take_of_lt hj];exact hy1⟩
   rw [gg hz] at hp
   obtain⟨a1,a2⟩:=hx x (aMg hx1)
   refine ah.yes (dC hj) ?_
   refine ab.mk _ (bJ hx1) ?_
   refine ab.mk _ (bJ hy1) ?_
   refine ag.mkB (h27 a1 (by omega) (by omega)) (fun he=>?_) (fun he=>?_)
   ·rw [he] at hp
    refine ab.mk _ (az (by omega)) ?_
    exact⟨(),hp,rfl,rfl⟩
   ·rw [he] at hp
    rw [hp];rfl
  ·intro _ hp
   rw [List.drop_of_length_le (by simp;omega)] at hp
   refine ah.no (fJ (by omega)) ?_
   rw [hp];rfl
 exact bG h (by simp only [bx,dp,aq]) rfl rfl rfl rfl rfl
noncomputable def aZ (d:Dl) (x:In):Int:=.ofNat (ak x.ty).1.length - d.fixed
theorem h34 {n j:Nat} {d:Dl} {x:In} {S:St} (hx:d.ai[j]?=some x) (ha:dG x.ty) (hw:wt x.ty < 1000000000) (hn:wt x.ty + 3≤n) (hf:Bd d.fixed):RN n (.f 34) [eB d,.int .i64 (.ofNat j)] S=some (.int .i64 (aZ d x),S):=by
 obtain⟨k,rfl⟩:=up (show 1≤n by omega)
 obtain⟨q,h1,T',tok,rfl,hg⟩:=h33 (n:=k) (x:=x.ty) (H:=[]) (T:=[]) ha (by omega) hw
 have hl:=(fK _ x.ty (Nat.le_refl _) ha).1
 have h:frame Tryz.cfg (RN k) k 34 [eB d,.int .i64 (.ofNat j)] St.empty=some (.int .i64 (aZ d x),{ heap:=[],aA:=T' }):=by
  refine aL Tryz.cfg _ (fn:=Tryz.f34) rfl rfl ?_
  refine ab.mk _ (aO hx) ?_
  refine ag.mk _ _ h1 ?_
  refine ab.mk (.int .i64 (aZ d x)) ?_ ?_
  ·rw [al]
   exact pT (by unfold Bd at hf;simp only [aOn];omega) (by unfold Bd at hf;simp only [aOn];omega)
  ·rfl
 exact bG h (by simp only [dH,bx,aq]) rfl rfl rfl rfl rfl
noncomputable def uU (fx:Nat) (l:List Tm) (aa:Int):Bool:=(List.range fx).all fun i=>match l[i]? with | some x=>iEq x.k 2 && iEq x.n (aa - 1 - .ofNat i) | none=>false
noncomputable def kI (d:Dl) (h:Tm) (l:List Tm):Bool:=iEq h.k 3 && (match dw (fun i=>decide (i.name=h.s)) d.ai 0 with
 | some j=>iEq (.ofNat h.ls.length) d.params && (match d.ai[j]? with | some x=>iEq (.ofNat l.length) (d.fixed + aZ d x) | none=>false)
 | none=>false)
noncomputable def dq (d:Dl) (fx:Nat) (t:Tm) (aa:Int):Bool:=
 kI d (aD t).1 (aD t).2 && (decide ((aD t).1.ls=eW (aD t).1.ls.length) && uU fx (aD t).2 aa)
noncomputable def cD (d:Dl) (fx:Nat) (t:Tm) (aa:Int):Int×List Tm:=match dq d fx t aa with
 | true=>(eQ d.ai (aD t).1.s,(aD t).2.drop fx)
 | false=>(-1,[])
structure pW (d:Dl) (W:Nat):Prop where
 few:d.ai.length≤10
 all:∀i∈d.ai,dG i.ty∧wt i.ty≤W
 Bk:W≤100000000
theorem eqL (a b:Lv):binOp Tryz.cfg .neq 51 (enc a) (enc b)=some (.bool (!decide (a=b))):=JM a b
theorem oi {LT sz by' : Nat} {z' : List V} {xs:List Tm} {c:Bool} {tok:Tok} {m:Nat} (hl:Tryz.cfg.ti LT=some { kind:=.slice 25,size:=sz,bytes:=by',zero:=z' }) (hm:m≤xs.length) :
 ∃c' aP,(aP=.tight∨aP=.no)∧slice Tryz.cfg LT (.list (au c xs) tok 0 (ae xs)) (some (.int .i64 (.ofNat m))) none none=some (.list (au c' (xs.drop m)) aP 0 (ae (xs.drop m))):=by
 have hq:(ae xs).isEmpty=true∨au c xs=Tryz.ti25.size:=by
  rcases jx c xs with rfl | h
  ·left;rw [ae];rfl
  ·right;rw [h];rfl
 have hd:fP m (takeN (aG (ae xs)) (ae xs))=ae (xs.drop m):=by
  rw [dz,eD,an,List.take_length,cU,cU,List.map_drop]
 have hsz:∃c',au c' (xs.drop m)=au c xs:=by
  cases hx:xs.drop m with
  | cons a l=>
   refine⟨true,?_⟩
   cases xs with
   | nil=>simp at hx
   | cons b k=>rfl
  | nil=>
   cases xs with
   | nil=>exact⟨c,rfl⟩
   | cons b k=>exact⟨true,rfl⟩
 obtain⟨c',hc'⟩:=hsz
 refine⟨c',if tok=.tight then .tight else .no,?_,?_⟩
 ·split
  ·exact .inl rfl
  ·exact .inr rfl
 ·unfold slice
  have hb:bound (some (.int .i64 (.ofNat m)))=some (some m):=by simp [bound]
  have hb0:bound none=some none:=rfl
  rw [hb,hb0]
  simp only [hl]
  rw [show Tryz.cfg.ti 25=some Tryz.ti25 from rfl]
  simp only
  rw [if_pos hq]
  unfold jK
  simp only [Option.getD_some,Option.getD_none]
  rw [if_pos ⟨by rw [al];exact hm,Nat.le_refl _⟩,hd,hc']
  simp
theorem qC {t:Tok} (h:t=.tight∨t=.no):∃b,t=av b:=by
 rcases h with rfl | rfl
 ·exact⟨true,rfl⟩
 ·exact⟨false,rfl⟩
theorem oj {is:List In} {s:List UInt8} {j:Nat} (h:dw (fun i=>decide (i.name=s)) is 0=some j):eQ is s=.ofNat j∧∃x,is[j]?=some x:=by
 unfold eQ
 rw [h]
 obtain⟨x,h1,_,_⟩:=GR h
 exact⟨rfl,x,by simpa using h1⟩
def uV (r:Int×List Tm) (q:V×St):Prop:=∃c e S',q=(.tuple [.int .i64 r.1,.list (au c r.2) (av e) 0 (ae r.2)],S')
noncomputable def SN:Code:=nr 4 (Tryz.f35.body.getD .skip)
theorem GU {ls os:List Lv} {j:Nat} {a b:Lv} (h1:ls[j]?=some a) (h2:os[j]?=some b):(ls.zip os)[j]?=some (a,b):=by
 rw [List.getElem?_zip_eq_some];exact⟨h1,h2⟩
theorem J5 {ls os:List Lv} (h:ls.length=os.length):((ls.zip os).all fun p=>decide (p.1=p.2))=decide (ls=os):=by
 induction ls generalizing os with
 | nil=>cases os with | nil=>rfl | cons b os=>cases h
 | cons a ls ih=>cases os with
  | nil=>cases h
  | cons b os=>
   rw [List.zip_cons_cons,List.all_cons,ih (by simpa using h)]
   simp
theorem sT {ls:List Lv} {a:Bool} {tk:Tok} {j:Nat} {x:Lv} (h:ls[j]?=some x):indexAddr Tryz.cfg 22 (.list (au a ls) tk 0 (ls.map enc)) (.int .i64 (.ofNat j))=some (.imm 0 (dQ x)):=by
 rw [xi h];exact Gw h
theorem xF {n j:Nat} (h:j < n):(List.range n)[j]?=some j:=List.getElem?_range h
theorem J6 (n k:Nat) (d:Dl) (fx p:Nat) (t h:Tm) (l:List Tm) (tok:Tok) (T:List Nat) (j:Nat) (aa:Int) (hfx:d.fixed=.ofNat fx) (hpp:d.params=.ofNat p) (hls:h.ls.length=p) (hll:fx≤l.length) (hr:Bd aa) (hn:p + 10≤n) (hk:p + 10≤k) (hk2:fx + 10≤k) (hp:p < 1000000) (hf:fx < 1000000)
 (r:Int×List Tm) (hrr:r=match decide (h.ls=eW p) && uU fx l aa with | true=>(.ofNat j,l.drop fx) | false=>(-1,[])) :
 dZ Tryz.cfg (RN n) (Tryz.cfg.fc 35) k 35 97 [] SN { nt:=97,tmps:=[(2,.int .i64 aa),(3,.ptr (.loc 3) 0),(8,.ptr (.loc 8) 0),(9,.list (au false l) tok 0 (ae l)),(10,.int .i64 (.ofNat j))],locs:=[(3,bM d),(4,aC t),(8,aC h)],fix:=[] } { heap:=[],aA:=T }
  (fun e A S=>match e with | .exit _=>False | _=>∃q,finish Tryz.cfg Tryz.f35 A S=some q∧uV r q):=by
 obtain⟨q,h1,T1,Pc,rfl,hg⟩:=h84 (n:=n) (m:=p) (H:=[]) (T:=T) (by omega) (by omega)
 have h1' : RN n (.f 84) [.int .i64 d.params] { heap:=[],aA:=T }=some (.list (au false (eW p)) Pc 0 ((eW p).map enc),{ heap:=[],aA:=T1 }):=by rw [hpp];exact h1
 refine ag.mk _ _ h1' ?_
 have oQ:r=(-1,[])→uV r (.tuple [.int .i64 (-1),.list 0 .tight 0 []],{ heap:=[],aA:=T1 }):=fun e=>by
  subst e
  exact⟨false,true,{ heap:=[],aA:=T1 },by rw [ae];rfl⟩
 refine aB.loop 97 (σ:=Unit) p (fun i _=>{ nt:=97,tmps:=[(2,.int .i64 aa),(3,.ptr (.loc 3) 0),(8,.ptr (.loc 8) 0),(9,.list (au false l) tok 0 (ae l)),(10,.int .i64 (.ofNat j)),(11,.list (au false (eW p)) Pc 0 ((eW p).map enc)),(12,.int .i64 (.ofNat i))],locs:=[(3,bM d),(4,aC t),(8,aC h)],fix:=[] }) (fun _ _=>{ heap:=[],aA:=T1 })
  (fun i _=>decide (h.ls=eW p)=((h.ls.zip (eW p)).drop i).all fun q=>decide (q.1=q.2)) () (by omega) (by rw [List.drop_zero,J5 (by rw [fk];exact hls)]) ?_ ?_
 ·intro i _ hi hp'
  obtain⟨a,ha⟩ : ∃a,h.ls[i]?=some a:=⟨_,aGe (by omega)⟩
  obtain⟨b,hb⟩ : ∃b,(eW p)[i]?=some b:=⟨_,aGe (by rw [fk];exact hi)⟩
  rw [gg (GU ha hb)] at hp'
  refine ah.yes (by rw [an,aLm,fk];exact dC hi) ?_
  refine ab.mk _ (sT ha) ?_
  refine ab.mk _ (sT hb) ?_
  refine ab.mkB (eqL a b) (fun he=>?_) (fun he=>?_)
  ·have he' : decide (a=b)=false:=by simpa using he
   rw [he'] at hp'
   have hq:r=(-1,[]):=by rw [hrr,hp'];rfl
   exact⟨_,rfl,oQ hq⟩
  ·have he' : decide (a=b)=true:=by simpa using he
   rw [he'] at hp'
   refine ab.mk _ (az (by omega)) ?_
   exact⟨(),hp',rfl,rfl⟩
 ·intro _ hp'
  rw [List.drop_of_length_le (by simp [fk];omega)] at hp'
  refine ah.no (by rw [an,aLm,fk];exact fJ (by omega)) ?_
  refine aB.loop 97 (σ:=Unit) fx (fun i _=>{ nt:=97,tmps:=[(2,.int .i64 aa),(3,.ptr (.loc 3) 0),(9,.list (au false l) tok 0 (ae l)),(10,.int .i64 (.ofNat j)),(13,.int .i64 (.ofNat i))],locs:=[(3,bM d),(4,aC t),(8,aC h)],fix:=[] }) (fun _ _=>{ heap:=[],aA:=T1 })
   (fun i _=>uU fx l aa=((List.range fx).drop i).all fun i=>match l[i]? with | some x=>iEq x.k 2 && iEq x.n (aa - 1 - .ofNat i) | none=>false) () (by omega) rfl ?_ ?_
  ·intro i _ hi hv
   obtain⟨x,hx⟩ : ∃x,l[i]?=some x:=⟨_,aGe (by omega)⟩
   rw [gg (xF hi),hx] at hv
   simp only at hv
   refine ah.yes (by rw [hfx];exact dC hi) ?_
   refine ab.mk _ (bJ hx) ?_
   refine ah.mk (fun h2=>?_) (fun h2=>?_)
   ·have h2' : iEq x.k 2=false:=by simpa using h2
    rw [h2'] at hv
    have hq:r=(-1,[]):=by rw [hrr,hv];simp
    exact⟨_,rfl,oQ hq⟩
   ·have h2' : iEq x.k 2=true:=by simpa using h2
    rw [h2'] at hv
    refine ab.mk _ (bJ hx) ?_
    refine ab.mk _ (pT (by unfold Bd at hr;omega) (by unfold Bd at hr;omega)) ?_
    refine ab.mk _ (pT (b:=.ofNat i) (by unfold Bd at hr;simp only [aOn];omega) (by unfold Bd at hr;simp only [aOn];omega)) ?_
    refine ah.mk (fun h3=>?_) (fun h3=>?_)
    ·have h3' : iEq x.n (aa - 1 - .ofNat i)=false:=by simpa using h3
     rw [h3'] at hv
     have hq:r=(-1,[]):=by rw [hrr,hv];simp
     exact⟨_,rfl,oQ hq⟩
    ·have h3' : iEq x.n (aa - 1 - .ofNat i)=true:=by simpa using h3
     rw [h3'] at hv
     refine ab.mk _ (az (by omega)) ?_
     exact⟨(),hv,rfl,rfl⟩
  ·intro _ hv
   rw [List.drop_of_length_le (by simp)] at hv
   refine ah.no (by rw [hfx];exact fJ (by omega)) ?_
   obtain⟨c',aP,ht',hs⟩:=oi (LT:=23) (c:=false) (tok:=tok) (m:=fx) rfl hll
   refine ab.mk _ (show slice Tryz.cfg 23 (.list (au false l) tok 0 (ae l)) (some (.int .i64 d.fixed)) none none=_ by rw [hfx];exact hs) ?_
   have hq:r=(.ofNat j,l.drop fx):=by rw [hrr,hp',hv];rfl
   subst hq
   obtain⟨b,rfl⟩:=qC ht'
   exact⟨_,rfl,c',b,{ heap:=[],aA:=T1 },rfl⟩
theorem h35 {n fx p:Nat} {d:Dl} {t:Tm} {aa:Int} {S:St} {W:Nat} (hd:pW d W) (hpi:∀i∈d.ai,fx≤(ak i.ty).1.length) (ht:dG t) (htw:wt t≤W) (hfx:d.fixed=.ofNat fx) (hpp:d.params=.ofNat p) (hf:fx < 1000) (hp:p < 1000) (hr:Bd aa) (hn:W + 1100≤n) :
 ∃c e,RN n (.f 35) [eB d,aH t,.int .i64 aa] S=some (.tuple [.int .i64 (cD d fx t aa).1,.list (au c (cD d fx t aa).2) (av e) 0 (ae (cD d fx t aa).2)],S):=by
 obtain⟨k,rfl⟩:=up (show 1≤n by omega)
 have hWm:=hd.Bk
 have iB:=hd.few
 obtain⟨q,h1,T1,tok,rfl,hg⟩:=h82 k t [] [] ht (by omega) (by omega)
 obtain⟨s1,s2,s3,s4⟩:=iA _ t (Nat.le_refl _) ht
 have oQ:∀b:Bool,dq d fx t aa=false→uV (cD d fx t aa) (.tuple [.int .i64 (-1),.list 0 .tight 0 []],{ heap:=[],aA:=T1 }):=fun _ e=>by
  unfold cD
  rw [e]
  exact⟨false,true,{ heap:=[],aA:=T1 },by rw [ae];rfl⟩
 have h:∃q,frame Tryz.cfg (RN k) k 35 [eB d,aH t,.int .i64 aa] St.empty=some q∧uV (cD d fx t aa) q:=by
  refine aV (fn:=Tryz.f35) (p:=uV (cD d fx t aa)) rfl rfl ?_
  refine ag.mk _ _ h1 ?_
  refine ag.mk _ _ (h83 (by omega) (by omega)) ?_
  refine ah.mk (fun h3=>?_) (fun h3=>?_)
  ·have h3' : iEq (aD t).1.k 3=false:=by simpa using h3
   exact⟨_,rfl,oQ true (by unfold dq kI;rw [h3'];rfl)⟩
  have h3' : iEq (aD t).1.k 3=true:=by simpa using h3
  cases hw:dw (fun i=>decide (i.name=(aD t).1.s)) d.ai 0 with
  | none=>
   have hq:eQ d.ai (aD t).1.s = -1:=by unfold eQ;rw [hw];rfl
   rw [hq]
   refine ah.yes rfl ?_
   exact⟨_,rfl,oQ true (by unfold dq kI;rw [h3',hw];rfl)⟩
  | some j=>
   obtain⟨hq,x,hx⟩:=oj hw
   rw [hq]
   refine ah.no rfl ?_
   refine ah.mk (fun h4=>?_) (fun h4=>?_)
   ·have h4' : iEq (.ofNat (aD t).1.ls.length) d.params=false:=by simpa [an] using h4
    exact⟨_,rfl,oQ true (by unfold dq kI;rw [h3',hw];simp only [h4'];rfl)⟩
   have h4' : iEq (.ofNat (aD t).1.ls.length) d.params=true:=by simpa [an] using h4
   have hxi:=hd.all x (aMg hx)
   refine ag.mk _ _ (h34 hx hxi.1 (by omega) (by omega) (by rw [hfx];unfold Bd;simp only [aOn];omega)) ?_
   have hix:aZ d x=.ofNat (ak x.ty).1.length - .ofNat fx:=by unfold aZ;rw [hfx]
   have hpl:=(fK _ x.ty (Nat.le_refl _) hxi.1).1
   refine ab.mk (.int .i64 (d.fixed + aZ d x)) (MA (by rw [hix,hfx];simp only [aOn];omega) (by rw [hix,hfx];simp only [aOn];omega)) ?_
   refine ah.mk (fun h5=>?_) (fun h5=>?_)
   ·have h5' : iEq (.ofNat (aD t).2.length) (d.fixed + aZ d x)=false:=by rw [al] at h5;simpa using h5
    exact⟨_,rfl,oQ true (by unfold dq kI;rw [h3',hw];simp only [h4',hx,h5'];rfl)⟩
   have h5' : iEq (.ofNat (aD t).2.length) (d.fixed + aZ d x)=true:=by rw [al] at h5;simpa using h5
   have hls:(aD t).1.ls.length=p:=by
    rw [hpp,bp,decide_eq_true_eq] at h4'
    exact Int.ofNat_inj.1 h4'
   have hll:fx≤(aD t).2.length:=by
    rw [hix,hfx,bp,decide_eq_true_eq] at h5'
    simp only [aOn] at h5'
    have:=hpi x (aMg hx)
    omega
   refine J6 k k d fx p t (aD t).1 (aD t).2 tok T1 j aa hfx hpp hls hll hr (by omega) (by omega) (by omega) (by omega) (by omega) _ ?_
   unfold cD dq kI
   rw [h3',hw]
   rw [hls] at h4'
   simp only [h4',hx,h5',Bool.and_self,Bool.true_and,hls]
   cases hbb:(decide ((aD t).1.ls=eW p) && uU fx (aD t).2 aa) with
   | true=>simp only [hq]
   | false=>rfl
 obtain⟨q,k1,c,e,S',rfl⟩:=h
 refine⟨c,e,bG k1 (by simp only [dH,br,bx,aq]) rfl rfl rfl rfl ?_⟩
 show V.tuple [_,aj (.list _ (av e) 0 _)]=_
 rw [gQ]
 rfl
theorem pX {d:Dl} {fx:Nat} {t:Tm} {aa:Int} (ht:dG t):∀y∈(cD d fx t aa).2,dG y∧wt y≤wt t:=by
 obtain⟨_,_,s3,_⟩:=iA _ t (Nat.le_refl _) ht
 intro y hy
 unfold cD at hy
 cases hb:dq d fx t aa with
 | true=>rw [hb] at hy;exact s3 y (List.mem_of_mem_drop hy)
 | false=>rw [hb] at hy;cases hy
theorem sU {d:Dl} {fx:Nat} {t:Tm} {aa:Int} (ht:dG t):(cD d fx t aa).2.length≤wt t:=by
 obtain⟨s1,_,s3,_⟩:=iA _ t (Nat.le_refl _) ht
 unfold cD
 cases hb:dq d fx t aa with
 | true=>simp;omega
 | false=>simp
theorem mX {id n:Nat} {args nA : List V} {S:St} (hp:(Tryz.cfg.fc id).pure=true) (ha:allB V.pure args=true) (ha' : allB V.pure nA=true) (he:bg V.strip args=bg V.strip nA) (hc:kT id=true:=by rfl):RN (n + 1) (.f id) args S=RN (n + 1) (.f id) nA S:=by
 rw [sI hc,sI hc,qv,qv,hp,ha,ha',he]
 rfl
theorem fL (tok:Tok):∃b,eN tok=av b:=by
 cases tok with
 | no=>exact⟨false,rfl⟩
 | tight=>exact⟨true,rfl⟩
 | own t=>exact⟨false,rfl⟩
theorem gv {sz:Nat} {tok:Tok} {b:Bool} (h:eN tok=av b) (top:Nat) (rows l:List V):bg V.strip (.list sz tok top rows::l)=.list sz (av b) top rows::bg V.strip l:=by
 rw [← h]
 cases tok<;>rfl
theorem k37 {n:Nat} {d:Dl} {xs:List Tm} {c:Bool} {tok:Tok} {S:St} {w:Nat} (hw:∀y∈xs,wt y≤w) (hn:d.ai.length + w + xs.length + 5≤n) (hl:d.ai.length < 1000000000) (hww:w < 1000000000) (hxl:xs.length < 1000000000) :
 RN n (.f 37) [eB d,.list (au c xs) tok 0 (ae xs)] S=some (.bool (fT d.ai xs),S):=by
 obtain⟨m,rfl⟩:=up (show 1≤n by omega)
 obtain⟨b,hb⟩:=fL tok
 rw [mX (nA:=[eB d,.list (au c xs) (av b) 0 (ae xs)]) rfl rfl rfl (by simp only [dH,dp,gv hb,aq])]
 exact h37 hw hn hl hww hxl
theorem k81 {n m:Nat} {xs ys:List Tm} {c c' : Bool} {tok aP : Tok} {S:St} {w:Nat} (hx:∀y∈xs,dG y∧wt y≤w) (h1:m≤xs.length) (h2:m≤ys.length) (hn:m + w + 3≤n) (hm:m < 1000000000) (hw:w < 1000000000) :
 RN n (.f 81) [.list (au c xs) tok 0 (ae xs),.list (au c' ys) aP 0 (ae ys),.int .i64 (.ofNat m)] S=some (.bool (oh m xs ys),S):=by
 obtain⟨k,rfl⟩:=up (show 1≤n by omega)
 obtain⟨b,hb⟩:=fL tok
 obtain⟨b',hb'⟩:=fL aP
 rw [mX (nA:=[.list (au c xs) (av b) 0 (ae xs),.list (au c' ys) (av b') 0 (ae ys),.int .i64 (.ofNat m)]) rfl rfl rfl (by simp only [dp,bx,gv hb,gv hb',aq])]
 exact h81 hx h1 h2 hn hm hw
theorem rS {n:Nat} {f:Tm} {xs:List Tm} {c:Bool} {tok:Tok} {S:St} (hn:xs.length + 2≤n) (hl:xs.length < 1000000000):RN n (.f 124) [aH f,.list (au c xs) tok 0 (ae xs)] S=some (aH (eH f xs),S):=by
 obtain⟨k,rfl⟩:=up (show 1≤n by omega)
 obtain⟨b,hb⟩:=fL tok
 rw [mX (nA:=[aH f,.list (au c xs) (av b) 0 (ae xs)]) rfl rfl rfl (by simp only [br,dp,gv hb,aq])]
 exact SL hn hl
theorem Fi {n:Nat} {k:Int} {xs:List Tm} {t:Tm} {c:Bool} {tok:Tok} {S:St} (hn:xs.length + 4≤n) (hl:xs.length < 1000000000):RN n (.f 123) [.list (au c xs) tok 0 (ae xs),.int .u8 k,aH t] S=some (aH (fC k xs t),S):=by
 obtain⟨m,rfl⟩:=up (show 1≤n by omega)
 obtain⟨b,hb⟩:=fL tok
 rw [mX (nA:=[.list (au c xs) (av b) 0 (ae xs),.int .u8 k,aH t]) rfl rfl rfl (by simp only [br,bx,dp,gv hb,aq])]
 exact Dm hn hl
noncomputable def cn (d:Dl) (fx:Nat) (t:Tm) (aa:Int):(Int×Int)×Bool:=
 let m:=cD d fx (ak t).2 (aa + .ofNat (ak t).1.length)
 match iLt m.1 0 with
 | true=>((-1,0),!jz d.ai t)
 | false=>((m.1,.ofNat (ak t).1.length),!fT d.ai (ak t).1 && !fT d.ai m.2)
@[reducible] noncomputable def dh (f:Int×Int):V:=.agg [.int .i64 f.1,.int .i64 f.2]
theorem h36 {n fx p:Nat} {d:Dl} {t:Tm} {aa:Int} {S:St} {W:Nat} (hd:pW d W) (hpi:∀i∈d.ai,fx≤(ak i.ty).1.length) (ht:dG t) (htw:wt t≤W) (hfx:d.fixed=.ofNat fx) (hpp:d.params=.ofNat p) (hf:fx < 1000) (hp:p < 1000) (hr : -100000000000≤aa∧aa≤100000000000) (hn:3 * W + 1200≤n) :
 RN n (.f 36) [eB d,aH t,.int .i64 aa] S=some (.tuple [dh (cn d fx t aa).1,.bool (cn d fx t aa).2],S):=by
 obtain⟨k,rfl⟩:=up (show 1≤n by omega)
 have hWm:=hd.Bk
 have iB:=hd.few
 obtain⟨q,h1,T1,tok,rfl,hg⟩:=h33 (n:=k) (x:=t) (H:=[]) (T:=[]) ht (by omega) (by omega)
 obtain⟨p1,p2,p3⟩:=fK _ t (Nat.le_refl _) ht
 have hbd:Bd (aa + .ofNat (ak t).1.length):=by unfold Bd;simp only [aOn];omega
 obtain⟨c,e,h2⟩:=h35 (n:=k) (S:={ heap:=[],aA:=T1 }) hd hpi p2 (by omega) hfx hpp hf hp hbd (by omega)
 have hml:=sU (d:=d) (fx:=fx) (aa:=aa + .ofNat (ak t).1.length) p2
 have hmm:=pX (d:=d) (fx:=fx) (aa:=aa + .ofNat (ak t).1.length) p2
 have h:frame Tryz.cfg (RN k) k 36 [eB d,aH t,.int .i64 aa] St.empty=some (.tuple [dh (cn d fx t aa).1,.bool (cn d fx t aa).2],{ heap:=[],aA:=T1 }):=by
  refine aL Tryz.cfg _ (fn:=Tryz.f36) rfl rfl ?_
  refine ag.mk _ _ h1 ?_
  refine ab.mk (.int .i64 (aa + .ofNat (ak t).1.length)) (by rw [al];exact MA (by unfold Bd at hbd;omega) (by unfold Bd at hbd;omega)) ?_
  refine ag.mk _ _ h2 ?_
  unfold cn
  refine ah.mk (fun hq=>?_) (fun hq=>?_)
  ·simp only [hq]
   refine ag.mkB (h85 k d t _ (by omega) (by omega) (by omega)) (fun he=>?_) (fun he=>?_)
   ·rw [he];rfl
   ·rw [he];rfl
  ·simp only [hq]
   have hw1:∀y∈(ak t).1,wt y≤W:=fun y hy=>by have:=(p3 y hy).2;omega
   have hw2:∀y∈(cD d fx (ak t).2 (aa + .ofNat (ak t).1.length)).2,wt y≤W:=fun y hy=>by have:=(hmm y hy).2;omega
   refine ag.mkB (k37 (w:=W) hw1 (by omega) (by omega) (by omega) (by omega)) (fun he=>?_) (fun he=>?_)
   ·rw [he,al];rfl
   ·rw [he,al]
    refine ag.mkB (k37 (w:=W) hw2 (by omega) (by omega) (by omega) (by omega)) (fun he=>?_) (fun he=>?_)
    ·rw [he];rfl
    ·rw [he];rfl
 exact bG h (by simp only [dH,br,bx,aq]) rfl rfl rfl rfl rfl
noncomputable def om (i:In):List Tm:=i.ty::i.cs.map (·.ty)
noncomputable def bV (d:Dl):List Tm:=d.ai.flatMap om
theorem zC {α β:Type} (f:α→List β) (xs:List α) (j:Nat) (x:α) (h:xs[j]?=some x):(xs.take (j + 1)).flatMap f=(xs.take j).flatMap f++f x:=by
 rw [List.take_add_one,h];simp
theorem map_take {α β:Type} (f:α→β) (xs:List α) (j:Nat) (x:α) (h:xs[j]?=some x):(xs.take (j + 1)).map f=(xs.take j).map f++[f x]:=by
 rw [List.take_add_one,h];simp
def J7 (l:List Tm) (H:List Blk) (T:List Nat) (q:V×St):Prop:=∃T' tok,q=(.list (au false l) tok 0 (ae l),{ heap:=H,aA:=T' })∧aw T T' l tok
theorem xG {α β:Type} (f:α→List β) (xs:List α) (m:Nat) (h:∀x∈xs,(f x).length≤m):(xs.flatMap f).length≤xs.length * m:=by
 induction xs with
 | nil=>simp
 | cons x xs ih=>
  rw [List.flatMap_cons,aLa,aLc,Nat.add_mul]
  have:=h x aMs
  have:=ih (fun y hy=>h y (aMt _ hy))
  omega
theorem h28 {n:Nat} {d:Dl} {S:St} (hi:d.ai.length≤10) (hc:∀i∈d.ai,i.cs.length≤20) (hn:50≤n):∃b,RN n (.f 28) [eB d] S=some (.list (au false (bV d)) (av b) 0 (ae (bV d)),S):=by
 obtain⟨k,rfl⟩:=up (show 1≤n by omega)
 have h:∃q,frame Tryz.cfg (RN k) k 28 [eB d] St.empty=some q∧J7 (bV d) [] [] q:=by
  refine aV (fn:=Tryz.f28) (p:=J7 (bV d) [] []) rfl rfl ?_
  refine aB.loop 47 (σ:=Tok×List Nat) d.ai.length (fun j s=>{ nt:=47,tmps:=[(1,.ptr (.loc 1) 0),(3,.list (au false ((d.ai.take j).flatMap om)) s.1 0 (ae ((d.ai.take j).flatMap om))),(4,.int .i64 (.ofNat j))],locs:=[(1,bM d)],fix:=[] })
   (fun _ s=>{ heap:=[],aA:=s.2 }) (fun j s=>aw [] s.2 ((d.ai.take j).flatMap om) s.1) (.tight,[]) (by omega) (aw.start []) ?_ ?_
  ·rintro j ⟨tok,T1⟩ hj (hg:aw [] T1 _ tok)
   obtain⟨x,hx⟩ : ∃x,d.ai[j]?=some x:=⟨_,aGe hj⟩
   have hxc:=hc x (aMg hx)
   have hlen:((d.ai.take j).flatMap om).length≤210:=by
    have:=xG om (d.ai.take j) 21 (fun y hy=>by have:=hc y (List.mem_of_mem_take hy);unfold om;simp;omega)
    rw [List.length_take] at this
    have:min j d.ai.length * 21≤10 * 21:=Nat.mul_le_mul (by omega) (by omega)
    omega
   refine ah.yes (ltM hj) ?_
   refine ab.mk _ (aO hx) ?_
   refine ab.mk _ (bs1 x.ty 23 _ _ _ rfl) ?_
   obtain⟨T2,bH,h1,h2⟩:=jW (LT:=23) (c:=false) (bH:=.tight) (H:=[]) (done:=(d.ai.take j).flatMap om) (new:=[x.ty]) rfl (by simp only [aLc,List.length_nil];omega) hg
   refine cN.mk _ _ (h1 _ _ rfl) ?_
   refine aB.loop 47 (σ:=List Tm×Tok×List Nat) x.cs.length (fun i s=>{ nt:=47,tmps:=[(1,.ptr (.loc 1) 0),(3,.list (au false s.1) s.2.1 0 (ae s.1)),(4,.int .i64 (.ofNat j)),(5,.int .i64 (.ofNat i))],locs:=[(1,bM d)],fix:=[] })
    (fun _ s=>{ heap:=[],aA:=s.2.2 }) (fun i s=>s.1=(d.ai.take j).flatMap om++[x.ty]++(x.cs.take i).map (·.ty)∧aw [] s.2.2 s.1 s.2.1) ((d.ai.take j).flatMap om++[x.ty],bH,T2) (by omega) ⟨by simp,h2⟩ ?_ ?_
   ·rintro i ⟨l,iL,T3⟩ hi' ⟨(hl3:l=_),(hg3:aw [] T3 l iL)⟩
    obtain⟨y,hy⟩ : ∃y,x.cs[i]?=some y:=⟨_,aGe hi'⟩
    have hll:l.length≤240:=by
     rw [hl3]
     simp only [aLa,aLc,List.length_nil,aLm,List.length_take]
     omega
    refine ab.mk _ (aO hx) ?_
    refine ah.yes (ltM hi') ?_
    refine ab.mk _ (aO hx) ?_
    refine ab.mk _ (ed hy) ?_
    refine ab.mk _ (bs1 y.ty 23 _ _ _ rfl) ?_
    obtain⟨T4,Ii,h3,h4⟩:=jW (LT:=23) (c:=false) (bH:=.tight) (H:=[]) (done:=l) (new:=[y.ty]) rfl (by simp only [aLc,List.length_nil];omega) hg3
    refine cN.mk _ _ (h3 _ _ rfl) ?_
    refine ab.mk _ (az (by omega)) ?_
    exact⟨(l++[y.ty],Ii,T4),⟨by rw [hl3,map_take (·.ty) x.cs i y hy];simp,h4⟩,rfl,rfl⟩
   ·rintro⟨l,iL,T3⟩ ⟨(hl3:l=_),(hg3:aw [] T3 l iL)⟩
    refine ab.mk _ (aO hx) ?_
    refine ah.no (geM (by omega)) ?_
    refine ab.mk _ (az (by omega)) ?_
    rw [List.take_length] at hl3
    have e:l=(d.ai.take (j + 1)).flatMap om:=by rw [hl3,zC om d.ai j x hx];unfold om;simp
    subst e
    exact⟨(iL,T3),hg3,rfl,rfl⟩
  ·rintro⟨tok,T1⟩ (hg:aw [] T1 _ tok)
   refine ah.no (geM (by omega)) ?_
   rw [List.take_length] at hg ⊢
   exact⟨_,rfl,_,_,rfl,hg⟩
 obtain⟨q,h1,T',tok,rfl,hg⟩:=h
 exact⟨_,xw h1 hg.eN (by simp only [dH,aq]) rfl rfl⟩
noncomputable def hiL (n:Nat) (l:Lv):Bool:=(List.range (4 - n)).any fun j=>!iLt (Lv.get (.ofNat (n + j)) l) 0
noncomputable def hiT (n:Nat) (t:Tm):Bool:=mW (fun x=>x.ls.any (hiL n)) t
noncomputable def SO:Code:=jr Tryz.f29 0
theorem Pd (R:Run) (k m:Nat) (x:Tm) (S:St) (K:Ex→Env→St→Prop) (hm:m≤4) (hl:x.ls.length < 1000000000)
 (hT:x.ls.any (hiL m)=true→K .ret { nt:=44,tmps:=[(4,.bool false)],locs:=[(2,aC x)],fix:=[] } S)
 (hE:x.ls.any (hiL m)=false→K (.exit 0) { nt:=44,tmps:=[(1,.int .i64 (.ofNat m)),(2,.ptr (.loc 2) 0),(5,.int .i64 (.ofNat x.ls.length)),(12,.bool false)],locs:=[(2,aC x)],fix:=[] } S) (f:Nat) (hf:x.ls.length < f) (hk:5≤k) :
 aB (iter (evalCode Tryz.cfg R k 29 (Tryz.cfg.fc 29) SO) f { nt:=44,tmps:=[(1,.int .i64 (.ofNat m)),(2,.ptr (.loc 2) 0),(5,.int .i64 0)],locs:=[(2,aC x)],fix:=[] } S) K:=by
 refine aB.loop 44 (σ:=Unit) x.ls.length (fun j _=>{ nt:=44,tmps:=[(1,.int .i64 (.ofNat m)),(2,.ptr (.loc 2) 0),(5,.int .i64 (.ofNat j))],locs:=[(2,aC x)],fix:=[] }) (fun _ _=>S)
  (fun j _=>x.ls.any (hiL m)=(x.ls.drop j).any (hiL m)) () hf rfl ?_ ?_
 ·intro j _ hj hp
  obtain⟨l,hy⟩ : ∃y,x.ls[j]?=some y:=⟨_,aGe hj⟩
  rw [xE hy] at hp
  refine ah.yes (Be hj) ?_
  refine aB.loop 44 (σ:=Nat) (4 - m) (fun i s=>{ nt:=44,tmps:=[(1,.int .i64 (.ofNat m)),(2,.ptr (.loc 2) 0),(5,.int .i64 (.ofNat j)),(6,.int .i64 (.ofNat s))],locs:=[(2,aC x)],fix:=[] }) (fun _ _=>S)
   (fun i s=>s=m + i∧hiL m l=((List.range (4 - m)).drop i).any fun j=>!iLt (Lv.get (.ofNat (m + j)) l) 0) m (by omega) ⟨rfl,rfl⟩ ?_ ?_
  ·rintro i s hi ⟨hs,hq⟩
   rw [xE (xF hi),← hs] at hq
   generalize hz:(!iLt (Lv.get (.ofNat s) l) 0)=z at hq
   have hc:s=0∨s=1∨s=2∨s=3:=by omega
   rcases hc with rfl | rfl | rfl | rfl
   all_goals
    refine ah.yes rfl ?_
    refine ab.mk _ (sT hy) ?_
    refine ab.mk _ rfl ?_
    refine ah.mk (fun hg=>?_) (fun hg=>?_)
    ·rw [show z=true from hz.symm.trans hg] at hq
     have hq' : hiL m l=true:=hq
     rw [hq'] at hp
     exact hT hp
    ·rw [show z=false from hz.symm.trans hg] at hq
     refine ab.mk _ (az (by decide)) ?_
     refine⟨_,⟨?_,hq⟩,rfl,rfl⟩
     omega
  ·rintro s ⟨hs,hq⟩
   have hs4:s=4:=by omega
   subst hs4
   rw [List.drop_of_length_le (by simp)] at hq
   have hq' : hiL m l=false:=hq
   rw [hq'] at hp
   refine ah.no rfl ?_
   refine ab.mk _ (az (by omega)) ?_
   exact⟨(),hp,rfl,rfl⟩
 ·intro _ hp
  rw [List.drop_length] at hp
  refine ah.no (Bf (by omega)) ?_
  exact hE hp
theorem h29:∀(n:Nat) (x:Tm) (m:Nat) (S:St),m≤4→wt x + 7≤n→wt x < 1000000000→RN n (.f 29) [aH x,.int .i64 (.ofNat m)] S=some (.bool (!hiT m x),S)
 | 0,x,m,S,_,h,_=>by omega
 | n + 1,x,m,S,hm,hn,hw=>by
  have hw':=cr x
  have hlen:x.ts.length≤wts x.ts:=hV _
  have hs:hiT m x=(x.ls.any (hiL m) || oL (fun x=>x.ls.any (hiL m)) x.ts):=Bj _ _
  have dy:∀y∈x.ts,RN n (.f 29) [aH y,.int .i64 (.ofNat m)] St.empty=some (.bool (!hiT m y),St.empty):=fun y hy=>h29 n y m _ hm (by have:=cz hy;omega) (by have:=cz hy;omega)
  have h:frame Tryz.cfg (RN n) n 29 [aH x,.int .i64 (.ofNat m)] St.empty=some (.bool (!hiT m x),St.empty):=by
   refine aL Tryz.cfg _ (fn:=Tryz.f29) rfl rfl ?_
   refine Pd _ n m x _ _ hm (by omega) (fun ha=>?_) (fun ha=>?_) n (by omega) (by omega)
   ·rw [hs,ha];rfl
   ·rw [hs,ha]
    refine aB.loop 44 (σ:=Unit) x.ts.length (fun j _=>{ nt:=44,tmps:=[(1,.int .i64 (.ofNat m)),(2,.ptr (.loc 2) 0),(7,.int .i64 (.ofNat j))],locs:=[(2,aC x)],fix:=[] }) (fun _ _=>St.empty)
     (fun j _=>oL (fun x=>x.ls.any (hiL m)) x.ts=(x.ts.drop j).any (hiT m)) () (by omega) (by rw [xD];rfl) ?_ ?_
    ·intro j _ hj hp
     obtain⟨y,hy⟩ : ∃y,x.ts[j]?=some y:=⟨_,aGe hj⟩
     rw [xE hy] at hp
     refine ah.yes (gE hj) ?_
     refine ab.mk _ (bJ hy) ?_
     refine ag.mkB (dy y (aMg hy)) (fun he=>?_) (fun he=>?_)
     ·have he' : hiT m y=false:=by simpa using he
      rw [he'] at hp
      refine ab.mk _ (az (by omega)) ?_
      exact⟨(),hp,rfl,rfl⟩
     ·have he' : hiT m y=true:=by simpa using he
      rw [he'] at hp
      rw [hp];rfl
    ·intro _ hp
     rw [List.drop_length] at hp
     refine ah.no (gG (by omega)) ?_
     rw [hp];rfl
  exact bG h (by simp only [br,bx,aq]) rfl rfl rfl rfl rfl
def fy {α:Type} (T0 T:List Nat) (done:List α) (tok:Tok):Prop:=ju T0 T∧(tok=.tight∨∃t,tok=.own t∧T0.length≤t∧nth T t=some done.length∧done≠[])
theorem aw.w {α:Type} {T0 T:List Nat} {done:List α} {tok:Tok} (h:aw T0 T done tok):fy T0 T done tok:=⟨h.1,h.2.imp (fun h=>h.2) id⟩
theorem xH {ei:TI} {H:List Blk} {T0 T:List Nat} {done new:List V} {tok:Tok} {sz:Nat} (h0:0 < ei.size) (hb:ei.bytes≤1000) (hlen:done.length + new.length < 1000000000) (hs:done=[]∨sz=ei.size) (hg:fy T0 T done tok) (hne:new≠[]) :
 ∃T' aP,(∀ac:Acc,ac.heap=true→ko ei { heap:=H,aA:=T } ac sz tok 0 done 0 new=some (.list ei.size aP 0 (done++new),{ heap:=H,aA:=T' }))∧aw T0 T' (done++new) aP:=by
 obtain⟨xt,hg⟩:=hg
 have hl:(aG done + aG new) * (ei.bytes + 1)≤140737488355328:=by
  rw [an,an]
  have:(done.length + new.length) * (ei.bytes + 1)≤1000000000 * 1001:=Nat.mul_le_mul (by omega) (by omega)
  omega
 have Fb:done++new≠[]:=by simp [hne]
 have hq:done.isEmpty=true∨sz=ei.size:=by
  rcases hs with rfl | h
  ·exact .inl rfl
  ·exact .inr h
 rcases hg with rfl | ⟨t,rfl,h1,h2,h3⟩
 ·refine⟨cq T [aG done + aG new],.own (aG T),?_,⟨?_,?_⟩,.inr ⟨_,rfl,?_,?_,Fb⟩⟩
  ·intro ac hac
   unfold ko
   rw [if_pos ⟨h0,hq,hl,hac⟩]
   simp [bK]
  ·rw [bK];have:=xt.1;simp;omega
  ·intro t v hv
   have:=xt.2 t v hv
   rw [bR] at this
   rw [bK,bR,List.getElem?_append_left (aGs this).1];exact this
  ·rw [an];exact xt.1
  ·rw [bK,bR,an (l:=T),List.getElem?_append_right (Nat.le_refl _),Nat.sub_self]
   simp [an]
 ·have htl:t < T.length:=mK h2
  refine⟨tC T t (aG done + aG new),.own t,?_,⟨?_,?_⟩,.inr ⟨t,rfl,h1,?_,Fb⟩⟩
  ·intro ac hac
   unfold ko
   rw [if_pos ⟨h0,hq,hl,hac⟩]
   show (if nth T t=some (aG done) then _ else none)=_
   rw [if_pos (by rw [h2,an])]
   simp [bK]
  ·rw [eT,List.length_set];exact xt.1
  ·intro u v hv
   have hu:=mK hv
   rw [eT,bR,List.getElem?_set_ne (by omega),← bR]
   exact xt.2 u v hv
  ·rw [eT,bR,List.getElem?_set_self htl,an,an,aLa]
def sz1 {α:Type}:List α→Nat
 | []=>0
 | _::_=>1
def SzS (sz:Nat) (l:List (List UInt8)):Prop:=l=[]∨sz=1
theorem kJ {H:List Blk} {T0 T:List Nat} {done new:List (List UInt8)} {tok bH:Tok} {sz sz2:Nat} (hlen:done.length + new.length < 1000000000) (hs:SzS sz done) (hs2:SzS sz2 new) (hne:new≠[]) (hg:fy T0 T done tok) :
 ∃T' aP,(∀(A:Env) (ac:Acc),ac.heap=true→append Tryz.cfg A { heap:=H,aA:=T } ac 42 (.list sz tok 0 (done.map aQ)) (.list sz2 bH 0 (new.map aQ))=some (.list 1 aP 0 ((done++new).map aQ),{ heap:=H,aA:=T' }))∧aw T0 T' (done++new) aP:=by
 have hw:fy T0 T (done.map aQ) tok:=⟨hg.1,hg.2.imp id (fun⟨t,h1,h2,h3,h4⟩=>⟨t,h1,h2,by rw [aLm];exact h3,by simpa using h4⟩)⟩
 obtain⟨T',aP,h1,h2⟩:=xH (ei:=Tryz.ti9) (H:=H) (sz:=sz) (new:=new.map aQ) (by decide) (by decide) (by simpa using hlen) (hs.imp (fun h=>by rw [h];rfl) id) hw (by simpa using hne)
 rw [← List.map_append] at h1 h2
 refine⟨T',aP,?_,(aw.map (List.map aQ) (fun l=>by simp)).1 h2⟩
 intro A ac hac
 have hr:fX A { heap:=H,aA:=T } ac 1 (.list sz2 bH 0 (new.map aQ))=some (0,new.map aQ):=by
  have hq:(new.map aQ).isEmpty=true∨sz2=1:=by
   rcases hs2 with h | h
   ·exact absurd h hne
   ·exact .inr h
  unfold fX
  exact if_pos hq
 have hf:(new.map aQ).isEmpty=false:=by cases new with | nil=>exact absurd rfl hne | cons a l=>rfl
 unfold append
 simp only [show Tryz.cfg.ti 42=some { kind:=.slice 9,size:=1,bytes:=24,zero:=[.list 0 .tight 0 []] } from rfl,show Tryz.cfg.ti 9=some Tryz.ti9 from rfl,show Tryz.ti9.size=1 from rfl,hr,hf,Bool.false_eq_true,if_false]
 exact h1 ac hac
theorem bsS (s:List UInt8):buildSlice Tryz.cfg 42 1 [(0,.str s)]=some (.list 1 .tight 0 ([s].map aQ)):=rfl
theorem kl {ss:List (List UInt8)} {sz:Nat} {tk:Tok} {j:Nat} {x:List UInt8} (hs:SzS sz ss) (h:ss[j]?=some x):indexAddr Tryz.cfg 42 (.list sz tk 0 (ss.map aQ)) (.int .i64 (.ofNat j))=some (.imm 0 [.str x]):=by
 have:sz=1:=by
  rcases hs with rfl | h'
  ·simp at h
  ·exact h'
 subst this
 exact dI (f:=fun s=>[V.str s]) (ei:=Tryz.ti9) rfl rfl h
noncomputable def cI:List UInt8:=[46,114,101,99]
noncomputable def nmI (i:In):List (List UInt8):=i.name::i.cs.map (·.name)
noncomputable def yC (i:In):List (List UInt8):=nmI i++[i.name++cI]
noncomputable def okN (s:List UInt8):Bool:=mJ s && !iLt 28 (.ofNat (aG s))
noncomputable def mf (d:Dl):Bool:=(d.ai.all fun i=>(nmI i).all okN) && decide ((d.ai.flatMap yC).Nodup)
theorem h80 {n:Nat} {s:List UInt8} {S:St} (hs:s.length≤1000) (hn:1010≤n):RN n (.f 80) [.str s] S=some (.bool (mJ s),S):=by
 obtain⟨m,rfl⟩:=up (show 1≤n by omega);exact qy m s S (by omega) (by omega)
theorem Fj {a b:List UInt8} (h:a.length + b.length≤10000):binOp Tryz.cfg .add 9 (.str a) (.str b)=some (.str (a++b)):=by
 show rk .add a b=_
 unfold rk
 simp only
 rw [if_pos (by omega)]
theorem J8 {l:List (List UInt8)} {a b:Nat} {x:List UInt8} (hab:a < b) (ha:l[a]?=some x) (hb:l[b]?=some x):decide l.Nodup=false:=by
 rw [decide_eq_false_iff_not]
 intro hn
 obtain⟨h1,e1⟩:=aGs ha
 obtain⟨h2,e2⟩:=aGs hb
 have:=(List.pairwise_iff_getElem.1 hn) a b h1 h2 hab
 exact this (e1.trans e2.symm)
theorem Ij {l:List (List UInt8)} (h:∀b < l.length,∀a < b,∀x y,l[a]?=some x→l[b]?=some y→x≠y):decide l.Nodup=true:=by
 rw [decide_eq_true_eq]
 refine List.pairwise_iff_getElem.2 fun a b h1 h2 hab=>h b h2 a hab _ _ (aGe h1) (aGe h2)
structure vl (d:Dl):Prop where
 few:d.ai.length≤10
 cs:∀i∈d.ai,i.cs.length≤20
 nm:∀i∈d.ai,i.name.length≤100∧∀c∈i.cs,c.name.length≤100
theorem GV {d:Dl} (h:vl d) (j:Nat):((d.ai.take j).flatMap yC).length≤250:=by
 have:=xG yC (d.ai.take j) 22 (fun y hy=>by have:=h.cs y (List.mem_of_mem_take hy);unfold yC nmI;simp;omega)
 rw [List.length_take] at this
 have h2:=h.few
 have:min j d.ai.length * 22≤10 * 22:=Nat.mul_le_mul (by omega) (by omega)
 omega
theorem ltS {ss:List (List UInt8)} {j:Nat} (h:j < ss.length):iLt (.ofNat j) (.ofNat (aG (ss.map aQ)))=true:=ltM h
theorem geS {ss:List (List UInt8)} {j:Nat} (h:¬j < ss.length):iLt (.ofNat j) (.ofNat (aG (ss.map aQ)))=false:=geM h
theorem h30 {n:Nat} {d:Dl} {S:St} (hd:vl d) (hn:1100≤n):RN n (.f 30) [eB d] S=some (.bool (mf d),S):=by
 obtain⟨k,rfl⟩:=up (show 1≤n by omega)
 have iB:=hd.few
 have h:∃q,frame Tryz.cfg (RN k) k 30 [eB d] St.empty=some q∧(∃T',q=(.bool (mf d),{ heap:=[],aA:=T' })):=by
  refine aV (fn:=Tryz.f30) (p:=fun q=>∃T',q=(.bool (mf d),{ heap:=[],aA:=T' })) rfl rfl ?_
  refine aB.loop 100 (σ:=List (List UInt8)×Nat×Tok×List Nat) d.ai.length (fun j s=>{ nt:=100,tmps:=[(1,.ptr (.loc 1) 0),(3,.list s.2.1 s.2.2.1 0 (s.1.map aQ)),(4,.int .i64 (.ofNat j))],locs:=[(1,bM d)],fix:=[] })
   (fun _ s=>{ heap:=[],aA:=s.2.2.2 }) (fun j s=>s.1=(d.ai.take j).flatMap yC∧SzS s.2.1 s.1∧aw [] s.2.2.2 s.1 s.2.2.1∧(d.ai.all fun i=>(nmI i).all okN)=((d.ai.drop j).all fun i=>(nmI i).all okN)) ([],0,.tight,[]) (by omega) ⟨rfl,.inl rfl,aw.start [],rfl⟩ ?_ ?_
  ·rintro j ⟨l,sz,tok,T1⟩ hj ⟨(hl:l=_),(hsz:SzS sz l),(hg:aw [] T1 l tok),ha⟩
   obtain⟨x,hx⟩ : ∃x,d.ai[j]?=some x:=⟨_,aGe hj⟩
   have hxm:=aMg hx
   have hxc:=hd.cs x hxm
   have hxn:=hd.nm x hxm
   have hll:=GV hd j
   rw [← hl] at hll
   rw [gg hx] at ha
   refine ah.yes (ltM hj) ?_
   refine ab.mk _ (aO hx) ?_
   refine ab.mk _ (bsS x.name) ?_
   refine aB.loop 100 (σ:=List (List UInt8)×Tok×List Nat) x.cs.length (fun i s=>{ nt:=100,tmps:=[(1,.ptr (.loc 1) 0),(3,.list sz tok 0 (l.map aQ)),(4,.int .i64 (.ofNat j)),(5,.list 1 s.2.1 0 (s.1.map aQ)),(6,.int .i64 (.ofNat i))],locs:=[(1,bM d)],fix:=[] })
    (fun _ s=>{ heap:=[],aA:=s.2.2 }) (fun i s=>s.1=x.name::(x.cs.take i).map (·.name)∧fy T1 s.2.2 s.1 s.2.1) ([x.name],.tight,T1) (by omega) ⟨by simp,⟨ju.refl T1,.inl rfl⟩⟩ ?_ ?_
   ·rintro i ⟨m,iL,T3⟩ hi ⟨(hm:m=_),(hg3:fy T1 T3 m iL)⟩
    obtain⟨y,hy⟩ : ∃y,x.cs[i]?=some y:=⟨_,aGe hi⟩
    have hml:m.length≤30:=by rw [hm];simp only [aLc,aLm,List.length_take];omega
    obtain⟨T4,Ii,h3,h4⟩:=kJ (H:=[]) (sz:=1) (sz2:=1) (bH:=.tight) (new:=[y.name]) (by simp only [aLc,List.length_nil];omega) (.inr rfl) (.inr rfl) (by simp) hg3
    refine ab.mk _ (aO hx) ?_
    refine ah.yes (ltM hi) ?_
    refine ab.mk _ (aO hx) ?_
    refine ab.mk _ (ed hy) ?_
    refine ab.mk _ (bsS y.name) ?_
    refine cN.mk _ _ (h3 _ _ rfl) ?_
    refine ab.mk _ (az (by omega)) ?_
    exact⟨(m++[y.name],Ii,T4),⟨by rw [hm,map_take (·.name) x.cs i y hy];simp,h4.w⟩,rfl,rfl⟩
   ·rintro⟨m,iL,T3⟩ ⟨(hm:m=_),(hg3:fy T1 T3 m iL)⟩
    rw [List.take_length] at hm
    have hm' : m=nmI x:=hm
    refine ab.mk _ (aO hx) ?_
    refine ah.no (geM (by omega)) ?_
    have hml:m.length≤30:=by rw [hm];simp only [aLc,aLm];omega
    have dB:∀s∈m,s.length≤100:=by
     rw [hm]
     intro s hs
     rcases List.mem_cons.1 hs with rfl | hs
     ·exact hxn.1
     ·obtain⟨c,hc,rfl⟩:=List.mem_map.1 hs
      exact hxn.2 c hc
    refine aB.loop 100 (σ:=Unit) m.length (fun i _=>{ nt:=100,tmps:=[(1,.ptr (.loc 1) 0),(3,.list sz tok 0 (l.map aQ)),(4,.int .i64 (.ofNat j)),(5,.list 1 iL 0 (m.map aQ)),(7,.int .i64 (.ofNat i))],locs:=[(1,bM d)],fix:=[] })
     (fun _ _=>{ heap:=[],aA:=T3 }) (fun i _=>(nmI x).all okN=(m.drop i).all okN) () (by omega) (by rw [hm'];rfl) ?_ ?_
    ·intro i _ hi hq
     obtain⟨s,hs⟩ : ∃y,m[i]?=some y:=⟨_,aGe hi⟩
     have hsl:=dB s (aMg hs)
     rw [gg hs] at hq
     refine ah.yes (ltS hi) ?_
     refine ab.mk _ (kl (.inr rfl) hs) ?_
     refine ag.mkB (h80 (by omega) (by omega)) (fun he=>?_) (fun he=>?_)
     ·refine ab.mk _ (kl (.inr rfl) hs) ?_
      refine ah.mk (fun hw=>?_) (fun hw=>?_)
      ·have ho:okN s=false:=by unfold okN;rw [he,hw];rfl
       rw [ho] at hq
       refine⟨_,rfl,T3,?_⟩
       unfold mf
       rw [ha,hq];rfl
      ·have ho:okN s=true:=by unfold okN;rw [he,hw];rfl
       rw [ho] at hq
       refine ab.mk _ (az (by omega)) ?_
       exact⟨(),hq,rfl,rfl⟩
     ·have ho:okN s=false:=by unfold okN;rw [he];rfl
      rw [ho] at hq
      refine⟨_,rfl,T3,?_⟩
      unfold mf
      rw [ha,hq];rfl
    ·intro _ hq
     rw [List.drop_length] at hq
     rw [hq] at ha
     refine ah.no (geS (by omega)) ?_
     have SP:m≠[]:=by rw [hm];simp
     obtain⟨T4,Ii,h3,h4⟩:=kJ (H:=[]) (sz:=sz) (sz2:=1) (bH:=iL) (new:=m) (by omega) hsz (.inr rfl) SP (hg.ext hg3.1).w
     have UE:(l++m).length≤300:=by rw [aLa];omega
     obtain⟨T5,dR,h5,h6⟩:=kJ (H:=[]) (sz:=1) (sz2:=1) (bH:=.tight) (new:=[x.name++cI]) (by simp only [aLc,List.length_nil];omega) (.inr rfl) (.inr rfl) (by simp) h4.w
     refine cN.mk _ _ (h3 _ _ rfl) ?_
     refine ab.mk _ (aO hx) ?_
     refine ab.mk _ (Fj (b:=cI) (by have:=hxn.1;unfold cI;simp only [aLc,List.length_nil];omega)) ?_
     refine ab.mk _ (bsS _) ?_
     refine cN.mk _ _ (h5 _ _ rfl) ?_
     refine ab.mk _ (az (by omega)) ?_
     refine⟨(l++m++[x.name++cI],1,dR,T5),⟨?_,.inr rfl,h6,ha⟩,rfl,rfl⟩
     rw [zC yC d.ai j x hx,hl,hm']
     unfold yC;simp
  ·rintro⟨l,sz,tok,T1⟩ ⟨(hl:l=_),(hsz:SzS sz l),(hg:aw [] T1 l tok),ha⟩
   have hll:=GV hd d.ai.length
   rw [← hl] at hll
   rw [List.take_length] at hl
   rw [List.drop_length] at ha
   refine ah.no (geM (by omega)) ?_
   refine aB.loop 100 (σ:=Unit) l.length (fun b _=>{ nt:=100,tmps:=[(3,.list sz tok 0 (l.map aQ)),(8,.int .i64 (.ofNat b))],locs:=[(1,bM d)],fix:=[] })
    (fun _ _=>{ heap:=[],aA:=T1 }) (fun b _=>∀b' < b,∀a < b',∀x y,l[a]?=some x→l[b']?=some y→x≠y) () (by omega) (fun b' h=>by omega) ?_ ?_
   ·intro b _ hb hP
    obtain⟨y,hy⟩ : ∃y,l[b]?=some y:=⟨_,aGe hb⟩
    refine ah.yes (ltS hb) ?_
    refine aB.loop 100 (σ:=Unit) b (fun a _=>{ nt:=100,tmps:=[(3,.list sz tok 0 (l.map aQ)),(8,.int .i64 (.ofNat b)),(9,.int .i64 (.ofNat a))],locs:=[(1,bM d)],fix:=[] })
     (fun _ _=>{ heap:=[],aA:=T1 }) (fun a _=>∀a' < a,∀x,l[a']?=some x→x≠y) () (by omega) (fun b' h=>by omega) ?_ ?_
    ·intro a _ hab hQ
     obtain⟨x,hx⟩ : ∃y,l[a]?=some y:=⟨_,aGe (by omega)⟩
     refine ah.yes (dC hab) ?_
     refine ab.mk _ (kl hsz hy) ?_
     refine ab.mk _ (kl hsz hx) ?_
     refine ab.mkB jJ (fun he=>?_) (fun he=>?_)
     ·have he' : y=x:=by simpa using he
      subst he'
      refine⟨_,rfl,T1,?_⟩
      unfold mf
      rw [← hl,J8 hab hx hy,Bool.and_false]
      rfl
     ·have he' : y≠x:=by simpa using he
      refine ab.mk _ (az (by omega)) ?_
      refine⟨(),fun a' ha' z hz=>?_,rfl,rfl⟩
      by_cases hq:a'=a
      ·subst hq;rw [hx] at hz;cases hz;exact fun e=>he' e.symm
      ·exact hQ a' (by omega) z hz
    ·intro _ hQ
     refine ah.no (fJ (by omega)) ?_
     refine ab.mk _ (az (by omega)) ?_
     refine⟨(),fun b' hb' a hab x z hx hz=>?_,rfl,rfl⟩
     by_cases hq:b'=b
     ·subst hq;rw [hy] at hz;cases hz;exact hQ a hab x hx
     ·exact hP b' (by omega) a hab x z hx hz
   ·intro _ hP
    refine ah.no (geS (by omega)) ?_
    refine⟨_,rfl,T1,?_⟩
    unfold mf
    rw [ha,← hl,Ij hP];rfl
 obtain⟨q,h1,T',rfl⟩:=h
 exact bG h1 (by simp only [dH,aq]) rfl rfl rfl rfl rfl
noncomputable def nB (d:Dl) (fx:Nat) (x0 x:In):Bool:=
 iEq (ak x.ty).2.k 1 && (!iLt (.ofNat (ak x.ty).1.length) d.fixed && (!iLt 12 (.ofNat (ak x.ty).1.length - d.fixed) && (!iLt (.ofNat (ak x0.ty).1.length) d.fixed && (!fT d.ai (ak x.ty).1 && oh fx (ak x0.ty).1 (ak x.ty).1))))
theorem h31 {n j fx:Nat} {d:Dl} {x0 x:In} {S:St} {W:Nat} (hd:pW d W) (h0:d.ai[0]?=some x0) (hx:d.ai[j]?=some x) (hfx:d.fixed=.ofNat fx) (hf:fx < 1000) (hn:3 * W + 1200≤n):RN n (.f 31) [eB d,.int .i64 (.ofNat j)] S=some (.bool (nB d fx x0 x),S):=by
 obtain⟨k,rfl⟩:=up (show 1≤n by omega)
 have hWm:=hd.Bk
 have iB:=hd.few
 obtain⟨a0,w0⟩:=hd.all x0 (aMg h0)
 obtain⟨a1,w1⟩:=hd.all x (aMg hx)
 obtain⟨q,h1,T1,tok,rfl,hg⟩:=h33 (n:=k) (x:=x0.ty) (H:=[]) (T:=[]) a0 (by omega) (by omega)
 obtain⟨q,h2,T2,bH,rfl,hg2⟩:=h33 (n:=k) (x:=x.ty) (H:=[]) (T:=T1) a1 (by omega) (by omega)
 obtain⟨p1,p2,p3⟩:=fK _ x0.ty (Nat.le_refl _) a0
 obtain⟨r1,r2,r3⟩:=fK _ x.ty (Nat.le_refl _) a1
 have h:∃q,frame Tryz.cfg (RN k) k 31 [eB d,.int .i64 (.ofNat j)] St.empty=some q∧q=(.bool (nB d fx x0 x),{ heap:=[],aA:=T2 }):=by
  refine aV (fn:=Tryz.f31) (p:=fun q=>q=(.bool (nB d fx x0 x),{ heap:=[],aA:=T2 })) rfl rfl ?_
  refine ab.mk _ (show indexAddr Tryz.cfg 26 (.list 7 .no 0 (d.ai.map encI)) (.int .i64 (.ofNat 0))=_ from aO h0) ?_
  refine ag.mk _ _ h1 ?_
  refine ab.mk _ (aO hx) ?_
  refine ag.mk _ _ h2 ?_
  unfold nB
  refine ah.mk (fun c1=>?_) (fun c1=>?_)
  ·have c1' : iEq (ak x.ty).2.k 1=false:=by simpa using c1
   rw [c1'];exact⟨_,rfl,rfl⟩
  have c1' : iEq (ak x.ty).2.k 1=true:=by simpa using c1
  refine ah.mk (fun c2=>?_) (fun c2=>?_)
  ·rw [al] at c2
   rw [c1',c2];exact⟨_,rfl,rfl⟩
  rw [al] at c2
  refine ab.mk (.int .i64 (.ofNat (ak x.ty).1.length - d.fixed)) (by rw [al];exact pT (by rw [hfx];simp only [aOn];omega) (by rw [hfx];simp only [aOn];omega)) ?_
  refine ah.mk (fun c3=>?_) (fun c3=>?_)
  ·rw [c1',c2,c3];exact⟨_,rfl,rfl⟩
  refine ah.mk (fun c4=>?_) (fun c4=>?_)
  ·rw [al] at c4
   rw [c1',c2,c3,c4];exact⟨_,rfl,rfl⟩
  rw [al] at c4
  refine ag.mkB (k37 (w:=W) (fun y hy=>by have:=(r3 y hy).2;omega) (by omega) (by omega) (by omega) (by omega)) (fun c5=>?_) (fun c5=>?_)
  ·rw [c1',c2,c3,c4,c5];exact⟨_,rfl,rfl⟩
  have l1:fx≤(ak x.ty).1.length:=by
   rw [hfx,cb,decide_eq_false_iff_not] at c2
   simp only [aOn] at c2;omega
  have l0:fx≤(ak x0.ty).1.length:=by
   rw [hfx,cb,decide_eq_false_iff_not] at c4
   simp only [aOn] at c4;omega
  have J9:=k81 (n:=k) (m:=fx) (c:=false) (c':=false) (tok:=tok) (aP:=bH) (S:={ heap:=[],aA:=T2 }) (w:=W) (xs:=(ak x0.ty).1) (ys:=(ak x.ty).1) (fun y hy=>⟨(p3 y hy).1,by have:=(p3 y hy).2;omega⟩) l0 l1 (by omega) (by omega) (by omega)
  rw [← hfx] at J9
  refine ag.mk _ _ J9 ?_
  rw [c1',c2,c3,c4,c5]
  exact⟨_,rfl,rfl⟩
 obtain⟨q,h3,rfl⟩:=h
 exact bG h3 (by simp only [dH,bx,aq]) rfl rfl rfl rfl rfl
noncomputable def mg (d:Dl) (fx:Nat) (x0:In) (at_:Nat) (t:Tm):Bool:=
 !iLt (.ofNat (ak t).1.length) d.fixed && (!iLt 12 (.ofNat (ak t).1.length - d.fixed) && (oh fx (ak x0.ty).1 (ak t).1 && iEq (cD d fx (ak t).2 (.ofNat (ak t).1.length)).1 (.ofNat at_)))
theorem h32 {n j fx p:Nat} {d:Dl} {x0:In} {t:Tm} {S:St} {W:Nat} (hd:pW d W) (hpi:∀i∈d.ai,fx≤(ak i.ty).1.length) (h0:d.ai[0]?=some x0) (ht:dG t) (htw:wt t≤W) (hfx:d.fixed=.ofNat fx) (hpp:d.params=.ofNat p) (hf:fx < 1000) (hp:p < 1000) (hn:3 * W + 1200≤n) :
 RN n (.f 32) [eB d,.int .i64 (.ofNat j),aH t] S=some (.bool (mg d fx x0 j t),S):=by
 obtain⟨k,rfl⟩:=up (show 1≤n by omega)
 have hWm:=hd.Bk
 have iB:=hd.few
 obtain⟨a0,w0⟩:=hd.all x0 (aMg h0)
 have l0:=hpi x0 (aMg h0)
 obtain⟨q,h1,T1,tok,rfl,hg⟩:=h33 (n:=k) (x:=x0.ty) (H:=[]) (T:=[]) a0 (by omega) (by omega)
 obtain⟨q,h2,T2,bH,rfl,hg2⟩:=h33 (n:=k) (x:=t) (H:=[]) (T:=T1) ht (by omega) (by omega)
 obtain⟨p1,p2,p3⟩:=fK _ x0.ty (Nat.le_refl _) a0
 obtain⟨r1,r2,r3⟩:=fK _ t (Nat.le_refl _) ht
 have hbd:Bd (.ofNat (ak t).1.length):=by unfold Bd;simp only [aOn];omega
 obtain⟨c,e,h3⟩:=h35 (n:=k) (S:={ heap:=[],aA:=T2 }) hd hpi r2 (by omega) hfx hpp hf hp hbd (by omega)
 have h:∃q,frame Tryz.cfg (RN k) k 32 [eB d,.int .i64 (.ofNat j),aH t] St.empty=some q∧q=(.bool (mg d fx x0 j t),{ heap:=[],aA:=T2 }):=by
  refine aV (fn:=Tryz.f32) (p:=fun q=>q=(.bool (mg d fx x0 j t),{ heap:=[],aA:=T2 })) rfl rfl ?_
  refine ab.mk _ (show indexAddr Tryz.cfg 26 (.list 7 .no 0 (d.ai.map encI)) (.int .i64 (.ofNat 0))=_ from aO h0) ?_
  refine ag.mk _ _ h1 ?_
  refine ag.mk _ _ h2 ?_
  unfold mg
  refine ah.mk (fun c2=>?_) (fun c2=>?_)
  ·rw [al] at c2
   rw [c2];exact⟨_,rfl,rfl⟩
  rw [al] at c2
  refine ab.mk (.int .i64 (.ofNat (ak t).1.length - d.fixed)) (by rw [al];exact pT (by rw [hfx];simp only [aOn];omega) (by rw [hfx];simp only [aOn];omega)) ?_
  refine ah.mk (fun c3=>?_) (fun c3=>?_)
  ·rw [c2,c3];exact⟨_,rfl,rfl⟩
  have l1:fx≤(ak t).1.length:=by
   rw [hfx,cb,decide_eq_false_iff_not] at c2
   simp only [aOn] at c2;omega
  have J9:=k81 (n:=k) (m:=fx) (c:=false) (c':=false) (tok:=tok) (aP:=bH) (S:={ heap:=[],aA:=T2 }) (w:=W) (xs:=(ak x0.ty).1) (ys:=(ak t).1) (fun y hy=>⟨(p3 y hy).1,by have:=(p3 y hy).2;omega⟩) l0 l1 (by omega) (by omega) (by omega)
  rw [← hfx] at J9
  refine ag.mkB J9 (fun c4=>?_) (fun c4=>?_)
  ·rw [c2,c3,c4]
   refine ag.mk _ _ (by rw [al];exact h3) ?_
   refine ah.sym ?_
   exact⟨_,rfl,rfl⟩
  ·rw [c2,c3,c4];exact⟨_,rfl,rfl⟩
 obtain⟨q,h4,rfl⟩:=h
 exact bG h4 (by simp only [dH,bx,br,aq]) rfl rfl rfl rfl rfl
structure Sh where
 index:Int
 level:Lv
 fields:List (List (Int×Int))
noncomputable def jX (n:Nat):List V→V
 | []=>.list 0 .tight 0 []
 | r::rows=>.list n .no 0 (r::rows)
noncomputable def rh (fs:List (Int×Int)):V:=jX 2 (fs.map dh)
@[reducible] noncomputable def sV (s:Sh):List V:=[.int .i64 s.index,.int .i64 s.level.c,.int .i64 s.level.p0,.int .i64 s.level.p1,.int .i64 s.level.p2,.int .i64 s.level.p3,jX 1 (s.fields.map fun fs=>.agg [rh fs])]
@[reducible] noncomputable def bQ (s:Sh):V:=.agg (sV s)
theorem gS {T0 T:List Nat} {rows:List V} {tok:Tok} {n:Nat} (h:aw T0 T rows tok):aj (.list (szG n rows) tok 0 rows)=jX n rows:=by
 rcases h.2 with⟨rfl,rfl⟩ | ⟨t,rfl,_,_,h4⟩
 ·rfl
 ·cases rows with
  | nil=>exact absurd rfl h4
  | cons r rows=>rfl
theorem fz {α β:Type} {f:α→Option β}:∀{xs:List α} {j:Nat} {x:α} {l:List β} {y:β},xs[j]?=some x→bP f (xs.take j)=some l→f x=some y→bP f (xs.take (j + 1))=some (l++[y])
 | [],j,x,l,y,h,_,_=>by simp at h
 | a::xs,0,x,l,y,h,h1,h2=>by
  simp at h;subst h
  cases (show some ([]:List β)=some l from h1)
  rw [List.take_succ_cons,bS,h2];rfl
 | a::xs,j + 1,x,l,y,h,h1,h2=>by
  rw [List.take_succ_cons,bS] at h1
  obtain⟨b,m,k1,k2,rfl⟩:=cT h1
  rw [List.take_succ_cons,bS,k1,fz (by simpa using h) k2 h2]
  rfl
theorem gT {α β:Type} {f:α→Option β}:∀{xs:List α} {j:Nat} {x:α},xs[j]?=some x→f x=none→bP f xs=none
 | [],j,x,h,_=>by simp at h
 | a::xs,0,x,h,h2=>by
  simp at h;subst h
  rw [bS,h2];rfl
 | a::xs,j + 1,x,h,h2=>by
  rw [bS,gT (j:=j) (by simpa using h) h2]
  cases f a<;>rfl
noncomputable def iE (d:Dl) (fx:Nat) (l:List Tm):Option (List (Int×Int)):=
 bP (fun q:Tm×Nat=>match cn d fx q.1 (.ofNat q.2) with | (f,true)=>some f | (_,false)=>none) ((l.drop fx).zipIdx fx)
noncomputable def b9 (d:Dl) (fx:Nat) (t:Tm):Option (List (Int×Int)):=match iE d fx (ak t).1 with
 | some fs=>(match fT d.ai (cD d fx (ak t).2 (.ofNat (ak t).1.length)).2 || fT d.ai ((ak t).1.take fx) with | true=>none | false=>some fs)
 | none=>none
noncomputable def Ka (i:In):Lv:=((ak i.ty).2.ls[0]?).getD H4
noncomputable def iM (d:Dl) (fx:Nat) (i:In):Option Sh:=match bP (fun c:Ct=>b9 d fx c.ty) i.cs with
 | some fss=>some ⟨aZ d i,Ka i,fss⟩
 | none=>none
noncomputable def gI (d:Dl) (fx:Nat):Option (List Sh):=bP (iM d fx) d.ai
theorem oo {LT sz by' : Nat} {z' : List V} {xs:List Tm} {c:Bool} {tok:Tok} {m:Nat} (hl:Tryz.cfg.ti LT=some { kind:=.slice 25,size:=sz,bytes:=by',zero:=z' }) (hm:m≤xs.length) :
 ∃c' aP,slice Tryz.cfg LT (.list (au c xs) tok 0 (ae xs)) none (some (.int .i64 (.ofNat m))) none=some (.list (au c' (xs.take m)) aP 0 (ae (xs.take m))):=by
 have hq:(ae xs).isEmpty=true∨au c xs=Tryz.ti25.size:=by
  rcases jx c xs with rfl | h
  ·left;rw [ae];rfl
  ·right;rw [h];rfl
 have hd:fP 0 (takeN m (ae xs))=ae (xs.take m):=by
  rw [dz,eD,List.drop_zero,cU,cU,List.map_take]
 have hsz:∃c',au c' (xs.take m)=au c xs:=by
  cases xs with
  | nil=>exact⟨c,by simp⟩
  | cons b k=>
   refine⟨true,?_⟩
   cases (b::k).take m<;>rfl
 obtain⟨c',hc'⟩:=hsz
 refine⟨c',if tok=.tight∧m=aG (ae xs) then .tight else .no,?_⟩
 unfold slice
 have hb:bound (some (.int .i64 (.ofNat m)))=some (some m):=by simp [bound]
 have hb0:bound none=some none:=rfl
 rw [hb,hb0]
 simp only [hl]
 rw [show Tryz.cfg.ti 25=some Tryz.ti25 from rfl]
 simp only
 rw [if_pos hq]
 unfold jK
 simp only [Option.getD_some,Option.getD_none]
 rw [if_pos ⟨Nat.zero_le _,by rw [al];exact hm⟩,hd,hc']
theorem Fk {l:List Tm} {fx i:Nat} {t:Tm} (h:l[fx + i]?=some t):((l.drop fx).zipIdx fx)[i]?=some (t,fx + i):=by
 rw [List.getElem?_zipIdx,List.getElem?_drop,h];rfl
@[reducible] noncomputable def jY (i:Int) (l:Lv) (sz:Nat) (tok:Tok) (rows:List V):List V:=[.int .i64 i,.int .i64 l.c,.int .i64 l.p0,.int .i64 l.p1,.int .i64 l.p2,.int .i64 l.p3,.list sz tok 0 rows]
inductive Jk where
 | a
 | b (e:Tm) (ix:Int) (lv:Lv) (sz:Nat) (tok:Tok) (rows:List V) (o:Option (Tm×Option (Int×Int)))
theorem bsF (f:Int×Int):buildSlice Tryz.cfg 57 1 [(0,dh f)]=some (.list 2 .tight 0 [dh f]):=rfl
theorem Ik {T0 T:List Nat} {rows:List V} {tok:Tok} (h:aw T0 T rows tok):buildSlice Tryz.cfg 52 1 [(0,.list (szG 2 rows) tok 0 rows)]=some (.list 1 .tight 0 [.agg [jX 2 rows]]):=by
 show some (V.list 1 .tight 0 [.agg [aj (.list (szG 2 rows) tok 0 rows)]])=_
 rw [gS h]
theorem vm {T0 T:List Nat} {rows:List V} {tok:Tok} (h:aw T0 T rows tok) (i:Int) (l:Lv):buildSlice Tryz.cfg 39 1 [(0,.agg (jY i l (szG 1 rows) tok rows))]=some (.list 7 .tight 0 [.agg [.int .i64 i,.int .i64 l.c,.int .i64 l.p0,.int .i64 l.p1,.int .i64 l.p2,.int .i64 l.p3,jX 1 rows]]):=by
 show some (V.list 7 .tight 0 [.agg [.int .i64 i,.int .i64 l.c,.int .i64 l.p0,.int .i64 l.p1,.int .i64 l.p2,.int .i64 l.p3,aj (.list (szG 1 rows) tok 0 rows)]])=_
 rw [gS h]
theorem zD {x:Tm} (h:dG x) (hk:iEq x.k 1=true):∃l,x.ls[0]?=some l:=by
 have hn:=((bX x).1 h).1
 unfold bh at hn
 simp only [Bool.and_eq_true] at hn
 have hl:=hn.2.2
 unfold lr at hl
 rw [hk] at hl
 simp only [cond_true,bp,decide_eq_true_eq,an,aLm] at hl
 cases hx:x.ls with
 | nil=>rw [hx] at hl;simp at hl
 | cons a r=>exact⟨a,rfl⟩
noncomputable def QB:Code:=((qx (jr Tryz.f10 5))[0]?).getD .skip
noncomputable def SQ:Code:=((qx QB)[0]?).getD .skip
@[reducible] noncomputable def MG:Option (Int×Int)→List (Nat×List V)
  | none=>[]
  | some f=>[(23,[.int .i64 f.1,.int .i64 f.2])]
theorem ev {α β:Type} {f:α→Option β}:∀{xs:List α} {m:List β},bP f xs=some m→m.length=xs.length
 | [],m,h=>by cases h;rfl
 | a::xs,m,h=>by
  rw [bS] at h
  obtain⟨b,m',_,h2,rfl⟩:=cT h
  rw [aLc,aLc,ev h2]
theorem Fl (k:Nat) (d:Dl) (fx p:Nat) (l:List Tm) (so si:Nat) (to ti:Tok) (ro ri:List V) (ix:Int) (lv:Lv) (Pe:Nat) (Kb:Tok) (Fm:List V) (e m:Tm) (j i:Nat) (tok:Tok) (o:Option (Int×Int)) (T0:List Nat) (K:Ex→Env→St→Prop) {W:Nat} (hd:pW d W) (hpi:∀i∈d.ai,fx≤(ak i.ty).1.length)
 (hl:∀y∈l,dG y∧wt y≤W) (hlf:fx≤l.length) (hll:l.length≤100000000) (hfx:d.fixed=.ofNat fx) (hpp:d.params=.ofNat p) (hf:fx < 1000) (hp:p < 1000) (hk:3 * W + 1300≤k) (hkl:l.length < k)
 (hR:∀L T',iE d fx l=none→K .ret { nt:=278,tmps:=[(2,.list 0 .tight 0 []),(3,.int .i64 15)],locs:=L,fix:=[] } { heap:=[],aA:=T' })
 (hK:∀o' fs aP T',iE d fx l=some fs→aw T0 T' (fs.map dh) aP→K (.exit 16) { nt:=278,tmps:=[(1,.ptr (.loc 1) 0),(11,.list so to 0 ro),(12,.int .i64 (.ofNat j)),(15,.ptr (.loc 15) 0),(16,.int .i64 (.ofNat i)),(17,.list (au false l) tok 0 (ae l)),(20,.list si ti 0 ri),(21,.list (szG 2 (fs.map dh)) aP 0 (fs.map dh)),(22,.int .i64 (.ofNat l.length)),(237,.bool false)],locs:=(1,bM d)::(14,aC e)::(15,jY ix lv Pe Kb Fm)::(18,aC m)::MG o',fix:=[] } { heap:=[],aA:=T' }) :
 aB (iter (evalCode Tryz.cfg (RN k) k 10 (Tryz.cfg.fc 10) SQ) k { nt:=278,tmps:=[(1,.ptr (.loc 1) 0),(11,.list so to 0 ro),(12,.int .i64 (.ofNat j)),(15,.ptr (.loc 15) 0),(16,.int .i64 (.ofNat i)),(17,.list (au false l) tok 0 (ae l)),(20,.list si ti 0 ri),(21,.list 0 .tight 0 []),(22,.int .i64 d.fixed)],locs:=(1,bM d)::(14,aC e)::(15,jY ix lv Pe Kb Fm)::(18,aC m)::MG o,fix:=[] } { heap:=[],aA:=T0 }) K:=by
 have hWm:=hd.Bk
 have hzl:((l.drop fx).zipIdx fx).length=l.length - fx:=by simp
 rw [hfx]
 refine aB.loop 278 (σ:=Nat×Option (Int×Int)×List (Int×Int)×Tok×List Nat) (l.length - fx) (fun q s=>{ nt:=278,tmps:=[(1,.ptr (.loc 1) 0),(11,.list so to 0 ro),(12,.int .i64 (.ofNat j)),(15,.ptr (.loc 15) 0),(16,.int .i64 (.ofNat i)),(17,.list (au false l) tok 0 (ae l)),(20,.list si ti 0 ri),(21,.list (szG 2 (s.2.2.1.map dh)) s.2.2.2.1 0 (s.2.2.1.map dh)),(22,.int .i64 (.ofNat s.1))],locs:=(1,bM d)::(14,aC e)::(15,jY ix lv Pe Kb Fm)::(18,aC m)::MG s.2.1,fix:=[] })
  (fun _ s=>{ heap:=[],aA:=s.2.2.2.2 }) (fun q s=>s.1=fx + q∧bP (fun q:Tm×Nat=>match cn d fx q.1 (.ofNat q.2) with | (f,true)=>some f | (_,false)=>none) (((l.drop fx).zipIdx fx).take q)=some s.2.2.1∧aw T0 s.2.2.2.2 (s.2.2.1.map dh) s.2.2.2.1) (fx,o,[],.tight,T0) (by omega) ⟨rfl,rfl,aw.start T0⟩ ?_ ?_
 ·rintro q ⟨c,o1,fs,gx,T1⟩ hq ⟨(hc:c=fx + q),(hfs:bP _ _=some fs),(hg:aw T0 T1 (fs.map dh) gx)⟩
  obtain⟨t,ht⟩ : ∃t,l[c]?=some t:=⟨_,aGe (by omega)⟩
  obtain⟨ht1,ht2⟩:=hl t (aMg ht)
  have hz:((l.drop fx).zipIdx fx)[q]?=some (t,fx + q):=Fk (by rw [← hc];exact ht)
  have hfl:fs.length≤100000000:=by
   have:=ev hfs
   rw [List.length_take,hzl] at this
   omega
  have MH:=h36 (n:=k) (S:={ heap:=[],aA:=T1 }) (aa:=.ofNat c) hd hpi ht1 ht2 hfx hpp hf hp (by simp only [aOn];omega) (by omega)
  obtain⟨T2,bH,a1,a2⟩:=dP (LT:=57) (ET:=96) (ei:=Tryz.ti96) (H:=[]) (T0:=T0) (T:=T1) (done:=fs.map dh) (new:=[dh (cn d fx t (.ofNat c)).1]) (bH:=.tight) (sz2:=2) rfl rfl (by decide) (by decide) (by simp;omega) hg (.inr rfl)
  have e1:fs.map dh++[dh (cn d fx t (.ofNat c)).1]=(fs++[(cn d fx t (.ofNat c)).1]).map dh:=by simp
  rw [e1] at a1 a2
  have yV:iLt (.ofNat c) (.ofNat (aG (ae l)))=true:=gE (by omega)
  cases hb:(cn d fx t (.ofNat c)).2 with
  | false=>
   have fU:iE d fx l=none:=by
    unfold iE
    refine gT hz ?_
    rw [← hc]
    show (match cn d fx t (.ofNat c) with | (f,true)=>some f | (_,false)=>none)=none
    rw [show cn d fx t (.ofNat c)=((cn d fx t (.ofNat c)).1,(cn d fx t (.ofNat c)).2) from rfl,hb]
   rw [hb] at MH
   cases o1
   all_goals
    refine ah.yes yV ?_
    refine ab.mk _ (bJ ht) ?_
    refine ag.mk _ _ MH ?_
    exact hR _ _ fU
  | true=>
   have qQ:(match cn d fx t (.ofNat (fx + q)) with | (f,true)=>some f | (_,false)=>none)=some (cn d fx t (.ofNat c)).1:=by
    rw [← hc,show cn d fx t (.ofNat c)=((cn d fx t (.ofNat c)).1,(cn d fx t (.ofNat c)).2) from rfl,hb]
   rw [hb] at MH
   have hnx:=fz hz hfs qQ
   cases o1
   all_goals
    refine ah.yes yV ?_
    refine ab.mk _ (bJ ht) ?_
    refine ag.mk _ _ MH ?_
    refine ab.mk _ (bsF _) ?_
    refine cN.mk _ _ (a1 _ _ rfl) ?_
    refine ab.mk _ (az (by omega)) ?_
    exact⟨(c + 1,some (cn d fx t (.ofNat c)).1,fs++[(cn d fx t (.ofNat c)).1],bH,T2),⟨by rw [hc];rfl,hnx,a2⟩,rfl,rfl⟩
 ·rintro⟨c,o1,fs,gx,T1⟩ ⟨(hc:c=fx + (l.length - fx)),(hfs:bP _ _=some fs),(hg:aw T0 T1 (fs.map dh) gx)⟩
  have hc' : c=l.length:=by omega
  subst hc'
  rw [List.take_of_length_le (by rw [hzl];omega)] at hfs
  rcases o1 with _ | f1
  ·refine ah.no (gG (by omega)) ?_
   exact hK none fs gx T1 hfs hg
  ·refine ah.no (gG (by omega)) ?_
   exact hK (some f1) fs gx T1 hfs hg
noncomputable def bj (fs:List (Int×Int)):V:=.agg [rh fs]
@[reducible] noncomputable def MI:Option (Tm×Option (Int×Int))→List (Nat×List V)
  | none=>[]
  | some (m,o)=>(18,aC m)::MG o
@[reducible] noncomputable def Jk.locs:Jk→List (Nat×List V)
  | .a=>[]
  | .b e ix lv sz tok rows o=>(14,aC e)::(15,jY ix lv sz tok rows)::MI o
theorem Bm (k:Nat) (d:Dl) (fx p:Nat) (x:In) (so:Nat) (to:Tok) (ro:List V) (ix:Int) (lv:Lv) (e:Tm) (j:Nat) (o:Option (Tm×Option (Int×Int))) (T0:List Nat) (K:Ex→Env→St→Prop) {W:Nat} (hx:d.ai[j]?=some x) (hd:pW d W) (hpi:∀i∈d.ai,fx≤(ak i.ty).1.length)
 (hcs:x.cs.length≤20∧∀c∈x.cs,dG c.ty∧wt c.ty≤W∧fx≤(ak c.ty).1.length) (hfx:d.fixed=.ofNat fx) (hpp:d.params=.ofNat p) (hf:fx < 1000) (hp:p < 1000) (hk:3 * W + 1300≤k)
 (hR:∀L T',bP (fun c:Ct=>b9 d fx c.ty) x.cs=none→K .ret { nt:=278,tmps:=[(2,.list 0 .tight 0 []),(3,.int .i64 15)],locs:=L,fix:=[] } { heap:=[],aA:=T' })
 (hK:∀o' fss aP T',bP (fun c:Ct=>b9 d fx c.ty) x.cs=some fss→aw T0 T' (fss.map bj) aP→K (.exit 14) { nt:=278,tmps:=[(1,.ptr (.loc 1) 0),(11,.list so to 0 ro),(12,.int .i64 (.ofNat j)),(15,.ptr (.loc 15) 0),(16,.int .i64 (.ofNat x.cs.length)),(207,.bool false)],locs:=(1,bM d)::(14,aC e)::(15,jY ix lv (szG 1 (fss.map bj)) aP (fss.map bj))::MI o',fix:=[] } { heap:=[],aA:=T' }) :
 aB (iter (evalCode Tryz.cfg (RN k) k 10 (Tryz.cfg.fc 10) QB) k { nt:=278,tmps:=[(1,.ptr (.loc 1) 0),(11,.list so to 0 ro),(12,.int .i64 (.ofNat j)),(15,.ptr (.loc 15) 0),(16,.int .i64 0)],locs:=(1,bM d)::(14,aC e)::(15,jY ix lv 0 .tight [])::MI o,fix:=[] } { heap:=[],aA:=T0 }) K:=by
 have hWm:=hd.Bk
 have iB:=hd.few
 obtain⟨hc1,hc2⟩:=hcs
 refine aB.loop 278 (σ:=Option (Tm×Option (Int×Int))×List (List (Int×Int))×Tok×List Nat) x.cs.length (fun i s=>{ nt:=278,tmps:=[(1,.ptr (.loc 1) 0),(11,.list so to 0 ro),(12,.int .i64 (.ofNat j)),(15,.ptr (.loc 15) 0),(16,.int .i64 (.ofNat i))],locs:=(1,bM d)::(14,aC e)::(15,jY ix lv (szG 1 (s.2.1.map bj)) s.2.2.1 (s.2.1.map bj))::MI s.1,fix:=[] })
  (fun _ s=>{ heap:=[],aA:=s.2.2.2 }) (fun i s=>bP (fun c:Ct=>b9 d fx c.ty) (x.cs.take i)=some s.2.1∧aw T0 s.2.2.2 (s.2.1.map bj) s.2.2.1) (o,[],.tight,T0) (by omega) ⟨rfl,aw.start T0⟩ ?_ ?_
 ·rintro i ⟨o1,fss,gx,T1⟩ hi ⟨(ia:_=some fss),(hg:aw T0 T1 (fss.map bj) gx)⟩
  obtain⟨c,hc⟩ : ∃c,x.cs[i]?=some c:=⟨_,aGe hi⟩
  obtain⟨ca,cw,cf⟩:=hc2 c (aMg hc)
  have hfl:=ev ia
  rw [List.length_take] at hfl
  obtain⟨q,h1,T2,bH,rfl,hg2⟩:=h33 (n:=k) (x:=c.ty) (H:=[]) (T:=T1) ca (by omega) (by omega)
  obtain⟨p1,p2,p3⟩:=fK _ c.ty (Nat.le_refl _) ca
  obtain⟨cc,ce,h2⟩:=h35 (n:=k) (S:={ heap:=[],aA:=T2 }) (aa:=.ofNat (ak c.ty).1.length) hd hpi p2 (by omega) hfx hpp hf hp (by unfold Bd;simp only [aOn];omega) (by omega)
  have hmm:=pX (d:=d) (fx:=fx) (aa:=.ofNat (ak c.ty).1.length) p2
  have hml:=sU (d:=d) (fx:=fx) (aa:=.ofNat (ak c.ty).1.length) p2
  have hcl:iLt (.ofNat i) (.ofNat (aG (x.cs.map fw)))=true:=ltM hi
  obtain⟨c',Pf,hsl⟩:=oo (LT:=23) (c:=false) (tok:=bH) (m:=fx) rfl cf
  have vn : slice Tryz.cfg 23 (.list (au false (ak c.ty).1) bH 0 (ae (ak c.ty).1)) none (some (.int .i64 d.fixed)) none=some (.list (au c' ((ak c.ty).1.take fx)) Pf 0 (ae ((ak c.ty).1.take fx))):=by rw [hfx];exact hsl
  have jG:∀(o2:Option (Int×Int)) (fs:List (Int×Int)) (iL:Tok) (T3:List Nat),iE d fx (ak c.ty).1=some fs→aw T2 T3 (fs.map dh) iL→
   (b9 d fx c.ty=none∧(fT d.ai (cD d fx (ak c.ty).2 (.ofNat (ak c.ty).1.length)).2 || fT d.ai ((ak c.ty).1.take fx))=true)∨
   (b9 d fx c.ty=some fs∧(fT d.ai (cD d fx (ak c.ty).2 (.ofNat (ak c.ty).1.length)).2 || fT d.ai ((ak c.ty).1.take fx))=false):=by
   intro o2 fs iL T3 hfs hg3
   unfold b9
   rw [hfs]
   cases hb:(fT d.ai (cD d fx (ak c.ty).2 (.ofNat (ak c.ty).1.length)).2 || fT d.ai ((ak c.ty).1.take fx)) with
   | true=>exact .inl ⟨rfl,rfl⟩
   | false=>exact .inr ⟨rfl,rfl⟩
  have fU:b9 d fx c.ty=none→bP (fun c:Ct=>b9 d fx c.ty) x.cs=none:=fun h=>gT hc h
  have hw2:∀y∈(cD d fx (ak c.ty).2 (.ofNat (ak c.ty).1.length)).2,wt y≤W:=fun y hy=>by have:=(hmm y hy).2;omega
  have hw1:∀y∈(ak c.ty).1.take fx,wt y≤W:=fun y hy=>by have:=(p3 y (List.mem_of_mem_take hy)).2;omega
  rcases o1 with _ | ⟨m1,_ | f1⟩
  ·refine ab.mk _ (aO hx) ?_
   refine ah.yes hcl ?_
   refine ab.mk _ (aO hx) ?_
   refine ab.mk _ (ed hc) ?_
   refine ag.mk _ _ h1 ?_
   refine ag.mk _ _ (by rw [al];exact h2) ?_
   refine Fl k d fx p (ak c.ty).1 so _ to _ ro _ ix lv _ _ _ e _ j i bH none T2 _ hd hpi (fun y hy=>⟨(p3 y hy).1,by have:=(p3 y hy).2;omega⟩) cf (by omega) hfx hpp hf hp hk (by omega) (fun L T' hn=>?_) (fun o' fs iL T3 hfs hg3=>?_)
   ·exact hR L T' (fU (by unfold b9;rw [hn]))
   ·have hg4:=(hg.ext hg2.1).ext hg3.1
    obtain⟨T5,dR,a1,a2⟩:=dP (LT:=52) (ET:=57) (ei:=Tryz.ti57) (H:=[]) (T0:=T0) (T:=T3) (done:=fss.map bj) (new:=[bj fs]) (bH:=.tight) (sz2:=1) rfl rfl (by decide) (by decide) (by simp;omega) hg4 (.inr rfl)
    have e1:fss.map bj++[bj fs]=(fss++[fs]).map bj:=by simp
    rw [e1] at a1 a2
    rcases jG none fs iL T3 hfs hg3 with⟨q1,q2⟩ | ⟨q1,q2⟩
    ·rcases o' with _ | f2
     ·refine ag.mkB (k37 (w:=W) hw2 (by omega) (by omega) (by omega) (by omega)) (fun b1=>?_) (fun b1=>?_)
      ·exact hR _ T3 (fU q1)
      ·refine ab.mk _ vn ?_
       refine ag.mkB (k37 (w:=W) hw1 (by have:=List.length_take_le fx (ak c.ty).1;omega) (by omega) (by omega) (by have:=List.length_take_le fx (ak c.ty).1;omega)) (fun b2=>?_) (fun b2=>?_)
       ·exact hR _ T3 (fU q1)
       ·rw [b1,b2] at q2;cases q2
     ·refine ag.mkB (k37 (w:=W) hw2 (by omega) (by omega) (by omega) (by omega)) (fun b1=>?_) (fun b1=>?_)
      ·exact hR _ T3 (fU q1)
      ·refine ab.mk _ vn ?_
       refine ag.mkB (k37 (w:=W) hw1 (by have:=List.length_take_le fx (ak c.ty).1;omega) (by omega) (by omega) (by have:=List.length_take_le fx (ak c.ty).1;omega)) (fun b2=>?_) (fun b2=>?_)
       ·exact hR _ T3 (fU q1)
       ·rw [b1,b2] at q2;cases q2
    ·have hnx:=fz hc ia q1
     rcases o' with _ | f2
     ·refine ag.mkB (k37 (w:=W) hw2 (by omega) (by omega) (by omega) (by omega)) (fun b1=>?_) (fun b1=>?_)
      ·rw [b1] at q2;cases q2
      ·refine ab.mk _ vn ?_
       refine ag.mkB (k37 (w:=W) hw1 (by have:=List.length_take_le fx (ak c.ty).1;omega) (by omega) (by omega) (by have:=List.length_take_le fx (ak c.ty).1;omega)) (fun b2=>?_) (fun b2=>?_)
       ·rw [b1,b2] at q2;cases q2
       ·refine ab.mk _ (Ik hg3) ?_
        refine cN.mk _ _ (a1 _ _ rfl) ?_
        refine ab.mk _ (az (by omega)) ?_
        exact⟨(some ((ak c.ty).2,none),fss++[fs],dR,T5),⟨hnx,a2⟩,rfl,rfl⟩
     ·refine ag.mkB (k37 (w:=W) hw2 (by omega) (by omega) (by omega) (by omega)) (fun b1=>?_) (fun b1=>?_)
      ·rw [b1] at q2;cases q2
      ·refine ab.mk _ vn ?_
       refine ag.mkB (k37 (w:=W) hw1 (by have:=List.length_take_le fx (ak c.ty).1;omega) (by omega) (by omega) (by have:=List.length_take_le fx (ak c.ty).1;omega)) (fun b2=>?_) (fun b2=>?_)
       ·rw [b1,b2] at q2;cases q2
       ·refine ab.mk _ (Ik hg3) ?_
        refine cN.mk _ _ (a1 _ _ rfl) ?_
        refine ab.mk _ (az (by omega)) ?_
        exact⟨(some ((ak c.ty).2,some f2),fss++[fs],dR,T5),⟨hnx,a2⟩,rfl,rfl⟩
  ·refine ab.mk _ (aO hx) ?_
   refine ah.yes hcl ?_
   refine ab.mk _ (aO hx) ?_
   refine ab.mk _ (ed hc) ?_
   refine ag.mk _ _ h1 ?_
   refine ag.mk _ _ (by rw [al];exact h2) ?_
   refine Fl k d fx p (ak c.ty).1 so _ to _ ro _ ix lv _ _ _ e _ j i bH none T2 _ hd hpi (fun y hy=>⟨(p3 y hy).1,by have:=(p3 y hy).2;omega⟩) cf (by omega) hfx hpp hf hp hk (by omega) (fun L T' hn=>?_) (fun o' fs iL T3 hfs hg3=>?_)
   ·exact hR L T' (fU (by unfold b9;rw [hn]))
   ·have hg4:=(hg.ext hg2.1).ext hg3.1
    obtain⟨T5,dR,a1,a2⟩:=dP (LT:=52) (ET:=57) (ei:=Tryz.ti57) (H:=[]) (T0:=T0) (T:=T3) (done:=fss.map bj) (new:=[bj fs]) (bH:=.tight) (sz2:=1) rfl rfl (by decide) (by decide) (by simp;omega) hg4 (.inr rfl)
    have e1:fss.map bj++[bj fs]=(fss++[fs]).map bj:=by simp
    rw [e1] at a1 a2
    rcases jG none fs iL T3 hfs hg3 with⟨q1,q2⟩ | ⟨q1,q2⟩
    ·rcases o' with _ | f2
     ·refine ag.mkB (k37 (w:=W) hw2 (by omega) (by omega) (by omega) (by omega)) (fun b1=>?_) (fun b1=>?_)
      ·exact hR _ T3 (fU q1)
      ·refine ab.mk _ vn ?_
       refine ag.mkB (k37 (w:=W) hw1 (by have:=List.length_take_le fx (ak c.ty).1;omega) (by omega) (by omega) (by have:=List.length_take_le fx (ak c.ty).1;omega)) (fun b2=>?_) (fun b2=>?_)
       ·exact hR _ T3 (fU q1)
       ·rw [b1,b2] at q2;cases q2
     ·refine ag.mkB (k37 (w:=W) hw2 (by omega) (by omega) (by omega) (by omega)) (fun b1=>?_) (fun b1=>?_)
      ·exact hR _ T3 (fU q1)
      ·refine ab.mk _ vn ?_
       refine ag.mkB (k37 (w:=W) hw1 (by have:=List.length_take_le fx (ak c.ty).1;omega) (by omega) (by omega) (by have:=List.length_take_le fx (ak c.ty).1;omega)) (fun b2=>?_) (fun b2=>?_)
       ·exact hR _ T3 (fU q1)
       ·rw [b1,b2] at q2;cases q2
    ·have hnx:=fz hc ia q1
     rcases o' with _ | f2
     ·refine ag.mkB (k37 (w:=W) hw2 (by omega) (by omega) (by omega) (by omega)) (fun b1=>?_) (fun b1=>?_)
      ·rw [b1] at q2;cases q2
      ·refine ab.mk _ vn ?_
       refine ag.mkB (k37 (w:=W) hw1 (by have:=List.length_take_le fx (ak c.ty).1;omega) (by omega) (by omega) (by have:=List.length_take_le fx (ak c.ty).1;omega)) (fun b2=>?_) (fun b2=>?_)
       ·rw [b1,b2] at q2;cases q2
       ·refine ab.mk _ (Ik hg3) ?_
        refine cN.mk _ _ (a1 _ _ rfl) ?_
        refine ab.mk _ (az (by omega)) ?_
        exact⟨(some ((ak c.ty).2,none),fss++[fs],dR,T5),⟨hnx,a2⟩,rfl,rfl⟩
     ·refine ag.mkB (k37 (w:=W) hw2 (by omega) (by omega) (by omega) (by omega)) (fun b1=>?_) (fun b1=>?_)
      ·rw [b1] at q2;cases q2
      ·refine ab.mk _ vn ?_
       refine ag.mkB (k37 (w:=W) hw1 (by have:=List.length_take_le fx (ak c.ty).1;omega) (by omega) (by omega) (by have:=List.length_take_le fx (ak c.ty).1;omega)) (fun b2=>?_) (fun b2=>?_)
       ·rw [b1,b2] at q2;cases q2
       ·refine ab.mk _ (Ik hg3) ?_
        refine cN.mk _ _ (a1 _ _ rfl) ?_
        refine ab.mk _ (az (by omega)) ?_
        exact⟨(some ((ak c.ty).2,some f2),fss++[fs],dR,T5),⟨hnx,a2⟩,rfl,rfl⟩
  ·refine ab.mk _ (aO hx) ?_
   refine ah.yes hcl ?_
   refine ab.mk _ (aO hx) ?_
   refine ab.mk _ (ed hc) ?_
   refine ag.mk _ _ h1 ?_
   refine ag.mk _ _ (by rw [al];exact h2) ?_
   refine Fl k d fx p (ak c.ty).1 so _ to _ ro _ ix lv _ _ _ e _ j i bH (some f1) T2 _ hd hpi (fun y hy=>⟨(p3 y hy).1,by have:=(p3 y hy).2;omega⟩) cf (by omega) hfx hpp hf hp hk (by omega) (fun L T' hn=>?_) (fun o' fs iL T3 hfs hg3=>?_)
   ·exact hR L T' (fU (by unfold b9;rw [hn]))
   ·have hg4:=(hg.ext hg2.1).ext hg3.1
    obtain⟨T5,dR,a1,a2⟩:=dP (LT:=52) (ET:=57) (ei:=Tryz.ti57) (H:=[]) (T0:=T0) (T:=T3) (done:=fss.map bj) (new:=[bj fs]) (bH:=.tight) (sz2:=1) rfl rfl (by decide) (by decide) (by simp;omega) hg4 (.inr rfl)
    have e1:fss.map bj++[bj fs]=(fss++[fs]).map bj:=by simp
    rw [e1] at a1 a2
    rcases jG none fs iL T3 hfs hg3 with⟨q1,q2⟩ | ⟨q1,q2⟩
    ·rcases o' with _ | f2
     ·refine ag.mkB (k37 (w:=W) hw2 (by omega) (by omega) (by omega) (by omega)) (fun b1=>?_) (fun b1=>?_)
      ·exact hR _ T3 (fU q1)
      ·refine ab.mk _ vn ?_
       refine ag.mkB (k37 (w:=W) hw1 (by have:=List.length_take_le fx (ak c.ty).1;omega) (by omega) (by omega) (by have:=List.length_take_le fx (ak c.ty).1;omega)) (fun b2=>?_) (fun b2=>?_)
       ·exact hR _ T3 (fU q1)
       ·rw [b1,b2] at q2;cases q2
     ·refine ag.mkB (k37 (w:=W) hw2 (by omega) (by omega) (by omega) (by omega)) (fun b1=>?_) (fun b1=>?_)
      ·exact hR _ T3 (fU q1)
      ·refine ab.mk _ vn ?_
       refine ag.mkB (k37 (w:=W) hw1 (by have:=List.length_take_le fx (ak c.ty).1;omega) (by omega) (by omega) (by have:=List.length_take_le fx (ak c.ty).1;omega)) (fun b2=>?_) (fun b2=>?_)
       ·exact hR _ T3 (fU q1)
       ·rw [b1,b2] at q2;cases q2
    ·have hnx:=fz hc ia q1
     rcases o' with _ | f2
     ·refine ag.mkB (k37 (w:=W) hw2 (by omega) (by omega) (by omega) (by omega)) (fun b1=>?_) (fun b1=>?_)
      ·rw [b1] at q2;cases q2
      ·refine ab.mk _ vn ?_
       refine ag.mkB (k37 (w:=W) hw1 (by have:=List.length_take_le fx (ak c.ty).1;omega) (by omega) (by omega) (by have:=List.length_take_le fx (ak c.ty).1;omega)) (fun b2=>?_) (fun b2=>?_)
       ·rw [b1,b2] at q2;cases q2
       ·refine ab.mk _ (Ik hg3) ?_
        refine cN.mk _ _ (a1 _ _ rfl) ?_
        refine ab.mk _ (az (by omega)) ?_
        exact⟨(some ((ak c.ty).2,none),fss++[fs],dR,T5),⟨hnx,a2⟩,rfl,rfl⟩
     ·refine ag.mkB (k37 (w:=W) hw2 (by omega) (by omega) (by omega) (by omega)) (fun b1=>?_) (fun b1=>?_)
      ·rw [b1] at q2;cases q2
      ·refine ab.mk _ vn ?_
       refine ag.mkB (k37 (w:=W) hw1 (by have:=List.length_take_le fx (ak c.ty).1;omega) (by omega) (by omega) (by have:=List.length_take_le fx (ak c.ty).1;omega)) (fun b2=>?_) (fun b2=>?_)
       ·rw [b1,b2] at q2;cases q2
       ·refine ab.mk _ (Ik hg3) ?_
        refine cN.mk _ _ (a1 _ _ rfl) ?_
        refine ab.mk _ (az (by omega)) ?_
        exact⟨(some ((ak c.ty).2,some f2),fss++[fs],dR,T5),⟨hnx,a2⟩,rfl,rfl⟩
 ·rintro⟨o1,fss,gx,T1⟩ ⟨(ia:_=some fss),(hg:aw T0 T1 (fss.map bj) gx)⟩
  rw [List.take_length] at ia
  rcases o1 with _ | ⟨m1,_ | f1⟩
  ·refine ab.mk _ (aO hx) ?_
   refine ah.no (geM (by omega)) ?_
   exact hK none fss gx T1 ia hg
  ·refine ab.mk _ (aO hx) ?_
   refine ah.no (geM (by omega)) ?_
   exact hK (some (m1,none)) fss gx T1 ia hg
  ·refine ab.mk _ (aO hx) ?_
   refine ah.no (geM (by omega)) ?_
   exact hK (some (m1,some f1)) fss gx T1 ia hg
structure MJ (d:Dl) (fx W:Nat):Prop where
 cs:∀i∈d.ai,i.cs.length≤20∧∀c∈i.cs,dG c.ty∧wt c.ty≤W∧fx≤(ak c.ty).1.length
 pi:∀i∈d.ai,fx≤(ak i.ty).1.length
 so:∀i∈d.ai,iEq (ak i.ty).2.k 1=true
noncomputable def SR:Code:=jr Tryz.f10 5
theorem Fo (k:Nat) (d:Dl) (fx p:Nat) (T:List Nat) (K:Ex→Env→St→Prop) {W:Nat} (hd:pW d W) (hc:MJ d fx W)
 (hfx:d.fixed=.ofNat fx) (hpp:d.params=.ofNat p) (hf:fx < 1000) (hp:p < 1000) (hk:3 * W + 1300≤k)
 (hR:∀L T',gI d fx=none→K .ret { nt:=278,tmps:=[(2,.list 0 .tight 0 []),(3,.int .i64 15)],locs:=L,fix:=[] } { heap:=[],aA:=T' })
 (hK:∀J out tok T',gI d fx=some out→aw [] T' (out.map bQ) tok→K (.exit 12) { nt:=278,tmps:=[(1,.ptr (.loc 1) 0),(11,.list (szG 7 (out.map bQ)) tok 0 (out.map bQ)),(12,.int .i64 (.ofNat d.ai.length)),(178,.bool false)],locs:=(1,bM d)::Jk.locs J,fix:=[] } { heap:=[],aA:=T' }) :
 aB (iter (evalCode Tryz.cfg (RN k) k 10 (Tryz.cfg.fc 10) SR) k { nt:=278,tmps:=[(1,.ptr (.loc 1) 0),(11,.list 0 .tight 0 []),(12,.int .i64 0)],locs:=[(1,bM d)],fix:=[] } { heap:=[],aA:=T }) K:=by
 have hWm:=hd.Bk
 have iB:=hd.few
 have hT0:∀T:List Nat,ju [] T:=fun T=>⟨Nat.zero_le _,fun t v h=>by rw [bR] at h;simp at h⟩
 refine aB.loop 278 (σ:=Jk×List Sh×Tok×List Nat) d.ai.length (fun j s=>{ nt:=278,tmps:=[(1,.ptr (.loc 1) 0),(11,.list (szG 7 (s.2.1.map bQ)) s.2.2.1 0 (s.2.1.map bQ)),(12,.int .i64 (.ofNat j))],locs:=(1,bM d)::s.1.locs,fix:=[] })
  (fun _ s=>{ heap:=[],aA:=s.2.2.2 }) (fun j s=>bP (iM d fx) (d.ai.take j)=some s.2.1∧aw [] s.2.2.2 (s.2.1.map bQ) s.2.2.1) (.a,[],.tight,T) (by omega) ⟨rfl,⟨hT0 T,.inl ⟨rfl,rfl⟩⟩⟩ ?_ ?_
 ·rintro j ⟨J,out,tok,T1⟩ hj ⟨(ja:bP (iM d fx) (d.ai.take j)=some out),(hg:aw [] T1 (out.map bQ) tok)⟩
  obtain⟨x,hx⟩ : ∃x,d.ai[j]?=some x:=⟨_,aGe hj⟩
  have hxm:=aMg hx
  obtain⟨hxa,hxw⟩:=hd.all x hxm
  have hxc:=hc.cs x hxm
  obtain⟨lv,hlv⟩:=zD (fK _ x.ty (Nat.le_refl _) hxa).2.1 (hc.so x hxm)
  have Pg:Ka x=lv:=by unfold Ka;rw [hlv];rfl
  have hol:=ev ja
  rw [List.length_take] at hol
  obtain⟨q,h1,T2,bH,rfl,hg2⟩:=h33 (n:=k) (x:=x.ty) (H:=[]) (T:=T1) hxa (by omega) (by omega)
  have hg':=hg.ext hg2.1
  have MK:=h34 (n:=k) (S:={ heap:=[],aA:=T2 }) hx hxa (by omega) (by omega) (by rw [hfx];unfold Bd;simp only [aOn];omega)
  have hii:indexAddr Tryz.cfg 22 (.list (au (ak x.ty).2.a (ak x.ty).2.ls) (av (ak x.ty).2.b) 0 ((ak x.ty).2.ls.map enc)) (.int .i64 (.ofNat 0))=_:=sT hlv
  have fU:bP (fun c:Ct=>b9 d fx c.ty) x.cs=none→gI d fx=none:=fun h=>gT hx (by unfold iM;rw [h])
  have gr:∀(fss:List (List (Int×Int))) aP T',bP (fun c:Ct=>b9 d fx c.ty) x.cs=some fss→aw T2 T' (fss.map bj) aP→
   ∃T5 dR,(∀(A:Env) (ac:Acc),ac.heap=true→append Tryz.cfg A { heap:=[],aA:=T' } ac 39 (.list (szG 7 (out.map bQ)) tok 0 (out.map bQ)) (.list 7 .tight 0 [bQ (Sh.mk (aZ d x) lv fss)])=some (.list (szG 7 ((out++[(Sh.mk (aZ d x) lv fss)]).map bQ)) dR 0 ((out++[(Sh.mk (aZ d x) lv fss)]).map bQ),{ heap:=[],aA:=T5 }))∧
    aw [] T5 ((out++[(Sh.mk (aZ d x) lv fss)]).map bQ) dR∧bP (iM d fx) (d.ai.take (j + 1))=some (out++[(Sh.mk (aZ d x) lv fss)]):=by
   intro fss aP T' ia hg3
   obtain⟨T5,dR,a1,a2⟩:=dP (LT:=39) (ET:=54) (ei:=Tryz.ti54) (H:=[]) (T0:=[]) (T:=T') (done:=out.map bQ) (new:=[bQ (Sh.mk (aZ d x) lv fss)]) (bH:=.tight) (sz2:=7) rfl rfl (by decide) (by decide) (by simp;omega) (hg'.ext hg3.1) (.inr rfl)
   have e1:out.map bQ++[bQ (Sh.mk (aZ d x) lv fss)]=(out++[(Sh.mk (aZ d x) lv fss)]).map bQ:=by simp
   rw [e1] at a1 a2
   refine⟨T5,dR,a1,a2,fz hx ja ?_⟩
   unfold iM
   rw [ia,Pg]
  rcases J with _ | ⟨e0,i0,l0,z0,k0,r0,_ | ⟨m0,_ | f0⟩⟩
  ·refine ah.yes (ltM hj) ?_
   refine ab.mk _ (aO hx) ?_
   refine ag.mk _ _ h1 ?_
   refine ag.mk _ _ MK ?_
   refine ab.mk _ hii ?_
   refine Bm k d fx p x _ _ _ (aZ d x) lv (ak x.ty).2 j none T2 _ hx hd hc.pi hxc hfx hpp hf hp hk (fun L T' hn=>hR L T' (fU hn)) (fun o' fss aP T' ia hg3=>?_)
   obtain⟨T5,dR,a1,a2,a3⟩:=gr fss aP T' ia hg3
   rcases o' with _ | ⟨m',_ | f'⟩
   ·refine ab.mk _ (vm hg3 _ _) ?_
    refine cN.mk _ _ (a1 _ _ rfl) ?_
    refine ab.mk _ (az (by omega)) ?_
    exact⟨(.b (ak x.ty).2 (aZ d x) lv (szG 1 (fss.map bj)) aP (fss.map bj) none,out++[Sh.mk (aZ d x) lv fss],dR,T5),⟨a3,a2⟩,rfl,rfl⟩
   ·refine ab.mk _ (vm hg3 _ _) ?_
    refine cN.mk _ _ (a1 _ _ rfl) ?_
    refine ab.mk _ (az (by omega)) ?_
    exact⟨(.b (ak x.ty).2 (aZ d x) lv (szG 1 (fss.map bj)) aP (fss.map bj) (some (m',none)),out++[Sh.mk (aZ d x) lv fss],dR,T5),⟨a3,a2⟩,rfl,rfl⟩
   ·refine ab.mk _ (vm hg3 _ _) ?_
    refine cN.mk _ _ (a1 _ _ rfl) ?_
    refine ab.mk _ (az (by omega)) ?_
    exact⟨(.b (ak x.ty).2 (aZ d x) lv (szG 1 (fss.map bj)) aP (fss.map bj) (some (m',some f')),out++[Sh.mk (aZ d x) lv fss],dR,T5),⟨a3,a2⟩,rfl,rfl⟩
  ·refine ah.yes (ltM hj) ?_
   refine ab.mk _ (aO hx) ?_
   refine ag.mk _ _ h1 ?_
   refine ag.mk _ _ MK ?_
   refine ab.mk _ hii ?_
   refine Bm k d fx p x _ _ _ (aZ d x) lv (ak x.ty).2 j none T2 _ hx hd hc.pi hxc hfx hpp hf hp hk (fun L T' hn=>hR L T' (fU hn)) (fun o' fss aP T' ia hg3=>?_)
   obtain⟨T5,dR,a1,a2,a3⟩:=gr fss aP T' ia hg3
   rcases o' with _ | ⟨m',_ | f'⟩
   ·refine ab.mk _ (vm hg3 _ _) ?_
    refine cN.mk _ _ (a1 _ _ rfl) ?_
    refine ab.mk _ (az (by omega)) ?_
    exact⟨(.b (ak x.ty).2 (aZ d x) lv (szG 1 (fss.map bj)) aP (fss.map bj) none,out++[Sh.mk (aZ d x) lv fss],dR,T5),⟨a3,a2⟩,rfl,rfl⟩
   ·refine ab.mk _ (vm hg3 _ _) ?_
    refine cN.mk _ _ (a1 _ _ rfl) ?_
    refine ab.mk _ (az (by omega)) ?_
    exact⟨(.b (ak x.ty).2 (aZ d x) lv (szG 1 (fss.map bj)) aP (fss.map bj) (some (m',none)),out++[Sh.mk (aZ d x) lv fss],dR,T5),⟨a3,a2⟩,rfl,rfl⟩
   ·refine ab.mk _ (vm hg3 _ _) ?_
    refine cN.mk _ _ (a1 _ _ rfl) ?_
    refine ab.mk _ (az (by omega)) ?_
    exact⟨(.b (ak x.ty).2 (aZ d x) lv (szG 1 (fss.map bj)) aP (fss.map bj) (some (m',some f')),out++[Sh.mk (aZ d x) lv fss],dR,T5),⟨a3,a2⟩,rfl,rfl⟩
  ·refine ah.yes (ltM hj) ?_
   refine ab.mk _ (aO hx) ?_
   refine ag.mk _ _ h1 ?_
   refine ag.mk _ _ MK ?_
   refine ab.mk _ hii ?_
   refine Bm k d fx p x _ _ _ (aZ d x) lv (ak x.ty).2 j (some (m0,none)) T2 _ hx hd hc.pi hxc hfx hpp hf hp hk (fun L T' hn=>hR L T' (fU hn)) (fun o' fss aP T' ia hg3=>?_)
   obtain⟨T5,dR,a1,a2,a3⟩:=gr fss aP T' ia hg3
   rcases o' with _ | ⟨m',_ | f'⟩
   ·refine ab.mk _ (vm hg3 _ _) ?_
    refine cN.mk _ _ (a1 _ _ rfl) ?_
    refine ab.mk _ (az (by omega)) ?_
    exact⟨(.b (ak x.ty).2 (aZ d x) lv (szG 1 (fss.map bj)) aP (fss.map bj) none,out++[Sh.mk (aZ d x) lv fss],dR,T5),⟨a3,a2⟩,rfl,rfl⟩
   ·refine ab.mk _ (vm hg3 _ _) ?_
    refine cN.mk _ _ (a1 _ _ rfl) ?_
    refine ab.mk _ (az (by omega)) ?_
    exact⟨(.b (ak x.ty).2 (aZ d x) lv (szG 1 (fss.map bj)) aP (fss.map bj) (some (m',none)),out++[Sh.mk (aZ d x) lv fss],dR,T5),⟨a3,a2⟩,rfl,rfl⟩
   ·refine ab.mk _ (vm hg3 _ _) ?_
    refine cN.mk _ _ (a1 _ _ rfl) ?_
    refine ab.mk _ (az (by omega)) ?_
    exact⟨(.b (ak x.ty).2 (aZ d x) lv (szG 1 (fss.map bj)) aP (fss.map bj) (some (m',some f')),out++[Sh.mk (aZ d x) lv fss],dR,T5),⟨a3,a2⟩,rfl,rfl⟩
  ·refine ah.yes (ltM hj) ?_
   refine ab.mk _ (aO hx) ?_
   refine ag.mk _ _ h1 ?_
   refine ag.mk _ _ MK ?_
   refine ab.mk _ hii ?_
   refine Bm k d fx p x _ _ _ (aZ d x) lv (ak x.ty).2 j (some (m0,some f0)) T2 _ hx hd hc.pi hxc hfx hpp hf hp hk (fun L T' hn=>hR L T' (fU hn)) (fun o' fss aP T' ia hg3=>?_)
   obtain⟨T5,dR,a1,a2,a3⟩:=gr fss aP T' ia hg3
   rcases o' with _ | ⟨m',_ | f'⟩
   ·refine ab.mk _ (vm hg3 _ _) ?_
    refine cN.mk _ _ (a1 _ _ rfl) ?_
    refine ab.mk _ (az (by omega)) ?_
    exact⟨(.b (ak x.ty).2 (aZ d x) lv (szG 1 (fss.map bj)) aP (fss.map bj) none,out++[Sh.mk (aZ d x) lv fss],dR,T5),⟨a3,a2⟩,rfl,rfl⟩
   ·refine ab.mk _ (vm hg3 _ _) ?_
    refine cN.mk _ _ (a1 _ _ rfl) ?_
    refine ab.mk _ (az (by omega)) ?_
    exact⟨(.b (ak x.ty).2 (aZ d x) lv (szG 1 (fss.map bj)) aP (fss.map bj) (some (m',none)),out++[Sh.mk (aZ d x) lv fss],dR,T5),⟨a3,a2⟩,rfl,rfl⟩
   ·refine ab.mk _ (vm hg3 _ _) ?_
    refine cN.mk _ _ (a1 _ _ rfl) ?_
    refine ab.mk _ (az (by omega)) ?_
    exact⟨(.b (ak x.ty).2 (aZ d x) lv (szG 1 (fss.map bj)) aP (fss.map bj) (some (m',some f')),out++[Sh.mk (aZ d x) lv fss],dR,T5),⟨a3,a2⟩,rfl,rfl⟩
 ·rintro⟨J,out,tok,T1⟩ ⟨(ja:bP (iM d fx) (d.ai.take d.ai.length)=some out),(hg:aw [] T1 (out.map bQ) tok)⟩
  rw [List.take_length] at ja
  rcases J with _ | ⟨e0,i0,l0,z0,k0,r0,_ | ⟨m0,_ | f0⟩⟩
  ·refine ah.no (geM (by omega)) ?_
   exact hK .a out tok T1 ja hg
  ·refine ah.no (geM (by omega)) ?_
   exact hK (.b e0 i0 l0 z0 k0 r0 none) out tok T1 ja hg
  ·refine ah.no (geM (by omega)) ?_
   exact hK (.b e0 i0 l0 z0 k0 r0 (some (m0,none))) out tok T1 ja hg
  ·refine ah.no (geM (by omega)) ?_
   exact hK (.b e0 i0 l0 z0 k0 r0 (some (m0,some f0))) out tok T1 ja hg
noncomputable def iq (d:Dl):Bool:=iEq d.kind 4 && (decide (d.name=[]) && (dx d.ty zTm && (dx d.val zTm && (!iLt d.fixed 0 && (!iLt 12 d.fixed && (!iLt (.ofNat d.ai.length) 1 && !iLt 3 (.ofNat d.ai.length)))))))
noncomputable def Bn (d:Dl):Bool:=d.ai.all fun i=>!iLt 8 (.ofNat i.cs.length)
noncomputable def gC (t:Tm):Bool:=cM t && !iLt 0 (fS t 0)
noncomputable def ud (d:Dl):Bool:=!iLt d.params 0 && iLt d.params 4
noncomputable def fxN (d:Dl):Nat:=d.fixed.toNat
noncomputable def pN (d:Dl):Nat:=d.params.toNat
noncomputable def in0 (d:Dl):In:=(d.ai[0]?).getD ⟨[],zTm,[]⟩
noncomputable def pY (d:Dl):Bool:=d.ai.all (nB d (fxN d) (in0 d))
noncomputable def pZ (d:Dl):Bool:=(d.ai.zipIdx 0).all fun q=>q.1.cs.all fun c=>mg d (fxN d) (in0 d) q.2 c.ty
noncomputable def ofR (d:Dl):List Sh×Int:=
 match iq d && (Bn d && (bV d).all gC) with
 | false=>([],1)
 | true=>match ud d && (bV d).all (fun t=>!hiT (pN d) t) with
  | false=>([],8)
  | true=>match mf d with
   | false=>([],5)
   | true=>match pY d && pZ d with
    | false=>([],14)
    | true=>match gI d (fxN d) with
     | none=>([],15)
     | some l=>(l,0)
def OfQ (d:Dl) (q:V×St):Prop:=∃T' tok,q=(.tuple [.list (szG 7 ((ofR d).1.map bQ)) tok 0 ((ofR d).1.map bQ),.int .i64 (ofR d).2],{ heap:=[],aA:=T' })∧aw [] T' ((ofR d).1.map bQ) tok
theorem Dz (T:List Nat):ju [] T:=⟨Nat.zero_le _,fun t v h=>by rw [bR] at h;simp at h⟩
theorem oq {d:Dl} {e:Int} (h:ofR d=([],e)) (T' : List Nat):OfQ d (.tuple [.list 0 .tight 0 [],.int .i64 e],{ heap:=[],aA:=T' }):=by
 unfold OfQ
 rw [h]
 exact⟨T',.tight,rfl,⟨Dz T',.inl ⟨rfl,rfl⟩⟩⟩
structure rT (d:Dl) (W:Nat):Prop where
 nm:vl d
 ty:∀t∈bV d,Sm t∧dW t < 1000000000∧wt t≤W
 dty:Sm d.ty∧dW d.ty < 1000000000∧wt d.ty≤W
 Il:Sm d.val∧dW d.val < 1000000000∧wt d.val≤W
theorem Im {d:Dl} (h:vl d):(bV d).length≤210:=by
 have:=xG om d.ai 21 (fun y hy=>by have:=h.cs y hy;unfold om;simp;omega)
 have h2:=h.few
 have:d.ai.length * 21≤10 * 21:=Nat.mul_le_mul (by omega) (by omega)
 unfold bV;omega
theorem dM {d:Dl} {i:In} (hi:i∈d.ai):i.ty∈bV d∧∀c∈i.cs,c.ty∈bV d:=
 ⟨List.mem_flatMap.2 ⟨i,hi,by unfold om;simp⟩,fun c hc=>List.mem_flatMap.2 ⟨i,hi,by unfold om;exact aMt _ (List.mem_map.2 ⟨c,hc,rfl⟩)⟩⟩
theorem h12 {n:Nat} {x:Tm} {S:St} (hs:Sm x) (hn:wt x + 9≤n):RN n (.f 12) [aH x] S=some (.bool (cM x),S):=by
 obtain⟨m,rfl⟩:=up (show 8≤n by omega);exact O5 m x S hs (by omega)
theorem h13 {n:Nat} {x:Tm} {S:St} (hl:dW x < 1000000000) (hn:wt x + 3≤n):RN n (.f 13) [aH x] S=some (.int .i64 (fS x 0),S):=by
 obtain⟨m,rfl⟩:=up (show 2≤n by omega);exact O1 m x S hl (by omega)
theorem k27 {n:Nat} {a b:Tm} {S:St} (ha:Sm a) (hs:dW a < 1000000000) (hn:wt a + 1≤n):RN n (.f 27) [aH a,aH b] S=some (.bool (dx a b),S):=E7 n a b S ha hs (by omega)
theorem Kc {d:Dl} {W:Nat} (h:rT d W) (hm:(bV d).all gC=true):pW d 4000000 where
 few:=h.nm.few
 all i hi:=by
  have:=(List.all_eq_true.1 hm) i.ty (dM hi).1
  unfold gC at this
  simp only [Bool.and_eq_true] at this
  exact⟨cH this.1,fv this.1⟩
 Bk:=by omega
theorem xI {d:Dl} (hm:(bV d).all gC=true) {i:In} (hi:i∈d.ai) {c:Ct} (hc:c∈i.cs):dG c.ty∧wt c.ty≤4000000:=by
 have:=(List.all_eq_true.1 hm) c.ty ((dM hi).2 c hc)
 unfold gC at this
 simp only [Bool.and_eq_true] at this
 exact⟨cH this.1,fv this.1⟩
theorem sW {d:Dl} {x0 x:In} (h:nB d (fxN d) x0 x=true) (hfx:d.fixed=.ofNat (fxN d)):fxN d≤(ak x.ty).1.length∧iEq (ak x.ty).2.k 1=true:=by
 unfold nB at h
 simp only [Bool.and_eq_true] at h
 refine⟨?_,h.1⟩
 have:=h.2.1
 rw [hfx,cb] at this
 simp only [Bool.not_eq_true',decide_eq_false_iff_not,aOn] at this
 omega
theorem Bo {d:Dl} {x0:In} {j:Nat} {t:Tm} (h:mg d (fxN d) x0 j t=true) (hfx:d.fixed=.ofNat (fxN d)):fxN d≤(ak t).1.length:=by
 unfold mg at h
 simp only [Bool.and_eq_true] at h
 have:=h.1
 rw [hfx,cb] at this
 simp only [Bool.not_eq_true',decide_eq_false_iff_not,aOn] at this
 omega
theorem h10 {n:Nat} {d:Dl} {S:St} {W:Nat} (hd:rT d W) (hn:W + 12100000≤n) :
 RN n (.f 10) [eB d] S=some (.tuple [jX 7 ((ofR d).1.map bQ),.int .i64 (ofR d).2],S):=by
 obtain⟨k,rfl⟩:=up (show 1≤n by omega)
 have iB:=hd.nm.few
 have h:∃q,frame Tryz.cfg (RN k) k 10 [eB d] St.empty=some q∧OfQ d q:=by
  refine aV (fn:=Tryz.f10) (p:=OfQ d) rfl rfl ?_
  have p7:iq d=false→∀T',OfQ d (.tuple [.list 0 .tight 0 [],.int .i64 1],{ heap:=[],aA:=T' }):=fun h T'=>oq (by unfold ofR;rw [h];rfl) T'
  refine ah.mk (fun c1=>?_) (fun c1=>?_)
  ·exact⟨_,rfl,p7 (by unfold iq;rw [show iEq d.kind 4=false by simpa using c1];rfl) []⟩
  have c1' : iEq d.kind 4=true:=by simpa using c1
  refine ab.mkB re (fun c2=>?_) (fun c2=>?_)
  ·exact⟨_,rfl,p7 (by unfold iq;rw [c1',show decide (d.name=[])=false by simpa using c2];rfl) []⟩
  have c2' : decide (d.name=[])=true:=by simpa using c2
  refine ag.mkB (k27 (b:=zTm) hd.dty.1 hd.dty.2.1 (by have:=hd.dty.2.2;omega)) (fun c3=>?_) (fun c3=>?_)
  rotate_left
  ·exact⟨_,rfl,p7 (by unfold iq;rw [c1',c2',c3];rfl) []⟩
  refine ag.mkB (k27 (b:=zTm) hd.Il.1 hd.Il.2.1 (by have:=hd.Il.2.2;omega)) (fun c4=>?_) (fun c4=>?_)
  rotate_left
  ·exact⟨_,rfl,p7 (by unfold iq;rw [c1',c2',c3,c4];rfl) []⟩
  refine ah.mk (fun c5=>?_) (fun c5=>?_)
  ·exact⟨_,rfl,p7 (by unfold iq;rw [c1',c2',c3,c4,c5];rfl) []⟩
  refine ah.mk (fun c6=>?_) (fun c6=>?_)
  ·exact⟨_,rfl,p7 (by unfold iq;rw [c1',c2',c3,c4,c5,c6];rfl) []⟩
  refine ah.mk (fun c7=>?_) (fun c7=>?_)
  ·rw [an,aLm] at c7
   exact⟨_,rfl,p7 (by unfold iq;rw [c1',c2',c3,c4,c5,c6,c7];rfl) []⟩
  rw [an,aLm] at c7
  refine ah.mk (fun c8=>?_) (fun c8=>?_)
  ·rw [an,aLm] at c8
   exact⟨_,rfl,p7 (by unfold iq;rw [c1',c2',c3,c4,c5,c6,c7,c8];rfl) []⟩
  rw [an,aLm] at c8
  have ha:iq d=true:=by unfold iq;rw [c1',c2',c3,c4,c5,c6,c7,c8];rfl
  have hfx:d.fixed=.ofNat (fxN d):=by
   rw [cb,decide_eq_false_iff_not] at c5
   unfold fxN
   simp only [aOn];omega
  have p8:fxN d≤12:=by
   rw [hfx,cb,decide_eq_false_iff_not] at c6
   simp only [aOn] at c6;omega
  have CP:1≤d.ai.length:=by
   rw [cb,decide_eq_false_iff_not] at c7
   simp only [aOn] at c7;omega
  have h0:d.ai[0]?=some (in0 d):=by
   unfold in0
   rw [aGe (by omega)];rfl
  have SS:Bn d=false→∀T',OfQ d (.tuple [.list 0 .tight 0 [],.int .i64 1],{ heap:=[],aA:=T' }):=fun h T'=>oq (by unfold ofR;rw [ha,h];rfl) T'
  refine aB.loop 278 (σ:=Unit) d.ai.length (fun j _=>{ nt:=278,tmps:=[(1,.ptr (.loc 1) 0),(4,.int .i64 (.ofNat j))],locs:=[(1,bM d)],fix:=[] }) (fun _ _=>St.empty)
   (fun j _=>Bn d=(d.ai.drop j).all fun i=>!iLt 8 (.ofNat i.cs.length)) () (by omega) rfl ?_ ?_
  ·intro j _ hj hp
   obtain⟨x,hx⟩ : ∃x,d.ai[j]?=some x:=⟨_,aGe hj⟩
   rw [gg hx] at hp
   refine ah.yes (ltM hj) ?_
   refine ab.mk _ (aO hx) ?_
   refine ah.mk (fun hq=>?_) (fun hq=>?_)
   ·rw [an,aLm] at hq
    rw [hq] at hp
    exact⟨_,rfl,SS hp []⟩
   ·rw [an,aLm] at hq
    rw [hq] at hp
    refine ab.mk _ (az (by omega)) ?_
    exact⟨(),hp,rfl,rfl⟩
  intro _ hp
  rw [List.drop_length] at hp
  have hfb:Bn d=true:=hp
  refine ah.no (geM (by omega)) ?_
  obtain⟨tb,SU⟩:=h28 (n:=k) (S:=St.empty) iB hd.nm.cs (by omega)
  have htl:=Im hd.nm
  have QC:(bV d).all gC=false→∀T',OfQ d (.tuple [.list 0 .tight 0 [],.int .i64 1],{ heap:=[],aA:=T' }):=fun h T'=>oq (by unfold ofR;rw [ha,hfb,h];rfl) T'
  refine ag.mk _ _ SU ?_
  refine aB.loop 278 (σ:=Unit) (bV d).length (fun j _=>{ nt:=278,tmps:=[(1,.ptr (.loc 1) 0),(5,.list (au false (bV d)) (av tb) 0 (ae (bV d))),(6,.int .i64 (.ofNat j))],locs:=[(1,bM d)],fix:=[] }) (fun _ _=>St.empty)
   (fun j _=>(bV d).all gC=((bV d).drop j).all gC) () (by omega) rfl ?_ ?_
  ·intro j _ hj hp
   obtain⟨x,hx⟩ : ∃x,(bV d)[j]?=some x:=⟨_,aGe hj⟩
   obtain⟨x1,x2,x3⟩:=hd.ty x (aMg hx)
   rw [gg hx] at hp
   refine ah.yes (gE hj) ?_
   refine ab.mk _ (bJ hx) ?_
   refine ag.mkB (h12 x1 (by omega)) (fun hq=>?_) (fun hq=>?_)
   ·refine ab.mk _ (bJ hx) ?_
    refine ag.mk _ _ (h13 x2 (by omega)) ?_
    refine ah.mk (fun hw=>?_) (fun hw=>?_)
    ·rw [show gC x=false by unfold gC;rw [hq,hw];rfl] at hp
     exact⟨_,rfl,QC hp []⟩
    ·rw [show gC x=true by unfold gC;rw [hq,hw];rfl] at hp
     refine ab.mk _ (az (by omega)) ?_
     exact⟨(),hp,rfl,rfl⟩
   ·rw [show gC x=false by unfold gC;rw [hq];rfl] at hp
    exact⟨_,rfl,QC hp []⟩
  intro _ hp
  rw [List.drop_length] at hp
  have hmb:(bV d).all gC=true:=hp
  refine ah.no (gG (by omega)) ?_
  have hdl:=Kc hd hmb
  have hA:(iq d && (Bn d && (bV d).all gC))=true:=by rw [ha,hfb,hmb];rfl
  have Ph:(ud d && (bV d).all (fun t=>!hiT (pN d) t))=false→∀T',OfQ d (.tuple [.list 0 .tight 0 [],.int .i64 8],{ heap:=[],aA:=T' }):=fun h T'=>oq (by unfold ofR;rw [hA,h]) T'
  refine ah.mk (fun c9=>?_) (fun c9=>?_)
  ·exact⟨_,rfl,Ph (by unfold ud;rw [c9];rfl) []⟩
  refine ah.mk (fun c10=>?_) (fun c10=>?_)
  ·have Ke : iLt d.params 4=false:=by simpa using c10
   exact⟨_,rfl,Ph (by unfold ud;rw [c9,Ke];rfl) []⟩
  have Ke : iLt d.params 4=true:=by simpa using c10
  have hpb:ud d=true:=by unfold ud;rw [c9,Ke];rfl
  have hpp:d.params=.ofNat (pN d):=by
   rw [cb,decide_eq_false_iff_not] at c9
   unfold pN
   simp only [aOn];omega
  have hp4:pN d < 4:=by
   rw [hpp,cb,decide_eq_true_eq] at Ke
   simp only [aOn] at Ke;omega
  refine aB.loop 278 (σ:=Unit) (bV d).length (fun j _=>{ nt:=278,tmps:=[(1,.ptr (.loc 1) 0),(5,.list (au false (bV d)) (av tb) 0 (ae (bV d))),(7,.int .i64 (.ofNat j))],locs:=[(1,bM d)],fix:=[] }) (fun _ _=>St.empty)
   (fun j _=>(bV d).all (fun t=>!hiT (pN d) t)=((bV d).drop j).all (fun t=>!hiT (pN d) t)) () (by omega) rfl ?_ ?_
  ·intro j _ hj hp
   obtain⟨x,hx⟩ : ∃x,(bV d)[j]?=some x:=⟨_,aGe hj⟩
   have hxm:=(List.all_eq_true.1 hmb) x (aMg hx)
   unfold gC at hxm
   simp only [Bool.and_eq_true] at hxm
   have hxw:=fv hxm.1
   rw [gg hx] at hp
   have SV : RN k (.f 29) [aH x,.int .i64 d.params] St.empty=some (.bool (!hiT (pN d) x),St.empty):=by rw [hpp];exact h29 k x (pN d) _ (by omega) (by omega) (by omega)
   refine ah.yes (gE hj) ?_
   refine ab.mk _ (bJ hx) ?_
   refine ag.mkB SV (fun hq=>?_) (fun hq=>?_)
   ·rw [hq] at hp
    refine ab.mk _ (az (by omega)) ?_
    exact⟨(),hp,rfl,rfl⟩
   ·rw [hq] at hp
    exact⟨_,rfl,Ph (by rw [hp];simp) []⟩
  intro _ hp
  rw [List.drop_length] at hp
  have hlo:(bV d).all (fun t=>!hiT (pN d) t)=true:=hp
  refine ah.no (gG (by omega)) ?_
  have hB:(ud d && (bV d).all (fun t=>!hiT (pN d) t))=true:=by rw [hpb,hlo];rfl
  refine ag.mkB (h30 hd.nm (by omega)) (fun c11=>?_) (fun c11=>?_)
  rotate_left
  ·exact⟨_,rfl,oq (by unfold ofR;rw [hA,hB,c11]) []⟩
  have QD:(pY d && pZ d)=false→∀T',OfQ d (.tuple [.list 0 .tight 0 [],.int .i64 14],{ heap:=[],aA:=T' }):=fun h T'=>oq (by unfold ofR;rw [hA,hB,c11,h]) T'
  refine aB.loop 278 (σ:=Unit) d.ai.length (fun j _=>{ nt:=278,tmps:=[(1,.ptr (.loc 1) 0),(8,.int .i64 (.ofNat j))],locs:=[(1,bM d)],fix:=[] }) (fun _ _=>St.empty)
   (fun j _=>pY d=(d.ai.drop j).all (nB d (fxN d) (in0 d))) () (by omega) rfl ?_ ?_
  ·intro j _ hj hp
   obtain⟨x,hx⟩ : ∃x,d.ai[j]?=some x:=⟨_,aGe hj⟩
   rw [gg hx] at hp
   refine ah.yes (ltM hj) ?_
   refine ag.mkB (h31 hdl h0 hx hfx (by omega) (by omega)) (fun hq=>?_) (fun hq=>?_)
   ·rw [hq] at hp
    refine ab.mk _ (az (by omega)) ?_
    exact⟨(),hp,rfl,rfl⟩
   ·rw [hq] at hp
    exact⟨_,rfl,QD (by rw [hp];rfl) []⟩
  intro _ hp
  rw [List.drop_length] at hp
  have hfo:pY d=true:=hp
  refine ah.no (geM (by omega)) ?_
  have hpi:∀i∈d.ai,fxN d≤(ak i.ty).1.length∧iEq (ak i.ty).2.k 1=true:=fun i hi=>sW (List.all_eq_true.1 hfo i hi) hfx
  refine aB.loop 278 (σ:=Unit) d.ai.length (fun j _=>{ nt:=278,tmps:=[(1,.ptr (.loc 1) 0),(9,.int .i64 (.ofNat j))],locs:=[(1,bM d)],fix:=[] }) (fun _ _=>St.empty)
   (fun j _=>pZ d=((d.ai.zipIdx 0).drop j).all fun q=>q.1.cs.all fun c=>mg d (fxN d) (in0 d) q.2 c.ty) () (by omega) rfl ?_ ?_
  ·intro j _ hj hp
   obtain⟨x,hx⟩ : ∃x,d.ai[j]?=some x:=⟨_,aGe hj⟩
   have hxm:=aMg hx
   have hxc:=hd.nm.cs x hxm
   have hz:(d.ai.zipIdx 0)[j]?=some (x,j):=by rw [List.getElem?_zipIdx,hx];simp
   rw [gg hz] at hp
   refine ah.yes (ltM hj) ?_
   refine aB.loop 278 (σ:=Unit) x.cs.length (fun i _=>{ nt:=278,tmps:=[(1,.ptr (.loc 1) 0),(9,.int .i64 (.ofNat j)),(10,.int .i64 (.ofNat i))],locs:=[(1,bM d)],fix:=[] }) (fun _ _=>St.empty)
    (fun i _=>(x.cs.all fun c=>mg d (fxN d) (in0 d) j c.ty)=(x.cs.drop i).all fun c=>mg d (fxN d) (in0 d) j c.ty) () (by omega) rfl ?_ ?_
   ·intro i _ hi hq
    obtain⟨c,hc⟩ : ∃c,x.cs[i]?=some c:=⟨_,aGe hi⟩
    obtain⟨ca,cw⟩:=xI hmb hxm (aMg hc)
    rw [gg hc] at hq
    refine ab.mk _ (aO hx) ?_
    refine ah.yes (ltM hi) ?_
    refine ab.mk _ (aO hx) ?_
    refine ab.mk _ (ed hc) ?_
    refine ag.mkB (h32 (p:=pN d) hdl (fun i hi=>(hpi i hi).1) h0 ca cw hfx hpp (by omega) (by omega) (by omega)) (fun hw=>?_) (fun hw=>?_)
    ·rw [hw] at hq
     refine ab.mk _ (az (by omega)) ?_
     exact⟨(),hq,rfl,rfl⟩
    ·rw [hw] at hq
     have hq' : (x.cs.all fun c=>mg d (fxN d) (in0 d) j c.ty)=false:=hq
     simp only [hq',Bool.false_and] at hp
     exact⟨_,rfl,QD (by rw [hp];simp) []⟩
   ·intro _ hq
    rw [List.drop_length] at hq
    have hq' : (x.cs.all fun c=>mg d (fxN d) (in0 d) j c.ty)=true:=hq
    simp only [hq',Bool.true_and] at hp
    refine ab.mk _ (aO hx) ?_
    refine ah.no (geM (by omega)) ?_
    refine ab.mk _ (az (by omega)) ?_
    exact⟨(),hp,rfl,rfl⟩
  intro _ hp
  rw [List.drop_of_length_le (by simp)] at hp
  have hct:pZ d=true:=hp
  refine ah.no (geM (by omega)) ?_
  have hC:(pY d && pZ d)=true:=by rw [hfo,hct];rfl
  have hcs:MJ d (fxN d) 4000000:=by
   refine⟨fun i hi=>⟨hd.nm.cs i hi,fun c hc=>?_⟩,fun i hi=>(hpi i hi).1,fun i hi=>(hpi i hi).2⟩
   obtain⟨ca,cw⟩:=xI hmb hi hc
   obtain⟨j,hj⟩:=List.mem_iff_getElem?.1 hi
   have hz:(d.ai.zipIdx 0)[j]?=some (i,j):=by rw [List.getElem?_zipIdx,hj];simp
   have h1:=(List.all_eq_true.1 hct) _ (aMg hz)
   have h2:=(List.all_eq_true.1 h1) c hc
   exact⟨ca,cw,Bo h2 hfx⟩
  have hof:ofR d=match gI d (fxN d) with | none=>([],15) | some l=>(l,0):=by
   unfold ofR;rw [hA,hB,c11,hC]
  refine Fo k d (fxN d) (pN d) [] _ hdl hcs hfx hpp (by omega) (by omega) (by omega) (fun L T' hn=>?_) (fun J out tok T' ja hg=>?_)
  ·exact⟨_,rfl,oq (by rw [hof,hn]) T'⟩
  ·have hq:OfQ d (.tuple [.list (szG 7 (out.map bQ)) tok 0 (out.map bQ),.int .i64 0],{ heap:=[],aA:=T' }):=by
    unfold OfQ
    rw [hof,ja]
    exact⟨T',tok,rfl,hg⟩
   rcases J with _ | ⟨e0,i0,l0,z0,k0,r0,_ | ⟨m0,_ | f0⟩⟩
   ·exact⟨_,rfl,hq⟩
   ·exact⟨_,rfl,hq⟩
   ·exact⟨_,rfl,hq⟩
   ·exact⟨_,rfl,hq⟩
 obtain⟨q,h1,T',tok,rfl,hg⟩:=h
 refine bG h1 (by simp only [dH,aq]) rfl rfl rfl rfl ?_
 show V.tuple [aj (.list (szG 7 _) tok 0 _),_]=_
 rw [gS hg]
 rfl
mutual
def eC (c:Int):Tm→Prop
 | .mk k n s a b fc fd ls ts=>(iEq k 2=true→n≤c)∧sX c ts
def sX (c:Int):List Tm→Prop
 | []=>True
 | t::ts=>eC c t∧sX c ts
end
theorem DA (c:Int) (ts:List Tm):sX c ts↔∀y∈ts,eC c y:=by
 induction ts with
 | nil=>simp [sX]
 | cons t ts ih=>rw [sX,ih];simp
theorem fA (c:Int) (x:Tm):eC c x↔(iEq x.k 2=true→x.n≤c)∧∀y∈x.ts,eC c y:=by cases x;rw [eC,DA];rfl
theorem eC.mono {c e:Int} (h:c≤e):∀(w:Nat) (x:Tm),wt x≤w→eC c x→eC e x
 | 0,x,hw,_=>by rw [cr] at hw;omega
 | w + 1,x,hw,hx=>by
  obtain⟨h1,h2⟩:=(fA c x).1 hx
  exact (fA e x).2 ⟨fun hk=>by have:=h1 hk;omega,fun y hy=>eC.mono h w y (by have:=cz hy;omega) (h2 y hy)⟩
theorem DB (b:Int) (k:Int):∀(ts:List Tm) (i:Nat) (a:Int),(cG (df b) k ts i () a).1=(ts.zipIdx i).map fun q=>a8 q.1 (dv a (aY k (.ofNat q.2))) b
 | [],i,a=>by rw [cG];rfl
 | t::ts,i,a=>by
  rw [cG,List.zipIdx_cons,List.map_cons]
  simp only
  congr 1
  exact DB b k ts (i + 1) a
theorem nC {x:Tm} {a b:Int} (h:iEq x.k 2=true):a8 x a b=bif !iLt x.n a then x.xk (dv x.n b) else x:=by
 unfold a8
 rw [kG,h];rfl
theorem jZ {x:Tm} {a b:Int} (h:iEq x.k 2=false):a8 x a b=x.rf ((x.ts.zipIdx 0).map fun q=>a8 q.1 (dv a (aY x.k (.ofNat q.2))) b):=by
 unfold a8
 rw [kG,h]
 simp only [cond_false]
 rw [DB]
 rfl
theorem nD (x:Tm) (l:List Tm):(x.rf l).ts=l:=by cases x;rfl
theorem ot (x:Tm) (l:List Tm):(x.rf l).k=x.k:=by cases x;rfl
theorem sY (x:Tm) (n:Int):(x.xk n).ts=x.ts:=by cases x;rfl
theorem Bp (x:Tm) (n:Int):(x.xk n).k=x.k:=by cases x;rfl
theorem vt (x:Tm) (n:Int):(x.xk n).n=n:=by cases x;rfl
theorem lI {x:Tm} (h:bh x=true) (hk:iEq x.k 2=true):x.ts=[]:=by
 have:=Dw h
 rw [bp,decide_eq_true_eq] at hk
 rw [hk,al,show cF 2=0 from rfl] at this
 simp only [Bool.and_eq_true,bp,decide_eq_true_eq,aOn] at this
 exact List.eq_nil_of_length_eq_zero (by omega)
theorem xJ {x:Tm} {l:List Tm} (h:l.length=x.ts.length):bh (x.rf l)=bh x:=by
 unfold bh
 rw [show (x.rf l).ts=l by cases x;rfl,al,al,h]
 cases x;rfl
theorem DC {x:Tm} {a b:Int}:((x.ts.zipIdx 0).map fun q=>a8 q.1 (dv a (aY x.k (.ofNat q.2))) b).length=x.ts.length:=by simp
theorem Kf {x:Tm} {a b:Int} {y:Tm} (h:y∈(x.ts.zipIdx 0).map fun q=>a8 q.1 (dv a (aY x.k (.ofNat q.2))) b):∃t∈x.ts,∃a',y=a8 t a' b:=by
 obtain⟨q,hq,rfl⟩:=List.mem_map.1 h
 obtain⟨t,i⟩:=q
 exact⟨t,List.fst_mem_of_mem_zipIdx hq,_,rfl⟩
theorem p9 {c b:Int} (hb:0≤b) (hcb:c + b≤1048576):∀(w:Nat) (x:Tm),wt x≤w→dG x→eC c x→∀a,dG (a8 x a b)∧eC (c + b) (a8 x a b)
 | 0,x,hw,_,_,_=>by rw [cr] at hw;omega
 | w + 1,x,hw,hx,hv,a=>by
  obtain⟨h1,h2⟩:=(bX x).1 hx
  obtain⟨v1,v2⟩:=(fA c x).1 hv
  cases hk:iEq x.k 2 with
  | true=>
   obtain⟨n0,n1⟩:=ny h1 hk
   have hn:=v1 hk
   rw [nC hk]
   have hts:x.ts=[]:=lI h1 hk
   cases hq:(!iLt x.n a) with
   | false=>exact⟨hx,eC.mono (by omega) _ x (Nat.le_refl _) hv⟩
   | true=>
    simp only [cond_true]
    have e:dv x.n b=x.n + b:=ec (by omega) (by omega)
    rw [e]
    refine⟨(bX _).2 ⟨?_,?_⟩,(fA _ _).2 ⟨?_,?_⟩⟩
    ·have hg:=h1
     unfold bh at hg ⊢
     simp only [Bool.and_eq_true] at hg ⊢
     refine⟨by cases x;exact hg.1,⟨⟨by cases x;exact hg.2.1.1,?_⟩,by cases x;exact hg.2.2⟩⟩
     unfold kU
     rw [Bp,vt,hk]
     simp only [cond_true,Bool.and_eq_true,Bool.not_eq_true',cb,decide_eq_false_iff_not]
     omega
    ·intro y hy
     rw [sY,hts] at hy
     cases hy
    ·intro _
     rw [vt]
     omega
    ·intro y hy
     rw [sY,hts] at hy
     cases hy
  | false=>
   rw [jZ hk]
   have dy:∀y∈(x.ts.zipIdx 0).map fun q=>a8 q.1 (dv a (aY x.k (.ofNat q.2))) b,dG y∧eC (c + b) y:=by
    intro y hy
    obtain⟨t,ht,a',rfl⟩:=Kf hy
    exact p9 hb hcb w t (by have:=cz ht;omega) (h2 t ht) (v2 t ht) a'
   refine⟨(bX _).2 ⟨by rw [xJ DC];exact h1,?_⟩,(fA _ _).2 ⟨?_,?_⟩⟩
   ·intro y hy
    rw [nD] at hy
    exact (dy y hy).1
   ·intro hk'
    rw [ot,hk] at hk'
    cases hk'
   ·intro y hy
    rw [nD] at hy
    exact (dy y hy).2
theorem GW (x:Tm) (a b:Int):wt (a8 x a b)=wt x:=(E9 x a b).1
theorem Fp {a b:Int}:a≤mxI a b∧b≤mxI a b:=by unfold mxI;split<;>omega
theorem qD (k:Int):∀(ts:List Tm) (i:Nat) (aa acc:Int),acc≤im k ts i aa acc∧∀(j:Nat) (t:Tm),ts[j]?=some t→fS t (dv aa (aY k (.ofNat (i + j))))≤im k ts i aa acc
 | [],i,aa,acc=>⟨by rw [im];omega,fun j t h=>by simp at h⟩
 | t::ts,i,aa,acc=>by
  rw [mI]
  obtain⟨h1,h2⟩:=qD k ts (i + 1) aa (mxI acc (fS t (dv aa (aY k (.ofNat i)))))
  have hm:=@Fp acc (fS t (dv aa (aY k (.ofNat i))))
  refine⟨by omega,fun j u hj=>?_⟩
  cases j with
  | zero=>
   simp at hj;subst hj
   rw [Nat.add_zero];omega
  | succ j=>
   have:=h2 j u (by simpa using hj)
   rwa [show i + 1 + j=i + (j + 1) by omega] at this
theorem uW {x:Tm} (h:gC x=true):eC 4096 x:=by
 unfold gC at h
 simp only [Bool.and_eq_true] at h
 obtain⟨r,hr⟩:=kH h.1
 have hf:fS x 0≤0:=by
  have:=h.2
  rw [cb] at this
  simp only [Bool.not_eq_true',decide_eq_false_iff_not] at this
  omega
 have key:=pR (P:=fun x d=>∀aa:Int,0≤aa→aa + d≤1000000→fS x aa≤0→eC (aa + d) x) (fun x d hp ih aa h0 hd hfr=>by
  rw [nu] at hfr
  refine (fA _ x).2 ⟨fun hk=>?_,fun y hy=>?_⟩
  ·rw [hk] at hfr
   simp only [cond_true] at hfr
   obtain⟨n0,n1⟩:=ny hp hk
   have e1:dv x.n 1=x.n + 1:=ec (by omega) (by omega)
   rw [e1] at hfr
   have e2:sQ (x.n + 1) aa=x.n + 1 - aa:=ec (by omega) (by omega)
   rw [e2] at hfr
   have:=@Fp 0 (x.n + 1 - aa)
   omega
  ·have hk:iEq x.k 2=false:=by
    cases hk:iEq x.k 2 with
    | false=>rfl
    | true=>
     rw [lI hp hk] at hy
     cases hy
   rw [hk] at hfr
   simp only [cond_false] at hfr
   obtain⟨j,hj⟩:=List.mem_iff_getElem?.1 hy
   have h3:=(qD x.k x.ts 0 aa 0).2 j y hj
   rw [Nat.zero_add] at h3
   have hb:=lH x.k (.ofNat j)
   have e1:dv aa (aY x.k (.ofNat j))=aa + aY x.k (.ofNat j):=ec (by rcases hb with h | h<;>omega) (by rcases hb with h | h<;>omega)
   rw [e1] at h3
   have:=ih y hy (aa + aY x.k (.ofNat j)) (by rcases hb with h | h<;>omega) (by rcases hb with h | h<;>omega) (by omega)
   exact eC.mono (by rcases hb with h | h<;>omega) _ y (Nat.le_refl _) this) x hr
 have:=key 0 (by omega) (by omega) hf
 exact eC.mono (by omega) _ x (Nat.le_refl _) this
structure Gd (W:Nat) (c:Int) (t:Tm):Prop where
 all:dG t
 vars:eC c t
 le:wt t≤W
theorem Gd.lift {W:Nat} {c b:Int} {t:Tm} (h:Gd W c t) (hb:0≤b) (hcb:c + b≤1048576) (a:Int):Gd W (c + b) (a8 t a b):=
 ⟨(p9 hb hcb _ t (Nat.le_refl _) h.all h.vars a).1,(p9 hb hcb _ t (Nat.le_refl _) h.all h.vars a).2,by rw [GW];exact h.le⟩
theorem Gd.mono {W:Nat} {c e:Int} {t:Tm} (h:Gd W c t) (hc:c≤e):Gd W e t:=⟨h.all,eC.mono hc _ t (Nat.le_refl _) h.vars,h.le⟩
theorem Gd.kid {W:Nat} {c:Int} {t y:Tm} (h:Gd W c t) (hy:y∈t.ts):Gd W c y:=⟨((bX t).1 h.all).2 y hy,((fA c t).1 h.vars).2 y hy,by have:=cz hy;have:=h.le;omega⟩
theorem Gd.pis {W:Nat} {c:Int}:∀(w:Nat) (t:Tm),wt t≤w→Gd W c t→Gd W c (ak t).2∧∀y∈(ak t).1,Gd W c y
 | 0,t,hw,_=>by rw [cr] at hw;omega
 | w + 1,t,hw,h=>by
  cases hk:iEq t.k 6 with
  | false=>rw [lu hk];exact⟨h,by simp⟩
  | true=>
   obtain⟨a,b,ht⟩:=eO ((bX t).1 h.all).1 (mL hk)
   rw [kj hk ht]
   have hb:=h.kid (y:=b) (by rw [ht];simp)
   have ha:=h.kid (y:=a) (by rw [ht];simp)
   obtain⟨k1,k2⟩:=Gd.pis w b (by have:=cz (x:=b) (y:=t) (by rw [ht];simp);omega) hb
   refine⟨k1,fun y hy=>?_⟩
   cases hy with
   | head=>exact ha
   | tail _ hy=>exact k2 y hy
theorem Gd.spine {W:Nat} {c:Int}:∀(w:Nat) (t:Tm),wt t≤w→Gd W c t→Gd W c (aD t).1∧∀y∈(aD t).2,Gd W c y
 | 0,t,hw,_=>by rw [cr] at hw;omega
 | w + 1,t,hw,h=>by
  cases hk:iEq t.k 4 with
  | false=>rw [hZ hk];exact⟨h,by simp⟩
  | true=>
   obtain⟨f,a,ht⟩:=eO ((bX t).1 h.all).1 (l9 hk)
   rw [gf hk ht]
   have hf:=h.kid (y:=f) (by rw [ht];simp)
   have ha:=h.kid (y:=a) (by rw [ht];simp)
   obtain⟨k1,k2⟩:=Gd.spine w f (by have:=cz (x:=f) (y:=t) (by rw [ht];simp);omega) hf
   refine⟨k1,fun y hy=>?_⟩
   rcases List.mem_append.1 hy with hy | hy
   ·exact k2 y hy
   ·rw [List.mem_singleton.1 hy];exact ha
end Go.Ev
