/- The package: what its recursors are (own work). -/
import Derived.Test.YtmnofcchfbkbeaaGreatXt
namespace Go.Ev
open Go.Proofs Go.RowKit
set_option maxRecDepth 100000
set_option linter.unusedVariables false
set_option linter.unusedSimpArgs false
theorem zO {c b:Int} (hb:0≤b) (hcb:c + b≤1048576):∀(w:Nat) (x:Tm),wt x≤w→eV c x→∀(a:Int) {l d r:Nat},dv bm x l d=some r→dv bm (aZ x a b) l d=some r
 | 0,x,hw,_,_,_,_,_,_=>by rw [cO] at hw;omega
 | w + 1,x,hw,hv,a,l,d,r,h=>by
  obtain⟨l',d',rfl,rfl,hp,hts⟩:=j0 h
  obtain⟨v1,v2⟩:=(gB c x).1 hv
  cases hk:iEq x.k 2 with
  | true=>
   have Qf:=qA hp hk
   have bt:=qa hb hcb (wt x) x (Nat.le_refl _) ((cp x).2 ⟨hp,fun y hy=>by rw [Qf] at hy;cases hy⟩) hv a
   have hn:=((cp _).1 bt.1).1
   have SM:(aZ x a b).ts=x.ts:=by
    rw [p8 hk]
    cases (!iLt x.n a) with
    | true=>simp only [cond_true,xM]
    | false=>rfl
   rw [jD]
   simp only [hn,SM]
   exact hts
  | false=>
   have key:∀(ts:List Tm) (i:Nat),(∀y∈ts,y∈x.ts)→∀{l r},dO bm ts l d'=some r→dO bm ((ts.zipIdx i).map fun q=>aZ q.1 (dT a (bq x.k (.ofNat q.2))) b) l d'=some r:=by
    intro ts
    induction ts with
    | nil=>intro i _ l r h;exact h
    | cons t ts ih=>
     intro i hm l r h
     rw [eX] at h
     rw [List.zipIdx_cons,List.map_cons,eX]
     split at h
     ·rename_i l1 h1
      have ht:=hm t aMs
      rw [zO hb hcb w t (by have:=cT ht;omega) (v2 t ht) _ h1]
      exact ih (i + 1) (fun y hy=>hm y (aMt _ hy)) h
     ·cases h
   rw [lJ hk,jD]
   have hn:bm (x.mN ((x.ts.zipIdx 0).map fun q=>aZ q.1 (dT a (bq x.k (.ofNat q.2))) b))=true:=by rw [xN Dq];exact hp
   simp only [hn,p9]
   exact key x.ts 0 (fun _ h=>h) hts
theorem DC {c b a:Int} {x:Tm} (hb:0≤b) (hcb:c + b≤1048576) (hv:eV c x) (h:cL x=true):cL (aZ x a b)=true:=by
 obtain⟨r,hr⟩:=me h
 have:=zO hb hcb (wt x) x (Nat.le_refl _) hv a hr
 unfold cL
 rw [this];rfl
theorem yb {σ:Type} (s:σ):∀(w:Nat) (x:Tm),wt x≤w→∀a,(dk (fun (s:σ) (v:Tm) (_:Int)=>(v,s)) x s a).2=s
 | 0,x,h,_=>by rw [cO] at h;omega
 | w + 1,x,h,a=>by
  rw [jG]
  cases hk:iEq x.k 2 with
  | true=>rfl
  | false=>
   have key:∀(ts:List Tm) (i:Nat),(∀y∈ts,y∈x.ts)→(cn (fun (s:σ) (v:Tm) (_:Int)=>(v,s)) x.k ts i s a).2=s:=by
    intro ts
    induction ts with
    | nil=>intro i _;rw [cn]
    | cons t ts ih=>
     intro i hm
     rw [cn]
     show (cn _ x.k ts (i + 1) (dk _ t s _).2 a).2=s
     rw [yb s w t (by have:=cT (hm t aMs);omega)]
     exact ih (i + 1) (fun y hy=>hm y (aMt _ hy))
   exact key x.ts 0 (fun _ h=>h)
theorem Mo {b:Int} {x:Tm} (hb:0≤b) (hb2:b≤1000000000) (h:cL x=true):(dk (dg b) x false 0).2=false:=by
 obtain⟨r,hr⟩:=me h
 rw [ER (B:=4096) (by omega) (g:=fun s v _=>(v,s)) (fun s v a h2 hp h0 hB=>by
  unfold dg
  obtain⟨n0,n1⟩:=xp hp h2
  rw [LZ (by omega) (by omega)]
  have:(!iLt v.n a && iLt v.n (a - b))=false:=by
   rw [cm,cm]
   cases hq:decide (v.n < a) with
   | true=>rfl
   | false=>
    simp only [Bool.not_false,Bool.true_and,decide_eq_false_iff_not] at hq ⊢
    omega
  rw [this];simp) x hr false 0 (by omega) (by omega)]
 exact yb false _ x (Nat.le_refl _) 0
theorem Kg {b c:Int} {x:Tm} (hb:0≤b) (hcb:c + b≤1048576) (hc:0≤c) (hv:eV c x) (h:cL x=true):liftM x 0 b=(aZ x 0 b,0):=by
 unfold liftM
 rw [h,Mo hb (by omega) h]
 show zv (aZ x 0 b)=_
 unfold zv
 rw [DC hb hcb hv h]
theorem Mp (x:Tm) (l:List Tm):(x.mN l).s=x.s:=by cases x;rfl
theorem Kh (x:Tm) (l:List Tm):(x.mN l).ls=x.ls:=by cases x;rfl
theorem Fs {x:Tm} {a b:Int} (h:iEq x.k 3=true):(aZ x a b).k=x.k∧(aZ x a b).s=x.s∧(aZ x a b).ls=x.ls:=by
 have hk:iEq x.k 2=false:=by
  rw [bW,decide_eq_true_eq] at h
  rw [h];rfl
 rw [lJ hk]
 exact⟨sZ _ _,Mp _ _,Kh _ _⟩
theorem zP {d:Dl} {fx:Nat} {t:Tm} {c b a0:Int} (ht:dU t) (h:dK d fx t a0=true) (hc:0≤c) (hc2:c≤900000000) (hb:0≤b) (hca:c + .ofNat fx≤a0) (ha:a0 + b≤100000000) :
 dK d fx (aZ t c b) (a0 + b)=true∧(aF (aZ t c b)).1.s=(aF t).1.s:=by
 have hs:=j7 (wt t) t (Nat.le_refl _) ht c b hc hc2
 unfold dK at h ⊢
 rw [hs]
 simp only [Bool.and_eq_true] at h ⊢
 obtain⟨h1,h2,h3⟩:=h
 have hk:iEq (aF t).1.k 3=true:=by
  unfold kI at h1
  simp only [Bool.and_eq_true] at h1
  exact h1.1
 obtain⟨e1,e2,e3⟩:=Fs (a:=c) (b:=b) hk
 refine⟨⟨?_,?_,?_⟩,e2⟩
 ·unfold kI at h1 ⊢
  rw [e1,e2,e3,aLm]
  exact h1
 ·rw [e3];exact h2
 ·unfold uW at h3 ⊢
  rw [List.all_eq_true] at h3 ⊢
  intro i hi
  have hi':=List.mem_range.1 hi
  have:=h3 i hi
  rw [List.getElem?_map]
  cases hq:(aF t).2[i]? with
  | none=>rw [hq] at this;cases this
  | some x=>
   rw [hq] at this
   simp only [Bool.and_eq_true,Option.map_some] at this ⊢
   obtain⟨k1,k2⟩:=this
   rw [p8 k1]
   rw [bW,decide_eq_true_eq] at k2
   simp only [aOn] at k2 hca
   have hlt:(!iLt x.n c)=true:=by
    rw [cm]
    simp only [Bool.not_eq_true',decide_eq_false_iff_not]
    omega
   rw [hlt]
   simp only [cond_true,Bj,Bk]
   refine⟨k1,?_⟩
   rw [bW,decide_eq_true_eq,show dT x.n b=x.n + b from gy (by omega) (by omega),k2]
   simp only [aOn]
   omega
theorem yc {d:Dl} {fx:Nat} {t:Tm} {fs:List (Int×Int)} {i:Nat} {f:Int×Int} (h:cd d fx t=some fs) (hf:fs[i]?=some f) (hr:iLt f.1 0=false) :
 ∃x,(al t).1[fx + i]?=some x∧dK d fx (al x).2 (.ofNat (fx + i + (al x).1.length))=true:=by
 have hL:iP d fx (al t).1=some fs:=by
  unfold cd at h
  cases hl:iP d fx (al t).1 with
  | none=>rw [hl] at h;cases h
  | some l=>
   rw [hl] at h
   simp only at h
   split at h
   ·cases h
   ·cases h;rfl
 unfold iP at hL
 have hlen:=eK hL
 have hi:=(aGs hf).1
 rw [hlen] at hi
 have hz:(((al t).1.drop fx).zipIdx fx)[i]?=some ((((al t).1.drop fx).zipIdx fx)[i]):=aGe hi
 obtain⟨y,y1,y2⟩:=lK hL hz
 rw [hf] at y1;cases y1
 rw [List.getElem_zipIdx] at y2
 simp only [List.length_zipIdx,List.length_drop] at hi
 have hx:(al t).1[fx + i]?=some (((al t).1.drop fx)[i]'(by rw [List.length_drop];omega)):=by
  rw [List.getElem_drop,aGe (by omega)]
 refine⟨_,hx,?_⟩
 generalize ((al t).1.drop fx)[i]'(by rw [List.length_drop];omega)=x at y2
 simp only at y2
 split at y2
 ·rename_i g hg
  cases y2
  have hg1:(ct d fx x (.ofNat (fx + i))).1=f:=by rw [hg]
  unfold ct at hg1
  cases hm:dK d fx (al x).2 (.ofNat (fx + i + (al x).1.length)) with
  | true=>rfl
  | false=>
   have hm2:(cI d fx (al x).2 (Int.ofNat (fx + i) + .ofNat (al x).1.length)).1 = -1:=by
    unfold cI
    rw [show Int.ofNat (fx + i) + .ofNat (al x).1.length=.ofNat (fx + i + (al x).1.length) from rfl,hm]
   simp only [hm2] at hg1
   rw [show iLt (-1) 0=true from rfl] at hg1
   simp only at hg1
   rw [← hg1] at hr
   cases hr
 ·cases y2
end Go.Ev
namespace Go.Ev
open Go.Proofs Go.RowKit
set_option maxRecDepth 100000
set_option maxHeartbeats 4000000
set_option linter.unusedVariables false
set_option linter.unusedSimpArgs false
@[reducible] noncomputable def Rp (n:Nat):Run:=wM Lc cY bY n (fN Tryz.cfg cQ cY bY n)
theorem H9 {F N:Nat→Bool} {R1 R2:Run} {id:Nat} (h:∀args S,R1 (.f id) args S=R2 (.f id) args S) (args:List V) (S:St):df F (cu N R1) (.f id) args S=df F (cu N R2) (.f id) args S:=by
 have h1:∀args S,cu N R1 (.f id) args S=cu N R2 (.f id) args S:=by
  intro args S
  unfold cu
  simp only [h]
  unfold narrow
  simp only [h]
 unfold df
 simp only [h1]
 unfold readOnly
 simp only [h1]
theorem rp {n id:Nat} {args:List V} {S:St} {r:V×St} (h:RN n (.f id) args S=some r) (hc:Lc id=cQ id:=by rfl):Rp n (.f id) args S=some r:=by
 rw [← h]
 refine H9 (fun args S=>?_) args S
 unfold bV
 simp only [hc]
noncomputable def Qg:Code:=((oA (ny 3 (iD Tryz.f17)))[0]?).getD .skip
noncomputable def SN:Code:=((oA Qg)[0]?).getD .skip
theorem SO:buildSlice Tryz.cfg 110 1 [(0,.list 0 .tight 0 [])]=some (.list 1 .tight 0 [bp []]):=rfl
theorem SP (f0:Int×Int) (fr:List (Int×Int)):buildSlice Tryz.cfg 110 1 [(0,.list 2 .no 0 (dw f0::fr.map dw))]=some (.list 1 .tight 0 [bp (f0::fr)]):=rfl
theorem zQ {T0 T:List Nat} {rows:List V} {tok:Tok} (h:av T0 T rows tok) (i:Int) (l:Lv):buildSlice Tryz.cfg 64 1 [(0,.agg (j5 i l (szG 1 rows) tok rows))]=some (.list 7 .tight 0 [.agg [.int .i64 i,.int .i64 l.c,.int .i64 l.p0,.int .i64 l.p1,.int .i64 l.p2,.int .i64 l.p3,gK 1 rows]]):=by
 show some (V.list 7 .tight 0 [.agg [.int .i64 i,.int .i64 l.c,.int .i64 l.p0,.int .i64 l.p1,.int .i64 l.p2,.int .i64 l.p3,ai (.list (szG 1 rows) tok 0 rows)]])=_
 rw [gz h]
@[reducible] noncomputable def GY:Option Ct→List (Nat×List V)
  | none=>[]
  | some c=>[(12,mh c)]
theorem Ft (n:Nat) (d:Dl) (fx p:Nat) (z:Nat) (tk:Tok) (rw:List V) (x:In) (so:Nat) (to:Tok) (ro:List V) (ix:Int) (lv:Lv) (e:Tm) (j:Nat) (o:Option Ct) (T0:List Nat) (K:Ex→Env→St→Prop) (hx:d.aj[j]?=some x) (hd:pV d 4000000) (hpi:∀i∈d.aj,fx≤(al i.ty).1.length)
 (hcs:x.cs.length≤20) (hc2:∀c∈x.cs,cL c.ty=true∧fx≤(al c.ty).1.length) (hfx:d.fixed=.ofNat fx) (hpp:d.params=.ofNat p) (hf:fx≤100) (hp:p≤100) (hn:30000000≤n)
 (hR:∀L T',bO (fun c:Ct=>cd d fx c.ty) x.cs=none→K .ret { nt:=82,tmps:=[(2,.list 0 .tight 0 []),(3,.int .i64 15)],locs:=L,fix:=[] } { heap:=[],aA:=T' })
 (hK:∀o' fss aV T',bO (fun c:Ct=>cd d fx c.ty) x.cs=some fss→av T0 T' (fss.map bp) aV→K (.exit 3) { nt:=82,tmps:=[(4,cU d z tk rw),(5,.list so to 0 ro),(10,.ptr (.loc 10) 0),(33,.list 7 .no 0 (d.aj.map encI)),(34,.int .i64 (.ofNat (aH (d.aj.map encI)))),(35,.int .i64 (.ofNat j)),(55,.list 6 .no 0 (x.cs.map fO)),(56,.int .i64 (.ofNat (aH (x.cs.map fO)))),(57,.int .i64 (.ofNat x.cs.length)),(58,.bool false)],locs:=(1,bK d)::(7,fe x)::(9,aC e)::(10,j5 ix lv (szG 1 (fss.map bp)) aV (fss.map bp))::GY o',fix:=[] } { heap:=[],aA:=T' }) :
 aD (iter (evalCode Tryz.cfg (Rp n) n 17 (Tryz.cfg.fc 17) SN) n { nt:=82,tmps:=[(4,cU d z tk rw),(5,.list so to 0 ro),(10,.ptr (.loc 10) 0),(33,.list 7 .no 0 (d.aj.map encI)),(34,.int .i64 (.ofNat (aH (d.aj.map encI)))),(35,.int .i64 (.ofNat j)),(55,.list 6 .no 0 (x.cs.map fO)),(56,.int .i64 (.ofNat (aH (x.cs.map fO)))),(57,.int .i64 0)],locs:=(1,bK d)::(7,fe x)::(9,aC e)::(10,j5 ix lv 0 .tight [])::GY o,fix:=[] } { heap:=[],aA:=T0 }) K:=by
 refine aD.loop 82 (σ:=Option Ct×List (List (Int×Int))×Tok×List Nat) x.cs.length (fun i s=>{ nt:=82,tmps:=[(4,cU d z tk rw),(5,.list so to 0 ro),(10,.ptr (.loc 10) 0),(33,.list 7 .no 0 (d.aj.map encI)),(34,.int .i64 (.ofNat (aH (d.aj.map encI)))),(35,.int .i64 (.ofNat j)),(55,.list 6 .no 0 (x.cs.map fO)),(56,.int .i64 (.ofNat (aH (x.cs.map fO)))),(57,.int .i64 (.ofNat i))],locs:=(1,bK d)::(7,fe x)::(9,aC e)::(10,j5 ix lv (szG 1 (s.2.1.map bp)) s.2.2.1 (s.2.1.map bp))::GY s.1,fix:=[] })
  (fun _ s=>{ heap:=[],aA:=s.2.2.2 }) (fun i s=>bO (fun c:Ct=>cd d fx c.ty) (x.cs.take i)=some s.2.1∧av T0 s.2.2.2 (s.2.1.map bp) s.2.2.1) (o,[],.tight,T0) (by omega) ⟨rfl,av.start T0⟩ ?_ ?_
 ·rintro i ⟨o1,fss,cR,T1⟩ hi ⟨(iB:_=some fss),(hg:av T0 T1 (fss.map bp) cR)⟩
  obtain⟨c,hc⟩ : ∃c,x.cs[i]?=some c:=⟨_,aGe hi⟩
  obtain⟨c1,c2⟩:=hc2 c (aMg hc)
  have hfl:=eK iB
  rw [List.length_take] at hfl
  have Mq:=rp (h58 (n:=n) (S:={ heap:=[],aA:=T1 }) (sz:=z) (tok:=tk) (rows:=rw) (c:=c) hd hpi c1 c2 hfx hpp hf hp hn)
  cases hfs:cd d fx c.ty with
  | none=>
   rw [hfs] at Mq
   rcases o1 with _ | c0
   all_goals
    refine ah.yes (ltM hi) ?_
    refine ab.mk _ (ec hc) ?_
    refine ae.mk _ _ Mq ?_
    exact hR _ _ (gA hc hfs)
  | some fs=>
   rw [hfs] at Mq
   obtain⟨T2,bg,a1,a2⟩:=dm (LT:=110) (ET:=113) (ei:=Tryz.ti113) (H:=[]) (T0:=T0) (T:=T1) (done:=fss.map bp) (new:=[bp fs]) (bg:=.tight) (sz2:=1) rfl rfl (by decide) (by decide) (by simp;omega) hg (.inr rfl)
   have e1:fss.map bp++[bp fs]=(fss++[fs]).map bp:=by simp
   rw [e1] at a1 a2
   have hnx:=fj hc iB hfs
   rcases fs with _ | ⟨f0,fr⟩<;>rcases o1 with _ | c0
   all_goals
    refine ah.yes (ltM hi) ?_
    refine ab.mk _ (ec hc) ?_
    refine ae.mk _ _ Mq ?_
    first | refine ab.mk _ SO ?_ | refine ab.mk _ (SP _ _) ?_
    refine cj.mk _ _ (a1 _ _ rfl) ?_
    refine ab.mk _ (az (by omega)) ?_
    exact⟨(some c,fss++[_],bg,T2),⟨hnx,a2⟩,rfl,rfl⟩
 ·rintro⟨o1,fss,cR,T1⟩ ⟨(iB:_=some fss),(hg:av T0 T1 (fss.map bp) cR)⟩
  rw [List.take_length] at iB
  rcases o1 with _ | c0
  ·refine ah.no (geM (by omega)) ?_
   exact hK none fss cR T1 iB hg
  ·refine ah.no (geM (by omega)) ?_
   exact hK (some c0) fss cR T1 iB hg
inductive Jp where
 | a
 | b (x:In) (e:Tm) (ix:Int) (lv:Lv) (sz:Nat) (tok:Tok) (rows:List V) (o:Option Ct)
@[reducible] noncomputable def Jp.locs:Jp→List (Nat×List V)
  | .a=>[]
  | .b x e ix lv sz tok rows o=>(7,fe x)::(9,aC e)::(10,j5 ix lv sz tok rows)::GY o
theorem Fu (n:Nat) (d:Dl) (fx p:Nat) (z:Nat) (tk:Tok) (rw:List V) (T:List Nat) (K:Ex→Env→St→Prop) (hd:pV d 4000000) (hc:Mc d fx 4000000)
 (Kc:∀i∈d.aj,cL i.ty=true∧∀c∈i.cs,cL c.ty=true) (hfx:d.fixed=.ofNat fx) (hpp:d.params=.ofNat p) (hf:fx≤100) (hp:p≤100) (hn:30000000≤n)
 (hR:∀L T',gR d fx=none→K .ret { nt:=82,tmps:=[(2,.list 0 .tight 0 []),(3,.int .i64 15)],locs:=L,fix:=[] } { heap:=[],aA:=T' })
 (hK:∀J out tok T',gR d fx=some out→av [] T' (out.map bx) tok→K (.exit 1) { nt:=82,tmps:=[(4,cU d z tk rw),(5,.list (szG 7 (out.map bx)) tok 0 (out.map bx)),(33,.list 7 .no 0 (d.aj.map encI)),(34,.int .i64 (.ofNat (aH (d.aj.map encI)))),(35,.int .i64 (.ofNat d.aj.length)),(36,.bool false)],locs:=(1,bK d)::Jp.locs J,fix:=[] } { heap:=[],aA:=T' }) :
 aD (iter (evalCode Tryz.cfg (Rp n) n 17 (Tryz.cfg.fc 17) Qg) n { nt:=82,tmps:=[(4,cU d z tk rw),(5,.list 0 .tight 0 []),(33,.list 7 .no 0 (d.aj.map encI)),(34,.int .i64 (.ofNat (aH (d.aj.map encI)))),(35,.int .i64 0)],locs:=[(1,bK d)],fix:=[] } { heap:=[],aA:=T }) K:=by
 have gQ:=hd.few
 refine aD.loop 82 (σ:=Jp×List Sh×Tok×List Nat) d.aj.length (fun j s=>{ nt:=82,tmps:=[(4,cU d z tk rw),(5,.list (szG 7 (s.2.1.map bx)) s.2.2.1 0 (s.2.1.map bx)),(33,.list 7 .no 0 (d.aj.map encI)),(34,.int .i64 (.ofNat (aH (d.aj.map encI)))),(35,.int .i64 (.ofNat j))],locs:=(1,bK d)::s.1.locs,fix:=[] })
  (fun _ s=>{ heap:=[],aA:=s.2.2.2 }) (fun j s=>bO (iX d fx) (d.aj.take j)=some s.2.1∧av [] s.2.2.2 (s.2.1.map bx) s.2.2.1) (.a,[],.tight,T) (by omega) ⟨rfl,⟨E8 T,.inl ⟨rfl,rfl⟩⟩⟩ ?_ ?_
 ·rintro j ⟨J,out,tok,T1⟩ hj ⟨(gU:bO (iX d fx) (d.aj.take j)=some out),(hg:av [] T1 (out.map bx) tok)⟩
  obtain⟨x,hx⟩ : ∃x,d.aj[j]?=some x:=⟨_,aGe hj⟩
  have hxm:=aMg hx
  obtain⟨hxa,hxw⟩:=hd.all x hxm
  have hxc:=hc.cs x hxm
  have OL:∀c∈x.cs,cL c.ty=true∧fx≤(al c.ty).1.length:=fun c hcm=>⟨(Kc x hxm).2 c hcm,(hxc.2 c hcm).2.2⟩
  obtain⟨lv,hlv⟩:=zE (fy _ x.ty (Nat.le_refl _) hxa).2.1 (hc.so x hxm)
  have Ow:JP x=lv:=by unfold JP;rw [hlv];rfl
  have hol:=eK gU
  rw [List.length_take] at hol
  obtain⟨q,h1,T2,bg,rfl,hg2⟩:=h56 (n:=n) (x:=x.ty) (H:=[]) (T:=T1) hxa (by omega) (by omega)
  have hg':=hg.ext hg2.1
  have OM:=rp (h57 (n:=n) (S:={ heap:=[],aA:=T2 }) (sz:=z) (tok:=tk) (rows:=rw) hx hfx hf hxa (by omega) (by omega))
  have hii:indexAddr Tryz.cfg 22 (.list (ao (al x.ty).2.a (al x.ty).2.ls) (aw (al x.ty).2.b) 0 ((al x.ty).2.ls.map enc)) (.int .i64 (.ofNat 0))=_:=sT hlv
  have gj:bO (fun c:Ct=>cd d fx c.ty) x.cs=none→gR d fx=none:=fun h=>gA hx (by unfold iX;rw [h])
  have dN:∀(fss:List (List (Int×Int))) aV T',bO (fun c:Ct=>cd d fx c.ty) x.cs=some fss→av T2 T' (fss.map bp) aV→
   ∃T5 cA,(∀(A:Env) (ac:Acc),ac.heap=true→append Tryz.cfg A { heap:=[],aA:=T' } ac 64 (.list (szG 7 (out.map bx)) tok 0 (out.map bx)) (.list 7 .tight 0 [bx (Sh.mk (a6 d x) lv fss)])=some (.list (szG 7 ((out++[(Sh.mk (a6 d x) lv fss)]).map bx)) cA 0 ((out++[(Sh.mk (a6 d x) lv fss)]).map bx),{ heap:=[],aA:=T5 }))∧
    av [] T5 ((out++[(Sh.mk (a6 d x) lv fss)]).map bx) cA∧bO (iX d fx) (d.aj.take (j + 1))=some (out++[(Sh.mk (a6 d x) lv fss)]):=by
   intro fss aV T' iB hg3
   obtain⟨T5,cA,a1,a2⟩:=dm (LT:=64) (ET:=112) (ei:=Tryz.ti112) (H:=[]) (T0:=[]) (T:=T') (done:=out.map bx) (new:=[bx (Sh.mk (a6 d x) lv fss)]) (bg:=.tight) (sz2:=7) rfl rfl (by decide) (by decide) (by simp;omega) (hg'.ext hg3.1) (.inr rfl)
   have e1:out.map bx++[bx (Sh.mk (a6 d x) lv fss)]=(out++[(Sh.mk (a6 d x) lv fss)]).map bx:=by simp
   rw [e1] at a1 a2
   refine⟨T5,cA,a1,a2,fj hx gU ?_⟩
   unfold iX
   rw [iB,Ow]
  rcases J with _ | ⟨x0,e0,i0,l0,z0,k0,r0,_ | c0⟩
  ·refine ah.yes (ltM hj) ?_
   refine ab.mk _ (aL hx) ?_
   refine ae.mk _ _ (rp h1) ?_
   refine ae.mk _ _ OM ?_
   refine ab.mk _ hii ?_
   refine Ft n d fx p z tk rw x _ _ _ (a6 d x) lv (al x.ty).2 j none T2 _ hx hd hc.pi hxc.1 OL hfx hpp hf hp hn (fun L T' hn=>hR L T' (gj hn)) (fun o' fss aV T' iB hg3=>?_)
   obtain⟨T5,cA,a1,a2,a3⟩:=dN fss aV T' iB hg3
   rcases o' with _ | c'
   ·refine ab.mk _ (zQ hg3 _ _) ?_
    refine cj.mk _ _ (a1 _ _ rfl) ?_
    refine ab.mk _ (az (by omega)) ?_
    exact⟨(.b x (al x.ty).2 (a6 d x) lv (szG 1 (fss.map bp)) aV (fss.map bp) none,out++[Sh.mk (a6 d x) lv fss],cA,T5),⟨a3,a2⟩,rfl,rfl⟩
   ·refine ab.mk _ (zQ hg3 _ _) ?_
    refine cj.mk _ _ (a1 _ _ rfl) ?_
    refine ab.mk _ (az (by omega)) ?_
    exact⟨(.b x (al x.ty).2 (a6 d x) lv (szG 1 (fss.map bp)) aV (fss.map bp) (some c'),out++[Sh.mk (a6 d x) lv fss],cA,T5),⟨a3,a2⟩,rfl,rfl⟩
  ·refine ah.yes (ltM hj) ?_
   refine ab.mk _ (aL hx) ?_
   refine ae.mk _ _ (rp h1) ?_
   refine ae.mk _ _ OM ?_
   refine ab.mk _ hii ?_
   refine Ft n d fx p z tk rw x _ _ _ (a6 d x) lv (al x.ty).2 j none T2 _ hx hd hc.pi hxc.1 OL hfx hpp hf hp hn (fun L T' hn=>hR L T' (gj hn)) (fun o' fss aV T' iB hg3=>?_)
   obtain⟨T5,cA,a1,a2,a3⟩:=dN fss aV T' iB hg3
   rcases o' with _ | c'
   ·refine ab.mk _ (zQ hg3 _ _) ?_
    refine cj.mk _ _ (a1 _ _ rfl) ?_
    refine ab.mk _ (az (by omega)) ?_
    exact⟨(.b x (al x.ty).2 (a6 d x) lv (szG 1 (fss.map bp)) aV (fss.map bp) none,out++[Sh.mk (a6 d x) lv fss],cA,T5),⟨a3,a2⟩,rfl,rfl⟩
   ·refine ab.mk _ (zQ hg3 _ _) ?_
    refine cj.mk _ _ (a1 _ _ rfl) ?_
    refine ab.mk _ (az (by omega)) ?_
    exact⟨(.b x (al x.ty).2 (a6 d x) lv (szG 1 (fss.map bp)) aV (fss.map bp) (some c'),out++[Sh.mk (a6 d x) lv fss],cA,T5),⟨a3,a2⟩,rfl,rfl⟩
  ·refine ah.yes (ltM hj) ?_
   refine ab.mk _ (aL hx) ?_
   refine ae.mk _ _ (rp h1) ?_
   refine ae.mk _ _ OM ?_
   refine ab.mk _ hii ?_
   refine Ft n d fx p z tk rw x _ _ _ (a6 d x) lv (al x.ty).2 j (some c0) T2 _ hx hd hc.pi hxc.1 OL hfx hpp hf hp hn (fun L T' hn=>hR L T' (gj hn)) (fun o' fss aV T' iB hg3=>?_)
   obtain⟨T5,cA,a1,a2,a3⟩:=dN fss aV T' iB hg3
   rcases o' with _ | c'
   ·refine ab.mk _ (zQ hg3 _ _) ?_
    refine cj.mk _ _ (a1 _ _ rfl) ?_
    refine ab.mk _ (az (by omega)) ?_
    exact⟨(.b x (al x.ty).2 (a6 d x) lv (szG 1 (fss.map bp)) aV (fss.map bp) none,out++[Sh.mk (a6 d x) lv fss],cA,T5),⟨a3,a2⟩,rfl,rfl⟩
   ·refine ab.mk _ (zQ hg3 _ _) ?_
    refine cj.mk _ _ (a1 _ _ rfl) ?_
    refine ab.mk _ (az (by omega)) ?_
    exact⟨(.b x (al x.ty).2 (a6 d x) lv (szG 1 (fss.map bp)) aV (fss.map bp) (some c'),out++[Sh.mk (a6 d x) lv fss],cA,T5),⟨a3,a2⟩,rfl,rfl⟩
 ·rintro⟨J,out,tok,T1⟩ ⟨(gU:bO (iX d fx) (d.aj.take d.aj.length)=some out),(hg:av [] T1 (out.map bx) tok)⟩
  rw [List.take_length] at gU
  rcases J with _ | ⟨x0,e0,i0,l0,z0,k0,r0,_ | c0⟩
  ·refine ah.no (geM (by omega)) ?_
   exact hK .a out tok T1 gU hg
  ·refine ah.no (geM (by omega)) ?_
   exact hK (.b x0 e0 i0 l0 z0 k0 r0 none) out tok T1 gU hg
  ·refine ah.no (geM (by omega)) ?_
   exact hK (.b x0 e0 i0 l0 z0 k0 r0 (some c0)) out tok T1 gU hg
theorem ik {b:Bool} (h:(!b)=true):b=false:=by cases b with | true=>cases h | false=>rfl
theorem il {b:Bool} (h:(!b)=false):b=true:=by cases b with | true=>rfl | false=>cases h
theorem DD {d:Dl} {t:Tm} (h:t∈bZ d):t∈eG d:=by
 unfold bZ at h
 obtain⟨i,hi,ht⟩:=List.mem_flatMap.1 h
 unfold oo at ht
 unfold eG
 rcases List.mem_cons.1 ht with rfl | ht
 ·exact List.mem_append_left _ (List.mem_map.2 ⟨i,hi,rfl⟩)
 ·obtain⟨c,hc,rfl⟩:=List.mem_map.1 ht
  obtain⟨x,hx⟩:=List.mem_iff_getElem?.1 hi
  obtain⟨j,hj⟩:=List.mem_iff_getElem?.1 hc
  exact List.mem_append_right _ (List.mem_map.2 ⟨(x,c),aMg (mP hx hj),rfl⟩)
theorem yd (d:Dl) (p:Tm→Bool):(eG d).any p=(bZ d).any p:=by
 rw [Bool.eq_iff_iff,List.any_eq_true,List.any_eq_true]
 exact⟨fun⟨t,h1,h2⟩=>⟨t,oC h1,h2⟩,fun⟨t,h1,h2⟩=>⟨t,DD h1,h2⟩⟩
theorem qG {α:Type} (l:List α) (p:α→Bool):l.any p = !(l.all fun x=>!p x):=by
 rw [List.not_all_eq_any_not]
 simp
theorem DE (d:Dl):kb d = !(iF d && (Bh d && (bZ d).all ic)):=by
 unfold kb Bh
 rw [yd,qG,qG,show (fun t=>!Bt t)=ic from funext fun t=>by rw [Mi,Bool.not_not]]
 cases iF d<;>cases (d.aj.all fun x=>!iLt 8 (Int.ofNat x.cs.length))<;>cases (bZ d).all ic<;>rfl
theorem GZ (d:Dl):x9 d = !(ub d && (bZ d).all fun t=>!hiT (pN d) t):=by
 unfold x9 ub
 rw [yd,qG]
 cases iLt d.params 0<;>cases iLt d.params 4<;>cases ((bZ d).all fun x=>!hiT (pN d) x)<;>rfl
theorem Mr {d:Dl} (hfx:d.fixed=.ofNat (fxN d)) (h0:d.aj[0]?=some (in0 d)):oO d (fxN d) (al (in0 d).ty).1=(pY d && pZ d):=by
 unfold oO pY
 rw [show kW d (fxN d) (al (in0 d).ty).1=nC d (fxN d) (in0 d) from funext fun x=>Dz hfx]
 cases ha:d.aj.all (nC d (fxN d) (in0 d)) with
 | false=>rfl
 | true=>
  have h1:=(sX (List.all_eq_true.1 ha (in0 d) (aMg h0)) hfx).1
  rw [Bool.true_and,Bool.true_and]
  unfold pZ fZ
  rw [List.all_flatMap]
  congr 1
  funext q
  rw [List.all_map]
  congr 1
  funext c
  exact Ka hfx h1
theorem nF:∀(w:Nat) (x:Tm),wt x≤w→dU x→(al x).1.length≤eu x
 | 0,x,h,_=>by rw [cO] at h;omega
 | w + 1,x,h,hx=>by
  obtain⟨h1,h2⟩:=(cp x).1 hx
  cases hk:iEq x.k 6 with
  | false=>rw [mO hk];exact Nat.zero_le _
  | true=>
   obtain⟨A,B,ht⟩:=fW h1 (og hk)
   have hB:=cT (x:=B) (y:=x) (by rw [ht];simp)
   have hs:=pT (y:=B) (x:=x) (by rw [ht];simp)
   have:=nF w B (by omega) (h2 B (by rw [ht];simp))
   rw [lA hk ht]
   simp only [aLc]
   omega
theorem Qh (d:Dl) (z:Nat) (tb b:Bool) (rows:List V) (T:List Nat) :
 rP { nt:=82,tmps:=[(1,.ptr (.loc 1) 0),(4,.ptr (.box 0) 0),(28,.bool b)],locs:=[(1,bK d)],fix:=[] } { heap:=[.cells 108 (da d z (aw tb) rows)],aA:=T } =
 some { nt:=82,tmps:=[(1,.ptr (.loc 1) 0),(4,cU d z (aw tb) rows),(28,.bool b)],locs:=[(1,bK d)],fix:=[] }:=by
 rcases d with⟨k,p,nm,⟨k1,n1,s1,a1,b1,c1,d1,l1,t1⟩,⟨k2,n2,s2,a2,b2,c2,d2,l2,t2⟩,fx,is⟩
 cases b1<;>cases d1<;>cases b2<;>cases d2<;>cases tb<;>rfl
theorem zR {x:Tm} (h:dz x zTm=true):wt x=1:=by
 rw [qF] at h
 simp only [Bool.and_eq_true,decide_eq_true_eq] at h
 obtain⟨_,_,h1,h2,h3⟩:=h
 have h4:x.ts=[]:=by
  unfold eqP at h3
  simp only [Bool.and_eq_true,decide_eq_true_eq] at h3
  exact List.eq_nil_of_length_eq_zero h3.1
 rw [cO,h1,h2,h4]
 rfl
theorem Ki {d:Dl} {W:Nat} (hd:qO d W) (ha:iF d=true) (hmy:∀t∈bZ d,cL t=true):qO d 4000000:=by
 unfold iF at ha
 simp only [Bool.and_eq_true] at ha
 obtain⟨_,_,h1,h2,_⟩:=ha
 exact⟨hd.nm,fun t ht=>⟨(hd.ty t ht).1,(hd.ty t ht).2.1,fX (hmy t ht)⟩,⟨hd.dty.1,hd.dty.2.1,by rw [zR h1];omega⟩,⟨hd.H0.1,hd.H0.2.1,by rw [zR h2];omega⟩⟩
theorem SQ {d:Dl} {W n:Nat} (hd:qO d W) (hls:d.ty.ls.length≤1000∧d.val.ls.length≤1000) (hn:3 * W + 40000000≤n) :
 AU (fN Tryz.cfg cQ cY bY n) n [eY d]=some (.tuple [gK 7 ((ofR d).1.map bx),.int .i64 (ofR d).2]):=by
 obtain⟨k,rfl⟩:=up (show 1≤n by omega)
 have gQ:=hd.nm.few
 let S0:St:={ heap:=[.cells 108 (da d 0 .tight [])],aA:=[] }
 have hst:bn ai (da d 0 .tight [])=da d 0 .tight []:=lB d 0 .tight []
 have SR : Rp (k + 1) (.f 52) [.ptr (.box 0) 0] S0=some (.bool (kb d),S0):=rp (tr rfl rfl rfl hst rfl rfl (h52 (S:=St.empty) hd hls (by omega)) rfl)
 have h:∃v,sI 17 3 Tryz.f17 (Rp (k + 1)) (k + 1) [eY d]=some v∧v=.tuple [gK 7 ((ofR d).1.map bx),.int .i64 (ofR d).2]:=by
  refine Dv (id:=17) (m:=3) (fn:=Tryz.f17) ?_
  refine fm.cons (nt:=82) ?_
  refine fm.cons (nt:=82) ?_
  refine fm.cons (nt:=82) ?_
  have err:∀e:Int,ofR d=([],e)→∀v,v=V.tuple [.list 0 .tight 0 [],.int .i64 e]→v=.tuple [gK 7 ((ofR d).1.map bx),.int .i64 (ofR d).2]:=fun e h v hv=>by rw [h];exact hv
  refine ae.mkB SR (fun c1=>?_) (fun c1=>?_)
  ·rw [DE] at c1
   have c1' : (iF d && (Bh d && (bZ d).all ic))=false:=ik c1
   exact⟨_,rfl,err 1 (by unfold ofR;rw [c1']) _ rfl⟩
  rw [DE] at c1
  have hA:(iF d && (Bh d && (bZ d).all ic))=true:=il c1
  have hA':=hA
  simp only [Bool.and_eq_true] at hA'
  obtain⟨ha,hf,hm⟩:=hA'
  have ha':=ha
  unfold iF at ha'
  simp only [Bool.and_eq_true,Bool.not_eq_true',cm,decide_eq_false_iff_not,aOn] at ha'
  obtain⟨_,_,_,_,a1,a2,a3,a4⟩:=ha'
  have hfx:d.fixed=.ofNat (fxN d):=by unfold fxN;simp only [aOn];omega
  have kT:fxN d≤12:=by unfold fxN;omega
  have h0:d.aj[0]?=some (in0 d):=by
   unfold in0
   rw [aGe (by omega)];rfl
  have hdl:=JS hd hm
  have hmy:∀t∈bZ d,cL t=true:=fun t ht=>by
   have:=List.all_eq_true.1 hm t ht
   unfold ic at this
   simp only [Bool.and_eq_true] at this
   exact this.1
  have SS : Rp (k + 1) (.f 53) [.ptr (.box 0) 0] S0=some (.bool (x9 d),S0):=rp (tr rfl rfl rfl hst rfl rfl (h53 (S:=St.empty) (Ki hd ha hmy) (fun t ht=>cK (hmy t (oC ht))) (by omega) (by omega)) rfl)
  refine ae.mkB SS (fun c2=>?_) (fun c2=>?_)
  ·rw [GZ] at c2
   have c2' : (ub d && (bZ d).all fun t=>!hiT (pN d) t)=false:=ik c2
   exact⟨_,rfl,err 8 (by unfold ofR;rw [hA,c2']) _ rfl⟩
  rw [GZ] at c2
  have hB:(ub d && (bZ d).all fun t=>!hiT (pN d) t)=true:=il c2
  have hB':=hB
  simp only [Bool.and_eq_true] at hB'
  have hp:=hB'.1
  unfold ub at hp
  simp only [Bool.and_eq_true,Bool.not_eq_true',cm,decide_eq_false_iff_not,decide_eq_true_eq] at hp
  have hpp:d.params=.ofNat (pN d):=by unfold pN;simp only [aOn];omega
  have hp4:pN d < 4:=by unfold pN;omega
  have hne:d.aj≠[]:=fun e=>by rw [e] at a3;simp at a3
  have SU : Rp (k + 1) (.f 54) [.ptr (.box 0) 0] S0=some (.bool (oE d),S0):=rp (tr rfl rfl rfl hst rfl rfl (h54 (S:=St.empty) (Qb d) hd.nm hne (by omega)) rfl)
  refine ae.mkB SU (fun c3=>?_) (fun c3=>?_)
  rotate_left
  ·rw [DB] at c3
   exact⟨_,rfl,err 5 (by unfold ofR;rw [hA,hB,c3]) _ rfl⟩
  rw [DB] at c3
  obtain⟨r,f1,S1,tk,rfl,f2⟩:=Mn (n:=k) (d:=d) (fx:=fxN d) (p:=pN d) hdl hd.nm h0 (fun i hi=>⟨hmy _ (dS hi).1,fun c hc=>hmy _ ((dS hi).2 c hc)⟩)
   (fun i hi=>by
    refine⟨?_,fun c hc=>?_⟩
    ·have h1:=hmy _ (dS hi).1
     have:=nF _ i.ty (Nat.le_refl _) (cK h1)
     have:=kH h1
     omega
    ·have h1:=hmy _ ((dS hi).2 c hc)
     have:=nF _ c.ty (Nat.le_refl _) (cK h1)
     have:=kH h1
     omega) hfx hpp (by omega) (by omega) (by omega)
  obtain⟨tb,htb⟩:=eC tk
  have hs1:bn ai (da d (ao false (al (in0 d).ty).1) tk (ag (al (in0 d).ty).1))=da d (ao false (al (in0 d).ty).1) (aw tb) (ag (al (in0 d).ty).1):=by rw [lB,htb]
  have Qi:=NH (n:=k) (id:=55) (k:=0) (ty:=108) (rest:=[]) (S:=S0) (S0:=S1) (cs:=da d 0 .tight []) (cs':=da d (ao false (al (in0 d).ty).1) tk (ag (al (in0 d).ty).1)) (v:=.bool (oO d (fxN d) (al (in0 d).ty).1)) rfl rfl rfl hst rfl rfl f1 f2 rfl rfl
  rw [hs1,Mr hfx h0] at Qi
  have SV : Rp (k + 1) (.f 55) [.ptr (.box 0) 0] S0=some (.bool (pY d && pZ d),{ heap:=[.cells 108 (da d (ao false (al (in0 d).ty).1) (aw tb) (ag (al (in0 d).ty).1))],aA:=[] }):=rp Qi
  refine ae.mkB SV (fun c4=>?_) (fun c4=>?_)
  rotate_left
  ·exact⟨_,rfl,err 14 (by unfold ofR;rw [hA,hB,c3,c4]) _ rfl⟩
  have c4':=c4
  simp only [Bool.and_eq_true] at c4'
  obtain⟨hfo,hct⟩:=c4'
  refine fm.nil (nt:=82) ?_
  refine⟨_,Qh d _ tb false _ _,?_⟩
  have hpi:∀i∈d.aj,fxN d≤(al i.ty).1.length∧iEq (al i.ty).2.k 1=true:=fun i hi=>sX (List.all_eq_true.1 hfo i hi) hfx
  have hcs:Mc d (fxN d) 4000000:=by
   refine⟨fun i hi=>⟨hd.nm.cs i hi,fun c hc=>?_⟩,fun i hi=>(hpi i hi).1,fun i hi=>(hpi i hi).2⟩
   obtain⟨ca,cw⟩:=xL hm hi hc
   obtain⟨j,hj⟩:=List.mem_iff_getElem?.1 hi
   have hz:(d.aj.zipIdx 0)[j]?=some (i,j):=by rw [List.getElem?_zipIdx,hj];simp
   have h1:=(List.all_eq_true.1 hct) _ (aMg hz)
   have h2:=(List.all_eq_true.1 h1) c hc
   exact⟨ca,cw,Bi h2 hfx⟩
  have hof:ofR d=match gR d (fxN d) with | none=>([],15) | some l=>(l,0):=by
   unfold ofR
   rw [hA,hB,c3,c4]
   cases gR d (fxN d)<;>rfl
  refine Fu (k + 1) d (fxN d) (pN d) _ _ _ [] _ hdl hcs (fun i hi=>⟨hmy _ (dS hi).1,fun c hc=>hmy _ ((dS hi).2 c hc)⟩) hfx hpp (by omega) (by omega) (by omega) (fun L T' hn=>?_) (fun J out tok T' gU hg=>?_)
  ·exact⟨_,rfl,err 15 (by rw [hof,hn]) _ rfl⟩
  ·have hq:V.tuple [ai (.list (szG 7 (out.map bx)) tok 0 (out.map bx)),.int .i64 0]=.tuple [gK 7 ((ofR d).1.map bx),.int .i64 (ofR d).2]:=by
    rw [hof,gU,gz hg]
   rcases J with _ | ⟨x0,e0,i0,l0,z0,k0,r0,_ | c0⟩
   ·exact⟨_,rfl,hq⟩
   ·exact⟨_,rfl,hq⟩
   ·exact⟨_,rfl,hq⟩
 obtain⟨v,h1,rfl⟩:=h
 exact h1
theorem h17 {d:Dl} {W n:Nat} {S:St} (hd:qO d W) (hls:d.ty.ls.length≤1000∧d.val.ls.length≤1000) (hn:3 * W + 40000000≤n) :
 RN n (.f 17) [eY d] S=some (.tuple [gK 7 ((ofR d).1.map bx),.int .i64 (ofR d).2],S):=
 ue rfl rfl rfl rfl (by simp only [ej,an]) (SQ hd hls hn)
end Go.Ev
namespace Go.Ev
open Go.Proofs Go.RowKit
set_option maxRecDepth 100000
set_option linter.unusedVariables false
set_option linter.unusedSimpArgs false
@[reducible] noncomputable def oF (d:Dl) (sh:List Sh) (p m:Nat) (u:Lv):List V:=[.int .u8 d.kind,.int .i64 d.params,.str d.name,
  .int .u8 d.ty.k,.int .i64 d.ty.n,.str d.ty.s,.list (ao d.ty.a d.ty.ls) (aw d.ty.b) 0 (d.ty.ls.map enc),.list (ao d.ty.c d.ty.ts) (aw d.ty.d) 0 (ag d.ty.ts),
  .int .u8 d.val.k,.int .i64 d.val.n,.str d.val.s,.list (ao d.val.a d.val.ls) (aw d.val.b) 0 (d.val.ls.map enc),.list (ao d.val.c d.val.ts) (aw d.val.d) 0 (ag d.val.ts),
  .int .i64 d.fixed,.list 7 .no 0 (d.aj.map encI),.list 7 .no 0 (sh.map bx),.list (ao false (fg p)) (aw (fg p).isEmpty) 0 ((fg p).map enc),.int .i64 u.c,.int .i64 u.p0,.int .i64 u.p1,.int .i64 u.p2,.int .i64 u.p3,.int .i64 (.ofNat m),.bool false]
@[reducible] noncomputable def ck (d:Dl) (sh:List Sh) (p m:Nat) (u:Lv):V:=.imm 0 (oF d sh p m u)
structure My (c:Int) (t:Tm):Prop where
 may:cL t=true
 vars:eV c t
theorem My.gd {c:Int} {t:Tm} (h:My c t):Gd 4000000 c t:=⟨cK h.may,h.vars,fX h.may⟩
theorem My.lift {c b:Int} {t:Tm} (h:My c t) (hb:0≤b) (hcb:c + b≤1048576) (a:Int):My (c + b) (aZ t a b):=
 ⟨DC hb hcb h.vars h.may,(qa hb hcb _ t (Nat.le_refl _) (cK h.may) h.vars a).2⟩
theorem My.mono {c e:Int} {t:Tm} (h:My c t) (hc:c≤e):My e t:=⟨h.may,eV.mono hc _ t (Nat.le_refl _) h.vars⟩
theorem My.pis {c:Int} {t:Tm} (h:My c t):My c (al t).2∧∀y∈(al t).1,My c y:=by
 obtain⟨h1,h2⟩:=oD _ t (Nat.le_refl _) h.may
 obtain⟨g1,g2⟩:=Gd.pis _ t (Nat.le_refl _) h.gd
 exact⟨⟨h1,g1.vars⟩,fun y hy=>⟨h2 y hy,(g2 y hy).vars⟩⟩
theorem My.spine {c:Int} {t:Tm} (h:My c t):My c (aF t).1∧∀y∈(aF t).2,My c y:=by
 obtain⟨h1,h2⟩:=uh _ t (Nat.le_refl _) h.may
 obtain⟨g1,g2⟩:=Gd.spine _ t (Nat.le_refl _) h.gd
 exact⟨⟨h1,g1.vars⟩,fun y hy=>⟨h2 y hy,(g2 y hy).vars⟩⟩
theorem My.kid {c:Int} {t y:Tm} (h:My c t) (hy:y∈t.ts):My c y:=⟨tn h.may hy,(h.gd.kid hy).vars⟩
theorem Na {t:Tm} (h:ic t=true):My 4096 t:=by
 have hv:=uY h
 unfold ic at h
 simp only [Bool.and_eq_true] at h
 exact⟨h.1,hv⟩
theorem rY {c:Int} {x:Tm} (hx:My c x):∀(n:Nat),n≤(al x).1.length→My c (dy n x)
 | 0,_=>hx
 | n + 1,h=>by
  have hp:=j6 hx.gd.all n (by omega)
  obtain⟨hk,a,b,hts,_⟩:=hp.next (by omega)
  have e:dy (n + 1) x=b:=by
   show ((dy n x).ts[1]?).getD zTm=b
   rw [hts];rfl
  rw [e]
  exact (rY hx n (by omega)).kid (by rw [hts];simp)
structure rZ (d:Dl) (fx p:Nat):Prop where
 bk:m6 d fx p 4000000
 my:∀i∈d.aj,My 4096 i.ty∧∀c∈i.cs,My 4096 c.ty
section
variable {n:Nat} {d:Dl} {sh:List Sh} {m:Nat} {u:Lv} {fx p:Nat} {H:List Blk} {T:List Nat} {S:St}
theorem ON {R:Run} {k:Nat} {args:List V} {p:V→Prop}
 (h:fm Tryz.cfg R (Tryz.cfg.fc 131) k 131 Tryz.f131.ntmps (uO 2 lfB) { nt:=Tryz.f131.ntmps,tmps:=number 0 args,locs:=[],fix:=[] } St.empty fun e A S=>match e with
  | .normal=>∃A2 S2 cs,bI Tryz.cfg R (Tryz.cfg.fc 131) (fun _=>.any) mK (takeN 11 mK) 0 A S=some (A2,S2)∧look 25 A2.tmps=some (.imm 0 (.bool false::cs))∧look 23 A2.tmps=some (.bool false)∧
   er Tryz.cfg R (Tryz.cfg.fc 131) k 131 Tryz.f131.ntmps [] (ny 3 lfB) A2 S2 fun e A S=>match e with | .exit _=>False | _=>∃v,pM Tryz.f131 A S=some v∧p v
  | _=>False) :
 ∃v,sH R k args=some v∧p v:=by
 obtain⟨e,A,S,h1,h2⟩:=h
 unfold sH
 rw [h1]
 cases e with
 | exit i=>exact h2.elim
 | ret=>exact h2.elim
 | normal=>
  obtain⟨A2,S2,cs,h3,h4,h5,h6⟩:=h2
  obtain⟨e,A',S',h7,h8⟩:=cM _ _ _ _ h6
  simp only [h3,h4,h5,h7]
  cases e with
  | exit i=>exact h8.elim
  | ret=>exact h8
  | normal=>exact h8
theorem tZ {t:Tm} {c:Int} {b:Nat} (ht:My c t) (hc:0≤c) (hcb:c + .ofNat b≤1048576) (hn:4000100≤n) :
 RN n (.f 131) [ck d sh p m u,aB t,.int .i64 (.ofNat b)] S=some (aB (aZ t 0 (.ofNat b)),S):=by
 obtain⟨k,rfl⟩:=up (show 20≤n by omega)
 have hb:(0:Int)≤.ofNat b:=by simp only [aOn];omega
 have hl:=ht.lift hb hcb 0
 have hw:=fX ht.may
 have hw2:=fX hl.may
 have hsz:=kH ht.may
 have h38:=fun S=>Oi (k + 5) t 0 (.ofNat b) S (rX ht.may) (by omega) (by omega) (rX hl.may) (by omega)
 rw [Kg hb hcb hc ht.vars ht.may] at h38
 refine ue (g:=sH) rfl rfl rfl rfl (by simp only [cJ,bh,bf,an]) ?_
 have hs:(V.agg (aC (aZ t 0 (.ofNat b)))).strip=aB (aZ t 0 (.ofNat b)):=by
  show V.agg [_,_,_,ai (.list _ (aw _) 0 _),ai (.list _ (aw _) 0 _)]=_
  rw [di,di]
  rfl
 have h:∃v,sH (fN Tryz.cfg cQ cY bY (k + 20)) (k + 20) [ck d sh p m u,aB t,.int .i64 (.ofNat b)]=some v∧v=aB (aZ t 0 (.ofNat b)):=by
  refine ON ?_
  refine fm.cons (nt:=27) ?_
  refine fm.cons (nt:=27) ?_
  refine ae.mk _ _ (rr (n:=k + 19) (h38 _)) ?_
  refine fm.nil (nt:=27) ?_
  refine⟨_,_,_,rfl,rfl,rfl,?_⟩
  exact⟨_,rfl,hs⟩
 obtain⟨v,h1,rfl⟩:=h
 exact h1
theorem Ms {t:Tm} {aa:Nat} (hb:rZ d fx p) (ht:My 4096 t) (hf:fx≤(al t).1.length) (h1:fx≤aa) (h2:aa≤100000) (hn:4000200≤n) :
 ∃q,RN n (.f 120) [ck d sh p m u,aB t,.int .i64 (.ofNat aa)] { heap:=H,aA:=T }=some q∧H3 fx t aa H T q:=by
 obtain⟨k,rfl⟩:=up (show 1≤n by omega)
 have hfx:=hb.bk.hfx
 have kT:=hb.bk.f12
 have hgb:=nD ht.gd hf h1 h2
 obtain⟨q0,k1,T1,tok,rfl,hg⟩:=h56 (n:=k) (x:=ou fx t aa) (H:=H) (T:=T) hgb.all (by have:=hgb.le;omega) (by have:=hgb.le;omega)
 have he:Int.ofNat aa - .ofNat fx=.ofNat (aa - fx):=by simp only [aOn];omega
 have h:∃q,frame Tryz.cfg (RN k) k 120 [ck d sh p m u,aB t,.int .i64 (.ofNat aa)] { heap:=H,aA:=T }=some q∧H3 fx t aa H T q:=by
  refine aU (fn:=Tryz.f120) (p:=H3 fx t aa H T) rfl rfl ?_
  refine aD.loop 33 (σ:=Unit) fx (fun j _=>{ nt:=33,tmps:=[(0,ck d sh p m u),(2,.int .i64 (.ofNat aa)),(4,.ptr (.loc 4) 0),(7,.ptr (.loc 7) 0),(12,.int .i64 d.fixed),(13,.int .i64 (.ofNat j))],locs:=[(4,aC (dy j t)),(7,fI)],fix:=[] }) (fun _ _=>{ heap:=H,aA:=T }) (fun _ _=>True) () (by omega) trivial ?_ ?_
  ·intro j _ hj _
   have hp:=j6 ht.gd.all j (by omega)
   obtain⟨hk,a,b,hts,_⟩:=hp.next (by omega)
   refine ah.yes (by rw [hfx];exact dj hj) ?_
   refine ab.mk _ (show indexAddr Tryz.cfg 23 (.list (ao (dy j t).c (dy j t).ts) (aw (dy j t).d) 0 (ag (dy j t).ts)) (.int .i64 (.ofNat 1))=_ from bz (x:=b) (by rw [hts];rfl)) ?_
   refine ab.mk _ (az (by omega)) ?_
   refine⟨(),trivial,?_,rfl⟩
   have e:dy (j + 1) t=b:=by
    show ((dy j t).ts[1]?).getD zTm=b
    rw [hts];rfl
   rw [e]
  ·intro _ _
   refine ah.no (by rw [hfx];exact eS (by omega)) ?_
   refine ab.mk (.int .i64 (.ofNat aa - .ofNat fx)) (by rw [hfx];exact mB (by simp only [aOn];omega) (by simp only [aOn];omega)) ?_
   have k0:=tZ (n:=k) (d:=d) (sh:=sh) (p:=p) (m:=m) (u:=u) (S:={ heap:=H,aA:=T }) (b:=aa - fx) (rY ht fx hf) (by omega) (by simp only [aOn];omega) (by omega)
   rw [← he] at k0
   refine ae.mk _ _ k0 ?_
   refine ae.mk _ _ k1 ?_
   exact⟨_,rfl,T1,tok,rfl,hg⟩
 obtain⟨q,k2,k3⟩:=h
 exact⟨q,bw rfl k2,k3⟩
theorem Mt {name:List UInt8} {aa:Nat} {l:List Tm} {c:Bool} {tok:Tok} (hb:rZ d fx p) (h2:aa≤1000000) (hl:l.length≤10000000) (hn:l.length + 40≤n) :
 RN n (.f 121) [ck d sh p m u,.str name,.int .i64 (.ofNat aa),.list (ao c l) tok 0 (ag l)] S=some (aB (gS fx p name aa l),S):=by
 obtain⟨k,rfl⟩:=up (show 1≤n by omega)
 have hfx:=hb.bk.hfx
 have kT:=hb.bk.f12
 obtain⟨b,hb'⟩:=eC tok
 have k2:=Bb (n:=k) (from_:=0) (m:=fx) (r:=.ofNat aa) (S:=St.empty) (by omega) (by omega) (bdN (by omega))
 rw [← hfx] at k2
 have hrl:=ev 0 fx (.ofNat aa)
 have h:∃q,frame Tryz.cfg (RN k) k 121 [ck d sh p m u,.str name,.int .i64 (.ofNat aa),.list (ao c l) (aw b) 0 (ag l)] St.empty=some q∧∃S',q=(aB (gS fx p name aa l),S'):=by
  refine aU (fn:=Tryz.f121) (p:=fun q=>∃S',q=(aB (gS fx p name aa l),S')) rfl rfl ?_
  refine ae.mk _ _ k2 ?_
  refine ae.mk _ _ (rS (f:=mf name false (fg p).isEmpty (fg p)) (by rw [hrl];omega) (by rw [hrl];omega)) ?_
  refine ae.mk _ _ (rS (by omega) (by omega)) ?_
  exact⟨_,rfl,_,rfl⟩
 obtain⟨q,k3,S',rfl⟩:=h
 rw [iW (jQ:=[ck d sh p m u,.str name,.int .i64 (.ofNat aa),.list (ao c l) (aw b) 0 (ag l)]) rfl rfl rfl (by simp only [cJ,jI,bf,b8,eD hb',an])]
 exact dZ k3 (by simp only [cJ,jI,bf,b8,an]) rfl rfl
end
end Go.Ev
namespace Go.Ev
open Go.Proofs Go.RowKit
set_option maxRecDepth 100000
set_option maxHeartbeats 1000000
set_option linter.unusedVariables false
set_option linter.unusedSimpArgs false
theorem ye {LT ET sz by' : Nat} {z' : List V} {ei:TI} {H:List Blk} {T:List Nat} {new:List V} {bg:Tok} {sz1 sz2:Nat} (hl:Tryz.cfg.ti LT=some { kind:=.slice ET,size:=sz,bytes:=by',zero:=z' }) (he:Tryz.cfg.ti ET=some ei)
 (h0:0 < ei.size) (hb:ei.bytes≤1000) (hlen:new.length < 1000000000) (hne:new≠[]) (h2:sz2=ei.size) :
 ∃T' aV,(∀(A:Env) (ac:Acc),ac.heap=true→append Tryz.cfg A { heap:=H,aA:=T } ac LT (.list sz1 .tight 0 []) (.list sz2 bg 0 new)=some (.list ei.size aV 0 new,{ heap:=H,aA:=T' }))∧av T T' new aV:=by
 have hq:(new.isEmpty=true∨sz2=ei.size):=.inr h2
 have hr:∀(A:Env) (ac:Acc) (S:St),gV A S ac ei.size (.list sz2 bg 0 new)=some (0,new):=fun A ac S=>by unfold gV;exact if_pos hq
 obtain⟨T',aV,h1,h3⟩:=xI (ei:=ei) (H:=H) (T0:=T) (T:=T) (done:=[]) (tok:=.tight) (sz:=sz1) (new:=new) h0 hb (by simpa using hlen) (.inl rfl) ⟨jm.refl T,.inl rfl⟩ hne
 rw [List.nil_append] at h1 h3
 refine⟨T',aV,?_,h3⟩
 intro A ac hac
 unfold append
 have hf:new.isEmpty=false:=by cases new with | nil=>exact absurd rfl hne | cons a l=>rfl
 simp only [hl,he,hr,hf,Bool.false_eq_true,if_false]
 exact h1 ac hac
section
variable {n:Nat} {d:Dl} {sh:List Sh} {m:Nat} {u:Lv} {fx p:Nat} {H:List Blk} {T:List Nat} {S:St}
theorem SW {x:In} {j aa:Nat} (hb:rZ d fx p) (hx:d.aj[j]?=some x) (h1:fx≤aa) (h2:aa≤1000) (hsm:(aG fx x.ty aa).1.length≤100000) (hn:4000300≤n) :
 RN n (.f 158) [ck d sh p m u,.int .i64 (.ofNat j),.int .i64 (.ofNat aa)] S=some (aB (fR fx p u x aa),S):=by
 obtain⟨k,rfl⟩:=up (show 1≤n by omega)
 obtain⟨hg1,hg2,_⟩:=hb.bk.gd x (aMg hx)
 have hmy:=(hb.my x (aMg hx)).1
 obtain⟨q0,k1,T1,tok,rfl,hg⟩:=Ms (n:=k) (sh:=sh) (m:=m) (u:=u) (H:=[]) (T:=[]) hb hmy hg2 h1 (by omega) (by omega)
 have k2:=Bb (n:=k) (from_:=aa) (m:=(aG fx x.ty aa).1.length) (r:=.ofNat (aa + (aG fx x.ty aa).1.length)) (S:={ heap:=[],aA:=T1 }) (by omega) (by omega) (bdN (by omega))
 have hrl:=ev aa (aG fx x.ty aa).1.length (.ofNat (aa + (aG fx x.ty aa).1.length))
 have k3:=Mt (n:=k) (d:=d) (sh:=sh) (m:=m) (u:=u) (S:={ heap:=[],aA:=T1 }) (name:=x.name) (aa:=aa + (aG fx x.ty aa).1.length) (c:=false) (tok:=aw (db aa (aG fx x.ty aa).1.length (.ofNat (aa + (aG fx x.ty aa).1.length))).isEmpty) (l:=db aa (aG fx x.ty aa).1.length (.ofNat (aa + (aG fx x.ty aa).1.length))) hb (by omega) (by rw [hrl];omega) (by rw [hrl];omega)
 obtain⟨T3,eU,a1,a2⟩:=iA (LT:=157) (c:=false) (bg:=.tight) (H:=[]) (done:=(aG fx x.ty aa).1) (new:=[gS fx p x.name (aa + (aG fx x.ty aa).1.length) (db aa (aG fx x.ty aa).1.length (.ofNat (aa + (aG fx x.ty aa).1.length)))]) rfl (by simp only [aLc,List.length_nil];omega) hg
 have h:∃q,frame Tryz.cfg (RN k) k 158 [ck d sh p m u,.int .i64 (.ofNat j),.int .i64 (.ofNat aa)] St.empty=some q∧∃S',q=(aB (fR fx p u x aa),S'):=by
  refine aU (fn:=Tryz.f158) (p:=fun q=>∃S',q=(aB (fR fx p u x aa),S')) rfl rfl ?_
  refine ab.mk _ (aL hx) ?_
  refine ae.mk _ _ k1 ?_
  refine ab.mk (.int .i64 (.ofNat (aa + (aG fx x.ty aa).1.length))) (by rw [ak];exact addNat (by omega)) ?_
  refine ab.mk _ (aL hx) ?_
  refine ae.mk _ _ (by rw [ak];exact k2) ?_
  refine ae.mk _ _ k3 ?_
  refine ab.mk _ (bs1 _ 157 _ _ _ rfl) ?_
  refine cj.mk _ _ (a1 _ _ rfl) ?_
  refine ab.mk _ (bsL u) ?_
  refine ae.mk _ _ (EY (t:=zB u) (by simp only [aLa,aLc,List.length_nil];omega) (by simp only [aLa,aLc,List.length_nil];omega)) ?_
  exact⟨_,rfl,_,rfl⟩
 obtain⟨q,k4,S',rfl⟩:=h
 exact dZ k4 (by simp only [cJ,bf,an]) rfl rfl
theorem SX {x:In} {h:Tm} (hn:1≤n):RN n (.f 188) [encI x,.ptr (.box 0) 0] { heap:=[.cells 25 (aC h)],aA:=T }=some (.bool (decide (x.name=h.s)),{ heap:=[.cells 25 (aC h)],aA:=T }):=by
 obtain⟨q,rfl⟩:=up hn
 refine bw rfl ?_
 refine aO Tryz.cfg _ (fn:=Tryz.f188) rfl rfl ?_
 refine ab.mkB lf (fun h=>?_) (fun h=>?_)
 ·rw [h];rfl
 ·rw [h];rfl
theorem OO {t:Tm} {c:Int} (hb:rZ d fx p) (ht:My c t) (hf:fx≤(aF t).2.length) (hn:4000200≤n) :
 ∃c e,RN n (.f 164) [ck d sh p m u,aB t] S=some (.tuple [.int .i64 (ff d.aj (aF t).1.s),.list (ao c ((aF t).2.drop fx)) (aw e) 0 (ag ((aF t).2.drop fx))],S):=by
 obtain⟨q,rfl⟩:=up (show 4≤n by omega)
 have gQ:=hb.bk.dl.few
 have hfx:=hb.bk.hfx
 have kT:=hb.bk.f12
 have hw:=fX ht.may
 have GS:=PL (n:=q + 3) (S:=St.empty) ht.may (rX ht.may) (by omega)
 have hg:=OD (n:=q + 2) (f:=188) (top:=1) (first:=[]) (cap:=[.ptr (.box 0) 0]) (S:={ heap:=[.cells 25 (aC (aF t).1)],aA:=[] }) (fun i:In=>decide (i.name=(aF t).1.s)) d.aj (by omega) (by omega) (fun x _=>.inr (.inr ⟨rfl,fun A=>rfl,rfl,rfl,SX (by omega)⟩))
 have OH:RN (q + 3) (.f 143) [.list 7 .no 0 (d.aj.map encI),.fn 188 1 [] [.ptr (.box 0) 0]] { heap:=[.cells 25 (aC (aF t).1)],aA:=[] }=some (.int .i64 (ff d.aj (aF t).1.s),{ heap:=[.cells 25 (aC (aF t).1)],aA:=[] }):=bw rfl hg
 obtain⟨c',aV,ht',hsl⟩:=ml (LT:=23) (c:=true) (tok:=.no) (xs:=(aF t).2) (m:=fx) rfl hf
 obtain⟨e,he⟩:=qz ht'
 have hl5:ao true (aF t).2=5:=by cases (aF t).2<;>rfl
 rw [hl5] at hsl
 have h:∃r,frame Tryz.cfg (RN (q + 3)) (q + 3) 164 [ck d sh p m u,aB t] St.empty=some r∧∃S',r=(.tuple [.int .i64 (ff d.aj (aF t).1.s),.list (ao c' ((aF t).2.drop fx)) aV 0 (ag ((aF t).2.drop fx))],S'):=by
  refine aU (fn:=Tryz.f164) (p:=fun r=>∃S',r=(.tuple [.int .i64 (ff d.aj (aF t).1.s),.list (ao c' ((aF t).2.drop fx)) aV 0 (ag ((aF t).2.drop fx))],S')) rfl rfl ?_
  refine ae.mk _ _ GS ?_
  refine ae.mk _ _ OH ?_
  refine ab.mk (.list (ao c' ((aF t).2.drop fx)) aV 0 (ag ((aF t).2.drop fx))) ?_ ?_
  ·have SY:(if Int.ofNat (aH (ag (aF t).2)) < d.fixed then Int.ofNat (aH (ag (aF t).2)) else d.fixed)=Int.ofNat fx:=by
    rw [ak,hfx,if_neg (by simp only [aOn];omega)]
   simp only [SY]
   exact hsl
  exact⟨_,rfl,_,rfl⟩
 obtain⟨r,k1,S',rfl⟩:=h
 refine⟨c',e,?_⟩
 rw [he] at k1
 refine bC k1 (by simp only [cJ,bh,an]) rfl rfl rfl rfl ?_
 show V.tuple [_,ai (.list _ (aw e) 0 _)]=_
 rw [hU]
 rfl
theorem SZ {l:List Tm} {tok:Tok} (hl:l.length < 1000000000) (hn:1≤n) (II:l=[]→tok=.tight):∃T' aV,RN n (.f 185) [.list (ao false l) tok 0 (ag l)] { heap:=H,aA:=T }=some (.list (ao false l) aV 0 (ag l),{ heap:=H,aA:=T' })∧av T T' l aV:=by
 obtain⟨q,rfl⟩:=up hn
 cases l with
 | nil=>
  rw [II rfl]
  refine⟨T,.tight,?_,av.start T⟩
  refine bw rfl ?_
  rw [show ag []=[] by rw [ag]]
  refine aO Tryz.cfg _ (fn:=Tryz.f185) rfl rfl ?_
  rfl
 | cons a r=>
  have hr:ag (a::r)=aB a::ag r:=by rw [cZ,cZ];rfl
  obtain⟨T',aV,h1,h2⟩:=ye (LT:=157) (ET:=25) (ei:=Tryz.ti25) (H:=H) (T:=T) (new:=ag (a::r)) (bg:=tok) (sz1:=5) (sz2:=5) rfl rfl (by decide) (by decide) (by rw [← aq,ak];exact hl) (by rw [hr];simp) rfl
  refine⟨T',aV,?_,(av.map ag (fun l=>by rw [← aq,ak])).1 h2⟩
  refine bw rfl ?_
  rw [hr] at h1 ⊢
  refine aO Tryz.cfg _ (fn:=Tryz.f185) rfl rfl ?_
  refine ab.mk (.list 5 .tight 0 []) rfl ?_
  refine cj.mk _ _ (h1 _ _ rfl) ?_
  rfl
theorem S4 {l:List Lv} {tok:Tok} (hl:l.length < 1000000000) (hn:1≤n) (II:l=[]→tok=.tight):∃T' aV,RN n (.f 133) [.list (ao false l) tok 0 (l.map enc)] { heap:=H,aA:=T }=some (.list (ao false l) aV 0 (l.map enc),{ heap:=H,aA:=T' })∧av T T' l aV:=by
 obtain⟨q,rfl⟩:=up hn
 cases l with
 | nil=>
  rw [II rfl]
  refine⟨T,.tight,?_,av.start T⟩
  refine bw rfl ?_
  refine aO Tryz.cfg _ (fn:=Tryz.f133) rfl rfl ?_
  rfl
 | cons a r=>
  obtain⟨T',aV,h1,h2⟩:=ye (LT:=22) (ET:=51) (ei:=Tryz.ti51) (H:=H) (T:=T) (new:=(a::r).map enc) (bg:=tok) (sz1:=5) (sz2:=5) rfl rfl (by decide) (by decide) (by simpa using hl) (by simp) rfl
  refine⟨T',aV,?_,(av.map (List.map enc) (fun l=>by simp)).1 h2⟩
  refine bw rfl ?_
  refine aO Tryz.cfg _ (fn:=Tryz.f133) rfl rfl ?_
  refine ab.mk (.list 5 .tight 0 []) rfl ?_
  refine cj.mk _ _ (h1 _ _ rfl) ?_
  rfl
end
theorem DF {a r:Nat} (h:a < r) (hr:r≤1000000):My (.ofNat r) (bR (.ofNat a) (.ofNat r)):=by
 refine⟨?_,?_⟩
 ·have hnu:kR (bR (.ofNat a) (.ofNat r))=true:=by
   unfold kR
   show (!iLt (Int.ofNat r - 1 - Int.ofNat a) 0 && !iLt 1048576 (Int.ofNat r - 1 - Int.ofNat a))=true
   rw [cm,cm]
   simp only [Bool.and_eq_true,Bool.not_eq_true',decide_eq_false_iff_not,aOn]
   omega
  have GR:bm (bR (.ofNat a) (.ofNat r))=true:=by
   unfold bm
   rw [hnu,show mc (bR (.ofNat a) (.ofNat r))=true from rfl,show lz (bR (.ofNat a) (.ofNat r))=true from rfl,show (bR (.ofNat a) (.ofNat r)).ts=[] from rfl,ak]
   rfl
  unfold cL
  rw [jD]
  show Option.isSome (match bm (bR (.ofNat a) (.ofNat r)) with | true=>dO bm (bR (.ofNat a) (.ofNat r)).ts 65535 4095 | false=>none)=true
  rw [GR,show (bR (.ofNat a) (.ofNat r)).ts=[] from rfl]
  simp only [dO]
  rfl
 ·refine (gB _ _).2 ⟨fun _=>?_,fun y hy=>?_⟩
  ·show Int.ofNat r - 1 - Int.ofNat a≤Int.ofNat r
   simp only [aOn];omega
  ·exact absurd hy (by show ¬y∈([]:List Tm);simp)
theorem yf {a r b:Nat} (h:a < r) (hr:r≤1000000) (hb:b≤1000000):aZ (bR (.ofNat a) (.ofNat r)) 0 (.ofNat b)=bR (.ofNat a) (.ofNat (r + b)):=by
 rw [p8 rfl]
 have h1:(!iLt (bR (.ofNat a) (.ofNat r)).n 0)=true:=by
  rw [cm]
  show (!decide (Int.ofNat r - 1 - Int.ofNat a < 0))=true
  simp only [Bool.not_eq_true',decide_eq_false_iff_not,aOn];omega
 rw [h1]
 show JB (dT (Int.ofNat r - 1 - Int.ofNat a) (.ofNat b))=JB (Int.ofNat (r + b) - 1 - Int.ofNat a)
 rw [show dT (Int.ofNat r - 1 - Int.ofNat a) (.ofNat b)=(Int.ofNat r - 1 - Int.ofNat a) + .ofNat b from gy (by simp only [aOn];omega) (by simp only [aOn];omega)]
 congr 1
 simp only [aOn];omega
theorem G0 {d:Dl} {fx:Nat} {t:Tm} {a:Int} (h:dK d fx t a=true):fx≤(aF t).2.length:=by
 unfold dK at h
 simp only [Bool.and_eq_true] at h
 have h3:=h.2.2
 unfold uW at h3
 rw [List.all_eq_true] at h3
 cases fx with
 | zero=>omega
 | succ k=>
  have:=h3 k (List.mem_range.2 (by omega))
  cases hq:(aF t).2[k]? with
  | none=>rw [hq] at this;cases this
  | some x=>have:=(aGs hq).1;omega
theorem Qj {n:Nat} {s:List UInt8} {a b:Bool} {ls:List Lv} {tok bg:Tok} {xs:List Tm} {c:Bool} {S:St} (hb:ep tok=aw b) (hn:xs.length + 2≤n) (hl:xs.length < 1000000000) :
 RN n (.f 124) [.agg [.int .u8 3,.int .i64 0,.str s,.list (ao a ls) tok 0 (ls.map enc),.list 0 .tight 0 []],.list (ao c xs) bg 0 (ag xs)] S=some (aB (de (mf s a b ls) xs),S):=by
 obtain⟨q,rfl⟩:=up (show 1≤n by omega)
 have e:V.strip (.agg [.int .u8 3,.int .i64 0,.str s,.list (ao a ls) tok 0 (ls.map enc),.list 0 .tight 0 []])=aB (mf s a b ls):=by
  show V.agg [_,_,_,ai (.list _ tok 0 _),_]=_
  rw [vd,hb]
  show V.agg [_,_,_,_,V.list 0 .tight 0 []]=V.agg [_,_,_,_,V.list 0 .tight 0 (ag [])]
  rw [cZ];rfl
 rw [iW (jQ:=[aB (mf s a b ls),.list (ao c xs) bg 0 (ag xs)]) rfl rfl rfl (by
  show V.strip _::bn V.strip [_]=V.strip (aB _)::bn V.strip [_]
  rw [e,eO])]
 exact rS hn hl
section
variable {n:Nat} {d:Dl} {sh:List Sh} {m:Nat} {u:Lv} {fx p:Nat} {H:List Blk} {T:List Nat} {S:St}
@[reducible] noncomputable def bqQ (d:Dl) (sh:List Sh) (p m:Nat) (u:Lv):V:=.imm 0 [ck d sh p m u]
theorem S6 {y deep:Nat} (hb:rZ d fx p) (hy:y≤1000) (hd:deep≤1000000) (hn:10≤n):RN n (.f 186) [.int .i64 (.ofNat y),.int .i64 (.ofNat deep),bqQ d sh p m u] S=some (aB (s8 d fx p u m 6 y deep),S):=by
 obtain⟨q,rfl⟩:=up (show 1≤n by omega)
 have hfx:=hb.bk.hfx
 have kT:=hb.bk.f12
 have h:frame Tryz.cfg (RN q) q 186 [.int .i64 (.ofNat y),.int .i64 (.ofNat deep),bqQ d sh p m u] St.empty=some (aB (s8 d fx p u m 6 y deep),St.empty):=by
  refine aO Tryz.cfg _ (fn:=Tryz.f186) rfl rfl ?_
  refine ab.mk (.int .i64 (.ofNat (fx + y))) (by rw [hfx];exact addNat (by omega)) ?_
  refine ae.mk _ _ (Dh (by omega) (bdN (by omega)) (bdN (by omega))) ?_
  rfl
 exact dZ h (by simp only [bf,cJ,an]) rfl rfl
theorem S8 {y deep:Nat} {x:In} (hb:rZ d fx p) (hx:d.aj[y]?=some x) (hd:deep≤1000000) (hm:m≤1000) (hn:2000≤n):RN n (.f 132) [.int .i64 (.ofNat y),.int .i64 (.ofNat deep),bqQ d sh p m u] S=some (aB (s8 d fx p u m 5 y deep),S):=by
 obtain⟨q,rfl⟩:=up (show 1≤n by omega)
 have hfx:=hb.bk.hfx
 have kT:=hb.bk.f12
 have hp4:=hb.bk.p4
 have gQ:=hb.bk.dl.few
 have hnl:=(hb.bk.nm.nm x (aMg hx)).1
 obtain⟨T1,TU,k1,hg1⟩:=S4 (n:=q) (l:=fg p) (tok:=aw (fg p).isEmpty) (H:=[]) (T:=[]) (by rw [fh];omega) (by omega) (fun e=>by rw [e];rfl)
 obtain⟨T2,JL,a1,a2⟩:=oi (c:=false) (bg:=.tight) (H:=[]) (done:=fg p) (new:=[u]) (by rw [fh];simp only [aLc,List.length_nil];omega) hg1
 have k2:=Bb (n:=q) (from_:=0) (m:=fx + d.aj.length + m) (r:=.ofNat deep) (S:={ heap:=[],aA:=T2 }) (by omega) (by omega) (bdN (by omega))
 have hrl:=ev 0 (fx + d.aj.length + m) (.ofNat deep)
 have h:∃q',frame Tryz.cfg (RN q) q 132 [.int .i64 (.ofNat y),.int .i64 (.ofNat deep),bqQ d sh p m u] St.empty=some q'∧∃S',q'=(aB (s8 d fx p u m 5 y deep),S'):=by
  refine aU (fn:=Tryz.f132) (p:=fun q'=>∃S',q'=(aB (s8 d fx p u m 5 y deep),S')) rfl rfl ?_
  refine ab.mk _ (aL hx) ?_
  refine ab.mk _ (xJ (b:=bU) (by unfold bU;simp only [aLc,List.length_nil];omega)) ?_
  refine ae.mk _ _ k1 ?_
  refine ab.mk _ (bsL u) ?_
  refine cj.mk _ _ (a1 _ _ rfl) ?_
  refine ab.mk (.int .i64 (.ofNat (fx + d.aj.length))) (by rw [hfx,aq,aLm];exact addNat (by omega)) ?_
  refine ab.mk (.int .i64 (.ofNat (fx + d.aj.length + m))) (addNat (by omega)) ?_
  refine ae.mk _ _ k2 ?_
  refine ae.mk _ _ (Qj a2.ep (by rw [hrl];omega) (by rw [hrl];omega)) ?_
  refine⟨_,rfl,?_⟩
  show ∃S',_=(aB (JV d fx p u m y deep),S')
  unfold JV GN
  rw [hx]
  exact⟨_,rfl⟩
 obtain⟨r,k3,S',rfl⟩:=h
 exact dZ k3 (by simp only [bf,cJ,an]) rfl rfl
theorem Kj {t:Tm} {c:Int} {f aa:Nat} (hb:rZ d fx p) (ht:My c t) (hf:f < aa) (ha:aa≤500000) (hm:m≤1000) (jK:dK d fx (al t).2 (.ofNat (aa + (al t).1.length))=true) (hlen:(al t).1.length≤4000000) (Qk:aa + (al t).1.length≤500000) (hn:4010000≤n) :
 RN n (.f 130) [ck d sh p m u,.int .u8 6,aB t,aB (bR (.ofNat f) (.ofNat aa)),.int .i64 (.ofNat aa),.fn 186 0 [] [bqQ d sh p m u]] S=some (aB (kU d fx p u m 6 t f aa),S):=by
 obtain⟨q,rfl⟩:=up (show 1≤n by omega)
 have gQ:=hb.bk.dl.few
 have hfx:=hb.bk.hfx
 have kT:=hb.bk.f12
 have hw:=fX ht.may
 obtain⟨my1,my2⟩:=ht.pis
 obtain⟨q0,k1,T1,tok,rfl,hg⟩:=h56 (n:=q) (x:=t) (H:=[]) (T:=[]) (cK ht.may) (by omega) (by omega)
 obtain⟨j,x,hj,hx⟩ : ∃j x,ff d.aj (aF (al t).2).1.s=.ofNat j∧d.aj[j]?=some x:=by
  rcases xO d fx (al t).2 (.ofNat (aa + (al t).1.length)) with h | ⟨j,x,h1,h2⟩
  ·unfold cI at h
   rw [jK] at h
   unfold ff at h
   cases hq:dJ (fun i=>decide (i.name=(aF (al t).2).1.s)) d.aj 0 with
   | none=>
    exfalso
    unfold dK kI at jK
    rw [hq] at jK
    simp at jK
   | some j=>rw [hq] at h;exact absurd h (by show ¬(Int.ofNat j = -1);simp only [aOn];omega)
  ·unfold cI at h1
   rw [jK] at h1
   exact⟨j,x,h1,h2⟩
 have hjl:j < d.aj.length:=(aGs hx).1
 have hsl:fx≤(aF (al t).2).2.length:=G0 jK
 obtain⟨c1,e1,k2⟩:=OO (n:=q) (sh:=sh) (m:=m) (u:=u) (S:={ heap:=[],aA:=T1 }) hb my1 hsl (by omega)
 have hwE:=(ia _ _ (Nat.le_refl _) my1.gd.all).1
 have Ta:=my1.gd.le
 have hdl:((aF (al t).2).2.drop fx).length≤4000000:=by rw [List.length_drop];omega
 have k3:=tZ (n:=q) (d:=d) (sh:=sh) (p:=p) (m:=m) (u:=u) (S:={ heap:=[],aA:=T1 }) (b:=(al t).1.length) (DF hf (by omega)) (by simp only [aOn];omega) (by simp only [aOn];omega) (by omega)
 rw [yf hf (by omega) (by omega)] at k3
 have k4:=Bb (n:=q) (from_:=aa) (m:=(al t).1.length) (r:=.ofNat (aa + (al t).1.length)) (S:={ heap:=[],aA:=T1 }) (by omega) (by omega) (bdN (by omega))
 have hrl:=ev aa (al t).1.length (.ofNat (aa + (al t).1.length))
 have h:∃r,frame Tryz.cfg (RN q) q 130 [ck d sh p m u,.int .u8 6,aB t,aB (bR (.ofNat f) (.ofNat aa)),.int .i64 (.ofNat aa),.fn 186 0 [] [bqQ d sh p m u]] St.empty=some r∧∃S',r=(aB (kU d fx p u m 6 t f aa),S'):=by
  refine aU (fn:=Tryz.f130) (p:=fun r=>∃S',r=(aB (kU d fx p u m 6 t f aa),S')) rfl rfl ?_
  refine ae.mk _ _ k1 ?_
  refine ab.mk (.int .i64 (.ofNat (aa + (al t).1.length))) (by rw [ak];exact addNat (by omega)) ?_
  refine ae.mk _ _ k2 ?_
  rw [hj]
  refine ah.no rfl ?_
  refine ae.mk _ _ (by rw [ak];exact k3) ?_
  refine ae.mk _ _ (by rw [ak];exact k4) ?_
  refine ae.mk _ _ (rS (by rw [hrl];omega) (by rw [hrl];omega)) ?_
  refine ae.mk _ _ (S6 (n:=q) (y:=j) (deep:=aa + (al t).1.length) (S:={ heap:=[],aA:=T1 }) hb (by omega) (by omega) (by omega)) ?_
  refine ae.mk _ _ (rS (by omega) (by omega)) ?_
  refine ab.mk _ (bs1 _ 23 _ _ _ rfl) ?_
  refine ae.mk _ _ (rS (by simp only [aLc,List.length_nil];omega) (by simp only [aLc,List.length_nil];omega)) ?_
  refine ae.mk _ _ (EY (by omega) (by omega)) ?_
  refine⟨_,rfl,?_⟩
  have hm:cI d fx (al t).2 (.ofNat (aa + (al t).1.length))=(.ofNat j,(aF (al t).2).2.drop fx):=by
   unfold cI
   rw [jK,hj]
  unfold kU
  rw [hm]
  exact⟨_,rfl⟩
 obtain⟨r,k6,S',rfl⟩:=h
 exact dZ k6 (by simp only [cJ,bf,bh,an];rfl) rfl rfl
theorem Kk {t:Tm} {c:Int} {f aa:Nat} (hb:rZ d fx p) (ht:My c t) (hf:f < aa) (ha:aa≤500000) (hm:m≤1000) (jK:dK d fx (al t).2 (.ofNat (aa + (al t).1.length))=true) (hlen:(al t).1.length≤4000000) (Qk:aa + (al t).1.length≤500000) (hn:4010000≤n) :
 RN n (.f 130) [ck d sh p m u,.int .u8 5,aB t,aB (bR (.ofNat f) (.ofNat aa)),.int .i64 (.ofNat aa),.fn 132 0 [] [bqQ d sh p m u]] S=some (aB (kU d fx p u m 5 t f aa),S):=by
 obtain⟨q,rfl⟩:=up (show 1≤n by omega)
 have gQ:=hb.bk.dl.few
 have hfx:=hb.bk.hfx
 have kT:=hb.bk.f12
 have hw:=fX ht.may
 obtain⟨my1,my2⟩:=ht.pis
 obtain⟨q0,k1,T1,tok,rfl,hg⟩:=h56 (n:=q) (x:=t) (H:=[]) (T:=[]) (cK ht.may) (by omega) (by omega)
 obtain⟨j,x,hj,hx⟩ : ∃j x,ff d.aj (aF (al t).2).1.s=.ofNat j∧d.aj[j]?=some x:=by
  rcases xO d fx (al t).2 (.ofNat (aa + (al t).1.length)) with h | ⟨j,x,h1,h2⟩
  ·unfold cI at h
   rw [jK] at h
   unfold ff at h
   cases hq:dJ (fun i=>decide (i.name=(aF (al t).2).1.s)) d.aj 0 with
   | none=>
    exfalso
    unfold dK kI at jK
    rw [hq] at jK
    simp at jK
   | some j=>rw [hq] at h;exact absurd h (by show ¬(Int.ofNat j = -1);simp only [aOn];omega)
  ·unfold cI at h1
   rw [jK] at h1
   exact⟨j,x,h1,h2⟩
 have hjl:j < d.aj.length:=(aGs hx).1
 have hsl:fx≤(aF (al t).2).2.length:=G0 jK
 obtain⟨c1,e1,k2⟩:=OO (n:=q) (sh:=sh) (m:=m) (u:=u) (S:={ heap:=[],aA:=T1 }) hb my1 hsl (by omega)
 have hwE:=(ia _ _ (Nat.le_refl _) my1.gd.all).1
 have Ta:=my1.gd.le
 have hdl:((aF (al t).2).2.drop fx).length≤4000000:=by rw [List.length_drop];omega
 have k3:=tZ (n:=q) (d:=d) (sh:=sh) (p:=p) (m:=m) (u:=u) (S:={ heap:=[],aA:=T1 }) (b:=(al t).1.length) (DF hf (by omega)) (by simp only [aOn];omega) (by simp only [aOn];omega) (by omega)
 rw [yf hf (by omega) (by omega)] at k3
 have k4:=Bb (n:=q) (from_:=aa) (m:=(al t).1.length) (r:=.ofNat (aa + (al t).1.length)) (S:={ heap:=[],aA:=T1 }) (by omega) (by omega) (bdN (by omega))
 have hrl:=ev aa (al t).1.length (.ofNat (aa + (al t).1.length))
 have h:∃r,frame Tryz.cfg (RN q) q 130 [ck d sh p m u,.int .u8 5,aB t,aB (bR (.ofNat f) (.ofNat aa)),.int .i64 (.ofNat aa),.fn 132 0 [] [bqQ d sh p m u]] St.empty=some r∧∃S',r=(aB (kU d fx p u m 5 t f aa),S'):=by
  refine aU (fn:=Tryz.f130) (p:=fun r=>∃S',r=(aB (kU d fx p u m 5 t f aa),S')) rfl rfl ?_
  refine ae.mk _ _ k1 ?_
  refine ab.mk (.int .i64 (.ofNat (aa + (al t).1.length))) (by rw [ak];exact addNat (by omega)) ?_
  refine ae.mk _ _ k2 ?_
  rw [hj]
  refine ah.no rfl ?_
  refine ae.mk _ _ (by rw [ak];exact k3) ?_
  refine ae.mk _ _ (by rw [ak];exact k4) ?_
  refine ae.mk _ _ (rS (by rw [hrl];omega) (by rw [hrl];omega)) ?_
  refine ae.mk _ _ (S8 (n:=q) (y:=j) (deep:=aa + (al t).1.length) (S:={ heap:=[],aA:=T1 }) hb hx (by omega) hm (by omega)) ?_
  refine ae.mk _ _ (rS (by omega) (by omega)) ?_
  refine ab.mk _ (bs1 _ 23 _ _ _ rfl) ?_
  refine ae.mk _ _ (rS (by simp only [aLc,List.length_nil];omega) (by simp only [aLc,List.length_nil];omega)) ?_
  refine ae.mk _ _ (EY (by omega) (by omega)) ?_
  refine⟨_,rfl,?_⟩
  have hm:cI d fx (al t).2 (.ofNat (aa + (al t).1.length))=(.ofNat j,(aF (al t).2).2.drop fx):=by
   unfold cI
   rw [jK,hj]
  unfold kU
  rw [hm]
  exact⟨_,rfl⟩
 obtain⟨r,k6,S',rfl⟩:=h
 exact dZ k6 (by simp only [cJ,bf,bh,an];rfl) rfl rfl
end
@[reducible] noncomputable def Nb:Option (Int×Int)→List (Nat×List V)
  | none=>[]
  | some f=>[(6,[.int .i64 f.1,.int .i64 f.2])]
theorem tu {sh:List Sh} {x:Nat} {s:Sh} (h:sh[x]?=some s) (hne:s.fields≠[]):indexAddr Tryz.cfg 64 (.list 7 .no 0 (sh.map bx)) (.int .i64 (.ofNat x))=some (.imm 0 [.int .i64 s.index,.int .i64 s.level.c,.int .i64 s.level.p0,.int .i64 s.level.p1,.int .i64 s.level.p2,.int .i64 s.level.p3,.list 1 .no 0 (s.fields.map bp)]):=by
 have h1:indexAddr Tryz.cfg 64 (.list 7 .no 0 (sh.map bx)) (.int .i64 (.ofNat x))=some (.imm 0 (sW s)):=dB (ei:=Tryz.ti112) rfl rfl h
 rw [h1]
 have:gK 1 (s.fields.map fun fs=>V.agg [sV fs])=.list 1 .no 0 (s.fields.map bp):=by
  cases hs:s.fields with
  | nil=>exact absurd hs hne
  | cons a r=>rfl
 rw [← this]
theorem nG {fss:List (List (Int×Int))} {c:Nat} {fs:List (Int×Int)} (h:fss[c]?=some fs):indexAddr Tryz.cfg 110 (.list 1 .no 0 (fss.map bp)) (.int .i64 (.ofNat c))=some (.imm 0 [sV fs]):=dB (f:=fun fs=>[sV fs]) (ei:=Tryz.ti113) rfl rfl h
section
variable {n:Nat} {d:Dl} {sh:List Sh} {m:Nat} {u:Lv} {fx p:Nat} {S:St}
theorem Tb {x c:Nat} {s:Sh} {fs:List (Int×Int)} {B:List Blk} {T:List Nat} {b:Nat} {P:Nat→St→Prop} (hsx:sh[x]?=some s) (hsc:s.fields[c]?=some fs) (hn:fs.length < n) (hl:fs.length≤1000)
 (h0:P 0 { heap:=.cells 69 [ck d sh p m u]::.cells 3 [.int .i64 (.ofNat x)]::.cells 3 [.int .i64 (.ofNat c)]::B,aA:=T })
 (hy:∀i f S,fs[i]?=some f→iLt f.1 0=false→P i S→∃S',RN n (.y b) [.int .i64 (.ofNat i)] S=some (.bool true,S')∧P (i + 1) S')
 (hs:∀i f S,fs[i]?=some f→iLt f.1 0=true→P i S→P (i + 1) S) :
 ∃S',RN (n + 1) (.f 163) [.yield b,.ptr (.box 0) 0,.ptr (.box 1) 0,.ptr (.box 2) 0] { heap:=.cells 69 [ck d sh p m u]::.cells 3 [.int .i64 (.ofNat x)]::.cells 3 [.int .i64 (.ofNat c)]::B,aA:=T }=some (.tuple [],S')∧P fs.length S':=by
 have h:∃r,frame Tryz.cfg (RN n) n 163 [.yield b,.ptr (.box 0) 0,.ptr (.box 1) 0,.ptr (.box 2) 0] { heap:=.cells 69 [ck d sh p m u]::.cells 3 [.int .i64 (.ofNat x)]::.cells 3 [.int .i64 (.ofNat c)]::B,aA:=T }=some r∧∃S',r=(.tuple [],S')∧P fs.length S':=by
  refine aU (fn:=Tryz.f163) (p:=fun r=>∃S',r=(.tuple [],S')∧P fs.length S') rfl rfl ?_
  have Fc:s.fields≠[]:=fun e=>by rw [e] at hsc;simp at hsc
  refine ab.mk _ (tu hsx Fc) ?_
  rcases fs with _ | ⟨f0,fr⟩
  ·refine ab.mk _ (nG hsc) ?_
   refine aD.loop 34 (σ:=Unit) 0 (fun j _=>{ nt:=34,tmps:=[(0,.yield b),(17,.list 0 .tight 0 []),(18,.int .i64 0),(19,.int .i64 0)],locs:=[],fix:=[] }) (fun _ _=>{ heap:=.cells 69 [ck d sh p m u]::.cells 3 [.int .i64 (.ofNat x)]::.cells 3 [.int .i64 (.ofNat c)]::B,aA:=T })
    (fun _ _=>True) () (by omega) trivial (fun j _ hj=>absurd hj (by omega)) (fun _ _=>?_)
   refine ah.no rfl ?_
   exact⟨_,rfl,_,rfl,h0⟩
  ·refine ab.mk _ (show indexAddr Tryz.cfg 110 (.list 1 .no 0 (s.fields.map bp)) (.int .i64 (.ofNat c))=some (.imm 0 [.list 2 .no 0 ((f0::fr).map dw)]) from nG hsc) ?_
   refine aD.loop 34 (σ:=Option (Int×Int)×St) (f0::fr).length (fun j s=>{ nt:=34,tmps:=[(0,.yield b),(17,.list 2 .no 0 ((f0::fr).map dw)),(18,.int .i64 (.ofNat (aH ((f0::fr).map dw)))),(19,.int .i64 (.ofNat j))],locs:=Nb s.1,fix:=[] }) (fun _ s=>s.2)
    (fun j s=>P j s.2) (none,{ heap:=.cells 69 [ck d sh p m u]::.cells 3 [.int .i64 (.ofNat x)]::.cells 3 [.int .i64 (.ofNat c)]::B,aA:=T }) hn h0 ?_ ?_
   ·rintro j ⟨o,S1⟩ hj (hp:P j S1)
    obtain⟨f,hf⟩ : ∃f,(f0::fr)[j]?=some f:=⟨_,aGe hj⟩
    rcases o with _ | f1
    all_goals
     refine ah.yes (ltM hj) ?_
     refine ab.mk _ (xT hf) ?_
     refine ah.mk (fun h1=>?_) (fun h1=>?_)
     ·obtain⟨S',k1,k2⟩:=hy j f S1 hf (by simpa using h1) hp
      refine ae.mk _ _ k1 ?_
      refine ab.mk _ (az (by omega)) ?_
      exact⟨(some f,S'),k2,rfl,rfl⟩
     ·have k2:=hs j f S1 hf (by simpa using h1) hp
      refine ab.mk _ (az (by omega)) ?_
      exact⟨(some f,S1),k2,rfl,rfl⟩
   ·rintro⟨o,S1⟩ (hp:P (f0::fr).length S1)
    rcases o with _ | f1
    all_goals
     refine ah.no (geM (by omega)) ?_
     exact⟨_,rfl,S1,rfl,hp⟩
 obtain⟨r,h1,S',rfl,h2⟩:=h
 exact⟨S',bw rfl h1,h2⟩
end
end Go.Ev
namespace Go.Ev
open Go.Proofs Go.RowKit
set_option maxRecDepth 100000
set_option maxHeartbeats 4000000
set_option linter.unusedVariables false
set_option linter.unusedSimpArgs false
@[reducible] noncomputable def Rc (n:Nat):Run:=bV HA n (fN Tryz.cfg cQ cY bY n)
theorem rc {n id:Nat} {args:List V} {S:St} {r:V×St} (h:RN n (.f id) args S=some r) (hc:HA id=cQ id:=by rfl) (hn:cY id=false:=by rfl) (hr:bY id=false:=by rfl):Rc n (.f id) args S=some r:=by
 have h2:df bY (cu cY (bV cQ n (fN Tryz.cfg cQ cY bY n))) (.f id) args S=some r:=h
 unfold df cu at h2
 simp only [hn,hr] at h2
 rw [← h2]
 show bV HA n (fN Tryz.cfg cQ cY bY n) (.f id) args S=_
 unfold bV
 simp only [hc]
theorem yg {x0:Tm} {i fx aa b2:Nat} (hx:My 4096 x0) (h1:fx≤aa) (h2:aa≤100000) (hi:i≤1000) (hb:b2≤100000) :
 My (.ofNat (104096 + b2)) (aZ (aZ x0 (.ofNat i) (.ofNat aa - .ofNat fx)) 0 (.ofNat b2))∧(al (aZ (aZ x0 (.ofNat i) (.ofNat aa - .ofNat fx)) 0 (.ofNat b2))).1.length=(al x0).1.length∧
 (∀d,dK d fx (al x0).2 (.ofNat (fx + i + (al x0).1.length))=true→dK d fx (al (aZ (aZ x0 (.ofNat i) (.ofNat aa - .ofNat fx)) 0 (.ofNat b2))).2 (.ofNat (aa + i + b2 + (al x0).1.length))=true):=by
 have hl0:(al x0).1.length≤65536:=by
  have:=nF _ x0 (Nat.le_refl _) (cK hx.may)
  have:=kH hx.may
  omega
 have m1:=hx.lift (b:=.ofNat aa - .ofNat fx) (by simp only [aOn];omega) (by simp only [aOn];omega) (.ofNat i)
 have m2:=m1.lift (b:=.ofNat b2) (by simp only [aOn];omega) (by simp only [aOn];omega) 0
 have hw1:=fX hx.may
 have p1:=s7 _ x0 (Nat.le_refl _) (cK hx.may) (.ofNat i) (.ofNat aa - .ofNat fx) (by simp only [aOn];omega) (by simp only [aOn];omega)
 have p2:=s7 _ _ (Nat.le_refl _) (cK m1.may) 0 (.ofNat b2) (by omega) (by rw [GL];omega)
 rw [p1] at p2
 have e2:(al (aZ (aZ x0 (.ofNat i) (.ofNat aa - .ofNat fx)) 0 (.ofNat b2))).2=aZ (aZ (al x0).2 (.ofNat i + .ofNat (al x0).1.length) (.ofNat aa - .ofNat fx)) (0 + .ofNat (al x0).1.length) (.ofNat b2):=by
  rw [p2]
  simp only [ov]
 refine⟨m2.mono (by simp only [aOn];omega),by rw [p2];simp only [ov],fun d hm=>?_⟩
 rw [e2]
 have hE:=(hx.pis).1
 have q1:=(zP (c:=.ofNat i + .ofNat (al x0).1.length) (b:=.ofNat aa - .ofNat fx) (cK hE.may) hm (by simp only [aOn];omega) (by simp only [aOn];omega) (by simp only [aOn];omega) (by simp only [aOn];omega) (by simp only [aOn];omega)).1
 have hE1:=hE.lift (b:=.ofNat aa - .ofNat fx) (by simp only [aOn];omega) (by simp only [aOn];omega) (.ofNat i + .ofNat (al x0).1.length)
 have q2:=(zP (c:=0 + .ofNat (al x0).1.length) (b:=.ofNat b2) (cK hE1.may) q1 (by simp only [aOn];omega) (by simp only [aOn];omega) (by simp only [aOn];omega) (by simp only [aOn];omega) (by simp only [aOn];omega)).1
 rw [show Int.ofNat (aa + i + b2 + (al x0).1.length)=Int.ofNat (fx + i + (al x0).1.length) + (Int.ofNat aa - Int.ofNat fx) + Int.ofNat b2 by simp only [aOn];omega]
 exact q2
section
variable {n:Nat} {d:Dl} {sh:List Sh} {m:Nat} {u:Lv} {fx p:Nat} {H:List Blk} {T:List Nat} {S:St}
theorem Tc {x c:Nat} (hn:1≤n):RN n (.f 129) [ck d sh p m u,.int .i64 (.ofNat x),.int .i64 (.ofNat c)] { heap:=[],aA:=T }=some (.fn 163 3 [] [.ptr (.box 0) 0,.ptr (.box 1) 0,.ptr (.box 2) 0],{ heap:=[.cells 69 [ck d sh p m u],.cells 3 [.int .i64 (.ofNat x)],.cells 3 [.int .i64 (.ofNat c)]],aA:=T }):=by
 obtain⟨q,rfl⟩:=up hn
 refine bw rfl ?_
 kernel_rfl
@[reducible] noncomputable def OP (aa:Nat) (c:Ct) (l:List Tm) (tl:Tok) (e:Tm) (all:List Tm) (ta:Tok) (ca:Bool):List (Nat×List V):=[(7,[.int .i64 (.ofNat aa)]),(8,fI),(9,mh c),(10,[.list (ao false l) tl 0 (ag l)]),(11,aC e),(13,[.list (ao ca all) ta 0 (ag all)])]
noncomputable def oG (d:Dl) (sh:List Sh) (p m:Nat) (u:Lv) (x aa:Nat) (c:Ct) (l:List Tm) (tl:Tok) (e:Tm) (all:List Tm) (ta:Tok) (ca:Bool):dD:={ fid:=159,nt:=121,tmps:=[(1,.int .i64 (.ofNat x)),(4,bqQ d sh p m u),(7,.ptr (.loc 7) 0),(8,.ptr (.loc 8) 0),(9,.ptr (.loc 9) 0),(10,.ptr (.loc 10) 0),(11,.ptr (.loc 11) 0),(12,.int .i64 (.ofNat (aH (ag l)))),(13,.ptr (.loc 13) 0),(48,.fn 163 3 [] [.ptr (.box 0) 0,.ptr (.box 1) 0,.ptr (.box 2) 0])],locs:=OP aa c l tl e all ta ca,params:=[49],assign:=ma Tryz.f159,body:=mb Tryz.f159,st:=.ready,jj:=none }
noncomputable def Kl (d:Dl) (sh:List Sh) (p m:Nat) (u:Lv) (x ci aa:Nat) (c:Ct) (l:List Tm) (tl:Tok) (e:Tm) (all:List Tm) (ta:Tok) (ca:Bool) (T:List Nat):St:={ heap:=[.cells 69 [ck d sh p m u],.cells 3 [.int .i64 (.ofNat x)],.cells 3 [.int .i64 (.ofNat ci)],.loop (oG d sh p m u x aa c l tl e all ta ca)],aA:=T }
theorem Km {x ci aa i h:Nat} {c:Ct} {l all:List Tm} {tl ta:Tok} {ca:Bool} {e x0:Tm} {T0:List Nat} (hb:rZ d fx p) (hx0:My 4096 x0) (hli:l[i]?=some (aZ x0 (.ofNat i) (.ofNat aa - .ofNat fx))) (jK:dK d fx (al x0).2 (.ofNat (fx + i + (al x0).1.length))=true)
 (bt:all.length=l.length + h) (hl:l.length≤100) (hh:h≤100) (h1:fx≤aa) (h2:aa≤1000) (hm:m≤1000) (hn:4020000≤n) (hg:av T0 T all ta) :
 ∃ta' T',RN n (.y 3) [.int .i64 (.ofNat i)] (Kl d sh p m u x ci aa c l tl e all ta ca T)=some (.bool true,Kl d sh p m u x ci aa c l tl e (all++[kU d fx p u m 6 (aZ (aZ x0 (.ofNat i) (.ofNat aa - .ofNat fx)) 0 (.ofNat (l.length - i + h))) (aa + i) (aa + l.length + h)]) ta' false T')∧av T0 T' (all++[kU d fx p u m 6 (aZ (aZ x0 (.ofNat i) (.ofNat aa - .ofNat fx)) 0 (.ofNat (l.length - i + h))) (aa + i) (aa + l.length + h)]) ta':=by
 obtain⟨q,rfl⟩:=up (show 1≤n by omega)
 have hil:=(aGs hli).1
 obtain⟨f1,f2,f3⟩:=yg (i:=i) (fx:=fx) (aa:=aa) (b2:=l.length - i + h) hx0 h1 (by omega) (by omega) (by omega)
 have f4:=f3 d jK
 have hl0:(al x0).1.length≤65536:=by
  have:=nF _ x0 (Nat.le_refl _) (cK hx0.may)
  have:=kH hx0.may
  omega
 have hx1:=hx0.lift (b:=.ofNat aa - .ofNat fx) (by simp only [aOn];omega) (by simp only [aOn];omega) (.ofNat i)
 generalize hy:kU d fx p u m 6 (aZ (aZ x0 (.ofNat i) (.ofNat aa - .ofNat fx)) 0 (.ofNat (l.length - i + h))) (aa + i) (aa + l.length + h)=y at *
 obtain⟨T',ta',g1,g2⟩:=xX (H:=[.cells 69 [ck d sh p m u],.cells 3 [.int .i64 (.ofNat x)],.cells 3 [.int .i64 (.ofNat ci)],.loop { oG d sh p m u x aa c l tl e all ta ca with st:=.busy,locs:=[] }]) (t:=y) (c0:=ca) (by omega) hg
 refine⟨ta',T',?_,g2⟩
 have k1:=tZ (n:=q) (d:=d) (sh:=sh) (p:=p) (m:=m) (u:=u) (S:={ heap:=[.cells 69 [ck d sh p m u],.cells 3 [.int .i64 (.ofNat x)],.cells 3 [.int .i64 (.ofNat ci)],.loop { oG d sh p m u x aa c l tl e all ta ca with st:=.busy,locs:=[] }],aA:=T }) (b:=l.length - i + h) hx1 (by simp only [aOn];omega) (by simp only [aOn];omega) (by omega)
 have k2:=Kj (n:=q) (sh:=sh) (m:=m) (u:=u) (S:={ heap:=[.cells 69 [ck d sh p m u],.cells 3 [.int .i64 (.ofNat x)],.cells 3 [.int .i64 (.ofNat ci)],.loop { oG d sh p m u x aa c l tl e all ta ca with st:=.busy,locs:=[] }],aA:=T }) (f:=aa + i) (aa:=aa + l.length + h) hb f1 (by omega) (by omega) hm (by
  rw [f2,show aa + l.length + h + (al x0).1.length=aa + i + (l.length - i + h) + (al x0).1.length by omega]
  exact f4) (by omega) (by omega) (by omega)
 rw [hy] at k2
 refine fU ?_
 refine fH (r:=oG d sh p m u x aa c l tl e all ta ca) (nt:=121) (fx:=[7,8,9,10,11,13]) rfl rfl rfl rfl rfl rfl rfl ?_
 refine ab.mk (.int .i64 (.ofNat (aa + l.length + h))) (by rw [ak,bt,Nat.add_assoc];exact addNat (by omega)) ?_
 refine ab.mk _ (xz hli) ?_
 refine ab.mk (.int .i64 (.ofNat (l.length + h))) ?_ ?_
 ·rw [show Int.ofNat (l.length + h)=Int.ofNat (aa + l.length + h) - Int.ofNat aa by simp only [aOn];omega]
  exact mB (by simp only [aOn];omega) (by simp only [aOn];omega)
 refine ab.mk (.int .i64 (.ofNat (l.length - i + h))) ?_ ?_
 ·rw [show Int.ofNat (l.length - i + h)=Int.ofNat (l.length + h) - Int.ofNat i by simp only [aOn];omega]
  exact mB (by simp only [aOn];omega) (by simp only [aOn];omega)
 refine ae.mk _ _ k1 ?_
 refine ab.mk (.int .i64 (.ofNat (aa + i))) (addNat (by omega)) ?_
 refine ae.mk _ _ (Dh (by omega) (bdN (by omega)) (bdN (by omega))) ?_
 refine ae.mk _ _ k2 ?_
 refine ab.mk _ rfl ?_
 refine AM.mk _ _ (inT (t:=y) rfl rfl rfl rfl rfl rfl rfl g1 rfl) ?_
 conv=>whnf
 rfl
theorem Ql {x ci aa:Nat} {i:In} {c:Ct} {s:Sh} {fs:List (Int×Int)} (hb:rZ d fx p) (hx:d.aj[x]?=some i) (hc:i.cs[ci]?=some c) (hsx:sh[x]?=some s) (hsc:s.fields[ci]?=some fs) (hfr:cd d fx c.ty=some fs)
 (h12:(al c.ty).1.length≤fx + 12) (hfl:fx≤(al c.ty).1.length) (hsp:fx≤(aF (al c.ty).2).2.length) (h1:fx≤aa) (h2:aa≤1000) (hm:m≤1000) (hn:4030000≤n) :
 NG (fN Tryz.cfg cQ cY bY n) n [ck d sh p m u,.int .i64 (.ofNat x),.int .i64 (.ofNat ci),.int .i64 (.ofNat aa)]=some (aB (ie d fx p u m fs x c aa)):=by
 obtain⟨k,rfl⟩:=up (show 2≤n by omega)
 have gQ:=hb.bk.dl.few
 have hfx:=hb.bk.hfx
 have kT:=hb.bk.f12
 have hxl:x < d.aj.length:=(aGs hx).1
 have hcm:=(hb.my i (aMg hx)).2 c (aMg hc)
 have Qm:=u7 hfr
 have hbn:=iK (aa:=aa) hcm.gd (by omega) hfl
 have hbe:=qB (aa:=aa) hcm.gd (by omega) hfl
 obtain⟨q0,k1,T1,tok,rfl,hg⟩:=Ms (n:=k + 2) (sh:=sh) (m:=m) (u:=u) (H:=[]) (T:=[]) (aa:=aa) hb hcm hfl h1 (by omega) (by omega)
 obtain⟨cp1,cp2⟩:=hcm.pis
 have hE:My 200000 (aG fx c.ty aa).2:=by
  rw [hbe]
  have:=cp1.lift (b:=.ofNat aa - .ofNat fx) (by simp only [aOn];omega) (by simp only [aOn];omega) (.ofNat ((al c.ty).1.length - fx))
  exact this.mono (by simp only [aOn];omega)
 have Td:fx≤(aF (aG fx c.ty aa).2).2.length:=by
  rw [hbe]
  show fx≤(aF (aZ _ _ _)).2.length
  rw [j7 _ _ (Nat.le_refl _) cp1.gd.all _ _ (by simp only [aOn];omega) (by simp only [aOn];omega)]
  simpa using hsp
 have yh:∀j f,fs[j]?=some f→∃t x0,(aG fx c.ty aa).1[j]?=some t∧t=aZ x0 (.ofNat j) (.ofNat aa - .ofNat fx)∧My 4096 x0∧(iLt f.1 0=false→dK d fx (al x0).2 (.ofNat (fx + j + (al x0).1.length))=true):=by
  intro j f hf
  have hjl:=(aGs hf).1
  have hx0:(al c.ty).1[fx + j]?=some ((al c.ty).1[fx + j]'(by omega)):=aGe (by omega)
  refine⟨_,(al c.ty).1[fx + j]'(by omega),?_,rfl,cp2 _ (List.getElem_mem _),fun hr=>?_⟩
  ·rw [hbe]
   have:=rU (.ofNat aa - .ofNat fx) ((al c.ty).1.drop fx) 0 j ((al c.ty).1[fx + j]'(by omega)) (by rw [List.getElem?_drop];exact hx0)
   rw [Int.zero_add] at this
   exact this
  ·obtain⟨y,y1,y2⟩:=yc hfr hf hr
   rw [hx0] at y1
   cases y1
   exact y2
 have hmr:ie d fx p u m fs x c aa=eB 6 ((aG fx c.ty aa).1++gk d fx p u m (aG fx c.ty aa).1.length aa ((aG fx c.ty aa).1.zip fs) 0 0) (de (de (bR (.ofNat (fx + x)) (.ofNat (aa + (aG fx c.ty aa).1.length + (gk d fx p u m (aG fx c.ty aa).1.length aa ((aG fx c.ty aa).1.zip fs) 0 0).length))) ((aF (aZ (aG fx c.ty aa).2 0 (.ofNat (gk d fx p u m (aG fx c.ty aa).1.length aa ((aG fx c.ty aa).1.zip fs) 0 0).length))).2.drop fx)) [gS fx p c.name (aa + (aG fx c.ty aa).1.length + (gk d fx p u m (aG fx c.ty aa).1.length aa ((aG fx c.ty aa).1.zip fs) 0 0).length) (db aa (aG fx c.ty aa).1.length (.ofNat (aa + (aG fx c.ty aa).1.length + (gk d fx p u m (aG fx c.ty aa).1.length aa ((aG fx c.ty aa).1.zip fs) 0 0).length)))]):=rfl
 rw [hmr]
 clear hmr
 generalize hB:aG fx c.ty aa=B at *
 have hnl:B.1.length≤12:=by rw [hbn];omega
 have hBf:B.1.length=fs.length:=by rw [hbn,Qm]
 obtain⟨T2,ta,k2,hg2⟩:=SZ (n:=k + 2) (l:=B.1) (tok:=tok) (H:=[]) (T:=T1) (by omega) (by omega) (fun e=>by
  rcases hg.2 with⟨_,h⟩ | ⟨t,_,_,_,h⟩
  ·exact h
  ·exact absurd e h)
 obtain⟨S9,k3,done,ta3,ca3,T3,rfl,hd1,hd2,hg3⟩:=Tb (n:=k + 1) (d:=d) (sh:=sh) (p:=p) (m:=m) (u:=u) (x:=x) (c:=ci) (s:=s) (fs:=fs) (b:=3) (B:=[.loop (oG d sh p m u x aa c B.1 tok B.2 B.1 ta false)]) (T:=T2)
  (P:=fun j S=>∃done ta3 ca3 T3,S=Kl d sh p m u x ci aa c B.1 tok B.2 (B.1++done) ta3 ca3 T3∧done.length≤j∧gk d fx p u m B.1.length aa (B.1.zip fs) 0 0=done++gk d fx p u m B.1.length aa ((B.1.zip fs).drop j) j done.length∧av T1 T3 (B.1++done) ta3)
  hsx hsc (by omega) (by omega) ⟨[],ta,false,T2,by rw [List.append_nil];rfl,Nat.le_refl _,by simp,by rw [List.append_nil];exact hg2⟩
  (fun j f S hf hr ⟨done,ta3,ca3,T3,e1,e2,e3,e4⟩=>by
   subst e1
   obtain⟨t,x0,t1,t2,t3,t4⟩:=yh j f hf
   have hjl:=(aGs hf).1
   have hz:(B.1.zip fs)[j]?=some (t,f):=by rw [List.getElem?_zip_eq_some];exact⟨t1,hf⟩
   rw [Bn d fx p u m B.1.length aa hz] at e3
   simp only [hr,Bool.not_false] at e3
   subst t2
   obtain⟨ta',T',r1,r2⟩:=Km (n:=k + 1) (d:=d) (sh:=sh) (p:=p) (m:=m) (u:=u) (x:=x) (ci:=ci) (aa:=aa) (i:=j) (h:=done.length) (c:=c) (l:=B.1) (all:=B.1++done) (tl:=tok) (ta:=ta3) (ca:=ca3) (e:=B.2) (x0:=x0) (T0:=T1) (T:=T3) hb t3 t1 (t4 hr) (by simp) (by omega) (by omega) h1 h2 hm (by omega) e4
   exact⟨_,r1,done++[kU d fx p u m 6 (aZ (aZ x0 (.ofNat j) (.ofNat aa - .ofNat fx)) 0 (.ofNat (B.1.length - j + done.length))) (aa + j) (aa + B.1.length + done.length)],ta',false,T',by rw [List.append_assoc],by simp;omega,by rw [e3];simp,by rw [← List.append_assoc];exact r2⟩)
  (fun j f S hf hr ⟨done,ta3,ca3,T3,e1,e2,e3,e4⟩=>by
   obtain⟨t,x0,t1,t2,t3,t4⟩:=yh j f hf
   have hz:(B.1.zip fs)[j]?=some (t,f):=by rw [List.getElem?_zip_eq_some];exact⟨t1,hf⟩
   rw [Bn d fx p u m B.1.length aa hz] at e3
   simp only [hr,Bool.not_true] at e3
   exact⟨done,ta3,ca3,T3,e1,by omega,e3,e4⟩)
 rw [List.drop_of_length_le (by rw [List.length_zip];exact Nat.min_le_right _ _),gk,List.append_nil] at hd2
 subst hd2
 generalize hhs:gk d fx p u m B.1.length aa (B.1.zip fs) 0 0=hs at *
 have hhl:hs.length≤12:=by omega
 have hE2:=hE.lift (b:=.ofNat hs.length) (by simp only [aOn];omega) (by simp only [aOn];omega) 0
 have OA:fx≤(aF (aZ B.2 0 (.ofNat hs.length))).2.length:=by
  rw [j7 _ _ (Nat.le_refl _) hE.gd.all _ _ (by omega) (by omega)]
  simpa using Td
 have hrl:=ev aa B.1.length (.ofNat (aa + B.1.length + hs.length))
 have R0:=(ia _ _ (Nat.le_refl _) hE2.gd.all).1
 have hEw:=hE2.gd.le
 have hdl:((aF (aZ B.2 0 (.ofNat hs.length))).2.drop fx).length≤4000000:=by rw [List.length_drop];omega
 have Qn:∀S,Rc (k + 2) (.f 131) [ck d sh p m u,aB B.2,.int .i64 (.ofNat hs.length)] S=some (aB (aZ B.2 0 (.ofNat hs.length)),S):=fun S=>rc (tZ (b:=hs.length) hE (by omega) (by simp only [aOn];omega) (by omega))
 obtain⟨c1,e1,Qo⟩:=OO (n:=k + 2) (sh:=sh) (m:=m) (u:=u) (S:={ heap:=[.cells 69 [ck d sh p m u],.cells 3 [.int .i64 (.ofNat x)],.cells 3 [.int .i64 (.ofNat ci)],.loop { oG d sh p m u x aa c B.1 tok B.2 (B.1++hs) ta3 ca3 with st:=.rk,locs:=[],tmps:=[] }],aA:=T3 }) hb hE2 OA (by omega)
 have OQ:=Tc (n:=k + 2) (d:=d) (sh:=sh) (p:=p) (m:=m) (u:=u) (x:=x) (c:=ci) (T:=T2) (by omega)
 have h:∃v,sI 159 1 Tryz.f159 (Rc (k + 2)) (k + 2) [ck d sh p m u,.int .i64 (.ofNat x),.int .i64 (.ofNat ci),.int .i64 (.ofNat aa)]=some v∧v=aB (eB 6 (B.1++hs) (de (de (bR (.ofNat (fx + x)) (.ofNat (aa + B.1.length + hs.length))) ((aF (aZ B.2 0 (.ofNat hs.length))).2.drop fx)) [gS fx p c.name (aa + B.1.length + hs.length) (db aa B.1.length (.ofNat (aa + B.1.length + hs.length)))])):=by
  refine Dv (id:=159) (m:=1) (fn:=Tryz.f159) ?_
  refine fm.cons (nt:=121) ?_
  refine fm.nil (nt:=121) ?_
  refine⟨_,rfl,?_⟩
  refine ab.mk _ (aL hx) ?_
  refine ab.mk _ (ec hc) ?_
  refine ae.mk _ _ (rc k1) ?_
  refine ae.mk _ _ (rc k2) ?_
  refine ae.mk _ _ (rc OQ) ?_
  refine aD.mk _ _ _ (dR (f:=163) (top:=3) (first:=[]) (cap:=[.ptr (.box 0) 0,.ptr (.box 1) 0,.ptr (.box 2) 0]) (l:=oG d sh p m u x aa c B.1 tok B.2 B.1 ta false) (r:=oG d sh p m u x aa c B.1 tok B.2 (B.1++hs) ta3 ca3) (v:=.tuple []) (by rfl) (by rfl) (rc k3) (by rfl) (.inl rfl)) ?_
  refine ab.mk (.int .i64 (.ofNat (aa + B.1.length + hs.length))) (by rw [ak,aLa,Nat.add_assoc];exact addNat (by omega)) ?_
  refine ab.mk (.int .i64 (.ofNat hs.length)) ?_ ?_
  ·rw [ak,ak,show Int.ofNat hs.length=Int.ofNat (B.1++hs).length - Int.ofNat B.1.length by simp only [aOn,aLa];omega]
   exact mB (by simp only [aOn,aLa];omega) (by simp only [aOn,aLa];omega)
  refine ae.mk _ _ (Qn _) ?_
  refine ae.mk _ _ (rc Qo) ?_
  refine ae.mk _ _ (by rw [ak];exact rc (Bb (n:=k + 2) (from_:=aa) (m:=B.1.length) (r:=.ofNat (aa + B.1.length + hs.length)) (by omega) (by omega) (bdN (by omega)))) ?_
  refine ae.mk _ _ (rc (Mt (n:=k + 2) (name:=c.name) (aa:=aa + B.1.length + hs.length) hb (by omega) (by rw [hrl];omega) (by rw [hrl];omega))) ?_
  refine ab.mk (.int .i64 (.ofNat (fx + x))) (by rw [hfx];exact addNat (by omega)) ?_
  refine ae.mk _ _ (rc (Dh (by omega) (bdN (by omega)) (bdN (by omega)))) ?_
  refine ae.mk _ _ (rc (rS (by omega) (by omega))) ?_
  refine ab.mk _ (bs1 _ 23 _ _ _ rfl) ?_
  refine ae.mk _ _ (rc (rS (by simp only [aLc,List.length_nil];omega) (by simp only [aLc,List.length_nil];omega))) ?_
  refine ae.mk _ _ (rc (EY (by rw [aLa];omega) (by rw [aLa];omega))) ?_
  refine⟨_,rfl,?_⟩
  exact eO _
 obtain⟨v,h1,rfl⟩:=h
 exact h1
theorem Tf {x ci aa:Nat} {i:In} {c:Ct} {s:Sh} {fs:List (Int×Int)} (hb:rZ d fx p) (hx:d.aj[x]?=some i) (hc:i.cs[ci]?=some c) (hsx:sh[x]?=some s) (hsc:s.fields[ci]?=some fs) (hfr:cd d fx c.ty=some fs)
 (h12:(al c.ty).1.length≤fx + 12) (hfl:fx≤(al c.ty).1.length) (hsp:fx≤(aF (al c.ty).2).2.length) (h1:fx≤aa) (h2:aa≤1000) (hm:m≤1000) (hn:4030000≤n) :
 RN n (.f 159) [ck d sh p m u,.int .i64 (.ofNat x),.int .i64 (.ofNat ci),.int .i64 (.ofNat aa)] S=some (aB (ie d fx p u m fs x c aa),S):=
 ue rfl rfl rfl rfl (by simp only [cJ,bf,an]) (Ql hb hx hc hsx hsc hfr h12 hfl hsp h1 h2 hm hn)
end
section
variable {n:Nat} {d:Dl} {sh:List Sh} {m:Nat} {u:Lv} {fx p:Nat} {S:St}
theorem h20 {T:List Nat} (hn:1≤n):RN n (.f 20) [ck d sh p m u] { heap:=[],aA:=T }=some (.fn 60 1 [] [.ptr (.box 0) 0],{ heap:=[.cells 69 [ck d sh p m u]],aA:=T }):=by
 obtain⟨q,rfl⟩:=up hn
 refine bw rfl ?_
 kernel_rfl
theorem Tg {T:List Nat} (hn:1≤n):RN n (.f 20) [.ptr (.box 0) 0] { heap:=[.cells 72 (oF d sh p m u)],aA:=T }=some (.fn 60 2 [] [.ptr (.box 1) 0],{ heap:=[.cells 72 (oF d sh p m u),.cells 69 [.ptr (.box 0) 0]],aA:=T }):=by
 obtain⟨q,rfl⟩:=up hn
 refine bw rfl ?_
 kernel_rfl
theorem h60 {B:List Blk} {T:List Nat} {b:Nat} {P:Nat→Nat→St→Prop} {Q:St→Prop} (hl:d.aj.length < n) (hcs:∀i∈d.aj,i.cs.length < n) (hn:SmD d) (h0:P 0 0 { heap:=.cells 69 [ck d sh p m u]::B,aA:=T })
 (hy:∀j x i S,d.aj[j]?=some x→i < x.cs.length→P j i S→(∃S',RN n (.y b) [.int .i64 (.ofNat j),.int .i64 (.ofNat i)] S=some (.bool true,S')∧P j (i + 1) S')∨(∃S',RN n (.y b) [.int .i64 (.ofNat j),.int .i64 (.ofNat i)] S=some (.bool false,S')∧Q S'))
 (hz:∀j x S,d.aj[j]?=some x→P j x.cs.length S→P (j + 1) 0 S) :
 ∃S',RN (n + 1) (.f 60) [.yield b,.ptr (.box 0) 0] { heap:=.cells 69 [ck d sh p m u]::B,aA:=T }=some (.tuple [],S')∧(P d.aj.length 0 S'∨Q S'):=by
 have h:∃r,frame Tryz.cfg (RN n) n 60 [.yield b,.ptr (.box 0) 0] { heap:=.cells 69 [ck d sh p m u]::B,aA:=T }=some r∧∃S',r=(.tuple [],S')∧(P d.aj.length 0 S'∨Q S'):=by
  refine aU (fn:=Tryz.f60) (p:=fun r=>∃S',r=(.tuple [],S')∧(P d.aj.length 0 S'∨Q S')) rfl rfl ?_
  refine aD.loop 30 (σ:=Option In×St) d.aj.length (fun j s=>{ nt:=30,tmps:=[(0,.yield b),(10,.list 7 .no 0 (d.aj.map encI)),(11,.int .i64 (.ofNat (aH (d.aj.map encI)))),(12,.int .i64 (.ofNat j))],locs:=(match s.1 with | none=>[] | some x=>[(4,fe x)]),fix:=[] })
   (fun _ s=>s.2) (fun j s=>P j 0 s.2) (none,{ heap:=.cells 69 [ck d sh p m u]::B,aA:=T }) (by omega) h0 ?_ ?_
  ·rintro j ⟨o,S1⟩ hj (hp:P j 0 S1)
   obtain⟨x,hx⟩ : ∃x,d.aj[j]?=some x:=⟨_,aGe hj⟩
   have hxl:=hcs x (aMg hx)
   have hn1:=hn.1
   have OF:=hn.2 x (aMg hx)
   rcases o with _ | x0
   all_goals
    refine ah.yes (ltM hj) ?_
    refine ab.mk _ (aL hx) ?_
    refine aD.loop 30 (σ:=St) x.cs.length (fun i s=>{ nt:=30,tmps:=[(0,.yield b),(3,.int .i64 (.ofNat j)),(10,.list 7 .no 0 (d.aj.map encI)),(11,.int .i64 (.ofNat (aH (d.aj.map encI)))),(12,.int .i64 (.ofNat j)),(19,.int .i64 (.ofNat (aH (x.cs.map fO)))),(20,.int .i64 (.ofNat i))],locs:=[(4,fe x)],fix:=[] })
     (fun _ s=>s) (fun i s=>P j i s) S1 (by omega) hp ?_ ?_
    ·rintro i S2 hi hp2
     refine ah.yes (ltM hi) ?_
     rcases hy j x i S2 hx hi hp2 with⟨S',k1,k2⟩ | ⟨S',k1,k2⟩
     ·refine ae.mk _ _ k1 ?_
      refine ab.mk _ (az (by omega)) ?_
      exact⟨S',k2,rfl,rfl⟩
     ·refine ae.mk _ _ k1 ?_
      exact⟨_,rfl,S',rfl,.inr k2⟩
    ·rintro S2 hp2
     have hp3:=hz j x S2 hx hp2
     refine ah.no (geM (by omega)) ?_
     refine ab.mk _ (az (by omega)) ?_
     exact⟨(some x,S2),hp3,rfl,rfl⟩
  ·rintro⟨o,S1⟩ (hp:P d.aj.length 0 S1)
   rcases o with _ | x0
   all_goals
    refine ah.no (geM (by omega)) ?_
    exact⟨_,rfl,S1,rfl,.inl hp⟩
 obtain⟨r,h1,S',rfl,h2⟩:=h
 exact⟨S',bw rfl h1,h2⟩
theorem Th {B:List Blk} {T:List Nat} {b:Nat} {P:Nat→Nat→St→Prop} {Q:St→Prop} (hl:d.aj.length < n) (hcs:∀i∈d.aj,i.cs.length < n) (hn:SmD d) (h0:P 0 0 { heap:=.cells 72 (oF d sh p m u)::.cells 69 [.ptr (.box 0) 0]::B,aA:=T })
 (hy:∀j x i S,d.aj[j]?=some x→i < x.cs.length→P j i S→(∃S',RN n (.y b) [.int .i64 (.ofNat j),.int .i64 (.ofNat i)] S=some (.bool true,S')∧P j (i + 1) S')∨(∃S',RN n (.y b) [.int .i64 (.ofNat j),.int .i64 (.ofNat i)] S=some (.bool false,S')∧Q S'))
 (hz:∀j x S,d.aj[j]?=some x→P j x.cs.length S→P (j + 1) 0 S) :
 ∃S',RN (n + 1) (.f 60) [.yield b,.ptr (.box 1) 0] { heap:=.cells 72 (oF d sh p m u)::.cells 69 [.ptr (.box 0) 0]::B,aA:=T }=some (.tuple [],S')∧(P d.aj.length 0 S'∨Q S'):=by
 have h:∃r,frame Tryz.cfg (RN n) n 60 [.yield b,.ptr (.box 1) 0] { heap:=.cells 72 (oF d sh p m u)::.cells 69 [.ptr (.box 0) 0]::B,aA:=T }=some r∧∃S',r=(.tuple [],S')∧(P d.aj.length 0 S'∨Q S'):=by
  refine aU (fn:=Tryz.f60) (p:=fun r=>∃S',r=(.tuple [],S')∧(P d.aj.length 0 S'∨Q S')) rfl rfl ?_
  refine aD.loop 30 (σ:=Option In×St) d.aj.length (fun j s=>{ nt:=30,tmps:=[(0,.yield b),(10,.list 7 .no 0 (d.aj.map encI)),(11,.int .i64 (.ofNat (aH (d.aj.map encI)))),(12,.int .i64 (.ofNat j))],locs:=(match s.1 with | none=>[] | some x=>[(4,fe x)]),fix:=[] })
   (fun _ s=>s.2) (fun j s=>P j 0 s.2) (none,{ heap:=.cells 72 (oF d sh p m u)::.cells 69 [.ptr (.box 0) 0]::B,aA:=T }) (by omega) h0 ?_ ?_
  ·rintro j ⟨o,S1⟩ hj (hp:P j 0 S1)
   obtain⟨x,hx⟩ : ∃x,d.aj[j]?=some x:=⟨_,aGe hj⟩
   have hxl:=hcs x (aMg hx)
   have hn1:=hn.1
   have OF:=hn.2 x (aMg hx)
   rcases o with _ | x0
   all_goals
    refine ah.yes (ltM hj) ?_
    refine ab.mk _ (aL hx) ?_
    refine aD.loop 30 (σ:=St) x.cs.length (fun i s=>{ nt:=30,tmps:=[(0,.yield b),(3,.int .i64 (.ofNat j)),(10,.list 7 .no 0 (d.aj.map encI)),(11,.int .i64 (.ofNat (aH (d.aj.map encI)))),(12,.int .i64 (.ofNat j)),(19,.int .i64 (.ofNat (aH (x.cs.map fO)))),(20,.int .i64 (.ofNat i))],locs:=[(4,fe x)],fix:=[] })
     (fun _ s=>s) (fun i s=>P j i s) S1 (by omega) hp ?_ ?_
    ·rintro i S2 hi hp2
     refine ah.yes (ltM hi) ?_
     rcases hy j x i S2 hx hi hp2 with⟨S',k1,k2⟩ | ⟨S',k1,k2⟩
     ·refine ae.mk _ _ k1 ?_
      refine ab.mk _ (az (by omega)) ?_
      exact⟨S',k2,rfl,rfl⟩
     ·refine ae.mk _ _ k1 ?_
      exact⟨_,rfl,S',rfl,.inr k2⟩
    ·rintro S2 hp2
     have hp3:=hz j x S2 hx hp2
     refine ah.no (geM (by omega)) ?_
     refine ab.mk _ (az (by omega)) ?_
     exact⟨(some x,S2),hp3,rfl,rfl⟩
  ·rintro⟨o,S1⟩ (hp:P d.aj.length 0 S1)
   rcases o with _ | x0
   all_goals
    refine ah.no (geM (by omega)) ?_
    exact⟨_,rfl,S1,rfl,.inl hp⟩
 obtain⟨r,h1,S',rfl,h2⟩:=h
 exact⟨S',bw rfl h1,h2⟩
end
theorem tv {d:Dl} {fx x ci:Nat} {sh:List Sh} {i:In} {c:Ct} {s:Sh} {fs:List (Int×Int)} (h:gR d fx=some sh) (hx:d.aj[x]?=some i) (hc:i.cs[ci]?=some c) (hsx:sh[x]?=some s) (hsc:s.fields[ci]?=some fs):cd d fx c.ty=some fs:=by
 obtain⟨s',e1,e2⟩:=lK h hx
 rw [hsx] at e1;cases e1
 unfold iX at e2
 cases hq:bO (fun c:Ct=>cd d fx c.ty) i.cs with
 | none=>rw [hq] at e2;cases e2
 | some l=>
  rw [hq] at e2
  cases e2
  obtain⟨fs',f1,f2⟩:=lK hq hc
  have h3:l[ci]?=some fs:=hsc
  rw [h3] at f1;cases f1
  exact f2
noncomputable def OR (d:Dl) (j:Nat):List Ct:=((d.aj[j]?).map (·.cs)).getD []
theorem Bv {d:Dl} {j:Nat} {x:In} (h:d.aj[j]?=some x):OR d j=x.cs:=by unfold OR;rw [h];rfl
section
variable {n:Nat} {d:Dl} {sh:List Sh} {m:Nat} {u:Lv} {fx p:Nat} {T:List Nat} {S:St}
noncomputable def r5 (d:Dl) (sh:List Sh) (p m:Nat) (u:Lv) (e:Tm) (l:List Tm) (tok:Tok) (ca:Bool):dD:={ fid:=119,nt:=65,tmps:=[(1,.ptr (.loc 1) 0),(2,.ptr (.loc 2) 0),(50,.fn 60 1 [] [.ptr (.box 0) 0])],locs:=[(1,[ck d sh p m u]),(2,[.list (ao ca l) tok 0 (ag l)]),(4,aC e)],params:=[51,52],assign:=ma Tryz.f119,body:=mb Tryz.f119,st:=.ready,jj:=none }
noncomputable def Ko (d:Dl) (sh:List Sh) (p m:Nat) (u:Lv) (e:Tm) (l:List Tm) (tok:Tok) (ca:Bool) (T:List Nat):St:={ heap:=[.cells 69 [ck d sh p m u],.loop (r5 d sh p m u e l tok ca)],aA:=T }
theorem Kp {x ci:Nat} {i:In} {c:Ct} {s:Sh} {fs:List (Int×Int)} {l:List Tm} {tok:Tok} {ca:Bool} {e:Tm} {T0:List Nat} (hb:rZ d fx p) (hx:d.aj[x]?=some i) (hc:i.cs[ci]?=some c) (hsx:sh[x]?=some s) (hsc:s.fields[ci]?=some fs) (hfr:cd d fx c.ty=some fs)
 (h12:(al c.ty).1.length≤fx + 12) (hfl:fx≤(al c.ty).1.length) (hsp:fx≤(aF (al c.ty).2).2.length) (h1:fx≤l.length) (h2:l.length≤1000) (hm:m≤1000) (hn:4030010≤n) (hg:av T0 T l tok) :
 ∃aV T',RN n (.y 1) [.int .i64 (.ofNat x),.int .i64 (.ofNat ci)] (Ko d sh p m u e l tok ca T)=some (.bool true,Ko d sh p m u e (l++[ie d fx p u m fs x c l.length]) aV false T')∧av T0 T' (l++[ie d fx p u m fs x c l.length]) aV:=by
 obtain⟨q,rfl⟩:=up (show 1≤n by omega)
 have k1:=Tf (n:=q) (d:=d) (sh:=sh) (p:=p) (m:=m) (u:=u) (aa:=l.length) (S:={ heap:=[.cells 69 [ck d sh p m u],.loop { r5 d sh p m u e l tok ca with st:=.busy,locs:=[] }],aA:=T }) hb hx hc hsx hsc hfr h12 hfl hsp h1 h2 hm (by omega)
 generalize hy:ie d fx p u m fs x c l.length=y at *
 obtain⟨T',aV,g1,g2⟩:=xX (H:=[.cells 69 [ck d sh p m u],.loop { r5 d sh p m u e l tok ca with st:=.busy,locs:=[] }]) (t:=y) (c0:=ca) (by omega) hg
 refine⟨aV,T',?_,g2⟩
 refine fU ?_
 refine fH (r:=r5 d sh p m u e l tok ca) (nt:=65) (fx:=[1,2,4]) rfl rfl rfl rfl rfl rfl rfl ?_
 refine ae.mk _ _ (by rw [ak];exact k1) ?_
 refine ab.mk _ rfl ?_
 refine AM.mk _ _ (inT (t:=y) rfl rfl rfl rfl rfl rfl rfl g1 rfl) ?_
 conv=>whnf
 rfl
theorem OS (hb:rZ d fx p) (hs:Dt d sh fx) (hsh:gR d fx=some sh) (h0:d.aj[0]?=some (in0 d)) (hm:m≤1000) (hn:4050000≤n) :
 ∃c' T' tok bl,RN n (.f 119) [ck d sh p m u] { heap:=[],aA:=T }=some (.list (ao c' (aK d sh fx p u m)) tok 0 (ag (aK d sh fx p u m)),{ heap:=[.cells 69 [ck d sh p m u],bl],aA:=T' })∧av T T' (aK d sh fx p u m) tok:=by
 obtain⟨q,rfl⟩:=up (show 3≤n by omega)
 have gQ:=hb.bk.dl.few
 have hfx:=hb.bk.hfx
 have kT:=hb.bk.f12
 obtain⟨g1,g2,g3⟩:=hb.bk.gd (in0 d) (aMg h0)
 obtain⟨q0,k1,T1,tok,rfl,hg⟩:=h56 (n:=q + 2) (x:=(in0 d).ty) (H:=[]) (T:=T) g1.all (by have:=g1.le;omega) (by have:=g1.le;omega)
 obtain⟨c',JR,hsl⟩:=mr (LT:=23) (c:=false) (tok:=tok) (m:=fx) rfl g2
 rw [← hfx] at hsl
 have hfl:=qD hb.bk h0
 obtain⟨c1,T2,bg,a1,a2⟩:=dC (LT:=157) (c0:=false) (c:=c') (bg:=JR) (H:=[]) (T0:=T) (T:=T1) (done:=[]) (new:=kV d fx) (tok:=.tight) rfl (by rw [hfl];simp only [List.length_nil];omega) ⟨hg.1,.inl ⟨rfl,rfl⟩⟩
 rw [List.nil_append] at a1 a2
 have h:∃r,frame Tryz.cfg (RN (q + 2)) (q + 2) 119 [ck d sh p m u] { heap:=[],aA:=T }=some r∧∃c' T' tok bl,r=(.list (ao c' (aK d sh fx p u m)) tok 0 (ag (aK d sh fx p u m)),{ heap:=[.cells 69 [ck d sh p m u],bl],aA:=T' })∧av T T' (aK d sh fx p u m) tok:=by
  refine aU (fn:=Tryz.f119) (p:=fun r=>∃c' T' tok bl,r=(.list (ao c' (aK d sh fx p u m)) tok 0 (ag (aK d sh fx p u m)),{ heap:=[.cells 69 [ck d sh p m u],bl],aA:=T' })∧av T T' (aK d sh fx p u m) tok) rfl rfl ?_
  refine ab.mk _ (show indexAddr Tryz.cfg 26 (.list 7 .no 0 (d.aj.map encI)) (.int .i64 (.ofNat 0))=_ from aL h0) ?_
  refine ae.mk _ _ k1 ?_
  refine ab.mk _ hsl ?_
  refine cj.mk _ _ (a1 _ _ rfl) ?_
  refine aD.loop 65 (σ:=List Tm×Bool×Tok×List Nat) d.aj.length (fun j s=>{ nt:=65,tmps:=[(1,.ptr (.loc 1) 0),(2,.ptr (.loc 2) 0),(34,.int .i64 (.ofNat (aH (d.aj.map encI)))),(35,.int .i64 (.ofNat j))],locs:=[(1,[ck d sh p m u]),(2,[.list (ao s.2.1 s.1) s.2.2.1 0 (ag s.1)]),(4,aC (al (in0 d).ty).2)],fix:=[] })
   (fun _ s=>{ heap:=[],aA:=s.2.2.2 }) (fun j s=>s.1=kV d fx++((d.aj.zipIdx 0).take j).map (fun q=>fR fx p u q.1 (fx + q.2))∧av T s.2.2.2 s.1 s.2.2.1) (kV d fx,c1,bg,T2) (by omega) ⟨by simp,a2⟩ ?_ ?_
  ·rintro j ⟨l,fl,eU,T3⟩ hj ⟨(hl:l=_),(hg3:av T T3 l eU)⟩
   obtain⟨x,hx⟩ : ∃x,d.aj[j]?=some x:=⟨_,aGe hj⟩
   obtain⟨x1,x2,_⟩:=hb.bk.gd x (aMg hx)
   have hll:l.length=fx + j:=by
    rw [hl]
    simp only [aLa,aLm,List.length_take,List.length_zipIdx,hfl]
    omega
   have hbn:=iK (aa:=fx + j) x1 (by omega) x2
   have h12:=(hs.at_ j x hx).1
   have Qp:=SW (n:=q + 2) (d:=d) (sh:=sh) (p:=p) (m:=m) (u:=u) (S:={ heap:=[],aA:=T3 }) (aa:=l.length) hb hx (by omega) (by omega) (by rw [hll,hbn];omega) (by omega)
   obtain⟨T4,qN,b1,b2⟩:=xX (H:=[]) (t:=fR fx p u x l.length) (c0:=fl) (by omega) hg3
   refine ah.yes (ltM hj) ?_
   refine ae.mk _ _ (by rw [ak];exact Qp) ?_
   refine ab.mk _ rfl ?_
   refine AM.mk _ _ (inT (t:=fR fx p u x l.length) rfl rfl rfl rfl rfl rfl rfl b1 rfl) ?_
   refine ab.mk _ (az (by omega)) ?_
   exact⟨(l++[fR fx p u x l.length],false,qN,T4),⟨by show l++_=_;rw [map_take _ _ _ _ (qE hx),hll,← List.append_assoc,← hl],b2⟩,rfl,rfl⟩
  ·rintro⟨l,fl,eU,T3⟩ ⟨(hl:l=_),(hg3:av T T3 l eU)⟩
   rw [List.take_of_length_le (by simp)] at hl
   have hl' : l=kV d fx++xR d fx p u:=hl
   have hll:l.length=fx + d.aj.length:=by
    rw [hl']
    unfold xR
    simp only [aLa,aLm,List.length_zipIdx,hfl]
   obtain⟨S1,e1,e2⟩:=h60 (n:=q + 1) (d:=d) (sh:=sh) (p:=p) (m:=m) (u:=u) (b:=1) (B:=[.loop (r5 d sh p m u (al (in0 d).ty).2 l eU fl)]) (T:=T3)
    (P:=fun j i S=>∃l1 l2 fl2 cA T5,S=Ko d sh p m u (al (in0 d).ty).2 l2 cA fl2 T5∧aK d sh fx p u m=l1++lg d sh fx p u m ((d.aj.zipIdx 0).drop j) l1.length∧(l1.length≤22 + 20 * j∧fx + d.aj.length≤l1.length)∧l2=l1++(((OR d j).zipIdx 0).take i).map (fun q=>ie d fx p u m (fsR sh j q.2) j q.1 (l1.length + q.2))∧av T T5 l2 cA)
    (Q:=fun _=>False) (by omega) (fun i hi=>by have:=hb.bk.nm.cs i hi;omega) hb.bk.nm.smD
    ⟨l,l,fl,eU,T3,rfl,by rw [hll,hl'];rfl,⟨by omega,by omega⟩,by simp,hg3⟩
    (fun j x i S hx hi ⟨l1,l2,fl2,cA,T5,s1,s2,⟨s3,s4⟩,s5,s6⟩=>by
     subst s1
     have hxc:=hb.bk.nm.cs x (aMg hx)
     have hjl:=(aGs hx).1
     obtain⟨_,s,hsx,R3,hsf⟩:=hs.at_ j x hx
     obtain⟨c,hc⟩ : ∃c,x.cs[i]?=some c:=⟨_,aGe hi⟩
     obtain⟨fs,f1,f2,f3,f4⟩:=hsf i c hc
     rw [Bv hx] at s5
     have Fe:l2.length=l1.length + i:=by
      rw [s5]
      simp only [aLa,aLm,List.length_take,List.length_zipIdx]
      omega
     have hcg:=((hb.bk.gd x (aMg hx)).2.2 c (aMg hc)).2
     obtain⟨JZ,T6,r1,r2⟩:=Kp (n:=q + 1) (d:=d) (sh:=sh) (p:=p) (m:=m) (u:=u) (e:=(al (in0 d).ty).2) (l:=l2) (tok:=cA) (ca:=fl2) (T0:=T) (T:=T5) hb hx hc hsx f1 (tv hsh hx hc hsx f1) f3 hcg f4 (by omega) (by omega) hm (by omega) s6
     exact .inl ⟨_,r1,l1,_,false,JZ,T6,rfl,s2,⟨s3,s4⟩,by rw [Bv hx,map_take _ _ _ _ (Bo hc),td hsx f1,Fe,← List.append_assoc,← s5],r2⟩)
    (fun j x S hx ⟨l1,l2,fl2,cA,T5,s1,s2,⟨s3,s4⟩,s5,s6⟩=>by
     have hxc:=hb.bk.nm.cs x (aMg hx)
     rw [Bv hx,List.take_of_length_le (by simp)] at s5
     have s5' : l2=l1++xQ d sh fx p u m j x l1.length:=s5
     have Fe:l2.length=l1.length + x.cs.length:=by rw [s5',aLa,ud]
     rw [GO d sh fx p u m (qE hx)] at s2
     exact⟨l2,l2,fl2,cA,T5,s1,by rw [Fe,s2,s5'];simp,⟨by omega,by omega⟩,by simp,s6⟩)
   obtain⟨l1,l2,fl2,cA,T5,s1,s2,⟨s3,s4⟩,s5,s6⟩:=e2.elim id False.elim
   subst s1
   rw [List.drop_of_length_le (by simp),lg,List.append_nil] at s2
   rw [List.take_zero,List.map_nil,List.append_nil] at s5
   subst s5
   subst s2
   refine ah.no (geM (by omega)) ?_
   refine ae.mk _ _ (h20 (by omega)) ?_
   refine aD.mk _ _ _ (dR (f:=60) (top:=1) (first:=[]) (cap:=[.ptr (.box 0) 0]) (l:=r5 d sh p m u (al (in0 d).ty).2 l eU fl) (r:=r5 d sh p m u (al (in0 d).ty).2 (aK d sh fx p u m) cA fl2) (v:=.tuple []) (by rfl) (by rfl) e1 (by rfl) (.inl rfl)) ?_
   exact⟨_,rfl,fl2,T5,cA,_,rfl,s6⟩
 obtain⟨r,k6,c2,T',aV,bl,rfl,h2⟩:=h
 exact⟨c2,T',aV,bl,bw rfl k6,h2⟩
end
theorem Kq (a k:Nat) (r:Int):db a (k + 1) r=db a k r++[bR (.ofNat (a + k)) r]:=by
 unfold db
 rw [List.range_succ,List.map_append];rfl
structure ui (d:Dl) (sh:List Sh) (fx p m:Nat):Prop where
 q:rZ d fx p
 so:Dt d sh fx
 sh:gR d fx=some sh
 h0:d.aj[0]?=some (in0 d)
 m:m≤1000
section
variable {n:Nat} {d:Dl} {sh:List Sh} {m:Nat} {u:Lv} {fx p:Nat} {T:List Nat} {S:St}
theorem h61 {x:Nat} {i:In} (hb:ui d sh fx p m) (hx:d.aj[x]?=some i) (hn:4060000≤n) :
 RN n (.f 61) [ck d sh p m u,.int .i64 (.ofNat x)] S=some (aB (dc d sh fx p u m x i),S):=by
 obtain⟨q,rfl⟩:=up (show 1≤n by omega)
 have gQ:=hb.q.bk.dl.few
 have hfx:=hb.q.bk.hfx
 have kT:=hb.q.bk.f12
 have hxl:x < d.aj.length:=(aGs hx).1
 obtain⟨g1,g2,_⟩:=hb.q.bk.gd i (aMg hx)
 have gm:=(hb.q.my i (aMg hx)).1
 have h12:=(hb.so.at_ x i hx).1
 have hle:=kJ (sh:=sh) (u:=u) (m:=m) hb.q.bk hb.h0
 have hfa:=nE (sh:=sh) (u:=u) (m:=m) hb.h0 hb.q.bk
 obtain⟨c1,T1,cR,bl,k1,hg1⟩:=OS (n:=q) (u:=u) (T:=[]) hb.q hb.so hb.sh hb.h0 hb.m (by omega)
 have hbn:=iK (aa:=(aK d sh fx p u m).length) g1 (by omega) g2
 obtain⟨q0,k2,T2,bg,rfl,hg2⟩:=Ms (n:=q) (sh:=sh) (m:=m) (u:=u) (H:=[.cells 69 [ck d sh p m u],bl]) (T:=T1) (aa:=(aK d sh fx p u m).length) hb.q gm g2 hfa (by omega) (by omega)
 have htl:uZ d sh fx p u m i=aK d sh fx p u m++(aG fx i.ty (aK d sh fx p u m).length).1++[gS fx p i.name (aK d sh fx p u m++(aG fx i.ty (aK d sh fx p u m).length).1).length (db (aK d sh fx p u m).length (aG fx i.ty (aK d sh fx p u m).length).1.length (.ofNat (aK d sh fx p u m++(aG fx i.ty (aK d sh fx p u m).length).1).length))]:=rfl
 have htr:dc d sh fx p u m x i=eB 6 (uZ d sh fx p u m i) (de (bR (.ofNat (fx + x)) (.ofNat ((aK d sh fx p u m++(aG fx i.ty (aK d sh fx p u m).length).1).length + 1))) (db (aK d sh fx p u m).length (aG fx i.ty (aK d sh fx p u m).length).1.length (.ofNat ((aK d sh fx p u m++(aG fx i.ty (aK d sh fx p u m).length).1).length + 1))++[bR (.ofNat (aK d sh fx p u m++(aG fx i.ty (aK d sh fx p u m).length).1).length) (.ofNat ((aK d sh fx p u m++(aG fx i.ty (aK d sh fx p u m).length).1).length + 1))])):=rfl
 generalize hA:aK d sh fx p u m=A at *
 generalize hI:(aG fx i.ty A.length).1=I at *
 have hil:I.length≤12:=by omega
 have hl1:(A++I).length=A.length + I.length:=aLa
 obtain⟨c3,T3,eU,a1,a2⟩:=dC (LT:=157) (c0:=c1) (c:=false) (bg:=bg) (H:=[.cells 69 [ck d sh p m u],bl]) (T0:=[]) (T:=T2) (done:=A) (new:=I) (tok:=cR) rfl (by omega) (hg1.ext hg2.1)
 have k4:=Bb (n:=q) (from_:=A.length) (m:=I.length) (r:=.ofNat (A++I).length) (S:={ heap:=[.cells 69 [ck d sh p m u],bl],aA:=T3 }) (by omega) (by omega) (bdN (by omega))
 have hrl:=ev A.length I.length (.ofNat (A++I).length)
 have k5:=Mt (n:=q) (sh:=sh) (m:=m) (u:=u) (S:={ heap:=[.cells 69 [ck d sh p m u],bl],aA:=T3 }) (name:=i.name) (aa:=(A++I).length) (c:=false) (tok:=aw (db A.length I.length (.ofNat (A++I).length)).isEmpty) (l:=db A.length I.length (.ofNat (A++I).length)) hb.q (by omega) (by rw [hrl];omega) (by rw [hrl];omega)
 obtain⟨c6,T6,JZ,b1,b2⟩:=dC (LT:=157) (c0:=c3) (c:=false) (bg:=.tight) (H:=[.cells 69 [ck d sh p m u],bl]) (T0:=[]) (T:=T3) (done:=A++I) (new:=[gS fx p i.name (A++I).length (db A.length I.length (.ofNat (A++I).length))]) (tok:=eU) rfl (by simp only [aLc,List.length_nil];omega) a2
 rw [← htl] at b1 b2
 have hlt:(uZ d sh fx p u m i).length=(A++I).length + 1:=by rw [htl,aLa];rfl
 have k7:=Bb (n:=q) (from_:=A.length) (m:=I.length + 1) (r:=.ofNat ((A++I).length + 1)) (S:={ heap:=[.cells 69 [ck d sh p m u],bl],aA:=T6 }) (by omega) (by omega) (bdN (by omega))
 rw [Kq,← hl1] at k7
 have H4:=ev A.length I.length (.ofNat ((A++I).length + 1))
 have h:∃r,frame Tryz.cfg (RN q) q 61 [ck d sh p m u,.int .i64 (.ofNat x)] St.empty=some r∧∃S',r=(aB (dc d sh fx p u m x i),S'):=by
  refine aU (fn:=Tryz.f61) (p:=fun r=>∃S',r=(aB (dc d sh fx p u m x i),S')) rfl rfl ?_
  refine ae.mk _ _ k1 ?_
  refine ab.mk _ (aL hx) ?_
  refine ae.mk _ _ (by rw [ak];exact k2) ?_
  refine cj.mk _ _ (a1 _ _ rfl) ?_
  refine ab.mk _ (aL hx) ?_
  refine ae.mk _ _ (by rw [ak,ak,ak];exact k4) ?_
  refine ae.mk _ _ (by rw [ak];exact k5) ?_
  refine ab.mk _ (bs1 _ 157 _ _ _ rfl) ?_
  refine cj.mk _ _ (b1 _ _ rfl) ?_
  refine ab.mk (.int .i64 (.ofNat (fx + x))) (by rw [hfx];exact addNat (by omega)) ?_
  refine ae.mk _ _ (by rw [ak,hlt];exact Dh (by omega) (bdN (by omega)) (bdN (by omega))) ?_
  refine ab.mk (.int .i64 (.ofNat (I.length + 1))) (by rw [ak];exact az (by omega)) ?_
  refine ae.mk _ _ (by rw [ak,ak,hlt];exact k7) ?_
  refine ae.mk _ _ (rS (by rw [aLa,H4];simp only [aLc,List.length_nil];omega) (by rw [aLa,H4];simp only [aLc,List.length_nil];omega)) ?_
  refine ae.mk _ _ (EY (by omega) (by omega)) ?_
  refine⟨_,rfl,?_⟩
  rw [htr]
  exact⟨_,rfl⟩
 obtain⟨r,k6,S',rfl⟩:=h
 exact dZ k6 (by simp only [cJ,bf,an]) rfl rfl
noncomputable def yi (x c k:Nat) (st:RSt) (pe:Option Ex):dD:={ fid:=128,nt:=24,tmps:=[(4,.ptr (.loc 4) 0),(5,.ptr (.loc 5) 0),(6,.ptr (.loc 6) 0),(10,.fn 60 1 [] [.ptr (.box 0) 0])],locs:=[(4,[.int .i64 (.ofNat x)]),(5,[.int .i64 (.ofNat c)]),(6,[.int .i64 (.ofNat k)])],params:=[11,12],assign:=ma Tryz.f128,body:=mb Tryz.f128,st:=st,jj:=pe }
noncomputable def zS (d:Dl) (sh:List Sh) (p m:Nat) (u:Lv) (x c k:Nat) (st:RSt) (pe:Option Ex):St:={ heap:=[.cells 69 [ck d sh p m u],.loop (yi x c k st pe)],aA:=[] }
theorem Kr {x c k j i:Nat} (hk:k≤100000) (hn:2≤n) :
 RN n (.y 1) [.int .i64 (.ofNat j),.int .i64 (.ofNat i)] (zS d sh p m u x c k .ready none)=some (.bool (!(iEq (.ofNat j) (.ofNat x) && iEq (.ofNat i) (.ofNat c))),match iEq (.ofNat j) (.ofNat x) && iEq (.ofNat i) (.ofNat c) with | false=>zS d sh p m u x c (k + 1) .ready none | true=>zS d sh p m u x c k .done (some (.exit 0))):=by
 obtain⟨q,rfl⟩:=up (show 1≤n by omega)
 refine fU ?_
 refine fH (r:=yi x c k .ready none) (nt:=24) (fx:=[4,5,6]) rfl rfl rfl rfl rfl rfl rfl ?_
 refine ah.mk (fun h1=>?_) (fun h1=>?_)
 ·rw [h1]
  refine ah.mk (fun h2=>?_) (fun h2=>?_)
  ·rw [h2];rfl
  ·rw [h2]
   refine ab.mk _ (az (by omega)) ?_
   rfl
 ·rw [h1]
  refine ab.mk _ (az (by omega)) ?_
  rfl
theorem Ti {x ci:Nat} {i:In} (hb:ui d sh fx p m) (hx:d.aj[x]?=some i) (hc:ci < i.cs.length) (hn:2000≤n) :
 RN n (.f 128) [ck d sh p m u,.int .i64 (.ofNat x),.int .i64 (.ofNat ci)] S=some (.int .i64 (.ofNat (ew d x ci)),S):=by
 obtain⟨q,rfl⟩:=up (show 3≤n by omega)
 have gQ:=hb.q.bk.dl.few
 have hxl:=(aGs hx).1
 have sj:∀j,((d.aj.take j).map fun i=>i.cs.length).sum≤200:=fun j=>by
  have h1:=mv hb.q.bk.nm.cs j
  have:d.aj.length * 20≤10 * 20:=Nat.mul_le_mul (by omega) (by omega)
  omega
 obtain⟨S1,e1,e2⟩:=h60 (n:=q + 1) (d:=d) (sh:=sh) (p:=p) (m:=m) (u:=u) (b:=1) (B:=[.loop (yi x ci 0 .ready none)]) (T:=[])
  (P:=fun j i S=>S=zS d sh p m u x ci (((d.aj.take j).map fun i=>i.cs.length).sum + i) .ready none∧(j < x∨(j=x∧i≤ci)))
  (Q:=fun S=>S=zS d sh p m u x ci (ew d x ci) .done (some (.exit 0))) (by omega) (fun i hi=>by have:=hb.q.bk.nm.cs i hi;omega) hb.q.bk.nm.smD
  ⟨rfl,by omega⟩
  (fun j y k S hy hk ⟨s1,s2⟩=>by
   have hyc:=hb.q.bk.nm.cs y (aMg hy)
   have:=sj j
   have hr:=Kr (n:=q + 1) (d:=d) (sh:=sh) (p:=p) (m:=m) (u:=u) (x:=x) (c:=ci) (k:=((d.aj.take j).map fun i=>i.cs.length).sum + k) (j:=j) (i:=k) (by omega) (by omega)
   rw [← s1] at hr
   cases hq:(iEq (.ofNat j) (.ofNat x) && iEq (.ofNat k) (.ofNat ci)) with
   | true=>
    rw [hq] at hr
    simp only [Bool.and_eq_true,bW,decide_eq_true_eq,aOn] at hq
    obtain⟨hq1,hq2⟩:=hq
    obtain rfl:j=x:=by omega
    obtain rfl:k=ci:=by omega
    exact .inr ⟨_,hr,by unfold ew;rw [Nat.add_comm k]⟩
   | false=>
    rw [hq] at hr
    refine .inl ⟨_,hr,rfl,?_⟩
    simp only [Bool.and_eq_false_iff,bW,decide_eq_false_iff_not,aOn] at hq
    rcases s2 with h | ⟨h,h'⟩
    ·exact .inl h
    ·refine .inr ⟨h,?_⟩
     rcases hq with hq | hq
     ·omega
     ·omega)
  (fun j y S hy ⟨s1,s2⟩=>by
   refine⟨by rw [s1,qb hy,Nat.add_zero],?_⟩
   rcases s2 with h | ⟨h,h'⟩
   ·omega
   ·subst h
    rw [hx] at hy;cases hy
    omega)
 have hQ:S1=zS d sh p m u x ci (ew d x ci) .done (some (.exit 0)):=by
  rcases e2 with⟨_,h⟩ | h
  ·omega
  ·exact h
 subst hQ
 have h:∃r,frame Tryz.cfg (RN (q + 2)) (q + 2) 128 [ck d sh p m u,.int .i64 (.ofNat x),.int .i64 (.ofNat ci)] St.empty=some r∧∃S',r=(.int .i64 (.ofNat (ew d x ci)),S'):=by
  refine aU (fn:=Tryz.f128) (p:=fun r=>∃S',r=(.int .i64 (.ofNat (ew d x ci)),S')) rfl rfl ?_
  refine ae.mk _ _ (h20 (by omega)) ?_
  refine aD.mk _ _ _ (dR (f:=60) (top:=1) (first:=[]) (cap:=[.ptr (.box 0) 0]) (l:=yi x ci 0 .ready none) (r:=yi x ci (ew d x ci) .done (some (.exit 0))) (v:=.tuple []) (by rfl) (by rfl) e1 (by rfl) (.inr rfl)) ?_
  exact⟨_,rfl,_,rfl⟩
 obtain⟨r,k6,S',rfl⟩:=h
 exact bC k6 (by simp only [cJ,bf,an]) rfl rfl rfl rfl rfl
end
section
variable {n:Nat} {d:Dl} {sh:List Sh} {m:Nat} {u:Lv} {fx p:Nat} {T:List Nat} {S:St}
theorem Tj {f:Int×Int} (hn:1≤n):RN n (.f 127) [dw f] S=some (.bool (!iLt f.1 0),S):=by
 obtain⟨q,rfl⟩:=up hn
 have h:∃r,frame Tryz.cfg (RN q) q 127 [dw f] St.empty=some r∧∃S',r=(.bool (!iLt f.1 0),S'):=by
  refine aU (fn:=Tryz.f127) (p:=fun r=>∃S',r=(.bool (!iLt f.1 0),S')) rfl rfl ?_
  refine ah.mk (fun h=>?_) (fun h=>?_)
  ·rw [h];exact⟨_,rfl,_,rfl⟩
  ·rw [h];exact⟨_,rfl,_,rfl⟩
 obtain⟨r,k6,S',rfl⟩:=h
 exact bC k6 rfl rfl rfl rfl rfl rfl
theorem h62 (hne:sh≠[]) (hl:∀s∈sh,∀fs∈s.fields,fs.length≤1000) (hn:1010≤n):RN n (.f 62) [ck d sh p m u] S=some (.bool (cg sh),S):=by
 obtain⟨q,rfl⟩:=up (show 3≤n by omega)
 have h:∃r,frame Tryz.cfg (RN (q + 2)) (q + 2) 62 [ck d sh p m u] St.empty=some r∧∃S',r=(.bool (cg sh),S'):=by
  refine aU (fn:=Tryz.f62) (p:=fun r=>∃S',r=(.bool (cg sh),S')) rfl rfl ?_
  rcases sh with _ | ⟨s,_ | ⟨s2,sh⟩⟩
  ·exact absurd rfl hne
  ·refine ah.no rfl ?_
   rcases s with⟨ix,lv,fields⟩
   rcases fields with _ | ⟨fs,_ | ⟨fs2,fields⟩⟩
   ·have hrF:cg [Sh.mk ix lv []]=false:=by unfold cg;simp
    rw [hrF]
    refine ab.mk (.imm 0 [.int .i64 ix,.int .i64 lv.c,.int .i64 lv.p0,.int .i64 lv.p1,.int .i64 lv.p2,.int .i64 lv.p3,.list 0 .tight 0 []]) rfl ?_
    refine ah.mk (fun c1=>?_) (fun c1=>?_)
    ·exact⟨_,rfl,_,rfl⟩
    refine ab.mk (.imm 0 [.int .i64 ix,.int .i64 lv.c,.int .i64 lv.p0,.int .i64 lv.p1,.int .i64 lv.p2,.int .i64 lv.p3,.list 0 .tight 0 []]) rfl ?_
    refine ah.yes rfl ?_
    exact⟨_,rfl,_,rfl⟩
   ·have hi:∀fs,indexAddr Tryz.cfg 64 (.list 7 .no 0 ([Sh.mk ix lv [fs]].map bx)) (.int .i64 (.ofNat 0))=some (.imm 0 [.int .i64 ix,.int .i64 lv.c,.int .i64 lv.p0,.int .i64 lv.p1,.int .i64 lv.p2,.int .i64 lv.p3,.list 1 .no 0 ([fs].map bp)]):=fun fs=>tu (sh:=[Sh.mk ix lv [fs]]) (x:=0) rfl (by simp)
    refine ab.mk _ (hi fs) ?_
    refine ah.mk (fun c1=>?_) (fun c1=>?_)
    ·have hrF:cg [Sh.mk ix lv [fs]]=false:=J0 fs (by simpa using c1)
     rw [hrF]
     exact⟨_,rfl,_,rfl⟩
    have c1' : iEq ix 0=true:=by simpa using c1
    refine ab.mk _ (hi fs) ?_
    refine ah.no rfl ?_
    rcases fs with _ | ⟨f,fs⟩
    ·have hrF:cg [Sh.mk ix lv [[]]]=false:=by unfold cg;simp
     rw [hrF]
     refine ab.mk _ (hi []) ?_
     refine ab.mk (.imm 0 [.list 0 .tight 0 []]) rfl ?_
     refine ah.yes rfl ?_
     exact⟨_,rfl,_,rfl⟩
    ·have Qq:indexAddr Tryz.cfg 110 (.list 1 .no 0 ([f::fs].map bp)) (.int .i64 (.ofNat 0))=some (.imm 0 [.list 2 .no 0 ((f::fs).map dw)]):=nG (fss:=[f::fs]) (c:=0) rfl
     have hfl:(f::fs).length≤1000:=hl _ aMs _ aMs
     have Tk:=Sg (n:=q) (f:=127) (first:=[]) (cap:=[]) (S:=St.empty) (fun f:Int×Int=>!iLt f.1 0) (f::fs) (by omega) (by omega) rfl (fun x _=>.inl ⟨rfl,rfl,Tj (by omega)⟩)
     refine ab.mk _ (hi (f::fs)) ?_
     refine ab.mk _ Qq ?_
     refine ah.no (by rw [aq,aLm,bW];simp only [aLc,aOn,decide_eq_false_iff_not];omega) ?_
     refine ab.mk _ (hi (f::fs)) ?_
     refine ab.mk _ Qq ?_
     have hre:cg [Sh.mk ix lv [f::fs]] = !((f::fs).any fun f=>!iLt f.1 0):=by
      rw [qG]
      simp only [cg,c1',Bool.true_and,Bool.not_not]
     refine ae.mkB Tk (fun c2=>?_) (fun c2=>?_)
     ·rw [hre,c2];exact⟨_,rfl,_,rfl⟩
     ·rw [hre,c2];exact⟨_,rfl,_,rfl⟩
   ·have hi:indexAddr Tryz.cfg 64 (.list 7 .no 0 ([Sh.mk ix lv (fs::fs2::fields)].map bx)) (.int .i64 (.ofNat 0))=some (.imm 0 [.int .i64 ix,.int .i64 lv.c,.int .i64 lv.p0,.int .i64 lv.p1,.int .i64 lv.p2,.int .i64 lv.p3,.list 1 .no 0 ((fs::fs2::fields).map bp)]):=tu (sh:=[Sh.mk ix lv (fs::fs2::fields)]) (x:=0) rfl (by simp)
    have hrF:cg [Sh.mk ix lv (fs::fs2::fields)]=false:=by unfold cg;simp
    rw [hrF]
    refine ab.mk _ hi ?_
    refine ah.mk (fun c1=>?_) (fun c1=>?_)
    ·exact⟨_,rfl,_,rfl⟩
    refine ab.mk _ hi ?_
    refine ah.yes (by rw [aq,aLm];simp [bW];omega) ?_
    exact⟨_,rfl,_,rfl⟩
  ·have hrF:cg (s::s2::sh)=false:=rfl
   rw [hrF]
   refine ah.yes (by rw [aq];simp [bW];omega) ?_
   exact⟨_,rfl,_,rfl⟩
 obtain⟨r,k6,S',rfl⟩:=h
 exact bC k6 (by simp only [cJ,an]) rfl rfl rfl rfl rfl
theorem h63 (hb:ui d sh fx p m) (hr:cg sh=true) (hk:(fs0 sh).length≤1000) (hn:4060000≤n) :
 RN n (.f 63) [ck d sh p m u] S=some (aB (fk d sh fx p u m),S):=by
 obtain⟨q,rfl⟩:=up (show 1≤n by omega)
 have hfx:=hb.q.bk.hfx
 have kT:=hb.q.bk.f12
 obtain⟨s,f,fs,rfl,hsf,hfs⟩:=ow hr
 have hle:=kJ (sh:=[s]) (u:=u) (m:=m) hb.q.bk hb.h0
 obtain⟨c1,T1,cR,bl,k1,hg1⟩:=OS (n:=q) (u:=u) (T:=[]) hb.q hb.so hb.sh hb.h0 hb.m (by omega)
 have k5:=Mt (n:=q) (sh:=[s]) (m:=m) (u:=u) (S:={ heap:=[.cells 69 [ck d [s] p m u],bl],aA:=T1 }) (name:=(in0 d).name) (aa:=(aK d [s] fx p u m).length) (c:=false) (tok:=.tight) (l:=[]) hb.q (by omega) (by simp) (by simp;omega)
 rw [show (V.list (ao false ([]:List Tm)) .tight 0 (ag []))=.list 0 .tight 0 [] by rw [ag];rfl] at k5
 have htr:fk d [s] fx p u m=eB 5 (j8 d [s] fx p u m) (j9 d [s] fx p u m (f::fs).length):=by unfold fk;rw [hfs]
 have hvl:j8 d [s] fx p u m=aK d [s] fx p u m++[gS fx p (in0 d).name (aK d [s] fx p u m).length []]:=rfl
 have hpr:∀k,j9 d [s] fx p u m k=(List.range k).foldl (fun t i=>m3 t (u6 i (in0 d).name (bR (.ofNat (aK d [s] fx p u m).length) (.ofNat ((aK d [s] fx p u m).length + 1))))) (bR (.ofNat (fx + 1)) (.ofNat ((aK d [s] fx p u m).length + 1))):=fun _=>rfl
 rw [hfs] at hk
 generalize hA:aK d [s] fx p u m=A at *
 obtain⟨c3,T3,eU,a1,a2⟩:=dC (LT:=157) (c0:=c1) (c:=false) (bg:=.tight) (H:=[.cells 69 [ck d [s] p m u],bl]) (T0:=[]) (T:=T1) (done:=A) (new:=[gS fx p (in0 d).name A.length []]) (tok:=cR) rfl (by simp only [aLc,List.length_nil];omega) hg1
 rw [← hvl] at a1 a2
 have hlt:(j8 d [s] fx p u m).length=A.length + 1:=by rw [hvl,aLa];rfl
 have h:∃r,frame Tryz.cfg (RN q) q 63 [ck d [s] p m u] St.empty=some r∧∃S',r=(aB (fk d [s] fx p u m),S'):=by
  refine aU (fn:=Tryz.f63) (p:=fun r=>∃S',r=(aB (fk d [s] fx p u m),S')) rfl rfl ?_
  refine ae.mk _ _ k1 ?_
  refine ab.mk _ (show indexAddr Tryz.cfg 26 (.list 7 .no 0 (d.aj.map encI)) (.int .i64 (.ofNat 0))=_ from aL hb.h0) ?_
  refine ae.mk _ _ (by rw [ak];exact k5) ?_
  refine ab.mk _ (bs1 _ 157 _ _ _ rfl) ?_
  refine cj.mk _ _ (a1 _ _ rfl) ?_
  refine ab.mk (.int .i64 (.ofNat (fx + 1))) (by rw [hfx];exact az (by omega)) ?_
  refine ae.mk _ _ (by rw [ak,hlt];exact Dh (by omega) (bdN (by omega)) (bdN (by omega))) ?_
  refine ab.mk _ (tu (x:=0) rfl (by rw [hsf];simp)) ?_
  refine ab.mk _ (show indexAddr Tryz.cfg 110 (.list 1 .no 0 (s.fields.map bp)) (.int .i64 (.ofNat 0))=some (.imm 0 [.list 2 .no 0 ((f::fs).map dw)]) from nG (fss:=s.fields) (c:=0) (fs:=f::fs) (by rw [hsf];rfl)) ?_
  refine aD.loop 64 (σ:=Tm) (f::fs).length (fun j t=>{ nt:=64,tmps:=[(2,.ptr (.loc 2) 0),(3,.list (ao c3 (j8 d [s] fx p u m)) eU 0 (ag (j8 d [s] fx p u m))),(4,.str (in0 d).name),(5,.ptr (.loc 5) 0),(43,.int .i64 (.ofNat (aH ((f::fs).map dw)))),(44,.int .i64 (.ofNat j))],locs:=[(2,fI),(5,aC t)],fix:=[] })
   (fun _ _=>{ heap:=[.cells 69 [ck d [s] p m u],bl],aA:=T3 }) (fun j t=>t=j9 d [s] fx p u m j) _ (show (f::fs).length < q by omega) (by rw [hpr];rfl) ?_ ?_
  ·rintro j t hj rfl
   refine ah.yes (ltM hj) ?_
   refine ab.mk _ (by rw [ak,hlt];exact kQ (by omega)) ?_
   refine ae.mk _ _ (by rw [ak,hlt];exact Dh (by omega) (bdN (by omega)) (bdN (by omega))) ?_
   refine ab.mk _ (bs1 _ 23 _ _ _ rfl) ?_
   refine ab.mk _ (J1 _ _ _) ?_
   refine ae.mk _ _ (rS (by simp only [aLc,List.length_nil];omega) (by simp only [aLc,List.length_nil];omega)) ?_
   refine ab.mk _ (az (by omega)) ?_
   exact⟨_,(show m3 (j9 d [s] fx p u m j) (u6 j (in0 d).name (bR (.ofNat A.length) (.ofNat (A.length + 1))))=j9 d [s] fx p u m (j + 1) by rw [hpr,hpr,List.range_succ,List.foldl_append];rfl),rfl,rfl⟩
  ·rintro t rfl
   refine ah.no (geM (by omega)) ?_
   refine ae.mk _ _ (EY (by omega) (by omega)) ?_
   refine⟨_,rfl,?_⟩
   rw [htr]
   exact⟨_,rfl⟩
 obtain⟨r,k6,S',rfl⟩:=h
 exact dZ k6 (by simp only [cJ,an]) rfl rfl
end
section
variable {n:Nat} {d:Dl} {sh:List Sh} {m:Nat} {u:Lv} {fx p:Nat} {S:St}
theorem Qr {b0 b1:Blk} {x c:Nat} {s:Sh} {fs:List (Int×Int)} {B:List Blk} {T:List Nat} {b:Nat} {P:Nat→St→Prop} (hsx:sh[x]?=some s) (hsc:s.fields[c]?=some fs) (hn:fs.length < n) (hl:fs.length≤1000)
 (h0:P 0 { heap:=b0::b1::.cells 69 [ck d sh p m u]::.cells 3 [.int .i64 (.ofNat x)]::.cells 3 [.int .i64 (.ofNat c)]::B,aA:=T })
 (hy:∀i f S,fs[i]?=some f→iLt f.1 0=false→P i S→∃S',RN n (.y b) [.int .i64 (.ofNat i)] S=some (.bool true,S')∧P (i + 1) S')
 (hs:∀i f S,fs[i]?=some f→iLt f.1 0=true→P i S→P (i + 1) S) :
 ∃S',RN (n + 1) (.f 163) [.yield b,.ptr (.box 2) 0,.ptr (.box 3) 0,.ptr (.box 4) 0] { heap:=b0::b1::.cells 69 [ck d sh p m u]::.cells 3 [.int .i64 (.ofNat x)]::.cells 3 [.int .i64 (.ofNat c)]::B,aA:=T }=some (.tuple [],S')∧P fs.length S':=by
 have h:∃r,frame Tryz.cfg (RN n) n 163 [.yield b,.ptr (.box 2) 0,.ptr (.box 3) 0,.ptr (.box 4) 0] { heap:=b0::b1::.cells 69 [ck d sh p m u]::.cells 3 [.int .i64 (.ofNat x)]::.cells 3 [.int .i64 (.ofNat c)]::B,aA:=T }=some r∧∃S',r=(.tuple [],S')∧P fs.length S':=by
  refine aU (fn:=Tryz.f163) (p:=fun r=>∃S',r=(.tuple [],S')∧P fs.length S') rfl rfl ?_
  have Fc:s.fields≠[]:=fun e=>by rw [e] at hsc;simp at hsc
  refine ab.mk _ (tu hsx Fc) ?_
  rcases fs with _ | ⟨f0,fr⟩
  ·refine ab.mk _ (nG hsc) ?_
   refine aD.loop 34 (σ:=Unit) 0 (fun j _=>{ nt:=34,tmps:=[(0,.yield b),(17,.list 0 .tight 0 []),(18,.int .i64 0),(19,.int .i64 0)],locs:=[],fix:=[] }) (fun _ _=>{ heap:=b0::b1::.cells 69 [ck d sh p m u]::.cells 3 [.int .i64 (.ofNat x)]::.cells 3 [.int .i64 (.ofNat c)]::B,aA:=T })
    (fun _ _=>True) () (by omega) trivial (fun j _ hj=>absurd hj (by omega)) (fun _ _=>?_)
   refine ah.no rfl ?_
   exact⟨_,rfl,_,rfl,h0⟩
  ·refine ab.mk _ (show indexAddr Tryz.cfg 110 (.list 1 .no 0 (s.fields.map bp)) (.int .i64 (.ofNat c))=some (.imm 0 [.list 2 .no 0 ((f0::fr).map dw)]) from nG hsc) ?_
   refine aD.loop 34 (σ:=Option (Int×Int)×St) (f0::fr).length (fun j s=>{ nt:=34,tmps:=[(0,.yield b),(17,.list 2 .no 0 ((f0::fr).map dw)),(18,.int .i64 (.ofNat (aH ((f0::fr).map dw)))),(19,.int .i64 (.ofNat j))],locs:=Nb s.1,fix:=[] }) (fun _ s=>s.2)
    (fun j s=>P j s.2) (none,{ heap:=b0::b1::.cells 69 [ck d sh p m u]::.cells 3 [.int .i64 (.ofNat x)]::.cells 3 [.int .i64 (.ofNat c)]::B,aA:=T }) hn h0 ?_ ?_
   ·rintro j ⟨o,S1⟩ hj (hp:P j S1)
    obtain⟨f,hf⟩ : ∃f,(f0::fr)[j]?=some f:=⟨_,aGe hj⟩
    rcases o with _ | f1
    all_goals
     refine ah.yes (ltM hj) ?_
     refine ab.mk _ (xT hf) ?_
     refine ah.mk (fun h1=>?_) (fun h1=>?_)
     ·obtain⟨S',k1,k2⟩:=hy j f S1 hf (by simpa using h1) hp
      refine ae.mk _ _ k1 ?_
      refine ab.mk _ (az (by omega)) ?_
      exact⟨(some f,S'),k2,rfl,rfl⟩
     ·have k2:=hs j f S1 hf (by simpa using h1) hp
      refine ab.mk _ (az (by omega)) ?_
      exact⟨(some f,S1),k2,rfl,rfl⟩
   ·rintro⟨o,S1⟩ (hp:P (f0::fr).length S1)
    rcases o with _ | f1
    all_goals
     refine ah.no (geM (by omega)) ?_
     exact⟨_,rfl,S1,rfl,hp⟩
 obtain⟨r,h1,S',rfl,h2⟩:=h
 exact⟨S',bw rfl h1,h2⟩
theorem Qs {b0 b1:Blk} {x c:Nat} {T:List Nat} (hn:1≤n):RN n (.f 129) [ck d sh p m u,.int .i64 (.ofNat x),.int .i64 (.ofNat c)] { heap:=[b0,b1],aA:=T }=some (.fn 163 5 [] [.ptr (.box 2) 0,.ptr (.box 3) 0,.ptr (.box 4) 0],{ heap:=[b0,b1,.cells 69 [ck d sh p m u],.cells 3 [.int .i64 (.ofNat x)],.cells 3 [.int .i64 (.ofNat c)]],aA:=T }):=by
 obtain⟨q,rfl⟩:=up hn
 refine bw rfl ?_
 kernel_rfl
@[reducible] noncomputable def OT:List V:=[.str [],.int .i64 0,.int .u8 0,.int .i64 0,.str [],.list 0 .tight 0 [],.list 0 .tight 0 []]
noncomputable def zT (d:Dl) (sh:List Sh) (p m:Nat) (u:Lv) (c:Ct) (A:List Tm) (ca:Bool) (ta:Tok) (F:List Tm) (tf:Tok) (e:Tm) (t:Tm):dD:={ fid:=64,nt:=105,tmps:=[(3,bqQ d sh p m u),(6,.ptr (.loc 6) 0),(7,.ptr (.loc 7) 0),(8,.list (ao ca A) ta 0 (ag A)),(9,.ptr (.loc 9) 0),(10,.ptr (.loc 10) 0),(12,.ptr (.loc 12) 0),(13,.ptr (.loc 13) 0),(71,.fn 163 5 [] [.ptr (.box 2) 0,.ptr (.box 3) 0,.ptr (.box 4) 0])],locs:=[(6,OT),(7,mh c),(9,[.int .i64 (.ofNat (aH (ag A)))]),(10,[.list (ao false F) tf 0 (ag F)]),(11,aC e),(12,[.int .i64 (.ofNat (A.length + F.length))]),(13,aC t)],params:=[72],assign:=ma Tryz.f64,body:=mb Tryz.f64,st:=.ready,jj:=none }
noncomputable def OU (b0 b1:Blk) (d:Dl) (sh:List Sh) (p m:Nat) (u:Lv) (x ci:Nat) (c:Ct) (A:List Tm) (ca:Bool) (ta:Tok) (F:List Tm) (tf:Tok) (e:Tm) (T:List Nat) (t:Tm):St:={ heap:=[b0,b1,.cells 69 [ck d sh p m u],.cells 3 [.int .i64 (.ofNat x)],.cells 3 [.int .i64 (.ofNat ci)],.loop (zT d sh p m u c A ca ta F tf e t)],aA:=T }
theorem Mu {b0 b1:Blk} {x ci i:Nat} {c:Ct} {A F:List Tm} {ca:Bool} {ta tf:Tok} {e t x0:Tm} {T:List Nat} (hb:rZ d fx p) (hx0:My 4096 x0) (hli:F[i]?=some (aZ x0 (.ofNat i) (.ofNat A.length - .ofNat fx))) (jK:dK d fx (al x0).2 (.ofNat (fx + i + (al x0).1.length))=true)
 (hl:F.length≤100) (h1:fx≤A.length) (h2:A.length≤1000) (hm:m≤1000) (hn:4020000≤n) :
 RN n (.y 5) [.int .i64 (.ofNat i)] (OU b0 b1 d sh p m u x ci c A ca ta F tf e T t)=some (.bool true,OU b0 b1 d sh p m u x ci c A ca ta F tf e T (m3 t (kU d fx p u m 5 (aZ (aZ x0 (.ofNat i) (.ofNat A.length - .ofNat fx)) 0 (.ofNat (F.length - i))) (A.length + i) (A.length + F.length)))):=by
 obtain⟨q,rfl⟩:=up (show 1≤n by omega)
 have hil:=(aGs hli).1
 obtain⟨f1,f2,f3⟩:=yg (i:=i) (fx:=fx) (aa:=A.length) (b2:=F.length - i) hx0 h1 (by omega) (by omega) (by omega)
 have f4:=f3 d jK
 have hl0:(al x0).1.length≤65536:=by
  have:=nF _ x0 (Nat.le_refl _) (cK hx0.may)
  have:=kH hx0.may
  omega
 have hx1:=hx0.lift (b:=.ofNat A.length - .ofNat fx) (by simp only [aOn];omega) (by simp only [aOn];omega) (.ofNat i)
 have k1:=fun S=>tZ (n:=q) (d:=d) (sh:=sh) (p:=p) (m:=m) (u:=u) (S:=S) (b:=F.length - i) hx1 (by simp only [aOn];omega) (by simp only [aOn];omega) (by omega)
 have k2:=fun S=>Kk (n:=q) (sh:=sh) (m:=m) (u:=u) (S:=S) (f:=A.length + i) (aa:=A.length + F.length) hb f1 (by omega) (by omega) hm (by
  rw [f2,show A.length + F.length + (al x0).1.length=A.length + i + (F.length - i) + (al x0).1.length by omega]
  exact f4) (by omega) (by omega) (by omega)
 refine fU ?_
 refine fH (r:=zT d sh p m u c A ca ta F tf e t) (nt:=105) (fx:=[6,7,9,10,11,12,13]) rfl rfl rfl rfl rfl rfl rfl ?_
 refine ab.mk _ (xz hli) ?_
 refine ab.mk (.int .i64 (.ofNat (F.length - i))) ?_ ?_
 ·rw [ak,show Int.ofNat (F.length - i)=Int.ofNat F.length - Int.ofNat i by simp only [aOn];omega]
  exact mB (by simp only [aOn];omega) (by simp only [aOn];omega)
 refine ae.mk _ _ (k1 _) ?_
 refine ab.mk (.int .i64 (.ofNat (A.length + i))) (by rw [ak];exact addNat (by omega)) ?_
 refine ae.mk _ _ (Dh (by omega) (bdN (by omega)) (bdN (by omega))) ?_
 refine ae.mk _ _ (k2 _) ?_
 refine ab.mk _ (bs1 _ 23 _ _ _ rfl) ?_
 refine ae.mk _ _ (rS (by simp only [aLc,List.length_nil];omega) (by simp only [aLc,List.length_nil];omega)) ?_
 conv=>whnf
 rfl
theorem Tl {x ci:Nat} {i:In} {c:Ct} {s:Sh} {fs:List (Int×Int)} (hb:ui d sh fx p m) (hx:d.aj[x]?=some i) (hc:i.cs[ci]?=some c) (hsx:sh[x]?=some s) (hsc:s.fields[ci]?=some fs) (hn:4070000≤n) :
 I9 (fN Tryz.cfg cQ cY bY n) n [ck d sh p m u,.int .i64 (.ofNat x),.int .i64 (.ofNat ci)]=some (bu (gl d sh fx p u m x ci c fs)):=by
 obtain⟨k,rfl⟩:=up (show 2≤n by omega)
 have gQ:=hb.q.bk.dl.few
 have hfx:=hb.q.bk.hfx
 have kT:=hb.q.bk.f12
 have hxl:x < d.aj.length:=(aGs hx).1
 have hcl:ci < i.cs.length:=(aGs hc).1
 have hfr:=tv hb.sh hx hc hsx hsc
 obtain⟨_,s',Ks,hs1,hs2⟩:=hb.so.at_ x i hx
 rw [hsx] at Ks;cases Ks
 obtain⟨fs',Qt,hs3,h12,hsp⟩:=hs2 ci c hc
 rw [hsc] at Qt;cases Qt
 have hfl:=((hb.q.bk.gd i (aMg hx)).2.2 c (aMg hc)).2
 have hcm:=(hb.q.my i (aMg hx)).2 c (aMg hc)
 have hle:=kJ (sh:=sh) (u:=u) (m:=m) hb.q.bk hb.h0
 have hfa:=nE (sh:=sh) (u:=u) (m:=m) hb.h0 hb.q.bk
 have R5:ew d x ci≤220:=by
  have h1:=mv hb.q.bk.nm.cs x
  have h2:=hb.q.bk.nm.cs i (aMg hx)
  have:d.aj.length * 20≤10 * 20:=Nat.mul_le_mul (by omega) (by omega)
  unfold ew;omega
 obtain⟨c1,T1,cR,bl,k1,hg1⟩:=OS (n:=k + 2) (u:=u) (T:=[]) hb.q hb.so hb.sh hb.h0 hb.m (by omega)
 have hbn:=iK (aa:=(aK d sh fx p u m).length) hcm.gd (by omega) hfl
 have hbe:=qB (aa:=(aK d sh fx p u m).length) hcm.gd (by omega) hfl
 obtain⟨q0,k2,T2,bg,rfl,hg2⟩:=Ms (n:=k + 2) (sh:=sh) (m:=m) (u:=u) (H:=[.cells 69 [ck d sh p m u],bl]) (T:=T1) (aa:=(aK d sh fx p u m).length) hb.q hcm hfl hfa (by omega) (by omega)
 obtain⟨cp1,cp2⟩:=hcm.pis
 have hrr:gl d sh fx p u m x ci c fs=(c.name,(aG fx c.ty (aK d sh fx p u m).length).1.length,eB 5 (aK d sh fx p u m++(aG fx c.ty (aK d sh fx p u m).length).1) (jR d fx p u m (aK d sh fx p u m).length (aG fx c.ty (aK d sh fx p u m).length).1.length ((aK d sh fx p u m).length + (aG fx c.ty (aK d sh fx p u m).length).1.length) ((aG fx c.ty (aK d sh fx p u m).length).1.zip fs) 0 (de (bR (.ofNat (fx + d.aj.length + ew d x ci)) (.ofNat ((aK d sh fx p u m).length + (aG fx c.ty (aK d sh fx p u m).length).1.length))) (db (aK d sh fx p u m).length (aG fx c.ty (aK d sh fx p u m).length).1.length (.ofNat ((aK d sh fx p u m).length + (aG fx c.ty (aK d sh fx p u m).length).1.length)))))):=rfl
 rw [hrr]
 clear hrr
 generalize hA:aK d sh fx p u m=A at *
 have yh:∀j f,fs[j]?=some f→∃t x0,(aG fx c.ty A.length).1[j]?=some t∧t=aZ x0 (.ofNat j) (.ofNat A.length - .ofNat fx)∧My 4096 x0∧(iLt f.1 0=false→dK d fx (al x0).2 (.ofNat (fx + j + (al x0).1.length))=true):=by
  intro j f hf
  have hjl:=(aGs hf).1
  have hx0:(al c.ty).1[fx + j]?=some ((al c.ty).1[fx + j]'(by omega)):=aGe (by omega)
  refine⟨_,(al c.ty).1[fx + j]'(by omega),?_,rfl,cp2 _ (List.getElem_mem _),fun hr=>?_⟩
  ·rw [hbe]
   have:=rU (.ofNat A.length - .ofNat fx) ((al c.ty).1.drop fx) 0 j ((al c.ty).1[fx + j]'(by omega)) (by rw [List.getElem?_drop];exact hx0)
   rw [Int.zero_add] at this
   exact this
  ·obtain⟨y,y1,y2⟩:=yc hfr hf hr
   rw [hx0] at y1
   cases y1
   exact y2
 generalize hB:aG fx c.ty A.length=B at *
 have hnl:B.1.length≤12:=by rw [hbn];omega
 have hBf:B.1.length=fs.length:=by rw [hbn,hs3]
 have hrl:=ev A.length B.1.length (.ofNat (A.length + B.1.length))
 generalize ht0:de (bR (.ofNat (fx + d.aj.length + ew d x ci)) (.ofNat (A.length + B.1.length))) (db A.length B.1.length (.ofNat (A.length + B.1.length)))=t0 at *
 obtain⟨S9,k3,t9,rfl,hd2⟩:=Qr (n:=k + 1) (b0:=.cells 69 [ck d sh p m u]) (b1:=bl) (d:=d) (sh:=sh) (p:=p) (m:=m) (u:=u) (x:=x) (c:=ci) (s:=s) (fs:=fs) (b:=5) (B:=[.loop (zT d sh p m u c A c1 cR B.1 bg B.2 t0)]) (T:=T2)
  (P:=fun j S=>∃t,S=OU (.cells 69 [ck d sh p m u]) bl d sh p m u x ci c A c1 cR B.1 bg B.2 T2 t∧jR d fx p u m A.length B.1.length (A.length + B.1.length) (B.1.zip fs) 0 t0=jR d fx p u m A.length B.1.length (A.length + B.1.length) ((B.1.zip fs).drop j) j t)
  hsx hsc (by omega) (by omega) ⟨t0,rfl,rfl⟩
  (fun j f S hf hr ⟨t,e1,e3⟩=>by
   subst e1
   obtain⟨y,x0,t1,t2,t3,t4⟩:=yh j f hf
   have hz:(B.1.zip fs)[j]?=some (y,f):=by rw [List.getElem?_zip_eq_some];exact⟨t1,hf⟩
   rw [Bp d fx p u m A.length B.1.length (A.length + B.1.length) hz] at e3
   simp only [hr,Bool.not_false] at e3
   subst t2
   exact⟨_,Mu (n:=k + 1) hb.q t3 t1 (t4 hr) (by omega) hfa (by omega) hb.m (by omega),_,rfl,e3⟩)
  (fun j f S hf hr ⟨t,e1,e3⟩=>by
   obtain⟨y,x0,t1,t2,t3,t4⟩:=yh j f hf
   have hz:(B.1.zip fs)[j]?=some (y,f):=by rw [List.getElem?_zip_eq_some];exact⟨t1,hf⟩
   rw [Bp d fx p u m A.length B.1.length (A.length + B.1.length) hz] at e3
   simp only [hr,Bool.not_true] at e3
   exact⟨t,e1,e3⟩)
 rw [List.drop_of_length_le (by rw [List.length_zip];exact Nat.min_le_right _ _),jR] at hd2
 subst hd2
 generalize jR d fx p u m A.length B.1.length (A.length + B.1.length) (B.1.zip fs) 0 t0=t9 at *
 have OQ:=Qs (n:=k + 2) (b0:=.cells 69 [ck d sh p m u]) (b1:=bl) (d:=d) (sh:=sh) (p:=p) (m:=m) (u:=u) (x:=x) (c:=ci) (T:=T2) (by omega)
 obtain⟨c7,T7,TV,a1,a2⟩:=dC (LT:=157) (c0:=c1) (c:=false) (bg:=bg) (H:=[.cells 69 [ck d sh p m u],bl,.cells 69 [ck d sh p m u],.cells 3 [.int .i64 (.ofNat x)],.cells 3 [.int .i64 (.ofNat ci)],.loop { zT d sh p m u c A c1 cR B.1 bg B.2 t9 with st:=.rk,locs:=[],tmps:=[] }]) (T0:=[]) (T:=T2) (done:=A) (new:=B.1) (tok:=cR) rfl (by omega) (hg1.ext hg2.1)
 have h:∃v,sI 64 1 Tryz.f64 (Rc (k + 2)) (k + 2) [ck d sh p m u,.int .i64 (.ofNat x),.int .i64 (.ofNat ci)]=some v∧v=bu (c.name,B.1.length,eB 5 (A++B.1) t9):=by
  refine Dv (id:=64) (m:=1) (fn:=Tryz.f64) ?_
  refine fm.cons (nt:=105) ?_
  refine fm.nil (nt:=105) ?_
  refine⟨_,rfl,?_⟩
  refine ab.mk _ (aL hx) ?_
  refine ab.mk _ (ec hc) ?_
  refine ae.mk _ _ (rc k1) ?_
  refine ae.mk _ _ (by rw [ak];exact rc k2) ?_
  refine ab.mk (.int .i64 (.ofNat (A.length + B.1.length))) (by rw [ak,ak];exact addNat (by omega)) ?_
  refine ab.mk (.int .i64 (.ofNat (fx + d.aj.length))) (by rw [hfx,aq,aLm];exact addNat (by omega)) ?_
  refine ae.mk _ _ (rc (Ti hb hx hcl (by omega))) ?_
  refine ab.mk (.int .i64 (.ofNat (fx + d.aj.length + ew d x ci))) (addNat (by omega)) ?_
  refine ae.mk _ _ (rc (Dh (by omega) (bdN (by omega)) (bdN (by omega)))) ?_
  refine ae.mk _ _ (by rw [ak,ak];exact rc (Bb (n:=k + 2) (from_:=A.length) (m:=B.1.length) (r:=.ofNat (A.length + B.1.length)) (by omega) (by omega) (bdN (by omega)))) ?_
  refine ae.mk _ _ (rc (rS (by rw [hrl];omega) (by rw [hrl];omega))) ?_
  rw [ht0]
  refine ae.mk _ _ (rc OQ) ?_
  refine aD.mk _ _ _ (dR (f:=163) (top:=5) (first:=[]) (cap:=[.ptr (.box 2) 0,.ptr (.box 3) 0,.ptr (.box 4) 0]) (l:=zT d sh p m u c A c1 cR B.1 bg B.2 t0) (r:=zT d sh p m u c A c1 cR B.1 bg B.2 t9) (v:=.tuple []) (by rfl) (by rfl) (rc k3) (by rfl) (.inl rfl)) ?_
  refine cj.mk _ _ (a1 _ _ rfl) ?_
  refine ae.mk _ _ (rc (EY (by rw [aLa];omega) (by rw [aLa];omega))) ?_
  refine⟨_,rfl,?_⟩
  rw [ak]
  exact qc (c.name,B.1.length,eB 5 (A++B.1) t9)
 obtain⟨v,h1,rfl⟩:=h
 exact h1
theorem h64 {x ci:Nat} {i:In} {c:Ct} {s:Sh} {fs:List (Int×Int)} (hb:ui d sh fx p m) (hx:d.aj[x]?=some i) (hc:i.cs[ci]?=some c) (hsx:sh[x]?=some s) (hsc:s.fields[ci]?=some fs) (hn:4070000≤n) :
 RN n (.f 64) [ck d sh p m u,.int .i64 (.ofNat x),.int .i64 (.ofNat ci)] S=some (bu (gl d sh fx p u m x ci c fs),S):=
 ue rfl rfl rfl rfl (by simp only [cJ,bf,an]) (Tl hb hx hc hsx hsc hn)
end
section
variable {n:Nat} {d:Dl} {sh:List Sh} {m:Nat} {u:Lv} {fx p:Nat} {S:St}
theorem h66 {t:Tm} (hs:Sm t) (hn:wt t + 20≤n):RN n (.f 66) [aB t] S=some (.bool (!cL t),S):=by
 obtain⟨q,rfl⟩:=up (show 1≤n by omega)
 have h:∃r,frame Tryz.cfg (RN q) q 66 [aB t] St.empty=some r∧∃S',r=(.bool (!cL t),S'):=by
  refine aU (fn:=Tryz.f66) (p:=fun r=>∃S',r=(.bool (!cL t),S')) rfl rfl ?_
  refine ae.mkB (h67 hs (by omega)) (fun h=>?_) (fun h=>?_)
  ·rw [h];exact⟨_,rfl,_,rfl⟩
  ·rw [h];exact⟨_,rfl,_,rfl⟩
 obtain⟨r,k6,S',rfl⟩:=h
 exact bC k6 (by simp only [bh,an]) rfl rfl rfl rfl rfl
theorem h65 {l:List Tm} {c:Bool} {tok:Tok} (hl:l.length < 1000000000) (hw:∀t∈l,Sm t∧wt t + 30≤n) (hn:l.length + 10≤n):RN n (.f 65) [.list (ao c l) tok 0 (ag l),.fn 66 0 [] []] S=some (.bool (l.any fun t=>!cL t),S):=by
 obtain⟨q,rfl⟩:=up (show 3≤n by omega)
 obtain⟨tb,htb⟩:=eC tok
 rw [iW (jQ:=[.list (ao c l) (aw tb) 0 (ag l),.fn 66 0 [] []]) rfl rfl rfl (by rw [eD htb,eD (nA tb)])]
 exact p65 (n:=q + 1) (f:=66) (first:=[]) (cap:=[]) (fun t=>!cL t) l c tb hl (by omega) rfl (fun x hx=>.inl ⟨rfl,rfl,h66 (hw x hx).1 (by have:=(hw x hx).2;omega)⟩)
@[reducible] noncomputable def Qu:List V:=[.int .u8 0,.str [],.int .i64 0,.int .u8 0,.int .i64 0,.str [],.list 0 .tight 0 [],.list 0 .tight 0 [],.int .u8 0,.int .i64 0,.str [],.list 0 .tight 0 [],.list 0 .tight 0 [],.int .i64 0,.str [],.str [],.int .i64 0,.int .i64 0,.int .i64 0,.int .i64 0,.int .i64 0,.int .i64 0,.list 0 .tight 0 [],.int .i64 0,.bool false]
@[reducible] noncomputable def Qv:Option Ru→List (Nat×List V)
  | none=>[]
  | some r=>[(9,gT r)]
theorem h21 {x:Nat} {i:In} {s:Sh} (hb:ui d sh fx p m) (hx:d.aj[x]?=some i) (hsx:sh[x]?=some s) (hsm:∀s∈sh,∀fs∈s.fields,fs.length≤12) (hn:4080000≤n)
 (hw:∀t∈eE d sh fx p u m x i,Sm t∧wt t + 40≤n) :
 RN n (.f 21) [ck d sh p m u,.int .i64 (.ofNat x)] S=some (.tuple [dH (dd d sh fx p u m x i),.bool ((eE d sh fx p u m x i).all cL)],S):=by
 obtain⟨q,rfl⟩:=up (show 1≤n by omega)
 have gQ:=hb.q.bk.dl.few
 have hfx:=hb.q.bk.hfx
 have hpp:=hb.q.bk.hpp
 have hp4:=hb.q.bk.p4
 have hnl:=(hb.q.bk.nm.nm i (aMg hx)).1
 have TW:=hb.q.bk.nm.cs i (aMg hx)
 have hne:sh≠[]:=fun e=>by rw [e] at hsx;simp at hsx
 have hix:indexAddr Tryz.cfg 64 (.list 7 .no 0 (sh.map bx)) (.int .i64 (.ofNat x))=some (.imm 0 (sW s)):=dB (ei:=Tryz.ti112) rfl rfl hsx
 have k61:=h61 (n:=q) (u:=u) (S:=St.empty) hb hx (by omega)
 have k62:=h62 (n:=q) (d:=d) (sh:=sh) (p:=p) (m:=m) (u:=u) (S:=St.empty) hne (fun s hs fs hfs=>by have:=hsm s hs fs hfs;omega) (by omega)
 have hm1:=hb.m
 have h:∃r,frame Tryz.cfg (RN q) q 21 [ck d sh p m u,.int .i64 (.ofNat x)] St.empty=some r∧∃T tok S',r=(.tuple [.agg (eP (dd d sh fx p u m x i) (szG 7 ((dd d sh fx p u m x i).rules.map bu)) tok ((dd d sh fx p u m x i).rules.map bu)),.bool ((eE d sh fx p u m x i).all cL)],S')∧av [] T ((dd d sh fx p u m x i).rules.map bu) tok:=by
  refine aU (fn:=Tryz.f21) (p:=fun r=>∃T tok S',r=(.tuple [.agg (eP (dd d sh fx p u m x i) (szG 7 ((dd d sh fx p u m x i).rules.map bu)) tok ((dd d sh fx p u m x i).rules.map bu)),.bool ((eE d sh fx p u m x i).all cL)],S')∧av [] T ((dd d sh fx p u m x i).rules.map bu) tok) rfl rfl ?_
  refine ab.mk _ (aL hx) ?_
  refine ab.mk _ (xJ (b:=bU) (by unfold bU;simp only [aLc,List.length_nil];omega)) ?_
  refine ab.mk (.int .i64 (.ofNat (p + 1))) (by rw [hpp];exact az (by omega)) ?_
  refine ae.mk _ _ k61 ?_
  refine ab.mk _ (show indexAddr Tryz.cfg 26 (.list 7 .no 0 (d.aj.map encI)) (.int .i64 (.ofNat 0))=_ from aL hb.h0) ?_
  refine ab.mk _ (aL hx) ?_
  refine ab.mk _ hix ?_
  refine ab.mk _ (bs1 _ 23 _ _ _ rfl) ?_
  have Qw:(((sh[x]?).map (·.index)).getD 0)=s.index:=by rw [hsx];rfl
  cases dt:cg sh with
  | true=>
   have hin:dd d sh fx p u m x i =⟨2,i.name++bU,.ofNat (p + 1),dc d sh fx p u m x i,fk d sh fx p u m,(in0 d).name,i.name,d.fixed,s.index,.ofNat (aH (d.aj.map encI)),.ofNat m,[]⟩:=by
    unfold dd
    rw [dt,Qw]
   have hte:eE d sh fx p u m x i=[dc d sh fx p u m x i,fk d sh fx p u m]:=by
    unfold eE
    rw [dt]
   rw [dt] at k62
   have k63:=h63 (n:=q) (u:=u) (S:=St.empty) hb dt (by
    obtain⟨s9,f9,fs9,q1,q2,q3⟩:=ow dt
    have:=hsm s9 (by rw [q1];simp) (f9::fs9) (by rw [q2];simp)
    rw [q3];omega) (by omega)
   rw [hin]
   rw [hte] at hw ⊢
   generalize dc d sh fx p u m x i=ty at *
   generalize fk d sh fx p u m=va at *
   obtain⟨c2,T2,bg,b1,b2⟩:=oz (LT:=23) (c0:=false) (c:=false) (bg:=.tight) (H:=[]) (T0:=[]) (T:=[]) (done:=[ty]) (new:=[va]) (tok:=.tight) rfl (by simp) (by simp) ⟨jm.refl [],.inl rfl⟩
   have k65:=h65 (n:=q) (S:={ heap:=[],aA:=T2 }) (l:=[ty,va]) (c:=c2) (tok:=bg) (by simp) (fun t ht=>⟨(hw t ht).1,by have:=(hw t ht).2;omega⟩) (by simp only [aLc,List.length_nil];omega)
   rw [qG] at k65
   simp only [Bool.not_not] at k65
   refine ae.mk _ _ k62 ?_
   refine ae.mk _ _ k63 ?_
   refine ab.mk _ (bs1 _ 23 _ _ _ rfl) ?_
   refine cj.mk _ _ (b1 _ _ rfl) ?_
   refine ae.mkB k65 (fun h9=>?_) (fun h9=>?_)
   ·rw [ik h9];exact⟨_,rfl,T2,.tight,_,rfl,⟨E8 T2,.inl ⟨rfl,rfl⟩⟩⟩
   ·rw [il h9];exact⟨_,rfl,T2,.tight,_,rfl,⟨E8 T2,.inl ⟨rfl,rfl⟩⟩⟩
  | false=>
   have hin:dd d sh fx p u m x i =⟨6,i.name++bU,.ofNat (p + 1),dc d sh fx p u m x i,zTm,(in0 d).name,i.name,d.fixed,s.index,.ofNat (aH (d.aj.map encI)),.ofNat m,cF d sh fx p u m x i⟩:=by
    unfold dd
    rw [dt,Qw]
   have hte:eE d sh fx p u m x i=dc d sh fx p u m x i::(cF d sh fx p u m x i).map (·.2.2):=by
    unfold eE
    rw [dt]
   rw [dt] at k62
   have hrl:(cF d sh fx p u m x i).length≤20:=by unfold cF;rw [aLm,List.length_zipIdx];omega
   rw [hin]
   rw [hte] at hw ⊢
   refine ae.mk _ _ k62 ?_
   refine ab.mk _ (aL hx) ?_
   refine aD.loop 124 (σ:=List Ru×Option Ru×Tok×Bool×Tok×List Nat) i.cs.length (fun j s9=>{ nt:=124,tmps:=[(0,ck d sh p m u),(1,.int .i64 (.ofNat x)),(4,.ptr (.loc 4) 0),(6,.ptr (.loc 6) 0),(7,.list (ao s9.2.2.2.1 (dc d sh fx p u m x i::s9.1.map (·.2.2))) s9.2.2.2.2.1 0 (ag (dc d sh fx p u m x i::s9.1.map (·.2.2)))),(93,.int .i64 (.ofNat (aH (i.cs.map fO)))),(94,.int .i64 (.ofNat j))],locs:=(4,Qu)::(6,eP ⟨6,i.name++bU,.ofNat (p + 1),dc d sh fx p u m x i,zTm,(in0 d).name,i.name,d.fixed,s.index,.ofNat (aH (d.aj.map encI)),.ofNat m,cF d sh fx p u m x i⟩ (szG 7 (s9.1.map bu)) s9.2.2.1 (s9.1.map bu))::Qv s9.2.1,fix:=[] })
    (fun _ s9=>{ heap:=[],aA:=s9.2.2.2.2.2 }) (fun j s9=>s9.1=(cF d sh fx p u m x i).take j∧Two [] s9.2.2.2.2.2 (s9.1.map bu) s9.2.2.1 (ag (dc d sh fx p u m x i::s9.1.map (·.2.2))) s9.2.2.2.2.1) ([],none,.tight,false,.tight,[]) (show i.cs.length < q by omega) ⟨rfl,⟨jm.refl [],.inl ⟨rfl,rfl⟩,.inl rfl,fun t h=>by cases h⟩⟩ ?_ ?_
   ·rintro j ⟨l,o1,cR,c2,bg,T1⟩ hj ⟨(hl:l=_),(htw:Two [] T1 _ cR _ bg)⟩
    obtain⟨c,hc⟩ : ∃c,i.cs[j]?=some c:=⟨_,aGe hj⟩
    obtain⟨_,s',Ks,hs1,hs2⟩:=hb.so.at_ x i hx
    rw [hsx] at Ks;cases Ks
    obtain⟨fs,f1,f2,f3,f4⟩:=hs2 j c hc
    have hll:l.length≤20:=by rw [hl,List.length_take];omega
    have Tn:=h64 (n:=q) (u:=u) (S:={ heap:=[],aA:=T1 }) hb hx hc hsx f1 (by omega)
    have J4:l++[gl d sh fx p u m x j c fs]=(cF d sh fx p u m x i).take (j + 1):=by
     have hz:=Bo hc
     unfold cF at hl ⊢
     rw [← List.map_take] at hl ⊢
     rw [map_take _ _ _ _ hz,hl,td hsx f1]
    obtain⟨T2,t1,a1,a2⟩:=dm (LT:=36) (ET:=56) (ei:=Tryz.ti56) (H:=[]) (T0:=[]) (T:=T1) (done:=l.map bu) (new:=[bu (gl d sh fx p u m x j c fs)]) (tok:=cR) (bg:=.tight) (sz2:=7) rfl rfl (by decide) (by decide) (by simp;omega) ⟨htw.e,htw.ha⟩ (.inr rfl)
    have ee1:l.map bu++[bu (gl d sh fx p u m x j c fs)]=(l++[gl d sh fx p u m x j c fs]).map bu:=by simp
    rw [ee1] at a1 a2
    have uf:=htw.GQ a2 (ij (a1 ES .any rfl))
    obtain⟨c3,T3,t2,b1,b2⟩:=oz (LT:=23) (c0:=c2) (c:=false) (bg:=.tight) (H:=[]) (T0:=[]) (T:=T2) (done:=dc d sh fx p u m x i::l.map (·.2.2)) (new:=[(gl d sh fx p u m x j c fs).2.2]) (tok:=bg) rfl (by simp;omega) (by simp) ⟨uf.e,uf.hb⟩
    have Fg:=uf.J3 b2 (ij (b1 ES .any rfl))
    have ee2:dc d sh fx p u m x i::l.map (·.2.2)++[(gl d sh fx p u m x j c fs).2.2]=dc d sh fx p u m x i::(l++[gl d sh fx p u m x j c fs]).map (·.2.2):=by simp
    rw [ee2] at b1 b2 Fg
    generalize gl d sh fx p u m x j c fs=ru at *
    obtain⟨r1,r2,r3⟩:=ru
    rcases o1 with _ | ⟨q1,q2,q3⟩
    all_goals
     refine ah.yes (ltM hj) ?_
     refine ae.mk _ _ Tn ?_
     refine ab.mk _ (PU (r1,r2,r3)) ?_
     refine cj.mk _ _ (a1 _ _ rfl) ?_
     refine ab.mk _ (bs1 r3 23 _ _ _ rfl) ?_
     refine cj.mk _ _ (b1 _ _ rfl) ?_
     refine ab.mk _ (az (by omega)) ?_
     exact⟨(l++[(r1,r2,r3)],some (r1,r2,r3),t1,c3,t2,T3),⟨J4,Fg⟩,rfl,rfl⟩
   ·rintro⟨l,o1,cR,c2,bg,T1⟩ ⟨(hl:l=_),(htw:Two [] T1 _ cR _ bg)⟩
    rw [List.take_of_length_le (by unfold cF;simp)] at hl
    subst hl
    generalize dc d sh fx p u m x i=ty at *
    generalize cF d sh fx p u m x i=rs at *
    have k65:=fun S=>h65 (n:=q) (S:=S) (l:=ty::rs.map (·.2.2)) (c:=c2) (tok:=bg) (by simp;omega) (fun t ht=>⟨(hw t ht).1,by have:=(hw t ht).2;omega⟩) (by simp only [aLc,aLm];omega)
    rw [qG] at k65
    simp only [Bool.not_not] at k65
    rcases o1 with _ | ⟨q1,q2,q3⟩
    ·refine ah.no (geM (by omega)) ?_
     refine ae.mkB (k65 _) (fun h9=>?_) (fun h9=>?_)
     ·rw [ik h9];exact⟨_,rfl,T1,cR,_,rfl,⟨htw.e,htw.ha⟩⟩
     ·rw [il h9];exact⟨_,rfl,T1,cR,_,rfl,⟨htw.e,htw.ha⟩⟩
    ·refine ah.no (geM (by omega)) ?_
     refine ae.mkB (k65 _) (fun h9=>?_) (fun h9=>?_)
     ·rw [ik h9];exact⟨_,rfl,T1,cR,_,rfl,⟨htw.e,htw.ha⟩⟩
     ·rw [il h9];exact⟨_,rfl,T1,cR,_,rfl,⟨htw.e,htw.ha⟩⟩
 obtain⟨r,k6,T,tok,S',rfl,hg⟩:=h
 refine bC k6 (by simp only [cJ,bf,an]) rfl rfl rfl rfl ?_
 have e:=bsN hg
 have e2:V.strip (.agg (eP (dd d sh fx p u m x i) (szG 7 ((dd d sh fx p u m x i).rules.map bu)) tok ((dd d sh fx p u m x i).rules.map bu)))=dH (dd d sh fx p u m x i):=by
  have e3:some (V.list 25 .tight 0 [V.strip (.agg (eP (dd d sh fx p u m x i) (szG 7 ((dd d sh fx p u m x i).rules.map bu)) tok ((dd d sh fx p u m x i).rules.map bu)))])=some (.list 25 .tight 0 [dH (dd d sh fx p u m x i)]):=e
  injection e3 with e4
  injection e4 with _ _ _ e5
  injection e5
 show V.tuple [V.strip (.agg (eP _ _ _ _)),_]=_
 rw [e2]
 rfl
end
@[reducible] noncomputable def Rb (n:Nat):Run:=bV I8 n (fN Tryz.cfg cQ cY bY n)
theorem rb {n id:Nat} {args:List V} {S:St} {r:V×St} (h:RN n (.f id) args S=some r) (hc:I8 id=cQ id:=by rfl) (hn:cY id=false:=by rfl) (hr:bY id=false:=by rfl):Rb n (.f id) args S=some r:=by
 have h2:df bY (cu cY (bV cQ n (fN Tryz.cfg cQ cY bY n))) (.f id) args S=some r:=h
 unfold df cu at h2
 simp only [hn,hr] at h2
 rw [← h2]
 show bV I8 n (fN Tryz.cfg cQ cY bY n) (.f id) args S=_
 unfold bV
 simp only [hc]
theorem Kt {p:Nat} (h:p < 4):(aP (.ofNat p)).2=0:=by
 have:p=0∨p=1∨p=2∨p=3:=by omega
 rcases this with rfl | rfl | rfl | rfl<;>rfl
theorem G1 {d:Dl} {sh:List Sh} (hg:Good d sh) (hm:aE d≤1000):ui d sh (fxN d) (pN d) (aE d) where
 q:=⟨hg.bk,fun i hi=>⟨Na (hg.may i hi).1,fun c hc=>Na ((hg.may i hi).2 c hc)⟩⟩
 so:=hg.so
 sh:=hg.shape
 h0:=hg.h0
 m:=hm
noncomputable def Ku (d:Dl) (sh:List Sh) (u:Lv):dD:={ fid:=7,nt:=68,tmps:=[(1,.ptr (.loc 1) 0),(2,.list 0 .tight 0 []),(3,.int .i64 0),(7,.ptr (.loc 7) 0),(38,.fn 60 2 [] [.ptr (.box 1) 0])],locs:=[(1,bK d),(6,dX u),(7,[.ptr (.box 0) 0])],params:=[39,40],assign:=ma Tryz.f7,body:=mb Tryz.f7,st:=.ready,jj:=none }
noncomputable def st7 (d:Dl) (sh:List Sh) (p k:Nat) (u:Lv):St:={ heap:=[.cells 72 (oF d sh p k u),.cells 69 [.ptr (.box 0) 0],.loop (Ku d sh u)],aA:=[] }
theorem OV {n:Nat} {d:Dl} {sh:List Sh} {p k j i:Nat} {u:Lv} (hk:k≤100000) (hn:1≤n):RN n (.y 2) [.int .i64 (.ofNat j),.int .i64 (.ofNat i)] (st7 d sh p k u)=some (.bool true,st7 d sh p (k + 1) u):=by
 obtain⟨q,rfl⟩:=up (show 1≤n by omega)
 refine fU ?_
 refine fH (r:=Ku d sh u) (nt:=68) (fx:=[1,6,7]) rfl rfl rfl rfl rfl rfl rfl ?_
 refine ab.mk _ (az (j:=k) (by omega)) ?_
 conv=>whnf
 rfl
@[reducible] noncomputable def Kv (d:Dl) (shs:List V) (zo:Nat) (bo:Bool) (ro:List V) (m:Nat) (u:Lv):List V:=[.int .u8 d.kind,.int .i64 d.params,.str d.name,
  .int .u8 d.ty.k,.int .i64 d.ty.n,.str d.ty.s,.list (ao d.ty.a d.ty.ls) (aw d.ty.b) 0 (d.ty.ls.map enc),.list (ao d.ty.c d.ty.ts) (aw d.ty.d) 0 (ag d.ty.ts),
  .int .u8 d.val.k,.int .i64 d.val.n,.str d.val.s,.list (ao d.val.a d.val.ls) (aw d.val.b) 0 (d.val.ls.map enc),.list (ao d.val.c d.val.ts) (aw d.val.d) 0 (ag d.val.ts),
  .int .i64 d.fixed,.list 7 .no 0 (d.aj.map encI),.list 7 .no 0 shs,.list zo (aw bo) 0 ro,.int .i64 u.c,.int .i64 u.p0,.int .i64 u.p1,.int .i64 u.p2,.int .i64 u.p3,.int .i64 (.ofNat m),.bool false]
theorem To (d:Dl) (shs:List V) (zo:Nat) (bo:Bool) (ro:List V) (m:Nat) (u:Lv) (B:List Blk) :
 rP { nt:=68,tmps:=[(1,.ptr (.loc 1) 0),(2,.list 0 .tight 0 []),(3,.int .i64 0),(7,.ptr (.loc 7) 0),(38,.fn 60 2 [] [.ptr (.box 1) 0])],locs:=[(1,bK d),(6,dX u),(7,[.ptr (.box 0) 0])],fix:=[] } { heap:=.cells 72 (Kv d shs zo bo ro m u)::B,aA:=[] } =
 some { nt:=68,tmps:=[(1,.ptr (.loc 1) 0),(2,.list 0 .tight 0 []),(3,.int .i64 0),(7,.ptr (.loc 7) 0)],locs:=[(1,bK d),(6,dX u),(7,[.imm 0 (Kv d shs zo bo ro m u)])],fix:=[] }:=by
 rcases d with⟨k,p,nm,⟨k1,n1,s1,a1,b1,c1,d1,l1,t1⟩,⟨k2,n2,s2,a2,b2,c2,d2,l2,t2⟩,fx,is⟩
 cases b1<;>cases d1<;>cases b2<;>cases d2<;>cases bo<;>rfl
@[reducible] noncomputable def Tp:Option (Inf×Nat×Bool)→List (Nat×List V)
  | none=>[]
  | some i=>[(10,eP i.1 i.2.1 (aw i.2.2) (i.1.rules.map bu))]
theorem nH (n:Nat) (rows:List V):∃z b,gK n rows=.list z (aw b) 0 rows:=by
 cases rows with
 | nil=>exact⟨0,true,rfl⟩
 | cons r rows=>exact⟨n,false,rfl⟩
theorem oH {i:Inf} {z:Nat} {b:Bool} (h:gK 7 (i.rules.map bu)=.list z (aw b) 0 (i.rules.map bu)):dH i=.agg (eP i z (aw b) (i.rules.map bu)):=by
 unfold dH
 rw [h]
theorem Tq {i:Inf} {z:Nat} {b:Bool} (h:gK 7 (i.rules.map bu)=.list z (aw b) 0 (i.rules.map bu)):buildSlice Tryz.cfg 31 1 [(0,.agg (eP i z (aw b) (i.rules.map bu)))]=some (.list 25 .tight 0 [dH i]):=by
 have e1:ai (.list (ao i.ty.a i.ty.ls) (aw i.ty.b) 0 (i.ty.ls.map enc))=.list (ao i.ty.a i.ty.ls) (aw i.ty.b) 0 (i.ty.ls.map enc):=by cases i.ty.b<;>rfl
 have e2:ai (.list (ao i.ty.c i.ty.ts) (aw i.ty.d) 0 (ag i.ty.ts))=.list (ao i.ty.c i.ty.ts) (aw i.ty.d) 0 (ag i.ty.ts):=by cases i.ty.d<;>rfl
 have e3:ai (.list (ao i.val.a i.val.ls) (aw i.val.b) 0 (i.val.ls.map enc))=.list (ao i.val.a i.val.ls) (aw i.val.b) 0 (i.val.ls.map enc):=by cases i.val.b<;>rfl
 have e4:ai (.list (ao i.val.c i.val.ts) (aw i.val.d) 0 (ag i.val.ts))=.list (ao i.val.c i.val.ts) (aw i.val.d) 0 (ag i.val.ts):=by cases i.val.d<;>rfl
 have e5:=di z b (i.rules.map bu)
 rw [oH h]
 show some (V.list 25 .tight 0 [.agg [.int .u8 i.kind,.str i.name,.int .i64 i.params,.int .u8 i.ty.k,.int .i64 i.ty.n,.str i.ty.s,ai (.list (ao i.ty.a i.ty.ls) (aw i.ty.b) 0 (i.ty.ls.map enc)),ai (.list (ao i.ty.c i.ty.ts) (aw i.ty.d) 0 (ag i.ty.ts)),
  .int .u8 i.val.k,.int .i64 i.val.n,.str i.val.s,ai (.list (ao i.val.a i.val.ls) (aw i.val.b) 0 (i.val.ls.map enc)),ai (.list (ao i.val.c i.val.ts) (aw i.val.d) 0 (ag i.val.ts)),
  .int .i64 0,.str i.block,.str i.of_,.int .i64 i.fixed,.int .i64 i.index,.int .i64 0,.int .i64 0,.int .i64 i.motives,.int .i64 i.minors,ai (.list z (aw b) 0 (i.rules.map bu)),.int .i64 0,.bool false]])=_
 rw [e1,e2,e3,e4,e5]
theorem h7v {d:Dl} {W n:Nat} (hd:qO d W) (hls:d.ty.ls.length≤1000∧d.val.ls.length≤1000) (hn:3 * W + 40000000≤n)
 (hT:∀sh,ofR d=(sh,0)→∀q∈d.aj.zipIdx 0,∀t∈eE d sh (fxN d) (pN d) (aP d.params).1 (aE d) q.2 q.1,Sm t∧wt t + 40≤n) :
 Ep (fN Tryz.cfg cQ cY bY n) n [eY d]=some (.tuple [gK 25 ((fw d).1.map dH),.int .i64 (fw d).2]):=by
 obtain⟨k,rfl⟩:=up (show 2≤n by omega)
 have gQ:=hd.nm.few
 have Mv:=h17 (n:=k + 2) (S:=St.empty) hd hls hn
 have h:∃v,sI 7 7 Tryz.f7 (Rb (k + 2)) (k + 2) [eY d]=some v∧v=.tuple [gK 25 ((fw d).1.map dH),.int .i64 (fw d).2]:=by
  refine Dv (id:=7) (m:=7) (fn:=Tryz.f7) ?_
  refine fm.cons (nt:=68) ?_
  refine fm.cons (nt:=68) ?_
  rcases zG hd with⟨e,he,ho⟩ | ⟨s0,r,ho,hg⟩
  ·rw [ho] at Mv
   have Kw : RN (k + 2) (.f 17) [eY d] St.empty=some (.tuple [.list 0 .tight 0 [],.int .i64 e],St.empty):=Mv
   refine ae.mk _ _ (rb Kw) ?_
   refine fm.cons (nt:=68) ?_
   refine ah.yes (by rw [bW];simp [he]) ?_
   have hro:fw d=([],e):=by
    unfold fw
    rw [ho]
    split
    ·rename_i h9;exact absurd h9 he
    ·rfl
   rw [hro]
   exact⟨_,rfl,rfl⟩
  ·rw [ho] at Mv
   have Kw : RN (k + 2) (.f 17) [eY d] St.empty=some (.tuple [.list 7 .no 0 ((s0::r).map bx),.int .i64 0],St.empty):=Mv
   have hpp:=hg.bk.hpp
   have hp4:=hg.bk.p4
   have hm1:aE d≤1000:=by
    have:=mv hd.nm.cs d.aj.length
    rw [List.take_length] at this
    unfold aE;omega
   have hba:=G1 hg hm1
   have Qx:=h18 (n:=k + 2) (i:=d.params) (S:=St.empty) (by omega)
   have hpo:(aP d.params).2=0:=by rw [hpp];exact Kt hp4
   rw [hpo] at Qx
   generalize hu:(aP d.params).1=u at *
   refine ae.mk _ _ (rb Kw) ?_
   refine fm.cons (nt:=68) ?_
   refine ah.no rfl ?_
   refine fm.cons (nt:=68) ?_
   refine ae.mk _ _ (rb Qx) ?_
   refine fm.cons (nt:=68) ?_
   refine ah.no rfl ?_
   refine fm.cons (nt:=68) ?_
   have J9:=h19 (n:=k + 2) (m:=pN d) (S:=St.empty) (by omega) (by omega)
   rw [← hpp] at J9
   refine ae.mk _ _ (rb J9) ?_
   refine fm.cons (nt:=68) ?_
   obtain⟨S9,e1,e2⟩:=Th (n:=k + 1) (d:=d) (sh:=s0::r) (p:=pN d) (m:=0) (u:=u) (b:=2) (B:=[.loop (Ku d (s0::r) u)]) (T:=[])
    (P:=fun j i S=>S=st7 d (s0::r) (pN d) (((d.aj.take j).map fun i=>i.cs.length).sum + i) u) (Q:=fun _=>False) (by omega) (fun i hi=>by have:=hd.nm.cs i hi;omega) hd.nm.smD rfl
    (fun j y i S hy hi e=>by
     subst e
     have:=mv hd.nm.cs j
     have h2:d.aj.length * 20≤10 * 20:=Nat.mul_le_mul (by omega) (by omega)
     have hyc:=hd.nm.cs y (aMg hy)
     exact .inl ⟨_,OV (by omega) (by omega),rfl⟩)
    (fun j y S hy e=>by rw [e,qb hy,Nat.add_zero])
   have e3:S9=st7 d (s0::r) (pN d) (aE d) u:=by
    have:=e2.elim id False.elim
    rw [this,List.take_length]
    rfl
   subst e3
   have Ts : Rb (k + 2) (.f 20) [.ptr (.box 0) 0] { heap:=[.cells 72 (oF d (s0::r) (pN d) 0 u)],aA:=[] }=_:=rb (Tg (n:=k + 2) (by omega))
   refine ae.mk _ _ Ts ?_
   refine aD.mk _ _ _ (dR (f:=60) (top:=2) (first:=[]) (cap:=[.ptr (.box 1) 0]) (l:=Ku d (s0::r) u) (r:=Ku d (s0::r) u) (v:=.tuple []) (by rfl) (by rfl) (rb e1) (by rfl) (.inl rfl)) ?_
   refine fm.nil (nt:=68) ?_
   refine⟨_,To d ((s0::r).map bx) (ao false (fg (pN d))) (fg (pN d)).isEmpty ((fg (pN d)).map enc) (aE d) u _,?_⟩
   refine aD.loop 68 (σ:=Option (Inf×Nat×Bool)×List Inf×Tok×List Nat) d.aj.length (fun j s9=>{ nt:=68,tmps:=[(7,.ptr (.loc 7) 0),(8,.list (szG 25 (s9.2.1.map dH)) s9.2.2.1 0 (s9.2.1.map dH)),(50,.int .i64 (.ofNat (aH (d.aj.map encI)))),(51,.int .i64 (.ofNat j))],locs:=(1,bK d)::(6,dX u)::(7,[ck d (s0::r) (pN d) (aE d) u])::Tp s9.1,fix:=[] })
    (fun _ s9=>{ heap:=[],aA:=s9.2.2.2 }) (fun j s9=>bO (rj d (s0::r) (fxN d) (pN d) u (aE d)) ((d.aj.zipIdx 0).take j)=some s9.2.1∧av [] s9.2.2.2 (s9.2.1.map dH) s9.2.2.1) (none,[],.tight,[]) (show d.aj.length < k + 2 by omega) ⟨rfl,⟨E8 [],.inl ⟨rfl,rfl⟩⟩⟩ ?_ ?_
   ·rintro j ⟨o,out,tok,T1⟩ hj ⟨(gU:_=some out),(hgr:av [] T1 (out.map dH) tok)⟩
    obtain⟨x,hx⟩ : ∃x,d.aj[j]?=some x:=⟨_,aGe hj⟩
    obtain⟨_,s1,hsx,_,_⟩:=hg.so.at_ j x hx
    have hol:=eK gU
    rw [List.length_take,List.length_zipIdx] at hol
    have hz:=qE hx
    have Kx:=h21 (n:=k + 2) (u:=u) (S:={ heap:=[],aA:=T1 }) hba hx hsx hg.sm (by omega) (hT (s0::r) ho (x,j) (aMg hz))
    cases bt:(eE d (s0::r) (fxN d) (pN d) u (aE d) j x).all cL with
    | false=>
     rw [bt] at Kx
     generalize dd d (s0::r) (fxN d) (pN d) u (aE d) j x=io at Kx
     obtain⟨z,b,hz9⟩:=nH 7 (io.rules.map bu)
     have Ky : RN (k + 2) (.f 21) [ck d (s0::r) (pN d) (aE d) u,.int .i64 (.ofNat j)] { heap:=[],aA:=T1 }=some (.tuple [.agg (eP io z (aw b) (io.rules.map bu)),.bool false],{ heap:=[],aA:=T1 }):=by rw [← oH hz9];exact Kx
     have hro:fw d=([],4):=by
      have:rV d (s0::r) (fxN d) (pN d) u (aE d)=none:=gA hz (by unfold rj;rw [bt])
      unfold fw
      rw [ho,hu]
      simp only [this]
     rw [hro]
     rcases o with _ | i0
     all_goals
      refine ah.yes (ltM hj) ?_
      refine ae.mk _ _ (rb Ky) ?_
      exact⟨_,rfl,rfl⟩
    | true=>
     rw [bt] at Kx
     obtain⟨T5,cA,a1,a2⟩:=dm (LT:=31) (ET:=38) (ei:=Tryz.ti38) (H:=[]) (T0:=[]) (T:=T1) (done:=out.map dH) (new:=[dH (dd d (s0::r) (fxN d) (pN d) u (aE d) j x)]) (tok:=tok) (bg:=.tight) (sz2:=25) rfl rfl (by decide) (by decide) (by simp;omega) hgr (.inr rfl)
     have ee:out.map dH++[dH (dd d (s0::r) (fxN d) (pN d) u (aE d) j x)]=(out++[dd d (s0::r) (fxN d) (pN d) u (aE d) j x]).map dH:=by simp
     rw [ee] at a1 a2
     have hnx:=fj hz gU (show rj d (s0::r) (fxN d) (pN d) u (aE d) (x,j)=some (dd d (s0::r) (fxN d) (pN d) u (aE d) j x) by unfold rj;rw [bt])
     generalize dd d (s0::r) (fxN d) (pN d) u (aE d) j x=io at *
     obtain⟨z,b,hz9⟩:=nH 7 (io.rules.map bu)
     have Ky : RN (k + 2) (.f 21) [ck d (s0::r) (pN d) (aE d) u,.int .i64 (.ofNat j)] { heap:=[],aA:=T1 }=some (.tuple [.agg (eP io z (aw b) (io.rules.map bu)),.bool true],{ heap:=[],aA:=T1 }):=by rw [← oH hz9];exact Kx
     rcases o with _ | i0
     all_goals
      refine ah.yes (ltM hj) ?_
      refine ae.mk _ _ (rb Ky) ?_
      refine ab.mk _ (Tq hz9) ?_
      refine cj.mk _ _ (a1 _ _ rfl) ?_
      refine ab.mk _ (az (by omega)) ?_
      exact⟨(some (io,z,b),out++[io],cA,T5),⟨hnx,a2⟩,rfl,rfl⟩
   ·rintro⟨o,out,tok,T1⟩ ⟨(gU:_=some out),(hgr:av [] T1 (out.map dH) tok)⟩
    rw [List.take_of_length_le (by simp)] at gU
    have hro:fw d=(out,0):=by
     have:rV d (s0::r) (fxN d) (pN d) u (aE d)=some out:=gU
     unfold fw
     rw [ho,hu]
     simp only [this]
    rw [hro]
    have vk:V.tuple [ai (.list (szG 25 (out.map dH)) tok 0 (out.map dH)),.int .i64 0]=.tuple [gK 25 (out.map dH),.int .i64 0]:=by rw [gz hgr]
    rcases o with _ | i0
    all_goals
     refine ah.no (geM (by omega)) ?_
     exact⟨_,rfl,vk⟩
 obtain⟨v,h1,rfl⟩:=h
 exact h1
theorem h7 {d:Dl} {W n:Nat} {S:St} (hd:qO d W) (hls:d.ty.ls.length≤1000∧d.val.ls.length≤1000) (hn:3 * W + 40000000≤n)
 (hT:∀sh,ofR d=(sh,0)→∀q∈d.aj.zipIdx 0,∀t∈eE d sh (fxN d) (pN d) (aP d.params).1 (aE d) q.2 q.1,Sm t∧wt t + 40≤n) :
 RN n (.f 7) [eY d] S=some (.tuple [gK 25 ((fw d).1.map dH),.int .i64 (fw d).2],S):=
 ue rfl rfl rfl rfl (by simp only [ej,an]) (h7v hd hls hn hT)
noncomputable def Bw (c:Ct):Bool:=!ld c.ty && !iLt 100 (.ofNat c.name.length)
noncomputable def yj (i:In):Bool:=!iLt 10 (.ofNat i.cs.length) && (!ld i.ty && (!iLt 100 (.ofNat i.name.length) && i.cs.all Bw))
noncomputable def qP (d:Dl):Bool:=!iLt 5 (.ofNat d.aj.length) && (!ld d.ty && (!ld d.val && (!iLt 100 (.ofNat d.name.length) && d.aj.all yj)))
structure Qy (d:Dl) (W:Nat):Prop where
 ty:wt d.ty≤W
 val:wt d.val≤W
 all:∀i∈d.aj,wt i.ty≤W∧i.cs.length≤W∧∀c∈i.cs,wt c.ty≤W
 len:d.aj.length≤W
section
variable {n:Nat} {d:Dl} {S:St}
theorem h5 {W:Nat} (hw:Qy d W) (hn:W + 20≤n):RN n (.f 5) [eY d] S=some (.bool (qP d),S):=by
 obtain⟨q,rfl⟩:=up (show 1≤n by omega)
 have hwl:=hw.len
 have h:∃r,frame Tryz.cfg (RN q) q 5 [eY d] St.empty=some r∧∃S',r=(.bool (qP d),S'):=by
  refine aU (fn:=Tryz.f5) (p:=fun r=>∃S',r=(.bool (qP d),S')) rfl rfl ?_
  have fin:∀(b:Bool) (r:V×St),qP d=b→(∃S',r=(.bool b,S'))→∃S',r=(.bool (qP d),S'):=fun b r h1 h2=>by rw [h1];exact h2
  refine ah.mk (fun c1=>?_) (fun c1=>?_)
  ·rw [aq,aLm] at c1
   exact⟨_,rfl,fin false _ (by unfold qP;rw [c1];rfl) ⟨_,rfl⟩⟩
  rw [aq,aLm] at c1
  have hl5:d.aj.length≤5:=by
   rw [cm,decide_eq_false_iff_not] at c1
   simp only [aOn] at c1;omega
  refine ae.mkB (h14 (by have:=hw.ty;omega)) (fun c2=>?_) (fun c2=>?_)
  ·exact⟨_,rfl,fin false _ (by unfold qP;rw [c1,c2];rfl) ⟨_,rfl⟩⟩
  refine ae.mkB (h14 (by have:=hw.val;omega)) (fun c3=>?_) (fun c3=>?_)
  ·exact⟨_,rfl,fin false _ (by unfold qP;rw [c1,c2,c3];rfl) ⟨_,rfl⟩⟩
  refine ah.mk (fun c4=>?_) (fun c4=>?_)
  ·rw [aq] at c4
   exact⟨_,rfl,fin false _ (by unfold qP;rw [c1,c2,c3,c4];rfl) ⟨_,rfl⟩⟩
  rw [aq] at c4
  refine aD.loop 95 (σ:=Option Nat) d.aj.length (fun j o=>{ nt:=95,tmps:=[(1,.ptr (.loc 1) 0),(3,.int .i64 (.ofNat j))],locs:=[(1,bK d)],fix:=[] }) (fun _ _=>St.empty)
   (fun j _=>d.aj.all yj=(d.aj.drop j).all yj) none (show d.aj.length < q by omega) rfl ?_ ?_
  ·intro j o hj hp
   obtain⟨x,hx⟩ : ∃x,d.aj[j]?=some x:=⟨_,aGe hj⟩
   obtain⟨w1,w2,w3⟩:=hw.all x (aMg hx)
   rw [fz hx] at hp
   have bad:yj x=false→qP d=false:=fun h=>by unfold qP;rw [c1,c2,c3,c4,hp,h];rfl
   refine ah.yes (ltM hj) ?_
   refine ab.mk _ (aL hx) ?_
   refine ah.mk (fun e1=>?_) (fun e1=>?_)
   ·rw [aq,aLm] at e1
    exact⟨_,rfl,fin false _ (bad (by unfold yj;rw [e1];rfl)) ⟨_,rfl⟩⟩
   rw [aq,aLm] at e1
   refine ab.mk _ (aL hx) ?_
   refine ae.mkB (h14 (by omega)) (fun e2=>?_) (fun e2=>?_)
   ·exact⟨_,rfl,fin false _ (bad (by unfold yj;rw [e1,e2];rfl)) ⟨_,rfl⟩⟩
   refine ab.mk _ (aL hx) ?_
   refine ah.mk (fun e3=>?_) (fun e3=>?_)
   ·rw [aq] at e3
    exact⟨_,rfl,fin false _ (bad (by unfold yj;rw [e1,e2,e3];rfl)) ⟨_,rfl⟩⟩
   rw [aq] at e3
   have Qz:x.cs.length≤10:=by
    rw [cm,decide_eq_false_iff_not] at e1
    simp only [aOn] at e1;omega
   refine aD.loop 95 (σ:=Unit) x.cs.length (fun k _=>{ nt:=95,tmps:=[(1,.ptr (.loc 1) 0),(3,.int .i64 (.ofNat j)),(4,.int .i64 (.ofNat k))],locs:=[(1,bK d)],fix:=[] }) (fun _ _=>St.empty)
    (fun k _=>x.cs.all Bw=(x.cs.drop k).all Bw) () (show x.cs.length < q by omega) rfl ?_ ?_
   ·intro k _ hk hp2
    obtain⟨c,hc⟩ : ∃c,x.cs[k]?=some c:=⟨_,aGe hk⟩
    have w4:=w3 c (aMg hc)
    rw [fz hc] at hp2
    have QA:Bw c=false→qP d=false:=fun h=>bad (by unfold yj;rw [hp2,h];simp)
    refine ab.mk _ (aL hx) ?_
    refine ah.yes (ltM hk) ?_
    refine ab.mk _ (aL hx) ?_
    refine ab.mk _ (ec hc) ?_
    refine ae.mkB (h14 (by omega)) (fun e4=>?_) (fun e4=>?_)
    ·exact⟨_,rfl,fin false _ (QA (by unfold Bw;rw [e4];rfl)) ⟨_,rfl⟩⟩
    refine ab.mk _ (aL hx) ?_
    refine ab.mk _ (ec hc) ?_
    refine ah.mk (fun e5=>?_) (fun e5=>?_)
    ·rw [aq] at e5
     exact⟨_,rfl,fin false _ (QA (by unfold Bw;rw [e4,e5];rfl)) ⟨_,rfl⟩⟩
    rw [aq] at e5
    rw [show Bw c=true by unfold Bw;rw [e4,e5];rfl] at hp2
    refine ab.mk _ (az (by omega)) ?_
    exact⟨(),hp2,rfl,rfl⟩
   ·intro _ hp2
    rw [List.drop_length] at hp2
    rw [show yj x=true by unfold yj;rw [e1,e2,e3,hp2];rfl] at hp
    refine ab.mk _ (aL hx) ?_
    refine ah.no (geM (by omega)) ?_
    refine ab.mk _ (az (by omega)) ?_
    exact⟨none,hp,rfl,rfl⟩
  ·intro o hp
   rw [List.drop_length] at hp
   refine ah.no (geM (by omega)) ?_
   exact⟨_,rfl,fin true _ (by unfold qP;rw [c1,c2,c3,c4,hp];rfl) ⟨_,rfl⟩⟩
 obtain⟨r,k6,S',rfl⟩:=h
 exact bC k6 (by simp only [ej,an]) rfl rfl rfl rfl rfl
end
noncomputable def kc (a b:Ru):Bool:=decide (a.1=b.1) && (iEq (.ofNat a.2.1) (.ofNat b.2.1) && dz a.2.2 b.2.2)
noncomputable def iL (i j:Inf):Bool:=iEq i.kind j.kind && (decide (i.name=j.name) && (iEq i.params j.params && (decide (i.block=j.block) && (decide (i.of_=j.of_) && (iEq i.fixed j.fixed && (iEq i.index j.index && (iEq i.motives j.motives && (iEq i.minors j.minors && (decide (i.rules.length=j.rules.length) &&
 ((i.rules.zip j.rules).all (fun q=>kc q.1 q.2) && (dz i.ty j.ty && dz i.val j.val)))))))))))
theorem DG (a:Ru):kc a a=true:=by unfold kc;simp [bW,xk]
theorem Fv (i:Inf):iL i i=true:=by
 have h:(i.rules.zip i.rules).all (fun q=>kc q.1 q.2)=true:=by
  rw [List.all_eq_true]
  intro q hq
  obtain⟨a,b⟩:=q
  have:a=b:=by
   obtain⟨k,hk⟩:=List.mem_iff_getElem?.1 hq
   rw [List.getElem?_zip_eq_some] at hk
   obtain⟨h1,h2⟩:=hk
   rw [h1] at h2;cases h2;rfl
  subst this
  exact DG a
 unfold iL
 rw [h]
 simp [bW,xk]
structure G2 (i:Inf) (n:Nat):Prop where
 ty:Sm i.ty∧eu i.ty < 1000000000∧wt i.ty + 1≤n
 val:Sm i.val∧eu i.val < 1000000000∧wt i.val + 1≤n
 rules:i.rules.length < n∧i.rules.length≤1000000∧∀r∈i.rules,Sm r.2.2∧eu r.2.2 < 1000000000∧wt r.2.2 + 1≤n
theorem G3 {rs:List Ru} {k:Nat} {r:Ru} (h:rs[k]?=some r):indexAddr Tryz.cfg 36 (.list 7 .no 0 (rs.map bu)) (.int .i64 (.ofNat k))=some (.imm 0 (gT r)):=dB (ei:=Tryz.ti56) rfl rfl h
section
variable {n:Nat} {S:St}
theorem h9 {i j:Inf} (hi:G2 i n):RN (n + 1) (.f 9) [dH i,dH j] S=some (.bool (iL i j),S):=by
 obtain⟨zi,bi,hzi⟩:=nH 7 (i.rules.map bu)
 obtain⟨zj,bj,hzj⟩:=nH 7 (j.rules.map bu)
 have hni:ai (.list zi (aw bi) 0 (i.rules.map bu))=.list zi (aw bi) 0 (i.rules.map bu):=di zi bi _
 have vi:∀(i:Inf),V.strip (dH i)=dH i:=fun i=>by
  have e1:ai (.list (ao i.ty.a i.ty.ls) (aw i.ty.b) 0 (i.ty.ls.map enc))=.list (ao i.ty.a i.ty.ls) (aw i.ty.b) 0 (i.ty.ls.map enc):=di _ _ _
  have e2:ai (.list (ao i.ty.c i.ty.ts) (aw i.ty.d) 0 (ag i.ty.ts))=.list (ao i.ty.c i.ty.ts) (aw i.ty.d) 0 (ag i.ty.ts):=di _ _ _
  have e3:ai (.list (ao i.val.a i.val.ls) (aw i.val.b) 0 (i.val.ls.map enc))=.list (ao i.val.a i.val.ls) (aw i.val.b) 0 (i.val.ls.map enc):=di _ _ _
  have e4:ai (.list (ao i.val.c i.val.ts) (aw i.val.d) 0 (ag i.val.ts))=.list (ao i.val.c i.val.ts) (aw i.val.d) 0 (ag i.val.ts):=di _ _ _
  have e5:=E9 7 (i.rules.map bu)
  show V.agg [.int .u8 i.kind,.str i.name,.int .i64 i.params,.int .u8 i.ty.k,.int .i64 i.ty.n,.str i.ty.s,ai (.list (ao i.ty.a i.ty.ls) (aw i.ty.b) 0 (i.ty.ls.map enc)),ai (.list (ao i.ty.c i.ty.ts) (aw i.ty.d) 0 (ag i.ty.ts)),
   .int .u8 i.val.k,.int .i64 i.val.n,.str i.val.s,ai (.list (ao i.val.a i.val.ls) (aw i.val.b) 0 (i.val.ls.map enc)),ai (.list (ao i.val.c i.val.ts) (aw i.val.d) 0 (ag i.val.ts)),
   .int .i64 0,.str i.block,.str i.of_,.int .i64 i.fixed,.int .i64 i.index,.int .i64 0,.int .i64 0,.int .i64 i.motives,.int .i64 i.minors,ai (gK 7 (i.rules.map bu)),.int .i64 0,.bool false]=dH i
  rw [e1,e2,e3,e4,e5]
  rfl
 have hpu:allB V.pure [dH i,dH j]=true:=by
  rw [oH hzi,oH hzj]
  rfl
 have h:∃r,frame Tryz.cfg (RN n) n 9 [dH i,dH j] St.empty=some r∧∃S',r=(.bool (iL i j),S'):=by
  rw [oH hzi,oH hzj]
  refine aU (fn:=Tryz.f9) (p:=fun r=>∃S',r=(.bool (iL i j),S')) rfl rfl ?_
  have fin:∀(b:Bool) (r:V×St),iL i j=b→(∃S',r=(.bool b,S'))→∃S',r=(.bool (iL i j),S'):=fun b r h1 h2=>by rw [h1];exact h2
  refine ah.mk (fun c1=>?_) (fun c1=>?_)
  ·exact⟨_,rfl,fin false _ (by unfold iL;rw [ik c1];rfl) ⟨_,rfl⟩⟩
  refine ab.mkB uT (fun c2=>?_) (fun c2=>?_)
  ·exact⟨_,rfl,fin false _ (by unfold iL;rw [ik c2];simp) ⟨_,rfl⟩⟩
  refine ah.mk (fun c3=>?_) (fun c3=>?_)
  ·exact⟨_,rfl,fin false _ (by unfold iL;rw [ik c3];simp) ⟨_,rfl⟩⟩
  refine ah.no rfl ?_
  refine ab.mkB uT (fun c4=>?_) (fun c4=>?_)
  ·exact⟨_,rfl,fin false _ (by unfold iL;rw [ik c4];simp) ⟨_,rfl⟩⟩
  refine ab.mkB uT (fun c5=>?_) (fun c5=>?_)
  ·exact⟨_,rfl,fin false _ (by unfold iL;rw [ik c5];simp) ⟨_,rfl⟩⟩
  refine ah.mk (fun c6=>?_) (fun c6=>?_)
  ·exact⟨_,rfl,fin false _ (by unfold iL;rw [ik c6];simp) ⟨_,rfl⟩⟩
  refine ah.mk (fun c7=>?_) (fun c7=>?_)
  ·exact⟨_,rfl,fin false _ (by unfold iL;rw [ik c7];simp) ⟨_,rfl⟩⟩
  refine ah.no rfl ?_
  refine ah.no rfl ?_
  refine ah.mk (fun c8=>?_) (fun c8=>?_)
  ·exact⟨_,rfl,fin false _ (by unfold iL;rw [ik c8];simp) ⟨_,rfl⟩⟩
  refine ah.mk (fun c9=>?_) (fun c9=>?_)
  ·exact⟨_,rfl,fin false _ (by unfold iL;rw [ik c9];simp) ⟨_,rfl⟩⟩
  refine ah.no rfl ?_
  refine ab.mk (.bool false) rfl ?_
  refine ah.mk (fun c10=>?_) (fun c10=>?_)
  ·have vr:=ik c10
   rw [aq,aq,aLm,aLm,fQ] at vr
   exact⟨_,rfl,fin false _ (by unfold iL;rw [vr];simp) ⟨_,rfl⟩⟩
  have vr:=il c10
  rw [aq,aq,aLm,aLm,fQ] at vr
  have hlen:i.rules.length=j.rules.length:=by simpa using vr
  have hrl:=hi.rules.1
  have Oy:=hi.rules.2.1
  have Nc:∀b:Bool,((i.rules.zip j.rules).all fun q=>kc q.1 q.2)=b→iL i j=(b && (dz i.ty j.ty && dz i.val j.val)):=fun b h=>by
   unfold iL
   rw [il c1,il c2,il c3,il c4,il c5,il c6,il c7,il c8,il c9,vr,h]
   simp
  refine aD.loop 174 (σ:=Unit) i.rules.length (fun k _=>{ nt:=174,tmps:=[(2,.ptr (.loc 2) 0),(3,.ptr (.loc 3) 0),(5,.int .i64 (.ofNat k))],locs:=[(2,eP i zi (aw bi) (i.rules.map bu)),(3,eP j zj (aw bj) (j.rules.map bu))],fix:=[] }) (fun _ _=>St.empty)
   (fun k _=>((i.rules.zip j.rules).all fun q=>kc q.1 q.2)=((i.rules.zip j.rules).drop k).all fun q=>kc q.1 q.2) () hrl rfl ?_ ?_
  ·intro k _ hk hp
   obtain⟨a,ha⟩ : ∃a,i.rules[k]?=some a:=⟨_,aGe hk⟩
   obtain⟨b,hb⟩ : ∃b,j.rules[k]?=some b:=⟨_,aGe (by omega)⟩
   have hz:(i.rules.zip j.rules)[k]?=some (a,b):=by rw [List.getElem?_zip_eq_some];exact⟨ha,hb⟩
   obtain⟨q1,q2,q3⟩:=hi.rules.2.2 a (aMg ha)
   rw [fz hz] at hp
   have hia:indexAddr Tryz.cfg 36 (.list zi (aw bi) 0 (i.rules.map bu)) (.int .i64 (.ofNat k))=some (.imm 0 (gT a)):=by
    rw [← hzi]
    cases hr:i.rules with
    | nil=>rw [hr] at ha;simp at ha
    | cons x r=>rw [hr] at ha;exact G3 ha
   have hjb:indexAddr Tryz.cfg 36 (.list zj (aw bj) 0 (j.rules.map bu)) (.int .i64 (.ofNat k))=some (.imm 0 (gT b)):=by
    rw [← hzj]
    cases hr:j.rules with
    | nil=>rw [hr] at hb;simp at hb
    | cons x r=>rw [hr] at hb;exact G3 hb
   have bad:kc a b=false→iL i j=false:=fun h=>by
    rw [h] at hp
    rw [Nc _ hp];rfl
   obtain⟨a1,a2,a3⟩:=a
   obtain⟨b1,b2,b3⟩:=b
   refine ah.yes (by rw [aq,aLm];exact dj hk) ?_
   refine ab.mk _ hia ?_
   refine ab.mk _ hjb ?_
   refine ab.mkB uT (fun e1=>?_) (fun e1=>?_)
   ·exact⟨_,rfl,fin false _ (bad (by unfold kc;simp only [ik e1];rfl)) ⟨_,rfl⟩⟩
   refine ab.mk _ hia ?_
   refine ab.mk _ hjb ?_
   refine ah.mk (fun e2=>?_) (fun e2=>?_)
   ·exact⟨_,rfl,fin false _ (bad (by unfold kc;simp only [ik e2];simp)) ⟨_,rfl⟩⟩
   refine ab.mk _ hia ?_
   refine ab.mk _ hjb ?_
   refine ae.mkB (k27 q1 q2 q3) (fun e3=>?_) (fun e3=>?_)
   ·rw [show kc (a1,a2,a3) (b1,b2,b3)=true by unfold kc;simp only [il e1,il e2,e3];rfl] at hp
    refine ab.mk _ (az (by omega)) ?_
    exact⟨(),hp,rfl,rfl⟩
   ·exact⟨_,rfl,fin false _ (bad (by unfold kc;simp only [e3];simp)) ⟨_,rfl⟩⟩
  ·intro _ hp
   rw [List.drop_of_length_le (by rw [List.length_zip];exact Nat.min_le_left _ _)] at hp
   have hk:=Nc true hp
   refine ah.no (by rw [aq,aLm];exact eS (by omega)) ?_
   refine ae.mkB (k27 hi.ty.1 hi.ty.2.1 hi.ty.2.2) (fun e1=>?_) (fun e1=>?_)
   ·refine ae.mkB (k27 hi.val.1 hi.val.2.1 hi.val.2.2) (fun e2=>?_) (fun e2=>?_)
    ·exact⟨_,rfl,fin true _ (by rw [hk,e1,e2];rfl) ⟨_,rfl⟩⟩
    ·exact⟨_,rfl,fin false _ (by rw [hk,e1,e2];rfl) ⟨_,rfl⟩⟩
   ·exact⟨_,rfl,fin false _ (by rw [hk,e1];rfl) ⟨_,rfl⟩⟩
 obtain⟨r,k6,S',rfl⟩:=h
 exact bC k6 (by show [V.strip (dH i),V.strip (dH j)]=_;rw [vi,vi]) rfl hpu rfl rfl rfl
end
end Go.Ev
namespace Go.Ev
open Go.Proofs Go.RowKit
set_option maxRecDepth 100000
set_option linter.unusedVariables false
set_option linter.unusedSimpArgs false
theorem Mw {k:Int} {a b:Tm} (ha:Sm a) (hb:Sm b):Sm (xu k a b):=(hV _).2 ⟨⟨Nat.zero_le _,Nat.zero_le _⟩,fun y hy=>by
 have h:y∈[a,b]:=hy
 simp at h
 rcases h with rfl | rfl
 ·exact ha
 ·exact hb⟩
theorem Fx {a b:Tm} (ha:Sm a) (hb:Sm b):Sm (m3 a b):=(hV _).2 ⟨⟨Nat.zero_le _,Nat.zero_le _⟩,fun y hy=>by
 have h:y∈[a,b]:=hy
 simp at h
 rcases h with rfl | rfl
 ·exact ha
 ·exact hb⟩
theorem im:∀{xs:List Tm} {f:Tm},Sm f→(∀x∈xs,Sm x)→Sm (de f xs)
 | [],f,hf,_=>hf
 | x::xs,f,hf,h=>im (xs:=xs) (Fx hf (h x aMs)) (fun y hy=>h y (aMt _ hy))
theorem oI {k:Int}:∀{xs:List Tm} {t:Tm},Sm t→(∀x∈xs,Sm x)→Sm (eB k xs t)
 | [],t,ht,_=>ht
 | x::xs,t,ht,h=>Mw (h x aMs) (oI ht (fun y hy=>h y (aMt _ hy)))
theorem jL (a r:Int):Sm (bR a r):=(hV _).2 ⟨⟨Nat.zero_le _,Nat.zero_le _⟩,fun y hy=>by cases (show y∈([]:List Tm) from hy)⟩
theorem qg (a k:Nat) (r:Int):∀x∈db a k r,Sm x:=fun x hx=>by
 unfold db at hx
 obtain⟨i,_,rfl⟩:=List.mem_map.1 hx
 exact jL _ _
theorem G4:Sm zTm:=(hV _).2 ⟨⟨Nat.zero_le _,Nat.zero_le _⟩,fun y hy=>by cases (show y∈([]:List Tm) from hy)⟩
theorem DH {s:List UInt8} {a b:Bool} {ls:List Lv} (hs:s.length≤1000000) (hl:ls.length≤1000000):Sm (mf s a b ls):=(hV _).2 ⟨⟨by show ls.length≤_;omega,by show s.length≤_;omega⟩,fun y hy=>by cases (show y∈([]:List Tm) from hy)⟩
theorem Mx (u:Lv):Sm (zB u):=(hV _).2 ⟨⟨by show [u].length≤_;simp,Nat.zero_le _⟩,fun y hy=>by cases (show y∈([]:List Tm) from hy)⟩
section
variable {d:Dl} {sh:List Sh} {m:Nat} {u:Lv} {fx p:Nat}
theorem vD {name:List UInt8} {aa:Nat} {l:List Tm} (hp:p < 4) (hs:name.length≤1000) (hl:∀x∈l,Sm x):Sm (gS fx p name aa l):=by
 unfold gS
 exact im (im (DH (by omega) (by rw [fh];omega)) (qg _ _ _)) hl
theorem qH {t:Tm} {aa:Nat} (ht:My 4096 t) (hf:fx≤(al t).1.length) (h1:fx≤aa) (h2:aa≤100000):(∀x∈(aG fx t aa).1,My 200000 x)∧My 200000 (aG fx t aa).2:=by
 have h:=(rY ht fx hf).lift (b:=.ofNat aa - .ofNat fx) (by simp only [aOn];omega) (by simp only [aOn];omega) 0
 have h2:=h.mono (e:=200000) (by simp only [aOn];omega)
 obtain⟨k1,k2⟩:=h2.pis
 exact⟨k2,k1⟩
theorem My.sm {c:Int} {t:Tm} (h:My c t):Sm t:=rX h.may
theorem Ia {x:In} {aa:Nat} (hp:p < 4) (hn:x.name.length≤1000) (ht:My 4096 x.ty) (hf:fx≤(al x.ty).1.length) (h1:fx≤aa) (h2:aa≤100000):Sm (fR fx p u x aa):=by
 unfold fR
 obtain⟨b1,b2⟩:=qH ht hf h1 h2
 refine oI (Mx _) fun y hy=>?_
 rcases List.mem_append.1 hy with hy | hy
 ·exact (b1 y hy).sm
 ·rw [List.mem_singleton.1 hy]
  exact vD hp hn (qg _ _ _)
theorem Kz {k:Int} {t:Tm} {f aa:Nat} {c:Int} (hb:m6 d fx p 4000000) (ht:My c t):Sm (kU d fx p u m k t f aa):=by
 unfold kU
 split
 ·exact G4
 ·obtain⟨p1,p2⟩:=ht.pis
  refine oI (im (im ?_ ?_) ?_) (fun y hy=>(p2 y hy).sm)
  ·unfold s8
   split
   ·exact jL _ _
   ·unfold JV
    refine im (DH ?_ ?_) (qg _ _ _)
    ·unfold GN
     rw [aLa]
     have hd:bU.length=4:=rfl
     cases hq:d.aj[(cI d fx (al t).2 (.ofNat (aa + (al t).1.length))).1.toNat]? with
     | none=>show ([]:List UInt8).length + _≤_;rw [hd];simp
     | some x=>
      have:=(hb.nm.nm x (aMg hq)).1
      show x.name.length + _≤_
      omega
    ·rw [aLa,fh]
     have:=hb.p4
     simp;omega
  ·intro y hy
   have:=pW (d:=d) (fx:=fx) (aa:=.ofNat (aa + (al t).1.length)) p1.gd.all y hy
   exact this.1.sm
  ·intro y hy
   rw [List.mem_singleton.1 hy]
   unfold itR
   exact im (jL _ _) (qg _ _ _)
theorem Bx {n aa:Nat} (hb:m6 d fx p 4000000) (hn:n≤100):∀(l:List (Tm×(Int×Int))) (i h:Nat),(∀q∈l,My 200000 q.1)→h + l.length≤1000→∀y∈gk d fx p u m n aa l i h,Sm y
 | [],i,h,_,_,y,hy=>by cases (show y∈([]:List Tm) from hy)
 | q::r,i,h,hq,hl,y,hy=>by
  rw [aLc] at hl
  rw [gk] at hy
  split at hy
  ·rcases List.mem_cons.1 hy with rfl | hy
   ·have:=(hq q aMs).lift (b:=.ofNat (n - i + h)) (by simp only [aOn];omega) (by simp only [aOn];omega) 0
    exact Kz hb this
   ·exact Bx hb hn r _ _ (fun z hz=>hq z (aMt _ hz)) (by omega) y hy
  ·exact Bx hb hn r _ _ (fun z hz=>hq z (aMt _ hz)) (by omega) y hy
theorem KA {x:Nat} {c:Ct} {fs:List (Int×Int)} {aa:Nat} (hb:m6 d fx p 4000000) (hn:c.name.length≤1000) (ht:My 4096 c.ty) (hf:fx≤(al c.ty).1.length) (h12:(al c.ty).1.length≤fx + 12) (h1:fx≤aa) (h2:aa≤100000):Sm (ie d fx p u m fs x c aa):=by
 unfold ie
 obtain⟨b1,b2⟩:=qH ht hf h1 h2
 have hbn:=iK (aa:=aa) ht.gd (by omega) hf
 have hz:∀q∈(aG fx c.ty aa).1.zip fs,My 200000 q.1:=fun q hq=>b1 q.1 (List.of_mem_zip hq).1
 have hhl:=xP d fx p u m (aG fx c.ty aa).1.length aa ((aG fx c.ty aa).1.zip fs) 0 0
 rw [List.length_zip] at hhl
 have hml:min (aG fx c.ty aa).1.length fs.length≤12:=by have:=Nat.min_le_left (aG fx c.ty aa).1.length fs.length;omega
 have hhs:=Bx (n:=(aG fx c.ty aa).1.length) (aa:=aa) (u:=u) (m:=m) hb (by omega) _ 0 0 hz (by rw [List.length_zip];omega)
 have hE:=b2.lift (b:=.ofNat (gk d fx p u m (aG fx c.ty aa).1.length aa ((aG fx c.ty aa).1.zip fs) 0 0).length) (by simp only [aOn];omega) (by simp only [aOn];omega) 0
 refine oI (im (im (jL _ _) ?_) ?_) ?_
 ·intro y hy
  exact ((hE.spine).2 y (List.mem_of_mem_drop hy)).sm
 ·intro y hy
  rw [List.mem_singleton.1 hy]
  exact vD hb.p4 hn (qg _ _ _)
 ·intro y hy
  rcases List.mem_append.1 hy with hy | hy
  ·exact (b1 y hy).sm
  ·exact hhs y hy
theorem G5 (hb:ui d sh fx p m):∀(l:List (In×Nat)) (base:Nat),(∀q∈l,d.aj[q.2]?=some q.1)→fx≤base→base + l.length * 20≤10000→∀y∈lg d sh fx p u m l base,Sm y
 | [],base,_,_,_,y,hy=>by cases (show y∈([]:List Tm) from hy)
 | q::r,base,hq,hf,hl,y,hy=>by
  rw [aLc,Nat.add_mul] at hl
  have hx:=hq q aMs
  have hcs:=hb.q.bk.nm.cs q.1 (aMg hx)
  rw [lg] at hy
  rcases List.mem_append.1 hy with hy | hy
  ·unfold xQ at hy
   obtain⟨⟨c,k⟩,hc,rfl⟩:=List.mem_map.1 hy
   have hc' : c∈q.1.cs:=List.fst_mem_of_mem_zipIdx hc
   obtain⟨j,hj⟩:=List.mem_iff_getElem?.1 hc
   rw [List.getElem?_zipIdx] at hj
   cases hcj:q.1.cs[j]? with
   | none=>rw [hcj] at hj;cases hj
   | some c2=>
    rw [hcj] at hj
    simp at hj
    obtain⟨rfl,rfl⟩:=hj
    have hjl:=(aGs hcj).1
    obtain⟨_,s,_,_,hs2⟩:=hb.so.at_ q.2 q.1 hx
    obtain⟨fs,_,_,h12,_⟩:=hs2 j c2 hcj
    exact KA hb.q.bk (show c2.name.length≤1000 by have:=(hb.q.bk.nm.nm q.1 (aMg hx)).2 c2 hc';omega) ((hb.q.my q.1 (aMg hx)).2 c2 hc') ((hb.q.bk.gd q.1 (aMg hx)).2.2 c2 hc').2 h12 (by show fx≤base + j;omega) (by show base + j≤_;omega)
  ·exact G5 hb r _ (fun z hz=>hq z (aMt _ hz)) (by omega) (by omega) y hy
theorem yk (hb:ui d sh fx p m):∀y∈aK d sh fx p u m,Sm y:=by
 have gQ:=hb.q.bk.dl.few
 have kT:=hb.q.bk.f12
 have hz:∀q∈d.aj.zipIdx 0,d.aj[q.2]?=some q.1:=fun q hq=>by
  obtain⟨j,hj⟩:=List.mem_iff_getElem?.1 hq
  rw [List.getElem?_zipIdx] at hj
  cases hx:d.aj[j]? with
  | none=>rw [hx] at hj;cases hj
  | some x=>
   rw [hx] at hj
   simp at hj
   rw [← hj]
   exact hx
 intro y hy
 unfold aK at hy
 rcases List.mem_append.1 hy with hy | hy
 ·rcases List.mem_append.1 hy with hy | hy
  ·unfold kV at hy
   exact (((hb.q.my _ (aMg hb.h0)).1.pis).2 y (List.mem_of_mem_take hy)).sm
  ·unfold xR at hy
   obtain⟨q,hq,rfl⟩:=List.mem_map.1 hy
   have hx:=aMg (hz q hq)
   have hql:=(aGs (hz q hq)).1
   exact Ia hb.q.bk.p4 (by have:=(hb.q.bk.nm.nm q.1 hx).1;omega) (hb.q.my q.1 hx).1 (hb.q.bk.gd q.1 hx).2.1 (by omega) (by omega)
 ·exact G5 hb _ _ hz (by omega) (by rw [List.length_zipIdx];omega) y hy
theorem Mz {x:Nat} {i:In} (hb:ui d sh fx p m) (hx:d.aj[x]?=some i):Sm (dc d sh fx p u m x i):=by
 have hle:=kJ (sh:=sh) (u:=u) (m:=m) hb.q.bk hb.h0
 have hfa:=nE (sh:=sh) (u:=u) (m:=m) hb.h0 hb.q.bk
 have hxm:=aMg hx
 obtain⟨b1,b2⟩:=qH (hb.q.my i hxm).1 (hb.q.bk.gd i hxm).2.1 hfa (by omega)
 unfold dc
 refine oI (im (jL _ _) ?_) ?_
 ·intro y hy
  rcases List.mem_append.1 hy with hy | hy
  ·exact qg _ _ _ y hy
  ·rw [List.mem_singleton.1 hy];exact jL _ _
 ·intro y hy
  unfold uZ at hy
  rcases List.mem_append.1 hy with hy | hy
  ·rcases List.mem_append.1 hy with hy | hy
   ·exact yk hb y hy
   ·exact (b1 y hy).sm
  ·rw [List.mem_singleton.1 hy]
   exact vD hb.q.bk.p4 (by have:=(hb.q.bk.nm.nm i hxm).1;omega) (qg _ _ _)
theorem By {n len deep:Nat} (hb:m6 d fx p 4000000) (hl:len≤1000):∀(l:List (Tm×(Int×Int))) (i:Nat) (t:Tm),(∀q∈l,My 200000 q.1)→Sm t→Sm (jR d fx p u m n len deep l i t)
 | [],i,t,_,ht=>ht
 | q::r,i,t,hq,ht=>by
  rw [jR]
  split
  ·have:=(hq q aMs).lift (b:=.ofNat (len - i)) (by simp only [aOn];omega) (by simp only [aOn];omega) 0
   exact By hb hl r _ _ (fun z hz=>hq z (aMt _ hz)) (Fx ht (Kz hb this))
  ·exact By hb hl r _ _ (fun z hz=>hq z (aMt _ hz)) ht
theorem MA {x ci:Nat} {i:In} {c:Ct} {fs:List (Int×Int)} (hb:ui d sh fx p m) (hx:d.aj[x]?=some i) (hc:c∈i.cs) (h12:(al c.ty).1.length≤fx + 12):Sm (gl d sh fx p u m x ci c fs).2.2:=by
 have hle:=kJ (sh:=sh) (u:=u) (m:=m) hb.q.bk hb.h0
 have hfa:=nE (sh:=sh) (u:=u) (m:=m) hb.h0 hb.q.bk
 have hxm:=aMg hx
 have hcm:=(hb.q.my i hxm).2 c hc
 have hcf:=((hb.q.bk.gd i hxm).2.2 c hc).2
 obtain⟨b1,b2⟩:=qH hcm hcf hfa (by omega)
 have hbn:=iK (aa:=(aK d sh fx p u m).length) hcm.gd (by omega) hcf
 unfold gl
 refine oI (By hb.q.bk (by omega) _ _ _ (fun q hq=>b1 q.1 (List.of_mem_zip hq).1) (im (jL _ _) (qg _ _ _))) ?_
 intro y hy
 rcases List.mem_append.1 hy with hy | hy
 ·exact yk hb y hy
 ·exact (b1 y hy).sm
theorem KB (hb:ui d sh fx p m):Sm (fk d sh fx p u m):=by
 have hn0:=(hb.q.bk.nm.nm (in0 d) (aMg hb.h0)).1
 have hpr:∀k,Sm (j9 d sh fx p u m k):=by
  intro k
  unfold j9
  induction k with
  | zero=>exact jL _ _
  | succ k ih=>
   rw [List.range_succ,List.foldl_append]
   refine Fx ih ((hV _).2 ⟨⟨Nat.zero_le _,by show (in0 d).name.length≤_;omega⟩,fun y hy=>?_⟩)
   have hy' : y∈[bR (.ofNat (aK d sh fx p u m).length) (.ofNat ((aK d sh fx p u m).length + 1))]:=hy
   rw [List.mem_singleton.1 hy']
   exact jL _ _
 unfold fk
 refine oI (hpr _) ?_
 intro y hy
 unfold j8 at hy
 rcases List.mem_append.1 hy with hy | hy
 ·exact yk hb y hy
 ·rw [List.mem_singleton.1 hy]
  exact vD hb.q.bk.p4 (by omega) (fun z hz=>by cases hz)
theorem KC {x:Nat} {i:In} (hb:ui d sh fx p m) (hx:d.aj[x]?=some i):∀t∈eE d sh fx p u m x i,Sm t:=by
 intro t ht
 unfold eE at ht
 rcases List.mem_cons.1 ht with rfl | ht
 ·exact Mz hb hx
 ·split at ht
  ·rw [List.mem_singleton.1 ht];exact KB hb
  ·obtain⟨r,hr,rfl⟩:=List.mem_map.1 ht
   unfold cF at hr
   obtain⟨⟨c,k⟩,hc,rfl⟩:=List.mem_map.1 hr
   have hc' : c∈i.cs:=List.fst_mem_of_mem_zipIdx hc
   obtain⟨j,hj⟩:=List.mem_iff_getElem?.1 hc'
   obtain⟨_,s,_,_,hs2⟩:=hb.so.at_ x i hx
   obtain⟨fs,_,_,h12,_⟩:=hs2 j c hj
   exact MA hb hx hc' h12
end
end Go.Ev
