/- The package: what its recursors are (own work). -/
import Derived.Test.YtmnofcchfbkbeaaGreatXt
namespace Go.Ev
open Go.Proofs Go.RowKit
set_option maxRecDepth 100000
set_option linter.unusedVariables false
set_option linter.unusedSimpArgs false
theorem zO {c b:Int} (hb:0≤b) (hcb:c + b≤1048576):∀(w:Nat) (x:Tm),wt x≤w→eC c x→∀(a:Int) {l d r:Nat},de bh x l d=some r→de bh (a8 x a b) l d=some r
 | 0,x,hw,_,_,_,_,_,_=>by rw [cr] at hw;omega
 | w + 1,x,hw,hv,a,l,d,r,h=>by
  obtain⟨l',d',rfl,rfl,hp,hts⟩:=jV h
  obtain⟨v1,v2⟩:=(fA c x).1 hv
  cases hk:iEq x.k 2 with
  | true=>
   have QZ:=lI hp hk
   have cg:=p9 hb hcb (wt x) x (Nat.le_refl _) ((bX x).2 ⟨hp,fun y hy=>by rw [QZ] at hy;cases hy⟩) hv a
   have hn:=((bX _).1 cg.1).1
   have TF:(a8 x a b).ts=x.ts:=by
    rw [nC hk]
    cases (!iLt x.n a) with
    | true=>simp only [cond_true,sY]
    | false=>rfl
   rw [js]
   simp only [hn,TF]
   exact hts
  | false=>
   have key:∀(ts:List Tm) (i:Nat),(∀y∈ts,y∈x.ts)→∀{l r},dD bh ts l d'=some r→dD bh ((ts.zipIdx i).map fun q=>a8 q.1 (dv a (aY x.k (.ofNat q.2))) b) l d'=some r:=by
    intro ts
    induction ts with
    | nil=>intro i _ l r h;exact h
    | cons t ts ih=>
     intro i hm l r h
     rw [eJ] at h
     rw [List.zipIdx_cons,List.map_cons,eJ]
     split at h
     ·rename_i l1 h1
      have ht:=hm t aMs
      rw [zO hb hcb w t (by have:=cz ht;omega) (v2 t ht) _ h1]
      exact ih (i + 1) (fun y hy=>hm y (aMt _ hy)) h
     ·cases h
   rw [jZ hk,js]
   have hn:bh (x.rf ((x.ts.zipIdx 0).map fun q=>a8 q.1 (dv a (aY x.k (.ofNat q.2))) b))=true:=by rw [xJ DC];exact hp
   simp only [hn,nD]
   exact key x.ts 0 (fun _ h=>h) hts
theorem DM {c b a:Int} {x:Tm} (hb:0≤b) (hcb:c + b≤1048576) (hv:eC c x) (h:cM x=true):cM (a8 x a b)=true:=by
 obtain⟨r,hr⟩:=kH h
 have:=zO hb hcb (wt x) x (Nat.le_refl _) hv a hr
 unfold cM
 rw [this];rfl
theorem x7 {σ:Type} (s:σ):∀(w:Nat) (x:Tm),wt x≤w→∀a,(dE (fun (s:σ) (v:Tm) (_:Int)=>(v,s)) x s a).2=s
 | 0,x,h,_=>by rw [cr] at h;omega
 | w + 1,x,h,a=>by
  rw [kG]
  cases hk:iEq x.k 2 with
  | true=>rfl
  | false=>
   have key:∀(ts:List Tm) (i:Nat),(∀y∈ts,y∈x.ts)→(cG (fun (s:σ) (v:Tm) (_:Int)=>(v,s)) x.k ts i s a).2=s:=by
    intro ts
    induction ts with
    | nil=>intro i _;rw [cG]
    | cons t ts ih=>
     intro i hm
     rw [cG]
     show (cG _ x.k ts (i + 1) (dE _ t s _).2 a).2=s
     rw [x7 s w t (by have:=cz (hm t aMs);omega)]
     exact ih (i + 1) (fun y hy=>hm y (aMt _ hy))
   exact key x.ts 0 (fun _ h=>h)
theorem MX {b:Int} {x:Tm} (hb:0≤b) (hb2:b≤1000000000) (h:cM x=true):(dE (cY b) x false 0).2=false:=by
 obtain⟨r,hr⟩:=kH h
 rw [Fa (B:=4096) (by omega) (g:=fun s v _=>(v,s)) (fun s v a h2 hp h0 hB=>by
  unfold cY
  obtain⟨n0,n1⟩:=ny hp h2
  rw [Mz (by omega) (by omega)]
  have:(!iLt v.n a && iLt v.n (a - b))=false:=by
   rw [cb,cb]
   cases hq:decide (v.n < a) with
   | true=>rfl
   | false=>
    simp only [Bool.not_false,Bool.true_and,decide_eq_false_iff_not] at hq ⊢
    omega
  rw [this];simp) x hr false 0 (by omega) (by omega)]
 exact x7 false _ x (Nat.le_refl _) 0
theorem Ku {b c:Int} {x:Tm} (hb:0≤b) (hcb:c + b≤1048576) (hc:0≤c) (hv:eC c x) (h:cM x=true):liftM x 0 b=(a8 x 0 b,0):=by
 unfold liftM
 rw [h,MX hb (by omega) h]
 show zw (a8 x 0 b)=_
 unfold zw
 rw [DM hb hcb hv h]
theorem G9 (x:Tm) (l:List Tm):(x.rf l).s=x.s:=by cases x;rfl
theorem Kv (x:Tm) (l:List Tm):(x.rf l).ls=x.ls:=by cases x;rfl
theorem FD {x:Tm} {a b:Int} (h:iEq x.k 3=true):(a8 x a b).k=x.k∧(a8 x a b).s=x.s∧(a8 x a b).ls=x.ls:=by
 have hk:iEq x.k 2=false:=by
  rw [bp,decide_eq_true_eq] at h
  rw [h];rfl
 rw [jZ hk]
 exact⟨ot _ _,G9 _ _,Kv _ _⟩
theorem zP {d:Dl} {fx:Nat} {t:Tm} {c b a0:Int} (ht:dG t) (h:dq d fx t a0=true) (hc:0≤c) (hc2:c≤900000000) (hb:0≤b) (hca:c + .ofNat fx≤a0) (ha:a0 + b≤100000000) :
 dq d fx (a8 t c b) (a0 + b)=true∧(aD (a8 t c b)).1.s=(aD t).1.s:=by
 have hs:=ov (wt t) t (Nat.le_refl _) ht c b hc hc2
 unfold dq at h ⊢
 rw [hs]
 simp only [Bool.and_eq_true] at h ⊢
 obtain⟨h1,h2,h3⟩:=h
 have hk:iEq (aD t).1.k 3=true:=by
  unfold kI at h1
  simp only [Bool.and_eq_true] at h1
  exact h1.1
 obtain⟨e1,e2,e3⟩:=FD (a:=c) (b:=b) hk
 refine⟨⟨?_,?_,?_⟩,e2⟩
 ·unfold kI at h1 ⊢
  rw [e1,e2,e3,aLm]
  exact h1
 ·rw [e3];exact h2
 ·unfold uU at h3 ⊢
  rw [List.all_eq_true] at h3 ⊢
  intro i hi
  have hi':=List.mem_range.1 hi
  have:=h3 i hi
  rw [List.getElem?_map]
  cases hq:(aD t).2[i]? with
  | none=>rw [hq] at this;cases this
  | some x=>
   rw [hq] at this
   simp only [Bool.and_eq_true,Option.map_some] at this ⊢
   obtain⟨k1,k2⟩:=this
   rw [nC k1]
   rw [bp,decide_eq_true_eq] at k2
   simp only [aOn] at k2 hca
   have hlt:(!iLt x.n c)=true:=by
    rw [cb]
    simp only [Bool.not_eq_true',decide_eq_false_iff_not]
    omega
   rw [hlt]
   simp only [cond_true,Bp,vt]
   refine⟨k1,?_⟩
   rw [bp,decide_eq_true_eq,show dv x.n b=x.n + b from ec (by omega) (by omega),k2]
   simp only [aOn]
   omega
theorem x8 {d:Dl} {fx:Nat} {t:Tm} {fs:List (Int×Int)} {i:Nat} {f:Int×Int} (h:b9 d fx t=some fs) (hf:fs[i]?=some f) (hr:iLt f.1 0=false) :
 ∃x,(ak t).1[fx + i]?=some x∧dq d fx (ak x).2 (.ofNat (fx + i + (ak x).1.length))=true:=by
 have hL:iE d fx (ak t).1=some fs:=by
  unfold b9 at h
  cases hl:iE d fx (ak t).1 with
  | none=>rw [hl] at h;cases h
  | some l=>
   rw [hl] at h
   simp only at h
   split at h
   ·cases h
   ·cases h;rfl
 unfold iE at hL
 have hlen:=ev hL
 have hi:=(aGs hf).1
 rw [hlen] at hi
 have hz:(((ak t).1.drop fx).zipIdx fx)[i]?=some ((((ak t).1.drop fx).zipIdx fx)[i]):=aGe hi
 obtain⟨y,y1,y2⟩:=j5 hL hz
 rw [hf] at y1;cases y1
 rw [List.getElem_zipIdx] at y2
 simp only [List.length_zipIdx,List.length_drop] at hi
 have hx:(ak t).1[fx + i]?=some (((ak t).1.drop fx)[i]'(by rw [List.length_drop];omega)):=by
  rw [List.getElem_drop,aGe (by omega)]
 refine⟨_,hx,?_⟩
 generalize ((ak t).1.drop fx)[i]'(by rw [List.length_drop];omega)=x at y2
 simp only at y2
 split at y2
 ·rename_i g hg
  cases y2
  have hg1:(cn d fx x (.ofNat (fx + i))).1=f:=by rw [hg]
  unfold cn at hg1
  cases hm:dq d fx (ak x).2 (.ofNat (fx + i + (ak x).1.length)) with
  | true=>rfl
  | false=>
   have hm2:(cD d fx (ak x).2 (Int.ofNat (fx + i) + .ofNat (ak x).1.length)).1 = -1:=by
    unfold cD
    rw [show Int.ofNat (fx + i) + .ofNat (ak x).1.length=.ofNat (fx + i + (ak x).1.length) from rfl,hm]
   simp only [hm2] at hg1
   rw [show iLt (-1) 0=true from rfl] at hg1
   simp only at hg1
   rw [← hg1] at hr
   cases hr
 ·cases y2
end Go.Ev
namespace Go.Ev
open Go.Proofs Go.RowKit
set_option maxRecDepth 100000
set_option maxHeartbeats 4000000
set_option linter.unusedVariables false
set_option linter.unusedSimpArgs false
@[reducible] noncomputable def Rp (n:Nat):Run:=wO LL cW bW n (fD Tryz.cfg cO cW bW n)
theorem Is {F N:Nat→Bool} {R1 R2:Run} {id:Nat} (h:∀args S,R1 (.f id) args S=R2 (.f id) args S) (args:List V) (S:St):cX F (cp N R1) (.f id) args S=cX F (cp N R2) (.f id) args S:=by
 have h1:∀args S,cp N R1 (.f id) args S=cp N R2 (.f id) args S:=by
  intro args S
  unfold cp
  simp only [h]
  unfold narrow
  simp only [h]
 unfold cX
 simp only [h1]
 unfold readOnly
 simp only [h1]
theorem rp {n id:Nat} {args:List V} {S:St} {r:V×St} (h:RN n (.f id) args S=some r) (hc:LL id=cO id:=by rfl):Rp n (.f id) args S=some r:=by
 rw [← h]
 refine Is (fun args S=>?_) args S
 unfold bT
 simp only [hc]
noncomputable def Q0:Code:=((mo (nr 3 (il Tryz.f17)))[0]?).getD .skip
noncomputable def TG:Code:=((mo Q0)[0]?).getD .skip
theorem TH:buildSlice Tryz.cfg 110 1 [(0,.list 0 .tight 0 [])]=some (.list 1 .tight 0 [bj []]):=rfl
theorem TJ (f0:Int×Int) (fr:List (Int×Int)):buildSlice Tryz.cfg 110 1 [(0,.list 2 .no 0 (dh f0::fr.map dh))]=some (.list 1 .tight 0 [bj (f0::fr)]):=rfl
theorem zQ {T0 T:List Nat} {rows:List V} {tok:Tok} (h:aw T0 T rows tok) (i:Int) (l:Lv):buildSlice Tryz.cfg 64 1 [(0,.agg (jY i l (szG 1 rows) tok rows))]=some (.list 7 .tight 0 [.agg [.int .i64 i,.int .i64 l.c,.int .i64 l.p0,.int .i64 l.p1,.int .i64 l.p2,.int .i64 l.p3,jX 1 rows]]):=by
 show some (V.list 7 .tight 0 [.agg [.int .i64 i,.int .i64 l.c,.int .i64 l.p0,.int .i64 l.p1,.int .i64 l.p2,.int .i64 l.p3,aj (.list (szG 1 rows) tok 0 rows)]])=_
 rw [gS h]
@[reducible] noncomputable def Ha:Option Ct→List (Nat×List V)
  | none=>[]
  | some c=>[(12,mb c)]
theorem FE (n:Nat) (d:Dl) (fx p:Nat) (z:Nat) (tk:Tok) (rw:List V) (x:In) (so:Nat) (to:Tok) (ro:List V) (ix:Int) (lv:Lv) (e:Tm) (j:Nat) (o:Option Ct) (T0:List Nat) (K:Ex→Env→St→Prop) (hx:d.ai[j]?=some x) (hd:pW d 4000000) (hpi:∀i∈d.ai,fx≤(ak i.ty).1.length)
 (hcs:x.cs.length≤20) (hc2:∀c∈x.cs,cM c.ty=true∧fx≤(ak c.ty).1.length) (hfx:d.fixed=.ofNat fx) (hpp:d.params=.ofNat p) (hf:fx≤100) (hp:p≤100) (hn:30000000≤n)
 (hR:∀L T',bP (fun c:Ct=>b9 d fx c.ty) x.cs=none→K .ret { nt:=82,tmps:=[(2,.list 0 .tight 0 []),(3,.int .i64 15)],locs:=L,fix:=[] } { heap:=[],aA:=T' })
 (hK:∀o' fss aP T',bP (fun c:Ct=>b9 d fx c.ty) x.cs=some fss→aw T0 T' (fss.map bj) aP→K (.exit 3) { nt:=82,tmps:=[(4,cQ d z tk rw),(5,.list so to 0 ro),(10,.ptr (.loc 10) 0),(33,.list 7 .no 0 (d.ai.map encI)),(34,.int .i64 (.ofNat (aG (d.ai.map encI)))),(35,.int .i64 (.ofNat j)),(55,.list 6 .no 0 (x.cs.map fw)),(56,.int .i64 (.ofNat (aG (x.cs.map fw)))),(57,.int .i64 (.ofNat x.cs.length)),(58,.bool false)],locs:=(1,bM d)::(7,eP x)::(9,aC e)::(10,jY ix lv (szG 1 (fss.map bj)) aP (fss.map bj))::Ha o',fix:=[] } { heap:=[],aA:=T' }) :
 aB (iter (evalCode Tryz.cfg (Rp n) n 17 (Tryz.cfg.fc 17) TG) n { nt:=82,tmps:=[(4,cQ d z tk rw),(5,.list so to 0 ro),(10,.ptr (.loc 10) 0),(33,.list 7 .no 0 (d.ai.map encI)),(34,.int .i64 (.ofNat (aG (d.ai.map encI)))),(35,.int .i64 (.ofNat j)),(55,.list 6 .no 0 (x.cs.map fw)),(56,.int .i64 (.ofNat (aG (x.cs.map fw)))),(57,.int .i64 0)],locs:=(1,bM d)::(7,eP x)::(9,aC e)::(10,jY ix lv 0 .tight [])::Ha o,fix:=[] } { heap:=[],aA:=T0 }) K:=by
 refine aB.loop 82 (σ:=Option Ct×List (List (Int×Int))×Tok×List Nat) x.cs.length (fun i s=>{ nt:=82,tmps:=[(4,cQ d z tk rw),(5,.list so to 0 ro),(10,.ptr (.loc 10) 0),(33,.list 7 .no 0 (d.ai.map encI)),(34,.int .i64 (.ofNat (aG (d.ai.map encI)))),(35,.int .i64 (.ofNat j)),(55,.list 6 .no 0 (x.cs.map fw)),(56,.int .i64 (.ofNat (aG (x.cs.map fw)))),(57,.int .i64 (.ofNat i))],locs:=(1,bM d)::(7,eP x)::(9,aC e)::(10,jY ix lv (szG 1 (s.2.1.map bj)) s.2.2.1 (s.2.1.map bj))::Ha s.1,fix:=[] })
  (fun _ s=>{ heap:=[],aA:=s.2.2.2 }) (fun i s=>bP (fun c:Ct=>b9 d fx c.ty) (x.cs.take i)=some s.2.1∧aw T0 s.2.2.2 (s.2.1.map bj) s.2.2.1) (o,[],.tight,T0) (by omega) ⟨rfl,aw.start T0⟩ ?_ ?_
 ·rintro i ⟨o1,fss,gx,T1⟩ hi ⟨(ia:_=some fss),(hg:aw T0 T1 (fss.map bj) gx)⟩
  obtain⟨c,hc⟩ : ∃c,x.cs[i]?=some c:=⟨_,aGe hi⟩
  obtain⟨c1,c2⟩:=hc2 c (aMg hc)
  have hfl:=ev ia
  rw [List.length_take] at hfl
  have MY:=rp (h58 (n:=n) (S:={ heap:=[],aA:=T1 }) (sz:=z) (tok:=tk) (rows:=rw) (c:=c) hd hpi c1 c2 hfx hpp hf hp hn)
  cases hfs:b9 d fx c.ty with
  | none=>
   rw [hfs] at MY
   rcases o1 with _ | c0
   all_goals
    refine ah.yes (ltM hi) ?_
    refine ab.mk _ (ed hc) ?_
    refine ag.mk _ _ MY ?_
    exact hR _ _ (gT hc hfs)
  | some fs=>
   rw [hfs] at MY
   obtain⟨T2,bH,a1,a2⟩:=dP (LT:=110) (ET:=113) (ei:=Tryz.ti113) (H:=[]) (T0:=T0) (T:=T1) (done:=fss.map bj) (new:=[bj fs]) (bH:=.tight) (sz2:=1) rfl rfl (by decide) (by decide) (by simp;omega) hg (.inr rfl)
   have e1:fss.map bj++[bj fs]=(fss++[fs]).map bj:=by simp
   rw [e1] at a1 a2
   have hnx:=fz hc ia hfs
   rcases fs with _ | ⟨f0,fr⟩<;>rcases o1 with _ | c0
   all_goals
    refine ah.yes (ltM hi) ?_
    refine ab.mk _ (ed hc) ?_
    refine ag.mk _ _ MY ?_
    first | refine ab.mk _ TH ?_ | refine ab.mk _ (TJ _ _) ?_
    refine cN.mk _ _ (a1 _ _ rfl) ?_
    refine ab.mk _ (az (by omega)) ?_
    exact⟨(some c,fss++[_],bH,T2),⟨hnx,a2⟩,rfl,rfl⟩
 ·rintro⟨o1,fss,gx,T1⟩ ⟨(ia:_=some fss),(hg:aw T0 T1 (fss.map bj) gx)⟩
  rw [List.take_length] at ia
  rcases o1 with _ | c0
  ·refine ah.no (geM (by omega)) ?_
   exact hK none fss gx T1 ia hg
  ·refine ah.no (geM (by omega)) ?_
   exact hK (some c0) fss gx T1 ia hg
inductive Jp where
 | a
 | b (x:In) (e:Tm) (ix:Int) (lv:Lv) (sz:Nat) (tok:Tok) (rows:List V) (o:Option Ct)
@[reducible] noncomputable def Jp.locs:Jp→List (Nat×List V)
  | .a=>[]
  | .b x e ix lv sz tok rows o=>(7,eP x)::(9,aC e)::(10,jY ix lv sz tok rows)::Ha o
theorem FF (n:Nat) (d:Dl) (fx p:Nat) (z:Nat) (tk:Tok) (rw:List V) (T:List Nat) (K:Ex→Env→St→Prop) (hd:pW d 4000000) (hc:MJ d fx 4000000)
 (Fz:∀i∈d.ai,cM i.ty=true∧∀c∈i.cs,cM c.ty=true) (hfx:d.fixed=.ofNat fx) (hpp:d.params=.ofNat p) (hf:fx≤100) (hp:p≤100) (hn:30000000≤n)
 (hR:∀L T',gI d fx=none→K .ret { nt:=82,tmps:=[(2,.list 0 .tight 0 []),(3,.int .i64 15)],locs:=L,fix:=[] } { heap:=[],aA:=T' })
 (hK:∀J out tok T',gI d fx=some out→aw [] T' (out.map bQ) tok→K (.exit 1) { nt:=82,tmps:=[(4,cQ d z tk rw),(5,.list (szG 7 (out.map bQ)) tok 0 (out.map bQ)),(33,.list 7 .no 0 (d.ai.map encI)),(34,.int .i64 (.ofNat (aG (d.ai.map encI)))),(35,.int .i64 (.ofNat d.ai.length)),(36,.bool false)],locs:=(1,bM d)::Jp.locs J,fix:=[] } { heap:=[],aA:=T' }) :
 aB (iter (evalCode Tryz.cfg (Rp n) n 17 (Tryz.cfg.fc 17) Q0) n { nt:=82,tmps:=[(4,cQ d z tk rw),(5,.list 0 .tight 0 []),(33,.list 7 .no 0 (d.ai.map encI)),(34,.int .i64 (.ofNat (aG (d.ai.map encI)))),(35,.int .i64 0)],locs:=[(1,bM d)],fix:=[] } { heap:=[],aA:=T }) K:=by
 have iB:=hd.few
 refine aB.loop 82 (σ:=Jp×List Sh×Tok×List Nat) d.ai.length (fun j s=>{ nt:=82,tmps:=[(4,cQ d z tk rw),(5,.list (szG 7 (s.2.1.map bQ)) s.2.2.1 0 (s.2.1.map bQ)),(33,.list 7 .no 0 (d.ai.map encI)),(34,.int .i64 (.ofNat (aG (d.ai.map encI)))),(35,.int .i64 (.ofNat j))],locs:=(1,bM d)::s.1.locs,fix:=[] })
  (fun _ s=>{ heap:=[],aA:=s.2.2.2 }) (fun j s=>bP (iM d fx) (d.ai.take j)=some s.2.1∧aw [] s.2.2.2 (s.2.1.map bQ) s.2.2.1) (.a,[],.tight,T) (by omega) ⟨rfl,⟨Dz T,.inl ⟨rfl,rfl⟩⟩⟩ ?_ ?_
 ·rintro j ⟨J,out,tok,T1⟩ hj ⟨(ja:bP (iM d fx) (d.ai.take j)=some out),(hg:aw [] T1 (out.map bQ) tok)⟩
  obtain⟨x,hx⟩ : ∃x,d.ai[j]?=some x:=⟨_,aGe hj⟩
  have hxm:=aMg hx
  obtain⟨hxa,hxw⟩:=hd.all x hxm
  have hxc:=hc.cs x hxm
  have Pw:∀c∈x.cs,cM c.ty=true∧fx≤(ak c.ty).1.length:=fun c hcm=>⟨(Fz x hxm).2 c hcm,(hxc.2 c hcm).2.2⟩
  obtain⟨lv,hlv⟩:=zD (fK _ x.ty (Nat.le_refl _) hxa).2.1 (hc.so x hxm)
  have Pg:Ka x=lv:=by unfold Ka;rw [hlv];rfl
  have hol:=ev ja
  rw [List.length_take] at hol
  obtain⟨q,h1,T2,bH,rfl,hg2⟩:=h56 (n:=n) (x:=x.ty) (H:=[]) (T:=T1) hxa (by omega) (by omega)
  have hg':=hg.ext hg2.1
  have Px:=rp (h57 (n:=n) (S:={ heap:=[],aA:=T2 }) (sz:=z) (tok:=tk) (rows:=rw) hx hfx hf hxa (by omega) (by omega))
  have hii:indexAddr Tryz.cfg 22 (.list (au (ak x.ty).2.a (ak x.ty).2.ls) (av (ak x.ty).2.b) 0 ((ak x.ty).2.ls.map enc)) (.int .i64 (.ofNat 0))=_:=sT hlv
  have fU:bP (fun c:Ct=>b9 d fx c.ty) x.cs=none→gI d fx=none:=fun h=>gT hx (by unfold iM;rw [h])
  have gr:∀(fss:List (List (Int×Int))) aP T',bP (fun c:Ct=>b9 d fx c.ty) x.cs=some fss→aw T2 T' (fss.map bj) aP→
   ∃T5 dR,(∀(A:Env) (ac:Acc),ac.heap=true→append Tryz.cfg A { heap:=[],aA:=T' } ac 64 (.list (szG 7 (out.map bQ)) tok 0 (out.map bQ)) (.list 7 .tight 0 [bQ (Sh.mk (aZ d x) lv fss)])=some (.list (szG 7 ((out++[(Sh.mk (aZ d x) lv fss)]).map bQ)) dR 0 ((out++[(Sh.mk (aZ d x) lv fss)]).map bQ),{ heap:=[],aA:=T5 }))∧
    aw [] T5 ((out++[(Sh.mk (aZ d x) lv fss)]).map bQ) dR∧bP (iM d fx) (d.ai.take (j + 1))=some (out++[(Sh.mk (aZ d x) lv fss)]):=by
   intro fss aP T' ia hg3
   obtain⟨T5,dR,a1,a2⟩:=dP (LT:=64) (ET:=112) (ei:=Tryz.ti112) (H:=[]) (T0:=[]) (T:=T') (done:=out.map bQ) (new:=[bQ (Sh.mk (aZ d x) lv fss)]) (bH:=.tight) (sz2:=7) rfl rfl (by decide) (by decide) (by simp;omega) (hg'.ext hg3.1) (.inr rfl)
   have e1:out.map bQ++[bQ (Sh.mk (aZ d x) lv fss)]=(out++[(Sh.mk (aZ d x) lv fss)]).map bQ:=by simp
   rw [e1] at a1 a2
   refine⟨T5,dR,a1,a2,fz hx ja ?_⟩
   unfold iM
   rw [ia,Pg]
  rcases J with _ | ⟨x0,e0,i0,l0,z0,k0,r0,_ | c0⟩
  ·refine ah.yes (ltM hj) ?_
   refine ab.mk _ (aO hx) ?_
   refine ag.mk _ _ (rp h1) ?_
   refine ag.mk _ _ Px ?_
   refine ab.mk _ hii ?_
   refine FE n d fx p z tk rw x _ _ _ (aZ d x) lv (ak x.ty).2 j none T2 _ hx hd hc.pi hxc.1 Pw hfx hpp hf hp hn (fun L T' hn=>hR L T' (fU hn)) (fun o' fss aP T' ia hg3=>?_)
   obtain⟨T5,dR,a1,a2,a3⟩:=gr fss aP T' ia hg3
   rcases o' with _ | c'
   ·refine ab.mk _ (zQ hg3 _ _) ?_
    refine cN.mk _ _ (a1 _ _ rfl) ?_
    refine ab.mk _ (az (by omega)) ?_
    exact⟨(.b x (ak x.ty).2 (aZ d x) lv (szG 1 (fss.map bj)) aP (fss.map bj) none,out++[Sh.mk (aZ d x) lv fss],dR,T5),⟨a3,a2⟩,rfl,rfl⟩
   ·refine ab.mk _ (zQ hg3 _ _) ?_
    refine cN.mk _ _ (a1 _ _ rfl) ?_
    refine ab.mk _ (az (by omega)) ?_
    exact⟨(.b x (ak x.ty).2 (aZ d x) lv (szG 1 (fss.map bj)) aP (fss.map bj) (some c'),out++[Sh.mk (aZ d x) lv fss],dR,T5),⟨a3,a2⟩,rfl,rfl⟩
  ·refine ah.yes (ltM hj) ?_
   refine ab.mk _ (aO hx) ?_
   refine ag.mk _ _ (rp h1) ?_
   refine ag.mk _ _ Px ?_
   refine ab.mk _ hii ?_
   refine FE n d fx p z tk rw x _ _ _ (aZ d x) lv (ak x.ty).2 j none T2 _ hx hd hc.pi hxc.1 Pw hfx hpp hf hp hn (fun L T' hn=>hR L T' (fU hn)) (fun o' fss aP T' ia hg3=>?_)
   obtain⟨T5,dR,a1,a2,a3⟩:=gr fss aP T' ia hg3
   rcases o' with _ | c'
   ·refine ab.mk _ (zQ hg3 _ _) ?_
    refine cN.mk _ _ (a1 _ _ rfl) ?_
    refine ab.mk _ (az (by omega)) ?_
    exact⟨(.b x (ak x.ty).2 (aZ d x) lv (szG 1 (fss.map bj)) aP (fss.map bj) none,out++[Sh.mk (aZ d x) lv fss],dR,T5),⟨a3,a2⟩,rfl,rfl⟩
   ·refine ab.mk _ (zQ hg3 _ _) ?_
    refine cN.mk _ _ (a1 _ _ rfl) ?_
    refine ab.mk _ (az (by omega)) ?_
    exact⟨(.b x (ak x.ty).2 (aZ d x) lv (szG 1 (fss.map bj)) aP (fss.map bj) (some c'),out++[Sh.mk (aZ d x) lv fss],dR,T5),⟨a3,a2⟩,rfl,rfl⟩
  ·refine ah.yes (ltM hj) ?_
   refine ab.mk _ (aO hx) ?_
   refine ag.mk _ _ (rp h1) ?_
   refine ag.mk _ _ Px ?_
   refine ab.mk _ hii ?_
   refine FE n d fx p z tk rw x _ _ _ (aZ d x) lv (ak x.ty).2 j (some c0) T2 _ hx hd hc.pi hxc.1 Pw hfx hpp hf hp hn (fun L T' hn=>hR L T' (fU hn)) (fun o' fss aP T' ia hg3=>?_)
   obtain⟨T5,dR,a1,a2,a3⟩:=gr fss aP T' ia hg3
   rcases o' with _ | c'
   ·refine ab.mk _ (zQ hg3 _ _) ?_
    refine cN.mk _ _ (a1 _ _ rfl) ?_
    refine ab.mk _ (az (by omega)) ?_
    exact⟨(.b x (ak x.ty).2 (aZ d x) lv (szG 1 (fss.map bj)) aP (fss.map bj) none,out++[Sh.mk (aZ d x) lv fss],dR,T5),⟨a3,a2⟩,rfl,rfl⟩
   ·refine ab.mk _ (zQ hg3 _ _) ?_
    refine cN.mk _ _ (a1 _ _ rfl) ?_
    refine ab.mk _ (az (by omega)) ?_
    exact⟨(.b x (ak x.ty).2 (aZ d x) lv (szG 1 (fss.map bj)) aP (fss.map bj) (some c'),out++[Sh.mk (aZ d x) lv fss],dR,T5),⟨a3,a2⟩,rfl,rfl⟩
 ·rintro⟨J,out,tok,T1⟩ ⟨(ja:bP (iM d fx) (d.ai.take d.ai.length)=some out),(hg:aw [] T1 (out.map bQ) tok)⟩
  rw [List.take_length] at ja
  rcases J with _ | ⟨x0,e0,i0,l0,z0,k0,r0,_ | c0⟩
  ·refine ah.no (geM (by omega)) ?_
   exact hK .a out tok T1 ja hg
  ·refine ah.no (geM (by omega)) ?_
   exact hK (.b x0 e0 i0 l0 z0 k0 r0 none) out tok T1 ja hg
  ·refine ah.no (geM (by omega)) ?_
   exact hK (.b x0 e0 i0 l0 z0 k0 r0 (some c0)) out tok T1 ja hg
theorem x9 {b:Bool} (h:(!b)=true):b=false:=by cases b with | true=>cases h | false=>rfl
theorem ya {b:Bool} (h:(!b)=false):b=true:=by cases b with | true=>rfl | false=>cases h
theorem DN {d:Dl} {t:Tm} (h:t∈bV d):t∈eo d:=by
 unfold bV at h
 obtain⟨i,hi,ht⟩:=List.mem_flatMap.1 h
 unfold om at ht
 unfold eo
 rcases List.mem_cons.1 ht with rfl | ht
 ·exact List.mem_append_left _ (List.mem_map.2 ⟨i,hi,rfl⟩)
 ·obtain⟨c,hc,rfl⟩:=List.mem_map.1 ht
  obtain⟨x,hx⟩:=List.mem_iff_getElem?.1 hi
  obtain⟨j,hj⟩:=List.mem_iff_getElem?.1 hc
  exact List.mem_append_right _ (List.mem_map.2 ⟨(x,c),aMg (mM hx hj),rfl⟩)
theorem yb (d:Dl) (p:Tm→Bool):(eo d).any p=(bV d).any p:=by
 rw [Bool.eq_iff_iff,List.any_eq_true,List.any_eq_true]
 exact⟨fun⟨t,h1,h2⟩=>⟨t,oA h1,h2⟩,fun⟨t,h1,h2⟩=>⟨t,DN h1,h2⟩⟩
theorem qG {α:Type} (l:List α) (p:α→Bool):l.any p = !(l.all fun x=>!p x):=by
 rw [List.not_all_eq_any_not]
 simp
theorem DO (d:Dl):j7 d = !(iq d && (Bn d && (bV d).all gC)):=by
 unfold j7 Bn
 rw [yb,qG,qG,show (fun t=>!Bu t)=gC from funext fun t=>by rw [MQ,Bool.not_not]]
 cases iq d<;>cases (d.ai.all fun x=>!iLt 8 (Int.ofNat x.cs.length))<;>cases (bV d).all gC<;>rfl
theorem Hb (d:Dl):xY d = !(ud d && (bV d).all fun t=>!hiT (pN d) t):=by
 unfold xY ud
 rw [yb,qG]
 cases iLt d.params 0<;>cases iLt d.params 4<;>cases ((bV d).all fun x=>!hiT (pN d) x)<;>rfl
theorem MZ {d:Dl} (hfx:d.fixed=.ofNat (fxN d)) (h0:d.ai[0]?=some (in0 d)):oM d (fxN d) (ak (in0 d).ty).1=(pY d && pZ d):=by
 unfold oM pY
 rw [show kW d (fxN d) (ak (in0 d).ty).1=nB d (fxN d) (in0 d) from funext fun x=>DJ hfx]
 cases ha:d.ai.all (nB d (fxN d) (in0 d)) with
 | false=>rfl
 | true=>
  have h1:=(sW (List.all_eq_true.1 ha (in0 d) (aMg h0)) hfx).1
  rw [Bool.true_and,Bool.true_and]
  unfold pZ fO
  rw [List.all_flatMap]
  congr 1
  funext q
  rw [List.all_map]
  congr 1
  funext c
  exact Kq hfx h1
theorem nF:∀(w:Nat) (x:Tm),wt x≤w→dG x→(ak x).1.length≤dW x
 | 0,x,h,_=>by rw [cr] at h;omega
 | w + 1,x,h,hx=>by
  obtain⟨h1,h2⟩:=(bX x).1 hx
  cases hk:iEq x.k 6 with
  | false=>rw [lu hk];exact Nat.zero_le _
  | true=>
   obtain⟨A,B,ht⟩:=eO h1 (mL hk)
   have hB:=cz (x:=B) (y:=x) (by rw [ht];simp)
   have hs:=sR (y:=B) (x:=x) (by rw [ht];simp)
   have:=nF w B (by omega) (h2 B (by rw [ht];simp))
   rw [kj hk ht]
   simp only [aLc]
   omega
theorem Q1 (d:Dl) (z:Nat) (tb b:Bool) (rows:List V) (T:List Nat) :
 tZ { nt:=82,tmps:=[(1,.ptr (.loc 1) 0),(4,.ptr (.box 0) 0),(28,.bool b)],locs:=[(1,bM d)],fix:=[] } { heap:=[.cells 108 (cV d z (av tb) rows)],aA:=T } =
 some { nt:=82,tmps:=[(1,.ptr (.loc 1) 0),(4,cQ d z (av tb) rows),(28,.bool b)],locs:=[(1,bM d)],fix:=[] }:=by
 rcases d with⟨k,p,nm,⟨k1,n1,s1,a1,b1,c1,d1,l1,t1⟩,⟨k2,n2,s2,a2,b2,c2,d2,l2,t2⟩,fx,is⟩
 cases b1<;>cases d1<;>cases b2<;>cases d2<;>cases tb<;>rfl
theorem zR {x:Tm} (h:dx x zTm=true):wt x=1:=by
 rw [qF] at h
 simp only [Bool.and_eq_true,decide_eq_true_eq] at h
 obtain⟨_,_,h1,h2,h3⟩:=h
 have h4:x.ts=[]:=by
  unfold eqP at h3
  simp only [Bool.and_eq_true,decide_eq_true_eq] at h3
  exact List.eq_nil_of_length_eq_zero h3.1
 rw [cr,h1,h2,h4]
 rfl
theorem Kw {d:Dl} {W:Nat} (hd:rT d W) (ha:iq d=true) (hmy:∀t∈bV d,cM t=true):rT d 4000000:=by
 unfold iq at ha
 simp only [Bool.and_eq_true] at ha
 obtain⟨_,_,h1,h2,_⟩:=ha
 exact⟨hd.nm,fun t ht=>⟨(hd.ty t ht).1,(hd.ty t ht).2.1,fv (hmy t ht)⟩,⟨hd.dty.1,hd.dty.2.1,by rw [zR h1];omega⟩,⟨hd.Il.1,hd.Il.2.1,by rw [zR h2];omega⟩⟩
theorem TK {d:Dl} {W n:Nat} (hd:rT d W) (hls:d.ty.ls.length≤1000∧d.val.ls.length≤1000) (hn:3 * W + 40000000≤n) :
 AZ (fD Tryz.cfg cO cW bW n) n [eB d]=some (.tuple [jX 7 ((ofR d).1.map bQ),.int .i64 (ofR d).2]):=by
 obtain⟨k,rfl⟩:=up (show 1≤n by omega)
 have iB:=hd.nm.few
 let S0:St:={ heap:=[.cells 108 (cV d 0 .tight [])],aA:=[] }
 have hst:bg aj (cV d 0 .tight [])=cV d 0 .tight []:=lz d 0 .tight []
 have TL : Rp (k + 1) (.f 52) [.ptr (.box 0) 0] S0=some (.bool (j7 d),S0):=rp (tq rfl rfl rfl hst rfl rfl (h52 (S:=St.empty) hd hls (by omega)) rfl)
 have h:∃v,sH 17 3 Tryz.f17 (Rp (k + 1)) (k + 1) [eB d]=some v∧v=.tuple [jX 7 ((ofR d).1.map bQ),.int .i64 (ofR d).2]:=by
  refine G2 (id:=17) (m:=3) (fn:=Tryz.f17) ?_
  refine gj.cons (nt:=82) ?_
  refine gj.cons (nt:=82) ?_
  refine gj.cons (nt:=82) ?_
  have err:∀e:Int,ofR d=([],e)→∀v,v=V.tuple [.list 0 .tight 0 [],.int .i64 e]→v=.tuple [jX 7 ((ofR d).1.map bQ),.int .i64 (ofR d).2]:=fun e h v hv=>by rw [h];exact hv
  refine ag.mkB TL (fun c1=>?_) (fun c1=>?_)
  ·rw [DO] at c1
   have c1' : (iq d && (Bn d && (bV d).all gC))=false:=x9 c1
   exact⟨_,rfl,err 1 (by unfold ofR;rw [c1']) _ rfl⟩
  rw [DO] at c1
  have hA:(iq d && (Bn d && (bV d).all gC))=true:=ya c1
  have hA':=hA
  simp only [Bool.and_eq_true] at hA'
  obtain⟨ha,hf,hm⟩:=hA'
  have ha':=ha
  unfold iq at ha'
  simp only [Bool.and_eq_true,Bool.not_eq_true',cb,decide_eq_false_iff_not,aOn] at ha'
  obtain⟨_,_,_,_,a1,a2,a3,a4⟩:=ha'
  have hfx:d.fixed=.ofNat (fxN d):=by unfold fxN;simp only [aOn];omega
  have p8:fxN d≤12:=by unfold fxN;omega
  have h0:d.ai[0]?=some (in0 d):=by
   unfold in0
   rw [aGe (by omega)];rfl
  have hdl:=Kc hd hm
  have hmy:∀t∈bV d,cM t=true:=fun t ht=>by
   have:=List.all_eq_true.1 hm t ht
   unfold gC at this
   simp only [Bool.and_eq_true] at this
   exact this.1
  have TM : Rp (k + 1) (.f 53) [.ptr (.box 0) 0] S0=some (.bool (xY d),S0):=rp (tq rfl rfl rfl hst rfl rfl (h53 (S:=St.empty) (Kw hd ha hmy) (fun t ht=>cH (hmy t (oA ht))) (by omega) (by omega)) rfl)
  refine ag.mkB TM (fun c2=>?_) (fun c2=>?_)
  ·rw [Hb] at c2
   have c2' : (ud d && (bV d).all fun t=>!hiT (pN d) t)=false:=x9 c2
   exact⟨_,rfl,err 8 (by unfold ofR;rw [hA,c2']) _ rfl⟩
  rw [Hb] at c2
  have hB:(ud d && (bV d).all fun t=>!hiT (pN d) t)=true:=ya c2
  have hB':=hB
  simp only [Bool.and_eq_true] at hB'
  have hp:=hB'.1
  unfold ud at hp
  simp only [Bool.and_eq_true,Bool.not_eq_true',cb,decide_eq_false_iff_not,decide_eq_true_eq] at hp
  have hpp:d.params=.ofNat (pN d):=by unfold pN;simp only [aOn];omega
  have hp4:pN d < 4:=by unfold pN;omega
  have hne:d.ai≠[]:=fun e=>by rw [e] at a3;simp at a3
  have TN : Rp (k + 1) (.f 54) [.ptr (.box 0) 0] S0=some (.bool (oC d),S0):=rp (tq rfl rfl rfl hst rfl rfl (h54 (S:=St.empty) (QV d) hd.nm hne (by omega)) rfl)
  refine ag.mkB TN (fun c3=>?_) (fun c3=>?_)
  rotate_left
  ·rw [DL] at c3
   exact⟨_,rfl,err 5 (by unfold ofR;rw [hA,hB,c3]) _ rfl⟩
  rw [DL] at c3
  obtain⟨r,f1,S1,tk,rfl,f2⟩:=MV (n:=k) (d:=d) (fx:=fxN d) (p:=pN d) hdl hd.nm h0 (fun i hi=>⟨hmy _ (dM hi).1,fun c hc=>hmy _ ((dM hi).2 c hc)⟩)
   (fun i hi=>by
    refine⟨?_,fun c hc=>?_⟩
    ·have h1:=hmy _ (dM hi).1
     have:=nF _ i.ty (Nat.le_refl _) (cH h1)
     have:=jv h1
     omega
    ·have h1:=hmy _ ((dM hi).2 c hc)
     have:=nF _ c.ty (Nat.le_refl _) (cH h1)
     have:=jv h1
     omega) hfx hpp (by omega) (by omega) (by omega)
  obtain⟨tb,htb⟩:=fL tk
  have hs1:bg aj (cV d (au false (ak (in0 d).ty).1) tk (ae (ak (in0 d).ty).1))=cV d (au false (ak (in0 d).ty).1) (av tb) (ae (ak (in0 d).ty).1):=by rw [lz,htb]
  have Q2:=Oz (n:=k) (id:=55) (k:=0) (ty:=108) (rest:=[]) (S:=S0) (S0:=S1) (cs:=cV d 0 .tight []) (cs':=cV d (au false (ak (in0 d).ty).1) tk (ae (ak (in0 d).ty).1)) (v:=.bool (oM d (fxN d) (ak (in0 d).ty).1)) rfl rfl rfl hst rfl rfl f1 f2 rfl rfl
  rw [hs1,MZ hfx h0] at Q2
  have TO : Rp (k + 1) (.f 55) [.ptr (.box 0) 0] S0=some (.bool (pY d && pZ d),{ heap:=[.cells 108 (cV d (au false (ak (in0 d).ty).1) (av tb) (ae (ak (in0 d).ty).1))],aA:=[] }):=rp Q2
  refine ag.mkB TO (fun c4=>?_) (fun c4=>?_)
  rotate_left
  ·exact⟨_,rfl,err 14 (by unfold ofR;rw [hA,hB,c3,c4]) _ rfl⟩
  have c4':=c4
  simp only [Bool.and_eq_true] at c4'
  obtain⟨hfo,hct⟩:=c4'
  refine gj.nil (nt:=82) ?_
  refine⟨_,Q1 d _ tb false _ _,?_⟩
  have hpi:∀i∈d.ai,fxN d≤(ak i.ty).1.length∧iEq (ak i.ty).2.k 1=true:=fun i hi=>sW (List.all_eq_true.1 hfo i hi) hfx
  have hcs:MJ d (fxN d) 4000000:=by
   refine⟨fun i hi=>⟨hd.nm.cs i hi,fun c hc=>?_⟩,fun i hi=>(hpi i hi).1,fun i hi=>(hpi i hi).2⟩
   obtain⟨ca,cw⟩:=xI hm hi hc
   obtain⟨j,hj⟩:=List.mem_iff_getElem?.1 hi
   have hz:(d.ai.zipIdx 0)[j]?=some (i,j):=by rw [List.getElem?_zipIdx,hj];simp
   have h1:=(List.all_eq_true.1 hct) _ (aMg hz)
   have h2:=(List.all_eq_true.1 h1) c hc
   exact⟨ca,cw,Bo h2 hfx⟩
  have hof:ofR d=match gI d (fxN d) with | none=>([],15) | some l=>(l,0):=by
   unfold ofR
   rw [hA,hB,c3,c4]
   cases gI d (fxN d)<;>rfl
  refine FF (k + 1) d (fxN d) (pN d) _ _ _ [] _ hdl hcs (fun i hi=>⟨hmy _ (dM hi).1,fun c hc=>hmy _ ((dM hi).2 c hc)⟩) hfx hpp (by omega) (by omega) (by omega) (fun L T' hn=>?_) (fun J out tok T' ja hg=>?_)
  ·exact⟨_,rfl,err 15 (by rw [hof,hn]) _ rfl⟩
  ·have hq:V.tuple [aj (.list (szG 7 (out.map bQ)) tok 0 (out.map bQ)),.int .i64 0]=.tuple [jX 7 ((ofR d).1.map bQ),.int .i64 (ofR d).2]:=by
    rw [hof,ja,gS hg]
   rcases J with _ | ⟨x0,e0,i0,l0,z0,k0,r0,_ | c0⟩
   ·exact⟨_,rfl,hq⟩
   ·exact⟨_,rfl,hq⟩
   ·exact⟨_,rfl,hq⟩
 obtain⟨v,h1,rfl⟩:=h
 exact h1
theorem h17 {d:Dl} {W n:Nat} {S:St} (hd:rT d W) (hls:d.ty.ls.length≤1000∧d.val.ls.length≤1000) (hn:3 * W + 40000000≤n) :
 RN n (.f 17) [eB d] S=some (.tuple [jX 7 ((ofR d).1.map bQ),.int .i64 (ofR d).2],S):=
 xN rfl rfl rfl rfl (by simp only [dH,aq]) (TK hd hls hn)
end Go.Ev
namespace Go.Ev
open Go.Proofs Go.RowKit
set_option maxRecDepth 100000
set_option linter.unusedVariables false
set_option linter.unusedSimpArgs false
@[reducible] noncomputable def oD (d:Dl) (sh:List Sh) (p m:Nat) (u:Lv):List V:=[.int .u8 d.kind,.int .i64 d.params,.str d.name,
  .int .u8 d.ty.k,.int .i64 d.ty.n,.str d.ty.s,.list (au d.ty.a d.ty.ls) (av d.ty.b) 0 (d.ty.ls.map enc),.list (au d.ty.c d.ty.ts) (av d.ty.d) 0 (ae d.ty.ts),
  .int .u8 d.val.k,.int .i64 d.val.n,.str d.val.s,.list (au d.val.a d.val.ls) (av d.val.b) 0 (d.val.ls.map enc),.list (au d.val.c d.val.ts) (av d.val.d) 0 (ae d.val.ts),
  .int .i64 d.fixed,.list 7 .no 0 (d.ai.map encI),.list 7 .no 0 (sh.map bQ),.list (au false (eW p)) (av (eW p).isEmpty) 0 ((eW p).map enc),.int .i64 u.c,.int .i64 u.p0,.int .i64 u.p1,.int .i64 u.p2,.int .i64 u.p3,.int .i64 (.ofNat m),.bool false]
@[reducible] noncomputable def cd (d:Dl) (sh:List Sh) (p m:Nat) (u:Lv):V:=.imm 0 (oD d sh p m u)
structure My (c:Int) (t:Tm):Prop where
 may:cM t=true
 vars:eC c t
theorem My.gd {c:Int} {t:Tm} (h:My c t):Gd 4000000 c t:=⟨cH h.may,h.vars,fv h.may⟩
theorem My.lift {c b:Int} {t:Tm} (h:My c t) (hb:0≤b) (hcb:c + b≤1048576) (a:Int):My (c + b) (a8 t a b):=
 ⟨DM hb hcb h.vars h.may,(p9 hb hcb _ t (Nat.le_refl _) (cH h.may) h.vars a).2⟩
theorem My.mono {c e:Int} {t:Tm} (h:My c t) (hc:c≤e):My e t:=⟨h.may,eC.mono hc _ t (Nat.le_refl _) h.vars⟩
theorem My.pis {c:Int} {t:Tm} (h:My c t):My c (ak t).2∧∀y∈(ak t).1,My c y:=by
 obtain⟨h1,h2⟩:=oB _ t (Nat.le_refl _) h.may
 obtain⟨g1,g2⟩:=Gd.pis _ t (Nat.le_refl _) h.gd
 exact⟨⟨h1,g1.vars⟩,fun y hy=>⟨h2 y hy,(g2 y hy).vars⟩⟩
theorem My.spine {c:Int} {t:Tm} (h:My c t):My c (aD t).1∧∀y∈(aD t).2,My c y:=by
 obtain⟨h1,h2⟩:=uh _ t (Nat.le_refl _) h.may
 obtain⟨g1,g2⟩:=Gd.spine _ t (Nat.le_refl _) h.gd
 exact⟨⟨h1,g1.vars⟩,fun y hy=>⟨h2 y hy,(g2 y hy).vars⟩⟩
theorem My.kid {c:Int} {t y:Tm} (h:My c t) (hy:y∈t.ts):My c y:=⟨tj h.may hy,(h.gd.kid hy).vars⟩
theorem NX {t:Tm} (h:gC t=true):My 4096 t:=by
 have hv:=uW h
 unfold gC at h
 simp only [Bool.and_eq_true] at h
 exact⟨h.1,hv⟩
theorem rX {c:Int} {x:Tm} (hx:My c x):∀(n:Nat),n≤(ak x).1.length→My c (eh n x)
 | 0,_=>hx
 | n + 1,h=>by
  have hp:=j0 hx.gd.all n (by omega)
  obtain⟨hk,a,b,hts,_⟩:=hp.next (by omega)
  have e:eh (n + 1) x=b:=by
   show ((eh n x).ts[1]?).getD zTm=b
   rw [hts];rfl
  rw [e]
  exact (rX hx n (by omega)).kid (by rw [hts];simp)
structure rY (d:Dl) (fx p:Nat):Prop where
 bk:Bq d fx p 4000000
 my:∀i∈d.ai,My 4096 i.ty∧∀c∈i.cs,My 4096 c.ty
section
variable {n:Nat} {d:Dl} {sh:List Sh} {m:Nat} {u:Lv} {fx p:Nat} {H:List Blk} {T:List Nat} {S:St}
theorem Py {R:Run} {k:Nat} {args:List V} {p:V→Prop}
 (h:gj Tryz.cfg R (Tryz.cfg.fc 131) k 131 Tryz.f131.ntmps (uN 2 lfB) { nt:=Tryz.f131.ntmps,tmps:=number 0 args,locs:=[],fix:=[] } St.empty fun e A S=>match e with
  | .normal=>∃A2 S2 cs,bE Tryz.cfg R (Tryz.cfg.fc 131) (fun _=>.any) mG (takeN 11 mG) 0 A S=some (A2,S2)∧look 25 A2.tmps=some (.imm 0 (.bool false::cs))∧look 23 A2.tmps=some (.bool false)∧
   dZ Tryz.cfg R (Tryz.cfg.fc 131) k 131 Tryz.f131.ntmps [] (nr 3 lfB) A2 S2 fun e A S=>match e with | .exit _=>False | _=>∃v,pK Tryz.f131 A S=some v∧p v
  | _=>False) :
 ∃v,sG R k args=some v∧p v:=by
 obtain⟨e,A,S,h1,h2⟩:=h
 unfold sG
 rw [h1]
 cases e with
 | exit i=>exact h2.elim
 | ret=>exact h2.elim
 | normal=>
  obtain⟨A2,S2,cs,h3,h4,h5,h6⟩:=h2
  obtain⟨e,A',S',h7,h8⟩:=cJ _ _ _ _ h6
  simp only [h3,h4,h5,h7]
  cases e with
  | exit i=>exact h8.elim
  | ret=>exact h8
  | normal=>exact h8
theorem uc {t:Tm} {c:Int} {b:Nat} (ht:My c t) (hc:0≤c) (hcb:c + .ofNat b≤1048576) (hn:4000100≤n) :
 RN n (.f 131) [cd d sh p m u,aH t,.int .i64 (.ofNat b)] S=some (aH (a8 t 0 (.ofNat b)),S):=by
 obtain⟨k,rfl⟩:=up (show 20≤n by omega)
 have hb:(0:Int)≤.ofNat b:=by simp only [aOn];omega
 have hl:=ht.lift hb hcb 0
 have hw:=fv ht.may
 have hw2:=fv hl.may
 have hsz:=jv ht.may
 have h38:=fun S=>O9 (k + 5) t 0 (.ofNat b) S (qd ht.may) (by omega) (by omega) (qd hl.may) (by omega)
 rw [Ku hb hcb hc ht.vars ht.may] at h38
 refine xN (g:=sG) rfl rfl rfl rfl (by simp only [eE,br,bx,aq]) ?_
 have hs:(V.agg (aC (a8 t 0 (.ofNat b)))).strip=aH (a8 t 0 (.ofNat b)):=by
  show V.agg [_,_,_,aj (.list _ (av _) 0 _),aj (.list _ (av _) 0 _)]=_
  rw [eS,eS]
  rfl
 have h:∃v,sG (fD Tryz.cfg cO cW bW (k + 20)) (k + 20) [cd d sh p m u,aH t,.int .i64 (.ofNat b)]=some v∧v=aH (a8 t 0 (.ofNat b)):=by
  refine Py ?_
  refine gj.cons (nt:=27) ?_
  refine gj.cons (nt:=27) ?_
  refine ag.mk _ _ (rr (n:=k + 19) (h38 _)) ?_
  refine gj.nil (nt:=27) ?_
  refine⟨_,_,_,rfl,rfl,rfl,?_⟩
  exact⟨_,rfl,hs⟩
 obtain⟨v,h1,rfl⟩:=h
 exact h1
theorem M0 {t:Tm} {aa:Nat} (hb:rY d fx p) (ht:My 4096 t) (hf:fx≤(ak t).1.length) (h1:fx≤aa) (h2:aa≤100000) (hn:4000200≤n) :
 ∃q,RN n (.f 120) [cd d sh p m u,aH t,.int .i64 (.ofNat aa)] { heap:=H,aA:=T }=some q∧Pj fx t aa H T q:=by
 obtain⟨k,rfl⟩:=up (show 1≤n by omega)
 have hfx:=hb.bk.hfx
 have p8:=hb.bk.f12
 have hgb:=Io ht.gd hf h1 h2
 obtain⟨q0,k1,T1,tok,rfl,hg⟩:=h56 (n:=k) (x:=vu fx t aa) (H:=H) (T:=T) hgb.all (by have:=hgb.le;omega) (by have:=hgb.le;omega)
 have he:Int.ofNat aa - .ofNat fx=.ofNat (aa - fx):=by simp only [aOn];omega
 have h:∃q,frame Tryz.cfg (RN k) k 120 [cd d sh p m u,aH t,.int .i64 (.ofNat aa)] { heap:=H,aA:=T }=some q∧Pj fx t aa H T q:=by
  refine aV (fn:=Tryz.f120) (p:=Pj fx t aa H T) rfl rfl ?_
  refine aB.loop 33 (σ:=Unit) fx (fun j _=>{ nt:=33,tmps:=[(0,cd d sh p m u),(2,.int .i64 (.ofNat aa)),(4,.ptr (.loc 4) 0),(7,.ptr (.loc 7) 0),(12,.int .i64 d.fixed),(13,.int .i64 (.ofNat j))],locs:=[(4,aC (eh j t)),(7,ij)],fix:=[] }) (fun _ _=>{ heap:=H,aA:=T }) (fun _ _=>True) () (by omega) trivial ?_ ?_
  ·intro j _ hj _
   have hp:=j0 ht.gd.all j (by omega)
   obtain⟨hk,a,b,hts,_⟩:=hp.next (by omega)
   refine ah.yes (by rw [hfx];exact dC hj) ?_
   refine ab.mk _ (show indexAddr Tryz.cfg 23 (.list (au (eh j t).c (eh j t).ts) (av (eh j t).d) 0 (ae (eh j t).ts)) (.int .i64 (.ofNat 1))=_ from bJ (x:=b) (by rw [hts];rfl)) ?_
   refine ab.mk _ (az (by omega)) ?_
   refine⟨(),trivial,?_,rfl⟩
   have e:eh (j + 1) t=b:=by
    show ((eh j t).ts[1]?).getD zTm=b
    rw [hts];rfl
   rw [e]
  ·intro _ _
   refine ah.no (by rw [hfx];exact fJ (by omega)) ?_
   refine ab.mk (.int .i64 (.ofNat aa - .ofNat fx)) (by rw [hfx];exact pT (by simp only [aOn];omega) (by simp only [aOn];omega)) ?_
   have k0:=uc (n:=k) (d:=d) (sh:=sh) (p:=p) (m:=m) (u:=u) (S:={ heap:=H,aA:=T }) (b:=aa - fx) (rX ht fx hf) (by omega) (by simp only [aOn];omega) (by omega)
   rw [← he] at k0
   refine ag.mk _ _ k0 ?_
   refine ag.mk _ _ k1 ?_
   exact⟨_,rfl,T1,tok,rfl,hg⟩
 obtain⟨q,k2,k3⟩:=h
 exact⟨q,bC rfl k2,k3⟩
theorem M1 {name:List UInt8} {aa:Nat} {l:List Tm} {c:Bool} {tok:Tok} (hb:rY d fx p) (h2:aa≤1000000) (hl:l.length≤10000000) (hn:l.length + 40≤n) :
 RN n (.f 121) [cd d sh p m u,.str name,.int .i64 (.ofNat aa),.list (au c l) tok 0 (ae l)] S=some (aH (iW fx p name aa l),S):=by
 obtain⟨k,rfl⟩:=up (show 1≤n by omega)
 have hfx:=hb.bk.hfx
 have p8:=hb.bk.f12
 obtain⟨b,hb'⟩:=fL tok
 have k2:=Bh (n:=k) (from_:=0) (m:=fx) (r:=.ofNat aa) (S:=St.empty) (by omega) (by omega) (bdN (by omega))
 rw [← hfx] at k2
 have hrl:=jy 0 fx (.ofNat aa)
 have h:∃q,frame Tryz.cfg (RN k) k 121 [cd d sh p m u,.str name,.int .i64 (.ofNat aa),.list (au c l) (av b) 0 (ae l)] St.empty=some q∧∃S',q=(aH (iW fx p name aa l),S'):=by
  refine aV (fn:=Tryz.f121) (p:=fun q=>∃S',q=(aH (iW fx p name aa l),S')) rfl rfl ?_
  refine ag.mk _ _ k2 ?_
  refine ag.mk _ _ (rS (f:=pU name false (eW p).isEmpty (eW p)) (by rw [hrl];omega) (by rw [hrl];omega)) ?_
  refine ag.mk _ _ (rS (by omega) (by omega)) ?_
  exact⟨_,rfl,_,rfl⟩
 obtain⟨q,k3,S',rfl⟩:=h
 rw [mX (nA:=[cd d sh p m u,.str name,.int .i64 (.ofNat aa),.list (au c l) (av b) 0 (ae l)]) rfl rfl rfl (by simp only [eE,nz,bx,dp,gv hb',aq])]
 exact kh k3 (by simp only [eE,nz,bx,dp,aq]) rfl rfl
end
end Go.Ev
namespace Go.Ev
open Go.Proofs Go.RowKit
set_option maxRecDepth 100000
set_option maxHeartbeats 1000000
set_option linter.unusedVariables false
set_option linter.unusedSimpArgs false
theorem yc {LT ET sz by' : Nat} {z' : List V} {ei:TI} {H:List Blk} {T:List Nat} {new:List V} {bH:Tok} {sz1 sz2:Nat} (hl:Tryz.cfg.ti LT=some { kind:=.slice ET,size:=sz,bytes:=by',zero:=z' }) (he:Tryz.cfg.ti ET=some ei)
 (h0:0 < ei.size) (hb:ei.bytes≤1000) (hlen:new.length < 1000000000) (hne:new≠[]) (h2:sz2=ei.size) :
 ∃T' aP,(∀(A:Env) (ac:Acc),ac.heap=true→append Tryz.cfg A { heap:=H,aA:=T } ac LT (.list sz1 .tight 0 []) (.list sz2 bH 0 new)=some (.list ei.size aP 0 new,{ heap:=H,aA:=T' }))∧aw T T' new aP:=by
 have hq:(new.isEmpty=true∨sz2=ei.size):=.inr h2
 have hr:∀(A:Env) (ac:Acc) (S:St),fX A S ac ei.size (.list sz2 bH 0 new)=some (0,new):=fun A ac S=>by unfold fX;exact if_pos hq
 obtain⟨T',aP,h1,h3⟩:=xH (ei:=ei) (H:=H) (T0:=T) (T:=T) (done:=[]) (tok:=.tight) (sz:=sz1) (new:=new) h0 hb (by simpa using hlen) (.inl rfl) ⟨ju.refl T,.inl rfl⟩ hne
 rw [List.nil_append] at h1 h3
 refine⟨T',aP,?_,h3⟩
 intro A ac hac
 unfold append
 have hf:new.isEmpty=false:=by cases new with | nil=>exact absurd rfl hne | cons a l=>rfl
 simp only [hl,he,hr,hf,Bool.false_eq_true,if_false]
 exact h1 ac hac
section
variable {n:Nat} {d:Dl} {sh:List Sh} {m:Nat} {u:Lv} {fx p:Nat} {H:List Blk} {T:List Nat} {S:St}
theorem TP {x:In} {j aa:Nat} (hb:rY d fx p) (hx:d.ai[j]?=some x) (h1:fx≤aa) (h2:aa≤1000) (hsm:(aI fx x.ty aa).1.length≤100000) (hn:4000300≤n) :
 RN n (.f 158) [cd d sh p m u,.int .i64 (.ofNat j),.int .i64 (.ofNat aa)] S=some (aH (iF fx p u x aa),S):=by
 obtain⟨k,rfl⟩:=up (show 1≤n by omega)
 obtain⟨hg1,hg2,_⟩:=hb.bk.gd x (aMg hx)
 have hmy:=(hb.my x (aMg hx)).1
 obtain⟨q0,k1,T1,tok,rfl,hg⟩:=M0 (n:=k) (sh:=sh) (m:=m) (u:=u) (H:=[]) (T:=[]) hb hmy hg2 h1 (by omega) (by omega)
 have k2:=Bh (n:=k) (from_:=aa) (m:=(aI fx x.ty aa).1.length) (r:=.ofNat (aa + (aI fx x.ty aa).1.length)) (S:={ heap:=[],aA:=T1 }) (by omega) (by omega) (bdN (by omega))
 have hrl:=jy aa (aI fx x.ty aa).1.length (.ofNat (aa + (aI fx x.ty aa).1.length))
 have k3:=M1 (n:=k) (d:=d) (sh:=sh) (m:=m) (u:=u) (S:={ heap:=[],aA:=T1 }) (name:=x.name) (aa:=aa + (aI fx x.ty aa).1.length) (c:=false) (tok:=av (eK aa (aI fx x.ty aa).1.length (.ofNat (aa + (aI fx x.ty aa).1.length))).isEmpty) (l:=eK aa (aI fx x.ty aa).1.length (.ofNat (aa + (aI fx x.ty aa).1.length))) hb (by omega) (by rw [hrl];omega) (by rw [hrl];omega)
 obtain⟨T3,iL,a1,a2⟩:=jW (LT:=157) (c:=false) (bH:=.tight) (H:=[]) (done:=(aI fx x.ty aa).1) (new:=[iW fx p x.name (aa + (aI fx x.ty aa).1.length) (eK aa (aI fx x.ty aa).1.length (.ofNat (aa + (aI fx x.ty aa).1.length)))]) rfl (by simp only [aLc,List.length_nil];omega) hg
 have h:∃q,frame Tryz.cfg (RN k) k 158 [cd d sh p m u,.int .i64 (.ofNat j),.int .i64 (.ofNat aa)] St.empty=some q∧∃S',q=(aH (iF fx p u x aa),S'):=by
  refine aV (fn:=Tryz.f158) (p:=fun q=>∃S',q=(aH (iF fx p u x aa),S')) rfl rfl ?_
  refine ab.mk _ (aO hx) ?_
  refine ag.mk _ _ k1 ?_
  refine ab.mk (.int .i64 (.ofNat (aa + (aI fx x.ty aa).1.length))) (by rw [al];exact addNat (by omega)) ?_
  refine ab.mk _ (aO hx) ?_
  refine ag.mk _ _ (by rw [al];exact k2) ?_
  refine ag.mk _ _ k3 ?_
  refine ab.mk _ (bs1 _ 157 _ _ _ rfl) ?_
  refine cN.mk _ _ (a1 _ _ rfl) ?_
  refine ab.mk _ (bsL u) ?_
  refine ag.mk _ _ (Fi (t:=GP u) (by simp only [aLa,aLc,List.length_nil];omega) (by simp only [aLa,aLc,List.length_nil];omega)) ?_
  exact⟨_,rfl,_,rfl⟩
 obtain⟨q,k4,S',rfl⟩:=h
 exact kh k4 (by simp only [eE,bx,aq]) rfl rfl
theorem TQ {x:In} {h:Tm} (hn:1≤n):RN n (.f 188) [encI x,.ptr (.box 0) 0] { heap:=[.cells 25 (aC h)],aA:=T }=some (.bool (decide (x.name=h.s)),{ heap:=[.cells 25 (aC h)],aA:=T }):=by
 obtain⟨q,rfl⟩:=up hn
 refine bC rfl ?_
 refine aL Tryz.cfg _ (fn:=Tryz.f188) rfl rfl ?_
 refine ab.mkB jJ (fun h=>?_) (fun h=>?_)
 ·rw [h];rfl
 ·rw [h];rfl
theorem Pz {t:Tm} {c:Int} (hb:rY d fx p) (ht:My c t) (hf:fx≤(aD t).2.length) (hn:4000200≤n) :
 ∃c e,RN n (.f 164) [cd d sh p m u,aH t] S=some (.tuple [.int .i64 (eQ d.ai (aD t).1.s),.list (au c ((aD t).2.drop fx)) (av e) 0 (ae ((aD t).2.drop fx))],S):=by
 obtain⟨q,rfl⟩:=up (show 4≤n by omega)
 have iB:=hb.bk.dl.few
 have hfx:=hb.bk.hfx
 have p8:=hb.bk.f12
 have hw:=fv ht.may
 have G4:=QA (n:=q + 3) (S:=St.empty) ht.may (qd ht.may) (by omega)
 have hg:=Po (n:=q + 2) (f:=188) (top:=1) (first:=[]) (cap:=[.ptr (.box 0) 0]) (S:={ heap:=[.cells 25 (aC (aD t).1)],aA:=[] }) (fun i:In=>decide (i.name=(aD t).1.s)) d.ai (by omega) (by omega) (fun x _=>.inr (.inr ⟨rfl,fun A=>rfl,rfl,rfl,TQ (by omega)⟩))
 have Ps:RN (q + 3) (.f 143) [.list 7 .no 0 (d.ai.map encI),.fn 188 1 [] [.ptr (.box 0) 0]] { heap:=[.cells 25 (aC (aD t).1)],aA:=[] }=some (.int .i64 (eQ d.ai (aD t).1.s),{ heap:=[.cells 25 (aC (aD t).1)],aA:=[] }):=bC rfl hg
 obtain⟨c',aP,ht',hsl⟩:=oi (LT:=23) (c:=true) (tok:=.no) (xs:=(aD t).2) (m:=fx) rfl hf
 obtain⟨e,he⟩:=qC ht'
 have hl5:au true (aD t).2=5:=by cases (aD t).2<;>rfl
 rw [hl5] at hsl
 have h:∃r,frame Tryz.cfg (RN (q + 3)) (q + 3) 164 [cd d sh p m u,aH t] St.empty=some r∧∃S',r=(.tuple [.int .i64 (eQ d.ai (aD t).1.s),.list (au c' ((aD t).2.drop fx)) aP 0 (ae ((aD t).2.drop fx))],S'):=by
  refine aV (fn:=Tryz.f164) (p:=fun r=>∃S',r=(.tuple [.int .i64 (eQ d.ai (aD t).1.s),.list (au c' ((aD t).2.drop fx)) aP 0 (ae ((aD t).2.drop fx))],S')) rfl rfl ?_
  refine ag.mk _ _ G4 ?_
  refine ag.mk _ _ Ps ?_
  refine ab.mk (.list (au c' ((aD t).2.drop fx)) aP 0 (ae ((aD t).2.drop fx))) ?_ ?_
  ·have TR:(if Int.ofNat (aG (ae (aD t).2)) < d.fixed then Int.ofNat (aG (ae (aD t).2)) else d.fixed)=Int.ofNat fx:=by
    rw [al,hfx,if_neg (by simp only [aOn];omega)]
   simp only [TR]
   exact hsl
  exact⟨_,rfl,_,rfl⟩
 obtain⟨r,k1,S',rfl⟩:=h
 refine⟨c',e,?_⟩
 rw [he] at k1
 refine bG k1 (by simp only [eE,br,aq]) rfl rfl rfl rfl ?_
 show V.tuple [_,aj (.list _ (av e) 0 _)]=_
 rw [gQ]
 rfl
theorem TS {l:List Tm} {tok:Tok} (hl:l.length < 1000000000) (hn:1≤n) (I3:l=[]→tok=.tight):∃T' aP,RN n (.f 185) [.list (au false l) tok 0 (ae l)] { heap:=H,aA:=T }=some (.list (au false l) aP 0 (ae l),{ heap:=H,aA:=T' })∧aw T T' l aP:=by
 obtain⟨q,rfl⟩:=up hn
 cases l with
 | nil=>
  rw [I3 rfl]
  refine⟨T,.tight,?_,aw.start T⟩
  refine bC rfl ?_
  rw [show ae []=[] by rw [ae]]
  refine aL Tryz.cfg _ (fn:=Tryz.f185) rfl rfl ?_
  rfl
 | cons a r=>
  have hr:ae (a::r)=aH a::ae r:=by rw [cU,cU];rfl
  obtain⟨T',aP,h1,h2⟩:=yc (LT:=157) (ET:=25) (ei:=Tryz.ti25) (H:=H) (T:=T) (new:=ae (a::r)) (bH:=tok) (sz1:=5) (sz2:=5) rfl rfl (by decide) (by decide) (by rw [← an,al];exact hl) (by rw [hr];simp) rfl
  refine⟨T',aP,?_,(aw.map ae (fun l=>by rw [← an,al])).1 h2⟩
  refine bC rfl ?_
  rw [hr] at h1 ⊢
  refine aL Tryz.cfg _ (fn:=Tryz.f185) rfl rfl ?_
  refine ab.mk (.list 5 .tight 0 []) rfl ?_
  refine cN.mk _ _ (h1 _ _ rfl) ?_
  rfl
theorem TT {l:List Lv} {tok:Tok} (hl:l.length < 1000000000) (hn:1≤n) (I3:l=[]→tok=.tight):∃T' aP,RN n (.f 133) [.list (au false l) tok 0 (l.map enc)] { heap:=H,aA:=T }=some (.list (au false l) aP 0 (l.map enc),{ heap:=H,aA:=T' })∧aw T T' l aP:=by
 obtain⟨q,rfl⟩:=up hn
 cases l with
 | nil=>
  rw [I3 rfl]
  refine⟨T,.tight,?_,aw.start T⟩
  refine bC rfl ?_
  refine aL Tryz.cfg _ (fn:=Tryz.f133) rfl rfl ?_
  rfl
 | cons a r=>
  obtain⟨T',aP,h1,h2⟩:=yc (LT:=22) (ET:=51) (ei:=Tryz.ti51) (H:=H) (T:=T) (new:=(a::r).map enc) (bH:=tok) (sz1:=5) (sz2:=5) rfl rfl (by decide) (by decide) (by simpa using hl) (by simp) rfl
  refine⟨T',aP,?_,(aw.map (List.map enc) (fun l=>by simp)).1 h2⟩
  refine bC rfl ?_
  refine aL Tryz.cfg _ (fn:=Tryz.f133) rfl rfl ?_
  refine ab.mk (.list 5 .tight 0 []) rfl ?_
  refine cN.mk _ _ (h1 _ _ rfl) ?_
  rfl
end
theorem DP {a r:Nat} (h:a < r) (hr:r≤1000000):My (.ofNat r) (ch (.ofNat a) (.ofNat r)):=by
 refine⟨?_,?_⟩
 ·have hnu:kU (ch (.ofNat a) (.ofNat r))=true:=by
   unfold kU
   show (!iLt (Int.ofNat r - 1 - Int.ofNat a) 0 && !iLt 1048576 (Int.ofNat r - 1 - Int.ofNat a))=true
   rw [cb,cb]
   simp only [Bool.and_eq_true,Bool.not_eq_true',decide_eq_false_iff_not,aOn]
   omega
  have G3:bh (ch (.ofNat a) (.ofNat r))=true:=by
   unfold bh
   rw [hnu,show l8 (ch (.ofNat a) (.ofNat r))=true from rfl,show lr (ch (.ofNat a) (.ofNat r))=true from rfl,show (ch (.ofNat a) (.ofNat r)).ts=[] from rfl,al]
   rfl
  unfold cM
  rw [js]
  show Option.isSome (match bh (ch (.ofNat a) (.ofNat r)) with | true=>dD bh (ch (.ofNat a) (.ofNat r)).ts 65535 4095 | false=>none)=true
  rw [G3,show (ch (.ofNat a) (.ofNat r)).ts=[] from rfl]
  simp only [dD]
  rfl
 ·refine (fA _ _).2 ⟨fun _=>?_,fun y hy=>?_⟩
  ·show Int.ofNat r - 1 - Int.ofNat a≤Int.ofNat r
   simp only [aOn];omega
  ·exact absurd hy (by show ¬y∈([]:List Tm);simp)
theorem yd {a r b:Nat} (h:a < r) (hr:r≤1000000) (hb:b≤1000000):a8 (ch (.ofNat a) (.ofNat r)) 0 (.ofNat b)=ch (.ofNat a) (.ofNat (r + b)):=by
 rw [nC rfl]
 have h1:(!iLt (ch (.ofNat a) (.ofNat r)).n 0)=true:=by
  rw [cb]
  show (!decide (Int.ofNat r - 1 - Int.ofNat a < 0))=true
  simp only [Bool.not_eq_true',decide_eq_false_iff_not,aOn];omega
 rw [h1]
 show Pa (dv (Int.ofNat r - 1 - Int.ofNat a) (.ofNat b))=Pa (Int.ofNat (r + b) - 1 - Int.ofNat a)
 rw [show dv (Int.ofNat r - 1 - Int.ofNat a) (.ofNat b)=(Int.ofNat r - 1 - Int.ofNat a) + .ofNat b from ec (by simp only [aOn];omega) (by simp only [aOn];omega)]
 congr 1
 simp only [aOn];omega
theorem Hc {d:Dl} {fx:Nat} {t:Tm} {a:Int} (h:dq d fx t a=true):fx≤(aD t).2.length:=by
 unfold dq at h
 simp only [Bool.and_eq_true] at h
 have h3:=h.2.2
 unfold uU at h3
 rw [List.all_eq_true] at h3
 cases fx with
 | zero=>omega
 | succ k=>
  have:=h3 k (List.mem_range.2 (by omega))
  cases hq:(aD t).2[k]? with
  | none=>rw [hq] at this;cases this
  | some x=>have:=(aGs hq).1;omega
theorem Q3 {n:Nat} {s:List UInt8} {a b:Bool} {ls:List Lv} {tok bH:Tok} {xs:List Tm} {c:Bool} {S:St} (hb:eN tok=av b) (hn:xs.length + 2≤n) (hl:xs.length < 1000000000) :
 RN n (.f 124) [.agg [.int .u8 3,.int .i64 0,.str s,.list (au a ls) tok 0 (ls.map enc),.list 0 .tight 0 []],.list (au c xs) bH 0 (ae xs)] S=some (aH (eH (pU s a b ls) xs),S):=by
 obtain⟨q,rfl⟩:=up (show 1≤n by omega)
 have e:V.strip (.agg [.int .u8 3,.int .i64 0,.str s,.list (au a ls) tok 0 (ls.map enc),.list 0 .tight 0 []])=aH (pU s a b ls):=by
  show V.agg [_,_,_,aj (.list _ tok 0 _),_]=_
  rw [vc,hb]
  show V.agg [_,_,_,_,V.list 0 .tight 0 []]=V.agg [_,_,_,_,V.list 0 .tight 0 (ae [])]
  rw [cU];rfl
 rw [mX (nA:=[aH (pU s a b ls),.list (au c xs) bH 0 (ae xs)]) rfl rfl rfl (by
  show V.strip _::bg V.strip [_]=V.strip (aH _)::bg V.strip [_]
  rw [e,fu])]
 exact rS hn hl
section
variable {n:Nat} {d:Dl} {sh:List Sh} {m:Nat} {u:Lv} {fx p:Nat} {H:List Blk} {T:List Nat} {S:St}
@[reducible] noncomputable def bqQ (d:Dl) (sh:List Sh) (p m:Nat) (u:Lv):V:=.imm 0 [cd d sh p m u]
theorem TU {y deep:Nat} (hb:rY d fx p) (hy:y≤1000) (hd:deep≤1000000) (hn:10≤n):RN n (.f 186) [.int .i64 (.ofNat y),.int .i64 (.ofNat deep),bqQ d sh p m u] S=some (aH (uX d fx p u m 6 y deep),S):=by
 obtain⟨q,rfl⟩:=up (show 1≤n by omega)
 have hfx:=hb.bk.hfx
 have p8:=hb.bk.f12
 have h:frame Tryz.cfg (RN q) q 186 [.int .i64 (.ofNat y),.int .i64 (.ofNat deep),bqQ d sh p m u] St.empty=some (aH (uX d fx p u m 6 y deep),St.empty):=by
  refine aL Tryz.cfg _ (fn:=Tryz.f186) rfl rfl ?_
  refine ab.mk (.int .i64 (.ofNat (fx + y))) (by rw [hfx];exact addNat (by omega)) ?_
  refine ag.mk _ _ (Du (by omega) (bdN (by omega)) (bdN (by omega))) ?_
  rfl
 exact kh h (by simp only [bx,eE,aq]) rfl rfl
theorem TV {y deep:Nat} {x:In} (hb:rY d fx p) (hx:d.ai[y]?=some x) (hd:deep≤1000000) (hm:m≤1000) (hn:2000≤n):RN n (.f 132) [.int .i64 (.ofNat y),.int .i64 (.ofNat deep),bqQ d sh p m u] S=some (aH (uX d fx p u m 5 y deep),S):=by
 obtain⟨q,rfl⟩:=up (show 1≤n by omega)
 have hfx:=hb.bk.hfx
 have p8:=hb.bk.f12
 have hp4:=hb.bk.p4
 have iB:=hb.bk.dl.few
 have hnl:=(hb.bk.nm.nm x (aMg hx)).1
 obtain⟨T1,UG,k1,hg1⟩:=TT (n:=q) (l:=eW p) (tok:=av (eW p).isEmpty) (H:=[]) (T:=[]) (by rw [fk];omega) (by omega) (fun e=>by rw [e];rfl)
 obtain⟨T2,Pc,a1,a2⟩:=rR (c:=false) (bH:=.tight) (H:=[]) (done:=eW p) (new:=[u]) (by rw [fk];simp only [aLc,List.length_nil];omega) hg1
 have k2:=Bh (n:=q) (from_:=0) (m:=fx + d.ai.length + m) (r:=.ofNat deep) (S:={ heap:=[],aA:=T2 }) (by omega) (by omega) (bdN (by omega))
 have hrl:=jy 0 (fx + d.ai.length + m) (.ofNat deep)
 have h:∃q',frame Tryz.cfg (RN q) q 132 [.int .i64 (.ofNat y),.int .i64 (.ofNat deep),bqQ d sh p m u] St.empty=some q'∧∃S',q'=(aH (uX d fx p u m 5 y deep),S'):=by
  refine aV (fn:=Tryz.f132) (p:=fun q'=>∃S',q'=(aH (uX d fx p u m 5 y deep),S')) rfl rfl ?_
  refine ab.mk _ (aO hx) ?_
  refine ab.mk _ (Fj (b:=cI) (by unfold cI;simp only [aLc,List.length_nil];omega)) ?_
  refine ag.mk _ _ k1 ?_
  refine ab.mk _ (bsL u) ?_
  refine cN.mk _ _ (a1 _ _ rfl) ?_
  refine ab.mk (.int .i64 (.ofNat (fx + d.ai.length))) (by rw [hfx,an,aLm];exact addNat (by omega)) ?_
  refine ab.mk (.int .i64 (.ofNat (fx + d.ai.length + m))) (addNat (by omega)) ?_
  refine ag.mk _ _ k2 ?_
  refine ag.mk _ _ (Q3 a2.eN (by rw [hrl];omega) (by rw [hrl];omega)) ?_
  refine⟨_,rfl,?_⟩
  show ∃S',_=(aH (Kg d fx p u m y deep),S')
  unfold Kg GY
  rw [hx]
  exact⟨_,rfl⟩
 obtain⟨r,k3,S',rfl⟩:=h
 exact kh k3 (by simp only [bx,eE,aq]) rfl rfl
theorem Kx {t:Tm} {c:Int} {f aa:Nat} (hb:rY d fx p) (ht:My c t) (hf:f < aa) (ha:aa≤500000) (hm:m≤1000) (jC:dq d fx (ak t).2 (.ofNat (aa + (ak t).1.length))=true) (hlen:(ak t).1.length≤4000000) (Q4:aa + (ak t).1.length≤500000) (hn:4010000≤n) :
 RN n (.f 130) [cd d sh p m u,.int .u8 6,aH t,aH (ch (.ofNat f) (.ofNat aa)),.int .i64 (.ofNat aa),.fn 186 0 [] [bqQ d sh p m u]] S=some (aH (mY d fx p u m 6 t f aa),S):=by
 obtain⟨q,rfl⟩:=up (show 1≤n by omega)
 have iB:=hb.bk.dl.few
 have hfx:=hb.bk.hfx
 have p8:=hb.bk.f12
 have hw:=fv ht.may
 obtain⟨my1,my2⟩:=ht.pis
 obtain⟨q0,k1,T1,tok,rfl,hg⟩:=h56 (n:=q) (x:=t) (H:=[]) (T:=[]) (cH ht.may) (by omega) (by omega)
 obtain⟨j,x,hj,hx⟩ : ∃j x,eQ d.ai (aD (ak t).2).1.s=.ofNat j∧d.ai[j]?=some x:=by
  rcases xK d fx (ak t).2 (.ofNat (aa + (ak t).1.length)) with h | ⟨j,x,h1,h2⟩
  ·unfold cD at h
   rw [jC] at h
   unfold eQ at h
   cases hq:dw (fun i=>decide (i.name=(aD (ak t).2).1.s)) d.ai 0 with
   | none=>
    exfalso
    unfold dq kI at jC
    rw [hq] at jC
    simp at jC
   | some j=>rw [hq] at h;exact absurd h (by show ¬(Int.ofNat j = -1);simp only [aOn];omega)
  ·unfold cD at h1
   rw [jC] at h1
   exact⟨j,x,h1,h2⟩
 have hjl:j < d.ai.length:=(aGs hx).1
 have hsl:fx≤(aD (ak t).2).2.length:=Hc jC
 obtain⟨c1,e1,k2⟩:=Pz (n:=q) (sh:=sh) (m:=m) (u:=u) (S:={ heap:=[],aA:=T1 }) hb my1 hsl (by omega)
 have hwE:=(iA _ _ (Nat.le_refl _) my1.gd.all).1
 have TW:=my1.gd.le
 have hdl:((aD (ak t).2).2.drop fx).length≤4000000:=by rw [List.length_drop];omega
 have k3:=uc (n:=q) (d:=d) (sh:=sh) (p:=p) (m:=m) (u:=u) (S:={ heap:=[],aA:=T1 }) (b:=(ak t).1.length) (DP hf (by omega)) (by simp only [aOn];omega) (by simp only [aOn];omega) (by omega)
 rw [yd hf (by omega) (by omega)] at k3
 have k4:=Bh (n:=q) (from_:=aa) (m:=(ak t).1.length) (r:=.ofNat (aa + (ak t).1.length)) (S:={ heap:=[],aA:=T1 }) (by omega) (by omega) (bdN (by omega))
 have hrl:=jy aa (ak t).1.length (.ofNat (aa + (ak t).1.length))
 have h:∃r,frame Tryz.cfg (RN q) q 130 [cd d sh p m u,.int .u8 6,aH t,aH (ch (.ofNat f) (.ofNat aa)),.int .i64 (.ofNat aa),.fn 186 0 [] [bqQ d sh p m u]] St.empty=some r∧∃S',r=(aH (mY d fx p u m 6 t f aa),S'):=by
  refine aV (fn:=Tryz.f130) (p:=fun r=>∃S',r=(aH (mY d fx p u m 6 t f aa),S')) rfl rfl ?_
  refine ag.mk _ _ k1 ?_
  refine ab.mk (.int .i64 (.ofNat (aa + (ak t).1.length))) (by rw [al];exact addNat (by omega)) ?_
  refine ag.mk _ _ k2 ?_
  rw [hj]
  refine ah.no rfl ?_
  refine ag.mk _ _ (by rw [al];exact k3) ?_
  refine ag.mk _ _ (by rw [al];exact k4) ?_
  refine ag.mk _ _ (rS (by rw [hrl];omega) (by rw [hrl];omega)) ?_
  refine ag.mk _ _ (TU (n:=q) (y:=j) (deep:=aa + (ak t).1.length) (S:={ heap:=[],aA:=T1 }) hb (by omega) (by omega) (by omega)) ?_
  refine ag.mk _ _ (rS (by omega) (by omega)) ?_
  refine ab.mk _ (bs1 _ 23 _ _ _ rfl) ?_
  refine ag.mk _ _ (rS (by simp only [aLc,List.length_nil];omega) (by simp only [aLc,List.length_nil];omega)) ?_
  refine ag.mk _ _ (Fi (by omega) (by omega)) ?_
  refine⟨_,rfl,?_⟩
  have hm:cD d fx (ak t).2 (.ofNat (aa + (ak t).1.length))=(.ofNat j,(aD (ak t).2).2.drop fx):=by
   unfold cD
   rw [jC,hj]
  unfold mY
  rw [hm]
  exact⟨_,rfl⟩
 obtain⟨r,k6,S',rfl⟩:=h
 exact kh k6 (by simp only [eE,bx,br,aq];rfl) rfl rfl
theorem Ky {t:Tm} {c:Int} {f aa:Nat} (hb:rY d fx p) (ht:My c t) (hf:f < aa) (ha:aa≤500000) (hm:m≤1000) (jC:dq d fx (ak t).2 (.ofNat (aa + (ak t).1.length))=true) (hlen:(ak t).1.length≤4000000) (Q4:aa + (ak t).1.length≤500000) (hn:4010000≤n) :
 RN n (.f 130) [cd d sh p m u,.int .u8 5,aH t,aH (ch (.ofNat f) (.ofNat aa)),.int .i64 (.ofNat aa),.fn 132 0 [] [bqQ d sh p m u]] S=some (aH (mY d fx p u m 5 t f aa),S):=by
 obtain⟨q,rfl⟩:=up (show 1≤n by omega)
 have iB:=hb.bk.dl.few
 have hfx:=hb.bk.hfx
 have p8:=hb.bk.f12
 have hw:=fv ht.may
 obtain⟨my1,my2⟩:=ht.pis
 obtain⟨q0,k1,T1,tok,rfl,hg⟩:=h56 (n:=q) (x:=t) (H:=[]) (T:=[]) (cH ht.may) (by omega) (by omega)
 obtain⟨j,x,hj,hx⟩ : ∃j x,eQ d.ai (aD (ak t).2).1.s=.ofNat j∧d.ai[j]?=some x:=by
  rcases xK d fx (ak t).2 (.ofNat (aa + (ak t).1.length)) with h | ⟨j,x,h1,h2⟩
  ·unfold cD at h
   rw [jC] at h
   unfold eQ at h
   cases hq:dw (fun i=>decide (i.name=(aD (ak t).2).1.s)) d.ai 0 with
   | none=>
    exfalso
    unfold dq kI at jC
    rw [hq] at jC
    simp at jC
   | some j=>rw [hq] at h;exact absurd h (by show ¬(Int.ofNat j = -1);simp only [aOn];omega)
  ·unfold cD at h1
   rw [jC] at h1
   exact⟨j,x,h1,h2⟩
 have hjl:j < d.ai.length:=(aGs hx).1
 have hsl:fx≤(aD (ak t).2).2.length:=Hc jC
 obtain⟨c1,e1,k2⟩:=Pz (n:=q) (sh:=sh) (m:=m) (u:=u) (S:={ heap:=[],aA:=T1 }) hb my1 hsl (by omega)
 have hwE:=(iA _ _ (Nat.le_refl _) my1.gd.all).1
 have TW:=my1.gd.le
 have hdl:((aD (ak t).2).2.drop fx).length≤4000000:=by rw [List.length_drop];omega
 have k3:=uc (n:=q) (d:=d) (sh:=sh) (p:=p) (m:=m) (u:=u) (S:={ heap:=[],aA:=T1 }) (b:=(ak t).1.length) (DP hf (by omega)) (by simp only [aOn];omega) (by simp only [aOn];omega) (by omega)
 rw [yd hf (by omega) (by omega)] at k3
 have k4:=Bh (n:=q) (from_:=aa) (m:=(ak t).1.length) (r:=.ofNat (aa + (ak t).1.length)) (S:={ heap:=[],aA:=T1 }) (by omega) (by omega) (bdN (by omega))
 have hrl:=jy aa (ak t).1.length (.ofNat (aa + (ak t).1.length))
 have h:∃r,frame Tryz.cfg (RN q) q 130 [cd d sh p m u,.int .u8 5,aH t,aH (ch (.ofNat f) (.ofNat aa)),.int .i64 (.ofNat aa),.fn 132 0 [] [bqQ d sh p m u]] St.empty=some r∧∃S',r=(aH (mY d fx p u m 5 t f aa),S'):=by
  refine aV (fn:=Tryz.f130) (p:=fun r=>∃S',r=(aH (mY d fx p u m 5 t f aa),S')) rfl rfl ?_
  refine ag.mk _ _ k1 ?_
  refine ab.mk (.int .i64 (.ofNat (aa + (ak t).1.length))) (by rw [al];exact addNat (by omega)) ?_
  refine ag.mk _ _ k2 ?_
  rw [hj]
  refine ah.no rfl ?_
  refine ag.mk _ _ (by rw [al];exact k3) ?_
  refine ag.mk _ _ (by rw [al];exact k4) ?_
  refine ag.mk _ _ (rS (by rw [hrl];omega) (by rw [hrl];omega)) ?_
  refine ag.mk _ _ (TV (n:=q) (y:=j) (deep:=aa + (ak t).1.length) (S:={ heap:=[],aA:=T1 }) hb hx (by omega) hm (by omega)) ?_
  refine ag.mk _ _ (rS (by omega) (by omega)) ?_
  refine ab.mk _ (bs1 _ 23 _ _ _ rfl) ?_
  refine ag.mk _ _ (rS (by simp only [aLc,List.length_nil];omega) (by simp only [aLc,List.length_nil];omega)) ?_
  refine ag.mk _ _ (Fi (by omega) (by omega)) ?_
  refine⟨_,rfl,?_⟩
  have hm:cD d fx (ak t).2 (.ofNat (aa + (ak t).1.length))=(.ofNat j,(aD (ak t).2).2.drop fx):=by
   unfold cD
   rw [jC,hj]
  unfold mY
  rw [hm]
  exact⟨_,rfl⟩
 obtain⟨r,k6,S',rfl⟩:=h
 exact kh k6 (by simp only [eE,bx,br,aq];rfl) rfl rfl
end
@[reducible] noncomputable def NY:Option (Int×Int)→List (Nat×List V)
  | none=>[]
  | some f=>[(6,[.int .i64 f.1,.int .i64 f.2])]
theorem tu {sh:List Sh} {x:Nat} {s:Sh} (h:sh[x]?=some s) (hne:s.fields≠[]):indexAddr Tryz.cfg 64 (.list 7 .no 0 (sh.map bQ)) (.int .i64 (.ofNat x))=some (.imm 0 [.int .i64 s.index,.int .i64 s.level.c,.int .i64 s.level.p0,.int .i64 s.level.p1,.int .i64 s.level.p2,.int .i64 s.level.p3,.list 1 .no 0 (s.fields.map bj)]):=by
 have h1:indexAddr Tryz.cfg 64 (.list 7 .no 0 (sh.map bQ)) (.int .i64 (.ofNat x))=some (.imm 0 (sV s)):=dI (ei:=Tryz.ti112) rfl rfl h
 rw [h1]
 have:jX 1 (s.fields.map fun fs=>V.agg [rh fs])=.list 1 .no 0 (s.fields.map bj):=by
  cases hs:s.fields with
  | nil=>exact absurd hs hne
  | cons a r=>rfl
 rw [← this]
theorem nG {fss:List (List (Int×Int))} {c:Nat} {fs:List (Int×Int)} (h:fss[c]?=some fs):indexAddr Tryz.cfg 110 (.list 1 .no 0 (fss.map bj)) (.int .i64 (.ofNat c))=some (.imm 0 [rh fs]):=dI (f:=fun fs=>[rh fs]) (ei:=Tryz.ti113) rfl rfl h
section
variable {n:Nat} {d:Dl} {sh:List Sh} {m:Nat} {u:Lv} {fx p:Nat} {S:St}
theorem TX {x c:Nat} {s:Sh} {fs:List (Int×Int)} {B:List Blk} {T:List Nat} {b:Nat} {P:Nat→St→Prop} (hsx:sh[x]?=some s) (hsc:s.fields[c]?=some fs) (hn:fs.length < n) (hl:fs.length≤1000)
 (h0:P 0 { heap:=.cells 69 [cd d sh p m u]::.cells 3 [.int .i64 (.ofNat x)]::.cells 3 [.int .i64 (.ofNat c)]::B,aA:=T })
 (hy:∀i f S,fs[i]?=some f→iLt f.1 0=false→P i S→∃S',RN n (.y b) [.int .i64 (.ofNat i)] S=some (.bool true,S')∧P (i + 1) S')
 (hs:∀i f S,fs[i]?=some f→iLt f.1 0=true→P i S→P (i + 1) S) :
 ∃S',RN (n + 1) (.f 163) [.yield b,.ptr (.box 0) 0,.ptr (.box 1) 0,.ptr (.box 2) 0] { heap:=.cells 69 [cd d sh p m u]::.cells 3 [.int .i64 (.ofNat x)]::.cells 3 [.int .i64 (.ofNat c)]::B,aA:=T }=some (.tuple [],S')∧P fs.length S':=by
 have h:∃r,frame Tryz.cfg (RN n) n 163 [.yield b,.ptr (.box 0) 0,.ptr (.box 1) 0,.ptr (.box 2) 0] { heap:=.cells 69 [cd d sh p m u]::.cells 3 [.int .i64 (.ofNat x)]::.cells 3 [.int .i64 (.ofNat c)]::B,aA:=T }=some r∧∃S',r=(.tuple [],S')∧P fs.length S':=by
  refine aV (fn:=Tryz.f163) (p:=fun r=>∃S',r=(.tuple [],S')∧P fs.length S') rfl rfl ?_
  have PA:s.fields≠[]:=fun e=>by rw [e] at hsc;simp at hsc
  refine ab.mk _ (tu hsx PA) ?_
  rcases fs with _ | ⟨f0,fr⟩
  ·refine ab.mk _ (nG hsc) ?_
   refine aB.loop 34 (σ:=Unit) 0 (fun j _=>{ nt:=34,tmps:=[(0,.yield b),(17,.list 0 .tight 0 []),(18,.int .i64 0),(19,.int .i64 0)],locs:=[],fix:=[] }) (fun _ _=>{ heap:=.cells 69 [cd d sh p m u]::.cells 3 [.int .i64 (.ofNat x)]::.cells 3 [.int .i64 (.ofNat c)]::B,aA:=T })
    (fun _ _=>True) () (by omega) trivial (fun j _ hj=>absurd hj (by omega)) (fun _ _=>?_)
   refine ah.no rfl ?_
   exact⟨_,rfl,_,rfl,h0⟩
  ·refine ab.mk _ (show indexAddr Tryz.cfg 110 (.list 1 .no 0 (s.fields.map bj)) (.int .i64 (.ofNat c))=some (.imm 0 [.list 2 .no 0 ((f0::fr).map dh)]) from nG hsc) ?_
   refine aB.loop 34 (σ:=Option (Int×Int)×St) (f0::fr).length (fun j s=>{ nt:=34,tmps:=[(0,.yield b),(17,.list 2 .no 0 ((f0::fr).map dh)),(18,.int .i64 (.ofNat (aG ((f0::fr).map dh)))),(19,.int .i64 (.ofNat j))],locs:=NY s.1,fix:=[] }) (fun _ s=>s.2)
    (fun j s=>P j s.2) (none,{ heap:=.cells 69 [cd d sh p m u]::.cells 3 [.int .i64 (.ofNat x)]::.cells 3 [.int .i64 (.ofNat c)]::B,aA:=T }) hn h0 ?_ ?_
   ·rintro j ⟨o,S1⟩ hj (hp:P j S1)
    obtain⟨f,hf⟩ : ∃f,(f0::fr)[j]?=some f:=⟨_,aGe hj⟩
    rcases o with _ | f1
    all_goals
     refine ah.yes (ltM hj) ?_
     refine ab.mk _ (xP hf) ?_
     refine ah.mk (fun h1=>?_) (fun h1=>?_)
     ·obtain⟨S',k1,k2⟩:=hy j f S1 hf (by simpa using h1) hp
      refine ag.mk _ _ k1 ?_
      refine ab.mk _ (az (by omega)) ?_
      exact⟨(some f,S'),k2,rfl,rfl⟩
     ·have k2:=hs j f S1 hf (by simpa using h1) hp
      refine ab.mk _ (az (by omega)) ?_
      exact⟨(some f,S1),k2,rfl,rfl⟩
   ·rintro⟨o,S1⟩ (hp:P (f0::fr).length S1)
    rcases o with _ | f1
    all_goals
     refine ah.no (geM (by omega)) ?_
     exact⟨_,rfl,S1,rfl,hp⟩
 obtain⟨r,h1,S',rfl,h2⟩:=h
 exact⟨S',bC rfl h1,h2⟩
end
end Go.Ev
namespace Go.Ev
open Go.Proofs Go.RowKit
set_option maxRecDepth 100000
set_option maxHeartbeats 4000000
set_option linter.unusedVariables false
set_option linter.unusedSimpArgs false
@[reducible] noncomputable def Rc (n:Nat):Run:=bT HQ n (fD Tryz.cfg cO cW bW n)
theorem rc {n id:Nat} {args:List V} {S:St} {r:V×St} (h:RN n (.f id) args S=some r) (hc:HQ id=cO id:=by rfl) (hn:cW id=false:=by rfl) (hr:bW id=false:=by rfl):Rc n (.f id) args S=some r:=by
 have h2:cX bW (cp cW (bT cO n (fD Tryz.cfg cO cW bW n))) (.f id) args S=some r:=h
 unfold cX cp at h2
 simp only [hn,hr] at h2
 rw [← h2]
 show bT HQ n (fD Tryz.cfg cO cW bW n) (.f id) args S=_
 unfold bT
 simp only [hc]
theorem ye {x0:Tm} {i fx aa b2:Nat} (hx:My 4096 x0) (h1:fx≤aa) (h2:aa≤100000) (hi:i≤1000) (hb:b2≤100000) :
 My (.ofNat (104096 + b2)) (a8 (a8 x0 (.ofNat i) (.ofNat aa - .ofNat fx)) 0 (.ofNat b2))∧(ak (a8 (a8 x0 (.ofNat i) (.ofNat aa - .ofNat fx)) 0 (.ofNat b2))).1.length=(ak x0).1.length∧
 (∀d,dq d fx (ak x0).2 (.ofNat (fx + i + (ak x0).1.length))=true→dq d fx (ak (a8 (a8 x0 (.ofNat i) (.ofNat aa - .ofNat fx)) 0 (.ofNat b2))).2 (.ofNat (aa + i + b2 + (ak x0).1.length))=true):=by
 have hl0:(ak x0).1.length≤65536:=by
  have:=nF _ x0 (Nat.le_refl _) (cH hx.may)
  have:=jv hx.may
  omega
 have m1:=hx.lift (b:=.ofNat aa - .ofNat fx) (by simp only [aOn];omega) (by simp only [aOn];omega) (.ofNat i)
 have m2:=m1.lift (b:=.ofNat b2) (by simp only [aOn];omega) (by simp only [aOn];omega) 0
 have hw1:=fv hx.may
 have p1:=sZ _ x0 (Nat.le_refl _) (cH hx.may) (.ofNat i) (.ofNat aa - .ofNat fx) (by simp only [aOn];omega) (by simp only [aOn];omega)
 have p2:=sZ _ _ (Nat.le_refl _) (cH m1.may) 0 (.ofNat b2) (by omega) (by rw [GW];omega)
 rw [p1] at p2
 have e2:(ak (a8 (a8 x0 (.ofNat i) (.ofNat aa - .ofNat fx)) 0 (.ofNat b2))).2=a8 (a8 (ak x0).2 (.ofNat i + .ofNat (ak x0).1.length) (.ofNat aa - .ofNat fx)) (0 + .ofNat (ak x0).1.length) (.ofNat b2):=by
  rw [p2]
  simp only [ou]
 refine⟨m2.mono (by simp only [aOn];omega),by rw [p2];simp only [ou],fun d hm=>?_⟩
 rw [e2]
 have hE:=(hx.pis).1
 have q1:=(zP (c:=.ofNat i + .ofNat (ak x0).1.length) (b:=.ofNat aa - .ofNat fx) (cH hE.may) hm (by simp only [aOn];omega) (by simp only [aOn];omega) (by simp only [aOn];omega) (by simp only [aOn];omega) (by simp only [aOn];omega)).1
 have hE1:=hE.lift (b:=.ofNat aa - .ofNat fx) (by simp only [aOn];omega) (by simp only [aOn];omega) (.ofNat i + .ofNat (ak x0).1.length)
 have q2:=(zP (c:=0 + .ofNat (ak x0).1.length) (b:=.ofNat b2) (cH hE1.may) q1 (by simp only [aOn];omega) (by simp only [aOn];omega) (by simp only [aOn];omega) (by simp only [aOn];omega) (by simp only [aOn];omega)).1
 rw [show Int.ofNat (aa + i + b2 + (ak x0).1.length)=Int.ofNat (fx + i + (ak x0).1.length) + (Int.ofNat aa - Int.ofNat fx) + Int.ofNat b2 by simp only [aOn];omega]
 exact q2
section
variable {n:Nat} {d:Dl} {sh:List Sh} {m:Nat} {u:Lv} {fx p:Nat} {H:List Blk} {T:List Nat} {S:St}
theorem TY {x c:Nat} (hn:1≤n):RN n (.f 129) [cd d sh p m u,.int .i64 (.ofNat x),.int .i64 (.ofNat c)] { heap:=[],aA:=T }=some (.fn 163 3 [] [.ptr (.box 0) 0,.ptr (.box 1) 0,.ptr (.box 2) 0],{ heap:=[.cells 69 [cd d sh p m u],.cells 3 [.int .i64 (.ofNat x)],.cells 3 [.int .i64 (.ofNat c)]],aA:=T }):=by
 obtain⟨q,rfl⟩:=up hn
 refine bC rfl ?_
 kernel_rfl
@[reducible] noncomputable def PB (aa:Nat) (c:Ct) (l:List Tm) (tl:Tok) (e:Tm) (all:List Tm) (ta:Tok) (ca:Bool):List (Nat×List V):=[(7,[.int .i64 (.ofNat aa)]),(8,ij),(9,mb c),(10,[.list (au false l) tl 0 (ae l)]),(11,aC e),(13,[.list (au ca all) ta 0 (ae all)])]
noncomputable def oE (d:Dl) (sh:List Sh) (p m:Nat) (u:Lv) (x aa:Nat) (c:Ct) (l:List Tm) (tl:Tok) (e:Tm) (all:List Tm) (ta:Tok) (ca:Bool):dj:={ fid:=159,nt:=121,tmps:=[(1,.int .i64 (.ofNat x)),(4,bqQ d sh p m u),(7,.ptr (.loc 7) 0),(8,.ptr (.loc 8) 0),(9,.ptr (.loc 9) 0),(10,.ptr (.loc 10) 0),(11,.ptr (.loc 11) 0),(12,.int .i64 (.ofNat (aG (ae l)))),(13,.ptr (.loc 13) 0),(48,.fn 163 3 [] [.ptr (.box 0) 0,.ptr (.box 1) 0,.ptr (.box 2) 0])],locs:=PB aa c l tl e all ta ca,params:=[49],assign:=l6 Tryz.f159,body:=l7 Tryz.f159,st:=.ready,iX:=none }
noncomputable def Kz (d:Dl) (sh:List Sh) (p m:Nat) (u:Lv) (x ci aa:Nat) (c:Ct) (l:List Tm) (tl:Tok) (e:Tm) (all:List Tm) (ta:Tok) (ca:Bool) (T:List Nat):St:={ heap:=[.cells 69 [cd d sh p m u],.cells 3 [.int .i64 (.ofNat x)],.cells 3 [.int .i64 (.ofNat ci)],.loop (oE d sh p m u x aa c l tl e all ta ca)],aA:=T }
theorem KA {x ci aa i h:Nat} {c:Ct} {l all:List Tm} {tl ta:Tok} {ca:Bool} {e x0:Tm} {T0:List Nat} (hb:rY d fx p) (hx0:My 4096 x0) (hli:l[i]?=some (a8 x0 (.ofNat i) (.ofNat aa - .ofNat fx))) (jC:dq d fx (ak x0).2 (.ofNat (fx + i + (ak x0).1.length))=true)
 (cg:all.length=l.length + h) (hl:l.length≤100) (hh:h≤100) (h1:fx≤aa) (h2:aa≤1000) (hm:m≤1000) (hn:4020000≤n) (hg:aw T0 T all ta) :
 ∃ta' T',RN n (.y 3) [.int .i64 (.ofNat i)] (Kz d sh p m u x ci aa c l tl e all ta ca T)=some (.bool true,Kz d sh p m u x ci aa c l tl e (all++[mY d fx p u m 6 (a8 (a8 x0 (.ofNat i) (.ofNat aa - .ofNat fx)) 0 (.ofNat (l.length - i + h))) (aa + i) (aa + l.length + h)]) ta' false T')∧aw T0 T' (all++[mY d fx p u m 6 (a8 (a8 x0 (.ofNat i) (.ofNat aa - .ofNat fx)) 0 (.ofNat (l.length - i + h))) (aa + i) (aa + l.length + h)]) ta':=by
 obtain⟨q,rfl⟩:=up (show 1≤n by omega)
 have hil:=(aGs hli).1
 obtain⟨f1,f2,f3⟩:=ye (i:=i) (fx:=fx) (aa:=aa) (b2:=l.length - i + h) hx0 h1 (by omega) (by omega) (by omega)
 have f4:=f3 d jC
 have hl0:(ak x0).1.length≤65536:=by
  have:=nF _ x0 (Nat.le_refl _) (cH hx0.may)
  have:=jv hx0.may
  omega
 have hx1:=hx0.lift (b:=.ofNat aa - .ofNat fx) (by simp only [aOn];omega) (by simp only [aOn];omega) (.ofNat i)
 generalize hy:mY d fx p u m 6 (a8 (a8 x0 (.ofNat i) (.ofNat aa - .ofNat fx)) 0 (.ofNat (l.length - i + h))) (aa + i) (aa + l.length + h)=y at *
 obtain⟨T',ta',g1,g2⟩:=xT (H:=[.cells 69 [cd d sh p m u],.cells 3 [.int .i64 (.ofNat x)],.cells 3 [.int .i64 (.ofNat ci)],.loop { oE d sh p m u x aa c l tl e all ta ca with st:=.busy,locs:=[] }]) (t:=y) (c0:=ca) (by omega) hg
 refine⟨ta',T',?_,g2⟩
 have k1:=uc (n:=q) (d:=d) (sh:=sh) (p:=p) (m:=m) (u:=u) (S:={ heap:=[.cells 69 [cd d sh p m u],.cells 3 [.int .i64 (.ofNat x)],.cells 3 [.int .i64 (.ofNat ci)],.loop { oE d sh p m u x aa c l tl e all ta ca with st:=.busy,locs:=[] }],aA:=T }) (b:=l.length - i + h) hx1 (by simp only [aOn];omega) (by simp only [aOn];omega) (by omega)
 have k2:=Kx (n:=q) (sh:=sh) (m:=m) (u:=u) (S:={ heap:=[.cells 69 [cd d sh p m u],.cells 3 [.int .i64 (.ofNat x)],.cells 3 [.int .i64 (.ofNat ci)],.loop { oE d sh p m u x aa c l tl e all ta ca with st:=.busy,locs:=[] }],aA:=T }) (f:=aa + i) (aa:=aa + l.length + h) hb f1 (by omega) (by omega) hm (by
  rw [f2,show aa + l.length + h + (ak x0).1.length=aa + i + (l.length - i + h) + (ak x0).1.length by omega]
  exact f4) (by omega) (by omega) (by omega)
 rw [hy] at k2
 refine fH ?_
 refine fj (r:=oE d sh p m u x aa c l tl e all ta ca) (nt:=121) (fx:=[7,8,9,10,11,13]) rfl rfl rfl rfl rfl rfl rfl ?_
 refine ab.mk (.int .i64 (.ofNat (aa + l.length + h))) (by rw [al,cg,Nat.add_assoc];exact addNat (by omega)) ?_
 refine ab.mk _ (xx hli) ?_
 refine ab.mk (.int .i64 (.ofNat (l.length + h))) ?_ ?_
 ·rw [show Int.ofNat (l.length + h)=Int.ofNat (aa + l.length + h) - Int.ofNat aa by simp only [aOn];omega]
  exact pT (by simp only [aOn];omega) (by simp only [aOn];omega)
 refine ab.mk (.int .i64 (.ofNat (l.length - i + h))) ?_ ?_
 ·rw [show Int.ofNat (l.length - i + h)=Int.ofNat (l.length + h) - Int.ofNat i by simp only [aOn];omega]
  exact pT (by simp only [aOn];omega) (by simp only [aOn];omega)
 refine ag.mk _ _ k1 ?_
 refine ab.mk (.int .i64 (.ofNat (aa + i))) (addNat (by omega)) ?_
 refine ag.mk _ _ (Du (by omega) (bdN (by omega)) (bdN (by omega))) ?_
 refine ag.mk _ _ k2 ?_
 refine ab.mk _ rfl ?_
 refine AR.mk _ _ (inT (t:=y) rfl rfl rfl rfl rfl rfl rfl g1 rfl) ?_
 conv=>whnf
 rfl
theorem Q5 {x ci aa:Nat} {i:In} {c:Ct} {s:Sh} {fs:List (Int×Int)} (hb:rY d fx p) (hx:d.ai[x]?=some i) (hc:i.cs[ci]?=some c) (hsx:sh[x]?=some s) (hsc:s.fields[ci]?=some fs) (hfr:b9 d fx c.ty=some fs)
 (h12:(ak c.ty).1.length≤fx + 12) (hfl:fx≤(ak c.ty).1.length) (hsp:fx≤(aD (ak c.ty).2).2.length) (h1:fx≤aa) (h2:aa≤1000) (hm:m≤1000) (hn:4030000≤n) :
 Oy (fD Tryz.cfg cO cW bW n) n [cd d sh p m u,.int .i64 (.ofNat x),.int .i64 (.ofNat ci),.int .i64 (.ofNat aa)]=some (aH (kV d fx p u m fs x c aa)):=by
 obtain⟨k,rfl⟩:=up (show 2≤n by omega)
 have iB:=hb.bk.dl.few
 have hfx:=hb.bk.hfx
 have p8:=hb.bk.f12
 have hxl:x < d.ai.length:=(aGs hx).1
 have hcm:=(hb.my i (aMg hx)).2 c (aMg hc)
 have Q6:=u6 hfr
 have hbn:=jA (aa:=aa) hcm.gd (by omega) hfl
 have hbe:=ue (aa:=aa) hcm.gd (by omega) hfl
 obtain⟨q0,k1,T1,tok,rfl,hg⟩:=M0 (n:=k + 2) (sh:=sh) (m:=m) (u:=u) (H:=[]) (T:=[]) (aa:=aa) hb hcm hfl h1 (by omega) (by omega)
 obtain⟨cp1,cp2⟩:=hcm.pis
 have hE:My 200000 (aI fx c.ty aa).2:=by
  rw [hbe]
  have:=cp1.lift (b:=.ofNat aa - .ofNat fx) (by simp only [aOn];omega) (by simp only [aOn];omega) (.ofNat ((ak c.ty).1.length - fx))
  exact this.mono (by simp only [aOn];omega)
 have TZ:fx≤(aD (aI fx c.ty aa).2).2.length:=by
  rw [hbe]
  show fx≤(aD (a8 _ _ _)).2.length
  rw [ov _ _ (Nat.le_refl _) cp1.gd.all _ _ (by simp only [aOn];omega) (by simp only [aOn];omega)]
  simpa using hsp
 have yf:∀j f,fs[j]?=some f→∃t x0,(aI fx c.ty aa).1[j]?=some t∧t=a8 x0 (.ofNat j) (.ofNat aa - .ofNat fx)∧My 4096 x0∧(iLt f.1 0=false→dq d fx (ak x0).2 (.ofNat (fx + j + (ak x0).1.length))=true):=by
  intro j f hf
  have hjl:=(aGs hf).1
  have hx0:(ak c.ty).1[fx + j]?=some ((ak c.ty).1[fx + j]'(by omega)):=aGe (by omega)
  refine⟨_,(ak c.ty).1[fx + j]'(by omega),?_,rfl,cp2 _ (List.getElem_mem _),fun hr=>?_⟩
  ·rw [hbe]
   have:=rV (.ofNat aa - .ofNat fx) ((ak c.ty).1.drop fx) 0 j ((ak c.ty).1[fx + j]'(by omega)) (by rw [List.getElem?_drop];exact hx0)
   rw [Int.zero_add] at this
   exact this
  ·obtain⟨y,y1,y2⟩:=x8 hfr hf hr
   rw [hx0] at y1
   cases y1
   exact y2
 have hmr:kV d fx p u m fs x c aa=fC 6 ((aI fx c.ty aa).1++fV d fx p u m (aI fx c.ty aa).1.length aa ((aI fx c.ty aa).1.zip fs) 0 0) (eH (eH (ch (.ofNat (fx + x)) (.ofNat (aa + (aI fx c.ty aa).1.length + (fV d fx p u m (aI fx c.ty aa).1.length aa ((aI fx c.ty aa).1.zip fs) 0 0).length))) ((aD (a8 (aI fx c.ty aa).2 0 (.ofNat (fV d fx p u m (aI fx c.ty aa).1.length aa ((aI fx c.ty aa).1.zip fs) 0 0).length))).2.drop fx)) [iW fx p c.name (aa + (aI fx c.ty aa).1.length + (fV d fx p u m (aI fx c.ty aa).1.length aa ((aI fx c.ty aa).1.zip fs) 0 0).length) (eK aa (aI fx c.ty aa).1.length (.ofNat (aa + (aI fx c.ty aa).1.length + (fV d fx p u m (aI fx c.ty aa).1.length aa ((aI fx c.ty aa).1.zip fs) 0 0).length)))]):=rfl
 rw [hmr]
 clear hmr
 generalize hB:aI fx c.ty aa=B at *
 have hnl:B.1.length≤12:=by rw [hbn];omega
 have hBf:B.1.length=fs.length:=by rw [hbn,Q6]
 obtain⟨T2,ta,k2,hg2⟩:=TS (n:=k + 2) (l:=B.1) (tok:=tok) (H:=[]) (T:=T1) (by omega) (by omega) (fun e=>by
  rcases hg.2 with⟨_,h⟩ | ⟨t,_,_,_,h⟩
  ·exact h
  ·exact absurd e h)
 obtain⟨S9,k3,done,ta3,ca3,T3,rfl,hd1,hd2,hg3⟩:=TX (n:=k + 1) (d:=d) (sh:=sh) (p:=p) (m:=m) (u:=u) (x:=x) (c:=ci) (s:=s) (fs:=fs) (b:=3) (B:=[.loop (oE d sh p m u x aa c B.1 tok B.2 B.1 ta false)]) (T:=T2)
  (P:=fun j S=>∃done ta3 ca3 T3,S=Kz d sh p m u x ci aa c B.1 tok B.2 (B.1++done) ta3 ca3 T3∧done.length≤j∧fV d fx p u m B.1.length aa (B.1.zip fs) 0 0=done++fV d fx p u m B.1.length aa ((B.1.zip fs).drop j) j done.length∧aw T1 T3 (B.1++done) ta3)
  hsx hsc (by omega) (by omega) ⟨[],ta,false,T2,by rw [List.append_nil];rfl,Nat.le_refl _,by simp,by rw [List.append_nil];exact hg2⟩
  (fun j f S hf hr ⟨done,ta3,ca3,T3,e1,e2,e3,e4⟩=>by
   subst e1
   obtain⟨t,x0,t1,t2,t3,t4⟩:=yf j f hf
   have hjl:=(aGs hf).1
   have hz:(B.1.zip fs)[j]?=some (t,f):=by rw [List.getElem?_zip_eq_some];exact⟨t1,hf⟩
   rw [GZ d fx p u m B.1.length aa hz] at e3
   simp only [hr,Bool.not_false] at e3
   subst t2
   obtain⟨ta',T',r1,r2⟩:=KA (n:=k + 1) (d:=d) (sh:=sh) (p:=p) (m:=m) (u:=u) (x:=x) (ci:=ci) (aa:=aa) (i:=j) (h:=done.length) (c:=c) (l:=B.1) (all:=B.1++done) (tl:=tok) (ta:=ta3) (ca:=ca3) (e:=B.2) (x0:=x0) (T0:=T1) (T:=T3) hb t3 t1 (t4 hr) (by simp) (by omega) (by omega) h1 h2 hm (by omega) e4
   exact⟨_,r1,done++[mY d fx p u m 6 (a8 (a8 x0 (.ofNat j) (.ofNat aa - .ofNat fx)) 0 (.ofNat (B.1.length - j + done.length))) (aa + j) (aa + B.1.length + done.length)],ta',false,T',by rw [List.append_assoc],by simp;omega,by rw [e3];simp,by rw [← List.append_assoc];exact r2⟩)
  (fun j f S hf hr ⟨done,ta3,ca3,T3,e1,e2,e3,e4⟩=>by
   obtain⟨t,x0,t1,t2,t3,t4⟩:=yf j f hf
   have hz:(B.1.zip fs)[j]?=some (t,f):=by rw [List.getElem?_zip_eq_some];exact⟨t1,hf⟩
   rw [GZ d fx p u m B.1.length aa hz] at e3
   simp only [hr,Bool.not_true] at e3
   exact⟨done,ta3,ca3,T3,e1,by omega,e3,e4⟩)
 rw [List.drop_of_length_le (by rw [List.length_zip];exact Nat.min_le_right _ _),fV,List.append_nil] at hd2
 subst hd2
 generalize hhs:fV d fx p u m B.1.length aa (B.1.zip fs) 0 0=hs at *
 have hhl:hs.length≤12:=by omega
 have hE2:=hE.lift (b:=.ofNat hs.length) (by simp only [aOn];omega) (by simp only [aOn];omega) 0
 have T8:fx≤(aD (a8 B.2 0 (.ofNat hs.length))).2.length:=by
  rw [ov _ _ (Nat.le_refl _) hE.gd.all _ _ (by omega) (by omega)]
  simpa using TZ
 have hrl:=jy aa B.1.length (.ofNat (aa + B.1.length + hs.length))
 have UH:=(iA _ _ (Nat.le_refl _) hE2.gd.all).1
 have hEw:=hE2.gd.le
 have hdl:((aD (a8 B.2 0 (.ofNat hs.length))).2.drop fx).length≤4000000:=by rw [List.length_drop];omega
 have Q7:∀S,Rc (k + 2) (.f 131) [cd d sh p m u,aH B.2,.int .i64 (.ofNat hs.length)] S=some (aH (a8 B.2 0 (.ofNat hs.length)),S):=fun S=>rc (uc (b:=hs.length) hE (by omega) (by simp only [aOn];omega) (by omega))
 obtain⟨c1,e1,Q8⟩:=Pz (n:=k + 2) (sh:=sh) (m:=m) (u:=u) (S:={ heap:=[.cells 69 [cd d sh p m u],.cells 3 [.int .i64 (.ofNat x)],.cells 3 [.int .i64 (.ofNat ci)],.loop { oE d sh p m u x aa c B.1 tok B.2 (B.1++hs) ta3 ca3 with st:=.rj,locs:=[],tmps:=[] }],aA:=T3 }) hb hE2 T8 (by omega)
 have PC:=TY (n:=k + 2) (d:=d) (sh:=sh) (p:=p) (m:=m) (u:=u) (x:=x) (c:=ci) (T:=T2) (by omega)
 have h:∃v,sH 159 1 Tryz.f159 (Rc (k + 2)) (k + 2) [cd d sh p m u,.int .i64 (.ofNat x),.int .i64 (.ofNat ci),.int .i64 (.ofNat aa)]=some v∧v=aH (fC 6 (B.1++hs) (eH (eH (ch (.ofNat (fx + x)) (.ofNat (aa + B.1.length + hs.length))) ((aD (a8 B.2 0 (.ofNat hs.length))).2.drop fx)) [iW fx p c.name (aa + B.1.length + hs.length) (eK aa B.1.length (.ofNat (aa + B.1.length + hs.length)))])):=by
  refine G2 (id:=159) (m:=1) (fn:=Tryz.f159) ?_
  refine gj.cons (nt:=121) ?_
  refine gj.nil (nt:=121) ?_
  refine⟨_,rfl,?_⟩
  refine ab.mk _ (aO hx) ?_
  refine ab.mk _ (ed hc) ?_
  refine ag.mk _ _ (rc k1) ?_
  refine ag.mk _ _ (rc k2) ?_
  refine ag.mk _ _ (rc PC) ?_
  refine aB.mk _ _ _ (dL (f:=163) (top:=3) (first:=[]) (cap:=[.ptr (.box 0) 0,.ptr (.box 1) 0,.ptr (.box 2) 0]) (l:=oE d sh p m u x aa c B.1 tok B.2 B.1 ta false) (r:=oE d sh p m u x aa c B.1 tok B.2 (B.1++hs) ta3 ca3) (v:=.tuple []) (by rfl) (by rfl) (rc k3) (by rfl) (.inl rfl)) ?_
  refine ab.mk (.int .i64 (.ofNat (aa + B.1.length + hs.length))) (by rw [al,aLa,Nat.add_assoc];exact addNat (by omega)) ?_
  refine ab.mk (.int .i64 (.ofNat hs.length)) ?_ ?_
  ·rw [al,al,show Int.ofNat hs.length=Int.ofNat (B.1++hs).length - Int.ofNat B.1.length by simp only [aOn,aLa];omega]
   exact pT (by simp only [aOn,aLa];omega) (by simp only [aOn,aLa];omega)
  refine ag.mk _ _ (Q7 _) ?_
  refine ag.mk _ _ (rc Q8) ?_
  refine ag.mk _ _ (by rw [al];exact rc (Bh (n:=k + 2) (from_:=aa) (m:=B.1.length) (r:=.ofNat (aa + B.1.length + hs.length)) (by omega) (by omega) (bdN (by omega)))) ?_
  refine ag.mk _ _ (rc (M1 (n:=k + 2) (name:=c.name) (aa:=aa + B.1.length + hs.length) hb (by omega) (by rw [hrl];omega) (by rw [hrl];omega))) ?_
  refine ab.mk (.int .i64 (.ofNat (fx + x))) (by rw [hfx];exact addNat (by omega)) ?_
  refine ag.mk _ _ (rc (Du (by omega) (bdN (by omega)) (bdN (by omega)))) ?_
  refine ag.mk _ _ (rc (rS (by omega) (by omega))) ?_
  refine ab.mk _ (bs1 _ 23 _ _ _ rfl) ?_
  refine ag.mk _ _ (rc (rS (by simp only [aLc,List.length_nil];omega) (by simp only [aLc,List.length_nil];omega))) ?_
  refine ag.mk _ _ (rc (Fi (by rw [aLa];omega) (by rw [aLa];omega))) ?_
  refine⟨_,rfl,?_⟩
  exact fu _
 obtain⟨v,h1,rfl⟩:=h
 exact h1
theorem T9 {x ci aa:Nat} {i:In} {c:Ct} {s:Sh} {fs:List (Int×Int)} (hb:rY d fx p) (hx:d.ai[x]?=some i) (hc:i.cs[ci]?=some c) (hsx:sh[x]?=some s) (hsc:s.fields[ci]?=some fs) (hfr:b9 d fx c.ty=some fs)
 (h12:(ak c.ty).1.length≤fx + 12) (hfl:fx≤(ak c.ty).1.length) (hsp:fx≤(aD (ak c.ty).2).2.length) (h1:fx≤aa) (h2:aa≤1000) (hm:m≤1000) (hn:4030000≤n) :
 RN n (.f 159) [cd d sh p m u,.int .i64 (.ofNat x),.int .i64 (.ofNat ci),.int .i64 (.ofNat aa)] S=some (aH (kV d fx p u m fs x c aa),S):=
 xN rfl rfl rfl rfl (by simp only [eE,bx,aq]) (Q5 hb hx hc hsx hsc hfr h12 hfl hsp h1 h2 hm hn)
end
section
variable {n:Nat} {d:Dl} {sh:List Sh} {m:Nat} {u:Lv} {fx p:Nat} {S:St}
theorem h20 {T:List Nat} (hn:1≤n):RN n (.f 20) [cd d sh p m u] { heap:=[],aA:=T }=some (.fn 60 1 [] [.ptr (.box 0) 0],{ heap:=[.cells 69 [cd d sh p m u]],aA:=T }):=by
 obtain⟨q,rfl⟩:=up hn
 refine bC rfl ?_
 kernel_rfl
theorem Ua {T:List Nat} (hn:1≤n):RN n (.f 20) [.ptr (.box 0) 0] { heap:=[.cells 72 (oD d sh p m u)],aA:=T }=some (.fn 60 2 [] [.ptr (.box 1) 0],{ heap:=[.cells 72 (oD d sh p m u),.cells 69 [.ptr (.box 0) 0]],aA:=T }):=by
 obtain⟨q,rfl⟩:=up hn
 refine bC rfl ?_
 kernel_rfl
theorem h60 {B:List Blk} {T:List Nat} {b:Nat} {P:Nat→Nat→St→Prop} {Q:St→Prop} (hl:d.ai.length < n) (hcs:∀i∈d.ai,i.cs.length < n) (hn:SmD d) (h0:P 0 0 { heap:=.cells 69 [cd d sh p m u]::B,aA:=T })
 (hy:∀j x i S,d.ai[j]?=some x→i < x.cs.length→P j i S→(∃S',RN n (.y b) [.int .i64 (.ofNat j),.int .i64 (.ofNat i)] S=some (.bool true,S')∧P j (i + 1) S')∨(∃S',RN n (.y b) [.int .i64 (.ofNat j),.int .i64 (.ofNat i)] S=some (.bool false,S')∧Q S'))
 (hz:∀j x S,d.ai[j]?=some x→P j x.cs.length S→P (j + 1) 0 S) :
 ∃S',RN (n + 1) (.f 60) [.yield b,.ptr (.box 0) 0] { heap:=.cells 69 [cd d sh p m u]::B,aA:=T }=some (.tuple [],S')∧(P d.ai.length 0 S'∨Q S'):=by
 have h:∃r,frame Tryz.cfg (RN n) n 60 [.yield b,.ptr (.box 0) 0] { heap:=.cells 69 [cd d sh p m u]::B,aA:=T }=some r∧∃S',r=(.tuple [],S')∧(P d.ai.length 0 S'∨Q S'):=by
  refine aV (fn:=Tryz.f60) (p:=fun r=>∃S',r=(.tuple [],S')∧(P d.ai.length 0 S'∨Q S')) rfl rfl ?_
  refine aB.loop 30 (σ:=Option In×St) d.ai.length (fun j s=>{ nt:=30,tmps:=[(0,.yield b),(10,.list 7 .no 0 (d.ai.map encI)),(11,.int .i64 (.ofNat (aG (d.ai.map encI)))),(12,.int .i64 (.ofNat j))],locs:=(match s.1 with | none=>[] | some x=>[(4,eP x)]),fix:=[] })
   (fun _ s=>s.2) (fun j s=>P j 0 s.2) (none,{ heap:=.cells 69 [cd d sh p m u]::B,aA:=T }) (by omega) h0 ?_ ?_
  ·rintro j ⟨o,S1⟩ hj (hp:P j 0 S1)
   obtain⟨x,hx⟩ : ∃x,d.ai[j]?=some x:=⟨_,aGe hj⟩
   have hxl:=hcs x (aMg hx)
   have hn1:=hn.1
   have Pq:=hn.2 x (aMg hx)
   rcases o with _ | x0
   all_goals
    refine ah.yes (ltM hj) ?_
    refine ab.mk _ (aO hx) ?_
    refine aB.loop 30 (σ:=St) x.cs.length (fun i s=>{ nt:=30,tmps:=[(0,.yield b),(3,.int .i64 (.ofNat j)),(10,.list 7 .no 0 (d.ai.map encI)),(11,.int .i64 (.ofNat (aG (d.ai.map encI)))),(12,.int .i64 (.ofNat j)),(19,.int .i64 (.ofNat (aG (x.cs.map fw)))),(20,.int .i64 (.ofNat i))],locs:=[(4,eP x)],fix:=[] })
     (fun _ s=>s) (fun i s=>P j i s) S1 (by omega) hp ?_ ?_
    ·rintro i S2 hi hp2
     refine ah.yes (ltM hi) ?_
     rcases hy j x i S2 hx hi hp2 with⟨S',k1,k2⟩ | ⟨S',k1,k2⟩
     ·refine ag.mk _ _ k1 ?_
      refine ab.mk _ (az (by omega)) ?_
      exact⟨S',k2,rfl,rfl⟩
     ·refine ag.mk _ _ k1 ?_
      exact⟨_,rfl,S',rfl,.inr k2⟩
    ·rintro S2 hp2
     have hp3:=hz j x S2 hx hp2
     refine ah.no (geM (by omega)) ?_
     refine ab.mk _ (az (by omega)) ?_
     exact⟨(some x,S2),hp3,rfl,rfl⟩
  ·rintro⟨o,S1⟩ (hp:P d.ai.length 0 S1)
   rcases o with _ | x0
   all_goals
    refine ah.no (geM (by omega)) ?_
    exact⟨_,rfl,S1,rfl,.inl hp⟩
 obtain⟨r,h1,S',rfl,h2⟩:=h
 exact⟨S',bC rfl h1,h2⟩
theorem Ub {B:List Blk} {T:List Nat} {b:Nat} {P:Nat→Nat→St→Prop} {Q:St→Prop} (hl:d.ai.length < n) (hcs:∀i∈d.ai,i.cs.length < n) (hn:SmD d) (h0:P 0 0 { heap:=.cells 72 (oD d sh p m u)::.cells 69 [.ptr (.box 0) 0]::B,aA:=T })
 (hy:∀j x i S,d.ai[j]?=some x→i < x.cs.length→P j i S→(∃S',RN n (.y b) [.int .i64 (.ofNat j),.int .i64 (.ofNat i)] S=some (.bool true,S')∧P j (i + 1) S')∨(∃S',RN n (.y b) [.int .i64 (.ofNat j),.int .i64 (.ofNat i)] S=some (.bool false,S')∧Q S'))
 (hz:∀j x S,d.ai[j]?=some x→P j x.cs.length S→P (j + 1) 0 S) :
 ∃S',RN (n + 1) (.f 60) [.yield b,.ptr (.box 1) 0] { heap:=.cells 72 (oD d sh p m u)::.cells 69 [.ptr (.box 0) 0]::B,aA:=T }=some (.tuple [],S')∧(P d.ai.length 0 S'∨Q S'):=by
 have h:∃r,frame Tryz.cfg (RN n) n 60 [.yield b,.ptr (.box 1) 0] { heap:=.cells 72 (oD d sh p m u)::.cells 69 [.ptr (.box 0) 0]::B,aA:=T }=some r∧∃S',r=(.tuple [],S')∧(P d.ai.length 0 S'∨Q S'):=by
  refine aV (fn:=Tryz.f60) (p:=fun r=>∃S',r=(.tuple [],S')∧(P d.ai.length 0 S'∨Q S')) rfl rfl ?_
  refine aB.loop 30 (σ:=Option In×St) d.ai.length (fun j s=>{ nt:=30,tmps:=[(0,.yield b),(10,.list 7 .no 0 (d.ai.map encI)),(11,.int .i64 (.ofNat (aG (d.ai.map encI)))),(12,.int .i64 (.ofNat j))],locs:=(match s.1 with | none=>[] | some x=>[(4,eP x)]),fix:=[] })
   (fun _ s=>s.2) (fun j s=>P j 0 s.2) (none,{ heap:=.cells 72 (oD d sh p m u)::.cells 69 [.ptr (.box 0) 0]::B,aA:=T }) (by omega) h0 ?_ ?_
  ·rintro j ⟨o,S1⟩ hj (hp:P j 0 S1)
   obtain⟨x,hx⟩ : ∃x,d.ai[j]?=some x:=⟨_,aGe hj⟩
   have hxl:=hcs x (aMg hx)
   have hn1:=hn.1
   have Pq:=hn.2 x (aMg hx)
   rcases o with _ | x0
   all_goals
    refine ah.yes (ltM hj) ?_
    refine ab.mk _ (aO hx) ?_
    refine aB.loop 30 (σ:=St) x.cs.length (fun i s=>{ nt:=30,tmps:=[(0,.yield b),(3,.int .i64 (.ofNat j)),(10,.list 7 .no 0 (d.ai.map encI)),(11,.int .i64 (.ofNat (aG (d.ai.map encI)))),(12,.int .i64 (.ofNat j)),(19,.int .i64 (.ofNat (aG (x.cs.map fw)))),(20,.int .i64 (.ofNat i))],locs:=[(4,eP x)],fix:=[] })
     (fun _ s=>s) (fun i s=>P j i s) S1 (by omega) hp ?_ ?_
    ·rintro i S2 hi hp2
     refine ah.yes (ltM hi) ?_
     rcases hy j x i S2 hx hi hp2 with⟨S',k1,k2⟩ | ⟨S',k1,k2⟩
     ·refine ag.mk _ _ k1 ?_
      refine ab.mk _ (az (by omega)) ?_
      exact⟨S',k2,rfl,rfl⟩
     ·refine ag.mk _ _ k1 ?_
      exact⟨_,rfl,S',rfl,.inr k2⟩
    ·rintro S2 hp2
     have hp3:=hz j x S2 hx hp2
     refine ah.no (geM (by omega)) ?_
     refine ab.mk _ (az (by omega)) ?_
     exact⟨(some x,S2),hp3,rfl,rfl⟩
  ·rintro⟨o,S1⟩ (hp:P d.ai.length 0 S1)
   rcases o with _ | x0
   all_goals
    refine ah.no (geM (by omega)) ?_
    exact⟨_,rfl,S1,rfl,.inl hp⟩
 obtain⟨r,h1,S',rfl,h2⟩:=h
 exact⟨S',bC rfl h1,h2⟩
end
theorem tv {d:Dl} {fx x ci:Nat} {sh:List Sh} {i:In} {c:Ct} {s:Sh} {fs:List (Int×Int)} (h:gI d fx=some sh) (hx:d.ai[x]?=some i) (hc:i.cs[ci]?=some c) (hsx:sh[x]?=some s) (hsc:s.fields[ci]?=some fs):b9 d fx c.ty=some fs:=by
 obtain⟨s',e1,e2⟩:=j5 h hx
 rw [hsx] at e1;cases e1
 unfold iM at e2
 cases hq:bP (fun c:Ct=>b9 d fx c.ty) i.cs with
 | none=>rw [hq] at e2;cases e2
 | some l=>
  rw [hq] at e2
  cases e2
  obtain⟨fs',f1,f2⟩:=j5 hq hc
  have h3:l[ci]?=some fs:=hsc
  rw [h3] at f1;cases f1
  exact f2
noncomputable def PD (d:Dl) (j:Nat):List Ct:=((d.ai[j]?).map (·.cs)).getD []
theorem Bx {d:Dl} {j:Nat} {x:In} (h:d.ai[j]?=some x):PD d j=x.cs:=by unfold PD;rw [h];rfl
section
variable {n:Nat} {d:Dl} {sh:List Sh} {m:Nat} {u:Lv} {fx p:Nat} {T:List Nat} {S:St}
noncomputable def rZ (d:Dl) (sh:List Sh) (p m:Nat) (u:Lv) (e:Tm) (l:List Tm) (tok:Tok) (ca:Bool):dj:={ fid:=119,nt:=65,tmps:=[(1,.ptr (.loc 1) 0),(2,.ptr (.loc 2) 0),(50,.fn 60 1 [] [.ptr (.box 0) 0])],locs:=[(1,[cd d sh p m u]),(2,[.list (au ca l) tok 0 (ae l)]),(4,aC e)],params:=[51,52],assign:=l6 Tryz.f119,body:=l7 Tryz.f119,st:=.ready,iX:=none }
noncomputable def KB (d:Dl) (sh:List Sh) (p m:Nat) (u:Lv) (e:Tm) (l:List Tm) (tok:Tok) (ca:Bool) (T:List Nat):St:={ heap:=[.cells 69 [cd d sh p m u],.loop (rZ d sh p m u e l tok ca)],aA:=T }
theorem KC {x ci:Nat} {i:In} {c:Ct} {s:Sh} {fs:List (Int×Int)} {l:List Tm} {tok:Tok} {ca:Bool} {e:Tm} {T0:List Nat} (hb:rY d fx p) (hx:d.ai[x]?=some i) (hc:i.cs[ci]?=some c) (hsx:sh[x]?=some s) (hsc:s.fields[ci]?=some fs) (hfr:b9 d fx c.ty=some fs)
 (h12:(ak c.ty).1.length≤fx + 12) (hfl:fx≤(ak c.ty).1.length) (hsp:fx≤(aD (ak c.ty).2).2.length) (h1:fx≤l.length) (h2:l.length≤1000) (hm:m≤1000) (hn:4030010≤n) (hg:aw T0 T l tok) :
 ∃aP T',RN n (.y 1) [.int .i64 (.ofNat x),.int .i64 (.ofNat ci)] (KB d sh p m u e l tok ca T)=some (.bool true,KB d sh p m u e (l++[kV d fx p u m fs x c l.length]) aP false T')∧aw T0 T' (l++[kV d fx p u m fs x c l.length]) aP:=by
 obtain⟨q,rfl⟩:=up (show 1≤n by omega)
 have k1:=T9 (n:=q) (d:=d) (sh:=sh) (p:=p) (m:=m) (u:=u) (aa:=l.length) (S:={ heap:=[.cells 69 [cd d sh p m u],.loop { rZ d sh p m u e l tok ca with st:=.busy,locs:=[] }],aA:=T }) hb hx hc hsx hsc hfr h12 hfl hsp h1 h2 hm (by omega)
 generalize hy:kV d fx p u m fs x c l.length=y at *
 obtain⟨T',aP,g1,g2⟩:=xT (H:=[.cells 69 [cd d sh p m u],.loop { rZ d sh p m u e l tok ca with st:=.busy,locs:=[] }]) (t:=y) (c0:=ca) (by omega) hg
 refine⟨aP,T',?_,g2⟩
 refine fH ?_
 refine fj (r:=rZ d sh p m u e l tok ca) (nt:=65) (fx:=[1,2,4]) rfl rfl rfl rfl rfl rfl rfl ?_
 refine ag.mk _ _ (by rw [al];exact k1) ?_
 refine ab.mk _ rfl ?_
 refine AR.mk _ _ (inT (t:=y) rfl rfl rfl rfl rfl rfl rfl g1 rfl) ?_
 conv=>whnf
 rfl
theorem PE (hb:rY d fx p) (hs:Pk d sh fx) (hsh:gI d fx=some sh) (h0:d.ai[0]?=some (in0 d)) (hm:m≤1000) (hn:4050000≤n) :
 ∃c' T' tok bl,RN n (.f 119) [cd d sh p m u] { heap:=[],aA:=T }=some (.list (au c' (aU d sh fx p u m)) tok 0 (ae (aU d sh fx p u m)),{ heap:=[.cells 69 [cd d sh p m u],bl],aA:=T' })∧aw T T' (aU d sh fx p u m) tok:=by
 obtain⟨q,rfl⟩:=up (show 3≤n by omega)
 have iB:=hb.bk.dl.few
 have hfx:=hb.bk.hfx
 have p8:=hb.bk.f12
 obtain⟨g1,g2,g3⟩:=hb.bk.gd (in0 d) (aMg h0)
 obtain⟨q0,k1,T1,tok,rfl,hg⟩:=h56 (n:=q + 2) (x:=(in0 d).ty) (H:=[]) (T:=T) g1.all (by have:=g1.le;omega) (by have:=g1.le;omega)
 obtain⟨c',Pf,hsl⟩:=oo (LT:=23) (c:=false) (tok:=tok) (m:=fx) rfl g2
 rw [← hfx] at hsl
 have hfl:=qE hb.bk h0
 obtain⟨c1,T2,bH,a1,a2⟩:=mi (LT:=157) (c0:=false) (c:=c') (bH:=Pf) (H:=[]) (T0:=T) (T:=T1) (done:=[]) (new:=ow d fx) (tok:=.tight) rfl (by rw [hfl];simp only [List.length_nil];omega) ⟨hg.1,.inl ⟨rfl,rfl⟩⟩
 rw [List.nil_append] at a1 a2
 have h:∃r,frame Tryz.cfg (RN (q + 2)) (q + 2) 119 [cd d sh p m u] { heap:=[],aA:=T }=some r∧∃c' T' tok bl,r=(.list (au c' (aU d sh fx p u m)) tok 0 (ae (aU d sh fx p u m)),{ heap:=[.cells 69 [cd d sh p m u],bl],aA:=T' })∧aw T T' (aU d sh fx p u m) tok:=by
  refine aV (fn:=Tryz.f119) (p:=fun r=>∃c' T' tok bl,r=(.list (au c' (aU d sh fx p u m)) tok 0 (ae (aU d sh fx p u m)),{ heap:=[.cells 69 [cd d sh p m u],bl],aA:=T' })∧aw T T' (aU d sh fx p u m) tok) rfl rfl ?_
  refine ab.mk _ (show indexAddr Tryz.cfg 26 (.list 7 .no 0 (d.ai.map encI)) (.int .i64 (.ofNat 0))=_ from aO h0) ?_
  refine ag.mk _ _ k1 ?_
  refine ab.mk _ hsl ?_
  refine cN.mk _ _ (a1 _ _ rfl) ?_
  refine aB.loop 65 (σ:=List Tm×Bool×Tok×List Nat) d.ai.length (fun j s=>{ nt:=65,tmps:=[(1,.ptr (.loc 1) 0),(2,.ptr (.loc 2) 0),(34,.int .i64 (.ofNat (aG (d.ai.map encI)))),(35,.int .i64 (.ofNat j))],locs:=[(1,[cd d sh p m u]),(2,[.list (au s.2.1 s.1) s.2.2.1 0 (ae s.1)]),(4,aC (ak (in0 d).ty).2)],fix:=[] })
   (fun _ s=>{ heap:=[],aA:=s.2.2.2 }) (fun j s=>s.1=ow d fx++((d.ai.zipIdx 0).take j).map (fun q=>iF fx p u q.1 (fx + q.2))∧aw T s.2.2.2 s.1 s.2.2.1) (ow d fx,c1,bH,T2) (by omega) ⟨by simp,a2⟩ ?_ ?_
  ·rintro j ⟨l,fl,iL,T3⟩ hj ⟨(hl:l=_),(hg3:aw T T3 l iL)⟩
   obtain⟨x,hx⟩ : ∃x,d.ai[j]?=some x:=⟨_,aGe hj⟩
   obtain⟨x1,x2,_⟩:=hb.bk.gd x (aMg hx)
   have hll:l.length=fx + j:=by
    rw [hl]
    simp only [aLa,aLm,List.length_take,List.length_zipIdx,hfl]
    omega
   have hbn:=jA (aa:=fx + j) x1 (by omega) x2
   have h12:=(hs.at_ j x hx).1
   have Q9:=TP (n:=q + 2) (d:=d) (sh:=sh) (p:=p) (m:=m) (u:=u) (S:={ heap:=[],aA:=T3 }) (aa:=l.length) hb hx (by omega) (by omega) (by rw [hll,hbn];omega) (by omega)
   obtain⟨T4,Ii,b1,b2⟩:=xT (H:=[]) (t:=iF fx p u x l.length) (c0:=fl) (by omega) hg3
   refine ah.yes (ltM hj) ?_
   refine ag.mk _ _ (by rw [al];exact Q9) ?_
   refine ab.mk _ rfl ?_
   refine AR.mk _ _ (inT (t:=iF fx p u x l.length) rfl rfl rfl rfl rfl rfl rfl b1 rfl) ?_
   refine ab.mk _ (az (by omega)) ?_
   exact⟨(l++[iF fx p u x l.length],false,Ii,T4),⟨by show l++_=_;rw [map_take _ _ _ _ (vw hx),hll,← List.append_assoc,← hl],b2⟩,rfl,rfl⟩
  ·rintro⟨l,fl,iL,T3⟩ ⟨(hl:l=_),(hg3:aw T T3 l iL)⟩
   rw [List.take_of_length_le (by simp)] at hl
   have hl' : l=ow d fx++uY d fx p u:=hl
   have hll:l.length=fx + d.ai.length:=by
    rw [hl']
    unfold uY
    simp only [aLa,aLm,List.length_zipIdx,hfl]
   obtain⟨S1,e1,e2⟩:=h60 (n:=q + 1) (d:=d) (sh:=sh) (p:=p) (m:=m) (u:=u) (b:=1) (B:=[.loop (rZ d sh p m u (ak (in0 d).ty).2 l iL fl)]) (T:=T3)
    (P:=fun j i S=>∃l1 l2 fl2 dR T5,S=KB d sh p m u (ak (in0 d).ty).2 l2 dR fl2 T5∧aU d sh fx p u m=l1++mj d sh fx p u m ((d.ai.zipIdx 0).drop j) l1.length∧(l1.length≤22 + 20 * j∧fx + d.ai.length≤l1.length)∧l2=l1++(((PD d j).zipIdx 0).take i).map (fun q=>kV d fx p u m (fsR sh j q.2) j q.1 (l1.length + q.2))∧aw T T5 l2 dR)
    (Q:=fun _=>False) (by omega) (fun i hi=>by have:=hb.bk.nm.cs i hi;omega) hb.bk.nm.smD
    ⟨l,l,fl,iL,T3,rfl,by rw [hll,hl'];rfl,⟨by omega,by omega⟩,by simp,hg3⟩
    (fun j x i S hx hi ⟨l1,l2,fl2,dR,T5,s1,s2,⟨s3,s4⟩,s5,s6⟩=>by
     subst s1
     have hxc:=hb.bk.nm.cs x (aMg hx)
     have hjl:=(aGs hx).1
     obtain⟨_,s,hsx,UI,hsf⟩:=hs.at_ j x hx
     obtain⟨c,hc⟩ : ∃c,x.cs[i]?=some c:=⟨_,aGe hi⟩
     obtain⟨fs,f1,f2,f3,f4⟩:=hsf i c hc
     rw [Bx hx] at s5
     have PF:l2.length=l1.length + i:=by
      rw [s5]
      simp only [aLa,aLm,List.length_take,List.length_zipIdx]
      omega
     have hcg:=((hb.bk.gd x (aMg hx)).2.2 c (aMg hc)).2
     obtain⟨Ra,T6,r1,r2⟩:=KC (n:=q + 1) (d:=d) (sh:=sh) (p:=p) (m:=m) (u:=u) (e:=(ak (in0 d).ty).2) (l:=l2) (tok:=dR) (ca:=fl2) (T0:=T) (T:=T5) hb hx hc hsx f1 (tv hsh hx hc hsx f1) f3 hcg f4 (by omega) (by omega) hm (by omega) s6
     exact .inl ⟨_,r1,l1,_,false,Ra,T6,rfl,s2,⟨s3,s4⟩,by rw [Bx hx,map_take _ _ _ _ (Ki hc),DF hsx f1,PF,← List.append_assoc,← s5],r2⟩)
    (fun j x S hx ⟨l1,l2,fl2,dR,T5,s1,s2,⟨s3,s4⟩,s5,s6⟩=>by
     have hxc:=hb.bk.nm.cs x (aMg hx)
     rw [Bx hx,List.take_of_length_le (by simp)] at s5
     have s5' : l2=l1++xL d sh fx p u m j x l1.length:=s5
     have PF:l2.length=l1.length + x.cs.length:=by rw [s5',aLa,uf]
     rw [MN d sh fx p u m (vw hx)] at s2
     exact⟨l2,l2,fl2,dR,T5,s1,by rw [PF,s2,s5'];simp,⟨by omega,by omega⟩,by simp,s6⟩)
   obtain⟨l1,l2,fl2,dR,T5,s1,s2,⟨s3,s4⟩,s5,s6⟩:=e2.elim id False.elim
   subst s1
   rw [List.drop_of_length_le (by simp),mj,List.append_nil] at s2
   rw [List.take_zero,List.map_nil,List.append_nil] at s5
   subst s5
   subst s2
   refine ah.no (geM (by omega)) ?_
   refine ag.mk _ _ (h20 (by omega)) ?_
   refine aB.mk _ _ _ (dL (f:=60) (top:=1) (first:=[]) (cap:=[.ptr (.box 0) 0]) (l:=rZ d sh p m u (ak (in0 d).ty).2 l iL fl) (r:=rZ d sh p m u (ak (in0 d).ty).2 (aU d sh fx p u m) dR fl2) (v:=.tuple []) (by rfl) (by rfl) e1 (by rfl) (.inl rfl)) ?_
   exact⟨_,rfl,fl2,T5,dR,_,rfl,s6⟩
 obtain⟨r,k6,c2,T',aP,bl,rfl,h2⟩:=h
 exact⟨c2,T',aP,bl,bC rfl k6,h2⟩
end
theorem KD (a k:Nat) (r:Int):eK a (k + 1) r=eK a k r++[ch (.ofNat (a + k)) r]:=by
 unfold eK
 rw [List.range_succ,List.map_append];rfl
structure oF (d:Dl) (sh:List Sh) (fx p m:Nat):Prop where
 q:rY d fx p
 so:Pk d sh fx
 sh:gI d fx=some sh
 h0:d.ai[0]?=some (in0 d)
 m:m≤1000
section
variable {n:Nat} {d:Dl} {sh:List Sh} {m:Nat} {u:Lv} {fx p:Nat} {T:List Nat} {S:St}
theorem h61 {x:Nat} {i:In} (hb:oF d sh fx p m) (hx:d.ai[x]?=some i) (hn:4060000≤n) :
 RN n (.f 61) [cd d sh p m u,.int .i64 (.ofNat x)] S=some (aH (gJ d sh fx p u m x i),S):=by
 obtain⟨q,rfl⟩:=up (show 1≤n by omega)
 have iB:=hb.q.bk.dl.few
 have hfx:=hb.q.bk.hfx
 have p8:=hb.q.bk.f12
 have hxl:x < d.ai.length:=(aGs hx).1
 obtain⟨g1,g2,_⟩:=hb.q.bk.gd i (aMg hx)
 have gm:=(hb.q.my i (aMg hx)).1
 have h12:=(hb.so.at_ x i hx).1
 have hle:=ml (sh:=sh) (u:=u) (m:=m) hb.q.bk hb.h0
 have hfa:=nE (sh:=sh) (u:=u) (m:=m) hb.h0 hb.q.bk
 obtain⟨c1,T1,gx,bl,k1,hg1⟩:=PE (n:=q) (u:=u) (T:=[]) hb.q hb.so hb.sh hb.h0 hb.m (by omega)
 have hbn:=jA (aa:=(aU d sh fx p u m).length) g1 (by omega) g2
 obtain⟨q0,k2,T2,bH,rfl,hg2⟩:=M0 (n:=q) (sh:=sh) (m:=m) (u:=u) (H:=[.cells 69 [cd d sh p m u],bl]) (T:=T1) (aa:=(aU d sh fx p u m).length) hb.q gm g2 hfa (by omega) (by omega)
 have htl:zE d sh fx p u m i=aU d sh fx p u m++(aI fx i.ty (aU d sh fx p u m).length).1++[iW fx p i.name (aU d sh fx p u m++(aI fx i.ty (aU d sh fx p u m).length).1).length (eK (aU d sh fx p u m).length (aI fx i.ty (aU d sh fx p u m).length).1.length (.ofNat (aU d sh fx p u m++(aI fx i.ty (aU d sh fx p u m).length).1).length))]:=rfl
 have htr:gJ d sh fx p u m x i=fC 6 (zE d sh fx p u m i) (eH (ch (.ofNat (fx + x)) (.ofNat ((aU d sh fx p u m++(aI fx i.ty (aU d sh fx p u m).length).1).length + 1))) (eK (aU d sh fx p u m).length (aI fx i.ty (aU d sh fx p u m).length).1.length (.ofNat ((aU d sh fx p u m++(aI fx i.ty (aU d sh fx p u m).length).1).length + 1))++[ch (.ofNat (aU d sh fx p u m++(aI fx i.ty (aU d sh fx p u m).length).1).length) (.ofNat ((aU d sh fx p u m++(aI fx i.ty (aU d sh fx p u m).length).1).length + 1))])):=rfl
 generalize hA:aU d sh fx p u m=A at *
 generalize hI:(aI fx i.ty A.length).1=I at *
 have hil:I.length≤12:=by omega
 have hl1:(A++I).length=A.length + I.length:=aLa
 obtain⟨c3,T3,iL,a1,a2⟩:=mi (LT:=157) (c0:=c1) (c:=false) (bH:=bH) (H:=[.cells 69 [cd d sh p m u],bl]) (T0:=[]) (T:=T2) (done:=A) (new:=I) (tok:=gx) rfl (by omega) (hg1.ext hg2.1)
 have k4:=Bh (n:=q) (from_:=A.length) (m:=I.length) (r:=.ofNat (A++I).length) (S:={ heap:=[.cells 69 [cd d sh p m u],bl],aA:=T3 }) (by omega) (by omega) (bdN (by omega))
 have hrl:=jy A.length I.length (.ofNat (A++I).length)
 have k5:=M1 (n:=q) (sh:=sh) (m:=m) (u:=u) (S:={ heap:=[.cells 69 [cd d sh p m u],bl],aA:=T3 }) (name:=i.name) (aa:=(A++I).length) (c:=false) (tok:=av (eK A.length I.length (.ofNat (A++I).length)).isEmpty) (l:=eK A.length I.length (.ofNat (A++I).length)) hb.q (by omega) (by rw [hrl];omega) (by rw [hrl];omega)
 obtain⟨c6,T6,Ra,b1,b2⟩:=mi (LT:=157) (c0:=c3) (c:=false) (bH:=.tight) (H:=[.cells 69 [cd d sh p m u],bl]) (T0:=[]) (T:=T3) (done:=A++I) (new:=[iW fx p i.name (A++I).length (eK A.length I.length (.ofNat (A++I).length))]) (tok:=iL) rfl (by simp only [aLc,List.length_nil];omega) a2
 rw [← htl] at b1 b2
 have hlt:(zE d sh fx p u m i).length=(A++I).length + 1:=by rw [htl,aLa];rfl
 have k7:=Bh (n:=q) (from_:=A.length) (m:=I.length + 1) (r:=.ofNat ((A++I).length + 1)) (S:={ heap:=[.cells 69 [cd d sh p m u],bl],aA:=T6 }) (by omega) (by omega) (bdN (by omega))
 rw [KD,← hl1] at k7
 have Re:=jy A.length I.length (.ofNat ((A++I).length + 1))
 have h:∃r,frame Tryz.cfg (RN q) q 61 [cd d sh p m u,.int .i64 (.ofNat x)] St.empty=some r∧∃S',r=(aH (gJ d sh fx p u m x i),S'):=by
  refine aV (fn:=Tryz.f61) (p:=fun r=>∃S',r=(aH (gJ d sh fx p u m x i),S')) rfl rfl ?_
  refine ag.mk _ _ k1 ?_
  refine ab.mk _ (aO hx) ?_
  refine ag.mk _ _ (by rw [al];exact k2) ?_
  refine cN.mk _ _ (a1 _ _ rfl) ?_
  refine ab.mk _ (aO hx) ?_
  refine ag.mk _ _ (by rw [al,al,al];exact k4) ?_
  refine ag.mk _ _ (by rw [al];exact k5) ?_
  refine ab.mk _ (bs1 _ 157 _ _ _ rfl) ?_
  refine cN.mk _ _ (b1 _ _ rfl) ?_
  refine ab.mk (.int .i64 (.ofNat (fx + x))) (by rw [hfx];exact addNat (by omega)) ?_
  refine ag.mk _ _ (by rw [al,hlt];exact Du (by omega) (bdN (by omega)) (bdN (by omega))) ?_
  refine ab.mk (.int .i64 (.ofNat (I.length + 1))) (by rw [al];exact az (by omega)) ?_
  refine ag.mk _ _ (by rw [al,al,hlt];exact k7) ?_
  refine ag.mk _ _ (rS (by rw [aLa,Re];simp only [aLc,List.length_nil];omega) (by rw [aLa,Re];simp only [aLc,List.length_nil];omega)) ?_
  refine ag.mk _ _ (Fi (by omega) (by omega)) ?_
  refine⟨_,rfl,?_⟩
  rw [htr]
  exact⟨_,rfl⟩
 obtain⟨r,k6,S',rfl⟩:=h
 exact kh k6 (by simp only [eE,bx,aq]) rfl rfl
noncomputable def yg (x c k:Nat) (st:RSt) (pe:Option Ex):dj:={ fid:=128,nt:=24,tmps:=[(4,.ptr (.loc 4) 0),(5,.ptr (.loc 5) 0),(6,.ptr (.loc 6) 0),(10,.fn 60 1 [] [.ptr (.box 0) 0])],locs:=[(4,[.int .i64 (.ofNat x)]),(5,[.int .i64 (.ofNat c)]),(6,[.int .i64 (.ofNat k)])],params:=[11,12],assign:=l6 Tryz.f128,body:=l7 Tryz.f128,st:=st,iX:=pe }
noncomputable def zS (d:Dl) (sh:List Sh) (p m:Nat) (u:Lv) (x c k:Nat) (st:RSt) (pe:Option Ex):St:={ heap:=[.cells 69 [cd d sh p m u],.loop (yg x c k st pe)],aA:=[] }
theorem KE {x c k j i:Nat} (hk:k≤100000) (hn:2≤n) :
 RN n (.y 1) [.int .i64 (.ofNat j),.int .i64 (.ofNat i)] (zS d sh p m u x c k .ready none)=some (.bool (!(iEq (.ofNat j) (.ofNat x) && iEq (.ofNat i) (.ofNat c))),match iEq (.ofNat j) (.ofNat x) && iEq (.ofNat i) (.ofNat c) with | false=>zS d sh p m u x c (k + 1) .ready none | true=>zS d sh p m u x c k .done (some (.exit 0))):=by
 obtain⟨q,rfl⟩:=up (show 1≤n by omega)
 refine fH ?_
 refine fj (r:=yg x c k .ready none) (nt:=24) (fx:=[4,5,6]) rfl rfl rfl rfl rfl rfl rfl ?_
 refine ah.mk (fun h1=>?_) (fun h1=>?_)
 ·rw [h1]
  refine ah.mk (fun h2=>?_) (fun h2=>?_)
  ·rw [h2];rfl
  ·rw [h2]
   refine ab.mk _ (az (by omega)) ?_
   rfl
 ·rw [h1]
  refine ab.mk _ (az (by omega)) ?_
  rfl
theorem Uc {x ci:Nat} {i:In} (hb:oF d sh fx p m) (hx:d.ai[x]?=some i) (hc:ci < i.cs.length) (hn:2000≤n) :
 RN n (.f 128) [cd d sh p m u,.int .i64 (.ofNat x),.int .i64 (.ofNat ci)] S=some (.int .i64 (.ofNat (ic d x ci)),S):=by
 obtain⟨q,rfl⟩:=up (show 3≤n by omega)
 have iB:=hb.q.bk.dl.few
 have hxl:=(aGs hx).1
 have rF:∀j,((d.ai.take j).map fun i=>i.cs.length).sum≤200:=fun j=>by
  have h1:=qa hb.q.bk.nm.cs j
  have:d.ai.length * 20≤10 * 20:=Nat.mul_le_mul (by omega) (by omega)
  omega
 obtain⟨S1,e1,e2⟩:=h60 (n:=q + 1) (d:=d) (sh:=sh) (p:=p) (m:=m) (u:=u) (b:=1) (B:=[.loop (yg x ci 0 .ready none)]) (T:=[])
  (P:=fun j i S=>S=zS d sh p m u x ci (((d.ai.take j).map fun i=>i.cs.length).sum + i) .ready none∧(j < x∨(j=x∧i≤ci)))
  (Q:=fun S=>S=zS d sh p m u x ci (ic d x ci) .done (some (.exit 0))) (by omega) (fun i hi=>by have:=hb.q.bk.nm.cs i hi;omega) hb.q.bk.nm.smD
  ⟨rfl,by omega⟩
  (fun j y k S hy hk ⟨s1,s2⟩=>by
   have hyc:=hb.q.bk.nm.cs y (aMg hy)
   have:=rF j
   have hr:=KE (n:=q + 1) (d:=d) (sh:=sh) (p:=p) (m:=m) (u:=u) (x:=x) (c:=ci) (k:=((d.ai.take j).map fun i=>i.cs.length).sum + k) (j:=j) (i:=k) (by omega) (by omega)
   rw [← s1] at hr
   cases hq:(iEq (.ofNat j) (.ofNat x) && iEq (.ofNat k) (.ofNat ci)) with
   | true=>
    rw [hq] at hr
    simp only [Bool.and_eq_true,bp,decide_eq_true_eq,aOn] at hq
    obtain⟨hq1,hq2⟩:=hq
    obtain rfl:j=x:=by omega
    obtain rfl:k=ci:=by omega
    exact .inr ⟨_,hr,by unfold ic;rw [Nat.add_comm k]⟩
   | false=>
    rw [hq] at hr
    refine .inl ⟨_,hr,rfl,?_⟩
    simp only [Bool.and_eq_false_iff,bp,decide_eq_false_iff_not,aOn] at hq
    rcases s2 with h | ⟨h,h'⟩
    ·exact .inl h
    ·refine .inr ⟨h,?_⟩
     rcases hq with hq | hq
     ·omega
     ·omega)
  (fun j y S hy ⟨s1,s2⟩=>by
   refine⟨by rw [s1,s8 hy,Nat.add_zero],?_⟩
   rcases s2 with h | ⟨h,h'⟩
   ·omega
   ·subst h
    rw [hx] at hy;cases hy
    omega)
 have hQ:S1=zS d sh p m u x ci (ic d x ci) .done (some (.exit 0)):=by
  rcases e2 with⟨_,h⟩ | h
  ·omega
  ·exact h
 subst hQ
 have h:∃r,frame Tryz.cfg (RN (q + 2)) (q + 2) 128 [cd d sh p m u,.int .i64 (.ofNat x),.int .i64 (.ofNat ci)] St.empty=some r∧∃S',r=(.int .i64 (.ofNat (ic d x ci)),S'):=by
  refine aV (fn:=Tryz.f128) (p:=fun r=>∃S',r=(.int .i64 (.ofNat (ic d x ci)),S')) rfl rfl ?_
  refine ag.mk _ _ (h20 (by omega)) ?_
  refine aB.mk _ _ _ (dL (f:=60) (top:=1) (first:=[]) (cap:=[.ptr (.box 0) 0]) (l:=yg x ci 0 .ready none) (r:=yg x ci (ic d x ci) .done (some (.exit 0))) (v:=.tuple []) (by rfl) (by rfl) e1 (by rfl) (.inr rfl)) ?_
  exact⟨_,rfl,_,rfl⟩
 obtain⟨r,k6,S',rfl⟩:=h
 exact bG k6 (by simp only [eE,bx,aq]) rfl rfl rfl rfl rfl
end
section
variable {n:Nat} {d:Dl} {sh:List Sh} {m:Nat} {u:Lv} {fx p:Nat} {T:List Nat} {S:St}
theorem Ud {f:Int×Int} (hn:1≤n):RN n (.f 127) [dh f] S=some (.bool (!iLt f.1 0),S):=by
 obtain⟨q,rfl⟩:=up hn
 have h:∃r,frame Tryz.cfg (RN q) q 127 [dh f] St.empty=some r∧∃S',r=(.bool (!iLt f.1 0),S'):=by
  refine aV (fn:=Tryz.f127) (p:=fun r=>∃S',r=(.bool (!iLt f.1 0),S')) rfl rfl ?_
  refine ah.mk (fun h=>?_) (fun h=>?_)
  ·rw [h];exact⟨_,rfl,_,rfl⟩
  ·rw [h];exact⟨_,rfl,_,rfl⟩
 obtain⟨r,k6,S',rfl⟩:=h
 exact bG k6 rfl rfl rfl rfl rfl rfl
theorem h62 (hne:sh≠[]) (hl:∀s∈sh,∀fs∈s.fields,fs.length≤1000) (hn:1010≤n):RN n (.f 62) [cd d sh p m u] S=some (.bool (dr sh),S):=by
 obtain⟨q,rfl⟩:=up (show 3≤n by omega)
 have h:∃r,frame Tryz.cfg (RN (q + 2)) (q + 2) 62 [cd d sh p m u] St.empty=some r∧∃S',r=(.bool (dr sh),S'):=by
  refine aV (fn:=Tryz.f62) (p:=fun r=>∃S',r=(.bool (dr sh),S')) rfl rfl ?_
  rcases sh with _ | ⟨s,_ | ⟨s2,sh⟩⟩
  ·exact absurd rfl hne
  ·refine ah.no rfl ?_
   rcases s with⟨ix,lv,fields⟩
   rcases fields with _ | ⟨fs,_ | ⟨fs2,fields⟩⟩
   ·have hrF:dr [Sh.mk ix lv []]=false:=by unfold dr;simp
    rw [hrF]
    refine ab.mk (.imm 0 [.int .i64 ix,.int .i64 lv.c,.int .i64 lv.p0,.int .i64 lv.p1,.int .i64 lv.p2,.int .i64 lv.p3,.list 0 .tight 0 []]) rfl ?_
    refine ah.mk (fun c1=>?_) (fun c1=>?_)
    ·exact⟨_,rfl,_,rfl⟩
    refine ab.mk (.imm 0 [.int .i64 ix,.int .i64 lv.c,.int .i64 lv.p0,.int .i64 lv.p1,.int .i64 lv.p2,.int .i64 lv.p3,.list 0 .tight 0 []]) rfl ?_
    refine ah.yes rfl ?_
    exact⟨_,rfl,_,rfl⟩
   ·have hi:∀fs,indexAddr Tryz.cfg 64 (.list 7 .no 0 ([Sh.mk ix lv [fs]].map bQ)) (.int .i64 (.ofNat 0))=some (.imm 0 [.int .i64 ix,.int .i64 lv.c,.int .i64 lv.p0,.int .i64 lv.p1,.int .i64 lv.p2,.int .i64 lv.p3,.list 1 .no 0 ([fs].map bj)]):=fun fs=>tu (sh:=[Sh.mk ix lv [fs]]) (x:=0) rfl (by simp)
    refine ab.mk _ (hi fs) ?_
    refine ah.mk (fun c1=>?_) (fun c1=>?_)
    ·have hrF:dr [Sh.mk ix lv [fs]]=false:=Pl fs (by simpa using c1)
     rw [hrF]
     exact⟨_,rfl,_,rfl⟩
    have c1' : iEq ix 0=true:=by simpa using c1
    refine ab.mk _ (hi fs) ?_
    refine ah.no rfl ?_
    rcases fs with _ | ⟨f,fs⟩
    ·have hrF:dr [Sh.mk ix lv [[]]]=false:=by unfold dr;simp
     rw [hrF]
     refine ab.mk _ (hi []) ?_
     refine ab.mk (.imm 0 [.list 0 .tight 0 []]) rfl ?_
     refine ah.yes rfl ?_
     exact⟨_,rfl,_,rfl⟩
    ·have Rf:indexAddr Tryz.cfg 110 (.list 1 .no 0 ([f::fs].map bj)) (.int .i64 (.ofNat 0))=some (.imm 0 [.list 2 .no 0 ((f::fs).map dh)]):=nG (fss:=[f::fs]) (c:=0) rfl
     have hfl:(f::fs).length≤1000:=hl _ aMs _ aMs
     have Ue:=Tc (n:=q) (f:=127) (first:=[]) (cap:=[]) (S:=St.empty) (fun f:Int×Int=>!iLt f.1 0) (f::fs) (by omega) (by omega) rfl (fun x _=>.inl ⟨rfl,rfl,Ud (by omega)⟩)
     refine ab.mk _ (hi (f::fs)) ?_
     refine ab.mk _ Rf ?_
     refine ah.no (by rw [an,aLm,bp];simp only [aLc,aOn,decide_eq_false_iff_not];omega) ?_
     refine ab.mk _ (hi (f::fs)) ?_
     refine ab.mk _ Rf ?_
     have hre:dr [Sh.mk ix lv [f::fs]] = !((f::fs).any fun f=>!iLt f.1 0):=by
      rw [qG]
      simp only [dr,c1',Bool.true_and,Bool.not_not]
     refine ag.mkB Ue (fun c2=>?_) (fun c2=>?_)
     ·rw [hre,c2];exact⟨_,rfl,_,rfl⟩
     ·rw [hre,c2];exact⟨_,rfl,_,rfl⟩
   ·have hi:indexAddr Tryz.cfg 64 (.list 7 .no 0 ([Sh.mk ix lv (fs::fs2::fields)].map bQ)) (.int .i64 (.ofNat 0))=some (.imm 0 [.int .i64 ix,.int .i64 lv.c,.int .i64 lv.p0,.int .i64 lv.p1,.int .i64 lv.p2,.int .i64 lv.p3,.list 1 .no 0 ((fs::fs2::fields).map bj)]):=tu (sh:=[Sh.mk ix lv (fs::fs2::fields)]) (x:=0) rfl (by simp)
    have hrF:dr [Sh.mk ix lv (fs::fs2::fields)]=false:=by unfold dr;simp
    rw [hrF]
    refine ab.mk _ hi ?_
    refine ah.mk (fun c1=>?_) (fun c1=>?_)
    ·exact⟨_,rfl,_,rfl⟩
    refine ab.mk _ hi ?_
    refine ah.yes (by rw [an,aLm];simp [bp];omega) ?_
    exact⟨_,rfl,_,rfl⟩
  ·have hrF:dr (s::s2::sh)=false:=rfl
   rw [hrF]
   refine ah.yes (by rw [an];simp [bp];omega) ?_
   exact⟨_,rfl,_,rfl⟩
 obtain⟨r,k6,S',rfl⟩:=h
 exact bG k6 (by simp only [eE,aq]) rfl rfl rfl rfl rfl
theorem h63 (hb:oF d sh fx p m) (hr:dr sh=true) (hk:(fs0 sh).length≤1000) (hn:4060000≤n) :
 RN n (.f 63) [cd d sh p m u] S=some (aH (jB d sh fx p u m),S):=by
 obtain⟨q,rfl⟩:=up (show 1≤n by omega)
 have hfx:=hb.q.bk.hfx
 have p8:=hb.q.bk.f12
 obtain⟨s,f,fs,rfl,hsf,hfs⟩:=xM hr
 have hle:=ml (sh:=[s]) (u:=u) (m:=m) hb.q.bk hb.h0
 obtain⟨c1,T1,gx,bl,k1,hg1⟩:=PE (n:=q) (u:=u) (T:=[]) hb.q hb.so hb.sh hb.h0 hb.m (by omega)
 have k5:=M1 (n:=q) (sh:=[s]) (m:=m) (u:=u) (S:={ heap:=[.cells 69 [cd d [s] p m u],bl],aA:=T1 }) (name:=(in0 d).name) (aa:=(aU d [s] fx p u m).length) (c:=false) (tok:=.tight) (l:=[]) hb.q (by omega) (by simp) (by simp;omega)
 rw [show (V.list (au false ([]:List Tm)) .tight 0 (ae []))=.list 0 .tight 0 [] by rw [ae];rfl] at k5
 have htr:jB d [s] fx p u m=fC 5 (qb d [s] fx p u m) (mZ d [s] fx p u m (f::fs).length):=by unfold jB;rw [hfs]
 have hvl:qb d [s] fx p u m=aU d [s] fx p u m++[iW fx p (in0 d).name (aU d [s] fx p u m).length []]:=rfl
 have hpr:∀k,mZ d [s] fx p u m k=(List.range k).foldl (fun t i=>pS t (zF i (in0 d).name (ch (.ofNat (aU d [s] fx p u m).length) (.ofNat ((aU d [s] fx p u m).length + 1))))) (ch (.ofNat (fx + 1)) (.ofNat ((aU d [s] fx p u m).length + 1))):=fun _=>rfl
 rw [hfs] at hk
 generalize hA:aU d [s] fx p u m=A at *
 obtain⟨c3,T3,iL,a1,a2⟩:=mi (LT:=157) (c0:=c1) (c:=false) (bH:=.tight) (H:=[.cells 69 [cd d [s] p m u],bl]) (T0:=[]) (T:=T1) (done:=A) (new:=[iW fx p (in0 d).name A.length []]) (tok:=gx) rfl (by simp only [aLc,List.length_nil];omega) hg1
 rw [← hvl] at a1 a2
 have hlt:(qb d [s] fx p u m).length=A.length + 1:=by rw [hvl,aLa];rfl
 have h:∃r,frame Tryz.cfg (RN q) q 63 [cd d [s] p m u] St.empty=some r∧∃S',r=(aH (jB d [s] fx p u m),S'):=by
  refine aV (fn:=Tryz.f63) (p:=fun r=>∃S',r=(aH (jB d [s] fx p u m),S')) rfl rfl ?_
  refine ag.mk _ _ k1 ?_
  refine ab.mk _ (show indexAddr Tryz.cfg 26 (.list 7 .no 0 (d.ai.map encI)) (.int .i64 (.ofNat 0))=_ from aO hb.h0) ?_
  refine ag.mk _ _ (by rw [al];exact k5) ?_
  refine ab.mk _ (bs1 _ 157 _ _ _ rfl) ?_
  refine cN.mk _ _ (a1 _ _ rfl) ?_
  refine ab.mk (.int .i64 (.ofNat (fx + 1))) (by rw [hfx];exact az (by omega)) ?_
  refine ag.mk _ _ (by rw [al,hlt];exact Du (by omega) (bdN (by omega)) (bdN (by omega))) ?_
  refine ab.mk _ (tu (x:=0) rfl (by rw [hsf];simp)) ?_
  refine ab.mk _ (show indexAddr Tryz.cfg 110 (.list 1 .no 0 (s.fields.map bj)) (.int .i64 (.ofNat 0))=some (.imm 0 [.list 2 .no 0 ((f::fs).map dh)]) from nG (fss:=s.fields) (c:=0) (fs:=f::fs) (by rw [hsf];rfl)) ?_
  refine aB.loop 64 (σ:=Tm) (f::fs).length (fun j t=>{ nt:=64,tmps:=[(2,.ptr (.loc 2) 0),(3,.list (au c3 (qb d [s] fx p u m)) iL 0 (ae (qb d [s] fx p u m))),(4,.str (in0 d).name),(5,.ptr (.loc 5) 0),(43,.int .i64 (.ofNat (aG ((f::fs).map dh)))),(44,.int .i64 (.ofNat j))],locs:=[(2,ij),(5,aC t)],fix:=[] })
   (fun _ _=>{ heap:=[.cells 69 [cd d [s] p m u],bl],aA:=T3 }) (fun j t=>t=mZ d [s] fx p u m j) _ (show (f::fs).length < q by omega) (by rw [hpr];rfl) ?_ ?_
  ·rintro j t hj rfl
   refine ah.yes (ltM hj) ?_
   refine ab.mk _ (by rw [al,hlt];exact od (by omega)) ?_
   refine ag.mk _ _ (by rw [al,hlt];exact Du (by omega) (bdN (by omega)) (bdN (by omega))) ?_
   refine ab.mk _ (bs1 _ 23 _ _ _ rfl) ?_
   refine ab.mk _ (Pm _ _ _) ?_
   refine ag.mk _ _ (rS (by simp only [aLc,List.length_nil];omega) (by simp only [aLc,List.length_nil];omega)) ?_
   refine ab.mk _ (az (by omega)) ?_
   exact⟨_,(show pS (mZ d [s] fx p u m j) (zF j (in0 d).name (ch (.ofNat A.length) (.ofNat (A.length + 1))))=mZ d [s] fx p u m (j + 1) by rw [hpr,hpr,List.range_succ,List.foldl_append];rfl),rfl,rfl⟩
  ·rintro t rfl
   refine ah.no (geM (by omega)) ?_
   refine ag.mk _ _ (Fi (by omega) (by omega)) ?_
   refine⟨_,rfl,?_⟩
   rw [htr]
   exact⟨_,rfl⟩
 obtain⟨r,k6,S',rfl⟩:=h
 exact kh k6 (by simp only [eE,aq]) rfl rfl
end
section
variable {n:Nat} {d:Dl} {sh:List Sh} {m:Nat} {u:Lv} {fx p:Nat} {S:St}
theorem Rg {b0 b1:Blk} {x c:Nat} {s:Sh} {fs:List (Int×Int)} {B:List Blk} {T:List Nat} {b:Nat} {P:Nat→St→Prop} (hsx:sh[x]?=some s) (hsc:s.fields[c]?=some fs) (hn:fs.length < n) (hl:fs.length≤1000)
 (h0:P 0 { heap:=b0::b1::.cells 69 [cd d sh p m u]::.cells 3 [.int .i64 (.ofNat x)]::.cells 3 [.int .i64 (.ofNat c)]::B,aA:=T })
 (hy:∀i f S,fs[i]?=some f→iLt f.1 0=false→P i S→∃S',RN n (.y b) [.int .i64 (.ofNat i)] S=some (.bool true,S')∧P (i + 1) S')
 (hs:∀i f S,fs[i]?=some f→iLt f.1 0=true→P i S→P (i + 1) S) :
 ∃S',RN (n + 1) (.f 163) [.yield b,.ptr (.box 2) 0,.ptr (.box 3) 0,.ptr (.box 4) 0] { heap:=b0::b1::.cells 69 [cd d sh p m u]::.cells 3 [.int .i64 (.ofNat x)]::.cells 3 [.int .i64 (.ofNat c)]::B,aA:=T }=some (.tuple [],S')∧P fs.length S':=by
 have h:∃r,frame Tryz.cfg (RN n) n 163 [.yield b,.ptr (.box 2) 0,.ptr (.box 3) 0,.ptr (.box 4) 0] { heap:=b0::b1::.cells 69 [cd d sh p m u]::.cells 3 [.int .i64 (.ofNat x)]::.cells 3 [.int .i64 (.ofNat c)]::B,aA:=T }=some r∧∃S',r=(.tuple [],S')∧P fs.length S':=by
  refine aV (fn:=Tryz.f163) (p:=fun r=>∃S',r=(.tuple [],S')∧P fs.length S') rfl rfl ?_
  have PA:s.fields≠[]:=fun e=>by rw [e] at hsc;simp at hsc
  refine ab.mk _ (tu hsx PA) ?_
  rcases fs with _ | ⟨f0,fr⟩
  ·refine ab.mk _ (nG hsc) ?_
   refine aB.loop 34 (σ:=Unit) 0 (fun j _=>{ nt:=34,tmps:=[(0,.yield b),(17,.list 0 .tight 0 []),(18,.int .i64 0),(19,.int .i64 0)],locs:=[],fix:=[] }) (fun _ _=>{ heap:=b0::b1::.cells 69 [cd d sh p m u]::.cells 3 [.int .i64 (.ofNat x)]::.cells 3 [.int .i64 (.ofNat c)]::B,aA:=T })
    (fun _ _=>True) () (by omega) trivial (fun j _ hj=>absurd hj (by omega)) (fun _ _=>?_)
   refine ah.no rfl ?_
   exact⟨_,rfl,_,rfl,h0⟩
  ·refine ab.mk _ (show indexAddr Tryz.cfg 110 (.list 1 .no 0 (s.fields.map bj)) (.int .i64 (.ofNat c))=some (.imm 0 [.list 2 .no 0 ((f0::fr).map dh)]) from nG hsc) ?_
   refine aB.loop 34 (σ:=Option (Int×Int)×St) (f0::fr).length (fun j s=>{ nt:=34,tmps:=[(0,.yield b),(17,.list 2 .no 0 ((f0::fr).map dh)),(18,.int .i64 (.ofNat (aG ((f0::fr).map dh)))),(19,.int .i64 (.ofNat j))],locs:=NY s.1,fix:=[] }) (fun _ s=>s.2)
    (fun j s=>P j s.2) (none,{ heap:=b0::b1::.cells 69 [cd d sh p m u]::.cells 3 [.int .i64 (.ofNat x)]::.cells 3 [.int .i64 (.ofNat c)]::B,aA:=T }) hn h0 ?_ ?_
   ·rintro j ⟨o,S1⟩ hj (hp:P j S1)
    obtain⟨f,hf⟩ : ∃f,(f0::fr)[j]?=some f:=⟨_,aGe hj⟩
    rcases o with _ | f1
    all_goals
     refine ah.yes (ltM hj) ?_
     refine ab.mk _ (xP hf) ?_
     refine ah.mk (fun h1=>?_) (fun h1=>?_)
     ·obtain⟨S',k1,k2⟩:=hy j f S1 hf (by simpa using h1) hp
      refine ag.mk _ _ k1 ?_
      refine ab.mk _ (az (by omega)) ?_
      exact⟨(some f,S'),k2,rfl,rfl⟩
     ·have k2:=hs j f S1 hf (by simpa using h1) hp
      refine ab.mk _ (az (by omega)) ?_
      exact⟨(some f,S1),k2,rfl,rfl⟩
   ·rintro⟨o,S1⟩ (hp:P (f0::fr).length S1)
    rcases o with _ | f1
    all_goals
     refine ah.no (geM (by omega)) ?_
     exact⟨_,rfl,S1,rfl,hp⟩
 obtain⟨r,h1,S',rfl,h2⟩:=h
 exact⟨S',bC rfl h1,h2⟩
theorem Rh {b0 b1:Blk} {x c:Nat} {T:List Nat} (hn:1≤n):RN n (.f 129) [cd d sh p m u,.int .i64 (.ofNat x),.int .i64 (.ofNat c)] { heap:=[b0,b1],aA:=T }=some (.fn 163 5 [] [.ptr (.box 2) 0,.ptr (.box 3) 0,.ptr (.box 4) 0],{ heap:=[b0,b1,.cells 69 [cd d sh p m u],.cells 3 [.int .i64 (.ofNat x)],.cells 3 [.int .i64 (.ofNat c)]],aA:=T }):=by
 obtain⟨q,rfl⟩:=up hn
 refine bC rfl ?_
 kernel_rfl
@[reducible] noncomputable def PG:List V:=[.str [],.int .i64 0,.int .u8 0,.int .i64 0,.str [],.list 0 .tight 0 [],.list 0 .tight 0 []]
noncomputable def zT (d:Dl) (sh:List Sh) (p m:Nat) (u:Lv) (c:Ct) (A:List Tm) (ca:Bool) (ta:Tok) (F:List Tm) (tf:Tok) (e:Tm) (t:Tm):dj:={ fid:=64,nt:=105,tmps:=[(3,bqQ d sh p m u),(6,.ptr (.loc 6) 0),(7,.ptr (.loc 7) 0),(8,.list (au ca A) ta 0 (ae A)),(9,.ptr (.loc 9) 0),(10,.ptr (.loc 10) 0),(12,.ptr (.loc 12) 0),(13,.ptr (.loc 13) 0),(71,.fn 163 5 [] [.ptr (.box 2) 0,.ptr (.box 3) 0,.ptr (.box 4) 0])],locs:=[(6,PG),(7,mb c),(9,[.int .i64 (.ofNat (aG (ae A)))]),(10,[.list (au false F) tf 0 (ae F)]),(11,aC e),(12,[.int .i64 (.ofNat (A.length + F.length))]),(13,aC t)],params:=[72],assign:=l6 Tryz.f64,body:=l7 Tryz.f64,st:=.ready,iX:=none }
noncomputable def PH (b0 b1:Blk) (d:Dl) (sh:List Sh) (p m:Nat) (u:Lv) (x ci:Nat) (c:Ct) (A:List Tm) (ca:Bool) (ta:Tok) (F:List Tm) (tf:Tok) (e:Tm) (T:List Nat) (t:Tm):St:={ heap:=[b0,b1,.cells 69 [cd d sh p m u],.cells 3 [.int .i64 (.ofNat x)],.cells 3 [.int .i64 (.ofNat ci)],.loop (zT d sh p m u c A ca ta F tf e t)],aA:=T }
theorem M3 {b0 b1:Blk} {x ci i:Nat} {c:Ct} {A F:List Tm} {ca:Bool} {ta tf:Tok} {e t x0:Tm} {T:List Nat} (hb:rY d fx p) (hx0:My 4096 x0) (hli:F[i]?=some (a8 x0 (.ofNat i) (.ofNat A.length - .ofNat fx))) (jC:dq d fx (ak x0).2 (.ofNat (fx + i + (ak x0).1.length))=true)
 (hl:F.length≤100) (h1:fx≤A.length) (h2:A.length≤1000) (hm:m≤1000) (hn:4020000≤n) :
 RN n (.y 5) [.int .i64 (.ofNat i)] (PH b0 b1 d sh p m u x ci c A ca ta F tf e T t)=some (.bool true,PH b0 b1 d sh p m u x ci c A ca ta F tf e T (pS t (mY d fx p u m 5 (a8 (a8 x0 (.ofNat i) (.ofNat A.length - .ofNat fx)) 0 (.ofNat (F.length - i))) (A.length + i) (A.length + F.length)))):=by
 obtain⟨q,rfl⟩:=up (show 1≤n by omega)
 have hil:=(aGs hli).1
 obtain⟨f1,f2,f3⟩:=ye (i:=i) (fx:=fx) (aa:=A.length) (b2:=F.length - i) hx0 h1 (by omega) (by omega) (by omega)
 have f4:=f3 d jC
 have hl0:(ak x0).1.length≤65536:=by
  have:=nF _ x0 (Nat.le_refl _) (cH hx0.may)
  have:=jv hx0.may
  omega
 have hx1:=hx0.lift (b:=.ofNat A.length - .ofNat fx) (by simp only [aOn];omega) (by simp only [aOn];omega) (.ofNat i)
 have k1:=fun S=>uc (n:=q) (d:=d) (sh:=sh) (p:=p) (m:=m) (u:=u) (S:=S) (b:=F.length - i) hx1 (by simp only [aOn];omega) (by simp only [aOn];omega) (by omega)
 have k2:=fun S=>Ky (n:=q) (sh:=sh) (m:=m) (u:=u) (S:=S) (f:=A.length + i) (aa:=A.length + F.length) hb f1 (by omega) (by omega) hm (by
  rw [f2,show A.length + F.length + (ak x0).1.length=A.length + i + (F.length - i) + (ak x0).1.length by omega]
  exact f4) (by omega) (by omega) (by omega)
 refine fH ?_
 refine fj (r:=zT d sh p m u c A ca ta F tf e t) (nt:=105) (fx:=[6,7,9,10,11,12,13]) rfl rfl rfl rfl rfl rfl rfl ?_
 refine ab.mk _ (xx hli) ?_
 refine ab.mk (.int .i64 (.ofNat (F.length - i))) ?_ ?_
 ·rw [al,show Int.ofNat (F.length - i)=Int.ofNat F.length - Int.ofNat i by simp only [aOn];omega]
  exact pT (by simp only [aOn];omega) (by simp only [aOn];omega)
 refine ag.mk _ _ (k1 _) ?_
 refine ab.mk (.int .i64 (.ofNat (A.length + i))) (by rw [al];exact addNat (by omega)) ?_
 refine ag.mk _ _ (Du (by omega) (bdN (by omega)) (bdN (by omega))) ?_
 refine ag.mk _ _ (k2 _) ?_
 refine ab.mk _ (bs1 _ 23 _ _ _ rfl) ?_
 refine ag.mk _ _ (rS (by simp only [aLc,List.length_nil];omega) (by simp only [aLc,List.length_nil];omega)) ?_
 conv=>whnf
 rfl
theorem Uf {x ci:Nat} {i:In} {c:Ct} {s:Sh} {fs:List (Int×Int)} (hb:oF d sh fx p m) (hx:d.ai[x]?=some i) (hc:i.cs[ci]?=some c) (hsx:sh[x]?=some s) (hsc:s.fields[ci]?=some fs) (hn:4070000≤n) :
 Jw (fD Tryz.cfg cO cW bW n) n [cd d sh p m u,.int .i64 (.ofNat x),.int .i64 (.ofNat ci)]=some (cj (ld d sh fx p u m x ci c fs)):=by
 obtain⟨k,rfl⟩:=up (show 2≤n by omega)
 have iB:=hb.q.bk.dl.few
 have hfx:=hb.q.bk.hfx
 have p8:=hb.q.bk.f12
 have hxl:x < d.ai.length:=(aGs hx).1
 have hcl:ci < i.cs.length:=(aGs hc).1
 have hfr:=tv hb.sh hx hc hsx hsc
 obtain⟨_,s',KF,hs1,hs2⟩:=hb.so.at_ x i hx
 rw [hsx] at KF;cases KF
 obtain⟨fs',Ri,hs3,h12,hsp⟩:=hs2 ci c hc
 rw [hsc] at Ri;cases Ri
 have hfl:=((hb.q.bk.gd i (aMg hx)).2.2 c (aMg hc)).2
 have hcm:=(hb.q.my i (aMg hx)).2 c (aMg hc)
 have hle:=ml (sh:=sh) (u:=u) (m:=m) hb.q.bk hb.h0
 have hfa:=nE (sh:=sh) (u:=u) (m:=m) hb.h0 hb.q.bk
 have UJ:ic d x ci≤220:=by
  have h1:=qa hb.q.bk.nm.cs x
  have h2:=hb.q.bk.nm.cs i (aMg hx)
  have:d.ai.length * 20≤10 * 20:=Nat.mul_le_mul (by omega) (by omega)
  unfold ic;omega
 obtain⟨c1,T1,gx,bl,k1,hg1⟩:=PE (n:=k + 2) (u:=u) (T:=[]) hb.q hb.so hb.sh hb.h0 hb.m (by omega)
 have hbn:=jA (aa:=(aU d sh fx p u m).length) hcm.gd (by omega) hfl
 have hbe:=ue (aa:=(aU d sh fx p u m).length) hcm.gd (by omega) hfl
 obtain⟨q0,k2,T2,bH,rfl,hg2⟩:=M0 (n:=k + 2) (sh:=sh) (m:=m) (u:=u) (H:=[.cells 69 [cd d sh p m u],bl]) (T:=T1) (aa:=(aU d sh fx p u m).length) hb.q hcm hfl hfa (by omega) (by omega)
 obtain⟨cp1,cp2⟩:=hcm.pis
 have hrr:ld d sh fx p u m x ci c fs=(c.name,(aI fx c.ty (aU d sh fx p u m).length).1.length,fC 5 (aU d sh fx p u m++(aI fx c.ty (aU d sh fx p u m).length).1) (kK d fx p u m (aU d sh fx p u m).length (aI fx c.ty (aU d sh fx p u m).length).1.length ((aU d sh fx p u m).length + (aI fx c.ty (aU d sh fx p u m).length).1.length) ((aI fx c.ty (aU d sh fx p u m).length).1.zip fs) 0 (eH (ch (.ofNat (fx + d.ai.length + ic d x ci)) (.ofNat ((aU d sh fx p u m).length + (aI fx c.ty (aU d sh fx p u m).length).1.length))) (eK (aU d sh fx p u m).length (aI fx c.ty (aU d sh fx p u m).length).1.length (.ofNat ((aU d sh fx p u m).length + (aI fx c.ty (aU d sh fx p u m).length).1.length)))))):=rfl
 rw [hrr]
 clear hrr
 generalize hA:aU d sh fx p u m=A at *
 have yf:∀j f,fs[j]?=some f→∃t x0,(aI fx c.ty A.length).1[j]?=some t∧t=a8 x0 (.ofNat j) (.ofNat A.length - .ofNat fx)∧My 4096 x0∧(iLt f.1 0=false→dq d fx (ak x0).2 (.ofNat (fx + j + (ak x0).1.length))=true):=by
  intro j f hf
  have hjl:=(aGs hf).1
  have hx0:(ak c.ty).1[fx + j]?=some ((ak c.ty).1[fx + j]'(by omega)):=aGe (by omega)
  refine⟨_,(ak c.ty).1[fx + j]'(by omega),?_,rfl,cp2 _ (List.getElem_mem _),fun hr=>?_⟩
  ·rw [hbe]
   have:=rV (.ofNat A.length - .ofNat fx) ((ak c.ty).1.drop fx) 0 j ((ak c.ty).1[fx + j]'(by omega)) (by rw [List.getElem?_drop];exact hx0)
   rw [Int.zero_add] at this
   exact this
  ·obtain⟨y,y1,y2⟩:=x8 hfr hf hr
   rw [hx0] at y1
   cases y1
   exact y2
 generalize hB:aI fx c.ty A.length=B at *
 have hnl:B.1.length≤12:=by rw [hbn];omega
 have hBf:B.1.length=fs.length:=by rw [hbn,hs3]
 have hrl:=jy A.length B.1.length (.ofNat (A.length + B.1.length))
 generalize ht0:eH (ch (.ofNat (fx + d.ai.length + ic d x ci)) (.ofNat (A.length + B.1.length))) (eK A.length B.1.length (.ofNat (A.length + B.1.length)))=t0 at *
 obtain⟨S9,k3,t9,rfl,hd2⟩:=Rg (n:=k + 1) (b0:=.cells 69 [cd d sh p m u]) (b1:=bl) (d:=d) (sh:=sh) (p:=p) (m:=m) (u:=u) (x:=x) (c:=ci) (s:=s) (fs:=fs) (b:=5) (B:=[.loop (zT d sh p m u c A c1 gx B.1 bH B.2 t0)]) (T:=T2)
  (P:=fun j S=>∃t,S=PH (.cells 69 [cd d sh p m u]) bl d sh p m u x ci c A c1 gx B.1 bH B.2 T2 t∧kK d fx p u m A.length B.1.length (A.length + B.1.length) (B.1.zip fs) 0 t0=kK d fx p u m A.length B.1.length (A.length + B.1.length) ((B.1.zip fs).drop j) j t)
  hsx hsc (by omega) (by omega) ⟨t0,rfl,rfl⟩
  (fun j f S hf hr ⟨t,e1,e3⟩=>by
   subst e1
   obtain⟨y,x0,t1,t2,t3,t4⟩:=yf j f hf
   have hz:(B.1.zip fs)[j]?=some (y,f):=by rw [List.getElem?_zip_eq_some];exact⟨t1,hf⟩
   rw [G0 d fx p u m A.length B.1.length (A.length + B.1.length) hz] at e3
   simp only [hr,Bool.not_false] at e3
   subst t2
   exact⟨_,M3 (n:=k + 1) hb.q t3 t1 (t4 hr) (by omega) hfa (by omega) hb.m (by omega),_,rfl,e3⟩)
  (fun j f S hf hr ⟨t,e1,e3⟩=>by
   obtain⟨y,x0,t1,t2,t3,t4⟩:=yf j f hf
   have hz:(B.1.zip fs)[j]?=some (y,f):=by rw [List.getElem?_zip_eq_some];exact⟨t1,hf⟩
   rw [G0 d fx p u m A.length B.1.length (A.length + B.1.length) hz] at e3
   simp only [hr,Bool.not_true] at e3
   exact⟨t,e1,e3⟩)
 rw [List.drop_of_length_le (by rw [List.length_zip];exact Nat.min_le_right _ _),kK] at hd2
 subst hd2
 generalize kK d fx p u m A.length B.1.length (A.length + B.1.length) (B.1.zip fs) 0 t0=t9 at *
 have PC:=Rh (n:=k + 2) (b0:=.cells 69 [cd d sh p m u]) (b1:=bl) (d:=d) (sh:=sh) (p:=p) (m:=m) (u:=u) (x:=x) (c:=ci) (T:=T2) (by omega)
 obtain⟨c7,T7,UK,a1,a2⟩:=mi (LT:=157) (c0:=c1) (c:=false) (bH:=bH) (H:=[.cells 69 [cd d sh p m u],bl,.cells 69 [cd d sh p m u],.cells 3 [.int .i64 (.ofNat x)],.cells 3 [.int .i64 (.ofNat ci)],.loop { zT d sh p m u c A c1 gx B.1 bH B.2 t9 with st:=.rj,locs:=[],tmps:=[] }]) (T0:=[]) (T:=T2) (done:=A) (new:=B.1) (tok:=gx) rfl (by omega) (hg1.ext hg2.1)
 have h:∃v,sH 64 1 Tryz.f64 (Rc (k + 2)) (k + 2) [cd d sh p m u,.int .i64 (.ofNat x),.int .i64 (.ofNat ci)]=some v∧v=cj (c.name,B.1.length,fC 5 (A++B.1) t9):=by
  refine G2 (id:=64) (m:=1) (fn:=Tryz.f64) ?_
  refine gj.cons (nt:=105) ?_
  refine gj.nil (nt:=105) ?_
  refine⟨_,rfl,?_⟩
  refine ab.mk _ (aO hx) ?_
  refine ab.mk _ (ed hc) ?_
  refine ag.mk _ _ (rc k1) ?_
  refine ag.mk _ _ (by rw [al];exact rc k2) ?_
  refine ab.mk (.int .i64 (.ofNat (A.length + B.1.length))) (by rw [al,al];exact addNat (by omega)) ?_
  refine ab.mk (.int .i64 (.ofNat (fx + d.ai.length))) (by rw [hfx,an,aLm];exact addNat (by omega)) ?_
  refine ag.mk _ _ (rc (Uc hb hx hcl (by omega))) ?_
  refine ab.mk (.int .i64 (.ofNat (fx + d.ai.length + ic d x ci))) (addNat (by omega)) ?_
  refine ag.mk _ _ (rc (Du (by omega) (bdN (by omega)) (bdN (by omega)))) ?_
  refine ag.mk _ _ (by rw [al,al];exact rc (Bh (n:=k + 2) (from_:=A.length) (m:=B.1.length) (r:=.ofNat (A.length + B.1.length)) (by omega) (by omega) (bdN (by omega)))) ?_
  refine ag.mk _ _ (rc (rS (by rw [hrl];omega) (by rw [hrl];omega))) ?_
  rw [ht0]
  refine ag.mk _ _ (rc PC) ?_
  refine aB.mk _ _ _ (dL (f:=163) (top:=5) (first:=[]) (cap:=[.ptr (.box 2) 0,.ptr (.box 3) 0,.ptr (.box 4) 0]) (l:=zT d sh p m u c A c1 gx B.1 bH B.2 t0) (r:=zT d sh p m u c A c1 gx B.1 bH B.2 t9) (v:=.tuple []) (by rfl) (by rfl) (rc k3) (by rfl) (.inl rfl)) ?_
  refine cN.mk _ _ (a1 _ _ rfl) ?_
  refine ag.mk _ _ (rc (Fi (by rw [aLa];omega) (by rw [aLa];omega))) ?_
  refine⟨_,rfl,?_⟩
  rw [al]
  exact uZ (c.name,B.1.length,fC 5 (A++B.1) t9)
 obtain⟨v,h1,rfl⟩:=h
 exact h1
theorem h64 {x ci:Nat} {i:In} {c:Ct} {s:Sh} {fs:List (Int×Int)} (hb:oF d sh fx p m) (hx:d.ai[x]?=some i) (hc:i.cs[ci]?=some c) (hsx:sh[x]?=some s) (hsc:s.fields[ci]?=some fs) (hn:4070000≤n) :
 RN n (.f 64) [cd d sh p m u,.int .i64 (.ofNat x),.int .i64 (.ofNat ci)] S=some (cj (ld d sh fx p u m x ci c fs),S):=
 xN rfl rfl rfl rfl (by simp only [eE,bx,aq]) (Uf hb hx hc hsx hsc hn)
end
section
variable {n:Nat} {d:Dl} {sh:List Sh} {m:Nat} {u:Lv} {fx p:Nat} {S:St}
theorem h66 {t:Tm} (hs:Sm t) (hn:wt t + 20≤n):RN n (.f 66) [aH t] S=some (.bool (!cM t),S):=by
 obtain⟨q,rfl⟩:=up (show 1≤n by omega)
 have h:∃r,frame Tryz.cfg (RN q) q 66 [aH t] St.empty=some r∧∃S',r=(.bool (!cM t),S'):=by
  refine aV (fn:=Tryz.f66) (p:=fun r=>∃S',r=(.bool (!cM t),S')) rfl rfl ?_
  refine ag.mkB (h67 hs (by omega)) (fun h=>?_) (fun h=>?_)
  ·rw [h];exact⟨_,rfl,_,rfl⟩
  ·rw [h];exact⟨_,rfl,_,rfl⟩
 obtain⟨r,k6,S',rfl⟩:=h
 exact bG k6 (by simp only [br,aq]) rfl rfl rfl rfl rfl
theorem h65 {l:List Tm} {c:Bool} {tok:Tok} (hl:l.length < 1000000000) (hw:∀t∈l,Sm t∧wt t + 30≤n) (hn:l.length + 10≤n):RN n (.f 65) [.list (au c l) tok 0 (ae l),.fn 66 0 [] []] S=some (.bool (l.any fun t=>!cM t),S):=by
 obtain⟨q,rfl⟩:=up (show 3≤n by omega)
 obtain⟨tb,htb⟩:=fL tok
 rw [mX (nA:=[.list (au c l) (av tb) 0 (ae l),.fn 66 0 [] []]) rfl rfl rfl (by rw [gv htb,gv (qA tb)])]
 exact p65 (n:=q + 1) (f:=66) (first:=[]) (cap:=[]) (fun t=>!cM t) l c tb hl (by omega) rfl (fun x hx=>.inl ⟨rfl,rfl,h66 (hw x hx).1 (by have:=(hw x hx).2;omega)⟩)
@[reducible] noncomputable def Rj:List V:=[.int .u8 0,.str [],.int .i64 0,.int .u8 0,.int .i64 0,.str [],.list 0 .tight 0 [],.list 0 .tight 0 [],.int .u8 0,.int .i64 0,.str [],.list 0 .tight 0 [],.list 0 .tight 0 [],.int .i64 0,.str [],.str [],.int .i64 0,.int .i64 0,.int .i64 0,.int .i64 0,.int .i64 0,.int .i64 0,.list 0 .tight 0 [],.int .i64 0,.bool false]
@[reducible] noncomputable def Rk:Option Ru→List (Nat×List V)
  | none=>[]
  | some r=>[(9,ie r)]
theorem h21 {x:Nat} {i:In} {s:Sh} (hb:oF d sh fx p m) (hx:d.ai[x]?=some i) (hsx:sh[x]?=some s) (hsm:∀s∈sh,∀fs∈s.fields,fs.length≤12) (hn:4080000≤n)
 (hw:∀t∈dS d sh fx p u m x i,Sm t∧wt t + 40≤n) :
 RN n (.f 21) [cd d sh p m u,.int .i64 (.ofNat x)] S=some (.tuple [gD (da d sh fx p u m x i),.bool ((dS d sh fx p u m x i).all cM)],S):=by
 obtain⟨q,rfl⟩:=up (show 1≤n by omega)
 have iB:=hb.q.bk.dl.few
 have hfx:=hb.q.bk.hfx
 have hpp:=hb.q.bk.hpp
 have hp4:=hb.q.bk.p4
 have hnl:=(hb.q.bk.nm.nm i (aMg hx)).1
 have UL:=hb.q.bk.nm.cs i (aMg hx)
 have hne:sh≠[]:=fun e=>by rw [e] at hsx;simp at hsx
 have hix:indexAddr Tryz.cfg 64 (.list 7 .no 0 (sh.map bQ)) (.int .i64 (.ofNat x))=some (.imm 0 (sV s)):=dI (ei:=Tryz.ti112) rfl rfl hsx
 have k61:=h61 (n:=q) (u:=u) (S:=St.empty) hb hx (by omega)
 have k62:=h62 (n:=q) (d:=d) (sh:=sh) (p:=p) (m:=m) (u:=u) (S:=St.empty) hne (fun s hs fs hfs=>by have:=hsm s hs fs hfs;omega) (by omega)
 have hm1:=hb.m
 have h:∃r,frame Tryz.cfg (RN q) q 21 [cd d sh p m u,.int .i64 (.ofNat x)] St.empty=some r∧∃T tok S',r=(.tuple [.agg (ir (da d sh fx p u m x i) (szG 7 ((da d sh fx p u m x i).rules.map cj)) tok ((da d sh fx p u m x i).rules.map cj)),.bool ((dS d sh fx p u m x i).all cM)],S')∧aw [] T ((da d sh fx p u m x i).rules.map cj) tok:=by
  refine aV (fn:=Tryz.f21) (p:=fun r=>∃T tok S',r=(.tuple [.agg (ir (da d sh fx p u m x i) (szG 7 ((da d sh fx p u m x i).rules.map cj)) tok ((da d sh fx p u m x i).rules.map cj)),.bool ((dS d sh fx p u m x i).all cM)],S')∧aw [] T ((da d sh fx p u m x i).rules.map cj) tok) rfl rfl ?_
  refine ab.mk _ (aO hx) ?_
  refine ab.mk _ (Fj (b:=cI) (by unfold cI;simp only [aLc,List.length_nil];omega)) ?_
  refine ab.mk (.int .i64 (.ofNat (p + 1))) (by rw [hpp];exact az (by omega)) ?_
  refine ag.mk _ _ k61 ?_
  refine ab.mk _ (show indexAddr Tryz.cfg 26 (.list 7 .no 0 (d.ai.map encI)) (.int .i64 (.ofNat 0))=_ from aO hb.h0) ?_
  refine ab.mk _ (aO hx) ?_
  refine ab.mk _ hix ?_
  refine ab.mk _ (bs1 _ 23 _ _ _ rfl) ?_
  have Rl:(((sh[x]?).map (·.index)).getD 0)=s.index:=by rw [hsx];rfl
  cases dy:dr sh with
  | true=>
   have hin:da d sh fx p u m x i =⟨2,i.name++cI,.ofNat (p + 1),gJ d sh fx p u m x i,jB d sh fx p u m,(in0 d).name,i.name,d.fixed,s.index,.ofNat (aG (d.ai.map encI)),.ofNat m,[]⟩:=by
    unfold da
    rw [dy,Rl]
   have hte:dS d sh fx p u m x i=[gJ d sh fx p u m x i,jB d sh fx p u m]:=by
    unfold dS
    rw [dy]
   rw [dy] at k62
   have k63:=h63 (n:=q) (u:=u) (S:=St.empty) hb dy (by
    obtain⟨s9,f9,fs9,q1,q2,q3⟩:=xM dy
    have:=hsm s9 (by rw [q1];simp) (f9::fs9) (by rw [q2];simp)
    rw [q3];omega) (by omega)
   rw [hin]
   rw [hte] at hw ⊢
   generalize gJ d sh fx p u m x i=ty at *
   generalize jB d sh fx p u m=va at *
   obtain⟨c2,T2,bH,b1,b2⟩:=oz (LT:=23) (c0:=false) (c:=false) (bH:=.tight) (H:=[]) (T0:=[]) (T:=[]) (done:=[ty]) (new:=[va]) (tok:=.tight) rfl (by simp) (by simp) ⟨ju.refl [],.inl rfl⟩
   have k65:=h65 (n:=q) (S:={ heap:=[],aA:=T2 }) (l:=[ty,va]) (c:=c2) (tok:=bH) (by simp) (fun t ht=>⟨(hw t ht).1,by have:=(hw t ht).2;omega⟩) (by simp only [aLc,List.length_nil];omega)
   rw [qG] at k65
   simp only [Bool.not_not] at k65
   refine ag.mk _ _ k62 ?_
   refine ag.mk _ _ k63 ?_
   refine ab.mk _ (bs1 _ 23 _ _ _ rfl) ?_
   refine cN.mk _ _ (b1 _ _ rfl) ?_
   refine ag.mkB k65 (fun h9=>?_) (fun h9=>?_)
   ·rw [x9 h9];exact⟨_,rfl,T2,.tight,_,rfl,⟨Dz T2,.inl ⟨rfl,rfl⟩⟩⟩
   ·rw [ya h9];exact⟨_,rfl,T2,.tight,_,rfl,⟨Dz T2,.inl ⟨rfl,rfl⟩⟩⟩
  | false=>
   have hin:da d sh fx p u m x i =⟨6,i.name++cI,.ofNat (p + 1),gJ d sh fx p u m x i,zTm,(in0 d).name,i.name,d.fixed,s.index,.ofNat (aG (d.ai.map encI)),.ofNat m,fB d sh fx p u m x i⟩:=by
    unfold da
    rw [dy,Rl]
   have hte:dS d sh fx p u m x i=gJ d sh fx p u m x i::(fB d sh fx p u m x i).map (·.2.2):=by
    unfold dS
    rw [dy]
   rw [dy] at k62
   have hrl:(fB d sh fx p u m x i).length≤20:=by unfold fB;rw [aLm,List.length_zipIdx];omega
   rw [hin]
   rw [hte] at hw ⊢
   refine ag.mk _ _ k62 ?_
   refine ab.mk _ (aO hx) ?_
   refine aB.loop 124 (σ:=List Ru×Option Ru×Tok×Bool×Tok×List Nat) i.cs.length (fun j s9=>{ nt:=124,tmps:=[(0,cd d sh p m u),(1,.int .i64 (.ofNat x)),(4,.ptr (.loc 4) 0),(6,.ptr (.loc 6) 0),(7,.list (au s9.2.2.2.1 (gJ d sh fx p u m x i::s9.1.map (·.2.2))) s9.2.2.2.2.1 0 (ae (gJ d sh fx p u m x i::s9.1.map (·.2.2)))),(93,.int .i64 (.ofNat (aG (i.cs.map fw)))),(94,.int .i64 (.ofNat j))],locs:=(4,Rj)::(6,ir ⟨6,i.name++cI,.ofNat (p + 1),gJ d sh fx p u m x i,zTm,(in0 d).name,i.name,d.fixed,s.index,.ofNat (aG (d.ai.map encI)),.ofNat m,fB d sh fx p u m x i⟩ (szG 7 (s9.1.map cj)) s9.2.2.1 (s9.1.map cj))::Rk s9.2.1,fix:=[] })
    (fun _ s9=>{ heap:=[],aA:=s9.2.2.2.2.2 }) (fun j s9=>s9.1=(fB d sh fx p u m x i).take j∧Two [] s9.2.2.2.2.2 (s9.1.map cj) s9.2.2.1 (ae (gJ d sh fx p u m x i::s9.1.map (·.2.2))) s9.2.2.2.2.1) ([],none,.tight,false,.tight,[]) (show i.cs.length < q by omega) ⟨rfl,⟨ju.refl [],.inl ⟨rfl,rfl⟩,.inl rfl,fun t h=>by cases h⟩⟩ ?_ ?_
   ·rintro j ⟨l,o1,gx,c2,bH,T1⟩ hj ⟨(hl:l=_),(htw:Two [] T1 _ gx _ bH)⟩
    obtain⟨c,hc⟩ : ∃c,i.cs[j]?=some c:=⟨_,aGe hj⟩
    obtain⟨_,s',KF,hs1,hs2⟩:=hb.so.at_ x i hx
    rw [hsx] at KF;cases KF
    obtain⟨fs,f1,f2,f3,f4⟩:=hs2 j c hc
    have hll:l.length≤20:=by rw [hl,List.length_take];omega
    have Ug:=h64 (n:=q) (u:=u) (S:={ heap:=[],aA:=T1 }) hb hx hc hsx f1 (by omega)
    have Rm:l++[ld d sh fx p u m x j c fs]=(fB d sh fx p u m x i).take (j + 1):=by
     have hz:=Ki hc
     unfold fB at hl ⊢
     rw [← List.map_take] at hl ⊢
     rw [map_take _ _ _ _ hz,hl,DF hsx f1]
    obtain⟨T2,t1,a1,a2⟩:=dP (LT:=36) (ET:=56) (ei:=Tryz.ti56) (H:=[]) (T0:=[]) (T:=T1) (done:=l.map cj) (new:=[cj (ld d sh fx p u m x j c fs)]) (tok:=gx) (bH:=.tight) (sz2:=7) rfl rfl (by decide) (by decide) (by simp;omega) ⟨htw.e,htw.ha⟩ (.inr rfl)
    have ee1:l.map cj++[cj (ld d sh fx p u m x j c fs)]=(l++[ld d sh fx p u m x j c fs]).map cj:=by simp
    rw [ee1] at a1 a2
    have Bw:=htw.Kk a2 (kL (a1 JX .any rfl))
    obtain⟨c3,T3,t2,b1,b2⟩:=oz (LT:=23) (c0:=c2) (c:=false) (bH:=.tight) (H:=[]) (T0:=[]) (T:=T2) (done:=gJ d sh fx p u m x i::l.map (·.2.2)) (new:=[(ld d sh fx p u m x j c fs).2.2]) (tok:=bH) rfl (by simp;omega) (by simp) ⟨Bw.e,Bw.hb⟩
    have MW:=Bw.NS b2 (kL (b1 JX .any rfl))
    have ee2:gJ d sh fx p u m x i::l.map (·.2.2)++[(ld d sh fx p u m x j c fs).2.2]=gJ d sh fx p u m x i::(l++[ld d sh fx p u m x j c fs]).map (·.2.2):=by simp
    rw [ee2] at b1 b2 MW
    generalize ld d sh fx p u m x j c fs=ru at *
    obtain⟨r1,r2,r3⟩:=ru
    rcases o1 with _ | ⟨q1,q2,q3⟩
    all_goals
     refine ah.yes (ltM hj) ?_
     refine ag.mk _ _ Ug ?_
     refine ab.mk _ (SX (r1,r2,r3)) ?_
     refine cN.mk _ _ (a1 _ _ rfl) ?_
     refine ab.mk _ (bs1 r3 23 _ _ _ rfl) ?_
     refine cN.mk _ _ (b1 _ _ rfl) ?_
     refine ab.mk _ (az (by omega)) ?_
     exact⟨(l++[(r1,r2,r3)],some (r1,r2,r3),t1,c3,t2,T3),⟨Rm,MW⟩,rfl,rfl⟩
   ·rintro⟨l,o1,gx,c2,bH,T1⟩ ⟨(hl:l=_),(htw:Two [] T1 _ gx _ bH)⟩
    rw [List.take_of_length_le (by unfold fB;simp)] at hl
    subst hl
    generalize gJ d sh fx p u m x i=ty at *
    generalize fB d sh fx p u m x i=rs at *
    have k65:=fun S=>h65 (n:=q) (S:=S) (l:=ty::rs.map (·.2.2)) (c:=c2) (tok:=bH) (by simp;omega) (fun t ht=>⟨(hw t ht).1,by have:=(hw t ht).2;omega⟩) (by simp only [aLc,aLm];omega)
    rw [qG] at k65
    simp only [Bool.not_not] at k65
    rcases o1 with _ | ⟨q1,q2,q3⟩
    ·refine ah.no (geM (by omega)) ?_
     refine ag.mkB (k65 _) (fun h9=>?_) (fun h9=>?_)
     ·rw [x9 h9];exact⟨_,rfl,T1,gx,_,rfl,⟨htw.e,htw.ha⟩⟩
     ·rw [ya h9];exact⟨_,rfl,T1,gx,_,rfl,⟨htw.e,htw.ha⟩⟩
    ·refine ah.no (geM (by omega)) ?_
     refine ag.mkB (k65 _) (fun h9=>?_) (fun h9=>?_)
     ·rw [x9 h9];exact⟨_,rfl,T1,gx,_,rfl,⟨htw.e,htw.ha⟩⟩
     ·rw [ya h9];exact⟨_,rfl,T1,gx,_,rfl,⟨htw.e,htw.ha⟩⟩
 obtain⟨r,k6,T,tok,S',rfl,hg⟩:=h
 refine bG k6 (by simp only [eE,bx,aq]) rfl rfl rfl rfl ?_
 have e:=bsN hg
 have e2:V.strip (.agg (ir (da d sh fx p u m x i) (szG 7 ((da d sh fx p u m x i).rules.map cj)) tok ((da d sh fx p u m x i).rules.map cj)))=gD (da d sh fx p u m x i):=by
  have e3:some (V.list 25 .tight 0 [V.strip (.agg (ir (da d sh fx p u m x i) (szG 7 ((da d sh fx p u m x i).rules.map cj)) tok ((da d sh fx p u m x i).rules.map cj)))])=some (.list 25 .tight 0 [gD (da d sh fx p u m x i)]):=e
  injection e3 with e4
  injection e4 with _ _ _ e5
  injection e5
 show V.tuple [V.strip (.agg (ir _ _ _ _)),_]=_
 rw [e2]
 rfl
end
@[reducible] noncomputable def Rb (n:Nat):Run:=bT Jv n (fD Tryz.cfg cO cW bW n)
theorem rb {n id:Nat} {args:List V} {S:St} {r:V×St} (h:RN n (.f id) args S=some r) (hc:Jv id=cO id:=by rfl) (hn:cW id=false:=by rfl) (hr:bW id=false:=by rfl):Rb n (.f id) args S=some r:=by
 have h2:cX bW (cp cW (bT cO n (fD Tryz.cfg cO cW bW n))) (.f id) args S=some r:=h
 unfold cX cp at h2
 simp only [hn,hr] at h2
 rw [← h2]
 show bT Jv n (fD Tryz.cfg cO cW bW n) (.f id) args S=_
 unfold bT
 simp only [hc]
theorem KG {p:Nat} (h:p < 4):(bY (.ofNat p)).2=0:=by
 have:p=0∨p=1∨p=2∨p=3:=by omega
 rcases this with rfl | rfl | rfl | rfl<;>rfl
theorem By {d:Dl} {sh:List Sh} (hg:Good d sh) (hm:bt d≤1000):oF d sh (fxN d) (pN d) (bt d) where
 q:=⟨hg.bk,fun i hi=>⟨NX (hg.may i hi).1,fun c hc=>NX ((hg.may i hi).2 c hc)⟩⟩
 so:=hg.so
 sh:=hg.shape
 h0:=hg.h0
 m:=hm
noncomputable def KH (d:Dl) (sh:List Sh) (u:Lv):dj:={ fid:=7,nt:=68,tmps:=[(1,.ptr (.loc 1) 0),(2,.list 0 .tight 0 []),(3,.int .i64 0),(7,.ptr (.loc 7) 0),(38,.fn 60 2 [] [.ptr (.box 1) 0])],locs:=[(1,bM d),(6,dQ u),(7,[.ptr (.box 0) 0])],params:=[39,40],assign:=l6 Tryz.f7,body:=l7 Tryz.f7,st:=.ready,iX:=none }
noncomputable def st7 (d:Dl) (sh:List Sh) (p k:Nat) (u:Lv):St:={ heap:=[.cells 72 (oD d sh p k u),.cells 69 [.ptr (.box 0) 0],.loop (KH d sh u)],aA:=[] }
theorem PI {n:Nat} {d:Dl} {sh:List Sh} {p k j i:Nat} {u:Lv} (hk:k≤100000) (hn:1≤n):RN n (.y 2) [.int .i64 (.ofNat j),.int .i64 (.ofNat i)] (st7 d sh p k u)=some (.bool true,st7 d sh p (k + 1) u):=by
 obtain⟨q,rfl⟩:=up (show 1≤n by omega)
 refine fH ?_
 refine fj (r:=KH d sh u) (nt:=68) (fx:=[1,6,7]) rfl rfl rfl rfl rfl rfl rfl ?_
 refine ab.mk _ (az (j:=k) (by omega)) ?_
 conv=>whnf
 rfl
@[reducible] noncomputable def KI (d:Dl) (shs:List V) (zo:Nat) (bo:Bool) (ro:List V) (m:Nat) (u:Lv):List V:=[.int .u8 d.kind,.int .i64 d.params,.str d.name,
  .int .u8 d.ty.k,.int .i64 d.ty.n,.str d.ty.s,.list (au d.ty.a d.ty.ls) (av d.ty.b) 0 (d.ty.ls.map enc),.list (au d.ty.c d.ty.ts) (av d.ty.d) 0 (ae d.ty.ts),
  .int .u8 d.val.k,.int .i64 d.val.n,.str d.val.s,.list (au d.val.a d.val.ls) (av d.val.b) 0 (d.val.ls.map enc),.list (au d.val.c d.val.ts) (av d.val.d) 0 (ae d.val.ts),
  .int .i64 d.fixed,.list 7 .no 0 (d.ai.map encI),.list 7 .no 0 shs,.list zo (av bo) 0 ro,.int .i64 u.c,.int .i64 u.p0,.int .i64 u.p1,.int .i64 u.p2,.int .i64 u.p3,.int .i64 (.ofNat m),.bool false]
theorem Uh (d:Dl) (shs:List V) (zo:Nat) (bo:Bool) (ro:List V) (m:Nat) (u:Lv) (B:List Blk) :
 tZ { nt:=68,tmps:=[(1,.ptr (.loc 1) 0),(2,.list 0 .tight 0 []),(3,.int .i64 0),(7,.ptr (.loc 7) 0),(38,.fn 60 2 [] [.ptr (.box 1) 0])],locs:=[(1,bM d),(6,dQ u),(7,[.ptr (.box 0) 0])],fix:=[] } { heap:=.cells 72 (KI d shs zo bo ro m u)::B,aA:=[] } =
 some { nt:=68,tmps:=[(1,.ptr (.loc 1) 0),(2,.list 0 .tight 0 []),(3,.int .i64 0),(7,.ptr (.loc 7) 0)],locs:=[(1,bM d),(6,dQ u),(7,[.imm 0 (KI d shs zo bo ro m u)])],fix:=[] }:=by
 rcases d with⟨k,p,nm,⟨k1,n1,s1,a1,b1,c1,d1,l1,t1⟩,⟨k2,n2,s2,a2,b2,c2,d2,l2,t2⟩,fx,is⟩
 cases b1<;>cases d1<;>cases b2<;>cases d2<;>cases bo<;>rfl
@[reducible] noncomputable def Ui:Option (Inf×Nat×Bool)→List (Nat×List V)
  | none=>[]
  | some i=>[(10,ir i.1 i.2.1 (av i.2.2) (i.1.rules.map cj))]
theorem mu (n:Nat) (rows:List V):∃z b,jX n rows=.list z (av b) 0 rows:=by
 cases rows with
 | nil=>exact⟨0,true,rfl⟩
 | cons r rows=>exact⟨n,false,rfl⟩
theorem FG {i:Inf} {z:Nat} {b:Bool} (h:jX 7 (i.rules.map cj)=.list z (av b) 0 (i.rules.map cj)):gD i=.agg (ir i z (av b) (i.rules.map cj)):=by
 unfold gD
 rw [h]
theorem Uj {i:Inf} {z:Nat} {b:Bool} (h:jX 7 (i.rules.map cj)=.list z (av b) 0 (i.rules.map cj)):buildSlice Tryz.cfg 31 1 [(0,.agg (ir i z (av b) (i.rules.map cj)))]=some (.list 25 .tight 0 [gD i]):=by
 have e1:aj (.list (au i.ty.a i.ty.ls) (av i.ty.b) 0 (i.ty.ls.map enc))=.list (au i.ty.a i.ty.ls) (av i.ty.b) 0 (i.ty.ls.map enc):=by cases i.ty.b<;>rfl
 have e2:aj (.list (au i.ty.c i.ty.ts) (av i.ty.d) 0 (ae i.ty.ts))=.list (au i.ty.c i.ty.ts) (av i.ty.d) 0 (ae i.ty.ts):=by cases i.ty.d<;>rfl
 have e3:aj (.list (au i.val.a i.val.ls) (av i.val.b) 0 (i.val.ls.map enc))=.list (au i.val.a i.val.ls) (av i.val.b) 0 (i.val.ls.map enc):=by cases i.val.b<;>rfl
 have e4:aj (.list (au i.val.c i.val.ts) (av i.val.d) 0 (ae i.val.ts))=.list (au i.val.c i.val.ts) (av i.val.d) 0 (ae i.val.ts):=by cases i.val.d<;>rfl
 have e5:=eS z b (i.rules.map cj)
 rw [FG h]
 show some (V.list 25 .tight 0 [.agg [.int .u8 i.kind,.str i.name,.int .i64 i.params,.int .u8 i.ty.k,.int .i64 i.ty.n,.str i.ty.s,aj (.list (au i.ty.a i.ty.ls) (av i.ty.b) 0 (i.ty.ls.map enc)),aj (.list (au i.ty.c i.ty.ts) (av i.ty.d) 0 (ae i.ty.ts)),
  .int .u8 i.val.k,.int .i64 i.val.n,.str i.val.s,aj (.list (au i.val.a i.val.ls) (av i.val.b) 0 (i.val.ls.map enc)),aj (.list (au i.val.c i.val.ts) (av i.val.d) 0 (ae i.val.ts)),
  .int .i64 0,.str i.block,.str i.of_,.int .i64 i.fixed,.int .i64 i.index,.int .i64 0,.int .i64 0,.int .i64 i.motives,.int .i64 i.minors,aj (.list z (av b) 0 (i.rules.map cj)),.int .i64 0,.bool false]])=_
 rw [e1,e2,e3,e4,e5]
theorem h7v {d:Dl} {W n:Nat} (hd:rT d W) (hls:d.ty.ls.length≤1000∧d.val.ls.length≤1000) (hn:3 * W + 40000000≤n)
 (hT:∀sh,ofR d=(sh,0)→∀q∈d.ai.zipIdx 0,∀t∈dS d sh (fxN d) (pN d) (bY d.params).1 (bt d) q.2 q.1,Sm t∧wt t + 40≤n) :
 EH (fD Tryz.cfg cO cW bW n) n [eB d]=some (.tuple [jX 25 ((fM d).1.map gD),.int .i64 (fM d).2]):=by
 obtain⟨k,rfl⟩:=up (show 2≤n by omega)
 have iB:=hd.nm.few
 have M4:=h17 (n:=k + 2) (S:=St.empty) hd hls hn
 have h:∃v,sH 7 7 Tryz.f7 (Rb (k + 2)) (k + 2) [eB d]=some v∧v=.tuple [jX 25 ((fM d).1.map gD),.int .i64 (fM d).2]:=by
  refine G2 (id:=7) (m:=7) (fn:=Tryz.f7) ?_
  refine gj.cons (nt:=68) ?_
  refine gj.cons (nt:=68) ?_
  rcases zH hd with⟨e,he,ho⟩ | ⟨s0,r,ho,hg⟩
  ·rw [ho] at M4
   have KJ : RN (k + 2) (.f 17) [eB d] St.empty=some (.tuple [.list 0 .tight 0 [],.int .i64 e],St.empty):=M4
   refine ag.mk _ _ (rb KJ) ?_
   refine gj.cons (nt:=68) ?_
   refine ah.yes (by rw [bp];simp [he]) ?_
   have hro:fM d=([],e):=by
    unfold fM
    rw [ho]
    split
    ·rename_i h9;exact absurd h9 he
    ·rfl
   rw [hro]
   exact⟨_,rfl,rfl⟩
  ·rw [ho] at M4
   have KJ : RN (k + 2) (.f 17) [eB d] St.empty=some (.tuple [.list 7 .no 0 ((s0::r).map bQ),.int .i64 0],St.empty):=M4
   have hpp:=hg.bk.hpp
   have hp4:=hg.bk.p4
   have hm1:bt d≤1000:=by
    have:=qa hd.nm.cs d.ai.length
    rw [List.take_length] at this
    unfold bt;omega
   have hba:=By hg hm1
   have Ro:=h18 (n:=k + 2) (i:=d.params) (S:=St.empty) (by omega)
   have hpo:(bY d.params).2=0:=by rw [hpp];exact KG hp4
   rw [hpo] at Ro
   generalize hu:(bY d.params).1=u at *
   refine ag.mk _ _ (rb KJ) ?_
   refine gj.cons (nt:=68) ?_
   refine ah.no rfl ?_
   refine gj.cons (nt:=68) ?_
   refine ag.mk _ _ (rb Ro) ?_
   refine gj.cons (nt:=68) ?_
   refine ah.no rfl ?_
   refine gj.cons (nt:=68) ?_
   have Kp:=h19 (n:=k + 2) (m:=pN d) (S:=St.empty) (by omega) (by omega)
   rw [← hpp] at Kp
   refine ag.mk _ _ (rb Kp) ?_
   refine gj.cons (nt:=68) ?_
   obtain⟨S9,e1,e2⟩:=Ub (n:=k + 1) (d:=d) (sh:=s0::r) (p:=pN d) (m:=0) (u:=u) (b:=2) (B:=[.loop (KH d (s0::r) u)]) (T:=[])
    (P:=fun j i S=>S=st7 d (s0::r) (pN d) (((d.ai.take j).map fun i=>i.cs.length).sum + i) u) (Q:=fun _=>False) (by omega) (fun i hi=>by have:=hd.nm.cs i hi;omega) hd.nm.smD rfl
    (fun j y i S hy hi e=>by
     subst e
     have:=qa hd.nm.cs j
     have h2:d.ai.length * 20≤10 * 20:=Nat.mul_le_mul (by omega) (by omega)
     have hyc:=hd.nm.cs y (aMg hy)
     exact .inl ⟨_,PI (by omega) (by omega),rfl⟩)
    (fun j y S hy e=>by rw [e,s8 hy,Nat.add_zero])
   have e3:S9=st7 d (s0::r) (pN d) (bt d) u:=by
    have:=e2.elim id False.elim
    rw [this,List.take_length]
    rfl
   subst e3
   have Uk : Rb (k + 2) (.f 20) [.ptr (.box 0) 0] { heap:=[.cells 72 (oD d (s0::r) (pN d) 0 u)],aA:=[] }=_:=rb (Ua (n:=k + 2) (by omega))
   refine ag.mk _ _ Uk ?_
   refine aB.mk _ _ _ (dL (f:=60) (top:=2) (first:=[]) (cap:=[.ptr (.box 1) 0]) (l:=KH d (s0::r) u) (r:=KH d (s0::r) u) (v:=.tuple []) (by rfl) (by rfl) (rb e1) (by rfl) (.inl rfl)) ?_
   refine gj.nil (nt:=68) ?_
   refine⟨_,Uh d ((s0::r).map bQ) (au false (eW (pN d))) (eW (pN d)).isEmpty ((eW (pN d)).map enc) (bt d) u _,?_⟩
   refine aB.loop 68 (σ:=Option (Inf×Nat×Bool)×List Inf×Tok×List Nat) d.ai.length (fun j s9=>{ nt:=68,tmps:=[(7,.ptr (.loc 7) 0),(8,.list (szG 25 (s9.2.1.map gD)) s9.2.2.1 0 (s9.2.1.map gD)),(50,.int .i64 (.ofNat (aG (d.ai.map encI)))),(51,.int .i64 (.ofNat j))],locs:=(1,bM d)::(6,dQ u)::(7,[cd d (s0::r) (pN d) (bt d) u])::Ui s9.1,fix:=[] })
    (fun _ s9=>{ heap:=[],aA:=s9.2.2.2 }) (fun j s9=>bP (xO d (s0::r) (fxN d) (pN d) u (bt d)) ((d.ai.zipIdx 0).take j)=some s9.2.1∧aw [] s9.2.2.2 (s9.2.1.map gD) s9.2.2.1) (none,[],.tight,[]) (show d.ai.length < k + 2 by omega) ⟨rfl,⟨Dz [],.inl ⟨rfl,rfl⟩⟩⟩ ?_ ?_
   ·rintro j ⟨o,out,tok,T1⟩ hj ⟨(ja:_=some out),(hgr:aw [] T1 (out.map gD) tok)⟩
    obtain⟨x,hx⟩ : ∃x,d.ai[j]?=some x:=⟨_,aGe hj⟩
    obtain⟨_,s1,hsx,_,_⟩:=hg.so.at_ j x hx
    have hol:=ev ja
    rw [List.length_take,List.length_zipIdx] at hol
    have hz:=vw hx
    have KK:=h21 (n:=k + 2) (u:=u) (S:={ heap:=[],aA:=T1 }) hba hx hsx hg.sm (by omega) (hT (s0::r) ho (x,j) (aMg hz))
    cases cg:(dS d (s0::r) (fxN d) (pN d) u (bt d) j x).all cM with
    | false=>
     rw [cg] at KK
     generalize da d (s0::r) (fxN d) (pN d) u (bt d) j x=io at KK
     obtain⟨z,b,hz9⟩:=mu 7 (io.rules.map cj)
     have KL : RN (k + 2) (.f 21) [cd d (s0::r) (pN d) (bt d) u,.int .i64 (.ofNat j)] { heap:=[],aA:=T1 }=some (.tuple [.agg (ir io z (av b) (io.rules.map cj)),.bool false],{ heap:=[],aA:=T1 }):=by rw [← FG hz9];exact KK
     have hro:fM d=([],4):=by
      have:mn d (s0::r) (fxN d) (pN d) u (bt d)=none:=gT hz (by unfold xO;rw [cg])
      unfold fM
      rw [ho,hu]
      simp only [this]
     rw [hro]
     rcases o with _ | i0
     all_goals
      refine ah.yes (ltM hj) ?_
      refine ag.mk _ _ (rb KL) ?_
      exact⟨_,rfl,rfl⟩
    | true=>
     rw [cg] at KK
     obtain⟨T5,dR,a1,a2⟩:=dP (LT:=31) (ET:=38) (ei:=Tryz.ti38) (H:=[]) (T0:=[]) (T:=T1) (done:=out.map gD) (new:=[gD (da d (s0::r) (fxN d) (pN d) u (bt d) j x)]) (tok:=tok) (bH:=.tight) (sz2:=25) rfl rfl (by decide) (by decide) (by simp;omega) hgr (.inr rfl)
     have ee:out.map gD++[gD (da d (s0::r) (fxN d) (pN d) u (bt d) j x)]=(out++[da d (s0::r) (fxN d) (pN d) u (bt d) j x]).map gD:=by simp
     rw [ee] at a1 a2
     have hnx:=fz hz ja (show xO d (s0::r) (fxN d) (pN d) u (bt d) (x,j)=some (da d (s0::r) (fxN d) (pN d) u (bt d) j x) by unfold xO;rw [cg])
     generalize da d (s0::r) (fxN d) (pN d) u (bt d) j x=io at *
     obtain⟨z,b,hz9⟩:=mu 7 (io.rules.map cj)
     have KL : RN (k + 2) (.f 21) [cd d (s0::r) (pN d) (bt d) u,.int .i64 (.ofNat j)] { heap:=[],aA:=T1 }=some (.tuple [.agg (ir io z (av b) (io.rules.map cj)),.bool true],{ heap:=[],aA:=T1 }):=by rw [← FG hz9];exact KK
     rcases o with _ | i0
     all_goals
      refine ah.yes (ltM hj) ?_
      refine ag.mk _ _ (rb KL) ?_
      refine ab.mk _ (Uj hz9) ?_
      refine cN.mk _ _ (a1 _ _ rfl) ?_
      refine ab.mk _ (az (by omega)) ?_
      exact⟨(some (io,z,b),out++[io],dR,T5),⟨hnx,a2⟩,rfl,rfl⟩
   ·rintro⟨o,out,tok,T1⟩ ⟨(ja:_=some out),(hgr:aw [] T1 (out.map gD) tok)⟩
    rw [List.take_of_length_le (by simp)] at ja
    have hro:fM d=(out,0):=by
     have:mn d (s0::r) (fxN d) (pN d) u (bt d)=some out:=ja
     unfold fM
     rw [ho,hu]
     simp only [this]
    rw [hro]
    have Ch:V.tuple [aj (.list (szG 25 (out.map gD)) tok 0 (out.map gD)),.int .i64 0]=.tuple [jX 25 (out.map gD),.int .i64 0]:=by rw [gS hgr]
    rcases o with _ | i0
    all_goals
     refine ah.no (geM (by omega)) ?_
     exact⟨_,rfl,Ch⟩
 obtain⟨v,h1,rfl⟩:=h
 exact h1
theorem h7 {d:Dl} {W n:Nat} {S:St} (hd:rT d W) (hls:d.ty.ls.length≤1000∧d.val.ls.length≤1000) (hn:3 * W + 40000000≤n)
 (hT:∀sh,ofR d=(sh,0)→∀q∈d.ai.zipIdx 0,∀t∈dS d sh (fxN d) (pN d) (bY d.params).1 (bt d) q.2 q.1,Sm t∧wt t + 40≤n) :
 RN n (.f 7) [eB d] S=some (.tuple [jX 25 ((fM d).1.map gD),.int .i64 (fM d).2],S):=
 xN rfl rfl rfl rfl (by simp only [dH,aq]) (h7v hd hls hn hT)
noncomputable def Bz (c:Ct):Bool:=!mH c.ty && !iLt 100 (.ofNat c.name.length)
noncomputable def yh (i:In):Bool:=!iLt 10 (.ofNat i.cs.length) && (!mH i.ty && (!iLt 100 (.ofNat i.name.length) && i.cs.all Bz))
noncomputable def qf (d:Dl):Bool:=!iLt 5 (.ofNat d.ai.length) && (!mH d.ty && (!mH d.val && (!iLt 100 (.ofNat d.name.length) && d.ai.all yh)))
structure Rq (d:Dl) (W:Nat):Prop where
 ty:wt d.ty≤W
 val:wt d.val≤W
 all:∀i∈d.ai,wt i.ty≤W∧i.cs.length≤W∧∀c∈i.cs,wt c.ty≤W
 len:d.ai.length≤W
section
variable {n:Nat} {d:Dl} {S:St}
theorem h5 {W:Nat} (hw:Rq d W) (hn:W + 20≤n):RN n (.f 5) [eB d] S=some (.bool (qf d),S):=by
 obtain⟨q,rfl⟩:=up (show 1≤n by omega)
 have hwl:=hw.len
 have h:∃r,frame Tryz.cfg (RN q) q 5 [eB d] St.empty=some r∧∃S',r=(.bool (qf d),S'):=by
  refine aV (fn:=Tryz.f5) (p:=fun r=>∃S',r=(.bool (qf d),S')) rfl rfl ?_
  have fin:∀(b:Bool) (r:V×St),qf d=b→(∃S',r=(.bool b,S'))→∃S',r=(.bool (qf d),S'):=fun b r h1 h2=>by rw [h1];exact h2
  refine ah.mk (fun c1=>?_) (fun c1=>?_)
  ·rw [an,aLm] at c1
   exact⟨_,rfl,fin false _ (by unfold qf;rw [c1];rfl) ⟨_,rfl⟩⟩
  rw [an,aLm] at c1
  have hl5:d.ai.length≤5:=by
   rw [cb,decide_eq_false_iff_not] at c1
   simp only [aOn] at c1;omega
  refine ag.mkB (h14 (by have:=hw.ty;omega)) (fun c2=>?_) (fun c2=>?_)
  ·exact⟨_,rfl,fin false _ (by unfold qf;rw [c1,c2];rfl) ⟨_,rfl⟩⟩
  refine ag.mkB (h14 (by have:=hw.val;omega)) (fun c3=>?_) (fun c3=>?_)
  ·exact⟨_,rfl,fin false _ (by unfold qf;rw [c1,c2,c3];rfl) ⟨_,rfl⟩⟩
  refine ah.mk (fun c4=>?_) (fun c4=>?_)
  ·rw [an] at c4
   exact⟨_,rfl,fin false _ (by unfold qf;rw [c1,c2,c3,c4];rfl) ⟨_,rfl⟩⟩
  rw [an] at c4
  refine aB.loop 95 (σ:=Option Nat) d.ai.length (fun j o=>{ nt:=95,tmps:=[(1,.ptr (.loc 1) 0),(3,.int .i64 (.ofNat j))],locs:=[(1,bM d)],fix:=[] }) (fun _ _=>St.empty)
   (fun j _=>d.ai.all yh=(d.ai.drop j).all yh) none (show d.ai.length < q by omega) rfl ?_ ?_
  ·intro j o hj hp
   obtain⟨x,hx⟩ : ∃x,d.ai[j]?=some x:=⟨_,aGe hj⟩
   obtain⟨w1,w2,w3⟩:=hw.all x (aMg hx)
   rw [gg hx] at hp
   have bad:yh x=false→qf d=false:=fun h=>by unfold qf;rw [c1,c2,c3,c4,hp,h];rfl
   refine ah.yes (ltM hj) ?_
   refine ab.mk _ (aO hx) ?_
   refine ah.mk (fun e1=>?_) (fun e1=>?_)
   ·rw [an,aLm] at e1
    exact⟨_,rfl,fin false _ (bad (by unfold yh;rw [e1];rfl)) ⟨_,rfl⟩⟩
   rw [an,aLm] at e1
   refine ab.mk _ (aO hx) ?_
   refine ag.mkB (h14 (by omega)) (fun e2=>?_) (fun e2=>?_)
   ·exact⟨_,rfl,fin false _ (bad (by unfold yh;rw [e1,e2];rfl)) ⟨_,rfl⟩⟩
   refine ab.mk _ (aO hx) ?_
   refine ah.mk (fun e3=>?_) (fun e3=>?_)
   ·rw [an] at e3
    exact⟨_,rfl,fin false _ (bad (by unfold yh;rw [e1,e2,e3];rfl)) ⟨_,rfl⟩⟩
   rw [an] at e3
   have Rr:x.cs.length≤10:=by
    rw [cb,decide_eq_false_iff_not] at e1
    simp only [aOn] at e1;omega
   refine aB.loop 95 (σ:=Unit) x.cs.length (fun k _=>{ nt:=95,tmps:=[(1,.ptr (.loc 1) 0),(3,.int .i64 (.ofNat j)),(4,.int .i64 (.ofNat k))],locs:=[(1,bM d)],fix:=[] }) (fun _ _=>St.empty)
    (fun k _=>x.cs.all Bz=(x.cs.drop k).all Bz) () (show x.cs.length < q by omega) rfl ?_ ?_
   ·intro k _ hk hp2
    obtain⟨c,hc⟩ : ∃c,x.cs[k]?=some c:=⟨_,aGe hk⟩
    have w4:=w3 c (aMg hc)
    rw [gg hc] at hp2
    have Rs:Bz c=false→qf d=false:=fun h=>bad (by unfold yh;rw [hp2,h];simp)
    refine ab.mk _ (aO hx) ?_
    refine ah.yes (ltM hk) ?_
    refine ab.mk _ (aO hx) ?_
    refine ab.mk _ (ed hc) ?_
    refine ag.mkB (h14 (by omega)) (fun e4=>?_) (fun e4=>?_)
    ·exact⟨_,rfl,fin false _ (Rs (by unfold Bz;rw [e4];rfl)) ⟨_,rfl⟩⟩
    refine ab.mk _ (aO hx) ?_
    refine ab.mk _ (ed hc) ?_
    refine ah.mk (fun e5=>?_) (fun e5=>?_)
    ·rw [an] at e5
     exact⟨_,rfl,fin false _ (Rs (by unfold Bz;rw [e4,e5];rfl)) ⟨_,rfl⟩⟩
    rw [an] at e5
    rw [show Bz c=true by unfold Bz;rw [e4,e5];rfl] at hp2
    refine ab.mk _ (az (by omega)) ?_
    exact⟨(),hp2,rfl,rfl⟩
   ·intro _ hp2
    rw [List.drop_length] at hp2
    rw [show yh x=true by unfold yh;rw [e1,e2,e3,hp2];rfl] at hp
    refine ab.mk _ (aO hx) ?_
    refine ah.no (geM (by omega)) ?_
    refine ab.mk _ (az (by omega)) ?_
    exact⟨none,hp,rfl,rfl⟩
  ·intro o hp
   rw [List.drop_length] at hp
   refine ah.no (geM (by omega)) ?_
   exact⟨_,rfl,fin true _ (by unfold qf;rw [c1,c2,c3,c4,hp];rfl) ⟨_,rfl⟩⟩
 obtain⟨r,k6,S',rfl⟩:=h
 exact bG k6 (by simp only [dH,aq]) rfl rfl rfl rfl rfl
end
structure N0 (i:Inf) (n:Nat):Prop where
 ty:Sm i.ty∧dW i.ty < 1000000000∧wt i.ty + 1≤n
 val:Sm i.val∧dW i.val < 1000000000∧wt i.val + 1≤n
 rules:i.rules.length < n∧i.rules.length≤1000000∧∀r∈i.rules,Sm r.2.2∧dW r.2.2 < 1000000000∧wt r.2.2 + 1≤n
theorem M5 {rs:List Ru} {k:Nat} {r:Ru} (h:rs[k]?=some r):indexAddr Tryz.cfg 36 (.list 7 .no 0 (rs.map cj)) (.int .i64 (.ofNat k))=some (.imm 0 (ie r)):=dI (ei:=Tryz.ti56) rfl rfl h
section
variable {n:Nat} {S:St}
end
end Go.Ev
namespace Go.Ev
open Go.Proofs Go.RowKit
set_option maxRecDepth 100000
set_option linter.unusedVariables false
set_option linter.unusedSimpArgs false
theorem M6 {k:Int} {a b:Tm} (ha:Sm a) (hb:Sm b):Sm (xu k a b):=(gR _).2 ⟨⟨Nat.zero_le _,Nat.zero_le _⟩,fun y hy=>by
 have h:y∈[a,b]:=hy
 simp at h
 rcases h with rfl | rfl
 ·exact ha
 ·exact hb⟩
theorem FI {a b:Tm} (ha:Sm a) (hb:Sm b):Sm (pS a b):=(gR _).2 ⟨⟨Nat.zero_le _,Nat.zero_le _⟩,fun y hy=>by
 have h:y∈[a,b]:=hy
 simp at h
 rcases h with rfl | rfl
 ·exact ha
 ·exact hb⟩
theorem gU:∀{xs:List Tm} {f:Tm},Sm f→(∀x∈xs,Sm x)→Sm (eH f xs)
 | [],f,hf,_=>hf
 | x::xs,f,hf,h=>gU (xs:=xs) (FI hf (h x aMs)) (fun y hy=>h y (aMt _ hy))
theorem oG {k:Int}:∀{xs:List Tm} {t:Tm},Sm t→(∀x∈xs,Sm x)→Sm (fC k xs t)
 | [],t,ht,_=>ht
 | x::xs,t,ht,h=>M6 (h x aMs) (oG ht (fun y hy=>h y (aMt _ hy)))
theorem jD (a r:Int):Sm (ch a r):=(gR _).2 ⟨⟨Nat.zero_le _,Nat.zero_le _⟩,fun y hy=>by cases (show y∈([]:List Tm) from hy)⟩
theorem qg (a k:Nat) (r:Int):∀x∈eK a k r,Sm x:=fun x hx=>by
 unfold eK at hx
 obtain⟨i,_,rfl⟩:=List.mem_map.1 hx
 exact jD _ _
theorem Hd:Sm zTm:=(gR _).2 ⟨⟨Nat.zero_le _,Nat.zero_le _⟩,fun y hy=>by cases (show y∈([]:List Tm) from hy)⟩
theorem DR {s:List UInt8} {a b:Bool} {ls:List Lv} (hs:s.length≤1000000) (hl:ls.length≤1000000):Sm (pU s a b ls):=(gR _).2 ⟨⟨by show ls.length≤_;omega,by show s.length≤_;omega⟩,fun y hy=>by cases (show y∈([]:List Tm) from hy)⟩
theorem M7 (u:Lv):Sm (GP u):=(gR _).2 ⟨⟨by show [u].length≤_;simp,Nat.zero_le _⟩,fun y hy=>by cases (show y∈([]:List Tm) from hy)⟩
section
variable {d:Dl} {sh:List Sh} {m:Nat} {u:Lv} {fx p:Nat}
theorem vD {name:List UInt8} {aa:Nat} {l:List Tm} (hp:p < 4) (hs:name.length≤1000) (hl:∀x∈l,Sm x):Sm (iW fx p name aa l):=by
 unfold iW
 exact gU (gU (DR (by omega) (by rw [fk];omega)) (qg _ _ _)) hl
theorem qH {t:Tm} {aa:Nat} (ht:My 4096 t) (hf:fx≤(ak t).1.length) (h1:fx≤aa) (h2:aa≤100000):(∀x∈(aI fx t aa).1,My 200000 x)∧My 200000 (aI fx t aa).2:=by
 have h:=(rX ht fx hf).lift (b:=.ofNat aa - .ofNat fx) (by simp only [aOn];omega) (by simp only [aOn];omega) 0
 have h2:=h.mono (e:=200000) (by simp only [aOn];omega)
 obtain⟨k1,k2⟩:=h2.pis
 exact⟨k2,k1⟩
theorem My.sm {c:Int} {t:Tm} (h:My c t):Sm t:=qd h.may
theorem It {x:In} {aa:Nat} (hp:p < 4) (hn:x.name.length≤1000) (ht:My 4096 x.ty) (hf:fx≤(ak x.ty).1.length) (h1:fx≤aa) (h2:aa≤100000):Sm (iF fx p u x aa):=by
 unfold iF
 obtain⟨b1,b2⟩:=qH ht hf h1 h2
 refine oG (M7 _) fun y hy=>?_
 rcases List.mem_append.1 hy with hy | hy
 ·exact (b1 y hy).sm
 ·rw [List.mem_singleton.1 hy]
  exact vD hp hn (qg _ _ _)
theorem KM {k:Int} {t:Tm} {f aa:Nat} {c:Int} (hb:Bq d fx p 4000000) (ht:My c t):Sm (mY d fx p u m k t f aa):=by
 unfold mY
 split
 ·exact Hd
 ·obtain⟨p1,p2⟩:=ht.pis
  refine oG (gU (gU ?_ ?_) ?_) (fun y hy=>(p2 y hy).sm)
  ·unfold uX
   split
   ·exact jD _ _
   ·unfold Kg
    refine gU (DR ?_ ?_) (qg _ _ _)
    ·unfold GY
     rw [aLa]
     have hd:cI.length=4:=rfl
     cases hq:d.ai[(cD d fx (ak t).2 (.ofNat (aa + (ak t).1.length))).1.toNat]? with
     | none=>show ([]:List UInt8).length + _≤_;rw [hd];simp
     | some x=>
      have:=(hb.nm.nm x (aMg hq)).1
      show x.name.length + _≤_
      omega
    ·rw [aLa,fk]
     have:=hb.p4
     simp;omega
  ·intro y hy
   have:=pX (d:=d) (fx:=fx) (aa:=.ofNat (aa + (ak t).1.length)) p1.gd.all y hy
   exact this.1.sm
  ·intro y hy
   rw [List.mem_singleton.1 hy]
   unfold itR
   exact gU (jD _ _) (qg _ _ _)
theorem BB {n aa:Nat} (hb:Bq d fx p 4000000) (hn:n≤100):∀(l:List (Tm×(Int×Int))) (i h:Nat),(∀q∈l,My 200000 q.1)→h + l.length≤1000→∀y∈fV d fx p u m n aa l i h,Sm y
 | [],i,h,_,_,y,hy=>by cases (show y∈([]:List Tm) from hy)
 | q::r,i,h,hq,hl,y,hy=>by
  rw [aLc] at hl
  rw [fV] at hy
  split at hy
  ·rcases List.mem_cons.1 hy with rfl | hy
   ·have:=(hq q aMs).lift (b:=.ofNat (n - i + h)) (by simp only [aOn];omega) (by simp only [aOn];omega) 0
    exact KM hb this
   ·exact BB hb hn r _ _ (fun z hz=>hq z (aMt _ hz)) (by omega) y hy
  ·exact BB hb hn r _ _ (fun z hz=>hq z (aMt _ hz)) (by omega) y hy
theorem KN {x:Nat} {c:Ct} {fs:List (Int×Int)} {aa:Nat} (hb:Bq d fx p 4000000) (hn:c.name.length≤1000) (ht:My 4096 c.ty) (hf:fx≤(ak c.ty).1.length) (h12:(ak c.ty).1.length≤fx + 12) (h1:fx≤aa) (h2:aa≤100000):Sm (kV d fx p u m fs x c aa):=by
 unfold kV
 obtain⟨b1,b2⟩:=qH ht hf h1 h2
 have hbn:=jA (aa:=aa) ht.gd (by omega) hf
 have hz:∀q∈(aI fx c.ty aa).1.zip fs,My 200000 q.1:=fun q hq=>b1 q.1 (List.of_mem_zip hq).1
 have hhl:=s7 d fx p u m (aI fx c.ty aa).1.length aa ((aI fx c.ty aa).1.zip fs) 0 0
 rw [List.length_zip] at hhl
 have hml:min (aI fx c.ty aa).1.length fs.length≤12:=by have:=Nat.min_le_left (aI fx c.ty aa).1.length fs.length;omega
 have hhs:=BB (n:=(aI fx c.ty aa).1.length) (aa:=aa) (u:=u) (m:=m) hb (by omega) _ 0 0 hz (by rw [List.length_zip];omega)
 have hE:=b2.lift (b:=.ofNat (fV d fx p u m (aI fx c.ty aa).1.length aa ((aI fx c.ty aa).1.zip fs) 0 0).length) (by simp only [aOn];omega) (by simp only [aOn];omega) 0
 refine oG (gU (gU (jD _ _) ?_) ?_) ?_
 ·intro y hy
  exact ((hE.spine).2 y (List.mem_of_mem_drop hy)).sm
 ·intro y hy
  rw [List.mem_singleton.1 hy]
  exact vD hb.p4 hn (qg _ _ _)
 ·intro y hy
  rcases List.mem_append.1 hy with hy | hy
  ·exact (b1 y hy).sm
  ·exact hhs y hy
theorem He (hb:oF d sh fx p m):∀(l:List (In×Nat)) (base:Nat),(∀q∈l,d.ai[q.2]?=some q.1)→fx≤base→base + l.length * 20≤10000→∀y∈mj d sh fx p u m l base,Sm y
 | [],base,_,_,_,y,hy=>by cases (show y∈([]:List Tm) from hy)
 | q::r,base,hq,hf,hl,y,hy=>by
  rw [aLc,Nat.add_mul] at hl
  have hx:=hq q aMs
  have hcs:=hb.q.bk.nm.cs q.1 (aMg hx)
  rw [mj] at hy
  rcases List.mem_append.1 hy with hy | hy
  ·unfold xL at hy
   obtain⟨⟨c,k⟩,hc,rfl⟩:=List.mem_map.1 hy
   have hc' : c∈q.1.cs:=List.fst_mem_of_mem_zipIdx hc
   obtain⟨j,hj⟩:=List.mem_iff_getElem?.1 hc
   rw [List.getElem?_zipIdx] at hj
   cases hcj:q.1.cs[j]? with
   | none=>rw [hcj] at hj;cases hj
   | some c2=>
    rw [hcj] at hj
    simp at hj
    obtain⟨rfl,rfl⟩:=hj
    have hjl:=(aGs hcj).1
    obtain⟨_,s,_,_,hs2⟩:=hb.so.at_ q.2 q.1 hx
    obtain⟨fs,_,_,h12,_⟩:=hs2 j c2 hcj
    exact KN hb.q.bk (show c2.name.length≤1000 by have:=(hb.q.bk.nm.nm q.1 (aMg hx)).2 c2 hc';omega) ((hb.q.my q.1 (aMg hx)).2 c2 hc') ((hb.q.bk.gd q.1 (aMg hx)).2.2 c2 hc').2 h12 (by show fx≤base + j;omega) (by show base + j≤_;omega)
  ·exact He hb r _ (fun z hz=>hq z (aMt _ hz)) (by omega) (by omega) y hy
theorem yi (hb:oF d sh fx p m):∀y∈aU d sh fx p u m,Sm y:=by
 have iB:=hb.q.bk.dl.few
 have p8:=hb.q.bk.f12
 have hz:∀q∈d.ai.zipIdx 0,d.ai[q.2]?=some q.1:=fun q hq=>by
  obtain⟨j,hj⟩:=List.mem_iff_getElem?.1 hq
  rw [List.getElem?_zipIdx] at hj
  cases hx:d.ai[j]? with
  | none=>rw [hx] at hj;cases hj
  | some x=>
   rw [hx] at hj
   simp at hj
   rw [← hj]
   exact hx
 intro y hy
 unfold aU at hy
 rcases List.mem_append.1 hy with hy | hy
 ·rcases List.mem_append.1 hy with hy | hy
  ·unfold ow at hy
   exact (((hb.q.my _ (aMg hb.h0)).1.pis).2 y (List.mem_of_mem_take hy)).sm
  ·unfold uY at hy
   obtain⟨q,hq,rfl⟩:=List.mem_map.1 hy
   have hx:=aMg (hz q hq)
   have hql:=(aGs (hz q hq)).1
   exact It hb.q.bk.p4 (by have:=(hb.q.bk.nm.nm q.1 hx).1;omega) (hb.q.my q.1 hx).1 (hb.q.bk.gd q.1 hx).2.1 (by omega) (by omega)
 ·exact He hb _ _ hz (by omega) (by rw [List.length_zipIdx];omega) y hy
theorem M8 {x:Nat} {i:In} (hb:oF d sh fx p m) (hx:d.ai[x]?=some i):Sm (gJ d sh fx p u m x i):=by
 have hle:=ml (sh:=sh) (u:=u) (m:=m) hb.q.bk hb.h0
 have hfa:=nE (sh:=sh) (u:=u) (m:=m) hb.h0 hb.q.bk
 have hxm:=aMg hx
 obtain⟨b1,b2⟩:=qH (hb.q.my i hxm).1 (hb.q.bk.gd i hxm).2.1 hfa (by omega)
 unfold gJ
 refine oG (gU (jD _ _) ?_) ?_
 ·intro y hy
  rcases List.mem_append.1 hy with hy | hy
  ·exact qg _ _ _ y hy
  ·rw [List.mem_singleton.1 hy];exact jD _ _
 ·intro y hy
  unfold zE at hy
  rcases List.mem_append.1 hy with hy | hy
  ·rcases List.mem_append.1 hy with hy | hy
   ·exact yi hb y hy
   ·exact (b1 y hy).sm
  ·rw [List.mem_singleton.1 hy]
   exact vD hb.q.bk.p4 (by have:=(hb.q.bk.nm.nm i hxm).1;omega) (qg _ _ _)
theorem BC {n len deep:Nat} (hb:Bq d fx p 4000000) (hl:len≤1000):∀(l:List (Tm×(Int×Int))) (i:Nat) (t:Tm),(∀q∈l,My 200000 q.1)→Sm t→Sm (kK d fx p u m n len deep l i t)
 | [],i,t,_,ht=>ht
 | q::r,i,t,hq,ht=>by
  rw [kK]
  split
  ·have:=(hq q aMs).lift (b:=.ofNat (len - i)) (by simp only [aOn];omega) (by simp only [aOn];omega) 0
   exact BC hb hl r _ _ (fun z hz=>hq z (aMt _ hz)) (FI ht (KM hb this))
  ·exact BC hb hl r _ _ (fun z hz=>hq z (aMt _ hz)) ht
theorem M9 {x ci:Nat} {i:In} {c:Ct} {fs:List (Int×Int)} (hb:oF d sh fx p m) (hx:d.ai[x]?=some i) (hc:c∈i.cs) (h12:(ak c.ty).1.length≤fx + 12):Sm (ld d sh fx p u m x ci c fs).2.2:=by
 have hle:=ml (sh:=sh) (u:=u) (m:=m) hb.q.bk hb.h0
 have hfa:=nE (sh:=sh) (u:=u) (m:=m) hb.h0 hb.q.bk
 have hxm:=aMg hx
 have hcm:=(hb.q.my i hxm).2 c hc
 have hcf:=((hb.q.bk.gd i hxm).2.2 c hc).2
 obtain⟨b1,b2⟩:=qH hcm hcf hfa (by omega)
 have hbn:=jA (aa:=(aU d sh fx p u m).length) hcm.gd (by omega) hcf
 unfold ld
 refine oG (BC hb.q.bk (by omega) _ _ _ (fun q hq=>b1 q.1 (List.of_mem_zip hq).1) (gU (jD _ _) (qg _ _ _))) ?_
 intro y hy
 rcases List.mem_append.1 hy with hy | hy
 ·exact yi hb y hy
 ·exact (b1 y hy).sm
theorem KO (hb:oF d sh fx p m):Sm (jB d sh fx p u m):=by
 have hn0:=(hb.q.bk.nm.nm (in0 d) (aMg hb.h0)).1
 have hpr:∀k,Sm (mZ d sh fx p u m k):=by
  intro k
  unfold mZ
  induction k with
  | zero=>exact jD _ _
  | succ k ih=>
   rw [List.range_succ,List.foldl_append]
   refine FI ih ((gR _).2 ⟨⟨Nat.zero_le _,by show (in0 d).name.length≤_;omega⟩,fun y hy=>?_⟩)
   have hy' : y∈[ch (.ofNat (aU d sh fx p u m).length) (.ofNat ((aU d sh fx p u m).length + 1))]:=hy
   rw [List.mem_singleton.1 hy']
   exact jD _ _
 unfold jB
 refine oG (hpr _) ?_
 intro y hy
 unfold qb at hy
 rcases List.mem_append.1 hy with hy | hy
 ·exact yi hb y hy
 ·rw [List.mem_singleton.1 hy]
  exact vD hb.q.bk.p4 (by omega) (fun z hz=>by cases hz)
theorem KP {x:Nat} {i:In} (hb:oF d sh fx p m) (hx:d.ai[x]?=some i):∀t∈dS d sh fx p u m x i,Sm t:=by
 intro t ht
 unfold dS at ht
 rcases List.mem_cons.1 ht with rfl | ht
 ·exact M8 hb hx
 ·split at ht
  ·rw [List.mem_singleton.1 ht];exact KO hb
  ·obtain⟨r,hr,rfl⟩:=List.mem_map.1 ht
   unfold fB at hr
   obtain⟨⟨c,k⟩,hc,rfl⟩:=List.mem_map.1 hr
   have hc' : c∈i.cs:=List.fst_mem_of_mem_zipIdx hc
   obtain⟨j,hj⟩:=List.mem_iff_getElem?.1 hc'
   obtain⟨_,s,_,_,hs2⟩:=hb.so.at_ x i hx
   obtain⟨fs,_,_,h12,_⟩:=hs2 j c hj
   exact M9 hb hx hc' h12
end
end Go.Ev
