/- From the evaluator to the rows (own work). -/
import Derived.Test.YtmnofcchfbkbeaaGreatXL
import Derived.ProofKit
import Derived.OpenShut
namespace Go.Ev
open Go.RowKit Go.ChangeShapes
section
variable {H:Type} {enc:TypeId×Value→H} {P:Program} {W W' : World} {sp:Nat→Bool}
theorem fp.below (h:fp W W'):Below W.heap.size W W':=⟨h.os,h.tape,h.output,h.size,h.keep⟩
theorem qX (hl:laidOutB P=true) (hb:Below W.heap.size W W'):∀{ts:List TypeId} {vs:List Value} {ds:List (DataW H)} {ps:List MemPlace},
 (∀t∈ts,P.readableRec t=true∧t < P.types.size)→DataW.TrodAll enc P W 0 (fun _=>true) true ts vs ds ps→(∀p∈ps,p.block < W.heap.size)→(∀p∈ps,sp p.block=true)→
 DataW.TrodAll enc P W' 0 sp true ts vs ds ps
 | [],[],[],_,_,h,_,_=>h
 | t::ts,v::vs,d::ds,ps,ht,⟨p,q,h1,h2,e⟩,hlt,hs=>by
  subst e
  exact⟨p,q,WideElems.Trod_stays hl (ht t aMs).1 (ht t aMs).2 h1 (fun x hx=>hb.same (hlt x (List.mem_append_left _ hx))) (fun x hx=>hs x (List.mem_append_left _ hx)),
   qX hl hb (fun u hu=>ht u (aMt _ hu)) h2 (fun x hx=>hlt x (List.mem_append_right _ hx)) (fun x hx=>hs x (List.mem_append_right _ hx)),rfl⟩
theorem HX {f:Func} {s:ChangeSpec} {apart fresh handsOn again:Bool} {args:Array Value} {ds gs:List (DataW H)} {before:List MemPlace} (hl:laidOutB P=true)
 (hW:DataW.Whole enc P f.params.toList s.vars apart W args.toList ds gs before) (hv:s.vars=[]) (ht:∀t∈f.params.toList,P.readableRec t=true∧t < P.types.size) {tb:Nat}
 (hr:f.resultTypes = #[tb]) (hb:P.underlying tb=some .bool) (zr:s.fn H (ds++gs)={ results:=[.lit (.bool true)],args:=ds }) (hg:fp W W') :
 s.post enc P f apart fresh handsOn again W args (.bool true) W':=by
 have hbl:=hg.below
 have hlt:∀p∈before,p.block < W.heap.size:=fun p hp=>hW.lt p hp
 have hW':=hW
 obtain⟨p,q,h1,h2,e,hz,hn⟩:=hW
 rw [hv] at h2
 obtain⟨rfl,rfl⟩:=trodVars_none h2
 have hbe:before=p:=by rw [e,List.append_nil]
 subst hbe
 have eL:∀sp:Nat→Bool,(∀p∈before,sp p.block=true)→DataW.TrodAll enc P W' 0 sp true f.params.toList args.toList ds before:=
  fun sp hs=>qX hl hbl ht h1 hlt hs
 have jl:∀(b:Nat) (sp:Nat→Bool) (hd:Bool),DataW.TrodAll enc P W' b sp hd f.resultTypes.toList ((Value.bool true).resultList f.resultTypes.size) [DataW.lit (.bool true)] []:=fun b sp hd=>by
  rw [hr]
  exact trodAll_cons_mk (shut_bool hb _) trodAll_mk0
 rw [List.append_nil] at zr
 refine⟨ds,[],before,[],before,[],hW',?_,?_,?_,World.keptBut_mono (fun p hp=>⟨hp,.inr (.inl hp)⟩) (hbl.frame _),fun _=>⟨?_,?_⟩⟩
 ·rw [List.append_nil,zr];exact jl _ _ _
 ·rw [List.append_nil,zr];exact eL _ (fun p hp=>by simpa using hlt p hp)
 ·rw [List.append_nil,zr,hv];rfl
 ·exact ok_one hr rfl (okWide_bool_mk hb _)
 ·refine⟨_,[],[]++before,⟨[]++before,[],trodAll_append (eL _ (fun _ _=>rfl)) (jl _ _ _),by rw [hv];rfl,by simp,?_,?_⟩,?_⟩
  ·intro b off hp
   have hp' : MemPlace.cell b off∈before:=by simpa using hp
   have:=hbl.frozen (p:=⟨b,off,none⟩) (hlt _ hp')
   rw [this]
   exact hz b off (by simpa using hp')
  ·intro ha
   have:=hn ha
   simpa using this
  ·intro p hp _
   simpa using hp
def L0 (p:List V→Prop):Nat→List V→Prop
 | 0,vs=>vs=[]
 | m + 1,vs=>∃a b,vs=a++b∧p a∧L0 p m b
def OO (p:Nat→List V→Prop):List Nat→List V→Prop
 | [],vs=>vs=[]
 | t::ts,vs=>∃a b,vs=a++b∧p t a∧OO p ts b
def Shp (P:Program):Nat→Nat→List V→Prop
 | 0,_,_=>False
 | n + 1,t,vs=>match P.underlying t with
  | some .bool=>∃b,vs=[.bool b]
  | some (.int k)=>∃z,vs=[.int k z]∧(Lit.int k z).wf=true
  | some .string=>∃s:List UInt8,vs=[.str s]∧s.length≤maxLen
  | some (.pointer e)=>vs=[.nilp]∨∃cs,vs=[.imm 0 cs]∧Shp P n e cs
  | some (.slice e)=>∃rows,vs=[.list (P.cellsOf e) .no 0 rows]∧rows.length≤maxLen∧∀r∈rows,∃cs,r=.agg cs∧Shp P n e cs
  | some (.array m e)=>L0 (Shp P n e) m vs
  | some (.struct fs)=>OO (Shp P n) (fs.toList.map (·.type)) vs
  | _=>False
noncomputable def plainT (P:Program) (L:List Nat) (t:Nat):Bool:=
 cu (Nat.blt t P.types.size) (match P.underlying t with
 | some (.int _)=>Nat.beq (P.cellsOf t) 1
 | some .string=>Nat.beq (P.cellsOf t) 1
 | some (.pointer e)=>cu (Nat.beq (P.cellsOf t) 1) (cu (memN e L) (Nat.blt 0 (P.cellsOf e)))
 | some (.slice e)=>cu (Nat.beq (P.cellsOf t) 1) (cu (memN e L) (Nat.blt 0 (P.cellsOf e)))
 | some (.array _ e)=>memN e L
 | some (.struct fs)=>allB (fun f=>memN f.type L) fs.toList
 | _=>false)
def C4 (v:V):Bool:=dN v && (match v with | .bool _=>false | _=>true)
theorem xb {vs:List V} (h:vs.all C4=true):vs.all dN=true:=by
 rw [List.all_eq_true] at h ⊢
 exact fun v hv=>(Bool.and_eq_true_iff.1 (show (dN v && _)=true from h v hv)).1
theorem zt {E:Rho} {l:bZ}:∀{vs:List V} {X:List Value},ao E l vs X→vs.all C4=true→∀x∈X,∀b,x≠.bool b
 | [],X,h,_,x,hx,_=>by cases h;cases hx
 | v::vs,X,h,hn,x,hx,b=>by
  obtain⟨y,Y,rfl,h1,h2⟩:=h
  rw [List.all_cons] at hn
  obtain⟨n1,n2⟩:=Bool.and_eq_true_iff.1 hn
  rcases List.mem_cons.1 hx with rfl | hx
  ·intro e
   subst e
   cases v with
   | bool c=>simp [C4] at n1
   | ptr q o=>cases q<;>simp [a7] at h1
   | slc q o s n c=>cases q<;>simp [a7] at h1
   | _=>simp [a7] at h1
  ·exact zt h2 n2 x hx b
def Got (P:Program) (W:World) (n t:Nat) (cs:List Value):Prop:=
 ∃vs,ao (only (World.all W)) bw vs cs∧within (aF vs) 0∧vs.all C4=true∧Shp P n t vs∧cs.length=P.cellsOf t
theorem xd {a b:Nat} (h:Nat.blt a b=true):a < b:=by rw [Nat.blt_eq] at h;exact h
theorem n9 {a b:Nat} (h:Nat.beq a b=true):a=b:=Nat.eq_of_beq_eq_true h
theorem C5 {n:Nat}:∀(ts:List Nat) {cs:List Value},(∀(i:Nat) t,ts[i]?=some t→Got P W n t ((cs.drop ((ts.take i).map P.cellsOf).sum).take (P.cellsOf t)))→cs.length=(ts.map P.cellsOf).sum→
 ∃vs,ao (only (World.all W)) bw vs cs∧within (aF vs) 0∧vs.all C4=true∧OO (Shp P n) ts vs
 | [],cs,_,hl=>by
  have:cs=[]:=List.eq_nil_of_length_eq_zero (by simpa using hl)
  subst this
  exact⟨[],rfl,⟨0,rfl,Nat.le_refl _⟩,rfl,rfl⟩
 | t::ts,cs,h,hl=>by
  simp only [List.map_cons,List.sum_cons] at hl
  obtain⟨a,a1,a2,a3,a4,a5⟩:=h 0 t rfl
  simp only [List.take_zero,List.map_nil,List.sum_nil,List.drop_zero] at a1 a5
  obtain⟨b,b1,b2,b3,b4⟩:=C5 ts (cs:=cs.drop (P.cellsOf t)) (fun i u hu=>by
   have:=h (i + 1) u (by simpa using hu)
   simp only [List.take_succ_cons,List.map_cons,List.sum_cons] at this
   rw [List.drop_drop]
   exact this) (by rw [List.length_drop];omega)
  refine⟨a++b,?_,ew.2 ⟨a2,b2⟩,by rw [List.all_append,a3,b3];rfl,a,b,rfl,a4,b4⟩
  have:=a1.append b1
  rwa [List.take_append_drop] at this
theorem C6 {n e:Nat}:∀(m:Nat) {cs:List Value},(∀i,i < m→Got P W n e ((cs.drop (i * P.cellsOf e)).take (P.cellsOf e)))→cs.length=m * P.cellsOf e→
 ∃vs,ao (only (World.all W)) bw vs cs∧within (aF vs) 0∧vs.all C4=true∧L0 (Shp P n e) m vs
 | 0,cs,_,hl=>by
  have:cs=[]:=List.eq_nil_of_length_eq_zero (by simpa using hl)
  subst this
  exact⟨[],rfl,⟨0,rfl,Nat.le_refl _⟩,rfl,rfl⟩
 | m + 1,cs,h,hl=>by
  rw [Nat.add_mul,Nat.one_mul] at hl
  obtain⟨a,a1,a2,a3,a4,a5⟩:=h 0 (by omega)
  simp only [Nat.zero_mul,List.drop_zero] at a1 a5
  obtain⟨b,b1,b2,b3,b4⟩:=C6 m (cs:=cs.drop (P.cellsOf e)) (fun i hi=>by
   have:=h (i + 1) (by omega)
   rw [List.drop_drop]
   rwa [show P.cellsOf e + i * P.cellsOf e=(i + 1) * P.cellsOf e by rw [Nat.add_mul];omega]) (by rw [List.length_drop];omega)
  refine⟨a++b,?_,ew.2 ⟨a2,b2⟩,by rw [List.all_append,a3,b3];rfl,a,b,rfl,a4,b4⟩
  have:=a1.append b1
  rwa [List.take_append_drop] at this
theorem HY {a:Addr} {x:Value} (h:W.cell? a=some x):a =⟨a.block,a.off,none⟩:=by
 unfold World.cell? at h
 split at h
 ·split at h
  ·cases h
  ·rename_i hs
   cases a with
   | mk b o s=>cases s with
    | none=>rfl
    | some s=>exact absurd rfl hs
 ·cases h
theorem C7 {a:Addr} {n:Nat} {cs:List Value} (h:W.cells? 0 a n=some cs) {vs:List V} (hv:ao (only (World.all W)) bw vs cs) (hl:within (aF vs) 0) (hn:vs.all C4=true)
 (ha:a.spot=none):bA (only (World.all W)) bw vs a.block a.off∧cs.length=n:=by
 unfold World.cells? at h
 rw [if_pos (Nat.zero_le _)] at h
 have hlen:=mapM_some_length h
 rw [List.length_range] at hlen
 refine⟨bA.lf hv (fun j x hj=>?_) (xb hn),hlen⟩
 have hjl:j < n:=by rw [← hlen];exact (aGs hj).1
 have:=mapM_some_get h j j (by simp [hjl])
 rw [hj] at this
 have hc:W.cell? ⟨a.block,a.off + j,none⟩=some x:=by
  rw [← this]
  unfold Addr.add
  split
  ·rename_i h0
   subst h0
   cases a
   simp only at ha
   subst ha
   rfl
  ·rfl
 exact jO hc ⟨eu hv hl x (aMg hj),fun b e=>absurd e (zt hv hn x (aMg hj) b)⟩
theorem C8 {B e n:Nat}:∀(len o:Nat),(∀i,i < len→∃vs,bA (only (World.all W)) bw vs B (o + i * P.cellsOf e)∧vs.length=P.cellsOf e∧within (aF vs) 0∧Shp P n e vs)→
 ∃rows,rows.length=len∧cS (only (World.all W)) bw (P.cellsOf e) rows B o∧within (aJ rows) 0∧∀r∈rows,∃cs,r=.agg cs∧Shp P n e cs
 | 0,_,_=>⟨[],rfl,trivial,⟨0,rfl,Nat.le_refl _⟩,fun _ hr=>by cases hr⟩
 | len + 1,o,h=>by
  obtain⟨vs,h1,h2,h3,h4⟩:=h 0 (by omega)
  rw [Nat.zero_mul,Nat.add_zero] at h1
  obtain⟨rows,r1,r2,r3,r4⟩:=C8 len (o + P.cellsOf e) (fun i hi=>by
   have:=h (i + 1) (by omega)
   rwa [show o + (i + 1) * P.cellsOf e=o + P.cellsOf e + i * P.cellsOf e by rw [Nat.add_mul];omega] at this)
  refine⟨.agg vs::rows,by simp [r1],⟨⟨h2,h1⟩,r2⟩,aX.2 ⟨h3,r3⟩,fun r hr=>?_⟩
  cases hr with
  | head=>exact⟨vs,rfl,h4⟩
  | tail _ hr=>exact r4 r hr
theorem kF {α:Type} {l:List α} {i:Nat} (h:i < l.length):∃x,l[i]?=some x:=⟨l[i],aGe h⟩
theorem pM {a:Addr} {n:Nat} {cs:List Value} (h:W.cells? 0 a n=some cs) (hn:0 < n):a =⟨a.block,a.off,none⟩:=by
 unfold World.cells? at h
 rw [if_pos (Nat.zero_le _)] at h
 have hlen:=mapM_some_length h
 rw [List.length_range] at hlen
 have:=mapM_some_get h 0 0 (by simp [hn])
 obtain⟨x,hx⟩:=kF (l:=cs) (i:=0) (by omega)
 rw [hx] at this
 exact HY (x:=x) this
theorem HZ (hl:laidOutB P=true) (hm:mapsRowed P=true) {L:List Nat} (hL:allB (plainT P L) L=true):∀(n t:Nat) (cs:List Value) (x:DataW H×List MemPlace),memN t L=true→
 DataW.trod enc P W 0 (fun _=>true) true n t cs=some x→Got P W n t cs:=by
 have K:=kids_rows hl hm
 intro n
 induction n with
 | zero=>intro t cs x _ h;simp [DataW.trod] at h
 | succ n ih=>
  intro t cs x ht h
  obtain⟨hsz,hp⟩:=bq.1 (allB_mem hL t (memN_iff.1 ht))
  have hsz:=xd hsz
  split at hp
  ·rename_i q hu
   obtain⟨z,rfl,_,hw⟩:=DataW.trod_int hu h
   exact⟨[.int q z],⟨_,_,rfl,rfl,rfl⟩,⟨0,rfl,Nat.le_refl _⟩,rfl,by rw [Shp,hu];exact⟨z,rfl,hw⟩,by rw [n9 hp];rfl⟩
  ·rename_i hu
   obtain⟨s,rfl,_,hw⟩:=DataW.trod_string hu h
   exact⟨[.str s.data.toList],⟨_,_,rfl,rfl,rfl⟩,⟨0,rfl,Nat.le_refl _⟩,rfl,by rw [Shp,hu];exact⟨_,rfl,by simpa using hw⟩,by rw [n9 hp];rfl⟩
  ·rename_i e hu
   obtain⟨hp1,hp2⟩:=bq.1 hp
   obtain⟨hp3,hp4⟩:=bq.1 hp2
   rcases DataW.trod_pointer hu h with⟨rfl,_⟩ | ⟨a,cs',y,m,e1,rfl,_,hc,hy⟩
   ·exact⟨[.nilp],⟨_,_,rfl,rfl,rfl⟩,⟨0,rfl,Nat.le_refl _⟩,rfl,by rw [Shp,hu];exact .inl rfl,by rw [n9 hp1];rfl⟩
   ·obtain rfl:n=m:=by omega
    obtain⟨vs,v1,v2,v3,v4,v5⟩:=ih e cs' y hp3 hy
    have hs:=pM hc (xd hp4)
    obtain⟨c1,_⟩:=C7 hc v1 v2 v3 (by rw [hs])
    exact⟨[.imm 0 vs],⟨_,_,rfl,⟨v2,a.block,a.off,by rw [← hs],c1⟩,rfl⟩,⟨0,rfl,Nat.le_refl _⟩,rfl,by rw [Shp,hu];exact .inr ⟨vs,rfl,v4⟩,by rw [n9 hp1];rfl⟩
  ·rename_i e hu
   obtain⟨hp1,hp2⟩:=bq.1 hp
   obtain⟨hp3,hp4⟩:=bq.1 hp2
   rcases DataW.trod_slice hu h with⟨rfl,_⟩ | ⟨a,len,cap,elems,rest,m,e1,rfl,_,_,hlc,lh,hel,iZ,jG,_⟩
   ·exact⟨[.list (P.cellsOf e) .no 0 []],⟨_,_,rfl,⟨⟨0,rfl,Nat.le_refl _⟩,trivial,.inl ⟨rfl,none,rfl⟩⟩,rfl⟩,⟨0,rfl,Nat.le_refl _⟩,rfl,
     by rw [Shp,hu];exact⟨[],rfl,Nat.zero_le _,fun r hr=>by cases hr⟩,by rw [n9 hp1];rfl⟩
   ·obtain rfl:n=m:=by omega
    obtain⟨hrl,hrg⟩:=jG rfl
    have NM:∀i,i < len→∃cs' vs,W.cells? 0 (a.add (i * P.cellsOf e)) (P.cellsOf e)=some cs'∧ao (only (World.all W)) bw vs cs'∧within (aF vs) 0∧vs.all C4=true∧Shp P n e vs∧cs'.length=P.cellsOf e:=fun i hi=>by
     obtain⟨y,hy⟩:=kF (l:=elems) (i:=i) (by omega)
     have:=iZ i hi
     rw [hy] at this
     obtain⟨cs',k1,k2⟩:=Option.bind_eq_some_iff.1 this
     obtain⟨vs,v1,v2,v3,v4,v5⟩:=ih e cs' y hp3 k2
     exact⟨cs',vs,k1,v1,v2,v3,v4,v5⟩
    by_cases hc0:cap=0
    ·subst hc0
     obtain rfl:len=0:=by omega
     exact⟨[.list (P.cellsOf e) .no 0 []],⟨_,_,rfl,⟨⟨0,rfl,Nat.le_refl _⟩,trivial,.inl ⟨rfl,some a,rfl⟩⟩,rfl⟩,⟨0,rfl,Nat.le_refl _⟩,rfl,
      by rw [Shp,hu];exact⟨[],rfl,Nat.zero_le _,fun r hr=>by cases hr⟩,by rw [n9 hp1];rfl⟩
    ·have hs:a =⟨a.block,a.off,none⟩:=by
      by_cases hl0:len=0
      ·obtain⟨y,hy⟩:=kF (l:=rest) (i:=0) (by omega)
       have:=hrg 0 (by omega)
       rw [hy,hl0] at this
       obtain⟨cs',k1,_⟩:=Option.bind_eq_some_iff.1 this
       simp only [Nat.add_zero,Nat.zero_mul,Addr.add,if_true] at k1
       exact pM k1 (xd hp4)
      ·obtain⟨cs',vs,k1,_⟩:=NM 0 (by omega)
       simp only [Nat.zero_mul,Addr.add,if_true] at k1
       exact pM k1 (xd hp4)
     obtain⟨rows,r1,r2,r3,r4⟩:=C8 (P:=P) (W:=W) (B:=a.block) (e:=e) (n:=n) len a.off (fun i hi=>by
      obtain⟨cs',vs,k1,v1,v2,v3,v4,v5⟩:=NM i hi
      rw [hs,Addr.add_lit] at k1
      obtain⟨c1,c2⟩:=C7 k1 v1 v2 v3 rfl
      exact⟨vs,c1,by rw [← v1.length,v5],v2,v4⟩)
     exact⟨[.list (P.cellsOf e) .no 0 rows],⟨_,_,rfl,⟨r3,trivial,.inr ⟨a.block,a.off,cap,by rw [← hs,r1],by omega,r2⟩⟩,rfl⟩,⟨0,rfl,Nat.le_refl _⟩,rfl,
      by rw [Shp,hu];exact⟨rows,rfl,by omega,r4⟩,by rw [n9 hp1];rfl⟩
  ·rename_i m e hu
   obtain⟨xs,m',e1,_,hcl,hxl,iZ⟩:=DataW.trod_array hu h
   obtain rfl:n=m':=by omega
   obtain⟨vs,v1,v2,v3,v4⟩:=C6 (P:=P) (W:=W) (n:=n) (e:=e) m (cs:=cs) (fun i hi=>by
    obtain⟨y,hy⟩:=kF (l:=xs) (i:=i) (by omega)
    have:=iZ i hi
    rw [hy] at this
    exact ih e _ y hp this) (by rw [hcl,(K.array hsz hu).2])
   exact⟨vs,v1,v2,v3,by rw [Shp,hu];exact v4,hcl⟩
  ·rename_i fs hu
   obtain⟨xs,m',e1,_,hcl,hxl,iZ⟩:=DataW.trod_struct hu h
   obtain rfl:n=m':=by omega
   obtain⟨_,k2,k3⟩:=K.struct hsz hu
   obtain⟨vs,v1,v2,v3,v4⟩:=C5 (P:=P) (W:=W) (n:=n) (fs.toList.map (·.type)) (cs:=cs) (fun i u hu'=>by
    rw [List.getElem?_map] at hu'
    obtain⟨f,hf,rfl⟩:=Option.map_eq_some_iff.1 hu'
    have hf' : fs[i]?=some f:=by simpa using hf
    have hil:i < fs.size:=(aGa hf').1
    obtain⟨y,hy⟩:=kF (l:=xs) (i:=i) (by omega)
    have:=iZ i f hf'
    rw [hy] at this
    have ho:=k3 i f hf
    rw [← List.map_take,List.map_map]
    rw [ho] at this
    exact ih f.type _ y (allB_mem hp f (aMg hf)) this) (by rw [hcl,k2,List.map_map];rfl)
   exact⟨vs,v1,v2,v3,by rw [Shp,hu];exact v4,hcl⟩
  ·cases hp
end
noncomputable def mV (P:Program) (t:Nat):Bool:=match P.underlying t with | some (.struct _)=>true | some (.array _ _)=>true | _=>false
def Args (P:Program):List Nat→List V→Prop
 | [],us=>us=[]
 | t::ts,us=>∃v rest n c,us=v::rest∧Shp P n t c∧((mV P t=true∧v=.agg c)∨(mV P t=false∧c=[v]))∧Args P ts rest
section
variable {H:Type} {enc:TypeId×Value→H} {P:Program} {W:World} {r:Reach} {b0:Nat}
theorem L3 (hl:laidOutB P=true) (hm:mapsRowed P=true) {L:List Nat} (hL:allB (plainT P L) L=true) {t:Nat} {v:Value} {d:DataW H} {p:List MemPlace} (ht:memN t L=true)
 (hv:Value.okWide P W r b0 t v) (h:DataW.Trod enc P W 0 (fun _=>true) true t v d p) :
 ∃u n c,a7 (only (World.all W)) bw u v∧within (fW u) 0∧gA u=true∧Shp P n t c∧((mV P t=true∧u=.agg c)∨(mV P t=false∧c=[u])):=by
 obtain⟨n,hn⟩:=h
 obtain⟨c,c1,c2,c3,c4,c5⟩:=HZ hl hm hL n t _ _ ht hn
 cases ha:mV P t with
 | true=>
  have SC:∃cs,v=.agg cs:=by
   unfold mV at ha
   unfold Value.okWide at hv
   split at ha
   ·rename_i hu;rw [hu] at hv;exact⟨hv.choose,hv.choose_spec.1⟩
   ·rename_i hu;rw [hu] at hv;exact⟨hv.choose,hv.choose_spec.1⟩
   ·cases ha
  obtain⟨cs,rfl⟩:=SC
  exact⟨.agg c,n,c,⟨a6 c2,cs.toList,rfl,c1⟩,c2,xb c3,c4,.inl ⟨rfl,rfl⟩⟩
 | false=>
  have qT:v.cells.toList=[v]:=by
   cases v with
   | agg cs=>
    exfalso
    unfold mV at ha
    unfold Value.okWide at hv
    split at ha
    ·cases ha
    ·cases ha
    ·rename_i h1 h2
     have hv' : Cell.okWide P W r b0 t (.agg cs):=by
      split at hv
      ·rename_i hu;exact absurd hu (h1 _)
      ·rename_i hu;exact absurd hu (h2 _ _)
      ·exact hv
     unfold Cell.okWide at hv'
     split at hv'<;>first | (rename_i hq;cases hq) | skip
     unfold Cell.ok at hv'
     split at hv'<;>first | (rename_i hq;cases hq) | exact hv'
   | _=>rfl
  rw [qT] at c1
  match c,c1,c2,c3,c4 with
  | [u],c1,c2,c3,c4=>
   obtain⟨x,Y,e,h1,h2⟩:=c1
   cases e
   have hb:=(cB.1 c2).1
   refine⟨u,n,[u],h1,(iP hb).2,?_,c4,.inr ⟨rfl,rfl⟩⟩
   have h3:dN u=true:=by simpa using xb c3
   cases u<;>first | exact h3 | exact absurd hb bU
  | [],c1,_,_,_=>cases c1
  | _::_::_,c1,_,_,_=>
   obtain⟨x,Y,e,_,h2⟩:=c1
   cases e
   obtain⟨y,Z,e,_⟩:=h2
   cases e
theorem C9 (hl:laidOutB P=true) (hm:mapsRowed P=true) {L:List Nat} (hL:allB (plainT P L) L=true):∀{ts:List Nat} {vs:List Value} {ds:List (DataW H)} {ps:List MemPlace},
 (∀t∈ts,memN t L=true)→(∀(j:Nat) t v,ts[j]?=some t→vs[j]?=some v→Value.okWide P W r b0 t v)→DataW.TrodAll enc P W 0 (fun _=>true) true ts vs ds ps→
 ds.length=ts.length∧∃us,ao (only (World.all W)) bw us vs∧within (aJ us) 0∧us.all gA=true∧Args P ts us
 | [],[],[],_,_,_,_=>⟨rfl,[],rfl,⟨0,rfl,Nat.le_refl _⟩,rfl,rfl⟩
 | t::ts,v::vs,d::ds,ps,ht,hv,⟨p,q,h1,h2,e⟩=>by
  obtain⟨u,n,c,u1,u2,u3,u4,u5⟩:=L3 hl hm hL (ht t aMs) (hv 0 t v rfl rfl) h1
  obtain⟨hlen,us,r1,r2,r3,r4⟩:=C9 hl hm hL (fun s hs=>ht s (aMt _ hs)) (fun j s x hs hx=>hv (j + 1) s x (by simpa using hs) (by simpa using hx)) h2
  exact⟨by simp [hlen],u::us,⟨v,vs,rfl,u1,r1⟩,aX.2 ⟨u2,r2⟩,by simp [u3];simpa using r3,u,us,n,c,rfl,u4,u5,r4⟩
theorem law_contract {C:Cfg} {Rn:Nat→Run} (hR:∀n,cK C P (Rn n)) (hl:laidOutB P=true) (hm:mapsRowed P=true) {L:List Nat} (hL:allB (plainT P L) L=true) {f:Nat} {fn:Func} {s:ChangeSpec}
 (Em:∀t∈fn.params.toList,memN t L=true∧P.readableRec t=true) (Qp:(C.fc f).pure=true) (Gu:s.vars=[]) {tb:Nat} (jl:fn.resultTypes = #[tb]) (hb:P.underlying tb=some .bool)
 (zr:∀(H:Type) (ds:List (DataW H)),ds.length=fn.params.toList.length→s.fn H ds={ results:=[.lit (.bool true)],args:=ds }) {apart fresh handsOn again:Bool}
 {args:Array Value} {ds gs:List (DataW H)} {before:List MemPlace} (hval:∀(j:Nat) t v,fn.params[j]?=some t→args[j]?=some v→Value.okWide P W r b0 t v)
 (hW:DataW.Whole enc P fn.params.toList s.vars apart W args.toList ds gs before)
 (hlaw:∀us,Args P fn.params.toList us→∃n S',Rn n (.f f) us St.empty=some (.bool true,S')) :
 Calls P f args W fun e W'=>∃v,e=.returned v∧s.post enc P fn apart fresh handsOn again W args v W':=by
 have hW':=hW
 obtain⟨p,q,h1,h2,_⟩:=hW
 have hgs:gs=[]:=by
  rw [Gu] at h2
  exact (trodVars_none h2).1
 subst hgs
 obtain⟨hlen,us,r1,r2,r3,r4⟩:=C9 (r:=r) (b0:=b0) hl hm hL (fun t ht=>(Em t ht).1) (fun j t v ht hv=>hval j t v (by simpa using ht) (by simpa using hv)) h1
 obtain⟨n,S',ej⟩:=hlaw us r4
 obtain⟨_,_,_,Ej⟩:=(hR n).pure f us St.empty _ S' Qp (CB r2) ej
 have hc:=Ej (World.all W) W args.toList (all_true W) r1.qm
 refine hc.mono ?_
 rintro e W' ⟨cv,M',rfl,hg,_,_,_,hv⟩
 have hcv:cv=.bool true:=hv
 subst hcv
 refine⟨_,rfl,HX hl hW' Gu (fun t ht=>⟨(Em t ht).2,?_⟩) jl hb ?_ hg⟩
 ·have:=allB_mem hL t (memN_iff.1 (Em t ht).1)
  exact xd (bq.1 this).1
 ·rw [List.append_nil];exact zr H ds hlen
end
end Go.Ev
