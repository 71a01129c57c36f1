/- The evaluator, stepped through (own work). -/
import Derived.Test.YtmnofcchfbkbeaaGreatXa
namespace Go.Ev
structure ah (b:Bool) (K:V→Prop):Prop where
 t:b=true→K (.bool true)
 f:b=false→K (.bool false)
inductive ab (o:Option V) (K:V→Prop):Prop where
 | mk (v:V) (h:o=some v) (k:K v)
inductive ag (R:Run) (t:Tgt) (args:List V) (S:St) (K:V→St→Prop):Prop where
 | mk (v:V) (S' : St) (h:R t args S=some (v,S')) (k:K v S')
inductive cN (o:Option (V×St)) (K:V→St→Prop):Prop where
 | mk (v:V) (S' : St) (h:o=some (v,S')) (k:K v S')
inductive AR (o:Option (Env×St)) (K:Env→St→Prop):Prop where
 | mk (A:Env) (S:St) (h:o=some (A,S)) (k:K A S)
inductive WSt (o:Option St) (K:St→Prop):Prop where
 | mk (S:St) (h:o=some S) (k:K S)
inductive Uq (o:Out) (K:V→Env→St→Prop):Prop where
 | mk (v:V) (A:Env) (S:St) (h:o=some (v,A,S)) (k:K v A S)
inductive aB (o:Option (Ex×Env×St)) (K:Ex→Env→St→Prop):Prop where
 | mk (e:Ex) (A:Env) (S:St) (h:o=some (e,A,S)) (k:K e A S)
theorem ah.elim {b:Bool} {K:V→Prop} (h:ah b K):K (.bool b):=by
 cases b with
 | true=>exact h.t rfl
 | false=>exact h.f rfl
def Ep (v:V) (K:V→Prop):Prop:=
 match v with
 | .bool b=>K (.bool b)
 | .int k n=>K (.int k n)
 | .str l=>K (.str l)
 | .nilp=>K .nilp
 | .ptr (.loc d) o=>K (.ptr (.loc d) o)
 | .ptr (.box d) o=>K (.ptr (.box d) o)
 | .imm top cells=>K (.imm top cells)
 | .list sz tok top rows=>K (.list sz tok top rows)
 | .slc b o sz len cap=>K (.slc b o sz len cap)
 | .nilf=>K .nilf
 | .fn f top first cap=>K (.fn f top first cap)
 | .yield b=>K (.yield b)
 | .nilm=>K .nilm
 | .map b=>K (.map b)
 | .agg cells=>K (.agg cells)
 | .tuple vs=>K (.tuple vs)
theorem Er (v:V) (K:V→Prop):Ep v K↔K v:=by
 cases v with
 | ptr b o=>cases b<;>exact Iff.rfl
 | _=>exact Iff.rfl
def sB (l:List V):(List V→Prop)→Prop:=
 List.rec (motive:=fun _=>(List V→Prop)→Prop) (fun K=>K []) (fun a _ ih K=>Ep a fun a=>ih fun r=>K (a::r)) l
theorem mE:∀(l:List V) (K:List V→Prop),sB l K↔K l
 | [],_=>Iff.rfl
 | a::l,K=>(Er a (fun a=>sB l fun r=>K (a::r))).trans (mE l (fun r=>K (a::r)))
def Jh (v:V) (K:V→Prop):Prop:=
 match v with
 | .agg cells=>sB cells fun cs=>K (.agg cs)
 | .tuple vs=>sB vs fun cs=>K (.tuple cs)
 | v=>Ep v K
theorem Es (v:V) (K:V→Prop):Jh v K↔K v:=by
 cases v with
 | agg cs=>exact mE cs (fun cs=>K (.agg cs))
 | tuple cs=>exact mE cs (fun cs=>K (.tuple cs))
 | ptr b o=>cases b<;>exact Iff.rfl
 | _=>exact Iff.rfl
def Et (l:List (Nat×V)):(List (Nat×V)→Prop)→Prop:=
 List.rec (motive:=fun _=>(List (Nat×V)→Prop)→Prop) (fun K=>K []) (fun p _ ih K=>match p with | (d,v)=>Jh v fun v=>ih fun r=>K ((d,v)::r)) l
theorem wC:∀(l:List (Nat×V)) (K:List (Nat×V)→Prop),Et l K↔K l
 | [],_=>Iff.rfl
 | (d,v)::l,K=>(Es v (fun v=>Et l fun r=>K ((d,v)::r))).trans (wC l (fun r=>K ((d,v)::r)))
def Eu (l:List (Nat×List V)):(List (Nat×List V)→Prop)→Prop:=
 List.rec (motive:=fun _=>(List (Nat×List V)→Prop)→Prop) (fun K=>K []) (fun p _ ih K=>match p with | (d,cs)=>sB cs fun cs=>ih fun r=>K ((d,cs)::r)) l
theorem wE:∀(l:List (Nat×List V)) (K:List (Nat×List V)→Prop),Eu l K↔K l
 | [],_=>Iff.rfl
 | (d,cs)::l,K=>(mE cs (fun cs=>Eu l fun r=>K ((d,cs)::r))).trans (wE l (fun r=>K ((d,cs)::r)))
def AT:List Nat→List Nat→Bool
 | [],[]=>true
 | a::l,b::m=>match Nat.beq a b with | true=>AT l m | false=>false
 | _,_=>false
theorem za:∀{l m:List Nat},AT l m=true→l=m
 | [],[],_=>rfl
 | [],_::_,h=>by cases h
 | _::_,[],h=>by cases h
 | a::l,b::m,h=>by
  unfold AT at h
  split at h
  ·rename_i hq;rw [Nat.eq_of_beq_eq_true hq,za h]
  ·cases h
def rL (nt:Nat) (fx:List Nat) (A:Env) (K:Env→Prop):Prop:=
 match Nat.beq A.nt nt with
 | true=>match AT A.fix fx with
  | true=>Et A.tmps fun ts=>Eu A.locs fun ls=>K { nt:=nt,tmps:=ts,locs:=ls,fix:=fx }
  | false=>False
 | false=>False
theorem rM {nt:Nat} {fx:List Nat} {A:Env} {K:Env→Prop} (h:rL nt fx A K):K A:=by
 unfold rL at h
 split at h
 ·rename_i h1
  split at h
  ·rename_i h2
   have h4:=(wE _ _).1 ((wC _ _).1 h)
   cases A
   rw [← Nat.eq_of_beq_eq_true h1,← za h2] at h4
   exact h4
  ·exact h.elim
 ·exact h.elim
section
variable (C:Cfg) (R:Run) (F:FC)
def same (k k' : IntKind) (p:Prop):Prop:=match decide (k=k') with | true=>p | false=>False
theorem np {k k' : IntKind} {p:Prop} (h:same k k' p):k=k'∧p:=by
 unfold same at h
 split at h
 ·rename_i hq;exact⟨of_decide_eq_true hq,h⟩
 ·exact h.elim
def Ot (op:BinOp) (T:Nat) (X Y:V) (K:V→Prop):Prop:=
 match X,Y with
 | .int k a,.int k' b=>match op with
  | .lss=>same k k' (ah (iLt a b) K)
  | .leq=>same k k' (ah (!iLt b a) K)
  | .gtr=>same k k' (ah (iLt b a) K)
  | .geq=>same k k' (ah (!iLt a b) K)
  | .eql=>same k k' (ah (iEq a b) K)
  | .neq=>same k k' (ah (!iEq a b) K)
  | _=>ab (binOp C op T (.int k a) (.int k' b)) K
 | X,Y=>ab (binOp C op T X Y) K
theorem gZ (b:Bool):tell b=some (.bool b):=by cases b<;>rfl
theorem Ji {op:BinOp} {T:Nat} {X Y:V} {K:V→Prop} (h:Ot C op T X Y K):∃v,binOp C op T X Y=some v∧K v:=by
 unfold Ot at h
 split at h
 ·rename_i k a k' b
  split at h
  ·obtain⟨rfl,hh⟩:=np h;exact⟨_,by simp [binOp,lK,gZ],hh.elim⟩
  ·obtain⟨rfl,hh⟩:=np h;exact⟨_,by simp [binOp,lK,gZ],hh.elim⟩
  ·obtain⟨rfl,hh⟩:=np h;exact⟨_,by simp [binOp,lK,gZ],hh.elim⟩
  ·obtain⟨rfl,hh⟩:=np h;exact⟨_,by simp [binOp,lK,gZ],hh.elim⟩
  ·obtain⟨rfl,hh⟩:=np h;exact⟨_,by simp [binOp,lK,gZ],hh.elim⟩
  ·obtain⟨rfl,hh⟩:=np h;exact⟨_,by simp [binOp,lK,gZ],hh.elim⟩
  ·obtain⟨v,h1,h2⟩:=h;exact⟨v,h1,h2⟩
 ·obtain⟨v,h1,h2⟩:=h;exact⟨v,h1,h2⟩
def qs (A:Env) (S:St) (f:Nat) (args:List V) (K:V→Env→St→Prop):Prop:=
 match aJ args with
 | some _=>ag R (.f f) args S fun v S'=>K v A S'
 | none=>False
def Gf (A:Env) (S:St) (ac:Acc) (f:Nat) (args:List V) (K:V→Env→St→Prop):Prop:=
 match (C.fc f).pure && !allB V.pure args with
 | true=>match bP (jL A S ac) args with
  | some l=>match allB V.pure l with
   | true=>ag R (.f f) l S fun v _=>rl v=true∧K v A S
   | false=>qs R A S f args K
  | none=>False
 | false=>qs R A S f args K
def Jj (A:Env) (S:St) (ac:Acc) (c:Call) (K:V→Env→St→Prop):Prop:=
 match c.callee with
 | .value f=>match operands A c.args.toList,operand A f,ac.heap with
  | some args,some (.fn f _ first cap),true=>Gf C R A S ac f (cq first (cq args cap)) K
  | some args,some (.yield b),true=>match aJ args with
   | some _=>ag R (.y b) args S fun v S'=>K v A S'
   | none=>False
  | some args,some (.fn f _ first cap),false=>match (C.fc f).pure && allB V.pure (cq first (cq args cap)) with
   | true=>ag R (.f f) (cq first (cq args cap)) St.empty fun v _=>K v A S
   | false=>False
  | _,_,_=>False
 | .builtin .append=>match operands A c.args.toList,c.argTypes.toList with
  | some [s,x],[T,U]=>match FU C T U with
   | true=>cN (append C A S ac T s x) fun v S'=>K v A S'
   | false=>False
  | _,_=>False
 | _=>match ik C R A S ac c with
  | some (v,A,S)=>K v A S
  | none=>False
theorem uC {A:Env} {S:St} {f:Nat} {args:List V} {K:V→Env→St→Prop} (h:qs R A S f args K):∃v A' S',eF.iG R A S f args=some (v,A',S')∧K v A' S':=by
 unfold qs at h
 split at h
 ·rename_i n hn
  obtain⟨v,S',h1,h2⟩:=h
  exact⟨v,A,S',by simp [eF.iG,hn,h1],h2⟩
 ·exact h.elim
theorem HL {A:Env} {S:St} {ac:Acc} {c:Call} {K:V→Env→St→Prop} (h:Jj C R A S ac c K):∃v A' S',ik C R A S ac c=some (v,A',S')∧K v A' S':=by
 unfold Jj at h
 split at h
 ·rename_i f hf
  split at h
  ·rename_i args f' top first cap ha ho hh
   have key:∃v A' S',eF C R A S ac f' (cq first (cq args cap))=some (v,A',S')∧K v A' S':=by
    unfold Gf at h
    unfold eF
    split at h
    ·rename_i hq
     rw [hq]
     simp only [cond_true]
     split at h
     ·rename_i l hl
      split at h
      ·rename_i hp
       obtain⟨v,S',h1,h2,h3⟩:=h
       exact⟨v,A,S,by simp [hl,hp,h1,h2],h3⟩
      ·rename_i hp
       obtain⟨v,A',S',h1,h2⟩:=uC R h
       exact⟨v,A',S',by simp [hl,hp,h1],h2⟩
     ·exact h.elim
    ·rename_i hq
     rw [hq]
     exact uC R h
   obtain⟨v,A',S',h1,h2⟩:=key
   exact⟨v,A',S',by simp [ik,ha,hf,hh,ho,h1],h2⟩
  ·rename_i args b ha ho hh
   split at h
   ·rename_i n hn
    obtain⟨v,S',h1,h2⟩:=h
    exact⟨v,A,S',by simp [ik,ha,hf,hh,ho,hn,h1],h2⟩
   ·exact h.elim
  ·rename_i args f' top first cap ha ho hh
   split at h
   ·rename_i hn
    obtain⟨v,S',h1,h2⟩:=h
    exact⟨v,A,S,by simp [ik,tD,ha,hf,hh,ho,hn,h1],h2⟩
   ·exact h.elim
  ·exact h.elim
 ·rename_i hf
  split at h
  ·rename_i s x T U ha ht
   split at h
   ·rename_i hb
    obtain⟨v,S',h1,h2⟩:=h
    exact⟨v,A,S',by simp [ik,ha,hf,ht,hb,h1],h2⟩
   ·exact h.elim
  ·exact h.elim
 ·split at h
  ·rename_i v A' S' h1
   exact⟨v,A',S',h1,h⟩
  ·exact h.elim
def Gg (A:Env) (S:St) (ac:Acc) (o:Oper) (K:V→Env→St→Prop):Prop:=
 match o.op with
 | .binOp op T x y _=>match operand A x,operand A y with
  | some X,some Y=>match oS C op T X y with
   | some v=>K v A S
   | none=>Ot C op T X Y fun v=>K v A S
  | _,_=>False
 | .load T a=>match F.sym with
  | true=>match operand A a with
   | some p=>ab (load C A S ac T p) fun v=>K v A S
   | none=>False
  | false=>match exec C R F A S ac o with
   | some (v,A,S)=>K v A S
   | none=>False
 | .store T a x=>match F.sym with
  | true=>match operand A a,operand A x with
   | some p,some x=>AR (store C A S ac T p x) fun A S=>K (.tuple []) A S
   | _,_=>False
  | false=>match exec C R F A S ac o with
   | some (v,A,S)=>K v A S
   | none=>False
 | .index T x i=>match operand A x,operand A i with
  | some X,some I=>ab (index C T X I) fun v=>K v A S
  | _,_=>False
 | .indexAddr T x i=>match operand A x,operand A i with
  | some X,some I=>ab (indexAddr C T X I) fun v=>K v A S
  | _,_=>False
 | .call c=>Jj C R A S ac c K
 | .buildSlice T n parts=>match partsOf A parts.toList with
  | some ps=>ab (buildSlice C T n ps) fun v=>K v A S
  | none=>False
 | .slice T x lo hi mx=>match operand A x,opt A lo,opt A hi,opt A mx with
  | some X,some lo,some hi,some mx=>ab (slice C T X lo hi mx) fun v=>K v A S
  | _,_,_,_=>False
 | _=>match exec C R F A S ac o with
  | some (v,A,S)=>K v A S
  | none=>False
theorem HM {A:Env} {S:St} {ac:Acc} {o:Oper} {K:V→Env→St→Prop} (h:Gg C R F A S ac o K):∃v A' S',exec C R F A S ac o=some (v,A',S')∧K v A' S':=by
 unfold Gg at h
 split at h
 ·rename_i op T x y U ho
  split at h
  ·rename_i X Y hx hy
   split at h
   ·rename_i v hn
    exact⟨v,A,S,by simp [exec,ho,Hq,hx,hy,hn,eX],h⟩
   ·rename_i hn
    obtain⟨v,h1,h2⟩:=Ji C h
    exact⟨v,A,S,by simp [exec,ho,Hq,hx,hy,hn,h1,eX],h2⟩
  ·exact h.elim
 ·rename_i T a ho
  split at h
  ·split at h
   ·rename_i p hp
    obtain⟨v,h1,h2⟩:=h
    exact⟨v,A,S,by simp [exec,ho,BI,hp,h1,eX],h2⟩
   ·exact h.elim
  ·split at h
   ·rename_i v A' S' h1
    exact⟨v,A',S',h1,h⟩
   ·exact h.elim
 ·rename_i T a x ho
  split at h
  ·split at h
   ·rename_i p x hp hx
    obtain⟨A',S',h1,h2⟩:=h
    exact⟨.tuple [],A',S',by simp [exec,ho,rm,hp,hx,h1],h2⟩
   ·exact h.elim
  ·split at h
   ·rename_i v A' S' h1
    exact⟨v,A',S',h1,h⟩
   ·exact h.elim
 ·rename_i T x i ho
  split at h
  ·rename_i X Y hx hy
   obtain⟨v,h1,h2⟩:=h
   exact⟨v,A,S,by simp [exec,ho,vJ,hx,hy,h1,eX],h2⟩
  ·exact h.elim
 ·rename_i T x i ho
  split at h
  ·rename_i X Y hx hy
   obtain⟨v,h1,h2⟩:=h
   exact⟨v,A,S,by simp [exec,ho,lL,hx,hy,h1,eX],h2⟩
  ·exact h.elim
 ·rename_i c ho
  obtain⟨v,A',S',h1,h2⟩:=HL C R h
  exact⟨v,A',S',by simp [exec,ho,h1],h2⟩
 ·rename_i T n parts ho
  split at h
  ·rename_i ps hp
   obtain⟨v,h1,h2⟩:=h
   exact⟨v,A,S,by simp [exec,ho,kp,hp,h1,eX],h2⟩
  ·exact h.elim
 ·rename_i T x lo hi mx ho
  split at h
  ·rename_i X lo' hi' mx' hx hl hh hm
   obtain⟨v,h1,h2⟩:=h
   exact⟨v,A,S,by simp [exec,ho,vI,hx,hl,hh,hm,h1,eX],h2⟩
  ·exact h.elim
 ·split at h
  ·rename_i v A' S' h1
   exact⟨v,A',S',h1,h⟩
  ·exact h.elim
def vj (ac:Nat→Acc) (ops l:List Oper):Nat→Env→St→(Env→St→Prop)→Prop:=
 List.rec (motive:=fun _=>Nat→Env→St→(Env→St→Prop)→Prop) (fun _ A S K=>K A S) (fun o _ ih i A S K=>
  match kX ops A o with
  | some true=>Gg C R F A S (ac i) o fun v A S=>match put A o.dst v with
   | some A=>ih (i + 1) A S K
   | none=>False
  | some false=>match put A o.dst (.tuple []) with
   | some A=>ih (i + 1) A S K
   | none=>False
  | none=>False) l
theorem jm {ac:Nat→Acc} {ops:List Oper}:∀{l:List Oper} {i:Nat} {A:Env} {S:St} {K:Env→St→Prop},vj C R F ac ops l i A S K→∃A' S',bE C R F ac ops l i A S=some (A',S')∧K A' S'
 | [],i,A,S,K,h=>⟨A,S,rfl,h⟩
 | o::l,i,A,S,K,h=>by
  rw [gX]
  have h' : (match kX ops A o with
   | some true=>Gg C R F A S (ac i) o fun v A S=>match put A o.dst v with
    | some A=>vj C R F ac ops l (i + 1) A S K
    | none=>False
   | some false=>match put A o.dst (.tuple []) with
    | some A=>vj C R F ac ops l (i + 1) A S K
    | none=>False
   | none=>False):=h
  split at h'
  ·rename_i hw
   obtain⟨v,A1,S1,h1,h2⟩:=HM C R F h'
   split at h2
   ·rename_i A2 hp
    obtain⟨A',S',h3,h4⟩:=jm h2
    exact⟨A',S',by simp [bE.one,bE.back,hw,h1,hp,h3],h4⟩
   ·exact h2.elim
  ·rename_i hw
   split at h'
   ·rename_i A2 hp
    obtain⟨A',S',h3,h4⟩:=jm h'
    exact⟨A',S',by simp [bE.one,bE.back,hw,hp,h3],h4⟩
   ·exact h'.elim
  ·exact h'.elim
def dZ (k fid nt:Nat) (fx:List Nat) (c:Code):Env→St→(Ex→Env→St→Prop)→Prop:=
 Code.rec (motive:=fun _=>Env→St→(Ex→Env→St→Prop)→Prop)
  (fun A S K=>K .normal A S)
  (fun id ops draw A S K=>match draw with
   | true=>match gY ops.toList with
    | none=>vj C R F (F.acc id) ops.toList ops.toList 0 { A with tmps:=di F ops.toList A.tmps } S fun A S=>rL nt fx (A.keep (F.keep id)) fun A=>K .normal A S
    | some q=>vj C R F (F.acc id) ops.toList (cq q.pre [q.b]) 0 { A with tmps:=di F ops.toList A.tmps } S fun A S=>AR (rq C A S q.r) fun A S=>
     vj C R F (F.acc id) ops.toList [q.h] (aG q.pre + 4) A S fun A S=>rL nt fx (A.keep (F.keep id)) fun A=>K .normal A S
   | false=>vj C R F (fun _=>.any) ops.toList ops.toList 0 A S fun A S=>rL nt fx (A.keep (F.keep id)) fun A=>K .normal A S)
  (fun _ _ f g A S K=>f A S fun e A S=>match e with | .normal=>g A S K | e=>K e A S)
  (fun c _ _ f g A S K=>match operand A c with
   | some (.bool true)=>f A S K
   | some (.bool false)=>g A S K
   | _=>False)
  (fun id _ f A S K=>f A S fun e A S=>match e with | .exit i=>K (bif Nat.beq i id then .normal else .exit i) A S | e=>K e A S)
  (fun c _ A S K=>aB (iter (evalCode C R k fid F c) k A S) K)
  (fun g ps assign body _ _ A S K=>aB (mP R fid g ps assign body A S) K)
  (fun id A S K=>K (.exit id) A S)
  (fun _ _ _ _ _=>False)
  (fun _ _ _ _=>False)
  (fun _ _ _ _=>False)
  (fun A S K=>K .ret A S)
  (fun _ _ _ _=>False)
  c
theorem cJ {k fid nt:Nat} {fx:List Nat}:∀(c:Code) {A:Env} {S:St} {K:Ex→Env→St→Prop},dZ C R F k fid nt fx c A S K→∃e A' S',evalCode C R k fid F c A S=some (e,A',S')∧K e A' S'
 | .skip,A,S,K,h=>⟨_,_,_,rfl,h⟩
 | .region id ops draw,A,S,K,h=>by
  rw [ve]
  cases draw with
  | true=>
   have h' : (match gY ops.toList with
    | none=>vj C R F (F.acc id) ops.toList ops.toList 0 { A with tmps:=di F ops.toList A.tmps } S fun A S=>rL nt fx (A.keep (F.keep id)) fun A=>K .normal A S
    | some q=>vj C R F (F.acc id) ops.toList (cq q.pre [q.b]) 0 { A with tmps:=di F ops.toList A.tmps } S fun A S=>AR (rq C A S q.r) fun A S=>
     vj C R F (F.acc id) ops.toList [q.h] (aG q.pre + 4) A S fun A S=>rL nt fx (A.keep (F.keep id)) fun A=>K .normal A S):=h
   split at h'
   ·rename_i hq
    obtain⟨A',S',h1,h2⟩:=jm C R F h'
    exact⟨.normal,A'.keep (F.keep id),S',by simp [eU,yD,hq,h1,after],rM h2⟩
   ·rename_i q hq
    obtain⟨A1,S1,h1,A2,S2,h2,h3⟩:=jm C R F h'
    obtain⟨A3,S3,h4,h5⟩:=jm C R F h3
    exact⟨.normal,A3.keep (F.keep id),S3,by simp [eU,yD,hq,h1,h2,h4,after],rM h5⟩
  | false=>
   obtain⟨A',S',h1,h2⟩:=jm C R F (show vj C R F (fun _=>.any) ops.toList ops.toList 0 A S _ from h)
   exact⟨.normal,A'.keep (F.keep id),S',by simp [eU,h1,after],rM h2⟩
 | .seq a b,A,S,K,h=>by
  rw [Af]
  obtain⟨e,A',S',h1,h2⟩:=cJ a (show dZ C R F k fid nt fx a A S _ from h)
  rw [h1]
  cases e with
  | normal=>exact cJ b h2
  | ret=>exact⟨_,_,_,rfl,h2⟩
  | exit i=>exact⟨_,_,_,rfl,h2⟩
 | .cond c a b,A,S,K,h=>by
  rw [yo]
  have h' : (match operand A c with
   | some (.bool true)=>dZ C R F k fid nt fx a A S K
   | some (.bool false)=>dZ C R F k fid nt fx b A S K
   | _=>False):=h
  unfold yF
  split at h'
  ·rename_i hc;rw [hc];exact cJ a h'
  ·rename_i hc;rw [hc];exact cJ b h'
  ·exact h'.elim
 | .block id b,A,S,K,h=>by
  rw [vO]
  obtain⟨e,A',S',h1,h2⟩:=cJ b (show dZ C R F k fid nt fx b A S _ from h)
  rw [h1]
  cases e with
  | normal=>exact⟨_,_,_,rfl,h2⟩
  | ret=>exact⟨_,_,_,rfl,h2⟩
  | exit i=>exact⟨_,_,_,rfl,h2⟩
 | .loop b,A,S,K,h=>by
  rw [yp]
  obtain⟨e,A',S',h1,h2⟩:=(show aB (iter (evalCode C R k fid F b) k A S) K from h)
  exact⟨e,A',S',h1,h2⟩
 | .rangeFunc g ps a b,A,S,K,h=>by
  rw [rv]
  obtain⟨e,A',S',h1,h2⟩:=(show aB (mP R fid g ps a b A S) K from h)
  exact⟨e,A',S',h1,h2⟩
 | .exit id,A,S,K,h=>⟨_,_,_,rfl,h⟩
 | .ret,A,S,K,h=>⟨_,_,_,rfl,h⟩
 | .scope _,_,_,_,h=>h.elim
 | .label _,_,_,_,h=>h.elim
 | .goto _,_,_,_,h=>h.elim
 | .refuse _,_,_,_,h=>h.elim
noncomputable def finish (fn:Func) (A:Env) (S:St):Option (V×St):=
 match cR C A S fn.results.toList with
 | some vs=>match aJ vs with
  | some _=>some (one vs,S)
  | none=>none
 | none=>none
theorem aL {k id:Nat} {args:List V} {S:St} {fn:Func} {c:Code} {r:V×St} (hf:C.fn id=some fn) (hc:fn.body=some c)
 (h:dZ C R (C.fc id) k id fn.ntmps [] c { nt:=fn.ntmps,tmps:=number 0 args,locs:=[],fix:=[] } S fun e A S=>match e with | .exit _=>False | _=>finish C fn A S=some r) :
 frame C R k id args S=some r:=by
 obtain⟨e,A,S',h1,h3⟩:=cJ C R (C.fc id) c h
 unfold frame
 simp only [hf,hc,h1]
 unfold finish at h3
 cases e with
 | exit i=>exact h3.elim
 | normal=>exact h3
 | ret=>exact h3
theorem Jl {k id:Nat} {args:List V} {S:St} {fn:Func} {c:Code} {v:V} (hf:C.fn id=some fn) (hc:fn.body=some c)
 (h:dZ C R (C.fc id) k id fn.ntmps [] c { nt:=fn.ntmps,tmps:=number 0 args,locs:=[],fix:=[] } S fun e A S=>match e with | .exit _=>False | _=>∃S',finish C fn A S=some (v,S')) :
 ∃S',frame C R k id args S=some (v,S'):=by
 obtain⟨e,A,S',h1,h3⟩:=cJ C R (C.fc id) c h
 unfold frame
 simp only [hf,hc,h1]
 unfold finish at h3
 cases e with
 | exit i=>exact h3.elim
 | normal=>exact h3
 | ret=>exact h3
end
theorem ah.yes {b:Bool} {K:V→Prop} (h:b=true) (k:K (.bool true)):ah b K:=⟨(fun _=>k),(fun h'=>Bool.noConfusion (h.symm.trans h'))⟩
theorem ah.no {b:Bool} {K:V→Prop} (h:b=false) (k:K (.bool false)):ah b K:=⟨(fun h'=>Bool.noConfusion (h.symm.trans h')),(fun _=>k)⟩
section
variable {C:Cfg} {R:Run} {F:FC} {k fid nt:Nat} {fx:List Nat}
theorem aB.round {c:Code} {A:Env} {S:St} {K:Ex→Env→St→Prop} {j:Nat}
 (h:dZ C R F k fid nt fx c A S fun e A S=>match e with | .normal=>aB (iter (evalCode C R k fid F c) j A S) K | e=>K e A S) :
 aB (iter (evalCode C R k fid F c) (j + 1) A S) K:=by
 obtain⟨e,A',S',h1,h2⟩:=cJ C R F c h
 rw [lC,h1]
 cases e with
 | normal=>exact h2
 | ret=>exact⟨_,_,_,rfl,h2⟩
 | exit i=>exact⟨_,_,_,rfl,h2⟩
def Ou:Option Ex→Ex | none=>.normal | some e=>e
theorem dL {g:Operand} {ps:Array Tmp} {x y:Code} {A:Env} {S S' : St} {f top:Nat} {first cap:List V} {v:V} {r:dj} {l:dj} (hg:operand A g=some (.fn f top first cap))
 (hl:l={ fid,nt:=A.nt,tmps:=A.tmps,locs:=A.locs,params:=ps.toList,assign:=x,body:=y,st:=.ready,iX:=none })
 (hR:R (.f f) (cq first (.yield (aG S.heap)::cap)) { S with heap:=cq S.heap [.loop l] }=some (v,S')) (hr:nth S'.heap (aG S.heap)=some (.loop r)) (hst:r.st=.ready∨r.st=.done) :
 mP R fid g ps x y A S=some (Ou r.iX,{ A with locs:=r.locs },
  { S' with heap:=tC S'.heap (aG S.heap) (.loop { r with st:=.rj,locs:=[],tmps:=[],iX:=none }) }):=by
 subst hl
 unfold mP
 simp only [hg,hR,hr,hst,if_true]
 cases r.iX<;>rfl
theorem fj {b:Nat} {args:List V} {S:St} {r:dj} {ts:List (Nat×V)} {res:V×St} (hr:nth S.heap b=some (.loop r)) (hst:r.st=.ready) (hp:r.iX=none)
 (Em:allB (fun t=>Nat.blt t r.nt) r.params=true) (hnt:r.nt=nt) (hfx:jM r.locs=fx) (hts:ry r.tmps r.params args=some ts)
 (h:dZ C R (C.fc r.fid) k r.fid nt fx r.assign { nt:=nt,tmps:=ts,locs:=r.locs,fix:=fx } (er S b { r with st:=.ka,locs:=[] }) fun e A S=>match e with
  | .normal=>match oT S b .ka with
   | some r'=>dZ C R (C.fc r.fid) k r.fid nt fx r.body A (er S b { r' with st:=.busy }) fun e A S=>vP b fx (some (e,A,S))=some res
   | none=>False
  | _=>False):Go.Ev.round C R k b args S=some res:=by
 subst hnt;subst hfx
 obtain⟨e,A1,S1,h1,h2⟩:=cJ C R (C.fc r.fid) r.assign h
 unfold Go.Ev.round
 rw [hr]
 simp only
 rw [if_pos ⟨hst,by rw [hp];rfl,Em⟩,hts]
 simp only
 rw [h1]
 cases e with
 | normal=>
  unfold tH
  simp only at h2 ⊢
  split at h2
  ·rename_i r' hl
   rw [hl]
   obtain⟨e,A2,S2,h3,h4⟩:=cJ C R (C.fc r.fid) r.body h2
   simp only
   rw [h3]
   exact h4
  ·exact h2.elim
 | ret=>exact h2.elim
 | exit i=>exact h2.elim
theorem run_pure {id n:Nat} {args:List V} {S S' : St} {v v' : V} (hp:(C.fc id).pure=true) (ha:allB V.pure args=true) (h:frame C (run C n) n id (bg V.strip args) St.empty=some (v,S'))
 (hf:frz { nt:=0,tmps:=[],locs:=[],fix:=[] } S' .any v=some v') (hz:isZero v'.lvl=true):run C (n + 1) (.f id) args S=some (v'.b8,S):=by
 have e:run C (n + 1) (.f id) args S=step C (run C n) n (.f id) args S:=rfl
 rw [e]
 have e2:step C (run C n) n (.f id) args S=bif (C.fc id).pure && allB V.pure args then
  match frame C (run C n) n id (bg V.strip args) St.empty with
  | some (v,S')=>match frz { nt:=0,tmps:=[],locs:=[],fix:=[] } S' .any v with
   | some v=>if isZero v.lvl then some (v.b8,S) else none
   | none=>none
  | none=>none
  else frame C (run C n) n id args S:=rfl
 rw [e2,hp,ha,h]
 simp only [Bool.and_self,cond_true,hf,hz,if_true]
end
end Go.Ev
