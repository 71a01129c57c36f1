/- The evaluator, stepped through (own work). -/
import Derived.Test.YtfcngcogphoikaaGreatXa
/- The evaluator, stepped through where values are not known whole: what is asked for it to give what it gives (own work). -/
namespace Go.Ev

/-- A comparison: both ways. -/
structure WCmp (b : Bool) (K : V → Prop) : Prop where
  t : b = true → K (.bool true)
  f : b = false → K (.bool false)

/-- A value that an operation gives. -/
inductive WOut (o : Option V) (K : V → Prop) : Prop where
  | mk (v : V) (h : o = some v) (k : K v)

/-- A call. -/
inductive WCall (R : Run) (t : Tgt) (args : List V) (S : St) (K : V → St → Prop) : Prop where
  | mk (v : V) (S' : St) (h : R t args S = some (v, S')) (k : K v S')

/-- What an append gives. -/
inductive WApp (o : Option (V × St)) (K : V → St → Prop) : Prop where
  | mk (v : V) (S' : St) (h : o = some (v, S')) (k : K v S')

/-- What an operation gives. -/
inductive WSto (o : Option (Env × St)) (K : Env → St → Prop) : Prop where
  | mk (A : Env) (S : St) (h : o = some (A, S)) (k : K A S)
inductive WSt (o : Option St) (K : St → Prop) : Prop where
  | mk (S : St) (h : o = some S) (k : K S)
inductive WMake (o : Out) (K : V → Env → St → Prop) : Prop where
  | mk (v : V) (A : Env) (S : St) (h : o = some (v, A, S)) (k : K v A S)

/-- A piece of code whose meaning is known. -/
inductive WCode (o : Option (Ex × Env × St)) (K : Ex → Env → St → Prop) : Prop where
  | mk (e : Ex) (A : Env) (S : St) (h : o = some (e, A, S)) (k : K e A S)

theorem WCmp.elim {b : Bool} {K : V → Prop} (h : WCmp b K) : K (.bool b) := by
  cases b with
  | true => exact h.t rfl
  | false => exact h.f rfl

/-- A cell, told anew. -/
def forceC (v : V) (K : V → Prop) : Prop :=
  match v with
  | .bool b => K (.bool b)
  | .int k n => K (.int k n)
  | .str l => K (.str l)
  | .nilp => K .nilp
  | .ptr (.loc d) o => K (.ptr (.loc d) o)
  | .ptr (.box d) o => K (.ptr (.box d) o)
  | .imm top cells => K (.imm top cells)
  | .list sz tok top rows => K (.list sz tok top rows)
  | .slc b o sz len cap => K (.slc b o sz len cap)
  | .nilf => K .nilf
  | .fn f top first cap => K (.fn f top first cap)
  | .yield b => K (.yield b)
  | .nilm => K .nilm
  | .map b => K (.map b)
  | .agg cells => K (.agg cells)
  | .tuple vs => K (.tuple vs)

theorem forceC_iff (v : V) (K : V → Prop) : forceC v K ↔ K v := by
  cases v with
  | ptr b o => cases b <;> exact Iff.rfl
  | _ => exact Iff.rfl

def forceCs (l : List V) : (List V → Prop) → Prop :=
  List.rec (motive := fun _ => (List V → Prop) → Prop) (fun K => K []) (fun a _ ih K => forceC a fun a => ih fun r => K (a :: r)) l

theorem forceCs_iff : ∀ (l : List V) (K : List V → Prop), forceCs l K ↔ K l
  | [], _ => Iff.rfl
  | a :: l, K => (forceC_iff a (fun a => forceCs l fun r => K (a :: r))).trans (forceCs_iff l (fun r => K (a :: r)))

/-- A value, told anew. -/
def forceV (v : V) (K : V → Prop) : Prop :=
  match v with
  | .agg cells => forceCs cells fun cs => K (.agg cs)
  | .tuple vs => forceCs vs fun cs => K (.tuple cs)
  | v => forceC v K

theorem forceV_iff (v : V) (K : V → Prop) : forceV v K ↔ K v := by
  cases v with
  | agg cs => exact forceCs_iff cs (fun cs => K (.agg cs))
  | tuple cs => exact forceCs_iff cs (fun cs => K (.tuple cs))
  | ptr b o => cases b <;> exact Iff.rfl
  | _ => exact Iff.rfl

def forceT (l : List (Nat × V)) : (List (Nat × V) → Prop) → Prop :=
  List.rec (motive := fun _ => (List (Nat × V) → Prop) → Prop) (fun K => K []) (fun p _ ih K => match p with | (d, v) => forceV v fun v => ih fun r => K ((d, v) :: r)) l

theorem forceT_iff : ∀ (l : List (Nat × V)) (K : List (Nat × V) → Prop), forceT l K ↔ K l
  | [], _ => Iff.rfl
  | (d, v) :: l, K => (forceV_iff v (fun v => forceT l fun r => K ((d, v) :: r))).trans (forceT_iff l (fun r => K ((d, v) :: r)))

def forceM (l : List (Nat × List V)) : (List (Nat × List V) → Prop) → Prop :=
  List.rec (motive := fun _ => (List (Nat × List V) → Prop) → Prop) (fun K => K []) (fun p _ ih K => match p with | (d, cs) => forceCs cs fun cs => ih fun r => K ((d, cs) :: r)) l

theorem forceM_iff : ∀ (l : List (Nat × List V)) (K : List (Nat × List V) → Prop), forceM l K ↔ K l
  | [], _ => Iff.rfl
  | (d, cs) :: l, K => (forceCs_iff cs (fun cs => forceM l fun r => K ((d, cs) :: r))).trans (forceM_iff l (fun r => K ((d, cs) :: r)))

def eqNats : List Nat → List Nat → Bool
  | [], [] => true
  | a :: l, b :: m => match Nat.beq a b with | true => eqNats l m | false => false
  | _, _ => false

theorem eqNats_eq : ∀ {l m : List Nat}, eqNats l m = true → l = m
  | [], [], _ => rfl
  | [], _ :: _, h => by cases h
  | _ :: _, [], h => by cases h
  | a :: l, b :: m, h => by
    unfold eqNats at h
    split at h
    · rename_i hq; rw [Nat.eq_of_beq_eq_true hq, eqNats_eq h]
    · cases h

/-- An environment, told anew. -/
def forceE (nt : Nat) (fx : List Nat) (A : Env) (K : Env → Prop) : Prop :=
  match Nat.beq A.nt nt with
  | true => match eqNats A.fix fx with
    | true => forceT A.tmps fun ts => forceM A.locs fun ls => K { nt := nt, tmps := ts, locs := ls, fix := fx }
    | false => False
  | false => False

theorem forceE_imp {nt : Nat} {fx : List Nat} {A : Env} {K : Env → Prop} (h : forceE nt fx A K) : K A := by
  unfold forceE at h
  split at h
  · rename_i h1
    split at h
    · rename_i h2
      have h4 := (forceM_iff _ _).1 ((forceT_iff _ _).1 h)
      cases A
      rw [← Nat.eq_of_beq_eq_true h1, ← eqNats_eq h2] at h4
      exact h4
    · exact h.elim
  · exact h.elim

section
variable (C : Cfg) (R : Run) (F : FC)

def same (k k' : IntKind) (p : Prop) : Prop := match decide (k = k') with | true => p | false => False

theorem same_imp {k k' : IntKind} {p : Prop} (h : same k k' p) : k = k' ∧ p := by
  unfold same at h
  split at h
  · rename_i hq; exact ⟨of_decide_eq_true hq, h⟩
  · exact h.elim

/-- A binary operation. -/
def wBin (op : BinOp) (T : Nat) (X Y : V) (K : V → Prop) : Prop :=
  match X, Y with
  | .int k a, .int k' b => match op with
    | .lss => same k k' (WCmp (iLt a b) K)
    | .leq => same k k' (WCmp (!iLt b a) K)
    | .gtr => same k k' (WCmp (iLt b a) K)
    | .geq => same k k' (WCmp (!iLt a b) K)
    | .eql => same k k' (WCmp (iEq a b) K)
    | .neq => same k k' (WCmp (!iEq a b) K)
    | _ => WOut (binOp C op T (.int k a) (.int k' b)) K
  | X, Y => WOut (binOp C op T X Y) K

theorem tell_eq (b : Bool) : tell b = some (.bool b) := by cases b <;> rfl

theorem wBin_imp {op : BinOp} {T : Nat} {X Y : V} {K : V → Prop} (h : wBin C op T X Y K) : ∃ v, binOp C op T X Y = some v ∧ K v := by
  unfold wBin at h
  split at h
  · rename_i k a k' b
    split at h
    · obtain ⟨rfl, hh⟩ := same_imp h; exact ⟨_, by simp [binOp, intBin, tell_eq], hh.elim⟩
    · obtain ⟨rfl, hh⟩ := same_imp h; exact ⟨_, by simp [binOp, intBin, tell_eq], hh.elim⟩
    · obtain ⟨rfl, hh⟩ := same_imp h; exact ⟨_, by simp [binOp, intBin, tell_eq], hh.elim⟩
    · obtain ⟨rfl, hh⟩ := same_imp h; exact ⟨_, by simp [binOp, intBin, tell_eq], hh.elim⟩
    · obtain ⟨rfl, hh⟩ := same_imp h; exact ⟨_, by simp [binOp, intBin, tell_eq], hh.elim⟩
    · obtain ⟨rfl, hh⟩ := same_imp h; exact ⟨_, by simp [binOp, intBin, tell_eq], hh.elim⟩
    · obtain ⟨v, h1, h2⟩ := h; exact ⟨v, h1, h2⟩
  · obtain ⟨v, h1, h2⟩ := h; exact ⟨v, h1, h2⟩

/-- A call of a function. -/
def wCallAt (A : Env) (S : St) (f : Nat) (args : List V) (K : V → Env → St → Prop) : Prop :=
  match valsLvl args with
  | some _ => WCall R (.f f) args S fun v S' => K v A S'
  | none => False

def wCallFn (A : Env) (S : St) (ac : Acc) (f : Nat) (args : List V) (K : V → Env → St → Prop) : Prop :=
  match (C.fc f).pure && !allB V.pure args with
  | true => match allOf (aggFrz A S ac) args with
    | some l => match allB V.pure l with
      | true => WCall R (.f f) l S fun v _ => isFlat v = true ∧ K v A S
      | false => wCallAt R A S f args K
    | none => False
  | false => wCallAt R A S f args K

def wCall (A : Env) (S : St) (ac : Acc) (c : Call) (K : V → Env → St → Prop) : Prop :=
  match c.callee with
  | .value f => match operands A c.args.toList, operand A f, ac.heap with
    | some args, some (.fn f _ first cap), true => wCallFn C R A S ac f (appN first (appN args cap)) K
    | some args, some (.yield b), true => match valsLvl args with
      | some _ => WCall R (.y b) args S fun v S' => K v A S'
      | none => False
    | some args, some (.fn f _ first cap), false => match (C.fc f).pure && allB V.pure (appN first (appN args cap)) with
      | true => WCall R (.f f) (appN first (appN args cap)) St.empty fun v _ => K v A S
      | false => False
    | _, _, _ => False
  | .builtin .append => match operands A c.args.toList, c.argTypes.toList with
    | some [s, x], [T, U] => match Nat.beq T U with
      | true => WApp (append C A S ac T s x) fun v S' => K v A S'
      | false => False
    | _, _ => False
  | _ => match callOp C R A S ac c with
    | some (v, A, S) => K v A S
    | none => False

theorem wCallAt_imp {A : Env} {S : St} {f : Nat} {args : List V} {K : V → Env → St → Prop} (h : wCallAt R A S f args K) : ∃ v A' S', callFn.callAt R A S f args = some (v, A', S') ∧ K v A' S' := by
  unfold wCallAt at h
  split at h
  · rename_i n hn
    obtain ⟨v, S', h1, h2⟩ := h
    exact ⟨v, A, S', by simp [callFn.callAt, hn, h1], h2⟩
  · exact h.elim

theorem wCall_imp {A : Env} {S : St} {ac : Acc} {c : Call} {K : V → Env → St → Prop} (h : wCall C R A S ac c K) : ∃ v A' S', callOp C R A S ac c = some (v, A', S') ∧ K v A' S' := by
  unfold wCall at h
  split at h
  · rename_i f hf
    split at h
    · rename_i args f' top first cap ha ho hh
      have key : ∃ v A' S', callFn C R A S ac f' (appN first (appN args cap)) = some (v, A', S') ∧ K v A' S' := by
        unfold wCallFn at h
        unfold callFn
        split at h
        · rename_i hq
          rw [hq]
          simp only [cond_true]
          split at h
          · rename_i l hl
            split at h
            · rename_i hp
              obtain ⟨v, S', h1, h2, h3⟩ := h
              exact ⟨v, A, S, by simp [hl, hp, h1, h2], h3⟩
            · rename_i hp
              obtain ⟨v, A', S', h1, h2⟩ := wCallAt_imp R h
              exact ⟨v, A', S', by simp [hl, hp, h1], h2⟩
          · exact h.elim
        · rename_i hq
          rw [hq]
          exact wCallAt_imp R h
      obtain ⟨v, A', S', h1, h2⟩ := key
      exact ⟨v, A', S', by simp [callOp, ha, hf, hh, ho, h1], h2⟩
    · rename_i args b ha ho hh
      split at h
      · rename_i n hn
        obtain ⟨v, S', h1, h2⟩ := h
        exact ⟨v, A, S', by simp [callOp, ha, hf, hh, ho, hn, h1], h2⟩
      · exact h.elim
    · rename_i args f' top first cap ha ho hh
      split at h
      · rename_i hn
        obtain ⟨v, S', h1, h2⟩ := h
        exact ⟨v, A, S, by simp [callOp, calmFn, ha, hf, hh, ho, hn, h1], h2⟩
      · exact h.elim
    · exact h.elim
  · rename_i hf
    split at h
    · rename_i s x T U ha ht
      split at h
      · rename_i hb
        obtain ⟨v, S', h1, h2⟩ := h
        exact ⟨v, A, S', by simp [callOp, ha, hf, ht, hb, h1], h2⟩
      · exact h.elim
    · exact h.elim
  · split at h
    · rename_i v A' S' h1
      exact ⟨v, A', S', h1, h⟩
    · exact h.elim

/-- One operation. -/
def wExec (A : Env) (S : St) (ac : Acc) (o : Oper) (K : V → Env → St → Prop) : Prop :=
  match o.op with
  | .binOp op T x y _ => match operand A x, operand A y with
    | some X, some Y => match nilBin C op T X y with
      | some v => K v A S
      | none => wBin C op T X Y fun v => K v A S
    | _, _ => False
  | .lookup T x i ok => match operand A x, operand A i with
    | some X, some I => WOut (lookup C S ac T X I ok) fun v => K v A S
    | _, _ => False
  | .load T a => match F.sym with
    | true => match operand A a with
      | some p => WOut (load C A S ac T p) fun v => K v A S
      | none => False
    | false => match exec C R F A S ac o with
      | some (v, A, S) => K v A S
      | none => False
  | .store T a x => match F.sym with
    | true => match operand A a, operand A x with
      | some p, some x => WSto (store C A S ac T p x) fun A S => K (.tuple []) A S
      | _, _ => False
    | false => match exec C R F A S ac o with
      | some (v, A, S) => K v A S
      | none => False
  | .mapUpdate T m k x => match operand A m, operand A k, operand A x with
    | some m, some k, some x => WSt (mapUp C S ac T m k x) fun S => K (.tuple []) A S
    | _, _, _ => False
  | .index T x i => match operand A x, operand A i with
    | some X, some I => WOut (index C T X I) fun v => K v A S
    | _, _ => False
  | .indexAddr T x i => match operand A x, operand A i with
    | some X, some I => WOut (indexAddr C T X I) fun v => K v A S
    | _, _ => False
  | .call c => wCall C R A S ac c K
  | .makeSlice T l c => WMake (xMake C A S ac T l c) K
  | _ => match exec C R F A S ac o with
    | some (v, A, S) => K v A S
    | none => False

theorem wExec_imp {A : Env} {S : St} {ac : Acc} {o : Oper} {K : V → Env → St → Prop} (h : wExec C R F A S ac o K) : ∃ v A' S', exec C R F A S ac o = some (v, A', S') ∧ K v A' S' := by
  unfold wExec at h
  split at h
  · rename_i op T x y U ho
    split at h
    · rename_i X Y hx hy
      split at h
      · rename_i v hn
        exact ⟨v, A, S, by simp [exec, ho, xBin, hx, hy, hn, giveV], h⟩
      · rename_i hn
        obtain ⟨v, h1, h2⟩ := wBin_imp C h
        exact ⟨v, A, S, by simp [exec, ho, xBin, hx, hy, hn, h1, giveV], h2⟩
    · exact h.elim
  · rename_i T x i ok ho
    split at h
    · rename_i X Y hx hy
      obtain ⟨v, h1, h2⟩ := h
      exact ⟨v, A, S, by simp [exec, ho, xLookup, hx, hy, h1, giveV], h2⟩
    · exact h.elim
  · rename_i T a ho
    split at h
    · split at h
      · rename_i p hp
        obtain ⟨v, h1, h2⟩ := h
        exact ⟨v, A, S, by simp [exec, ho, xLoad, hp, h1, giveV], h2⟩
      · exact h.elim
    · split at h
      · rename_i v A' S' h1
        exact ⟨v, A', S', h1, h⟩
      · exact h.elim
  · rename_i T a x ho
    split at h
    · split at h
      · rename_i p x hp hx
        obtain ⟨A', S', h1, h2⟩ := h
        exact ⟨.tuple [], A', S', by simp [exec, ho, xStore, hp, hx, h1], h2⟩
      · exact h.elim
    · split at h
      · rename_i v A' S' h1
        exact ⟨v, A', S', h1, h⟩
      · exact h.elim
  · rename_i T m k x ho
    split at h
    · rename_i m k x hm hk hx
      obtain ⟨S', h1, h2⟩ := h
      exact ⟨.tuple [], A, S', by simp [exec, ho, xMapUp, hm, hk, hx, h1], h2⟩
    · exact h.elim
  · rename_i T x i ho
    split at h
    · rename_i X Y hx hy
      obtain ⟨v, h1, h2⟩ := h
      exact ⟨v, A, S, by simp [exec, ho, xIndex, hx, hy, h1, giveV], h2⟩
    · exact h.elim
  · rename_i T x i ho
    split at h
    · rename_i X Y hx hy
      obtain ⟨v, h1, h2⟩ := h
      exact ⟨v, A, S, by simp [exec, ho, xIndexAddr, hx, hy, h1, giveV], h2⟩
    · exact h.elim
  · rename_i c ho
    obtain ⟨v, A', S', h1, h2⟩ := wCall_imp C R h
    exact ⟨v, A', S', by simp [exec, ho, h1], h2⟩
  · rename_i T l c ho
    obtain ⟨v, A', S', h1, h2⟩ := h
    exact ⟨v, A', S', by simp [exec, ho, h1], h2⟩
  · split at h
    · rename_i v A' S' h1
      exact ⟨v, A', S', h1, h⟩
    · exact h.elim

def wOps (ac : Nat → Acc) (ops l : List Oper) : Nat → Env → St → (Env → St → Prop) → Prop :=
  List.rec (motive := fun _ => Nat → Env → St → (Env → St → Prop) → Prop) (fun _ A S K => K A S) (fun o _ ih i A S K =>
    match wants ops A o with
    | some true => wExec C R F A S (ac i) o fun v A S => match put A o.dst v with
      | some A => ih (i + 1) A S K
      | none => False
    | some false => match put A o.dst (.tuple []) with
      | some A => ih (i + 1) A S K
      | none => False
    | none => False) l

theorem wOps_imp {ac : Nat → Acc} {ops : List Oper} : ∀ {l : List Oper} {i : Nat} {A : Env} {S : St} {K : Env → St → Prop}, wOps C R F ac ops l i A S K → ∃ A' S', evalOps C R F ac ops l i A S = some (A', S') ∧ K A' S'
  | [], i, A, S, K, h => ⟨A, S, rfl, h⟩
  | o :: l, i, A, S, K, h => by
    rw [evalOps_cons]
    have h' : (match wants ops A o with
      | some true => wExec C R F A S (ac i) o fun v A S => match put A o.dst v with
        | some A => wOps C R F ac ops l (i + 1) A S K
        | none => False
      | some false => match put A o.dst (.tuple []) with
        | some A => wOps C R F ac ops l (i + 1) A S K
        | none => False
      | none => False) := h
    split at h'
    · rename_i hw
      obtain ⟨v, A1, S1, h1, h2⟩ := wExec_imp C R F h'
      split at h2
      · rename_i A2 hp
        obtain ⟨A', S', h3, h4⟩ := wOps_imp h2
        exact ⟨A', S', by simp [evalOps.one, evalOps.back, hw, h1, hp, h3], h4⟩
      · exact h2.elim
    · rename_i hw
      split at h'
      · rename_i A2 hp
        obtain ⟨A', S', h3, h4⟩ := wOps_imp h'
        exact ⟨A', S', by simp [evalOps.one, evalOps.back, hw, hp, h3], h4⟩
      · exact h'.elim
    · exact h'.elim

/-- The code of a function. -/
def wCode (k fid nt : Nat) (fx : List Nat) (c : Code) : Env → St → (Ex → Env → St → Prop) → Prop :=
  Code.rec (motive := fun _ => Env → St → (Ex → Env → St → Prop) → Prop)
    (fun A S K => K .normal A S)
    (fun id ops draw A S K => match draw with
      | true => match splitIn ops.toList with
        | none => wOps C R F (F.acc id) ops.toList ops.toList 0 { A with tmps := unpointAll F ops.toList A.tmps } S fun A S => forceE nt fx (A.keep (F.keep id)) fun A => K .normal A S
        | some _ => False
      | false => wOps C R F (fun _ => .any) ops.toList ops.toList 0 A S fun A S => forceE nt fx (A.keep (F.keep id)) fun A => K .normal A S)
    (fun _ _ f g A S K => f A S fun e A S => match e with | .normal => g A S K | e => K e A S)
    (fun c _ _ f g A S K => match operand A c with
      | some (.bool true) => f A S K
      | some (.bool false) => g A S K
      | _ => False)
    (fun id _ f A S K => f A S fun e A S => match e with | .exit i => K (bif Nat.beq i id then .normal else .exit i) A S | e => K e A S)
    (fun c _ A S K => WCode (iter (evalCode C R k fid F c) k A S) K)
    (fun g ps assign body _ _ A S K => WCode (eRange R fid g ps assign body A S) K)
    (fun id A S K => K (.exit id) A S)
    (fun _ _ _ _ _ => False)
    (fun _ _ _ _ => False)
    (fun _ _ _ _ => False)
    (fun A S K => K .ret A S)
    (fun _ _ _ _ => False)
    c

theorem wCode_imp {k fid nt : Nat} {fx : List Nat} : ∀ (c : Code) {A : Env} {S : St} {K : Ex → Env → St → Prop}, wCode C R F k fid nt fx c A S K → ∃ e A' S', evalCode C R k fid F c A S = some (e, A', S') ∧ K e A' S'
  | .skip, A, S, K, h => ⟨_, _, _, rfl, h⟩
  | .region id ops draw, A, S, K, h => by
    rw [evalCode_region]
    cases draw with
    | true =>
      have h' : (match splitIn ops.toList with
        | none => wOps C R F (F.acc id) ops.toList ops.toList 0 { A with tmps := unpointAll F ops.toList A.tmps } S fun A S => forceE nt fx (A.keep (F.keep id)) fun A => K .normal A S
        | some _ => False) := h
      split at h'
      · rename_i hq
        obtain ⟨A', S', h1, h2⟩ := wOps_imp C R F h'
        exact ⟨.normal, A'.keep (F.keep id), S', by simp [eRegion, eDraw, hq, h1, after], forceE_imp h2⟩
      · exact h'.elim
    | false =>
      obtain ⟨A', S', h1, h2⟩ := wOps_imp C R F (show wOps C R F (fun _ => .any) ops.toList ops.toList 0 A S _ from h)
      exact ⟨.normal, A'.keep (F.keep id), S', by simp [eRegion, h1, after], forceE_imp h2⟩
  | .seq a b, A, S, K, h => by
    rw [evalCode_seq]
    obtain ⟨e, A', S', h1, h2⟩ := wCode_imp a (show wCode C R F k fid nt fx a A S _ from h)
    rw [h1]
    cases e with
    | normal => exact wCode_imp b h2
    | ret => exact ⟨_, _, _, rfl, h2⟩
    | exit i => exact ⟨_, _, _, rfl, h2⟩
  | .cond c a b, A, S, K, h => by
    rw [evalCode_cond]
    have h' : (match operand A c with
      | some (.bool true) => wCode C R F k fid nt fx a A S K
      | some (.bool false) => wCode C R F k fid nt fx b A S K
      | _ => False) := h
    unfold eCond
    split at h'
    · rename_i hc; rw [hc]; exact wCode_imp a h'
    · rename_i hc; rw [hc]; exact wCode_imp b h'
    · exact h'.elim
  | .block id b, A, S, K, h => by
    rw [evalCode_block]
    obtain ⟨e, A', S', h1, h2⟩ := wCode_imp b (show wCode C R F k fid nt fx b A S _ from h)
    rw [h1]
    cases e with
    | normal => exact ⟨_, _, _, rfl, h2⟩
    | ret => exact ⟨_, _, _, rfl, h2⟩
    | exit i => exact ⟨_, _, _, rfl, h2⟩
  | .loop b, A, S, K, h => by
    rw [evalCode_loop]
    obtain ⟨e, A', S', h1, h2⟩ := (show WCode (iter (evalCode C R k fid F b) k A S) K from h)
    exact ⟨e, A', S', h1, h2⟩
  | .rangeFunc g ps a b, A, S, K, h => by
    rw [evalCode_rangeFunc]
    obtain ⟨e, A', S', h1, h2⟩ := (show WCode (eRange R fid g ps a b A S) K from h)
    exact ⟨e, A', S', h1, h2⟩
  | .exit id, A, S, K, h => ⟨_, _, _, rfl, h⟩
  | .ret, A, S, K, h => ⟨_, _, _, rfl, h⟩
  | .scope _, _, _, _, h => h.elim
  | .label _, _, _, _, h => h.elim
  | .goto _, _, _, _, h => h.elim
  | .refuse _, _, _, _, h => h.elim

/-- What a frame gives, behind its code. -/
noncomputable def finish (fn : Func) (A : Env) (S : St) : Option (V × St) :=
  match resultsOf C A S fn.results.toList with
  | some vs => match valsLvl vs with
    | some _ => some (one vs, S)
    | none => none
  | none => none

/-- THE WALK OF A FUNCTION. -/
theorem frame_of {k id : Nat} {args : List V} {S : St} {fn : Func} {c : Code} {r : V × St} (hf : C.fn id = some fn) (hc : fn.body = some c)
    (h : wCode C R (C.fc id) k id fn.ntmps [] c { nt := fn.ntmps, tmps := number 0 args, locs := [], fix := [] } S fun e A S => match e with | .exit _ => False | _ => finish C fn A S = some r) :
    frame C R k id args S = some r := by
  obtain ⟨e, A, S', h1, h3⟩ := wCode_imp C R (C.fc id) c h
  unfold frame
  simp only [hf, hc, h1]
  unfold finish at h3
  cases e with
  | exit i => exact h3.elim
  | normal => exact h3
  | ret => exact h3

theorem frame_ex {k id : Nat} {args : List V} {S : St} {fn : Func} {c : Code} {v : V} (hf : C.fn id = some fn) (hc : fn.body = some c)
    (h : wCode C R (C.fc id) k id fn.ntmps [] c { nt := fn.ntmps, tmps := number 0 args, locs := [], fix := [] } S fun e A S => match e with | .exit _ => False | _ => ∃ S', finish C fn A S = some (v, S')) :
    ∃ S', frame C R k id args S = some (v, S') := by
  obtain ⟨e, A, S', h1, h3⟩ := wCode_imp C R (C.fc id) c h
  unfold frame
  simp only [hf, hc, h1]
  unfold finish at h3
  cases e with
  | exit i => exact h3.elim
  | normal => exact h3
  | ret => exact h3

end

end Go.Ev

/- The evaluator, stepped through: loops, loops over functions, rounds, calls of functions in the empty state (own work). -/
namespace Go.Ev

theorem WCmp.yes {b : Bool} {K : V → Prop} (h : b = true) (k : K (.bool true)) : WCmp b K := ⟨(fun _ => k), (fun h' => Bool.noConfusion (h.symm.trans h'))⟩
theorem WCmp.no {b : Bool} {K : V → Prop} (h : b = false) (k : K (.bool false)) : WCmp b K := ⟨(fun h' => Bool.noConfusion (h.symm.trans h')), (fun _ => k)⟩

section
variable {C : Cfg} {R : Run} {F : FC} {k fid nt : Nat} {fx : List Nat}

/-- One more round of a loop. -/
theorem WCode.round {c : Code} {A : Env} {S : St} {K : Ex → Env → St → Prop} {j : Nat}
    (h : wCode C R F k fid nt fx c A S fun e A S => match e with | .normal => WCode (iter (evalCode C R k fid F c) j A S) K | e => K e A S) :
    WCode (iter (evalCode C R k fid F c) (j + 1) A S) K := by
  obtain ⟨e, A', S', h1, h2⟩ := wCode_imp C R F c h
  rw [iter_succ, h1]
  cases e with
  | normal => exact h2
  | ret => exact ⟨_, _, _, rfl, h2⟩
  | exit i => exact ⟨_, _, _, rfl, h2⟩

/-- How a loop over a function is left. -/
def pendEx : Option Ex → Ex | none => .normal | some e => e

/-- A loop over a function. -/
theorem eRange_of {g : Operand} {ps : Array Tmp} {x y : Code} {A : Env} {S S' : St} {f top : Nat} {first cap : List V} {v : V} {r : LoopR} {l : LoopR} (hg : operand A g = some (.fn f top first cap))
    (hl : l = { fid, nt := A.nt, tmps := A.tmps, locs := A.locs, params := ps.toList, assign := x, body := y, st := .ready, pend := none })
    (hR : R (.f f) (appN first (.yield (lenN S.heap) :: cap)) { S with heap := appN S.heap [.loop l] } = some (v, S')) (hr : nth S'.heap (lenN S.heap) = some (.loop r)) (hst : r.st = .ready ∨ r.st = .done) :
    eRange R fid g ps x y A S = some (pendEx r.pend, { A with locs := r.locs },
      { S' with heap := setN S'.heap (lenN S.heap) (.loop { r with st := .over, locs := [], tmps := [], pend := none }) }) := by
  subst hl
  unfold eRange
  simp only [hg, hR, hr, hst, if_true]
  cases r.pend <;> rfl

/-- A round. -/
theorem round_of {b : Nat} {args : List V} {S : St} {r : LoopR} {ts : List (Nat × V)} {res : V × St} (hr : nth S.heap b = some (.loop r)) (hst : r.st = .ready) (hp : r.pend = none)
    (hpar : allB (fun t => Nat.blt t r.nt) r.params = true) (hnt : r.nt = nt) (hfx : keysOf r.locs = fx) (hts : setAll r.tmps r.params args = some ts)
    (h : wCode C R (C.fc r.fid) k r.fid nt fx r.assign { nt := nt, tmps := ts, locs := r.locs, fix := fx } (putLoop S b { r with st := .assigns, locs := [] }) fun e A S => match e with
      | .normal => match lentLoop S b .assigns with
        | some r' => wCode C R (C.fc r.fid) k r.fid nt fx r.body A (putLoop S b { r' with st := .busy }) fun e A S => roundEnd b fx (some (e, A, S)) = some res
        | none => False
      | _ => False) : Go.Ev.round C R k b args S = some res := by
  subst hnt; subst hfx
  obtain ⟨e, A1, S1, h1, h2⟩ := wCode_imp C R (C.fc r.fid) r.assign h
  unfold Go.Ev.round
  rw [hr]
  simp only
  rw [if_pos ⟨hst, by rw [hp]; rfl, hpar⟩, hts]
  simp only
  rw [h1]
  cases e with
  | normal =>
    unfold roundBody
    simp only at h2 ⊢
    split at h2
    · rename_i r' hl
      rw [hl]
      obtain ⟨e, A2, S2, h3, h4⟩ := wCode_imp C R (C.fc r.fid) r.body h2
      simp only
      rw [h3]
      exact h4
    · exact h2.elim
  | ret => exact h2.elim
  | exit i => exact h2.elim

/-- A function that is called in the empty state. -/
theorem run_pure {id n : Nat} {args : List V} {S S' : St} {v v' : V} (hp : (C.fc id).pure = true) (ha : allB V.pure args = true) (h : frame C (run C n) n id (mapN V.strip args) St.empty = some (v, S'))
    (hf : frz { nt := 0, tmps := [], locs := [], fix := [] } S' .any v = some v') (hz : isZero v'.lvl = true) : run C (n + 1) (.f id) args S = some (v'.stripAll, S) := by
  have e : run C (n + 1) (.f id) args S = step C (run C n) n (.f id) args S := rfl
  rw [e]
  have e2 : step C (run C n) n (.f id) args S = bif (C.fc id).pure && allB V.pure args then
      match frame C (run C n) n id (mapN V.strip args) St.empty with
      | some (v, S') => match frz { nt := 0, tmps := [], locs := [], fix := [] } S' .any v with
        | some v => if isZero v.lvl then some (v.stripAll, S) else none
        | none => none
      | none => none
    else frame C (run C n) n id args S := rfl
  rw [e2, hp, ha, h]
  simp only [Bool.and_self, cond_true, hf, hz, if_true]

theorem run_val {id n : Nat} {args : List V} {S S' : St} {v v' r : V} (h : frame C (run C n) n id (mapN V.strip args) St.empty = some (v, S')) (hp : (C.fc id).pure = true) (ha : allB V.pure args = true)
    (hf : frz { nt := 0, tmps := [], locs := [], fix := [] } S' .any v = some v') (hz : isZero v'.lvl = true) (hs : v'.stripAll = r) : run C (n + 1) (.f id) args S = some (r, S) := by
  subst hs
  exact run_pure hp ha h hf hz

theorem run_here {id n : Nat} {args : List V} {S : St} {r : V × St} (hp : ((C.fc id).pure && allB V.pure args) = false) (h : frame C (run C n) n id args S = some r) : run C (n + 1) (.f id) args S = some r := by
  have e : run C (n + 1) (.f id) args S = step C (run C n) n (.f id) args S := rfl
  rw [e]
  have e2 : step C (run C n) n (.f id) args S = bif (C.fc id).pure && allB V.pure args then
      match frame C (run C n) n id (mapN V.strip args) St.empty with
      | some (v, S') => match frz { nt := 0, tmps := [], locs := [], fix := [] } S' .any v with
        | some v => if isZero v.lvl then some (v.stripAll, S) else none
        | none => none
      | none => none
    else frame C (run C n) n id args S := rfl
  rw [e2, hp]
  exact h

theorem run_yield' {b n : Nat} {args : List V} {S : St} {r : V × St} (h : Go.Ev.round C (run C n) n b args S = some r) : run C (n + 1) (.y b) args S = some r := h

end

end Go.Ev
