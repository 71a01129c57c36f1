/- The evaluator, in pieces (own work). -/
import Derived.Test.YtfcngcogphoikaaGreatXe
/- When two abstract values are the same: a test that the kernel runs; a state, of which the blocks that nobody looks at again are not told (own work). -/
namespace Go.Ev

noncomputable def eqB (a b : Bool) : Bool := match a with | true => b | false => match b with | true => false | false => true
noncomputable def eqK : IntKind → IntKind → Bool
  | .i8, .i8 | .i16, .i16 | .i32, .i32 | .i64, .i64 | .u8, .u8 | .u16, .u16 | .u32, .u32 | .u64, .u64 => true
  | _, _ => false
noncomputable def eqL {α : Type} (f : α → α → Bool) (l : List α) : List α → Bool :=
  List.rec (motive := fun _ => List α → Bool) (fun m => List.casesOn m true fun _ _ => false) (fun a _ ih m => List.casesOn m false fun b r => andB (f a b) (ih r)) l
noncomputable def eqU (a b : UInt8) : Bool := Nat.beq a.toNat b.toNat
noncomputable def eqBase : Base → Base → Bool
  | .loc a, .loc b => Nat.beq a b
  | .box a, .box b => Nat.beq a b
  | _, _ => false
noncomputable def eqTok : Tok → Tok → Bool
  | .no, .no => true
  | .tight, .tight => true
  | .own a, .own b => Nat.beq a b
  | _, _ => false

noncomputable def mBool (b : Bool) (u : V) : Bool := match u with | .bool c => eqB b c | _ => false
noncomputable def mInt (k : IntKind) (n : Int) (u : V) : Bool := match u with | .int k' n' => andB (eqK k k') (iEq n n') | _ => false
noncomputable def mStr (s : List UInt8) (u : V) : Bool := match u with | .str s' => eqL eqU s s' | _ => false
noncomputable def mNilp (u : V) : Bool := match u with | .nilp => true | _ => false
noncomputable def mPtr (b : Base) (o : Nat) (u : V) : Bool := match u with | .ptr b' o' => andB (eqBase b b') (Nat.beq o o') | _ => false
noncomputable def mImm (top : Nat) (_ : List V) (ih : List V → Bool) (u : V) : Bool := match u with | .imm top' cs' => andB (Nat.beq top top') (ih cs') | _ => false
noncomputable def mList (sz : Nat) (tok : Tok) (top : Nat) (_ : List V) (ih : List V → Bool) (u : V) : Bool := match u with
  | .list sz' tok' top' rows' => andB (Nat.beq sz sz') (andB (eqTok tok tok') (andB (Nat.beq top top') (ih rows')))
  | _ => false
noncomputable def mSlc (b : Base) (o sz n cap : Nat) (u : V) : Bool := match u with
  | .slc b' o' sz' n' cap' => andB (eqBase b b') (andB (Nat.beq o o') (andB (Nat.beq sz sz') (andB (Nat.beq n n') (Nat.beq cap cap'))))
  | _ => false
noncomputable def mNilf (u : V) : Bool := match u with | .nilf => true | _ => false
noncomputable def mFn (f top : Nat) (_ _ : List V) (ih ih' : List V → Bool) (u : V) : Bool := match u with
  | .fn f' top' fs cs => andB (Nat.beq f f') (andB (Nat.beq top top') (andB (ih fs) (ih' cs)))
  | _ => false
noncomputable def mYield (b : Nat) (u : V) : Bool := match u with | .yield b' => Nat.beq b b' | _ => false
noncomputable def mNilm (u : V) : Bool := match u with | .nilm => true | _ => false
noncomputable def mMap (b : Nat) (u : V) : Bool := match u with | .map b' => Nat.beq b b' | _ => false
noncomputable def mAgg (_ : List V) (ih : List V → Bool) (u : V) : Bool := match u with | .agg cs => ih cs | _ => false
noncomputable def mTuple (_ : List V) (ih : List V → Bool) (u : V) : Bool := match u with | .tuple cs => ih cs | _ => false
noncomputable def mNil (m : List V) : Bool := match m with | [] => true | _ => false
noncomputable def mCons (_ : V) (_ : List V) (ia : V → Bool) (ih : List V → Bool) (m : List V) : Bool := match m with | b :: r => andB (ia b) (ih r) | [] => false

noncomputable def eqV (v : V) : V → Bool := V.rec (motive_1 := fun _ => V → Bool) (motive_2 := fun _ => List V → Bool) mBool mInt mStr mNilp mPtr mImm mList mSlc mNilf mFn mYield mNilm mMap mAgg mTuple mNil mCons v
noncomputable def eqVl (l : List V) : List V → Bool := V.rec_1 (motive_1 := fun _ => V → Bool) (motive_2 := fun _ => List V → Bool) mBool mInt mStr mNilp mPtr mImm mList mSlc mNilf mFn mYield mNilm mMap mAgg mTuple mNil mCons l

theorem eqB_is : ∀ {a b : Bool}, eqB a b = true → a = b := by intro a b h; cases a <;> cases b <;> first | rfl | cases h
theorem eqK_is : ∀ {a b : IntKind}, eqK a b = true → a = b := by intro a b h; cases a <;> cases b <;> first | rfl | cases h
theorem eqL_is {α : Type} {f : α → α → Bool} (hf : ∀ a b, f a b = true → a = b) : ∀ {l m : List α}, eqL f l m = true → l = m
  | [], [], _ => rfl
  | [], _ :: _, h => by cases h
  | _ :: _, [], h => by cases h
  | a :: l, b :: m, h => by
    obtain ⟨h1, h2⟩ := andB_true.1 (show andB (f a b) (eqL f l m) = true from h)
    rw [hf a b h1, eqL_is hf h2]
theorem eqN_is {a b : Nat} (h : Nat.beq a b = true) : a = b := Nat.eq_of_beq_eq_true h
theorem eqU_is {a b : UInt8} (h : eqU a b = true) : a = b := UInt8.toNat_inj.1 (eqN_is h)
theorem eqI_is {a b : Int} (h : iEq a b = true) : a = b := by rw [iEq_eq, decide_eq_true_eq] at h; exact h
theorem eqBase_is : ∀ {a b : Base}, eqBase a b = true → a = b := by
  intro a b h; cases a <;> cases b <;> first | (rw [eqN_is h]) | cases h
theorem eqTok_is : ∀ {a b : Tok}, eqTok a b = true → a = b := by
  intro a b h; cases a <;> cases b <;> first | rfl | (rw [eqN_is h]) | cases h

theorem eqV_is : ∀ (v u : V), eqV v u = true → v = u := by
  refine V.rec (motive_1 := fun v => ∀ u, eqV v u = true → v = u) (motive_2 := fun vs => ∀ us, eqVl vs us = true → vs = us)
    ?bool ?int ?str ?nilp ?ptr ?imm ?list ?slc ?nilf ?fn ?yield ?nilm ?map ?agg ?tuple ?nil ?cons
  case bool => intro b u h; cases u <;> first | (rw [eqB_is h]) | cases h
  case int => intro k n u h; cases u <;> first | (obtain ⟨h1, h2⟩ := andB_true.1 h; rw [eqK_is h1, eqI_is h2]) | cases h
  case str => intro s u h; cases u <;> first | (rw [eqL_is (fun _ _ => eqU_is) h]) | cases h
  case nilp => intro u h; cases u <;> first | rfl | cases h
  case ptr => intro b o u h; cases u <;> first | (obtain ⟨h1, h2⟩ := andB_true.1 h; rw [eqBase_is h1, eqN_is h2]) | cases h
  case imm => intro top cs ih u h; cases u <;> first | (obtain ⟨h1, h2⟩ := andB_true.1 h; rw [eqN_is h1, ih _ h2]) | cases h
  case list =>
    intro sz tok top rows ih u h
    cases u <;> first
      | (obtain ⟨h1, h2⟩ := andB_true.1 h
         obtain ⟨h3, h4⟩ := andB_true.1 h2
         obtain ⟨h5, h6⟩ := andB_true.1 h4
         rw [eqN_is h1, eqTok_is h3, eqN_is h5, ih _ h6])
      | cases h
  case slc =>
    intro b o sz n cap u h
    cases u <;> first
      | (obtain ⟨h1, h2⟩ := andB_true.1 h
         obtain ⟨h3, h4⟩ := andB_true.1 h2
         obtain ⟨h5, h6⟩ := andB_true.1 h4
         obtain ⟨h7, h8⟩ := andB_true.1 h6
         rw [eqBase_is h1, eqN_is h3, eqN_is h5, eqN_is h7, eqN_is h8])
      | cases h
  case nilf => intro u h; cases u <;> first | rfl | cases h
  case fn =>
    intro f top fs cs ih ih' u h
    cases u <;> first
      | (obtain ⟨h1, h2⟩ := andB_true.1 h
         obtain ⟨h3, h4⟩ := andB_true.1 h2
         obtain ⟨h5, h6⟩ := andB_true.1 h4
         rw [eqN_is h1, eqN_is h3, ih _ h5, ih' _ h6])
      | cases h
  case yield => intro b u h; cases u <;> first | (rw [eqN_is h]) | cases h
  case nilm => intro u h; cases u <;> first | rfl | cases h
  case map => intro b u h; cases u <;> first | (rw [eqN_is h]) | cases h
  case agg => intro cs ih u h; cases u <;> first | (rw [ih _ h]) | cases h
  case tuple => intro cs ih u h; cases u <;> first | (rw [ih _ h]) | cases h
  case nil => intro us h; cases us with
    | nil => rfl
    | cons _ _ => cases h
  case cons => intro v vs iv ih us h; cases us with
    | nil => cases h
    | cons u us => obtain ⟨h1, h2⟩ := andB_true.1 h; rw [iv _ h1, ih _ h2]

noncomputable def eqVs (l m : List V) : Bool := eqL eqV l m
noncomputable def eqTm (p q : Nat × V) : Bool := andB (Nat.beq p.1 q.1) (eqV p.2 q.2)
noncomputable def eqLc (p q : Nat × List V) : Bool := andB (Nat.beq p.1 q.1) (eqVs p.2 q.2)
noncomputable def eqEnv (A B : Env) : Bool := andB (Nat.beq A.nt B.nt) (andB (eqL eqTm A.tmps B.tmps) (andB (eqL eqLc A.locs B.locs) (eqL Nat.beq A.fix B.fix)))
noncomputable def eqEnt (p q : V × V) : Bool := andB (eqV p.1 q.1) (eqV p.2 q.2)
noncomputable def eqBlk : Blk → Blk → Bool
  | .cells a l, .cells b m => andB (Nat.beq a b) (eqVs l m)
  | .map a l, .map b m => andB (Nat.beq a b) (eqL eqEnt l m)
  | _, _ => false
noncomputable def eqEx : Ex → Ex → Bool
  | .normal, .normal => true
  | .ret, .ret => true
  | .exit a, .exit b => Nat.beq a b
  | _, _ => false

theorem eqVs_is {l m : List V} (h : eqVs l m = true) : l = m := eqL_is eqV_is h
theorem eqEnv_is {A B : Env} (h : eqEnv A B = true) : A = B := by
  obtain ⟨h1, h⟩ := andB_true.1 h
  obtain ⟨h2, h⟩ := andB_true.1 h
  obtain ⟨h3, h4⟩ := andB_true.1 h
  have e2 := eqL_is (fun a b h => by
    obtain ⟨k1, k2⟩ := andB_true.1 (show andB (Nat.beq a.1 b.1) (eqV a.2 b.2) = true from h)
    exact Prod.ext (eqN_is k1) (eqV_is _ _ k2)) h2
  have e3 := eqL_is (fun a b h => by
    obtain ⟨k1, k2⟩ := andB_true.1 (show andB (Nat.beq a.1 b.1) (eqVs a.2 b.2) = true from h)
    exact Prod.ext (eqN_is k1) (eqVs_is k2)) h3
  have e4 := eqL_is (fun _ _ => eqN_is) h4
  cases A; cases B
  simp only at e2 e3 e4 h1
  rw [eqN_is h1, e2, e3, e4]
theorem eqBlk_is : ∀ {a b : Blk}, eqBlk a b = true → a = b
  | .cells a l, .cells b m, h => by obtain ⟨h1, h2⟩ := andB_true.1 h; rw [eqN_is h1, eqVs_is h2]
  | .map a l, .map b m, h => by
    obtain ⟨h1, h2⟩ := andB_true.1 h
    rw [eqN_is h1, eqL_is (fun a b h => by
      obtain ⟨k1, k2⟩ := andB_true.1 (show andB (eqV a.1 b.1) (eqV a.2 b.2) = true from h)
      exact Prod.ext (eqV_is _ _ k1) (eqV_is _ _ k2)) h2]
  | .cells _ _, .map _ _, h => by cases h
  | .cells _ _, .loop _, h => by cases h
  | .map _ _, .cells _ _, h => by cases h
  | .map _ _, .loop _, h => by cases h
  | .loop _, .cells _ _, h => by cases h
  | .loop _, .map _ _, h => by cases h
  | .loop _, .loop _, h => by cases h
theorem eqEx_is : ∀ {a b : Ex}, eqEx a b = true → a = b
  | .normal, .normal, _ => rfl
  | .ret, .ret, _ => rfl
  | .exit a, .exit b, h => by rw [eqN_is h]
  | .normal, .ret, h => by cases h
  | .normal, .exit _, h => by cases h
  | .ret, .normal, h => by cases h
  | .ret, .exit _, h => by cases h
  | .exit _, .normal, h => by cases h
  | .exit _, .ret, h => by cases h

/-- The blocks from m on, d of them, by name. -/
noncomputable def tabB (f : Nat → Blk) (m d : Nat) : List Blk := Nat.rec (motive := fun _ => Nat → List Blk) (fun _ => []) (fun _ ih m => f m :: ih (m + 1)) d m

noncomputable def blkS (S : St) (j : Nat) : Blk := match nth S.heap j with | some b => b | none => .cells 0 []

theorem tabB_is : ∀ (d m : Nat) (l : List Blk) (f : Nat → Blk), (∀ j b, l[j]? = some b → f (m + j) = b) → l.length = d → tabB f m d = l
  | 0, _, l, _, _, hl => by
    have : l = [] := List.eq_nil_of_length_eq_zero hl
    subst this; rfl
  | d + 1, m, [], _, _, hl => by cases hl
  | d + 1, m, b :: l, f, hf, hl => by
    show f m :: tabB f (m + 1) d = b :: l
    rw [tabB_is d (m + 1) l f (fun j c hj => by
      have := hf (j + 1) c (by simpa using hj)
      rwa [show m + 1 + j = m + (j + 1) by omega]) (by simpa using hl)]
    have := hf 0 b rfl
    rw [Nat.add_zero] at this
    rw [this]

noncomputable def tSt (S : St) (bs : List Blk) (m d : Nat) (tk : List Nat) : Bool :=
  andB (eqL eqBlk (takeN m S.heap) bs) (andB (Nat.beq (lenN S.heap) (m + d)) (eqL Nat.beq S.toks tk))

theorem tSt_is {S : St} {bs : List Blk} {m d : Nat} {tk : List Nat} (h : tSt S bs m d tk = true) : S = { heap := appN bs (tabB (blkS S) m d), toks := tk } := by
  obtain ⟨h1, h⟩ := andB_true.1 h
  obtain ⟨h2, h3⟩ := andB_true.1 h
  have e1 := eqL_is (fun _ _ => eqBlk_is) h1
  have e2 := eqN_is h2
  have e3 := eqL_is (fun _ _ => eqN_is) h3
  rw [takeN_eq] at e1
  rw [lenN_eq] at e2
  have e4 : tabB (blkS S) m d = S.heap.drop m := tabB_is d m _ _ (fun j b hj => by
    rw [List.getElem?_drop] at hj
    unfold blkS
    rw [nth_eq, hj]) (by rw [List.length_drop]; omega)
  cases S with
  | mk hp tk' =>
    simp only at e1 e3 e4
    rw [appN_eq, e4, ← e1, List.take_append_drop, e3]

noncomputable def blkE : Option (Ex × Env × St) → Nat → Blk
  | some (_, _, S), j => blkS S j
  | none, _ => .cells 0 []
noncomputable def blkA : Option (Env × St) → Nat → Blk
  | some (_, S), j => blkS S j
  | none, _ => .cells 0 []

noncomputable def tAS (E : Option (Env × St)) (A : Env) (bs : List Blk) (m d : Nat) (tk : List Nat) : Bool :=
  match E with
  | some (A0, S0) => andB (eqEnv A0 A) (tSt S0 bs m d tk)
  | none => false
noncomputable def tEAS (E : Option (Ex × Env × St)) (e : Ex) (A : Env) (bs : List Blk) (m d : Nat) (tk : List Nat) : Bool :=
  match E with
  | some (e0, A0, S0) => andB (eqEx e0 e) (andB (eqEnv A0 A) (tSt S0 bs m d tk))
  | none => false

theorem as_is {E : Option (Env × St)} {A : Env} {bs : List Blk} {m d : Nat} {tk : List Nat} (h : tAS E A bs m d tk = true) : E = some (A, { heap := appN bs (tabB (blkA E) m d), toks := tk }) := by
  cases E with
  | none => cases h
  | some p =>
    obtain ⟨A0, S0⟩ := p
    obtain ⟨h1, h2⟩ := andB_true.1 (show andB (eqEnv A0 A) (tSt S0 bs m d tk) = true from h)
    have e1 := eqEnv_is h1
    have e2 := tSt_is h2
    subst e1
    exact congrArg (fun S => some (A0, S)) e2

theorem eas_is {E : Option (Ex × Env × St)} {e : Ex} {A : Env} {bs : List Blk} {m d : Nat} {tk : List Nat} (h : tEAS E e A bs m d tk = true) : E = some (e, A, { heap := appN bs (tabB (blkE E) m d), toks := tk }) := by
  cases E with
  | none => cases h
  | some p =>
    obtain ⟨e0, A0, S0⟩ := p
    obtain ⟨h0, h⟩ := andB_true.1 (show andB (eqEx e0 e) (andB (eqEnv A0 A) (tSt S0 bs m d tk)) = true from h)
    obtain ⟨h1, h2⟩ := andB_true.1 h
    have e1 := eqEnv_is h1
    have e2 := tSt_is h2
    have e3 := eqEx_is h0
    subst e1
    subst e3
    exact congrArg (fun S => some (e0, A0, S)) e2

end Go.Ev

/- The evaluator, in pieces: what one piece gives is handed to the next (own work). -/
namespace Go.Ev

section
variable {C : Cfg} {R : Run} {k fid : Nat} {F : FC} {A A1 A2 : Env} {S S1 S2 : St} {r : Option (Ex × Env × St)}

theorem ev_seq {a b : Code} (h1 : evalCode C R k fid F a A S = some (.normal, A1, S1)) (h2 : evalCode C R k fid F b A1 S1 = r) : evalCode C R k fid F (.seq a b) A S = r := by
  rw [evalCode_seq, h1]; exact h2

theorem ev_seq_out {a b : Code} {e : Ex} (h1 : evalCode C R k fid F a A S = some (e, A1, S1)) (he : e ≠ .normal) : evalCode C R k fid F (.seq a b) A S = some (e, A1, S1) := by
  rw [evalCode_seq, h1]
  cases e with
  | normal => exact absurd rfl he
  | ret => rfl
  | exit i => rfl

theorem ev_true {c : Operand} {a b : Code} (h : operand A c = some (.bool true)) (h1 : evalCode C R k fid F a A S = r) : evalCode C R k fid F (.cond c a b) A S = r := by
  rw [evalCode_cond]; unfold eCond; rw [h]; exact h1

theorem ev_false {c : Operand} {a b : Code} (h : operand A c = some (.bool false)) (h1 : evalCode C R k fid F b A S = r) : evalCode C R k fid F (.cond c a b) A S = r := by
  rw [evalCode_cond]; unfold eCond; rw [h]; exact h1

theorem ev_block {id : Nat} {c : Code} {e : Ex} (h : evalCode C R k fid F c A S = some (e, A1, S1)) : evalCode C R k fid F (.block id c) A S = eBlock id (some (e, A1, S1)) := by
  rw [evalCode_block, h]

theorem it_go {f : CodeR} {m : Nat} (h1 : f A S = some (.normal, A1, S1)) (h2 : iter f m A1 S1 = r) : iter f (m + 1) A S = r := by
  rw [iter_succ, h1]; exact h2

theorem it_out {f : CodeR} {m : Nat} {e : Ex} (h1 : f A S = some (e, A1, S1)) (he : e ≠ .normal) : iter f (m + 1) A S = some (e, A1, S1) := by
  rw [iter_succ, h1]
  cases e with
  | normal => exact absurd rfl he
  | ret => rfl
  | exit i => rfl

theorem ops_app {ac : Nat → Acc} {all : List Oper} : ∀ {l1 : List Oper} {l2 : List Oper} {i : Nat} {A : Env} {S : St} {A1 : Env} {S1 : St} {r : Option (Env × St)}, evalOps C R F ac all l1 i A S = some (A1, S1) → evalOps C R F ac all l2 (i + l1.length) A1 S1 = r →
    evalOps C R F ac all (l1 ++ l2) i A S = r
  | [], l2, i, A, S, A1, S1, r, h1, h2 => by rw [evalOps_nil] at h1; cases h1; exact h2
  | o :: l1, l2, i, A, S, A1, S1, r, h1, h2 => by
    rw [evalOps_cons] at h1
    obtain ⟨A', S', h3, h4⟩ := one_act h1
    show evalOps C R F ac all (o :: (l1 ++ l2)) i A S = r
    rw [evalOps_cons, act_one h3]
    exact ops_app h4 (by rw [List.length_cons] at h2; rwa [show i + 1 + l1.length = i + (l1.length + 1) by omega])

theorem ops_cut {ac : Nat → Acc} {all l : List Oper} {i : Nat} {r : Option (Env × St)} (m : Nat) (hm : lenN (takeN m l) = m) (h1 : evalOps C R F ac all (takeN m l) i A S = some (A1, S1)) (h2 : evalOps C R F ac all (dropN m l) (i + m) A1 S1 = r) : evalOps C R F ac all l i A S = r := by
  rw [lenN_eq] at hm
  have := ops_app (l2 := dropN m l) (r := r) h1 (by rw [hm]; exact h2)
  rwa [takeN_eq, dropN_eq, List.take_append_drop] at this

noncomputable def regArr : Code → Array Oper | .region _ ops _ => ops | _ => #[]

theorem ev_region {c : Code} {id : Nat} (hc : c = .region id (regArr c) false) (h : evalOps C R F (fun _ => .any) (regArr c).toList (regArr c).toList 0 A S = some (A1, S1)) : evalCode C R k fid F c A S = some (.normal, A1.keep (F.keep id), S1) := by
  generalize regArr c = ops at hc h
  subst hc
  rw [evalCode_region]
  show after id F (evalOps C R F (fun _ => .any) ops.toList ops.toList 0 A S) = _
  rw [h]; rfl

/-- A call whose answer is known. -/
theorem exec_call {o : Oper} {c : Call} {f : Nat} {args : List V} {v : V} (ho : o.op = .call c) (hf : c.callee = .value (.func f)) (hargs : operands A c.args.toList = some args) (hp : ((C.fc f).pure && !allB V.pure args) = false)
    (hl : (valsLvl args).isSome = true) (hR : R (.f f) args S = some (v, S1)) : exec C R F A S .any o = some (v, A, S1) := by
  unfold exec
  rw [ho]
  show callOp C R A S .any c = _
  unfold callOp
  rw [hargs]
  simp only [hf, Acc.any, cond_true]
  have he : operand A (.func f) = some (.fn f 0 [] []) := rfl
  rw [he]
  show callFn C R A S ⟨true, none, true⟩ f (appN [] (appN args [])) = _
  have ha : appN ([] : List V) (appN args []) = args := by rw [appN_eq, appN_eq]; simp
  rw [ha]
  unfold callFn
  rw [hp]
  show callFn.callAt R A S f args = _
  unfold callFn.callAt
  cases hv : valsLvl args with
  | none => rw [hv] at hl; cases hl
  | some top => simp only [hR]

/-- One operation whose answer is known, the others behind it. -/
theorem ops_call {ac : Nat → Acc} {all l : List Oper} {o : Oper} {i : Nat} {v : V} {r : Option (Env × St)} (hg : o.guard = none) (hac : ac i = .any) (he : exec C R F A S .any o = some (v, A, S1)) (hp : put A o.dst v = some A1)
    (h2 : evalOps C R F ac all l (i + 1) A1 S1 = r) : evalOps C R F ac all (o :: l) i A S = r := by
  rw [evalOps_cons]
  have hw : wants all A o = some true := by unfold wants; rw [hg]
  rw [hw, hac]
  show evalOps.back o.dst (evalOps C R F ac all l (i + 1)) (exec C R F A S .any o) = r
  rw [he]
  show (match put A o.dst v with
    | some A => evalOps C R F ac all l (i + 1) A S1
    | none => none) = r
  rw [hp]
  exact h2

theorem frame_is {k id : Nat} {args vs : List V} {fn : Func} {c : Code} {e : Ex} (hf : C.fn id = some fn) (hc : fn.body = some c) (h : evalCode C R k id (C.fc id) c { nt := fn.ntmps, tmps := number 0 args, locs := [], fix := [] } S = some (e, A1, S1))
    (he : ∀ i, e ≠ .exit i) (hr : resultsOf C A1 S1 fn.results.toList = some vs) (hl : (valsLvl vs).isSome = true) : frame C R k id args S = some (one vs, S1) := by
  unfold frame
  simp only [hf, hc, h]
  cases hv : valsLvl vs with
  | none => rw [hv] at hl; cases hl
  | some top =>
    cases e with
    | normal => simp only [hr, hv]
    | ret => simp only [hr, hv]
    | exit i => exact absurd rfl (he i)

theorem step_here {n id : Nat} {args : List V} {r : V × St} (hp : ((C.fc id).pure && allB V.pure args) = false) (h : frame C R n id args S = some r) : step C R n (.f id) args S = some r := by
  rw [step_f, hp]; exact h

theorem step_val {n id : Nat} {args : List V} {v v' q : V} (h : frame C R n id (mapN V.strip args) St.empty = some (v, S1)) (hp : (C.fc id).pure = true) (ha : allB V.pure args = true)
    (hf : frz { nt := 0, tmps := [], locs := [], fix := [] } S1 .any v = some v') (hz : isZero v'.lvl = true) (hs : v'.stripAll = q) : step C R n (.f id) args S = some (q, S) := by
  rw [step_f, hp, ha]
  simp only [Bool.and_self, cond_true, h, hf, hz, if_true, hs]

end

end Go.Ev

/- RecordsNil: works() is told by itself (own work). -/
namespace Go.Ev
open Go.RowKit Go.Proofs

noncomputable def worksG : CutF := fun _ _ args => match args with | [] => some (.bool true) | _ => none
noncomputable def cutW (id : Nat) : Option CutF := bif Nat.beq id 5 then some worksG else none
noncomputable abbrev RW (n : Nat) : Run := withCut cutW n (runc Go.Ev.Tryz.cfg cutW n)

theorem rw_works (n : Nat) (S : St) : RW n (.f 5) [] S = some (.bool true, S) := rfl

theorem rw_step {id n : Nat} {args : List V} {S : St} (h : cutW id = none) : RW (n + 1) (.f id) args S = step Go.Ev.Tryz.cfg (RW n) n (.f id) args S := by
  show withCut cutW (n + 1) (runc Go.Ev.Tryz.cfg cutW (n + 1)) (.f id) args S = _
  unfold withCut
  simp only [h]
  rfl

end Go.Ev
