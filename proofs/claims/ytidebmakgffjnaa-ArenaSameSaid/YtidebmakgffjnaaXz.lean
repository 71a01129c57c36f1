/- The arena: keys, add, put; in plain terms (own work). -/
import Derived.Test.YtidebmakgffjnaaXy
/- The arena: its keys; where a key is found (own work). -/
namespace Go.Ev
open Go.Proofs Go.RowKit
set_option maxRecDepth 100000
set_option linter.unusedSimpArgs false
set_option linter.unusedVariables false
set_option maxHeartbeats 1000000

/-- A key of the arena. -/
structure Ky where
  k : Int
  n : Int
  s : List UInt8
  cnt : Int
  l0 : Lv
  l1 : Lv
  l2 : Lv
  l3 : Lv
  a : Int
  b : Int
  c : Int
  deriving DecidableEq

@[reducible] def ints (l : Lv) : List Value := [.int .i64 l.c, .int .i64 l.p0, .int .i64 l.p1, .int .i64 l.p2, .int .i64 l.p3]
@[reducible] def lvs4 (a b c d : Lv) : List Value := [.int .i64 a.c, .int .i64 a.p0, .int .i64 a.p1, .int .i64 a.p2, .int .i64 a.p3, .int .i64 b.c, .int .i64 b.p0, .int .i64 b.p1, .int .i64 b.p2, .int .i64 b.p3,
  .int .i64 c.c, .int .i64 c.p0, .int .i64 c.p1, .int .i64 c.p2, .int .i64 c.p3, .int .i64 d.c, .int .i64 d.p0, .int .i64 d.p1, .int .i64 d.p2, .int .i64 d.p3]
@[reducible] def keyL (x : Ky) : List Value := [.int .u8 x.k, .int .i64 x.n, .string ⟨⟨x.s⟩⟩, .int .i64 x.cnt,
  .int .i64 x.l0.c, .int .i64 x.l0.p0, .int .i64 x.l0.p1, .int .i64 x.l0.p2, .int .i64 x.l0.p3, .int .i64 x.l1.c, .int .i64 x.l1.p0, .int .i64 x.l1.p1, .int .i64 x.l1.p2, .int .i64 x.l1.p3,
  .int .i64 x.l2.c, .int .i64 x.l2.p0, .int .i64 x.l2.p1, .int .i64 x.l2.p2, .int .i64 x.l2.p3, .int .i64 x.l3.c, .int .i64 x.l3.p0, .int .i64 x.l3.p1, .int .i64 x.l3.p2, .int .i64 x.l3.p3,
  .int .i64 x.a, .int .i64 x.b, .int .i64 x.c]
@[reducible] def keyVal (x : Ky) : Value := .agg ⟨keyL x⟩

theorem eq5 (d : Nat) (a b : Int) : calm Try.prog (Op.equalIn (d + 1) 5 (.int .u8 a) (.int .u8 b)) = some (a == b) := rfl

theorem bytes_eq (a b : List UInt8) : ((⟨⟨a⟩⟩ : ByteArray) == ⟨⟨b⟩⟩) = decide (a = b) := by
  have e : ((⟨⟨a⟩⟩ : ByteArray) == ⟨⟨b⟩⟩) = ((⟨a⟩ : Array UInt8) == ⟨b⟩) := rfl
  rw [e, Bool.eq_iff_iff, decide_eq_true_eq, beq_iff_eq, Array.mk.injEq]

theorem eq9 (d : Nat) (a b : List UInt8) : calm Try.prog (Op.equalIn (d + 1) 9 (.string ⟨⟨a⟩⟩) (.string ⟨⟨b⟩⟩)) = some (decide (a = b)) := by
  rw [← bytes_eq]
  rfl

theorem eq24' (d : Nat) (a b : Lv) : calm Try.prog (Op.equalIn (d + 3) 24 (.agg ⟨ints a⟩) (.agg ⟨ints b⟩)) = some (decide (a = b)) := by
  have hd : decide (a = b) = ((a.c == b.c) && ((a.p0 == b.p0) && ((a.p1 == b.p1) && ((a.p2 == b.p2) && (a.p3 == b.p3))))) := by
    cases a; cases b
    rw [Bool.eq_iff_iff]
    simp
  rw [hd]
  unfold Op.equalIn
  rw [calm_then, show calm Try.prog (underlying 24) = some (.struct #[{ name := "C", type := 3, offset := 0, embedded := false, tag := "", pkgPath := "", byteOffset := 0 }, { name := "P", type := 22, offset := 1, embedded := false, tag := "", pkgPath := "", byteOffset := 8 }]) from rfl]
  simp only [Option.bind]
  rw [calm_then, show calm Try.prog program = some Try.prog from rfl]
  simp only [Option.bind, show Try.prog.stoodInHeld 24 = false by kernel_rfl]
  cases h0 : (a.c == b.c) <;> cases h1 : ((a.p0 == b.p0) && ((a.p1 == b.p1) && ((a.p2 == b.p2) && (a.p3 == b.p3)))) <;>
  simp [calm_then, calm_pure, eq3, eq22, part22, part3 (xs := #[Value.int .i64 a.c, .int .i64 a.p0, .int .i64 a.p1, .int .i64 a.p2, .int .i64 a.p3]) (i := 0) rfl,
    part3 (xs := #[Value.int .i64 b.c, .int .i64 b.p0, .int .i64 b.p1, .int .i64 b.p2, .int .i64 b.p3]) (i := 0) rfl, h0, h1]

theorem part24 (a b c d : Lv) : calm Try.prog (Go.part 24 ⟨lvs4 a b c d⟩ 0) = some (.agg ⟨ints a⟩) ∧ calm Try.prog (Go.part 24 ⟨lvs4 a b c d⟩ 5) = some (.agg ⟨ints b⟩) ∧
    calm Try.prog (Go.part 24 ⟨lvs4 a b c d⟩ 10) = some (.agg ⟨ints c⟩) ∧ calm Try.prog (Go.part 24 ⟨lvs4 a b c d⟩ 15) = some (.agg ⟨ints d⟩) := ⟨rfl, rfl, rfl, rfl⟩

theorem eq38 (d : Nat) (a0 a1 a2 a3 b0 b1 b2 b3 : Lv) : calm Try.prog (Op.equalIn (d + 4) 38 (.agg ⟨lvs4 a0 a1 a2 a3⟩) (.agg ⟨lvs4 b0 b1 b2 b3⟩)) = some (decide (a0 = b0) && (decide (a1 = b1) && (decide (a2 = b2) && decide (a3 = b3)))) := by
  unfold Op.equalIn
  rw [calm_then, show calm Try.prog (underlying 38) = some (.array 4 24) from rfl]
  simp only [Option.bind]
  rw [calm_then, show calm Try.prog (sizeOf 24) = some 5 from rfl]
  simp only [Option.bind, Std.Legacy.Range.forIn_eq_forIn_range', Std.Legacy.Range.size]
  obtain ⟨p0, p1, p2, p3⟩ := part24 a0 a1 a2 a3
  obtain ⟨q0, q1, q2, q3⟩ := part24 b0 b1 b2 b3
  cases h0 : decide (a0 = b0) <;> cases h1 : decide (a1 = b1) <;> cases h2 : decide (a2 = b2) <;> cases h3 : decide (a3 = b3) <;>
  simp [List.range', calm_then, calm_pure, eq24', p0, p1, p2, p3, q0, q1, q2, q3, h0, h1, h2, h3] <;> simp_all

theorem eq108 (d : Nat) (a0 a1 a2 b0 b1 b2 : Int) : calm Try.prog (Op.equalIn (d + 2) 108 (.agg #[.int .i64 a0, .int .i64 a1, .int .i64 a2]) (.agg #[.int .i64 b0, .int .i64 b1, .int .i64 b2])) = some ((a0 == b0) && ((a1 == b1) && (a2 == b2))) := by
  unfold Op.equalIn
  rw [calm_then, show calm Try.prog (underlying 108) = some (.array 3 3) from rfl]
  simp only [Option.bind]
  rw [calm_then, show calm Try.prog (sizeOf 3) = some 1 from rfl]
  simp only [Option.bind, Std.Legacy.Range.forIn_eq_forIn_range', Std.Legacy.Range.size]
  cases h0 : (a0 == b0) <;> cases h1 : (a1 == b1) <;> cases h2 : (a2 == b2) <;>
  simp [List.range', calm_then, calm_pure, eq3, part3 (xs := #[Value.int .i64 a0, .int .i64 a1, .int .i64 a2]) (i := 0) rfl, part3 (xs := #[Value.int .i64 a0, .int .i64 a1, .int .i64 a2]) (i := 1) rfl,
    part3 (xs := #[Value.int .i64 a0, .int .i64 a1, .int .i64 a2]) (i := 2) rfl,
    part3 (xs := #[Value.int .i64 b0, .int .i64 b1, .int .i64 b2]) (i := 0) rfl, part3 (xs := #[Value.int .i64 b0, .int .i64 b1, .int .i64 b2]) (i := 1) rfl,
    part3 (xs := #[Value.int .i64 b0, .int .i64 b1, .int .i64 b2]) (i := 2) rfl, h0, h1, h2]

theorem partsK (x : Ky) : calm Try.prog (Go.part 5 ⟨keyL x⟩ 0) = some (.int .u8 x.k) ∧ calm Try.prog (Go.part 3 ⟨keyL x⟩ 1) = some (.int .i64 x.n) ∧ calm Try.prog (Go.part 9 ⟨keyL x⟩ 2) = some (.string ⟨⟨x.s⟩⟩) ∧
    calm Try.prog (Go.part 3 ⟨keyL x⟩ 3) = some (.int .i64 x.cnt) ∧ calm Try.prog (Go.part 38 ⟨keyL x⟩ 4) = some (.agg ⟨lvs4 x.l0 x.l1 x.l2 x.l3⟩) ∧ calm Try.prog (Go.part 108 ⟨keyL x⟩ 24) = some (.agg #[.int .i64 x.a, .int .i64 x.b, .int .i64 x.c]) := ⟨by kernel_rfl, by kernel_rfl, by kernel_rfl, by kernel_rfl, by kernel_rfl, by kernel_rfl⟩

theorem eqKey (x y : Ky) : calm Try.prog (Op.equal 110 (keyVal x) (keyVal y)) = some (decide (x = y)) := by
  have hd : decide (x = y) = ((x.k == y.k) && ((x.n == y.n) && (decide (x.s = y.s) && ((x.cnt == y.cnt) && ((decide (x.l0 = y.l0) && (decide (x.l1 = y.l1) && (decide (x.l2 = y.l2) && decide (x.l3 = y.l3)))) && ((x.a == y.a) && ((x.b == y.b) && (x.c == y.c)))))))) := by
    cases x; cases y
    rw [Bool.eq_iff_iff]
    simp only [Ky.mk.injEq, decide_eq_true_eq, Bool.and_eq_true, beq_iff_eq, and_assoc]
  rw [hd]
  unfold Op.equal Op.maxDepth Op.equalIn
  rw [calm_then, show calm Try.prog (underlying 110) = some (.struct #[{ name := "kind", type := 5, offset := 0, embedded := false, tag := "", pkgPath := "batten/arena", byteOffset := 0 }, { name := "n", type := 3, offset := 1, embedded := false, tag := "", pkgPath := "batten/arena", byteOffset := 8 }, { name := "s", type := 9, offset := 2, embedded := false, tag := "", pkgPath := "batten/arena", byteOffset := 16 }, { name := "levels", type := 3, offset := 3, embedded := false, tag := "", pkgPath := "batten/arena", byteOffset := 32 }, { name := "ls", type := 38, offset := 4, embedded := false, tag := "", pkgPath := "batten/arena", byteOffset := 40 }, { name := "kids", type := 108, offset := 24, embedded := false, tag := "", pkgPath := "batten/arena", byteOffset := 200 }]) from rfl]
  simp only [Option.bind]
  rw [calm_then, show calm Try.prog program = some Try.prog from rfl]
  simp only [Option.bind, show Try.prog.stoodInHeld 110 = false by kernel_rfl]
  obtain ⟨p0, p1, p2, p3, p4, p5⟩ := partsK x
  obtain ⟨q0, q1, q2, q3, q4, q5⟩ := partsK y
  have e0 := eq5 9998 x.k y.k
  have e1 := eq3 9998 x.n y.n
  have e2 := eq9 9998 x.s y.s
  have e3 := eq3 9998 x.cnt y.cnt
  have e4 := eq38 9995 x.l0 x.l1 x.l2 x.l3 y.l0 y.l1 y.l2 y.l3
  have e5 := eq108 9997 x.a x.b x.c y.a y.b y.c
  simp only [Nat.reduceAdd] at e0 e1 e2 e3 e4 e5
  generalize (x.k == y.k) = b0 at *
  generalize (x.n == y.n) = b1 at *
  generalize decide (x.s = y.s) = b2 at *
  generalize (x.cnt == y.cnt) = b3 at *
  generalize (decide (x.l0 = y.l0) && (decide (x.l1 = y.l1) && (decide (x.l2 = y.l2) && decide (x.l3 = y.l3)))) = b4 at *
  generalize ((x.a == y.a) && ((x.b == y.b) && (x.c == y.c))) = b5 at *
  cases b0 <;> cases b1 <;> cases b2 <;> cases b3 <;> cases b4 <;> cases b5 <;>
  simp [calm_then, calm_pure, p0, p1, p2, p3, p4, p5, q0, q1, q2, q3, q4, q5, e0, e1, e2, e3, e4, e5]

end Go.Ev

/- The arena: where a key is found; keyOf; of what is there (own work). -/
namespace Go.Ev
open Go.Proofs Go.RowKit
set_option maxRecDepth 100000
set_option linter.unusedSimpArgs false
set_option linter.unusedVariables false
set_option maxHeartbeats 1000000

@[reducible] noncomputable def keyC (x : Ky) : List V := [.int .u8 x.k, .int .i64 x.n, .str x.s, .int .i64 x.cnt,
  .int .i64 x.l0.c, .int .i64 x.l0.p0, .int .i64 x.l0.p1, .int .i64 x.l0.p2, .int .i64 x.l0.p3, .int .i64 x.l1.c, .int .i64 x.l1.p0, .int .i64 x.l1.p1, .int .i64 x.l1.p2, .int .i64 x.l1.p3,
  .int .i64 x.l2.c, .int .i64 x.l2.p0, .int .i64 x.l2.p1, .int .i64 x.l2.p2, .int .i64 x.l2.p3, .int .i64 x.l3.c, .int .i64 x.l3.p0, .int .i64 x.l3.p1, .int .i64 x.l3.p2, .int .i64 x.l3.p3,
  .int .i64 x.a, .int .i64 x.b, .int .i64 x.c]
@[reducible] noncomputable def keyV (x : Ky) : V := .agg (keyC x)

theorem flat_key (x : Ky) : flatV (keyV x) = some (keyVal x) := rfl

/-! ### Where a key is -/

noncomputable def mkE (x : Ky) : MapEntry := { key := keyVal x, val := .tuple #[], born := 0 }

noncomputable def ents : List Ky → Nat → List (V × V)
  | [], _ => []
  | x :: xs, i => (keyV x, .int .i64 (.ofNat i)) :: ents xs (i + 1)

theorem ents_of : ∀ (ks : List Ky) (i : Nat), allOf entryOf (ents ks i) = some (ks.map mkE)
  | [], i => by rw [ents]; rfl
  | x :: ks, i => by
    rw [ents, allOf_cons, ents_of ks (i + 1)]
    rfl

theorem ents_get : ∀ (ks : List Ky) (i j : Nat), j < ks.length → ∃ k, nth (ents ks i) j = some (k, .int .i64 (.ofNat (i + j)))
  | [], i, j, h => by simp at h
  | x :: ks, i, 0, h => by rw [ents]; exact ⟨_, rfl⟩
  | x :: ks, i, j + 1, h => by
    rw [ents]
    obtain ⟨k, hk⟩ := ents_get ks (i + 1) j (by simpa using h)
    exact ⟨k, by show nth (ents ks (i + 1)) j = _; rw [hk, show i + 1 + j = i + (j + 1) by omega]⟩

theorem ents_app : ∀ (ks : List Ky) (i : Nat) (x : Ky), appN (ents ks i) [(keyV x, .int .i64 (.ofNat (i + ks.length)))] = ents (ks ++ [x]) i
  | [], i, x => by rw [ents, List.nil_append, ents, ents]; rfl
  | k :: ks, i, x => by
    have := ents_app ks (i + 1) x
    rw [List.cons_append, ents, ents, ← this]
    show _ :: appN (ents ks (i + 1)) _ = _
    rw [show i + (k :: ks).length = i + 1 + ks.length by simp only [List.length_cons]; omega]

/-- The first place of a key. -/
noncomputable def idxK (k : Ky) : List Ky → Nat → Option Nat
  | [], _ => none
  | x :: xs, i => match decide (k = x) with
    | true => some i
    | false => idxK k xs (i + 1)

theorem checkKy (e : Bool) (x : Ky) : calm Try.prog (Instr.checkKey e 10000 110 (keyVal x)) = some () := by
  cases e <;> kernel_rfl

theorem askKy (k : Ky) : ∀ (ks : List Ky) (i : Nat), ∃ r, calm Try.prog (Instr.findAsking 110 (keyVal k) (ks.map mkE) i) = some r ∧ r.map (·.1) = idxK k ks i
  | [], i => ⟨none, rfl, by rw [idxK]; rfl⟩
  | x :: ks, i => by
    rw [List.map_cons]
    unfold Instr.findAsking
    rw [calm_then, show calm Try.prog (Op.equal 110 (keyVal k) (mkE x).key) = some (decide (k = x)) from eqKey k x, idxK]
    cases h : decide (k = x) with
    | true => exact ⟨some (i, (mkE x).val), rfl, rfl⟩
    | false =>
      obtain ⟨r, h1, h2⟩ := askKy k ks (i + 1)
      exact ⟨r, h1, h2⟩

theorem findKy (k : Ky) (ks : List Ky) : ∃ r, calm Try.prog (Instr.findKey 110 (keyVal k) (ks.map mkE)) = some r ∧ r.map (·.1) = idxK k ks 0 := by
  unfold Instr.findKey
  obtain ⟨d, hd⟩ : ∃ d, calm Try.prog (underlying 110) = some (.struct d) := ⟨_, rfl⟩
  rw [calm_then, hd]
  simp only [Option.bind]
  cases ks with
  | nil => exact ⟨none, rfl, by rw [idxK]; rfl⟩
  | cons x ks =>
    have e : Instr.findNow (.struct d) (keyVal k) ((x :: ks).map mkE) 0 = none := rfl
    rw [e]
    exact askKy k (x :: ks) 0

theorem findIn_ky (e : Bool) (k : Ky) (ks : List Ky) : findIn Try.cfg e 110 (keyVal k) (ks.map mkE) = some (idxK k ks 0) := by
  unfold findIn
  show calm Try.prog _ = _
  rw [calm_then, checkKy]
  simp only [Option.bind]
  obtain ⟨r, h1, h2⟩ := findKy k ks
  rw [calm_then, h1]
  simp only [Option.bind]
  rw [← h2]
  rfl

theorem idxK_lt {k : Ky} : ∀ {ks : List Ky} {i j : Nat}, idxK k ks i = some j → i ≤ j ∧ j < i + ks.length ∧ ks[j - i]? = some k
  | [], i, j, h => by rw [idxK] at h; cases h
  | x :: ks, i, j, h => by
    rw [idxK] at h
    split at h
    · rename_i hx
      cases h
      rw [decide_eq_true_eq] at hx
      subst hx
      refine ⟨Nat.le_refl _, by simp, by simp⟩
    · obtain ⟨h1, h2, h3⟩ := idxK_lt h
      refine ⟨by omega, by simp only [List.length_cons]; omega, ?_⟩
      rw [show j - i = (j - (i + 1)) + 1 by omega]
      simpa using h3

theorem idxK_none {k : Ky} : ∀ {ks : List Ky} {i : Nat}, idxK k ks i = none → k ∉ ks
  | [], i, h => by simp
  | x :: ks, i, h => by
    rw [idxK] at h
    split at h
    · cases h
    · rename_i hx
      rw [decide_eq_false_iff_not] at hx
      have := idxK_none h
      simp only [List.mem_cons, not_or]
      exact ⟨hx, this⟩

/-! ### The arena's memory -/

structure Nd where
  key : Ky
  kids : Nat
  size : Int
  deep : Int
  free : Int

@[reducible] noncomputable def ndC (x : Nd) : List V := [.int .u8 x.key.k, .int .i64 x.key.n, .str x.key.s, .int .i64 x.key.cnt,
  .int .i64 x.key.l0.c, .int .i64 x.key.l0.p0, .int .i64 x.key.l0.p1, .int .i64 x.key.l0.p2, .int .i64 x.key.l0.p3, .int .i64 x.key.l1.c, .int .i64 x.key.l1.p0, .int .i64 x.key.l1.p1, .int .i64 x.key.l1.p2, .int .i64 x.key.l1.p3,
  .int .i64 x.key.l2.c, .int .i64 x.key.l2.p0, .int .i64 x.key.l2.p1, .int .i64 x.key.l2.p2, .int .i64 x.key.l2.p3, .int .i64 x.key.l3.c, .int .i64 x.key.l3.p0, .int .i64 x.key.l3.p1, .int .i64 x.key.l3.p2, .int .i64 x.key.l3.p3,
  .int .i64 x.key.a, .int .i64 x.key.b, .int .i64 x.key.c, .int .i64 (.ofNat x.kids), .int .i64 x.size, .int .i64 x.deep, .int .i64 x.free]
@[reducible] noncomputable def ndV (x : Nd) : V := .agg (ndC x)

noncomputable def szN {α : Type} : List α → Nat
  | [] => 0
  | _ :: _ => 31

noncomputable def arS (ns : List Nd) (tok : Tok) (J : List Blk) (T : List Nat) : St :=
  { heap := .map 104 (ents (ns.map Nd.key) 0) :: .cells 107 [.list (szN ns) tok 0 (ns.map ndV), .map 0] :: J, toks := T }

theorem look_yes {ns : List Nd} {tok : Tok} {J : List Blk} {T : List Nat} {ac : Acc} {k : Ky} {j : Nat} (hac : ac.heap = true) (h : idxK k (ns.map Nd.key) 0 = some j) :
    lookup Try.cfg (arS ns tok J T) ac 104 (.map 0) (keyV k) true = some (.tuple [.int .i64 (.ofNat j), .bool true]) := by
  have e1 : entsAt (arS ns tok J T) ac (.map 0) = some (ents (ns.map Nd.key) 0) := by unfold entsAt; rw [hac]; rfl
  have hf := findIn_ky ((ns.map Nd.key).map mkE).isEmpty k (ns.map Nd.key)
  rw [h] at hf
  obtain ⟨_, h2, _⟩ := idxK_lt h
  obtain ⟨k', hk'⟩ := ents_get (ns.map Nd.key) 0 j (by omega)
  rw [Nat.zero_add] at hk'
  unfold lookup
  rw [show Try.cfg.ti 104 = some { kind := .map 110 3, size := 1, bytes := 8, zero := [.nilm] } from rfl]
  simp only
  rw [flat_key, e1]
  simp only
  rw [ents_of]
  simp only
  rw [hf]
  simp only
  rw [hk']
  rfl

theorem look_no {ns : List Nd} {tok : Tok} {J : List Blk} {T : List Nat} {ac : Acc} {k : Ky} (hac : ac.heap = true) (h : idxK k (ns.map Nd.key) 0 = none) :
    lookup Try.cfg (arS ns tok J T) ac 104 (.map 0) (keyV k) true = some (.tuple [.int .i64 0, .bool false]) := by
  have e1 : entsAt (arS ns tok J T) ac (.map 0) = some (ents (ns.map Nd.key) 0) := by unfold entsAt; rw [hac]; rfl
  have hf := findIn_ky ((ns.map Nd.key).map mkE).isEmpty k (ns.map Nd.key)
  rw [h] at hf
  unfold lookup
  rw [show Try.cfg.ti 104 = some { kind := .map 110 3, size := 1, bytes := 8, zero := [.nilm] } from rfl]
  simp only
  rw [flat_key, e1]
  simp only
  rw [ents_of]
  simp only
  rw [hf]
  rfl

theorem up_new {ns : List Nd} {tok : Tok} {J : List Blk} {T : List Nat} {ac : Acc} {k : Ky} (hac : ac.heap = true) (h : idxK k (ns.map Nd.key) 0 = none) :
    mapUp Try.cfg (arS ns tok J T) ac 104 (.map 0) (keyV k) (.int .i64 (.ofNat ns.length)) = some { heap := .map 104 (ents ((ns.map Nd.key) ++ [k]) 0) :: .cells 107 [.list (szN ns) tok 0 (ns.map ndV), .map 0] :: J, toks := T } := by
  have e1 : entsAt (arS ns tok J T) ac (.map 0) = some (ents (ns.map Nd.key) 0) := by unfold entsAt; rw [hac]; rfl
  have hf := findIn_ky false k (ns.map Nd.key)
  rw [h] at hf
  have ea := ents_app (ns.map Nd.key) 0 k
  rw [Nat.zero_add, List.length_map] at ea
  unfold mapUp
  rw [show Try.cfg.ti 104 = some { kind := .map 110 3, size := 1, bytes := 8, zero := [.nilm] } from rfl]
  simp only
  rw [flat_key, e1, show flatV (.int .i64 (.ofNat ns.length)) = some (.int .i64 (.ofNat ns.length)) from rfl]
  simp only
  rw [ents_of]
  simp only
  rw [hf]
  simp only
  rw [← ea]
  rfl

/-! ### keyOf -/

noncomputable def lvAt (ls : List Lv) (i : Nat) : Lv := (ls[i]?).getD ⟨0, 0, 0, 0, 0⟩
noncomputable def kyOf (t : Tm) (a b c : Int) : Ky := ⟨t.k, t.n, t.s, .ofNat t.ls.length, lvAt t.ls 0, lvAt t.ls 1, lvAt t.ls 2, lvAt t.ls 3, a, b, c⟩

@[reducible] noncomputable def arr3 (a b c : Int) : V := .agg [.int .i64 a, .int .i64 b, .int .i64 c]

theorem f105_ok (n : Nat) (t : Tm) (a b c : Int) (S : St) (h : t.ls.length ≤ 4) : run Try.cfg (n + 1) (.f 105) [encA t, arr3 a b c] S = some (keyV (kyOf t a b c), S) := by
  have : ∃ S', frame Try.cfg (run Try.cfg n) n 105 [encA t, arr3 a b c] St.empty = some (keyV (kyOf t a b c), S') := by
    obtain ⟨k, nn, s, fa, fb, fc, fd, ls, ts⟩ := t
    match ls, h with
    | [], _ => refine frame_ex Try.cfg _ (fn := Try.f105) rfl rfl ?_; exact ⟨_, rfl⟩
    | [x0], _ => refine frame_ex Try.cfg _ (fn := Try.f105) rfl rfl ?_; exact ⟨_, rfl⟩
    | [x0, x1], _ => refine frame_ex Try.cfg _ (fn := Try.f105) rfl rfl ?_; exact ⟨_, rfl⟩
    | [x0, x1, x2], _ => refine frame_ex Try.cfg _ (fn := Try.f105) rfl rfl ?_; exact ⟨_, rfl⟩
    | [x0, x1, x2, x3], _ => refine frame_ex Try.cfg _ (fn := Try.f105) rfl rfl ?_; exact ⟨_, rfl⟩
    | _ :: _ :: _ :: _ :: _ :: _, h => simp only [Tm.ls, List.length_cons] at h; omega
  obtain ⟨S', this⟩ := this
  refine run_val (v := keyV (kyOf t a b c)) (S' := S') ?_ rfl rfl rfl rfl rfl
  rw [show mapN V.strip [encA t, arr3 a b c] = [encA t, arr3 a b c] from strips_t t [arr3 a b c]]
  exact this

/-! ### Of what is there -/

theorem f50_ok (m : Nat) (ns : List Nd) (tok : Tok) (J : List Blk) (T : List Nat) : run Try.cfg (m + 1) (.f 50) [.ptr (.box 1) 0] (arS ns tok J T) = some (.int .i64 (.ofNat (lenN (ns.map ndV))), arS ns tok J T) := by
  refine run_here rfl ?_
  refine frame_of Try.cfg _ (fn := Try.f50) rfl rfl ?_
  refine WOut.mk _ rfl ?_
  rfl

theorem f97_ok (m : Nat) (ns : List Nd) (tok : Tok) (J : List Blk) (T : List Nat) (i : Int) : run Try.cfg (m + 1) (.f 97) [.ptr (.box 1) 0, .int .i64 i] (arS ns tok J T) = some (.int .i64 (bif iLt i 0 || !iLt i (.ofNat (lenN (ns.map ndV))) then 6 else 0), arS ns tok J T) := by
  refine run_here rfl ?_
  refine frame_of Try.cfg _ (fn := Try.f97) rfl rfl ?_
  refine WOut.mk _ rfl ?_
  refine WCmp.mk (fun h => ?_) (fun h => ?_)
  · rw [h]; rfl
  · rw [h]
    refine WCmp.mk (fun h2 => ?_) (fun h2 => ?_)
    · simp only [Bool.false_or]
      rw [h2]; rfl
    · simp only [Bool.false_or]
      rw [h2]; rfl

end Go.Ev

/- The arena: a term is added (written by tne.py; own work). -/
namespace Go.Ev
open Go.Proofs Go.RowKit
set_option maxRecDepth 100000
set_option linter.unusedSimpArgs false
set_option linter.unusedVariables false
set_option maxHeartbeats 4000000

theorem f128_ok (n : Nat) (k i : Int) (S : St) : run Try.cfg (n + 1) (.f 128) [.int .u8 k, .int .i64 i] S = some (.int .i64 (bindsF k i), S) := by
  have : frame Try.cfg (run Try.cfg n) n 128 [.int .u8 k, .int .i64 i] St.empty = some (.int .i64 (bindsF k i), St.empty) := by
    refine frame_of Try.cfg _ (fn := Try.f128) rfl rfl ?_
    refine WCmp.mk (fun h5 => ?_) (fun h5 => ?_)
    · refine WCmp.mk (fun h1 => ?_) (fun h1 => ?_)
      · exact rfI (by simp [bindsF, h5, h1])
      · refine WCmp.mk (fun h7 => ?_) (fun h7 => ?_)
        · refine WCmp.mk (fun h2 => ?_) (fun h2 => ?_)
          · exact rfI (by simp [bindsF, h5, h1, h7, h2])
          · exact rfI (by simp [bindsF, h5, h1, h7, h2])
        · exact rfI (by simp [bindsF, h5, h1, h7])
    · refine WCmp.mk (fun h6 => ?_) (fun h6 => ?_)
      · refine WCmp.mk (fun h1 => ?_) (fun h1 => ?_)
        · exact rfI (by simp [bindsF, h5, h6, h1])
        · refine WCmp.mk (fun h7 => ?_) (fun h7 => ?_)
          · refine WCmp.mk (fun h2 => ?_) (fun h2 => ?_)
            · exact rfI (by simp [bindsF, h5, h6, h1, h7, h2])
            · exact rfI (by simp [bindsF, h5, h6, h1, h7, h2])
          · exact rfI (by simp [bindsF, h5, h6, h1, h7])
      · refine WCmp.mk (fun h7 => ?_) (fun h7 => ?_)
        · refine WCmp.mk (fun h2 => ?_) (fun h2 => ?_)
          · exact rfI (by simp [bindsF, h5, h6, h7, h2])
          · exact rfI (by simp [bindsF, h5, h6, h7, h2])
        · exact rfI (by simp [bindsF, h5, h6, h7])
  exact run_val this rfl rfl rfl rfl rfl

theorem nds_len (ns : List Nd) : lenN (ns.map ndV) = ns.length := by rw [lenN_eq, List.length_map]

theorem index105 {ns : List Nd} {tok : Tok} {j : Nat} {x : Nd} (h : ns[j]? = some x) : indexAddr Try.cfg 105 (.list (szN ns) tok 0 (ns.map ndV)) (.int .i64 (.ofNat j)) = some (.imm 0 (ndC x)) := by
  have hj : j < ns.length := (List.getElem?_eq_some_iff.1 h).1
  have hs : szN ns = 31 := by
    cases ns with
    | nil => simp at h
    | cons y l => rfl
  rw [hs]
  show (match below (.int .i64 (.ofNat j)) (lenN (ns.map ndV)) with
    | some i => match nth (ns.map ndV) i with
      | some r => bif Nat.beq 31 31 then some (V.imm 0 r.cells) else none
      | none => none
    | none => none) = _
  rw [nds_len, below_of hj]
  simp only
  rw [nth_eq, List.getElem?_map, h]
  rfl

/-- What becomes of tokens, where a list grows. -/
structure Tk (T : List Nat) (tok : Tok) (T' : List Nat) (tok' : Tok) : Prop where
  le : T.length ≤ T'.length
  keep : ∀ u v, tok ≠ .own u → nth T u = some v → nth T' u = some v
  tok : tok' = tok ∨ (tok = .tight ∧ ∃ u, tok' = .own u ∧ T.length ≤ u)

theorem Tk.refl (T : List Nat) (tok : Tok) : Tk T tok T tok := ⟨Nat.le_refl _, fun _ _ _ h => h, .inl rfl⟩
theorem Tk.other {T T' : List Nat} {tok tok' : Tok} (h : Tk T tok T' tok') {u v : Nat} (hu : tok ≠ .own u) (hv : nth T u = some v) : tok' ≠ .own u := by
  rcases h.tok with e | ⟨_, w, e, hw⟩
  · rw [e]; exact hu
  · rw [e]
    intro e2
    cases e2
    have := nth_len hv
    omega
theorem Tk.trans {T T' T'' : List Nat} {tok tok' tok'' : Tok} (h : Tk T tok T' tok') (k : Tk T' tok' T'' tok'') : Tk T tok T'' tok'' := by
  refine ⟨Nat.le_trans h.le k.le, fun u v hu hv => k.keep u v (h.other hu hv) (h.keep u v hu hv), ?_⟩
  rcases h.tok with e | ⟨e, w, e2, hw⟩
  · rw [← e]
    rcases k.tok with e2 | ⟨e2, w, e3, hw⟩
    · exact .inl e2
    · exact .inr ⟨e2, w, e3, Nat.le_trans h.le hw⟩
  · right
    rcases k.tok with e3 | ⟨e3, w', e4, hw'⟩
    · exact ⟨e, w, by rw [e3, e2], hw⟩
    · rw [e2] at e3; cases e3

theorem app105 {T0 T : List Nat} {ac : Acc} {ns : List Nd} {tok : Tok} (hac : ac.heap = true) (hg : GrowsT T0 T ns tok) (hlen : ns.length < 1000000000) :
    ∃ T' tok', ∀ (nd : Nd) (A : Env) (H : List Blk), append Try.cfg A { heap := H, toks := T } ac 105 (.list (szN ns) tok 0 (ns.map ndV)) (.list 31 .tight 0 [ndV nd]) = some (.list (szN (ns ++ [nd])) tok' 0 ((ns ++ [nd]).map ndV), { heap := H, toks := T' }) ∧
      GrowsT T0 T' (ns ++ [nd]) tok' ∧ Tk T tok T' tok' := by
  obtain ⟨h0, hg⟩ := hg
  rcases hg with ⟨rfl, rfl⟩ | ⟨t, rfl, h1, h2, h3⟩
  · refine ⟨appN T [1], .own (lenN T), fun nd A H => ⟨?_, ⟨⟨?_, ?_⟩, .inr ⟨_, rfl, ?_, ?_, by simp⟩⟩, ⟨by rw [appN_eq]; simp, fun u v _ hv => ?_, .inr ⟨rfl, _, rfl, by rw [lenN_eq]; exact Nat.le_refl _⟩⟩⟩⟩
    · show (ite _ _ _) = _
      refine (if_pos ?_).trans ?_
      · exact (⟨by omega, .inl rfl, by omega, hac⟩ : 0 < 31 ∧ (true = true ∨ 0 = 31) ∧ (0 + 1) * 257 ≤ 140737488355328 ∧ ac.heap = true)
      · rfl
    · rw [appN_eq]; have := h0.1; simp; omega
    · intro t v hv
      have hv' := h0.2 t v hv
      rw [nth_eq] at hv'
      rw [appN_eq, nth_eq, List.getElem?_append_left (List.getElem?_eq_some_iff.1 hv').1]; exact hv'
    · rw [lenN_eq]; exact h0.1
    · rw [appN_eq, nth_eq, lenN_eq, List.getElem?_append_right (Nat.le_refl _), Nat.sub_self]; rfl
    · have := nth_len hv
      rw [nth_eq] at hv
      rw [appN_eq, nth_eq, List.getElem?_append_left this]; exact hv
  · have hsz : szN ns = 31 := by
      cases ns with
      | nil => exact absurd rfl h3
      | cons d ds => rfl
    have hsz2 : ∀ nd, szN (ns ++ [nd]) = 31 := fun nd => by
      cases ns with
      | nil => exact absurd rfl h3
      | cons d ds => rfl
    refine ⟨setN T t (lenN (ns.map ndV) + 1), .own t, fun nd A H => ⟨?_, ⟨⟨?_, ?_⟩, .inr ⟨t, rfl, h1, ?_, by simp⟩⟩, ⟨by rw [setN_eq]; simp, fun u v hu hv => ?_, .inl rfl⟩⟩⟩
    · rw [hsz, hsz2]
      show (ite _ _ _) = _
      refine (if_pos ?_).trans ?_
      · exact (⟨by omega, .inr rfl, by rw [nds_len]; omega, hac⟩ : 0 < 31 ∧ ((ns.map ndV).isEmpty = true ∨ 31 = 31) ∧ (lenN (ns.map ndV) + 1) * 257 ≤ 140737488355328 ∧ ac.heap = true)
      show (ite _ _ _) = _
      refine (if_pos ?_).trans ?_
      · show nth T t = some (lenN (ns.map ndV))
        rw [nds_len]; exact h2
      · rw [show (ns ++ [nd]).map ndV = appN (ns.map ndV) [ndV nd] by rw [appN_eq, List.map_append]; rfl]
        rfl
    · rw [setN_eq, List.length_set]; exact h0.1
    · intro t' v hv
      have := nth_len hv
      rw [setN_eq, nth_eq, List.getElem?_set_ne (by omega), ← nth_eq]; exact h0.2 t' v hv
    · rw [setN_eq, nth_eq, List.getElem?_set_self (by exact nth_len h2), nds_len]; simp
    · have hne : t ≠ u := fun e => hu (by rw [e])
      rw [setN_eq, nth_eq, List.getElem?_set_ne hne, ← nth_eq]; exact hv

theorem arS_app {ns : List Nd} {nd : Nd} {tok : Tok} {J : List Blk} {T : List Nat} {v : V} :
    (v, ({ heap := .map 104 (ents (ns.map Nd.key ++ [nd.key]) 0) :: .cells 107 [.list (szN (ns ++ [nd])) tok 0 ((ns ++ [nd]).map ndV), .map 0] :: J, toks := T } : St)) = (v, arS (ns ++ [nd]) tok J T) := by
  unfold arS
  rw [show (ns ++ [nd]).map Nd.key = ns.map Nd.key ++ [nd.key] by rw [List.map_append]; rfl]

theorem arS_app' {ns : List Nd} {key : Ky} {kids : Nat} {sz dp fr : Int} {tok : Tok} {J : List Blk} {T : List Nat} {v : V} :
    (v, ({ heap := .map 104 (ents (ns.map Nd.key ++ [key]) 0) :: .cells 107 [.list (szN (ns ++ [(⟨key, kids, sz, dp, fr⟩ : Nd)])) tok 0 ((ns ++ [(⟨key, kids, sz, dp, fr⟩ : Nd)]).map ndV), .map 0] :: J, toks := T } : St)) = (v, arS (ns ++ [(⟨key, kids, sz, dp, fr⟩ : Nd)]) tok J T) := arS_app (nd := ⟨key, kids, sz, dp, fr⟩)

theorem subLen {T : Nat} {ns : List Nd} {nd : Nd} (h : ns.length < 1000000000) : binOp Try.cfg .sub T (.int .i64 (.ofNat (lenN ((ns ++ [nd]).map ndV)))) (.int .i64 1) = some (.int .i64 (.ofNat ns.length)) := by
  rw [nds_len, List.length_append]
  exact subOne (by omega)

theorem addS {T : Nat} {a b : Int} : binOp Try.cfg .add T (.int .i64 a) (.int .i64 b) = some (.int .i64 (addW a b)) := rfl

/-- What comes of an add. -/
def Added (N : Nat) (t : Tm) (m : Nat) (a b c : Int) (ns : List Nd) (tok : Tok) (J : List Blk) (T0 T : List Nat) : Prop :=
  (∀ j, idxK (kyOf t a b c) (ns.map Nd.key) 0 = some j → run Try.cfg N (.f 120) [.ptr (.box 1) 0, encA t, arr3 a b c] (arS ns tok J T) = some (.int .i64 (.ofNat j), arS ns tok J T)) ∧
  (idxK (kyOf t a b c) (ns.map Nd.key) 0 = none → ∃ nd T' tok', nd.key = kyOf t a b c ∧ nd.kids = m ∧ GrowsT T0 T' (ns ++ [nd]) tok' ∧ Tk T tok T' tok' ∧
    run Try.cfg N (.f 120) [.ptr (.box 1) 0, encA t, arr3 a b c] (arS ns tok J T) = some (.int .i64 (.ofNat ns.length), arS (ns ++ [nd]) tok' J T'))

theorem f120_0 (N : Nat) (k n : Int) (s : List UInt8) (fa fb fc fd : Bool) (ls : List Lv) (hls : ls.length ≤ 4) (ns : List Nd) (tok : Tok) (J : List Blk) (T0 T : List Nat) (hg : GrowsT T0 T ns tok) (hlen : ns.length < 200000) :
    Added (N + 10) (.mk k n s fa fb fc fd ls []) 0 0 0 0 ns tok J T0 T := by
  have h105 := f105_ok (N + 8) (.mk k n s fa fb fc fd ls []) 0 0 0 (arS ns tok J T) hls
  refine ⟨fun j hj => ?_, fun hno => ?_⟩
  · refine run_here rfl ?_
    refine frame_of Try.cfg _ (fn := Try.f120) rfl rfl ?_
    refine WCall.mk _ _ h105 ?_
    refine WOut.mk _ (look_yes rfl hj) ?_
    rfl
  · have key : ∃ r, frame Try.cfg (run Try.cfg (N + 9)) (N + 9) 120 [.ptr (.box 1) 0, encA (.mk k n s fa fb fc fd ls []), arr3 0 0 0] (arS ns tok J T) = some r ∧
        ∃ nd T' tok', nd.key = kyOf (.mk k n s fa fb fc fd ls []) 0 0 0 ∧ nd.kids = 0 ∧ GrowsT T0 T' (ns ++ [nd]) tok' ∧ Tk T tok T' tok' ∧ r = (.int .i64 (.ofNat ns.length), arS (ns ++ [nd]) tok' J T') := by
      obtain ⟨T1, tok1, hap⟩ := app105 (ac := ⟨false, none, true⟩) rfl hg (by omega)
      refine frame_some (fn := Try.f120) rfl rfl ?_
      refine WCall.mk _ _ h105 ?_
      refine WOut.mk _ (look_no rfl hno) ?_
      refine WCmp.no (by rw [nds_len]; show (!iLt (.ofNat ns.length) 262144) = false; rw [Bool.not_eq_false', iLt_iff]; simp only [Int.ofNat_eq_natCast]; omega) ?_
      refine WCmp.mk (fun hk => ?_) (fun hk => ?_)
      · refine WOut.mk _ addS ?_
        refine WCode.round (nt := 117) (fx := []) ?_
        refine WCmp.no rfl ?_
        refine WOut.mk _ addS ?_
        refine WSt.mk _ (by rw [nds_len]; exact up_new rfl hno) ?_
        refine WApp.mk _ _ ((append_env rfl).trans (hap ⟨kyOf (.mk k n s fa fb fc fd ls []) 0 0 0, 0, _, _, _⟩ { nt := 0, tmps := [], locs := [], fix := [] } _).1) ?_
        refine WOut.mk _ (subLen (by omega)) ?_
        refine ⟨_, rfl, ?_⟩
        exact ⟨⟨kyOf (.mk k n s fa fb fc fd ls []) 0 0 0, 0, _, _, _⟩, T1, tok1, rfl, rfl, (hap _ { nt := 0, tmps := [], locs := [], fix := [] } []).2.1, (hap ⟨kyOf (.mk k n s fa fb fc fd ls []) 0 0 0, 0, 0, 0, 0⟩ { nt := 0, tmps := [], locs := [], fix := [] } []).2.2, arS_app' (ns := ns) (tok := tok1) (J := J) (T := T1) (key := kyOf (.mk k n s fa fb fc fd ls []) 0 0 0) (kids := 0)⟩
      · refine WCode.round (nt := 117) (fx := []) ?_
        refine WCmp.no rfl ?_
        refine WOut.mk _ addS ?_
        refine WSt.mk _ (by rw [nds_len]; exact up_new rfl hno) ?_
        refine WApp.mk _ _ ((append_env rfl).trans (hap ⟨kyOf (.mk k n s fa fb fc fd ls []) 0 0 0, 0, _, _, _⟩ { nt := 0, tmps := [], locs := [], fix := [] } _).1) ?_
        refine WOut.mk _ (subLen (by omega)) ?_
        refine ⟨_, rfl, ?_⟩
        exact ⟨⟨kyOf (.mk k n s fa fb fc fd ls []) 0 0 0, 0, _, _, _⟩, T1, tok1, rfl, rfl, (hap _ { nt := 0, tmps := [], locs := [], fix := [] } []).2.1, (hap ⟨kyOf (.mk k n s fa fb fc fd ls []) 0 0 0, 0, 0, 0, 0⟩ { nt := 0, tmps := [], locs := [], fix := [] } []).2.2, arS_app' (ns := ns) (tok := tok1) (J := J) (T := T1) (key := kyOf (.mk k n s fa fb fc fd ls []) 0 0 0) (kids := 0)⟩
    obtain ⟨r, h1, nd, T', tok', h2, h3, h4, h5, rfl⟩ := key
    exact ⟨nd, T', tok', h2, h3, h4, h5, run_here rfl h1⟩

theorem f120_1 (N : Nat) (k n : Int) (s : List UInt8) (fa fb fc fd : Bool) (ls : List Lv) (x0 : Tm) (hls : ls.length ≤ 4) (ns : List Nd) (tok : Tok) (J : List Blk) (T0 T : List Nat) (hg : GrowsT T0 T ns tok) (hlen : ns.length < 200000) (i0 : Nat) (h0 : i0 < ns.length) :
    Added (N + 10) (.mk k n s fa fb fc fd ls [x0]) 1 (.ofNat i0) 0 0 ns tok J T0 T := by
  obtain ⟨y0, hy0⟩ : ∃ y, ns[i0]? = some y := ⟨ns[i0], List.getElem?_eq_getElem h0⟩
  have h105 := f105_ok (N + 8) (.mk k n s fa fb fc fd ls [x0]) (.ofNat i0) 0 0 (arS ns tok J T) hls
  refine ⟨fun j hj => ?_, fun hno => ?_⟩
  · refine run_here rfl ?_
    refine frame_of Try.cfg _ (fn := Try.f120) rfl rfl ?_
    refine WCall.mk _ _ h105 ?_
    refine WOut.mk _ (look_yes rfl hj) ?_
    rfl
  · have key : ∃ r, frame Try.cfg (run Try.cfg (N + 9)) (N + 9) 120 [.ptr (.box 1) 0, encA (.mk k n s fa fb fc fd ls [x0]), arr3 (.ofNat i0) 0 0] (arS ns tok J T) = some r ∧
        ∃ nd T' tok', nd.key = kyOf (.mk k n s fa fb fc fd ls [x0]) (.ofNat i0) 0 0 ∧ nd.kids = 1 ∧ GrowsT T0 T' (ns ++ [nd]) tok' ∧ Tk T tok T' tok' ∧ r = (.int .i64 (.ofNat ns.length), arS (ns ++ [nd]) tok' J T') := by
      obtain ⟨T1, tok1, hap⟩ := app105 (ac := ⟨false, none, true⟩) rfl hg (by omega)
      refine frame_some (fn := Try.f120) rfl rfl ?_
      refine WCall.mk _ _ h105 ?_
      refine WOut.mk _ (look_no rfl hno) ?_
      refine WCmp.no (by rw [nds_len]; show (!iLt (.ofNat ns.length) 262144) = false; rw [Bool.not_eq_false', iLt_iff]; simp only [Int.ofNat_eq_natCast]; omega) ?_
      refine WCmp.mk (fun hk => ?_) (fun hk => ?_)
      · refine WOut.mk _ addS ?_
        refine WCode.round (nt := 117) (fx := []) ?_
        refine WCmp.yes rfl ?_
        refine WOut.mk _ rfl ?_
        refine WOut.mk _ (index105 hy0) ?_
        refine WOut.mk _ addS ?_
        refine WCall.mk _ _ (f128_ok (N + 8) k 0 _) ?_
        refine WOut.mk _ rfl ?_
        refine WOut.mk _ rfl ?_
        refine WCode.round (nt := 117) (fx := []) ?_
        refine WCmp.no rfl ?_
        refine WOut.mk _ addS ?_
        refine WSt.mk _ (by rw [nds_len]; exact up_new rfl hno) ?_
        refine WApp.mk _ _ ((append_env rfl).trans (hap ⟨kyOf (.mk k n s fa fb fc fd ls [x0]) (.ofNat i0) 0 0, 1, _, _, _⟩ { nt := 0, tmps := [], locs := [], fix := [] } _).1) ?_
        refine WOut.mk _ (subLen (by omega)) ?_
        refine ⟨_, rfl, ?_⟩
        exact ⟨⟨kyOf (.mk k n s fa fb fc fd ls [x0]) (.ofNat i0) 0 0, 1, _, _, _⟩, T1, tok1, rfl, rfl, (hap _ { nt := 0, tmps := [], locs := [], fix := [] } []).2.1, (hap ⟨kyOf (.mk k n s fa fb fc fd ls [x0]) (.ofNat i0) 0 0, 1, 0, 0, 0⟩ { nt := 0, tmps := [], locs := [], fix := [] } []).2.2, arS_app' (ns := ns) (tok := tok1) (J := J) (T := T1) (key := kyOf (.mk k n s fa fb fc fd ls [x0]) (.ofNat i0) 0 0) (kids := 1)⟩
      · refine WCode.round (nt := 117) (fx := []) ?_
        refine WCmp.yes rfl ?_
        refine WOut.mk _ rfl ?_
        refine WOut.mk _ (index105 hy0) ?_
        refine WOut.mk _ addS ?_
        refine WCall.mk _ _ (f128_ok (N + 8) k 0 _) ?_
        refine WOut.mk _ rfl ?_
        refine WOut.mk _ rfl ?_
        refine WCode.round (nt := 117) (fx := []) ?_
        refine WCmp.no rfl ?_
        refine WOut.mk _ addS ?_
        refine WSt.mk _ (by rw [nds_len]; exact up_new rfl hno) ?_
        refine WApp.mk _ _ ((append_env rfl).trans (hap ⟨kyOf (.mk k n s fa fb fc fd ls [x0]) (.ofNat i0) 0 0, 1, _, _, _⟩ { nt := 0, tmps := [], locs := [], fix := [] } _).1) ?_
        refine WOut.mk _ (subLen (by omega)) ?_
        refine ⟨_, rfl, ?_⟩
        exact ⟨⟨kyOf (.mk k n s fa fb fc fd ls [x0]) (.ofNat i0) 0 0, 1, _, _, _⟩, T1, tok1, rfl, rfl, (hap _ { nt := 0, tmps := [], locs := [], fix := [] } []).2.1, (hap ⟨kyOf (.mk k n s fa fb fc fd ls [x0]) (.ofNat i0) 0 0, 1, 0, 0, 0⟩ { nt := 0, tmps := [], locs := [], fix := [] } []).2.2, arS_app' (ns := ns) (tok := tok1) (J := J) (T := T1) (key := kyOf (.mk k n s fa fb fc fd ls [x0]) (.ofNat i0) 0 0) (kids := 1)⟩
    obtain ⟨r, h1, nd, T', tok', h2, h3, h4, h5, rfl⟩ := key
    exact ⟨nd, T', tok', h2, h3, h4, h5, run_here rfl h1⟩

theorem f120_2 (N : Nat) (k n : Int) (s : List UInt8) (fa fb fc fd : Bool) (ls : List Lv) (x0 x1 : Tm) (hls : ls.length ≤ 4) (ns : List Nd) (tok : Tok) (J : List Blk) (T0 T : List Nat) (hg : GrowsT T0 T ns tok) (hlen : ns.length < 200000) (i0 : Nat) (h0 : i0 < ns.length) (i1 : Nat) (h1 : i1 < ns.length) :
    Added (N + 10) (.mk k n s fa fb fc fd ls [x0, x1]) 2 (.ofNat i0) (.ofNat i1) 0 ns tok J T0 T := by
  obtain ⟨y0, hy0⟩ : ∃ y, ns[i0]? = some y := ⟨ns[i0], List.getElem?_eq_getElem h0⟩
  obtain ⟨y1, hy1⟩ : ∃ y, ns[i1]? = some y := ⟨ns[i1], List.getElem?_eq_getElem h1⟩
  have h105 := f105_ok (N + 8) (.mk k n s fa fb fc fd ls [x0, x1]) (.ofNat i0) (.ofNat i1) 0 (arS ns tok J T) hls
  refine ⟨fun j hj => ?_, fun hno => ?_⟩
  · refine run_here rfl ?_
    refine frame_of Try.cfg _ (fn := Try.f120) rfl rfl ?_
    refine WCall.mk _ _ h105 ?_
    refine WOut.mk _ (look_yes rfl hj) ?_
    rfl
  · have key : ∃ r, frame Try.cfg (run Try.cfg (N + 9)) (N + 9) 120 [.ptr (.box 1) 0, encA (.mk k n s fa fb fc fd ls [x0, x1]), arr3 (.ofNat i0) (.ofNat i1) 0] (arS ns tok J T) = some r ∧
        ∃ nd T' tok', nd.key = kyOf (.mk k n s fa fb fc fd ls [x0, x1]) (.ofNat i0) (.ofNat i1) 0 ∧ nd.kids = 2 ∧ GrowsT T0 T' (ns ++ [nd]) tok' ∧ Tk T tok T' tok' ∧ r = (.int .i64 (.ofNat ns.length), arS (ns ++ [nd]) tok' J T') := by
      obtain ⟨T1, tok1, hap⟩ := app105 (ac := ⟨false, none, true⟩) rfl hg (by omega)
      refine frame_some (fn := Try.f120) rfl rfl ?_
      refine WCall.mk _ _ h105 ?_
      refine WOut.mk _ (look_no rfl hno) ?_
      refine WCmp.no (by rw [nds_len]; show (!iLt (.ofNat ns.length) 262144) = false; rw [Bool.not_eq_false', iLt_iff]; simp only [Int.ofNat_eq_natCast]; omega) ?_
      refine WCmp.mk (fun hk => ?_) (fun hk => ?_)
      · refine WOut.mk _ addS ?_
        refine WCode.round (nt := 117) (fx := []) ?_
        refine WCmp.yes rfl ?_
        refine WOut.mk _ rfl ?_
        refine WOut.mk _ (index105 hy0) ?_
        refine WOut.mk _ addS ?_
        refine WCall.mk _ _ (f128_ok (N + 8) k 0 _) ?_
        refine WOut.mk _ rfl ?_
        refine WOut.mk _ rfl ?_
        refine WCode.round (nt := 117) (fx := []) ?_
        refine WCmp.yes rfl ?_
        refine WOut.mk _ rfl ?_
        refine WOut.mk _ (index105 hy1) ?_
        refine WOut.mk _ addS ?_
        refine WCall.mk _ _ (f128_ok (N + 8) k 1 _) ?_
        refine WOut.mk _ rfl ?_
        refine WOut.mk _ rfl ?_
        refine WCode.round (nt := 117) (fx := []) ?_
        refine WCmp.no rfl ?_
        refine WOut.mk _ addS ?_
        refine WSt.mk _ (by rw [nds_len]; exact up_new rfl hno) ?_
        refine WApp.mk _ _ ((append_env rfl).trans (hap ⟨kyOf (.mk k n s fa fb fc fd ls [x0, x1]) (.ofNat i0) (.ofNat i1) 0, 2, _, _, _⟩ { nt := 0, tmps := [], locs := [], fix := [] } _).1) ?_
        refine WOut.mk _ (subLen (by omega)) ?_
        refine ⟨_, rfl, ?_⟩
        exact ⟨⟨kyOf (.mk k n s fa fb fc fd ls [x0, x1]) (.ofNat i0) (.ofNat i1) 0, 2, _, _, _⟩, T1, tok1, rfl, rfl, (hap _ { nt := 0, tmps := [], locs := [], fix := [] } []).2.1, (hap ⟨kyOf (.mk k n s fa fb fc fd ls [x0, x1]) (.ofNat i0) (.ofNat i1) 0, 2, 0, 0, 0⟩ { nt := 0, tmps := [], locs := [], fix := [] } []).2.2, arS_app' (ns := ns) (tok := tok1) (J := J) (T := T1) (key := kyOf (.mk k n s fa fb fc fd ls [x0, x1]) (.ofNat i0) (.ofNat i1) 0) (kids := 2)⟩
      · refine WCode.round (nt := 117) (fx := []) ?_
        refine WCmp.yes rfl ?_
        refine WOut.mk _ rfl ?_
        refine WOut.mk _ (index105 hy0) ?_
        refine WOut.mk _ addS ?_
        refine WCall.mk _ _ (f128_ok (N + 8) k 0 _) ?_
        refine WOut.mk _ rfl ?_
        refine WOut.mk _ rfl ?_
        refine WCode.round (nt := 117) (fx := []) ?_
        refine WCmp.yes rfl ?_
        refine WOut.mk _ rfl ?_
        refine WOut.mk _ (index105 hy1) ?_
        refine WOut.mk _ addS ?_
        refine WCall.mk _ _ (f128_ok (N + 8) k 1 _) ?_
        refine WOut.mk _ rfl ?_
        refine WOut.mk _ rfl ?_
        refine WCode.round (nt := 117) (fx := []) ?_
        refine WCmp.no rfl ?_
        refine WOut.mk _ addS ?_
        refine WSt.mk _ (by rw [nds_len]; exact up_new rfl hno) ?_
        refine WApp.mk _ _ ((append_env rfl).trans (hap ⟨kyOf (.mk k n s fa fb fc fd ls [x0, x1]) (.ofNat i0) (.ofNat i1) 0, 2, _, _, _⟩ { nt := 0, tmps := [], locs := [], fix := [] } _).1) ?_
        refine WOut.mk _ (subLen (by omega)) ?_
        refine ⟨_, rfl, ?_⟩
        exact ⟨⟨kyOf (.mk k n s fa fb fc fd ls [x0, x1]) (.ofNat i0) (.ofNat i1) 0, 2, _, _, _⟩, T1, tok1, rfl, rfl, (hap _ { nt := 0, tmps := [], locs := [], fix := [] } []).2.1, (hap ⟨kyOf (.mk k n s fa fb fc fd ls [x0, x1]) (.ofNat i0) (.ofNat i1) 0, 2, 0, 0, 0⟩ { nt := 0, tmps := [], locs := [], fix := [] } []).2.2, arS_app' (ns := ns) (tok := tok1) (J := J) (T := T1) (key := kyOf (.mk k n s fa fb fc fd ls [x0, x1]) (.ofNat i0) (.ofNat i1) 0) (kids := 2)⟩
    obtain ⟨r, h1, nd, T', tok', h2, h3, h4, h5, rfl⟩ := key
    exact ⟨nd, T', tok', h2, h3, h4, h5, run_here rfl h1⟩

theorem f120_3 (N : Nat) (k n : Int) (s : List UInt8) (fa fb fc fd : Bool) (ls : List Lv) (x0 x1 x2 : Tm) (hls : ls.length ≤ 4) (ns : List Nd) (tok : Tok) (J : List Blk) (T0 T : List Nat) (hg : GrowsT T0 T ns tok) (hlen : ns.length < 200000) (i0 : Nat) (h0 : i0 < ns.length) (i1 : Nat) (h1 : i1 < ns.length) (i2 : Nat) (h2 : i2 < ns.length) :
    Added (N + 10) (.mk k n s fa fb fc fd ls [x0, x1, x2]) 3 (.ofNat i0) (.ofNat i1) (.ofNat i2) ns tok J T0 T := by
  obtain ⟨y0, hy0⟩ : ∃ y, ns[i0]? = some y := ⟨ns[i0], List.getElem?_eq_getElem h0⟩
  obtain ⟨y1, hy1⟩ : ∃ y, ns[i1]? = some y := ⟨ns[i1], List.getElem?_eq_getElem h1⟩
  obtain ⟨y2, hy2⟩ : ∃ y, ns[i2]? = some y := ⟨ns[i2], List.getElem?_eq_getElem h2⟩
  have h105 := f105_ok (N + 8) (.mk k n s fa fb fc fd ls [x0, x1, x2]) (.ofNat i0) (.ofNat i1) (.ofNat i2) (arS ns tok J T) hls
  refine ⟨fun j hj => ?_, fun hno => ?_⟩
  · refine run_here rfl ?_
    refine frame_of Try.cfg _ (fn := Try.f120) rfl rfl ?_
    refine WCall.mk _ _ h105 ?_
    refine WOut.mk _ (look_yes rfl hj) ?_
    rfl
  · have key : ∃ r, frame Try.cfg (run Try.cfg (N + 9)) (N + 9) 120 [.ptr (.box 1) 0, encA (.mk k n s fa fb fc fd ls [x0, x1, x2]), arr3 (.ofNat i0) (.ofNat i1) (.ofNat i2)] (arS ns tok J T) = some r ∧
        ∃ nd T' tok', nd.key = kyOf (.mk k n s fa fb fc fd ls [x0, x1, x2]) (.ofNat i0) (.ofNat i1) (.ofNat i2) ∧ nd.kids = 3 ∧ GrowsT T0 T' (ns ++ [nd]) tok' ∧ Tk T tok T' tok' ∧ r = (.int .i64 (.ofNat ns.length), arS (ns ++ [nd]) tok' J T') := by
      obtain ⟨T1, tok1, hap⟩ := app105 (ac := ⟨false, none, true⟩) rfl hg (by omega)
      refine frame_some (fn := Try.f120) rfl rfl ?_
      refine WCall.mk _ _ h105 ?_
      refine WOut.mk _ (look_no rfl hno) ?_
      refine WCmp.no (by rw [nds_len]; show (!iLt (.ofNat ns.length) 262144) = false; rw [Bool.not_eq_false', iLt_iff]; simp only [Int.ofNat_eq_natCast]; omega) ?_
      refine WCmp.mk (fun hk => ?_) (fun hk => ?_)
      · refine WOut.mk _ addS ?_
        refine WCode.round (nt := 117) (fx := []) ?_
        refine WCmp.yes rfl ?_
        refine WOut.mk _ rfl ?_
        refine WOut.mk _ (index105 hy0) ?_
        refine WOut.mk _ addS ?_
        refine WCall.mk _ _ (f128_ok (N + 8) k 0 _) ?_
        refine WOut.mk _ rfl ?_
        refine WOut.mk _ rfl ?_
        refine WCode.round (nt := 117) (fx := []) ?_
        refine WCmp.yes rfl ?_
        refine WOut.mk _ rfl ?_
        refine WOut.mk _ (index105 hy1) ?_
        refine WOut.mk _ addS ?_
        refine WCall.mk _ _ (f128_ok (N + 8) k 1 _) ?_
        refine WOut.mk _ rfl ?_
        refine WOut.mk _ rfl ?_
        refine WCode.round (nt := 117) (fx := []) ?_
        refine WCmp.yes rfl ?_
        refine WOut.mk _ rfl ?_
        refine WOut.mk _ (index105 hy2) ?_
        refine WOut.mk _ addS ?_
        refine WCall.mk _ _ (f128_ok (N + 8) k 2 _) ?_
        refine WOut.mk _ rfl ?_
        refine WOut.mk _ rfl ?_
        refine WCode.round (nt := 117) (fx := []) ?_
        refine WCmp.no rfl ?_
        refine WOut.mk _ addS ?_
        refine WSt.mk _ (by rw [nds_len]; exact up_new rfl hno) ?_
        refine WApp.mk _ _ ((append_env rfl).trans (hap ⟨kyOf (.mk k n s fa fb fc fd ls [x0, x1, x2]) (.ofNat i0) (.ofNat i1) (.ofNat i2), 3, _, _, _⟩ { nt := 0, tmps := [], locs := [], fix := [] } _).1) ?_
        refine WOut.mk _ (subLen (by omega)) ?_
        refine ⟨_, rfl, ?_⟩
        exact ⟨⟨kyOf (.mk k n s fa fb fc fd ls [x0, x1, x2]) (.ofNat i0) (.ofNat i1) (.ofNat i2), 3, _, _, _⟩, T1, tok1, rfl, rfl, (hap _ { nt := 0, tmps := [], locs := [], fix := [] } []).2.1, (hap ⟨kyOf (.mk k n s fa fb fc fd ls [x0, x1, x2]) (.ofNat i0) (.ofNat i1) (.ofNat i2), 3, 0, 0, 0⟩ { nt := 0, tmps := [], locs := [], fix := [] } []).2.2, arS_app' (ns := ns) (tok := tok1) (J := J) (T := T1) (key := kyOf (.mk k n s fa fb fc fd ls [x0, x1, x2]) (.ofNat i0) (.ofNat i1) (.ofNat i2)) (kids := 3)⟩
      · refine WCode.round (nt := 117) (fx := []) ?_
        refine WCmp.yes rfl ?_
        refine WOut.mk _ rfl ?_
        refine WOut.mk _ (index105 hy0) ?_
        refine WOut.mk _ addS ?_
        refine WCall.mk _ _ (f128_ok (N + 8) k 0 _) ?_
        refine WOut.mk _ rfl ?_
        refine WOut.mk _ rfl ?_
        refine WCode.round (nt := 117) (fx := []) ?_
        refine WCmp.yes rfl ?_
        refine WOut.mk _ rfl ?_
        refine WOut.mk _ (index105 hy1) ?_
        refine WOut.mk _ addS ?_
        refine WCall.mk _ _ (f128_ok (N + 8) k 1 _) ?_
        refine WOut.mk _ rfl ?_
        refine WOut.mk _ rfl ?_
        refine WCode.round (nt := 117) (fx := []) ?_
        refine WCmp.yes rfl ?_
        refine WOut.mk _ rfl ?_
        refine WOut.mk _ (index105 hy2) ?_
        refine WOut.mk _ addS ?_
        refine WCall.mk _ _ (f128_ok (N + 8) k 2 _) ?_
        refine WOut.mk _ rfl ?_
        refine WOut.mk _ rfl ?_
        refine WCode.round (nt := 117) (fx := []) ?_
        refine WCmp.no rfl ?_
        refine WOut.mk _ addS ?_
        refine WSt.mk _ (by rw [nds_len]; exact up_new rfl hno) ?_
        refine WApp.mk _ _ ((append_env rfl).trans (hap ⟨kyOf (.mk k n s fa fb fc fd ls [x0, x1, x2]) (.ofNat i0) (.ofNat i1) (.ofNat i2), 3, _, _, _⟩ { nt := 0, tmps := [], locs := [], fix := [] } _).1) ?_
        refine WOut.mk _ (subLen (by omega)) ?_
        refine ⟨_, rfl, ?_⟩
        exact ⟨⟨kyOf (.mk k n s fa fb fc fd ls [x0, x1, x2]) (.ofNat i0) (.ofNat i1) (.ofNat i2), 3, _, _, _⟩, T1, tok1, rfl, rfl, (hap _ { nt := 0, tmps := [], locs := [], fix := [] } []).2.1, (hap ⟨kyOf (.mk k n s fa fb fc fd ls [x0, x1, x2]) (.ofNat i0) (.ofNat i1) (.ofNat i2), 3, 0, 0, 0⟩ { nt := 0, tmps := [], locs := [], fix := [] } []).2.2, arS_app' (ns := ns) (tok := tok1) (J := J) (T := T1) (key := kyOf (.mk k n s fa fb fc fd ls [x0, x1, x2]) (.ofNat i0) (.ofNat i1) (.ofNat i2)) (kids := 3)⟩
    obtain ⟨r, h1, nd, T', tok', h2, h3, h4, h5, rfl⟩ := key
    exact ⟨nd, T', tok', h2, h3, h4, h5, run_here rfl h1⟩

end Go.Ev

/- The arena: a term is put (written by tnf.py; own work). -/
namespace Go.Ev
open Go.Proofs Go.RowKit
set_option maxRecDepth 100000
set_option linter.unusedSimpArgs false
set_option linter.unusedVariables false
set_option maxHeartbeats 4000000

noncomputable def atI (l : List Nat) (i : Nat) : Int := match l[i]? with | some x => .ofNat x | none => 0

mutual
/-- The keys of an arena into which a term is put; and its number. -/
noncomputable def putK : Tm → List Ky → Nat × List Ky
  | .mk k n s a b c d ls ts, ks => match idxK (kyOf (.mk k n s a b c d ls ts) (atI (putKs ts ks).1 0) (atI (putKs ts ks).1 1) (atI (putKs ts ks).1 2)) (putKs ts ks).2 0 with
    | some j => (j, (putKs ts ks).2)
    | none => ((putKs ts ks).2.length, (putKs ts ks).2 ++ [kyOf (.mk k n s a b c d ls ts) (atI (putKs ts ks).1 0) (atI (putKs ts ks).1 1) (atI (putKs ts ks).1 2)])
noncomputable def putKs : List Tm → List Ky → List Nat × List Ky
  | [], ks => ([], ks)
  | t :: ts, ks => ((putK t ks).1 :: (putKs ts (putK t ks).2).1, (putKs ts (putK t ks).2).2)
end

theorem putK_eq (t : Tm) (ks : List Ky) : putK t ks = match idxK (kyOf t (atI (putKs t.ts ks).1 0) (atI (putKs t.ts ks).1 1) (atI (putKs t.ts ks).1 2)) (putKs t.ts ks).2 0 with
    | some j => (j, (putKs t.ts ks).2)
    | none => ((putKs t.ts ks).2.length, (putKs t.ts ks).2 ++ [kyOf t (atI (putKs t.ts ks).1 0) (atI (putKs t.ts ks).1 1) (atI (putKs t.ts ks).1 2)]) := by
  cases t
  rw [putK]
  rfl

theorem putKs_nil (ks : List Ky) : putKs [] ks = ([], ks) := by rw [putKs]
theorem putKs_cons (t : Tm) (ts : List Tm) (ks : List Ky) : putKs (t :: ts) ks = ((putK t ks).1 :: (putKs ts (putK t ks).2).1, (putKs ts (putK t ks).2).2) := by rw [putKs]

/-- What comes of keys: more behind them; so many at most. -/
structure More (ks ks' : List Ky) (m : Nat) : Prop where
  pre : ∃ r, ks' = ks ++ r
  len : ks'.length ≤ ks.length + m

theorem More.refl (ks : List Ky) : More ks ks 0 := ⟨⟨[], by simp⟩, by omega⟩
theorem More.trans {a b c : List Ky} {m n : Nat} (h : More a b m) (k : More b c n) : More a c (m + n) := by
  obtain ⟨r, rfl⟩ := h.pre
  obtain ⟨s, rfl⟩ := k.pre
  refine ⟨⟨r ++ s, by simp⟩, ?_⟩
  have := h.len
  have := k.len
  omega
theorem More.le {a b : List Ky} {m : Nat} (h : More a b m) : a.length ≤ b.length := by obtain ⟨r, rfl⟩ := h.pre; simp

theorem putK_more (t : Tm) : ∀ ks, (putK t ks).1 < (putK t ks).2.length ∧ More ks (putK t ks).2 (sizeT t) := by
  induction t using Tm.ind with
  | h t ih =>
    intro ks
    have key : ∀ (ts : List Tm), (∀ y ∈ ts, y ∈ t.ts) → ∀ ks, More ks (putKs ts ks).2 (sizeTs ts) := by
      intro ts
      induction ts with
      | nil => intro _ ks; rw [putKs_nil, sizeTs]; exact More.refl ks
      | cons x ts ih2 =>
        intro hm ks
        rw [putKs_cons, sizeTs_cons]
        exact (ih x (hm x List.mem_cons_self) ks).2.trans (ih2 (fun y hy => hm y (List.mem_cons_of_mem _ hy)) _)
    have hk := key t.ts (fun _ h => h) ks
    rw [putK_eq, sizeT_eq]
    cases hi : idxK (kyOf t (atI (putKs t.ts ks).1 0) (atI (putKs t.ts ks).1 1) (atI (putKs t.ts ks).1 2)) (putKs t.ts ks).2 0 with
    | some j =>
      obtain ⟨_, h2, _⟩ := idxK_lt hi
      exact ⟨by simpa using h2, hk.pre, by have := hk.len; simp only; omega⟩
    | none =>
      refine ⟨by simp, ?_, ?_⟩
      · obtain ⟨r, hr⟩ := hk.pre
        exact ⟨r ++ [kyOf t (atI (putKs t.ts ks).1 0) (atI (putKs t.ts ks).1 1) (atI (putKs t.ts ks).1 2)], by simp only; rw [hr]; simp⟩
      · have := hk.len
        simp only [List.length_append, List.length_cons, List.length_nil]
        omega

/-- So many terms each has as its kind says. -/
def KO (ns : List Nd) : Prop := ∀ nd ∈ ns, (Int.ofNat nd.kids) = kidsF nd.key.k

theorem node_kids {t : Tm} (h : nodeT t = true) : (Int.ofNat t.ts.length) = kidsF t.k := by
  unfold nodeT at h
  simp only [Bool.and_eq_true] at h
  have := h.1.1.2
  rw [iEq_eq, decide_eq_true_eq, encTs_len] at this
  exact this
theorem kidsF_le (k : Int) : kidsF k ≤ 3 := by
  unfold kidsF
  cases (iEq k 1 || iEq k 2 || iEq k 3) <;> cases (iEq k 4 || iEq k 5 || iEq k 6) <;> cases iEq k 7 <;> cases iEq k 8 <;> simp
theorem node_levels {t : Tm} (h : nodeT t = true) : t.ls.length ≤ 4 := by
  unfold nodeT at h
  simp only [Bool.and_eq_true] at h
  have h1 := h.2.2
  unfold lvOk at h1
  have e : ∀ m : Nat, iEq (.ofNat (lenN (t.ls.map enc))) (.ofNat m) = true → t.ls.length = m := fun m hm => by
    rw [iEq_nat, lenN_eq, List.length_map, decide_eq_true_eq] at hm; exact hm
  cases h2 : iEq t.k 1 with
  | true => rw [h2] at h1; have := e 1 h1; omega
  | false =>
    rw [h2] at h1
    cases h3 : iEq t.k 3 with
    | true =>
      rw [h3] at h1
      have h4 : (!iLt 4 (.ofNat (lenN (t.ls.map enc)))) = true := h1
      rw [Bool.not_eq_true', iLt_not, lenN_eq, List.length_map] at h4
      simp only [Int.ofNat_eq_natCast] at h4
      omega
    | false => rw [h3] at h1; have := e 0 h1; omega

/-- What a put does. -/
def Puts (N : Nat) (t : Tm) (ns : List Nd) (tok : Tok) (J : List Blk) (T : List Nat) : Prop :=
  ∃ ns' T' tok', ns'.map Nd.key = (putK t (ns.map Nd.key)).2 ∧ KO ns' ∧ GrowsT [] T' ns' tok' ∧ Tk T tok T' tok' ∧
    run Try.cfg N (.f 96) [.ptr (.box 1) 0, encA t] (arS ns tok J T) = some (.int .i64 (.ofNat (putK t (ns.map Nd.key)).1), arS ns' tok' J T')

theorem len_keys {ns : List Nd} {ks : List Ky} (h : ns.map Nd.key = ks) : ns.length = ks.length := by rw [← h, List.length_map]

theorem KO.add {ns : List Nd} (h : KO ns) {nd : Nd} (hn : (Int.ofNat nd.kids) = kidsF nd.key.k) : KO (ns ++ [nd]) := fun x hx => by
  rw [List.mem_append, List.mem_singleton] at hx
  rcases hx with hx | rfl
  · exact h x hx
  · exact hn

/-- A string of puts, and then an add. -/
def IH (n : Nat) (x : Tm) : Prop := ∀ (ns : List Nd) (tok : Tok) (J : List Blk) (T : List Nat), GrowsT [] T ns tok → ns.length + sizeT x < 200000 → KO ns → Puts (n + 10) x ns tok J T

theorem put_0 (n : Nat) (k nn : Int) (s : List UInt8) (fa fb fc fd : Bool) (ls : List Lv) (hls : ls.length ≤ 4) (hk : (Int.ofNat 0) = kidsF k) : ∀ (ns : List Nd) (tok : Tok) (J : List Blk) (T : List Nat), GrowsT [] T ns tok → ns.length + sizeT (.mk k nn s fa fb fc fd ls []) < 200000 → KO ns → Puts (n + 11) (.mk k nn s fa fb fc fd ls []) ns tok J T := by
  intro ns tok J T hg hlen hko
  have hsz : sizeT (.mk k nn s fa fb fc fd ls []) = 1 + sizeTs [] := sizeT_eq _
  rw [hsz] at hlen
  simp only [sizeTs_cons, show sizeTs [] = 0 by rw [sizeTs]] at hlen
  have hA := f120_0 n k nn s fa fb fc fd ls  hls ns tok J [] T hg (by  omega) 
  have hq : (putKs [] (ns.map Nd.key)) = ([], (ns.map Nd.key)) := by simp only [putKs_cons, putKs_nil]
  have hp : putK (.mk k nn s fa fb fc fd ls []) (ns.map Nd.key) = match idxK (kyOf (.mk k nn s fa fb fc fd ls []) 0 0 0) (ns.map Nd.key) 0 with
      | some j => (j, ns.map Nd.key)
      | none => (ns.length, ns.map Nd.key ++ [(kyOf (.mk k nn s fa fb fc fd ls []) 0 0 0)]) := by
    have e := putK_eq (.mk k nn s fa fb fc fd ls []) (ns.map Nd.key)
    rw [show (Tm.mk k nn s fa fb fc fd ls []).ts = [] from rfl, hq] at e
    rw [e]
    rw [show ns.length = (ns.map Nd.key).length by rw [List.length_map]]
    rfl
  unfold Puts
  rw [hp]
  cases hi : idxK (kyOf (.mk k nn s fa fb fc fd ls []) 0 0 0) (ns.map Nd.key) 0 with
  | some j =>
    refine ⟨ns, T, tok, rfl, hko, hg, (Tk.refl _ _), ?_⟩
    refine run_here rfl ?_
    refine frame_of Try.cfg _ (fn := Try.f96) rfl rfl ?_
    refine WCode.round (nt := 30) (fx := []) ?_
    refine WCmp.no rfl ?_
    refine WCall.mk _ _ (hA.1 j hi) ?_
    rfl
  | none =>
    obtain ⟨nd, T', tok', h1, h2, h3, h3', h4⟩ := hA.2 hi
    refine ⟨ns ++ [nd], T', tok', by rw [List.map_append, List.map_cons, h1]; rfl, KO.add hko (by rw [h2, h1]; exact hk), h3, h3', ?_⟩
    refine run_here rfl ?_
    refine frame_of Try.cfg _ (fn := Try.f96) rfl rfl ?_
    refine WCode.round (nt := 30) (fx := []) ?_
    refine WCmp.no rfl ?_
    refine WCall.mk _ _ h4 ?_
    rfl

theorem put_1 (n : Nat) (k nn : Int) (s : List UInt8) (fa fb fc fd : Bool) (ls : List Lv) (x0 : Tm) (hls : ls.length ≤ 4) (hk : (Int.ofNat 1) = kidsF k) (ih0 : IH n x0) : ∀ (ns : List Nd) (tok : Tok) (J : List Blk) (T : List Nat), GrowsT [] T ns tok → ns.length + sizeT (.mk k nn s fa fb fc fd ls [x0]) < 200000 → KO ns → Puts (n + 11) (.mk k nn s fa fb fc fd ls [x0]) ns tok J T := by
  intro ns tok J T hg hlen hko
  have hsz : sizeT (.mk k nn s fa fb fc fd ls [x0]) = 1 + sizeTs [x0] := sizeT_eq _
  rw [hsz] at hlen
  simp only [sizeTs_cons, show sizeTs [] = 0 by rw [sizeTs]] at hlen
  have m0 := putK_more x0 (ns.map Nd.key)
  have l0 := m0.2.len
  rw [List.length_map] at l0
  obtain ⟨ns0, T0, tok0, e0, ko0, g0, z0, r0⟩ := ih0 ns tok J T hg (by  omega) hko
  have i0 : (putK x0 (ns.map Nd.key)).1 < ns0.length := by
    have := len_keys e0
    have := m0.1
    omega
  have hA := f120_1 n k nn s fa fb fc fd ls x0 hls ns0 tok0 J [] T0 g0 (by have := len_keys e0;  omega) (putK x0 (ns.map Nd.key)).1 i0
  have hq : (putKs [x0] (ns.map Nd.key)) = ([(putK x0 (ns.map Nd.key)).1], (putK x0 (ns.map Nd.key)).2) := by simp only [putKs_cons, putKs_nil]
  have hp : putK (.mk k nn s fa fb fc fd ls [x0]) (ns.map Nd.key) = match idxK (kyOf (.mk k nn s fa fb fc fd ls [x0]) (.ofNat (putK x0 (ns.map Nd.key)).1) 0 0) (ns0.map Nd.key) 0 with
      | some j => (j, ns0.map Nd.key)
      | none => (ns0.length, ns0.map Nd.key ++ [(kyOf (.mk k nn s fa fb fc fd ls [x0]) (.ofNat (putK x0 (ns.map Nd.key)).1) 0 0)]) := by
    have e := putK_eq (.mk k nn s fa fb fc fd ls [x0]) (ns.map Nd.key)
    rw [show (Tm.mk k nn s fa fb fc fd ls [x0]).ts = [x0] from rfl, hq] at e
    rw [e]
    rw [e0, len_keys e0]
    rfl
  unfold Puts
  rw [hp]
  cases hi : idxK (kyOf (.mk k nn s fa fb fc fd ls [x0]) (.ofNat (putK x0 (ns.map Nd.key)).1) 0 0) (ns0.map Nd.key) 0 with
  | some j =>
    refine ⟨ns0, T0, tok0, rfl, ko0, g0, z0, ?_⟩
    refine run_here rfl ?_
    refine frame_of Try.cfg _ (fn := Try.f96) rfl rfl ?_
    refine WCode.round (nt := 30) (fx := []) ?_
    refine WCmp.yes rfl ?_
    refine WOut.mk _ (index44 (j := 0) (x := x0) rfl) ?_
    refine WCall.mk _ _ r0 ?_
    refine WOut.mk _ rfl ?_
    refine WOut.mk _ rfl ?_
    refine WCmp.no rfl ?_
    refine WOut.mk _ rfl ?_
    refine WCode.round (nt := 30) (fx := []) ?_
    refine WCmp.no rfl ?_
    refine WCall.mk _ _ (hA.1 j hi) ?_
    rfl
  | none =>
    obtain ⟨nd, T', tok', h1, h2, h3, h3', h4⟩ := hA.2 hi
    refine ⟨ns0 ++ [nd], T', tok', by rw [List.map_append, List.map_cons, h1]; rfl, KO.add ko0 (by rw [h2, h1]; exact hk), h3, (z0.trans h3'), ?_⟩
    refine run_here rfl ?_
    refine frame_of Try.cfg _ (fn := Try.f96) rfl rfl ?_
    refine WCode.round (nt := 30) (fx := []) ?_
    refine WCmp.yes rfl ?_
    refine WOut.mk _ (index44 (j := 0) (x := x0) rfl) ?_
    refine WCall.mk _ _ r0 ?_
    refine WOut.mk _ rfl ?_
    refine WOut.mk _ rfl ?_
    refine WCmp.no rfl ?_
    refine WOut.mk _ rfl ?_
    refine WCode.round (nt := 30) (fx := []) ?_
    refine WCmp.no rfl ?_
    refine WCall.mk _ _ h4 ?_
    rfl

theorem put_2 (n : Nat) (k nn : Int) (s : List UInt8) (fa fb fc fd : Bool) (ls : List Lv) (x0 x1 : Tm) (hls : ls.length ≤ 4) (hk : (Int.ofNat 2) = kidsF k) (ih0 : IH n x0) (ih1 : IH n x1) : ∀ (ns : List Nd) (tok : Tok) (J : List Blk) (T : List Nat), GrowsT [] T ns tok → ns.length + sizeT (.mk k nn s fa fb fc fd ls [x0, x1]) < 200000 → KO ns → Puts (n + 11) (.mk k nn s fa fb fc fd ls [x0, x1]) ns tok J T := by
  intro ns tok J T hg hlen hko
  have hsz : sizeT (.mk k nn s fa fb fc fd ls [x0, x1]) = 1 + sizeTs [x0, x1] := sizeT_eq _
  rw [hsz] at hlen
  simp only [sizeTs_cons, show sizeTs [] = 0 by rw [sizeTs]] at hlen
  have m0 := putK_more x0 (ns.map Nd.key)
  have l0 := m0.2.len
  rw [List.length_map] at l0
  have m1 := putK_more x1 (putK x0 (ns.map Nd.key)).2
  have l1 := m1.2.len
  obtain ⟨ns0, T0, tok0, e0, ko0, g0, z0, r0⟩ := ih0 ns tok J T hg (by  omega) hko
  obtain ⟨ns1, T1, tok1, e1, ko1, g1, z1, r1⟩ := ih1 ns0 tok0 J T0 g0 (by have := len_keys e0;  omega) ko0
  rw [e0] at e1 r1
  have i0 : (putK x0 (ns.map Nd.key)).1 < ns1.length := by
    have := len_keys e1
    have := m1.2.le
    have := m0.1
    omega
  have i1 : (putK x1 (putK x0 (ns.map Nd.key)).2).1 < ns1.length := by
    have := len_keys e1
    have := m1.1
    omega
  have hA := f120_2 n k nn s fa fb fc fd ls x0 x1 hls ns1 tok1 J [] T1 g1 (by have := len_keys e1;  omega) (putK x0 (ns.map Nd.key)).1 i0 (putK x1 (putK x0 (ns.map Nd.key)).2).1 i1
  have hq : (putKs [x0, x1] (ns.map Nd.key)) = ([(putK x0 (ns.map Nd.key)).1, (putK x1 (putK x0 (ns.map Nd.key)).2).1], (putK x1 (putK x0 (ns.map Nd.key)).2).2) := by simp only [putKs_cons, putKs_nil]
  have hp : putK (.mk k nn s fa fb fc fd ls [x0, x1]) (ns.map Nd.key) = match idxK (kyOf (.mk k nn s fa fb fc fd ls [x0, x1]) (.ofNat (putK x0 (ns.map Nd.key)).1) (.ofNat (putK x1 (putK x0 (ns.map Nd.key)).2).1) 0) (ns1.map Nd.key) 0 with
      | some j => (j, ns1.map Nd.key)
      | none => (ns1.length, ns1.map Nd.key ++ [(kyOf (.mk k nn s fa fb fc fd ls [x0, x1]) (.ofNat (putK x0 (ns.map Nd.key)).1) (.ofNat (putK x1 (putK x0 (ns.map Nd.key)).2).1) 0)]) := by
    have e := putK_eq (.mk k nn s fa fb fc fd ls [x0, x1]) (ns.map Nd.key)
    rw [show (Tm.mk k nn s fa fb fc fd ls [x0, x1]).ts = [x0, x1] from rfl, hq] at e
    rw [e]
    rw [e1, len_keys e1]
    rfl
  unfold Puts
  rw [hp]
  cases hi : idxK (kyOf (.mk k nn s fa fb fc fd ls [x0, x1]) (.ofNat (putK x0 (ns.map Nd.key)).1) (.ofNat (putK x1 (putK x0 (ns.map Nd.key)).2).1) 0) (ns1.map Nd.key) 0 with
  | some j =>
    refine ⟨ns1, T1, tok1, rfl, ko1, g1, (z0.trans z1), ?_⟩
    refine run_here rfl ?_
    refine frame_of Try.cfg _ (fn := Try.f96) rfl rfl ?_
    refine WCode.round (nt := 30) (fx := []) ?_
    refine WCmp.yes rfl ?_
    refine WOut.mk _ (index44 (j := 0) (x := x0) rfl) ?_
    refine WCall.mk _ _ r0 ?_
    refine WOut.mk _ rfl ?_
    refine WOut.mk _ rfl ?_
    refine WCmp.no rfl ?_
    refine WOut.mk _ rfl ?_
    refine WCode.round (nt := 30) (fx := []) ?_
    refine WCmp.yes rfl ?_
    refine WOut.mk _ (index44 (j := 1) (x := x1) rfl) ?_
    refine WCall.mk _ _ r1 ?_
    refine WOut.mk _ rfl ?_
    refine WOut.mk _ rfl ?_
    refine WCmp.no rfl ?_
    refine WOut.mk _ rfl ?_
    refine WCode.round (nt := 30) (fx := []) ?_
    refine WCmp.no rfl ?_
    refine WCall.mk _ _ (hA.1 j hi) ?_
    rfl
  | none =>
    obtain ⟨nd, T', tok', h1, h2, h3, h3', h4⟩ := hA.2 hi
    refine ⟨ns1 ++ [nd], T', tok', by rw [List.map_append, List.map_cons, h1]; rfl, KO.add ko1 (by rw [h2, h1]; exact hk), h3, ((z0.trans z1).trans h3'), ?_⟩
    refine run_here rfl ?_
    refine frame_of Try.cfg _ (fn := Try.f96) rfl rfl ?_
    refine WCode.round (nt := 30) (fx := []) ?_
    refine WCmp.yes rfl ?_
    refine WOut.mk _ (index44 (j := 0) (x := x0) rfl) ?_
    refine WCall.mk _ _ r0 ?_
    refine WOut.mk _ rfl ?_
    refine WOut.mk _ rfl ?_
    refine WCmp.no rfl ?_
    refine WOut.mk _ rfl ?_
    refine WCode.round (nt := 30) (fx := []) ?_
    refine WCmp.yes rfl ?_
    refine WOut.mk _ (index44 (j := 1) (x := x1) rfl) ?_
    refine WCall.mk _ _ r1 ?_
    refine WOut.mk _ rfl ?_
    refine WOut.mk _ rfl ?_
    refine WCmp.no rfl ?_
    refine WOut.mk _ rfl ?_
    refine WCode.round (nt := 30) (fx := []) ?_
    refine WCmp.no rfl ?_
    refine WCall.mk _ _ h4 ?_
    rfl

theorem put_3 (n : Nat) (k nn : Int) (s : List UInt8) (fa fb fc fd : Bool) (ls : List Lv) (x0 x1 x2 : Tm) (hls : ls.length ≤ 4) (hk : (Int.ofNat 3) = kidsF k) (ih0 : IH n x0) (ih1 : IH n x1) (ih2 : IH n x2) : ∀ (ns : List Nd) (tok : Tok) (J : List Blk) (T : List Nat), GrowsT [] T ns tok → ns.length + sizeT (.mk k nn s fa fb fc fd ls [x0, x1, x2]) < 200000 → KO ns → Puts (n + 11) (.mk k nn s fa fb fc fd ls [x0, x1, x2]) ns tok J T := by
  intro ns tok J T hg hlen hko
  have hsz : sizeT (.mk k nn s fa fb fc fd ls [x0, x1, x2]) = 1 + sizeTs [x0, x1, x2] := sizeT_eq _
  rw [hsz] at hlen
  simp only [sizeTs_cons, show sizeTs [] = 0 by rw [sizeTs]] at hlen
  have m0 := putK_more x0 (ns.map Nd.key)
  have l0 := m0.2.len
  rw [List.length_map] at l0
  have m1 := putK_more x1 (putK x0 (ns.map Nd.key)).2
  have l1 := m1.2.len
  have m2 := putK_more x2 (putK x1 (putK x0 (ns.map Nd.key)).2).2
  have l2 := m2.2.len
  obtain ⟨ns0, T0, tok0, e0, ko0, g0, z0, r0⟩ := ih0 ns tok J T hg (by  omega) hko
  obtain ⟨ns1, T1, tok1, e1, ko1, g1, z1, r1⟩ := ih1 ns0 tok0 J T0 g0 (by have := len_keys e0;  omega) ko0
  rw [e0] at e1 r1
  obtain ⟨ns2, T2, tok2, e2, ko2, g2, z2, r2⟩ := ih2 ns1 tok1 J T1 g1 (by have := len_keys e1;  omega) ko1
  rw [e1] at e2 r2
  have i0 : (putK x0 (ns.map Nd.key)).1 < ns2.length := by
    have := len_keys e2
    have := m1.2.le
    have := m2.2.le
    have := m0.1
    omega
  have i1 : (putK x1 (putK x0 (ns.map Nd.key)).2).1 < ns2.length := by
    have := len_keys e2
    have := m2.2.le
    have := m1.1
    omega
  have i2 : (putK x2 (putK x1 (putK x0 (ns.map Nd.key)).2).2).1 < ns2.length := by
    have := len_keys e2
    have := m2.1
    omega
  have hA := f120_3 n k nn s fa fb fc fd ls x0 x1 x2 hls ns2 tok2 J [] T2 g2 (by have := len_keys e2;  omega) (putK x0 (ns.map Nd.key)).1 i0 (putK x1 (putK x0 (ns.map Nd.key)).2).1 i1 (putK x2 (putK x1 (putK x0 (ns.map Nd.key)).2).2).1 i2
  have hq : (putKs [x0, x1, x2] (ns.map Nd.key)) = ([(putK x0 (ns.map Nd.key)).1, (putK x1 (putK x0 (ns.map Nd.key)).2).1, (putK x2 (putK x1 (putK x0 (ns.map Nd.key)).2).2).1], (putK x2 (putK x1 (putK x0 (ns.map Nd.key)).2).2).2) := by simp only [putKs_cons, putKs_nil]
  have hp : putK (.mk k nn s fa fb fc fd ls [x0, x1, x2]) (ns.map Nd.key) = match idxK (kyOf (.mk k nn s fa fb fc fd ls [x0, x1, x2]) (.ofNat (putK x0 (ns.map Nd.key)).1) (.ofNat (putK x1 (putK x0 (ns.map Nd.key)).2).1) (.ofNat (putK x2 (putK x1 (putK x0 (ns.map Nd.key)).2).2).1)) (ns2.map Nd.key) 0 with
      | some j => (j, ns2.map Nd.key)
      | none => (ns2.length, ns2.map Nd.key ++ [(kyOf (.mk k nn s fa fb fc fd ls [x0, x1, x2]) (.ofNat (putK x0 (ns.map Nd.key)).1) (.ofNat (putK x1 (putK x0 (ns.map Nd.key)).2).1) (.ofNat (putK x2 (putK x1 (putK x0 (ns.map Nd.key)).2).2).1))]) := by
    have e := putK_eq (.mk k nn s fa fb fc fd ls [x0, x1, x2]) (ns.map Nd.key)
    rw [show (Tm.mk k nn s fa fb fc fd ls [x0, x1, x2]).ts = [x0, x1, x2] from rfl, hq] at e
    rw [e]
    rw [e2, len_keys e2]
    rfl
  unfold Puts
  rw [hp]
  cases hi : idxK (kyOf (.mk k nn s fa fb fc fd ls [x0, x1, x2]) (.ofNat (putK x0 (ns.map Nd.key)).1) (.ofNat (putK x1 (putK x0 (ns.map Nd.key)).2).1) (.ofNat (putK x2 (putK x1 (putK x0 (ns.map Nd.key)).2).2).1)) (ns2.map Nd.key) 0 with
  | some j =>
    refine ⟨ns2, T2, tok2, rfl, ko2, g2, ((z0.trans z1).trans z2), ?_⟩
    refine run_here rfl ?_
    refine frame_of Try.cfg _ (fn := Try.f96) rfl rfl ?_
    refine WCode.round (nt := 30) (fx := []) ?_
    refine WCmp.yes rfl ?_
    refine WOut.mk _ (index44 (j := 0) (x := x0) rfl) ?_
    refine WCall.mk _ _ r0 ?_
    refine WOut.mk _ rfl ?_
    refine WOut.mk _ rfl ?_
    refine WCmp.no rfl ?_
    refine WOut.mk _ rfl ?_
    refine WCode.round (nt := 30) (fx := []) ?_
    refine WCmp.yes rfl ?_
    refine WOut.mk _ (index44 (j := 1) (x := x1) rfl) ?_
    refine WCall.mk _ _ r1 ?_
    refine WOut.mk _ rfl ?_
    refine WOut.mk _ rfl ?_
    refine WCmp.no rfl ?_
    refine WOut.mk _ rfl ?_
    refine WCode.round (nt := 30) (fx := []) ?_
    refine WCmp.yes rfl ?_
    refine WOut.mk _ (index44 (j := 2) (x := x2) rfl) ?_
    refine WCall.mk _ _ r2 ?_
    refine WOut.mk _ rfl ?_
    refine WOut.mk _ rfl ?_
    refine WCmp.no rfl ?_
    refine WOut.mk _ rfl ?_
    refine WCode.round (nt := 30) (fx := []) ?_
    refine WCmp.no rfl ?_
    refine WCall.mk _ _ (hA.1 j hi) ?_
    rfl
  | none =>
    obtain ⟨nd, T', tok', h1, h2, h3, h3', h4⟩ := hA.2 hi
    refine ⟨ns2 ++ [nd], T', tok', by rw [List.map_append, List.map_cons, h1]; rfl, KO.add ko2 (by rw [h2, h1]; exact hk), h3, (((z0.trans z1).trans z2).trans h3'), ?_⟩
    refine run_here rfl ?_
    refine frame_of Try.cfg _ (fn := Try.f96) rfl rfl ?_
    refine WCode.round (nt := 30) (fx := []) ?_
    refine WCmp.yes rfl ?_
    refine WOut.mk _ (index44 (j := 0) (x := x0) rfl) ?_
    refine WCall.mk _ _ r0 ?_
    refine WOut.mk _ rfl ?_
    refine WOut.mk _ rfl ?_
    refine WCmp.no rfl ?_
    refine WOut.mk _ rfl ?_
    refine WCode.round (nt := 30) (fx := []) ?_
    refine WCmp.yes rfl ?_
    refine WOut.mk _ (index44 (j := 1) (x := x1) rfl) ?_
    refine WCall.mk _ _ r1 ?_
    refine WOut.mk _ rfl ?_
    refine WOut.mk _ rfl ?_
    refine WCmp.no rfl ?_
    refine WOut.mk _ rfl ?_
    refine WCode.round (nt := 30) (fx := []) ?_
    refine WCmp.yes rfl ?_
    refine WOut.mk _ (index44 (j := 2) (x := x2) rfl) ?_
    refine WCall.mk _ _ r2 ?_
    refine WOut.mk _ rfl ?_
    refine WOut.mk _ rfl ?_
    refine WCmp.no rfl ?_
    refine WOut.mk _ rfl ?_
    refine WCode.round (nt := 30) (fx := []) ?_
    refine WCmp.no rfl ?_
    refine WCall.mk _ _ h4 ?_
    rfl

theorem f96_ok : ∀ (n : Nat) (t : Tm) (d : Nat), Dp t d → wt t < n → IH n t
  | 0, t, d, _, h => by omega
  | n + 1, t, d, hd, h => by
    obtain ⟨d', rfl, hp, hkd⟩ := dp_node.1 hd
    have hls := node_levels hp
    have hk := node_kids hp
    have h3 := kidsF_le t.k
    have hw : ∀ y ∈ t.ts, wt y < n := fun y hy => by have := wt_kid hy; omega
    have ih : ∀ y ∈ t.ts, IH n y := fun y hy => f96_ok n y d' (hkd y hy) (hw y hy)
    intro ns tok J T hg hlen hko
    obtain ⟨k, nn, s, fa, fb, fc, fd, ls, ts⟩ := t
    match ts, ih, hk with
    | [], ih, hk => exact put_0 n k nn s fa fb fc fd ls hls hk ns tok J T hg hlen hko
    | [x0], ih, hk => exact put_1 n k nn s fa fb fc fd ls x0 hls hk (ih x0 (by simp [Tm.ts])) ns tok J T hg hlen hko
    | [x0, x1], ih, hk => exact put_2 n k nn s fa fb fc fd ls x0 x1 hls hk (ih x0 (by simp [Tm.ts])) (ih x1 (by simp [Tm.ts])) ns tok J T hg hlen hko
    | [x0, x1, x2], ih, hk => exact put_3 n k nn s fa fb fc fd ls x0 x1 x2 hls hk (ih x0 (by simp [Tm.ts])) (ih x1 (by simp [Tm.ts])) (ih x2 (by simp [Tm.ts])) ns tok J T hg hlen hko
    | _ :: _ :: _ :: _ :: _, ih, hk => simp only [Tm.ts, List.length_cons, Int.ofNat_eq_natCast] at hk; omega

end Go.Ev

/- The arena, in plain terms: which terms its keys are (own work). -/
namespace Go.Ev
open Go.Proofs
set_option maxRecDepth 100000
set_option linter.unusedSimpArgs false
set_option linter.unusedVariables false

mutual
/-- The i-th key is a term's. -/
def IsT (ks : List Ky) : Tm → Nat → Prop
  | .mk k n s a b c d ls ts, i => ∃ ids, ks[i]? = some (kyOf (.mk k n s a b c d ls ts) (atI ids 0) (atI ids 1) (atI ids 2)) ∧ IsTs ks ts ids
def IsTs (ks : List Ky) : List Tm → List Nat → Prop
  | [], ids => ids = []
  | t :: ts, ids => ∃ i is, ids = i :: is ∧ IsT ks t i ∧ IsTs ks ts is
end
theorem IsT_eq (ks : List Ky) (t : Tm) (i : Nat) : IsT ks t i ↔ ∃ ids, ks[i]? = some (kyOf t (atI ids 0) (atI ids 1) (atI ids 2)) ∧ IsTs ks t.ts ids := by
  cases t
  rw [IsT]
  exact Iff.rfl
theorem IsTs_nil (ks : List Ky) (ids : List Nat) : IsTs ks [] ids ↔ ids = [] := by rw [IsTs]
theorem IsTs_cons (ks : List Ky) (t : Tm) (ts : List Tm) (ids : List Nat) : IsTs ks (t :: ts) ids ↔ ∃ i is, ids = i :: is ∧ IsT ks t i ∧ IsTs ks ts is := by rw [IsTs]

theorem IsTs_len {ks : List Ky} : ∀ {ts : List Tm} {ids : List Nat}, IsTs ks ts ids → ids.length = ts.length
  | [], ids, h => by rw [IsTs_nil] at h; rw [h]; rfl
  | t :: ts, ids, h => by
    rw [IsTs_cons] at h
    obtain ⟨i, is, rfl, _, h⟩ := h
    simp [IsTs_len h]

theorem IsTs_get {ks : List Ky} : ∀ {ts : List Tm} {ids : List Nat} {j : Nat} {t : Tm}, IsTs ks ts ids → ts[j]? = some t → ∃ i, ids[j]? = some i ∧ IsT ks t i
  | [], ids, j, t, h, ht => by simp at ht
  | x :: ts, ids, 0, t, h, ht => by
    rw [IsTs_cons] at h
    obtain ⟨i, is, rfl, h1, _⟩ := h
    simp only [List.getElem?_cons_zero, Option.some.injEq] at ht
    subst ht
    exact ⟨i, rfl, h1⟩
  | x :: ts, ids, j + 1, t, h, ht => by
    rw [IsTs_cons] at h
    obtain ⟨i, is, rfl, _, h1⟩ := h
    obtain ⟨i', h2, h3⟩ := IsTs_get h1 (by simpa using ht)
    exact ⟨i', by simpa using h2, h3⟩

theorem IsT_more {ks : List Ky} (r : List Ky) (t : Tm) : ∀ {i : Nat}, IsT ks t i → IsT (ks ++ r) t i := by
  induction t using Tm.ind with
  | h t ih =>
    intro i h
    rw [IsT_eq] at h ⊢
    obtain ⟨ids, h1, h2⟩ := h
    refine ⟨ids, ?_, ?_⟩
    · rw [List.getElem?_append_left (List.getElem?_eq_some_iff.1 h1).1]; exact h1
    · have key : ∀ (ts : List Tm), (∀ y ∈ ts, y ∈ t.ts) → ∀ ids, IsTs ks ts ids → IsTs (ks ++ r) ts ids := by
        intro ts
        induction ts with
        | nil => intro _ ids h; rw [IsTs_nil] at h ⊢; exact h
        | cons x ts ih2 =>
          intro hm ids h
          rw [IsTs_cons] at h ⊢
          obtain ⟨i, is, rfl, h1, h2⟩ := h
          exact ⟨i, is, rfl, ih x (hm x List.mem_cons_self) h1, ih2 (fun y hy => hm y (List.mem_cons_of_mem _ hy)) _ h2⟩
      exact key t.ts (fun _ h => h) ids h2

theorem IsTs_more {ks : List Ky} (r : List Ky) : ∀ {ts : List Tm} {ids : List Nat}, IsTs ks ts ids → IsTs (ks ++ r) ts ids
  | [], ids, h => by rw [IsTs_nil] at h ⊢; exact h
  | t :: ts, ids, h => by
    rw [IsTs_cons] at h ⊢
    obtain ⟨i, is, rfl, h1, h2⟩ := h
    exact ⟨i, is, rfl, IsT_more r t h1, IsTs_more r h2⟩

/-- What is put is there. -/
theorem put_is (t : Tm) : ∀ ks, IsT (putK t ks).2 t (putK t ks).1 := by
  induction t using Tm.ind with
  | h t ih =>
    intro ks
    have key : ∀ (ts : List Tm), (∀ y ∈ ts, y ∈ t.ts) → ∀ ks, IsTs (putKs ts ks).2 ts (putKs ts ks).1 ∧ ∃ r, (putKs ts ks).2 = ks ++ r := by
      intro ts
      induction ts with
      | nil => intro _ ks; rw [putKs_nil]; exact ⟨(IsTs_nil _ _).2 rfl, [], by simp⟩
      | cons x ts ih2 =>
        intro hm ks
        rw [putKs_cons]
        obtain ⟨h1, r, h2⟩ := ih2 (fun y hy => hm y (List.mem_cons_of_mem _ hy)) (putK x ks).2
        obtain ⟨r0, h0⟩ := (putK_more x ks).2.pre
        refine ⟨(IsTs_cons _ _ _ _).2 ⟨_, _, rfl, ?_, h1⟩, r0 ++ r, ?_⟩
        · simp only; rw [h2]; exact IsT_more r x (ih x (hm x List.mem_cons_self) ks)
        · simp only; rw [h2, h0]; simp
    obtain ⟨h1, _⟩ := key t.ts (fun _ h => h) ks
    rw [putK_eq]
    cases hi : idxK (kyOf t (atI (putKs t.ts ks).1 0) (atI (putKs t.ts ks).1 1) (atI (putKs t.ts ks).1 2)) (putKs t.ts ks).2 0 with
    | some j =>
      obtain ⟨_, _, h3⟩ := idxK_lt hi
      rw [Nat.sub_zero] at h3
      exact (IsT_eq _ _ _).2 ⟨_, h3, h1⟩
    | none =>
      refine (IsT_eq _ _ _).2 ⟨_, ?_, IsTs_more _ h1⟩
      simp

theorem put_nodup (t : Tm) : ∀ {ks : List Ky}, ks.Nodup → (putK t ks).2.Nodup := by
  induction t using Tm.ind with
  | h t ih =>
    intro ks h
    have key : ∀ (ts : List Tm), (∀ y ∈ ts, y ∈ t.ts) → ∀ ks, ks.Nodup → (putKs ts ks).2.Nodup := by
      intro ts
      induction ts with
      | nil => intro _ ks h; rw [putKs_nil]; exact h
      | cons x ts ih2 =>
        intro hm ks h
        rw [putKs_cons]
        exact ih2 (fun y hy => hm y (List.mem_cons_of_mem _ hy)) _ (ih x (hm x List.mem_cons_self) h)
    have hk := key t.ts (fun _ h => h) ks h
    rw [putK_eq]
    cases hi : idxK (kyOf t (atI (putKs t.ts ks).1 0) (atI (putKs t.ts ks).1 1) (atI (putKs t.ts ks).1 2)) (putKs t.ts ks).2 0 with
    | some j => exact hk
    | none =>
      have hn := idxK_none hi
      rw [List.nodup_append]
      exact ⟨hk, by simp, fun x hx y hy => by simp only [List.mem_singleton] at hy; subst hy; exact fun e => hn (e ▸ hx)⟩

/-! ### Keys tell terms -/

theorem lvs_eq : ∀ {ls ms : List Lv}, ls.length ≤ 4 → ls.length = ms.length → lvAt ls 0 = lvAt ms 0 → lvAt ls 1 = lvAt ms 1 → lvAt ls 2 = lvAt ms 2 → lvAt ls 3 = lvAt ms 3 → ls = ms := by
  intro ls ms h4 hl e0 e1 e2 e3
  refine List.ext_getElem? (fun j => ?_)
  by_cases hj : j < ls.length
  · have hj2 : j < ms.length := by omega
    have e : lvAt ls j = lvAt ms j := by
      have hc : j = 0 ∨ j = 1 ∨ j = 2 ∨ j = 3 := by omega
      rcases hc with rfl | rfl | rfl | rfl <;> assumption
    unfold lvAt at e
    rw [List.getElem?_eq_getElem hj, List.getElem?_eq_getElem hj2] at e ⊢
    simp only [Option.getD_some] at e
    rw [e]
  · rw [List.getElem?_eq_none (by omega), List.getElem?_eq_none (by omega)]

theorem ids_eq {a b : List Nat} (h3 : a.length ≤ 3) (hl : a.length = b.length) (e0 : atI a 0 = atI b 0) (e1 : atI a 1 = atI b 1) (e2 : atI a 2 = atI b 2) : a = b := by
  refine List.ext_getElem? (fun j => ?_)
  by_cases hj : j < a.length
  · have hj2 : j < b.length := by omega
    have e : atI a j = atI b j := by
      have hc : j = 0 ∨ j = 1 ∨ j = 2 := by omega
      rcases hc with rfl | rfl | rfl <;> assumption
    unfold atI at e
    rw [List.getElem?_eq_getElem hj, List.getElem?_eq_getElem hj2] at e ⊢
    simp only [Int.ofNat.injEq] at e
    rw [e]
  · rw [List.getElem?_eq_none (by omega), List.getElem?_eq_none (by omega)]

theorem kids3 {t : Tm} (h : nodeT t = true) : t.ts.length ≤ 3 := by
  have h1 := node_kids h
  have h2 := kidsF_le t.k
  simp only [Int.ofNat_eq_natCast] at h1
  omega

theorem ky_facts {t u : Tm} {a b c a' b' c' : Int} (h : kyOf t a b c = kyOf u a' b' c') : t.k = u.k ∧ t.n = u.n ∧ t.s = u.s ∧ t.ls.length = u.ls.length ∧ (lvAt t.ls 0 = lvAt u.ls 0 ∧ lvAt t.ls 1 = lvAt u.ls 1 ∧ lvAt t.ls 2 = lvAt u.ls 2 ∧ lvAt t.ls 3 = lvAt u.ls 3) ∧ a = a' ∧ b = b' ∧ c = c' := by
  unfold kyOf at h
  injection h with h1 h2 h3 h4 h5 h6 h7 h8 h9 h10 h11
  exact ⟨h1, h2, h3, Int.ofNat.inj h4, ⟨h5, h6, h7, h8⟩, h9, h10, h11⟩

/-- One key is one term's. -/
theorem is_same {ks : List Ky} (t : Tm) : ∀ {u : Tm} {i d e : Nat}, Dp t d → Dp u e → IsT ks t i → IsT ks u i → nrm t = nrm u := by
  induction t using Tm.ind with
  | h t ih =>
    intro u i d e hd he ht hu
    obtain ⟨d', rfl, hp, hkd⟩ := dp_node.1 hd
    obtain ⟨e', rfl, hq, hke⟩ := dp_node.1 he
    rw [IsT_eq] at ht hu
    obtain ⟨ids, h1, h2⟩ := ht
    obtain ⟨ids', h3, h4⟩ := hu
    rw [h1] at h3
    obtain ⟨k1, k2, k3, k4, ⟨l0, l1, l2, l3⟩, ka, kb, kc⟩ := ky_facts (Option.some.inj h3)
    have hls : t.ls = u.ls := lvs_eq (node_levels hp) k4 l0 l1 l2 l3
    have hlen : t.ts.length = u.ts.length := by
      have q1 := node_kids hp
      have q2 := node_kids hq
      rw [← k1] at q2
      simp only [Int.ofNat_eq_natCast] at q1 q2
      omega
    have hids : ids = ids' := ids_eq (by rw [IsTs_len h2]; exact kids3 hp) (by rw [IsTs_len h2, IsTs_len h4]; exact hlen) ka kb kc
    subst hids
    have hts : nrms t.ts = nrms u.ts := by
      rw [nrms_map, nrms_map]
      refine List.ext_getElem? (fun j => ?_)
      rw [List.getElem?_map, List.getElem?_map]
      by_cases hj : j < t.ts.length
      · have hj2 : j < u.ts.length := by omega
        rw [List.getElem?_eq_getElem hj, List.getElem?_eq_getElem hj2]
        obtain ⟨x, e1, e2⟩ := IsTs_get h2 (List.getElem?_eq_getElem hj)
        obtain ⟨y, e3, e4⟩ := IsTs_get h4 (List.getElem?_eq_getElem hj2)
        rw [e1] at e3
        cases e3
        simp only [Option.map_some, Option.some.injEq]
        exact ih _ (List.getElem_mem hj) (hkd _ (List.getElem_mem hj)) (hke _ (List.getElem_mem hj2)) e2 e4
      · rw [List.getElem?_eq_none (by omega), List.getElem?_eq_none (by omega)]
    rw [nrm_eq, nrm_eq u, k1, k2, k3, hls, hts]

theorem nrm_facts {t u : Tm} (h : nrm t = nrm u) : t.k = u.k ∧ t.n = u.n ∧ t.s = u.s ∧ t.ls = u.ls ∧ nrms t.ts = nrms u.ts := by
  rw [nrm_eq, nrm_eq u] at h
  injection h with h1 h2 h3 _ _ _ _ h4 h5
  exact ⟨h1, h2, h3, h4, h5⟩

/-- One term has one key. -/
theorem is_inj {ks : List Ky} (hn : ks.Nodup) (t : Tm) : ∀ {u : Tm} {i j : Nat}, IsT ks t i → IsT ks u j → nrm t = nrm u → i = j := by
  induction t using Tm.ind with
  | h t ih =>
    intro u i j ht hu he
    obtain ⟨k1, k2, k3, k4, k5⟩ := nrm_facts he
    rw [IsT_eq] at ht hu
    obtain ⟨ids, h1, h2⟩ := ht
    obtain ⟨ids', h3, h4⟩ := hu
    have hlen : t.ts.length = u.ts.length := by rw [← nrms_len, k5, nrms_len]
    have hids : ids = ids' := by
      refine List.ext_getElem? (fun j => ?_)
      by_cases hj : j < t.ts.length
      · have hj2 : j < u.ts.length := by omega
        obtain ⟨x, e1, e2⟩ := IsTs_get h2 (List.getElem?_eq_getElem hj)
        obtain ⟨y, e3, e4⟩ := IsTs_get h4 (List.getElem?_eq_getElem hj2)
        rw [e1, e3]
        have hh : nrm t.ts[j] = nrm u.ts[j] := by
          have := congrArg (fun l => l[j]?) k5
          simp only [nrms_map, List.getElem?_map, List.getElem?_eq_getElem hj, List.getElem?_eq_getElem hj2, Option.map_some, Option.some.injEq] at this
          exact this
        rw [ih _ (List.getElem_mem hj) e2 e4 hh]
      · rw [List.getElem?_eq_none (by rw [IsTs_len h2]; omega), List.getElem?_eq_none (by rw [IsTs_len h4]; omega)]
    subst hids
    have hk : kyOf t (atI ids 0) (atI ids 1) (atI ids 2) = kyOf u (atI ids 0) (atI ids 1) (atI ids 2) := by unfold kyOf; rw [k1, k2, k3, k4]
    rw [← hk] at h3
    exact (List.getElem?_inj (List.getElem?_eq_some_iff.1 h1).1 hn).1 (h1.trans h3.symm)

/-- What is there is not put again. -/
theorem put_there {ks : List Ky} (hn : ks.Nodup) (t : Tm) : ∀ {i : Nat}, IsT ks t i → putK t ks = (i, ks) := by
  induction t using Tm.ind with
  | h t ih =>
    intro i h
    rw [IsT_eq] at h
    obtain ⟨ids, h1, h2⟩ := h
    have key : ∀ (ts : List Tm), (∀ y ∈ ts, y ∈ t.ts) → ∀ ids, IsTs ks ts ids → putKs ts ks = (ids, ks) := by
      intro ts
      induction ts with
      | nil => intro _ ids h; rw [IsTs_nil] at h; rw [putKs_nil, h]
      | cons x ts ih2 =>
        intro hm ids h
        rw [IsTs_cons] at h
        obtain ⟨i, is, rfl, e1, e2⟩ := h
        rw [putKs_cons, ih x (hm x List.mem_cons_self) e1, ih2 (fun y hy => hm y (List.mem_cons_of_mem _ hy)) is e2]
    have hk := key t.ts (fun _ h => h) ids h2
    rw [putK_eq, hk]
    simp only
    cases hi : idxK (kyOf t (atI ids 0) (atI ids 1) (atI ids 2)) ks 0 with
    | some j =>
      obtain ⟨_, _, h3⟩ := idxK_lt hi
      rw [Nat.sub_zero] at h3
      have : i = j := (List.getElem?_inj (List.getElem?_eq_some_iff.1 h1).1 hn).1 (h1.trans h3.symm)
      rw [this]
    | none => exact absurd (List.mem_of_getElem? h1) (idxK_none hi)

/-- sameT is the same, as it is seen. -/
theorem nrm_same (x : Tm) : ∀ {y : Tm}, sameT x y = true → nrm x = nrm y := by
  induction x using Tm.ind with
  | h x ih =>
    intro y h
    rw [sameT_eq] at h
    simp only [Bool.and_eq_true, decide_eq_true_eq, iEq_eq] at h
    obtain ⟨⟨⟨⟨⟨h1, h2⟩, h3⟩, h4⟩, h5⟩, h6, h7⟩ := h
    have key : ∀ (ts us : List Tm), (∀ z ∈ ts, z ∈ x.ts) → ts.length = us.length → sameTs ts us = true → nrms ts = nrms us := by
      intro ts
      induction ts with
      | nil =>
        intro us _ hl _
        have : us = [] := List.eq_nil_of_length_eq_zero hl.symm
        rw [this]
      | cons t ts ih2 =>
        intro us hm hl hs
        cases us with
        | nil => simp at hl
        | cons u us =>
          rw [sameTs] at hs
          simp only [Bool.and_eq_true] at hs
          rw [nrms_cons, nrms_cons, ih t (hm t List.mem_cons_self) hs.1, ih2 us (fun z hz => hm z (List.mem_cons_of_mem _ hz)) (by simpa using hl) hs.2]
    have hl : x.ts.length = y.ts.length := by
      rw [encTs_len, encTs_len] at h5
      exact Int.ofNat.inj h5
    rw [nrm_eq, nrm_eq y, h1, h2, h3, h6, key x.ts y.ts (fun _ h => h) hl h7]

end Go.Ev
