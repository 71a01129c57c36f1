/- The evaluator, with functions that are told by themselves: Names, Spine (own work). -/
import Derived.Test.YtfcngcogphoikaaGreatXd
import Derived.Test.YtfcngcogphoikaaGreatSh
import Derived.Sort.Grow
import Derived.Sort.EncStr
import Derived.Sort.EveryDepth
/- The evaluator, with functions that are told by themselves: definitions, soundness (own work). -/
namespace Go.Ev
open Go.RowKit

/-- What a function gives, told by itself: of arguments that lead nowhere. -/
abbrev CutF := Run → Nat → List V → Option V

noncomputable def withCut (T : Nat → Option CutF) (k : Nat) (R : Run) : Run
  | .f id, args, S => match T id with
    | some g => bif allB V.pure args then
        match g R k (mapN V.strip args) with
        | some v => some (v, S)
        | none => none
      else none
    | none => R (.f id) args S
  | .y b, args, S => R (.y b) args S

noncomputable def runc (C : Cfg) (T : Nat → Option CutF) : Nat → Run
  | 0 => fun _ _ _ => none
  | n + 1 => step C (withCut T n (runc C T n)) n

/-- What is asked of them. -/
structure CutOk (C : Cfg) (P : Program) (T : Nat → Option CutF) : Prop where
  pure : ∀ id g, T id = some g → (C.fc id).pure = true
  fn : ∀ id g, T id = some g → ∃ fn c, P.funcs[id]? = some fn ∧ (fn.name == "runtime.NumGoroutine") = false ∧ fn.body = some c
  ok : ∀ id g, T id = some g → ∀ R k args v, RunOk C P R → allB V.pure args = true → g R k (mapN V.strip args) = some v → PureCalls P id args v

section
variable {C : Cfg} {P : Program} {T : Nat → Option CutF} {R : Run} {k : Nat}

theorem withCut_ok (hT : CutOk C P T) (hR : RunOk C P R) : RunOk C P (withCut T k R) where
  fn id args S r h := by
    unfold withCut at h
    simp only at h
    split at h
    · rename_i g hg; exact hT.fn id g hg
    · exact hR.fn id args S r h
  pure id args S v S' hp ha h := by
    unfold withCut at h
    simp only at h
    split at h
    · rename_i g hg
      rw [ha] at h
      simp only [cond_true] at h
      split at h
      · rename_i v' hv
        cases h
        exact ⟨rfl, hT.ok id g hg R k args _ hR ha hv⟩
      · cases h
    · exact hR.pure id args S v S' hp ha h
  call id args S v S' hq h := by
    unfold withCut at h
    simp only at h
    split at h
    · rename_i g hg
      rw [hT.pure id g hg, Bool.true_and] at hq
      rw [hq] at h
      cases h
    · exact hR.call id args S v S' hq h
  yield b args S v S' h := hR.yield b args S v S' h

theorem runc_ok (hC : CfgOk C P) (hT : CutOk C P T) : ∀ n, RunOk C P (runc C T n)
  | 0 => ⟨(fun _ _ _ _ h => by cases (show (none : Option (V × St)) = _ from h)), (fun _ _ _ _ _ _ _ h => by cases (show (none : Option (V × St)) = _ from h)),
      (fun _ _ _ _ _ _ h => by cases (show (none : Option (V × St)) = _ from h)), (fun _ _ _ _ _ h => by cases (show (none : Option (V × St)) = _ from h))⟩
  | n + 1 => step_ok (k := n) hC (withCut_ok hT (runc_ok hC hT n))

end

/-! ### Pieces of code, one behind the other -/

noncomputable def evalSeq (C : Cfg) (R : Run) (k fid : Nat) (F : FC) : List Code → CodeR
  | [] => fun A S => some (.normal, A, S)
  | c :: l => fun A S => iter.andThen (evalCode C R k fid F c A S) (evalSeq C R k fid F l)

def seqOf : List Code → Code → Code
  | [], z => z
  | c :: l, z => .seq c (seqOf l z)

section
variable {C : Cfg} {P : Program} {R : Run} {k fid n : Nat} {ro : Option Nat} {Q : Exit → Act → World → Prop}

theorem seq_wp (hC : CfgOk C P) (hR : RunOk C P R) {z : Code} : ∀ (l : List Code) {E : Rho} {S : St} {lc : LocM} {A : Env} {a : Act} {w : World} {e : Ex} {A1 : Env} {S1 : St}, (∀ c ∈ l, codeOk (C.fc fid) c = true) →
    SRel E S w → ERel E S lc A a w → evalSeq C R k fid (C.fc fid) l A S = some (e, A1, S1) →
    (∀ E' lc' a' w', Later w a a' → Res E S lc A a' w E' S1 lc' A1 w' → match e with | .normal => z.wpIn (Fw none) n P Q a' w' | e => Q (exOf e) a' w') → (seqOf l z).wpIn (Fw none) n P Q a w
  | [], E, S, lc, A, a, w, e, A1, S1, _, hS, hE, h, hQ => by
    cases (show some (Ex.normal, A, S) = some (e, A1, S1) from h)
    exact hQ _ _ _ _ (Later.refl _ _) (Res.refl hS hE)
  | c :: l, E, S, lc, A, a, w, e, A1, S1, hok, hS, hE, h, hQ => by
    refine wpIn_seq ?_
    replace h : iter.andThen (evalCode C R k fid (C.fc fid) c A S) (evalSeq C R k fid (C.fc fid) l) = some (e, A1, S1) := h
    have hc := code_all (k := k) hC hR none fid c (hok c List.mem_cons_self) (.inl rfl)
    unfold iter.andThen at h
    split at h
    · rename_i A' S' hf
      exact hc n hS hE hf (fun E' lc' a' w' hl hr => seq_wp hC hR l (fun d hd => hok d (List.mem_cons_of_mem _ hd)) hr.srel hr.erel h (fun E'' lc'' a'' w'' hl' hr' => hQ _ _ _ _ (hl.trans hr.step.size hl') (hr.trans hr')))
    · rename_i hne
      refine hc n hS hE h (fun E' lc' a' w' hl hr => ?_)
      have := hQ _ _ _ _ hl hr
      cases e with
      | normal => exact absurd h (hne _ _)
      | ret => exact this
      | exit id => exact this

end

end Go.Ev

/- What a function does in place to a row that it has laid itself: the relation afterwards (own work). -/
namespace Go.Ev
open Go.RowKit

/-- Nothing but one block has turned; there may be new ones. -/
structure Only (w w' : World) (B : Nat) : Prop where
  os : w'.os = w.os
  tape : w'.tape = w.tape
  output : w'.output = w.output
  size : w.heap.size ≤ w'.heap.size
  keep : ∀ k, k < w.heap.size → k ≠ B → w'.heap[k]? = w.heap[k]?

section
variable {w w' w'' : World} {B : Nat}

theorem Only.refl (w : World) (B : Nat) : Only w w B := ⟨rfl, rfl, rfl, Nat.le_refl _, fun _ _ _ => rfl⟩
theorem Only.trans (h : Only w w' B) (k : Only w' w'' B) : Only w w'' B :=
  ⟨k.os.trans h.os, k.tape.trans h.tape, k.output.trans h.output, Nat.le_trans h.size k.size, fun i hi hB => (k.keep i (Nat.lt_of_lt_of_le hi h.size) hB).trans (h.keep i hi hB)⟩

open Go.Sort in
theorem only_putRow {α : Type} [Inhabited α] (enc : α → Value) (w : World) (n B off : Nat) (d : Array α) (os : Array Obj) : Only w (grow (putRow enc (Sort.ahead w n) B off d) os) B := by
  refine ⟨rfl, rfl, rfl, by simp [Sort.ahead], fun k hk hB => ?_⟩
  rw [heap_grow_old _ _ (by simpa [Sort.ahead] using hk)]
  simp only [putRow, mapBlock, Sort.ahead]
  rw [Array.getElem?_modify]
  have : ¬ B = k := fun e => hB e.symm
  simp [this]

open Go.Sort in
theorem heap_putRow {α : Type} [Inhabited α] (enc : α → Value) {w : World} {B : Nat} {cur : Array Value} {e : TypeId} {fr : Nat × Nat} (h : w.heap[B]? = some (.cells cur e fr)) (n off : Nat) (d : Array α) (os : Array Obj) :
    (grow (putRow enc (Sort.ahead w n) B off d) os).heap[B]? = some (.cells (putCells enc off d cur) e fr) := by
  have hlt : B < w.heap.size := (Array.getElem?_eq_some_iff.1 h).1
  rw [heap_grow_old _ _ (by simpa [Sort.ahead] using hlt)]
  simp only [putRow, mapBlock, Sort.ahead]
  rw [Array.getElem?_modify]
  simp [h, onCells]

open Go.Sort in
theorem putCells_size {α : Type} [Inhabited α] (enc : α → Value) (off : Nat) (d : Array α) (cur : Array Value) : (putCells enc off d cur).size = cur.size := by simp [putCells]

open Go.Sort in
theorem putCells_get {α : Type} [Inhabited α] (enc : α → Value) (l : List α) (cur : Array Value) (hl : l.length ≤ cur.size) {j : Nat} {x : α} (hj : l[j]? = some x) : (putCells enc 0 l.toArray cur)[j]? = some (enc x) := by
  have hlt : j < l.length := (List.getElem?_eq_some_iff.1 hj).1
  unfold putCells
  rw [Array.getElem?_mapIdx, Array.getElem?_eq_getElem (by omega)]
  simp only [Option.map_some, Nat.zero_le, true_and, Nat.zero_add, List.size_toArray, hlt, if_true, Nat.sub_zero, Option.some.injEq]
  congr 1
  rw [List.getElem!_toArray]
  rw [List.getElem!_eq_getElem?_getD, hj]
  rfl

/-- The cells of a row, the first m. -/
def Mof (B m : Nat) (w : World) : Nat → Nat → Option Value := fun B' o => if B' = B ∧ o < m then World.all w B' o else none

theorem Mof_true (B m : Nat) (w : World) : MTrue (Mof B m w) w := fun B' o x h => by
  unfold Mof at h
  split at h
  · exact all_true w B' o x h
  · cases h

theorem Mof_block {B m : Nat} {w : World} {B' o : Nat} {x : Value} (h : Mof B m w B' o = some x) : B' = B ∧ o < m := by
  unfold Mof at h
  split at h
  · assumption
  · cases h

theorem Mof_knows {B m o : Nat} {w : World} {x : Value} (ho : o < m) (h : w.cell? ⟨B, o, none⟩ = some x) (h1 : x.oneCell' = true) : Mof B m w B o = some x := by
  unfold Mof
  simp only [ho, and_self, if_true]
  exact all_knows h h1

def EE (w : World) (Bb B m : Nat) (τ : List Own) : Rho := ⟨Mof B m w, [Bb], τ, fun _ _ => none⟩

def TauOk (w : World) (B m : Nat) (τ : List Own) : Prop :=
  τ = [] ∨ ∃ cap n sz cur e, τ = [⟨B, cap, n, sz⟩] ∧ 0 < n ∧ n ≤ cap ∧ 0 < sz ∧ w.heap[B]? = some (.cells cur e (0, 0)) ∧ cur.size = cap * sz ∧ m = n * sz

theorem EE_srel {Bb m : Nat} {τ : List Own} {x : Value} {ty : TypeId} {ty' : Nat} {lv : V} (hne : Bb ≠ B) (hb : w.heap[Bb]? = some (.cells #[x] ty (0, 0))) (h1 : x.oneCell' = true) (hv : VRel (EE w Bb B m τ) noLoc lv x)
    (hl : (cellsLvl [lv]).isSome = true) (hτ : TauOk w B m τ) : SRel (EE w Bb B m τ) ⟨[.cells ty' [lv]], τ.map (·.n)⟩ w where
  len := rfl
  blk b B' k hb' hk := by
    cases b with
    | zero =>
      have e1 : B' = Bb := by have h : some Bb = some B' := hb'; cases h; rfl
      have e2 : k = .cells ty' [lv] := by have h : some (Blk.cells ty' [lv]) = some k := hk; cases h; rfl
      subst e1; subst e2
      exact ⟨#[x], ty, hb, ⟨x, [], rfl, hv, rfl⟩, hl, fun y hy => (show y = x by simpa using hy) ▸ h1⟩
    | succ b => cases hb'
  nodup := by simp [EE]
  tlen := by simp [EE]
  tok t o ho := by
    rcases hτ with rfl | ⟨cap, n, sz, cur, e, rfl, h2, h3, h4, h5, h6, _⟩
    · cases ho
    · cases t with
      | zero =>
        have : o = ⟨B, cap, n, sz⟩ := by have h : some (Own.mk B cap n sz) = some o := ho; cases h; rfl
        subst this
        exact ⟨rfl, h2, h3, h4, cur, e, h5, h6⟩
      | succ t => cases ho
  tdist t u o p ho hp _ := by
    rcases hτ with rfl | ⟨cap, n, sz, cur, e, rfl, _⟩
    · cases ho
    · cases t with
      | zero => cases u with
        | zero => rfl
        | succ u => cases hp
      | succ t => cases ho
  tρ t o ho hm := by
    have : o.g = Bb := by simpa [EE] using hm
    rcases hτ with rfl | ⟨cap, n, sz, cur, e, rfl, _⟩
    · cases ho
    · cases t with
      | zero => have h : some (Own.mk B cap n sz) = some o := ho
                cases h; exact hne this.symm
      | succ t => cases ho
  M := Mof_true B m w
  Mρ B' o x hx hm := by
    have e : B' = Bb := by simpa [EE] using hm
    exact hne (e.symm.trans (Mof_block hx).1)
  Mτ B' o x t p hx hp hg := by
    rcases hτ with rfl | ⟨cap, n, sz, cur, e, rfl, _, _, _, _, _, hmm⟩
    · cases hp
    · cases t with
      | zero => have h : some (Own.mk B cap n sz) = some p := hp
                cases h
                have := (Mof_block hx).2
                rw [← hmm]; exact this
      | succ t => cases hp
  ll b r d B' hb' := by cases b with
    | zero => cases hb'
    | succ b => cases hb'
  lldist b b' r r' d d' B' hb' := by cases b with
    | zero => cases hb'
    | succ b => cases hb'

theorem EE_erel {Bb m nt : Nat} {τ : List Own} {x : Value} {ty : TypeId} {ty' : Nat} {lv : V} {a : Act} (hb : w.heap[Bb]? = some (.cells #[x] ty (0, 0))) (hτ : TauOk w B m τ) (hnt : nt ≤ a.tmps.size) {p : Nat} (hp : a.tmps[p]? = some (.pointer (some ⟨Bb, 0, none⟩)))
    (hm : ∀ d ∈ a.defers, ∃ r, d.target = .collected r ∧ w.heap[r]? = some (.deferred (some []))) (hd : (a.defers.map (·.target)).Pairwise (fun x y => ∀ r s, x = .collected r → y = .collected s → r ≠ s)) :
    ERel (EE w Bb B m τ) ⟨[.cells ty' [lv]], τ.map (·.n)⟩ noLoc { nt := nt, tmps := [(p, .ptr (.box 0) 0)], locs := [], fix := [] } a w where
  nt := hnt
  tmps t v ht := by
    by_cases htp : t = p
    · subst htp
      rw [look_cons_same] at ht
      cases ht
      exact ⟨_, hp, Bb, rfl, rfl⟩
    · rw [look_cons_other htp] at ht
      cases ht
  locs := ⟨(fun d cs hd => by cases hd), (fun d d' B hd => by cases hd)⟩
  apart B' hB := by obtain ⟨d, hd, _⟩ := hB; cases hd
  marks d hd' := by
    obtain ⟨r, h1, h2⟩ := hm d hd'
    refine ⟨r, h1, h2, ?_⟩
    rintro (h | ⟨o, ho, hg⟩ | ⟨b, rr, dd, h, _⟩)
    · have : r = Bb := by simpa [EE] using h
      rw [this, hb] at h2; cases h2
    · rcases hτ with rfl | ⟨cap, n, sz, cur, e, rfl, _, _, _, h5, _⟩
      · cases ho
      · have : o = ⟨B, cap, n, sz⟩ := by simpa [EE] using ho
        subst this
        rw [← hg] at h2
        rw [h5] at h2; cases h2
    · cases b with
      | zero => cases h
      | succ b => cases h
  mdist := hd

end

end Go.Ev

/- term.Names, told by itself: strings collected, sorted and compacted in place (own work). -/
namespace Go.Ev
open Go.RowKit Go.Sort Go.Proofs

/-! ### Sorted, without runs -/

def leStr (x y : List UInt8) : Bool := decide (x ≤ y)

def insB (x : List UInt8) : List (List UInt8) → List (List UInt8)
  | [] => [x]
  | y :: l => match leStr x y with | true => x :: y :: l | false => y :: insB x l

def isort : List (List UInt8) → List (List UInt8)
  | [] => []
  | x :: l => insB x (isort l)

theorem leStr_total (x y : List UInt8) : (leStr x y || leStr y x) = true := by
  unfold leStr
  rcases List.le_total x y with h | h <;> simp [h]

theorem leStr_trans (x y z : List UInt8) (h : leStr x y = true) (k : leStr y z = true) : leStr x z = true := by
  unfold leStr at *
  simp only [decide_eq_true_eq] at *
  exact List.le_trans h k

theorem insB_perm (x : List UInt8) : ∀ l, (insB x l).Perm (x :: l)
  | [] => List.Perm.refl _
  | y :: l => by
    unfold insB
    split
    · exact List.Perm.refl _
    · exact ((insB_perm x l).cons y).trans (List.Perm.swap x y l)

theorem isort_perm : ∀ l, (isort l).Perm l
  | [] => List.Perm.refl _
  | x :: l => (insB_perm x (isort l)).trans ((isort_perm l).cons x)

theorem insB_sorted (x : List UInt8) : ∀ l, l.Pairwise (fun a b => leStr a b = true) → (insB x l).Pairwise (fun a b => leStr a b = true)
  | [], _ => by simp [insB]
  | y :: l, h => by
    unfold insB
    have hh := List.pairwise_cons.1 h
    split
    · rename_i hxy
      refine List.pairwise_cons.2 ⟨fun z hz => ?_, h⟩
      cases hz with
      | head => exact hxy
      | tail _ hz => exact leStr_trans _ _ _ hxy (hh.1 z hz)
    · rename_i hxy
      refine List.pairwise_cons.2 ⟨fun z hz => ?_, insB_sorted x l hh.2⟩
      have := (insB_perm x l).mem_iff.1 hz
      cases this with
      | head => have ht := leStr_total x y; rw [hxy] at ht; simpa using ht
      | tail _ hz => exact hh.1 z hz

theorem isort_sorted : ∀ l, (isort l).Pairwise (fun a b => leStr a b = true)
  | [] => List.Pairwise.nil
  | x :: l => insB_sorted x _ (isort_sorted l)

theorem isort_eq (l : List (List UInt8)) : isort l = l.mergeSort fun x y => decide (x ≤ y) := by
  refine List.Perm.eq_of_pairwise (le := fun a b => leStr a b = true) (fun a b _ _ h1 h2 => ?_) (isort_sorted l) (List.pairwise_mergeSort leStr_trans leStr_total l) ((isort_perm l).trans (List.mergeSort_perm l leStr).symm)
  unfold leStr at h1 h2
  simp only [decide_eq_true_eq] at h1 h2
  exact List.le_antisymm h1 h2

noncomputable def nsort (ss : List (List UInt8)) : List (List UInt8) := Lib.compact (isort ss)

theorem compact_le (zs : List (List UInt8)) : (Lib.compact zs).length ≤ zs.length := by
  unfold Lib.compact Lib.compactUpTo
  rw [List.length_map]
  exact Nat.le_trans (List.length_filter_le _ _) (by simp)

/-! ### The library's contracts, at rows that are known -/

noncomputable abbrev PP := Go.Proofs.Tryz.prog

section
variable {w w' : World} {B : Nat} {cur : Array Value} {e0 : TypeId}

theorem holds_of (hb : w.heap[B]? = some (.cells cur e0 (0, 0))) {ss : List (List UInt8)} (hc : ∀ (j : Nat) (s : List UInt8), ss[j]? = some s → cur[j]? = some (encStr s)) : Holds encStr w B 0 ss.toArray := by
  intro j hj
  have hj' : j < ss.length := by simpa using hj
  have h1 := hc j _ (List.getElem?_eq_getElem hj')
  refine ⟨?_, ?_⟩
  · simp only [World.cell?, hb, Nat.zero_add]
    rw [h1]
    congr 1
    simp [hj']
  · simp [World.frozen?, hb]

theorem sort_at {ss : List (List UInt8)} (cap : Nat) (hb : w.heap[B]? = some (.cells cur e0 (0, 0))) (hc : ∀ (j : Nat) (s : List UInt8), ss[j]? = some s → cur[j]? = some (encStr s)) (hle : ss.length ≤ cur.size) (hlen : ss.length < 4611686018427387904) :
    Calls PP 99 #[.slice (some ⟨B, 0, none⟩) ss.length cap] w fun e w' => e = .returned (.tuple #[]) ∧ Only w w' B ∧
      ∃ cur', w'.heap[B]? = some (.cells cur' e0 (0, 0)) ∧ cur'.size = cur.size ∧ ∀ (j : Nat) (s : List UInt8), (isort ss)[j]? = some s → cur'[j]? = some (encStr s) := by
  have hlt : B < w.heap.size := (Array.getElem?_eq_some_iff.1 hb).1
  refine (calls_of_every_depth fun D => Go.Proofs.AnyS.slices_Sort_string_alone Go.Proofs.Tryz.laysSort D B 0 cap ss w (holds_of hb hc) hlt hlen).mono ?_
  rintro e w' ⟨rfl, m, os, rfl⟩
  refine ⟨rfl, only_putRow _ _ _ _ _ _ _, _, heap_putRow _ hb _ _ _ _, putCells_size _ _ _ _, fun j s hj => ?_⟩
  rw [isort_eq] at hj
  exact putCells_get encStr _ cur (by rw [List.length_mergeSort]; exact hle) hj

theorem compact_at {ss : List (List UInt8)} (cap : Nat) (hb : w.heap[B]? = some (.cells cur e0 (0, 0))) (hc : ∀ (j : Nat) (s : List UInt8), ss[j]? = some s → cur[j]? = some (encStr s)) (hle : ss.length ≤ cur.size) (hcap : ss.length ≤ cap) (hlen : ss.length < 4611686018427387904) :
    Calls PP 100 #[.slice (some ⟨B, 0, none⟩) ss.length cap] w fun e w' => e = .returned (.slice (some ⟨B, 0, none⟩) (Lib.compact ss).length cap) ∧ Only w w' B ∧
      ∃ cur', w'.heap[B]? = some (.cells cur' e0 (0, 0)) ∧ cur'.size = cur.size ∧ ∀ (j : Nat) (s : List UInt8), (Lib.compact ss ++ List.replicate (ss.length - (Lib.compact ss).length) [])[j]? = some s → cur'[j]? = some (encStr s) := by
  refine (calls_of_every_depth fun D => Go.Proofs.AnyS.slices_Compact_string_in Go.Proofs.Tryz.laysCompact D B 0 cap ss w (holds_of hb hc) (by omega) hcap).mono ?_
  rintro e w' ⟨rfl, q, rfl⟩
  have hl := compact_le ss
  refine ⟨rfl, ?_, ?_⟩
  · have := only_putRow encStr w q B 0 (Lib.compact ss ++ List.replicate (ss.length - (Lib.compact ss).length) []).toArray #[]
    rwa [grow_empty] at this
  · have := heap_putRow encStr hb q 0 (Lib.compact ss ++ List.replicate (ss.length - (Lib.compact ss).length) []).toArray #[]
    rw [grow_empty] at this
    exact ⟨_, this, putCells_size _ _ _ _, fun j s hj => putCells_get encStr _ cur (by simp; omega) hj⟩

theorem sort_none (ad : Option Addr) (cap : Nat) (w : World) : Calls PP 99 #[.slice ad 0 cap] w fun e w' => e = .returned (.tuple #[]) ∧ w' = w :=
  calls_of_every_depth fun D => Go.Proofs.AnyS.slices_Sort_string_none_alone Go.Proofs.Tryz.laysSort D ad cap w

theorem compact_none (ad : Option Addr) (cap : Nat) (w : World) : Calls PP 100 #[.slice ad 0 cap] w fun e w' => e = .returned (.slice ad 0 cap) ∧ w' = w :=
  calls_of_every_depth fun D => Go.Proofs.AnyS.slices_Compact_string_empty_in Go.Proofs.Tryz.laysCompact D ad cap w

end

end Go.Ev

/- term.Names is told by itself (own work). -/
namespace Go.Ev
open Go.RowKit Go.Sort Go.Proofs

section
variable {C : Cfg} {P : Program} {ro : Option Nat} {n : Nat} {o : Oper} {a : Act} {w w' : World} {K : Act → World → Prop} {Q : Exit → Act → World → Prop}

theorem list_step {F : Fence} {ops : Array Oper} {l : List Oper} (hg : o.guard = none) (h : o.wpIn F n P a w (wpListIn F n P ops Q l) Q) : wpListIn F n P ops Q (o :: l) a w := by
  unfold wpListIn
  have hw : Region.wanted o (yielded ops a.tmps) = true := by unfold Region.wanted; rw [hg]
  rw [hw]
  exact h

theorem wp_calls {f : Nat} {X : List Value} {R : Ending → World → Prop} (hd : ∀ c, o.op ≠ .defer c) (he : (execOp a.eval o).run P w = .ok (.enter f ⟨X⟩) w) (hc : Calls P f ⟨X⟩ w R)
    (hK : ∀ e w', R e w' → ∃ cv, e = .returned cv ∧ K (a.put o.dst cv) w') : o.wpIn (Fw ro) n P a w K Q := by
  refine ⟨fun _ _ => trivial, ?_⟩
  rw [Oper.semAt_eq _ _ _ hd, he]
  refine ⟨(fun h => by cases h), ?_⟩
  refine (callsIn_wide (n := n - 1)).2 (hc.mono ?_)
  rintro e w' hR
  obtain ⟨cv, rfl, hk⟩ := hK e w' hR
  exact hk

/-- A call of a function by its number. -/
theorem call_run {c : Call} {f : Nat} (ho : o.op = .call c) (hf : c.callee = .value (.func f)) (hP : ∃ fn c, P.funcs[f]? = some fn ∧ (fn.name == "runtime.NumGoroutine") = false ∧ fn.body = some c) :
    (execOp a.eval o).run P w = .ok (.enter f ⟨c.args.toList.map a.eval⟩) w := by
  have he : execOp a.eval o = callFunc f ⟨c.args.toList.map a.eval⟩ := by
    unfold execOp; rw [ho]
    have e1 : a.eval (.func f) = .func (.func f) #[] #[] := rfl
    simp only [resolve, hf, e1, Deferred.ofValue, pure_bind, invoke]
    congr 1
    apply Array.toList_inj.1
    simp
  rw [he]
  exact callFunc_run hP
end

/-! ### Its code, in pieces -/

noncomputable def cfst : Code → Code | .seq a _ => a | c => c
noncomputable def csnd : Code → Code | .seq _ b => b | c => c
noncomputable def bodyOf (f : Func) : Code := f.body.getD .skip

noncomputable def nmB : Code := bodyOf Go.Proofs.Tryz.f86
noncomputable def nmC : List Code := [cfst nmB, cfst (csnd nmB), cfst (csnd (csnd nmB))]

structure NmTail (o0 o1 p0 p1 p2 : Oper) (c1 c2 : Call) : Prop where
  o0o : o0.op = .load 78 (.tmp 2)
  o0d : o0.dst = some 9
  o0g : o0.guard = none
  o1o : o1.op = .call c1
  o1f : c1.callee = .value (.func 99)
  o1a : c1.args = #[.tmp 9]
  o1d : o1.dst = some 10
  o1g : o1.guard = none
  p0o : p0.op = .load 78 (.tmp 2)
  p0d : p0.dst = some 11
  p0g : p0.guard = none
  p1o : p1.op = .call c2
  p1f : c2.callee = .value (.func 100)
  p1a : c2.args = #[.tmp 11]
  p1d : p1.dst = some 12
  p1g : p1.guard = none
  p2o : p2.op = .store 78 (.tmp 2) (.tmp 12)
  p2d : p2.dst = none
  p2g : p2.guard = none

theorem nm_body : ∃ (i4 i5 : Nat) (o0 o1 p0 p1 p2 : Oper) (c1 c2 : Call), nmB = seqOf nmC (.seq (.region i4 #[o0, o1] false) (.seq (.region i5 #[p0, p1, p2] false) .ret)) ∧ NmTail o0 o1 p0 p1 p2 c1 c2 :=
  ⟨_, _, _, _, _, _, _, _, _, rfl, ⟨rfl, rfl, rfl, rfl, rfl, rfl, rfl, rfl, rfl, rfl, rfl, rfl, rfl, rfl, rfl, rfl, rfl, rfl, rfl⟩⟩

noncomputable def strRow (s : List UInt8) : V := .agg [.str s]
noncomputable def rowStr : V → Option (List UInt8)
  | .agg [.str s] => some s
  | _ => none
noncomputable def strRows (l : List V) : Option (List (List UInt8)) := allOf rowStr l

noncomputable def namesEnd (S : St) : V → Option V
  | .list _ tok _ rows => match strRows rows with
    | some [] => some (.list 1 .no 0 [])
    | some ss => match tok with
      | .own t => match nth S.toks t with
        | some m => bif Nat.beq m (lenN rows) && Nat.blt (lenN rows) 4611686018427387904 then some (.list 1 .no 0 (mapN strRow (nsort ss))) else none
        | none => none
      | _ => none
    | none => none
  | _ => none

noncomputable def namesG : CutF := fun R k args =>
  match evalSeq Go.Ev.Tryz.cfg R k 86 (Go.Ev.Tryz.cfg.fc 86) nmC { nt := Go.Proofs.Tryz.f86.ntmps, tmps := number 0 args, locs := [], fix := [] } St.empty with
  | some (.normal, A, S) => match look 2 A.tmps with
    | some (.ptr (.box b) 0) => match nth S.heap b with
      | some (.cells _ [lv]) => bif Nat.blt 12 A.nt then namesEnd S lv else none
      | _ => none
    | _ => none
  | some (.ret, A, S) => match resultsOf Go.Ev.Tryz.cfg A S Go.Proofs.Tryz.f86.results.toList with
    | some [.list 0 .tight 0 []] => some (.list 0 .tight 0 [])
    | _ => none
  | _ => none

/-! ### What it comes to -/

/-- Where a function that was called in the empty state has come to. -/
structure Went (M : Nat → Nat → Option Value) (w : World) (E : Rho) (w' : World) : Prop where
  os : w'.os = w.os
  tape : w'.tape = w.tape
  output : w'.output = w.output
  size : w.heap.size ≤ w'.heap.size
  keep : ∀ k, k < w.heap.size → w'.heap[k]? = w.heap[k]?
  mem : ∀ B o x, E.M B o = some x → M B o = some x ∨ w.heap.size ≤ B

section
variable {M : Nat → Nat → Option Value} {E E' : Rho} {S S' : St} {lc lc' : LocM} {A A' : Env} {a a' : Act} {w w' w'' : World} {v : V} {cv : Value}

theorem Went.behind {B : Nat} (h : Went M w E w') (ho : Only w' w'' B) (hB : w.heap.size ≤ B) (hm : ∀ B o x, E'.M B o = some x → w.heap.size ≤ B) : Went M w E' w'' :=
  ⟨ho.os.trans h.os, ho.tape.trans h.tape, ho.output.trans h.output, Nat.le_trans h.size ho.size, fun k hk => (ho.keep k (Nat.lt_of_lt_of_le hk h.size) (by omega)).trans (h.keep k hk), fun B o x hx => .inr (hm B o x hx)⟩

theorem Went.start {A0 : Env} (hl : A0.locs = []) (h : Res (only M) St.empty noLoc A0 a w E S lc A w') : Went M w E w' := by
  have hF : ∀ k, ¬ FL (only M) St.empty noLoc A0 k := fun k hk => by
    rcases hk with hk | ⟨d, hd, _⟩
    · exact FP_empty hk
    · rw [hl] at hd; cases hd
  exact ⟨h.step.os, h.step.tape, h.step.output, h.step.size, fun k hk => h.step.keep k hk (hF k), fun B o x hx => (h.step.mnew B o x hx).imp_right fun y => y.elim (fun hf => (hF B hf).elim) id⟩

theorem went_block {A0 : Env} (hl : A0.locs = []) (h : Res (only M) St.empty noLoc A0 a w E S lc A w') {k : Nat} (hk : FP E S k) : w.heap.size ≤ k := by
  rcases h.step.grow k (.inl hk) with hf | hf
  · rcases hf with hf | ⟨d, hd, _⟩
    · exact (FP_empty hf).elim
    · rw [hl] at hd; cases hd
  · exact hf

/-- Marks go, and what is given is what is asked. -/
theorem went_ends (hg : Went M w E w') (hS : SRel E S w') (hE : ERel E S lc A a w') (hM : MTrue M w) {fn : Func} {n : Nat} (hd : ∀ d ∈ a.defers, ∃ r, d.target = .collected r ∧ w.heap.size ≤ r)
    (hC : CfgOk Go.Ev.Tryz.cfg PP) (hr : resultsOf Go.Ev.Tryz.cfg A S fn.results.toList = some [v]) (hl : within (aggLvl v) 0) (hp : plainV v = true) :
    LeavesInM (Fw none) n PP fn a.tmps (PurePost M w v) a.defers .returning w' := by
  refine leave_marks (w0 := w) a.defers w' hS hE hd (fun w'' h1 h2 h3 h4 h5 h6 h7 => ?_)
  obtain ⟨Y, k1, k2⟩ := results_rel hC h1 h2.tmps h2.locs hr
  obtain ⟨x, Z, rfl, j1, j2⟩ := k2
  cases j2
  have hrun : (results fn a.tmps).run PP w'' = .ok x w'' := by
    rw [results_eq, Array.mapM_eq_mapM_toList]
    simp [k1]
  have hMlt : ∀ B o x, M B o = some x → B < w.heap.size := fun B o x hx => cell_block (hM B o x hx).1
  have hgr : Grew w w'' := ⟨h3.trans hg.os, h4.trans hg.tape, h5.trans hg.output, by rw [h6]; exact hg.size, fun k hk => (h7 k hk).trans (hg.keep k hk)⟩
  refine ⟨x, hrun, x, fun B o => if B < w.heap.size then M B o else World.all w'' B o, rfl, hgr, ?_, ?_, ?_, ?_⟩
  · intro B o y hy
    by_cases hlt : B < w.heap.size
    · simp only [hlt, if_true] at hy
      have := hM B o y hy
      exact ⟨by rw [World.cell?_of_block (w := w) (a := ⟨B, o, none⟩) (hgr.keep B hlt)]; exact this.1, this.2⟩
    · simp only [hlt, if_false] at hy
      exact all_true w'' B o y hy
  · intro B o y hy
    simp only [hMlt B o y hy, if_true]; exact hy
  · intro B o y hy
    by_cases hlt : B < w.heap.size
    · simp only [hlt, if_true] at hy; exact .inl hy
    · exact .inr (by omega)
  · refine (trans_all (E := E) (E' := only fun B o => if B < w.heap.size then M B o else World.all w'' B o) (l := lc) (l' := noLoc) (n := 0) ⟨fun B o y hy => ?_, fun b B hlt _ => by omega⟩ v).1 x (aggLvl_lvl hl) (.inr hp) j1
    show (if B < w.heap.size then M B o else World.all w'' B o) = some y
    rcases hg.mem B o y hy with hm | hm
    · rw [if_pos (hMlt B o y hm)]; exact hm
    · rw [if_neg (by omega)]; exact all_more h1 B o y hy

end

end Go.Ev

/- term.Names is told by itself: its contract (own work). -/
namespace Go.Ev
open Go.RowKit Go.Sort Go.Proofs

section
variable {M : Nat → Nat → Option Value} {E : Rho} {S : St} {lc : LocM} {A : Env} {a : Act} {w w2 : World} {cv : Value} {R : Run} {k : Nat}

theorem ti_strs : Go.Ev.Tryz.cfg.ti 78 = some { kind := .slice 9, size := 1, bytes := 24, zero := [.list 0 .tight 0 []] } := rfl

theorem load_box {b ty : Nat} {lv : V} (hb : nth S.heap b = some (.cells ty [lv])) (hs : sole lv = some lv) : load Go.Ev.Tryz.cfg A S .any 78 (.ptr (.box b) 0) = some lv := by
  unfold load
  rw [ti_strs]
  simp only [Acc.ok, Acc.any, rd, hb]
  exact hs

theorem names_last (hC : CfgOk Go.Ev.Tryz.cfg PP) {o0 o1 p0 p1 p2 : Oper} {c1 c2 : Call} (ht : NmTail o0 o1 p0 p1 p2 c1 c2) {b ty : Nat} {lv : V} {rows : List V} {n : Nat} {K : Act → World → Prop} {Q : Exit → Act → World → Prop}
    (hS : SRel E S w2) (hE : ERel E S lc A a w2) (h2 : look 2 A.tmps = some (.ptr (.box b) 0)) (hb : nth S.heap b = some (.cells ty [lv])) (h12 : a.eval (.tmp 12) = cv) (hv : VRel E lc (.list 1 .no 0 rows) cv)
    (hg : Went M w E w2) (hM : MTrue M w) (hd : ∀ d ∈ a.defers, ∃ r, d.target = .collected r ∧ w.heap.size ≤ r) (hmem : ∀ k, k < w.heap.size → ¬ FL E S lc A k)
    (hK : ∀ w3, LeavesInM (Fw none) 0 PP Go.Proofs.Tryz.f86 a.tmps (PurePost M w (.list 1 .no 0 rows)) a.defers .returning w3 → K a w3) : p2.wpIn (Fw none) n PP a w2 K Q := by
  have hnd : ∀ c, p2.op ≠ .defer c := fun c hh => by rw [ht.p2o] at hh; cases hh
  have hsto : store Go.Ev.Tryz.cfg A S .any 78 (.ptr (.box b) 0) (.list 1 .no 0 rows) = some (A, { S with heap := setN S.heap b (.cells ty [.list 1 .no 0 rows]) }) := by
    unfold store
    rw [ti_strs]
    simp only [Acc.ok, Acc.any, wr, hb]
    rfl
  have hp : VRel E lc (.ptr (.box b) 0) (a.eval (.tmp 2)) := operand_rel hE.tmps (show operand A (.tmp 2) = some _ from h2)
  obtain ⟨w3, k1, k2⟩ := store_sound hC hS hE hsto hp hv
  refine wp_skip' hnd (w' := w3) (by unfold execOp; rw [ht.p2o]; simp only [h12, Sem.run_bind, k1]; rfl) ?_
  rw [ht.p2d]
  have hgo : Went M w E w3 := ⟨k2.step.os.trans hg.os, k2.step.tape.trans hg.tape, k2.step.output.trans hg.output, Nat.le_trans hg.size k2.step.size,
    fun k hk => (k2.step.keep k (Nat.lt_of_lt_of_le hk hg.size) (hmem k hk)).trans (hg.keep k hk), hg.mem⟩
  have hlt : b < S.heap.length := by rw [nth_eq] at hb; exact (List.getElem?_eq_some_iff.1 hb).1
  have hnth : nth (setN S.heap b (.cells ty [.list 1 .no 0 rows])) b = some (.cells ty [.list 1 .no 0 rows]) := by rw [nth_eq, setN_eq, List.getElem?_set_self hlt]
  have hres : resultsOf Go.Ev.Tryz.cfg A { S with heap := setN S.heap b (.cells ty [.list 1 .no 0 rows]) } (Go.Proofs.Tryz.f86).results.toList = some [.list 1 .no 0 rows] := by
    show resultsOf Go.Ev.Tryz.cfg A { S with heap := setN S.heap b (.cells ty [.list 1 .no 0 rows]) } [.cell 2 78] = _
    unfold resultsOf
    have hl := load_box (A := A) (S := { S with heap := setN S.heap b (.cells ty [.list 1 .no 0 rows]) }) (lv := .list 1 .no 0 rows) hnth rfl
    simp only [Env.get, h2, hl, resultsOf]
  exact hK w3 (went_ends hgo k2.srel k2.erel hM hd hC hres ⟨0, rfl, Nat.le_refl _⟩ rfl)

theorem rowsAt_of {B : Nat} : ∀ {ts : List (List UInt8)} {o : Nat}, (∀ (j : Nat) (s : List UInt8), ts[j]? = some s → E.M B (o + j) = some (encStr s)) → RowsAt E lc 1 (ts.map strRow) B o
  | [], o, _ => trivial
  | s :: ts, o, h => by
    refine ⟨⟨rfl, ⟨rfl, encStr s, ?_, rfl⟩, trivial⟩, rowsAt_of fun j u hj => ?_⟩
    · have := h 0 s rfl; rwa [Nat.add_zero] at this
    · have := h (j + 1) u (by simpa using hj)
      rwa [show o + 1 + j = o + (j + 1) by omega]

theorem strRows_cons {r : V} {rows : List V} {ss : List (List UInt8)} (h : strRows (r :: rows) = some ss) : ∃ s ts, r = strRow s ∧ strRows rows = some ts ∧ ss = s :: ts := by
  unfold strRows at h
  rw [allOf_cons] at h
  obtain ⟨s, ts, h1, h2, rfl⟩ := consO_some h
  refine ⟨s, ts, ?_, h2, rfl⟩
  unfold rowStr at h1
  split at h1
  · cases h1; rfl
  · cases h1

theorem strRows_rows : ∀ {rows : List V} {ss : List (List UInt8)}, strRows rows = some ss → rows = ss.map strRow
  | [], ss, h => by cases (show some ([] : List (List UInt8)) = some ss from h); rfl
  | r :: rows, ss, h => by
    obtain ⟨s, ts, rfl, h2, rfl⟩ := strRows_cons h
    rw [strRows_rows h2]; rfl

theorem rowsAt_strs {B : Nat} : ∀ {ss : List (List UInt8)} {o : Nat}, RowsAt E lc 1 (ss.map strRow) B o → ∀ (j : Nat) (s : List UInt8), ss[j]? = some s → E.M B (o + j) = some (encStr s)
  | [], _, _, j, s, hj => by simp at hj
  | s :: ss, o, h, j, u, hj => by
    cases j with
    | zero =>
      simp at hj; subst hj
      obtain ⟨⟨_, ⟨_, x, h1, h2⟩, _⟩, _⟩ := h
      rw [Nat.add_zero, h1]; exact congrArg some h2
    | succ j =>
      have := rowsAt_strs h.2 j u (by simpa using hj)
      rwa [show o + (j + 1) = o + 1 + j by omega]

theorem strs_lvl : ∀ (ts : List (List UInt8)), within (valsLvl (ts.map strRow)) 0
  | [] => ⟨0, rfl, Nat.le_refl _⟩
  | _ :: ts => valsLvl_within.2 ⟨⟨0, rfl, Nat.le_refl _⟩, strs_lvl ts⟩

/-- What an own row of strings is. -/
theorem own_strs {sz t top : Nat} {ss : List (List UInt8)} {x : Value} (h0 : ss ≠ []) (hS : SRel E S w) (ht : S.toks[t]? = some ss.length) (hv : VRel E lc (.list sz (.own t) top (ss.map strRow)) x) :
    ∃ o cur e, E.τ[t]? = some o ∧ x = .slice (some ⟨o.g, 0, none⟩) ss.length o.cap ∧ ss.length ≤ o.cap ∧ w.heap[o.g]? = some (.cells cur e (0, 0)) ∧ cur.size = o.cap ∧ ∀ (j : Nat) (s : List UInt8), ss[j]? = some s → cur[j]? = some (encStr s) := by
  obtain ⟨_, ⟨o, q1, q2, q3, q4, q5⟩, h3⟩ := hv
  obtain ⟨p1, p2, p3, p4, cur, e, p5, p6⟩ := hS.tok t o q1
  rw [p1] at ht
  injection ht with ht
  rw [List.length_map] at q5 q4
  have hx := q5 ht.symm
  rcases h3 with ⟨hn, _⟩ | ⟨B, off, cap, hx2, hcap, hrows⟩
  · exact absurd (List.map_eq_nil_iff.1 hn) h0
  rw [List.length_map] at hx2 hcap
  rw [hx] at hx2
  cases hx2
  have hsz : sz = 1 := by
    cases ss with
    | nil => exact absurd rfl h0
    | cons s ss => exact hrows.1.1.symm
  subst hsz
  refine ⟨o, cur, e, q1, hx, hcap, p5, by rw [p6, q3, Nat.mul_one], fun j s hj => ?_⟩
  have h1 := rowsAt_strs hrows j s hj
  have h2 := (hS.M _ _ _ h1).1
  simp only [World.cell?, p5, Nat.zero_add] at h2
  exact h2

/-- What a row of no elements is. -/
theorem none_slice {sz top : Nat} {tok : Tok} {x : Value} (hv : VRel E lc (.list sz tok top []) x) : ∃ ad cap, x = .slice ad 0 cap ∧ (cap = 0 ∨ ∃ B o, ad = some ⟨B, o, none⟩) := by
  obtain ⟨_, _, h3⟩ := hv
  rcases h3 with ⟨_, a, rfl⟩ | ⟨B, o, cap, rfl, _, _⟩
  · exact ⟨a, 0, rfl, .inl rfl⟩
  · exact ⟨_, cap, rfl, .inr ⟨B, o, rfl⟩⟩

theorem none_rel {ad : Option Addr} {cap : Nat} (h : cap = 0 ∨ ∃ B o, ad = some ⟨B, o, none⟩) : VRel E lc (.list 1 .no 0 []) (.slice ad 0 cap) := by
  refine ⟨⟨0, rfl, Nat.le_refl _⟩, trivial, ?_⟩
  rcases h with rfl | ⟨B, o, rfl⟩
  · exact .inl ⟨rfl, ad, rfl⟩
  · exact .inr ⟨B, o, cap, rfl, Nat.zero_le _, trivial⟩

end

end Go.Ev

/- term.Names is told by itself: what it gives (own work). -/
namespace Go.Ev
open Go.RowKit Go.Sort Go.Proofs

section
variable {M : Nat → Nat → Option Value} {E : Rho} {S : St} {lc : LocM} {A : Env} {a : Act} {w w2 : World} {cv : Value} {R : Run} {k : Nat}

theorem sort_fn : ∃ fn c, PP.funcs[99]? = some fn ∧ (fn.name == "runtime.NumGoroutine") = false ∧ fn.body = some c := ⟨_, _, Go.Proofs.Tryz.func99, by kernel_rfl, rfl⟩
theorem compact_fn : ∃ fn c, PP.funcs[100]? = some fn ∧ (fn.name == "runtime.NumGoroutine") = false ∧ fn.body = some c := ⟨_, _, Go.Proofs.Tryz.func100, by kernel_rfl, rfl⟩

theorem put_size (a : Act) (d : Option Nat) (x : Value) : (a.put d x).tmps.size = a.tmps.size := by
  cases d with
  | none => rfl
  | some d => show (a.tmps.setIfInBounds d x).size = _; rw [Array.size_setIfInBounds]

theorem put_other {a : Act} {d t : Nat} (h : d ≠ t) (x : Value) : (a.put (some d) x).tmps[t]? = a.tmps[t]? := by
  show (a.tmps.setIfInBounds d x)[t]? = _
  rw [Array.getElem?_setIfInBounds_ne h]

theorem names_wp (hC : CfgOk Go.Ev.Tryz.cfg PP) {o0 o1 p0 p1 p2 : Oper} {c1 c2 : Call} (ht : NmTail o0 o1 p0 p1 p2 c1 c2) {A0 A1 : Env} {S1 : St} {b ty : Nat} {lv v : V} {n i4 i5 : Nat} {Q : Exit → Act → World → Prop} (hl0 : A0.locs = [])
    (hr : Res (only M) St.empty noLoc A0 a w E S1 lc A1 w2) (hM : MTrue M w) (h2 : look 2 A1.tmps = some (.ptr (.box b) 0)) (hb : nth S1.heap b = some (.cells ty [lv])) (hnt : 12 < A1.nt) (hv : namesEnd S1 lv = some v)
    (hd : ∀ d ∈ a.defers, ∃ r, d.target = .collected r ∧ w.heap.size ≤ r)
    (hQ : ∀ a3 w3, LeavesInM (Fw none) 0 PP Go.Proofs.Tryz.f86 a3.tmps (PurePost M w v) a3.defers .returning w3 → Q .ret a3 w3) :
    (Code.seq (.region i4 #[o0, o1] false) (.seq (.region i5 #[p0, p1, p2] false) .ret)).wpIn (Fw none) n PP Q a w2 := by
  have hsz : 12 < a.tmps.size := Nat.lt_of_lt_of_le hnt hr.erel.nt
  have nd : ∀ {o : Oper} {op : Op}, o.op = op → (∀ c, op ≠ .defer c) → ∀ c, o.op ≠ .defer c := fun h1 h2 c h3 => h2 c (h1 ▸ h3)
  have hFP : ∀ k, FP E S1 k → w.heap.size ≤ k := fun k hk => went_block hl0 hr hk
  have hg0 : Went M w E w2 := Went.start hl0 hr
  unfold namesEnd at hv
  split at hv
  · rename_i lsz tok top rows
    have hsole : sole (.list lsz tok top rows) = some (.list lsz tok top rows) := rfl
    refine wpIn_seq (wpIn_region_list (list_step ht.o0g ?_))
    obtain ⟨cv1, r1, hv1⟩ := load_sound hC hr.srel hr.erel.locs (load_box (A := A1) hb hsole) (operand_rel hr.erel.tmps (show operand A1 (.tmp 2) = some _ from h2))
    refine wp_v (nd ht.o0o (fun c hh => by cases hh)) (s := Instr.loadAt _ _) (by unfold execOp; rw [ht.o0o]) r1 ?_
    rw [ht.o0d]
    refine list_step ht.o1g ?_
    have e9 : (a.put (some 9) cv1).eval (.tmp 9) = cv1 := eval_at (by omega)
    have hargs1 : c1.args.toList.map (a.put (some 9) cv1).eval = [cv1] := by rw [ht.o1a]; simp [e9]
    split at hv
    · -- no name
      rename_i hrows
      cases hv
      obtain rfl := strRows_rows hrows
      obtain ⟨ad1, cap1, rfl, _⟩ := none_slice hv1
      refine wp_calls (nd ht.o1o (fun c hh => by cases hh)) (call_run ht.o1o ht.o1f sort_fn) (by rw [hargs1]; exact sort_none ad1 cap1 w2) ?_
      rintro e' w3 ⟨rfl, rfl⟩
      refine ⟨_, rfl, ?_⟩
      rw [ht.o1d]
      refine wpIn_seq (wpIn_region_list (list_step ht.p0g ?_))
      -- the frame, without what was put
      have hres : Res (only M) St.empty noLoc A0 a w E S1 lc { A1 with tmps := [(2, .ptr (.box b) 0)] } w3 := hr.fewer (Nat.le_refl _) (fun t v ht => by
        by_cases h : t = 2
        · subst h; rw [look_cons_same] at ht; cases ht; exact h2
        · rw [look_cons_other h] at ht; cases ht) (fun _ => rfl) rfl
      have off : ∀ t, t ≠ 2 → look t [((2 : Nat), V.ptr (.box b) 0)] = none := fun t h => by rw [look_cons_other h]; rfl
      have hres2 := free_put (q := 10) (free_put (q := 9) hres (off 9 (by decide)) (.slice ad1 0 cap1)) (off 10 (by decide)) (.tuple #[])
      generalize ha2 : (a.put (some 9) (.slice ad1 0 cap1)).put (some 10) (.tuple #[]) = a2 at hres2 ⊢
      have hs2 : a2.tmps.size = a.tmps.size := by rw [← ha2, put_size, put_size]
      have hd2 : a2.defers = a.defers := by rw [← ha2]; rfl
      obtain ⟨cv2, r2, hv2⟩ := load_sound hC hres2.srel hres2.erel.locs (load_box (A := { A1 with tmps := [(2, .ptr (.box b) 0)] }) hb hsole) (operand_rel hres2.erel.tmps (show operand { A1 with tmps := [(2, .ptr (.box b) 0)] } (.tmp 2) = some _ from rfl))
      obtain ⟨ad2, cap2, rfl, hor2⟩ := none_slice hv2
      refine wp_v (nd ht.p0o (fun c hh => by cases hh)) (s := Instr.loadAt _ _) (by unfold execOp; rw [ht.p0o]) r2 ?_
      rw [ht.p0d]
      refine list_step ht.p1g ?_
      have e11 : (a2.put (some 11) (.slice ad2 0 cap2)).eval (.tmp 11) = .slice ad2 0 cap2 := eval_at (by omega)
      have hargs2 : c2.args.toList.map (a2.put (some 11) (.slice ad2 0 cap2)).eval = [.slice ad2 0 cap2] := by rw [ht.p1a]; simp [e11]
      refine wp_calls (nd ht.p1o (fun c hh => by cases hh)) (call_run ht.p1o ht.p1f compact_fn) (by rw [hargs2]; exact compact_none ad2 cap2 w3) ?_
      rintro e' w4 ⟨rfl, rfl⟩
      refine ⟨_, rfl, ?_⟩
      rw [ht.p1d]
      refine list_step ht.p2g ?_
      have hres4 := free_put (q := 12) (free_put (q := 11) hres2 (off 11 (by decide)) (.slice ad2 0 cap2)) (off 12 (by decide)) (.slice ad2 0 cap2)
      refine names_last (rows := []) hC ht hres4.srel hres4.erel rfl hb (eval_at (by rw [put_size]; omega)) (none_rel hor2) hg0 hM (by
        show ∀ d ∈ a2.defers, _
        rw [hd2]; exact hd) (fun k hk hf => ?_) (fun w5 h5 => wpIn_ret (hQ _ _ h5))
      rcases hf with hf | ⟨d, hd', hB⟩
      · exact absurd (hFP k hf) (by omega)
      · rcases hr.step.grow k (.inr ⟨d, hd', hB⟩) with hq | hq
        · rcases hq with hq | ⟨d, hd, _⟩
          · exact FP_empty hq
          · rw [hl0] at hd; cases hd
        · omega
    · -- some names
      rename_i ss hss hrows
      split at hv
      · rename_i t
        split at hv
        · rename_i m hm
          have hch := (bif_some hv).1
          replace hv := (bif_some hv).2
          cases hv
          simp only [Bool.and_eq_true] at hch
          have hm' := Nat.eq_of_beq_eq_true hch.1
          have hlen : lenN rows < 4611686018427387904 := by have := hch.2; rwa [Nat.blt_eq] at this
          obtain rfl := strRows_rows hrows
          rw [lenN_eq, List.length_map] at hm' hlen
          subst hm'
          rw [nth_eq] at hm
          have hss' : ss ≠ [] := hss
          obtain ⟨o, cur, e, q1, hcv1, hcap, hcur, hcsz, hcc⟩ := own_strs hss' hr.srel hm hv1
          have h0n : 0 < ss.length := List.length_pos_iff.2 hss'
          have hog : w.heap.size ≤ o.g := hFP o.g (.inr (.inl ⟨o, List.mem_of_getElem? q1, rfl⟩))
          have hblt : o.g < w2.heap.size := (Array.getElem?_eq_some_iff.1 hcur).1
          refine wp_calls (nd ht.o1o (fun c hh => by cases hh)) (call_run ht.o1o ht.o1f sort_fn) (by rw [hargs1, hcv1]; exact sort_at o.cap hcur hcc (by omega) hlen) ?_
          rintro e' w3 ⟨rfl, hO1, cur2, hcur2, hcsz2, hcc2⟩
          refine ⟨_, rfl, ?_⟩
          rw [ht.o1d]
          refine wpIn_seq (wpIn_region_list (list_step ht.p0g ?_))
          -- the box of the names
          obtain ⟨x2, hx2, Bb, hBb, rfl⟩ := hr.erel.tmps 2 _ h2
          rw [nth_eq] at hb
          obtain ⟨arr, tyb, hA1, hA2, _, hA4⟩ : HoldsCells E w2 Bb [.list lsz (.own t) top (ss.map strRow)] := hr.srel.blk b Bb _ hBb hb
          obtain ⟨xh, Y, hY1, hxh, hY2⟩ := hA2
          cases hY2
          obtain rfl : arr = #[xh] := Array.toList_inj.1 hY1
          obtain ⟨o', cur', e', q1', hxh', _⟩ := own_strs hss' hr.srel hm hxh
          rw [q1] at q1'
          cases q1'
          have hne : Bb ≠ o.g := fun hh => hr.srel.tρ t o q1 (hh ▸ List.mem_of_getElem? hBb)
          have hBblt : Bb < w2.heap.size := (Array.getElem?_eq_some_iff.1 hA1).1
          have hBbw : w.heap.size ≤ Bb := hFP Bb (.inl (List.mem_of_getElem? hBb))
          have hone : xh.oneCell' = true := hA4 xh (by simp)
          have hA1' : w3.heap[Bb]? = some (.cells #[xh] tyb (0, 0)) := (hO1.keep Bb hBblt hne).trans hA1
          have hil : (isort ss).length = ss.length := (isort_perm ss).length_eq
          -- behind the sort
          have hτ2 : TauOk w3 o.g ss.length [⟨o.g, o.cap, ss.length, 1⟩] := .inr ⟨o.cap, ss.length, 1, cur2, e, rfl, h0n, hcap, Nat.one_pos, hcur2, by rw [hcsz2, hcsz, Nat.mul_one], (Nat.mul_one _).symm⟩
          have hk2 : ∀ (j : Nat) (s : List UInt8), (isort ss)[j]? = some s → Mof o.g ss.length w3 o.g (0 + j) = some (encStr s) := fun j s hj => by
            rw [Nat.zero_add]
            refine Mof_knows (by rw [← hil]; exact (List.getElem?_eq_some_iff.1 hj).1) ?_ rfl
            simp only [World.cell?, hcur2]
            exact hcc2 j s hj
          have hv2 : VRel (EE w3 Bb o.g ss.length [⟨o.g, o.cap, ss.length, 1⟩]) noLoc (.list 1 (.own 0) 0 ((isort ss).map strRow)) xh := by
            refine ⟨strs_lvl _, ⟨_, rfl, by rw [List.length_map, hil]; exact h0n, rfl, by rw [List.length_map, hil]; exact Nat.le_refl _, fun _ => by rw [List.length_map, hil, hxh']⟩, .inr ⟨o.g, 0, o.cap, by rw [List.length_map, hil, hxh'], by rw [List.length_map, hil]; exact hcap, rowsAt_of hk2⟩⟩
          have hS2 := EE_srel (ty' := 0) hne hA1' hone hv2 rfl hτ2
          generalize ha2 : (a.put (some 9) cv1).put (some 10) (.tuple #[]) = a2
          have hs2 : a2.tmps.size = a.tmps.size := by rw [← ha2, put_size, put_size]
          have hd2 : a2.defers = a.defers := by rw [← ha2]; rfl
          have ht2 : a2.tmps[2]? = some (.pointer (some ⟨Bb, 0, none⟩)) := by rw [← ha2, put_other (by decide), put_other (by decide)]; exact hx2
          have hmk : ∀ d ∈ a2.defers, ∃ r, d.target = .collected r ∧ w3.heap[r]? = some (.deferred (some [])) := fun d hd' => by
            rw [hd2] at hd'
            obtain ⟨r, m1, m2, _⟩ := hr.erel.marks d hd'
            have hrlt : r < w2.heap.size := (Array.getElem?_eq_some_iff.1 m2).1
            refine ⟨r, m1, ?_⟩
            rw [hO1.keep r hrlt (fun hh => by rw [hh, hcur] at m2; cases m2)]; exact m2
          have hmd : (a2.defers.map (·.target)).Pairwise (fun x y => ∀ r s, x = .collected r → y = .collected s → r ≠ s) := by rw [hd2]; exact hr.erel.mdist
          have hE2 := EE_erel (nt := 13) (ty' := 0) (lv := .list 1 (.own 0) 0 ((isort ss).map strRow)) hA1' hτ2 (by omega) ht2 hmk hmd
          obtain ⟨cv2, r2, hv2c⟩ := load_sound hC hS2 hE2.locs (load_box (A := { nt := 13, tmps := [(2, .ptr (.box 0) 0)], locs := [], fix := [] }) (b := 0) rfl rfl) (operand_rel hE2.tmps (show operand { nt := 13, tmps := [(2, .ptr (.box 0) 0)], locs := [], fix := [] } (.tmp 2) = some _ from rfl))
          obtain ⟨o3, _, _, q3, hcv2, _⟩ := own_strs (t := 0) (ss := isort ss) (fun hh => by rw [hh] at hil; simp at hil; omega) hS2 (by rw [hil]; rfl) hv2c
          obtain rfl : o3 = ⟨o.g, o.cap, ss.length, 1⟩ := by
            have h : some (Own.mk o.g o.cap ss.length 1) = some o3 := q3
            cases h; rfl
          refine wp_v (nd ht.p0o (fun c hh => by cases hh)) (s := Instr.loadAt _ _) (by unfold execOp; rw [ht.p0o]) r2 ?_
          rw [ht.p0d]
          refine list_step ht.p1g ?_
          have e11 : (a2.put (some 11) cv2).eval (.tmp 11) = cv2 := eval_at (by omega)
          have hargs2 : c2.args.toList.map (a2.put (some 11) cv2).eval = [cv2] := by rw [ht.p1a]; simp [e11]
          refine wp_calls (nd ht.p1o (fun c hh => by cases hh)) (call_run ht.p1o ht.p1f compact_fn) (by rw [hargs2, hcv2]; exact compact_at o.cap hcur2 hcc2 (by omega) (by omega) (by omega)) ?_
          rintro e'' w4 ⟨rfl, hO2, cur3, hcur3, hcsz3, hcc3⟩
          refine ⟨_, rfl, ?_⟩
          rw [ht.p1d]
          refine list_step ht.p2g ?_
          have hcle := compact_le (isort ss)
          have hA1'' : w4.heap[Bb]? = some (.cells #[xh] tyb (0, 0)) := (hO2.keep Bb (Nat.lt_of_lt_of_le hBblt hO1.size) hne).trans hA1'
          have hk3 : ∀ (j : Nat) (s : List UInt8), (Lib.compact (isort ss) ++ List.replicate ((isort ss).length - (Lib.compact (isort ss)).length) [])[j]? = some s → Mof o.g ss.length w4 o.g (0 + j) = some (encStr s) := fun j s hj => by
            rw [Nat.zero_add]
            refine Mof_knows ?_ ?_ rfl
            · have := (List.getElem?_eq_some_iff.1 hj).1
              simp at this; omega
            · simp only [World.cell?, hcur3]
              exact hcc3 j s hj
          have hlr : (Lib.compact (isort ss) ++ List.replicate ((isort ss).length - (Lib.compact (isort ss)).length) []).length = ss.length := by simp; omega
          have hv3 : VRel (EE w4 Bb o.g ss.length []) noLoc (.list 1 .no 0 ((Lib.compact (isort ss) ++ List.replicate ((isort ss).length - (Lib.compact (isort ss)).length) []).map strRow)) xh :=
            ⟨strs_lvl _, trivial, .inr ⟨o.g, 0, o.cap, by rw [List.length_map, hlr, hxh'], by rw [List.length_map, hlr]; exact hcap, rowsAt_of hk3⟩⟩
          have hv4 : VRel (EE w4 Bb o.g ss.length []) noLoc (.list 1 .no 0 (mapN strRow (nsort ss))) (.slice (some ⟨o.g, 0, none⟩) (Lib.compact (isort ss)).length o.cap) := by
            rw [mapN_eq]
            refine ⟨strs_lvl _, trivial, .inr ⟨o.g, 0, o.cap, by rw [List.length_map]; rfl, by rw [List.length_map]; show (Lib.compact (isort ss)).length ≤ _; omega, rowsAt_of fun j s hj => hk3 j s ?_⟩⟩
            have hj' : (Lib.compact (isort ss))[j]? = some s := hj
            exact (List.getElem?_append_left (List.getElem?_eq_some_iff.1 hj').1).trans hj'
          have hS3 := EE_srel (ty' := 0) (τ := []) hne hA1'' hone hv3 rfl (.inl rfl)
          generalize ha4 : (a2.put (some 11) cv2).put (some 12) (.slice (some ⟨o.g, 0, none⟩) (Lib.compact (isort ss)).length o.cap) = a4
          have hs4 : a4.tmps.size = a.tmps.size := by rw [← ha4, put_size, put_size, hs2]
          have hd4 : a4.defers = a.defers := by rw [← ha4]; exact hd2
          have ht4 : a4.tmps[2]? = some (.pointer (some ⟨Bb, 0, none⟩)) := by rw [← ha4, put_other (by decide), put_other (by decide)]; exact ht2
          have e12 : a4.eval (.tmp 12) = .slice (some ⟨o.g, 0, none⟩) (Lib.compact (isort ss)).length o.cap := by rw [← ha4]; exact eval_at (by rw [put_size]; omega)
          have hmk4 : ∀ d ∈ a4.defers, ∃ r, d.target = .collected r ∧ w4.heap[r]? = some (.deferred (some [])) := fun d hd' => by
            obtain ⟨r, m1, m2⟩ := hmk d (by rw [hd2, ← hd4]; exact hd')
            have hrlt : r < w3.heap.size := (Array.getElem?_eq_some_iff.1 m2).1
            refine ⟨r, m1, ?_⟩
            rw [hO2.keep r hrlt (fun hh => by rw [hh, hcur2] at m2; cases m2)]; exact m2
          have hE3 := EE_erel (nt := 13) (ty' := 0) (τ := []) (B := o.g) (m := ss.length) (lv := .list 1 .no 0 ((Lib.compact (isort ss) ++ List.replicate ((isort ss).length - (Lib.compact (isort ss)).length) []).map strRow)) hA1'' (.inl rfl) (by omega) ht4 hmk4 (by rw [hd4, ← hd2]; exact hmd)
          have hg4 : Went M w (EE w4 Bb o.g ss.length []) w4 := (hg0.behind (E' := EE w3 Bb o.g ss.length []) hO1 hog (fun B o x hx => by rw [(Mof_block hx).1]; exact hog)).behind hO2 hog (fun B o x hx => by rw [(Mof_block hx).1]; exact hog)
          refine names_last hC ht hS3 hE3 rfl rfl e12 hv4 hg4 hM (by rw [hd4]; exact hd) (fun k hk hf => ?_) (fun w5 h5 => wpIn_ret (hQ _ _ h5))
          rcases hf with hf | ⟨d, hd', _⟩
          · rcases hf with hf | ⟨o, ho, _⟩ | ⟨b, rr, dd, hb', _⟩
            · have : k = Bb := by simpa [EE] using hf
              omega
            · cases ho
            · cases b with
              | zero => cases hb'
              | succ b => cases hb'
          · cases hd'
        · cases hv
      · cases hv
    · cases hv
  · cases hv

theorem valsLvl0 (rows : List V) (ss : List (List UInt8)) (h : rows = ss.map strRow) : within (valsLvl rows) 0 := by subst h; exact strs_lvl ss

theorem namesEnd_spec {S : St} {lv v : V} (h : namesEnd S lv = some v) : ∃ rows, v = .list 1 .no 0 rows := by
  unfold namesEnd at h
  split at h
  · split at h
    · cases h; exact ⟨_, rfl⟩
    · split at h
      · split at h
        · obtain ⟨_, h⟩ := bif_some h; cases h; exact ⟨_, rfl⟩
        · cases h
      · cases h
    · cases h
  · cases h

/-- WHAT IT GIVES. -/
theorem names_ok (hC : CfgOk Go.Ev.Tryz.cfg PP) (hR : RunOk Go.Ev.Tryz.cfg PP R) {args : List V} {v : V} (h : namesG R k (mapN V.strip args) = some v) : PureCalls PP 86 args v := by
  obtain ⟨i4, i5, o0, o1, p0, p1, p2, c1, c2, hbody, ht⟩ := nm_body
  have hfn : Go.Ev.Tryz.cfg.fn 86 = some Go.Proofs.Tryz.f86 := rfl
  have hb : (Go.Proofs.Tryz.f86).body = some nmB := rfl
  have hok : codeOk (Go.Ev.Tryz.cfg.fc 86) nmB = true := hC.body _ _ _ hfn hb
  have hoks : ∀ c ∈ nmC, codeOk (Go.Ev.Tryz.cfg.fc 86) c = true := by
    rw [hbody] at hok
    obtain ⟨k1, k2⟩ := andB_true.1 hok
    obtain ⟨k3, k4⟩ := andB_true.1 k2
    obtain ⟨k5, _⟩ := andB_true.1 k4
    intro c hc
    cases hc with
    | head => exact k1
    | tail _ hc => cases hc with
      | head => exact k3
      | tail _ hc => cases hc with
        | head => exact k5
        | tail _ hc => cases hc
  have hv : within (aggLvl v) 0 ∧ plainV v = true := by
    unfold namesG at h
    split at h
    · split at h
      · split at h
        · obtain ⟨_, h⟩ := bif_some h
          obtain ⟨rows, rfl⟩ := namesEnd_spec h
          exact ⟨⟨0, rfl, Nat.le_refl _⟩, rfl⟩
        · cases h
      · cases h
    · split at h
      · cases h; exact ⟨⟨0, rfl, Nat.le_refl _⟩, rfl⟩
      · cases h
    · cases h
  refine ⟨aggLvl_lvl hv.1, hv.2, fun M w X hM hX => ?_⟩
  refine (callsIn_wide (n := 0)).1 (callsIn_of_wp_marks (F := Fw none) Go.Proofs.Tryz.func86 hb trivial ?_)
  have hE0 : ERel (only M) St.empty noLoc { nt := (Go.Proofs.Tryz.f86).ntmps, tmps := number 0 (mapN V.strip args), locs := [], fix := [] } ⟨(⟨X⟩ : Array Value) ++ Array.replicate ((Go.Proofs.Tryz.f86).ntmps - X.length) undef, []⟩ w := by
    refine ⟨by simp; omega, fun t v ht => ?_, ⟨(fun d cs hd => by cases hd), (fun d d' B hd => by cases hd)⟩, fun B hB => ?_, fun d hd => (by cases hd), List.Pairwise.nil⟩
    · obtain ⟨x, h1, h2⟩ := look_number (show ValsRel (only M) noLoc (mapN V.strip args) X by rw [mapN_eq]; exact hX) ht
      refine ⟨x, ?_, h2⟩
      have hlt : t < X.length := (List.getElem?_eq_some_iff.1 h1).1
      rw [Array.getElem?_append_left (by simpa using hlt)]
      simpa using h1
    · obtain ⟨d, hd, _⟩ := hB; cases hd
  rw [hbody]
  unfold namesG at h
  split at h
  · rename_i A1 S1 hev
    split at h
    · rename_i b h2
      split at h
      · rename_i ty lv hbx
        have hnt := (bif_some h).1
        replace h := (bif_some h).2
        rw [Nat.blt_eq] at hnt
        refine seq_wp hC hR nmC hoks (empty_rel hM) hE0 hev (fun E' lc' a' w' hl hr => ?_)
        refine names_wp hC ht rfl hr hM h2 hbx hnt h (fun d hd => ?_) (fun a3 w3 h3 => h3)
        rcases hl d hd with h | h
        · cases h
        · exact h
      · cases h
    · cases h
  · rename_i A1 S1 hev
    split at h
    · rename_i hres
      cases h
      refine seq_wp hC hR nmC hoks (empty_rel hM) hE0 hev (fun E' lc' a' w' hl hr => ?_)
      refine went_ends (Went.start rfl hr) hr.srel hr.erel hM (fun d hd => ?_) hC hres ⟨0, rfl, Nat.le_refl _⟩ rfl
      rcases hl d hd with h | h
      · cases h
      · exact h
    · cases h
  · cases h

end

end Go.Ev

/- term.Spine, told by itself: a row that the evaluator does not look at: how it grows, how it is turned round (own work). -/
namespace Go.Ev
open Go.RowKit Go.Sort Go.Proofs

/-! ### Some operations of a region, and what is not looked at -/

section
variable {C : Cfg} {P : Program} {R : Run} {F : FC} {ro : Option Nat} {n : Nat} {Q : Exit → Act → World → Prop}

/-- Nothing but these temporaries has turned. -/
structure Kept (l : List Oper) (a a' : Act) : Prop where
  off : ∀ t, (∀ o ∈ l, o.dst ≠ some t) → a'.tmps[t]? = a.tmps[t]?
  size : a'.tmps.size = a.tmps.size
  defers : a'.defers = a.defers

theorem Kept.put {l : List Oper} {a a' : Act} {o : Oper} {x : Value} (h : Kept l (a.put o.dst x) a') : Kept (o :: l) a a' := by
  refine ⟨fun t ht => ?_, by rw [h.size, put_size], by rw [h.defers, put_defers]⟩
  rw [h.off t (fun p hp => ht p (List.mem_cons_of_mem _ hp))]
  have hd := ht o List.mem_cons_self
  cases ho : o.dst with
  | none => rfl
  | some d => exact put_other (fun e => hd (by rw [ho, e])) x

theorem ops_keep (hC : CfgOk C P) (hR : RunOk C P R) {ops : Array Oper} {rest : List Oper} {ac : Nat → Acc} : ∀ (l : List Oper) (i : Nat) {E : Rho} {S : St} {lc : LocM} {A : Env} {a : Act} {w : World} {r : Env × St},
    SRel E S w → ERel E S lc A a w → evalOps C R F ac ops.toList l i A S = some r →
    (∀ E' lc' a' w', Kept l a a' → Res E S lc A a' w E' r.2 lc' r.1 w' → wpListIn (Fw ro) n P ops Q rest a' w') → wpListIn (Fw ro) n P ops Q (l ++ rest) a w
  | [], i, E, S, lc, A, a, w, r, hS, hE, h, hQ => by
    rw [evalOps_nil] at h
    cases h
    exact hQ _ _ _ _ ⟨fun _ _ => rfl, rfl, rfl⟩ (Res.refl hS hE)
  | o :: l, i, E, S, lc, A, a, w, r, hS, hE, h, hQ => by
    rw [evalOps_cons] at h
    unfold evalOps.one at h
    show wpListIn (Fw ro) n P ops Q (o :: (l ++ rest)) a w
    unfold wpListIn
    split at h
    · rename_i hw
      rw [wants_rel hE.tmps hw]
      simp only [if_true]
      unfold evalOps.back at h
      split at h
      · rename_i v A' S' hx
        split at h
        · rename_i A'' hp
          exact exec_sound hC hR hS hE hx (fun E' lc' w' cv hr hv => by
            have hr' := put_res hr hv hp
            exact ops_keep hC hR l (i + 1) hr'.srel hr'.erel h (fun E'' lc'' a'' w'' hk hr'' => hQ _ _ _ _ hk.put (hr'.trans hr'')))
        · cases h
      · cases h
    · rename_i hw
      rw [wants_rel hE.tmps hw]
      simp only [Bool.false_eq_true, if_false]
      refine ⟨fun _ _ => trivial, ?_⟩
      unfold evalOps.back at h
      simp only at h
      split at h
      · rename_i A'' hp
        have hr' := put_res (Res.refl hS hE) undef_rel hp
        exact ops_keep hC hR l (i + 1) hr'.srel hr'.erel h (fun E'' lc'' a'' w'' hk hr'' => hQ _ _ _ _ hk.put (hr'.trans hr''))
      · cases h
    · cases h

end

/-! ### Rows, chunk by chunk -/

def Chunk (k : Nat) : Type := { l : List Value // l.length = k ∧ ∀ v ∈ l, v.oneCell' = true }
instance (k : Nat) : Inhabited (Chunk k) := ⟨⟨List.replicate k (.bool false), by simp, fun v hv => by rw [(List.mem_replicate.1 hv).2]; rfl⟩⟩

def RowsRel (E : Rho) (k : Nat) : List V → List (Chunk k) → Prop
  | [], [] => True
  | r :: rs, x :: xs => ValsRel E noLoc r.cells x.1 ∧ RowsRel E k rs xs
  | _, _ => False

def cellsOf {k : Nat} (xs : List (Chunk k)) : List Value := xs.flatMap (·.1)

section
variable {E E' : Rho} {k : Nat}

theorem RowsRel.length : ∀ {rs : List V} {xs : List (Chunk k)}, RowsRel E k rs xs → xs.length = rs.length
  | [], [], _ => rfl
  | [], _ :: _, h => h.elim
  | _ :: _, [], h => h.elim
  | _ :: rs, _ :: xs, h => by rw [List.length_cons, List.length_cons, RowsRel.length h.2]

theorem RowsRel.append : ∀ {rs rs' : List V} {xs xs' : List (Chunk k)}, RowsRel E k rs xs → RowsRel E k rs' xs' → RowsRel E k (rs ++ rs') (xs ++ xs')
  | [], _, [], _, _, h' => h'
  | [], _, _ :: _, _, h, _ => h.elim
  | _ :: _, _, [], _, h, _ => h.elim
  | _ :: _, _, _ :: _, _, h, h' => ⟨h.1, RowsRel.append h.2 h'⟩

theorem RowsRel.reverse : ∀ {rs : List V} {xs : List (Chunk k)}, RowsRel E k rs xs → RowsRel E k rs.reverse xs.reverse
  | [], [], _ => trivial
  | [], _ :: _, h => h.elim
  | _ :: _, [], h => h.elim
  | r :: rs, x :: xs, h => by
    rw [List.reverse_cons, List.reverse_cons]
    exact RowsRel.append (RowsRel.reverse h.2) ⟨h.1, trivial⟩

theorem RowsRel.ext (hM : ∀ B o x, E.M B o = some x → E'.M B o = some x) : ∀ {rs : List V} {xs : List (Chunk k)}, (∀ r ∈ rs, within (cellsLvl r.cells) 0 ∧ r.cells.all noOwn = true) → RowsRel E k rs xs → RowsRel E' k rs xs
  | [], [], _, _ => trivial
  | [], _ :: _, _, h => h.elim
  | _ :: _, [], _, h => h.elim
  | r :: rs, x :: xs, hl, h => by
    refine ⟨?_, RowsRel.ext hM (fun q hq => hl q (List.mem_cons_of_mem _ hq)) h.2⟩
    obtain ⟨h1, h2⟩ := hl r List.mem_cons_self
    have := ((show _ ∧ _ from (trans_all (E := E) (E' := E') (l := noLoc) (l' := noLoc) (n := 0) ⟨hM, fun b B hlt _ => by omega⟩ (.agg r.cells))).1 (.agg ⟨x.1⟩) h1 (.inr h2) ⟨within_isSome h1, x.1, rfl, h.1⟩).2
    obtain ⟨Y, e1, e2⟩ := this
    cases e1; exact e2

theorem cellsOf_length : ∀ (xs : List (Chunk k)), (cellsOf xs).length = xs.length * k
  | [] => by simp [cellsOf]
  | x :: xs => by
    have := cellsOf_length xs
    unfold cellsOf at this ⊢
    rw [List.flatMap_cons, List.length_append, this, x.2.1, List.length_cons, Nat.add_mul]; omega

theorem cellsOf_append (xs ys : List (Chunk k)) : cellsOf (xs ++ ys) = cellsOf xs ++ cellsOf ys := List.flatMap_append

theorem cellsOf_one (xs : List (Chunk k)) : ∀ v ∈ cellsOf xs, v.oneCell' = true := fun v hv => by
  obtain ⟨x, _, h2⟩ := List.mem_flatMap.1 hv
  exact x.2.2 v h2

theorem RowsRel.vals : ∀ {rs : List V} {xs : List (Chunk k)}, RowsRel E k rs xs → ValsRel E noLoc (rs.flatMap V.cells) (cellsOf xs)
  | [], [], _ => rfl
  | [], _ :: _, h => h.elim
  | _ :: _, [], h => h.elim
  | r :: rs, x :: xs, h => by
    unfold cellsOf
    rw [List.flatMap_cons, List.flatMap_cons]
    exact h.1.append h.2.vals

theorem cellsOf_get : ∀ (xs : List (Chunk k)) (t : Nat), 0 < k → t < xs.length * k → ∃ x, xs[t / k]? = some x ∧ (cellsOf xs)[t]? = x.1[t % k]?
  | [], t, _, h => by simp at h
  | x :: xs, t, hk, h => by
    unfold cellsOf
    rw [List.flatMap_cons]
    by_cases ht : t < k
    · refine ⟨x, by rw [Nat.div_eq_of_lt ht]; rfl, ?_⟩
      rw [List.getElem?_append_left (by rw [x.2.1]; exact ht), Nat.mod_eq_of_lt ht]
    · obtain ⟨y, h1, h2⟩ := cellsOf_get xs (t - k) hk (by rw [List.length_cons, Nat.add_mul, Nat.one_mul] at h; omega)
      refine ⟨y, ?_, ?_⟩
      · have e : t / k = (t - k) / k + 1 := by rw [← Nat.add_div_right _ hk]; congr 1; omega
        rw [e]; simpa using h1
      · rw [List.getElem?_append_right (by rw [x.2.1]; omega), x.2.1]
        have e : (t - k) % k = t % k := by
          have : t = (t - k) + k := by omega
          conv => rhs; rw [this]
          rw [Nat.add_mod_right]
        rw [← e]; exact h2

end

end Go.Ev

/- term.Spine, told by itself: the library's Reverse at a known row; growing a row that is not looked at (own work). -/
namespace Go.Ev
open Go.RowKit Go.Sort Go.Proofs

section
variable {w w' : World} {B : Nat} {cur : Array Value} {e0 : TypeId} {k : Nat}

theorem flatK_get {xs : List (Chunk k)} (hk : 0 < k) {t : Nat} (ht : t < xs.length * k) : (cellsOf xs)[t]? = some ((flatK (fun x : Chunk k => x.1) k xs.toArray)[t]!) := by
  obtain ⟨x, h1, h2⟩ := cellsOf_get xs t hk ht
  have hm : t % k < x.1.length := by rw [x.2.1]; exact Nat.mod_lt _ hk
  rw [h2, get_flatK _ _ _ _ (by simpa using ht), List.getElem?_eq_getElem hm]
  congr 1
  have hx : xs.toArray[t / k]! = x := by
    rw [List.getElem!_toArray, List.getElem!_eq_getElem?_getD, h1]; rfl
  rw [hx, getElem!_pos x.1 (t % k) hm]

theorem holdsK_of {xs : List (Chunk k)} (hk : 0 < k) (hb : w.heap[B]? = some (.cells cur e0 (0, 0))) (hc : ∀ (j : Nat) (x : Value), (cellsOf xs)[j]? = some x → cur[j]? = some x) : HoldsK (fun x : Chunk k => x.1) k w B 0 xs.toArray := by
  intro j hj
  have hj' : j < xs.length * k := by simpa using hj
  have h1 := hc j _ (flatK_get hk hj')
  refine ⟨?_, by simp [World.frozen?, hb]⟩
  simp only [World.cell?, hb, Nat.zero_add]
  exact h1

theorem reverse_at (hC : CfgOk Go.Ev.Tryz.cfg PP) {xs : List (Chunk 5)} (cap : Nat) (hb : w.heap[B]? = some (.cells cur e0 (0, 0))) (hc : ∀ (j : Nat) (x : Value), (cellsOf xs)[j]? = some x → cur[j]? = some x) (hle : xs.length * 5 ≤ cur.size) (hlen : xs.length ≤ 9223372036854775807) :
    Calls PP 56 #[.slice (some ⟨B, 0, none⟩) xs.length cap] w fun e w' => e = .returned (.tuple #[]) ∧ Only w w' B ∧
      ∃ cur', w'.heap[B]? = some (.cells cur' e0 (0, 0)) ∧ cur'.size = cur.size ∧ ∀ (j : Nat) (x : Value), (cellsOf xs.reverse)[j]? = some x → cur'[j]? = some x := by
  have hti := hC.ti 25 _ (show Go.Ev.Tryz.cfg.ti 25 = some Go.Ev.Tryz.ti25 from rfl)
  refine (AnyQ.slices_Reverse Go.Proofs.Tryz.laysReverse 5 (fun w => hti.run_agg w) (fun w => hti.run_size w) (fun x : Chunk 5 => x.1) (fun x => x.2.1) (fun x v hv => x.2.2 v hv) B 0 cap xs.toArray w (holdsK_of (by decide) hb hc) (by simpa using hlen)).mono ?_
  rintro e w' ⟨rfl, m, rfl⟩
  refine ⟨rfl, ?_, ?_⟩
  · have := only_putRow id w m B 0 (flatK (fun x : Chunk 5 => x.1) 5 xs.toArray.reverse) #[]
    rwa [grow_empty] at this
  · have := heap_putRow id hb m 0 (flatK (fun x : Chunk 5 => x.1) 5 xs.toArray.reverse) #[]
    rw [grow_empty] at this
    refine ⟨_, this, putCells_size _ _ _ _, fun j x hj => ?_⟩
    have hlt : j < xs.reverse.length * 5 := by rw [← cellsOf_length]; exact (List.getElem?_eq_some_iff.1 hj).1
    rw [flatK_get (by decide) hlt] at hj
    have hlt' : j < xs.length * 5 := by simpa using hlt
    unfold putCells
    rw [Array.getElem?_mapIdx, Array.getElem?_eq_getElem (by omega)]
    have hsz : (flatK (fun x : Chunk 5 => x.1) 5 xs.toArray.reverse).size = xs.length * 5 := by simp
    simp only [Option.map_some, Nat.zero_le, true_and, Nat.zero_add, hsz, hlt', if_true, Nat.sub_zero, id]
    rw [List.reverse_toArray]
    exact hj

theorem reverse_none (ad : Option Addr) (cap : Nat) (w : World) : Calls PP 56 #[.slice ad 0 cap] w fun e w' => e = .returned (.tuple #[]) ∧ w' = w :=
  AnyQ.slices_Reverse_empty Go.Proofs.Tryz.laysReverse ad cap w

end

/-! ### A row that the evaluator does not look at -/

/-- The header of a row, and the row. -/
def OutRow (w w1 : World) (E : Rho) (lc : LocM) (A : Env) (rows : List V) (hdr : Value) : Prop :=
  (rows = [] ∧ hdr = .slice none 0 0) ∨ ∃ (B cap : Nat) (cur : Array Value) (e : TypeId) (xs : List (Chunk 5)), hdr = .slice (some ⟨B, 0, none⟩) rows.length cap ∧ 0 < rows.length ∧ rows.length ≤ cap ∧ w.heap.size ≤ B ∧
    w1.heap[B]? = some (.cells cur e (0, 0)) ∧ cur.size = cap * 5 ∧ (∀ o, E.M B o = none) ∧ ¬ LP lc A.locs B ∧ RowsRel E 5 rows xs ∧ ∀ (j : Nat) (x : Value), (cellsOf xs)[j]? = some x → cur[j]? = some x

/-- Rows that lead nowhere. -/
def RowsPure (rows : List V) : Prop := ∀ r ∈ rows, ∃ cs, r = .agg cs ∧ cs.length = 5 ∧ within (cellsLvl cs) 0 ∧ cs.all noOwn = true

section
variable {w w1 w2 : World} {E E' : Rho} {lc lc' : LocM} {A A' : Env} {a : Act} {rows : List V} {hdr : Value}

theorem RowsPure.ext (h : RowsPure rows) : ∀ r ∈ rows, within (cellsLvl r.cells) 0 ∧ r.cells.all noOwn = true := fun r hr => by
  obtain ⟨cs, rfl, _, h1, h2⟩ := h r hr; exact ⟨h1, h2⟩

theorem emptyF {S : St} (hS : SRel E S w) (h : S = St.empty) : ∀ k, ¬ FP E S k := fun k hk => by
  subst h
  have h1 : E.ρ = [] := List.eq_nil_of_length_eq_zero (by rw [← hS.len]; rfl)
  have h2 : E.τ = [] := List.eq_nil_of_length_eq_zero (by rw [← hS.tlen]; rfl)
  rcases hk with hk | ⟨o, ho, _⟩ | ⟨b, r, d, hb, _⟩
  · rw [h1] at hk; cases hk
  · rw [h2] at ho; cases ho
  · cases hb

/-- Behind operations that do not look at it. -/
theorem OutRow.step (hp : RowsPure rows) (h : OutRow w w1 E lc A rows hdr) (hS : SRel E St.empty w1) (hr : Res E St.empty lc A a w1 E' St.empty lc' A' w2) : OutRow w w2 E' lc' A' rows hdr := by
  rcases h with h | ⟨B, cap, cur, e, xs, h1, h2, h3, h4, h5, h6, h7, h8, h9, h10⟩
  · exact .inl h
  · have hlt : B < w1.heap.size := (Array.getElem?_eq_some_iff.1 h5).1
    have hFL : ¬ FL E St.empty lc A B := fun hf => hf.elim (emptyF hS rfl B) h8
    refine .inr ⟨B, cap, cur, e, xs, h1, h2, h3, h4, by rw [hr.step.keep B hlt hFL]; exact h5, h6, fun o => ?_, fun hl => ?_, h9.ext hr.step.mem hp.ext, h10⟩
    · cases hq : E'.M B o with
      | none => rfl
      | some x => rcases hr.step.mnew B o x hq with h | h | h
                  · rw [h7] at h; cases h
                  · exact (hFL h).elim
                  · omega
    · exact (hr.step.grow B (.inr hl)).elim hFL (by omega)

theorem erel_except {S : St} {B : Nat} (hE : ERel E S lc A a w1) (hB : ¬ LP lc A.locs B) {cur : Array Value} {e : TypeId} (hcur : w1.heap[B]? = some (.cells cur e (0, 0))) (hk : ∀ k, k ≠ B → w2.heap[k]? = w1.heap[k]?) (hsz : w1.heap.size ≤ w2.heap.size) : ERel E S lc A a w2 := by
  refine ⟨hE.nt, hE.tmps, hE.locs.mono (Mono.refl E) (fun k hk' => hk k fun e => hB (e ▸ hk')), fun B' hB' => ?_, fun d hd => ?_, hE.mdist⟩
  · obtain ⟨h1, h2, h3⟩ := hE.apart B' hB'
    exact ⟨h1, h2, Nat.lt_of_lt_of_le h3 hsz⟩
  · obtain ⟨r, h1, h2, h3⟩ := hE.marks d hd
    exact ⟨r, h1, by rw [hk r (fun e => by rw [e, hcur] at h2; cases h2)]; exact h2, h3⟩

/-- One more. -/
theorem out_grow (hC : CfgOk Go.Ev.Tryz.cfg PP) (hS : SRel E St.empty w1) (hE : ERel E St.empty lc A a w1) (hp : RowsPure rows) (h : OutRow w w1 E lc A rows hdr) (hw : w.heap.size ≤ w1.heap.size) {cs : List V} {cv : Value} (hcv : VRel E lc (.list 5 .tight 0 [.agg cs]) cv) (hl : cs.length = 5)
    (h0 : within (cellsLvl cs) 0) (hbnd : (rows.length + 1) * 81 ≤ 140737488355328) (ty : TypeId) :
    ∃ hdr' w2, (Builtin.append_ #[23, 23] ty #[hdr, cv]).run PP w1 = .ok hdr' w2 ∧ SRel E St.empty w2 ∧ ERel E St.empty lc A a w2 ∧ OutRow w w2 E lc A (rows ++ [.agg cs]) hdr' ∧
      w2.os = w1.os ∧ w2.tape = w1.tape ∧ w2.output = w1.output ∧ w1.heap.size ≤ w2.heap.size ∧ (∀ k, k < w.heap.size → w2.heap[k]? = w1.heap[k]?) := by
  obtain ⟨_, htok, h3⟩ := hcv
  rcases h3 with ⟨hn, _⟩ | ⟨Bs, off, cap1, hcv, hcap1, hrows⟩
  · cases hn
  obtain ⟨X, x1, x2, x3⟩ := hrows.1.2.vals
  have xl : X.length = 5 := by rw [x1.length, hl]
  have hX1 : ∀ x ∈ X, x.oneCell' = true := fun x hx => by
    obtain ⟨j, hj⟩ := List.getElem?_of_mem hx
    exact (hS.M _ _ x (x2 j x hj)).2
  have hu : PP.underlying 23 = some (.slice 25) := (hC.ti 23 _ (show Go.Ev.Tryz.cfg.ti 23 = some Go.Ev.Tryz.ti23 from rfl)).kind
  have hi := hC.ti 25 _ (show Go.Ev.Tryz.cfg.ti 25 = some Go.Ev.Tryz.ti25 from rfl)
  obtain ⟨⟨inf, z, i1, i2, i3, i4, i5, i6⟩, _, _⟩ := hi
  have i2' : inf.size = 5 := i2
  have i3' : inf.bytes = 80 := i3
  have hzs : z.cells.size = 5 := by
    have := (eqConsts_rel i5 E lc).2.2.2
    rw [Array.length_toList] at this; rw [this]; exact i6
  have hnews : ∀ (j : Nat) (u : Value), X[j]? = some u → w1.cell? ((⟨Bs, off, none⟩ : Addr).add j) = some u := fun j u hj => by
    rw [Addr.add_lit]; exact (hS.M _ _ u (x2 j u hj)).1
  have hch : ∃ xc : Chunk 5, xc.1 = X ∧ ValsRel E noLoc cs xc.1 := ⟨⟨X, xl, hX1⟩, rfl, x1.reloc_cells h0⟩
  obtain ⟨xc, hxc, hxr⟩ := hch
  have hlen1 : (rows ++ [V.agg cs]).length = rows.length + 1 := by simp
  -- a new row
  have hnew : ∀ (old : List (Chunk 5)) (cap' : Nat), old.length = rows.length → rows.length + 1 ≤ cap' → RowsRel E 5 rows old →
      SRel E St.empty (w1.drew.alloc (.cells ((cellsOf old).toArray ++ X.toArray ++ Builtin.zeroCells z.cells (cap' - (rows.length + 1))) 25)) ∧
      ERel E St.empty lc A a (w1.drew.alloc (.cells ((cellsOf old).toArray ++ X.toArray ++ Builtin.zeroCells z.cells (cap' - (rows.length + 1))) 25)) ∧
      OutRow w (w1.drew.alloc (.cells ((cellsOf old).toArray ++ X.toArray ++ Builtin.zeroCells z.cells (cap' - (rows.length + 1))) 25)) E lc A (rows ++ [.agg cs]) (.slice (some ⟨w1.heap.size, 0, none⟩) (rows.length + 1) cap') := by
    intro old cap' ho hcap' hrr
    have hg : Grew w1 (w1.drew.alloc (.cells ((cellsOf old).toArray ++ X.toArray ++ Builtin.zeroCells z.cells (cap' - (rows.length + 1))) 25)) := (Grew.drew w1).trans (Grew.alloc w1.drew _)
    have hres := know_more (a := a) hS hE hg (fun B o x hx => ⟨by rw [World.cell?_of_block (w := w1) (a := ⟨B, o, none⟩) (hg.keep B (cell_block (hS.M B o x hx).1))]; exact (hS.M B o x hx).1, (hS.M B o x hx).2⟩) (fun _ _ _ h => h) (fun _ _ _ h => .inl h)
    refine ⟨hres.srel, hres.erel, .inr ⟨w1.heap.size, cap', _, _, old ++ [xc], by rw [hlen1], by omega, by rw [hlen1]; exact hcap', hw, alloc_new w1.drew _, ?_, Res.M_new hS, fun hl => ?_, hrr.append ⟨hxr, trivial⟩, fun j x hj => ?_⟩⟩
    · have h1 : (cellsOf old).toArray.size = rows.length * 5 := by rw [List.size_toArray, cellsOf_length, ho]
      rw [Array.size_append, Array.size_append, size_zeroCells, hzs, h1, List.size_toArray, xl]
      have : (rows.length + 1) * 5 ≤ cap' * 5 := Nat.mul_le_mul_right _ hcap'
      rw [Nat.sub_mul]; omega
    · have := (hE.apart _ hl).2.2; omega
    · have hj' : (cellsOf old ++ X)[j]? = some x := by rw [cellsOf_append] at hj; simpa [cellsOf, hxc] using hj
      have hlt := (List.getElem?_eq_some_iff.1 hj').1
      rw [Array.getElem?_append_left (by simpa using hlt)]
      simpa using hj'
  have keepG : ∀ (c : Obj) (k : Nat), k < w.heap.size → (w1.drew.alloc c).heap[k]? = w1.heap[k]? := fun c k hk => ((Grew.drew w1).trans (Grew.alloc w1.drew c)).keep k (Nat.lt_of_lt_of_le hk hw)
  have sizeG : ∀ (c : Obj), w1.heap.size ≤ (w1.drew.alloc c).heap.size := fun c => ((Grew.drew w1).trans (Grew.alloc w1.drew c)).size
  rcases h with ⟨rfl, rfl⟩ | ⟨B, cap, cur, e, xs, rfl, h2, h3, h4, h5, h6, h7, h8, h9, h10⟩
  · have hrun := run_append_nil (P := PP) w1 23 ty 25 inf z hu i1 i4 ⟨Bs, off, none⟩ 1 cap1 X (by rw [xl, i2']) hnews Nat.one_pos (by decide) (by rw [i3']; decide)
    have hge : (0 : Nat) + 1 ≤ grownCap w1 1 0 25 := grownCap_ge w1 1 0 25
    obtain ⟨k1, k2, k3⟩ := hnew [] (grownCap w1 1 0 25) rfl hge trivial
    refine ⟨_, _, by rw [hcv]; exact hrun, ?_, ?_, ?_, ?_⟩
    · simpa [cellsOf] using k1
    · simpa [cellsOf] using k2
    · simpa [cellsOf] using k3
    · exact ⟨rfl, rfl, rfl, sizeG _, keepG _⟩
  · have hxl : xs.length = rows.length := h9.length
    have holds : (cellsOf xs).length = rows.length * 5 := by rw [cellsOf_length, hxl]
    by_cases hroom : rows.length + 1 ≤ cap
    · have hfit : rows.length * inf.size + X.length ≤ cur.size := by
        rw [i2', xl, h6]
        have := Nat.mul_le_mul_right 5 hroom; omega
      have hrun := run_append_room' (P := PP) (w := w1) hu i1 B rows.length cap cur e h5 ⟨Bs, off, none⟩ 1 cap1 X (by rw [xl, i2']) hnews hX1 hroom hfit ty
      have hpre : cur.toList.take (rows.length * inf.size) = cellsOf xs := by
        apply List.ext_getElem?
        intro j
        rw [List.getElem?_take]
        split
        · rename_i hlt
          have hjl : j < (cellsOf xs).length := by rw [holds]; rw [i2'] at hlt; exact hlt
          have hj := List.getElem?_eq_getElem hjl
          rw [hj]
          simpa using h10 j _ hj
        · rename_i hge
          rw [List.getElem?_eq_none (by rw [holds]; rw [i2'] at hge; omega)]
      rw [hpre] at hrun
      have hkB : ∀ k, k ≠ B → (w1.setRow B (cellsOf xs ++ X ++ cur.toList.drop (rows.length * inf.size + X.length)).toArray).heap[k]? = w1.heap[k]? := fun k hk => setRow_other w1 B k _ hk
      refine ⟨_, _, by rw [hcv]; exact hrun, hS.except (emptyF hS rfl B) h7 hkB, erel_except hE h8 h5 hkB (by rw [setRow_size]; exact Nat.le_refl _), .inr ⟨B, cap, _, e, xs ++ [xc], by rw [hlen1], by omega, by rw [hlen1]; exact hroom, h4, setRow_heap w1 B cur _ e (0, 0) h5, ?_, h7, h8, h9.append ⟨hxr, trivial⟩, fun j x hj => ?_⟩, rfl, rfl, rfl, by rw [setRow_size]; exact Nat.le_refl _, fun k hk => hkB k (by omega)⟩
      · have := Nat.mul_le_mul_right 5 hroom
        simp only [List.size_toArray, List.length_append, List.length_drop, Array.length_toList, h6, holds, i2', xl]
        omega
      · have hj' : (cellsOf xs ++ X)[j]? = some x := by rw [cellsOf_append] at hj; simpa [cellsOf, hxc] using hj
        have hlt := (List.getElem?_eq_some_iff.1 hj').1
        simp only [List.getElem?_toArray]
        rw [List.getElem?_append_left hlt]
        exact hj'
    · have hb1 : (rows.length + 1) * inf.bytes ≤ 140737488355328 := by rw [i3']; omega
      have hcells : ∀ (j : Nat) (x : Value), (cellsOf xs)[j]? = some x → w1.cell? (Addr.add ⟨B, 0, none⟩ j) = some x := fun j x hj => by
        rw [Addr.add_lit]
        simp only [World.cell?, h5, Nat.zero_add]
        exact h10 j x hj
      have hrun := run_append_grow (P := PP) w1 23 ty 25 inf z hu i1 i4 ⟨B, 0, none⟩ rows.length cap (cellsOf xs) (by rw [holds, i2']) hcells ⟨Bs, off, none⟩ 1 cap1 X (by rw [xl, i2']) hnews (by omega) (by omega) (growslice_fits (by omega) hb1)
      obtain ⟨k1, k2, k3⟩ := hnew xs _ hxl (grownCap_ge w1 (rows.length + 1) cap 25) h9
      exact ⟨_, _, by rw [hcv]; exact hrun, k1, k2, k3, rfl, rfl, rfl, sizeG _, keepG _⟩

end

end Go.Ev

/- term.Spine, told by itself: what it gives (own work). -/
namespace Go.Ev
open Go.RowKit Go.Sort Go.Proofs

noncomputable def regOps : Code → List Oper | .region _ ops _ => ops.toList | _ => []
noncomputable def blkC : Code → Code | .block _ c => c | .loop c => c | c => c

noncomputable def spB : Code := bodyOf Go.Proofs.Tryz.f29
noncomputable def spC : List Code := [cfst spB, cfst (csnd spB)]
noncomputable def spRest : Code := csnd (csnd (csnd spB))
noncomputable def spRound : Code := blkC (blkC (cfst spRest))
noncomputable def sp4 : List Oper := regOps (cfst (cfst spRound))
noncomputable def sp5 : List Oper := regOps (cfst (blkC (csnd spRound)))
noncomputable def sp6 : List Oper := regOps (csnd (blkC (csnd spRound)))
noncomputable def sp8 : List Oper := regOps (cfst (csnd (csnd spRest)))

structure SpOps (a0 q0 q6 q7 u0 u1 v0 v1 v2 v3 : Oper) (c1 c2 : Call) : Prop where
  a0o : a0.op = .assign (.const (.slice none 0 0))
  a0d : a0.dst = some 4
  a0g : a0.guard = none
  q0o : q0.op = .move (.tmp 4)
  q0d : q0.dst = some 12
  q0g : q0.guard = none
  q6o : q6.op = .call c1
  q6f : c1.callee = .builtin .append
  q6a : c1.args = #[.tmp 12, .tmp 17]
  q6t : c1.argTypes = #[23, 23]
  q6d : q6.dst = some 18
  q6g : q6.guard = none
  q7o : q7.op = .assign (.tmp 18)
  q7d : q7.dst = some 4
  q7g : q7.guard = none
  u0o : u0.op = .move (.tmp 4)
  u0d : u0.dst = some 23
  u0g : u0.guard = none
  u1o : u1.op = .call c2
  u1f : c2.callee = .value (.func 56)
  u1a : c2.args = #[.tmp 23]
  u1d : u1.dst = some 24
  u1g : u1.guard = none
  v0d : v0.dst = some 25
  v1o : v1.op = .move (.tmp 4)
  v1d : v1.dst = some 26
  v1g : v1.guard = none
  v2d : v2.dst = none
  v3o : v3.op = .assign (.tmp 26)
  v3d : v3.dst = some 3
  v3g : v3.guard = none

theorem sp_body : ∃ (i3 i4 i5 i6 i7 i8 : Nat) (a0 h0 h1 h2 q0 q1 q2 q3 q4 q5 q6 q7 s0 s1 s2 s3 s4 u0 u1 v0 v1 v2 v3 : Oper) (c1 c2 : Call),
    spB = seqOf spC (.seq (.region i3 #[a0] false) (.seq (.block 0 (.loop (.seq (.seq (.region i4 #[h0, h1, h2] false) (.cond (.tmp 11) .skip (.exit 0))) (.block 1 (.seq (.region i5 #[q0, q1, q2, q3, q4, q5, q6, q7] false) (.region i6 #[s0, s1, s2, s3, s4] false))))))
      (.seq (.region i7 #[u0, u1] false) (.seq (.region i8 #[v0, v1, v2, v3] false) .ret)))) ∧
    sp4 = [h0, h1, h2] ∧ sp5 = [q0, q1, q2, q3, q4, q5, q6, q7] ∧ sp6 = [s0, s1, s2, s3, s4] ∧ sp8 = [v0, v1, v2, v3] ∧ SpOps a0 q0 q6 q7 u0 u1 v0 v1 v2 v3 c1 c2 ∧
    [h0, h1, h2].map (·.dst) = [some 9, some 10, some 11] ∧ [q1, q2, q3, q4, q5].map (·.dst) = [some 13, some 14, some 15, some 16, some 17] ∧ [s0, s1, s2, s3, s4].map (·.dst) = [some 19, some 20, some 21, some 22, none] :=
  ⟨_, _, _, _, _, _, _, _, _, _, _, _, _, _, _, _, _, _, _, _, _, _, _, _, _, _, _, _, _, _, _, rfl, rfl, rfl, rfl, rfl,
    ⟨rfl, rfl, rfl, rfl, rfl, rfl, rfl, rfl, rfl, rfl, rfl, rfl, rfl, rfl, rfl, rfl, rfl, rfl, rfl, rfl, rfl, rfl, rfl, rfl, rfl, rfl, rfl, rfl, rfl, rfl, rfl⟩, rfl, rfl, rfl⟩

theorem dst_off {l : List Oper} {ds : List (Option Nat)} (h : l.map (·.dst) = ds) {t : Nat} (ht : some t ∉ ds) : ∀ o ∈ l, o.dst ≠ some t := fun o ho he => ht (by rw [← h, ← he]; exact List.mem_map_of_mem ho)

noncomputable def ptr1 : V := .ptr (.loc 1) 0
noncomputable def ptr2 : V := .ptr (.loc 2) 0
noncomputable def spT : List (Nat × V) := [(1, .ptr (.loc 1) 0), (2, .ptr (.loc 2) 0)]

/-- The frame, of which only the two variables are looked at. -/
noncomputable def spR (A : Env) (S : St) : Option Env :=
  match S with
  | ⟨[], []⟩ => match look 1 A.tmps, look 2 A.tmps with
    | some (.ptr (.loc 1) 0), some (.ptr (.loc 2) 0) => some { A with tmps := spT }
    | _, _ => none
  | _ => none

noncomputable def spEval (R : Run) (all l : List Oper) (i : Nat) (A : Env) : Option (Env × St) := evalOps Go.Ev.Tryz.cfg R (Go.Ev.Tryz.cfg.fc 29) (fun _ => .any) all l i A St.empty

noncomputable def spPush (rows : List V) : Option V → Option (List V)
  | some (.list 5 .tight 0 [.agg cs]) => bif Nat.beq (lenN cs) 5 && isZero (cellsLvl cs) && allB noOwn cs && Nat.ble ((lenN rows + 1) * 81) 140737488355328 then some (appN rows [.agg cs]) else none
  | _ => none

noncomputable def spStep (R : Run) (A : Env) (rows : List V) : Option (Bool × Env × List V) :=
  match spEval R sp4 sp4 0 A with
  | some (A1, S1) => match spR A1 S1, look 11 A1.tmps with
    | some A2, some (.bool false) => some (false, A2, rows)
    | some A2, some (.bool true) => match spEval R sp5 (takeN 5 (dropN 1 sp5)) 1 A2 with
      | some (A3, S3) => match spR A3 S3, spPush rows (look 17 A3.tmps) with
        | some A4, some rows' => match spEval R sp6 sp6 0 A4 with
          | some (A5, S5) => match spR A5 S5 with
            | some A6 => some (true, A6, rows')
            | none => none
          | none => none
        | _, _ => none
      | none => none
    | _, _ => none
  | none => none

noncomputable def spLoop (R : Run) (m : Nat) (A : Env) (rows : List V) : Option (Env × List V) :=
  Nat.rec (motive := fun _ => Env → List V → Option (Env × List V)) (fun _ _ => none) (fun _ ih A rows => match spStep R A rows with
    | some (true, A, rows) => ih A rows
    | some (false, A, rows) => some (A, rows)
    | none => none) m A rows

noncomputable def spOut (vs : List V) : Option V := bif isZero (valsLvl vs) && allB plainA vs then some (one vs) else none

noncomputable def spEnd (R : Run) (A : Env) (rows : List V) : Option V :=
  match spEval R sp8 (takeN 1 sp8) 0 A with
  | some (A1, S1) => match S1, look 26 A1.tmps with
    | ⟨[], []⟩, none => match spEval R sp8 (takeN 1 (dropN 2 sp8)) 2 A1 with
      | some (A2, S2) => match spR A2 S2 with
        | some A3 => match resultsOf Go.Ev.Tryz.cfg { A3 with tmps := (3, .list 5 .no 0 (List.reverse rows)) :: A3.tmps } St.empty (Go.Proofs.Tryz.f29).results.toList with
          | some vs => spOut vs
          | none => none
        | none => none
      | none => none
    | _, _ => none
  | none => none

noncomputable def spineG : CutF := fun R k args =>
  match evalSeq Go.Ev.Tryz.cfg R k 29 (Go.Ev.Tryz.cfg.fc 29) spC { nt := (Go.Proofs.Tryz.f29).ntmps, tmps := number 0 args, locs := [], fix := [] } St.empty with
  | some (.normal, A, S) => match spR A S with
    | some A => bif Nat.blt 26 A.nt then match spLoop R k A [] with
        | some (A, rows) => bif Nat.ble (lenN rows) 9223372036854775807 then spEnd R A rows else none
        | none => none
      else none
    | none => none
  | some (.ret, A, S) => match resultsOf Go.Ev.Tryz.cfg A S (Go.Proofs.Tryz.f29).results.toList with
    | some vs => spOut vs
    | none => none
  | _ => none

end Go.Ev

/- term.Spine, told by itself: its loop (own work). -/
namespace Go.Ev
open Go.RowKit Go.Sort Go.Proofs

structure SpInv (M : Nat → Nat → Option Value) (w : World) (E : Rho) (lc : LocM) (A : Env) (a : Act) (w1 : World) (rows : List V) (hdr : Value) : Prop where
  srel : SRel E St.empty w1
  erel : ERel E St.empty lc A a w1
  went : Went M w E w1
  loc : ∀ k, LP lc A.locs k → w.heap.size ≤ k
  t4 : a.tmps[4]? = some hdr
  out : OutRow w w1 E lc A rows hdr
  pure : RowsPure rows
  size : 26 < a.tmps.size
  marks : ∀ d ∈ a.defers, ∃ r, d.target = .collected r ∧ w.heap.size ≤ r

section
variable {M : Nat → Nat → Option Value} {w w1 w2 : World} {E E' : Rho} {S : St} {lc lc' : LocM} {A A' A'' : Env} {a a' : Act} {rows : List V} {hdr : Value} {l : List Oper} {R : Run}

theorem SpInv.emptyFL (h : SpInv M w E lc A a w1 rows hdr) {k : Nat} (hk : k < w.heap.size) : ¬ FL E St.empty lc A k := fun hf => by
  rcases hf with hf | hf
  · exact emptyF h.srel rfl k hf
  · have := h.loc k hf; omega

theorem SpInv.res (h : SpInv M w E lc A a w1 rows hdr) (hk : Kept l a a') (h4 : ∀ o ∈ l, o.dst ≠ some 4) (hr : Res E St.empty lc A a' w1 E' St.empty lc' A' w2) : SpInv M w E' lc' A' a' w2 rows hdr where
  srel := hr.srel
  erel := hr.erel
  went := ⟨hr.step.os.trans h.went.os, hr.step.tape.trans h.went.tape, hr.step.output.trans h.went.output, Nat.le_trans h.went.size hr.step.size,
    fun k hk => (hr.step.keep k (Nat.lt_of_lt_of_le hk h.went.size) (h.emptyFL hk)).trans (h.went.keep k hk),
    fun B o x hx => by
      rcases hr.step.mnew B o x hx with hq | hq | hq
      · exact h.went.mem B o x hq
      · rcases Nat.lt_or_ge B w.heap.size with hlt | hge
        · exact (h.emptyFL hlt hq).elim
        · exact .inr hge
      · exact .inr (Nat.le_trans h.went.size hq)⟩
  loc k hk' := by
    rcases hr.step.grow k (.inr hk') with hq | hq
    · rcases Nat.lt_or_ge k w.heap.size with hlt | hge
      · exact (h.emptyFL hlt hq).elim
      · exact hge
    · exact Nat.le_trans h.went.size hq
  t4 := by rw [hk.off 4 h4]; exact h.t4
  out := h.out.step h.pure h.srel hr
  pure := h.pure
  size := by rw [hk.size]; exact h.size
  marks := by rw [hk.defers]; exact h.marks

theorem spR_spec (h : spR A S = some A') : S = St.empty ∧ A'.tmps = spT ∧ A'.locs = A.locs ∧ A'.fix = A.fix ∧ A'.nt = A.nt ∧ (∀ t v, look t A'.tmps = some v → look t A.tmps = some v) := by
  unfold spR at h
  split at h
  · split at h
    · rename_i h1 h2
      cases h
      refine ⟨rfl, rfl, rfl, rfl, rfl, fun t v ht => ?_⟩
      by_cases e1 : t = 1
      · subst e1; rw [spT, look_cons_same] at ht; cases ht; exact h1
      · by_cases e2 : t = 2
        · subst e2; rw [spT, look_cons_other (by decide), look_cons_same] at ht; cases ht; exact h2
        · rw [spT, look_cons_other e1, look_cons_other e2] at ht; cases ht
    · cases h
  · cases h

theorem SpInv.reset (h : SpInv M w E lc A a w1 rows hdr) (hr : spR A S = some A') : SpInv M w E lc A' a w1 rows hdr := by
  obtain ⟨_, h1, h2, h3, h4, h5⟩ := spR_spec hr
  have hres := (Res.refl (a := a) h.srel h.erel).fewer (A2 := A') (Nat.le_of_eq h4) h5 (fun d => by rw [h2]) h3
  exact ⟨hres.srel, hres.erel, h.went, fun k hk => h.loc k (by rwa [h2] at hk), h.t4, by have := h.out; unfold OutRow at this ⊢; rwa [h2], h.pure, h.size, h.marks⟩

theorem SpInv.free (h : SpInv M w E lc A a w1 rows hdr) {q : Nat} (hq : look q A.tmps = none) (h4 : q ≠ 4) (x : Value) : SpInv M w E lc A (a.put (some q) x) w1 rows hdr where
  srel := h.srel
  erel := (free_put (Res.refl h.srel h.erel) hq x).erel
  went := h.went
  loc := h.loc
  t4 := by rw [put_other h4]; exact h.t4
  out := h.out
  pure := h.pure
  size := by rw [put_size]; exact h.size
  marks := h.marks

theorem SpInv.eval4 (h : SpInv M w E lc A a w1 rows hdr) : a.eval (.tmp 4) = hdr := by
  show a.tmps.getD 4 undef = hdr
  rw [Array.getD_eq_getD_getElem?, h.t4]; rfl

theorem look_spT {t : Nat} (h1 : t ≠ 1) (h2 : t ≠ 2) (h : A.tmps = spT) : look t A.tmps = none := by
  rw [h, spT, look_cons_other h1, look_cons_other h2]; rfl

/-- Another row. -/
theorem SpInv.turned {rows' : List V} {hdr' : Value} (h : SpInv M w E lc A a w1 rows hdr) (hA : A.tmps = spT) (hS : SRel E St.empty w2) (hE : ERel E St.empty lc A a w2) (ho : OutRow w w2 E lc A rows' hdr') (hp : RowsPure rows')
    (h1 : w2.os = w1.os) (h2 : w2.tape = w1.tape) (h3 : w2.output = w1.output) (h4 : w1.heap.size ≤ w2.heap.size) (h5 : ∀ k, k < w.heap.size → w2.heap[k]? = w1.heap[k]?) : SpInv M w E lc A (a.put (some 4) hdr') w2 rows' hdr' where
  srel := hS
  erel := (free_put (Res.refl hS hE) (look_spT (by decide) (by decide) hA) hdr').erel
  went := ⟨h1.trans h.went.os, h2.trans h.went.tape, h3.trans h.went.output, Nat.le_trans h.went.size h4, fun k hk => (h5 k hk).trans (h.went.keep k hk), h.went.mem⟩
  loc := h.loc
  t4 := by
    have hz := h.size
    show (a.tmps.setIfInBounds 4 hdr')[4]? = some hdr'
    simp [show 4 < a.tmps.size by omega]
  out := ho
  pure := hp
  size := by rw [put_size]; exact h.size
  marks := h.marks

theorem nd_of {o : Oper} {op : Op} (h1 : o.op = op) (h2 : ∀ c, op ≠ .defer c) : ∀ c, o.op ≠ .defer c := fun c h3 => h2 c (h1 ▸ h3)

variable {n : Nat} {Q : Exit → Act → World → Prop}

/-- THE LOOP. -/
theorem spine_loop (hC : CfgOk Go.Ev.Tryz.cfg PP) (hR : RunOk Go.Ev.Tryz.cfg PP R) {i4 i5 i6 : Nat} {a0 h0 h1 h2 q0 q1 q2 q3 q4 q5 q6 q7 s0 s1 s2 s3 s4 u0 u1 v0 v1 v2 v3 : Oper} {c1 c2 : Call}
    (e4 : sp4 = [h0, h1, h2]) (e5 : sp5 = [q0, q1, q2, q3, q4, q5, q6, q7]) (e6 : sp6 = [s0, s1, s2, s3, s4]) (ho : SpOps a0 q0 q6 q7 u0 u1 v0 v1 v2 v3 c1 c2)
    (d4 : [h0, h1, h2].map (·.dst) = [some 9, some 10, some 11]) (d5 : [q1, q2, q3, q4, q5].map (·.dst) = [some 13, some 14, some 15, some 16, some 17]) (d6 : [s0, s1, s2, s3, s4].map (·.dst) = [some 19, some 20, some 21, some 22, none]) :
    ∀ (m : Nat) {E : Rho} {lc : LocM} {A : Env} {a : Act} {w1 : World} {rows : List V} {hdr : Value} {A2 : Env} {rows2 : List V}, SpInv M w E lc A a w1 rows hdr → A.tmps = spT → spLoop R m A rows = some (A2, rows2) →
    (∀ E' lc' a' w' hdr', SpInv M w E' lc' A2 a' w' rows2 hdr' → A2.tmps = spT → Q (.exit 0) a' w') →
    Code.roundsIn (Fw none) n PP (.seq (.seq (.region i4 #[h0, h1, h2] false) (.cond (.tmp 11) .skip (.exit 0))) (.block 1 (.seq (.region i5 #[q0, q1, q2, q3, q4, q5, q6, q7] false) (.region i6 #[s0, s1, s2, s3, s4] false)))) Q m a w1
  | 0, E, lc, A, a, w1, rows, hdr, A2, rows2, _, _, h, _ => by cases (show (none : Option (Env × List V)) = _ from h)
  | m + 1, E, lc, A, a, w1, rows, hdr, A2, rows2, hi, hA, h, hQ => by
    rw [roundsIn_succ]
    have h' : (match spStep R A rows with
      | some (true, A, rows) => spLoop R m A rows
      | some (false, A, rows) => some (A, rows)
      | none => none) = some (A2, rows2) := h
    refine wpIn_seq (wpIn_seq (wpIn_region_list ?_))
    cases hst : spStep R A rows with
    | none => rw [hst] at h'; cases h'
    | some bAr =>
      obtain ⟨b, A6, rows6⟩ := bAr
      rw [hst] at h'
      unfold spStep at hst
      split at hst
      · rename_i A1 S1 hev1
        unfold spEval at hev1
        rw [e4] at hev1
        rw [show (#[h0, h1, h2] : Array Oper).toList = [h0, h1, h2] ++ [] from rfl]
        split at hst
        · -- the end
          rename_i A2' hr1 h11
          cases hst
          cases h'
          obtain ⟨rfl, _⟩ := spR_spec hr1
          refine ops_keep hC hR (ops := #[h0, h1, h2]) [h0, h1, h2] 0 hi.srel hi.erel hev1 (fun E' lc' a' w' hk hr => ?_)
          have hi1 := hi.res hk (dst_off d4 (by decide)) hr
          refine wpIn_cond_false (operand_rel hr.erel.tmps (show operand A1 (.tmp 11) = some _ from h11)) (wpIn_exit ?_)
          exact hQ _ _ _ _ _ (hi1.reset hr1) (spR_spec hr1).2.1
        · -- one more
          rename_i A2' hr1 h11
          obtain ⟨rfl, hA2, _⟩ := spR_spec hr1
          refine ops_keep hC hR (ops := #[h0, h1, h2]) [h0, h1, h2] 0 hi.srel hi.erel hev1 (fun E1 lc1 a1 w1' hk1 hres1 => ?_)
          have hi1 := (hi.res hk1 (dst_off d4 (by decide)) hres1).reset hr1
          refine wpIn_cond_true (operand_rel hres1.erel.tmps (show operand A1 (.tmp 11) = some _ from h11)) (wpIn_skip ?_)
          refine wpIn_block (wpIn_seq (wpIn_region_list (list_step ho.q0g ?_)))
          split at hst
          · rename_i A3 S3 hev3
            unfold spEval at hev3
            rw [e5] at hev3
            have hev3' : evalOps Go.Ev.Tryz.cfg R (Go.Ev.Tryz.cfg.fc 29) (fun _ => .any) [q0, q1, q2, q3, q4, q5, q6, q7] [q1, q2, q3, q4, q5] 1 A2' St.empty = some (A3, S3) := hev3
            split at hst
            · rename_i A4 rows' hr3 hpush
              obtain ⟨rfl, hA4, _⟩ := spR_spec hr3
              split at hst
              · rename_i A5 S5 hev5
                unfold spEval at hev5
                rw [e6] at hev5
                split at hst
                · rename_i A6' hr5
                  cases hst
                  obtain ⟨rfl, hA6, _⟩ := spR_spec hr5
                  -- the header is moved
                  refine wp_value (nd_of ho.q0o (fun c hh => by cases hh)) (cv := hdr) (by unfold execOp; rw [ho.q0o]; simp only [hi1.eval4]; rfl) ?_
                  rw [ho.q0d]
                  have hi2 := hi1.free (q := 12) (look_spT (by decide) (by decide) hA2) (by decide) hdr
                  have ht12 : (a1.put (some 12) hdr).tmps[12]? = some hdr := by
                    have hz := hi1.size
                    show (a1.tmps.setIfInBounds 12 hdr)[12]? = some hdr
                    simp [show 12 < a1.tmps.size by omega]
                  refine ops_keep hC hR (ops := #[q0, q1, q2, q3, q4, q5, q6, q7]) (rest := [q6, q7]) [q1, q2, q3, q4, q5] 1 hi2.srel hi2.erel hev3' (fun E3 lc3 a3 w3 hk3 hres3 => ?_)
                  have hi3 := (hi2.res hk3 (dst_off d5 (by decide)) hres3).reset hr3
                  have ht12' : a3.eval (.tmp 12) = hdr := by
                    show a3.tmps.getD 12 undef = hdr
                    rw [Array.getD_eq_getD_getElem?, hk3.off 12 (dst_off d5 (by decide)), ht12]; rfl
                  -- the row
                  unfold spPush at hpush
                  split at hpush
                  · rename_i cs h17
                    obtain ⟨hch, hpush⟩ := bif_some hpush
                    cases hpush
                    simp only [Bool.and_eq_true] at hch
                    obtain ⟨⟨⟨g1, g2⟩, g3⟩, g4⟩ := hch
                    have g1' := Nat.eq_of_beq_eq_true g1
                    rw [lenN_eq] at g1' g4
                    have g4' := Nat.le_of_ble_eq_true g4
                    have g3' : cs.all noOwn = true := List.all_eq_true.2 (allB_mem g3)
                    have hcv := operand_rel hres3.erel.tmps (show operand A3 (.tmp 17) = some _ from h17)
                    obtain ⟨hdr', w4, krun, kS, kE, kO, k1, k2, k3, k4, k5⟩ := out_grow hC hi3.srel hi3.erel hi3.pure hi3.out hi3.went.size hcv g1' (isZero_within g2) g4' q6.type
                    refine list_step ho.q6g ?_
                    have hx : execOp a3.eval q6 = builtin .append c1.argTypes q6.type (c1.args.map fun | .const _ => true | _ => false) (c1.args.map a3.eval) := by
                      unfold execOp; rw [ho.q6o]; simp only [resolve, ho.q6f, pure_bind, invoke]; rfl
                    have har : c1.args.map a3.eval = #[hdr, a3.eval (.tmp 17)] := by rw [ho.q6a]; simp [ht12']
                    refine wp_v (nd_of ho.q6o (fun c hh => by cases hh)) (s := Builtin.append_ #[23, 23] q6.type #[hdr, a3.eval (.tmp 17)]) (by rw [hx, ho.q6t, har]; rfl) krun ?_
                    rw [ho.q6d]
                    refine list_step ho.q7g ?_
                    have hpure' : RowsPure (rows ++ [.agg cs]) := fun r hr => by
                      rcases List.mem_append.1 hr with hr | hr
                      · exact hi3.pure r hr
                      · cases hr with
                        | head => exact ⟨cs, rfl, g1', isZero_within g2, g3'⟩
                        | tail _ hr => cases hr
                    have hsz3 := hi3.size
                    have e18 : (a3.put (some 18) hdr').eval (.tmp 18) = hdr' := eval_at (by omega)
                    refine wp_value (nd_of ho.q7o (fun c hh => by cases hh)) (cv := hdr') (by unfold execOp; rw [ho.q7o]; simp only [e18]; rfl) ?_
                    rw [ho.q7d]
                    have hi3' := hi3.free (q := 18) (look_spT (by decide) (by decide) hA4) (by decide) hdr'
                    have kE' := (free_put (Res.refl kS kE) (look_spT (t := 18) (by decide) (by decide) hA4) hdr').erel
                    have hi4 := hi3'.turned hA4 kS kE' kO hpure' k1 k2 k3 k4 k5
                    -- the next one
                    show Code.wpIn _ _ _ _ _ _ _
                    refine wpIn_region_list ?_
                    rw [show (#[s0, s1, s2, s3, s4] : Array Oper).toList = [s0, s1, s2, s3, s4] ++ [] from rfl]
                    refine ops_keep hC hR (ops := #[s0, s1, s2, s3, s4]) [s0, s1, s2, s3, s4] 0 hi4.srel hi4.erel hev5 (fun E5 lc5 a5 w5 hk5 hres5 => ?_)
                    have hi5 := (hi4.res hk5 (dst_off d6 (by decide)) hres5).reset hr5
                    rw [appN_eq] at h'
                    exact spine_loop hC hR e4 e5 e6 ho d4 d5 d6 m hi5 hA6 h' hQ
                  · cases hpush
                · cases hst
              · cases hst
            · cases hst
          · cases hst
        · cases hst
      · cases hst

end

end Go.Ev

/- term.Spine is told by itself: what it gives (own work). -/
namespace Go.Ev
open Go.RowKit Go.Sort Go.Proofs

section
variable {M : Nat → Nat → Option Value} {w w1 w2 w' : World} {E E' : Rho} {S : St} {lc lc' : LocM} {A A' A'' : Env} {a a' : Act} {rows : List V} {hdr : Value} {l : List Oper} {R : Run} {n k : Nat} {Q : Exit → Act → World → Prop}

theorem one_lvl : ∀ {vs : List V}, within (valsLvl vs) 0 → within (one vs).lvl 0
  | [], _ => ⟨0, rfl, Nat.le_refl _⟩
  | [_], h => aggLvl_lvl (valsLvl_within.1 h).1
  | _ :: _ :: _, h => h

theorem one_plain : ∀ {vs : List V}, within (valsLvl vs) 0 → vs.all plainA = true → plainV (one vs) = true
  | [], _, _ => rfl
  | [v], h, hp => by
    have h1 : plainA v = true := by simpa using hp
    have h2 := (valsLvl_within.1 h).1
    cases v <;> first | exact h1 | exact absurd h2 within_none
  | _ :: _ :: _, _, hp => hp

/-- Marks go, and what is given is what is asked: of any results. -/
theorem went_ends' (hg : Went M w E w') (hS : SRel E S w') (hE : ERel E S lc A a w') (hM : MTrue M w) {fn : Func} (hd : ∀ d ∈ a.defers, ∃ r, d.target = .collected r ∧ w.heap.size ≤ r)
    (hC : CfgOk Go.Ev.Tryz.cfg PP) {vs : List V} (hr : resultsOf Go.Ev.Tryz.cfg A S fn.results.toList = some vs) (hl : within (valsLvl vs) 0) (hp : vs.all plainA = true) :
    LeavesInM (Fw none) n PP fn a.tmps (PurePost M w (one vs)) a.defers .returning w' := by
  refine leave_marks (w0 := w) a.defers w' hS hE hd (fun w'' h1 h2 h3 h4 h5 h6 h7 => ?_)
  obtain ⟨Y, k1, k2⟩ := results_rel hC h1 h2.tmps h2.locs hr
  obtain ⟨j1, _⟩ := one_rel k2 (within_isSome hl)
  have hrun : (results fn a.tmps).run PP w'' = .ok (if h : Y.length = 1 then Y[0] else .tuple ⟨Y⟩) w'' := by
    rw [results_eq, Array.mapM_eq_mapM_toList]
    simp [k1]
  have hMlt : ∀ B o x, M B o = some x → B < w.heap.size := fun B o x hx => cell_block (hM B o x hx).1
  have hgr : Grew w w'' := ⟨h3.trans hg.os, h4.trans hg.tape, h5.trans hg.output, by rw [h6]; exact hg.size, fun k hk => (h7 k hk).trans (hg.keep k hk)⟩
  refine ⟨_, hrun, _, fun B o => if B < w.heap.size then M B o else World.all w'' B o, rfl, hgr, ?_, ?_, ?_, ?_⟩
  · intro B o y hy
    by_cases hlt : B < w.heap.size
    · simp only [hlt, if_true] at hy
      have := hM B o y hy
      exact ⟨by rw [World.cell?_of_block (w := w) (a := ⟨B, o, none⟩) (hgr.keep B hlt)]; exact this.1, this.2⟩
    · simp only [hlt, if_false] at hy
      exact all_true w'' B o y hy
  · intro B o y hy
    simp only [hMlt B o y hy, if_true]; exact hy
  · intro B o y hy
    by_cases hlt : B < w.heap.size
    · simp only [hlt, if_true] at hy; exact .inl hy
    · exact .inr (by omega)
  · refine (trans_all (E := E) (E' := only fun B o => if B < w.heap.size then M B o else World.all w'' B o) (l := lc) (l' := noLoc) (n := 0) ⟨fun B o y hy => ?_, fun b B hlt _ => by omega⟩ (one vs)).1 _ (one_lvl hl) (.inr (one_plain hl hp)) j1
    show (if B < w.heap.size then M B o else World.all w'' B o) = some y
    rcases hg.mem B o y hy with hm | hm
    · rw [if_pos (hMlt B o y hm)]; exact hm
    · rw [if_neg (by omega)]; exact all_more h1 B o y hy

theorem empties (hS : SRel E St.empty w) : E.ρ = [] ∧ E.τ = [] :=
  ⟨List.eq_nil_of_length_eq_zero (by rw [← hS.len]; rfl), List.eq_nil_of_length_eq_zero (by rw [← hS.tlen]; rfl)⟩

/-- The empty state, whatever is known of memory. -/
theorem srel_empty (h1 : E.ρ = []) (h2 : E.τ = []) (hM : MTrue E.M w) : SRel E St.empty w where
  len := by rw [h1]; rfl
  blk b B k hb := by rw [h1] at hb; cases hb
  nodup := by rw [h1]; exact List.nodup_nil
  tlen := by rw [h2]; rfl
  tok t o ho := by rw [h2] at ho; cases ho
  tdist t u o p ho := by rw [h2] at ho; cases ho
  tρ t o ho := by rw [h2] at ho; cases ho
  M := hM
  Mρ B o x _ hB := by rw [h1] at hB; cases hB
  Mτ B o x t p _ hp := by rw [h2] at hp; cases hp
  ll b r d B hb := by cases hb
  lldist b b' r r' d d' B hb := by cases hb

/-- A row, turned in place. -/
theorem SpInv.onlyB {rows' : List V} {hdr' : Value} {B : Nat} {cur : Array Value} {e : TypeId} (h : SpInv M w E lc A a w1 rows hdr) (ho : Only w1 w2 B) (hB : w.heap.size ≤ B) (hM : ∀ o, E.M B o = none) (hL : ¬ LP lc A.locs B) (hcur : w1.heap[B]? = some (.cells cur e (0, 0)))
    (hout : OutRow w w2 E lc A rows' hdr') (hp : RowsPure rows') (h4 : hdr' = hdr) : SpInv M w E lc A a w2 rows' hdr' where
  srel := srel_empty (empties h.srel).1 (empties h.srel).2 fun B' o x hx => by
    have hlt := cell_block (h.srel.M B' o x hx).1
    have hne : B' ≠ B := fun e => by rw [e, hM] at hx; cases hx
    exact ⟨by rw [World.cell?_of_block (w := w1) (a := ⟨B', o, none⟩) (ho.keep B' hlt hne)]; exact (h.srel.M B' o x hx).1, (h.srel.M B' o x hx).2⟩
  erel := by
    have hE := h.erel
    refine ⟨hE.nt, hE.tmps, hE.locs.mono (Mono.refl E) (fun k hk' => ho.keep k (hE.apart k hk').2.2 fun e => hL (e ▸ hk')), fun B' hB' => ?_, fun d hd => ?_, hE.mdist⟩
    · obtain ⟨h1, h2, h3⟩ := hE.apart B' hB'
      exact ⟨h1, h2, Nat.lt_of_lt_of_le h3 ho.size⟩
    · obtain ⟨r, h1, h2, h3⟩ := hE.marks d hd
      exact ⟨r, h1, by rw [ho.keep r (Array.getElem?_eq_some_iff.1 h2).1 (fun e => by rw [e, hcur] at h2; cases h2)]; exact h2, h3⟩
  went := ⟨ho.os.trans h.went.os, ho.tape.trans h.went.tape, ho.output.trans h.went.output, Nat.le_trans h.went.size ho.size, fun k hk => (ho.keep k (Nat.lt_of_lt_of_le hk h.went.size) (by omega)).trans (h.went.keep k hk), h.went.mem⟩
  loc := h.loc
  t4 := by rw [h4]; exact h.t4
  out := hout
  pure := hp
  size := h.size
  marks := h.marks

theorem RowsPure.shaped (h : RowsPure rows) : Shaped 5 rows := fun r hr => by
  obtain ⟨cs, h1, h2, _⟩ := h r hr; exact ⟨cs, h1, h2⟩

theorem RowsPure.lvl : ∀ {rows : List V}, RowsPure rows → within (valsLvl rows) 0
  | [], _ => ⟨0, rfl, Nat.le_refl _⟩
  | r :: rows, h => by
    obtain ⟨cs, rfl, _, h2, _⟩ := h r List.mem_cons_self
    exact valsLvl_within.2 ⟨h2, RowsPure.lvl fun q hq => h q (List.mem_cons_of_mem _ hq)⟩

theorem RowsPure.noOwn (h : RowsPure rows) : (rows.flatMap V.cells).all noOwn = true := by
  rw [List.all_eq_true]
  intro v hv
  obtain ⟨r, hr, hv⟩ := List.mem_flatMap.1 hv
  obtain ⟨cs, rfl, _, _, h3⟩ := h r hr
  exact List.all_eq_true.1 h3 v hv

theorem RowsPure.reverse (h : RowsPure rows) : RowsPure rows.reverse := fun r hr => h r (List.mem_reverse.1 hr)

/-- The row becomes known. -/
theorem SpInv.told (h : SpInv M w E lc A a w1 rows hdr) : ∃ Ef, SRel Ef St.empty w1 ∧ ERel Ef St.empty lc A a w1 ∧ Went M w Ef w1 ∧ VRel Ef lc (.list 5 .no 0 rows) hdr := by
  rcases h.out with ⟨rfl, rfl⟩ | ⟨B, cap, cur, e, xs, rfl, h2, h3, h4, h5, h6, h7, h8, h9, h10⟩
  · exact ⟨E, h.srel, h.erel, h.went, ⟨0, rfl, Nat.le_refl _⟩, trivial, .inl ⟨rfl, none, rfl⟩⟩
  · have hmono : ∀ B' o x, E.M B' o = some x → (if B' = B ∧ o < rows.length * 5 then World.all w1 B o else E.M B' o) = some x := fun B' o x hx => by
      rw [if_neg]
      · exact hx
      · rintro ⟨rfl, _⟩; rw [h7] at hx; cases hx
    have hTrue : MTrue (fun B' o => if B' = B ∧ o < rows.length * 5 then World.all w1 B o else E.M B' o) w1 := fun B' o x hx => by
      replace hx : (if B' = B ∧ o < rows.length * 5 then World.all w1 B o else E.M B' o) = some x := hx
      by_cases hc : B' = B ∧ o < rows.length * 5
      · rw [if_pos hc] at hx; obtain ⟨rfl, _⟩ := hc; exact all_true w1 _ o x hx
      · rw [if_neg hc] at hx; exact h.srel.M B' o x hx
    obtain ⟨e1, e2⟩ := empties h.srel
    refine ⟨{ E with M := fun B' o => if B' = B ∧ o < rows.length * 5 then World.all w1 B o else E.M B' o }, srel_empty e1 e2 hTrue, ?_, ?_, ?_⟩
    · have hm : Mono E { E with M := fun B' o => if B' = B ∧ o < rows.length * 5 then World.all w1 B o else E.M B' o } := ⟨hmono, ⟨[], by simp⟩, TExt.refl E, fun _ _ => rfl⟩
      refine ⟨h.erel.nt, h.erel.tmps.mono hm (fun _ _ _ _ _ h _ => h), h.erel.locs.mono hm (fun _ _ => rfl), fun B' hB' => ?_, h.erel.marks, h.erel.mdist⟩
      obtain ⟨k1, k2, k3⟩ := h.erel.apart B' hB'
      refine ⟨k1, fun o => ?_, k3⟩
      show (if B' = B ∧ o < rows.length * 5 then World.all w1 B o else E.M B' o) = none
      rw [if_neg]
      · exact k2 o
      · rintro ⟨rfl, _⟩; exact h8 hB'
    · refine ⟨h.went.os, h.went.tape, h.went.output, h.went.size, h.went.keep, fun B' o x hx => ?_⟩
      have hx' : (if B' = B ∧ o < rows.length * 5 then World.all w1 B o else E.M B' o) = some x := hx
      by_cases hc : B' = B ∧ o < rows.length * 5
      · obtain ⟨rfl, _⟩ := hc; exact .inr h4
      · rw [if_neg hc] at hx'; exact h.went.mem B' o x hx'
    · refine ⟨h.pure.lvl, trivial, .inr ⟨B, 0, cap, rfl, h3, rows_of_cells h.pure.shaped (CellsAt.of_vals (X := cellsOf xs) ?_ (fun j x hj => ?_) h.pure.noOwn)⟩⟩
      · exact (h9.ext (E' := { E with M := fun B' o => if B' = B ∧ o < rows.length * 5 then World.all w1 B o else E.M B' o }) hmono h.pure.ext).vals.reloc_cells ((shaped_lvl h.pure.shaped).2 h.pure.lvl)
      · have hlt : j < rows.length * 5 := by rw [← h9.length, ← cellsOf_length]; exact (List.getElem?_eq_some_iff.1 hj).1
        show (if B = B ∧ 0 + j < rows.length * 5 then World.all w1 B (0 + j) else E.M B (0 + j)) = some x
        rw [Nat.zero_add, if_pos ⟨rfl, hlt⟩]
        refine all_knows ?_ (cellsOf_one xs x (List.mem_of_getElem? hj))
        simp only [World.cell?, h5]
        exact h10 j x hj

theorem reverse_fn : ∃ fn c, PP.funcs[56]? = some fn ∧ (fn.name == "runtime.NumGoroutine") = false ∧ fn.body = some c := ⟨_, _, Go.Proofs.Tryz.func56, by kernel_rfl, rfl⟩

theorem spOut_spec {vs : List V} {v : V} (h : spOut vs = some v) : v = one vs ∧ within (valsLvl vs) 0 ∧ vs.all plainA = true := by
  unfold spOut at h
  obtain ⟨h1, h⟩ := bif_some h
  cases h
  simp only [Bool.and_eq_true] at h1
  exact ⟨rfl, isZero_within h1.1, List.all_eq_true.2 (allB_mem h1.2)⟩

/-- THE END. -/
theorem spine_end (hC : CfgOk Go.Ev.Tryz.cfg PP) (hR : RunOk Go.Ev.Tryz.cfg PP R) {i7 i8 : Nat} {a0 q0 q6 q7 u0 u1 v0 v1 v2 v3 : Oper} {c1 c2 : Call} (ho : SpOps a0 q0 q6 q7 u0 u1 v0 v1 v2 v3 c1 c2) (e8 : sp8 = [v0, v1, v2, v3])
    {v : V} (hi : SpInv M w E lc A a w1 rows hdr) (hA : A.tmps = spT) (hM : MTrue M w) (hlen : rows.length ≤ 9223372036854775807) (hv : spEnd R A rows = some v)
    (hQ : ∀ a3 w3, LeavesInM (Fw none) 0 PP Go.Proofs.Tryz.f29 a3.tmps (PurePost M w v) a3.defers .returning w3 → Q .ret a3 w3) :
    (Code.seq (.region i7 #[u0, u1] false) (.seq (.region i8 #[v0, v1, v2, v3] false) .ret)).wpIn (Fw none) n PP Q a w1 := by
  refine wpIn_seq (wpIn_region_list (list_step ho.u0g ?_))
  refine wp_value (nd_of ho.u0o (fun c hh => by cases hh)) (cv := hdr) (by unfold execOp; rw [ho.u0o]; simp only [hi.eval4]; rfl) ?_
  rw [ho.u0d]
  have hi1 := hi.free (q := 23) (look_spT (by decide) (by decide) hA) (by decide) hdr
  have hsz := hi.size
  have e23 : (a.put (some 23) hdr).eval (.tmp 23) = hdr := eval_at (by omega)
  refine list_step ho.u1g ?_
  have hargs : c2.args.toList.map (a.put (some 23) hdr).eval = [hdr] := by rw [ho.u1a]; simp [e23]
  -- what is turned round
  have hrev : Calls PP 56 ⟨[hdr]⟩ w1 fun e w2 => e = .returned (.tuple #[]) ∧ SpInv M w E lc A ((a.put (some 23) hdr).put (some 24) (.tuple #[])) w2 rows.reverse hdr := by
    rcases hi.out with ⟨rfl, rfl⟩ | ⟨B, cap, cur, e, xs, rfl, h2, h3, h4, h5, h6, h7, h8, h9, h10⟩
    · refine (reverse_none none 0 w1).mono ?_
      rintro e w2 ⟨rfl, rfl⟩
      exact ⟨rfl, hi1.free (look_spT (by decide) (by decide) hA) (by decide) _⟩
    · have hxl := h9.length
      have hle : xs.length * 5 ≤ cur.size := by rw [h6, hxl]; exact Nat.mul_le_mul_right _ h3
      have hc := reverse_at hC cap h5 h10 hle (by rw [hxl]; exact hlen)
      rw [hxl] at hc
      refine hc.mono ?_
      rintro e' w2 ⟨rfl, k1, cur', k2, k3, k4⟩
      exact ⟨rfl, (hi1.onlyB (rows' := rows.reverse) (hdr' := .slice (some ⟨B, 0, none⟩) rows.length cap) k1 h4 h7 h8 h5 (.inr ⟨B, cap, cur', e, xs.reverse, by rw [List.length_reverse], by rw [List.length_reverse]; exact h2, by rw [List.length_reverse]; exact h3, h4, k2, by rw [k3, h6], h7, h8, h9.reverse, k4⟩) hi.pure.reverse rfl).free (look_spT (by decide) (by decide) hA) (by decide) _⟩
  refine wp_calls (nd_of ho.u1o (fun c hh => by cases hh)) (call_run ho.u1o ho.u1f reverse_fn) (by rw [hargs]; exact hrev) ?_
  rintro e' w2 ⟨rfl, hi2⟩
  refine ⟨_, rfl, ?_⟩
  rw [ho.u1d]
  refine wpIn_seq (wpIn_region_list ?_)
  unfold spEnd at hv
  split at hv
  · rename_i A1 S1 hev1
    unfold spEval at hev1
    rw [e8] at hev1
    have hev1' : evalOps Go.Ev.Tryz.cfg R (Go.Ev.Tryz.cfg.fc 29) (fun _ => .any) [v0, v1, v2, v3] [v0] 0 A St.empty = some (A1, S1) := hev1
    split at hv
    · rename_i h26
      split at hv
      · rename_i A2 S2 hev2
        unfold spEval at hev2
        rw [e8] at hev2
        have hev2' : evalOps Go.Ev.Tryz.cfg R (Go.Ev.Tryz.cfg.fc 29) (fun _ => .any) [v0, v1, v2, v3] [v2] 2 A1 St.empty = some (A2, S2) := hev2
        split at hv
        · rename_i A3 hr3
          split at hv
          · rename_i vs hvs
            obtain ⟨rfl, hA3, _⟩ := spR_spec hr3
            refine ops_keep hC hR (ops := #[v0, v1, v2, v3]) (rest := [v1, v2, v3]) [v0] 0 hi2.srel hi2.erel hev1' (fun E1 lc1 a1 w3 hk1 hres1 => ?_)
            have hi3 := hi2.res hk1 (fun o ho' => by cases ho' with | head => rw [ho.v0d]; decide | tail _ h => cases h) hres1
            refine list_step ho.v1g ?_
            refine wp_value (nd_of ho.v1o (fun c hh => by cases hh)) (cv := hdr) (by unfold execOp; rw [ho.v1o]; simp only [hi3.eval4]; rfl) ?_
            rw [ho.v1d]
            have hi4 := hi3.free (q := 26) h26 (by decide) hdr
            have ht26 : (a1.put (some 26) hdr).tmps[26]? = some hdr := by
              have hz := hi3.size
              show (a1.tmps.setIfInBounds 26 hdr)[26]? = some hdr
              simp [show 26 < a1.tmps.size by omega]
            refine ops_keep hC hR (ops := #[v0, v1, v2, v3]) (rest := [v3]) [v2] 2 hi4.srel hi4.erel hev2' (fun E2 lc2 a2 w4 hk2 hres2 => ?_)
            have hi5 := (hi4.res hk2 (fun o ho' => by cases ho' with | head => rw [ho.v2d]; decide | tail _ h => cases h) hres2).reset hr3
            have e26 : a2.eval (.tmp 26) = hdr := by
              show a2.tmps.getD 26 undef = hdr
              rw [Array.getD_eq_getD_getElem?, hk2.off 26 (fun o ho' => by cases ho' with | head => rw [ho.v2d]; decide | tail _ h => cases h), ht26]; rfl
            refine list_step ho.v3g ?_
            refine wp_value (nd_of ho.v3o (fun c hh => by cases hh)) (cv := hdr) (by unfold execOp; rw [ho.v3o]; simp only [e26]; rfl) ?_
            rw [ho.v3d]
            refine wpIn_ret (hQ _ _ ?_)
            obtain ⟨Ef, k1, k2, k3, k4⟩ := hi5.told
            obtain ⟨rfl, p1, p2⟩ := spOut_spec hv
            have hE6 : ERel Ef St.empty lc2 { A3 with tmps := (3, .list 5 .no 0 rows.reverse) :: A3.tmps } (a2.put (some 3) hdr) w4 :=
              ⟨by rw [put_size]; exact k2.nt, tmps_set k2.tmps (by have := hi5.size; omega) k4, k2.locs, k2.apart, k2.marks, k2.mdist⟩
            exact went_ends' k3 k1 hE6 hM hi5.marks hC hvs p1 p2
          · cases hv
        · cases hv
      · cases hv
    · cases hv
  · cases hv

/-- WHAT IT GIVES. -/
theorem spine_ok (hC : CfgOk Go.Ev.Tryz.cfg PP) (hR : RunOk Go.Ev.Tryz.cfg PP R) {args : List V} {v : V} (h : spineG R k (mapN V.strip args) = some v) : PureCalls PP 29 args v := by
  obtain ⟨i3, i4, i5, i6, i7, i8, a0, h0, h1, h2, q0, q1, q2, q3, q4, q5, q6, q7, s0, s1, s2, s3, s4, u0, u1, v0, v1, v2, v3, c1, c2, hbody, e4, e5, e6, e8, ho, d4, d5, d6⟩ := sp_body
  have hfn : Go.Ev.Tryz.cfg.fn 29 = some Go.Proofs.Tryz.f29 := rfl
  have hb : (Go.Proofs.Tryz.f29).body = some spB := rfl
  have hok : codeOk (Go.Ev.Tryz.cfg.fc 29) spB = true := hC.body _ _ _ hfn hb
  have hoks : ∀ c ∈ spC, codeOk (Go.Ev.Tryz.cfg.fc 29) c = true := by
    rw [hbody] at hok
    obtain ⟨k1, k2⟩ := andB_true.1 hok
    obtain ⟨k3, k4⟩ := andB_true.1 k2
    intro c hc
    cases hc with
    | head => exact k1
    | tail _ hc => cases hc with
      | head => exact k3
      | tail _ hc => cases hc
  have hend : ∀ {R : Run} {A : Env} {rows : List V} {v : V}, spEnd R A rows = some v → ∃ vs, v = one vs ∧ within (valsLvl vs) 0 ∧ vs.all plainA = true := fun {R A rows v} h => by
    unfold spEnd at h
    split at h
    · split at h
      · split at h
        · split at h
          · split at h
            · exact ⟨_, spOut_spec h⟩
            · cases h
          · cases h
        · cases h
      · cases h
    · cases h
  have hv : ∃ vs, v = one vs ∧ within (valsLvl vs) 0 ∧ vs.all plainA = true := by
    unfold spineG at h
    split at h
    · split at h
      · replace h := (bif_some h).2
        split at h
        · exact hend (bif_some h).2
        · cases h
      · cases h
    · split at h
      · exact ⟨_, spOut_spec h⟩
      · cases h
    · cases h
  obtain ⟨vs0, rfl, hl0, hp0⟩ := hv
  refine ⟨one_lvl hl0, one_plain hl0 hp0, fun M w X hM hX => ?_⟩
  refine (callsIn_wide (n := 0)).1 (callsIn_of_wp_marks (F := Fw none) Go.Proofs.Tryz.func29 hb trivial ?_)
  have hE0 : ERel (only M) St.empty noLoc { nt := (Go.Proofs.Tryz.f29).ntmps, tmps := number 0 (mapN V.strip args), locs := [], fix := [] } ⟨(⟨X⟩ : Array Value) ++ Array.replicate ((Go.Proofs.Tryz.f29).ntmps - X.length) undef, []⟩ w := by
    refine ⟨by simp; omega, fun t v ht => ?_, ⟨(fun d cs hd => by cases hd), (fun d d' B hd => by cases hd)⟩, fun B hB => ?_, fun d hd => (by cases hd), List.Pairwise.nil⟩
    · obtain ⟨x, h1, h2⟩ := look_number (show ValsRel (only M) noLoc (mapN V.strip args) X by rw [mapN_eq]; exact hX) ht
      refine ⟨x, ?_, h2⟩
      have hlt : t < X.length := (List.getElem?_eq_some_iff.1 h1).1
      rw [Array.getElem?_append_left (by simpa using hlt)]
      simpa using h1
    · obtain ⟨d, hd, _⟩ := hB; cases hd
  rw [hbody]
  unfold spineG at h
  split at h
  · rename_i A1 S1 hev
    split at h
    · rename_i A2 hr1
      obtain ⟨rfl, hA2, hAl, _, hAn, _⟩ := spR_spec hr1
      have hnt := (bif_some h).1
      replace h := (bif_some h).2
      rw [Nat.blt_eq] at hnt
      split at h
      · rename_i A3 rows hlp
        have hlen := Nat.le_of_ble_eq_true (bif_some h).1
        replace h := (bif_some h).2
        rw [lenN_eq] at hlen
        refine seq_wp hC hR spC hoks (empty_rel hM) hE0 hev (fun E' lc' a' w' hl hr => ?_)
        have hmarks : ∀ d ∈ a'.defers, ∃ r, d.target = .collected r ∧ w.heap.size ≤ r := fun d hd => by
          rcases hl d hd with h | h
          · cases h
          · exact h
        have hres2 : Res (only M) St.empty noLoc { nt := (Go.Proofs.Tryz.f29).ntmps, tmps := number 0 (mapN V.strip args), locs := [], fix := [] } a' w E' St.empty lc' A2 w' :=
          hr.fewer (Nat.le_of_eq (spR_spec hr1).2.2.2.2.1) (spR_spec hr1).2.2.2.2.2 (fun d => by rw [hAl]) (spR_spec hr1).2.2.2.1
        have hloc : ∀ k, LP lc' A2.locs k → w.heap.size ≤ k := fun k hk => by
          rcases hres2.step.grow k (.inr hk) with hq | hq
          · rcases hq with hq | ⟨d, hd, _⟩
            · exact (FP_empty hq).elim
            · cases hd
          · exact hq
        have hsz : 26 < a'.tmps.size := Nat.lt_of_lt_of_le hnt hres2.erel.nt
        refine wpIn_seq (wpIn_region_list (list_step ho.a0g ?_))
        refine wp_value (nd_of ho.a0o (fun c hh => by cases hh)) (cv := .slice none 0 0) (by unfold execOp; rw [ho.a0o]; rfl) ?_
        rw [ho.a0d]
        have hi : SpInv M w E' lc' A2 (a'.put (some 4) (.slice none 0 0)) w' [] (.slice none 0 0) :=
          { srel := hres2.srel
            erel := (free_put (Res.refl hres2.srel hres2.erel) (look_spT (t := 4) (by decide) (by decide) hA2) _).erel
            went := Went.start rfl hres2
            loc := hloc
            t4 := by
              show (a'.tmps.setIfInBounds 4 (.slice none 0 0))[4]? = _
              simp [show 4 < a'.tmps.size by omega]
            out := .inl ⟨rfl, rfl⟩
            pure := fun r hr => by cases hr
            size := by rw [put_size]; exact hsz
            marks := hmarks }
        refine wpIn_seq (wpIn_block (wpIn_loop_rounds k (spine_loop hC hR e4 e5 e6 ho d4 d5 d6 k hi hA2 hlp (fun E2 lc2 a2 w2 hdr2 hi2 hA3 => ?_))))
        exact spine_end hC hR ho e8 hi2 hA3 hM hlen h (fun a3 w3 h3 => h3)
      · cases h
    · cases h
  · rename_i A1 S1 hev
    split at h
    · rename_i vs hvs
      obtain ⟨h1, p1, p2⟩ := spOut_spec h
      rw [h1]
      refine seq_wp hC hR spC hoks (empty_rel hM) hE0 hev (fun E' lc' a' w' hl hr => ?_)
      refine went_ends' (Went.start rfl hr) hr.srel hr.erel hM (fun d hd => ?_) hC hvs p1 p2
      rcases hl d hd with h | h
      · cases h
      · exact h
    · cases h
  · cases h

end

end Go.Ev

/- The functions that are told by themselves (own work). -/
namespace Go.Ev
open Go.RowKit Go.Sort Go.Proofs

noncomputable def cutT (id : Nat) : Option CutF := bif Nat.beq id 86 then some namesG else bif Nat.beq id 29 then some spineG else none

theorem cutT_some {id : Nat} {g : CutF} (h : cutT id = some g) : (id = 86 ∧ g = namesG) ∨ (id = 29 ∧ g = spineG) := by
  unfold cutT at h
  cases h1 : Nat.beq id 86 with
  | true => rw [h1] at h; cases h; exact .inl ⟨Nat.eq_of_beq_eq_true h1, rfl⟩
  | false =>
    rw [h1] at h
    simp only [cond_false] at h
    cases h2 : Nat.beq id 29 with
    | true => rw [h2] at h; cases h; exact .inr ⟨Nat.eq_of_beq_eq_true h2, rfl⟩
    | false => rw [h2] at h; cases h

theorem cut_ok (hC : CfgOk Go.Ev.Tryz.cfg PP) : CutOk Go.Ev.Tryz.cfg PP cutT where
  pure id g h := by rcases cutT_some h with ⟨rfl, _⟩ | ⟨rfl, _⟩ <;> rfl
  fn id g h := by
    rcases cutT_some h with ⟨rfl, _⟩ | ⟨rfl, _⟩
    · exact ⟨_, _, Go.Proofs.Tryz.func86, by kernel_rfl, rfl⟩
    · exact ⟨_, _, Go.Proofs.Tryz.func29, by kernel_rfl, rfl⟩
  ok id g h R k args v hR _ hg := by
    rcases cutT_some h with ⟨rfl, rfl⟩ | ⟨rfl, rfl⟩
    · exact names_ok hC hR hg
    · exact spine_ok hC hR hg

/-- The evaluator of this program. -/
noncomputable abbrev runz (n : Nat) : Run := runc Go.Ev.Tryz.cfg cutT n

end Go.Ev
