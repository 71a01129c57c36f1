/- The statement RecordsNilSaid is proved: the law returns true at every input, and its arguments read behind the call as before. No condition (own work). -/
import Derived.Test.YtfcngcogphoikaaGreatXf
import Derived.Test.YtfcngcogphoikaaGreatXr
import Derived.Test.YtfcngcogphoikaaGreatXw
import Derived.Test.YtfcngcogphoikaaGreatXL
import Derived.Test.YtfcngcogphoikaaGreatRows
import Derived.WalkKit
import Derived.JoinedCond
/- RecordsNil: what the arguments are (own work). -/
namespace Go.Ev
open Go.Proofs Go.RowKit
set_option maxRecDepth 100000

theorem shp_int {n t : Nat} {k : IntKind} {cs : List V} (hu : Tryz.prog.underlying t = some (.int k)) (h : Shp Tryz.prog n t cs) : ∃ z, cs = [.int k z] := by
  cases n with
  | zero => exact h.elim
  | succ n => rw [Shp, hu] at h; exact ⟨_, h.choose_spec.1⟩
theorem shp_str {n t : Nat} {cs : List V} (hu : Tryz.prog.underlying t = some .string) (h : Shp Tryz.prog n t cs) : ∃ s : List UInt8, cs = [.str s] := by
  cases n with
  | zero => exact h.elim
  | succ n => rw [Shp, hu] at h; exact ⟨_, h.choose_spec.1⟩
theorem shp_slice {n t e : Nat} {cs : List V} (hu : Tryz.prog.underlying t = some (.slice e)) (h : Shp Tryz.prog n t cs) : ∃ m rows, n = m + 1 ∧ cs = [.list (Tryz.prog.cellsOf e) .no 0 rows] ∧ ∀ r ∈ rows, ∃ cs, r = .agg cs ∧ Shp Tryz.prog m e cs := by
  cases n with
  | zero => exact h.elim
  | succ n =>
    rw [Shp, hu] at h
    obtain ⟨rows, h1, _, h3⟩ := h
    exact ⟨n, rows, rfl, h1, h3⟩

theorem rows_tq {m : Nat} (hm : ∀ cs, Shp Tryz.prog m 25 cs → ∃ t : Tq, cs = cellsT t) : ∀ {rows : List V}, (∀ r ∈ rows, ∃ cs, r = .agg cs ∧ Shp Tryz.prog m 25 cs) → ∃ ts : List Tq, rows = encTs ts
  | [], _ => ⟨[], (by rw [encTs])⟩
  | r :: rows, h => by
    obtain ⟨ts, e⟩ := rows_tq hm (fun r hr => h r (List.mem_cons_of_mem _ hr))
    obtain ⟨cs, e1, h1⟩ := h r List.mem_cons_self
    obtain ⟨t, e2⟩ := hm cs h1
    exact ⟨t :: ts, by rw [encTs, encT_eq, e, e1, e2]⟩

theorem shp25 : ∀ (n : Nat) (cs : List V), Shp Tryz.prog n 25 cs → ∃ t : Tq, cs = cellsT t := by
  intro n
  induction n using Nat.strongRecOn with
  | ind n ih =>
    intro cs h
    cases n with
    | zero => exact h.elim
    | succ n =>
      rw [Shp, Tryz.underlying25] at h
      obtain ⟨c1, d, rfl, h1, h⟩ := h
      obtain ⟨c2, d, rfl, h2, h⟩ := h
      obtain ⟨c3, d, rfl, h3, h⟩ := h
      obtain ⟨c4, d, rfl, h4, h⟩ := h
      obtain ⟨c5, d, rfl, h5, h⟩ := h
      obtain rfl : d = [] := h
      obtain ⟨k, rfl⟩ := shp_int Tryz.underlying5 h1
      obtain ⟨z, rfl⟩ := shp_int Tryz.underlying3 h2
      obtain ⟨s, rfl⟩ := shp_str Tryz.underlying9 h3
      obtain ⟨m1, r1, _, rfl, hr1⟩ := shp_slice Tryz.underlying22 h4
      obtain ⟨m2, r2, hm2, rfl, hr2⟩ := shp_slice Tryz.underlying23 h5
      obtain ⟨ts, rfl⟩ := rows_tq (fun cs hc => ih m2 (by omega) cs hc) hr2
      have e66 : Tryz.prog.cellsOf 66 = 5 := by kernel_rfl
      have e25 : Tryz.prog.cellsOf 25 = 5 := by kernel_rfl
      refine ⟨.mk k z s r1 ts, ?_⟩
      show _ = [V.int .u8 k, .int .i64 z, .str s, .list 5 .no 0 r1, .list 5 .no 0 (encTs ts)]
      rw [e25, e66]
      rfl

theorem args_cons {t : Nat} {ts : List Nat} {us : List V} (h : Args Tryz.prog (t :: ts) us) : ∃ v rest n c, us = v :: rest ∧ Shp Tryz.prog n t c ∧ ((isAggT Tryz.prog t = true ∧ v = .agg c) ∨ (isAggT Tryz.prog t = false ∧ c = [v])) ∧ Args Tryz.prog ts rest := h

theorem arg25 {ts : List Nat} {us : List V} (h : Args Tryz.prog (25 :: ts) us) : ∃ (t : Tq) (rest : List V), us = encA t :: rest ∧ Args Tryz.prog ts rest := by
  obtain ⟨v, rest, n, c, rfl, h1, h2, h3⟩ := args_cons h
  obtain ⟨l, rfl⟩ := shp25 n c h1
  rcases h2 with ⟨_, rfl⟩ | ⟨hh, _⟩
  · exact ⟨l, rest, rfl, h3⟩
  · rw [show isAggT Tryz.prog 25 = true by kernel_rfl] at hh; cases hh

theorem law3 (us : List V) (h : Args Tryz.prog Go.Proofs.Tryz.f3.params.toList us) : ∃ n S', RW n (.f 3) us St.empty = some (.bool true, S') := by
  obtain ⟨x, us1, rfl, h1⟩ := arg25 (ts := [25]) h
  obtain ⟨y, us2, rfl, h2⟩ := arg25 (ts := []) h1
  obtain rfl : us2 = [] := h2
  exact ⟨_, _, r3_ok (wt x + wt y + 1) x y (by omega) (by omega)⟩

end Go.Ev

/- RecordsNil: works() is told right (own work). -/
namespace Go.Ev
open Go.RowKit Go.Proofs

theorem cutW_some {id : Nat} {g : CutF} (h : cutW id = some g) : id = 5 ∧ g = worksG := by
  unfold cutW at h
  cases h1 : Nat.beq id 5 with
  | true => rw [h1] at h; cases h; exact ⟨Nat.eq_of_beq_eq_true h1, rfl⟩
  | false => rw [h1] at h; cases h

theorem cutW_ok : CutOk Go.Ev.Tryz.cfg Go.Proofs.Tryz.prog cutW where
  pure id g h := by obtain ⟨rfl, _⟩ := cutW_some h; rfl
  fn id g h := by obtain ⟨rfl, _⟩ := cutW_some h; exact ⟨_, _, Go.Proofs.Tryz.func5, by kernel_rfl, rfl⟩
  ok id g h R k args v hR _ hg := by
    obtain ⟨rfl, rfl⟩ := cutW_some h
    cases args with
    | nil =>
      cases hg
      exact ((withCut_ok (cut_ok Tryz.cfgOk) (runc_ok Tryz.cfgOk (cut_ok Tryz.cfgOk) 103)).pure 5 [] St.empty _ _ (by kernel_rfl) rfl (works_is St.empty)).2
    | cons a l => cases hg

/-- The evaluator, of which works() is told, is sound. -/
theorem rwOk (n : Nat) : RunOk Go.Ev.Tryz.cfg Go.Proofs.Tryz.prog (RW n) := withCut_ok cutW_ok (runc_ok Tryz.cfgOk cutW_ok n)

end Go.Ev

/- The frames of the laws of this seat (written by gen3.py; own work). -/
namespace Go.Proofs.YtfcngcogphoikaaGreat
open Go.Ev Go.ChangeShapes Go.WideShapes Go.ChangeAt Go.RowKit

theorem evOwn : ownKnob Tryz.prog.godebug = none := by kernel_rfl
theorem evLaid : laidOutB Tryz.prog = true := by kernel_rfl
theorem evMaps : mapsRowed Tryz.prog = true := by kernel_rfl
noncomputable def evTypes : List Nat := [3, 5, 9, 22, 23, 25, 64, 66]
theorem evPlain : allB (plainT Tryz.prog evTypes) evTypes = true := by kernel_rfl
theorem evRead : allB (fun t => Tryz.prog.readableRec t) evTypes = true := by kernel_rfl
theorem evPar {ts : List Nat} (h : allB (fun t => memN t evTypes) ts = true) : ∀ t ∈ ts, memN t evTypes = true ∧ Tryz.prog.readableRec t = true :=
  fun t ht => ⟨allB_mem h t ht, allB_mem evRead t (memN_iff.1 (allB_mem h t ht))⟩

set_option maxRecDepth 100000 in
theorem recordsNil_lifted (hlaw : ∀ us, Args Tryz.prog Tryz.f3.params.toList us → ∃ n S', Go.Ev.RW n (.f 3) us St.empty = some (.bool true, S')) (os : Os) (started : os.Started) (H : Type) (enc : TypeId × Value → H) :
    ReturnsInHanded {} Tryz.checked os 3 .any (Rows.recordsNilSpec.pre6 enc Tryz.prog Tryz.f3 Rows.recordsNilRow.domain false) (Rows.recordsNilSpec.post enc Tryz.prog Tryz.f3 false true false false) := by
  refine returnsInHanded_of_change (C := Tryz.checked) evOwn started (by kernel_rfl) Tryz.func3
    (ChangeSpec.witness6 (enc := enc) (C := Tryz.checked) false ⟨#[], #[.agg #[.int .u8 0, .int .i64 0, .string ⟨⟨[]⟩⟩, .slice none 0 0, .slice none 0 0], .agg #[.int .u8 0, .int .i64 0, .string ⟨⟨[]⟩⟩, .slice none 0 0, .slice none 0 0]], []⟩ 8 (by kernel_rfl) (by kernel_rfl) (by kernel_rfl) (by kernel_rfl)) ?_
  intro W base args ds gs before hval hW _ _
  exact law_contract (C := Go.Ev.Tryz.cfg) (P := Tryz.prog) (s := Rows.recordsNilSpec) Go.Ev.rwOk evLaid evMaps evPlain (evPar (by kernel_rfl)) (by kernel_rfl) rfl (tb := 4) (by kernel_rfl) Tryz.underlying4
    (fun _ ds hd => by
      match ds, (show ds.length = 2 from hd) with
      | [d1, d2], _ => rfl) hval hW hlaw

theorem recordsNil_of (hlaw : ∀ us, Args Tryz.prog Tryz.f3.params.toList us → ∃ n S', Go.Ev.RW n (.f 3) us St.empty = some (.bool true, S')) : Rows.RecordsNilSaid :=
  OpenClaim.holds_of_wide 3 Tryz.f3 rfl rfl rfl rfl rfl rfl rfl ⟨rfl, rfl, rfl, rfl, rfl⟩ rfl rfl rfl rfl rfl (by kernel_rfl) Tryz.func3 (by kernel_rfl)
    (of_decide_eq_true (by kernel_rfl)) (by unfold Func.isWrapper; first | (rw [if_pos (by decide +kernel)]; kernel_rfl) | (rw [if_neg (by decide +kernel)]; exact ⟨rfl, rfl⟩))
    (fun os started H enc _ => recordsNil_lifted hlaw os started H enc)

end Go.Proofs.YtfcngcogphoikaaGreat

namespace Go.Proofs.YtfcngcogphoikaaGreat

/-- RecordsNilSaid. -/
theorem recordsNil_holds : Rows.RecordsNilSaid := recordsNil_of (fun us h => Go.Ev.law3 us h)

end Go.Proofs.YtfcngcogphoikaaGreat
