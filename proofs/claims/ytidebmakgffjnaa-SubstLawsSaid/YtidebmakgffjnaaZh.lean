/- The statement SubstLaws is proved: the law returns true at every input, and its arguments read behind the call as before. No condition (own work). -/
import Derived.Test.YtidebmakgffjnaaXy
import Derived.Test.YtidebmakgffjnaaRows
import Derived.WalkKit
import Derived.JoinedCond

namespace Go.Proofs.Ytidebmakgffjnaa
open Go.Ev Go.ChangeShapes Go.WideShapes Go.ChangeAt Go.RowKit

theorem evOwn : ownKnob Try.prog.godebug = none := by kernel_rfl
theorem evLaid : laidOutB Try.prog = true := by kernel_rfl
theorem evMaps : mapsRowed Try.prog = true := by kernel_rfl
noncomputable def evTypes : List Nat := [3, 5, 9, 22, 24, 25, 44, 46, 72]
theorem evPlain : allB (plainT Try.prog evTypes) evTypes = true := by kernel_rfl
theorem evRead : allB (fun t => Try.prog.readableRec t) evTypes = true := by kernel_rfl
theorem evPar {ts : List Nat} (h : allB (fun t => memN t evTypes) ts = true) : ∀ t ∈ ts, memN t evTypes = true ∧ Try.prog.readableRec t = true :=
  fun t ht => ⟨allB_mem h t ht, allB_mem evRead t (memN_iff.1 (allB_mem h t ht))⟩

set_option maxRecDepth 100000 in
theorem substLaws_lifted (hlaw : ∀ us, Args Try.prog Try.f11.params.toList us → ∃ n S', run Go.Ev.Try.cfg n (.f 11) us St.empty = some (.bool true, S')) (os : Os) (started : os.Started) (H : Type) (enc : TypeId × Value → H) :
    ReturnsInHanded {} Try.checked os 11 .any (Rows.substLawsSpec.pre6 enc Try.prog Try.f11 Rows.substLawsRow.domain false) (Rows.substLawsSpec.post enc Try.prog Try.f11 false true false false) := by
  refine returnsInHanded_of_change (C := Try.checked) evOwn started (by kernel_rfl) Try.func11
    (ChangeSpec.witness6 (enc := enc) (C := Try.checked) false ⟨#[], #[.agg #[.int .u8 0, .int .i64 0, .string ⟨⟨[]⟩⟩, .slice none 0 0, .slice none 0 0], .agg #[.int .u8 0, .int .i64 0, .string ⟨⟨[]⟩⟩, .slice none 0 0, .slice none 0 0], .int .u16 0, .int .u16 0, .int .u16 0], []⟩ 8 (by kernel_rfl) (by kernel_rfl) (by kernel_rfl) (by kernel_rfl)) ?_
  intro W base args ds gs before hval hW _ _
  exact law_contract (C := Go.Ev.Try.cfg) (P := Try.prog) (s := Rows.substLawsSpec) Go.Ev.Try.runOk evLaid evMaps evPlain (evPar (by kernel_rfl)) (by kernel_rfl) rfl (tb := 4) (by kernel_rfl) Try.underlying4
    (fun _ ds hd => by
      match ds, (show ds.length = 5 from hd) with
      | [d1, d2, d3, d4, d5], _ => rfl) hval hW hlaw

theorem substLaws_of (hlaw : ∀ us, Args Try.prog Try.f11.params.toList us → ∃ n S', run Go.Ev.Try.cfg n (.f 11) us St.empty = some (.bool true, S')) : Rows.SubstLawsSaid :=
  OpenClaim.holds_of_wide 11 Try.f11 rfl rfl rfl rfl rfl rfl rfl ⟨rfl, rfl, rfl, rfl, rfl⟩ rfl rfl rfl rfl rfl (by kernel_rfl) Try.func11 (by kernel_rfl)
    (of_decide_eq_true (by kernel_rfl)) (by unfold Func.isWrapper; first | (rw [if_pos (by decide +kernel)]; kernel_rfl) | (rw [if_neg (by decide +kernel)]; exact ⟨rfl, rfl⟩))
    (fun os started H enc _ => substLaws_lifted hlaw os started H enc)

end Go.Proofs.Ytidebmakgffjnaa

namespace Go.Proofs.Ytidebmakgffjnaa

/-- SubstLaws. -/
theorem substLaws_holds : Rows.SubstLawsSaid := substLaws_of (fun us h => Go.Ev.law11 us h)

end Go.Proofs.Ytidebmakgffjnaa
