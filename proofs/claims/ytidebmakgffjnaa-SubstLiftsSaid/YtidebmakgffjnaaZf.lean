/- The statement SubstLifts is proved: the law returns true at every input, and its arguments read behind the call as before. No condition (own work). -/
import Derived.Test.YtidebmakgffjnaaXu
import Derived.Test.YtidebmakgffjnaaRows
import Derived.WalkKit
import Derived.JoinedCond
/- Terms: SubstLifts, walked and proved (own work). -/
namespace Go.Ev
open Go.Proofs Go.RowKit
set_option maxRecDepth 100000
set_option linter.unusedSimpArgs false
set_option linter.unusedVariables false

theorem Sm_zTm : Sm zTm := by
  rw [Sm_iff]
  exact ⟨⟨by show 0 ≤ _; omega, by show 0 ≤ _; omega⟩, fun y hy => by cases hy⟩
theorem wt_zTm : wt zTm = 1 := by rw [wt_eq]; show 1 + 0 + 0 + wts [] = 1; rw [wts]
theorem size_zTm : sizeT zTm = 1 := by rw [sizeT_eq]; show 1 + sizeTs [] = 1; rw [sizeTs]

/-- What is answered: the term, or none. -/
def OneOf (r : Tm × Int) (x : Tm) : Prop := r.1 = x ∨ r.1 = zTm

theorem OneOf.facts {r : Tm × Int} {x : Tm} (h : OneOf r x) {n : Nat} (hsm : Sm x) (hsz : sizeT x < 1000000000) (hw : wt x < n) (hn : 1 < n) : Sm r.1 ∧ sizeT r.1 < 1000000000 ∧ wt r.1 < n := by
  rcases h with h | h
  · rw [h]; exact ⟨hsm, hsz, hw⟩
  · rw [h]; exact ⟨Sm_zTm, by rw [size_zTm]; omega, by rw [wt_zTm]; exact hn⟩

theorem toldT_one (x : Tm) : OneOf (toldT x) x := by
  unfold toldT
  cases mayT x with
  | true => exact .inl rfl
  | false => exact .inr rfl

theorem liftM_one (x : Tm) (a b : Int) : OneOf (liftM x a b) (liftT x a b) := by
  unfold liftM
  cases (iLt a 0 || !mayT x) with
  | true => exact .inr rfl
  | false =>
    cases (walkG (heldStep b) x false a).2 with
    | true => exact .inr rfl
    | false => exact toldT_one _

theorem closeM_one (x : Tm) (a : Int) : OneOf (closeM x a) (closeT x a) := by
  unfold closeM
  cases (iLt a 0 || !mayT x) with
  | true => exact .inr rfl
  | false => exact toldT_one _

theorem liftsL_one (x : Tm) (a b : Int) : OneOf (liftsL x a b) (liftT x a b) := by
  unfold liftsL
  cases (!mayT x || iLt a 0) with
  | true => exact .inr rfl
  | false =>
    cases (iLt b 0 && btwT x a (subW a b)) with
    | true => exact .inr rfl
    | false => exact .inl rfl

theorem told_err (e : Int) (he : iEq e 0 = false) : toldL zTm e zTm e = true := by
  unfold toldL
  rw [he]
  show (iEq e e && sameT zTm zTm) = true
  rw [sameT_refl, iEq_eq]
  simp

/-- What may be is answered, what may not is none. -/
theorem told_ok (x : Tm) : toldL (toldT x).1 (toldT x).2 x 0 = true := by
  unfold toldL toldT
  cases hm : mayT x with
  | true =>
    rw [may_deep hm]
    show (iEq 0 0 && sameT x x) = true
    rw [sameT_refl]
    rfl
  | false =>
    cases deepT x with
    | true => show (iEq 4 4 && sameT zTm zTm) = true; rw [sameT_refl]; rfl
    | false => show (iEq 4 4 && sameT zTm zTm) = true; rw [sameT_refl]; rfl

theorem lift_told (x : Tm) (a b : Int) (ha : a ≤ 1073741824) (hb : -1073741824 ≤ b) (hb2 : b ≤ 1073741824) : toldL (liftM x a b).1 (liftM x a b).2 (liftsL x a b).1 (liftsL x a b).2 = true := by
  unfold liftM liftsL
  cases h0 : iLt a 0 with
  | true =>
    rw [Bool.true_or, Bool.or_true]
    exact told_err 1 rfl
  | false =>
    rw [Bool.false_or, Bool.or_false]
    cases hm : mayT x with
    | false => exact told_err 1 rfl
    | true =>
      rw [iLt_not] at h0
      obtain ⟨r, hr⟩ := may_some hm
      have e1 := held_eq (by omega : -2147483648 ≤ b) (by omega) x hr false a h0 (by omega)
      rw [Bool.false_or] at e1
      have e2 : subW a b = a - b := subW_eq (by omega) (by omega)
      have e3 : (iLt b 0 && btwT x a (subW a b)) = btwT x a (a - b) := by
        rw [e2]
        cases h1 : iLt b 0 with
        | true => rfl
        | false =>
          rw [iLt_not] at h1
          rw [btw_none x a (a - b) _ _ _ hr (by omega) (by omega) (by omega)]
          rfl
      rw [e3, e1]
      cases btwT x a (a - b) with
      | true => exact told_err 7 rfl
      | false => exact told_ok (liftT x a b)

theorem law10_frame (n : Nat) (t : Tm) (a b kk : Int) (hsm : Sm t) (hk : kk ≤ 9223372036854775807) (hn : wt t < n) : ∃ S', frame Try.cfg (run Try.cfg (n + 22)) (n + 22) 10 [encA t, .int .i64 a, .int .i64 b, .int .i64 kk] St.empty = some (.bool true, S') := by
  have hw0 : 0 < wt t := by rw [wt_eq]; omega
  have hworks := f36_ok (n + 1) St.empty
  have kL := lift_keeps t a b
  have kC := close_keeps t kk
  refine frame_ex Try.cfg _ (fn := Try.f10) rfl rfl ?_
  refine WCall.mkB (f52_ok (n + 20) t [] false true _ (by omega) (by rw [wts]; omega)) (fun hf => ?_) (fun hf => ?_)
  · refine WCmp.mk (fun h1 => ?_) (fun h1 => ?_)
    · refine WCall.mk _ _ hworks ?_
      exact ⟨_, rfl⟩
    refine WCmp.mk (fun h2 => ?_) (fun h2 => ?_)
    · refine WCall.mk _ _ hworks ?_
      exact ⟨_, rfl⟩
    refine WCmp.mk (fun h3 => ?_) (fun h3 => ?_)
    · refine WCall.mk _ _ hworks ?_
      exact ⟨_, rfl⟩
    rw [iLt_not] at h1 h2 h3
    have hd : deepT t = false := by
      unfold fewT at hf
      simp only [Bool.and_eq_true, Bool.not_eq_true'] at hf
      exact hf.1.1
    have hsz : sizeT t < 1000000000 := by have := deep_size hd; omega
    have smL := kL.2.1 hsm
    have smC := kC.2.1 hsm
    have szL : sizeT (liftT t a b) < 1000000000 := by rw [kL.2.2]; exact hsz
    have szC : sizeT (closeT t kk) < 1000000000 := by rw [kC.2.2]; exact hsz
    have wtL : wt (liftT t a b) < n + 7 := by rw [kL.1]; omega
    have wtC : wt (closeT t kk) < n + 7 := by rw [kC.1]; omega
    obtain ⟨m1, m2, m3⟩ := (liftM_one t a b).facts smL szL wtL (by omega)
    obtain ⟨l1, l2, l3⟩ := (liftsL_one t a b).facts smL szL wtL (by omega)
    obtain ⟨c1, c2, c3⟩ := (closeM_one t kk).facts smC szC wtC (by omega)
    refine WCall.mk _ _ (f38_ok (n + 7) t a b _ hsm hsz (by omega) smL wtL) ?_
    refine WCall.mk _ _ (f53_ok (n + 13) t a b _ hsm hsz (by omega)) ?_
    refine WCall.mk _ _ (f54_ok (n + 7) t kk _ hsm hsz (by omega) smC wtC) ?_
    have hlt := lift_told t a b h3 h2 h1
    have t1 := f57_ok (n + 13) (liftM t a b).1 (liftM t a b).2 (liftsL t a b).1 (liftsL t a b).2 St.empty m1 m2 (by omega) l1 (by omega)
    rw [hlt] at t1
    have terr : closeM t kk = (zTm, 1) → run Try.cfg (n + 22) (.f 57) [encA (closeM t kk).1, .int .i64 (closeM t kk).2, encA zTm, .int .i64 1] St.empty = some (.bool true, St.empty) := fun e => by
      have := f57_ok (n + 13) (closeM t kk).1 (closeM t kk).2 zTm 1 St.empty c1 c2 (by omega) Sm_zTm (by rw [wt_zTm]; omega)
      rw [this, e, told_err 1 rfl]
    refine WCall.mkB (r55_ok (n + 14) t _ hsm (by omega)) (fun hm => ?_) (fun hm => ?_)
    · refine WCmp.mk (fun hk0 => ?_) (fun hk0 => ?_)
      · refine WCall.mk _ _ t1 ?_
        refine WCall.mk _ _ (terr (by unfold closeM; rw [hk0]; rfl)) ?_
        refine WCall.mk _ _ hworks ?_
        exact ⟨_, rfl⟩
      · have hk0' := hk0
        rw [iLt_not] at hk0'
        have hc : closeM t kk = toldT (closeT t kk) := by unfold closeM; rw [hk0, hm]; rfl
        have t2 := f57_ok (n + 13) (closeM t kk).1 (closeM t kk).2 (closeT t kk) 0 St.empty c1 c2 (by omega) smC (by omega)
        rw [hc, told_ok, ← hc] at t2
        have t3 := r56_ok (n + 21) t (if (2097152 : Int) < kk then 2097152 else kk) 0 St.empty hsz (by omega)
        rw [close_eq hm hk0' hk] at t3
        refine WCall.mk _ _ t3 ?_
        refine WCall.mk _ _ t1 ?_
        refine WCall.mk _ _ t2 ?_
        refine WCall.mk _ _ hworks ?_
        exact ⟨_, rfl⟩
    · refine WCall.mk _ _ t1 ?_
      refine WCall.mk _ _ (terr (by unfold closeM; rw [hm, Bool.not_false, Bool.or_true]; rfl)) ?_
      refine WCall.mk _ _ hworks ?_
      exact ⟨_, rfl⟩
  · refine WCall.mk _ _ hworks ?_
    exact ⟨_, rfl⟩

theorem law10 (us : List V) (h : Args Try.prog Try.f10.params.toList us) : ∃ n S', run Try.cfg n (.f 10) us St.empty = some (.bool true, S') := by
  rw [Try.params10] at h
  obtain ⟨t, r1, rfl, hsm, h1⟩ := arg46 h
  obtain ⟨a, r2, rfl, _, h2⟩ := arg3b h1
  obtain ⟨b, r3, rfl, _, h3⟩ := arg3b h2
  obtain ⟨kk, r4, rfl, hk, h4⟩ := arg3b h3
  obtain rfl := arg_nil h4
  obtain ⟨S', hf⟩ := law10_frame (wt t + 1) t a b kk hsm hk.2 (by omega)
  exact ⟨wt t + 24, St.empty, run_tm hf (by simp only [strips_t, strips_i, strips_nil]) rfl rfl rfl rfl rfl⟩

end Go.Ev

namespace Go.Proofs.Ytidebmakgffjnaa
open Go.Ev Go.ChangeShapes Go.WideShapes Go.ChangeAt Go.RowKit

theorem evOwn : ownKnob Try.prog.godebug = none := by kernel_rfl
theorem evLaid : laidOutB Try.prog = true := by kernel_rfl
theorem evMaps : mapsRowed Try.prog = true := by kernel_rfl
noncomputable def evTypes : List Nat := [3, 5, 9, 22, 24, 25, 44, 46]
theorem evPlain : allB (plainT Try.prog evTypes) evTypes = true := by kernel_rfl
theorem evRead : allB (fun t => Try.prog.readableRec t) evTypes = true := by kernel_rfl
theorem evPar {ts : List Nat} (h : allB (fun t => memN t evTypes) ts = true) : ∀ t ∈ ts, memN t evTypes = true ∧ Try.prog.readableRec t = true :=
  fun t ht => ⟨allB_mem h t ht, allB_mem evRead t (memN_iff.1 (allB_mem h t ht))⟩

set_option maxRecDepth 100000 in
theorem substLifts_lifted (hlaw : ∀ us, Args Try.prog Try.f10.params.toList us → ∃ n S', run Go.Ev.Try.cfg n (.f 10) us St.empty = some (.bool true, S')) (os : Os) (started : os.Started) (H : Type) (enc : TypeId × Value → H) :
    ReturnsInHanded {} Try.checked os 10 .any (Rows.substLiftsSpec.pre6 enc Try.prog Try.f10 Rows.substLiftsRow.domain false) (Rows.substLiftsSpec.post enc Try.prog Try.f10 false true false false) := by
  refine returnsInHanded_of_change (C := Try.checked) evOwn started (by kernel_rfl) Try.func10
    (ChangeSpec.witness6 (enc := enc) (C := Try.checked) false ⟨#[], #[.agg #[.int .u8 0, .int .i64 0, .string ⟨⟨[]⟩⟩, .slice none 0 0, .slice none 0 0], .int .i64 0, .int .i64 0, .int .i64 0], []⟩ 8 (by kernel_rfl) (by kernel_rfl) (by kernel_rfl) (by kernel_rfl)) ?_
  intro W base args ds gs before hval hW _ _
  exact law_contract (C := Go.Ev.Try.cfg) (P := Try.prog) (s := Rows.substLiftsSpec) Go.Ev.Try.runOk evLaid evMaps evPlain (evPar (by kernel_rfl)) (by kernel_rfl) rfl (tb := 4) (by kernel_rfl) Try.underlying4
    (fun _ ds hd => by
      match ds, (show ds.length = 4 from hd) with
      | [d1, d2, d3, d4], _ => rfl) hval hW hlaw

theorem substLifts_of (hlaw : ∀ us, Args Try.prog Try.f10.params.toList us → ∃ n S', run Go.Ev.Try.cfg n (.f 10) us St.empty = some (.bool true, S')) : Rows.SubstLiftsSaid :=
  OpenClaim.holds_of_wide 10 Try.f10 rfl rfl rfl rfl rfl rfl rfl ⟨rfl, rfl, rfl, rfl, rfl⟩ rfl rfl rfl rfl rfl (by kernel_rfl) Try.func10 (by kernel_rfl)
    (of_decide_eq_true (by kernel_rfl)) (by unfold Func.isWrapper; first | (rw [if_pos (by decide +kernel)]; kernel_rfl) | (rw [if_neg (by decide +kernel)]; exact ⟨rfl, rfl⟩))
    (fun os started H enc _ => substLifts_lifted hlaw os started H enc)

end Go.Proofs.Ytidebmakgffjnaa

namespace Go.Proofs.Ytidebmakgffjnaa

/-- SubstLifts. -/
theorem substLifts_holds : Rows.SubstLiftsSaid := substLifts_of (fun us h => Go.Ev.law10 us h)

end Go.Proofs.Ytidebmakgffjnaa
