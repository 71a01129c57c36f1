/- The statement LevelOrder is proved: the law returns true at every input, and its arguments read behind the call as before. No condition (own work). -/
import Derived.Test.YtidebmakgffjnaaXl
import Derived.Test.YtidebmakgffjnaaRows
import Derived.WalkKit
import Derived.JoinedCond
/- Levels: LevelOrder (own work). -/
namespace Go.Ev
open Go.Proofs Go.RowKit
set_option maxRecDepth 100000

/-! ### In plain numbers -/

theorem mx_comm (a b : Lv) : mx a b = mx b a := by
  unfold mx
  rw [Int.max_comm a.c, Int.max_comm a.p0, Int.max_comm a.p1, Int.max_comm a.p2, Int.max_comm a.p3]

theorem mx_self {a : Lv} (ha : Vd a) : mx a a = a := by
  obtain ⟨a1, a2, a3, a4, a5, a6, a7⟩ := ha
  refine Lv.ext' ?_ ?_ ?_ ?_ ?_ <;> unfold mx <;> simp only []
  · split <;> omega
  all_goals omega

/-- The greatest of a level's numbers of parameters. -/
def Lv.top (l : Lv) : Int := max (max (max l.p0 l.p1) l.p2) l.p3

theorem le_max_iff' (x y z : Int) : x ≤ max y z ↔ x ≤ y ∨ x ≤ z := by omega

theorem le_top {x : Int} {l : Lv} : x ≤ l.top ↔ x ≤ l.p0 ∨ x ≤ l.p1 ∨ x ≤ l.p2 ∨ x ≤ l.p3 := by
  unfold Lv.top
  simp only [le_max_iff', or_assoc]

theorem top_lt {x : Int} {l : Lv} : l.top < x ↔ l.p0 < x ∧ l.p1 < x ∧ l.p2 < x ∧ l.p3 < x := by
  have := @le_top x l
  omega

theorem mx_c (a b : Lv) : (mx a b).c = if max a.c b.c ≤ max a.top b.top then 0 else max a.c b.c := by
  have e : (max a.c b.c ≤ max a.p0 b.p0 ∨ max a.c b.c ≤ max a.p1 b.p1 ∨ max a.c b.c ≤ max a.p2 b.p2 ∨ max a.c b.c ≤ max a.p3 b.p3) ↔ max a.c b.c ≤ max a.top b.top := by
    generalize max a.c b.c = x
    simp only [le_max_iff', le_top, or_assoc, or_left_comm]
  show (if max a.c b.c ≤ max a.p0 b.p0 ∨ max a.c b.c ≤ max a.p1 b.p1 ∨ max a.c b.c ≤ max a.p2 b.p2 ∨ max a.c b.c ≤ max a.p3 b.p3 then 0 else max a.c b.c) = _
  simp only [e]

theorem mx_top (a b : Lv) : (mx a b).top = max a.top b.top := by
  have h : ∀ x, x ≤ (mx a b).top ↔ x ≤ max a.top b.top := fun x => by
    rw [le_top]
    show (x ≤ max a.p0 b.p0 ∨ x ≤ max a.p1 b.p1 ∨ x ≤ max a.p2 b.p2 ∨ x ≤ max a.p3 b.p3) ↔ _
    simp only [le_max_iff', le_top, or_assoc, or_left_comm]
  have h1 := (h (mx a b).top).1 (Int.le_refl _)
  have h2 := (h (max a.top b.top)).2 (Int.le_refl _)
  omega

theorem mx_assoc {a b c : Lv} (ha : Vd a) (hb : Vd b) (hc : Vd c) : mx (mx a b) c = mx a (mx b c) := by
  refine Lv.ext' ?_ ?_ ?_ ?_ ?_
  · rw [mx_c, mx_c, mx_c, mx_c, mx_top, mx_top]
    have h1 := ha.1
    have h2 := hb.1
    have h3 := hc.1
    generalize a.top = x
    generalize b.top = y
    generalize c.top = z
    split <;> split <;> split <;> split <;> first | rfl | omega
  all_goals (show max (max _ _) _ = max _ (max _ _); omega)

theorem le_trans' {a b c : Lv} (h : Le a b) (k : Le b c) : Le a c := by
  obtain ⟨h0, h1, h2, h3, h4⟩ := h
  obtain ⟨k0, k1, k2, k3, k4⟩ := k
  exact ⟨by omega, by omega, by omega, by omega, by omega⟩

theorem Vd_zero : Vd zeroLv := by unfold Vd; simp

theorem le_zero {a : Lv} (ha : Vd a) : Le zeroLv a := by
  obtain ⟨a1, a2, a3, a4, a5, a6, a7⟩ := ha
  exact ⟨a3.1, a4.1, a5.1, a6.1, .inl a1⟩

theorem le_mx {a b : Lv} (ha : Vd a) (hb : Vd b) : Le a (mx a b) := by
  obtain ⟨a1, a2, a3, a4, a5, a6, a7⟩ := ha
  obtain ⟨b1, b2, b3, b4, b5, b6, b7⟩ := hb
  unfold Le mx
  simp only
  refine ⟨by omega, by omega, by omega, by omega, ?_⟩
  split <;> omega

theorem mx_le {a b c : Lv} (hb : Vd b) (hc : Vd c) (h : Le a c) : Le (mx a b) c ↔ Le b c := by
  obtain ⟨b1, b2, b3, b4, b5, b6, b7⟩ := hb
  obtain ⟨c1, c2, c3, c4, c5, c6, c7⟩ := hc
  obtain ⟨h0, h1, h2, h3, h4⟩ := h
  unfold Le mx
  simp only
  constructor
  · rintro ⟨k0, k1, k2, k3, k4⟩
    refine ⟨by omega, by omega, by omega, by omega, ?_⟩
    split at k4 <;> omega
  · rintro ⟨k0, k1, k2, k3, k4⟩
    refine ⟨by omega, by omega, by omega, by omega, ?_⟩
    split <;> omega

/-- One more. -/
noncomputable def sx (l : Lv) : Lv := formF (pl l 1)

theorem succF_eq {l : Lv} (hl : Vd l) : succF l = bif mayF (sx l) then (sx l, 0) else (noLv, 4) := by
  unfold succF toldF sx
  rw [mayF_iff.2 hl, plusF_eq hl (by omega) (by unfold TOP; omega)]
  rfl

theorem sx_p {l : Lv} (hl : Vd l) : ((sx l).p0 = l.p0 + 1 ∧ 0 ≤ l.p0 ∨ (sx l).p0 = -1 ∧ l.p0 = -1) ∧ ((sx l).p1 = l.p1 + 1 ∧ 0 ≤ l.p1 ∨ (sx l).p1 = -1 ∧ l.p1 = -1) ∧
    ((sx l).p2 = l.p2 + 1 ∧ 0 ≤ l.p2 ∨ (sx l).p2 = -1 ∧ l.p2 = -1) ∧ ((sx l).p3 = l.p3 + 1 ∧ 0 ≤ l.p3 ∨ (sx l).p3 = -1 ∧ l.p3 = -1) := by
  obtain ⟨a1, a2, a3, a4, a5, a6, a7⟩ := hl
  unfold sx
  rw [formF_eq]
  unfold pl
  simp only
  refine ⟨?_, ?_, ?_, ?_⟩ <;> split <;> omega

theorem sx_c {l : Lv} (hl : Vd l) : (sx l).c = if l.c + 1 ≤ (sx l).p0 ∨ l.c + 1 ≤ (sx l).p1 ∨ l.c + 1 ≤ (sx l).p2 ∨ l.c + 1 ≤ (sx l).p3 then 0 else l.c + 1 := by
  have h := form_c (l := pl l 1) (by show 0 ≤ l.c + 1; have := hl.1; omega)
  have e0 : (sx l).p0 = (pl l 1).p0 := by unfold sx; rw [formF_eq]
  have e1 : (sx l).p1 = (pl l 1).p1 := by unfold sx; rw [formF_eq]
  have e2 : (sx l).p2 = (pl l 1).p2 := by unfold sx; rw [formF_eq]
  have e3 : (sx l).p3 = (pl l 1).p3 := by unfold sx; rw [formF_eq]
  rw [e0, e1, e2, e3]
  exact h

theorem sx_top {l : Lv} (hl : Vd l) : (sx l).top = l.top + 1 ∧ 0 ≤ l.top ∨ (sx l).top = -1 ∧ l.top = -1 := by
  obtain ⟨e0, e1, e2, e3⟩ := sx_p hl
  have h : ∀ x, 1 ≤ x → (x ≤ (sx l).top ↔ x - 1 ≤ l.top) := fun x hx => by rw [le_top, le_top]; omega
  have h0 : -1 ≤ l.top := by rw [le_top]; obtain ⟨_, _, a3, _⟩ := hl; exact .inl a3.1
  have h0' : -1 ≤ (sx l).top := by rw [le_top]; left; omega
  by_cases hq : 0 ≤ l.top
  · left
    have h1 := (h (l.top + 1) (by omega)).2 (by omega)
    have h2 := (h (sx l).top (by omega)).1 (by omega)
    exact ⟨by omega, hq⟩
  · right
    refine ⟨?_, by omega⟩
    by_cases h3 : 1 ≤ (sx l).top
    · have := (h (sx l).top h3).1 (by omega); omega
    · have h4 : ¬ 0 ≤ (sx l).top := by
        rw [le_top]
        have : ¬ 0 ≤ l.top := hq
        rw [le_top] at this
        omega
      omega

theorem Vd_top {l : Lv} (hl : Vd l) : -1 ≤ l.top ∧ (l.c = 0 ∨ l.top < l.c) ∧ 0 ≤ l.c := by
  obtain ⟨a1, a2, a3, a4, a5, a6, a7⟩ := hl
  refine ⟨by rw [le_top]; exact .inl a3.1, ?_, a1⟩
  rw [top_lt]; exact a7

theorem sx_cases {a : Lv} (ha : Vd a) : ((sx a).c = a.c + 1 ∧ (a.c = 0 → a.top < 0)) ∨ ((sx a).c = 0 ∧ a.c = 0 ∧ 0 ≤ a.top) := by
  have hc := sx_c ha
  have ht := sx_top ha
  obtain ⟨v1, v2, v3⟩ := Vd_top ha
  simp only [← le_top] at hc
  split at hc
  · right; omega
  · left; omega

theorem Le_iff {a b : Lv} : Le a b ↔ (a.p0 ≤ b.p0 ∧ a.p1 ≤ b.p1 ∧ a.p2 ≤ b.p2 ∧ a.p3 ≤ b.p3) ∧ (a.c ≤ b.c ∨ a.c ≤ b.top) := by
  unfold Le
  rw [le_top]
  simp only [and_assoc]

theorem le_sx {a : Lv} (ha : Vd a) : Le a (sx a) ∧ ¬ Le (sx a) a := by
  have hc := sx_cases ha
  have ht := sx_top ha
  obtain ⟨e0, e1, e2, e3⟩ := sx_p ha
  obtain ⟨v1, v2, v3⟩ := Vd_top ha
  rw [Le_iff, Le_iff]
  constructor
  · exact ⟨⟨by omega, by omega, by omega, by omega⟩, by omega⟩
  · rintro ⟨⟨k0, k1, k2, k3⟩, k4⟩
    have : ¬ 0 ≤ a.top := by
      rw [le_top]
      rintro (h | h | h | h) <;> omega
    omega

theorem sx_mono {a b : Lv} (ha : Vd a) (hb : Vd b) : Le (sx a) (sx b) ↔ Le a b := by
  have hc := sx_cases ha
  have kc := sx_cases hb
  have ht := sx_top ha
  have kt := sx_top hb
  obtain ⟨e0, e1, e2, e3⟩ := sx_p ha
  obtain ⟨f0, f1, f2, f3⟩ := sx_p hb
  obtain ⟨v1, v2, v3⟩ := Vd_top ha
  obtain ⟨w1, w2, w3⟩ := Vd_top hb
  have q0 : (sx a).p0 ≤ (sx b).p0 ↔ a.p0 ≤ b.p0 := by omega
  have q1 : (sx a).p1 ≤ (sx b).p1 ↔ a.p1 ≤ b.p1 := by omega
  have q2 : (sx a).p2 ≤ (sx b).p2 ↔ a.p2 ≤ b.p2 := by omega
  have q3 : (sx a).p3 ≤ (sx b).p3 ↔ a.p3 ≤ b.p3 := by omega
  rw [Le_iff, Le_iff, q0, q1, q2, q3]
  clear q0 q1 q2 q3 e0 e1 e2 e3 f0 f1 f2 f3
  constructor
  · rintro ⟨h, k⟩
    have hp : a.top ≤ b.top := by
      obtain ⟨h0, h1, h2, h3⟩ := h
      have hh := (@le_top a.top a).1 (Int.le_refl _)
      rw [le_top]
      rcases hh with hh | hh | hh | hh
      · left; omega
      · right; left; omega
      · right; right; left; omega
      · right; right; right; omega
    exact ⟨h, by omega⟩
  · rintro ⟨h, k⟩
    have hp : a.top ≤ b.top := by
      obtain ⟨h0, h1, h2, h3⟩ := h
      have hh := (@le_top a.top a).1 (Int.le_refl _)
      rw [le_top]
      rcases hh with hh | hh | hh | hh
      · left; omega
      · right; left; omega
      · right; right; left; omega
      · right; right; right; omega
    exact ⟨h, by omega⟩

end Go.Ev

/- Levels: LevelOrder, walked (written by lvp.py; own work). -/
namespace Go.Ev
open Go.Proofs Go.RowKit
set_option maxRecDepth 100000

theorem neq24 (a : Lv) : binOp Try.cfg .neq 24 (enc a) (enc a) = some (.bool false) := by rw [bin24n]; simp

theorem fmax {x y z : Lv} (hx : Vd x) (hy : Vd y) (h : mx x y = z) (S : St) : run Try.cfg 20 (.f 20) [enc x, enc y] S = some (encR (z, 0), S) := by
  rw [f20_ok 10 x y S, (maxF_eq hx hy).1, h]

theorem fleq {x y : Lv} {b : Bool} (h : leqF x y = b) (S : St) : run Try.cfg 20 (.f 28) [enc x, enc y] S = some (.bool b, S) := by
  rw [f28_ok 11 x y S, h]

theorem fsucc {x : Lv} {r : Lv × Int} (h : succF x = r) (S : St) : run Try.cfg 20 (.f 18) [enc x] S = some (encR r, S) := by
  rw [f18_ok 10 x S, h]

set_option maxHeartbeats 4000000 in
theorem law5_frame (a b c : Lv) : ∃ S', frame Try.cfg (run Try.cfg 20) 20 5 [enc a, enc b, enc c] St.empty = some (.bool true, S') := by
  refine frame_ex Try.cfg _ (fn := Try.f5) rfl rfl ?_
  refine WCall.mk _ _ (f26_ok 12 a _) ?_
  cases ha : mayF a with
  | false => refine WCall.mk _ _ (f17_ok _) ?_; exact ⟨_, rfl⟩
  | true =>
  refine WCall.mk _ _ (f26_ok 12 b _) ?_
  cases hb : mayF b with
  | false => refine WCall.mk _ _ (f17_ok _) ?_; exact ⟨_, rfl⟩
  | true =>
  refine WCall.mk _ _ (f26_ok 12 c _) ?_
  cases hc : mayF c with
  | false => refine WCall.mk _ _ (f17_ok _) ?_; exact ⟨_, rfl⟩
  | true =>
  have va := mayF_iff.1 ha
  have vb := mayF_iff.1 hb
  have vc := mayF_iff.1 hc
  have vab := (maxF_eq va vb).2
  have vbc := (maxF_eq vb vc).2
  have lz : leqF zeroLv a = true := (leqF_iff Vd_zero va).2 (le_zero va)
  have la : leqF a (mx a b) = true := (leqF_iff va vab).2 (le_mx va vb)
  have lb : leqF b (mx a b) = true := (leqF_iff vb vab).2 (by rw [mx_comm]; exact le_mx vb va)
  refine WCall.mk _ _ (fmax va vb rfl _) ?_
  refine WCall.mk _ _ (fmax vb va (mx_comm b a) _) ?_
  refine WCall.mk _ _ (fmax vb vc rfl _) ?_
  refine WCall.mk _ _ (fmax vab vc rfl _) ?_
  refine WCall.mk _ _ (fmax va vbc (mx_assoc va vb vc).symm _) ?_
  refine WCall.mk _ _ (fmax va va (mx_self va) _) ?_

  refine WCmp.no rfl ?_
  refine WCmp.no rfl ?_
  refine WCmp.no rfl ?_
  refine WCmp.no rfl ?_
  refine WCmp.no rfl ?_
  refine WCmp.no rfl ?_
  refine WOut.mk _ (neq24 _) ?_
  refine WOut.mk _ (neq24 _) ?_
  refine WOut.mk _ (neq24 _) ?_
  -- the same both ways for the greater one
  have lab : leqF a c = true → leqF (mx a b) c = leqF b c := fun h => by
    have h1 := mx_le vb vc ((leqF_iff va vc).1 h)
    rw [← leqF_iff vab vc, ← leqF_iff vb vc] at h1
    exact Bool.eq_iff_iff.2 h1
  have sab : mayF (sx a) = true → mayF (sx b) = true → leqF (sx a) (sx b) = leqF a b := fun h1 h2 => by
    have h := sx_mono va vb
    rw [← leqF_iff (mayF_iff.1 h1) (mayF_iff.1 h2), ← leqF_iff va vb] at h
    exact Bool.eq_iff_iff.2 h
  have las : mayF (sx a) = true → leqF a (sx a) = true := fun h => (leqF_iff va (mayF_iff.1 h)).2 (le_sx va).1
  have lsa : mayF (sx a) = true → leqF (sx a) a = false := fun h => by
    cases hq : leqF (sx a) a with
    | false => rfl
    | true => exact absurd ((leqF_iff (mayF_iff.1 h) va).1 hq) (le_sx va).2
  have ka : succF a = bif mayF (sx a) then (sx a, 0) else (noLv, 4) := succF_eq va
  have kb : succF b = bif mayF (sx b) then (sx b, 0) else (noLv, 4) := succF_eq vb
  cases hab : leqF a b with
  | true =>
    cases hbc : leqF b c with
    | true =>
      cases hac : leqF a c with
      | true =>
        refine WCall.mk _ _ (fleq hab _) ?_
        refine WCall.mk _ _ (fleq hbc _) ?_
        refine WCall.mk _ _ (fleq hac _) ?_
        refine WCall.mk _ _ (f32_ok 14 _) ?_
        refine WCall.mk _ _ (fleq lz _) ?_
        refine WCall.mk _ _ (fleq la _) ?_
        refine WCall.mk _ _ (fleq lb _) ?_
        refine WCall.mk _ _ (fleq hac _) ?_
        refine WCall.mk _ _ (fleq hbc _) ?_
        refine WCall.mk _ _ (fleq ((lab hac).trans hbc) _) ?_
        refine WOut.mk _ rfl ?_
        cases ma : mayF (sx a) with
        | true =>
          have ea : succF a = (sx a, 0) := by rw [ka, ma]; rfl
          refine WCall.mk _ _ (fsucc ea _) ?_
          cases mb : mayF (sx b) with
          | true =>
            have eb : succF b = (sx b, 0) := by rw [kb, mb]; rfl
            refine WCall.mk _ _ (fsucc eb _) ?_
            refine WCmp.yes rfl ?_
            refine WCall.mk _ _ (fleq (las ma) _) ?_
            refine WCall.mk _ _ (fleq (lsa ma) _) ?_
            refine WCmp.no rfl ?_
            refine WCmp.no rfl ?_
            refine WCall.mk _ _ (fleq hab _) ?_
            refine WCall.mk _ _ (fleq ((sab ma mb).trans hab) _) ?_
            refine WOut.mk _ rfl ?_
            refine WCall.mk _ _ (f17_ok _) ?_
            exact ⟨_, rfl⟩
          | false =>
            have eb : succF b = (noLv, 4) := by rw [kb, mb]; rfl
            refine WCall.mk _ _ (fsucc eb _) ?_
            refine WCmp.yes rfl ?_
            refine WCall.mk _ _ (fleq (las ma) _) ?_
            refine WCall.mk _ _ (fleq (lsa ma) _) ?_
            refine WCmp.no rfl ?_
            refine WCmp.yes rfl ?_
            refine WCall.mk _ _ (f17_ok _) ?_
            exact ⟨_, rfl⟩
        | false =>
          have ea : succF a = (noLv, 4) := by rw [ka, ma]; rfl
          refine WCall.mk _ _ (fsucc ea _) ?_
          cases mb : mayF (sx b) with
          | true =>
            have eb : succF b = (sx b, 0) := by rw [kb, mb]; rfl
            refine WCall.mk _ _ (fsucc eb _) ?_
            refine WCmp.no rfl ?_
            refine WCmp.yes rfl ?_
            refine WCall.mk _ _ (f17_ok _) ?_
            exact ⟨_, rfl⟩
          | false =>
            have eb : succF b = (noLv, 4) := by rw [kb, mb]; rfl
            refine WCall.mk _ _ (fsucc eb _) ?_
            refine WCmp.no rfl ?_
            refine WCmp.yes rfl ?_
            refine WCall.mk _ _ (f17_ok _) ?_
            exact ⟨_, rfl⟩
      | false =>
        have := (leqF_iff va vc).2 (le_trans' ((leqF_iff va vb).1 hab) ((leqF_iff vb vc).1 hbc))
        rw [hac] at this; cases this
    | false =>
      cases hac : leqF a c with
      | true =>
        refine WCall.mk _ _ (fleq hab _) ?_
        refine WCall.mk _ _ (fleq hbc _) ?_
        refine WCall.mk _ _ (f32_ok 14 _) ?_
        refine WCall.mk _ _ (fleq lz _) ?_
        refine WCall.mk _ _ (fleq la _) ?_
        refine WCall.mk _ _ (fleq lb _) ?_
        refine WCall.mk _ _ (fleq hac _) ?_
        refine WCall.mk _ _ (fleq hbc _) ?_
        refine WCall.mk _ _ (fleq ((lab hac).trans hbc) _) ?_
        refine WOut.mk _ rfl ?_
        cases ma : mayF (sx a) with
        | true =>
          have ea : succF a = (sx a, 0) := by rw [ka, ma]; rfl
          refine WCall.mk _ _ (fsucc ea _) ?_
          cases mb : mayF (sx b) with
          | true =>
            have eb : succF b = (sx b, 0) := by rw [kb, mb]; rfl
            refine WCall.mk _ _ (fsucc eb _) ?_
            refine WCmp.yes rfl ?_
            refine WCall.mk _ _ (fleq (las ma) _) ?_
            refine WCall.mk _ _ (fleq (lsa ma) _) ?_
            refine WCmp.no rfl ?_
            refine WCmp.no rfl ?_
            refine WCall.mk _ _ (fleq hab _) ?_
            refine WCall.mk _ _ (fleq ((sab ma mb).trans hab) _) ?_
            refine WOut.mk _ rfl ?_
            refine WCall.mk _ _ (f17_ok _) ?_
            exact ⟨_, rfl⟩
          | false =>
            have eb : succF b = (noLv, 4) := by rw [kb, mb]; rfl
            refine WCall.mk _ _ (fsucc eb _) ?_
            refine WCmp.yes rfl ?_
            refine WCall.mk _ _ (fleq (las ma) _) ?_
            refine WCall.mk _ _ (fleq (lsa ma) _) ?_
            refine WCmp.no rfl ?_
            refine WCmp.yes rfl ?_
            refine WCall.mk _ _ (f17_ok _) ?_
            exact ⟨_, rfl⟩
        | false =>
          have ea : succF a = (noLv, 4) := by rw [ka, ma]; rfl
          refine WCall.mk _ _ (fsucc ea _) ?_
          cases mb : mayF (sx b) with
          | true =>
            have eb : succF b = (sx b, 0) := by rw [kb, mb]; rfl
            refine WCall.mk _ _ (fsucc eb _) ?_
            refine WCmp.no rfl ?_
            refine WCmp.yes rfl ?_
            refine WCall.mk _ _ (f17_ok _) ?_
            exact ⟨_, rfl⟩
          | false =>
            have eb : succF b = (noLv, 4) := by rw [kb, mb]; rfl
            refine WCall.mk _ _ (fsucc eb _) ?_
            refine WCmp.no rfl ?_
            refine WCmp.yes rfl ?_
            refine WCall.mk _ _ (f17_ok _) ?_
            exact ⟨_, rfl⟩
      | false =>
        refine WCall.mk _ _ (fleq hab _) ?_
        refine WCall.mk _ _ (fleq hbc _) ?_
        refine WCall.mk _ _ (f32_ok 14 _) ?_
        refine WCall.mk _ _ (fleq lz _) ?_
        refine WCall.mk _ _ (fleq la _) ?_
        refine WCall.mk _ _ (fleq lb _) ?_
        refine WCall.mk _ _ (fleq hac _) ?_
        cases ma : mayF (sx a) with
        | true =>
          have ea : succF a = (sx a, 0) := by rw [ka, ma]; rfl
          refine WCall.mk _ _ (fsucc ea _) ?_
          cases mb : mayF (sx b) with
          | true =>
            have eb : succF b = (sx b, 0) := by rw [kb, mb]; rfl
            refine WCall.mk _ _ (fsucc eb _) ?_
            refine WCmp.yes rfl ?_
            refine WCall.mk _ _ (fleq (las ma) _) ?_
            refine WCall.mk _ _ (fleq (lsa ma) _) ?_
            refine WCmp.no rfl ?_
            refine WCmp.no rfl ?_
            refine WCall.mk _ _ (fleq hab _) ?_
            refine WCall.mk _ _ (fleq ((sab ma mb).trans hab) _) ?_
            refine WOut.mk _ rfl ?_
            refine WCall.mk _ _ (f17_ok _) ?_
            exact ⟨_, rfl⟩
          | false =>
            have eb : succF b = (noLv, 4) := by rw [kb, mb]; rfl
            refine WCall.mk _ _ (fsucc eb _) ?_
            refine WCmp.yes rfl ?_
            refine WCall.mk _ _ (fleq (las ma) _) ?_
            refine WCall.mk _ _ (fleq (lsa ma) _) ?_
            refine WCmp.no rfl ?_
            refine WCmp.yes rfl ?_
            refine WCall.mk _ _ (f17_ok _) ?_
            exact ⟨_, rfl⟩
        | false =>
          have ea : succF a = (noLv, 4) := by rw [ka, ma]; rfl
          refine WCall.mk _ _ (fsucc ea _) ?_
          cases mb : mayF (sx b) with
          | true =>
            have eb : succF b = (sx b, 0) := by rw [kb, mb]; rfl
            refine WCall.mk _ _ (fsucc eb _) ?_
            refine WCmp.no rfl ?_
            refine WCmp.yes rfl ?_
            refine WCall.mk _ _ (f17_ok _) ?_
            exact ⟨_, rfl⟩
          | false =>
            have eb : succF b = (noLv, 4) := by rw [kb, mb]; rfl
            refine WCall.mk _ _ (fsucc eb _) ?_
            refine WCmp.no rfl ?_
            refine WCmp.yes rfl ?_
            refine WCall.mk _ _ (f17_ok _) ?_
            exact ⟨_, rfl⟩
  | false =>
    cases hbc : leqF b c with
    | true =>
      cases hac : leqF a c with
      | true =>
        refine WCall.mk _ _ (fleq hab _) ?_
        refine WCall.mk _ _ (f32_ok 14 _) ?_
        refine WCall.mk _ _ (fleq lz _) ?_
        refine WCall.mk _ _ (fleq la _) ?_
        refine WCall.mk _ _ (fleq lb _) ?_
        refine WCall.mk _ _ (fleq hac _) ?_
        refine WCall.mk _ _ (fleq hbc _) ?_
        refine WCall.mk _ _ (fleq ((lab hac).trans hbc) _) ?_
        refine WOut.mk _ rfl ?_
        cases ma : mayF (sx a) with
        | true =>
          have ea : succF a = (sx a, 0) := by rw [ka, ma]; rfl
          refine WCall.mk _ _ (fsucc ea _) ?_
          cases mb : mayF (sx b) with
          | true =>
            have eb : succF b = (sx b, 0) := by rw [kb, mb]; rfl
            refine WCall.mk _ _ (fsucc eb _) ?_
            refine WCmp.yes rfl ?_
            refine WCall.mk _ _ (fleq (las ma) _) ?_
            refine WCall.mk _ _ (fleq (lsa ma) _) ?_
            refine WCmp.no rfl ?_
            refine WCmp.no rfl ?_
            refine WCall.mk _ _ (fleq hab _) ?_
            refine WCall.mk _ _ (fleq ((sab ma mb).trans hab) _) ?_
            refine WOut.mk _ rfl ?_
            refine WCall.mk _ _ (f17_ok _) ?_
            exact ⟨_, rfl⟩
          | false =>
            have eb : succF b = (noLv, 4) := by rw [kb, mb]; rfl
            refine WCall.mk _ _ (fsucc eb _) ?_
            refine WCmp.yes rfl ?_
            refine WCall.mk _ _ (fleq (las ma) _) ?_
            refine WCall.mk _ _ (fleq (lsa ma) _) ?_
            refine WCmp.no rfl ?_
            refine WCmp.yes rfl ?_
            refine WCall.mk _ _ (f17_ok _) ?_
            exact ⟨_, rfl⟩
        | false =>
          have ea : succF a = (noLv, 4) := by rw [ka, ma]; rfl
          refine WCall.mk _ _ (fsucc ea _) ?_
          cases mb : mayF (sx b) with
          | true =>
            have eb : succF b = (sx b, 0) := by rw [kb, mb]; rfl
            refine WCall.mk _ _ (fsucc eb _) ?_
            refine WCmp.no rfl ?_
            refine WCmp.yes rfl ?_
            refine WCall.mk _ _ (f17_ok _) ?_
            exact ⟨_, rfl⟩
          | false =>
            have eb : succF b = (noLv, 4) := by rw [kb, mb]; rfl
            refine WCall.mk _ _ (fsucc eb _) ?_
            refine WCmp.no rfl ?_
            refine WCmp.yes rfl ?_
            refine WCall.mk _ _ (f17_ok _) ?_
            exact ⟨_, rfl⟩
      | false =>
        refine WCall.mk _ _ (fleq hab _) ?_
        refine WCall.mk _ _ (f32_ok 14 _) ?_
        refine WCall.mk _ _ (fleq lz _) ?_
        refine WCall.mk _ _ (fleq la _) ?_
        refine WCall.mk _ _ (fleq lb _) ?_
        refine WCall.mk _ _ (fleq hac _) ?_
        cases ma : mayF (sx a) with
        | true =>
          have ea : succF a = (sx a, 0) := by rw [ka, ma]; rfl
          refine WCall.mk _ _ (fsucc ea _) ?_
          cases mb : mayF (sx b) with
          | true =>
            have eb : succF b = (sx b, 0) := by rw [kb, mb]; rfl
            refine WCall.mk _ _ (fsucc eb _) ?_
            refine WCmp.yes rfl ?_
            refine WCall.mk _ _ (fleq (las ma) _) ?_
            refine WCall.mk _ _ (fleq (lsa ma) _) ?_
            refine WCmp.no rfl ?_
            refine WCmp.no rfl ?_
            refine WCall.mk _ _ (fleq hab _) ?_
            refine WCall.mk _ _ (fleq ((sab ma mb).trans hab) _) ?_
            refine WOut.mk _ rfl ?_
            refine WCall.mk _ _ (f17_ok _) ?_
            exact ⟨_, rfl⟩
          | false =>
            have eb : succF b = (noLv, 4) := by rw [kb, mb]; rfl
            refine WCall.mk _ _ (fsucc eb _) ?_
            refine WCmp.yes rfl ?_
            refine WCall.mk _ _ (fleq (las ma) _) ?_
            refine WCall.mk _ _ (fleq (lsa ma) _) ?_
            refine WCmp.no rfl ?_
            refine WCmp.yes rfl ?_
            refine WCall.mk _ _ (f17_ok _) ?_
            exact ⟨_, rfl⟩
        | false =>
          have ea : succF a = (noLv, 4) := by rw [ka, ma]; rfl
          refine WCall.mk _ _ (fsucc ea _) ?_
          cases mb : mayF (sx b) with
          | true =>
            have eb : succF b = (sx b, 0) := by rw [kb, mb]; rfl
            refine WCall.mk _ _ (fsucc eb _) ?_
            refine WCmp.no rfl ?_
            refine WCmp.yes rfl ?_
            refine WCall.mk _ _ (f17_ok _) ?_
            exact ⟨_, rfl⟩
          | false =>
            have eb : succF b = (noLv, 4) := by rw [kb, mb]; rfl
            refine WCall.mk _ _ (fsucc eb _) ?_
            refine WCmp.no rfl ?_
            refine WCmp.yes rfl ?_
            refine WCall.mk _ _ (f17_ok _) ?_
            exact ⟨_, rfl⟩
    | false =>
      cases hac : leqF a c with
      | true =>
        refine WCall.mk _ _ (fleq hab _) ?_
        refine WCall.mk _ _ (f32_ok 14 _) ?_
        refine WCall.mk _ _ (fleq lz _) ?_
        refine WCall.mk _ _ (fleq la _) ?_
        refine WCall.mk _ _ (fleq lb _) ?_
        refine WCall.mk _ _ (fleq hac _) ?_
        refine WCall.mk _ _ (fleq hbc _) ?_
        refine WCall.mk _ _ (fleq ((lab hac).trans hbc) _) ?_
        refine WOut.mk _ rfl ?_
        cases ma : mayF (sx a) with
        | true =>
          have ea : succF a = (sx a, 0) := by rw [ka, ma]; rfl
          refine WCall.mk _ _ (fsucc ea _) ?_
          cases mb : mayF (sx b) with
          | true =>
            have eb : succF b = (sx b, 0) := by rw [kb, mb]; rfl
            refine WCall.mk _ _ (fsucc eb _) ?_
            refine WCmp.yes rfl ?_
            refine WCall.mk _ _ (fleq (las ma) _) ?_
            refine WCall.mk _ _ (fleq (lsa ma) _) ?_
            refine WCmp.no rfl ?_
            refine WCmp.no rfl ?_
            refine WCall.mk _ _ (fleq hab _) ?_
            refine WCall.mk _ _ (fleq ((sab ma mb).trans hab) _) ?_
            refine WOut.mk _ rfl ?_
            refine WCall.mk _ _ (f17_ok _) ?_
            exact ⟨_, rfl⟩
          | false =>
            have eb : succF b = (noLv, 4) := by rw [kb, mb]; rfl
            refine WCall.mk _ _ (fsucc eb _) ?_
            refine WCmp.yes rfl ?_
            refine WCall.mk _ _ (fleq (las ma) _) ?_
            refine WCall.mk _ _ (fleq (lsa ma) _) ?_
            refine WCmp.no rfl ?_
            refine WCmp.yes rfl ?_
            refine WCall.mk _ _ (f17_ok _) ?_
            exact ⟨_, rfl⟩
        | false =>
          have ea : succF a = (noLv, 4) := by rw [ka, ma]; rfl
          refine WCall.mk _ _ (fsucc ea _) ?_
          cases mb : mayF (sx b) with
          | true =>
            have eb : succF b = (sx b, 0) := by rw [kb, mb]; rfl
            refine WCall.mk _ _ (fsucc eb _) ?_
            refine WCmp.no rfl ?_
            refine WCmp.yes rfl ?_
            refine WCall.mk _ _ (f17_ok _) ?_
            exact ⟨_, rfl⟩
          | false =>
            have eb : succF b = (noLv, 4) := by rw [kb, mb]; rfl
            refine WCall.mk _ _ (fsucc eb _) ?_
            refine WCmp.no rfl ?_
            refine WCmp.yes rfl ?_
            refine WCall.mk _ _ (f17_ok _) ?_
            exact ⟨_, rfl⟩
      | false =>
        refine WCall.mk _ _ (fleq hab _) ?_
        refine WCall.mk _ _ (f32_ok 14 _) ?_
        refine WCall.mk _ _ (fleq lz _) ?_
        refine WCall.mk _ _ (fleq la _) ?_
        refine WCall.mk _ _ (fleq lb _) ?_
        refine WCall.mk _ _ (fleq hac _) ?_
        cases ma : mayF (sx a) with
        | true =>
          have ea : succF a = (sx a, 0) := by rw [ka, ma]; rfl
          refine WCall.mk _ _ (fsucc ea _) ?_
          cases mb : mayF (sx b) with
          | true =>
            have eb : succF b = (sx b, 0) := by rw [kb, mb]; rfl
            refine WCall.mk _ _ (fsucc eb _) ?_
            refine WCmp.yes rfl ?_
            refine WCall.mk _ _ (fleq (las ma) _) ?_
            refine WCall.mk _ _ (fleq (lsa ma) _) ?_
            refine WCmp.no rfl ?_
            refine WCmp.no rfl ?_
            refine WCall.mk _ _ (fleq hab _) ?_
            refine WCall.mk _ _ (fleq ((sab ma mb).trans hab) _) ?_
            refine WOut.mk _ rfl ?_
            refine WCall.mk _ _ (f17_ok _) ?_
            exact ⟨_, rfl⟩
          | false =>
            have eb : succF b = (noLv, 4) := by rw [kb, mb]; rfl
            refine WCall.mk _ _ (fsucc eb _) ?_
            refine WCmp.yes rfl ?_
            refine WCall.mk _ _ (fleq (las ma) _) ?_
            refine WCall.mk _ _ (fleq (lsa ma) _) ?_
            refine WCmp.no rfl ?_
            refine WCmp.yes rfl ?_
            refine WCall.mk _ _ (f17_ok _) ?_
            exact ⟨_, rfl⟩
        | false =>
          have ea : succF a = (noLv, 4) := by rw [ka, ma]; rfl
          refine WCall.mk _ _ (fsucc ea _) ?_
          cases mb : mayF (sx b) with
          | true =>
            have eb : succF b = (sx b, 0) := by rw [kb, mb]; rfl
            refine WCall.mk _ _ (fsucc eb _) ?_
            refine WCmp.no rfl ?_
            refine WCmp.yes rfl ?_
            refine WCall.mk _ _ (f17_ok _) ?_
            exact ⟨_, rfl⟩
          | false =>
            have eb : succF b = (noLv, 4) := by rw [kb, mb]; rfl
            refine WCall.mk _ _ (fsucc eb _) ?_
            refine WCmp.no rfl ?_
            refine WCmp.yes rfl ?_
            refine WCall.mk _ _ (f17_ok _) ?_
            exact ⟨_, rfl⟩

theorem law5 (us : List V) (h : Args Try.prog Try.f5.params.toList us) : ∃ n S', run Try.cfg n (.f 5) us St.empty = some (.bool true, S') := by
  rw [Try.params5] at h
  obtain ⟨a, r1, rfl, h1⟩ := arg24 h
  obtain ⟨b, r2, rfl, h2⟩ := arg24 h1
  obtain ⟨c, r3, rfl, h3⟩ := arg24 h2
  obtain rfl := arg_nil h3
  obtain ⟨S', hf⟩ := law5_frame a b c
  exact ⟨21, St.empty, run_val hf rfl rfl rfl rfl rfl⟩

end Go.Ev

namespace Go.Proofs.Ytidebmakgffjnaa
open Go.Ev Go.ChangeShapes Go.WideShapes Go.ChangeAt Go.RowKit

theorem evOwn : ownKnob Try.prog.godebug = none := by kernel_rfl
theorem evLaid : laidOutB Try.prog = true := by kernel_rfl
theorem evMaps : mapsRowed Try.prog = true := by kernel_rfl
noncomputable def evTypes : List Nat := [3, 22, 24]
theorem evPlain : allB (plainT Try.prog evTypes) evTypes = true := by kernel_rfl
theorem evRead : allB (fun t => Try.prog.readableRec t) evTypes = true := by kernel_rfl
theorem evPar {ts : List Nat} (h : allB (fun t => memN t evTypes) ts = true) : ∀ t ∈ ts, memN t evTypes = true ∧ Try.prog.readableRec t = true :=
  fun t ht => ⟨allB_mem h t ht, allB_mem evRead t (memN_iff.1 (allB_mem h t ht))⟩

set_option maxRecDepth 100000 in
theorem levelOrder_lifted (hlaw : ∀ us, Args Try.prog Try.f5.params.toList us → ∃ n S', run Go.Ev.Try.cfg n (.f 5) us St.empty = some (.bool true, S')) (os : Os) (started : os.Started) (H : Type) (enc : TypeId × Value → H) :
    ReturnsInHanded {} Try.checked os 5 .any (Rows.levelOrderSpec.pre6 enc Try.prog Try.f5 Rows.levelOrderRow.domain false) (Rows.levelOrderSpec.post enc Try.prog Try.f5 false true false false) := by
  refine returnsInHanded_of_change (C := Try.checked) evOwn started (by kernel_rfl) Try.func5
    (ChangeSpec.witness6 (enc := enc) (C := Try.checked) false ⟨#[], #[.agg #[.int .i64 0, .int .i64 0, .int .i64 0, .int .i64 0, .int .i64 0], .agg #[.int .i64 0, .int .i64 0, .int .i64 0, .int .i64 0, .int .i64 0], .agg #[.int .i64 0, .int .i64 0, .int .i64 0, .int .i64 0, .int .i64 0]], []⟩ 8 (by kernel_rfl) (by kernel_rfl) (by kernel_rfl) (by kernel_rfl)) ?_
  intro W base args ds gs before hval hW _ _
  exact law_contract (C := Go.Ev.Try.cfg) (P := Try.prog) (s := Rows.levelOrderSpec) Go.Ev.Try.runOk evLaid evMaps evPlain (evPar (by kernel_rfl)) (by kernel_rfl) rfl (tb := 4) (by kernel_rfl) Try.underlying4
    (fun _ ds hd => by
      match ds, (show ds.length = 3 from hd) with
      | [d1, d2, d3], _ => rfl) hval hW hlaw

theorem levelOrder_of (hlaw : ∀ us, Args Try.prog Try.f5.params.toList us → ∃ n S', run Go.Ev.Try.cfg n (.f 5) us St.empty = some (.bool true, S')) : Rows.LevelOrderSaid :=
  OpenClaim.holds_of_wide 5 Try.f5 rfl rfl rfl rfl rfl rfl rfl ⟨rfl, rfl, rfl, rfl, rfl⟩ rfl rfl rfl rfl rfl (by kernel_rfl) Try.func5 (by kernel_rfl)
    (of_decide_eq_true (by kernel_rfl)) (by unfold Func.isWrapper; first | (rw [if_pos (by decide +kernel)]; kernel_rfl) | (rw [if_neg (by decide +kernel)]; exact ⟨rfl, rfl⟩))
    (fun os started H enc _ => levelOrder_lifted hlaw os started H enc)

end Go.Proofs.Ytidebmakgffjnaa

namespace Go.Proofs.Ytidebmakgffjnaa

/-- LevelOrder. -/
theorem levelOrder_holds : Rows.LevelOrderSaid := levelOrder_of (fun us h => Go.Ev.law5 us h)

end Go.Proofs.Ytidebmakgffjnaa
