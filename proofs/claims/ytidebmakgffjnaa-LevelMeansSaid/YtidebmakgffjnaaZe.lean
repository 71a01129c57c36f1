/- The statement LevelMeans is proved: the law returns true at every input, and its arguments read behind the call as before. No condition (own work). -/
import Derived.Test.YtidebmakgffjnaaXl
import Derived.Test.YtidebmakgffjnaaRows
import Derived.WalkKit
import Derived.JoinedCond
/- Levels: LevelOrder (own work). -/
namespace Go.Ev
open Go.Proofs Go.RowKit
set_option maxRecDepth 100000

/-! ### In plain numbers -/

theorem mx_comm (a b : Lv) : mx a b = mx b a := by
  unfold mx
  rw [Int.max_comm a.c, Int.max_comm a.p0, Int.max_comm a.p1, Int.max_comm a.p2, Int.max_comm a.p3]

theorem mx_self {a : Lv} (ha : Vd a) : mx a a = a := by
  obtain ⟨a1, a2, a3, a4, a5, a6, a7⟩ := ha
  refine Lv.ext' ?_ ?_ ?_ ?_ ?_ <;> unfold mx <;> simp only []
  · split <;> omega
  all_goals omega

/-- The greatest of a level's numbers of parameters. -/
def Lv.top (l : Lv) : Int := max (max (max l.p0 l.p1) l.p2) l.p3

theorem le_max_iff' (x y z : Int) : x ≤ max y z ↔ x ≤ y ∨ x ≤ z := by omega

theorem le_top {x : Int} {l : Lv} : x ≤ l.top ↔ x ≤ l.p0 ∨ x ≤ l.p1 ∨ x ≤ l.p2 ∨ x ≤ l.p3 := by
  unfold Lv.top
  simp only [le_max_iff', or_assoc]

theorem top_lt {x : Int} {l : Lv} : l.top < x ↔ l.p0 < x ∧ l.p1 < x ∧ l.p2 < x ∧ l.p3 < x := by
  have := @le_top x l
  omega

theorem mx_c (a b : Lv) : (mx a b).c = if max a.c b.c ≤ max a.top b.top then 0 else max a.c b.c := by
  have e : (max a.c b.c ≤ max a.p0 b.p0 ∨ max a.c b.c ≤ max a.p1 b.p1 ∨ max a.c b.c ≤ max a.p2 b.p2 ∨ max a.c b.c ≤ max a.p3 b.p3) ↔ max a.c b.c ≤ max a.top b.top := by
    generalize max a.c b.c = x
    simp only [le_max_iff', le_top, or_assoc, or_left_comm]
  show (if max a.c b.c ≤ max a.p0 b.p0 ∨ max a.c b.c ≤ max a.p1 b.p1 ∨ max a.c b.c ≤ max a.p2 b.p2 ∨ max a.c b.c ≤ max a.p3 b.p3 then 0 else max a.c b.c) = _
  simp only [e]

theorem mx_top (a b : Lv) : (mx a b).top = max a.top b.top := by
  have h : ∀ x, x ≤ (mx a b).top ↔ x ≤ max a.top b.top := fun x => by
    rw [le_top]
    show (x ≤ max a.p0 b.p0 ∨ x ≤ max a.p1 b.p1 ∨ x ≤ max a.p2 b.p2 ∨ x ≤ max a.p3 b.p3) ↔ _
    simp only [le_max_iff', le_top, or_assoc, or_left_comm]
  have h1 := (h (mx a b).top).1 (Int.le_refl _)
  have h2 := (h (max a.top b.top)).2 (Int.le_refl _)
  omega

theorem mx_assoc {a b c : Lv} (ha : Vd a) (hb : Vd b) (hc : Vd c) : mx (mx a b) c = mx a (mx b c) := by
  refine Lv.ext' ?_ ?_ ?_ ?_ ?_
  · rw [mx_c, mx_c, mx_c, mx_c, mx_top, mx_top]
    have h1 := ha.1
    have h2 := hb.1
    have h3 := hc.1
    generalize a.top = x
    generalize b.top = y
    generalize c.top = z
    split <;> split <;> split <;> split <;> first | rfl | omega
  all_goals (show max (max _ _) _ = max _ (max _ _); omega)

theorem le_trans' {a b c : Lv} (h : Le a b) (k : Le b c) : Le a c := by
  obtain ⟨h0, h1, h2, h3, h4⟩ := h
  obtain ⟨k0, k1, k2, k3, k4⟩ := k
  exact ⟨by omega, by omega, by omega, by omega, by omega⟩

theorem Vd_zero : Vd zeroLv := by unfold Vd; simp

theorem le_zero {a : Lv} (ha : Vd a) : Le zeroLv a := by
  obtain ⟨a1, a2, a3, a4, a5, a6, a7⟩ := ha
  exact ⟨a3.1, a4.1, a5.1, a6.1, .inl a1⟩

theorem le_mx {a b : Lv} (ha : Vd a) (hb : Vd b) : Le a (mx a b) := by
  obtain ⟨a1, a2, a3, a4, a5, a6, a7⟩ := ha
  obtain ⟨b1, b2, b3, b4, b5, b6, b7⟩ := hb
  unfold Le mx
  simp only
  refine ⟨by omega, by omega, by omega, by omega, ?_⟩
  split <;> omega

theorem mx_le {a b c : Lv} (hb : Vd b) (hc : Vd c) (h : Le a c) : Le (mx a b) c ↔ Le b c := by
  obtain ⟨b1, b2, b3, b4, b5, b6, b7⟩ := hb
  obtain ⟨c1, c2, c3, c4, c5, c6, c7⟩ := hc
  obtain ⟨h0, h1, h2, h3, h4⟩ := h
  unfold Le mx
  simp only
  constructor
  · rintro ⟨k0, k1, k2, k3, k4⟩
    refine ⟨by omega, by omega, by omega, by omega, ?_⟩
    split at k4 <;> omega
  · rintro ⟨k0, k1, k2, k3, k4⟩
    refine ⟨by omega, by omega, by omega, by omega, ?_⟩
    split <;> omega

/-- One more. -/
noncomputable def sx (l : Lv) : Lv := formF (pl l 1)

theorem succF_eq {l : Lv} (hl : Vd l) : succF l = bif mayF (sx l) then (sx l, 0) else (noLv, 4) := by
  unfold succF toldF sx
  rw [mayF_iff.2 hl, plusF_eq hl (by omega) (by unfold TOP; omega)]
  rfl

theorem sx_p {l : Lv} (hl : Vd l) : ((sx l).p0 = l.p0 + 1 ∧ 0 ≤ l.p0 ∨ (sx l).p0 = -1 ∧ l.p0 = -1) ∧ ((sx l).p1 = l.p1 + 1 ∧ 0 ≤ l.p1 ∨ (sx l).p1 = -1 ∧ l.p1 = -1) ∧
    ((sx l).p2 = l.p2 + 1 ∧ 0 ≤ l.p2 ∨ (sx l).p2 = -1 ∧ l.p2 = -1) ∧ ((sx l).p3 = l.p3 + 1 ∧ 0 ≤ l.p3 ∨ (sx l).p3 = -1 ∧ l.p3 = -1) := by
  obtain ⟨a1, a2, a3, a4, a5, a6, a7⟩ := hl
  unfold sx
  rw [formF_eq]
  unfold pl
  simp only
  refine ⟨?_, ?_, ?_, ?_⟩ <;> split <;> omega

theorem sx_c {l : Lv} (hl : Vd l) : (sx l).c = if l.c + 1 ≤ (sx l).p0 ∨ l.c + 1 ≤ (sx l).p1 ∨ l.c + 1 ≤ (sx l).p2 ∨ l.c + 1 ≤ (sx l).p3 then 0 else l.c + 1 := by
  have h := form_c (l := pl l 1) (by show 0 ≤ l.c + 1; have := hl.1; omega)
  have e0 : (sx l).p0 = (pl l 1).p0 := by unfold sx; rw [formF_eq]
  have e1 : (sx l).p1 = (pl l 1).p1 := by unfold sx; rw [formF_eq]
  have e2 : (sx l).p2 = (pl l 1).p2 := by unfold sx; rw [formF_eq]
  have e3 : (sx l).p3 = (pl l 1).p3 := by unfold sx; rw [formF_eq]
  rw [e0, e1, e2, e3]
  exact h

theorem sx_top {l : Lv} (hl : Vd l) : (sx l).top = l.top + 1 ∧ 0 ≤ l.top ∨ (sx l).top = -1 ∧ l.top = -1 := by
  obtain ⟨e0, e1, e2, e3⟩ := sx_p hl
  have h : ∀ x, 1 ≤ x → (x ≤ (sx l).top ↔ x - 1 ≤ l.top) := fun x hx => by rw [le_top, le_top]; omega
  have h0 : -1 ≤ l.top := by rw [le_top]; obtain ⟨_, _, a3, _⟩ := hl; exact .inl a3.1
  have h0' : -1 ≤ (sx l).top := by rw [le_top]; left; omega
  by_cases hq : 0 ≤ l.top
  · left
    have h1 := (h (l.top + 1) (by omega)).2 (by omega)
    have h2 := (h (sx l).top (by omega)).1 (by omega)
    exact ⟨by omega, hq⟩
  · right
    refine ⟨?_, by omega⟩
    by_cases h3 : 1 ≤ (sx l).top
    · have := (h (sx l).top h3).1 (by omega); omega
    · have h4 : ¬ 0 ≤ (sx l).top := by
        rw [le_top]
        have : ¬ 0 ≤ l.top := hq
        rw [le_top] at this
        omega
      omega

theorem Vd_top {l : Lv} (hl : Vd l) : -1 ≤ l.top ∧ (l.c = 0 ∨ l.top < l.c) ∧ 0 ≤ l.c := by
  obtain ⟨a1, a2, a3, a4, a5, a6, a7⟩ := hl
  refine ⟨by rw [le_top]; exact .inl a3.1, ?_, a1⟩
  rw [top_lt]; exact a7

theorem sx_cases {a : Lv} (ha : Vd a) : ((sx a).c = a.c + 1 ∧ (a.c = 0 → a.top < 0)) ∨ ((sx a).c = 0 ∧ a.c = 0 ∧ 0 ≤ a.top) := by
  have hc := sx_c ha
  have ht := sx_top ha
  obtain ⟨v1, v2, v3⟩ := Vd_top ha
  simp only [← le_top] at hc
  split at hc
  · right; omega
  · left; omega

theorem Le_iff {a b : Lv} : Le a b ↔ (a.p0 ≤ b.p0 ∧ a.p1 ≤ b.p1 ∧ a.p2 ≤ b.p2 ∧ a.p3 ≤ b.p3) ∧ (a.c ≤ b.c ∨ a.c ≤ b.top) := by
  unfold Le
  rw [le_top]
  simp only [and_assoc]

theorem le_sx {a : Lv} (ha : Vd a) : Le a (sx a) ∧ ¬ Le (sx a) a := by
  have hc := sx_cases ha
  have ht := sx_top ha
  obtain ⟨e0, e1, e2, e3⟩ := sx_p ha
  obtain ⟨v1, v2, v3⟩ := Vd_top ha
  rw [Le_iff, Le_iff]
  constructor
  · exact ⟨⟨by omega, by omega, by omega, by omega⟩, by omega⟩
  · rintro ⟨⟨k0, k1, k2, k3⟩, k4⟩
    have : ¬ 0 ≤ a.top := by
      rw [le_top]
      rintro (h | h | h | h) <;> omega
    omega

theorem sx_mono {a b : Lv} (ha : Vd a) (hb : Vd b) : Le (sx a) (sx b) ↔ Le a b := by
  have hc := sx_cases ha
  have kc := sx_cases hb
  have ht := sx_top ha
  have kt := sx_top hb
  obtain ⟨e0, e1, e2, e3⟩ := sx_p ha
  obtain ⟨f0, f1, f2, f3⟩ := sx_p hb
  obtain ⟨v1, v2, v3⟩ := Vd_top ha
  obtain ⟨w1, w2, w3⟩ := Vd_top hb
  have q0 : (sx a).p0 ≤ (sx b).p0 ↔ a.p0 ≤ b.p0 := by omega
  have q1 : (sx a).p1 ≤ (sx b).p1 ↔ a.p1 ≤ b.p1 := by omega
  have q2 : (sx a).p2 ≤ (sx b).p2 ↔ a.p2 ≤ b.p2 := by omega
  have q3 : (sx a).p3 ≤ (sx b).p3 ↔ a.p3 ≤ b.p3 := by omega
  rw [Le_iff, Le_iff, q0, q1, q2, q3]
  clear q0 q1 q2 q3 e0 e1 e2 e3 f0 f1 f2 f3
  constructor
  · rintro ⟨h, k⟩
    have hp : a.top ≤ b.top := by
      obtain ⟨h0, h1, h2, h3⟩ := h
      have hh := (@le_top a.top a).1 (Int.le_refl _)
      rw [le_top]
      rcases hh with hh | hh | hh | hh
      · left; omega
      · right; left; omega
      · right; right; left; omega
      · right; right; right; omega
    exact ⟨h, by omega⟩
  · rintro ⟨h, k⟩
    have hp : a.top ≤ b.top := by
      obtain ⟨h0, h1, h2, h3⟩ := h
      have hh := (@le_top a.top a).1 (Int.le_refl _)
      rw [le_top]
      rcases hh with hh | hh | hh | hh
      · left; omega
      · right; left; omega
      · right; right; left; omega
      · right; right; right; omega
    exact ⟨h, by omega⟩

end Go.Ev

/- Levels: what a level means at numbers (own work). -/
namespace Go.Ev
open Go.Proofs Go.RowKit

/-- Numbers of a level from 0 on, and -1 where there is no parameter; not too great. -/
def Wk (l : Lv) : Prop := (0 ≤ l.c ∧ l.c ≤ 8796093022208) ∧ (-1 ≤ l.p0 ∧ l.p0 ≤ 8796093022208) ∧ (-1 ≤ l.p1 ∧ l.p1 ≤ 8796093022208) ∧ (-1 ≤ l.p2 ∧ l.p2 ≤ 8796093022208) ∧ (-1 ≤ l.p3 ∧ l.p3 ≤ 8796093022208)

theorem Vd.wk {l : Lv} (h : Vd l) : Wk l := by
  obtain ⟨a1, a2, a3, a4, a5, a6, a7⟩ := h
  unfold TOP at *
  exact ⟨⟨a1, by omega⟩, ⟨a3.1, by omega⟩, ⟨a4.1, by omega⟩, ⟨a5.1, by omega⟩, ⟨a6.1, by omega⟩⟩

/-- Numbers from 0 on. -/
def Ge0 (v : P4) : Prop := 0 ≤ v.p0 ∧ 0 ≤ v.p1 ∧ 0 ≤ v.p2 ∧ 0 ≤ v.p3

def tm (p v : Int) : Int := if p < 0 then 0 else v + p

theorem tm_neg {p v : Int} (h : p < 0) : tm p v = 0 := if_pos h
theorem tm_pos {p v : Int} (h : 0 ≤ p) : tm p v = v + p := if_neg (by omega)

/-- What a level is at numbers. -/
def ev (l : Lv) (v : P4) : Int := max (max (max (max l.c (tm l.p0 v.p0)) (tm l.p1 v.p1)) (tm l.p2 v.p2)) (tm l.p3 v.p3)

theorem max_le_iff' (x y z : Int) : max y z ≤ x ↔ y ≤ x ∧ z ≤ x := by omega

theorem ev_le {l : Lv} {v : P4} {x : Int} : ev l v ≤ x ↔ l.c ≤ x ∧ tm l.p0 v.p0 ≤ x ∧ tm l.p1 v.p1 ≤ x ∧ tm l.p2 v.p2 ≤ x ∧ tm l.p3 v.p3 ≤ x := by
  unfold ev
  simp only [max_le_iff', and_assoc]

theorem le_ev {l : Lv} {v : P4} {x : Int} : x ≤ ev l v ↔ x ≤ l.c ∨ x ≤ tm l.p0 v.p0 ∨ x ≤ tm l.p1 v.p1 ∨ x ≤ tm l.p2 v.p2 ∨ x ≤ tm l.p3 v.p3 := by
  unfold ev
  simp only [le_max_iff', or_assoc]

theorem eq_of_le {a b : Int} (h : ∀ x, a ≤ x ↔ b ≤ x) : a = b := Int.le_antisymm ((h b).2 (Int.le_refl b)) ((h a).1 (Int.le_refl a))

theorem ev_ge {l : Lv} {v : P4} (hl : Wk l) : 0 ≤ ev l v := le_ev.2 (.inl hl.1.1)

/-! ### The one form -/

/-- In the one form. -/
def Nf (l : Lv) : Prop := l.c = 0 ∨ (l.p0 < l.c ∧ l.p1 < l.c ∧ l.p2 < l.c ∧ l.p3 < l.c)

theorem form_nf {l : Lv} (hl : Wk l) : Nf (formF l) ∧ Wk (formF l) := by
  have hc := form_c hl.1.1
  have e0 : (formF l).p0 = l.p0 := by rw [formF_eq]
  have e1 : (formF l).p1 = l.p1 := by rw [formF_eq]
  have e2 : (formF l).p2 = l.p2 := by rw [formF_eq]
  have e3 : (formF l).p3 = l.p3 := by rw [formF_eq]
  obtain ⟨w0, w1, w2, w3, w4⟩ := hl
  unfold Nf Wk
  rw [e0, e1, e2, e3, hc]
  split
  · exact ⟨.inl rfl, ⟨by omega, by omega⟩, w1, w2, w3, w4⟩
  · exact ⟨.inr ⟨by omega, by omega, by omega, by omega⟩, w0, w1, w2, w3, w4⟩

theorem ev_form {l : Lv} (hl : Wk l) {v : P4} (hv : Ge0 v) : ev (formF l) v = ev l v := by
  have hc := form_c hl.1.1
  have e0 : (formF l).p0 = l.p0 := by rw [formF_eq]
  have e1 : (formF l).p1 = l.p1 := by rw [formF_eq]
  have e2 : (formF l).p2 = l.p2 := by rw [formF_eq]
  have e3 : (formF l).p3 = l.p3 := by rw [formF_eq]
  refine eq_of_le fun x => ?_
  rw [ev_le, ev_le, e0, e1, e2, e3, hc]
  obtain ⟨⟨w0, _⟩, _⟩ := hl
  obtain ⟨v0, v1, v2, v3⟩ := hv
  split
  · rename_i h
    constructor
    · rintro ⟨h1, h2, h3, h4, h5⟩
      refine ⟨?_, h2, h3, h4, h5⟩
      rcases h with h | h | h | h
      · rw [tm_pos (by omega)] at h2; omega
      · rw [tm_pos (by omega)] at h3; omega
      · rw [tm_pos (by omega)] at h4; omega
      · rw [tm_pos (by omega)] at h5; omega
    · rintro ⟨h1, h2, h3, h4, h5⟩
      exact ⟨by omega, h2, h3, h4, h5⟩
  · exact Iff.rfl

@[reducible] def FAR' : Int := 17592186044416

/-- All 0, but one great number. -/
def at0 : P4 := ⟨FAR', 0, 0, 0⟩
def at1 : P4 := ⟨0, FAR', 0, 0⟩
def at2 : P4 := ⟨0, 0, FAR', 0⟩
def at3 : P4 := ⟨0, 0, 0, FAR'⟩
def atz : P4 := ⟨0, 0, 0, 0⟩

theorem tm_le {p v x : Int} (hx : 0 ≤ x) : tm p v ≤ x ↔ (0 ≤ p → v + p ≤ x) := by
  unfold tm; split <;> omega

theorem far_iff {l : Lv} (hl : Wk l) : (∀ p : Int, 0 ≤ p → (ev l at0 ≤ FAR' + p ↔ l.p0 ≤ p)) ∧ (∀ p : Int, 0 ≤ p → (ev l at1 ≤ FAR' + p ↔ l.p1 ≤ p)) ∧ (∀ p : Int, 0 ≤ p → (ev l at2 ≤ FAR' + p ↔ l.p2 ≤ p)) ∧
    (∀ p : Int, 0 ≤ p → (ev l at3 ≤ FAR' + p ↔ l.p3 ≤ p)) := by
  obtain ⟨w0, w1, w2, w3, w4⟩ := hl
  unfold FAR'
  refine ⟨fun p hp => ?_, fun p hp => ?_, fun p hp => ?_, fun p hp => ?_⟩ <;>
  (rw [ev_le, tm_le (by omega), tm_le (by omega), tm_le (by omega), tm_le (by omega)]; (first | unfold at0 | unfold at1 | unfold at2 | unfold at3); unfold FAR'; simp only; omega)

theorem neg_iff {l : Lv} (hl : Wk l) : (ev l at0 < FAR' ↔ l.p0 < 0) ∧ (ev l at1 < FAR' ↔ l.p1 < 0) ∧ (ev l at2 < FAR' ↔ l.p2 < 0) ∧ (ev l at3 < FAR' ↔ l.p3 < 0) := by
  obtain ⟨w0, w1, w2, w3, w4⟩ := hl
  have h : ∀ x : Int, x < FAR' ↔ x ≤ FAR' - 1 := fun x => by omega
  unfold FAR' at *
  refine ⟨?_, ?_, ?_, ?_⟩ <;>
  (rw [h, ev_le, tm_le (by omega), tm_le (by omega), tm_le (by omega), tm_le (by omega)]; (first | unfold at0 | unfold at1 | unfold at2 | unfold at3); unfold FAR'; simp only; omega)

theorem far_eq {p q e : Int} (hp : -1 ≤ p) (hq : -1 ≤ q) (h1 : ∀ r : Int, 0 ≤ r → (e ≤ FAR' + r ↔ p ≤ r)) (h2 : ∀ r : Int, 0 ≤ r → (e ≤ FAR' + r ↔ q ≤ r)) (h3 : e < FAR' ↔ p < 0) (h4 : e < FAR' ↔ q < 0) : p = q := by
  by_cases h : p < 0
  · have := h4.1 (h3.2 h); omega
  · have hq0 : 0 ≤ q := by
      by_cases hh : q < 0
      · exact absurd (h3.1 (h4.2 hh)) h
      · omega
    have a := (h2 p (by omega)).1 ((h1 p (by omega)).2 (Int.le_refl p))
    have b := (h1 q hq0).1 ((h2 q hq0).2 (Int.le_refl q))
    omega

/-- Levels in the one form that are the same at all numbers are the same. -/
theorem ev_ext {a b : Lv} (ha : Wk a) (hb : Wk b) (na : Nf a) (nb : Nf b) (h : ∀ v, Ge0 v → ev a v = ev b v) : a = b := by
  have g0 : Ge0 at0 := by unfold Ge0 at0 FAR'; simp
  have g1 : Ge0 at1 := by unfold Ge0 at1 FAR'; simp
  have g2 : Ge0 at2 := by unfold Ge0 at2 FAR'; simp
  have g3 : Ge0 at3 := by unfold Ge0 at3 FAR'; simp
  have gz : Ge0 atz := by unfold Ge0 atz; simp
  obtain ⟨fa0, fa1, fa2, fa3⟩ := far_iff ha
  obtain ⟨fb0, fb1, fb2, fb3⟩ := far_iff hb
  obtain ⟨ga0, ga1, ga2, ga3⟩ := neg_iff ha
  obtain ⟨gb0, gb1, gb2, gb3⟩ := neg_iff hb
  rw [← h _ g0] at fb0 gb0
  rw [← h _ g1] at fb1 gb1
  rw [← h _ g2] at fb2 gb2
  rw [← h _ g3] at fb3 gb3
  have e0 := far_eq ha.2.1.1 hb.2.1.1 fa0 fb0 ga0 gb0
  have e1 := far_eq ha.2.2.1.1 hb.2.2.1.1 fa1 fb1 ga1 gb1
  have e2 := far_eq ha.2.2.2.1.1 hb.2.2.2.1.1 fa2 fb2 ga2 gb2
  have e3 := far_eq ha.2.2.2.2.1 hb.2.2.2.2.1 fa3 fb3 ga3 gb3
  refine Lv.ext' ?_ e0 e1 e2 e3
  have hz := h _ gz
  have key : ∀ x y : Lv, Wk x → Nf x → Wk y → x.p0 = y.p0 → x.p1 = y.p1 → x.p2 = y.p2 → x.p3 = y.p3 → ev x atz = ev y atz → x.c ≤ y.c := by
    intro x y wx nx wy e0 e1 e2 e3 hz
    have h1 : x.c ≤ ev y atz := by rw [← hz]; exact le_ev.2 (.inl (Int.le_refl _))
    rw [le_ev] at h1
    obtain ⟨⟨x0, _⟩, _⟩ := wx
    obtain ⟨⟨y0, _⟩, _⟩ := wy
    rcases nx with nx | ⟨n0, n1, n2, n3⟩
    · omega
    · have t : ∀ p : Int, p < x.c → x.c ≤ tm p 0 → x.c ≤ y.c := fun p hp ht => by unfold tm at ht; split at ht <;> omega
      rcases h1 with h1 | h1 | h1 | h1 | h1
      · exact h1
      · exact t y.p0 (by omega) h1
      · exact t y.p1 (by omega) h1
      · exact t y.p2 (by omega) h1
      · exact t y.p3 (by omega) h1
  exact Int.le_antisymm (key a b ha na hb e0 e1 e2 e3 hz) (key b a hb nb ha e0.symm e1.symm e2.symm e3.symm hz.symm)

end Go.Ev

/- Levels: what the functions of the package mean at numbers (own work). -/
namespace Go.Ev
open Go.Proofs Go.RowKit

theorem tm_max {p q v : Int} (hp : -1 ≤ p) (hq : -1 ≤ q) (hv : 0 ≤ v) : tm (max p q) v = max (tm p v) (tm q v) := by
  unfold tm
  split <;> split <;> split <;> omega

theorem joinW_eq {a b : Lv} (ha : Wk a) (hb : Wk b) : joinF a b = { c := max a.c b.c, p0 := max a.p0 b.p0, p1 := max a.p1 b.p1, p2 := max a.p2 b.p2, p3 := max a.p3 b.p3 } := by
  obtain ⟨a1, a2, a3, a4, a5⟩ := ha
  obtain ⟨b1, b2, b3, b4, b5⟩ := hb
  have e : joinF a b = { c := maxI a.c b.c, p0 := if b.p0 < 0 then a.p0 else maxI a.p0 b.p0, p1 := if b.p1 < 0 then a.p1 else maxI a.p1 b.p1, p2 := if b.p2 < 0 then a.p2 else maxI a.p2 b.p2, p3 := if b.p3 < 0 then a.p3 else maxI a.p3 b.p3 } := by
    unfold joinF foldP foldP foldP foldP foldP
    simp only [iLt_eq, cond_ite, decide_eq_true_eq]
    split <;> split <;> split <;> split <;> rfl
  rw [e]
  unfold maxI
  refine Lv.ext' ?_ ?_ ?_ ?_ ?_ <;> simp only [] <;> (repeat' split) <;> omega

theorem joinW {a b : Lv} (ha : Wk a) (hb : Wk b) : Wk (joinF a b) ∧ ∀ v, Ge0 v → ev (joinF a b) v = max (ev a v) (ev b v) := by
  rw [joinW_eq ha hb]
  obtain ⟨a1, a2, a3, a4, a5⟩ := ha
  obtain ⟨b1, b2, b3, b4, b5⟩ := hb
  constructor
  · exact ⟨⟨by simp only; omega, by simp only; omega⟩, ⟨by simp only; omega, by simp only; omega⟩, ⟨by simp only; omega, by simp only; omega⟩, ⟨by simp only; omega, by simp only; omega⟩, ⟨by simp only; omega, by simp only; omega⟩⟩
  · intro v hv
    obtain ⟨v0, v1, v2, v3⟩ := hv
    refine eq_of_le fun x => ?_
    rw [ev_le, max_le_iff' x (ev a v), ev_le, ev_le]
    simp only
    rw [tm_max a2.1 b2.1 v0, tm_max a3.1 b3.1 v1, tm_max a4.1 b4.1 v2, tm_max a5.1 b5.1 v3]
    simp only [max_le_iff']
    constructor
    · rintro ⟨⟨h1, h2⟩, ⟨h3, h4⟩, ⟨h5, h6⟩, ⟨h7, h8⟩, h9, h10⟩
      exact ⟨⟨h1, h3, h5, h7, h9⟩, h2, h4, h6, h8, h10⟩
    · rintro ⟨⟨h1, h3, h5, h7, h9⟩, h2, h4, h6, h8, h10⟩
      exact ⟨⟨h1, h2⟩, ⟨h3, h4⟩, ⟨h5, h6⟩, ⟨h7, h8⟩, h9, h10⟩

theorem tm_add {p v x n : Int} (hn : 0 ≤ n) (hx : 0 ≤ x - n) : tm (if p < 0 then p else p + n) v ≤ x ↔ tm p v ≤ x - n := by
  unfold tm
  repeat' split
  all_goals omega

theorem plW {l : Lv} (hl : Vd l) {n : Int} (h0 : 0 ≤ n) (hn : n ≤ TOP) : Wk (pl l n) ∧ ∀ v, ev (pl l n) v = ev l v + n := by
  obtain ⟨a1, a2, a3, a4, a5, a6, a7⟩ := hl
  unfold TOP at *
  constructor
  · unfold Wk pl
    simp only
    refine ⟨⟨by omega, by omega⟩, ⟨?_, ?_⟩, ⟨?_, ?_⟩, ⟨?_, ?_⟩, ⟨?_, ?_⟩⟩ <;> split <;> omega
  · intro v
    refine eq_of_le fun x => ?_
    rw [show ev l v + n ≤ x ↔ ev l v ≤ x - n by omega, ev_le, ev_le]
    unfold pl
    simp only
    constructor
    · rintro ⟨h1, h2, h3, h4, h5⟩
      have hx : 0 ≤ x - n := by omega
      rw [tm_add h0 hx] at h2 h3 h4 h5
      exact ⟨by omega, h2, h3, h4, h5⟩
    · rintro ⟨h1, h2, h3, h4, h5⟩
      have hx : 0 ≤ x - n := by omega
      rw [tm_add h0 hx, tm_add h0 hx, tm_add h0 hx, tm_add h0 hx]
      exact ⟨by omega, h2, h3, h4, h5⟩

theorem formj {a b : Lv} (ha : Vd a) (hb : Vd b) : formF (joinF a b) = mx a b := by
  rw [joinF_eq ha hb]
  refine Lv.ext' ?_ ?_ ?_ ?_ ?_
  · rw [form_c (by show 0 ≤ max a.c b.c; have := ha.1; omega)]; rfl
  all_goals (rw [formF_eq]; rfl)

theorem ev_mx {a b : Lv} (ha : Vd a) (hb : Vd b) {v : P4} (hv : Ge0 v) : ev (mx a b) v = max (ev a v) (ev b v) := by
  rw [← formj ha hb, ev_form (joinW ha.wk hb.wk).1 hv, (joinW ha.wk hb.wk).2 v hv]

theorem Vd.nf {l : Lv} (h : Vd l) : Nf l := h.2.2.2.2.2.2

theorem ev_sx {l : Lv} (hl : Vd l) {v : P4} (hv : Ge0 v) : ev (sx l) v = ev l v + 1 := by
  have h := plW hl (n := 1) (by omega) (by unfold TOP; omega)
  unfold sx
  rw [ev_form h.1 hv, h.2 v]

/-! ### Inst -/

/-- The numbers that four levels are. -/
def evs (b0 b1 b2 b3 : Lv) (v : P4) : P4 := ⟨ev b0 v, ev b1 v, ev b2 v, ev b3 v⟩

theorem evs_ge {b0 b1 b2 b3 : Lv} (h0 : Wk b0) (h1 : Wk b1) (h2 : Wk b2) (h3 : Wk b3) (v : P4) : Ge0 (evs b0 b1 b2 b3 v) := ⟨ev_ge h0, ev_ge h1, ev_ge h2, ev_ge h3⟩

theorem fold_one {bys : List Lv} {i p : Int} {ps : List Int} {out b : Lv} (hb : bys[i.toNat]? = some b) (ho : Wk out) (vb : Vd b) (hp : p ≤ TOP) :
    ∃ out', foldE (instStep bys) (p :: ps) i out = foldE (instStep bys) ps (i + 1) out' ∧ Wk out' ∧ ∀ v, Ge0 v → ev out' v = max (ev out v) (tm p (ev b v)) := by
  rw [foldE_cons]
  cases hq : iLt p 0 with
  | true =>
    rw [iLt_iff] at hq
    refine ⟨out, rfl, ho, fun v hv => ?_⟩
    rw [tm_neg hq]
    have := ev_ge (v := v) ho
    omega
  | false =>
    rw [iLt_not] at hq
    have e : instStep bys i p out = some (joinF out (pl b p)) := by
      unfold instStep
      rw [hb]
      show some (joinF out (plusF b p)) = _
      rw [plusF_eq vb hq hp]
    rw [e]
    have h := plW vb hq hp
    refine ⟨_, rfl, (joinW ho h.1).1, fun v hv => ?_⟩
    rw [(joinW ho h.1).2 v hv, h.2 v, tm_pos hq]

theorem inst_spec {l b0 b1 b2 b3 : Lv} (hl : Vd l) (h0 : Vd b0) (h1 : Vd b1) (h2 : Vd b2) (h3 : Vd b3) :
    ∃ f, Wk f ∧ Nf f ∧ (∀ v, Ge0 v → ev f v = ev l (evs b0 b1 b2 b3 v)) ∧ instF l [b0, b1, b2, b3] = bif mayF f then (f, 0) else (noLv, 4) := by
  have hz : Wk { zeroLv with c := l.c } := by
    obtain ⟨w0, _⟩ := hl.wk
    exact ⟨w0, by simp, by simp, by simp, by simp⟩
  have hl' := hl
  obtain ⟨a1, a2, a3, a4, a5, a6, a7⟩ := hl'
  obtain ⟨o0, e0, k0, r0⟩ := fold_one (bys := [b0, b1, b2, b3]) (i := 0) (p := l.p0) (ps := [l.p1, l.p2, l.p3]) rfl hz h0 a3.2
  obtain ⟨o1, e1, k1, r1⟩ := fold_one (bys := [b0, b1, b2, b3]) (i := 0 + 1) (p := l.p1) (ps := [l.p2, l.p3]) rfl k0 h1 a4.2
  obtain ⟨o2, e2, k2, r2⟩ := fold_one (bys := [b0, b1, b2, b3]) (i := 0 + 1 + 1) (p := l.p2) (ps := [l.p3]) rfl k1 h2 a5.2
  obtain ⟨o3, e3, k3, r3⟩ := fold_one (bys := [b0, b1, b2, b3]) (i := 0 + 1 + 1 + 1) (p := l.p3) (ps := []) rfl k2 h3 a6.2
  have hf : foldE (instStep [b0, b1, b2, b3]) l.ps 0 { zeroLv with c := l.c } = (true, o3) := by
    show foldE (instStep [b0, b1, b2, b3]) [l.p0, l.p1, l.p2, l.p3] 0 { zeroLv with c := l.c } = _
    rw [e0, e1, e2, e3]
    rfl
  refine ⟨formF o3, (form_nf k3).2, (form_nf k3).1, fun v hv => ?_, ?_⟩
  · rw [ev_form k3 hv, r3 v hv, r2 v hv, r1 v hv, r0 v hv]
    have : ev { zeroLv with c := l.c } v = l.c := by
      refine eq_of_le fun x => ?_
      rw [ev_le]
      simp only
      rw [tm_neg (by omega), tm_neg (by omega), tm_neg (by omega), tm_neg (by omega)]
      omega
    rw [this]
    rfl
  · unfold instF
    rw [hf]
    simp only [List.all_cons, List.all_nil, mayF_iff.2 hl, mayF_iff.2 h0, mayF_iff.2 h1, mayF_iff.2 h2, mayF_iff.2 h3, Bool.and_self]
    rfl

/-- The parameters themselves. -/
theorem ev_param : ∀ v, Ge0 v → evs (zeroLv.set 0 0) (zeroLv.set 1 0) (zeroLv.set 2 0) (zeroLv.set 3 0) v = v := by
  intro v hv
  obtain ⟨v0, v1, v2, v3⟩ := hv
  have h : ∀ (l : Lv) (y : Int), (∀ x, ev l v ≤ x ↔ y ≤ x) → ev l v = y := fun l y hh => eq_of_le hh
  have e0 : zeroLv.set 0 0 = ⟨0, 0, -1, -1, -1⟩ := rfl
  have e1 : zeroLv.set 1 0 = ⟨0, -1, 0, -1, -1⟩ := rfl
  have e2 : zeroLv.set 2 0 = ⟨0, -1, -1, 0, -1⟩ := rfl
  have e3 : zeroLv.set 3 0 = ⟨0, -1, -1, -1, 0⟩ := rfl
  unfold evs
  rw [e0, e1, e2, e3, h _ v.p0 (fun x => by rw [ev_le]; simp only [tm]; simp; omega), h _ v.p1 (fun x => by rw [ev_le]; simp only [tm]; simp; omega),
    h _ v.p2 (fun x => by rw [ev_le]; simp only [tm]; simp; omega), h _ v.p3 (fun x => by rw [ev_le]; simp only [tm]; simp; omega)]

theorem Vd_param : Vd (zeroLv.set 0 0) ∧ Vd (zeroLv.set 1 0) ∧ Vd (zeroLv.set 2 0) ∧ Vd (zeroLv.set 3 0) := by
  have e0 : zeroLv.set 0 0 = ⟨0, 0, -1, -1, -1⟩ := rfl
  have e1 : zeroLv.set 1 0 = ⟨0, -1, 0, -1, -1⟩ := rfl
  have e2 : zeroLv.set 2 0 = ⟨0, -1, -1, 0, -1⟩ := rfl
  have e3 : zeroLv.set 3 0 = ⟨0, -1, -1, -1, 0⟩ := rfl
  rw [e0, e1, e2, e3]
  unfold Vd TOP
  simp

/-! ### The calls, as the walks want them -/

theorem neq24 (a : Lv) : binOp Try.cfg .neq 24 (enc a) (enc a) = some (.bool false) := by rw [bin24n]; simp

theorem fmax {x y z : Lv} (hx : Vd x) (hy : Vd y) (h : mx x y = z) (S : St) : run Try.cfg 20 (.f 20) [enc x, enc y] S = some (encR (z, 0), S) := by
  rw [f20_ok 10 x y S, (maxF_eq hx hy).1, h]

theorem fleq {x y : Lv} {b : Bool} (h : leqF x y = b) (S : St) : run Try.cfg 20 (.f 28) [enc x, enc y] S = some (.bool b, S) := by
  rw [f28_ok 11 x y S, h]

theorem fsucc {x : Lv} {r : Lv × Int} (h : succF x = r) (S : St) : run Try.cfg 20 (.f 18) [enc x] S = some (encR r, S) := by
  rw [f18_ok 10 x S, h]

end Go.Ev

/- Levels: At, and levels that are apart, in plain numbers (own work). -/
namespace Go.Ev
open Go.Proofs Go.RowKit

/-- Numbers that At takes. -/
def Le41 (v : P4) : Prop := v.p0 ≤ FAR ∧ v.p1 ≤ FAR ∧ v.p2 ≤ FAR ∧ v.p3 ≤ FAR

theorem okFar_iff {p : Int} : okFar p = true ↔ 0 ≤ p ∧ p ≤ FAR := by
  unfold okFar
  rw [iLt_eq, iLt_eq]
  simp

theorem tm_ge {p v : Int} (hp : 0 ≤ v) : 0 ≤ tm p v := by unfold tm; split <;> omega

theorem at_step {m p q : Int} (hm : 0 ≤ m) (hq : 0 ≤ q) (hq2 : q ≤ FAR) (hp : p ≤ TOP) : (if p < 0 then m else maxI m (wrapI .i64 (q + p))) = max m (tm p q) := by
  unfold tm TOP FAR at *
  split
  · omega
  · rw [wrapI_id (by omega) (by omega)]
    unfold maxI
    split <;> omega

theorem atF_eq {l : Lv} (hl : Vd l) {q : P4} (h0 : Ge0 q) (h1 : Le41 q) : atF l q = ev l q := by
  obtain ⟨q0, q1, q2, q3⟩ := h0
  obtain ⟨r0, r1, r2, r3⟩ := h1
  have hm := mayF_iff.2 hl
  obtain ⟨a1, a2, a3, a4, a5, a6, a7⟩ := hl
  have e : atF l q = foldP (fun i p m => maxI m (wrapI .i64 (q.get i + p))) l.ps 0 l.c := by
    unfold atF
    rw [okFar_iff.2 ⟨q0, r0⟩, okFar_iff.2 ⟨q1, r1⟩, okFar_iff.2 ⟨q2, r2⟩, okFar_iff.2 ⟨q3, r3⟩, hm]
    rfl
  rw [e]
  unfold foldP foldP foldP foldP foldP
  simp only [iLt_eq, cond_ite, decide_eq_true_eq]
  have g0 : q.get 0 = q.p0 := rfl
  have g1 : q.get (0 + 1) = q.p1 := rfl
  have g2 : q.get (0 + 1 + 1) = q.p2 := rfl
  have g3 : q.get (0 + 1 + 1 + 1) = q.p3 := rfl
  rw [g0, g1, g2, g3]
  have m0 : 0 ≤ max l.c (tm l.p0 q.p0) := by omega
  have m1 : 0 ≤ max (max l.c (tm l.p0 q.p0)) (tm l.p1 q.p1) := by omega
  have m2 : 0 ≤ max (max (max l.c (tm l.p0 q.p0)) (tm l.p1 q.p1)) (tm l.p2 q.p2) := by omega
  rw [at_step a1 q0 r0 a3.2, at_step m0 q1 r1 a4.2, at_step m1 q2 r2 a5.2, at_step m2 q3 r3 a6.2]
  rfl

theorem tm_mono {p q v : Int} (h : p ≤ q) (hv : 0 ≤ v) : tm p v ≤ tm q v := by
  unfold tm; split <;> split <;> omega

theorem Le.ev {a b : Lv} (h : Le a b) {v : P4} (hv : Ge0 v) (hb : Wk b) : ev a v ≤ ev b v := by
  obtain ⟨h0, h1, h2, h3, h4⟩ := h
  obtain ⟨v0, v1, v2, v3⟩ := hv
  have hself := (@ev_le b v (Go.Ev.ev b v)).1 (Int.le_refl _)
  obtain ⟨k, k0, k1, k2, k3⟩ := hself
  have hge := ev_ge (v := v) hb
  rw [ev_le]
  have t0 := tm_mono h0 v0
  have t1 := tm_mono h1 v1
  have t2 := tm_mono h2 v2
  have t3 := tm_mono h3 v3
  refine ⟨?_, by omega, by omega, by omega, by omega⟩
  have w : ∀ p x : Int, 0 ≤ x → tm p x ≤ Go.Ev.ev b v → a.c ≤ p → a.c ≤ Go.Ev.ev b v := fun p x hx h1 h2 => by unfold tm at h1; split at h1 <;> omega
  rcases h4 with h4 | h4 | h4 | h4 | h4
  · omega
  · exact w _ _ v0 k0 h4
  · exact w _ _ v1 k1 h4
  · exact w _ _ v2 k2 h4
  · exact w _ _ v3 k3 h4

theorem mx_eq_iff {a b : Lv} (ha : Vd a) (hb : Vd b) : mx a b = b ↔ Le a b := by
  constructor
  · intro h
    have := le_mx ha hb
    rwa [h] at this
  · intro h
    refine ev_ext (maxF_eq ha hb).2.wk hb.wk (maxF_eq ha hb).2.nf hb.nf (fun v hv => ?_)
    rw [ev_mx ha hb hv]
    have := h.ev hv hb.wk
    omega

theorem le_antisymm' {a b : Lv} (ha : Vd a) (hb : Vd b) (h : Le a b) (k : Le b a) : a = b :=
  ev_ext ha.wk hb.wk ha.nf hb.nf (fun _ hv => Int.le_antisymm (h.ev hv hb.wk) (k.ev hv ha.wk))

@[reducible] def f0 : P4 := ⟨FAR, 0, 0, 0⟩
@[reducible] def f1 : P4 := ⟨0, FAR, 0, 0⟩
@[reducible] def f2 : P4 := ⟨0, 0, FAR, 0⟩
@[reducible] def f3 : P4 := ⟨0, 0, 0, FAR⟩
@[reducible] def fz : P4 := ⟨0, 0, 0, 0⟩

theorem le_of_tests {a b : Lv} (ha : Vd a) (hb : Vd b) (hz : ev a fz ≤ ev b fz) (h0 : ev a f0 ≤ ev b f0) (h1 : ev a f1 ≤ ev b f1) (h2 : ev a f2 ≤ ev b f2) (h3 : ev a f3 ≤ ev b f3) : Le a b := by
  have hz' := (@le_ev a fz a.c).2 (.inl (Int.le_refl _))
  have t0 := (@le_ev a f0 (tm a.p0 FAR)).2 (.inr (.inl (Int.le_refl _)))
  have t1 := (@le_ev a f1 (tm a.p1 FAR)).2 (.inr (.inr (.inl (Int.le_refl _))))
  have t2 := (@le_ev a f2 (tm a.p2 FAR)).2 (.inr (.inr (.inr (.inl (Int.le_refl _)))))
  have t3 := (@le_ev a f3 (tm a.p3 FAR)).2 (.inr (.inr (.inr (.inr (Int.le_refl _)))))
  have kz := (@le_ev b fz a.c).1 (by omega)
  have k0 := (@le_ev b f0 (tm a.p0 FAR)).1 (by omega)
  have k1 := (@le_ev b f1 (tm a.p1 FAR)).1 (by omega)
  have k2 := (@le_ev b f2 (tm a.p2 FAR)).1 (by omega)
  have k3 := (@le_ev b f3 (tm a.p3 FAR)).1 (by omega)
  clear hz h0 h1 h2 h3 hz' t0 t1 t2 t3
  obtain ⟨a1, a2, a3, a4, a5, a6, a7⟩ := ha
  obtain ⟨b1, b2, b3, b4, b5, b6, b7⟩ := hb
  clear a7 b7
  have big : ∀ p q : Int, q ≤ TOP → -1 ≤ q → q ≤ TOP → p ≤ TOP → -1 ≤ p → (tm p FAR ≤ tm q FAR ∨ tm p FAR ≤ TOP) → p ≤ q := fun p q _ _ _ _ _ h => by
    unfold tm FAR TOP at *
    split at h <;> split at h <;> omega
  have sm : ∀ p : Int, p ≤ TOP → tm p 0 ≤ TOP := fun p hp => by unfold tm TOP at *; split <;> omega
  have s0 := sm b.p0 b3.2
  have s1 := sm b.p1 b4.2
  have s2 := sm b.p2 b5.2
  have s3 := sm b.p3 b6.2
  refine ⟨big _ _ b3.2 b3.1 b3.2 a3.2 a3.1 ?_, big _ _ b4.2 b4.1 b4.2 a4.2 a4.1 ?_, big _ _ b5.2 b5.1 b5.2 a5.2 a5.1 ?_, big _ _ b6.2 b6.1 b6.2 a6.2 a6.1 ?_, ?_⟩
  · rcases k0 with k | k | k | k | k
    · right; omega
    · left; exact k
    all_goals (right; have k' : tm a.p0 FAR ≤ tm _ 0 := k; omega)
  · rcases k1 with k | k | k | k | k
    · right; omega
    · right; have k' : tm a.p1 FAR ≤ tm b.p0 0 := k; omega
    · left; exact k
    all_goals (right; have k' : tm a.p1 FAR ≤ tm _ 0 := k; omega)
  · rcases k2 with k | k | k | k | k
    · right; omega
    · right; have k' : tm a.p2 FAR ≤ tm b.p0 0 := k; omega
    · right; have k' : tm a.p2 FAR ≤ tm b.p1 0 := k; omega
    · left; exact k
    · right; have k' : tm a.p2 FAR ≤ tm b.p3 0 := k; omega
  · rcases k3 with k | k | k | k | k
    · right; omega
    · right; have k' : tm a.p3 FAR ≤ tm b.p0 0 := k; omega
    · right; have k' : tm a.p3 FAR ≤ tm b.p1 0 := k; omega
    · right; have k' : tm a.p3 FAR ≤ tm b.p2 0 := k; omega
    · left; exact k
  · have z : ∀ p : Int, a.c ≤ tm p 0 → a.c ≤ p ∨ a.c ≤ b.c := fun p hp => by unfold tm at hp; split at hp <;> omega
    rcases kz with k | k | k | k | k
    · exact .inl k
    · rcases z b.p0 k with h | h
      · exact .inr (.inl h)
      · exact .inl h
    · rcases z b.p1 k with h | h
      · exact .inr (.inr (.inl h))
      · exact .inl h
    · rcases z b.p2 k with h | h
      · exact .inr (.inr (.inr (.inl h)))
      · exact .inl h
    · rcases z b.p3 k with h | h
      · exact .inr (.inr (.inr (.inr h)))
      · exact .inl h

/-- Are there numbers, of those that are tried, at which one is above the other one? -/
noncomputable def apartF (a b : Lv) : Bool := iLt (atF b fz) (atF a fz) || (iLt (atF b f0) (atF a f0) || (iLt (atF b f1) (atF a f1) || (iLt (atF b f2) (atF a f2) || iLt (atF b f3) (atF a f3))))

theorem apart_of {a b : Lv} (ha : Vd a) (hb : Vd b) (h : ¬ Le a b) : apartF a b = true := by
  cases hq : apartF a b with
  | true => rfl
  | false =>
    exfalso
    unfold apartF at hq
    simp only [Bool.or_eq_false_iff, iLt_not] at hq
    obtain ⟨qz, q0, q1, q2, q3⟩ := hq
    have gz : Ge0 fz ∧ Le41 fz := by unfold Ge0 Le41 FAR; simp
    have g0 : Ge0 f0 ∧ Le41 f0 := by unfold Ge0 Le41 FAR; simp
    have g1 : Ge0 f1 ∧ Le41 f1 := by unfold Ge0 Le41 FAR; simp
    have g2 : Ge0 f2 ∧ Le41 f2 := by unfold Ge0 Le41 FAR; simp
    have g3 : Ge0 f3 ∧ Le41 f3 := by unfold Ge0 Le41 FAR; simp
    rw [atF_eq ha gz.1 gz.2, atF_eq hb gz.1 gz.2] at qz
    rw [atF_eq ha g0.1 g0.2, atF_eq hb g0.1 g0.2] at q0
    rw [atF_eq ha g1.1 g1.2, atF_eq hb g1.1 g1.2] at q1
    rw [atF_eq ha g2.1 g2.2, atF_eq hb g2.1 g2.2] at q2
    rw [atF_eq ha g3.1 g3.2, atF_eq hb g3.1 g3.2] at q3
    exact h (le_of_tests ha hb qz q0 q1 q2 q3)

theorem ev_bound {l : Lv} (hl : Vd l) {v : P4} (hv : Ge0 v) {k : Int} (h0 : v.p0 ≤ k) (h1 : v.p1 ≤ k) (h2 : v.p2 ≤ k) (h3 : v.p3 ≤ k) : ev l v ≤ TOP + k := by
  obtain ⟨a1, a2, a3, a4, a5, a6, a7⟩ := hl
  obtain ⟨v0, v1, v2, v3⟩ := hv
  have t : ∀ p x : Int, p ≤ TOP → 0 ≤ x → x ≤ k → tm p x ≤ TOP + k := fun p x hp hx hk => by unfold tm TOP at *; split <;> omega
  rw [ev_le]
  exact ⟨by omega, t _ _ a3.2 v0 h0, t _ _ a4.2 v1 h1, t _ _ a5.2 v2 h2, t _ _ a6.2 v3 h3⟩

end Go.Ev

/- Levels: LevelMeans, walked (written by lvm.py; own work). -/
namespace Go.Ev
open Go.Proofs Go.RowKit
set_option maxRecDepth 100000

theorem fat19 {l : Lv} {q : P4} {r : Int} (h : atF l q = r) (S : St) : run Try.cfg 19 (.f 30) [enc l, encP q] S = some (.int .i64 r, S) := by rw [f30_ok 10 l q S, h]
theorem fat20 {l : Lv} {q : P4} {r : Int} (h : atF l q = r) (S : St) : run Try.cfg 20 (.f 30) [enc l, encP q] S = some (.int .i64 r, S) := by rw [f30_ok 11 l q S, h]

theorem iEq_self (a : Int) : iEq a a = true := by rw [iEq_eq]; simp

set_option maxHeartbeats 2000000 in
theorem f34_frame (a b : Lv) : ∃ S', frame Try.cfg (run Try.cfg 19) 19 34 [enc a, enc b] St.empty = some (.bool (apartF a b), S') := by
  refine frame_ex Try.cfg _ (fn := Try.f34) rfl rfl ?_
  refine WCall.mk _ _ (fat19 (q := fz) rfl _) ?_
  refine WCall.mk _ _ (fat19 (q := fz) rfl _) ?_
  refine WCmp.mk (fun hz => ?_) (fun hz => ?_)
  · skip
    refine WCode.round (nt := 34) (fx := []) ?_
    refine WCmp.yes rfl ?_
    refine WOut.mk _ rfl ?_
    refine WOut.mk _ rfl ?_
    refine WOut.mk _ rfl ?_
    refine WCode.round (nt := 34) (fx := []) ?_
    refine WCmp.yes rfl ?_
    refine WOut.mk _ rfl ?_
    refine WOut.mk _ rfl ?_
    refine WOut.mk _ rfl ?_
    refine WCode.round (nt := 34) (fx := []) ?_
    refine WCmp.yes rfl ?_
    refine WOut.mk _ rfl ?_
    refine WOut.mk _ rfl ?_
    refine WOut.mk _ rfl ?_
    refine WCode.round (nt := 34) (fx := []) ?_
    refine WCmp.yes rfl ?_
    refine WOut.mk _ rfl ?_
    refine WOut.mk _ rfl ?_
    refine WOut.mk _ rfl ?_
    refine WCode.round (nt := 34) (fx := []) ?_
    refine WCmp.no rfl ?_
    rw [show apartF a b = true by simp [apartF, *]]
    exact ⟨_, rfl⟩
  · skip
    refine WCode.round (nt := 34) (fx := []) ?_
    refine WCmp.yes rfl ?_
    refine WOut.mk _ rfl ?_
    refine WCall.mk _ _ (fat19 (q := f0) rfl _) ?_
    refine WCall.mk _ _ (fat19 (q := f0) rfl _) ?_
    refine WCmp.mk (fun h0 => ?_) (fun h0 => ?_)
    · skip
      refine WOut.mk _ rfl ?_
      refine WOut.mk _ rfl ?_
      refine WCode.round (nt := 34) (fx := []) ?_
      refine WCmp.yes rfl ?_
      refine WOut.mk _ rfl ?_
      refine WOut.mk _ rfl ?_
      refine WOut.mk _ rfl ?_
      refine WCode.round (nt := 34) (fx := []) ?_
      refine WCmp.yes rfl ?_
      refine WOut.mk _ rfl ?_
      refine WOut.mk _ rfl ?_
      refine WOut.mk _ rfl ?_
      refine WCode.round (nt := 34) (fx := []) ?_
      refine WCmp.yes rfl ?_
      refine WOut.mk _ rfl ?_
      refine WOut.mk _ rfl ?_
      refine WOut.mk _ rfl ?_
      refine WCode.round (nt := 34) (fx := []) ?_
      refine WCmp.no rfl ?_
      rw [show apartF a b = true by simp [apartF, *]]
      exact ⟨_, rfl⟩
    · skip
      refine WOut.mk _ rfl ?_
      refine WOut.mk _ rfl ?_
      refine WCode.round (nt := 34) (fx := []) ?_
      refine WCmp.yes rfl ?_
      refine WOut.mk _ rfl ?_
      refine WCall.mk _ _ (fat19 (q := f1) rfl _) ?_
      refine WCall.mk _ _ (fat19 (q := f1) rfl _) ?_
      refine WCmp.mk (fun h1 => ?_) (fun h1 => ?_)
      · skip
        refine WOut.mk _ rfl ?_
        refine WOut.mk _ rfl ?_
        refine WCode.round (nt := 34) (fx := []) ?_
        refine WCmp.yes rfl ?_
        refine WOut.mk _ rfl ?_
        refine WOut.mk _ rfl ?_
        refine WOut.mk _ rfl ?_
        refine WCode.round (nt := 34) (fx := []) ?_
        refine WCmp.yes rfl ?_
        refine WOut.mk _ rfl ?_
        refine WOut.mk _ rfl ?_
        refine WOut.mk _ rfl ?_
        refine WCode.round (nt := 34) (fx := []) ?_
        refine WCmp.no rfl ?_
        rw [show apartF a b = true by simp [apartF, *]]
        exact ⟨_, rfl⟩
      · skip
        refine WOut.mk _ rfl ?_
        refine WOut.mk _ rfl ?_
        refine WCode.round (nt := 34) (fx := []) ?_
        refine WCmp.yes rfl ?_
        refine WOut.mk _ rfl ?_
        refine WCall.mk _ _ (fat19 (q := f2) rfl _) ?_
        refine WCall.mk _ _ (fat19 (q := f2) rfl _) ?_
        refine WCmp.mk (fun h2 => ?_) (fun h2 => ?_)
        · skip
          refine WOut.mk _ rfl ?_
          refine WOut.mk _ rfl ?_
          refine WCode.round (nt := 34) (fx := []) ?_
          refine WCmp.yes rfl ?_
          refine WOut.mk _ rfl ?_
          refine WOut.mk _ rfl ?_
          refine WOut.mk _ rfl ?_
          refine WCode.round (nt := 34) (fx := []) ?_
          refine WCmp.no rfl ?_
          rw [show apartF a b = true by simp [apartF, *]]
          exact ⟨_, rfl⟩
        · skip
          refine WOut.mk _ rfl ?_
          refine WOut.mk _ rfl ?_
          refine WCode.round (nt := 34) (fx := []) ?_
          refine WCmp.yes rfl ?_
          refine WOut.mk _ rfl ?_
          refine WCall.mk _ _ (fat19 (q := f3) rfl _) ?_
          refine WCall.mk _ _ (fat19 (q := f3) rfl _) ?_
          refine WCmp.mk (fun h3 => ?_) (fun h3 => ?_)
          · skip
            refine WOut.mk _ rfl ?_
            refine WOut.mk _ rfl ?_
            refine WCode.round (nt := 34) (fx := []) ?_
            refine WCmp.no rfl ?_
            rw [show apartF a b = true by simp [apartF, *]]
            exact ⟨_, rfl⟩
          · skip
            refine WOut.mk _ rfl ?_
            refine WOut.mk _ rfl ?_
            refine WCode.round (nt := 34) (fx := []) ?_
            refine WCmp.no rfl ?_
            rw [show apartF a b = false by simp [apartF, *]]
            exact ⟨_, rfl⟩

theorem f34_ok (a b : Lv) (S : St) : run Try.cfg 20 (.f 34) [enc a, enc b] S = some (.bool (apartF a b), S) := by
  obtain ⟨S', h⟩ := f34_frame a b
  exact run_val h rfl rfl rfl rfl rfl

end Go.Ev

/- Levels: LevelInsts, walked (written by lvi.py; own work). -/
namespace Go.Ev
open Go.Proofs Go.RowKit
set_option maxRecDepth 100000

@[reducible] def cells4 (a b c d : Lv) : List V := [.int .i64 a.c, .int .i64 a.p0, .int .i64 a.p1, .int .i64 a.p2, .int .i64 a.p3, .int .i64 b.c, .int .i64 b.p0, .int .i64 b.p1, .int .i64 b.p2, .int .i64 b.p3, .int .i64 c.c, .int .i64 c.p0, .int .i64 c.p1, .int .i64 c.p2, .int .i64 c.p3, .int .i64 d.c, .int .i64 d.p0, .int .i64 d.p1, .int .i64 d.p2, .int .i64 d.p3]
@[reducible] def enc4 (a b c d : Lv) : V := .agg (cells4 a b c d)

theorem shp38 {n : Nat} {cs : List V} (h : Shp Try.prog n 38 cs) : ∃ a b c d : Lv, cs = cells4 a b c d := by
  obtain ⟨n', h⟩ := shp_arr Try.underlying38 h
  obtain ⟨a, b, rfl, h0, h⟩ := h
  obtain ⟨c, d, rfl, h1, h⟩ := h
  obtain ⟨e, f, rfl, h2, h⟩ := h
  obtain ⟨g, i, rfl, h3, h⟩ := h
  obtain rfl : i = [] := h
  obtain ⟨l0, rfl⟩ := shp24 h0
  obtain ⟨l1, rfl⟩ := shp24 h1
  obtain ⟨l2, rfl⟩ := shp24 h2
  obtain ⟨l3, rfl⟩ := shp24 h3
  exact ⟨l0, l1, l2, l3, rfl⟩

theorem arg38 {ts : List Nat} {us : List V} (h : Args Try.prog (38 :: ts) us) : ∃ (a b c d : Lv) (rest : List V), us = enc4 a b c d :: rest ∧ Args Try.prog ts rest := by
  obtain ⟨v, rest, n, c, rfl, h1, h2, h3⟩ := args_cons h
  obtain ⟨a, b, c', d, rfl⟩ := shp38 h1
  rcases h2 with ⟨_, rfl⟩ | ⟨hh, _⟩
  · exact ⟨a, b, c', d, rest, rfl, h3⟩
  · rw [show isAggT Try.prog 38 = true by kernel_rfl] at hh; cases hh

theorem finst {l : Lv} {bys : List Lv} {r : Lv × Int} (h : instF l bys = r) (hl : bys.length < 19) (S : St) : run Try.cfg 20 (.f 22) [enc l, encL .tight bys] S = some (encR r, S) := by
  rw [f22_ok 9 l .tight bys S (by omega) (by omega), h]

theorem fparam {i : Int} {r : Lv × Int} (h : paramF i = r) (S : St) : run Try.cfg 20 (.f 24) [.int .i64 i] S = some (encR r, S) := by
  rw [f24_ok 13 i S, h]

theorem eq24t (a : Lv) : binOp Try.cfg .eql 24 (enc a) (enc a) = some (.bool true) := by rw [bin24]; simp

theorem inst_own {l : Lv} (hl : Vd l) : instF l [zeroLv.set 0 0, zeroLv.set 1 0, zeroLv.set 2 0, zeroLv.set 3 0] = (l, 0) := by
  obtain ⟨p0, p1, p2, p3⟩ := Vd_param
  obtain ⟨f, wf, nf, ef, rf⟩ := inst_spec hl p0 p1 p2 p3
  have e : f = l := ev_ext wf hl.wk nf hl.nf (fun v hv => by rw [ef v hv, ev_param v hv])
  rw [rf, e, mayF_iff.2 hl]
  rfl

set_option maxHeartbeats 4000000 in
theorem law6_frame (l a0 a1 a2 a3 b0 b1 b2 b3 : Lv) : ∃ S', frame Try.cfg (run Try.cfg 20) 20 6 [enc l, enc4 a0 a1 a2 a3, enc4 b0 b1 b2 b3] St.empty = some (.bool true, S') := by
  refine frame_ex Try.cfg _ (fn := Try.f6) rfl rfl ?_
  refine WCode.round (nt := 181) (fx := []) ?_
  refine WCmp.yes rfl ?_
  refine WCall.mk _ _ (fparam (i := 0) (r := (zeroLv.set 0 0, 0)) rfl _) ?_
  refine WCmp.no rfl ?_
  refine WOut.mk _ rfl ?_
  refine WOut.mk _ rfl ?_
  refine WCall.mk _ _ (f26_ok 12 a0 _) ?_
  cases ma0 : mayF a0 with
  | false => refine WCall.mk _ _ (f17_ok _) ?_; exact ⟨_, rfl⟩
  | true =>
  have va0 := mayF_iff.1 ma0
  refine WOut.mk _ rfl ?_
  refine WCall.mk _ _ (f26_ok 12 b0 _) ?_
  cases mb0 : mayF b0 with
  | false => refine WCall.mk _ _ (f17_ok _) ?_; exact ⟨_, rfl⟩
  | true =>
  have vb0 := mayF_iff.1 mb0
  refine WOut.mk _ rfl ?_
  refine WCode.round (nt := 181) (fx := []) ?_
  refine WCmp.yes rfl ?_
  refine WCall.mk _ _ (fparam (i := 1) (r := (zeroLv.set 1 0, 0)) rfl _) ?_
  refine WCmp.no rfl ?_
  refine WOut.mk _ rfl ?_
  refine WOut.mk _ rfl ?_
  refine WCall.mk _ _ (f26_ok 12 a1 _) ?_
  cases ma1 : mayF a1 with
  | false => refine WCall.mk _ _ (f17_ok _) ?_; exact ⟨_, rfl⟩
  | true =>
  have va1 := mayF_iff.1 ma1
  refine WOut.mk _ rfl ?_
  refine WCall.mk _ _ (f26_ok 12 b1 _) ?_
  cases mb1 : mayF b1 with
  | false => refine WCall.mk _ _ (f17_ok _) ?_; exact ⟨_, rfl⟩
  | true =>
  have vb1 := mayF_iff.1 mb1
  refine WOut.mk _ rfl ?_
  refine WCode.round (nt := 181) (fx := []) ?_
  refine WCmp.yes rfl ?_
  refine WCall.mk _ _ (fparam (i := 2) (r := (zeroLv.set 2 0, 0)) rfl _) ?_
  refine WCmp.no rfl ?_
  refine WOut.mk _ rfl ?_
  refine WOut.mk _ rfl ?_
  refine WCall.mk _ _ (f26_ok 12 a2 _) ?_
  cases ma2 : mayF a2 with
  | false => refine WCall.mk _ _ (f17_ok _) ?_; exact ⟨_, rfl⟩
  | true =>
  have va2 := mayF_iff.1 ma2
  refine WOut.mk _ rfl ?_
  refine WCall.mk _ _ (f26_ok 12 b2 _) ?_
  cases mb2 : mayF b2 with
  | false => refine WCall.mk _ _ (f17_ok _) ?_; exact ⟨_, rfl⟩
  | true =>
  have vb2 := mayF_iff.1 mb2
  refine WOut.mk _ rfl ?_
  refine WCode.round (nt := 181) (fx := []) ?_
  refine WCmp.yes rfl ?_
  refine WCall.mk _ _ (fparam (i := 3) (r := (zeroLv.set 3 0, 0)) rfl _) ?_
  refine WCmp.no rfl ?_
  refine WOut.mk _ rfl ?_
  refine WOut.mk _ rfl ?_
  refine WCall.mk _ _ (f26_ok 12 a3 _) ?_
  cases ma3 : mayF a3 with
  | false => refine WCall.mk _ _ (f17_ok _) ?_; exact ⟨_, rfl⟩
  | true =>
  have va3 := mayF_iff.1 ma3
  refine WOut.mk _ rfl ?_
  refine WCall.mk _ _ (f26_ok 12 b3 _) ?_
  cases mb3 : mayF b3 with
  | false => refine WCall.mk _ _ (f17_ok _) ?_; exact ⟨_, rfl⟩
  | true =>
  have vb3 := mayF_iff.1 mb3
  refine WOut.mk _ rfl ?_
  refine WCode.round (nt := 181) (fx := []) ?_
  refine WCmp.no rfl ?_
  refine WCall.mk _ _ (f26_ok 12 l _) ?_
  cases ml : mayF l with
  | false => refine WCall.mk _ _ (f17_ok _) ?_; exact ⟨_, rfl⟩
  | true =>
  have vl := mayF_iff.1 ml
  refine WCall.mk _ _ (finst (inst_own vl) (by simp) _) ?_
  refine ⟨rfl, ?_⟩
  refine WCmp.no rfl ?_
  refine WOut.mk _ (neq24 _) ?_
  obtain ⟨fa, wfa, nfa, efa, rfa⟩ := inst_spec vl va0 va1 va2 va3
  cases mfa : mayF fa with
  | false =>
  rw [mfa] at rfa
  refine WCall.mk _ _ (finst rfa (by simp) _) ?_
  refine ⟨rfl, ?_⟩
  refine WCmp.yes rfl ?_
  refine WCmp.yes rfl ?_
  refine WCall.mk _ _ (f17_ok _) ?_; exact ⟨_, rfl⟩
  | true =>
  rw [mfa] at rfa
  have vfa := mayF_iff.1 mfa
  refine WCall.mk _ _ (finst rfa (by simp) _) ?_
  refine ⟨rfl, ?_⟩
  refine WCmp.no rfl ?_
  obtain ⟨fb, wfb, nfb, efb, rfb⟩ := inst_spec vfa vb0 vb1 vb2 vb3
  cases mfb : mayF fb with
  | false =>
  rw [mfb] at rfb
  refine WCall.mk _ _ (finst rfb (by simp) _) ?_
  refine ⟨rfl, ?_⟩
  refine WCmp.yes rfl ?_
  refine WCmp.yes rfl ?_
  refine WCall.mk _ _ (f17_ok _) ?_; exact ⟨_, rfl⟩
  | true =>
  rw [mfb] at rfb
  have vfb := mayF_iff.1 mfb
  refine WCall.mk _ _ (finst rfb (by simp) _) ?_
  refine ⟨rfl, ?_⟩
  refine WCmp.no rfl ?_
  refine WCode.round (nt := 181) (fx := []) ?_
  refine WCmp.yes rfl ?_
  refine WOut.mk _ rfl ?_
  obtain ⟨g0, wg0, ng0, eg0, rg0⟩ := inst_spec va0 vb0 vb1 vb2 vb3
  cases mg0 : mayF g0 with
  | false =>
  rw [mg0] at rg0
  refine WCall.mk _ _ (finst rg0 (by simp) _) ?_
  refine ⟨rfl, ?_⟩
  refine WCmp.yes rfl ?_
  refine WCmp.yes rfl ?_
  refine WCall.mk _ _ (f17_ok _) ?_; exact ⟨_, rfl⟩
  | true =>
  rw [mg0] at rg0
  have vg0 := mayF_iff.1 mg0
  refine WCall.mk _ _ (finst rg0 (by simp) _) ?_
  refine ⟨rfl, ?_⟩
  refine WCmp.no rfl ?_
  refine WOut.mk _ rfl ?_
  refine WOut.mk _ rfl ?_
  refine WCode.round (nt := 181) (fx := []) ?_
  refine WCmp.yes rfl ?_
  refine WOut.mk _ rfl ?_
  obtain ⟨g1, wg1, ng1, eg1, rg1⟩ := inst_spec va1 vb0 vb1 vb2 vb3
  cases mg1 : mayF g1 with
  | false =>
  rw [mg1] at rg1
  refine WCall.mk _ _ (finst rg1 (by simp) _) ?_
  refine ⟨rfl, ?_⟩
  refine WCmp.yes rfl ?_
  refine WCmp.yes rfl ?_
  refine WCall.mk _ _ (f17_ok _) ?_; exact ⟨_, rfl⟩
  | true =>
  rw [mg1] at rg1
  have vg1 := mayF_iff.1 mg1
  refine WCall.mk _ _ (finst rg1 (by simp) _) ?_
  refine ⟨rfl, ?_⟩
  refine WCmp.no rfl ?_
  refine WOut.mk _ rfl ?_
  refine WOut.mk _ rfl ?_
  refine WCode.round (nt := 181) (fx := []) ?_
  refine WCmp.yes rfl ?_
  refine WOut.mk _ rfl ?_
  obtain ⟨g2, wg2, ng2, eg2, rg2⟩ := inst_spec va2 vb0 vb1 vb2 vb3
  cases mg2 : mayF g2 with
  | false =>
  rw [mg2] at rg2
  refine WCall.mk _ _ (finst rg2 (by simp) _) ?_
  refine ⟨rfl, ?_⟩
  refine WCmp.yes rfl ?_
  refine WCmp.yes rfl ?_
  refine WCall.mk _ _ (f17_ok _) ?_; exact ⟨_, rfl⟩
  | true =>
  rw [mg2] at rg2
  have vg2 := mayF_iff.1 mg2
  refine WCall.mk _ _ (finst rg2 (by simp) _) ?_
  refine ⟨rfl, ?_⟩
  refine WCmp.no rfl ?_
  refine WOut.mk _ rfl ?_
  refine WOut.mk _ rfl ?_
  refine WCode.round (nt := 181) (fx := []) ?_
  refine WCmp.yes rfl ?_
  refine WOut.mk _ rfl ?_
  obtain ⟨g3, wg3, ng3, eg3, rg3⟩ := inst_spec va3 vb0 vb1 vb2 vb3
  cases mg3 : mayF g3 with
  | false =>
  rw [mg3] at rg3
  refine WCall.mk _ _ (finst rg3 (by simp) _) ?_
  refine ⟨rfl, ?_⟩
  refine WCmp.yes rfl ?_
  refine WCmp.yes rfl ?_
  refine WCall.mk _ _ (f17_ok _) ?_; exact ⟨_, rfl⟩
  | true =>
  rw [mg3] at rg3
  have vg3 := mayF_iff.1 mg3
  refine WCall.mk _ _ (finst rg3 (by simp) _) ?_
  refine ⟨rfl, ?_⟩
  refine WCmp.no rfl ?_
  refine WOut.mk _ rfl ?_
  refine WOut.mk _ rfl ?_
  refine WCode.round (nt := 181) (fx := []) ?_
  refine WCmp.no rfl ?_
  obtain ⟨fc, wfc, nfc, efc, rfc⟩ := inst_spec vl vg0 vg1 vg2 vg3
  have hall : ∀ v, Ge0 v → evs g0 g1 g2 g3 v = evs a0 a1 a2 a3 (evs b0 b1 b2 b3 v) := fun v hv => by unfold evs; rw [eg0 v hv, eg1 v hv, eg2 v hv, eg3 v hv]; rfl
  have hge : ∀ v, Ge0 (evs b0 b1 b2 b3 v) := fun v => evs_ge vb0.wk vb1.wk vb2.wk vb3.wk v
  have ebc : fc = fb := ev_ext wfc wfb nfc nfb (fun v hv => by rw [efc v hv, efb v hv, hall v hv, efa _ (hge v)])
  rw [ebc, mfb] at rfc
  refine WCall.mk _ _ (finst rfc (by simp) _) ?_
  refine ⟨rfl, ?_⟩
  refine WOut.mk _ rfl ?_
  have vm := (maxF_eq vl va0).2
  refine WCall.mk _ _ (fmax vl va0 rfl _) ?_
  obtain ⟨fn, wfn, nfn, efn, rfn⟩ := inst_spec vm vb0 vb1 vb2 vb3
  obtain ⟨fp, wfp, nfp, efp, rfp⟩ := inst_spec vl vb0 vb1 vb2 vb3
  cases mfn : mayF fn with
  | false =>
    rw [mfn] at rfn
    refine WCall.mk _ _ (finst rfn (by simp) _) ?_
    refine ⟨rfl, ?_⟩
    cases mfp : mayF fp with
    | false =>
      rw [mfp] at rfp
      refine WCall.mk _ _ (finst rfp (by simp) _) ?_
      refine ⟨rfl, ?_⟩
      refine WCmp.no rfl ?_
      refine WOut.mk _ (neq24 _) ?_
      refine WCmp.no rfl ?_
      refine WCmp.no rfl ?_
      refine WCall.mk _ _ (f17_ok _) ?_; exact ⟨_, rfl⟩
    | true =>
      rw [mfp] at rfp
      refine WCall.mk _ _ (finst rfp (by simp) _) ?_
      refine ⟨rfl, ?_⟩
      refine WCmp.no rfl ?_
      refine WOut.mk _ (neq24 _) ?_
      refine WCmp.no rfl ?_
      refine WCmp.no rfl ?_
      refine WCall.mk _ _ (f17_ok _) ?_; exact ⟨_, rfl⟩
  | true =>
  rw [mfn] at rfn
  refine WCall.mk _ _ (finst rfn (by simp) _) ?_
  refine ⟨rfl, ?_⟩
  cases mfp : mayF fp with
  | false =>
  rw [mfp] at rfp
  refine WCall.mk _ _ (finst rfp (by simp) _) ?_
  refine ⟨rfl, ?_⟩
  refine WCmp.no rfl ?_
  refine WOut.mk _ (neq24 _) ?_
  refine WCmp.no rfl ?_
  refine WCmp.yes rfl ?_
  refine WCmp.no rfl ?_
  refine WCall.mk _ _ (f17_ok _) ?_; exact ⟨_, rfl⟩
  | true =>
  rw [mfp] at rfp
  refine WCall.mk _ _ (finst rfp (by simp) _) ?_
  refine ⟨rfl, ?_⟩
  refine WCmp.no rfl ?_
  refine WOut.mk _ (neq24 _) ?_
  refine WCmp.no rfl ?_
  refine WCmp.yes rfl ?_
  refine WCmp.yes rfl ?_
  have vfn := mayF_iff.1 mfn
  have vfp := mayF_iff.1 mfp
  have emx : mx fp g0 = fn := ev_ext (maxF_eq vfp vg0).2.wk wfn (maxF_eq vfp vg0).2.nf nfn (fun v hv => by rw [ev_mx vfp vg0 hv, efp v hv, eg0 v hv, efn v hv, ev_mx vl va0 (hge v)])
  refine WOut.mk _ rfl ?_
  refine WCall.mk _ _ (fmax vfp vg0 emx _) ?_
  refine WCmp.yes rfl ?_
  refine WOut.mk _ (eq24t _) ?_
  refine WCall.mk _ _ (f17_ok _) ?_; exact ⟨_, rfl⟩

theorem law6 (us : List V) (h : Args Try.prog Try.f6.params.toList us) : ∃ n S', run Try.cfg n (.f 6) us St.empty = some (.bool true, S') := by
  rw [Try.params6] at h
  obtain ⟨l, r1, rfl, h1⟩ := arg24 h
  obtain ⟨a0, a1, a2, a3, r2, rfl, h2⟩ := arg38 h1
  obtain ⟨b0, b1, b2, b3, r3, rfl, h3⟩ := arg38 h2
  obtain rfl := arg_nil h3
  obtain ⟨S', hf⟩ := law6_frame l a0 a1 a2 a3 b0 b1 b2 b3
  exact ⟨21, St.empty, run_val hf rfl rfl rfl rfl rfl⟩

end Go.Ev

/- Levels: LevelMeans, walked (written by lvm.py; own work). -/
namespace Go.Ev
open Go.Proofs Go.RowKit
set_option maxRecDepth 100000

@[reducible] noncomputable def nn (x : Int) : Int := wrapI .i64 (x.tmod 1073741824)
@[reducible] noncomputable def qn (p : P4) : P4 := ⟨nn p.p0, nn p.p1, nn p.p2, nn p.p3⟩
@[reducible] def encU (p : P4) : V := .agg [.int .u32 p.p0, .int .u32 p.p1, .int .u32 p.p2, .int .u32 p.p3]

theorem nn_range {x : Int} (h : 0 ≤ x) : 0 ≤ nn x ∧ nn x < 1073741824 := by
  have h1 : x.tmod 1073741824 = x % 1073741824 := Int.tmod_eq_emod_of_nonneg h
  have h2 := Int.emod_nonneg x (b := 1073741824) (by omega)
  have h3 := Int.emod_lt_of_pos x (b := 1073741824) (by omega)
  have e : nn x = x % 1073741824 := by
    unfold nn
    rw [h1, wrapI_id h2 (by omega)]
  rw [e]
  exact ⟨h2, h3⟩

theorem shp40 {n : Nat} {cs : List V} (h : Shp Try.prog n 40 cs) : ∃ p : P4, cs = [.int .u32 p.p0, .int .u32 p.p1, .int .u32 p.p2, .int .u32 p.p3] ∧ Ge0 p := by
  obtain ⟨n', h⟩ := shp_arr Try.underlying40 h
  obtain ⟨a, b, rfl, h0, h⟩ := h
  obtain ⟨c, d, rfl, h1, h⟩ := h
  obtain ⟨e, f, rfl, h2, h⟩ := h
  obtain ⟨g, i, rfl, h3, h⟩ := h
  obtain rfl : i = [] := h
  obtain ⟨z0, rfl, w0⟩ := shp_int Try.underlying39 h0
  obtain ⟨z1, rfl, w1⟩ := shp_int Try.underlying39 h1
  obtain ⟨z2, rfl, w2⟩ := shp_int Try.underlying39 h2
  obtain ⟨z3, rfl, w3⟩ := shp_int Try.underlying39 h3
  have r : ∀ z : Int, (Lit.int .u32 z).wf = true → 0 ≤ z := fun z hz => by
    have : 0 ≤ z ∧ z ≤ 4294967295 := by simpa [Lit.wf, IntKind.min, IntKind.max, IntKind.signed, IntKind.bits] using hz
    exact this.1
  exact ⟨⟨z0, z1, z2, z3⟩, rfl, r _ w0, r _ w1, r _ w2, r _ w3⟩

theorem arg40 {ts : List Nat} {us : List V} (h : Args Try.prog (40 :: ts) us) : ∃ (p : P4) (rest : List V), us = encU p :: rest ∧ Ge0 p ∧ Args Try.prog ts rest := by
  obtain ⟨v, rest, n, c, rfl, h1, h2, h3⟩ := args_cons h
  obtain ⟨l, rfl, hg⟩ := shp40 h1
  rcases h2 with ⟨_, rfl⟩ | ⟨hh, _⟩
  · exact ⟨l, rest, rfl, hg, h3⟩
  · rw [show isAggT Try.prog 40 = true by kernel_rfl] at hh; cases hh

theorem addI {T : Nat} {x : Int} (h : 0 ≤ x + 1) (h2 : x + 1 ≤ 9223372036854775807) : binOp Try.cfg .add T (.int .i64 x) (.int .i64 1) = some (.int .i64 (x + 1)) := by
  show some (V.int .i64 (wrapI .i64 (x + 1))) = _
  rw [wrapI_id h h2]

theorem eq24b {a b : Lv} {r : Bool} (h : decide (a = b) = r) : binOp Try.cfg .eql 24 (enc a) (enc b) = some (.bool r) := by rw [bin24, h]
theorem neq24b {a b : Lv} {r : Bool} (h : decide (a = b) = r) : binOp Try.cfg .neq 24 (enc a) (enc b) = some (.bool (!r)) := by rw [bin24n, h]

set_option maxHeartbeats 4000000 in
theorem law4_frame (a b b0 b1 b2 b3 : Lv) (p : P4) (hp : Ge0 p) : ∃ S', frame Try.cfg (run Try.cfg 20) 20 4 [enc a, enc b, enc4 b0 b1 b2 b3, encU p] St.empty = some (.bool true, S') := by
  have n0 := nn_range hp.1
  have n1 := nn_range hp.2.1
  have n2 := nn_range hp.2.2.1
  have n3 := nn_range hp.2.2.2
  have hq0 : Ge0 (qn p) := ⟨n0.1, n1.1, n2.1, n3.1⟩
  have k0 : nn p.p0 ≤ 1073741824 := by omega
  have k1 : nn p.p1 ≤ 1073741824 := by omega
  have k2 : nn p.p2 ≤ 1073741824 := by omega
  have k3 : nn p.p3 ≤ 1073741824 := by omega
  have hq1 : Le41 (qn p) := ⟨by show nn p.p0 ≤ _; unfold FAR; omega, by show nn p.p1 ≤ _; unfold FAR; omega, by show nn p.p2 ≤ _; unfold FAR; omega, by show nn p.p3 ≤ _; unfold FAR; omega⟩
  have bd : ∀ {l : Lv}, Vd l → ev l (qn p) ≤ TOP + 1073741824 := fun hl => ev_bound hl hq0 k0 k1 k2 k3
  refine frame_ex Try.cfg _ (fn := Try.f4) rfl rfl ?_
  refine WCode.round (nt := 173) (fx := []) ?_
  refine WCmp.yes rfl ?_
  refine WOut.mk _ rfl ?_
  refine WOut.mk _ rfl ?_
  refine WOut.mk _ rfl ?_
  refine WOut.mk _ rfl ?_
  refine WCode.round (nt := 173) (fx := []) ?_
  refine WCmp.yes rfl ?_
  refine WOut.mk _ rfl ?_
  refine WOut.mk _ rfl ?_
  refine WOut.mk _ rfl ?_
  refine WOut.mk _ rfl ?_
  refine WCode.round (nt := 173) (fx := []) ?_
  refine WCmp.yes rfl ?_
  refine WOut.mk _ rfl ?_
  refine WOut.mk _ rfl ?_
  refine WOut.mk _ rfl ?_
  refine WOut.mk _ rfl ?_
  refine WCode.round (nt := 173) (fx := []) ?_
  refine WCmp.yes rfl ?_
  refine WOut.mk _ rfl ?_
  refine WOut.mk _ rfl ?_
  refine WOut.mk _ rfl ?_
  refine WOut.mk _ rfl ?_
  refine WCode.round (nt := 173) (fx := []) ?_
  refine WCmp.no rfl ?_
  refine WCall.mk _ _ (f26_ok 12 a _) ?_
  cases ma : mayF a with
  | false =>
    refine WCall.mk _ _ (fleq (b := false) (by unfold leqF; rw [ma]; rfl) _) ?_
    refine WCall.mk _ _ (f17_ok _) ?_; exact ⟨_, rfl⟩
  | true =>
  refine WCall.mk _ _ (f26_ok 12 b _) ?_
  cases mb : mayF b with
  | false =>
    refine WCall.mk _ _ (fleq (b := false) (by unfold leqF; rw [mb, Bool.and_false]) _) ?_
    refine WCall.mk _ _ (f17_ok _) ?_; exact ⟨_, rfl⟩
  | true =>
  have va := mayF_iff.1 ma
  have vb := mayF_iff.1 mb
  have vm := (maxF_eq va vb).2
  refine WCall.mk _ _ (fat20 (q := qn p) (atF_eq va hq0 hq1) _) ?_
  refine WCall.mk _ _ (fat20 (q := qn p) (atF_eq vb hq0 hq1) _) ?_
  have hm : atF (mx a b) (qn p) = if ev b (qn p) > ev a (qn p) then ev b (qn p) else ev a (qn p) := by rw [atF_eq vm hq0 hq1, ev_mx va vb hq0]; split <;> omega
  have ha0 := ev_ge (v := qn p) va.wk
  have hab1 := bd va
  unfold TOP at hab1
  have ka : succF a = bif mayF (sx a) then (sx a, 0) else (noLv, 4) := succF_eq va
  have law : ∀ less : Bool, leqF a b = less → (less = true → Le a b) ∧ (less = false → ¬ Le a b) := fun less h => ⟨fun h2 => (leqF_iff va vb).1 (h.trans h2), fun h2 h3 => by rw [(leqF_iff va vb).2 h3] at h; rw [h2] at h; cases h⟩
  cases ms : mayF (sx a) with
  | true =>
    have vs := mayF_iff.1 ms
    have ea : succF a = (sx a, 0) := by rw [ka, ms]; rfl
    refine WCall.mk _ _ (fsucc ea _) ?_
    refine WCall.mk _ _ (fmax va vb rfl _) ?_
    refine WCmp.yes rfl ?_
    refine WCall.mk _ _ (fat20 (q := qn p) ((atF_eq vs hq0 hq1).trans (ev_sx va hq0)) _) ?_
    refine WOut.mk _ (addI (by omega) (by omega)) ?_
    refine WCmp.no (by rw [iEq_self]; rfl) ?_
    refine WCmp.no rfl ?_
    refine WCmp.no rfl ?_
    refine WCall.mk _ _ (fat20 (q := qn p) hm _) ?_
    refine WCmp.no (by rw [iEq_self]; rfl) ?_
    cases hab : leqF a b with
    | true =>
      refine WCall.mk _ _ (fleq hab _) ?_
      have le := (law true hab).1 rfl
      refine WCmp.no (iLt_not.2 (le.ev hq0 vb.wk)) ?_
      refine WOut.mk _ (eq24b (a := mx a b) (b := b) (r := true) (decide_eq_true ((mx_eq_iff va vb).2 le))) ?_
      refine WOut.mk _ rfl ?_
      cases hba : leqF b a with
      | true =>
        refine WCall.mk _ _ (fleq hba _) ?_
        refine WOut.mk _ (neq24b (a := a) (b := b) (r := true) (decide_eq_true (le_antisymm' va vb le ((leqF_iff vb va).1 hba)))) ?_
        refine WCode.round (nt := 173) (fx := []) ?_
        refine WCmp.yes rfl ?_
        refine WOut.mk _ rfl ?_
        refine WCall.mk _ _ (f26_ok 12 b0 _) ?_
        cases mb0 : mayF b0 with
        | false => refine WCall.mk _ _ (f17_ok _) ?_; exact ⟨_, rfl⟩
        | true =>
        have vb0 := mayF_iff.1 mb0
        refine WOut.mk _ rfl ?_
        refine WCall.mk _ _ (fat20 (q := qn p) (atF_eq vb0 hq0 hq1) _) ?_
        refine WOut.mk _ rfl ?_
        refine WOut.mk _ rfl ?_
        refine WCode.round (nt := 173) (fx := []) ?_
        refine WCmp.yes rfl ?_
        refine WOut.mk _ rfl ?_
        refine WCall.mk _ _ (f26_ok 12 b1 _) ?_
        cases mb1 : mayF b1 with
        | false => refine WCall.mk _ _ (f17_ok _) ?_; exact ⟨_, rfl⟩
        | true =>
        have vb1 := mayF_iff.1 mb1
        refine WOut.mk _ rfl ?_
        refine WCall.mk _ _ (fat20 (q := qn p) (atF_eq vb1 hq0 hq1) _) ?_
        refine WOut.mk _ rfl ?_
        refine WOut.mk _ rfl ?_
        refine WCode.round (nt := 173) (fx := []) ?_
        refine WCmp.yes rfl ?_
        refine WOut.mk _ rfl ?_
        refine WCall.mk _ _ (f26_ok 12 b2 _) ?_
        cases mb2 : mayF b2 with
        | false => refine WCall.mk _ _ (f17_ok _) ?_; exact ⟨_, rfl⟩
        | true =>
        have vb2 := mayF_iff.1 mb2
        refine WOut.mk _ rfl ?_
        refine WCall.mk _ _ (fat20 (q := qn p) (atF_eq vb2 hq0 hq1) _) ?_
        refine WOut.mk _ rfl ?_
        refine WOut.mk _ rfl ?_
        refine WCode.round (nt := 173) (fx := []) ?_
        refine WCmp.yes rfl ?_
        refine WOut.mk _ rfl ?_
        refine WCall.mk _ _ (f26_ok 12 b3 _) ?_
        cases mb3 : mayF b3 with
        | false => refine WCall.mk _ _ (f17_ok _) ?_; exact ⟨_, rfl⟩
        | true =>
        have vb3 := mayF_iff.1 mb3
        refine WOut.mk _ rfl ?_
        refine WCall.mk _ _ (fat20 (q := qn p) (atF_eq vb3 hq0 hq1) _) ?_
        refine WOut.mk _ rfl ?_
        refine WOut.mk _ rfl ?_
        refine WCode.round (nt := 173) (fx := []) ?_
        refine WCmp.no rfl ?_
        obtain ⟨f, wf, nf, ef, rf⟩ := inst_spec va vb0 vb1 vb2 vb3
        cases mf : mayF f with
        | false =>
          rw [mf] at rf
          refine WCall.mk _ _ (finst rf (by simp) _) ?_
          refine ⟨rfl, ?_⟩
          refine WCmp.yes rfl ?_
          refine WCmp.yes rfl ?_
          refine WCall.mk _ _ (f17_ok _) ?_; exact ⟨_, rfl⟩
        | true =>
        rw [mf] at rf
        have vf := mayF_iff.1 mf
        refine WCall.mk _ _ (finst rf (by simp) _) ?_
        refine ⟨rfl, ?_⟩
        refine WCmp.no rfl ?_
        have hto : Le41 (evs b0 b1 b2 b3 (qn p)) := by
          have j0 := bd vb0; have j1 := bd vb1; have j2 := bd vb2; have j3 := bd vb3
          unfold TOP at j0 j1 j2 j3
          unfold Le41 FAR
          exact ⟨by show ev b0 (qn p) ≤ _; omega, by show ev b1 (qn p) ≤ _; omega, by show ev b2 (qn p) ≤ _; omega, by show ev b3 (qn p) ≤ _; omega⟩
        refine WCall.mk _ _ (fat20 (q := qn p) ((atF_eq vf hq0 hq1).trans (ef _ hq0)) _) ?_
        refine WCall.mk _ _ (fat20 (q := evs b0 b1 b2 b3 (qn p)) (atF_eq va (evs_ge vb0.wk vb1.wk vb2.wk vb3.wk _) hto) _) ?_
        refine WCmp.yes (iEq_self _) ?_
        refine WCall.mk _ _ (f17_ok _) ?_; exact ⟨_, rfl⟩
      | false =>
        refine WCall.mk _ _ (fleq hba _) ?_
        refine WCode.round (nt := 173) (fx := []) ?_
        refine WCmp.yes rfl ?_
        refine WOut.mk _ rfl ?_
        refine WCall.mk _ _ (f26_ok 12 b0 _) ?_
        cases mb0 : mayF b0 with
        | false => refine WCall.mk _ _ (f17_ok _) ?_; exact ⟨_, rfl⟩
        | true =>
        have vb0 := mayF_iff.1 mb0
        refine WOut.mk _ rfl ?_
        refine WCall.mk _ _ (fat20 (q := qn p) (atF_eq vb0 hq0 hq1) _) ?_
        refine WOut.mk _ rfl ?_
        refine WOut.mk _ rfl ?_
        refine WCode.round (nt := 173) (fx := []) ?_
        refine WCmp.yes rfl ?_
        refine WOut.mk _ rfl ?_
        refine WCall.mk _ _ (f26_ok 12 b1 _) ?_
        cases mb1 : mayF b1 with
        | false => refine WCall.mk _ _ (f17_ok _) ?_; exact ⟨_, rfl⟩
        | true =>
        have vb1 := mayF_iff.1 mb1
        refine WOut.mk _ rfl ?_
        refine WCall.mk _ _ (fat20 (q := qn p) (atF_eq vb1 hq0 hq1) _) ?_
        refine WOut.mk _ rfl ?_
        refine WOut.mk _ rfl ?_
        refine WCode.round (nt := 173) (fx := []) ?_
        refine WCmp.yes rfl ?_
        refine WOut.mk _ rfl ?_
        refine WCall.mk _ _ (f26_ok 12 b2 _) ?_
        cases mb2 : mayF b2 with
        | false => refine WCall.mk _ _ (f17_ok _) ?_; exact ⟨_, rfl⟩
        | true =>
        have vb2 := mayF_iff.1 mb2
        refine WOut.mk _ rfl ?_
        refine WCall.mk _ _ (fat20 (q := qn p) (atF_eq vb2 hq0 hq1) _) ?_
        refine WOut.mk _ rfl ?_
        refine WOut.mk _ rfl ?_
        refine WCode.round (nt := 173) (fx := []) ?_
        refine WCmp.yes rfl ?_
        refine WOut.mk _ rfl ?_
        refine WCall.mk _ _ (f26_ok 12 b3 _) ?_
        cases mb3 : mayF b3 with
        | false => refine WCall.mk _ _ (f17_ok _) ?_; exact ⟨_, rfl⟩
        | true =>
        have vb3 := mayF_iff.1 mb3
        refine WOut.mk _ rfl ?_
        refine WCall.mk _ _ (fat20 (q := qn p) (atF_eq vb3 hq0 hq1) _) ?_
        refine WOut.mk _ rfl ?_
        refine WOut.mk _ rfl ?_
        refine WCode.round (nt := 173) (fx := []) ?_
        refine WCmp.no rfl ?_
        obtain ⟨f, wf, nf, ef, rf⟩ := inst_spec va vb0 vb1 vb2 vb3
        cases mf : mayF f with
        | false =>
          rw [mf] at rf
          refine WCall.mk _ _ (finst rf (by simp) _) ?_
          refine ⟨rfl, ?_⟩
          refine WCmp.yes rfl ?_
          refine WCmp.yes rfl ?_
          refine WCall.mk _ _ (f17_ok _) ?_; exact ⟨_, rfl⟩
        | true =>
        rw [mf] at rf
        have vf := mayF_iff.1 mf
        refine WCall.mk _ _ (finst rf (by simp) _) ?_
        refine ⟨rfl, ?_⟩
        refine WCmp.no rfl ?_
        have hto : Le41 (evs b0 b1 b2 b3 (qn p)) := by
          have j0 := bd vb0; have j1 := bd vb1; have j2 := bd vb2; have j3 := bd vb3
          unfold TOP at j0 j1 j2 j3
          unfold Le41 FAR
          exact ⟨by show ev b0 (qn p) ≤ _; omega, by show ev b1 (qn p) ≤ _; omega, by show ev b2 (qn p) ≤ _; omega, by show ev b3 (qn p) ≤ _; omega⟩
        refine WCall.mk _ _ (fat20 (q := qn p) ((atF_eq vf hq0 hq1).trans (ef _ hq0)) _) ?_
        refine WCall.mk _ _ (fat20 (q := evs b0 b1 b2 b3 (qn p)) (atF_eq va (evs_ge vb0.wk vb1.wk vb2.wk vb3.wk _) hto) _) ?_
        refine WCmp.yes (iEq_self _) ?_
        refine WCall.mk _ _ (f17_ok _) ?_; exact ⟨_, rfl⟩
    | false =>
      refine WCall.mk _ _ (fleq hab _) ?_
      have le := (law false hab).2 rfl
      refine WOut.mk _ (eq24b (a := mx a b) (b := b) (r := false) (decide_eq_false (fun h => le ((mx_eq_iff va vb).1 h)))) ?_
      refine WOut.mk _ rfl ?_
      have ap := apart_of va vb le
      refine WCall.mk _ _ (f34_ok a b _) ?_
      rw [ap]
      refine WCode.round (nt := 173) (fx := []) ?_
      refine WCmp.yes rfl ?_
      refine WOut.mk _ rfl ?_
      refine WCall.mk _ _ (f26_ok 12 b0 _) ?_
      cases mb0 : mayF b0 with
      | false => refine WCall.mk _ _ (f17_ok _) ?_; exact ⟨_, rfl⟩
      | true =>
      have vb0 := mayF_iff.1 mb0
      refine WOut.mk _ rfl ?_
      refine WCall.mk _ _ (fat20 (q := qn p) (atF_eq vb0 hq0 hq1) _) ?_
      refine WOut.mk _ rfl ?_
      refine WOut.mk _ rfl ?_
      refine WCode.round (nt := 173) (fx := []) ?_
      refine WCmp.yes rfl ?_
      refine WOut.mk _ rfl ?_
      refine WCall.mk _ _ (f26_ok 12 b1 _) ?_
      cases mb1 : mayF b1 with
      | false => refine WCall.mk _ _ (f17_ok _) ?_; exact ⟨_, rfl⟩
      | true =>
      have vb1 := mayF_iff.1 mb1
      refine WOut.mk _ rfl ?_
      refine WCall.mk _ _ (fat20 (q := qn p) (atF_eq vb1 hq0 hq1) _) ?_
      refine WOut.mk _ rfl ?_
      refine WOut.mk _ rfl ?_
      refine WCode.round (nt := 173) (fx := []) ?_
      refine WCmp.yes rfl ?_
      refine WOut.mk _ rfl ?_
      refine WCall.mk _ _ (f26_ok 12 b2 _) ?_
      cases mb2 : mayF b2 with
      | false => refine WCall.mk _ _ (f17_ok _) ?_; exact ⟨_, rfl⟩
      | true =>
      have vb2 := mayF_iff.1 mb2
      refine WOut.mk _ rfl ?_
      refine WCall.mk _ _ (fat20 (q := qn p) (atF_eq vb2 hq0 hq1) _) ?_
      refine WOut.mk _ rfl ?_
      refine WOut.mk _ rfl ?_
      refine WCode.round (nt := 173) (fx := []) ?_
      refine WCmp.yes rfl ?_
      refine WOut.mk _ rfl ?_
      refine WCall.mk _ _ (f26_ok 12 b3 _) ?_
      cases mb3 : mayF b3 with
      | false => refine WCall.mk _ _ (f17_ok _) ?_; exact ⟨_, rfl⟩
      | true =>
      have vb3 := mayF_iff.1 mb3
      refine WOut.mk _ rfl ?_
      refine WCall.mk _ _ (fat20 (q := qn p) (atF_eq vb3 hq0 hq1) _) ?_
      refine WOut.mk _ rfl ?_
      refine WOut.mk _ rfl ?_
      refine WCode.round (nt := 173) (fx := []) ?_
      refine WCmp.no rfl ?_
      obtain ⟨f, wf, nf, ef, rf⟩ := inst_spec va vb0 vb1 vb2 vb3
      cases mf : mayF f with
      | false =>
        rw [mf] at rf
        refine WCall.mk _ _ (finst rf (by simp) _) ?_
        refine ⟨rfl, ?_⟩
        refine WCmp.yes rfl ?_
        refine WCmp.yes rfl ?_
        refine WCall.mk _ _ (f17_ok _) ?_; exact ⟨_, rfl⟩
      | true =>
      rw [mf] at rf
      have vf := mayF_iff.1 mf
      refine WCall.mk _ _ (finst rf (by simp) _) ?_
      refine ⟨rfl, ?_⟩
      refine WCmp.no rfl ?_
      have hto : Le41 (evs b0 b1 b2 b3 (qn p)) := by
        have j0 := bd vb0; have j1 := bd vb1; have j2 := bd vb2; have j3 := bd vb3
        unfold TOP at j0 j1 j2 j3
        unfold Le41 FAR
        exact ⟨by show ev b0 (qn p) ≤ _; omega, by show ev b1 (qn p) ≤ _; omega, by show ev b2 (qn p) ≤ _; omega, by show ev b3 (qn p) ≤ _; omega⟩
      refine WCall.mk _ _ (fat20 (q := qn p) ((atF_eq vf hq0 hq1).trans (ef _ hq0)) _) ?_
      refine WCall.mk _ _ (fat20 (q := evs b0 b1 b2 b3 (qn p)) (atF_eq va (evs_ge vb0.wk vb1.wk vb2.wk vb3.wk _) hto) _) ?_
      refine WCmp.yes (iEq_self _) ?_
      refine WCall.mk _ _ (f17_ok _) ?_; exact ⟨_, rfl⟩
  | false =>
    have ea : succF a = (noLv, 4) := by rw [ka, ms]; rfl
    refine WCall.mk _ _ (fsucc ea _) ?_
    refine WCall.mk _ _ (fmax va vb rfl _) ?_
    refine WCmp.no rfl ?_
    refine WCmp.yes rfl ?_
    refine WCmp.no rfl ?_
    refine WCmp.no rfl ?_
    refine WCall.mk _ _ (fat20 (q := qn p) hm _) ?_
    refine WCmp.no (by rw [iEq_self]; rfl) ?_
    cases hab : leqF a b with
    | true =>
      refine WCall.mk _ _ (fleq hab _) ?_
      have le := (law true hab).1 rfl
      refine WCmp.no (iLt_not.2 (le.ev hq0 vb.wk)) ?_
      refine WOut.mk _ (eq24b (a := mx a b) (b := b) (r := true) (decide_eq_true ((mx_eq_iff va vb).2 le))) ?_
      refine WOut.mk _ rfl ?_
      cases hba : leqF b a with
      | true =>
        refine WCall.mk _ _ (fleq hba _) ?_
        refine WOut.mk _ (neq24b (a := a) (b := b) (r := true) (decide_eq_true (le_antisymm' va vb le ((leqF_iff vb va).1 hba)))) ?_
        refine WCode.round (nt := 173) (fx := []) ?_
        refine WCmp.yes rfl ?_
        refine WOut.mk _ rfl ?_
        refine WCall.mk _ _ (f26_ok 12 b0 _) ?_
        cases mb0 : mayF b0 with
        | false => refine WCall.mk _ _ (f17_ok _) ?_; exact ⟨_, rfl⟩
        | true =>
        have vb0 := mayF_iff.1 mb0
        refine WOut.mk _ rfl ?_
        refine WCall.mk _ _ (fat20 (q := qn p) (atF_eq vb0 hq0 hq1) _) ?_
        refine WOut.mk _ rfl ?_
        refine WOut.mk _ rfl ?_
        refine WCode.round (nt := 173) (fx := []) ?_
        refine WCmp.yes rfl ?_
        refine WOut.mk _ rfl ?_
        refine WCall.mk _ _ (f26_ok 12 b1 _) ?_
        cases mb1 : mayF b1 with
        | false => refine WCall.mk _ _ (f17_ok _) ?_; exact ⟨_, rfl⟩
        | true =>
        have vb1 := mayF_iff.1 mb1
        refine WOut.mk _ rfl ?_
        refine WCall.mk _ _ (fat20 (q := qn p) (atF_eq vb1 hq0 hq1) _) ?_
        refine WOut.mk _ rfl ?_
        refine WOut.mk _ rfl ?_
        refine WCode.round (nt := 173) (fx := []) ?_
        refine WCmp.yes rfl ?_
        refine WOut.mk _ rfl ?_
        refine WCall.mk _ _ (f26_ok 12 b2 _) ?_
        cases mb2 : mayF b2 with
        | false => refine WCall.mk _ _ (f17_ok _) ?_; exact ⟨_, rfl⟩
        | true =>
        have vb2 := mayF_iff.1 mb2
        refine WOut.mk _ rfl ?_
        refine WCall.mk _ _ (fat20 (q := qn p) (atF_eq vb2 hq0 hq1) _) ?_
        refine WOut.mk _ rfl ?_
        refine WOut.mk _ rfl ?_
        refine WCode.round (nt := 173) (fx := []) ?_
        refine WCmp.yes rfl ?_
        refine WOut.mk _ rfl ?_
        refine WCall.mk _ _ (f26_ok 12 b3 _) ?_
        cases mb3 : mayF b3 with
        | false => refine WCall.mk _ _ (f17_ok _) ?_; exact ⟨_, rfl⟩
        | true =>
        have vb3 := mayF_iff.1 mb3
        refine WOut.mk _ rfl ?_
        refine WCall.mk _ _ (fat20 (q := qn p) (atF_eq vb3 hq0 hq1) _) ?_
        refine WOut.mk _ rfl ?_
        refine WOut.mk _ rfl ?_
        refine WCode.round (nt := 173) (fx := []) ?_
        refine WCmp.no rfl ?_
        obtain ⟨f, wf, nf, ef, rf⟩ := inst_spec va vb0 vb1 vb2 vb3
        cases mf : mayF f with
        | false =>
          rw [mf] at rf
          refine WCall.mk _ _ (finst rf (by simp) _) ?_
          refine ⟨rfl, ?_⟩
          refine WCmp.yes rfl ?_
          refine WCmp.yes rfl ?_
          refine WCall.mk _ _ (f17_ok _) ?_; exact ⟨_, rfl⟩
        | true =>
        rw [mf] at rf
        have vf := mayF_iff.1 mf
        refine WCall.mk _ _ (finst rf (by simp) _) ?_
        refine ⟨rfl, ?_⟩
        refine WCmp.no rfl ?_
        have hto : Le41 (evs b0 b1 b2 b3 (qn p)) := by
          have j0 := bd vb0; have j1 := bd vb1; have j2 := bd vb2; have j3 := bd vb3
          unfold TOP at j0 j1 j2 j3
          unfold Le41 FAR
          exact ⟨by show ev b0 (qn p) ≤ _; omega, by show ev b1 (qn p) ≤ _; omega, by show ev b2 (qn p) ≤ _; omega, by show ev b3 (qn p) ≤ _; omega⟩
        refine WCall.mk _ _ (fat20 (q := qn p) ((atF_eq vf hq0 hq1).trans (ef _ hq0)) _) ?_
        refine WCall.mk _ _ (fat20 (q := evs b0 b1 b2 b3 (qn p)) (atF_eq va (evs_ge vb0.wk vb1.wk vb2.wk vb3.wk _) hto) _) ?_
        refine WCmp.yes (iEq_self _) ?_
        refine WCall.mk _ _ (f17_ok _) ?_; exact ⟨_, rfl⟩
      | false =>
        refine WCall.mk _ _ (fleq hba _) ?_
        refine WCode.round (nt := 173) (fx := []) ?_
        refine WCmp.yes rfl ?_
        refine WOut.mk _ rfl ?_
        refine WCall.mk _ _ (f26_ok 12 b0 _) ?_
        cases mb0 : mayF b0 with
        | false => refine WCall.mk _ _ (f17_ok _) ?_; exact ⟨_, rfl⟩
        | true =>
        have vb0 := mayF_iff.1 mb0
        refine WOut.mk _ rfl ?_
        refine WCall.mk _ _ (fat20 (q := qn p) (atF_eq vb0 hq0 hq1) _) ?_
        refine WOut.mk _ rfl ?_
        refine WOut.mk _ rfl ?_
        refine WCode.round (nt := 173) (fx := []) ?_
        refine WCmp.yes rfl ?_
        refine WOut.mk _ rfl ?_
        refine WCall.mk _ _ (f26_ok 12 b1 _) ?_
        cases mb1 : mayF b1 with
        | false => refine WCall.mk _ _ (f17_ok _) ?_; exact ⟨_, rfl⟩
        | true =>
        have vb1 := mayF_iff.1 mb1
        refine WOut.mk _ rfl ?_
        refine WCall.mk _ _ (fat20 (q := qn p) (atF_eq vb1 hq0 hq1) _) ?_
        refine WOut.mk _ rfl ?_
        refine WOut.mk _ rfl ?_
        refine WCode.round (nt := 173) (fx := []) ?_
        refine WCmp.yes rfl ?_
        refine WOut.mk _ rfl ?_
        refine WCall.mk _ _ (f26_ok 12 b2 _) ?_
        cases mb2 : mayF b2 with
        | false => refine WCall.mk _ _ (f17_ok _) ?_; exact ⟨_, rfl⟩
        | true =>
        have vb2 := mayF_iff.1 mb2
        refine WOut.mk _ rfl ?_
        refine WCall.mk _ _ (fat20 (q := qn p) (atF_eq vb2 hq0 hq1) _) ?_
        refine WOut.mk _ rfl ?_
        refine WOut.mk _ rfl ?_
        refine WCode.round (nt := 173) (fx := []) ?_
        refine WCmp.yes rfl ?_
        refine WOut.mk _ rfl ?_
        refine WCall.mk _ _ (f26_ok 12 b3 _) ?_
        cases mb3 : mayF b3 with
        | false => refine WCall.mk _ _ (f17_ok _) ?_; exact ⟨_, rfl⟩
        | true =>
        have vb3 := mayF_iff.1 mb3
        refine WOut.mk _ rfl ?_
        refine WCall.mk _ _ (fat20 (q := qn p) (atF_eq vb3 hq0 hq1) _) ?_
        refine WOut.mk _ rfl ?_
        refine WOut.mk _ rfl ?_
        refine WCode.round (nt := 173) (fx := []) ?_
        refine WCmp.no rfl ?_
        obtain ⟨f, wf, nf, ef, rf⟩ := inst_spec va vb0 vb1 vb2 vb3
        cases mf : mayF f with
        | false =>
          rw [mf] at rf
          refine WCall.mk _ _ (finst rf (by simp) _) ?_
          refine ⟨rfl, ?_⟩
          refine WCmp.yes rfl ?_
          refine WCmp.yes rfl ?_
          refine WCall.mk _ _ (f17_ok _) ?_; exact ⟨_, rfl⟩
        | true =>
        rw [mf] at rf
        have vf := mayF_iff.1 mf
        refine WCall.mk _ _ (finst rf (by simp) _) ?_
        refine ⟨rfl, ?_⟩
        refine WCmp.no rfl ?_
        have hto : Le41 (evs b0 b1 b2 b3 (qn p)) := by
          have j0 := bd vb0; have j1 := bd vb1; have j2 := bd vb2; have j3 := bd vb3
          unfold TOP at j0 j1 j2 j3
          unfold Le41 FAR
          exact ⟨by show ev b0 (qn p) ≤ _; omega, by show ev b1 (qn p) ≤ _; omega, by show ev b2 (qn p) ≤ _; omega, by show ev b3 (qn p) ≤ _; omega⟩
        refine WCall.mk _ _ (fat20 (q := qn p) ((atF_eq vf hq0 hq1).trans (ef _ hq0)) _) ?_
        refine WCall.mk _ _ (fat20 (q := evs b0 b1 b2 b3 (qn p)) (atF_eq va (evs_ge vb0.wk vb1.wk vb2.wk vb3.wk _) hto) _) ?_
        refine WCmp.yes (iEq_self _) ?_
        refine WCall.mk _ _ (f17_ok _) ?_; exact ⟨_, rfl⟩
    | false =>
      refine WCall.mk _ _ (fleq hab _) ?_
      have le := (law false hab).2 rfl
      refine WOut.mk _ (eq24b (a := mx a b) (b := b) (r := false) (decide_eq_false (fun h => le ((mx_eq_iff va vb).1 h)))) ?_
      refine WOut.mk _ rfl ?_
      have ap := apart_of va vb le
      refine WCall.mk _ _ (f34_ok a b _) ?_
      rw [ap]
      refine WCode.round (nt := 173) (fx := []) ?_
      refine WCmp.yes rfl ?_
      refine WOut.mk _ rfl ?_
      refine WCall.mk _ _ (f26_ok 12 b0 _) ?_
      cases mb0 : mayF b0 with
      | false => refine WCall.mk _ _ (f17_ok _) ?_; exact ⟨_, rfl⟩
      | true =>
      have vb0 := mayF_iff.1 mb0
      refine WOut.mk _ rfl ?_
      refine WCall.mk _ _ (fat20 (q := qn p) (atF_eq vb0 hq0 hq1) _) ?_
      refine WOut.mk _ rfl ?_
      refine WOut.mk _ rfl ?_
      refine WCode.round (nt := 173) (fx := []) ?_
      refine WCmp.yes rfl ?_
      refine WOut.mk _ rfl ?_
      refine WCall.mk _ _ (f26_ok 12 b1 _) ?_
      cases mb1 : mayF b1 with
      | false => refine WCall.mk _ _ (f17_ok _) ?_; exact ⟨_, rfl⟩
      | true =>
      have vb1 := mayF_iff.1 mb1
      refine WOut.mk _ rfl ?_
      refine WCall.mk _ _ (fat20 (q := qn p) (atF_eq vb1 hq0 hq1) _) ?_
      refine WOut.mk _ rfl ?_
      refine WOut.mk _ rfl ?_
      refine WCode.round (nt := 173) (fx := []) ?_
      refine WCmp.yes rfl ?_
      refine WOut.mk _ rfl ?_
      refine WCall.mk _ _ (f26_ok 12 b2 _) ?_
      cases mb2 : mayF b2 with
      | false => refine WCall.mk _ _ (f17_ok _) ?_; exact ⟨_, rfl⟩
      | true =>
      have vb2 := mayF_iff.1 mb2
      refine WOut.mk _ rfl ?_
      refine WCall.mk _ _ (fat20 (q := qn p) (atF_eq vb2 hq0 hq1) _) ?_
      refine WOut.mk _ rfl ?_
      refine WOut.mk _ rfl ?_
      refine WCode.round (nt := 173) (fx := []) ?_
      refine WCmp.yes rfl ?_
      refine WOut.mk _ rfl ?_
      refine WCall.mk _ _ (f26_ok 12 b3 _) ?_
      cases mb3 : mayF b3 with
      | false => refine WCall.mk _ _ (f17_ok _) ?_; exact ⟨_, rfl⟩
      | true =>
      have vb3 := mayF_iff.1 mb3
      refine WOut.mk _ rfl ?_
      refine WCall.mk _ _ (fat20 (q := qn p) (atF_eq vb3 hq0 hq1) _) ?_
      refine WOut.mk _ rfl ?_
      refine WOut.mk _ rfl ?_
      refine WCode.round (nt := 173) (fx := []) ?_
      refine WCmp.no rfl ?_
      obtain ⟨f, wf, nf, ef, rf⟩ := inst_spec va vb0 vb1 vb2 vb3
      cases mf : mayF f with
      | false =>
        rw [mf] at rf
        refine WCall.mk _ _ (finst rf (by simp) _) ?_
        refine ⟨rfl, ?_⟩
        refine WCmp.yes rfl ?_
        refine WCmp.yes rfl ?_
        refine WCall.mk _ _ (f17_ok _) ?_; exact ⟨_, rfl⟩
      | true =>
      rw [mf] at rf
      have vf := mayF_iff.1 mf
      refine WCall.mk _ _ (finst rf (by simp) _) ?_
      refine ⟨rfl, ?_⟩
      refine WCmp.no rfl ?_
      have hto : Le41 (evs b0 b1 b2 b3 (qn p)) := by
        have j0 := bd vb0; have j1 := bd vb1; have j2 := bd vb2; have j3 := bd vb3
        unfold TOP at j0 j1 j2 j3
        unfold Le41 FAR
        exact ⟨by show ev b0 (qn p) ≤ _; omega, by show ev b1 (qn p) ≤ _; omega, by show ev b2 (qn p) ≤ _; omega, by show ev b3 (qn p) ≤ _; omega⟩
      refine WCall.mk _ _ (fat20 (q := qn p) ((atF_eq vf hq0 hq1).trans (ef _ hq0)) _) ?_
      refine WCall.mk _ _ (fat20 (q := evs b0 b1 b2 b3 (qn p)) (atF_eq va (evs_ge vb0.wk vb1.wk vb2.wk vb3.wk _) hto) _) ?_
      refine WCmp.yes (iEq_self _) ?_
      refine WCall.mk _ _ (f17_ok _) ?_; exact ⟨_, rfl⟩

theorem law4 (us : List V) (h : Args Try.prog Try.f4.params.toList us) : ∃ n S', run Try.cfg n (.f 4) us St.empty = some (.bool true, S') := by
  rw [Try.params4] at h
  obtain ⟨a, r1, rfl, h1⟩ := arg24 h
  obtain ⟨b, r2, rfl, h2⟩ := arg24 h1
  obtain ⟨b0, b1, b2, b3, r3, rfl, h3⟩ := arg38 h2
  obtain ⟨p, r4, rfl, hp, h4⟩ := arg40 h3
  obtain rfl := arg_nil h4
  obtain ⟨S', hf⟩ := law4_frame a b b0 b1 b2 b3 p hp
  exact ⟨21, St.empty, run_val hf rfl rfl rfl rfl rfl⟩

end Go.Ev

namespace Go.Proofs.Ytidebmakgffjnaa
open Go.Ev Go.ChangeShapes Go.WideShapes Go.ChangeAt Go.RowKit

theorem evOwn : ownKnob Try.prog.godebug = none := by kernel_rfl
theorem evLaid : laidOutB Try.prog = true := by kernel_rfl
theorem evMaps : mapsRowed Try.prog = true := by kernel_rfl
noncomputable def evTypes : List Nat := [3, 22, 24, 38, 39, 40]
theorem evPlain : allB (plainT Try.prog evTypes) evTypes = true := by kernel_rfl
theorem evRead : allB (fun t => Try.prog.readableRec t) evTypes = true := by kernel_rfl
theorem evPar {ts : List Nat} (h : allB (fun t => memN t evTypes) ts = true) : ∀ t ∈ ts, memN t evTypes = true ∧ Try.prog.readableRec t = true :=
  fun t ht => ⟨allB_mem h t ht, allB_mem evRead t (memN_iff.1 (allB_mem h t ht))⟩

set_option maxRecDepth 100000 in
theorem levelMeans_lifted (hlaw : ∀ us, Args Try.prog Try.f4.params.toList us → ∃ n S', run Go.Ev.Try.cfg n (.f 4) us St.empty = some (.bool true, S')) (os : Os) (started : os.Started) (H : Type) (enc : TypeId × Value → H) :
    ReturnsInHanded {} Try.checked os 4 .any (Rows.levelMeansSpec.pre6 enc Try.prog Try.f4 Rows.levelMeansRow.domain false) (Rows.levelMeansSpec.post enc Try.prog Try.f4 false true false false) := by
  refine returnsInHanded_of_change (C := Try.checked) evOwn started (by kernel_rfl) Try.func4
    (ChangeSpec.witness6 (enc := enc) (C := Try.checked) false ⟨#[], #[.agg #[.int .i64 0, .int .i64 0, .int .i64 0, .int .i64 0, .int .i64 0], .agg #[.int .i64 0, .int .i64 0, .int .i64 0, .int .i64 0, .int .i64 0], .agg #[.int .i64 0, .int .i64 0, .int .i64 0, .int .i64 0, .int .i64 0, .int .i64 0, .int .i64 0, .int .i64 0, .int .i64 0, .int .i64 0, .int .i64 0, .int .i64 0, .int .i64 0, .int .i64 0, .int .i64 0, .int .i64 0, .int .i64 0, .int .i64 0, .int .i64 0, .int .i64 0], .agg #[.int .u32 0, .int .u32 0, .int .u32 0, .int .u32 0]], []⟩ 8 (by kernel_rfl) (by kernel_rfl) (by kernel_rfl) (by kernel_rfl)) ?_
  intro W base args ds gs before hval hW _ _
  exact law_contract (C := Go.Ev.Try.cfg) (P := Try.prog) (s := Rows.levelMeansSpec) Go.Ev.Try.runOk evLaid evMaps evPlain (evPar (by kernel_rfl)) (by kernel_rfl) rfl (tb := 4) (by kernel_rfl) Try.underlying4
    (fun _ ds hd => by
      match ds, (show ds.length = 4 from hd) with
      | [d1, d2, d3, d4], _ => rfl) hval hW hlaw

theorem levelMeans_of (hlaw : ∀ us, Args Try.prog Try.f4.params.toList us → ∃ n S', run Go.Ev.Try.cfg n (.f 4) us St.empty = some (.bool true, S')) : Rows.LevelMeansSaid :=
  OpenClaim.holds_of_wide 4 Try.f4 rfl rfl rfl rfl rfl rfl rfl ⟨rfl, rfl, rfl, rfl, rfl⟩ rfl rfl rfl rfl rfl (by kernel_rfl) Try.func4 (by kernel_rfl)
    (of_decide_eq_true (by kernel_rfl)) (by unfold Func.isWrapper; first | (rw [if_pos (by decide +kernel)]; kernel_rfl) | (rw [if_neg (by decide +kernel)]; exact ⟨rfl, rfl⟩))
    (fun os started H enc _ => levelMeans_lifted hlaw os started H enc)

end Go.Proofs.Ytidebmakgffjnaa

namespace Go.Proofs.Ytidebmakgffjnaa

/-- LevelMeans. -/
theorem levelMeans_holds : Rows.LevelMeansSaid := levelMeans_of (fun us h => Go.Ev.law4 us h)

end Go.Proofs.Ytidebmakgffjnaa
