/- The statement LevelPlays is proved: the law returns true at every input, and its arguments read behind the call as before. No condition (own work). -/
import Derived.Test.YtidebmakgffjnaaXl
import Derived.Test.YtidebmakgffjnaaRows
import Derived.WalkKit
import Derived.JoinedCond
/- Levels: LevelOrder (own work). -/
namespace Go.Ev
open Go.Proofs Go.RowKit
set_option maxRecDepth 100000

/-! ### In plain numbers -/

theorem mx_comm (a b : Lv) : mx a b = mx b a := by
  unfold mx
  rw [Int.max_comm a.c, Int.max_comm a.p0, Int.max_comm a.p1, Int.max_comm a.p2, Int.max_comm a.p3]

theorem mx_self {a : Lv} (ha : Vd a) : mx a a = a := by
  obtain ⟨a1, a2, a3, a4, a5, a6, a7⟩ := ha
  refine Lv.ext' ?_ ?_ ?_ ?_ ?_ <;> unfold mx <;> simp only []
  · split <;> omega
  all_goals omega

/-- The greatest of a level's numbers of parameters. -/
def Lv.top (l : Lv) : Int := max (max (max l.p0 l.p1) l.p2) l.p3

theorem le_max_iff' (x y z : Int) : x ≤ max y z ↔ x ≤ y ∨ x ≤ z := by omega

theorem le_top {x : Int} {l : Lv} : x ≤ l.top ↔ x ≤ l.p0 ∨ x ≤ l.p1 ∨ x ≤ l.p2 ∨ x ≤ l.p3 := by
  unfold Lv.top
  simp only [le_max_iff', or_assoc]

theorem top_lt {x : Int} {l : Lv} : l.top < x ↔ l.p0 < x ∧ l.p1 < x ∧ l.p2 < x ∧ l.p3 < x := by
  have := @le_top x l
  omega

theorem mx_c (a b : Lv) : (mx a b).c = if max a.c b.c ≤ max a.top b.top then 0 else max a.c b.c := by
  have e : (max a.c b.c ≤ max a.p0 b.p0 ∨ max a.c b.c ≤ max a.p1 b.p1 ∨ max a.c b.c ≤ max a.p2 b.p2 ∨ max a.c b.c ≤ max a.p3 b.p3) ↔ max a.c b.c ≤ max a.top b.top := by
    generalize max a.c b.c = x
    simp only [le_max_iff', le_top, or_assoc, or_left_comm]
  show (if max a.c b.c ≤ max a.p0 b.p0 ∨ max a.c b.c ≤ max a.p1 b.p1 ∨ max a.c b.c ≤ max a.p2 b.p2 ∨ max a.c b.c ≤ max a.p3 b.p3 then 0 else max a.c b.c) = _
  simp only [e]

theorem mx_top (a b : Lv) : (mx a b).top = max a.top b.top := by
  have h : ∀ x, x ≤ (mx a b).top ↔ x ≤ max a.top b.top := fun x => by
    rw [le_top]
    show (x ≤ max a.p0 b.p0 ∨ x ≤ max a.p1 b.p1 ∨ x ≤ max a.p2 b.p2 ∨ x ≤ max a.p3 b.p3) ↔ _
    simp only [le_max_iff', le_top, or_assoc, or_left_comm]
  have h1 := (h (mx a b).top).1 (Int.le_refl _)
  have h2 := (h (max a.top b.top)).2 (Int.le_refl _)
  omega

theorem mx_assoc {a b c : Lv} (ha : Vd a) (hb : Vd b) (hc : Vd c) : mx (mx a b) c = mx a (mx b c) := by
  refine Lv.ext' ?_ ?_ ?_ ?_ ?_
  · rw [mx_c, mx_c, mx_c, mx_c, mx_top, mx_top]
    have h1 := ha.1
    have h2 := hb.1
    have h3 := hc.1
    generalize a.top = x
    generalize b.top = y
    generalize c.top = z
    split <;> split <;> split <;> split <;> first | rfl | omega
  all_goals (show max (max _ _) _ = max _ (max _ _); omega)

theorem le_trans' {a b c : Lv} (h : Le a b) (k : Le b c) : Le a c := by
  obtain ⟨h0, h1, h2, h3, h4⟩ := h
  obtain ⟨k0, k1, k2, k3, k4⟩ := k
  exact ⟨by omega, by omega, by omega, by omega, by omega⟩

theorem Vd_zero : Vd zeroLv := by unfold Vd; simp

theorem le_zero {a : Lv} (ha : Vd a) : Le zeroLv a := by
  obtain ⟨a1, a2, a3, a4, a5, a6, a7⟩ := ha
  exact ⟨a3.1, a4.1, a5.1, a6.1, .inl a1⟩

theorem le_mx {a b : Lv} (ha : Vd a) (hb : Vd b) : Le a (mx a b) := by
  obtain ⟨a1, a2, a3, a4, a5, a6, a7⟩ := ha
  obtain ⟨b1, b2, b3, b4, b5, b6, b7⟩ := hb
  unfold Le mx
  simp only
  refine ⟨by omega, by omega, by omega, by omega, ?_⟩
  split <;> omega

theorem mx_le {a b c : Lv} (hb : Vd b) (hc : Vd c) (h : Le a c) : Le (mx a b) c ↔ Le b c := by
  obtain ⟨b1, b2, b3, b4, b5, b6, b7⟩ := hb
  obtain ⟨c1, c2, c3, c4, c5, c6, c7⟩ := hc
  obtain ⟨h0, h1, h2, h3, h4⟩ := h
  unfold Le mx
  simp only
  constructor
  · rintro ⟨k0, k1, k2, k3, k4⟩
    refine ⟨by omega, by omega, by omega, by omega, ?_⟩
    split at k4 <;> omega
  · rintro ⟨k0, k1, k2, k3, k4⟩
    refine ⟨by omega, by omega, by omega, by omega, ?_⟩
    split <;> omega

/-- One more. -/
noncomputable def sx (l : Lv) : Lv := formF (pl l 1)

theorem succF_eq {l : Lv} (hl : Vd l) : succF l = bif mayF (sx l) then (sx l, 0) else (noLv, 4) := by
  unfold succF toldF sx
  rw [mayF_iff.2 hl, plusF_eq hl (by omega) (by unfold TOP; omega)]
  rfl

theorem sx_p {l : Lv} (hl : Vd l) : ((sx l).p0 = l.p0 + 1 ∧ 0 ≤ l.p0 ∨ (sx l).p0 = -1 ∧ l.p0 = -1) ∧ ((sx l).p1 = l.p1 + 1 ∧ 0 ≤ l.p1 ∨ (sx l).p1 = -1 ∧ l.p1 = -1) ∧
    ((sx l).p2 = l.p2 + 1 ∧ 0 ≤ l.p2 ∨ (sx l).p2 = -1 ∧ l.p2 = -1) ∧ ((sx l).p3 = l.p3 + 1 ∧ 0 ≤ l.p3 ∨ (sx l).p3 = -1 ∧ l.p3 = -1) := by
  obtain ⟨a1, a2, a3, a4, a5, a6, a7⟩ := hl
  unfold sx
  rw [formF_eq]
  unfold pl
  simp only
  refine ⟨?_, ?_, ?_, ?_⟩ <;> split <;> omega

theorem sx_c {l : Lv} (hl : Vd l) : (sx l).c = if l.c + 1 ≤ (sx l).p0 ∨ l.c + 1 ≤ (sx l).p1 ∨ l.c + 1 ≤ (sx l).p2 ∨ l.c + 1 ≤ (sx l).p3 then 0 else l.c + 1 := by
  have h := form_c (l := pl l 1) (by show 0 ≤ l.c + 1; have := hl.1; omega)
  have e0 : (sx l).p0 = (pl l 1).p0 := by unfold sx; rw [formF_eq]
  have e1 : (sx l).p1 = (pl l 1).p1 := by unfold sx; rw [formF_eq]
  have e2 : (sx l).p2 = (pl l 1).p2 := by unfold sx; rw [formF_eq]
  have e3 : (sx l).p3 = (pl l 1).p3 := by unfold sx; rw [formF_eq]
  rw [e0, e1, e2, e3]
  exact h

theorem sx_top {l : Lv} (hl : Vd l) : (sx l).top = l.top + 1 ∧ 0 ≤ l.top ∨ (sx l).top = -1 ∧ l.top = -1 := by
  obtain ⟨e0, e1, e2, e3⟩ := sx_p hl
  have h : ∀ x, 1 ≤ x → (x ≤ (sx l).top ↔ x - 1 ≤ l.top) := fun x hx => by rw [le_top, le_top]; omega
  have h0 : -1 ≤ l.top := by rw [le_top]; obtain ⟨_, _, a3, _⟩ := hl; exact .inl a3.1
  have h0' : -1 ≤ (sx l).top := by rw [le_top]; left; omega
  by_cases hq : 0 ≤ l.top
  · left
    have h1 := (h (l.top + 1) (by omega)).2 (by omega)
    have h2 := (h (sx l).top (by omega)).1 (by omega)
    exact ⟨by omega, hq⟩
  · right
    refine ⟨?_, by omega⟩
    by_cases h3 : 1 ≤ (sx l).top
    · have := (h (sx l).top h3).1 (by omega); omega
    · have h4 : ¬ 0 ≤ (sx l).top := by
        rw [le_top]
        have : ¬ 0 ≤ l.top := hq
        rw [le_top] at this
        omega
      omega

theorem Vd_top {l : Lv} (hl : Vd l) : -1 ≤ l.top ∧ (l.c = 0 ∨ l.top < l.c) ∧ 0 ≤ l.c := by
  obtain ⟨a1, a2, a3, a4, a5, a6, a7⟩ := hl
  refine ⟨by rw [le_top]; exact .inl a3.1, ?_, a1⟩
  rw [top_lt]; exact a7

theorem sx_cases {a : Lv} (ha : Vd a) : ((sx a).c = a.c + 1 ∧ (a.c = 0 → a.top < 0)) ∨ ((sx a).c = 0 ∧ a.c = 0 ∧ 0 ≤ a.top) := by
  have hc := sx_c ha
  have ht := sx_top ha
  obtain ⟨v1, v2, v3⟩ := Vd_top ha
  simp only [← le_top] at hc
  split at hc
  · right; omega
  · left; omega

theorem Le_iff {a b : Lv} : Le a b ↔ (a.p0 ≤ b.p0 ∧ a.p1 ≤ b.p1 ∧ a.p2 ≤ b.p2 ∧ a.p3 ≤ b.p3) ∧ (a.c ≤ b.c ∨ a.c ≤ b.top) := by
  unfold Le
  rw [le_top]
  simp only [and_assoc]

theorem le_sx {a : Lv} (ha : Vd a) : Le a (sx a) ∧ ¬ Le (sx a) a := by
  have hc := sx_cases ha
  have ht := sx_top ha
  obtain ⟨e0, e1, e2, e3⟩ := sx_p ha
  obtain ⟨v1, v2, v3⟩ := Vd_top ha
  rw [Le_iff, Le_iff]
  constructor
  · exact ⟨⟨by omega, by omega, by omega, by omega⟩, by omega⟩
  · rintro ⟨⟨k0, k1, k2, k3⟩, k4⟩
    have : ¬ 0 ≤ a.top := by
      rw [le_top]
      rintro (h | h | h | h) <;> omega
    omega

theorem sx_mono {a b : Lv} (ha : Vd a) (hb : Vd b) : Le (sx a) (sx b) ↔ Le a b := by
  have hc := sx_cases ha
  have kc := sx_cases hb
  have ht := sx_top ha
  have kt := sx_top hb
  obtain ⟨e0, e1, e2, e3⟩ := sx_p ha
  obtain ⟨f0, f1, f2, f3⟩ := sx_p hb
  obtain ⟨v1, v2, v3⟩ := Vd_top ha
  obtain ⟨w1, w2, w3⟩ := Vd_top hb
  have q0 : (sx a).p0 ≤ (sx b).p0 ↔ a.p0 ≤ b.p0 := by omega
  have q1 : (sx a).p1 ≤ (sx b).p1 ↔ a.p1 ≤ b.p1 := by omega
  have q2 : (sx a).p2 ≤ (sx b).p2 ↔ a.p2 ≤ b.p2 := by omega
  have q3 : (sx a).p3 ≤ (sx b).p3 ↔ a.p3 ≤ b.p3 := by omega
  rw [Le_iff, Le_iff, q0, q1, q2, q3]
  clear q0 q1 q2 q3 e0 e1 e2 e3 f0 f1 f2 f3
  constructor
  · rintro ⟨h, k⟩
    have hp : a.top ≤ b.top := by
      obtain ⟨h0, h1, h2, h3⟩ := h
      have hh := (@le_top a.top a).1 (Int.le_refl _)
      rw [le_top]
      rcases hh with hh | hh | hh | hh
      · left; omega
      · right; left; omega
      · right; right; left; omega
      · right; right; right; omega
    exact ⟨h, by omega⟩
  · rintro ⟨h, k⟩
    have hp : a.top ≤ b.top := by
      obtain ⟨h0, h1, h2, h3⟩ := h
      have hh := (@le_top a.top a).1 (Int.le_refl _)
      rw [le_top]
      rcases hh with hh | hh | hh | hh
      · left; omega
      · right; left; omega
      · right; right; left; omega
      · right; right; right; omega
    exact ⟨h, by omega⟩

end Go.Ev

/- Levels: what a level means at numbers (own work). -/
namespace Go.Ev
open Go.Proofs Go.RowKit

/-- Numbers of a level from 0 on, and -1 where there is no parameter; not too great. -/
def Wk (l : Lv) : Prop := (0 ≤ l.c ∧ l.c ≤ 8796093022208) ∧ (-1 ≤ l.p0 ∧ l.p0 ≤ 8796093022208) ∧ (-1 ≤ l.p1 ∧ l.p1 ≤ 8796093022208) ∧ (-1 ≤ l.p2 ∧ l.p2 ≤ 8796093022208) ∧ (-1 ≤ l.p3 ∧ l.p3 ≤ 8796093022208)

theorem Vd.wk {l : Lv} (h : Vd l) : Wk l := by
  obtain ⟨a1, a2, a3, a4, a5, a6, a7⟩ := h
  unfold TOP at *
  exact ⟨⟨a1, by omega⟩, ⟨a3.1, by omega⟩, ⟨a4.1, by omega⟩, ⟨a5.1, by omega⟩, ⟨a6.1, by omega⟩⟩

/-- Numbers from 0 on. -/
def Ge0 (v : P4) : Prop := 0 ≤ v.p0 ∧ 0 ≤ v.p1 ∧ 0 ≤ v.p2 ∧ 0 ≤ v.p3

def tm (p v : Int) : Int := if p < 0 then 0 else v + p

theorem tm_neg {p v : Int} (h : p < 0) : tm p v = 0 := if_pos h
theorem tm_pos {p v : Int} (h : 0 ≤ p) : tm p v = v + p := if_neg (by omega)

/-- What a level is at numbers. -/
def ev (l : Lv) (v : P4) : Int := max (max (max (max l.c (tm l.p0 v.p0)) (tm l.p1 v.p1)) (tm l.p2 v.p2)) (tm l.p3 v.p3)

theorem max_le_iff' (x y z : Int) : max y z ≤ x ↔ y ≤ x ∧ z ≤ x := by omega

theorem ev_le {l : Lv} {v : P4} {x : Int} : ev l v ≤ x ↔ l.c ≤ x ∧ tm l.p0 v.p0 ≤ x ∧ tm l.p1 v.p1 ≤ x ∧ tm l.p2 v.p2 ≤ x ∧ tm l.p3 v.p3 ≤ x := by
  unfold ev
  simp only [max_le_iff', and_assoc]

theorem le_ev {l : Lv} {v : P4} {x : Int} : x ≤ ev l v ↔ x ≤ l.c ∨ x ≤ tm l.p0 v.p0 ∨ x ≤ tm l.p1 v.p1 ∨ x ≤ tm l.p2 v.p2 ∨ x ≤ tm l.p3 v.p3 := by
  unfold ev
  simp only [le_max_iff', or_assoc]

theorem eq_of_le {a b : Int} (h : ∀ x, a ≤ x ↔ b ≤ x) : a = b := Int.le_antisymm ((h b).2 (Int.le_refl b)) ((h a).1 (Int.le_refl a))

theorem ev_ge {l : Lv} {v : P4} (hl : Wk l) : 0 ≤ ev l v := le_ev.2 (.inl hl.1.1)

/-! ### The one form -/

/-- In the one form. -/
def Nf (l : Lv) : Prop := l.c = 0 ∨ (l.p0 < l.c ∧ l.p1 < l.c ∧ l.p2 < l.c ∧ l.p3 < l.c)

theorem form_nf {l : Lv} (hl : Wk l) : Nf (formF l) ∧ Wk (formF l) := by
  have hc := form_c hl.1.1
  have e0 : (formF l).p0 = l.p0 := by rw [formF_eq]
  have e1 : (formF l).p1 = l.p1 := by rw [formF_eq]
  have e2 : (formF l).p2 = l.p2 := by rw [formF_eq]
  have e3 : (formF l).p3 = l.p3 := by rw [formF_eq]
  obtain ⟨w0, w1, w2, w3, w4⟩ := hl
  unfold Nf Wk
  rw [e0, e1, e2, e3, hc]
  split
  · exact ⟨.inl rfl, ⟨by omega, by omega⟩, w1, w2, w3, w4⟩
  · exact ⟨.inr ⟨by omega, by omega, by omega, by omega⟩, w0, w1, w2, w3, w4⟩

theorem ev_form {l : Lv} (hl : Wk l) {v : P4} (hv : Ge0 v) : ev (formF l) v = ev l v := by
  have hc := form_c hl.1.1
  have e0 : (formF l).p0 = l.p0 := by rw [formF_eq]
  have e1 : (formF l).p1 = l.p1 := by rw [formF_eq]
  have e2 : (formF l).p2 = l.p2 := by rw [formF_eq]
  have e3 : (formF l).p3 = l.p3 := by rw [formF_eq]
  refine eq_of_le fun x => ?_
  rw [ev_le, ev_le, e0, e1, e2, e3, hc]
  obtain ⟨⟨w0, _⟩, _⟩ := hl
  obtain ⟨v0, v1, v2, v3⟩ := hv
  split
  · rename_i h
    constructor
    · rintro ⟨h1, h2, h3, h4, h5⟩
      refine ⟨?_, h2, h3, h4, h5⟩
      rcases h with h | h | h | h
      · rw [tm_pos (by omega)] at h2; omega
      · rw [tm_pos (by omega)] at h3; omega
      · rw [tm_pos (by omega)] at h4; omega
      · rw [tm_pos (by omega)] at h5; omega
    · rintro ⟨h1, h2, h3, h4, h5⟩
      exact ⟨by omega, h2, h3, h4, h5⟩
  · exact Iff.rfl

@[reducible] def FAR' : Int := 17592186044416

/-- All 0, but one great number. -/
def at0 : P4 := ⟨FAR', 0, 0, 0⟩
def at1 : P4 := ⟨0, FAR', 0, 0⟩
def at2 : P4 := ⟨0, 0, FAR', 0⟩
def at3 : P4 := ⟨0, 0, 0, FAR'⟩
def atz : P4 := ⟨0, 0, 0, 0⟩

theorem tm_le {p v x : Int} (hx : 0 ≤ x) : tm p v ≤ x ↔ (0 ≤ p → v + p ≤ x) := by
  unfold tm; split <;> omega

theorem far_iff {l : Lv} (hl : Wk l) : (∀ p : Int, 0 ≤ p → (ev l at0 ≤ FAR' + p ↔ l.p0 ≤ p)) ∧ (∀ p : Int, 0 ≤ p → (ev l at1 ≤ FAR' + p ↔ l.p1 ≤ p)) ∧ (∀ p : Int, 0 ≤ p → (ev l at2 ≤ FAR' + p ↔ l.p2 ≤ p)) ∧
    (∀ p : Int, 0 ≤ p → (ev l at3 ≤ FAR' + p ↔ l.p3 ≤ p)) := by
  obtain ⟨w0, w1, w2, w3, w4⟩ := hl
  unfold FAR'
  refine ⟨fun p hp => ?_, fun p hp => ?_, fun p hp => ?_, fun p hp => ?_⟩ <;>
  (rw [ev_le, tm_le (by omega), tm_le (by omega), tm_le (by omega), tm_le (by omega)]; (first | unfold at0 | unfold at1 | unfold at2 | unfold at3); unfold FAR'; simp only; omega)

theorem neg_iff {l : Lv} (hl : Wk l) : (ev l at0 < FAR' ↔ l.p0 < 0) ∧ (ev l at1 < FAR' ↔ l.p1 < 0) ∧ (ev l at2 < FAR' ↔ l.p2 < 0) ∧ (ev l at3 < FAR' ↔ l.p3 < 0) := by
  obtain ⟨w0, w1, w2, w3, w4⟩ := hl
  have h : ∀ x : Int, x < FAR' ↔ x ≤ FAR' - 1 := fun x => by omega
  unfold FAR' at *
  refine ⟨?_, ?_, ?_, ?_⟩ <;>
  (rw [h, ev_le, tm_le (by omega), tm_le (by omega), tm_le (by omega), tm_le (by omega)]; (first | unfold at0 | unfold at1 | unfold at2 | unfold at3); unfold FAR'; simp only; omega)

theorem far_eq {p q e : Int} (hp : -1 ≤ p) (hq : -1 ≤ q) (h1 : ∀ r : Int, 0 ≤ r → (e ≤ FAR' + r ↔ p ≤ r)) (h2 : ∀ r : Int, 0 ≤ r → (e ≤ FAR' + r ↔ q ≤ r)) (h3 : e < FAR' ↔ p < 0) (h4 : e < FAR' ↔ q < 0) : p = q := by
  by_cases h : p < 0
  · have := h4.1 (h3.2 h); omega
  · have hq0 : 0 ≤ q := by
      by_cases hh : q < 0
      · exact absurd (h3.1 (h4.2 hh)) h
      · omega
    have a := (h2 p (by omega)).1 ((h1 p (by omega)).2 (Int.le_refl p))
    have b := (h1 q hq0).1 ((h2 q hq0).2 (Int.le_refl q))
    omega

/-- Levels in the one form that are the same at all numbers are the same. -/
theorem ev_ext {a b : Lv} (ha : Wk a) (hb : Wk b) (na : Nf a) (nb : Nf b) (h : ∀ v, Ge0 v → ev a v = ev b v) : a = b := by
  have g0 : Ge0 at0 := by unfold Ge0 at0 FAR'; simp
  have g1 : Ge0 at1 := by unfold Ge0 at1 FAR'; simp
  have g2 : Ge0 at2 := by unfold Ge0 at2 FAR'; simp
  have g3 : Ge0 at3 := by unfold Ge0 at3 FAR'; simp
  have gz : Ge0 atz := by unfold Ge0 atz; simp
  obtain ⟨fa0, fa1, fa2, fa3⟩ := far_iff ha
  obtain ⟨fb0, fb1, fb2, fb3⟩ := far_iff hb
  obtain ⟨ga0, ga1, ga2, ga3⟩ := neg_iff ha
  obtain ⟨gb0, gb1, gb2, gb3⟩ := neg_iff hb
  rw [← h _ g0] at fb0 gb0
  rw [← h _ g1] at fb1 gb1
  rw [← h _ g2] at fb2 gb2
  rw [← h _ g3] at fb3 gb3
  have e0 := far_eq ha.2.1.1 hb.2.1.1 fa0 fb0 ga0 gb0
  have e1 := far_eq ha.2.2.1.1 hb.2.2.1.1 fa1 fb1 ga1 gb1
  have e2 := far_eq ha.2.2.2.1.1 hb.2.2.2.1.1 fa2 fb2 ga2 gb2
  have e3 := far_eq ha.2.2.2.2.1 hb.2.2.2.2.1 fa3 fb3 ga3 gb3
  refine Lv.ext' ?_ e0 e1 e2 e3
  have hz := h _ gz
  have key : ∀ x y : Lv, Wk x → Nf x → Wk y → x.p0 = y.p0 → x.p1 = y.p1 → x.p2 = y.p2 → x.p3 = y.p3 → ev x atz = ev y atz → x.c ≤ y.c := by
    intro x y wx nx wy e0 e1 e2 e3 hz
    have h1 : x.c ≤ ev y atz := by rw [← hz]; exact le_ev.2 (.inl (Int.le_refl _))
    rw [le_ev] at h1
    obtain ⟨⟨x0, _⟩, _⟩ := wx
    obtain ⟨⟨y0, _⟩, _⟩ := wy
    rcases nx with nx | ⟨n0, n1, n2, n3⟩
    · omega
    · have t : ∀ p : Int, p < x.c → x.c ≤ tm p 0 → x.c ≤ y.c := fun p hp ht => by unfold tm at ht; split at ht <;> omega
      rcases h1 with h1 | h1 | h1 | h1 | h1
      · exact h1
      · exact t y.p0 (by omega) h1
      · exact t y.p1 (by omega) h1
      · exact t y.p2 (by omega) h1
      · exact t y.p3 (by omega) h1
  exact Int.le_antisymm (key a b ha na hb e0 e1 e2 e3 hz) (key b a hb nb ha e0.symm e1.symm e2.symm e3.symm hz.symm)

end Go.Ev

/- Levels: what the functions of the package mean at numbers (own work). -/
namespace Go.Ev
open Go.Proofs Go.RowKit

theorem tm_max {p q v : Int} (hp : -1 ≤ p) (hq : -1 ≤ q) (hv : 0 ≤ v) : tm (max p q) v = max (tm p v) (tm q v) := by
  unfold tm
  split <;> split <;> split <;> omega

theorem joinW_eq {a b : Lv} (ha : Wk a) (hb : Wk b) : joinF a b = { c := max a.c b.c, p0 := max a.p0 b.p0, p1 := max a.p1 b.p1, p2 := max a.p2 b.p2, p3 := max a.p3 b.p3 } := by
  obtain ⟨a1, a2, a3, a4, a5⟩ := ha
  obtain ⟨b1, b2, b3, b4, b5⟩ := hb
  have e : joinF a b = { c := maxI a.c b.c, p0 := if b.p0 < 0 then a.p0 else maxI a.p0 b.p0, p1 := if b.p1 < 0 then a.p1 else maxI a.p1 b.p1, p2 := if b.p2 < 0 then a.p2 else maxI a.p2 b.p2, p3 := if b.p3 < 0 then a.p3 else maxI a.p3 b.p3 } := by
    unfold joinF foldP foldP foldP foldP foldP
    simp only [iLt_eq, cond_ite, decide_eq_true_eq]
    split <;> split <;> split <;> split <;> rfl
  rw [e]
  unfold maxI
  refine Lv.ext' ?_ ?_ ?_ ?_ ?_ <;> simp only [] <;> (repeat' split) <;> omega

theorem joinW {a b : Lv} (ha : Wk a) (hb : Wk b) : Wk (joinF a b) ∧ ∀ v, Ge0 v → ev (joinF a b) v = max (ev a v) (ev b v) := by
  rw [joinW_eq ha hb]
  obtain ⟨a1, a2, a3, a4, a5⟩ := ha
  obtain ⟨b1, b2, b3, b4, b5⟩ := hb
  constructor
  · exact ⟨⟨by simp only; omega, by simp only; omega⟩, ⟨by simp only; omega, by simp only; omega⟩, ⟨by simp only; omega, by simp only; omega⟩, ⟨by simp only; omega, by simp only; omega⟩, ⟨by simp only; omega, by simp only; omega⟩⟩
  · intro v hv
    obtain ⟨v0, v1, v2, v3⟩ := hv
    refine eq_of_le fun x => ?_
    rw [ev_le, max_le_iff' x (ev a v), ev_le, ev_le]
    simp only
    rw [tm_max a2.1 b2.1 v0, tm_max a3.1 b3.1 v1, tm_max a4.1 b4.1 v2, tm_max a5.1 b5.1 v3]
    simp only [max_le_iff']
    constructor
    · rintro ⟨⟨h1, h2⟩, ⟨h3, h4⟩, ⟨h5, h6⟩, ⟨h7, h8⟩, h9, h10⟩
      exact ⟨⟨h1, h3, h5, h7, h9⟩, h2, h4, h6, h8, h10⟩
    · rintro ⟨⟨h1, h3, h5, h7, h9⟩, h2, h4, h6, h8, h10⟩
      exact ⟨⟨h1, h2⟩, ⟨h3, h4⟩, ⟨h5, h6⟩, ⟨h7, h8⟩, h9, h10⟩

theorem tm_add {p v x n : Int} (hn : 0 ≤ n) (hx : 0 ≤ x - n) : tm (if p < 0 then p else p + n) v ≤ x ↔ tm p v ≤ x - n := by
  unfold tm
  repeat' split
  all_goals omega

theorem plW {l : Lv} (hl : Vd l) {n : Int} (h0 : 0 ≤ n) (hn : n ≤ TOP) : Wk (pl l n) ∧ ∀ v, ev (pl l n) v = ev l v + n := by
  obtain ⟨a1, a2, a3, a4, a5, a6, a7⟩ := hl
  unfold TOP at *
  constructor
  · unfold Wk pl
    simp only
    refine ⟨⟨by omega, by omega⟩, ⟨?_, ?_⟩, ⟨?_, ?_⟩, ⟨?_, ?_⟩, ⟨?_, ?_⟩⟩ <;> split <;> omega
  · intro v
    refine eq_of_le fun x => ?_
    rw [show ev l v + n ≤ x ↔ ev l v ≤ x - n by omega, ev_le, ev_le]
    unfold pl
    simp only
    constructor
    · rintro ⟨h1, h2, h3, h4, h5⟩
      have hx : 0 ≤ x - n := by omega
      rw [tm_add h0 hx] at h2 h3 h4 h5
      exact ⟨by omega, h2, h3, h4, h5⟩
    · rintro ⟨h1, h2, h3, h4, h5⟩
      have hx : 0 ≤ x - n := by omega
      rw [tm_add h0 hx, tm_add h0 hx, tm_add h0 hx, tm_add h0 hx]
      exact ⟨by omega, h2, h3, h4, h5⟩

theorem formj {a b : Lv} (ha : Vd a) (hb : Vd b) : formF (joinF a b) = mx a b := by
  rw [joinF_eq ha hb]
  refine Lv.ext' ?_ ?_ ?_ ?_ ?_
  · rw [form_c (by show 0 ≤ max a.c b.c; have := ha.1; omega)]; rfl
  all_goals (rw [formF_eq]; rfl)

theorem ev_mx {a b : Lv} (ha : Vd a) (hb : Vd b) {v : P4} (hv : Ge0 v) : ev (mx a b) v = max (ev a v) (ev b v) := by
  rw [← formj ha hb, ev_form (joinW ha.wk hb.wk).1 hv, (joinW ha.wk hb.wk).2 v hv]

theorem Vd.nf {l : Lv} (h : Vd l) : Nf l := h.2.2.2.2.2.2

theorem ev_sx {l : Lv} (hl : Vd l) {v : P4} (hv : Ge0 v) : ev (sx l) v = ev l v + 1 := by
  have h := plW hl (n := 1) (by omega) (by unfold TOP; omega)
  unfold sx
  rw [ev_form h.1 hv, h.2 v]

/-! ### Inst -/

/-- The numbers that four levels are. -/
def evs (b0 b1 b2 b3 : Lv) (v : P4) : P4 := ⟨ev b0 v, ev b1 v, ev b2 v, ev b3 v⟩

theorem evs_ge {b0 b1 b2 b3 : Lv} (h0 : Wk b0) (h1 : Wk b1) (h2 : Wk b2) (h3 : Wk b3) (v : P4) : Ge0 (evs b0 b1 b2 b3 v) := ⟨ev_ge h0, ev_ge h1, ev_ge h2, ev_ge h3⟩

theorem fold_one {bys : List Lv} {i p : Int} {ps : List Int} {out b : Lv} (hb : bys[i.toNat]? = some b) (ho : Wk out) (vb : Vd b) (hp : p ≤ TOP) :
    ∃ out', foldE (instStep bys) (p :: ps) i out = foldE (instStep bys) ps (i + 1) out' ∧ Wk out' ∧ ∀ v, Ge0 v → ev out' v = max (ev out v) (tm p (ev b v)) := by
  rw [foldE_cons]
  cases hq : iLt p 0 with
  | true =>
    rw [iLt_iff] at hq
    refine ⟨out, rfl, ho, fun v hv => ?_⟩
    rw [tm_neg hq]
    have := ev_ge (v := v) ho
    omega
  | false =>
    rw [iLt_not] at hq
    have e : instStep bys i p out = some (joinF out (pl b p)) := by
      unfold instStep
      rw [hb]
      show some (joinF out (plusF b p)) = _
      rw [plusF_eq vb hq hp]
    rw [e]
    have h := plW vb hq hp
    refine ⟨_, rfl, (joinW ho h.1).1, fun v hv => ?_⟩
    rw [(joinW ho h.1).2 v hv, h.2 v, tm_pos hq]

theorem inst_spec {l b0 b1 b2 b3 : Lv} (hl : Vd l) (h0 : Vd b0) (h1 : Vd b1) (h2 : Vd b2) (h3 : Vd b3) :
    ∃ f, Wk f ∧ Nf f ∧ (∀ v, Ge0 v → ev f v = ev l (evs b0 b1 b2 b3 v)) ∧ instF l [b0, b1, b2, b3] = bif mayF f then (f, 0) else (noLv, 4) := by
  have hz : Wk { zeroLv with c := l.c } := by
    obtain ⟨w0, _⟩ := hl.wk
    exact ⟨w0, by simp, by simp, by simp, by simp⟩
  have hl' := hl
  obtain ⟨a1, a2, a3, a4, a5, a6, a7⟩ := hl'
  obtain ⟨o0, e0, k0, r0⟩ := fold_one (bys := [b0, b1, b2, b3]) (i := 0) (p := l.p0) (ps := [l.p1, l.p2, l.p3]) rfl hz h0 a3.2
  obtain ⟨o1, e1, k1, r1⟩ := fold_one (bys := [b0, b1, b2, b3]) (i := 0 + 1) (p := l.p1) (ps := [l.p2, l.p3]) rfl k0 h1 a4.2
  obtain ⟨o2, e2, k2, r2⟩ := fold_one (bys := [b0, b1, b2, b3]) (i := 0 + 1 + 1) (p := l.p2) (ps := [l.p3]) rfl k1 h2 a5.2
  obtain ⟨o3, e3, k3, r3⟩ := fold_one (bys := [b0, b1, b2, b3]) (i := 0 + 1 + 1 + 1) (p := l.p3) (ps := []) rfl k2 h3 a6.2
  have hf : foldE (instStep [b0, b1, b2, b3]) l.ps 0 { zeroLv with c := l.c } = (true, o3) := by
    show foldE (instStep [b0, b1, b2, b3]) [l.p0, l.p1, l.p2, l.p3] 0 { zeroLv with c := l.c } = _
    rw [e0, e1, e2, e3]
    rfl
  refine ⟨formF o3, (form_nf k3).2, (form_nf k3).1, fun v hv => ?_, ?_⟩
  · rw [ev_form k3 hv, r3 v hv, r2 v hv, r1 v hv, r0 v hv]
    have : ev { zeroLv with c := l.c } v = l.c := by
      refine eq_of_le fun x => ?_
      rw [ev_le]
      simp only
      rw [tm_neg (by omega), tm_neg (by omega), tm_neg (by omega), tm_neg (by omega)]
      omega
    rw [this]
    rfl
  · unfold instF
    rw [hf]
    simp only [List.all_cons, List.all_nil, mayF_iff.2 hl, mayF_iff.2 h0, mayF_iff.2 h1, mayF_iff.2 h2, mayF_iff.2 h3, Bool.and_self]
    rfl

/-- The parameters themselves. -/
theorem ev_param : ∀ v, Ge0 v → evs (zeroLv.set 0 0) (zeroLv.set 1 0) (zeroLv.set 2 0) (zeroLv.set 3 0) v = v := by
  intro v hv
  obtain ⟨v0, v1, v2, v3⟩ := hv
  have h : ∀ (l : Lv) (y : Int), (∀ x, ev l v ≤ x ↔ y ≤ x) → ev l v = y := fun l y hh => eq_of_le hh
  have e0 : zeroLv.set 0 0 = ⟨0, 0, -1, -1, -1⟩ := rfl
  have e1 : zeroLv.set 1 0 = ⟨0, -1, 0, -1, -1⟩ := rfl
  have e2 : zeroLv.set 2 0 = ⟨0, -1, -1, 0, -1⟩ := rfl
  have e3 : zeroLv.set 3 0 = ⟨0, -1, -1, -1, 0⟩ := rfl
  unfold evs
  rw [e0, e1, e2, e3, h _ v.p0 (fun x => by rw [ev_le]; simp only [tm]; simp; omega), h _ v.p1 (fun x => by rw [ev_le]; simp only [tm]; simp; omega),
    h _ v.p2 (fun x => by rw [ev_le]; simp only [tm]; simp; omega), h _ v.p3 (fun x => by rw [ev_le]; simp only [tm]; simp; omega)]

theorem Vd_param : Vd (zeroLv.set 0 0) ∧ Vd (zeroLv.set 1 0) ∧ Vd (zeroLv.set 2 0) ∧ Vd (zeroLv.set 3 0) := by
  have e0 : zeroLv.set 0 0 = ⟨0, 0, -1, -1, -1⟩ := rfl
  have e1 : zeroLv.set 1 0 = ⟨0, -1, 0, -1, -1⟩ := rfl
  have e2 : zeroLv.set 2 0 = ⟨0, -1, -1, 0, -1⟩ := rfl
  have e3 : zeroLv.set 3 0 = ⟨0, -1, -1, -1, 0⟩ := rfl
  rw [e0, e1, e2, e3]
  unfold Vd TOP
  simp

/-! ### The calls, as the walks want them -/

theorem neq24 (a : Lv) : binOp Try.cfg .neq 24 (enc a) (enc a) = some (.bool false) := by rw [bin24n]; simp

theorem fmax {x y z : Lv} (hx : Vd x) (hy : Vd y) (h : mx x y = z) (S : St) : run Try.cfg 20 (.f 20) [enc x, enc y] S = some (encR (z, 0), S) := by
  rw [f20_ok 10 x y S, (maxF_eq hx hy).1, h]

theorem fleq {x y : Lv} {b : Bool} (h : leqF x y = b) (S : St) : run Try.cfg 20 (.f 28) [enc x, enc y] S = some (.bool b, S) := by
  rw [f28_ok 11 x y S, h]

theorem fsucc {x : Lv} {r : Lv × Int} (h : succF x = r) (S : St) : run Try.cfg 20 (.f 18) [enc x] S = some (encR r, S) := by
  rw [f18_ok 10 x S, h]

end Go.Ev

/- Levels: At, and levels that are apart, in plain numbers (own work). -/
namespace Go.Ev
open Go.Proofs Go.RowKit

/-- Numbers that At takes. -/
def Le41 (v : P4) : Prop := v.p0 ≤ FAR ∧ v.p1 ≤ FAR ∧ v.p2 ≤ FAR ∧ v.p3 ≤ FAR

theorem okFar_iff {p : Int} : okFar p = true ↔ 0 ≤ p ∧ p ≤ FAR := by
  unfold okFar
  rw [iLt_eq, iLt_eq]
  simp

theorem tm_ge {p v : Int} (hp : 0 ≤ v) : 0 ≤ tm p v := by unfold tm; split <;> omega

theorem at_step {m p q : Int} (hm : 0 ≤ m) (hq : 0 ≤ q) (hq2 : q ≤ FAR) (hp : p ≤ TOP) : (if p < 0 then m else maxI m (wrapI .i64 (q + p))) = max m (tm p q) := by
  unfold tm TOP FAR at *
  split
  · omega
  · rw [wrapI_id (by omega) (by omega)]
    unfold maxI
    split <;> omega

theorem atF_eq {l : Lv} (hl : Vd l) {q : P4} (h0 : Ge0 q) (h1 : Le41 q) : atF l q = ev l q := by
  obtain ⟨q0, q1, q2, q3⟩ := h0
  obtain ⟨r0, r1, r2, r3⟩ := h1
  have hm := mayF_iff.2 hl
  obtain ⟨a1, a2, a3, a4, a5, a6, a7⟩ := hl
  have e : atF l q = foldP (fun i p m => maxI m (wrapI .i64 (q.get i + p))) l.ps 0 l.c := by
    unfold atF
    rw [okFar_iff.2 ⟨q0, r0⟩, okFar_iff.2 ⟨q1, r1⟩, okFar_iff.2 ⟨q2, r2⟩, okFar_iff.2 ⟨q3, r3⟩, hm]
    rfl
  rw [e]
  unfold foldP foldP foldP foldP foldP
  simp only [iLt_eq, cond_ite, decide_eq_true_eq]
  have g0 : q.get 0 = q.p0 := rfl
  have g1 : q.get (0 + 1) = q.p1 := rfl
  have g2 : q.get (0 + 1 + 1) = q.p2 := rfl
  have g3 : q.get (0 + 1 + 1 + 1) = q.p3 := rfl
  rw [g0, g1, g2, g3]
  have m0 : 0 ≤ max l.c (tm l.p0 q.p0) := by omega
  have m1 : 0 ≤ max (max l.c (tm l.p0 q.p0)) (tm l.p1 q.p1) := by omega
  have m2 : 0 ≤ max (max (max l.c (tm l.p0 q.p0)) (tm l.p1 q.p1)) (tm l.p2 q.p2) := by omega
  rw [at_step a1 q0 r0 a3.2, at_step m0 q1 r1 a4.2, at_step m1 q2 r2 a5.2, at_step m2 q3 r3 a6.2]
  rfl

theorem tm_mono {p q v : Int} (h : p ≤ q) (hv : 0 ≤ v) : tm p v ≤ tm q v := by
  unfold tm; split <;> split <;> omega

theorem Le.ev {a b : Lv} (h : Le a b) {v : P4} (hv : Ge0 v) (hb : Wk b) : ev a v ≤ ev b v := by
  obtain ⟨h0, h1, h2, h3, h4⟩ := h
  obtain ⟨v0, v1, v2, v3⟩ := hv
  have hself := (@ev_le b v (Go.Ev.ev b v)).1 (Int.le_refl _)
  obtain ⟨k, k0, k1, k2, k3⟩ := hself
  have hge := ev_ge (v := v) hb
  rw [ev_le]
  have t0 := tm_mono h0 v0
  have t1 := tm_mono h1 v1
  have t2 := tm_mono h2 v2
  have t3 := tm_mono h3 v3
  refine ⟨?_, by omega, by omega, by omega, by omega⟩
  have w : ∀ p x : Int, 0 ≤ x → tm p x ≤ Go.Ev.ev b v → a.c ≤ p → a.c ≤ Go.Ev.ev b v := fun p x hx h1 h2 => by unfold tm at h1; split at h1 <;> omega
  rcases h4 with h4 | h4 | h4 | h4 | h4
  · omega
  · exact w _ _ v0 k0 h4
  · exact w _ _ v1 k1 h4
  · exact w _ _ v2 k2 h4
  · exact w _ _ v3 k3 h4

theorem mx_eq_iff {a b : Lv} (ha : Vd a) (hb : Vd b) : mx a b = b ↔ Le a b := by
  constructor
  · intro h
    have := le_mx ha hb
    rwa [h] at this
  · intro h
    refine ev_ext (maxF_eq ha hb).2.wk hb.wk (maxF_eq ha hb).2.nf hb.nf (fun v hv => ?_)
    rw [ev_mx ha hb hv]
    have := h.ev hv hb.wk
    omega

theorem le_antisymm' {a b : Lv} (ha : Vd a) (hb : Vd b) (h : Le a b) (k : Le b a) : a = b :=
  ev_ext ha.wk hb.wk ha.nf hb.nf (fun _ hv => Int.le_antisymm (h.ev hv hb.wk) (k.ev hv ha.wk))

@[reducible] def f0 : P4 := ⟨FAR, 0, 0, 0⟩
@[reducible] def f1 : P4 := ⟨0, FAR, 0, 0⟩
@[reducible] def f2 : P4 := ⟨0, 0, FAR, 0⟩
@[reducible] def f3 : P4 := ⟨0, 0, 0, FAR⟩
@[reducible] def fz : P4 := ⟨0, 0, 0, 0⟩

theorem le_of_tests {a b : Lv} (ha : Vd a) (hb : Vd b) (hz : ev a fz ≤ ev b fz) (h0 : ev a f0 ≤ ev b f0) (h1 : ev a f1 ≤ ev b f1) (h2 : ev a f2 ≤ ev b f2) (h3 : ev a f3 ≤ ev b f3) : Le a b := by
  have hz' := (@le_ev a fz a.c).2 (.inl (Int.le_refl _))
  have t0 := (@le_ev a f0 (tm a.p0 FAR)).2 (.inr (.inl (Int.le_refl _)))
  have t1 := (@le_ev a f1 (tm a.p1 FAR)).2 (.inr (.inr (.inl (Int.le_refl _))))
  have t2 := (@le_ev a f2 (tm a.p2 FAR)).2 (.inr (.inr (.inr (.inl (Int.le_refl _)))))
  have t3 := (@le_ev a f3 (tm a.p3 FAR)).2 (.inr (.inr (.inr (.inr (Int.le_refl _)))))
  have kz := (@le_ev b fz a.c).1 (by omega)
  have k0 := (@le_ev b f0 (tm a.p0 FAR)).1 (by omega)
  have k1 := (@le_ev b f1 (tm a.p1 FAR)).1 (by omega)
  have k2 := (@le_ev b f2 (tm a.p2 FAR)).1 (by omega)
  have k3 := (@le_ev b f3 (tm a.p3 FAR)).1 (by omega)
  clear hz h0 h1 h2 h3 hz' t0 t1 t2 t3
  obtain ⟨a1, a2, a3, a4, a5, a6, a7⟩ := ha
  obtain ⟨b1, b2, b3, b4, b5, b6, b7⟩ := hb
  clear a7 b7
  have big : ∀ p q : Int, q ≤ TOP → -1 ≤ q → q ≤ TOP → p ≤ TOP → -1 ≤ p → (tm p FAR ≤ tm q FAR ∨ tm p FAR ≤ TOP) → p ≤ q := fun p q _ _ _ _ _ h => by
    unfold tm FAR TOP at *
    split at h <;> split at h <;> omega
  have sm : ∀ p : Int, p ≤ TOP → tm p 0 ≤ TOP := fun p hp => by unfold tm TOP at *; split <;> omega
  have s0 := sm b.p0 b3.2
  have s1 := sm b.p1 b4.2
  have s2 := sm b.p2 b5.2
  have s3 := sm b.p3 b6.2
  refine ⟨big _ _ b3.2 b3.1 b3.2 a3.2 a3.1 ?_, big _ _ b4.2 b4.1 b4.2 a4.2 a4.1 ?_, big _ _ b5.2 b5.1 b5.2 a5.2 a5.1 ?_, big _ _ b6.2 b6.1 b6.2 a6.2 a6.1 ?_, ?_⟩
  · rcases k0 with k | k | k | k | k
    · right; omega
    · left; exact k
    all_goals (right; have k' : tm a.p0 FAR ≤ tm _ 0 := k; omega)
  · rcases k1 with k | k | k | k | k
    · right; omega
    · right; have k' : tm a.p1 FAR ≤ tm b.p0 0 := k; omega
    · left; exact k
    all_goals (right; have k' : tm a.p1 FAR ≤ tm _ 0 := k; omega)
  · rcases k2 with k | k | k | k | k
    · right; omega
    · right; have k' : tm a.p2 FAR ≤ tm b.p0 0 := k; omega
    · right; have k' : tm a.p2 FAR ≤ tm b.p1 0 := k; omega
    · left; exact k
    · right; have k' : tm a.p2 FAR ≤ tm b.p3 0 := k; omega
  · rcases k3 with k | k | k | k | k
    · right; omega
    · right; have k' : tm a.p3 FAR ≤ tm b.p0 0 := k; omega
    · right; have k' : tm a.p3 FAR ≤ tm b.p1 0 := k; omega
    · right; have k' : tm a.p3 FAR ≤ tm b.p2 0 := k; omega
    · left; exact k
  · have z : ∀ p : Int, a.c ≤ tm p 0 → a.c ≤ p ∨ a.c ≤ b.c := fun p hp => by unfold tm at hp; split at hp <;> omega
    rcases kz with k | k | k | k | k
    · exact .inl k
    · rcases z b.p0 k with h | h
      · exact .inr (.inl h)
      · exact .inl h
    · rcases z b.p1 k with h | h
      · exact .inr (.inr (.inl h))
      · exact .inl h
    · rcases z b.p2 k with h | h
      · exact .inr (.inr (.inr (.inl h)))
      · exact .inl h
    · rcases z b.p3 k with h | h
      · exact .inr (.inr (.inr (.inr h)))
      · exact .inl h

/-- Are there numbers, of those that are tried, at which one is above the other one? -/
noncomputable def apartF (a b : Lv) : Bool := iLt (atF b fz) (atF a fz) || (iLt (atF b f0) (atF a f0) || (iLt (atF b f1) (atF a f1) || (iLt (atF b f2) (atF a f2) || iLt (atF b f3) (atF a f3))))

theorem apart_of {a b : Lv} (ha : Vd a) (hb : Vd b) (h : ¬ Le a b) : apartF a b = true := by
  cases hq : apartF a b with
  | true => rfl
  | false =>
    exfalso
    unfold apartF at hq
    simp only [Bool.or_eq_false_iff, iLt_not] at hq
    obtain ⟨qz, q0, q1, q2, q3⟩ := hq
    have gz : Ge0 fz ∧ Le41 fz := by unfold Ge0 Le41 FAR; simp
    have g0 : Ge0 f0 ∧ Le41 f0 := by unfold Ge0 Le41 FAR; simp
    have g1 : Ge0 f1 ∧ Le41 f1 := by unfold Ge0 Le41 FAR; simp
    have g2 : Ge0 f2 ∧ Le41 f2 := by unfold Ge0 Le41 FAR; simp
    have g3 : Ge0 f3 ∧ Le41 f3 := by unfold Ge0 Le41 FAR; simp
    rw [atF_eq ha gz.1 gz.2, atF_eq hb gz.1 gz.2] at qz
    rw [atF_eq ha g0.1 g0.2, atF_eq hb g0.1 g0.2] at q0
    rw [atF_eq ha g1.1 g1.2, atF_eq hb g1.1 g1.2] at q1
    rw [atF_eq ha g2.1 g2.2, atF_eq hb g2.1 g2.2] at q2
    rw [atF_eq ha g3.1 g3.2, atF_eq hb g3.1 g3.2] at q3
    exact h (le_of_tests ha hb qz q0 q1 q2 q3)

theorem ev_bound {l : Lv} (hl : Vd l) {v : P4} (hv : Ge0 v) {k : Int} (h0 : v.p0 ≤ k) (h1 : v.p1 ≤ k) (h2 : v.p2 ≤ k) (h3 : v.p3 ≤ k) : ev l v ≤ TOP + k := by
  obtain ⟨a1, a2, a3, a4, a5, a6, a7⟩ := hl
  obtain ⟨v0, v1, v2, v3⟩ := hv
  have t : ∀ p x : Int, p ≤ TOP → 0 ≤ x → x ≤ k → tm p x ≤ TOP + k := fun p x hp hx hk => by unfold tm TOP at *; split <;> omega
  rw [ev_le]
  exact ⟨by omega, t _ _ a3.2 v0 h0, t _ _ a4.2 v1 h1, t _ _ a5.2 v2 h2, t _ _ a6.2 v3 h3⟩

end Go.Ev

/- Levels: the document's functions (written by lvr.py; own work). -/
namespace Go.Ev
open Go.Proofs Go.RowKit
set_option maxRecDepth 100000

theorem r33_ok (n : Nat) (S : St) : run Try.cfg (n + 1) (.f 33) [] S = some (enc zeroLv, S) :=
  run_val (v := enc zeroLv) (S' := St.empty) (frame_of Try.cfg _ (fn := Try.f33) rfl rfl rfl) rfl rfl rfl rfl rfl

theorem r25_frame (n : Nat) (i : Int) : frame Try.cfg (run Try.cfg (n + 1)) (n + 1) 25 [.int .i64 i] St.empty = some (encR (paramF i), St.empty) := by
  refine frame_of Try.cfg _ (fn := Try.f25) rfl rfl ?_
  refine WCmp.mk (fun h => ?_) (fun h => ?_)
  · rw [show paramF i = (noLv, 1) by simp [paramF, h]]; rfl
  · refine WCmp.mk (fun h2 => ?_) (fun h2 => ?_)
    · rw [show paramF i = (noLv, 1) by simp [paramF, h2]]; rfl
    · have h3 := iLt_not.1 h
      have h4 : i < 4 := iLt_iff.1 (by simpa using h2)
      have h5 : i = 0 ∨ i = 1 ∨ i = 2 ∨ i = 3 := by omega
      refine WCall.mk _ _ (r33_ok n _) ?_
      rcases h5 with rfl | rfl | rfl | rfl <;> (refine WOut.mk _ rfl ?_; rfl)

theorem r25_ok (n : Nat) (i : Int) (S : St) : run Try.cfg (n + 2) (.f 25) [.int .i64 i] S = some (encR (paramF i), S) := run_val (r25_frame n i) rfl rfl rfl rfl rfl

/-! ### May -/

noncomputable def okR (c p : Int) : Bool := !iLt p (-1) && (!iLt TOP p && !(!iLt p c && (!iLt p 0 && iLt 0 c)))
noncomputable def mayR (l : Lv) : Bool := !iLt l.c 0 && (!iLt TOP l.c && (okR l.c l.p0 && (okR l.c l.p1 && (okR l.c l.p2 && okR l.c l.p3))))

noncomputable def f27L : Code := loopN Try.f27 0

theorem f27_at0 (R : Run) (k j : Nat) (l : Lv) (S : St) (K : Ex → Env → St → Prop) (hx : okR l.c l.p0 = false → K .ret { nt := 49, tmps := [(2, .bool false)], locs := [(1, cellsOf l)], fix := [] } S)
    (hn : okR l.c l.p0 = true → WCode (iter (evalCode Try.cfg R k 27 (Try.cfg.fc 27) f27L) j { nt := 49, tmps := [(1, .ptr (.loc 1) 0), (3, .int .i64 1)], locs := [(1, cellsOf l)], fix := [] } S) K) :
    WCode (iter (evalCode Try.cfg R k 27 (Try.cfg.fc 27) f27L) (j + 1) { nt := 49, tmps := [(1, .ptr (.loc 1) 0), (3, .int .i64 0)], locs := [(1, cellsOf l)], fix := [] } S) K := by
  refine WCode.round (nt := 49) (fx := []) ?_
  refine WCmp.yes rfl ?_
  refine WOut.mk _ rfl ?_
  refine WCmp.mk (fun h1 => ?_) (fun h1 => ?_)
  · exact hx (by simp [okR, h1])
  refine WOut.mk _ rfl ?_
  refine WCmp.mk (fun h2 => ?_) (fun h2 => ?_)
  · exact hx (by simp [okR, h2])
  refine WOut.mk _ rfl ?_
  refine WCmp.mk (fun h3 => ?_) (fun h3 => ?_)
  · refine WOut.mk _ rfl ?_
    refine WCmp.mk (fun h4 => ?_) (fun h4 => ?_)
    · refine WCmp.mk (fun h5 => ?_) (fun h5 => ?_)
      · exact hx (by simp at h3 h4; simp [okR, h3, h4, h5])
      · refine WOut.mk _ rfl ?_
        exact hn (by simp [okR, h1, h2, h5])
    · refine WOut.mk _ rfl ?_
      exact hn (by simp at h4; simp [okR, h1, h2, h4])
  · refine WOut.mk _ rfl ?_
    exact hn (by simp at h3; simp [okR, h1, h2, h3])

theorem f27_at1 (R : Run) (k j : Nat) (l : Lv) (S : St) (K : Ex → Env → St → Prop) (hx : okR l.c l.p1 = false → K .ret { nt := 49, tmps := [(2, .bool false)], locs := [(1, cellsOf l)], fix := [] } S)
    (hn : okR l.c l.p1 = true → WCode (iter (evalCode Try.cfg R k 27 (Try.cfg.fc 27) f27L) j { nt := 49, tmps := [(1, .ptr (.loc 1) 0), (3, .int .i64 2)], locs := [(1, cellsOf l)], fix := [] } S) K) :
    WCode (iter (evalCode Try.cfg R k 27 (Try.cfg.fc 27) f27L) (j + 1) { nt := 49, tmps := [(1, .ptr (.loc 1) 0), (3, .int .i64 1)], locs := [(1, cellsOf l)], fix := [] } S) K := by
  refine WCode.round (nt := 49) (fx := []) ?_
  refine WCmp.yes rfl ?_
  refine WOut.mk _ rfl ?_
  refine WCmp.mk (fun h1 => ?_) (fun h1 => ?_)
  · exact hx (by simp [okR, h1])
  refine WOut.mk _ rfl ?_
  refine WCmp.mk (fun h2 => ?_) (fun h2 => ?_)
  · exact hx (by simp [okR, h2])
  refine WOut.mk _ rfl ?_
  refine WCmp.mk (fun h3 => ?_) (fun h3 => ?_)
  · refine WOut.mk _ rfl ?_
    refine WCmp.mk (fun h4 => ?_) (fun h4 => ?_)
    · refine WCmp.mk (fun h5 => ?_) (fun h5 => ?_)
      · exact hx (by simp at h3 h4; simp [okR, h3, h4, h5])
      · refine WOut.mk _ rfl ?_
        exact hn (by simp [okR, h1, h2, h5])
    · refine WOut.mk _ rfl ?_
      exact hn (by simp at h4; simp [okR, h1, h2, h4])
  · refine WOut.mk _ rfl ?_
    exact hn (by simp at h3; simp [okR, h1, h2, h3])

theorem f27_at2 (R : Run) (k j : Nat) (l : Lv) (S : St) (K : Ex → Env → St → Prop) (hx : okR l.c l.p2 = false → K .ret { nt := 49, tmps := [(2, .bool false)], locs := [(1, cellsOf l)], fix := [] } S)
    (hn : okR l.c l.p2 = true → WCode (iter (evalCode Try.cfg R k 27 (Try.cfg.fc 27) f27L) j { nt := 49, tmps := [(1, .ptr (.loc 1) 0), (3, .int .i64 3)], locs := [(1, cellsOf l)], fix := [] } S) K) :
    WCode (iter (evalCode Try.cfg R k 27 (Try.cfg.fc 27) f27L) (j + 1) { nt := 49, tmps := [(1, .ptr (.loc 1) 0), (3, .int .i64 2)], locs := [(1, cellsOf l)], fix := [] } S) K := by
  refine WCode.round (nt := 49) (fx := []) ?_
  refine WCmp.yes rfl ?_
  refine WOut.mk _ rfl ?_
  refine WCmp.mk (fun h1 => ?_) (fun h1 => ?_)
  · exact hx (by simp [okR, h1])
  refine WOut.mk _ rfl ?_
  refine WCmp.mk (fun h2 => ?_) (fun h2 => ?_)
  · exact hx (by simp [okR, h2])
  refine WOut.mk _ rfl ?_
  refine WCmp.mk (fun h3 => ?_) (fun h3 => ?_)
  · refine WOut.mk _ rfl ?_
    refine WCmp.mk (fun h4 => ?_) (fun h4 => ?_)
    · refine WCmp.mk (fun h5 => ?_) (fun h5 => ?_)
      · exact hx (by simp at h3 h4; simp [okR, h3, h4, h5])
      · refine WOut.mk _ rfl ?_
        exact hn (by simp [okR, h1, h2, h5])
    · refine WOut.mk _ rfl ?_
      exact hn (by simp at h4; simp [okR, h1, h2, h4])
  · refine WOut.mk _ rfl ?_
    exact hn (by simp at h3; simp [okR, h1, h2, h3])

theorem f27_at3 (R : Run) (k j : Nat) (l : Lv) (S : St) (K : Ex → Env → St → Prop) (hx : okR l.c l.p3 = false → K .ret { nt := 49, tmps := [(2, .bool false)], locs := [(1, cellsOf l)], fix := [] } S)
    (hn : okR l.c l.p3 = true → WCode (iter (evalCode Try.cfg R k 27 (Try.cfg.fc 27) f27L) j { nt := 49, tmps := [(1, .ptr (.loc 1) 0), (3, .int .i64 4)], locs := [(1, cellsOf l)], fix := [] } S) K) :
    WCode (iter (evalCode Try.cfg R k 27 (Try.cfg.fc 27) f27L) (j + 1) { nt := 49, tmps := [(1, .ptr (.loc 1) 0), (3, .int .i64 3)], locs := [(1, cellsOf l)], fix := [] } S) K := by
  refine WCode.round (nt := 49) (fx := []) ?_
  refine WCmp.yes rfl ?_
  refine WOut.mk _ rfl ?_
  refine WCmp.mk (fun h1 => ?_) (fun h1 => ?_)
  · exact hx (by simp [okR, h1])
  refine WOut.mk _ rfl ?_
  refine WCmp.mk (fun h2 => ?_) (fun h2 => ?_)
  · exact hx (by simp [okR, h2])
  refine WOut.mk _ rfl ?_
  refine WCmp.mk (fun h3 => ?_) (fun h3 => ?_)
  · refine WOut.mk _ rfl ?_
    refine WCmp.mk (fun h4 => ?_) (fun h4 => ?_)
    · refine WCmp.mk (fun h5 => ?_) (fun h5 => ?_)
      · exact hx (by simp at h3 h4; simp [okR, h3, h4, h5])
      · refine WOut.mk _ rfl ?_
        exact hn (by simp [okR, h1, h2, h5])
    · refine WOut.mk _ rfl ?_
      exact hn (by simp at h4; simp [okR, h1, h2, h4])
  · refine WOut.mk _ rfl ?_
    exact hn (by simp at h3; simp [okR, h1, h2, h3])

theorem r27_frame (R : Run) (n : Nat) (l : Lv) : frame Try.cfg R (n + 5) 27 [enc l] St.empty = some (.bool (mayR l), St.empty) := by
  refine frame_of Try.cfg _ (fn := Try.f27) rfl rfl ?_
  refine WCmp.mk (fun a1 => ?_) (fun a1 => ?_)
  · rw [show mayR l = false by simp [mayR, a1]]; rfl
  refine WCmp.mk (fun a2 => ?_) (fun a2 => ?_)
  · rw [show mayR l = false by simp [mayR, a2]]; rfl
  refine f27_at0 R _ _ l _ _ (fun h => ?_) (fun h0 => ?_)
  · rw [show mayR l = false by simp [mayR, h]]; rfl
  refine f27_at1 R _ _ l _ _ (fun h => ?_) (fun h1 => ?_)
  · rw [show mayR l = false by simp [mayR, h]]; rfl
  refine f27_at2 R _ _ l _ _ (fun h => ?_) (fun h2 => ?_)
  · rw [show mayR l = false by simp [mayR, h]]; rfl
  refine f27_at3 R _ _ l _ _ (fun h => ?_) (fun h3 => ?_)
  · rw [show mayR l = false by simp [mayR, h]]; rfl
  refine WCode.round (nt := 49) (fx := []) ?_
  refine WCmp.no rfl ?_
  rw [show mayR l = true by simp [mayR, *]]
  rfl

theorem mayR_eq (l : Lv) : mayR l = mayF l := by
  rw [Bool.eq_iff_iff, mayF_iff]
  unfold mayR okR Vd
  simp only [Bool.and_eq_true, Bool.not_eq_true', iLt_not, Bool.and_eq_false_iff, Bool.not_eq_false', iLt_iff]
  constructor
  · rintro ⟨h1, h2, ⟨a1, a2, a3⟩, ⟨b1, b2, b3⟩, ⟨c1, c2, c3⟩, d1, d2, d3⟩
    exact ⟨h1, h2, ⟨a1, a2⟩, ⟨b1, b2⟩, ⟨c1, c2⟩, ⟨d1, d2⟩, by omega⟩
  · rintro ⟨h1, h2, ⟨a1, a2⟩, ⟨b1, b2⟩, ⟨c1, c2⟩, ⟨d1, d2⟩, h⟩
    exact ⟨h1, h2, ⟨a1, a2, by omega⟩, ⟨b1, b2, by omega⟩, ⟨c1, c2, by omega⟩, d1, d2, by omega⟩

theorem r27_ok (n : Nat) (l : Lv) (S : St) : run Try.cfg (n + 6) (.f 27) [enc l] S = some (.bool (mayF l), S) := by
  rw [← mayR_eq]
  exact run_val (r27_frame _ n l) rfl rfl rfl rfl rfl

/-! ### form -/

noncomputable def gs (p c : Int) : Int := bif iLt p 0 then c else fstep p c

theorem gs_eq (p c : Int) : gs p c = fs p c := by
  unfold gs fs fstep
  simp only [iLt_eq, cond_ite, decide_eq_true_eq]

noncomputable def f111L : Code := loopN Try.f111 0

theorem f111_at0 (R : Run) (k j : Nat) (c p0 p1 p2 p3 : Int) (S : St) (K : Ex → Env → St → Prop)
    (hn : WCode (iter (evalCode Try.cfg R k 111 (Try.cfg.fc 111) f111L) j { nt := 24, tmps := [(1, .ptr (.loc 1) 0), (2, .ptr (.loc 2) 0), (3, .int .i64 1)], locs := [(1, [.int .i64 (gs p0 c), .int .i64 p0, .int .i64 p1, .int .i64 p2, .int .i64 p3]), (2, zeros)], fix := [] } S) K) :
    WCode (iter (evalCode Try.cfg R k 111 (Try.cfg.fc 111) f111L) (j + 1) { nt := 24, tmps := [(1, .ptr (.loc 1) 0), (2, .ptr (.loc 2) 0), (3, .int .i64 0)], locs := [(1, [.int .i64 c, .int .i64 p0, .int .i64 p1, .int .i64 p2, .int .i64 p3]), (2, zeros)], fix := [] } S) K := by
  refine WCode.round (nt := 24) (fx := []) ?_
  refine WCmp.yes rfl ?_
  refine WOut.mk _ rfl ?_
  refine WCmp.mk (fun h1 => ?_) (fun h1 => ?_)
  · refine WOut.mk _ rfl ?_
    refine WCmp.mk (fun h2 => ?_) (fun h2 => ?_)
    · refine WOut.mk _ rfl ?_
      rw [show gs p0 c = 0 by simp at h1 h2; simp [gs, fstep, h1, h2]] at hn
      exact hn
    · refine WOut.mk _ rfl ?_
      rw [show gs p0 c = c by simp at h1 h2; simp [gs, fstep, h2]] at hn
      exact hn
  · refine WOut.mk _ rfl ?_
    rw [show gs p0 c = c by simp at h1; simp [gs, h1]] at hn
    exact hn

theorem f111_at1 (R : Run) (k j : Nat) (c p0 p1 p2 p3 : Int) (S : St) (K : Ex → Env → St → Prop)
    (hn : WCode (iter (evalCode Try.cfg R k 111 (Try.cfg.fc 111) f111L) j { nt := 24, tmps := [(1, .ptr (.loc 1) 0), (2, .ptr (.loc 2) 0), (3, .int .i64 2)], locs := [(1, [.int .i64 (gs p1 c), .int .i64 p0, .int .i64 p1, .int .i64 p2, .int .i64 p3]), (2, zeros)], fix := [] } S) K) :
    WCode (iter (evalCode Try.cfg R k 111 (Try.cfg.fc 111) f111L) (j + 1) { nt := 24, tmps := [(1, .ptr (.loc 1) 0), (2, .ptr (.loc 2) 0), (3, .int .i64 1)], locs := [(1, [.int .i64 c, .int .i64 p0, .int .i64 p1, .int .i64 p2, .int .i64 p3]), (2, zeros)], fix := [] } S) K := by
  refine WCode.round (nt := 24) (fx := []) ?_
  refine WCmp.yes rfl ?_
  refine WOut.mk _ rfl ?_
  refine WCmp.mk (fun h1 => ?_) (fun h1 => ?_)
  · refine WOut.mk _ rfl ?_
    refine WCmp.mk (fun h2 => ?_) (fun h2 => ?_)
    · refine WOut.mk _ rfl ?_
      rw [show gs p1 c = 0 by simp at h1 h2; simp [gs, fstep, h1, h2]] at hn
      exact hn
    · refine WOut.mk _ rfl ?_
      rw [show gs p1 c = c by simp at h1 h2; simp [gs, fstep, h2]] at hn
      exact hn
  · refine WOut.mk _ rfl ?_
    rw [show gs p1 c = c by simp at h1; simp [gs, h1]] at hn
    exact hn

theorem f111_at2 (R : Run) (k j : Nat) (c p0 p1 p2 p3 : Int) (S : St) (K : Ex → Env → St → Prop)
    (hn : WCode (iter (evalCode Try.cfg R k 111 (Try.cfg.fc 111) f111L) j { nt := 24, tmps := [(1, .ptr (.loc 1) 0), (2, .ptr (.loc 2) 0), (3, .int .i64 3)], locs := [(1, [.int .i64 (gs p2 c), .int .i64 p0, .int .i64 p1, .int .i64 p2, .int .i64 p3]), (2, zeros)], fix := [] } S) K) :
    WCode (iter (evalCode Try.cfg R k 111 (Try.cfg.fc 111) f111L) (j + 1) { nt := 24, tmps := [(1, .ptr (.loc 1) 0), (2, .ptr (.loc 2) 0), (3, .int .i64 2)], locs := [(1, [.int .i64 c, .int .i64 p0, .int .i64 p1, .int .i64 p2, .int .i64 p3]), (2, zeros)], fix := [] } S) K := by
  refine WCode.round (nt := 24) (fx := []) ?_
  refine WCmp.yes rfl ?_
  refine WOut.mk _ rfl ?_
  refine WCmp.mk (fun h1 => ?_) (fun h1 => ?_)
  · refine WOut.mk _ rfl ?_
    refine WCmp.mk (fun h2 => ?_) (fun h2 => ?_)
    · refine WOut.mk _ rfl ?_
      rw [show gs p2 c = 0 by simp at h1 h2; simp [gs, fstep, h1, h2]] at hn
      exact hn
    · refine WOut.mk _ rfl ?_
      rw [show gs p2 c = c by simp at h1 h2; simp [gs, fstep, h2]] at hn
      exact hn
  · refine WOut.mk _ rfl ?_
    rw [show gs p2 c = c by simp at h1; simp [gs, h1]] at hn
    exact hn

theorem f111_at3 (R : Run) (k j : Nat) (c p0 p1 p2 p3 : Int) (S : St) (K : Ex → Env → St → Prop)
    (hn : WCode (iter (evalCode Try.cfg R k 111 (Try.cfg.fc 111) f111L) j { nt := 24, tmps := [(1, .ptr (.loc 1) 0), (2, .ptr (.loc 2) 0), (3, .int .i64 4)], locs := [(1, [.int .i64 (gs p3 c), .int .i64 p0, .int .i64 p1, .int .i64 p2, .int .i64 p3]), (2, zeros)], fix := [] } S) K) :
    WCode (iter (evalCode Try.cfg R k 111 (Try.cfg.fc 111) f111L) (j + 1) { nt := 24, tmps := [(1, .ptr (.loc 1) 0), (2, .ptr (.loc 2) 0), (3, .int .i64 3)], locs := [(1, [.int .i64 c, .int .i64 p0, .int .i64 p1, .int .i64 p2, .int .i64 p3]), (2, zeros)], fix := [] } S) K := by
  refine WCode.round (nt := 24) (fx := []) ?_
  refine WCmp.yes rfl ?_
  refine WOut.mk _ rfl ?_
  refine WCmp.mk (fun h1 => ?_) (fun h1 => ?_)
  · refine WOut.mk _ rfl ?_
    refine WCmp.mk (fun h2 => ?_) (fun h2 => ?_)
    · refine WOut.mk _ rfl ?_
      rw [show gs p3 c = 0 by simp at h1 h2; simp [gs, fstep, h1, h2]] at hn
      exact hn
    · refine WOut.mk _ rfl ?_
      rw [show gs p3 c = c by simp at h1 h2; simp [gs, fstep, h2]] at hn
      exact hn
  · refine WOut.mk _ rfl ?_
    rw [show gs p3 c = c by simp at h1; simp [gs, h1]] at hn
    exact hn

theorem r111_frame (R : Run) (n : Nat) (l : Lv) : frame Try.cfg R (n + 5) 111 [enc l] St.empty = some (enc (formF l), St.empty) := by
  have e : formF l = { l with c := gs l.p3 (gs l.p2 (gs l.p1 (gs l.p0 l.c))) } := by rw [formF_eq, gs_eq, gs_eq, gs_eq, gs_eq]
  rw [e]
  refine frame_of Try.cfg _ (fn := Try.f111) rfl rfl ?_
  refine f111_at0 R _ _ l.c l.p0 l.p1 l.p2 l.p3 _ _ ?_
  refine f111_at1 R _ _ _ l.p0 l.p1 l.p2 l.p3 _ _ ?_
  refine f111_at2 R _ _ _ l.p0 l.p1 l.p2 l.p3 _ _ ?_
  refine f111_at3 R _ _ _ l.p0 l.p1 l.p2 l.p3 _ _ ?_
  refine WCode.round (nt := 24) (fx := []) ?_
  refine WCmp.no rfl ?_
  rfl

theorem r111_ok (n : Nat) (l : Lv) (S : St) : run Try.cfg (n + 6) (.f 111) [enc l] S = some (enc (formF l), S) := run_val (r111_frame _ n l) rfl rfl rfl rfl rfl

theorem r76_frame (n : Nat) (l : Lv) : frame Try.cfg (run Try.cfg (n + 6)) (n + 6) 76 [enc l] St.empty = some (encR (toldF l), St.empty) := by
  refine frame_of Try.cfg _ (fn := Try.f76) rfl rfl ?_
  refine WCall.mk _ _ (r111_ok n l _) ?_
  refine WCall.mk _ _ (r27_ok n (formF l) _) ?_
  cases h : mayF (formF l) with
  | true =>
    rw [show toldF l = (formF l, 0) by simp [toldF, h]]
    rfl
  | false =>
    rw [show toldF l = (noLv, 4) by simp [toldF, h]]
    rfl

theorem r76_ok (n : Nat) (l : Lv) (S : St) : run Try.cfg (n + 7) (.f 76) [enc l] S = some (encR (toldF l), S) := run_val (r76_frame n l) rfl rfl rfl rfl rfl

/-! ### more -/

noncomputable def ad (n p : Int) : Int := bif iLt p 0 then p else wrapI .i64 (p + n)
noncomputable def plusR (l : Lv) (n : Int) : Lv := { c := wrapI .i64 (l.c + n), p0 := ad n l.p0, p1 := ad n l.p1, p2 := ad n l.p2, p3 := ad n l.p3 }

noncomputable def f77L : Code := loopN Try.f77 0

theorem f77_at0 (R : Run) (k j : Nat) (n c p0 p1 p2 p3 : Int) (S : St) (K : Ex → Env → St → Prop)
    (hn : WCode (iter (evalCode Try.cfg R k 77 (Try.cfg.fc 77) f77L) j { nt := 30, tmps := [(1, .int .i64 n), (2, .ptr (.loc 2) 0), (4, .ptr (.loc 4) 0), (5, .int .i64 1)], locs := [(2, [.int .i64 c, .int .i64 (ad n p0), .int .i64 p1, .int .i64 p2, .int .i64 p3]), (4, zeros)], fix := [] } S) K) :
    WCode (iter (evalCode Try.cfg R k 77 (Try.cfg.fc 77) f77L) (j + 1) { nt := 30, tmps := [(1, .int .i64 n), (2, .ptr (.loc 2) 0), (4, .ptr (.loc 4) 0), (5, .int .i64 0)], locs := [(2, [.int .i64 c, .int .i64 p0, .int .i64 p1, .int .i64 p2, .int .i64 p3]), (4, zeros)], fix := [] } S) K := by
  refine WCode.round (nt := 30) (fx := []) ?_
  refine WCmp.yes rfl ?_
  refine WOut.mk _ rfl ?_
  refine WCmp.mk (fun h1 => ?_) (fun h1 => ?_)
  · refine WOut.mk _ rfl ?_
    refine WOut.mk _ rfl ?_
    refine WOut.mk _ rfl ?_
    refine WOut.mk _ rfl ?_
    rw [show ad n p0 = wrapI .i64 (p0 + n) by simp at h1; simp [ad, h1]] at hn
    exact hn
  · refine WOut.mk _ rfl ?_
    rw [show ad n p0 = p0 by simp at h1; simp [ad, h1]] at hn
    exact hn

theorem f77_at1 (R : Run) (k j : Nat) (n c p0 p1 p2 p3 : Int) (S : St) (K : Ex → Env → St → Prop)
    (hn : WCode (iter (evalCode Try.cfg R k 77 (Try.cfg.fc 77) f77L) j { nt := 30, tmps := [(1, .int .i64 n), (2, .ptr (.loc 2) 0), (4, .ptr (.loc 4) 0), (5, .int .i64 2)], locs := [(2, [.int .i64 c, .int .i64 p0, .int .i64 (ad n p1), .int .i64 p2, .int .i64 p3]), (4, zeros)], fix := [] } S) K) :
    WCode (iter (evalCode Try.cfg R k 77 (Try.cfg.fc 77) f77L) (j + 1) { nt := 30, tmps := [(1, .int .i64 n), (2, .ptr (.loc 2) 0), (4, .ptr (.loc 4) 0), (5, .int .i64 1)], locs := [(2, [.int .i64 c, .int .i64 p0, .int .i64 p1, .int .i64 p2, .int .i64 p3]), (4, zeros)], fix := [] } S) K := by
  refine WCode.round (nt := 30) (fx := []) ?_
  refine WCmp.yes rfl ?_
  refine WOut.mk _ rfl ?_
  refine WCmp.mk (fun h1 => ?_) (fun h1 => ?_)
  · refine WOut.mk _ rfl ?_
    refine WOut.mk _ rfl ?_
    refine WOut.mk _ rfl ?_
    refine WOut.mk _ rfl ?_
    rw [show ad n p1 = wrapI .i64 (p1 + n) by simp at h1; simp [ad, h1]] at hn
    exact hn
  · refine WOut.mk _ rfl ?_
    rw [show ad n p1 = p1 by simp at h1; simp [ad, h1]] at hn
    exact hn

theorem f77_at2 (R : Run) (k j : Nat) (n c p0 p1 p2 p3 : Int) (S : St) (K : Ex → Env → St → Prop)
    (hn : WCode (iter (evalCode Try.cfg R k 77 (Try.cfg.fc 77) f77L) j { nt := 30, tmps := [(1, .int .i64 n), (2, .ptr (.loc 2) 0), (4, .ptr (.loc 4) 0), (5, .int .i64 3)], locs := [(2, [.int .i64 c, .int .i64 p0, .int .i64 p1, .int .i64 (ad n p2), .int .i64 p3]), (4, zeros)], fix := [] } S) K) :
    WCode (iter (evalCode Try.cfg R k 77 (Try.cfg.fc 77) f77L) (j + 1) { nt := 30, tmps := [(1, .int .i64 n), (2, .ptr (.loc 2) 0), (4, .ptr (.loc 4) 0), (5, .int .i64 2)], locs := [(2, [.int .i64 c, .int .i64 p0, .int .i64 p1, .int .i64 p2, .int .i64 p3]), (4, zeros)], fix := [] } S) K := by
  refine WCode.round (nt := 30) (fx := []) ?_
  refine WCmp.yes rfl ?_
  refine WOut.mk _ rfl ?_
  refine WCmp.mk (fun h1 => ?_) (fun h1 => ?_)
  · refine WOut.mk _ rfl ?_
    refine WOut.mk _ rfl ?_
    refine WOut.mk _ rfl ?_
    refine WOut.mk _ rfl ?_
    rw [show ad n p2 = wrapI .i64 (p2 + n) by simp at h1; simp [ad, h1]] at hn
    exact hn
  · refine WOut.mk _ rfl ?_
    rw [show ad n p2 = p2 by simp at h1; simp [ad, h1]] at hn
    exact hn

theorem f77_at3 (R : Run) (k j : Nat) (n c p0 p1 p2 p3 : Int) (S : St) (K : Ex → Env → St → Prop)
    (hn : WCode (iter (evalCode Try.cfg R k 77 (Try.cfg.fc 77) f77L) j { nt := 30, tmps := [(1, .int .i64 n), (2, .ptr (.loc 2) 0), (4, .ptr (.loc 4) 0), (5, .int .i64 4)], locs := [(2, [.int .i64 c, .int .i64 p0, .int .i64 p1, .int .i64 p2, .int .i64 (ad n p3)]), (4, zeros)], fix := [] } S) K) :
    WCode (iter (evalCode Try.cfg R k 77 (Try.cfg.fc 77) f77L) (j + 1) { nt := 30, tmps := [(1, .int .i64 n), (2, .ptr (.loc 2) 0), (4, .ptr (.loc 4) 0), (5, .int .i64 3)], locs := [(2, [.int .i64 c, .int .i64 p0, .int .i64 p1, .int .i64 p2, .int .i64 p3]), (4, zeros)], fix := [] } S) K := by
  refine WCode.round (nt := 30) (fx := []) ?_
  refine WCmp.yes rfl ?_
  refine WOut.mk _ rfl ?_
  refine WCmp.mk (fun h1 => ?_) (fun h1 => ?_)
  · refine WOut.mk _ rfl ?_
    refine WOut.mk _ rfl ?_
    refine WOut.mk _ rfl ?_
    refine WOut.mk _ rfl ?_
    rw [show ad n p3 = wrapI .i64 (p3 + n) by simp at h1; simp [ad, h1]] at hn
    exact hn
  · refine WOut.mk _ rfl ?_
    rw [show ad n p3 = p3 by simp at h1; simp [ad, h1]] at hn
    exact hn

theorem r77_frame (n : Nat) (l : Lv) (m : Int) : frame Try.cfg (run Try.cfg (n + 6)) (n + 6) 77 [enc l, .int .i64 m] St.empty = some (enc (formF (plusR l m)), St.empty) := by
  refine frame_of Try.cfg _ (fn := Try.f77) rfl rfl ?_
  refine WOut.mk _ rfl ?_
  refine f77_at0 _ _ _ m _ l.p0 l.p1 l.p2 l.p3 _ _ ?_
  refine f77_at1 _ _ _ m _ _ l.p1 l.p2 l.p3 _ _ ?_
  refine f77_at2 _ _ _ m _ _ _ l.p2 l.p3 _ _ ?_
  refine f77_at3 _ _ _ m _ _ _ _ l.p3 _ _ ?_
  refine WCode.round (nt := 30) (fx := []) ?_
  refine WCmp.no rfl ?_
  refine WCall.mk _ _ (r111_ok n (plusR l m) _) ?_
  rfl

theorem r77_ok (n : Nat) (l : Lv) (m : Int) (S : St) : run Try.cfg (n + 7) (.f 77) [enc l, .int .i64 m] S = some (enc (formF (plusR l m)), S) := run_val (r77_frame n l m) rfl rfl rfl rfl rfl

theorem plusR_eq (l : Lv) (n : Int) : plusR l n = plusF l n := by
  have e : plusF l n = { c := wrapI .i64 (l.c + n), p0 := if l.p0 < 0 then l.p0 else wrapI .i64 (l.p0 + n), p1 := if l.p1 < 0 then l.p1 else wrapI .i64 (l.p1 + n), p2 := if l.p2 < 0 then l.p2 else wrapI .i64 (l.p2 + n), p3 := if l.p3 < 0 then l.p3 else wrapI .i64 (l.p3 + n) } := by
    unfold plusF foldP foldP foldP foldP foldP
    simp only [iLt_eq, cond_ite, decide_eq_true_eq]
    split <;> split <;> split <;> split <;> rfl
  rw [e]
  unfold plusR ad
  simp only [iLt_eq, cond_ite, decide_eq_true_eq]

/-! ### both -/

noncomputable def bothR (a b : Lv) : Lv := { c := maxI a.c b.c, p0 := maxI a.p0 b.p0, p1 := maxI a.p1 b.p1, p2 := maxI a.p2 b.p2, p3 := maxI a.p3 b.p3 }

theorem r79_frame (n : Nat) (a b : Lv) : frame Try.cfg (run Try.cfg (n + 6)) (n + 6) 79 [enc a, enc b] St.empty = some (enc (formF (bothR a b)), St.empty) := by
  refine frame_of Try.cfg _ (fn := Try.f79) rfl rfl ?_
  iterate 4
    refine WCode.round (nt := 30) (fx := []) ?_
    refine WCmp.yes rfl ?_
    refine WOut.mk _ rfl ?_
    refine WOut.mk _ rfl ?_
    refine WOut.mk _ rfl ?_
    refine WOut.mk _ rfl ?_
  refine WCode.round (nt := 30) (fx := []) ?_
  refine WCmp.no rfl ?_
  refine WCall.mk _ _ (r111_ok n (bothR a b) _) ?_
  rfl

theorem r79_ok (n : Nat) (a b : Lv) (S : St) : run Try.cfg (n + 7) (.f 79) [enc a, enc b] S = some (enc (formF (bothR a b)), S) := run_val (r79_frame n a b) rfl rfl rfl rfl rfl

/-! ### Succ, Max -/

noncomputable def succR (l : Lv) : Lv × Int := bif mayF l then toldF (formF (plusR l 1)) else (noLv, 1)
noncomputable def maxR (a b : Lv) : Lv × Int := bif mayF a && mayF b then toldF (formF (bothR a b)) else (noLv, 1)

theorem r19_frame (n : Nat) (l : Lv) : frame Try.cfg (run Try.cfg (n + 7)) (n + 7) 19 [enc l] St.empty = some (encR (succR l), St.empty) := by
  refine frame_of Try.cfg _ (fn := Try.f19) rfl rfl ?_
  refine WCall.mk _ _ (r27_ok (n + 1) l _) ?_
  cases h : mayF l with
  | true =>
    refine WCall.mk _ _ (r77_ok n l 1 _) ?_
    refine WCall.mk _ _ (r76_ok n (formF (plusR l 1)) _) ?_
    rw [show succR l = toldF (formF (plusR l 1)) by simp [succR, h]]
    rfl
  | false =>
    rw [show succR l = (noLv, 1) by simp [succR, h]]
    rfl

theorem r19_ok (n : Nat) (l : Lv) (S : St) : run Try.cfg (n + 8) (.f 19) [enc l] S = some (encR (succR l), S) := run_val (r19_frame n l) rfl rfl rfl rfl rfl

theorem r21_frame (n : Nat) (a b : Lv) : frame Try.cfg (run Try.cfg (n + 7)) (n + 7) 21 [enc a, enc b] St.empty = some (encR (maxR a b), St.empty) := by
  refine frame_of Try.cfg _ (fn := Try.f21) rfl rfl ?_
  refine WCall.mk _ _ (r27_ok (n + 1) a _) ?_
  cases h : mayF a with
  | true =>
    refine WCall.mk _ _ (r27_ok (n + 1) b _) ?_
    cases h2 : mayF b with
    | true =>
      refine WCall.mk _ _ (r79_ok n a b _) ?_
      refine WCall.mk _ _ (r76_ok n (formF (bothR a b)) _) ?_
      rw [show maxR a b = toldF (formF (bothR a b)) by simp [maxR, h, h2]]
      rfl
    | false =>
      rw [show maxR a b = (noLv, 1) by simp [maxR, h2]]
      rfl
  | false =>
    rw [show maxR a b = (noLv, 1) by simp [maxR, h]]
    rfl

theorem r21_ok (n : Nat) (a b : Lv) (S : St) : run Try.cfg (n + 8) (.f 21) [enc a, enc b] S = some (encR (maxR a b), S) := run_val (r21_frame n a b) rfl rfl rfl rfl rfl

/-! ### At -/

noncomputable def stepAt (q p m : Int) : Int := bif iLt p 0 then m else maxI m (wrapI .i64 (q + p))

noncomputable def f31L : Code := loopN Try.f31 0

theorem f31_at0 (n k j : Nat) (l : Lv) (q : P4) (m : Int) (S : St) (K : Ex → Env → St → Prop) (hm : mayF l = true)
    (hx : okFar q.p0 = false → K .ret { nt := 44, tmps := [(4, .int .i64 0)], locs := [(2, cellsOf l), (3, [.int .i64 q.p0, .int .i64 q.p1, .int .i64 q.p2, .int .i64 q.p3])], fix := [] } S)
    (hn : okFar q.p0 = true → WCode (iter (evalCode Try.cfg (run Try.cfg (n + 6)) k 31 (Try.cfg.fc 31) f31L) j { nt := 44, tmps := [(2, .ptr (.loc 2) 0), (3, .ptr (.loc 3) 0), (5, .int .i64 (stepAt q.p0 l.p0 m)), (6, .int .i64 1)], locs := [(2, cellsOf l), (3, [.int .i64 q.p0, .int .i64 q.p1, .int .i64 q.p2, .int .i64 q.p3])], fix := [] } S) K) :
    WCode (iter (evalCode Try.cfg (run Try.cfg (n + 6)) k 31 (Try.cfg.fc 31) f31L) (j + 1) { nt := 44, tmps := [(2, .ptr (.loc 2) 0), (3, .ptr (.loc 3) 0), (5, .int .i64 m), (6, .int .i64 0)], locs := [(2, cellsOf l), (3, [.int .i64 q.p0, .int .i64 q.p1, .int .i64 q.p2, .int .i64 q.p3])], fix := [] } S) K := by
  refine WCode.round (nt := 44) (fx := []) ?_
  refine WCmp.yes rfl ?_
  refine WCall.mk _ _ (r27_ok n l _) ?_
  rw [hm]
  refine WOut.mk _ rfl ?_
  refine WCmp.mk (fun h1 => ?_) (fun h1 => ?_)
  · exact hx (by simp [okFar, h1])
  refine WOut.mk _ rfl ?_
  refine WCmp.mk (fun h2 => ?_) (fun h2 => ?_)
  · exact hx (by simp [okFar, h2])
  have hk : okFar q.p0 = true := by simp [okFar, h1, h2]
  refine WOut.mk _ rfl ?_
  refine WCmp.mk (fun h3 => ?_) (fun h3 => ?_)
  · refine WOut.mk _ rfl ?_
    refine WOut.mk _ rfl ?_
    refine WOut.mk _ rfl ?_
    refine WOut.mk _ rfl ?_
    rw [show stepAt q.p0 l.p0 m = maxI m (wrapI .i64 (q.p0 + l.p0)) by simp at h3; simp [stepAt, h3]] at hn
    exact hn hk
  · refine WOut.mk _ rfl ?_
    rw [show stepAt q.p0 l.p0 m = m by simp at h3; simp [stepAt, h3]] at hn
    exact hn hk

theorem f31_at1 (n k j : Nat) (l : Lv) (q : P4) (m : Int) (S : St) (K : Ex → Env → St → Prop) (hm : mayF l = true)
    (hx : okFar q.p1 = false → K .ret { nt := 44, tmps := [(4, .int .i64 0)], locs := [(2, cellsOf l), (3, [.int .i64 q.p0, .int .i64 q.p1, .int .i64 q.p2, .int .i64 q.p3])], fix := [] } S)
    (hn : okFar q.p1 = true → WCode (iter (evalCode Try.cfg (run Try.cfg (n + 6)) k 31 (Try.cfg.fc 31) f31L) j { nt := 44, tmps := [(2, .ptr (.loc 2) 0), (3, .ptr (.loc 3) 0), (5, .int .i64 (stepAt q.p1 l.p1 m)), (6, .int .i64 2)], locs := [(2, cellsOf l), (3, [.int .i64 q.p0, .int .i64 q.p1, .int .i64 q.p2, .int .i64 q.p3])], fix := [] } S) K) :
    WCode (iter (evalCode Try.cfg (run Try.cfg (n + 6)) k 31 (Try.cfg.fc 31) f31L) (j + 1) { nt := 44, tmps := [(2, .ptr (.loc 2) 0), (3, .ptr (.loc 3) 0), (5, .int .i64 m), (6, .int .i64 1)], locs := [(2, cellsOf l), (3, [.int .i64 q.p0, .int .i64 q.p1, .int .i64 q.p2, .int .i64 q.p3])], fix := [] } S) K := by
  refine WCode.round (nt := 44) (fx := []) ?_
  refine WCmp.yes rfl ?_
  refine WCall.mk _ _ (r27_ok n l _) ?_
  rw [hm]
  refine WOut.mk _ rfl ?_
  refine WCmp.mk (fun h1 => ?_) (fun h1 => ?_)
  · exact hx (by simp [okFar, h1])
  refine WOut.mk _ rfl ?_
  refine WCmp.mk (fun h2 => ?_) (fun h2 => ?_)
  · exact hx (by simp [okFar, h2])
  have hk : okFar q.p1 = true := by simp [okFar, h1, h2]
  refine WOut.mk _ rfl ?_
  refine WCmp.mk (fun h3 => ?_) (fun h3 => ?_)
  · refine WOut.mk _ rfl ?_
    refine WOut.mk _ rfl ?_
    refine WOut.mk _ rfl ?_
    refine WOut.mk _ rfl ?_
    rw [show stepAt q.p1 l.p1 m = maxI m (wrapI .i64 (q.p1 + l.p1)) by simp at h3; simp [stepAt, h3]] at hn
    exact hn hk
  · refine WOut.mk _ rfl ?_
    rw [show stepAt q.p1 l.p1 m = m by simp at h3; simp [stepAt, h3]] at hn
    exact hn hk

theorem f31_at2 (n k j : Nat) (l : Lv) (q : P4) (m : Int) (S : St) (K : Ex → Env → St → Prop) (hm : mayF l = true)
    (hx : okFar q.p2 = false → K .ret { nt := 44, tmps := [(4, .int .i64 0)], locs := [(2, cellsOf l), (3, [.int .i64 q.p0, .int .i64 q.p1, .int .i64 q.p2, .int .i64 q.p3])], fix := [] } S)
    (hn : okFar q.p2 = true → WCode (iter (evalCode Try.cfg (run Try.cfg (n + 6)) k 31 (Try.cfg.fc 31) f31L) j { nt := 44, tmps := [(2, .ptr (.loc 2) 0), (3, .ptr (.loc 3) 0), (5, .int .i64 (stepAt q.p2 l.p2 m)), (6, .int .i64 3)], locs := [(2, cellsOf l), (3, [.int .i64 q.p0, .int .i64 q.p1, .int .i64 q.p2, .int .i64 q.p3])], fix := [] } S) K) :
    WCode (iter (evalCode Try.cfg (run Try.cfg (n + 6)) k 31 (Try.cfg.fc 31) f31L) (j + 1) { nt := 44, tmps := [(2, .ptr (.loc 2) 0), (3, .ptr (.loc 3) 0), (5, .int .i64 m), (6, .int .i64 2)], locs := [(2, cellsOf l), (3, [.int .i64 q.p0, .int .i64 q.p1, .int .i64 q.p2, .int .i64 q.p3])], fix := [] } S) K := by
  refine WCode.round (nt := 44) (fx := []) ?_
  refine WCmp.yes rfl ?_
  refine WCall.mk _ _ (r27_ok n l _) ?_
  rw [hm]
  refine WOut.mk _ rfl ?_
  refine WCmp.mk (fun h1 => ?_) (fun h1 => ?_)
  · exact hx (by simp [okFar, h1])
  refine WOut.mk _ rfl ?_
  refine WCmp.mk (fun h2 => ?_) (fun h2 => ?_)
  · exact hx (by simp [okFar, h2])
  have hk : okFar q.p2 = true := by simp [okFar, h1, h2]
  refine WOut.mk _ rfl ?_
  refine WCmp.mk (fun h3 => ?_) (fun h3 => ?_)
  · refine WOut.mk _ rfl ?_
    refine WOut.mk _ rfl ?_
    refine WOut.mk _ rfl ?_
    refine WOut.mk _ rfl ?_
    rw [show stepAt q.p2 l.p2 m = maxI m (wrapI .i64 (q.p2 + l.p2)) by simp at h3; simp [stepAt, h3]] at hn
    exact hn hk
  · refine WOut.mk _ rfl ?_
    rw [show stepAt q.p2 l.p2 m = m by simp at h3; simp [stepAt, h3]] at hn
    exact hn hk

theorem f31_at3 (n k j : Nat) (l : Lv) (q : P4) (m : Int) (S : St) (K : Ex → Env → St → Prop) (hm : mayF l = true)
    (hx : okFar q.p3 = false → K .ret { nt := 44, tmps := [(4, .int .i64 0)], locs := [(2, cellsOf l), (3, [.int .i64 q.p0, .int .i64 q.p1, .int .i64 q.p2, .int .i64 q.p3])], fix := [] } S)
    (hn : okFar q.p3 = true → WCode (iter (evalCode Try.cfg (run Try.cfg (n + 6)) k 31 (Try.cfg.fc 31) f31L) j { nt := 44, tmps := [(2, .ptr (.loc 2) 0), (3, .ptr (.loc 3) 0), (5, .int .i64 (stepAt q.p3 l.p3 m)), (6, .int .i64 4)], locs := [(2, cellsOf l), (3, [.int .i64 q.p0, .int .i64 q.p1, .int .i64 q.p2, .int .i64 q.p3])], fix := [] } S) K) :
    WCode (iter (evalCode Try.cfg (run Try.cfg (n + 6)) k 31 (Try.cfg.fc 31) f31L) (j + 1) { nt := 44, tmps := [(2, .ptr (.loc 2) 0), (3, .ptr (.loc 3) 0), (5, .int .i64 m), (6, .int .i64 3)], locs := [(2, cellsOf l), (3, [.int .i64 q.p0, .int .i64 q.p1, .int .i64 q.p2, .int .i64 q.p3])], fix := [] } S) K := by
  refine WCode.round (nt := 44) (fx := []) ?_
  refine WCmp.yes rfl ?_
  refine WCall.mk _ _ (r27_ok n l _) ?_
  rw [hm]
  refine WOut.mk _ rfl ?_
  refine WCmp.mk (fun h1 => ?_) (fun h1 => ?_)
  · exact hx (by simp [okFar, h1])
  refine WOut.mk _ rfl ?_
  refine WCmp.mk (fun h2 => ?_) (fun h2 => ?_)
  · exact hx (by simp [okFar, h2])
  have hk : okFar q.p3 = true := by simp [okFar, h1, h2]
  refine WOut.mk _ rfl ?_
  refine WCmp.mk (fun h3 => ?_) (fun h3 => ?_)
  · refine WOut.mk _ rfl ?_
    refine WOut.mk _ rfl ?_
    refine WOut.mk _ rfl ?_
    refine WOut.mk _ rfl ?_
    rw [show stepAt q.p3 l.p3 m = maxI m (wrapI .i64 (q.p3 + l.p3)) by simp at h3; simp [stepAt, h3]] at hn
    exact hn hk
  · refine WOut.mk _ rfl ?_
    rw [show stepAt q.p3 l.p3 m = m by simp at h3; simp [stepAt, h3]] at hn
    exact hn hk

theorem r31_frame (n : Nat) (l : Lv) (q : P4) : frame Try.cfg (run Try.cfg (n + 6)) (n + 6) 31 [enc l, encP q] St.empty = some (.int .i64 (atF l q), St.empty) := by
  refine frame_of Try.cfg _ (fn := Try.f31) rfl rfl ?_
  cases hm : mayF l with
  | false =>
    rw [show atF l q = 0 by simp [atF, hm]]
    refine WCode.round (nt := 44) (fx := []) ?_
    refine WCmp.yes rfl ?_
    refine WCall.mk _ _ (r27_ok n l _) ?_
    rw [hm]
    rfl
  | true =>
  refine f31_at0 n _ _ l q _ _ _ hm (fun h => ?_) (fun h0 => ?_)
  · rw [show atF l q = 0 by simp [atF, h]]; rfl
  refine f31_at1 n _ _ l q _ _ _ hm (fun h => ?_) (fun h1 => ?_)
  · rw [show atF l q = 0 by simp [atF, h]]; rfl
  refine f31_at2 n _ _ l q _ _ _ hm (fun h => ?_) (fun h2 => ?_)
  · rw [show atF l q = 0 by simp [atF, h]]; rfl
  refine f31_at3 n _ _ l q _ _ _ hm (fun h => ?_) (fun h3 => ?_)
  · rw [show atF l q = 0 by simp [atF, h]]; rfl
  refine WCode.round (nt := 44) (fx := []) ?_
  refine WCmp.no rfl ?_
  have e : atF l q = stepAt q.p3 l.p3 (stepAt q.p2 l.p2 (stepAt q.p1 l.p1 (stepAt q.p0 l.p0 l.c))) := by
    unfold atF
    rw [h0, h1, h2, h3, hm]
    rfl
  rw [e]
  rfl

theorem r31_ok (n : Nat) (l : Lv) (q : P4) (S : St) : run Try.cfg (n + 7) (.f 31) [enc l, encP q] S = some (.int .i64 (atF l q), S) := run_val (r31_frame n l q) rfl rfl rfl rfl rfl

end Go.Ev

/- Levels: the document's Leq and Inst (written by lvy.py; own work). -/
namespace Go.Ev
open Go.Proofs Go.RowKit
set_option maxRecDepth 100000

/-! ### Leq -/

noncomputable def leqR (a b : Lv) : Bool := bif mayF a && mayF b then !apartF a b else false

theorem r29_frame (n : Nat) (a b : Lv) : frame Try.cfg (run Try.cfg (n + 7)) (n + 7) 29 [enc a, enc b] St.empty = some (.bool (leqR a b), St.empty) := by
  refine frame_of Try.cfg _ (fn := Try.f29) rfl rfl ?_
  refine WCall.mk _ _ (r27_ok (n + 1) a _) ?_
  cases ha : mayF a with
  | false => rw [show leqR a b = false by simp [leqR, ha]]; rfl
  | true =>
  refine WCall.mk _ _ (r27_ok (n + 1) b _) ?_
  cases hb : mayF b with
  | false => rw [show leqR a b = false by simp [leqR, hb]]; rfl
  | true =>
  refine WCall.mk _ _ (r31_ok n a fz _) ?_
  refine WCall.mk _ _ (r31_ok n b fz _) ?_
  refine WCmp.mk (fun hz => ?_) (fun hz => ?_)
  · rw [show leqR a b = false by simp [leqR, apartF, *]]; rfl
  refine WCode.round (nt := 37) (fx := []) ?_
  refine WCmp.yes rfl ?_
  refine WOut.mk _ rfl ?_
  refine WCall.mk _ _ (r31_ok n a f0 _) ?_
  refine WCall.mk _ _ (r31_ok n b f0 _) ?_
  refine WCmp.mk (fun h0 => ?_) (fun h0 => ?_)
  · rw [show leqR a b = false by simp [leqR, apartF, *]]; rfl
  refine WOut.mk _ rfl ?_
  refine WOut.mk _ rfl ?_
  refine WCode.round (nt := 37) (fx := []) ?_
  refine WCmp.yes rfl ?_
  refine WOut.mk _ rfl ?_
  refine WCall.mk _ _ (r31_ok n a f1 _) ?_
  refine WCall.mk _ _ (r31_ok n b f1 _) ?_
  refine WCmp.mk (fun h1 => ?_) (fun h1 => ?_)
  · rw [show leqR a b = false by simp [leqR, apartF, *]]; rfl
  refine WOut.mk _ rfl ?_
  refine WOut.mk _ rfl ?_
  refine WCode.round (nt := 37) (fx := []) ?_
  refine WCmp.yes rfl ?_
  refine WOut.mk _ rfl ?_
  refine WCall.mk _ _ (r31_ok n a f2 _) ?_
  refine WCall.mk _ _ (r31_ok n b f2 _) ?_
  refine WCmp.mk (fun h2 => ?_) (fun h2 => ?_)
  · rw [show leqR a b = false by simp [leqR, apartF, *]]; rfl
  refine WOut.mk _ rfl ?_
  refine WOut.mk _ rfl ?_
  refine WCode.round (nt := 37) (fx := []) ?_
  refine WCmp.yes rfl ?_
  refine WOut.mk _ rfl ?_
  refine WCall.mk _ _ (r31_ok n a f3 _) ?_
  refine WCall.mk _ _ (r31_ok n b f3 _) ?_
  refine WCmp.mk (fun h3 => ?_) (fun h3 => ?_)
  · rw [show leqR a b = false by simp [leqR, apartF, *]]; rfl
  refine WOut.mk _ rfl ?_
  refine WOut.mk _ rfl ?_
  refine WCode.round (nt := 37) (fx := []) ?_
  refine WCmp.no rfl ?_
  rw [show leqR a b = true by simp [leqR, apartF, *]]
  rfl

theorem r29_ok (n : Nat) (a b : Lv) (S : St) : run Try.cfg (n + 8) (.f 29) [enc a, enc b] S = some (.bool (leqR a b), S) := run_val (r29_frame n a b) rfl rfl rfl rfl rfl

/-! ### Inst -/

noncomputable def f23L : Code := loopN Try.f23 0
noncomputable def f23M : Code := loopN Try.f23 1

theorem f23_by (n k : Nat) (l : Lv) (tok : Tok) (bys : List Lv) (hlen : bys.length < 100) (S : St) (K : Ex → Env → St → Prop) : ∀ (rem : List Lv) (j f : Nat), rem.length < f → (∀ i, rem[i]? = bys[j + i]?) → j + rem.length = bys.length →
    (match rem.all mayF with | true => K (.exit 0) { nt := 59, tmps := [(1, encL tok bys), (2, .ptr (.loc 2) 0), (4, .ptr (.loc 4) 0), (6, .int .i64 (.ofNat bys.length)), (16, .bool false)], locs := [(2, cellsOf l), (4, zeros)], fix := [] } S | false => K .ret { nt := 59, tmps := [(4, .ptr (.loc 4) 0), (5, .int .i64 1)], locs := [(2, cellsOf l), (4, zeros)], fix := [] } S) →
    WCode (iter (evalCode Try.cfg (run Try.cfg (n + 6)) k 23 (Try.cfg.fc 23) f23L) f { nt := 59, tmps := [(1, encL tok bys), (2, .ptr (.loc 2) 0), (4, .ptr (.loc 4) 0), (6, .int .i64 (.ofNat j))], locs := [(2, cellsOf l), (4, zeros)], fix := [] } S) K
  | [], j, f + 1, hf, hr, hj, hK => by
    have hjl : j = bys.length := by simpa using hj
    subst hjl
    refine WCode.round (nt := 59) (fx := []) ?_
    refine WCmp.no (by rw [iLt_nat, lenN_eq, List.length_map]; exact blt_self bys.length) ?_
    exact hK
  | b :: rem, j, f + 1, hf, hr, hj, hK => by
    have hb : bys[j]? = some b := by have := hr 0; simpa using this.symm
    have hjl : j < bys.length := (List.getElem?_eq_some_iff.1 hb).1
    refine WCode.round (nt := 59) (fx := []) ?_
    refine WCmp.yes (by rw [iLt_nat, lenN_eq, List.length_map]; rw [Nat.blt_eq]; exact hjl) ?_
    refine WOut.mk _ (index25 hb) ?_
    refine WCall.mk _ _ (r27_ok n b _) ?_
    cases hm : mayF b with
    | false =>
      have hq : (b :: rem).all mayF = false := by simp [hm]
      rw [hq] at hK
      exact hK
    | true =>
      have hq : (b :: rem).all mayF = rem.all mayF := by simp [hm]
      rw [hq] at hK
      refine WOut.mk _ (addOne (by omega)) ?_
      exact f23_by n k l tok bys hlen S K rem (j + 1) f (by simp only [List.length_cons] at hf; omega) (fun i => by have := hr (i + 1); simp only [List.getElem?_cons_succ] at this; rw [this]; congr 1; omega) (by simp only [List.length_cons] at hj; omega) hK

noncomputable def instStepR (bys : List Lv) (i p : Int) (out : Lv) : Option Lv := match bys[i.toNat]? with | some b => some (formF (bothR out (formF (plusR b p)))) | none => none

noncomputable def instR (l : Lv) (bys : List Lv) : Lv × Int := match mayF l && bys.all mayF with
  | true => match foldE (instStepR bys) l.ps 0 { zeroLv with c := l.c } with
    | (true, out) => toldF out
    | (false, _) => (noLv, 8)
  | false => (noLv, 1)

theorem foldE_nil {T : Type} (step : Int → Int → T → Option T) (i : Int) (t : T) : foldE step [] i t = (true, t) := rfl

theorem f23_at4 (n k j : Nat) (l : Lv) (tok : Tok) (bys : List Lv) (S : St) (K : Ex → Env → St → Prop) (out : Lv)
    (h : match foldE (instStepR bys) [] 4 out with | (true, o') => K (.exit 2) { nt := 59, tmps := [(1, encL tok bys), (2, .ptr (.loc 2) 0), (4, .ptr (.loc 4) 0), (7, .ptr (.loc 7) 0), (8, .int .i64 4), (31, .bool false)], locs := [(2, cellsOf l), (4, zeros), (7, cellsOf o')], fix := [] } S | (false, o') => K .ret { nt := 59, tmps := [(4, .ptr (.loc 4) 0), (5, .int .i64 8)], locs := [(2, cellsOf l), (4, zeros), (7, cellsOf o')], fix := [] } S) :
    WCode (iter (evalCode Try.cfg (run Try.cfg (n + 7)) k 23 (Try.cfg.fc 23) f23M) (j + 1) { nt := 59, tmps := [(1, encL tok bys), (2, .ptr (.loc 2) 0), (4, .ptr (.loc 4) 0), (7, .ptr (.loc 7) 0), (8, .int .i64 4)], locs := [(2, cellsOf l), (4, zeros), (7, cellsOf out)], fix := [] } S) K := by
  refine WCode.round (nt := 59) (fx := []) ?_
  refine WCmp.no rfl ?_
  exact h

theorem f23_at3 (n k j : Nat) (l : Lv) (tok : Tok) (bys : List Lv) (S : St) (K : Ex → Env → St → Prop) (out : Lv)
    (h : match foldE (instStepR bys) [l.p3] 3 out with | (true, o') => K (.exit 2) { nt := 59, tmps := [(1, encL tok bys), (2, .ptr (.loc 2) 0), (4, .ptr (.loc 4) 0), (7, .ptr (.loc 7) 0), (8, .int .i64 4), (31, .bool false)], locs := [(2, cellsOf l), (4, zeros), (7, cellsOf o')], fix := [] } S | (false, o') => K .ret { nt := 59, tmps := [(4, .ptr (.loc 4) 0), (5, .int .i64 8)], locs := [(2, cellsOf l), (4, zeros), (7, cellsOf o')], fix := [] } S) :
    WCode (iter (evalCode Try.cfg (run Try.cfg (n + 7)) k 23 (Try.cfg.fc 23) f23M) (j + 2) { nt := 59, tmps := [(1, encL tok bys), (2, .ptr (.loc 2) 0), (4, .ptr (.loc 4) 0), (7, .ptr (.loc 7) 0), (8, .int .i64 3)], locs := [(2, cellsOf l), (4, zeros), (7, cellsOf out)], fix := [] } S) K := by
  refine WCode.round (nt := 59) (fx := []) ?_
  rw [foldE_cons] at h
  refine WCmp.yes rfl ?_
  refine WOut.mk _ rfl ?_
  refine WCmp.mk (fun h1 => ?_) (fun h1 => ?_)
  · rw [h1] at h
    refine WOut.mk _ rfl ?_
    exact f23_at4 n k j l tok bys S K out h
  · rw [h1] at h
    cases hb : bys[3]? with
    | none =>
      rw [show instStepR bys 3 l.p3 out = none by unfold instStepR; rw [show (3 : Int).toNat = 3 from rfl, hb]] at h
      have hl : bys.length ≤ 3 := List.getElem?_eq_none_iff.1 hb
      refine WCmp.yes (by
        show (!iLt (.ofNat 3) (.ofNat (lenN (bys.map enc)))) = true
        rw [iLt_nat, lenN_eq, List.length_map]
        cases hq : Nat.blt 3 bys.length with
        | false => rfl
        | true => rw [Nat.blt_eq] at hq; omega) ?_
      exact h
    | some b =>
      rw [show instStepR bys 3 l.p3 out = some (formF (bothR out (formF (plusR b l.p3)))) by unfold instStepR; rw [show (3 : Int).toNat = 3 from rfl, hb]] at h
      have hl : 3 < bys.length := (List.getElem?_eq_some_iff.1 hb).1
      refine WCmp.no (by show (!iLt (.ofNat 3) (.ofNat (lenN (bys.map enc)))) = false; rw [iLt_nat, lenN_eq, List.length_map, show Nat.blt 3 bys.length = true by rw [Nat.blt_eq]; exact hl]; rfl) ?_
      refine WOut.mk _ (index25 (j := 3) hb) ?_
      refine WOut.mk _ rfl ?_
      refine WCall.mk _ _ (r77_ok n b l.p3 _) ?_
      refine WCall.mk _ _ (r79_ok n out (formF (plusR b l.p3)) _) ?_
      refine WOut.mk _ rfl ?_
      exact f23_at4 n k j l tok bys S K _ h

theorem f23_at2 (n k j : Nat) (l : Lv) (tok : Tok) (bys : List Lv) (S : St) (K : Ex → Env → St → Prop) (out : Lv)
    (h : match foldE (instStepR bys) [l.p2, l.p3] 2 out with | (true, o') => K (.exit 2) { nt := 59, tmps := [(1, encL tok bys), (2, .ptr (.loc 2) 0), (4, .ptr (.loc 4) 0), (7, .ptr (.loc 7) 0), (8, .int .i64 4), (31, .bool false)], locs := [(2, cellsOf l), (4, zeros), (7, cellsOf o')], fix := [] } S | (false, o') => K .ret { nt := 59, tmps := [(4, .ptr (.loc 4) 0), (5, .int .i64 8)], locs := [(2, cellsOf l), (4, zeros), (7, cellsOf o')], fix := [] } S) :
    WCode (iter (evalCode Try.cfg (run Try.cfg (n + 7)) k 23 (Try.cfg.fc 23) f23M) (j + 3) { nt := 59, tmps := [(1, encL tok bys), (2, .ptr (.loc 2) 0), (4, .ptr (.loc 4) 0), (7, .ptr (.loc 7) 0), (8, .int .i64 2)], locs := [(2, cellsOf l), (4, zeros), (7, cellsOf out)], fix := [] } S) K := by
  refine WCode.round (nt := 59) (fx := []) ?_
  rw [foldE_cons] at h
  refine WCmp.yes rfl ?_
  refine WOut.mk _ rfl ?_
  refine WCmp.mk (fun h1 => ?_) (fun h1 => ?_)
  · rw [h1] at h
    refine WOut.mk _ rfl ?_
    exact f23_at3 n k j l tok bys S K out h
  · rw [h1] at h
    cases hb : bys[2]? with
    | none =>
      rw [show instStepR bys 2 l.p2 out = none by unfold instStepR; rw [show (2 : Int).toNat = 2 from rfl, hb]] at h
      have hl : bys.length ≤ 2 := List.getElem?_eq_none_iff.1 hb
      refine WCmp.yes (by
        show (!iLt (.ofNat 2) (.ofNat (lenN (bys.map enc)))) = true
        rw [iLt_nat, lenN_eq, List.length_map]
        cases hq : Nat.blt 2 bys.length with
        | false => rfl
        | true => rw [Nat.blt_eq] at hq; omega) ?_
      exact h
    | some b =>
      rw [show instStepR bys 2 l.p2 out = some (formF (bothR out (formF (plusR b l.p2)))) by unfold instStepR; rw [show (2 : Int).toNat = 2 from rfl, hb]] at h
      have hl : 2 < bys.length := (List.getElem?_eq_some_iff.1 hb).1
      refine WCmp.no (by show (!iLt (.ofNat 2) (.ofNat (lenN (bys.map enc)))) = false; rw [iLt_nat, lenN_eq, List.length_map, show Nat.blt 2 bys.length = true by rw [Nat.blt_eq]; exact hl]; rfl) ?_
      refine WOut.mk _ (index25 (j := 2) hb) ?_
      refine WOut.mk _ rfl ?_
      refine WCall.mk _ _ (r77_ok n b l.p2 _) ?_
      refine WCall.mk _ _ (r79_ok n out (formF (plusR b l.p2)) _) ?_
      refine WOut.mk _ rfl ?_
      exact f23_at3 n k j l tok bys S K _ h

theorem f23_at1 (n k j : Nat) (l : Lv) (tok : Tok) (bys : List Lv) (S : St) (K : Ex → Env → St → Prop) (out : Lv)
    (h : match foldE (instStepR bys) [l.p1, l.p2, l.p3] 1 out with | (true, o') => K (.exit 2) { nt := 59, tmps := [(1, encL tok bys), (2, .ptr (.loc 2) 0), (4, .ptr (.loc 4) 0), (7, .ptr (.loc 7) 0), (8, .int .i64 4), (31, .bool false)], locs := [(2, cellsOf l), (4, zeros), (7, cellsOf o')], fix := [] } S | (false, o') => K .ret { nt := 59, tmps := [(4, .ptr (.loc 4) 0), (5, .int .i64 8)], locs := [(2, cellsOf l), (4, zeros), (7, cellsOf o')], fix := [] } S) :
    WCode (iter (evalCode Try.cfg (run Try.cfg (n + 7)) k 23 (Try.cfg.fc 23) f23M) (j + 4) { nt := 59, tmps := [(1, encL tok bys), (2, .ptr (.loc 2) 0), (4, .ptr (.loc 4) 0), (7, .ptr (.loc 7) 0), (8, .int .i64 1)], locs := [(2, cellsOf l), (4, zeros), (7, cellsOf out)], fix := [] } S) K := by
  refine WCode.round (nt := 59) (fx := []) ?_
  rw [foldE_cons] at h
  refine WCmp.yes rfl ?_
  refine WOut.mk _ rfl ?_
  refine WCmp.mk (fun h1 => ?_) (fun h1 => ?_)
  · rw [h1] at h
    refine WOut.mk _ rfl ?_
    exact f23_at2 n k j l tok bys S K out h
  · rw [h1] at h
    cases hb : bys[1]? with
    | none =>
      rw [show instStepR bys 1 l.p1 out = none by unfold instStepR; rw [show (1 : Int).toNat = 1 from rfl, hb]] at h
      have hl : bys.length ≤ 1 := List.getElem?_eq_none_iff.1 hb
      refine WCmp.yes (by
        show (!iLt (.ofNat 1) (.ofNat (lenN (bys.map enc)))) = true
        rw [iLt_nat, lenN_eq, List.length_map]
        cases hq : Nat.blt 1 bys.length with
        | false => rfl
        | true => rw [Nat.blt_eq] at hq; omega) ?_
      exact h
    | some b =>
      rw [show instStepR bys 1 l.p1 out = some (formF (bothR out (formF (plusR b l.p1)))) by unfold instStepR; rw [show (1 : Int).toNat = 1 from rfl, hb]] at h
      have hl : 1 < bys.length := (List.getElem?_eq_some_iff.1 hb).1
      refine WCmp.no (by show (!iLt (.ofNat 1) (.ofNat (lenN (bys.map enc)))) = false; rw [iLt_nat, lenN_eq, List.length_map, show Nat.blt 1 bys.length = true by rw [Nat.blt_eq]; exact hl]; rfl) ?_
      refine WOut.mk _ (index25 (j := 1) hb) ?_
      refine WOut.mk _ rfl ?_
      refine WCall.mk _ _ (r77_ok n b l.p1 _) ?_
      refine WCall.mk _ _ (r79_ok n out (formF (plusR b l.p1)) _) ?_
      refine WOut.mk _ rfl ?_
      exact f23_at2 n k j l tok bys S K _ h

theorem f23_at0 (n k j : Nat) (l : Lv) (tok : Tok) (bys : List Lv) (S : St) (K : Ex → Env → St → Prop) (out : Lv)
    (h : match foldE (instStepR bys) [l.p0, l.p1, l.p2, l.p3] 0 out with | (true, o') => K (.exit 2) { nt := 59, tmps := [(1, encL tok bys), (2, .ptr (.loc 2) 0), (4, .ptr (.loc 4) 0), (7, .ptr (.loc 7) 0), (8, .int .i64 4), (31, .bool false)], locs := [(2, cellsOf l), (4, zeros), (7, cellsOf o')], fix := [] } S | (false, o') => K .ret { nt := 59, tmps := [(4, .ptr (.loc 4) 0), (5, .int .i64 8)], locs := [(2, cellsOf l), (4, zeros), (7, cellsOf o')], fix := [] } S) :
    WCode (iter (evalCode Try.cfg (run Try.cfg (n + 7)) k 23 (Try.cfg.fc 23) f23M) (j + 5) { nt := 59, tmps := [(1, encL tok bys), (2, .ptr (.loc 2) 0), (4, .ptr (.loc 4) 0), (7, .ptr (.loc 7) 0), (8, .int .i64 0)], locs := [(2, cellsOf l), (4, zeros), (7, cellsOf out)], fix := [] } S) K := by
  refine WCode.round (nt := 59) (fx := []) ?_
  rw [foldE_cons] at h
  refine WCmp.yes rfl ?_
  refine WOut.mk _ rfl ?_
  refine WCmp.mk (fun h1 => ?_) (fun h1 => ?_)
  · rw [h1] at h
    refine WOut.mk _ rfl ?_
    exact f23_at1 n k j l tok bys S K out h
  · rw [h1] at h
    cases hb : bys[0]? with
    | none =>
      rw [show instStepR bys 0 l.p0 out = none by unfold instStepR; rw [show (0 : Int).toNat = 0 from rfl, hb]] at h
      have hl : bys.length ≤ 0 := List.getElem?_eq_none_iff.1 hb
      refine WCmp.yes (by
        show (!iLt (.ofNat 0) (.ofNat (lenN (bys.map enc)))) = true
        rw [iLt_nat, lenN_eq, List.length_map]
        cases hq : Nat.blt 0 bys.length with
        | false => rfl
        | true => rw [Nat.blt_eq] at hq; omega) ?_
      exact h
    | some b =>
      rw [show instStepR bys 0 l.p0 out = some (formF (bothR out (formF (plusR b l.p0)))) by unfold instStepR; rw [show (0 : Int).toNat = 0 from rfl, hb]] at h
      have hl : 0 < bys.length := (List.getElem?_eq_some_iff.1 hb).1
      refine WCmp.no (by show (!iLt (.ofNat 0) (.ofNat (lenN (bys.map enc)))) = false; rw [iLt_nat, lenN_eq, List.length_map, show Nat.blt 0 bys.length = true by rw [Nat.blt_eq]; exact hl]; rfl) ?_
      refine WOut.mk _ (index25 (j := 0) hb) ?_
      refine WOut.mk _ rfl ?_
      refine WCall.mk _ _ (r77_ok n b l.p0 _) ?_
      refine WCall.mk _ _ (r79_ok n out (formF (plusR b l.p0)) _) ?_
      refine WOut.mk _ rfl ?_
      exact f23_at1 n k j l tok bys S K _ h

theorem r23_frame (n : Nat) (l : Lv) (tok : Tok) (bys : List Lv) (hlen : bys.length < n + 8) (hlen2 : bys.length < 100) : frame Try.cfg (run Try.cfg (n + 8)) (n + 8) 23 [enc l, encL tok bys] St.empty = some (encR (instR l bys), St.empty) := by
  refine frame_of Try.cfg _ (fn := Try.f23) rfl rfl ?_
  refine WCall.mk _ _ (r27_ok (n + 2) l _) ?_
  cases hm : mayF l with
  | false =>
    rw [show instR l bys = (noLv, 1) by unfold instR; rw [hm]; rfl]
    rfl
  | true =>
  refine f23_by (n + 2) _ l tok bys hlen2 _ _ bys 0 (n + 8) hlen (fun i => by rw [Nat.zero_add]) (by rw [Nat.zero_add]) ?_
  cases hall : bys.all mayF with
  | false =>
    rw [show instR l bys = (noLv, 1) by unfold instR; rw [hm, hall]; rfl]
    rfl
  | true =>
  refine WCall.mk _ _ (r33_ok (n + 7) _) ?_
  refine f23_at0 (n + 1) _ (n + 3) l tok bys _ _ { zeroLv with c := l.c } ?_
  cases hf : foldE (instStepR bys) l.ps 0 { zeroLv with c := l.c } with
  | mk ok out =>
  cases ok with
  | true =>
    refine WCall.mk _ _ (r76_ok (n + 1) out _) ?_
    rw [show instR l bys = toldF out by unfold instR; rw [hm, hall, hf]; rfl]
    rfl
  | false =>
    rw [show instR l bys = (noLv, 8) by unfold instR; rw [hm, hall, hf]; rfl]
    rfl

theorem r23_ok (n : Nat) (l : Lv) (tok : Tok) (bys : List Lv) (S : St) (hlen : bys.length < n + 8) (hlen2 : bys.length < 100) : run Try.cfg (n + 9) (.f 23) [enc l, encL tok bys] S = some (encR (instR l bys), S) := by
  have key : ∀ tk : Tok, (encL tok bys).strip = encL tk bys → run Try.cfg (n + 9) (.f 23) [enc l, encL tok bys] S = some (encR (instR l bys), S) := fun tk hs => by
    have h := r23_frame n l tk bys hlen hlen2
    rw [← hs] at h
    exact run_val h rfl rfl rfl rfl rfl
  cases tok with
  | no => exact key .no rfl
  | tight => exact key .tight rfl
  | own t => exact key .no rfl

end Go.Ev

/- Levels: the document's functions give what the program's give (own work). -/
namespace Go.Ev
open Go.Proofs Go.RowKit

theorem maxI_eq (x y : Int) : maxI x y = max x y := by unfold maxI; split <;> omega

theorem bothR_eq {a b : Lv} (ha : Wk a) (hb : Wk b) : bothR a b = joinF a b := by
  rw [joinW_eq ha hb]
  unfold bothR
  simp only [maxI_eq]

theorem toldF_eq (y : Lv) : toldF y = bif mayF (formF y) then (formF y, 0) else (noLv, 4) := rfl

theorem form_form {y : Lv} (hy : Wk y) : formF (formF y) = formF y := (formF_self (form_nf hy).2.1.1).2 (form_nf hy).1

theorem told_form {y : Lv} (hy : Wk y) : toldF (formF y) = toldF y := by rw [toldF_eq, toldF_eq, form_form hy]

theorem succR_eq (l : Lv) : succR l = succF l := by
  unfold succR succF
  cases h : mayF l with
  | false => rfl
  | true =>
    have hv := mayF_iff.1 h
    rw [plusR_eq, plusF_eq hv (by omega) (by unfold TOP; omega), told_form (plW hv (by omega) (by unfold TOP; omega)).1]

theorem maxR_eq (a b : Lv) : maxR a b = maxF a b := by
  unfold maxR maxF
  cases ha : mayF a with
  | false => rfl
  | true =>
    cases hb : mayF b with
    | false => rfl
    | true =>
      have va := mayF_iff.1 ha
      have vb := mayF_iff.1 hb
      rw [bothR_eq va.wk vb.wk, told_form (joinW va.wk vb.wk).1]

theorem not_apart {a b : Lv} (ha : Vd a) (hb : Vd b) (h : Le a b) : apartF a b = false := by
  have gz : Ge0 fz ∧ Le41 fz := by unfold Ge0 Le41 FAR; simp
  have g0 : Ge0 f0 ∧ Le41 f0 := by unfold Ge0 Le41 FAR; simp
  have g1 : Ge0 f1 ∧ Le41 f1 := by unfold Ge0 Le41 FAR; simp
  have g2 : Ge0 f2 ∧ Le41 f2 := by unfold Ge0 Le41 FAR; simp
  have g3 : Ge0 f3 ∧ Le41 f3 := by unfold Ge0 Le41 FAR; simp
  have k : ∀ q : P4, Ge0 q ∧ Le41 q → iLt (atF b q) (atF a q) = false := fun q hq => by
    rw [iLt_not, atF_eq ha hq.1 hq.2, atF_eq hb hq.1 hq.2]
    exact h.ev hq.1 hb.wk
  unfold apartF
  rw [k fz gz, k f0 g0, k f1 g1, k f2 g2, k f3 g3]
  rfl

theorem leqR_eq (a b : Lv) : leqR a b = leqF a b := by
  unfold leqR
  cases ha : mayF a with
  | false => unfold leqF; rw [ha]; rfl
  | true =>
    cases hb : mayF b with
    | false => unfold leqF; rw [ha, hb]; rfl
    | true =>
      have va := mayF_iff.1 ha
      have vb := mayF_iff.1 hb
      show (!apartF a b) = leqF a b
      cases h : leqF a b with
      | true => rw [not_apart va vb ((leqF_iff va vb).1 h)]; rfl
      | false => rw [apart_of va vb (fun hl => by rw [(leqF_iff va vb).2 hl] at h; cases h)]; rfl

/-! ### Inst -/

/-- The same at all numbers. -/
def Same (x y : Lv) : Prop := Wk x ∧ Wk y ∧ ∀ v, Ge0 v → ev x v = ev y v

theorem fold_same {bys : List Lv} (hb : ∀ b ∈ bys, Vd b) : ∀ (ps : List Int) (i : Int) (x y : Lv), (∀ p ∈ ps, p ≤ TOP) → Same x y →
    (∃ x' y', foldE (instStep bys) ps i x = (true, x') ∧ foldE (instStepR bys) ps i y = (true, y') ∧ Same x' y') ∨ (∃ x' y', foldE (instStep bys) ps i x = (false, x') ∧ foldE (instStepR bys) ps i y = (false, y'))
  | [], i, x, y, _, h => .inl ⟨x, y, rfl, rfl, h⟩
  | p :: ps, i, x, y, hp, h => by
    have hp' : ∀ q ∈ ps, q ≤ TOP := fun q hq => hp q (List.mem_cons_of_mem _ hq)
    rw [foldE_cons, foldE_cons]
    cases hq : iLt p 0 with
    | true => exact fold_same hb ps (i + 1) x y hp' h
    | false =>
      rw [iLt_not] at hq
      cases hg : bys[i.toNat]? with
      | none =>
        right
        refine ⟨x, y, ?_, ?_⟩
        · simp only [instStep, hg]
        · simp only [instStepR, hg]
      | some b =>
        have vb := hb b (List.mem_of_getElem? hg)
        have hpl := plW vb hq (hp p List.mem_cons_self)
        have e1 : instStep bys i p x = some (joinF x (pl b p)) := by
          simp only [instStep, hg]
          rw [plusF_eq vb hq (hp p List.mem_cons_self)]
        have hfp := form_nf hpl.1
        have e2 : instStepR bys i p y = some (formF (joinF y (formF (pl b p)))) := by
          simp only [instStepR, hg]
          rw [plusR_eq, plusF_eq vb hq (hp p List.mem_cons_self), bothR_eq h.2.1 hfp.2]
        rw [e1, e2]
        simp only
        obtain ⟨wx, wy, he⟩ := h
        have j1 := joinW wx hpl.1
        have j2 := joinW wy hfp.2
        refine fold_same hb ps (i + 1) _ _ hp' ⟨j1.1, (form_nf j2.1).2, fun v hv => ?_⟩
        rw [j1.2 v hv, ev_form j2.1 hv, j2.2 v hv, ev_form hpl.1 hv, he v hv]

theorem told_same {x y : Lv} (h : Same x y) : toldF x = toldF y := by
  obtain ⟨wx, wy, he⟩ := h
  have e : formF x = formF y := ev_ext (form_nf wx).2 (form_nf wy).2 (form_nf wx).1 (form_nf wy).1 (fun v hv => by rw [ev_form wx hv, ev_form wy hv, he v hv])
  rw [toldF_eq, toldF_eq, e]

theorem instR_eq (l : Lv) (bys : List Lv) : instR l bys = instF l bys := by
  unfold instR instF
  cases hm : (mayF l && bys.all mayF) with
  | false => rfl
  | true =>
    simp only [Bool.and_eq_true] at hm
    have vl := mayF_iff.1 hm.1
    have hb : ∀ b ∈ bys, Vd b := fun b hbm => mayF_iff.1 (List.all_eq_true.1 hm.2 b hbm)
    have hz : Wk { zeroLv with c := l.c } := by
      obtain ⟨w0, _⟩ := vl.wk
      exact ⟨w0, by simp, by simp, by simp, by simp⟩
    have hp : ∀ p ∈ l.ps, p ≤ TOP := by
      obtain ⟨a1, a2, a3, a4, a5, a6, a7⟩ := vl
      intro p h
      simp only [List.mem_cons, List.not_mem_nil, or_false] at h
      rcases h with rfl | rfl | rfl | rfl
      · exact a3.2
      · exact a4.2
      · exact a5.2
      · exact a6.2
    simp only
    rcases fold_same hb l.ps 0 { zeroLv with c := l.c } { zeroLv with c := l.c } hp ⟨hz, hz, fun _ _ => rfl⟩ with ⟨x, y, h1, h2, h3⟩ | ⟨x, y, h1, h2⟩
    · rw [h1, h2]
      exact (told_same h3).symm
    · rw [h1, h2]

end Go.Ev

/- Levels: LevelPlays, walked (written by lvq.py; own work). -/
namespace Go.Ev
open Go.Proofs Go.RowKit
set_option maxRecDepth 100000

theorem iEq_self (a : Int) : iEq a a = true := by rw [iEq_eq]; simp
theorem eqB (m : Bool) : binOp Try.cfg .eql 4 (.bool m) (.bool m) = some (.bool true) := by cases m <;> rfl
theorem eq24t (a : Lv) : binOp Try.cfg .eql 24 (enc a) (enc a) = some (.bool true) := by rw [bin24]; simp

theorem app25 (A : Env) (ac : Acc) (hac : ac.heap = true) (b : Lv) (r : List Lv) (h : (b :: r).length ≤ 10) :
    append Try.cfg A St.empty ac 25 (.list 5 .tight 0 []) (encL .no (b :: r)) = some (encL (.own 0) (b :: r), { heap := [], toks := [lenN ([] : List V) + lenN ((b :: r).map enc)] }) := by
  have hneg : ¬ (((b :: r).map enc).isEmpty = true) := by simp
  have hpos : 0 < Try.ti24.size ∧ (([] : List V).isEmpty = true ∨ 5 = Try.ti24.size) ∧ (lenN ([] : List V) + lenN ((b :: r).map enc)) * (Try.ti24.bytes + 1) ≤ 140737488355328 ∧ ac.heap = true :=
    ⟨by show 0 < 5; omega, .inl rfl, by rw [lenN_eq, lenN_eq, List.length_map]; exact (show (0 + (b :: r).length) * (40 + 1) ≤ 140737488355328 by omega), hac⟩
  exact (if_neg (t := some (V.list 5 .tight 0 [], St.empty)) hneg).trans (if_pos hpos)

noncomputable def f3L : Code := loopN Try.f3 0

theorem f3_by (R : Run) (k : Nat) (a b x12 x16 x20 x24 : Lv) (q : P4) (bys : List Lv) (hlen : bys.length < 100) (S : St) (K : Ex → Env → St → Prop) (hK : K (.exit 0) { nt := 164, tmps := [(2, encL .no bys), (5, .ptr (.loc 5) 0), (6, .ptr (.loc 6) 0), (9, .ptr (.loc 9) 0), (11, encL (.own 0) bys), (28, .int .i64 (.ofNat bys.length)), (121, .bool false)], locs := [(5, cellsOf a), (6, cellsOf b), (9, [.int .i64 q.p0, .int .i64 q.p1, .int .i64 q.p2, .int .i64 q.p3]), (12, cellsOf x12), (14, cellsOf x12), (16, cellsOf x16), (18, cellsOf x16), (20, cellsOf x20), (22, cellsOf x20), (24, cellsOf x24), (26, cellsOf x24)], fix := [] } S) :
    ∀ (m j f : Nat), m < f → j + m = bys.length → WCode (iter (evalCode Try.cfg R k 3 (Try.cfg.fc 3) f3L) f { nt := 164, tmps := [(2, encL .no bys), (5, .ptr (.loc 5) 0), (6, .ptr (.loc 6) 0), (9, .ptr (.loc 9) 0), (11, encL (.own 0) bys), (28, .int .i64 (.ofNat j))], locs := [(5, cellsOf a), (6, cellsOf b), (9, [.int .i64 q.p0, .int .i64 q.p1, .int .i64 q.p2, .int .i64 q.p3]), (12, cellsOf x12), (14, cellsOf x12), (16, cellsOf x16), (18, cellsOf x16), (20, cellsOf x20), (22, cellsOf x20), (24, cellsOf x24), (26, cellsOf x24)], fix := [] } S) K
  | 0, j, f + 1, _, hj => by
    have hjl : j = bys.length := by omega
    subst hjl
    refine WCode.round (nt := 164) (fx := []) ?_
    refine WCmp.no (by rw [iLt_nat, lenN_eq, List.length_map]; exact blt_self bys.length) ?_
    exact hK
  | m + 1, j, f + 1, hf, hj => by
    have hjl : j < bys.length := by omega
    obtain ⟨c, hc⟩ : ∃ c, bys[j]? = some c := ⟨bys[j], List.getElem?_eq_getElem hjl⟩
    refine WCode.round (nt := 164) (fx := []) ?_
    refine WCmp.yes (by rw [iLt_nat, lenN_eq, List.length_map, Nat.blt_eq]; exact hjl) ?_
    refine WOut.mk _ (index25 hc) ?_
    refine WOut.mk _ (index25 hc) ?_
    refine WOut.mk _ (neq24 _) ?_
    refine WOut.mk _ (addOne (by omega)) ?_
    exact f3_by R k a b x12 x16 x20 x24 q bys hlen S K hK m (j + 1) f (by omega) (by omega)

set_option maxHeartbeats 4000000 in
theorem law3_frame (a b : Lv) (bys : List Lv) (i : Int) (q : P4) : ∃ S', frame Try.cfg (run Try.cfg 20) 20 3 [enc a, enc b, encL .no bys, .int .i64 i, encP q] St.empty = some (.bool true, S') := by
  refine frame_ex Try.cfg _ (fn := Try.f3) rfl rfl ?_
  refine WCmp.mk (fun h => ?_) (fun h => ?_)
  · refine WCall.mk _ _ (f17_ok _) ?_; exact ⟨_, rfl⟩
  have hlen : bys.length ≤ 10 := by
    have h' : iLt (.ofNat 10) (.ofNat (lenN (bys.map enc))) = false := h
    rw [iLt_nat, lenN_eq, List.length_map] at h'
    cases hq : Nat.blt 10 bys.length with
    | true => rw [hq] at h'; cases h'
    | false => have : ¬ 10 < bys.length := fun hh => by rw [← Nat.blt_eq, hq] at hh; cases hh
               omega
  cases bys with
  | nil =>
  refine WApp.mk _ _ rfl ?_
  refine WCall.mk _ _ (f18_ok 10 a _) ?_
  refine WCall.mk _ _ ((by intro S; rw [← succR_eq]; exact r19_ok 12 a S : ∀ S, run Try.cfg 20 (.f 19) [enc a] S = some (encR (succF a), S)) _) ?_
  refine WCall.mk _ _ (f20_ok 10 a b _) ?_
  refine WCall.mk _ _ ((by intro S; rw [← maxR_eq]; exact r21_ok 12 a b S : ∀ S, run Try.cfg 20 (.f 21) [enc a, enc b] S = some (encR (maxF a b), S)) _) ?_
  refine WCall.mk _ _ (f22_ok 9 a .tight [] _ (by omega) (by omega)) ?_
  refine WCall.mk _ _ (show run Try.cfg 20 (.f 23) [enc a, encL .no []] _ = some (encR (instF a []), _) by rw [← instR_eq]; exact r23_ok 11 a .no [] _ (by omega) (by omega)) ?_
  refine WCall.mk _ _ (f24_ok 13 i _) ?_
  refine WCall.mk _ _ (r25_ok 18 i _) ?_
  refine WOut.mk _ (neq24 _) ?_
  refine WCmp.no (by rw [iEq_self]; rfl) ?_
  refine WOut.mk _ (neq24 _) ?_
  refine WCmp.no (by rw [iEq_self]; rfl) ?_
  refine WOut.mk _ (neq24 _) ?_
  refine WCmp.no (by rw [iEq_self]; rfl) ?_
  refine WOut.mk _ (neq24 _) ?_
  refine WCmp.no (by rw [iEq_self]; rfl) ?_
  refine WCode.round (nt := 164) (fx := []) ?_
  refine WCmp.no rfl ?_
  refine WCall.mk _ _ (f26_ok 12 a _) ?_
  refine WCall.mk _ _ (r27_ok 14 a _) ?_
  refine WOut.mk _ (eqB _) ?_
  refine WCall.mk _ _ (f28_ok 11 a b _) ?_
  refine WCall.mk _ _ ((by intro S; rw [← leqR_eq]; exact r29_ok 12 a b S : ∀ S, run Try.cfg 20 (.f 29) [enc a, enc b] S = some (.bool (leqF a b), S)) _) ?_
  refine WOut.mk _ (eqB _) ?_
  refine WCall.mk _ _ (f30_ok 11 a q _) ?_
  refine WCall.mk _ _ (r31_ok 13 a q _) ?_
  refine WCmp.yes (iEq_self _) ?_
  refine WCall.mk _ _ (f32_ok 14 _) ?_
  refine WCall.mk _ _ (r33_ok 19 _) ?_
  refine WOut.mk _ (eq24t _) ?_
  refine WCall.mk _ _ (f17_ok _) ?_
  exact ⟨_, rfl⟩
  | cons b0 r =>
  refine WApp.mk _ _ (app25 _ _ rfl b0 r hlen) ?_
  refine WCall.mk _ _ (f18_ok 10 a _) ?_
  refine WCall.mk _ _ ((by intro S; rw [← succR_eq]; exact r19_ok 12 a S : ∀ S, run Try.cfg 20 (.f 19) [enc a] S = some (encR (succF a), S)) _) ?_
  refine WCall.mk _ _ (f20_ok 10 a b _) ?_
  refine WCall.mk _ _ ((by intro S; rw [← maxR_eq]; exact r21_ok 12 a b S : ∀ S, run Try.cfg 20 (.f 21) [enc a, enc b] S = some (encR (maxF a b), S)) _) ?_
  refine WCall.mk _ _ (f22_ok 9 a (.own 0) (b0 :: r) _ (by omega) (by omega)) ?_
  refine WCall.mk _ _ (show run Try.cfg 20 (.f 23) [enc a, encL .no (b0 :: r)] _ = some (encR (instF a (b0 :: r)), _) by rw [← instR_eq]; exact r23_ok 11 a .no (b0 :: r) _ (by omega) (by omega)) ?_
  refine WCall.mk _ _ (f24_ok 13 i _) ?_
  refine WCall.mk _ _ (r25_ok 18 i _) ?_
  refine WOut.mk _ (neq24 _) ?_
  refine WCmp.no (by rw [iEq_self]; rfl) ?_
  refine WOut.mk _ (neq24 _) ?_
  refine WCmp.no (by rw [iEq_self]; rfl) ?_
  refine WOut.mk _ (neq24 _) ?_
  refine WCmp.no (by rw [iEq_self]; rfl) ?_
  refine WOut.mk _ (neq24 _) ?_
  refine WCmp.no (by rw [iEq_self]; rfl) ?_
  refine f3_by _ _ a b _ _ _ _ q (b0 :: r) (by omega) _ _ ?_ (b0 :: r).length 0 20 (by omega) (by omega)
  refine WCall.mk _ _ (f26_ok 12 a _) ?_
  refine WCall.mk _ _ (r27_ok 14 a _) ?_
  refine WOut.mk _ (eqB _) ?_
  refine WCall.mk _ _ (f28_ok 11 a b _) ?_
  refine WCall.mk _ _ ((by intro S; rw [← leqR_eq]; exact r29_ok 12 a b S : ∀ S, run Try.cfg 20 (.f 29) [enc a, enc b] S = some (.bool (leqF a b), S)) _) ?_
  refine WOut.mk _ (eqB _) ?_
  refine WCall.mk _ _ (f30_ok 11 a q _) ?_
  refine WCall.mk _ _ (r31_ok 13 a q _) ?_
  refine WCmp.yes (iEq_self _) ?_
  refine WCall.mk _ _ (f32_ok 14 _) ?_
  refine WCall.mk _ _ (r33_ok 19 _) ?_
  refine WOut.mk _ (eq24t _) ?_
  refine WCall.mk _ _ (f17_ok _) ?_
  exact ⟨_, rfl⟩

theorem law3 (us : List V) (h : Args Try.prog Try.f3.params.toList us) : ∃ n S', run Try.cfg n (.f 3) us St.empty = some (.bool true, S') := by
  rw [Try.params3] at h
  obtain ⟨a, r1, rfl, h1⟩ := arg24 h
  obtain ⟨b, r2, rfl, h2⟩ := arg24 h1
  obtain ⟨bys, r3, rfl, h3⟩ := arg25 h2
  obtain ⟨i, r4, rfl, h4⟩ := arg3 h3
  obtain ⟨q, r5, rfl, h5⟩ := arg22 h4
  obtain rfl := arg_nil h5
  obtain ⟨S', hf⟩ := law3_frame a b bys i q
  exact ⟨21, St.empty, run_val hf rfl rfl rfl rfl rfl⟩

end Go.Ev

namespace Go.Proofs.Ytidebmakgffjnaa
open Go.Ev Go.ChangeShapes Go.WideShapes Go.ChangeAt Go.RowKit

theorem evOwn : ownKnob Try.prog.godebug = none := by kernel_rfl
theorem evLaid : laidOutB Try.prog = true := by kernel_rfl
theorem evMaps : mapsRowed Try.prog = true := by kernel_rfl
noncomputable def evTypes : List Nat := [3, 22, 24, 25]
theorem evPlain : allB (plainT Try.prog evTypes) evTypes = true := by kernel_rfl
theorem evRead : allB (fun t => Try.prog.readableRec t) evTypes = true := by kernel_rfl
theorem evPar {ts : List Nat} (h : allB (fun t => memN t evTypes) ts = true) : ∀ t ∈ ts, memN t evTypes = true ∧ Try.prog.readableRec t = true :=
  fun t ht => ⟨allB_mem h t ht, allB_mem evRead t (memN_iff.1 (allB_mem h t ht))⟩

set_option maxRecDepth 100000 in
theorem levelPlays_lifted (hlaw : ∀ us, Args Try.prog Try.f3.params.toList us → ∃ n S', run Go.Ev.Try.cfg n (.f 3) us St.empty = some (.bool true, S')) (os : Os) (started : os.Started) (H : Type) (enc : TypeId × Value → H) :
    ReturnsInHanded {} Try.checked os 3 .any (Rows.levelPlaysSpec.pre6 enc Try.prog Try.f3 Rows.levelPlaysRow.domain false) (Rows.levelPlaysSpec.post enc Try.prog Try.f3 false true false false) := by
  refine returnsInHanded_of_change (C := Try.checked) evOwn started (by kernel_rfl) Try.func3
    (ChangeSpec.witness6 (enc := enc) (C := Try.checked) false ⟨#[], #[.agg #[.int .i64 0, .int .i64 0, .int .i64 0, .int .i64 0, .int .i64 0], .agg #[.int .i64 0, .int .i64 0, .int .i64 0, .int .i64 0, .int .i64 0], .slice none 0 0, .int .i64 0, .agg #[.int .i64 0, .int .i64 0, .int .i64 0, .int .i64 0]], []⟩ 8 (by kernel_rfl) (by kernel_rfl) (by kernel_rfl) (by kernel_rfl)) ?_
  intro W base args ds gs before hval hW _ _
  exact law_contract (C := Go.Ev.Try.cfg) (P := Try.prog) (s := Rows.levelPlaysSpec) Go.Ev.Try.runOk evLaid evMaps evPlain (evPar (by kernel_rfl)) (by kernel_rfl) rfl (tb := 4) (by kernel_rfl) Try.underlying4
    (fun _ ds hd => by
      match ds, (show ds.length = 5 from hd) with
      | [d1, d2, d3, d4, d5], _ => rfl) hval hW hlaw

theorem levelPlays_of (hlaw : ∀ us, Args Try.prog Try.f3.params.toList us → ∃ n S', run Go.Ev.Try.cfg n (.f 3) us St.empty = some (.bool true, S')) : Rows.LevelPlaysSaid :=
  OpenClaim.holds_of_wide 3 Try.f3 rfl rfl rfl rfl rfl rfl rfl ⟨rfl, rfl, rfl, rfl, rfl⟩ rfl rfl rfl rfl rfl (by kernel_rfl) Try.func3 (by kernel_rfl)
    (of_decide_eq_true (by kernel_rfl)) (by unfold Func.isWrapper; first | (rw [if_pos (by decide +kernel)]; kernel_rfl) | (rw [if_neg (by decide +kernel)]; exact ⟨rfl, rfl⟩))
    (fun os started H enc _ => levelPlays_lifted hlaw os started H enc)

end Go.Proofs.Ytidebmakgffjnaa

namespace Go.Proofs.Ytidebmakgffjnaa

/-- LevelPlays. -/
theorem levelPlays_holds : Rows.LevelPlaysSaid := levelPlays_of (fun us h => Go.Ev.law3 us h)

end Go.Proofs.Ytidebmakgffjnaa
