/- Terms, as abstract values; the functions of the packages (own work). -/
import Derived.Test.YtidebmakgffjnaaXl
/- Levels: LevelOrder (own work). -/
namespace Go.Ev
open Go.Proofs Go.RowKit
set_option maxRecDepth 100000

/-! ### In plain numbers -/

theorem mx_comm (a b : Lv) : mx a b = mx b a := by
  unfold mx
  rw [Int.max_comm a.c, Int.max_comm a.p0, Int.max_comm a.p1, Int.max_comm a.p2, Int.max_comm a.p3]

theorem mx_self {a : Lv} (ha : Vd a) : mx a a = a := by
  obtain ⟨a1, a2, a3, a4, a5, a6, a7⟩ := ha
  refine Lv.ext' ?_ ?_ ?_ ?_ ?_ <;> unfold mx <;> simp only []
  · split <;> omega
  all_goals omega

/-- The greatest of a level's numbers of parameters. -/
def Lv.top (l : Lv) : Int := max (max (max l.p0 l.p1) l.p2) l.p3

theorem le_max_iff' (x y z : Int) : x ≤ max y z ↔ x ≤ y ∨ x ≤ z := by omega

theorem le_top {x : Int} {l : Lv} : x ≤ l.top ↔ x ≤ l.p0 ∨ x ≤ l.p1 ∨ x ≤ l.p2 ∨ x ≤ l.p3 := by
  unfold Lv.top
  simp only [le_max_iff', or_assoc]

theorem top_lt {x : Int} {l : Lv} : l.top < x ↔ l.p0 < x ∧ l.p1 < x ∧ l.p2 < x ∧ l.p3 < x := by
  have := @le_top x l
  omega

theorem mx_c (a b : Lv) : (mx a b).c = if max a.c b.c ≤ max a.top b.top then 0 else max a.c b.c := by
  have e : (max a.c b.c ≤ max a.p0 b.p0 ∨ max a.c b.c ≤ max a.p1 b.p1 ∨ max a.c b.c ≤ max a.p2 b.p2 ∨ max a.c b.c ≤ max a.p3 b.p3) ↔ max a.c b.c ≤ max a.top b.top := by
    generalize max a.c b.c = x
    simp only [le_max_iff', le_top, or_assoc, or_left_comm]
  show (if max a.c b.c ≤ max a.p0 b.p0 ∨ max a.c b.c ≤ max a.p1 b.p1 ∨ max a.c b.c ≤ max a.p2 b.p2 ∨ max a.c b.c ≤ max a.p3 b.p3 then 0 else max a.c b.c) = _
  simp only [e]

theorem mx_top (a b : Lv) : (mx a b).top = max a.top b.top := by
  have h : ∀ x, x ≤ (mx a b).top ↔ x ≤ max a.top b.top := fun x => by
    rw [le_top]
    show (x ≤ max a.p0 b.p0 ∨ x ≤ max a.p1 b.p1 ∨ x ≤ max a.p2 b.p2 ∨ x ≤ max a.p3 b.p3) ↔ _
    simp only [le_max_iff', le_top, or_assoc, or_left_comm]
  have h1 := (h (mx a b).top).1 (Int.le_refl _)
  have h2 := (h (max a.top b.top)).2 (Int.le_refl _)
  omega

theorem mx_assoc {a b c : Lv} (ha : Vd a) (hb : Vd b) (hc : Vd c) : mx (mx a b) c = mx a (mx b c) := by
  refine Lv.ext' ?_ ?_ ?_ ?_ ?_
  · rw [mx_c, mx_c, mx_c, mx_c, mx_top, mx_top]
    have h1 := ha.1
    have h2 := hb.1
    have h3 := hc.1
    generalize a.top = x
    generalize b.top = y
    generalize c.top = z
    split <;> split <;> split <;> split <;> first | rfl | omega
  all_goals (show max (max _ _) _ = max _ (max _ _); omega)

theorem le_trans' {a b c : Lv} (h : Le a b) (k : Le b c) : Le a c := by
  obtain ⟨h0, h1, h2, h3, h4⟩ := h
  obtain ⟨k0, k1, k2, k3, k4⟩ := k
  exact ⟨by omega, by omega, by omega, by omega, by omega⟩

theorem Vd_zero : Vd zeroLv := by unfold Vd; simp

theorem le_zero {a : Lv} (ha : Vd a) : Le zeroLv a := by
  obtain ⟨a1, a2, a3, a4, a5, a6, a7⟩ := ha
  exact ⟨a3.1, a4.1, a5.1, a6.1, .inl a1⟩

theorem le_mx {a b : Lv} (ha : Vd a) (hb : Vd b) : Le a (mx a b) := by
  obtain ⟨a1, a2, a3, a4, a5, a6, a7⟩ := ha
  obtain ⟨b1, b2, b3, b4, b5, b6, b7⟩ := hb
  unfold Le mx
  simp only
  refine ⟨by omega, by omega, by omega, by omega, ?_⟩
  split <;> omega

theorem mx_le {a b c : Lv} (hb : Vd b) (hc : Vd c) (h : Le a c) : Le (mx a b) c ↔ Le b c := by
  obtain ⟨b1, b2, b3, b4, b5, b6, b7⟩ := hb
  obtain ⟨c1, c2, c3, c4, c5, c6, c7⟩ := hc
  obtain ⟨h0, h1, h2, h3, h4⟩ := h
  unfold Le mx
  simp only
  constructor
  · rintro ⟨k0, k1, k2, k3, k4⟩
    refine ⟨by omega, by omega, by omega, by omega, ?_⟩
    split at k4 <;> omega
  · rintro ⟨k0, k1, k2, k3, k4⟩
    refine ⟨by omega, by omega, by omega, by omega, ?_⟩
    split <;> omega

/-- One more. -/
noncomputable def sx (l : Lv) : Lv := formF (pl l 1)

theorem succF_eq {l : Lv} (hl : Vd l) : succF l = bif mayF (sx l) then (sx l, 0) else (noLv, 4) := by
  unfold succF toldF sx
  rw [mayF_iff.2 hl, plusF_eq hl (by omega) (by unfold TOP; omega)]
  rfl

theorem sx_p {l : Lv} (hl : Vd l) : ((sx l).p0 = l.p0 + 1 ∧ 0 ≤ l.p0 ∨ (sx l).p0 = -1 ∧ l.p0 = -1) ∧ ((sx l).p1 = l.p1 + 1 ∧ 0 ≤ l.p1 ∨ (sx l).p1 = -1 ∧ l.p1 = -1) ∧
    ((sx l).p2 = l.p2 + 1 ∧ 0 ≤ l.p2 ∨ (sx l).p2 = -1 ∧ l.p2 = -1) ∧ ((sx l).p3 = l.p3 + 1 ∧ 0 ≤ l.p3 ∨ (sx l).p3 = -1 ∧ l.p3 = -1) := by
  obtain ⟨a1, a2, a3, a4, a5, a6, a7⟩ := hl
  unfold sx
  rw [formF_eq]
  unfold pl
  simp only
  refine ⟨?_, ?_, ?_, ?_⟩ <;> split <;> omega

theorem sx_c {l : Lv} (hl : Vd l) : (sx l).c = if l.c + 1 ≤ (sx l).p0 ∨ l.c + 1 ≤ (sx l).p1 ∨ l.c + 1 ≤ (sx l).p2 ∨ l.c + 1 ≤ (sx l).p3 then 0 else l.c + 1 := by
  have h := form_c (l := pl l 1) (by show 0 ≤ l.c + 1; have := hl.1; omega)
  have e0 : (sx l).p0 = (pl l 1).p0 := by unfold sx; rw [formF_eq]
  have e1 : (sx l).p1 = (pl l 1).p1 := by unfold sx; rw [formF_eq]
  have e2 : (sx l).p2 = (pl l 1).p2 := by unfold sx; rw [formF_eq]
  have e3 : (sx l).p3 = (pl l 1).p3 := by unfold sx; rw [formF_eq]
  rw [e0, e1, e2, e3]
  exact h

theorem sx_top {l : Lv} (hl : Vd l) : (sx l).top = l.top + 1 ∧ 0 ≤ l.top ∨ (sx l).top = -1 ∧ l.top = -1 := by
  obtain ⟨e0, e1, e2, e3⟩ := sx_p hl
  have h : ∀ x, 1 ≤ x → (x ≤ (sx l).top ↔ x - 1 ≤ l.top) := fun x hx => by rw [le_top, le_top]; omega
  have h0 : -1 ≤ l.top := by rw [le_top]; obtain ⟨_, _, a3, _⟩ := hl; exact .inl a3.1
  have h0' : -1 ≤ (sx l).top := by rw [le_top]; left; omega
  by_cases hq : 0 ≤ l.top
  · left
    have h1 := (h (l.top + 1) (by omega)).2 (by omega)
    have h2 := (h (sx l).top (by omega)).1 (by omega)
    exact ⟨by omega, hq⟩
  · right
    refine ⟨?_, by omega⟩
    by_cases h3 : 1 ≤ (sx l).top
    · have := (h (sx l).top h3).1 (by omega); omega
    · have h4 : ¬ 0 ≤ (sx l).top := by
        rw [le_top]
        have : ¬ 0 ≤ l.top := hq
        rw [le_top] at this
        omega
      omega

theorem Vd_top {l : Lv} (hl : Vd l) : -1 ≤ l.top ∧ (l.c = 0 ∨ l.top < l.c) ∧ 0 ≤ l.c := by
  obtain ⟨a1, a2, a3, a4, a5, a6, a7⟩ := hl
  refine ⟨by rw [le_top]; exact .inl a3.1, ?_, a1⟩
  rw [top_lt]; exact a7

theorem sx_cases {a : Lv} (ha : Vd a) : ((sx a).c = a.c + 1 ∧ (a.c = 0 → a.top < 0)) ∨ ((sx a).c = 0 ∧ a.c = 0 ∧ 0 ≤ a.top) := by
  have hc := sx_c ha
  have ht := sx_top ha
  obtain ⟨v1, v2, v3⟩ := Vd_top ha
  simp only [← le_top] at hc
  split at hc
  · right; omega
  · left; omega

theorem Le_iff {a b : Lv} : Le a b ↔ (a.p0 ≤ b.p0 ∧ a.p1 ≤ b.p1 ∧ a.p2 ≤ b.p2 ∧ a.p3 ≤ b.p3) ∧ (a.c ≤ b.c ∨ a.c ≤ b.top) := by
  unfold Le
  rw [le_top]
  simp only [and_assoc]

theorem le_sx {a : Lv} (ha : Vd a) : Le a (sx a) ∧ ¬ Le (sx a) a := by
  have hc := sx_cases ha
  have ht := sx_top ha
  obtain ⟨e0, e1, e2, e3⟩ := sx_p ha
  obtain ⟨v1, v2, v3⟩ := Vd_top ha
  rw [Le_iff, Le_iff]
  constructor
  · exact ⟨⟨by omega, by omega, by omega, by omega⟩, by omega⟩
  · rintro ⟨⟨k0, k1, k2, k3⟩, k4⟩
    have : ¬ 0 ≤ a.top := by
      rw [le_top]
      rintro (h | h | h | h) <;> omega
    omega

theorem sx_mono {a b : Lv} (ha : Vd a) (hb : Vd b) : Le (sx a) (sx b) ↔ Le a b := by
  have hc := sx_cases ha
  have kc := sx_cases hb
  have ht := sx_top ha
  have kt := sx_top hb
  obtain ⟨e0, e1, e2, e3⟩ := sx_p ha
  obtain ⟨f0, f1, f2, f3⟩ := sx_p hb
  obtain ⟨v1, v2, v3⟩ := Vd_top ha
  obtain ⟨w1, w2, w3⟩ := Vd_top hb
  have q0 : (sx a).p0 ≤ (sx b).p0 ↔ a.p0 ≤ b.p0 := by omega
  have q1 : (sx a).p1 ≤ (sx b).p1 ↔ a.p1 ≤ b.p1 := by omega
  have q2 : (sx a).p2 ≤ (sx b).p2 ↔ a.p2 ≤ b.p2 := by omega
  have q3 : (sx a).p3 ≤ (sx b).p3 ↔ a.p3 ≤ b.p3 := by omega
  rw [Le_iff, Le_iff, q0, q1, q2, q3]
  clear q0 q1 q2 q3 e0 e1 e2 e3 f0 f1 f2 f3
  constructor
  · rintro ⟨h, k⟩
    have hp : a.top ≤ b.top := by
      obtain ⟨h0, h1, h2, h3⟩ := h
      have hh := (@le_top a.top a).1 (Int.le_refl _)
      rw [le_top]
      rcases hh with hh | hh | hh | hh
      · left; omega
      · right; left; omega
      · right; right; left; omega
      · right; right; right; omega
    exact ⟨h, by omega⟩
  · rintro ⟨h, k⟩
    have hp : a.top ≤ b.top := by
      obtain ⟨h0, h1, h2, h3⟩ := h
      have hh := (@le_top a.top a).1 (Int.le_refl _)
      rw [le_top]
      rcases hh with hh | hh | hh | hh
      · left; omega
      · right; left; omega
      · right; right; left; omega
      · right; right; right; omega
    exact ⟨h, by omega⟩

end Go.Ev

/- Levels: what a level means at numbers (own work). -/
namespace Go.Ev
open Go.Proofs Go.RowKit

/-- Numbers of a level from 0 on, and -1 where there is no parameter; not too great. -/
def Wk (l : Lv) : Prop := (0 ≤ l.c ∧ l.c ≤ 8796093022208) ∧ (-1 ≤ l.p0 ∧ l.p0 ≤ 8796093022208) ∧ (-1 ≤ l.p1 ∧ l.p1 ≤ 8796093022208) ∧ (-1 ≤ l.p2 ∧ l.p2 ≤ 8796093022208) ∧ (-1 ≤ l.p3 ∧ l.p3 ≤ 8796093022208)

theorem Vd.wk {l : Lv} (h : Vd l) : Wk l := by
  obtain ⟨a1, a2, a3, a4, a5, a6, a7⟩ := h
  unfold TOP at *
  exact ⟨⟨a1, by omega⟩, ⟨a3.1, by omega⟩, ⟨a4.1, by omega⟩, ⟨a5.1, by omega⟩, ⟨a6.1, by omega⟩⟩

/-- Numbers from 0 on. -/
def Ge0 (v : P4) : Prop := 0 ≤ v.p0 ∧ 0 ≤ v.p1 ∧ 0 ≤ v.p2 ∧ 0 ≤ v.p3

def tm (p v : Int) : Int := if p < 0 then 0 else v + p

theorem tm_neg {p v : Int} (h : p < 0) : tm p v = 0 := if_pos h
theorem tm_pos {p v : Int} (h : 0 ≤ p) : tm p v = v + p := if_neg (by omega)

/-- What a level is at numbers. -/
def ev (l : Lv) (v : P4) : Int := max (max (max (max l.c (tm l.p0 v.p0)) (tm l.p1 v.p1)) (tm l.p2 v.p2)) (tm l.p3 v.p3)

theorem max_le_iff' (x y z : Int) : max y z ≤ x ↔ y ≤ x ∧ z ≤ x := by omega

theorem ev_le {l : Lv} {v : P4} {x : Int} : ev l v ≤ x ↔ l.c ≤ x ∧ tm l.p0 v.p0 ≤ x ∧ tm l.p1 v.p1 ≤ x ∧ tm l.p2 v.p2 ≤ x ∧ tm l.p3 v.p3 ≤ x := by
  unfold ev
  simp only [max_le_iff', and_assoc]

theorem le_ev {l : Lv} {v : P4} {x : Int} : x ≤ ev l v ↔ x ≤ l.c ∨ x ≤ tm l.p0 v.p0 ∨ x ≤ tm l.p1 v.p1 ∨ x ≤ tm l.p2 v.p2 ∨ x ≤ tm l.p3 v.p3 := by
  unfold ev
  simp only [le_max_iff', or_assoc]

theorem eq_of_le {a b : Int} (h : ∀ x, a ≤ x ↔ b ≤ x) : a = b := Int.le_antisymm ((h b).2 (Int.le_refl b)) ((h a).1 (Int.le_refl a))

theorem ev_ge {l : Lv} {v : P4} (hl : Wk l) : 0 ≤ ev l v := le_ev.2 (.inl hl.1.1)

/-! ### The one form -/

/-- In the one form. -/
def Nf (l : Lv) : Prop := l.c = 0 ∨ (l.p0 < l.c ∧ l.p1 < l.c ∧ l.p2 < l.c ∧ l.p3 < l.c)

theorem form_nf {l : Lv} (hl : Wk l) : Nf (formF l) ∧ Wk (formF l) := by
  have hc := form_c hl.1.1
  have e0 : (formF l).p0 = l.p0 := by rw [formF_eq]
  have e1 : (formF l).p1 = l.p1 := by rw [formF_eq]
  have e2 : (formF l).p2 = l.p2 := by rw [formF_eq]
  have e3 : (formF l).p3 = l.p3 := by rw [formF_eq]
  obtain ⟨w0, w1, w2, w3, w4⟩ := hl
  unfold Nf Wk
  rw [e0, e1, e2, e3, hc]
  split
  · exact ⟨.inl rfl, ⟨by omega, by omega⟩, w1, w2, w3, w4⟩
  · exact ⟨.inr ⟨by omega, by omega, by omega, by omega⟩, w0, w1, w2, w3, w4⟩

theorem ev_form {l : Lv} (hl : Wk l) {v : P4} (hv : Ge0 v) : ev (formF l) v = ev l v := by
  have hc := form_c hl.1.1
  have e0 : (formF l).p0 = l.p0 := by rw [formF_eq]
  have e1 : (formF l).p1 = l.p1 := by rw [formF_eq]
  have e2 : (formF l).p2 = l.p2 := by rw [formF_eq]
  have e3 : (formF l).p3 = l.p3 := by rw [formF_eq]
  refine eq_of_le fun x => ?_
  rw [ev_le, ev_le, e0, e1, e2, e3, hc]
  obtain ⟨⟨w0, _⟩, _⟩ := hl
  obtain ⟨v0, v1, v2, v3⟩ := hv
  split
  · rename_i h
    constructor
    · rintro ⟨h1, h2, h3, h4, h5⟩
      refine ⟨?_, h2, h3, h4, h5⟩
      rcases h with h | h | h | h
      · rw [tm_pos (by omega)] at h2; omega
      · rw [tm_pos (by omega)] at h3; omega
      · rw [tm_pos (by omega)] at h4; omega
      · rw [tm_pos (by omega)] at h5; omega
    · rintro ⟨h1, h2, h3, h4, h5⟩
      exact ⟨by omega, h2, h3, h4, h5⟩
  · exact Iff.rfl

@[reducible] def FAR' : Int := 17592186044416

/-- All 0, but one great number. -/
def at0 : P4 := ⟨FAR', 0, 0, 0⟩
def at1 : P4 := ⟨0, FAR', 0, 0⟩
def at2 : P4 := ⟨0, 0, FAR', 0⟩
def at3 : P4 := ⟨0, 0, 0, FAR'⟩
def atz : P4 := ⟨0, 0, 0, 0⟩

theorem tm_le {p v x : Int} (hx : 0 ≤ x) : tm p v ≤ x ↔ (0 ≤ p → v + p ≤ x) := by
  unfold tm; split <;> omega

theorem far_iff {l : Lv} (hl : Wk l) : (∀ p : Int, 0 ≤ p → (ev l at0 ≤ FAR' + p ↔ l.p0 ≤ p)) ∧ (∀ p : Int, 0 ≤ p → (ev l at1 ≤ FAR' + p ↔ l.p1 ≤ p)) ∧ (∀ p : Int, 0 ≤ p → (ev l at2 ≤ FAR' + p ↔ l.p2 ≤ p)) ∧
    (∀ p : Int, 0 ≤ p → (ev l at3 ≤ FAR' + p ↔ l.p3 ≤ p)) := by
  obtain ⟨w0, w1, w2, w3, w4⟩ := hl
  unfold FAR'
  refine ⟨fun p hp => ?_, fun p hp => ?_, fun p hp => ?_, fun p hp => ?_⟩ <;>
  (rw [ev_le, tm_le (by omega), tm_le (by omega), tm_le (by omega), tm_le (by omega)]; (first | unfold at0 | unfold at1 | unfold at2 | unfold at3); unfold FAR'; simp only; omega)

theorem neg_iff {l : Lv} (hl : Wk l) : (ev l at0 < FAR' ↔ l.p0 < 0) ∧ (ev l at1 < FAR' ↔ l.p1 < 0) ∧ (ev l at2 < FAR' ↔ l.p2 < 0) ∧ (ev l at3 < FAR' ↔ l.p3 < 0) := by
  obtain ⟨w0, w1, w2, w3, w4⟩ := hl
  have h : ∀ x : Int, x < FAR' ↔ x ≤ FAR' - 1 := fun x => by omega
  unfold FAR' at *
  refine ⟨?_, ?_, ?_, ?_⟩ <;>
  (rw [h, ev_le, tm_le (by omega), tm_le (by omega), tm_le (by omega), tm_le (by omega)]; (first | unfold at0 | unfold at1 | unfold at2 | unfold at3); unfold FAR'; simp only; omega)

theorem far_eq {p q e : Int} (hp : -1 ≤ p) (hq : -1 ≤ q) (h1 : ∀ r : Int, 0 ≤ r → (e ≤ FAR' + r ↔ p ≤ r)) (h2 : ∀ r : Int, 0 ≤ r → (e ≤ FAR' + r ↔ q ≤ r)) (h3 : e < FAR' ↔ p < 0) (h4 : e < FAR' ↔ q < 0) : p = q := by
  by_cases h : p < 0
  · have := h4.1 (h3.2 h); omega
  · have hq0 : 0 ≤ q := by
      by_cases hh : q < 0
      · exact absurd (h3.1 (h4.2 hh)) h
      · omega
    have a := (h2 p (by omega)).1 ((h1 p (by omega)).2 (Int.le_refl p))
    have b := (h1 q hq0).1 ((h2 q hq0).2 (Int.le_refl q))
    omega

/-- Levels in the one form that are the same at all numbers are the same. -/
theorem ev_ext {a b : Lv} (ha : Wk a) (hb : Wk b) (na : Nf a) (nb : Nf b) (h : ∀ v, Ge0 v → ev a v = ev b v) : a = b := by
  have g0 : Ge0 at0 := by unfold Ge0 at0 FAR'; simp
  have g1 : Ge0 at1 := by unfold Ge0 at1 FAR'; simp
  have g2 : Ge0 at2 := by unfold Ge0 at2 FAR'; simp
  have g3 : Ge0 at3 := by unfold Ge0 at3 FAR'; simp
  have gz : Ge0 atz := by unfold Ge0 atz; simp
  obtain ⟨fa0, fa1, fa2, fa3⟩ := far_iff ha
  obtain ⟨fb0, fb1, fb2, fb3⟩ := far_iff hb
  obtain ⟨ga0, ga1, ga2, ga3⟩ := neg_iff ha
  obtain ⟨gb0, gb1, gb2, gb3⟩ := neg_iff hb
  rw [← h _ g0] at fb0 gb0
  rw [← h _ g1] at fb1 gb1
  rw [← h _ g2] at fb2 gb2
  rw [← h _ g3] at fb3 gb3
  have e0 := far_eq ha.2.1.1 hb.2.1.1 fa0 fb0 ga0 gb0
  have e1 := far_eq ha.2.2.1.1 hb.2.2.1.1 fa1 fb1 ga1 gb1
  have e2 := far_eq ha.2.2.2.1.1 hb.2.2.2.1.1 fa2 fb2 ga2 gb2
  have e3 := far_eq ha.2.2.2.2.1 hb.2.2.2.2.1 fa3 fb3 ga3 gb3
  refine Lv.ext' ?_ e0 e1 e2 e3
  have hz := h _ gz
  have key : ∀ x y : Lv, Wk x → Nf x → Wk y → x.p0 = y.p0 → x.p1 = y.p1 → x.p2 = y.p2 → x.p3 = y.p3 → ev x atz = ev y atz → x.c ≤ y.c := by
    intro x y wx nx wy e0 e1 e2 e3 hz
    have h1 : x.c ≤ ev y atz := by rw [← hz]; exact le_ev.2 (.inl (Int.le_refl _))
    rw [le_ev] at h1
    obtain ⟨⟨x0, _⟩, _⟩ := wx
    obtain ⟨⟨y0, _⟩, _⟩ := wy
    rcases nx with nx | ⟨n0, n1, n2, n3⟩
    · omega
    · have t : ∀ p : Int, p < x.c → x.c ≤ tm p 0 → x.c ≤ y.c := fun p hp ht => by unfold tm at ht; split at ht <;> omega
      rcases h1 with h1 | h1 | h1 | h1 | h1
      · exact h1
      · exact t y.p0 (by omega) h1
      · exact t y.p1 (by omega) h1
      · exact t y.p2 (by omega) h1
      · exact t y.p3 (by omega) h1
  exact Int.le_antisymm (key a b ha na hb e0 e1 e2 e3 hz) (key b a hb nb ha e0.symm e1.symm e2.symm e3.symm hz.symm)

end Go.Ev

/- Levels: what the functions of the package mean at numbers (own work). -/
namespace Go.Ev
open Go.Proofs Go.RowKit

theorem tm_max {p q v : Int} (hp : -1 ≤ p) (hq : -1 ≤ q) (hv : 0 ≤ v) : tm (max p q) v = max (tm p v) (tm q v) := by
  unfold tm
  split <;> split <;> split <;> omega

theorem joinW_eq {a b : Lv} (ha : Wk a) (hb : Wk b) : joinF a b = { c := max a.c b.c, p0 := max a.p0 b.p0, p1 := max a.p1 b.p1, p2 := max a.p2 b.p2, p3 := max a.p3 b.p3 } := by
  obtain ⟨a1, a2, a3, a4, a5⟩ := ha
  obtain ⟨b1, b2, b3, b4, b5⟩ := hb
  have e : joinF a b = { c := maxI a.c b.c, p0 := if b.p0 < 0 then a.p0 else maxI a.p0 b.p0, p1 := if b.p1 < 0 then a.p1 else maxI a.p1 b.p1, p2 := if b.p2 < 0 then a.p2 else maxI a.p2 b.p2, p3 := if b.p3 < 0 then a.p3 else maxI a.p3 b.p3 } := by
    unfold joinF foldP foldP foldP foldP foldP
    simp only [iLt_eq, cond_ite, decide_eq_true_eq]
    split <;> split <;> split <;> split <;> rfl
  rw [e]
  unfold maxI
  refine Lv.ext' ?_ ?_ ?_ ?_ ?_ <;> simp only [] <;> (repeat' split) <;> omega

theorem joinW {a b : Lv} (ha : Wk a) (hb : Wk b) : Wk (joinF a b) ∧ ∀ v, Ge0 v → ev (joinF a b) v = max (ev a v) (ev b v) := by
  rw [joinW_eq ha hb]
  obtain ⟨a1, a2, a3, a4, a5⟩ := ha
  obtain ⟨b1, b2, b3, b4, b5⟩ := hb
  constructor
  · exact ⟨⟨by simp only; omega, by simp only; omega⟩, ⟨by simp only; omega, by simp only; omega⟩, ⟨by simp only; omega, by simp only; omega⟩, ⟨by simp only; omega, by simp only; omega⟩, ⟨by simp only; omega, by simp only; omega⟩⟩
  · intro v hv
    obtain ⟨v0, v1, v2, v3⟩ := hv
    refine eq_of_le fun x => ?_
    rw [ev_le, max_le_iff' x (ev a v), ev_le, ev_le]
    simp only
    rw [tm_max a2.1 b2.1 v0, tm_max a3.1 b3.1 v1, tm_max a4.1 b4.1 v2, tm_max a5.1 b5.1 v3]
    simp only [max_le_iff']
    constructor
    · rintro ⟨⟨h1, h2⟩, ⟨h3, h4⟩, ⟨h5, h6⟩, ⟨h7, h8⟩, h9, h10⟩
      exact ⟨⟨h1, h3, h5, h7, h9⟩, h2, h4, h6, h8, h10⟩
    · rintro ⟨⟨h1, h3, h5, h7, h9⟩, h2, h4, h6, h8, h10⟩
      exact ⟨⟨h1, h2⟩, ⟨h3, h4⟩, ⟨h5, h6⟩, ⟨h7, h8⟩, h9, h10⟩

theorem tm_add {p v x n : Int} (hn : 0 ≤ n) (hx : 0 ≤ x - n) : tm (if p < 0 then p else p + n) v ≤ x ↔ tm p v ≤ x - n := by
  unfold tm
  repeat' split
  all_goals omega

theorem plW {l : Lv} (hl : Vd l) {n : Int} (h0 : 0 ≤ n) (hn : n ≤ TOP) : Wk (pl l n) ∧ ∀ v, ev (pl l n) v = ev l v + n := by
  obtain ⟨a1, a2, a3, a4, a5, a6, a7⟩ := hl
  unfold TOP at *
  constructor
  · unfold Wk pl
    simp only
    refine ⟨⟨by omega, by omega⟩, ⟨?_, ?_⟩, ⟨?_, ?_⟩, ⟨?_, ?_⟩, ⟨?_, ?_⟩⟩ <;> split <;> omega
  · intro v
    refine eq_of_le fun x => ?_
    rw [show ev l v + n ≤ x ↔ ev l v ≤ x - n by omega, ev_le, ev_le]
    unfold pl
    simp only
    constructor
    · rintro ⟨h1, h2, h3, h4, h5⟩
      have hx : 0 ≤ x - n := by omega
      rw [tm_add h0 hx] at h2 h3 h4 h5
      exact ⟨by omega, h2, h3, h4, h5⟩
    · rintro ⟨h1, h2, h3, h4, h5⟩
      have hx : 0 ≤ x - n := by omega
      rw [tm_add h0 hx, tm_add h0 hx, tm_add h0 hx, tm_add h0 hx]
      exact ⟨by omega, h2, h3, h4, h5⟩

theorem formj {a b : Lv} (ha : Vd a) (hb : Vd b) : formF (joinF a b) = mx a b := by
  rw [joinF_eq ha hb]
  refine Lv.ext' ?_ ?_ ?_ ?_ ?_
  · rw [form_c (by show 0 ≤ max a.c b.c; have := ha.1; omega)]; rfl
  all_goals (rw [formF_eq]; rfl)

theorem ev_mx {a b : Lv} (ha : Vd a) (hb : Vd b) {v : P4} (hv : Ge0 v) : ev (mx a b) v = max (ev a v) (ev b v) := by
  rw [← formj ha hb, ev_form (joinW ha.wk hb.wk).1 hv, (joinW ha.wk hb.wk).2 v hv]

theorem Vd.nf {l : Lv} (h : Vd l) : Nf l := h.2.2.2.2.2.2

theorem ev_sx {l : Lv} (hl : Vd l) {v : P4} (hv : Ge0 v) : ev (sx l) v = ev l v + 1 := by
  have h := plW hl (n := 1) (by omega) (by unfold TOP; omega)
  unfold sx
  rw [ev_form h.1 hv, h.2 v]

/-! ### Inst -/

/-- The numbers that four levels are. -/
def evs (b0 b1 b2 b3 : Lv) (v : P4) : P4 := ⟨ev b0 v, ev b1 v, ev b2 v, ev b3 v⟩

theorem evs_ge {b0 b1 b2 b3 : Lv} (h0 : Wk b0) (h1 : Wk b1) (h2 : Wk b2) (h3 : Wk b3) (v : P4) : Ge0 (evs b0 b1 b2 b3 v) := ⟨ev_ge h0, ev_ge h1, ev_ge h2, ev_ge h3⟩

theorem fold_one {bys : List Lv} {i p : Int} {ps : List Int} {out b : Lv} (hb : bys[i.toNat]? = some b) (ho : Wk out) (vb : Vd b) (hp : p ≤ TOP) :
    ∃ out', foldE (instStep bys) (p :: ps) i out = foldE (instStep bys) ps (i + 1) out' ∧ Wk out' ∧ ∀ v, Ge0 v → ev out' v = max (ev out v) (tm p (ev b v)) := by
  rw [foldE_cons]
  cases hq : iLt p 0 with
  | true =>
    rw [iLt_iff] at hq
    refine ⟨out, rfl, ho, fun v hv => ?_⟩
    rw [tm_neg hq]
    have := ev_ge (v := v) ho
    omega
  | false =>
    rw [iLt_not] at hq
    have e : instStep bys i p out = some (joinF out (pl b p)) := by
      unfold instStep
      rw [hb]
      show some (joinF out (plusF b p)) = _
      rw [plusF_eq vb hq hp]
    rw [e]
    have h := plW vb hq hp
    refine ⟨_, rfl, (joinW ho h.1).1, fun v hv => ?_⟩
    rw [(joinW ho h.1).2 v hv, h.2 v, tm_pos hq]

theorem inst_spec {l b0 b1 b2 b3 : Lv} (hl : Vd l) (h0 : Vd b0) (h1 : Vd b1) (h2 : Vd b2) (h3 : Vd b3) :
    ∃ f, Wk f ∧ Nf f ∧ (∀ v, Ge0 v → ev f v = ev l (evs b0 b1 b2 b3 v)) ∧ instF l [b0, b1, b2, b3] = bif mayF f then (f, 0) else (noLv, 4) := by
  have hz : Wk { zeroLv with c := l.c } := by
    obtain ⟨w0, _⟩ := hl.wk
    exact ⟨w0, by simp, by simp, by simp, by simp⟩
  have hl' := hl
  obtain ⟨a1, a2, a3, a4, a5, a6, a7⟩ := hl'
  obtain ⟨o0, e0, k0, r0⟩ := fold_one (bys := [b0, b1, b2, b3]) (i := 0) (p := l.p0) (ps := [l.p1, l.p2, l.p3]) rfl hz h0 a3.2
  obtain ⟨o1, e1, k1, r1⟩ := fold_one (bys := [b0, b1, b2, b3]) (i := 0 + 1) (p := l.p1) (ps := [l.p2, l.p3]) rfl k0 h1 a4.2
  obtain ⟨o2, e2, k2, r2⟩ := fold_one (bys := [b0, b1, b2, b3]) (i := 0 + 1 + 1) (p := l.p2) (ps := [l.p3]) rfl k1 h2 a5.2
  obtain ⟨o3, e3, k3, r3⟩ := fold_one (bys := [b0, b1, b2, b3]) (i := 0 + 1 + 1 + 1) (p := l.p3) (ps := []) rfl k2 h3 a6.2
  have hf : foldE (instStep [b0, b1, b2, b3]) l.ps 0 { zeroLv with c := l.c } = (true, o3) := by
    show foldE (instStep [b0, b1, b2, b3]) [l.p0, l.p1, l.p2, l.p3] 0 { zeroLv with c := l.c } = _
    rw [e0, e1, e2, e3]
    rfl
  refine ⟨formF o3, (form_nf k3).2, (form_nf k3).1, fun v hv => ?_, ?_⟩
  · rw [ev_form k3 hv, r3 v hv, r2 v hv, r1 v hv, r0 v hv]
    have : ev { zeroLv with c := l.c } v = l.c := by
      refine eq_of_le fun x => ?_
      rw [ev_le]
      simp only
      rw [tm_neg (by omega), tm_neg (by omega), tm_neg (by omega), tm_neg (by omega)]
      omega
    rw [this]
    rfl
  · unfold instF
    rw [hf]
    simp only [List.all_cons, List.all_nil, mayF_iff.2 hl, mayF_iff.2 h0, mayF_iff.2 h1, mayF_iff.2 h2, mayF_iff.2 h3, Bool.and_self]
    rfl

/-- The parameters themselves. -/
theorem ev_param : ∀ v, Ge0 v → evs (zeroLv.set 0 0) (zeroLv.set 1 0) (zeroLv.set 2 0) (zeroLv.set 3 0) v = v := by
  intro v hv
  obtain ⟨v0, v1, v2, v3⟩ := hv
  have h : ∀ (l : Lv) (y : Int), (∀ x, ev l v ≤ x ↔ y ≤ x) → ev l v = y := fun l y hh => eq_of_le hh
  have e0 : zeroLv.set 0 0 = ⟨0, 0, -1, -1, -1⟩ := rfl
  have e1 : zeroLv.set 1 0 = ⟨0, -1, 0, -1, -1⟩ := rfl
  have e2 : zeroLv.set 2 0 = ⟨0, -1, -1, 0, -1⟩ := rfl
  have e3 : zeroLv.set 3 0 = ⟨0, -1, -1, -1, 0⟩ := rfl
  unfold evs
  rw [e0, e1, e2, e3, h _ v.p0 (fun x => by rw [ev_le]; simp only [tm]; simp; omega), h _ v.p1 (fun x => by rw [ev_le]; simp only [tm]; simp; omega),
    h _ v.p2 (fun x => by rw [ev_le]; simp only [tm]; simp; omega), h _ v.p3 (fun x => by rw [ev_le]; simp only [tm]; simp; omega)]

theorem Vd_param : Vd (zeroLv.set 0 0) ∧ Vd (zeroLv.set 1 0) ∧ Vd (zeroLv.set 2 0) ∧ Vd (zeroLv.set 3 0) := by
  have e0 : zeroLv.set 0 0 = ⟨0, 0, -1, -1, -1⟩ := rfl
  have e1 : zeroLv.set 1 0 = ⟨0, -1, 0, -1, -1⟩ := rfl
  have e2 : zeroLv.set 2 0 = ⟨0, -1, -1, 0, -1⟩ := rfl
  have e3 : zeroLv.set 3 0 = ⟨0, -1, -1, -1, 0⟩ := rfl
  rw [e0, e1, e2, e3]
  unfold Vd TOP
  simp

/-! ### The calls, as the walks want them -/

theorem neq24 (a : Lv) : binOp Try.cfg .neq 24 (enc a) (enc a) = some (.bool false) := by rw [bin24n]; simp

theorem fmax {x y z : Lv} (hx : Vd x) (hy : Vd y) (h : mx x y = z) (S : St) : run Try.cfg 20 (.f 20) [enc x, enc y] S = some (encR (z, 0), S) := by
  rw [f20_ok 10 x y S, (maxF_eq hx hy).1, h]

theorem fleq {x y : Lv} {b : Bool} (h : leqF x y = b) (S : St) : run Try.cfg 20 (.f 28) [enc x, enc y] S = some (.bool b, S) := by
  rw [f28_ok 11 x y S, h]

theorem fsucc {x : Lv} {r : Lv × Int} (h : succF x = r) (S : St) : run Try.cfg 20 (.f 18) [enc x] S = some (encR r, S) := by
  rw [f18_ok 10 x S, h]

end Go.Ev

/- Levels: the document's functions (written by lvr.py; own work). -/
namespace Go.Ev
open Go.Proofs Go.RowKit
set_option maxRecDepth 100000

theorem r33_ok (n : Nat) (S : St) : run Try.cfg (n + 1) (.f 33) [] S = some (enc zeroLv, S) :=
  run_val (v := enc zeroLv) (S' := St.empty) (frame_of Try.cfg _ (fn := Try.f33) rfl rfl rfl) rfl rfl rfl rfl rfl

theorem r25_frame (n : Nat) (i : Int) : frame Try.cfg (run Try.cfg (n + 1)) (n + 1) 25 [.int .i64 i] St.empty = some (encR (paramF i), St.empty) := by
  refine frame_of Try.cfg _ (fn := Try.f25) rfl rfl ?_
  refine WCmp.mk (fun h => ?_) (fun h => ?_)
  · rw [show paramF i = (noLv, 1) by simp [paramF, h]]; rfl
  · refine WCmp.mk (fun h2 => ?_) (fun h2 => ?_)
    · rw [show paramF i = (noLv, 1) by simp [paramF, h2]]; rfl
    · have h3 := iLt_not.1 h
      have h4 : i < 4 := iLt_iff.1 (by simpa using h2)
      have h5 : i = 0 ∨ i = 1 ∨ i = 2 ∨ i = 3 := by omega
      refine WCall.mk _ _ (r33_ok n _) ?_
      rcases h5 with rfl | rfl | rfl | rfl <;> (refine WOut.mk _ rfl ?_; rfl)

theorem r25_ok (n : Nat) (i : Int) (S : St) : run Try.cfg (n + 2) (.f 25) [.int .i64 i] S = some (encR (paramF i), S) := run_val (r25_frame n i) rfl rfl rfl rfl rfl

/-! ### May -/

noncomputable def okR (c p : Int) : Bool := !iLt p (-1) && (!iLt TOP p && !(!iLt p c && (!iLt p 0 && iLt 0 c)))
noncomputable def mayR (l : Lv) : Bool := !iLt l.c 0 && (!iLt TOP l.c && (okR l.c l.p0 && (okR l.c l.p1 && (okR l.c l.p2 && okR l.c l.p3))))

noncomputable def f27L : Code := loopN Try.f27 0

theorem f27_at0 (R : Run) (k j : Nat) (l : Lv) (S : St) (K : Ex → Env → St → Prop) (hx : okR l.c l.p0 = false → K .ret { nt := 49, tmps := [(2, .bool false)], locs := [(1, cellsOf l)], fix := [] } S)
    (hn : okR l.c l.p0 = true → WCode (iter (evalCode Try.cfg R k 27 (Try.cfg.fc 27) f27L) j { nt := 49, tmps := [(1, .ptr (.loc 1) 0), (3, .int .i64 1)], locs := [(1, cellsOf l)], fix := [] } S) K) :
    WCode (iter (evalCode Try.cfg R k 27 (Try.cfg.fc 27) f27L) (j + 1) { nt := 49, tmps := [(1, .ptr (.loc 1) 0), (3, .int .i64 0)], locs := [(1, cellsOf l)], fix := [] } S) K := by
  refine WCode.round (nt := 49) (fx := []) ?_
  refine WCmp.yes rfl ?_
  refine WOut.mk _ rfl ?_
  refine WCmp.mk (fun h1 => ?_) (fun h1 => ?_)
  · exact hx (by simp [okR, h1])
  refine WOut.mk _ rfl ?_
  refine WCmp.mk (fun h2 => ?_) (fun h2 => ?_)
  · exact hx (by simp [okR, h2])
  refine WOut.mk _ rfl ?_
  refine WCmp.mk (fun h3 => ?_) (fun h3 => ?_)
  · refine WOut.mk _ rfl ?_
    refine WCmp.mk (fun h4 => ?_) (fun h4 => ?_)
    · refine WCmp.mk (fun h5 => ?_) (fun h5 => ?_)
      · exact hx (by simp at h3 h4; simp [okR, h3, h4, h5])
      · refine WOut.mk _ rfl ?_
        exact hn (by simp [okR, h1, h2, h5])
    · refine WOut.mk _ rfl ?_
      exact hn (by simp at h4; simp [okR, h1, h2, h4])
  · refine WOut.mk _ rfl ?_
    exact hn (by simp at h3; simp [okR, h1, h2, h3])

theorem f27_at1 (R : Run) (k j : Nat) (l : Lv) (S : St) (K : Ex → Env → St → Prop) (hx : okR l.c l.p1 = false → K .ret { nt := 49, tmps := [(2, .bool false)], locs := [(1, cellsOf l)], fix := [] } S)
    (hn : okR l.c l.p1 = true → WCode (iter (evalCode Try.cfg R k 27 (Try.cfg.fc 27) f27L) j { nt := 49, tmps := [(1, .ptr (.loc 1) 0), (3, .int .i64 2)], locs := [(1, cellsOf l)], fix := [] } S) K) :
    WCode (iter (evalCode Try.cfg R k 27 (Try.cfg.fc 27) f27L) (j + 1) { nt := 49, tmps := [(1, .ptr (.loc 1) 0), (3, .int .i64 1)], locs := [(1, cellsOf l)], fix := [] } S) K := by
  refine WCode.round (nt := 49) (fx := []) ?_
  refine WCmp.yes rfl ?_
  refine WOut.mk _ rfl ?_
  refine WCmp.mk (fun h1 => ?_) (fun h1 => ?_)
  · exact hx (by simp [okR, h1])
  refine WOut.mk _ rfl ?_
  refine WCmp.mk (fun h2 => ?_) (fun h2 => ?_)
  · exact hx (by simp [okR, h2])
  refine WOut.mk _ rfl ?_
  refine WCmp.mk (fun h3 => ?_) (fun h3 => ?_)
  · refine WOut.mk _ rfl ?_
    refine WCmp.mk (fun h4 => ?_) (fun h4 => ?_)
    · refine WCmp.mk (fun h5 => ?_) (fun h5 => ?_)
      · exact hx (by simp at h3 h4; simp [okR, h3, h4, h5])
      · refine WOut.mk _ rfl ?_
        exact hn (by simp [okR, h1, h2, h5])
    · refine WOut.mk _ rfl ?_
      exact hn (by simp at h4; simp [okR, h1, h2, h4])
  · refine WOut.mk _ rfl ?_
    exact hn (by simp at h3; simp [okR, h1, h2, h3])

theorem f27_at2 (R : Run) (k j : Nat) (l : Lv) (S : St) (K : Ex → Env → St → Prop) (hx : okR l.c l.p2 = false → K .ret { nt := 49, tmps := [(2, .bool false)], locs := [(1, cellsOf l)], fix := [] } S)
    (hn : okR l.c l.p2 = true → WCode (iter (evalCode Try.cfg R k 27 (Try.cfg.fc 27) f27L) j { nt := 49, tmps := [(1, .ptr (.loc 1) 0), (3, .int .i64 3)], locs := [(1, cellsOf l)], fix := [] } S) K) :
    WCode (iter (evalCode Try.cfg R k 27 (Try.cfg.fc 27) f27L) (j + 1) { nt := 49, tmps := [(1, .ptr (.loc 1) 0), (3, .int .i64 2)], locs := [(1, cellsOf l)], fix := [] } S) K := by
  refine WCode.round (nt := 49) (fx := []) ?_
  refine WCmp.yes rfl ?_
  refine WOut.mk _ rfl ?_
  refine WCmp.mk (fun h1 => ?_) (fun h1 => ?_)
  · exact hx (by simp [okR, h1])
  refine WOut.mk _ rfl ?_
  refine WCmp.mk (fun h2 => ?_) (fun h2 => ?_)
  · exact hx (by simp [okR, h2])
  refine WOut.mk _ rfl ?_
  refine WCmp.mk (fun h3 => ?_) (fun h3 => ?_)
  · refine WOut.mk _ rfl ?_
    refine WCmp.mk (fun h4 => ?_) (fun h4 => ?_)
    · refine WCmp.mk (fun h5 => ?_) (fun h5 => ?_)
      · exact hx (by simp at h3 h4; simp [okR, h3, h4, h5])
      · refine WOut.mk _ rfl ?_
        exact hn (by simp [okR, h1, h2, h5])
    · refine WOut.mk _ rfl ?_
      exact hn (by simp at h4; simp [okR, h1, h2, h4])
  · refine WOut.mk _ rfl ?_
    exact hn (by simp at h3; simp [okR, h1, h2, h3])

theorem f27_at3 (R : Run) (k j : Nat) (l : Lv) (S : St) (K : Ex → Env → St → Prop) (hx : okR l.c l.p3 = false → K .ret { nt := 49, tmps := [(2, .bool false)], locs := [(1, cellsOf l)], fix := [] } S)
    (hn : okR l.c l.p3 = true → WCode (iter (evalCode Try.cfg R k 27 (Try.cfg.fc 27) f27L) j { nt := 49, tmps := [(1, .ptr (.loc 1) 0), (3, .int .i64 4)], locs := [(1, cellsOf l)], fix := [] } S) K) :
    WCode (iter (evalCode Try.cfg R k 27 (Try.cfg.fc 27) f27L) (j + 1) { nt := 49, tmps := [(1, .ptr (.loc 1) 0), (3, .int .i64 3)], locs := [(1, cellsOf l)], fix := [] } S) K := by
  refine WCode.round (nt := 49) (fx := []) ?_
  refine WCmp.yes rfl ?_
  refine WOut.mk _ rfl ?_
  refine WCmp.mk (fun h1 => ?_) (fun h1 => ?_)
  · exact hx (by simp [okR, h1])
  refine WOut.mk _ rfl ?_
  refine WCmp.mk (fun h2 => ?_) (fun h2 => ?_)
  · exact hx (by simp [okR, h2])
  refine WOut.mk _ rfl ?_
  refine WCmp.mk (fun h3 => ?_) (fun h3 => ?_)
  · refine WOut.mk _ rfl ?_
    refine WCmp.mk (fun h4 => ?_) (fun h4 => ?_)
    · refine WCmp.mk (fun h5 => ?_) (fun h5 => ?_)
      · exact hx (by simp at h3 h4; simp [okR, h3, h4, h5])
      · refine WOut.mk _ rfl ?_
        exact hn (by simp [okR, h1, h2, h5])
    · refine WOut.mk _ rfl ?_
      exact hn (by simp at h4; simp [okR, h1, h2, h4])
  · refine WOut.mk _ rfl ?_
    exact hn (by simp at h3; simp [okR, h1, h2, h3])

theorem r27_frame (R : Run) (n : Nat) (l : Lv) : frame Try.cfg R (n + 5) 27 [enc l] St.empty = some (.bool (mayR l), St.empty) := by
  refine frame_of Try.cfg _ (fn := Try.f27) rfl rfl ?_
  refine WCmp.mk (fun a1 => ?_) (fun a1 => ?_)
  · rw [show mayR l = false by simp [mayR, a1]]; rfl
  refine WCmp.mk (fun a2 => ?_) (fun a2 => ?_)
  · rw [show mayR l = false by simp [mayR, a2]]; rfl
  refine f27_at0 R _ _ l _ _ (fun h => ?_) (fun h0 => ?_)
  · rw [show mayR l = false by simp [mayR, h]]; rfl
  refine f27_at1 R _ _ l _ _ (fun h => ?_) (fun h1 => ?_)
  · rw [show mayR l = false by simp [mayR, h]]; rfl
  refine f27_at2 R _ _ l _ _ (fun h => ?_) (fun h2 => ?_)
  · rw [show mayR l = false by simp [mayR, h]]; rfl
  refine f27_at3 R _ _ l _ _ (fun h => ?_) (fun h3 => ?_)
  · rw [show mayR l = false by simp [mayR, h]]; rfl
  refine WCode.round (nt := 49) (fx := []) ?_
  refine WCmp.no rfl ?_
  rw [show mayR l = true by simp [mayR, *]]
  rfl

theorem mayR_eq (l : Lv) : mayR l = mayF l := by
  rw [Bool.eq_iff_iff, mayF_iff]
  unfold mayR okR Vd
  simp only [Bool.and_eq_true, Bool.not_eq_true', iLt_not, Bool.and_eq_false_iff, Bool.not_eq_false', iLt_iff]
  constructor
  · rintro ⟨h1, h2, ⟨a1, a2, a3⟩, ⟨b1, b2, b3⟩, ⟨c1, c2, c3⟩, d1, d2, d3⟩
    exact ⟨h1, h2, ⟨a1, a2⟩, ⟨b1, b2⟩, ⟨c1, c2⟩, ⟨d1, d2⟩, by omega⟩
  · rintro ⟨h1, h2, ⟨a1, a2⟩, ⟨b1, b2⟩, ⟨c1, c2⟩, ⟨d1, d2⟩, h⟩
    exact ⟨h1, h2, ⟨a1, a2, by omega⟩, ⟨b1, b2, by omega⟩, ⟨c1, c2, by omega⟩, d1, d2, by omega⟩

theorem r27_ok (n : Nat) (l : Lv) (S : St) : run Try.cfg (n + 6) (.f 27) [enc l] S = some (.bool (mayF l), S) := by
  rw [← mayR_eq]
  exact run_val (r27_frame _ n l) rfl rfl rfl rfl rfl

/-! ### form -/

noncomputable def gs (p c : Int) : Int := bif iLt p 0 then c else fstep p c

theorem gs_eq (p c : Int) : gs p c = fs p c := by
  unfold gs fs fstep
  simp only [iLt_eq, cond_ite, decide_eq_true_eq]

noncomputable def f111L : Code := loopN Try.f111 0

theorem f111_at0 (R : Run) (k j : Nat) (c p0 p1 p2 p3 : Int) (S : St) (K : Ex → Env → St → Prop)
    (hn : WCode (iter (evalCode Try.cfg R k 111 (Try.cfg.fc 111) f111L) j { nt := 24, tmps := [(1, .ptr (.loc 1) 0), (2, .ptr (.loc 2) 0), (3, .int .i64 1)], locs := [(1, [.int .i64 (gs p0 c), .int .i64 p0, .int .i64 p1, .int .i64 p2, .int .i64 p3]), (2, zeros)], fix := [] } S) K) :
    WCode (iter (evalCode Try.cfg R k 111 (Try.cfg.fc 111) f111L) (j + 1) { nt := 24, tmps := [(1, .ptr (.loc 1) 0), (2, .ptr (.loc 2) 0), (3, .int .i64 0)], locs := [(1, [.int .i64 c, .int .i64 p0, .int .i64 p1, .int .i64 p2, .int .i64 p3]), (2, zeros)], fix := [] } S) K := by
  refine WCode.round (nt := 24) (fx := []) ?_
  refine WCmp.yes rfl ?_
  refine WOut.mk _ rfl ?_
  refine WCmp.mk (fun h1 => ?_) (fun h1 => ?_)
  · refine WOut.mk _ rfl ?_
    refine WCmp.mk (fun h2 => ?_) (fun h2 => ?_)
    · refine WOut.mk _ rfl ?_
      rw [show gs p0 c = 0 by simp at h1 h2; simp [gs, fstep, h1, h2]] at hn
      exact hn
    · refine WOut.mk _ rfl ?_
      rw [show gs p0 c = c by simp at h1 h2; simp [gs, fstep, h2]] at hn
      exact hn
  · refine WOut.mk _ rfl ?_
    rw [show gs p0 c = c by simp at h1; simp [gs, h1]] at hn
    exact hn

theorem f111_at1 (R : Run) (k j : Nat) (c p0 p1 p2 p3 : Int) (S : St) (K : Ex → Env → St → Prop)
    (hn : WCode (iter (evalCode Try.cfg R k 111 (Try.cfg.fc 111) f111L) j { nt := 24, tmps := [(1, .ptr (.loc 1) 0), (2, .ptr (.loc 2) 0), (3, .int .i64 2)], locs := [(1, [.int .i64 (gs p1 c), .int .i64 p0, .int .i64 p1, .int .i64 p2, .int .i64 p3]), (2, zeros)], fix := [] } S) K) :
    WCode (iter (evalCode Try.cfg R k 111 (Try.cfg.fc 111) f111L) (j + 1) { nt := 24, tmps := [(1, .ptr (.loc 1) 0), (2, .ptr (.loc 2) 0), (3, .int .i64 1)], locs := [(1, [.int .i64 c, .int .i64 p0, .int .i64 p1, .int .i64 p2, .int .i64 p3]), (2, zeros)], fix := [] } S) K := by
  refine WCode.round (nt := 24) (fx := []) ?_
  refine WCmp.yes rfl ?_
  refine WOut.mk _ rfl ?_
  refine WCmp.mk (fun h1 => ?_) (fun h1 => ?_)
  · refine WOut.mk _ rfl ?_
    refine WCmp.mk (fun h2 => ?_) (fun h2 => ?_)
    · refine WOut.mk _ rfl ?_
      rw [show gs p1 c = 0 by simp at h1 h2; simp [gs, fstep, h1, h2]] at hn
      exact hn
    · refine WOut.mk _ rfl ?_
      rw [show gs p1 c = c by simp at h1 h2; simp [gs, fstep, h2]] at hn
      exact hn
  · refine WOut.mk _ rfl ?_
    rw [show gs p1 c = c by simp at h1; simp [gs, h1]] at hn
    exact hn

theorem f111_at2 (R : Run) (k j : Nat) (c p0 p1 p2 p3 : Int) (S : St) (K : Ex → Env → St → Prop)
    (hn : WCode (iter (evalCode Try.cfg R k 111 (Try.cfg.fc 111) f111L) j { nt := 24, tmps := [(1, .ptr (.loc 1) 0), (2, .ptr (.loc 2) 0), (3, .int .i64 3)], locs := [(1, [.int .i64 (gs p2 c), .int .i64 p0, .int .i64 p1, .int .i64 p2, .int .i64 p3]), (2, zeros)], fix := [] } S) K) :
    WCode (iter (evalCode Try.cfg R k 111 (Try.cfg.fc 111) f111L) (j + 1) { nt := 24, tmps := [(1, .ptr (.loc 1) 0), (2, .ptr (.loc 2) 0), (3, .int .i64 2)], locs := [(1, [.int .i64 c, .int .i64 p0, .int .i64 p1, .int .i64 p2, .int .i64 p3]), (2, zeros)], fix := [] } S) K := by
  refine WCode.round (nt := 24) (fx := []) ?_
  refine WCmp.yes rfl ?_
  refine WOut.mk _ rfl ?_
  refine WCmp.mk (fun h1 => ?_) (fun h1 => ?_)
  · refine WOut.mk _ rfl ?_
    refine WCmp.mk (fun h2 => ?_) (fun h2 => ?_)
    · refine WOut.mk _ rfl ?_
      rw [show gs p2 c = 0 by simp at h1 h2; simp [gs, fstep, h1, h2]] at hn
      exact hn
    · refine WOut.mk _ rfl ?_
      rw [show gs p2 c = c by simp at h1 h2; simp [gs, fstep, h2]] at hn
      exact hn
  · refine WOut.mk _ rfl ?_
    rw [show gs p2 c = c by simp at h1; simp [gs, h1]] at hn
    exact hn

theorem f111_at3 (R : Run) (k j : Nat) (c p0 p1 p2 p3 : Int) (S : St) (K : Ex → Env → St → Prop)
    (hn : WCode (iter (evalCode Try.cfg R k 111 (Try.cfg.fc 111) f111L) j { nt := 24, tmps := [(1, .ptr (.loc 1) 0), (2, .ptr (.loc 2) 0), (3, .int .i64 4)], locs := [(1, [.int .i64 (gs p3 c), .int .i64 p0, .int .i64 p1, .int .i64 p2, .int .i64 p3]), (2, zeros)], fix := [] } S) K) :
    WCode (iter (evalCode Try.cfg R k 111 (Try.cfg.fc 111) f111L) (j + 1) { nt := 24, tmps := [(1, .ptr (.loc 1) 0), (2, .ptr (.loc 2) 0), (3, .int .i64 3)], locs := [(1, [.int .i64 c, .int .i64 p0, .int .i64 p1, .int .i64 p2, .int .i64 p3]), (2, zeros)], fix := [] } S) K := by
  refine WCode.round (nt := 24) (fx := []) ?_
  refine WCmp.yes rfl ?_
  refine WOut.mk _ rfl ?_
  refine WCmp.mk (fun h1 => ?_) (fun h1 => ?_)
  · refine WOut.mk _ rfl ?_
    refine WCmp.mk (fun h2 => ?_) (fun h2 => ?_)
    · refine WOut.mk _ rfl ?_
      rw [show gs p3 c = 0 by simp at h1 h2; simp [gs, fstep, h1, h2]] at hn
      exact hn
    · refine WOut.mk _ rfl ?_
      rw [show gs p3 c = c by simp at h1 h2; simp [gs, fstep, h2]] at hn
      exact hn
  · refine WOut.mk _ rfl ?_
    rw [show gs p3 c = c by simp at h1; simp [gs, h1]] at hn
    exact hn

theorem r111_frame (R : Run) (n : Nat) (l : Lv) : frame Try.cfg R (n + 5) 111 [enc l] St.empty = some (enc (formF l), St.empty) := by
  have e : formF l = { l with c := gs l.p3 (gs l.p2 (gs l.p1 (gs l.p0 l.c))) } := by rw [formF_eq, gs_eq, gs_eq, gs_eq, gs_eq]
  rw [e]
  refine frame_of Try.cfg _ (fn := Try.f111) rfl rfl ?_
  refine f111_at0 R _ _ l.c l.p0 l.p1 l.p2 l.p3 _ _ ?_
  refine f111_at1 R _ _ _ l.p0 l.p1 l.p2 l.p3 _ _ ?_
  refine f111_at2 R _ _ _ l.p0 l.p1 l.p2 l.p3 _ _ ?_
  refine f111_at3 R _ _ _ l.p0 l.p1 l.p2 l.p3 _ _ ?_
  refine WCode.round (nt := 24) (fx := []) ?_
  refine WCmp.no rfl ?_
  rfl

theorem r111_ok (n : Nat) (l : Lv) (S : St) : run Try.cfg (n + 6) (.f 111) [enc l] S = some (enc (formF l), S) := run_val (r111_frame _ n l) rfl rfl rfl rfl rfl

theorem r76_frame (n : Nat) (l : Lv) : frame Try.cfg (run Try.cfg (n + 6)) (n + 6) 76 [enc l] St.empty = some (encR (toldF l), St.empty) := by
  refine frame_of Try.cfg _ (fn := Try.f76) rfl rfl ?_
  refine WCall.mk _ _ (r111_ok n l _) ?_
  refine WCall.mk _ _ (r27_ok n (formF l) _) ?_
  cases h : mayF (formF l) with
  | true =>
    rw [show toldF l = (formF l, 0) by simp [toldF, h]]
    rfl
  | false =>
    rw [show toldF l = (noLv, 4) by simp [toldF, h]]
    rfl

theorem r76_ok (n : Nat) (l : Lv) (S : St) : run Try.cfg (n + 7) (.f 76) [enc l] S = some (encR (toldF l), S) := run_val (r76_frame n l) rfl rfl rfl rfl rfl

/-! ### more -/

noncomputable def ad (n p : Int) : Int := bif iLt p 0 then p else wrapI .i64 (p + n)
noncomputable def plusR (l : Lv) (n : Int) : Lv := { c := wrapI .i64 (l.c + n), p0 := ad n l.p0, p1 := ad n l.p1, p2 := ad n l.p2, p3 := ad n l.p3 }

noncomputable def f77L : Code := loopN Try.f77 0

theorem f77_at0 (R : Run) (k j : Nat) (n c p0 p1 p2 p3 : Int) (S : St) (K : Ex → Env → St → Prop)
    (hn : WCode (iter (evalCode Try.cfg R k 77 (Try.cfg.fc 77) f77L) j { nt := 30, tmps := [(1, .int .i64 n), (2, .ptr (.loc 2) 0), (4, .ptr (.loc 4) 0), (5, .int .i64 1)], locs := [(2, [.int .i64 c, .int .i64 (ad n p0), .int .i64 p1, .int .i64 p2, .int .i64 p3]), (4, zeros)], fix := [] } S) K) :
    WCode (iter (evalCode Try.cfg R k 77 (Try.cfg.fc 77) f77L) (j + 1) { nt := 30, tmps := [(1, .int .i64 n), (2, .ptr (.loc 2) 0), (4, .ptr (.loc 4) 0), (5, .int .i64 0)], locs := [(2, [.int .i64 c, .int .i64 p0, .int .i64 p1, .int .i64 p2, .int .i64 p3]), (4, zeros)], fix := [] } S) K := by
  refine WCode.round (nt := 30) (fx := []) ?_
  refine WCmp.yes rfl ?_
  refine WOut.mk _ rfl ?_
  refine WCmp.mk (fun h1 => ?_) (fun h1 => ?_)
  · refine WOut.mk _ rfl ?_
    refine WOut.mk _ rfl ?_
    refine WOut.mk _ rfl ?_
    refine WOut.mk _ rfl ?_
    rw [show ad n p0 = wrapI .i64 (p0 + n) by simp at h1; simp [ad, h1]] at hn
    exact hn
  · refine WOut.mk _ rfl ?_
    rw [show ad n p0 = p0 by simp at h1; simp [ad, h1]] at hn
    exact hn

theorem f77_at1 (R : Run) (k j : Nat) (n c p0 p1 p2 p3 : Int) (S : St) (K : Ex → Env → St → Prop)
    (hn : WCode (iter (evalCode Try.cfg R k 77 (Try.cfg.fc 77) f77L) j { nt := 30, tmps := [(1, .int .i64 n), (2, .ptr (.loc 2) 0), (4, .ptr (.loc 4) 0), (5, .int .i64 2)], locs := [(2, [.int .i64 c, .int .i64 p0, .int .i64 (ad n p1), .int .i64 p2, .int .i64 p3]), (4, zeros)], fix := [] } S) K) :
    WCode (iter (evalCode Try.cfg R k 77 (Try.cfg.fc 77) f77L) (j + 1) { nt := 30, tmps := [(1, .int .i64 n), (2, .ptr (.loc 2) 0), (4, .ptr (.loc 4) 0), (5, .int .i64 1)], locs := [(2, [.int .i64 c, .int .i64 p0, .int .i64 p1, .int .i64 p2, .int .i64 p3]), (4, zeros)], fix := [] } S) K := by
  refine WCode.round (nt := 30) (fx := []) ?_
  refine WCmp.yes rfl ?_
  refine WOut.mk _ rfl ?_
  refine WCmp.mk (fun h1 => ?_) (fun h1 => ?_)
  · refine WOut.mk _ rfl ?_
    refine WOut.mk _ rfl ?_
    refine WOut.mk _ rfl ?_
    refine WOut.mk _ rfl ?_
    rw [show ad n p1 = wrapI .i64 (p1 + n) by simp at h1; simp [ad, h1]] at hn
    exact hn
  · refine WOut.mk _ rfl ?_
    rw [show ad n p1 = p1 by simp at h1; simp [ad, h1]] at hn
    exact hn

theorem f77_at2 (R : Run) (k j : Nat) (n c p0 p1 p2 p3 : Int) (S : St) (K : Ex → Env → St → Prop)
    (hn : WCode (iter (evalCode Try.cfg R k 77 (Try.cfg.fc 77) f77L) j { nt := 30, tmps := [(1, .int .i64 n), (2, .ptr (.loc 2) 0), (4, .ptr (.loc 4) 0), (5, .int .i64 3)], locs := [(2, [.int .i64 c, .int .i64 p0, .int .i64 p1, .int .i64 (ad n p2), .int .i64 p3]), (4, zeros)], fix := [] } S) K) :
    WCode (iter (evalCode Try.cfg R k 77 (Try.cfg.fc 77) f77L) (j + 1) { nt := 30, tmps := [(1, .int .i64 n), (2, .ptr (.loc 2) 0), (4, .ptr (.loc 4) 0), (5, .int .i64 2)], locs := [(2, [.int .i64 c, .int .i64 p0, .int .i64 p1, .int .i64 p2, .int .i64 p3]), (4, zeros)], fix := [] } S) K := by
  refine WCode.round (nt := 30) (fx := []) ?_
  refine WCmp.yes rfl ?_
  refine WOut.mk _ rfl ?_
  refine WCmp.mk (fun h1 => ?_) (fun h1 => ?_)
  · refine WOut.mk _ rfl ?_
    refine WOut.mk _ rfl ?_
    refine WOut.mk _ rfl ?_
    refine WOut.mk _ rfl ?_
    rw [show ad n p2 = wrapI .i64 (p2 + n) by simp at h1; simp [ad, h1]] at hn
    exact hn
  · refine WOut.mk _ rfl ?_
    rw [show ad n p2 = p2 by simp at h1; simp [ad, h1]] at hn
    exact hn

theorem f77_at3 (R : Run) (k j : Nat) (n c p0 p1 p2 p3 : Int) (S : St) (K : Ex → Env → St → Prop)
    (hn : WCode (iter (evalCode Try.cfg R k 77 (Try.cfg.fc 77) f77L) j { nt := 30, tmps := [(1, .int .i64 n), (2, .ptr (.loc 2) 0), (4, .ptr (.loc 4) 0), (5, .int .i64 4)], locs := [(2, [.int .i64 c, .int .i64 p0, .int .i64 p1, .int .i64 p2, .int .i64 (ad n p3)]), (4, zeros)], fix := [] } S) K) :
    WCode (iter (evalCode Try.cfg R k 77 (Try.cfg.fc 77) f77L) (j + 1) { nt := 30, tmps := [(1, .int .i64 n), (2, .ptr (.loc 2) 0), (4, .ptr (.loc 4) 0), (5, .int .i64 3)], locs := [(2, [.int .i64 c, .int .i64 p0, .int .i64 p1, .int .i64 p2, .int .i64 p3]), (4, zeros)], fix := [] } S) K := by
  refine WCode.round (nt := 30) (fx := []) ?_
  refine WCmp.yes rfl ?_
  refine WOut.mk _ rfl ?_
  refine WCmp.mk (fun h1 => ?_) (fun h1 => ?_)
  · refine WOut.mk _ rfl ?_
    refine WOut.mk _ rfl ?_
    refine WOut.mk _ rfl ?_
    refine WOut.mk _ rfl ?_
    rw [show ad n p3 = wrapI .i64 (p3 + n) by simp at h1; simp [ad, h1]] at hn
    exact hn
  · refine WOut.mk _ rfl ?_
    rw [show ad n p3 = p3 by simp at h1; simp [ad, h1]] at hn
    exact hn

theorem r77_frame (n : Nat) (l : Lv) (m : Int) : frame Try.cfg (run Try.cfg (n + 6)) (n + 6) 77 [enc l, .int .i64 m] St.empty = some (enc (formF (plusR l m)), St.empty) := by
  refine frame_of Try.cfg _ (fn := Try.f77) rfl rfl ?_
  refine WOut.mk _ rfl ?_
  refine f77_at0 _ _ _ m _ l.p0 l.p1 l.p2 l.p3 _ _ ?_
  refine f77_at1 _ _ _ m _ _ l.p1 l.p2 l.p3 _ _ ?_
  refine f77_at2 _ _ _ m _ _ _ l.p2 l.p3 _ _ ?_
  refine f77_at3 _ _ _ m _ _ _ _ l.p3 _ _ ?_
  refine WCode.round (nt := 30) (fx := []) ?_
  refine WCmp.no rfl ?_
  refine WCall.mk _ _ (r111_ok n (plusR l m) _) ?_
  rfl

theorem r77_ok (n : Nat) (l : Lv) (m : Int) (S : St) : run Try.cfg (n + 7) (.f 77) [enc l, .int .i64 m] S = some (enc (formF (plusR l m)), S) := run_val (r77_frame n l m) rfl rfl rfl rfl rfl

theorem plusR_eq (l : Lv) (n : Int) : plusR l n = plusF l n := by
  have e : plusF l n = { c := wrapI .i64 (l.c + n), p0 := if l.p0 < 0 then l.p0 else wrapI .i64 (l.p0 + n), p1 := if l.p1 < 0 then l.p1 else wrapI .i64 (l.p1 + n), p2 := if l.p2 < 0 then l.p2 else wrapI .i64 (l.p2 + n), p3 := if l.p3 < 0 then l.p3 else wrapI .i64 (l.p3 + n) } := by
    unfold plusF foldP foldP foldP foldP foldP
    simp only [iLt_eq, cond_ite, decide_eq_true_eq]
    split <;> split <;> split <;> split <;> rfl
  rw [e]
  unfold plusR ad
  simp only [iLt_eq, cond_ite, decide_eq_true_eq]

/-! ### both -/

noncomputable def bothR (a b : Lv) : Lv := { c := maxI a.c b.c, p0 := maxI a.p0 b.p0, p1 := maxI a.p1 b.p1, p2 := maxI a.p2 b.p2, p3 := maxI a.p3 b.p3 }

theorem r79_frame (n : Nat) (a b : Lv) : frame Try.cfg (run Try.cfg (n + 6)) (n + 6) 79 [enc a, enc b] St.empty = some (enc (formF (bothR a b)), St.empty) := by
  refine frame_of Try.cfg _ (fn := Try.f79) rfl rfl ?_
  iterate 4
    refine WCode.round (nt := 30) (fx := []) ?_
    refine WCmp.yes rfl ?_
    refine WOut.mk _ rfl ?_
    refine WOut.mk _ rfl ?_
    refine WOut.mk _ rfl ?_
    refine WOut.mk _ rfl ?_
  refine WCode.round (nt := 30) (fx := []) ?_
  refine WCmp.no rfl ?_
  refine WCall.mk _ _ (r111_ok n (bothR a b) _) ?_
  rfl

theorem r79_ok (n : Nat) (a b : Lv) (S : St) : run Try.cfg (n + 7) (.f 79) [enc a, enc b] S = some (enc (formF (bothR a b)), S) := run_val (r79_frame n a b) rfl rfl rfl rfl rfl

/-! ### Succ, Max -/

noncomputable def succR (l : Lv) : Lv × Int := bif mayF l then toldF (formF (plusR l 1)) else (noLv, 1)
noncomputable def maxR (a b : Lv) : Lv × Int := bif mayF a && mayF b then toldF (formF (bothR a b)) else (noLv, 1)

theorem r19_frame (n : Nat) (l : Lv) : frame Try.cfg (run Try.cfg (n + 7)) (n + 7) 19 [enc l] St.empty = some (encR (succR l), St.empty) := by
  refine frame_of Try.cfg _ (fn := Try.f19) rfl rfl ?_
  refine WCall.mk _ _ (r27_ok (n + 1) l _) ?_
  cases h : mayF l with
  | true =>
    refine WCall.mk _ _ (r77_ok n l 1 _) ?_
    refine WCall.mk _ _ (r76_ok n (formF (plusR l 1)) _) ?_
    rw [show succR l = toldF (formF (plusR l 1)) by simp [succR, h]]
    rfl
  | false =>
    rw [show succR l = (noLv, 1) by simp [succR, h]]
    rfl

theorem r19_ok (n : Nat) (l : Lv) (S : St) : run Try.cfg (n + 8) (.f 19) [enc l] S = some (encR (succR l), S) := run_val (r19_frame n l) rfl rfl rfl rfl rfl

theorem r21_frame (n : Nat) (a b : Lv) : frame Try.cfg (run Try.cfg (n + 7)) (n + 7) 21 [enc a, enc b] St.empty = some (encR (maxR a b), St.empty) := by
  refine frame_of Try.cfg _ (fn := Try.f21) rfl rfl ?_
  refine WCall.mk _ _ (r27_ok (n + 1) a _) ?_
  cases h : mayF a with
  | true =>
    refine WCall.mk _ _ (r27_ok (n + 1) b _) ?_
    cases h2 : mayF b with
    | true =>
      refine WCall.mk _ _ (r79_ok n a b _) ?_
      refine WCall.mk _ _ (r76_ok n (formF (bothR a b)) _) ?_
      rw [show maxR a b = toldF (formF (bothR a b)) by simp [maxR, h, h2]]
      rfl
    | false =>
      rw [show maxR a b = (noLv, 1) by simp [maxR, h2]]
      rfl
  | false =>
    rw [show maxR a b = (noLv, 1) by simp [maxR, h]]
    rfl

theorem r21_ok (n : Nat) (a b : Lv) (S : St) : run Try.cfg (n + 8) (.f 21) [enc a, enc b] S = some (encR (maxR a b), S) := run_val (r21_frame n a b) rfl rfl rfl rfl rfl

/-! ### At -/

noncomputable def stepAt (q p m : Int) : Int := bif iLt p 0 then m else maxI m (wrapI .i64 (q + p))

noncomputable def f31L : Code := loopN Try.f31 0

theorem f31_at0 (n k j : Nat) (l : Lv) (q : P4) (m : Int) (S : St) (K : Ex → Env → St → Prop) (hm : mayF l = true)
    (hx : okFar q.p0 = false → K .ret { nt := 44, tmps := [(4, .int .i64 0)], locs := [(2, cellsOf l), (3, [.int .i64 q.p0, .int .i64 q.p1, .int .i64 q.p2, .int .i64 q.p3])], fix := [] } S)
    (hn : okFar q.p0 = true → WCode (iter (evalCode Try.cfg (run Try.cfg (n + 6)) k 31 (Try.cfg.fc 31) f31L) j { nt := 44, tmps := [(2, .ptr (.loc 2) 0), (3, .ptr (.loc 3) 0), (5, .int .i64 (stepAt q.p0 l.p0 m)), (6, .int .i64 1)], locs := [(2, cellsOf l), (3, [.int .i64 q.p0, .int .i64 q.p1, .int .i64 q.p2, .int .i64 q.p3])], fix := [] } S) K) :
    WCode (iter (evalCode Try.cfg (run Try.cfg (n + 6)) k 31 (Try.cfg.fc 31) f31L) (j + 1) { nt := 44, tmps := [(2, .ptr (.loc 2) 0), (3, .ptr (.loc 3) 0), (5, .int .i64 m), (6, .int .i64 0)], locs := [(2, cellsOf l), (3, [.int .i64 q.p0, .int .i64 q.p1, .int .i64 q.p2, .int .i64 q.p3])], fix := [] } S) K := by
  refine WCode.round (nt := 44) (fx := []) ?_
  refine WCmp.yes rfl ?_
  refine WCall.mk _ _ (r27_ok n l _) ?_
  rw [hm]
  refine WOut.mk _ rfl ?_
  refine WCmp.mk (fun h1 => ?_) (fun h1 => ?_)
  · exact hx (by simp [okFar, h1])
  refine WOut.mk _ rfl ?_
  refine WCmp.mk (fun h2 => ?_) (fun h2 => ?_)
  · exact hx (by simp [okFar, h2])
  have hk : okFar q.p0 = true := by simp [okFar, h1, h2]
  refine WOut.mk _ rfl ?_
  refine WCmp.mk (fun h3 => ?_) (fun h3 => ?_)
  · refine WOut.mk _ rfl ?_
    refine WOut.mk _ rfl ?_
    refine WOut.mk _ rfl ?_
    refine WOut.mk _ rfl ?_
    rw [show stepAt q.p0 l.p0 m = maxI m (wrapI .i64 (q.p0 + l.p0)) by simp at h3; simp [stepAt, h3]] at hn
    exact hn hk
  · refine WOut.mk _ rfl ?_
    rw [show stepAt q.p0 l.p0 m = m by simp at h3; simp [stepAt, h3]] at hn
    exact hn hk

theorem f31_at1 (n k j : Nat) (l : Lv) (q : P4) (m : Int) (S : St) (K : Ex → Env → St → Prop) (hm : mayF l = true)
    (hx : okFar q.p1 = false → K .ret { nt := 44, tmps := [(4, .int .i64 0)], locs := [(2, cellsOf l), (3, [.int .i64 q.p0, .int .i64 q.p1, .int .i64 q.p2, .int .i64 q.p3])], fix := [] } S)
    (hn : okFar q.p1 = true → WCode (iter (evalCode Try.cfg (run Try.cfg (n + 6)) k 31 (Try.cfg.fc 31) f31L) j { nt := 44, tmps := [(2, .ptr (.loc 2) 0), (3, .ptr (.loc 3) 0), (5, .int .i64 (stepAt q.p1 l.p1 m)), (6, .int .i64 2)], locs := [(2, cellsOf l), (3, [.int .i64 q.p0, .int .i64 q.p1, .int .i64 q.p2, .int .i64 q.p3])], fix := [] } S) K) :
    WCode (iter (evalCode Try.cfg (run Try.cfg (n + 6)) k 31 (Try.cfg.fc 31) f31L) (j + 1) { nt := 44, tmps := [(2, .ptr (.loc 2) 0), (3, .ptr (.loc 3) 0), (5, .int .i64 m), (6, .int .i64 1)], locs := [(2, cellsOf l), (3, [.int .i64 q.p0, .int .i64 q.p1, .int .i64 q.p2, .int .i64 q.p3])], fix := [] } S) K := by
  refine WCode.round (nt := 44) (fx := []) ?_
  refine WCmp.yes rfl ?_
  refine WCall.mk _ _ (r27_ok n l _) ?_
  rw [hm]
  refine WOut.mk _ rfl ?_
  refine WCmp.mk (fun h1 => ?_) (fun h1 => ?_)
  · exact hx (by simp [okFar, h1])
  refine WOut.mk _ rfl ?_
  refine WCmp.mk (fun h2 => ?_) (fun h2 => ?_)
  · exact hx (by simp [okFar, h2])
  have hk : okFar q.p1 = true := by simp [okFar, h1, h2]
  refine WOut.mk _ rfl ?_
  refine WCmp.mk (fun h3 => ?_) (fun h3 => ?_)
  · refine WOut.mk _ rfl ?_
    refine WOut.mk _ rfl ?_
    refine WOut.mk _ rfl ?_
    refine WOut.mk _ rfl ?_
    rw [show stepAt q.p1 l.p1 m = maxI m (wrapI .i64 (q.p1 + l.p1)) by simp at h3; simp [stepAt, h3]] at hn
    exact hn hk
  · refine WOut.mk _ rfl ?_
    rw [show stepAt q.p1 l.p1 m = m by simp at h3; simp [stepAt, h3]] at hn
    exact hn hk

theorem f31_at2 (n k j : Nat) (l : Lv) (q : P4) (m : Int) (S : St) (K : Ex → Env → St → Prop) (hm : mayF l = true)
    (hx : okFar q.p2 = false → K .ret { nt := 44, tmps := [(4, .int .i64 0)], locs := [(2, cellsOf l), (3, [.int .i64 q.p0, .int .i64 q.p1, .int .i64 q.p2, .int .i64 q.p3])], fix := [] } S)
    (hn : okFar q.p2 = true → WCode (iter (evalCode Try.cfg (run Try.cfg (n + 6)) k 31 (Try.cfg.fc 31) f31L) j { nt := 44, tmps := [(2, .ptr (.loc 2) 0), (3, .ptr (.loc 3) 0), (5, .int .i64 (stepAt q.p2 l.p2 m)), (6, .int .i64 3)], locs := [(2, cellsOf l), (3, [.int .i64 q.p0, .int .i64 q.p1, .int .i64 q.p2, .int .i64 q.p3])], fix := [] } S) K) :
    WCode (iter (evalCode Try.cfg (run Try.cfg (n + 6)) k 31 (Try.cfg.fc 31) f31L) (j + 1) { nt := 44, tmps := [(2, .ptr (.loc 2) 0), (3, .ptr (.loc 3) 0), (5, .int .i64 m), (6, .int .i64 2)], locs := [(2, cellsOf l), (3, [.int .i64 q.p0, .int .i64 q.p1, .int .i64 q.p2, .int .i64 q.p3])], fix := [] } S) K := by
  refine WCode.round (nt := 44) (fx := []) ?_
  refine WCmp.yes rfl ?_
  refine WCall.mk _ _ (r27_ok n l _) ?_
  rw [hm]
  refine WOut.mk _ rfl ?_
  refine WCmp.mk (fun h1 => ?_) (fun h1 => ?_)
  · exact hx (by simp [okFar, h1])
  refine WOut.mk _ rfl ?_
  refine WCmp.mk (fun h2 => ?_) (fun h2 => ?_)
  · exact hx (by simp [okFar, h2])
  have hk : okFar q.p2 = true := by simp [okFar, h1, h2]
  refine WOut.mk _ rfl ?_
  refine WCmp.mk (fun h3 => ?_) (fun h3 => ?_)
  · refine WOut.mk _ rfl ?_
    refine WOut.mk _ rfl ?_
    refine WOut.mk _ rfl ?_
    refine WOut.mk _ rfl ?_
    rw [show stepAt q.p2 l.p2 m = maxI m (wrapI .i64 (q.p2 + l.p2)) by simp at h3; simp [stepAt, h3]] at hn
    exact hn hk
  · refine WOut.mk _ rfl ?_
    rw [show stepAt q.p2 l.p2 m = m by simp at h3; simp [stepAt, h3]] at hn
    exact hn hk

theorem f31_at3 (n k j : Nat) (l : Lv) (q : P4) (m : Int) (S : St) (K : Ex → Env → St → Prop) (hm : mayF l = true)
    (hx : okFar q.p3 = false → K .ret { nt := 44, tmps := [(4, .int .i64 0)], locs := [(2, cellsOf l), (3, [.int .i64 q.p0, .int .i64 q.p1, .int .i64 q.p2, .int .i64 q.p3])], fix := [] } S)
    (hn : okFar q.p3 = true → WCode (iter (evalCode Try.cfg (run Try.cfg (n + 6)) k 31 (Try.cfg.fc 31) f31L) j { nt := 44, tmps := [(2, .ptr (.loc 2) 0), (3, .ptr (.loc 3) 0), (5, .int .i64 (stepAt q.p3 l.p3 m)), (6, .int .i64 4)], locs := [(2, cellsOf l), (3, [.int .i64 q.p0, .int .i64 q.p1, .int .i64 q.p2, .int .i64 q.p3])], fix := [] } S) K) :
    WCode (iter (evalCode Try.cfg (run Try.cfg (n + 6)) k 31 (Try.cfg.fc 31) f31L) (j + 1) { nt := 44, tmps := [(2, .ptr (.loc 2) 0), (3, .ptr (.loc 3) 0), (5, .int .i64 m), (6, .int .i64 3)], locs := [(2, cellsOf l), (3, [.int .i64 q.p0, .int .i64 q.p1, .int .i64 q.p2, .int .i64 q.p3])], fix := [] } S) K := by
  refine WCode.round (nt := 44) (fx := []) ?_
  refine WCmp.yes rfl ?_
  refine WCall.mk _ _ (r27_ok n l _) ?_
  rw [hm]
  refine WOut.mk _ rfl ?_
  refine WCmp.mk (fun h1 => ?_) (fun h1 => ?_)
  · exact hx (by simp [okFar, h1])
  refine WOut.mk _ rfl ?_
  refine WCmp.mk (fun h2 => ?_) (fun h2 => ?_)
  · exact hx (by simp [okFar, h2])
  have hk : okFar q.p3 = true := by simp [okFar, h1, h2]
  refine WOut.mk _ rfl ?_
  refine WCmp.mk (fun h3 => ?_) (fun h3 => ?_)
  · refine WOut.mk _ rfl ?_
    refine WOut.mk _ rfl ?_
    refine WOut.mk _ rfl ?_
    refine WOut.mk _ rfl ?_
    rw [show stepAt q.p3 l.p3 m = maxI m (wrapI .i64 (q.p3 + l.p3)) by simp at h3; simp [stepAt, h3]] at hn
    exact hn hk
  · refine WOut.mk _ rfl ?_
    rw [show stepAt q.p3 l.p3 m = m by simp at h3; simp [stepAt, h3]] at hn
    exact hn hk

theorem r31_frame (n : Nat) (l : Lv) (q : P4) : frame Try.cfg (run Try.cfg (n + 6)) (n + 6) 31 [enc l, encP q] St.empty = some (.int .i64 (atF l q), St.empty) := by
  refine frame_of Try.cfg _ (fn := Try.f31) rfl rfl ?_
  cases hm : mayF l with
  | false =>
    rw [show atF l q = 0 by simp [atF, hm]]
    refine WCode.round (nt := 44) (fx := []) ?_
    refine WCmp.yes rfl ?_
    refine WCall.mk _ _ (r27_ok n l _) ?_
    rw [hm]
    rfl
  | true =>
  refine f31_at0 n _ _ l q _ _ _ hm (fun h => ?_) (fun h0 => ?_)
  · rw [show atF l q = 0 by simp [atF, h]]; rfl
  refine f31_at1 n _ _ l q _ _ _ hm (fun h => ?_) (fun h1 => ?_)
  · rw [show atF l q = 0 by simp [atF, h]]; rfl
  refine f31_at2 n _ _ l q _ _ _ hm (fun h => ?_) (fun h2 => ?_)
  · rw [show atF l q = 0 by simp [atF, h]]; rfl
  refine f31_at3 n _ _ l q _ _ _ hm (fun h => ?_) (fun h3 => ?_)
  · rw [show atF l q = 0 by simp [atF, h]]; rfl
  refine WCode.round (nt := 44) (fx := []) ?_
  refine WCmp.no rfl ?_
  have e : atF l q = stepAt q.p3 l.p3 (stepAt q.p2 l.p2 (stepAt q.p1 l.p1 (stepAt q.p0 l.p0 l.c))) := by
    unfold atF
    rw [h0, h1, h2, h3, hm]
    rfl
  rw [e]
  rfl

theorem r31_ok (n : Nat) (l : Lv) (q : P4) (S : St) : run Try.cfg (n + 7) (.f 31) [enc l, encP q] S = some (.int .i64 (atF l q), S) := run_val (r31_frame n l q) rfl rfl rfl rfl rfl

end Go.Ev

/- Terms: as abstract values (own work). -/
namespace Go.Ev
open Go.Proofs Go.RowKit
set_option maxRecDepth 100000

/-- A term, as it lies in memory: a, c: is an empty list one of its type's own size? b, d: has a list no spare places? -/
inductive Tm where
  | mk (k n : Int) (s : List UInt8) (a b c d : Bool) (ls : List Lv) (ts : List Tm)

noncomputable def Tm.k : Tm → Int | .mk k _ _ _ _ _ _ _ _ => k
noncomputable def Tm.n : Tm → Int | .mk _ n _ _ _ _ _ _ _ => n
noncomputable def Tm.s : Tm → List UInt8 | .mk _ _ s _ _ _ _ _ _ => s
noncomputable def Tm.a : Tm → Bool | .mk _ _ _ a _ _ _ _ _ => a
noncomputable def Tm.b : Tm → Bool | .mk _ _ _ _ b _ _ _ _ => b
noncomputable def Tm.c : Tm → Bool | .mk _ _ _ _ _ c _ _ _ => c
noncomputable def Tm.d : Tm → Bool | .mk _ _ _ _ _ _ d _ _ => d
noncomputable def Tm.ls : Tm → List Lv | .mk _ _ _ _ _ _ _ ls _ => ls
noncomputable def Tm.ts : Tm → List Tm | .mk _ _ _ _ _ _ _ _ ts => ts

noncomputable def szOf {α : Type} (a : Bool) : List α → Nat
  | [] => match a with | true => 5 | false => 0
  | _ :: _ => 5
noncomputable def tkOf (b : Bool) : Tok := match b with | true => .tight | false => .no

mutual
noncomputable def encT : Tm → V
  | .mk k n s a b c d ls ts => .agg [.int .u8 k, .int .i64 n, .str s, .list (szOf a ls) (tkOf b) 0 (ls.map enc), .list (szOf c ts) (tkOf d) 0 (encTs ts)]
noncomputable def encTs : List Tm → List V
  | [] => []
  | t :: ts => encT t :: encTs ts
end

@[reducible] noncomputable def cellsT (x : Tm) : List V := [.int .u8 x.k, .int .i64 x.n, .str x.s, .list (szOf x.a x.ls) (tkOf x.b) 0 (x.ls.map enc), .list (szOf x.c x.ts) (tkOf x.d) 0 (encTs x.ts)]
@[reducible] noncomputable def encA (x : Tm) : V := .agg (cellsT x)

theorem encT_eq (x : Tm) : encT x = encA x := by cases x; rw [encT]; rfl

theorem encTs_eq (ts : List Tm) : encTs ts = ts.map encA := by
  induction ts with
  | nil => rw [encTs]; rfl
  | cons t ts ih => rw [encTs, ih, encT_eq]; rfl

theorem encTs_len (ts : List Tm) : lenN (encTs ts) = ts.length := by rw [encTs_eq, lenN_eq, List.length_map]

mutual
/-- How much there is of a term. -/
def wt : Tm → Nat
  | .mk _ _ s _ _ _ _ ls ts => 1 + s.length + ls.length + wts ts
def wts : List Tm → Nat
  | [] => 0
  | t :: ts => 1 + wt t + wts ts
end

theorem wt_eq (x : Tm) : wt x = 1 + x.s.length + x.ls.length + wts x.ts := by cases x; rw [wt]; rfl
theorem wts_len (ts : List Tm) : ts.length ≤ wts ts := by
  induction ts with
  | nil => simp
  | cons t ts ih => rw [wts]; simp only [List.length_cons]; omega
theorem wts_mem {x : Tm} {ts : List Tm} (h : x ∈ ts) : wt x < wts ts := by
  induction ts with
  | nil => cases h
  | cons t ts ih =>
    rw [wts]
    cases h with
    | head => omega
    | tail _ h => have := ih h; omega
theorem wt_kid {x y : Tm} (h : x ∈ y.ts) : wt x < wt y := by rw [wt_eq y]; have := wts_mem h; omega

/-- Induction over terms. -/
theorem Tm.ind {p : Tm → Prop} (h : ∀ x, (∀ y ∈ x.ts, p y) → p x) (x : Tm) : p x := by
  have : ∀ n, ∀ x, wt x < n → p x := by
    intro n
    induction n with
    | zero => intro x hx; omega
    | succ n ih => intro x hx; exact h x (fun y hy => ih y (by have := wt_kid hy; omega))
  exact this _ x (Nat.lt_succ_self _)

theorem szOf_get {α : Type} {a : Bool} {l : List α} {j : Nat} {x : α} (h : l[j]? = some x) : szOf a l = 5 := by
  cases l with
  | nil => simp at h
  | cons y l => rfl

theorem below_of {j m : Nat} (h : j < m) : below (.int .i64 (.ofNat j)) m = some j := by
  unfold below
  show (bif Nat.blt j m then some j else none) = some j
  rw [show Nat.blt j m = true by rw [Nat.blt_eq]; exact h]
  rfl

theorem index44 {ts : List Tm} {c : Bool} {tk : Tok} {j : Nat} {x : Tm} (h : ts[j]? = some x) : indexAddr Try.cfg 44 (.list (szOf c ts) tk 0 (encTs ts)) (.int .i64 (.ofNat j)) = some (.imm 0 (cellsT x)) := by
  have hj : j < ts.length := (List.getElem?_eq_some_iff.1 h).1
  rw [szOf_get h]
  show (match below (.int .i64 (.ofNat j)) (lenN (encTs ts)) with
    | some i => match nth (encTs ts) i with
      | some r => bif Nat.beq 5 5 then some (V.imm 0 r.cells) else none
      | none => none
    | none => none) = _
  rw [encTs_len, below_of hj]
  simp only
  rw [nth_eq, encTs_eq, List.getElem?_map, h]
  rfl

theorem index25' {ls : List Lv} {a : Bool} {tk : Tok} {j : Nat} {x : Lv} (h : ls[j]? = some x) : indexAddr Try.cfg 25 (.list (szOf a ls) tk 0 (ls.map enc)) (.int .i64 (.ofNat j)) = some (.imm 0 (cellsOf x)) := by
  rw [szOf_get h]; exact index25 h

theorem subOne {T j : Nat} (h : j < 9223372036854775807) : binOp Try.cfg .sub T (.int .i64 (.ofNat (j + 1))) (.int .i64 1) = some (.int .i64 (.ofNat j)) := by
  show some (V.int .i64 (wrapI .i64 (((j + 1 : Nat) : Int) - 1))) = _
  rw [show (((j + 1 : Nat) : Int) - 1) = (j : Int) by omega, wrapI_id (by omega) (by omega)]
  rfl

theorem blt_yes {a b : Nat} (h : a < b) : Nat.blt a b = true := by rw [Nat.blt_eq]; exact h
theorem blt_no {a b : Nat} (h : ¬ a < b) : Nat.blt a b = false := by
  cases hq : Nat.blt a b with
  | false => rfl
  | true => rw [Nat.blt_eq] at hq; omega

theorem ltLen {j : Nat} {ts : List Tm} (h : j < ts.length) : iLt (.ofNat j) (.ofNat (lenN (encTs ts))) = true := by rw [encTs_len]; exact blt_yes h
theorem geLen {j : Nat} {ts : List Tm} (h : ¬ j < ts.length) : iLt (.ofNat j) (.ofNat (lenN (encTs ts))) = false := by rw [encTs_len]; exact blt_no h
theorem ltLenL {j : Nat} {ls : List Lv} (h : j < ls.length) : iLt (.ofNat j) (.ofNat (lenN (ls.map enc))) = true := by rw [lenN_eq, List.length_map]; exact blt_yes h
theorem geLenL {j : Nat} {ls : List Lv} (h : ¬ j < ls.length) : iLt (.ofNat j) (.ofNat (lenN (ls.map enc))) = false := by rw [lenN_eq, List.length_map]; exact blt_no h

theorem rfB {S : St} {a b : Bool} (h : a = b) : some (V.bool a, S) = some (V.bool b, S) := by rw [h]
theorem rfI {S : St} {a b : Int} (h : a = b) : some (V.int .i64 a, S) = some (V.int .i64 b, S) := by rw [h]

/-- What is left of so many nodes. -/
noncomputable def encO : Option Nat → V | some l => .int .i64 (.ofNat l) | none => .int .i64 (-1)

mutual
/-- All nodes of a term, so many at most, and so deep. -/
noncomputable def scanT (p : Tm → Bool) : Tm → Nat → Nat → Option Nat
  | .mk k n s a b c d ls ts, left, down => match left, down with
    | l + 1, dn + 1 => match p (.mk k n s a b c d ls ts) with
      | true => scanTs p ts l dn
      | false => none
    | _, _ => none
noncomputable def scanTs (p : Tm → Bool) : List Tm → Nat → Nat → Option Nat
  | [], l, _ => some l
  | t :: ts, l, dn => match scanT p t l dn with
    | some l' => scanTs p ts l' dn
    | none => none
end

theorem scanT_eq (p : Tm → Bool) (x : Tm) (left down : Nat) : scanT p x left down = match left, down with
    | l + 1, dn + 1 => match p x with
      | true => scanTs p x.ts l dn
      | false => none
    | _, _ => none := by cases x; unfold scanT; rfl

theorem scanTs_cons (p : Tm → Bool) (t : Tm) (ts : List Tm) (l dn : Nat) : scanTs p (t :: ts) l dn = match scanT p t l dn with
    | some l' => scanTs p ts l' dn
    | none => none := by rw [scanTs]

theorem scan_le (p : Tm → Bool) (x : Tm) : ∀ {l dn l' : Nat}, scanT p x l dn = some l' → l' < l := by
  induction x using Tm.ind with
  | h x ih =>
    intro l dn l' h
    rw [scanT_eq] at h
    split at h
    · rename_i l dn
      split at h
      · have key : ∀ (ts : List Tm), (∀ y ∈ ts, y ∈ x.ts) → ∀ {l l'}, scanTs p ts l dn = some l' → l' ≤ l := by
          intro ts
          induction ts with
          | nil => intro _ l l' h; rw [scanTs] at h; cases h; omega
          | cons t ts ih2 =>
            intro hm l l' h
            rw [scanTs_cons] at h
            split at h
            · rename_i l1 h1
              have := ih t (hm t List.mem_cons_self) h1
              have := ih2 (fun y hy => hm y (List.mem_cons_of_mem _ hy)) h
              omega
            · cases h
        have := key x.ts (fun _ h => h) h
        omega
      · cases h
    · cases h

theorem strip_tk (sz : Nat) (b : Bool) (top : Nat) (rows : List V) : cellStrip (.list sz (tkOf b) top rows) = .list sz (tkOf b) top rows := by cases b <;> rfl

theorem strip_encA (x : Tm) : (encA x).strip = encA x := by
  show V.agg [_, _, _, cellStrip (.list _ (tkOf x.b) 0 _), cellStrip (.list _ (tkOf x.d) 0 _)] = _
  rw [strip_tk, strip_tk]
  rfl

theorem strips_nil : mapN V.strip [] = [] := rfl
theorem strips_t (x : Tm) (l : List V) : mapN V.strip (encA x :: l) = encA x :: mapN V.strip l := by
  show (encA x).strip :: mapN V.strip l = _
  rw [strip_encA]
theorem strips_i (k : IntKind) (i : Int) (l : List V) : mapN V.strip (.int k i :: l) = .int k i :: mapN V.strip l := rfl
theorem strips_ts (sz : Nat) (b : Bool) (top : Nat) (rows : List V) (l : List V) : mapN V.strip (.list sz (tkOf b) top rows :: l) = .list sz (tkOf b) top rows :: mapN V.strip l := by
  show (V.list sz (tkOf b) top rows).strip :: mapN V.strip l = _
  rw [show (V.list sz (tkOf b) top rows).strip = cellStrip (.list sz (tkOf b) top rows) from rfl, strip_tk]

/-- A pure function, of terms. -/
theorem run_tm {C : Cfg} {id n : Nat} {args : List V} {S S' : St} {v v' r : V} (h : frame C (run C n) n id args St.empty = some (v, S')) (hm : mapN V.strip args = args) (hp : (C.fc id).pure = true) (ha : allB V.pure args = true)
    (hf : frz { nt := 0, tmps := [], locs := [], fix := [] } S' .any v = some v') (hz : isZero v'.lvl = true) (hs : v'.stripAll = r) : run C (n + 1) (.f id) args S = some (r, S) :=
  run_val (by rw [hm]; exact h) hp ha hf hz hs

end Go.Ev

/- Terms: the document's Deep, Size, Free, Binds (own work). -/
namespace Go.Ev
open Go.Proofs
set_option maxRecDepth 100000

noncomputable def bindsF (k i : Int) : Int := bif (iEq k 5 || iEq k 6) && iEq i 1 then 1 else bif iEq k 7 && iEq i 2 then 1 else 0

theorem r103_frame (n : Nat) (x : Tm) (i : Int) : frame Try.cfg (run Try.cfg n) n 103 [encA x, .int .i64 i] St.empty = some (.int .i64 (bindsF x.k i), St.empty) := by
  refine frame_of Try.cfg _ (fn := Try.f103) rfl rfl ?_
  refine WCmp.mk (fun h5 => ?_) (fun h5 => ?_)
  · refine WCmp.mk (fun h1 => ?_) (fun h1 => ?_)
    · exact rfI (by simp [bindsF, h5, h1])
    · refine WCmp.mk (fun h7 => ?_) (fun h7 => ?_)
      · refine WCmp.mk (fun h2 => ?_) (fun h2 => ?_)
        · exact rfI (by simp [bindsF, h5, h1, h7, h2])
        · exact rfI (by simp [bindsF, h5, h1, h7, h2])
      · exact rfI (by simp [bindsF, h5, h1, h7])
  · refine WCmp.mk (fun h6 => ?_) (fun h6 => ?_)
    · refine WCmp.mk (fun h1 => ?_) (fun h1 => ?_)
      · exact rfI (by simp [bindsF, h5, h6, h1])
      · refine WCmp.mk (fun h7 => ?_) (fun h7 => ?_)
        · refine WCmp.mk (fun h2 => ?_) (fun h2 => ?_)
          · exact rfI (by simp [bindsF, h5, h6, h1, h7, h2])
          · exact rfI (by simp [bindsF, h5, h6, h1, h7, h2])
        · exact rfI (by simp [bindsF, h5, h6, h1, h7])
    · refine WCmp.mk (fun h7 => ?_) (fun h7 => ?_)
      · refine WCmp.mk (fun h2 => ?_) (fun h2 => ?_)
        · exact rfI (by simp [bindsF, h5, h6, h7, h2])
        · exact rfI (by simp [bindsF, h5, h6, h7, h2])
      · exact rfI (by simp [bindsF, h5, h6, h7])

theorem r103_ok (n : Nat) (x : Tm) (i : Int) (S : St) : run Try.cfg (n + 1) (.f 103) [encA x, .int .i64 i] S = some (.int .i64 (bindsF x.k i), S) := run_tm (r103_frame n x i) (by simp only [strips_t, strips_i, strips_nil]) rfl rfl rfl rfl rfl

/-! ### Deep -/

noncomputable def few20 (x : Tm) : Bool := Nat.ble x.ls.length 20

noncomputable def f113L : Code := loopN Try.f113 0

theorem r113_by (n k : Nat) (x : Tm) (d : Nat) (hd : d < 1000000) (S : St) (K : Ex → Env → St → Prop)
    (hrec : ∀ y ∈ x.ts, ∀ l, l < 1000000 → run Try.cfg n (.f 113) [encA y, .int .i64 (.ofNat l), .int .i64 (.ofNat d)] S = some (encO (scanT few20 y l d), S)) :
    ∀ (rem : List Tm) (j f l : Nat), rem.length < f → (∀ i, rem[i]? = x.ts[j + i]?) → j + rem.length = x.ts.length → l < 1000000 → j < 1000000 → l + j < 1000000 →
    (match scanTs few20 rem l d with
      | some l' => K (.exit 0) { nt := 41, tmps := [(1, .int .i64 (.ofNat l')), (2, .int .i64 (.ofNat (d + 1))), (3, .ptr (.loc 3) 0), (7, .int .i64 (.ofNat x.ts.length)), (26, .bool false)], locs := [(3, cellsT x)], fix := [] } S
      | none => K .ret { nt := 41, tmps := [(6, .int .i64 (-1))], locs := [(3, cellsT x)], fix := [] } S) →
    WCode (iter (evalCode Try.cfg (run Try.cfg n) k 113 (Try.cfg.fc 113) f113L) f { nt := 41, tmps := [(1, .int .i64 (.ofNat l)), (2, .int .i64 (.ofNat (d + 1))), (3, .ptr (.loc 3) 0), (7, .int .i64 (.ofNat j))], locs := [(3, cellsT x)], fix := [] } S) K
  | [], j, f + 1, l, hf, hr, hj, hl, _, _, hK => by
    have hjl : j = x.ts.length := by simpa using hj
    subst hjl
    refine WCode.round (nt := 41) (fx := []) ?_
    refine WCmp.no (geLen (by omega)) ?_
    rw [scanTs] at hK
    exact hK
  | y :: rem, j, f + 1, l, hf, hr, hj, hl, hj2, hlj, hK => by
    have hb : x.ts[j]? = some y := by have := hr 0; simpa using this.symm
    have hjl : j < x.ts.length := (List.getElem?_eq_some_iff.1 hb).1
    have hy := hrec y (List.mem_of_getElem? hb) l hl
    refine WCode.round (nt := 41) (fx := []) ?_
    refine WCmp.yes (ltLen hjl) ?_
    refine WOut.mk _ (index44 hb) ?_
    refine WOut.mk _ (subOne (by omega)) ?_
    rw [scanTs_cons] at hK
    cases hs : scanT few20 y l d with
    | none =>
      rw [hs] at hK hy
      refine WCall.mk _ _ hy ?_
      refine WCmp.yes rfl ?_
      exact hK
    | some l' =>
      rw [hs] at hK hy
      have := scan_le _ _ hs
      refine WCall.mk _ _ hy ?_
      refine WCmp.no rfl ?_
      refine WOut.mk _ (addOne (by omega)) ?_
      exact r113_by n k x d hd S K hrec rem (j + 1) f l' (by simp only [List.length_cons] at hf; omega) (fun i => by have := hr (i + 1); simp only [List.getElem?_cons_succ] at this; rw [this]; congr 1; omega) (by simp only [List.length_cons] at hj; omega) (by omega) (by omega) (by omega) hK

theorem r113_frame (n : Nat) (x : Tm) (l d : Nat) (hl : l < 1000000) (hd : d < 1000000) (hn : x.ts.length < n)
    (hrec : ∀ y ∈ x.ts, ∀ l d, l < 1000000 → d < 1000000 → run Try.cfg n (.f 113) [encA y, .int .i64 (.ofNat l), .int .i64 (.ofNat d)] St.empty = some (encO (scanT few20 y l d), St.empty)) :
    frame Try.cfg (run Try.cfg n) n 113 [encA x, .int .i64 (.ofNat l), .int .i64 (.ofNat d)] St.empty = some (encO (scanT few20 x l d), St.empty) := by
  refine frame_of Try.cfg _ (fn := Try.f113) rfl rfl ?_
  rw [scanT_eq]
  cases l with
  | zero => refine WOut.mk _ rfl ?_; refine WCmp.yes rfl ?_; rfl
  | succ l =>
  refine WOut.mk _ (subOne (by omega)) ?_
  refine WCmp.no rfl ?_
  cases d with
  | zero => refine WCmp.yes rfl ?_; rfl
  | succ d =>
  refine WCmp.no rfl ?_
  simp only
  cases hq : few20 x with
  | false =>
    refine WCmp.yes ?_ ?_
    · show iLt (.ofNat 20) (.ofNat (lenN (x.ls.map enc))) = true
      rw [lenN_eq, List.length_map]
      unfold few20 at hq
      exact blt_yes (by
        by_cases h : x.ls.length ≤ 20
        · rw [Nat.ble_eq_true_of_le h] at hq; cases hq
        · omega)
    · rfl
  | true =>
    refine WCmp.no ?_ ?_
    · show iLt (.ofNat 20) (.ofNat (lenN (x.ls.map enc))) = false
      rw [lenN_eq, List.length_map]
      unfold few20 at hq
      exact blt_no (by have := Nat.le_of_ble_eq_true hq; omega)
    refine r113_by n n x d (by omega) _ _ (fun y hy l hl => hrec y hy l d hl (by omega)) x.ts 0 n l hn (fun i => by rw [Nat.zero_add]) (by rw [Nat.zero_add]) (by omega) (by omega) (by omega) ?_
    cases hs : scanTs few20 x.ts l d <;> rfl

theorem r113_ok : ∀ (n : Nat) (x : Tm) (l d : Nat) (S : St), l < 1000000 → d < 1000000 → wt x < n → run Try.cfg n (.f 113) [encA x, .int .i64 (.ofNat l), .int .i64 (.ofNat d)] S = some (encO (scanT few20 x l d), S)
  | 0, x, l, d, S, _, _, h => by omega
  | n + 1, x, l, d, S, hl, hd, h => by
    have hn : x.ts.length < n := by have := wts_len x.ts; rw [wt_eq] at h; omega
    have := r113_frame n x l d hl hd hn (fun y hy l d hl hd => r113_ok n y l d _ hl hd (by have := wt_kid hy; omega))
    cases hs : scanT few20 x l d with
    | none => rw [hs] at this; exact run_tm this (by simp only [strips_t, strips_i, strips_nil]) rfl rfl rfl rfl rfl
    | some l' => rw [hs] at this; exact run_tm this (by simp only [strips_t, strips_i, strips_nil]) rfl rfl rfl rfl rfl

/-- Is a term greater than a statement looks at? -/
noncomputable def deepT (x : Tm) : Bool := (scanT few20 x 131072 8192).isNone

theorem r82_frame (n : Nat) (x : Tm) (h : wt x < n) : frame Try.cfg (run Try.cfg n) n 82 [encA x] St.empty = some (.bool (deepT x), St.empty) := by
  refine frame_of Try.cfg _ (fn := Try.f82) rfl rfl ?_
  have := r113_ok n x 131072 8192 St.empty (by omega) (by omega) h
  unfold deepT
  cases hs : scanT few20 x 131072 8192 with
  | none => rw [hs] at this; refine WCall.mk _ _ this ?_; refine WCmp.yes rfl ?_; rfl
  | some l => rw [hs] at this; refine WCall.mk _ _ this ?_; refine WCmp.no rfl ?_; rfl

theorem r82_ok (n : Nat) (x : Tm) (S : St) (h : wt x < n) : run Try.cfg (n + 1) (.f 82) [encA x] S = some (.bool (deepT x), S) := run_tm (r82_frame n x h) (by simp only [strips_t, strips_nil]) rfl rfl rfl rfl rfl

end Go.Ev

/- Terms: the document's Size, Free (own work). -/
namespace Go.Ev
open Go.Proofs
set_option maxRecDepth 100000
set_option linter.unusedSimpArgs false
set_option linter.unusedVariables false

theorem addNat {T a b : Nat} (h : a + b < 9223372036854775807) : binOp Try.cfg .add T (.int .i64 (.ofNat a)) (.int .i64 (.ofNat b)) = some (.int .i64 (.ofNat (a + b))) := by
  show some (V.int .i64 (wrapI .i64 ((a : Int) + (b : Int)))) = _
  rw [wrapI_id (by omega) (by omega)]
  rfl

mutual
noncomputable def sizeT : Tm → Nat
  | .mk _ _ _ _ _ _ _ _ ts => 1 + sizeTs ts
noncomputable def sizeTs : List Tm → Nat
  | [] => 0
  | t :: ts => sizeT t + sizeTs ts
end
theorem sizeT_eq (x : Tm) : sizeT x = 1 + sizeTs x.ts := by cases x; rw [sizeT]; rfl
theorem sizeTs_cons (t : Tm) (ts : List Tm) : sizeTs (t :: ts) = sizeT t + sizeTs ts := by rw [sizeTs]
theorem sizeT_pos (x : Tm) : 0 < sizeT x := by rw [sizeT_eq]; omega
theorem sizeTs_len (ts : List Tm) : ts.length ≤ sizeTs ts := by
  induction ts with
  | nil => simp
  | cons t ts ih => rw [sizeTs_cons]; have := sizeT_pos t; simp only [List.length_cons]; omega

noncomputable def f44L : Code := loopN Try.f44 0

theorem r44_by (n k : Nat) (x : Tm) (S : St) (K : Ex → Env → St → Prop)
    (hrec : ∀ y ∈ x.ts, sizeT y < 1000000000 → run Try.cfg n (.f 44) [encA y] S = some (.int .i64 (.ofNat (sizeT y)), S)) :
    ∀ (rem : List Tm) (j f l : Nat), rem.length < f → (∀ i, rem[i]? = x.ts[j + i]?) → j + rem.length = x.ts.length → l + sizeTs rem < 1000000000 → j ≤ l →
    K (.exit 0) { nt := 21, tmps := [(1, .ptr (.loc 1) 0), (3, .int .i64 (.ofNat (l + sizeTs rem))), (4, .int .i64 (.ofNat x.ts.length)), (9, .bool false)], locs := [(1, cellsT x)], fix := [] } S →
    WCode (iter (evalCode Try.cfg (run Try.cfg n) k 44 (Try.cfg.fc 44) f44L) f { nt := 21, tmps := [(1, .ptr (.loc 1) 0), (3, .int .i64 (.ofNat l)), (4, .int .i64 (.ofNat j))], locs := [(1, cellsT x)], fix := [] } S) K
  | [], j, f + 1, l, hf, hr, hj, hl, _, hK => by
    have hjl : j = x.ts.length := by simpa using hj
    subst hjl
    refine WCode.round (nt := 21) (fx := []) ?_
    refine WCmp.no (geLen (by omega)) ?_
    rw [sizeTs, Nat.add_zero] at hK
    exact hK
  | y :: rem, j, f + 1, l, hf, hr, hj, hl, hjl', hK => by
    have hb : x.ts[j]? = some y := by have := hr 0; simpa using this.symm
    have hjl : j < x.ts.length := (List.getElem?_eq_some_iff.1 hb).1
    rw [sizeTs_cons] at hl hK
    have hp := sizeT_pos y
    refine WCode.round (nt := 21) (fx := []) ?_
    refine WCmp.yes (ltLen hjl) ?_
    refine WOut.mk _ (index44 hb) ?_
    refine WCall.mk _ _ (hrec y (List.mem_of_getElem? hb) (by omega)) ?_
    refine WOut.mk _ (addNat (by omega)) ?_
    refine WOut.mk _ (addOne (by omega)) ?_
    exact r44_by n k x S K hrec rem (j + 1) f (l + sizeT y) (by simp only [List.length_cons] at hf; omega) (fun i => by have := hr (i + 1); simp only [List.getElem?_cons_succ] at this; rw [this]; congr 1; omega) (by simp only [List.length_cons] at hj; omega) (by omega) (by omega) (by rw [Nat.add_assoc]; exact hK)

theorem r44_ok : ∀ (n : Nat) (x : Tm) (S : St), sizeT x < 1000000000 → wt x < n → run Try.cfg n (.f 44) [encA x] S = some (.int .i64 (.ofNat (sizeT x)), S)
  | 0, x, S, _, h => by omega
  | n + 1, x, S, hl, h => by
    have hn : x.ts.length < n := by have := wts_len x.ts; rw [wt_eq] at h; omega
    have : frame Try.cfg (run Try.cfg n) n 44 [encA x] St.empty = some (.int .i64 (.ofNat (sizeT x)), St.empty) := by
      refine frame_of Try.cfg _ (fn := Try.f44) rfl rfl ?_
      rw [sizeT_eq] at hl ⊢
      refine r44_by n n x _ _ (fun y hy hs => r44_ok n y _ hs (by have := wt_kid hy; omega)) x.ts 0 n 1 hn (fun i => by rw [Nat.zero_add]) (by rw [Nat.zero_add]) hl (by omega) ?_
      rfl
    exact run_tm this (by simp only [strips_t, strips_i, strips_nil]) rfl rfl rfl rfl rfl

/-! ### Free -/

noncomputable def mxI (m n : Int) : Int := if n > m then n else m
noncomputable def addW (a b : Int) : Int := wrapI .i64 (a + b)
noncomputable def subW (a b : Int) : Int := wrapI .i64 (a - b)

mutual
noncomputable def freeF : Tm → Int → Int
  | .mk k n _ _ _ _ _ _ ts, around => bif iEq k 2 then mxI 0 (subW (addW n 1) around) else freeFs k ts 0 around 0
noncomputable def freeFs (k : Int) : List Tm → Nat → Int → Int → Int
  | [], _, _, acc => acc
  | t :: ts, i, around, acc => freeFs k ts (i + 1) around (mxI acc (freeF t (addW around (bindsF k (.ofNat i)))))
end
theorem freeF_eq (x : Tm) (around : Int) : freeF x around = bif iEq x.k 2 then mxI 0 (subW (addW x.n 1) around) else freeFs x.k x.ts 0 around 0 := by cases x; rw [freeF]; rfl
theorem freeFs_cons (k : Int) (t : Tm) (ts : List Tm) (i : Nat) (around acc : Int) : freeFs k (t :: ts) i around acc = freeFs k ts (i + 1) around (mxI acc (freeF t (addW around (bindsF k (.ofNat i))))) := by rw [freeFs]

noncomputable def f93L : Code := loopN Try.f93 0

theorem r93_by (n k : Nat) (x : Tm) (around : Int) (S : St) (K : Ex → Env → St → Prop) (hlen : x.ts.length < 1000000000)
    (hrec : ∀ y ∈ x.ts, ∀ a, run Try.cfg (n + 1) (.f 93) [encA y, .int .i64 a] S = some (.int .i64 (freeF y a), S)) :
    ∀ (rem : List Tm) (j f : Nat) (acc : Int), rem.length < f → (∀ i, rem[i]? = x.ts[j + i]?) → j + rem.length = x.ts.length →
    K (.exit 0) { nt := 37, tmps := [(1, .int .i64 around), (2, .ptr (.loc 2) 0), (5, .int .i64 (freeFs x.k rem j around acc)), (6, .int .i64 (.ofNat x.ts.length)), (20, .bool false)], locs := [(2, cellsT x)], fix := [] } S →
    WCode (iter (evalCode Try.cfg (run Try.cfg (n + 1)) k 93 (Try.cfg.fc 93) f93L) f { nt := 37, tmps := [(1, .int .i64 around), (2, .ptr (.loc 2) 0), (5, .int .i64 acc), (6, .int .i64 (.ofNat j))], locs := [(2, cellsT x)], fix := [] } S) K
  | [], j, f + 1, acc, hf, hr, hj, hK => by
    have hjl : j = x.ts.length := by simpa using hj
    subst hjl
    refine WCode.round (nt := 37) (fx := []) ?_
    refine WCmp.no (geLen (by omega)) ?_
    rw [freeFs] at hK
    exact hK
  | y :: rem, j, f + 1, acc, hf, hr, hj, hK => by
    have hb : x.ts[j]? = some y := by have := hr 0; simpa using this.symm
    have hjl : j < x.ts.length := (List.getElem?_eq_some_iff.1 hb).1
    rw [freeFs_cons] at hK
    refine WCode.round (nt := 37) (fx := []) ?_
    refine WCmp.yes (ltLen hjl) ?_
    refine WOut.mk _ (index44 hb) ?_
    refine WCall.mk _ _ (r103_ok n x (.ofNat j) _) ?_
    refine WOut.mk _ rfl ?_
    refine WCall.mk _ _ (hrec y (List.mem_of_getElem? hb) _) ?_
    refine WOut.mk _ (addOne (by omega)) ?_
    exact r93_by n k x around S K hlen hrec rem (j + 1) f _ (by simp only [List.length_cons] at hf; omega) (fun i => by have := hr (i + 1); simp only [List.getElem?_cons_succ] at this; rw [this]; congr 1; omega) (by simp only [List.length_cons] at hj; omega) hK

theorem r93_ok : ∀ (n : Nat) (x : Tm) (around : Int) (S : St), sizeT x < 1000000000 → wt x < n → run Try.cfg (n + 1) (.f 93) [encA x, .int .i64 around] S = some (.int .i64 (freeF x around), S)
  | 0, x, around, S, _, h => by omega
  | n + 1, x, around, S, hl, h => by
    have hn : x.ts.length < n := by have := wts_len x.ts; rw [wt_eq] at h; omega
    rw [sizeT_eq] at hl
    have hlen := sizeTs_len x.ts
    have hk : ∀ y ∈ x.ts, sizeT y ≤ sizeTs x.ts := by
      have : ∀ (ts : List Tm), ∀ y ∈ ts, sizeT y ≤ sizeTs ts := by
        intro ts
        induction ts with
        | nil => intro y hy; cases hy
        | cons t ts ih =>
          intro y hy
          rw [sizeTs_cons]
          cases hy with
          | head => omega
          | tail _ hy => have := ih y hy; omega
      exact this x.ts
    have : frame Try.cfg (run Try.cfg (n + 1)) (n + 1) 93 [encA x, .int .i64 around] St.empty = some (.int .i64 (freeF x around), St.empty) := by
      refine frame_of Try.cfg _ (fn := Try.f93) rfl rfl ?_
      rw [freeF_eq]
      refine WCmp.mk (fun h2 => ?_) (fun h2 => ?_)
      · refine WOut.mk _ rfl ?_
        refine WOut.mk _ rfl ?_
        rw [h2]
        rfl
      · refine r93_by n (n + 1) x around _ _ (by omega) (fun y hy a => r93_ok n y a _ (by have := hk y hy; omega) (by have := wt_kid hy; omega)) x.ts 0 (n + 1) 0 (by omega) (fun i => by rw [Nat.zero_add]) (by rw [Nat.zero_add]) ?_
        rw [h2]
        rfl
    exact run_tm this (by simp only [strips_t, strips_i, strips_nil]) rfl rfl rfl rfl rfl

theorem r43_ok (n : Nat) (x : Tm) (S : St) (hl : sizeT x < 1000000000) (h : wt x < n) : run Try.cfg (n + 2) (.f 43) [encA x] S = some (.int .i64 (freeF x 0), S) := by
  have : frame Try.cfg (run Try.cfg (n + 1)) (n + 1) 43 [encA x] St.empty = some (.int .i64 (freeF x 0), St.empty) := by
    refine frame_of Try.cfg _ (fn := Try.f43) rfl rfl ?_
    refine WCall.mk _ _ (r93_ok n x 0 _ hl h) ?_
    rfl
  exact run_tm this (by simp only [strips_t, strips_i, strips_nil]) rfl rfl rfl rfl rfl

end Go.Ev

/- Terms: the document's Name, May (own work). -/
namespace Go.Ev
open Go.Proofs
set_option maxRecDepth 100000
set_option linter.unusedSimpArgs false
set_option linter.unusedVariables false

theorem WCall.mkB {R : Run} {t : Tgt} {args : List V} {S : St} {K : V → St → Prop} {b : Bool} {S' : St} (h : R t args S = some (.bool b, S')) (kt : b = true → K (.bool true) S') (kf : b = false → K (.bool false) S') : WCall R t args S K := by
  cases b with
  | true => exact WCall.mk _ _ h (kt rfl)
  | false => exact WCall.mk _ _ h (kf rfl)

theorem WOut.mkB {o : Option V} {K : V → Prop} {b : Bool} (h : o = some (.bool b)) (kt : b = true → K (.bool true)) (kf : b = false → K (.bool false)) : WOut o K := by
  cases b with
  | true => exact WOut.mk _ h (kt rfl)
  | false => exact WOut.mk _ h (kf rfl)

theorem strEq {a b : List UInt8} : binOp Try.cfg .eql 9 (.str a) (.str b) = some (.bool (decide (a = b))) := tell_eq _
theorem strNe {a b : List UInt8} : binOp Try.cfg .neq 9 (.str a) (.str b) = some (.bool (!decide (a = b))) := tell_eq _

noncomputable def kidsF (k : Int) : Int := bif iEq k 1 || iEq k 2 || iEq k 3 then 0 else bif iEq k 4 || iEq k 5 || iEq k 6 then 2 else bif iEq k 7 then 3 else bif iEq k 8 then 1 else -1

theorem r129_frame (n : Nat) (k : Int) : frame Try.cfg (run Try.cfg n) n 129 [.int .u8 k] St.empty = some (.int .i64 (kidsF k), St.empty) := by
  refine frame_of Try.cfg _ (fn := Try.f129) rfl rfl ?_
  repeat' (refine WCmp.mk (fun _ => ?_) (fun _ => ?_))
  all_goals exact rfI (by simp [kidsF, *])

theorem r129_ok (n : Nat) (k : Int) (S : St) : run Try.cfg (n + 1) (.f 129) [.int .u8 k] S = some (.int .i64 (kidsF k), S) := run_val (r129_frame n k) rfl rfl rfl rfl rfl

noncomputable def chC (c : Int) : Bool := (!iLt c 97 && !iLt 122 c) || (!iLt c 65 && !iLt 90 c) || (!iLt c 48 && !iLt 57 c) || iEq c 95 || iEq c 46 || iEq c 39
noncomputable def chB (b : UInt8) : Bool := chC (.ofNat b.toNat)
noncomputable def nameT (s : List UInt8) : Bool := s.all chB && !iLt (.ofNat (lenN s)) 1 && !iLt 32 (.ofNat (lenN s))

theorem index9 {s : List UInt8} {j : Nat} {b : UInt8} (h : s[j]? = some b) : index Try.cfg 9 (.str s) (.int .i64 (.ofNat j)) = some (.int .u8 (.ofNat b.toNat)) := by
  have hj : j < s.length := (List.getElem?_eq_some_iff.1 h).1
  show (match below (.int .i64 (.ofNat j)) (lenN s) with
    | some i => match nth s i with
      | some b => some (V.int .u8 b.toNat)
      | none => none
    | none => none) = _
  rw [lenN_eq, below_of hj]
  simp only
  rw [nth_eq, h]
  rfl

theorem ltLenS {j : Nat} {s : List UInt8} (h : j < s.length) : iLt (.ofNat j) (.ofNat (lenN s)) = true := by rw [lenN_eq]; exact blt_yes h
theorem geLenS {j : Nat} {s : List UInt8} (h : ¬ j < s.length) : iLt (.ofNat j) (.ofNat (lenN s)) = false := by rw [lenN_eq]; exact blt_no h

noncomputable def f130L : Code := loopN Try.f130 0

theorem r130_by (R : Run) (k : Nat) (s : List UInt8) (hs : s.length ≤ 9223372036854775807) (S : St) (K : Ex → Env → St → Prop) :
    ∀ (rem : List UInt8) (j f : Nat), rem.length < f → (∀ i, rem[i]? = s[j + i]?) → j + rem.length = s.length →
    (rem.all chB = true → K (.exit 0) { nt := 59, tmps := [(0, .str s), (3, .int .i64 (.ofNat s.length)), (9, .bool false)], locs := [], fix := [] } S) →
    (rem.all chB = false → K .ret { nt := 59, tmps := [(2, .bool false)], locs := [], fix := [] } S) →
    WCode (iter (evalCode Try.cfg R k 130 (Try.cfg.fc 130) f130L) f { nt := 59, tmps := [(0, .str s), (3, .int .i64 (.ofNat j))], locs := [], fix := [] } S) K
  | [], j, f + 1, hf, hr, hj, hK, _ => by
    have hjl : j = s.length := by simpa using hj
    subst hjl
    refine WCode.round (nt := 59) (fx := []) ?_
    refine WCmp.no (geLenS (by omega)) ?_
    exact hK rfl
  | b :: rem, j, f + 1, hf, hr, hj, hK, hN => by
    have hb : s[j]? = some b := by have := hr 0; simpa using this.symm
    have hjl : j < s.length := (List.getElem?_eq_some_iff.1 hb).1
    have hno : chC (.ofNat b.toNat) = false → K .ret { nt := 59, tmps := [(2, .bool false)], locs := [], fix := [] } S := fun h => hN (by simp only [List.all_cons, chB, h, Bool.false_and])
    have hyes : chC (.ofNat b.toNat) = true → WCode (iter (evalCode Try.cfg R k 130 (Try.cfg.fc 130) f130L) f { nt := 59, tmps := [(0, .str s), (3, .int .i64 (.ofNat (j + 1)))], locs := [], fix := [] } S) K := fun h =>
      r130_by R k s hs S K rem (j + 1) f (by simp only [List.length_cons] at hf; omega) (fun i => by have := hr (i + 1); simp only [List.getElem?_cons_succ] at this; rw [this]; congr 1; omega) (by simp only [List.length_cons] at hj; omega) (fun h2 => hK (by simp only [List.all_cons, chB, h, h2, Bool.and_self])) (fun h2 => hN (by simp only [List.all_cons, chB, h, h2, Bool.and_false]))
    clear hK hN
    refine WCode.round (nt := 59) (fx := []) ?_
    refine WCmp.yes (ltLenS hjl) ?_
    refine WOut.mk _ (index9 hb) ?_
    repeat' (refine WCmp.mk (fun _ => ?_) (fun _ => ?_))
    all_goals first
      | exact hno (by simp only [chC, *]; rfl)
      | (refine WOut.mk _ (addOne (T := 3) (j := j) (by omega)) ?_; exact hyes (by simp only [chC, *]; rfl))

theorem r130_frame (n : Nat) (s : List UInt8) (hs : s.length ≤ 9223372036854775807) (hn : s.length < n) : frame Try.cfg (run Try.cfg n) n 130 [.str s] St.empty = some (.bool (nameT s), St.empty) := by
  refine frame_of Try.cfg _ (fn := Try.f130) rfl rfl ?_
  refine r130_by _ n s hs _ _ s 0 n hn (fun i => by rw [Nat.zero_add]) (by rw [Nat.zero_add]) (fun h => ?_) (fun h => ?_)
  · repeat' (refine WCmp.mk (fun _ => ?_) (fun _ => ?_))
    all_goals exact rfB (by simp_all [nameT])
  · exact rfB (by simp [nameT, h])

theorem r130_ok (n : Nat) (s : List UInt8) (S : St) (hs : s.length ≤ 9223372036854775807) (hn : s.length < n) : run Try.cfg (n + 1) (.f 130) [.str s] S = some (.bool (nameT s), S) := run_val (r130_frame n s hs hn) rfl rfl rfl rfl rfl

/-! ### node -/

noncomputable def nmOk (x : Tm) : Bool := bif iEq x.k 3 || iEq x.k 8 then nameT x.s else decide (x.s = [])
noncomputable def nuOk (x : Tm) : Bool := bif iEq x.k 2 then !iLt x.n 0 && !iLt 1048576 x.n else bif iEq x.k 8 then !iLt x.n 0 && iLt x.n 12 else iEq x.n 0
noncomputable def lvOk (x : Tm) : Bool := bif iEq x.k 1 then iEq (.ofNat (lenN (x.ls.map enc))) 1 else bif iEq x.k 3 then !iLt 4 (.ofNat (lenN (x.ls.map enc))) else iEq (.ofNat (lenN (x.ls.map enc))) 0
noncomputable def nodeT (x : Tm) : Bool := (!iLt (kidsF x.k) 0 && iEq (.ofNat (lenN (encTs x.ts))) (kidsF x.k)) && x.ls.all mayF && (nmOk x && nuOk x && lvOk x)

noncomputable def f122L : Code := loopN Try.f122 0

theorem r122_by (n k : Nat) (x : Tm) (hs : x.ls.length ≤ 9223372036854775807) (S : St) (K : Ex → Env → St → Prop) :
    ∀ (rem : List Lv) (j f : Nat), rem.length < f → (∀ i, rem[i]? = x.ls[j + i]?) → j + rem.length = x.ls.length →
    (rem.all mayF = true → K (.exit 0) { nt := 91, tmps := [(1, .ptr (.loc 1) 0), (3, .int .i64 (.ofNat x.ls.length)), (24, .bool false)], locs := [(1, cellsT x)], fix := [] } S) →
    (rem.all mayF = false → K .ret { nt := 91, tmps := [(2, .bool false)], locs := [(1, cellsT x)], fix := [] } S) →
    WCode (iter (evalCode Try.cfg (run Try.cfg (n + 6)) k 122 (Try.cfg.fc 122) f122L) f { nt := 91, tmps := [(1, .ptr (.loc 1) 0), (3, .int .i64 (.ofNat j))], locs := [(1, cellsT x)], fix := [] } S) K
  | [], j, f + 1, hf, hr, hj, hK, _ => by
    have hjl : j = x.ls.length := by simpa using hj
    subst hjl
    refine WCode.round (nt := 91) (fx := []) ?_
    refine WCmp.no (geLenL (by omega)) ?_
    exact hK rfl
  | b :: rem, j, f + 1, hf, hr, hj, hK, hN => by
    have hb : x.ls[j]? = some b := by have := hr 0; simpa using this.symm
    have hjl : j < x.ls.length := (List.getElem?_eq_some_iff.1 hb).1
    refine WCode.round (nt := 91) (fx := []) ?_
    refine WCmp.yes (ltLenL hjl) ?_
    refine WOut.mk _ (index25' hb) ?_
    refine WCall.mkB (r27_ok n b _) (fun h => ?_) (fun h => ?_)
    · refine WOut.mk _ (addOne (T := 3) (j := j) (by omega)) ?_
      exact r122_by n k x hs S K rem (j + 1) f (by simp only [List.length_cons] at hf; omega) (fun i => by have := hr (i + 1); simp only [List.getElem?_cons_succ] at this; rw [this]; congr 1; omega) (by simp only [List.length_cons] at hj; omega) (fun h2 => hK (by simp only [List.all_cons, h, h2, Bool.and_self])) (fun h2 => hN (by simp only [List.all_cons, h, h2, Bool.and_false]))
    · exact hN (by simp only [List.all_cons, h, Bool.false_and])

/-- No list of a term is too long to be gone through. -/
def SmN (x : Tm) : Prop := x.ls.length ≤ 9223372036854775807 ∧ x.s.length ≤ 9223372036854775807

theorem iEq_ne {a b c : Int} (h : iEq a b = true) (hne : iEq b c = false) : iEq a c = false := by
  rw [iEq_eq, decide_eq_true_eq] at h
  subst h
  exact hne

theorem WCmp.sym {b : Bool} {K : V → Prop} (h : K (.bool b)) : WCmp b K := ⟨(fun e => by rw [e] at h; exact h), (fun e => by rw [e] at h; exact h)⟩

noncomputable def f122T : Code := ((Try.f122.body).bind afterLoop).getD .skip

theorem r122_k1 (n k : Nat) (x : Tm) (hs : SmN x) (hn : wt x < n + 6) (hk : (!iLt (kidsF x.k) 0 && iEq (.ofNat (lenN (encTs x.ts))) (kidsF x.k)) = true) (hall : x.ls.all mayF = true) (h1 : iEq x.k 1 = true) :
    wCode Try.cfg (run Try.cfg (n + 6)) (Try.cfg.fc 122) k 122 91 [] f122T { nt := 91, tmps := [(1, .ptr (.loc 1) 0), (3, .int .i64 (.ofNat x.ls.length)), (24, .bool false)], locs := [(1, cellsT x)], fix := [] } St.empty (fun e A S => match e with | .exit _ => False | _ => finish Try.cfg Try.f122 A S = some (.bool (nodeT x), St.empty)) := by
  have h2 : iEq x.k 2 = false := iEq_ne h1 rfl
  have h3 : iEq x.k 3 = false := iEq_ne h1 rfl
  have h8 : iEq x.k 8 = false := iEq_ne h1 rfl
  have hw := wt_eq x
  have e : nodeT x = (nmOk x && nuOk x && lvOk x) := by unfold nodeT; rw [hk, hall]; rfl
  rw [e]
  refine WOut.mkB strEq (fun _ => ?_) (fun _ => ?_)
  all_goals refine WCmp.mk (fun _ => ?_) (fun _ => ?_)
  all_goals refine WCmp.sym ?_
  all_goals refine WCmp.yes h1 ?_
  all_goals repeat' first
    | refine WCmp.mk (fun _ => ?_) (fun _ => ?_)
    | refine WCall.mkB (r130_ok (n + 5) x.s _ hs.2 (by omega)) (fun _ => ?_) (fun _ => ?_)
  all_goals exact rfB (by simp_all only [nmOk, nuOk, lvOk, Bool.not_false, Bool.not_true, Bool.or_false, Bool.false_or, Bool.true_or, Bool.or_true, cond_true, cond_false, Bool.and_true, Bool.true_and, Bool.and_false, Bool.false_and, Bool.not_eq_true', Bool.not_eq_false'])

theorem r122_k2 (n k : Nat) (x : Tm) (hs : SmN x) (hn : wt x < n + 6) (hk : (!iLt (kidsF x.k) 0 && iEq (.ofNat (lenN (encTs x.ts))) (kidsF x.k)) = true) (hall : x.ls.all mayF = true) (h1 : iEq x.k 1 = false) (h2 : iEq x.k 2 = true) :
    wCode Try.cfg (run Try.cfg (n + 6)) (Try.cfg.fc 122) k 122 91 [] f122T { nt := 91, tmps := [(1, .ptr (.loc 1) 0), (3, .int .i64 (.ofNat x.ls.length)), (24, .bool false)], locs := [(1, cellsT x)], fix := [] } St.empty (fun e A S => match e with | .exit _ => False | _ => finish Try.cfg Try.f122 A S = some (.bool (nodeT x), St.empty)) := by
  have h3 : iEq x.k 3 = false := iEq_ne h2 rfl
  have h8 : iEq x.k 8 = false := iEq_ne h2 rfl
  have hw := wt_eq x
  have e : nodeT x = (nmOk x && nuOk x && lvOk x) := by unfold nodeT; rw [hk, hall]; rfl
  rw [e]
  refine WOut.mkB strEq (fun _ => ?_) (fun _ => ?_)
  all_goals refine WCmp.sym ?_
  all_goals refine WCmp.mk (fun _ => ?_) (fun _ => ?_)
  all_goals refine WCmp.no h1 ?_
  all_goals refine WCmp.yes h2 ?_
  all_goals repeat' first
    | refine WCmp.mk (fun _ => ?_) (fun _ => ?_)
    | refine WCall.mkB (r130_ok (n + 5) x.s _ hs.2 (by omega)) (fun _ => ?_) (fun _ => ?_)
  all_goals exact rfB (by simp_all only [nmOk, nuOk, lvOk, Bool.not_false, Bool.not_true, Bool.or_false, Bool.false_or, Bool.true_or, Bool.or_true, cond_true, cond_false, Bool.and_true, Bool.true_and, Bool.and_false, Bool.false_and, Bool.not_eq_true', Bool.not_eq_false'])

theorem r122_k3 (n k : Nat) (x : Tm) (hs : SmN x) (hn : wt x < n + 6) (hk : (!iLt (kidsF x.k) 0 && iEq (.ofNat (lenN (encTs x.ts))) (kidsF x.k)) = true) (hall : x.ls.all mayF = true) (h1 : iEq x.k 1 = false) (h2 : iEq x.k 2 = false) (h3 : iEq x.k 3 = true) :
    wCode Try.cfg (run Try.cfg (n + 6)) (Try.cfg.fc 122) k 122 91 [] f122T { nt := 91, tmps := [(1, .ptr (.loc 1) 0), (3, .int .i64 (.ofNat x.ls.length)), (24, .bool false)], locs := [(1, cellsT x)], fix := [] } St.empty (fun e A S => match e with | .exit _ => False | _ => finish Try.cfg Try.f122 A S = some (.bool (nodeT x), St.empty)) := by
  have h8 : iEq x.k 8 = false := iEq_ne h3 rfl
  have hw := wt_eq x
  have e : nodeT x = (nmOk x && nuOk x && lvOk x) := by unfold nodeT; rw [hk, hall]; rfl
  rw [e]
  refine WOut.mk _ strEq ?_
  all_goals refine WCmp.mk (fun _ => ?_) (fun _ => ?_)
  all_goals refine WCmp.sym ?_
  all_goals refine WCmp.no h1 ?_
  all_goals refine WCmp.no h2 ?_
  all_goals refine WCmp.yes h3 ?_
  all_goals repeat' first
    | refine WCmp.mk (fun _ => ?_) (fun _ => ?_)
    | refine WCall.mkB (r130_ok (n + 5) x.s _ hs.2 (by omega)) (fun _ => ?_) (fun _ => ?_)
  all_goals exact rfB (by simp_all only [nmOk, nuOk, lvOk, Bool.not_false, Bool.not_true, Bool.or_false, Bool.false_or, Bool.true_or, Bool.or_true, cond_true, cond_false, Bool.and_true, Bool.true_and, Bool.and_false, Bool.false_and, Bool.not_eq_true', Bool.not_eq_false'])

theorem r122_k8 (n k : Nat) (x : Tm) (hs : SmN x) (hn : wt x < n + 6) (hk : (!iLt (kidsF x.k) 0 && iEq (.ofNat (lenN (encTs x.ts))) (kidsF x.k)) = true) (hall : x.ls.all mayF = true) (h1 : iEq x.k 1 = false) (h2 : iEq x.k 2 = false) (h3 : iEq x.k 3 = false) (h8 : iEq x.k 8 = true) :
    wCode Try.cfg (run Try.cfg (n + 6)) (Try.cfg.fc 122) k 122 91 [] f122T { nt := 91, tmps := [(1, .ptr (.loc 1) 0), (3, .int .i64 (.ofNat x.ls.length)), (24, .bool false)], locs := [(1, cellsT x)], fix := [] } St.empty (fun e A S => match e with | .exit _ => False | _ => finish Try.cfg Try.f122 A S = some (.bool (nodeT x), St.empty)) := by
  have hw := wt_eq x
  have e : nodeT x = (nmOk x && nuOk x && lvOk x) := by unfold nodeT; rw [hk, hall]; rfl
  rw [e]
  refine WOut.mk _ strEq ?_
  all_goals refine WCmp.sym ?_
  all_goals refine WCmp.mk (fun _ => ?_) (fun _ => ?_)
  all_goals refine WCmp.no h1 ?_
  all_goals refine WCmp.no h2 ?_
  all_goals refine WCmp.no h3 ?_
  all_goals refine WCmp.yes h8 ?_
  all_goals repeat' first
    | refine WCmp.mk (fun _ => ?_) (fun _ => ?_)
    | refine WCall.mkB (r130_ok (n + 5) x.s _ hs.2 (by omega)) (fun _ => ?_) (fun _ => ?_)
  all_goals exact rfB (by simp_all only [nmOk, nuOk, lvOk, Bool.not_false, Bool.not_true, Bool.or_false, Bool.false_or, Bool.true_or, Bool.or_true, cond_true, cond_false, Bool.and_true, Bool.true_and, Bool.and_false, Bool.false_and, Bool.not_eq_true', Bool.not_eq_false'])

theorem r122_k0 (n k : Nat) (x : Tm) (hs : SmN x) (hn : wt x < n + 6) (hk : (!iLt (kidsF x.k) 0 && iEq (.ofNat (lenN (encTs x.ts))) (kidsF x.k)) = true) (hall : x.ls.all mayF = true) (h1 : iEq x.k 1 = false) (h2 : iEq x.k 2 = false) (h3 : iEq x.k 3 = false) (h8 : iEq x.k 8 = false) :
    wCode Try.cfg (run Try.cfg (n + 6)) (Try.cfg.fc 122) k 122 91 [] f122T { nt := 91, tmps := [(1, .ptr (.loc 1) 0), (3, .int .i64 (.ofNat x.ls.length)), (24, .bool false)], locs := [(1, cellsT x)], fix := [] } St.empty (fun e A S => match e with | .exit _ => False | _ => finish Try.cfg Try.f122 A S = some (.bool (nodeT x), St.empty)) := by
  have hw := wt_eq x
  have e : nodeT x = (nmOk x && nuOk x && lvOk x) := by unfold nodeT; rw [hk, hall]; rfl
  rw [e]
  refine WOut.mkB strEq (fun _ => ?_) (fun _ => ?_)
  all_goals refine WCmp.mk (fun _ => ?_) (fun _ => ?_)
  all_goals refine WCmp.mk (fun _ => ?_) (fun _ => ?_)
  all_goals refine WCmp.no h1 ?_
  all_goals refine WCmp.no h2 ?_
  all_goals refine WCmp.no h3 ?_
  all_goals refine WCmp.no h8 ?_
  all_goals repeat' first
    | refine WCmp.mk (fun _ => ?_) (fun _ => ?_)
    | refine WCall.mkB (r130_ok (n + 5) x.s _ hs.2 (by omega)) (fun _ => ?_) (fun _ => ?_)
  all_goals exact rfB (by simp_all only [nmOk, nuOk, lvOk, Bool.not_false, Bool.not_true, Bool.or_false, Bool.false_or, Bool.true_or, Bool.or_true, cond_true, cond_false, Bool.and_true, Bool.true_and, Bool.and_false, Bool.false_and, Bool.not_eq_true', Bool.not_eq_false'])

theorem r122_frame (n : Nat) (x : Tm) (hs : SmN x) (hn : wt x < n + 6) : frame Try.cfg (run Try.cfg (n + 6)) (n + 6) 122 [encA x] St.empty = some (.bool (nodeT x), St.empty) := by
  have hw := wt_eq x
  refine frame_of Try.cfg _ (fn := Try.f122) rfl rfl ?_
  refine WCall.mk _ _ (r129_ok (n + 5) x.k _) ?_
  refine WCmp.mk (fun hk => ?_) (fun hk => ?_)
  · exact rfB (by simp [nodeT, hk])
  refine WCall.mk _ _ (r129_ok (n + 5) x.k _) ?_
  refine WCmp.mk (fun hk2 => ?_) (fun hk2 => ?_)
  · exact rfB (by simp only [Bool.not_eq_true'] at hk2; simp only [nodeT, hk, hk2, Bool.and_false, Bool.false_and])
  have hkk : (!iLt (kidsF x.k) 0 && iEq (.ofNat (lenN (encTs x.ts))) (kidsF x.k)) = true := by simp only [Bool.not_eq_false'] at hk2; rw [hk, hk2]; rfl
  refine r122_by n (n + 6) x hs.1 _ _ x.ls 0 (n + 6) (by omega) (fun i => by rw [Nat.zero_add]) (by rw [Nat.zero_add]) (fun hall => ?_) (fun hall => ?_)
  · cases h1 : iEq x.k 1 with
    | true => exact r122_k1 n (n + 6) x hs hn hkk hall h1
    | false =>
    cases h2 : iEq x.k 2 with
    | true => exact r122_k2 n (n + 6) x hs hn hkk hall h1 h2
    | false =>
    cases h3 : iEq x.k 3 with
    | true => exact r122_k3 n (n + 6) x hs hn hkk hall h1 h2 h3
    | false =>
    cases h8 : iEq x.k 8 with
    | true => exact r122_k8 n (n + 6) x hs hn hkk hall h1 h2 h3 h8
    | false => exact r122_k0 n (n + 6) x hs hn hkk hall h1 h2 h3 h8
  · exact rfB (by simp only [nodeT, hall, Bool.and_false, Bool.false_and])

theorem r122_ok (n : Nat) (x : Tm) (S : St) (hs : SmN x) (hn : wt x < n + 6) : run Try.cfg (n + 7) (.f 122) [encA x] S = some (.bool (nodeT x), S) := run_tm (r122_frame n x hs hn) (by simp only [strips_t, strips_nil]) rfl rfl rfl rfl rfl

/-! ### May -/

mutual
def Sm : Tm → Prop
  | .mk _ _ s _ _ _ _ ls ts => (ls.length ≤ 9223372036854775807 ∧ s.length ≤ 9223372036854775807) ∧ Sms ts
def Sms : List Tm → Prop
  | [] => True
  | t :: ts => Sm t ∧ Sms ts
end
theorem Sms_iff (ts : List Tm) : Sms ts ↔ ∀ y ∈ ts, Sm y := by
  induction ts with
  | nil => rw [Sms]; simp
  | cons t ts ih => rw [Sms, ih]; simp
theorem Sm_iff (x : Tm) : Sm x ↔ SmN x ∧ ∀ y ∈ x.ts, Sm y := by cases x; rw [Sm, Sms_iff]; rfl

noncomputable def f102L : Code := loopN Try.f102 0

theorem r102_by (n k : Nat) (x : Tm) (d : Nat) (hd : d < 1000000) (S : St) (K : Ex → Env → St → Prop)
    (hrec : ∀ y ∈ x.ts, ∀ l, l < 1000000 → run Try.cfg n (.f 102) [encA y, .int .i64 (.ofNat l), .int .i64 (.ofNat d)] S = some (encO (scanT nodeT y l d), S)) :
    ∀ (rem : List Tm) (j f l : Nat), rem.length < f → (∀ i, rem[i]? = x.ts[j + i]?) → j + rem.length = x.ts.length → l < 1000000 → j < 1000000 → l + j < 1000000 →
    (match scanTs nodeT rem l d with
      | some l' => K (.exit 0) { nt := 40, tmps := [(1, .int .i64 (.ofNat l')), (2, .int .i64 (.ofNat (d + 1))), (3, .ptr (.loc 3) 0), (7, .int .i64 (.ofNat x.ts.length)), (25, .bool false)], locs := [(3, cellsT x)], fix := [] } S
      | none => K .ret { nt := 40, tmps := [(6, .int .i64 (-1))], locs := [(3, cellsT x)], fix := [] } S) →
    WCode (iter (evalCode Try.cfg (run Try.cfg n) k 102 (Try.cfg.fc 102) f102L) f { nt := 40, tmps := [(1, .int .i64 (.ofNat l)), (2, .int .i64 (.ofNat (d + 1))), (3, .ptr (.loc 3) 0), (7, .int .i64 (.ofNat j))], locs := [(3, cellsT x)], fix := [] } S) K
  | [], j, f + 1, l, hf, hr, hj, hl, _, _, hK => by
    have hjl : j = x.ts.length := by simpa using hj
    subst hjl
    refine WCode.round (nt := 40) (fx := []) ?_
    refine WCmp.no (geLen (by omega)) ?_
    rw [scanTs] at hK
    exact hK
  | y :: rem, j, f + 1, l, hf, hr, hj, hl, hj2, hlj, hK => by
    have hb : x.ts[j]? = some y := by have := hr 0; simpa using this.symm
    have hjl : j < x.ts.length := (List.getElem?_eq_some_iff.1 hb).1
    have hy := hrec y (List.mem_of_getElem? hb) l hl
    refine WCode.round (nt := 40) (fx := []) ?_
    refine WCmp.yes (ltLen hjl) ?_
    refine WOut.mk _ (index44 hb) ?_
    refine WOut.mk _ (subOne (by omega)) ?_
    rw [scanTs_cons] at hK
    cases hs : scanT nodeT y l d with
    | none =>
      rw [hs] at hK hy
      refine WCall.mk _ _ hy ?_
      refine WCmp.yes rfl ?_
      exact hK
    | some l' =>
      rw [hs] at hK hy
      have := scan_le _ _ hs
      refine WCall.mk _ _ hy ?_
      refine WCmp.no rfl ?_
      refine WOut.mk _ (addOne (by omega)) ?_
      exact r102_by n k x d hd S K hrec rem (j + 1) f l' (by simp only [List.length_cons] at hf; omega) (fun i => by have := hr (i + 1); simp only [List.getElem?_cons_succ] at this; rw [this]; congr 1; omega) (by simp only [List.length_cons] at hj; omega) (by omega) (by omega) (by omega) hK

theorem r102_frame (n : Nat) (x : Tm) (l d : Nat) (hl : l < 1000000) (hd : d < 1000000) (hsm : Sm x) (hn : wt x < n + 1)
    (hrec : ∀ y ∈ x.ts, ∀ l d, l < 1000000 → d < 1000000 → run Try.cfg (n + 7) (.f 102) [encA y, .int .i64 (.ofNat l), .int .i64 (.ofNat d)] St.empty = some (encO (scanT nodeT y l d), St.empty)) :
    frame Try.cfg (run Try.cfg (n + 7)) (n + 7) 102 [encA x, .int .i64 (.ofNat l), .int .i64 (.ofNat d)] St.empty = some (encO (scanT nodeT x l d), St.empty) := by
  have hn2 : x.ts.length < n + 7 := by have := wts_len x.ts; rw [wt_eq] at hn; omega
  refine frame_of Try.cfg _ (fn := Try.f102) rfl rfl ?_
  rw [scanT_eq]
  cases l with
  | zero => refine WOut.mk _ rfl ?_; refine WCmp.yes rfl ?_; rfl
  | succ l =>
  refine WOut.mk _ (subOne (by omega)) ?_
  refine WCmp.no rfl ?_
  cases d with
  | zero => refine WCmp.yes rfl ?_; rfl
  | succ d =>
  refine WCmp.no rfl ?_
  simp only
  refine WCall.mkB (r122_ok n x _ ((Sm_iff x).1 hsm).1 (by omega)) (fun hq => ?_) (fun hq => ?_)
  · rw [hq]
    refine r102_by (n + 7) (n + 7) x d (by omega) _ _ (fun y hy l hl => hrec y hy l d hl (by omega)) x.ts 0 (n + 7) l hn2 (fun i => by rw [Nat.zero_add]) (by rw [Nat.zero_add]) (by omega) (by omega) (by omega) ?_
    cases hs : scanTs nodeT x.ts l d <;> rfl
  · rw [hq]
    rfl

theorem r102_ok : ∀ (n : Nat) (x : Tm) (l d : Nat) (S : St), l < 1000000 → d < 1000000 → Sm x → wt x < n → run Try.cfg (n + 7) (.f 102) [encA x, .int .i64 (.ofNat l), .int .i64 (.ofNat d)] S = some (encO (scanT nodeT x l d), S)
  | 0, x, l, d, S, _, _, _, h => by omega
  | n + 1, x, l, d, S, hl, hd, hsm, h => by
    have := r102_frame n x l d hl hd hsm h (fun y hy l d hl hd => r102_ok n y l d _ hl hd (((Sm_iff x).1 hsm).2 y hy) (by have := wt_kid hy; omega))
    cases hs : scanT nodeT x l d with
    | none => rw [hs] at this; exact run_tm this (by simp only [strips_t, strips_i, strips_nil]) rfl rfl rfl rfl rfl
    | some l' => rw [hs] at this; exact run_tm this (by simp only [strips_t, strips_i, strips_nil]) rfl rfl rfl rfl rfl

/-- May a term be? -/
noncomputable def mayT (x : Tm) : Bool := (scanT nodeT x 65536 4096).isSome

theorem r55_frame (n : Nat) (x : Tm) (hsm : Sm x) (h : wt x < n) : frame Try.cfg (run Try.cfg (n + 7)) (n + 7) 55 [encA x] St.empty = some (.bool (mayT x), St.empty) := by
  refine frame_of Try.cfg _ (fn := Try.f55) rfl rfl ?_
  have := r102_ok n x 65536 4096 St.empty (by omega) (by omega) hsm h
  unfold mayT
  cases hs : scanT nodeT x 65536 4096 with
  | none => rw [hs] at this; refine WCall.mk _ _ this ?_; refine WCmp.no rfl ?_; rfl
  | some l => rw [hs] at this; refine WCall.mk _ _ this ?_; refine WCmp.yes rfl ?_; rfl

theorem r55_ok (n : Nat) (x : Tm) (S : St) (hsm : Sm x) (h : wt x < n) : run Try.cfg (n + 8) (.f 55) [encA x] S = some (.bool (mayT x), S) := run_tm (r55_frame n x hsm h) (by simp only [strips_t, strips_nil]) rfl rfl rfl rfl rfl

end Go.Ev

/- Terms: the package's Name, node (own work). -/
namespace Go.Ev
open Go.Proofs
set_option maxRecDepth 100000
set_option linter.unusedSimpArgs false
set_option linter.unusedVariables false

theorem iEq_comm {a b : Int} : iEq a b = iEq b a := by rw [iEq_eq, iEq_eq]; simp only [eq_comm]

noncomputable def k2F (k : Int) : Int := bif iLt (kidsF k) 0 then 0 else kidsF k

theorem frame_some {C : Cfg} {R : Run} {k id : Nat} {args : List V} {S : St} {fn : Func} {c : Code} {p : V × St → Prop} (hf : C.fn id = some fn) (hc : fn.body = some c)
    (h : wCode C R (C.fc id) k id fn.ntmps [] c { nt := fn.ntmps, tmps := number 0 args, locs := [], fix := [] } S fun e A S => match e with | .exit _ => False | _ => ∃ r, finish C fn A S = some r ∧ p r) :
    ∃ r, frame C R k id args S = some r ∧ p r := by
  obtain ⟨e, A, S', h1, h3⟩ := wCode_imp C R (C.fc id) c h
  unfold frame
  simp only [hf, hc, h1]
  unfold finish at h3
  cases e with
  | exit i => exact h3.elim
  | normal => exact h3
  | ret => exact h3

theorem rfT {S : St} {a c : Int} {b d : Bool} (h : a = c) (h2 : b = d) : some (V.tuple [.int .i64 a, .bool b], S) = some (V.tuple [.int .i64 c, .bool d], S) := by rw [h, h2]

theorem f123_frame (n : Nat) (k : Int) : frame Try.cfg (run Try.cfg n) n 123 [.int .u8 k] St.empty = some (.tuple [.int .i64 (k2F k), .bool (!iLt (kidsF k) 0)], St.empty) := by
  refine frame_of Try.cfg _ (fn := Try.f123) rfl rfl ?_
  cases h7 : iEq k 7 with
  | true =>
    have h1 : iEq k 1 = false := iEq_ne h7 rfl
    have h2 : iEq k 2 = false := iEq_ne h7 rfl
    have h3 : iEq k 3 = false := iEq_ne h7 rfl
    have h4 : iEq k 4 = false := iEq_ne h7 rfl
    have h5 : iEq k 5 = false := iEq_ne h7 rfl
    have h6 : iEq k 6 = false := iEq_ne h7 rfl
    have e : kidsF k = 3 := by simp [kidsF, *]
    refine WCmp.yes h7 ?_
    refine WOut.mk _ rfl ?_
    refine WOut.mk _ rfl ?_
    refine WOut.mk _ rfl ?_
    exact rfT (by simp only [k2F, e]; rfl) (by rw [e]; rfl)
  | false =>
  refine WCmp.no h7 ?_
  cases h456 : (iEq k 4 || iEq k 5 || iEq k 6) with
  | true =>
    have h123 : (iEq k 1 || iEq k 2 || iEq k 3) = false := by
      simp only [Bool.or_eq_true] at h456
      rcases h456 with (h | h) | h <;> simp [iEq_ne h (c := 1) rfl, iEq_ne h (c := 2) rfl, iEq_ne h (c := 3) rfl]
    have e : kidsF k = 2 := by unfold kidsF; rw [h123, h456]; rfl
    repeat' (refine WCmp.mk (fun _ => ?_) (fun _ => ?_))
    all_goals first
      | (refine WOut.mk _ rfl ?_; refine WOut.mk _ rfl ?_; exact rfT (by simp only [k2F, e]; rfl) (by rw [e]; rfl))
      | (exfalso; simp_all)
  | false =>
    simp only [Bool.or_eq_false_iff] at h456
    refine WCmp.no h456.1.1 ?_
    refine WCmp.no h456.1.2 ?_
    refine WCmp.no h456.2 ?_
    refine WCmp.mk (fun h8 => ?_) (fun h8 => ?_)
    · have h1 : iEq k 1 = false := iEq_ne h8 rfl
      have h2 : iEq k 2 = false := iEq_ne h8 rfl
      have h3 : iEq k 3 = false := iEq_ne h8 rfl
      have e : kidsF k = 1 := by simp [kidsF, *]
      refine WOut.mk _ rfl ?_
      exact rfT (by simp only [k2F, e]; rfl) (by rw [e]; rfl)
    · repeat' (refine WCmp.mk (fun _ => ?_) (fun _ => ?_))
      all_goals first
        | (have e : kidsF k = 0 := by simp [kidsF, *]
           exact rfT (by simp only [k2F, e]; rfl) (by rw [e]; rfl))
        | (have e : kidsF k = -1 := by simp [kidsF, *]
           exact rfT (by simp only [k2F, e]; rfl) (by rw [e]; rfl))

theorem f123_ok (n : Nat) (k : Int) (S : St) : run Try.cfg (n + 1) (.f 123) [.int .u8 k] S = some (.tuple [.int .i64 (k2F k), .bool (!iLt (kidsF k) 0)], S) := run_val (f123_frame n k) rfl rfl rfl rfl rfl

theorem mapN_len {α β : Type} (f : α → β) (l : List α) : lenN (mapN f l) = l.length := by rw [mapN_eq, lenN_eq, List.length_map]

theorem index130 {s : List UInt8} {j : Nat} {b : UInt8} (h : s[j]? = some b) : indexAddr Try.cfg 130 (.list 1 .no 0 (mapN byteRow s)) (.int .i64 (.ofNat j)) = some (.imm 0 [.int .u8 (.ofNat b.toNat)]) := by
  have hj : j < s.length := (List.getElem?_eq_some_iff.1 h).1
  show (match below (.int .i64 (.ofNat j)) (lenN (mapN byteRow s)) with
    | some i => match nth (mapN byteRow s) i with
      | some r => bif Nat.beq 1 1 then some (V.imm 0 r.cells) else none
      | none => none
    | none => none) = _
  rw [mapN_len, below_of hj]
  simp only
  rw [nth_eq, mapN_eq, List.getElem?_map, h]
  rfl

noncomputable def f126L : Code := loopN Try.f126 0

theorem f126_by (R : Run) (k : Nat) (s : List UInt8) (hs : s.length ≤ 9223372036854775807) (S : St) (K : Ex → Env → St → Prop) :
    ∀ (rem : List UInt8) (j f : Nat), rem.length < f → (∀ i, rem[i]? = s[j + i]?) → j + rem.length = s.length →
    (rem.all chB = true → K (.exit 0) { nt := 46, tmps := [(0, .str s), (6, .list 1 .no 0 (mapN byteRow s)), (7, .int .i64 (.ofNat (lenN (mapN byteRow s)))), (8, .int .i64 (.ofNat s.length)), (9, .bool false)], locs := [], fix := [] } S) →
    (rem.all chB = false → K .ret { nt := 46, tmps := [(2, .bool false)], locs := [], fix := [] } S) →
    WCode (iter (evalCode Try.cfg R k 126 (Try.cfg.fc 126) f126L) f { nt := 46, tmps := [(0, .str s), (6, .list 1 .no 0 (mapN byteRow s)), (7, .int .i64 (.ofNat (lenN (mapN byteRow s)))), (8, .int .i64 (.ofNat j))], locs := [], fix := [] } S) K
  | [], j, f + 1, hf, hr, hj, hK, _ => by
    have hjl : j = s.length := by simpa using hj
    subst hjl
    refine WCode.round (nt := 46) (fx := []) ?_
    refine WCmp.no (by rw [mapN_len]; exact blt_no (by omega)) ?_
    exact hK rfl
  | b :: rem, j, f + 1, hf, hr, hj, hK, hN => by
    have hb : s[j]? = some b := by have := hr 0; simpa using this.symm
    have hjl : j < s.length := (List.getElem?_eq_some_iff.1 hb).1
    have hno : chC (.ofNat b.toNat) = false → K .ret { nt := 46, tmps := [(2, .bool false)], locs := [], fix := [] } S := fun h => hN (by simp only [List.all_cons, chB, h, Bool.false_and])
    have hyes : chC (.ofNat b.toNat) = true → WCode (iter (evalCode Try.cfg R k 126 (Try.cfg.fc 126) f126L) f { nt := 46, tmps := [(0, .str s), (6, .list 1 .no 0 (mapN byteRow s)), (7, .int .i64 (.ofNat (lenN (mapN byteRow s)))), (8, .int .i64 (.ofNat (j + 1)))], locs := [], fix := [] } S) K := fun h =>
      f126_by R k s hs S K rem (j + 1) f (by simp only [List.length_cons] at hf; omega) (fun i => by have := hr (i + 1); simp only [List.getElem?_cons_succ] at this; rw [this]; congr 1; omega) (by simp only [List.length_cons] at hj; omega) (fun h2 => hK (by simp only [List.all_cons, chB, h, h2, Bool.and_self])) (fun h2 => hN (by simp only [List.all_cons, chB, h, h2, Bool.and_false]))
    clear hK hN
    refine WCode.round (nt := 46) (fx := []) ?_
    refine WCmp.yes (by rw [mapN_len]; exact blt_yes hjl) ?_
    refine WOut.mk _ (index130 hb) ?_
    repeat' (refine WCmp.mk (fun _ => ?_) (fun _ => ?_))
    all_goals first
      | exact hno (by simp only [chC, *]; rfl)
      | (refine WOut.mk _ (addOne (T := 3) (j := j) (by omega)) ?_; exact hyes (by simp only [chC, *]; rfl))

theorem f126_frame (n : Nat) (s : List UInt8) (hs : s.length ≤ 9223372036854775807) (hn : s.length < n) : frame Try.cfg (run Try.cfg n) n 126 [.str s] St.empty = some (.bool (nameT s), St.empty) := by
  refine frame_of Try.cfg _ (fn := Try.f126) rfl rfl ?_
  refine f126_by _ n s hs _ _ s 0 n hn (fun i => by rw [Nat.zero_add]) (by rw [Nat.zero_add]) (fun h => ?_) (fun h => ?_)
  · refine WOut.mkB strNe (fun h2 => ?_) (fun h2 => ?_)
    · have e : iLt (.ofNat (lenN s)) 1 = false := by
        cases s with
        | nil => simp at h2
        | cons c s => show Nat.blt (lenN (c :: s)) 1 = false; exact blt_no (by rw [lenN_eq, List.length_cons]; omega)
      repeat' (refine WCmp.mk (fun _ => ?_) (fun _ => ?_))
      all_goals exact rfB (by simp_all [nameT])
    · have e : s = [] := by simpa using h2
      subst e
      exact rfB rfl
  · exact rfB (by simp [nameT, h])

theorem f126_ok (n : Nat) (s : List UInt8) (S : St) (hs : s.length ≤ 9223372036854775807) (hn : s.length < n) : run Try.cfg (n + 1) (.f 126) [.str s] S = some (.bool (nameT s), S) := run_val (f126_frame n s hs hn) rfl rfl rfl rfl rfl

/-! ### ContainsFunc -/

theorem f125_ok (n : Nat) (l : Lv) (S : St) : run Try.cfg (n + 9) (.f 125) [enc l] S = some (.bool (!mayF l), S) := by
  have : frame Try.cfg (run Try.cfg (n + 8)) (n + 8) 125 [enc l] St.empty = some (.bool (!mayF l), St.empty) := by
    refine frame_of Try.cfg _ (fn := Try.f125) rfl rfl ?_
    refine WCall.mkB (f26_ok n l _) (fun h => ?_) (fun h => ?_)
    · rw [h]; rfl
    · rw [h]; rfl
  exact run_val this rfl rfl rfl rfl rfl

noncomputable def f131L : Code := loopN Try.f131 0

theorem f131_by (n k : Nat) (ls : List Lv) (a : Bool) (tk : Tok) (hs : ls.length ≤ 9223372036854775807) (S : St) (K : Ex → Env → St → Prop) :
    ∀ (rem : List Lv) (j f : Nat) (o : Option V), rem.length < f → (∀ i, rem[i]? = ls[j + i]?) → j + rem.length = ls.length →
    (rem.all mayF = true → K (.exit 0) { nt := 19, tmps := [(0, .list (szOf a ls) tk 0 (ls.map enc)), (1, .fn 125 0 [] []), (7, .int .i64 (.ofNat (lenN (ls.map enc)))), (8, .int .i64 (.ofNat ls.length)), (9, .bool false)], locs := [], fix := [] } S) →
    (rem.all mayF = false → ∀ i : Nat, K .ret { nt := 19, tmps := [(4, .int .i64 (.ofNat i))], locs := [], fix := [] } S) →
    WCode (iter (evalCode Try.cfg (run Try.cfg (n + 9)) k 131 (Try.cfg.fc 131) f131L) f { nt := 19, tmps := [(0, .list (szOf a ls) tk 0 (ls.map enc)), (1, .fn 125 0 [] []), (7, .int .i64 (.ofNat (lenN (ls.map enc)))), (8, .int .i64 (.ofNat j))], locs := [], fix := [] } S) K
  | [], j, f + 1, o, hf, hr, hj, hK, _ => by
    have hjl : j = ls.length := by simpa using hj
    subst hjl
    refine WCode.round (nt := 19) (fx := []) ?_
    refine WCmp.no (geLenL (by omega)) ?_
    exact hK rfl
  | b :: rem, j, f + 1, o, hf, hr, hj, hK, hN => by
    have hb : ls[j]? = some b := by have := hr 0; simpa using this.symm
    have hjl : j < ls.length := (List.getElem?_eq_some_iff.1 hb).1
    refine WCode.round (nt := 19) (fx := []) ?_
    refine WCmp.yes (ltLenL hjl) ?_
    refine WOut.mk _ (index25' hb) ?_
    refine WCall.mkB (f125_ok n b _) (fun h => ?_) (fun h => ?_)
    · exact hN (by simp only [Bool.not_eq_true'] at h; simp only [List.all_cons, h, Bool.false_and]) j
    · simp only [Bool.not_eq_false'] at h
      refine WOut.mk _ (addOne (T := 3) (j := j) (by omega)) ?_
      exact f131_by n k ls a tk hs S K rem (j + 1) f none (by simp only [List.length_cons] at hf; omega) (fun i => by have := hr (i + 1); simp only [List.getElem?_cons_succ] at this; rw [this]; congr 1; omega) (by simp only [List.length_cons] at hj; omega) (fun h2 => hK (by simp only [List.all_cons, h, h2, Bool.and_self])) (fun h2 => hN (by simp only [List.all_cons, h, h2, Bool.and_false]))

theorem f124_ok (n : Nat) (ls : List Lv) (a b : Bool) (hs : ls.length ≤ 9223372036854775807) (hn : ls.length < n + 9) (S : St) :
    run Try.cfg (n + 11) (.f 124) [.list (szOf a ls) (tkOf b) 0 (ls.map enc), .fn 125 0 [] []] S = some (.bool (!ls.all mayF), S) := by
  have h131 : ∃ i : Nat, run Try.cfg (n + 10) (.f 131) [.list (szOf a ls) (tkOf b) 0 (ls.map enc), .fn 125 0 [] []] St.empty = some (.int .i64 (bif ls.all mayF then -1 else .ofNat i), St.empty) := by
    have key : ∃ i : Nat, frame Try.cfg (run Try.cfg (n + 9)) (n + 9) 131 [.list (szOf a ls) (tkOf b) 0 (ls.map enc), .fn 125 0 [] []] St.empty = some (.int .i64 (bif ls.all mayF then -1 else .ofNat i), St.empty) := by
      cases hall : ls.all mayF with
      | true =>
        refine ⟨0, ?_⟩
        refine frame_of Try.cfg _ (fn := Try.f131) rfl rfl ?_
        refine f131_by n _ ls a (tkOf b) hs _ _ ls 0 (n + 9) none hn (fun i => by rw [Nat.zero_add]) (by rw [Nat.zero_add]) (fun h => ?_) (fun h => ?_)
        · rfl
        · rw [hall] at h; cases h
      | false =>
        obtain ⟨r, h, i, rfl⟩ := frame_some (C := Try.cfg) (R := run Try.cfg (n + 9)) (k := n + 9) (id := 131) (args := [.list (szOf a ls) (tkOf b) 0 (ls.map enc), .fn 125 0 [] []]) (S := St.empty) (fn := Try.f131) (p := fun r => ∃ i : Nat, r = (.int .i64 (.ofNat i), St.empty)) rfl rfl (by
          refine f131_by n _ ls a (tkOf b) hs _ _ ls 0 (n + 9) none hn (fun i => by rw [Nat.zero_add]) (by rw [Nat.zero_add]) (fun h => ?_) (fun h i => ?_)
          · rw [hall] at h; cases h
          · exact ⟨_, rfl, i, rfl⟩)
        exact ⟨i, h⟩
    obtain ⟨i, key⟩ := key
    exact ⟨i, run_tm key (by simp only [strips_ts]; rfl) rfl rfl rfl rfl rfl⟩
  obtain ⟨i, h131⟩ := h131
  have : frame Try.cfg (run Try.cfg (n + 10)) (n + 10) 124 [.list (szOf a ls) (tkOf b) 0 (ls.map enc), .fn 125 0 [] []] St.empty = some (.bool (!ls.all mayF), St.empty) := by
    refine frame_of Try.cfg _ (fn := Try.f124) rfl rfl ?_
    cases hall : ls.all mayF with
    | true => rw [hall] at h131; refine WCall.mk _ _ h131 ?_; refine WCmp.no rfl ?_; rfl
    | false => rw [hall] at h131; refine WCall.mk _ _ h131 ?_; refine WCmp.yes rfl ?_; rfl
  exact run_tm this (by simp only [strips_ts]; rfl) rfl rfl rfl rfl rfl

end Go.Ev

/- Terms: the package's May, Size (own work). -/
namespace Go.Ev
open Go.Proofs
set_option maxRecDepth 100000
set_option linter.unusedSimpArgs false
set_option linter.unusedVariables false

noncomputable def tailN : Nat → Code → Code
  | 0, c => c
  | n + 1, .seq _ b => tailN n b
  | _ + 1, c => c

noncomputable def f115T : Code := tailN 3 (Try.f115.body.getD .skip)

theorem f115_k1 (n k : Nat) (x : Tm) (hs : SmN x) (hn : wt x < n + 9) (hk : (!iLt (kidsF x.k) 0 && iEq (.ofNat (lenN (encTs x.ts))) (kidsF x.k)) = true) (hall : x.ls.all mayF = true) (h1 : iEq x.k 1 = true) :
    wCode Try.cfg (run Try.cfg (n + 11)) (Try.cfg.fc 115) k 115 85 [] f115T { nt := 85, tmps := [(1, .ptr (.loc 1) 0), (27, .bool false)], locs := [(1, cellsT x)], fix := [] } St.empty (fun e A S => match e with | .exit _ => False | _ => finish Try.cfg Try.f115 A S = some (.bool (nodeT x), St.empty)) := by
  have h2 : iEq x.k 2 = false := iEq_ne h1 rfl
  have h3 : iEq x.k 3 = false := iEq_ne h1 rfl
  have h8 : iEq x.k 8 = false := iEq_ne h1 rfl
  have hw := wt_eq x
  have e : nodeT x = (nmOk x && nuOk x && lvOk x) := by unfold nodeT; rw [hk, hall]; rfl
  rw [e]
  refine WOut.mkB strEq (fun _ => ?_) (fun _ => ?_)
  all_goals refine WCmp.mk (fun _ => ?_) (fun _ => ?_)
  all_goals refine WCmp.sym ?_
  all_goals refine WCmp.yes h1 ?_
  all_goals repeat' first
    | refine WCmp.mk (fun _ => ?_) (fun _ => ?_)
    | refine WCall.mkB (f126_ok (n + 10) x.s _ hs.2 (by omega)) (fun _ => ?_) (fun _ => ?_)
  all_goals exact rfB (by simp_all only [nmOk, nuOk, lvOk, Bool.not_false, Bool.not_true, Bool.or_false, Bool.false_or, Bool.true_or, Bool.or_true, cond_true, cond_false, Bool.and_true, Bool.true_and, Bool.and_false, Bool.false_and, Bool.not_eq_true', Bool.not_eq_false'])

theorem f115_k2 (n k : Nat) (x : Tm) (hs : SmN x) (hn : wt x < n + 9) (hk : (!iLt (kidsF x.k) 0 && iEq (.ofNat (lenN (encTs x.ts))) (kidsF x.k)) = true) (hall : x.ls.all mayF = true) (h1 : iEq x.k 1 = false) (h2 : iEq x.k 2 = true) :
    wCode Try.cfg (run Try.cfg (n + 11)) (Try.cfg.fc 115) k 115 85 [] f115T { nt := 85, tmps := [(1, .ptr (.loc 1) 0), (27, .bool false)], locs := [(1, cellsT x)], fix := [] } St.empty (fun e A S => match e with | .exit _ => False | _ => finish Try.cfg Try.f115 A S = some (.bool (nodeT x), St.empty)) := by
  have h3 : iEq x.k 3 = false := iEq_ne h2 rfl
  have h8 : iEq x.k 8 = false := iEq_ne h2 rfl
  have hw := wt_eq x
  have e : nodeT x = (nmOk x && nuOk x && lvOk x) := by unfold nodeT; rw [hk, hall]; rfl
  rw [e]
  refine WOut.mkB strEq (fun _ => ?_) (fun _ => ?_)
  all_goals refine WCmp.sym ?_
  all_goals refine WCmp.mk (fun _ => ?_) (fun _ => ?_)
  all_goals refine WCmp.no h1 ?_
  all_goals refine WCmp.yes h2 ?_
  all_goals repeat' first
    | refine WCmp.mk (fun _ => ?_) (fun _ => ?_)
    | refine WCall.mkB (f126_ok (n + 10) x.s _ hs.2 (by omega)) (fun _ => ?_) (fun _ => ?_)
  all_goals exact rfB (by simp_all only [nmOk, nuOk, lvOk, Bool.not_false, Bool.not_true, Bool.or_false, Bool.false_or, Bool.true_or, Bool.or_true, cond_true, cond_false, Bool.and_true, Bool.true_and, Bool.and_false, Bool.false_and, Bool.not_eq_true', Bool.not_eq_false'])

theorem f115_k3 (n k : Nat) (x : Tm) (hs : SmN x) (hn : wt x < n + 9) (hk : (!iLt (kidsF x.k) 0 && iEq (.ofNat (lenN (encTs x.ts))) (kidsF x.k)) = true) (hall : x.ls.all mayF = true) (h1 : iEq x.k 1 = false) (h2 : iEq x.k 2 = false) (h3 : iEq x.k 3 = true) :
    wCode Try.cfg (run Try.cfg (n + 11)) (Try.cfg.fc 115) k 115 85 [] f115T { nt := 85, tmps := [(1, .ptr (.loc 1) 0), (27, .bool false)], locs := [(1, cellsT x)], fix := [] } St.empty (fun e A S => match e with | .exit _ => False | _ => finish Try.cfg Try.f115 A S = some (.bool (nodeT x), St.empty)) := by
  have h8 : iEq x.k 8 = false := iEq_ne h3 rfl
  have hw := wt_eq x
  have e : nodeT x = (nmOk x && nuOk x && lvOk x) := by unfold nodeT; rw [hk, hall]; rfl
  rw [e]
  refine WOut.mk _ strEq ?_
  all_goals refine WCmp.mk (fun _ => ?_) (fun _ => ?_)
  all_goals refine WCmp.sym ?_
  all_goals refine WCmp.no h1 ?_
  all_goals refine WCmp.no h2 ?_
  all_goals refine WCmp.yes h3 ?_
  all_goals repeat' first
    | refine WCmp.mk (fun _ => ?_) (fun _ => ?_)
    | refine WCall.mkB (f126_ok (n + 10) x.s _ hs.2 (by omega)) (fun _ => ?_) (fun _ => ?_)
  all_goals exact rfB (by simp_all only [nmOk, nuOk, lvOk, Bool.not_false, Bool.not_true, Bool.or_false, Bool.false_or, Bool.true_or, Bool.or_true, cond_true, cond_false, Bool.and_true, Bool.true_and, Bool.and_false, Bool.false_and, Bool.not_eq_true', Bool.not_eq_false'])

theorem f115_k8 (n k : Nat) (x : Tm) (hs : SmN x) (hn : wt x < n + 9) (hk : (!iLt (kidsF x.k) 0 && iEq (.ofNat (lenN (encTs x.ts))) (kidsF x.k)) = true) (hall : x.ls.all mayF = true) (h1 : iEq x.k 1 = false) (h2 : iEq x.k 2 = false) (h3 : iEq x.k 3 = false) (h8 : iEq x.k 8 = true) :
    wCode Try.cfg (run Try.cfg (n + 11)) (Try.cfg.fc 115) k 115 85 [] f115T { nt := 85, tmps := [(1, .ptr (.loc 1) 0), (27, .bool false)], locs := [(1, cellsT x)], fix := [] } St.empty (fun e A S => match e with | .exit _ => False | _ => finish Try.cfg Try.f115 A S = some (.bool (nodeT x), St.empty)) := by
  have hw := wt_eq x
  have e : nodeT x = (nmOk x && nuOk x && lvOk x) := by unfold nodeT; rw [hk, hall]; rfl
  rw [e]
  refine WOut.mk _ strEq ?_
  all_goals refine WCmp.sym ?_
  all_goals refine WCmp.mk (fun _ => ?_) (fun _ => ?_)
  all_goals refine WCmp.no h1 ?_
  all_goals refine WCmp.no h2 ?_
  all_goals refine WCmp.no h3 ?_
  all_goals refine WCmp.yes h8 ?_
  all_goals repeat' first
    | refine WCmp.mk (fun _ => ?_) (fun _ => ?_)
    | refine WCall.mkB (f126_ok (n + 10) x.s _ hs.2 (by omega)) (fun _ => ?_) (fun _ => ?_)
  all_goals exact rfB (by simp_all only [nmOk, nuOk, lvOk, Bool.not_false, Bool.not_true, Bool.or_false, Bool.false_or, Bool.true_or, Bool.or_true, cond_true, cond_false, Bool.and_true, Bool.true_and, Bool.and_false, Bool.false_and, Bool.not_eq_true', Bool.not_eq_false'])

theorem f115_k0 (n k : Nat) (x : Tm) (hs : SmN x) (hn : wt x < n + 9) (hk : (!iLt (kidsF x.k) 0 && iEq (.ofNat (lenN (encTs x.ts))) (kidsF x.k)) = true) (hall : x.ls.all mayF = true) (h1 : iEq x.k 1 = false) (h2 : iEq x.k 2 = false) (h3 : iEq x.k 3 = false) (h8 : iEq x.k 8 = false) :
    wCode Try.cfg (run Try.cfg (n + 11)) (Try.cfg.fc 115) k 115 85 [] f115T { nt := 85, tmps := [(1, .ptr (.loc 1) 0), (27, .bool false)], locs := [(1, cellsT x)], fix := [] } St.empty (fun e A S => match e with | .exit _ => False | _ => finish Try.cfg Try.f115 A S = some (.bool (nodeT x), St.empty)) := by
  have hw := wt_eq x
  have e : nodeT x = (nmOk x && nuOk x && lvOk x) := by unfold nodeT; rw [hk, hall]; rfl
  rw [e]
  refine WOut.mkB strEq (fun _ => ?_) (fun _ => ?_)
  all_goals refine WCmp.mk (fun _ => ?_) (fun _ => ?_)
  all_goals refine WCmp.mk (fun _ => ?_) (fun _ => ?_)
  all_goals refine WCmp.no h1 ?_
  all_goals refine WCmp.no h2 ?_
  all_goals refine WCmp.no h3 ?_
  all_goals refine WCmp.no h8 ?_
  all_goals repeat' first
    | refine WCmp.mk (fun _ => ?_) (fun _ => ?_)
    | refine WCall.mkB (f126_ok (n + 10) x.s _ hs.2 (by omega)) (fun _ => ?_) (fun _ => ?_)
  all_goals exact rfB (by simp_all only [nmOk, nuOk, lvOk, Bool.not_false, Bool.not_true, Bool.or_false, Bool.false_or, Bool.true_or, Bool.or_true, cond_true, cond_false, Bool.and_true, Bool.true_and, Bool.and_false, Bool.false_and, Bool.not_eq_true', Bool.not_eq_false'])

theorem f115_frame (n : Nat) (x : Tm) (hs : SmN x) (hn : wt x < n + 9) : frame Try.cfg (run Try.cfg (n + 11)) (n + 11) 115 [encA x] St.empty = some (.bool (nodeT x), St.empty) := by
  have hw := wt_eq x
  have h123 := f123_ok (n + 10) x.k St.empty
  refine frame_of Try.cfg _ (fn := Try.f115) rfl rfl ?_
  cases hk : iLt (kidsF x.k) 0 with
  | true =>
    rw [hk] at h123
    refine WCall.mk _ _ h123 ?_
    exact rfB (by simp only [nodeT, hk, Bool.not_true, Bool.false_and])
  | false =>
  rw [hk, show k2F x.k = kidsF x.k by unfold k2F; rw [hk]; rfl] at h123
  refine WCall.mk _ _ h123 ?_
  refine WCmp.mk (fun hk2 => ?_) (fun hk2 => ?_)
  · exact rfB (by simp only [Bool.not_eq_true'] at hk2; rw [iEq_comm] at hk2; simp only [nodeT, hk, hk2, Bool.and_false, Bool.false_and])
  have hkk : (!iLt (kidsF x.k) 0 && iEq (.ofNat (lenN (encTs x.ts))) (kidsF x.k)) = true := by simp only [Bool.not_eq_false'] at hk2; rw [iEq_comm] at hk2; rw [hk, hk2]; rfl
  refine WCall.mkB (f124_ok n x.ls x.a x.b hs.1 (by omega) _) (fun hall => ?_) (fun hall => ?_)
  · exact rfB (by simp only [Bool.not_eq_true'] at hall; simp only [nodeT, hall, Bool.and_false, Bool.false_and])
  · simp only [Bool.not_eq_false'] at hall
    cases h1 : iEq x.k 1 with
    | true => exact f115_k1 n (n + 11) x hs hn hkk hall h1
    | false =>
    cases h2 : iEq x.k 2 with
    | true => exact f115_k2 n (n + 11) x hs hn hkk hall h1 h2
    | false =>
    cases h3 : iEq x.k 3 with
    | true => exact f115_k3 n (n + 11) x hs hn hkk hall h1 h2 h3
    | false =>
    cases h8 : iEq x.k 8 with
    | true => exact f115_k8 n (n + 11) x hs hn hkk hall h1 h2 h3 h8
    | false => exact f115_k0 n (n + 11) x hs hn hkk hall h1 h2 h3 h8

theorem f115_ok (n : Nat) (x : Tm) (S : St) (hs : SmN x) (hn : wt x < n + 9) : run Try.cfg (n + 12) (.f 115) [encA x] S = some (.bool (nodeT x), S) := run_tm (f115_frame n x hs hn) (by simp only [strips_t, strips_nil]) rfl rfl rfl rfl rfl

/-! ### May -/

noncomputable def mayClo : V := .fn 114 2 [] [.ptr (.box 0) 0, .ptr (.box 1) 0]
noncomputable def maySt (l : Int) : St := { heap := [.cells 3 [.int .i64 l], .cells 87 [.fn 114 2 [] [.ptr (.box 0) 0, .ptr (.box 1) 0]]], toks := [] }

noncomputable def f114L : Code := loopN Try.f114 0

@[reducible] noncomputable def oneMore (d : Nat) : Option Tm → List (Nat × List V)
  | none => []
  | some z => [(d, cellsT z)]

theorem f114_by (n k : Nat) (x : Tm) (d : Nat) (hd : d < 1000000) (K : Ex → Env → St → Prop) (hlen : x.ts.length < 1000000)
    (hrec : ∀ y ∈ x.ts, ∀ l, l < 1000000 → ∃ l' : Int, (match scanT nodeT y l d with | some m => l' = .ofNat m | none => True) ∧
      run Try.cfg n (.f 114) [encA y, .int .i64 (.ofNat d), .ptr (.box 0) 0, .ptr (.box 1) 0] (maySt (.ofNat l)) = some (.bool (scanT nodeT y l d).isSome, maySt l')) :
    ∀ (rem : List Tm) (j f l : Nat) (o : Option Tm), rem.length < f → (∀ i, rem[i]? = x.ts[j + i]?) → j + rem.length = x.ts.length → l < 1000000 →
    (match scanTs nodeT rem l d with
      | some l' => ∀ o : Option Tm, K (.exit 0) { nt := 36, tmps := [(1, .int .i64 (.ofNat (d + 1))), (3, .ptr (.box 1) 0), (23, .list (szOf x.c x.ts) (tkOf x.d) 0 (encTs x.ts)), (24, .int .i64 (.ofNat (lenN (encTs x.ts)))), (25, .int .i64 (.ofNat x.ts.length)), (26, .bool false)], locs := (4, cellsT x) :: oneMore 8 o, fix := [] } (maySt (.ofNat l'))
      | none => ∀ (l : Int) (z : Tm), K .ret { nt := 36, tmps := [(6, .bool false)], locs := [(4, cellsT x), (8, cellsT z)], fix := [] } (maySt l)) →
    WCode (iter (evalCode Try.cfg (run Try.cfg n) k 114 (Try.cfg.fc 114) f114L) f { nt := 36, tmps := [(1, .int .i64 (.ofNat (d + 1))), (3, .ptr (.box 1) 0), (23, .list (szOf x.c x.ts) (tkOf x.d) 0 (encTs x.ts)), (24, .int .i64 (.ofNat (lenN (encTs x.ts)))), (25, .int .i64 (.ofNat j))], locs := (4, cellsT x) :: oneMore 8 o, fix := [] } (maySt (.ofNat l))) K
  | [], j, f + 1, l, o, hf, hr, hj, hl, hK => by
    have hjl : j = x.ts.length := by simpa using hj
    subst hjl
    rw [scanTs] at hK
    have hK := hK o
    cases o
    all_goals
      refine WCode.round (nt := 36) (fx := []) ?_
      refine WCmp.no (geLen (by omega)) ?_
      exact hK
  | y :: rem, j, f + 1, l, o, hf, hr, hj, hl, hK => by
    have hb : x.ts[j]? = some y := by have := hr 0; simpa using this.symm
    have hjl : j < x.ts.length := (List.getElem?_eq_some_iff.1 hb).1
    obtain ⟨l', hl1, hy⟩ := hrec y (List.mem_of_getElem? hb) l hl
    rw [scanTs_cons] at hK
    cases o
    all_goals
      refine WCode.round (nt := 36) (fx := []) ?_
      refine WCmp.yes (ltLen hjl) ?_
      refine WOut.mk _ (index44 hb) ?_
      refine WOut.mk _ (subOne (by omega)) ?_
      cases hs : scanT nodeT y l d with
      | none =>
        rw [hs] at hK hy
        refine WCall.mk _ _ hy ?_
        exact hK l' y
      | some m =>
        rw [hs] at hK hy hl1
        have := scan_le _ _ hs
        simp only at hl1
        subst hl1
        refine WCall.mk _ _ hy ?_
        refine WOut.mk _ (addOne (T := 3) (j := j) (by omega)) ?_
        exact f114_by n k x d hd K hlen hrec rem (j + 1) f m (some y) (by simp only [List.length_cons] at hf; omega) (fun i => by have := hr (i + 1); simp only [List.getElem?_cons_succ] at this; rw [this]; congr 1; omega) (by simp only [List.length_cons] at hj; omega) (by omega) hK

theorem kids_le {x : Tm} (h : nodeT x = true) : x.ts.length ≤ 3 := by
  unfold nodeT at h
  simp only [Bool.and_eq_true] at h
  have h1 := h.1.1.2
  rw [iEq_eq, decide_eq_true_eq, encTs_len] at h1
  have : kidsF x.k ≤ 3 := by
    unfold kidsF
    cases (iEq x.k 1 || iEq x.k 2 || iEq x.k 3) <;> cases (iEq x.k 4 || iEq x.k 5 || iEq x.k 6) <;> cases iEq x.k 7 <;> cases iEq x.k 8 <;> simp
  simp only [Int.ofNat_eq_natCast] at h1
  omega

theorem f114_frame (n : Nat) (x : Tm) (l d : Nat) (hl : l < 1000000) (hd : d < 1000000) (hsm : Sm x) (hn : wt x < n + 1)
    (hrec : ∀ y ∈ x.ts, ∀ l d, l < 1000000 → d < 1000000 → ∃ l' : Int, (match scanT nodeT y l d with | some m => l' = .ofNat m | none => True) ∧
      run Try.cfg (n + 12) (.f 114) [encA y, .int .i64 (.ofNat d), .ptr (.box 0) 0, .ptr (.box 1) 0] (maySt (.ofNat l)) = some (.bool (scanT nodeT y l d).isSome, maySt l')) :
    ∃ r, frame Try.cfg (run Try.cfg (n + 12)) (n + 12) 114 [encA x, .int .i64 (.ofNat d), .ptr (.box 0) 0, .ptr (.box 1) 0] (maySt (.ofNat l)) = some r ∧
      ∃ l' : Int, (match scanT nodeT x l d with | some m => l' = .ofNat m | none => True) ∧ r = (.bool (scanT nodeT x l d).isSome, maySt l') := by
  have hn2 : x.ts.length < n + 12 := by have := wts_len x.ts; rw [wt_eq] at hn; omega
  refine frame_some (fn := Try.f114) rfl rfl ?_
  rw [scanT_eq]
  cases l with
  | zero => refine WOut.mk _ rfl ?_; refine WCmp.yes rfl ?_; exact ⟨_, rfl, -1, trivial, rfl⟩
  | succ l =>
  refine WOut.mk _ (subOne (by omega)) ?_
  refine WCmp.no rfl ?_
  cases d with
  | zero => refine WCmp.yes rfl ?_; exact ⟨_, rfl, _, trivial, rfl⟩
  | succ d =>
  refine WCmp.no rfl ?_
  simp only
  refine WCall.mkB (f115_ok n x _ ((Sm_iff x).1 hsm).1 (by omega)) (fun hq => ?_) (fun hq => ?_)
  · rw [hq]
    have h3 := kids_le hq
    refine f114_by (n + 12) (n + 12) x d (by omega) _ (by omega) (fun y hy l hl => hrec y hy l d hl (by omega)) x.ts 0 (n + 12) l none hn2 (fun i => by rw [Nat.zero_add]) (by rw [Nat.zero_add]) (by omega) ?_
    cases hs : scanTs nodeT x.ts l d with
    | some l' => intro o; cases o <;> exact ⟨_, rfl, _, rfl, rfl⟩
    | none => exact fun l z => ⟨_, rfl, l, trivial, rfl⟩
  · rw [hq]
    exact ⟨_, rfl, _, trivial, rfl⟩

theorem f114_ok : ∀ (n : Nat) (x : Tm) (l d : Nat), l < 1000000 → d < 1000000 → Sm x → wt x < n → ∃ l' : Int, (match scanT nodeT x l d with | some m => l' = .ofNat m | none => True) ∧
      run Try.cfg (n + 12) (.f 114) [encA x, .int .i64 (.ofNat d), .ptr (.box 0) 0, .ptr (.box 1) 0] (maySt (.ofNat l)) = some (.bool (scanT nodeT x l d).isSome, maySt l')
  | 0, x, l, d, _, _, _, h => by omega
  | n + 1, x, l, d, hl, hd, hsm, h => by
    obtain ⟨r, h1, l', h2, rfl⟩ := f114_frame n x l d hl hd hsm h (fun y hy l d hl hd => f114_ok n y l d hl hd (((Sm_iff x).1 hsm).2 y hy) (by have := wt_kid hy; omega))
    exact ⟨l', h2, run_here rfl h1⟩

theorem f84_ok (n : Nat) (x : Tm) (S : St) (hsm : Sm x) (h : wt x < n) : run Try.cfg (n + 13) (.f 84) [encA x] S = some (.bool (mayT x), S) := by
  obtain ⟨l', _, h2⟩ := f114_ok n x 65536 4096 (by omega) (by omega) hsm h
  have : frame Try.cfg (run Try.cfg (n + 12)) (n + 12) 84 [encA x] St.empty = some (.bool (mayT x), maySt l') := by
    refine frame_of Try.cfg _ (fn := Try.f84) rfl rfl ?_
    refine WCall.mk _ _ h2 ?_
    rfl
  exact run_tm this (by simp only [strips_t, strips_nil]) rfl rfl rfl rfl rfl

end Go.Ev

/- Terms: the package's Size; appending to terms (own work). -/
namespace Go.Ev
open Go.Proofs
set_option maxRecDepth 100000
set_option linter.unusedSimpArgs false
set_option linter.unusedVariables false

theorem f127_ok (n : Nat) (x : Tm) (i : Int) (S : St) : run Try.cfg (n + 1) (.f 127) [encA x, .int .i64 i] S = some (.int .i64 (bindsF x.k i), S) := by
  have : frame Try.cfg (run Try.cfg n) n 127 [encA x, .int .i64 i] St.empty = some (.int .i64 (bindsF x.k i), St.empty) := by
    refine frame_of Try.cfg _ (fn := Try.f127) rfl rfl ?_
    repeat' (refine WCmp.mk (fun _ => ?_) (fun _ => ?_))
    all_goals exact rfI (by simp [bindsF, *])
  exact run_tm this (by simp only [strips_t, strips_i, strips_nil]) rfl rfl rfl rfl rfl

theorem f118_ok (n : Nat) (x : Tm) (i : Int) (S : St) : run Try.cfg (n + 1) (.f 118) [encA x, .int .i64 i] S = some (.int .i64 (bindsF x.k i), S) := by
  have : frame Try.cfg (run Try.cfg n) n 118 [encA x, .int .i64 i] St.empty = some (.int .i64 (bindsF x.k i), St.empty) := by
    refine frame_of Try.cfg _ (fn := Try.f118) rfl rfl ?_
    repeat' (refine WCmp.mk (fun _ => ?_) (fun _ => ?_))
    all_goals exact rfI (by simp [bindsF, *])
  exact run_tm this (by simp only [strips_t, strips_i, strips_nil]) rfl rfl rfl rfl rfl

/-! ### Size -/

noncomputable def szSt (z : Nat) : St := { heap := [.cells 3 [.int .i64 (.ofNat z)]], toks := [] }

theorem f117_ok (n : Nat) (x : Tm) (a : Int) (z : Nat) (hz : z < 1000000000) : run Try.cfg (n + 1) (.f 117) [encA x, .int .i64 a, .ptr (.box 0) 0] (szSt z) = some (.bool true, szSt (z + 1)) := by
  refine run_here rfl ?_
  refine frame_of Try.cfg _ (fn := Try.f117) rfl rfl ?_
  refine WOut.mk _ (addOne (T := 3) (j := z) (by omega)) ?_
  rfl

noncomputable def f116L : Code := loopN Try.f116 0

theorem f116_by (n k : Nat) (x : Tm) (around : Int) (K : Ex → Env → St → Prop) (hlen : x.ts.length < 1000000000)
    (hrec : ∀ y ∈ x.ts, ∀ a z, z + sizeT y < 1000000000 → run Try.cfg (n + 2) (.f 116) [encA y, .int .i64 a, .fn 117 1 [] [.ptr (.box 0) 0]] (szSt z) = some (.bool true, szSt (z + sizeT y))) :
    ∀ (rem : List Tm) (j f z : Nat) (o : Option Tm), rem.length < f → (∀ i, rem[i]? = x.ts[j + i]?) → j + rem.length = x.ts.length → z + sizeTs rem < 1000000000 →
    (∀ o : Option Tm, K (.exit 0) { nt := 32, tmps := [(1, .int .i64 around), (2, .fn 117 1 [] [.ptr (.box 0) 0]), (3, .ptr (.loc 3) 0), (15, .list (szOf x.c x.ts) (tkOf x.d) 0 (encTs x.ts)), (16, .int .i64 (.ofNat (lenN (encTs x.ts)))), (17, .int .i64 (.ofNat x.ts.length)), (18, .bool false)], locs := (3, cellsT x) :: oneMore 8 o, fix := [] } (szSt (z + sizeTs rem))) →
    WCode (iter (evalCode Try.cfg (run Try.cfg (n + 2)) k 116 (Try.cfg.fc 116) f116L) f { nt := 32, tmps := [(1, .int .i64 around), (2, .fn 117 1 [] [.ptr (.box 0) 0]), (3, .ptr (.loc 3) 0), (15, .list (szOf x.c x.ts) (tkOf x.d) 0 (encTs x.ts)), (16, .int .i64 (.ofNat (lenN (encTs x.ts)))), (17, .int .i64 (.ofNat j))], locs := (3, cellsT x) :: oneMore 8 o, fix := [] } (szSt z)) K
  | [], j, f + 1, z, o, hf, hr, hj, hl, hK => by
    have hjl : j = x.ts.length := by simpa using hj
    subst hjl
    rw [sizeTs, Nat.add_zero] at hK
    have hK := hK o
    cases o
    all_goals
      refine WCode.round (nt := 32) (fx := []) ?_
      refine WCmp.no (geLen (by omega)) ?_
      exact hK
  | y :: rem, j, f + 1, z, o, hf, hr, hj, hl, hK => by
    have hb : x.ts[j]? = some y := by have := hr 0; simpa using this.symm
    have hjl : j < x.ts.length := (List.getElem?_eq_some_iff.1 hb).1
    rw [sizeTs_cons] at hl hK
    cases o
    all_goals
      refine WCode.round (nt := 32) (fx := []) ?_
      refine WCmp.yes (ltLen hjl) ?_
      refine WOut.mk _ (index44 hb) ?_
      refine WCall.mk _ _ (f127_ok (n + 1) x (.ofNat j) _) ?_
      refine WOut.mk _ rfl ?_
      refine WCall.mk _ _ (hrec y (List.mem_of_getElem? hb) _ z (by omega)) ?_
      refine WOut.mk _ (addOne (T := 3) (j := j) (by omega)) ?_
      exact f116_by n k x around K hlen hrec rem (j + 1) f (z + sizeT y) (some y) (by simp only [List.length_cons] at hf; omega) (fun i => by have := hr (i + 1); simp only [List.getElem?_cons_succ] at this; rw [this]; congr 1; omega) (by simp only [List.length_cons] at hj; omega) (by omega) (by rw [Nat.add_assoc]; exact hK)

theorem kid_size {x y : Tm} (h : y ∈ x.ts) : sizeT y < sizeT x := by
  have : ∀ (ts : List Tm), ∀ y ∈ ts, sizeT y ≤ sizeTs ts := by
    intro ts
    induction ts with
    | nil => intro y hy; cases hy
    | cons t ts ih =>
      intro y hy
      rw [sizeTs_cons]
      cases hy with
      | head => omega
      | tail _ hy => have := ih y hy; omega
  have := this x.ts y h
  rw [sizeT_eq x]; omega

theorem f116_ok : ∀ (n : Nat) (x : Tm) (around : Int) (z : Nat), z + sizeT x < 1000000000 → wt x < n → run Try.cfg (n + 2) (.f 116) [encA x, .int .i64 around, .fn 117 1 [] [.ptr (.box 0) 0]] (szSt z) = some (.bool true, szSt (z + sizeT x))
  | 0, x, around, z, _, h => by omega
  | n + 1, x, around, z, hl, h => by
    have hn : x.ts.length < n := by have := wts_len x.ts; rw [wt_eq] at h; omega
    have hl' := hl
    rw [sizeT_eq] at hl'
    have hlen := sizeTs_len x.ts
    refine run_here rfl ?_
    refine frame_of Try.cfg _ (fn := Try.f116) rfl rfl ?_
    refine WCall.mk _ _ (f117_ok (n + 1) x around z (by omega)) ?_
    refine f116_by n (n + 2) x around _ (by omega) (fun y hy a z hz => f116_ok n y a z hz (by have := wt_kid hy; omega)) x.ts 0 (n + 2) (z + 1) none (by omega) (fun i => by rw [Nat.zero_add]) (by rw [Nat.zero_add]) (by omega) ?_
    rw [sizeT_eq, ← Nat.add_assoc]
    intro o
    cases o <;> rfl

noncomputable def sizeM (x : Tm) : Nat := match mayT x with | true => sizeT x | false => 0

theorem f85_ok (n : Nat) (x : Tm) (S : St) (hsm : Sm x) (hl : sizeT x < 1000000000) (h : wt x < n) : run Try.cfg (n + 14) (.f 85) [encA x] S = some (.int .i64 (.ofNat (sizeM x)), S) := by
  have : ∃ S', frame Try.cfg (run Try.cfg (n + 13)) (n + 13) 85 [encA x] St.empty = some (.int .i64 (.ofNat (sizeM x)), S') := by
    refine frame_ex Try.cfg _ (fn := Try.f85) rfl rfl ?_
    unfold sizeM
    refine WCall.mkB (f84_ok n x _ hsm h) (fun hm => ?_) (fun hm => ?_)
    · rw [hm]
      have h116 := f116_ok (n + 11) x 0 0 (by omega) (by omega)
      rw [Nat.zero_add] at h116
      refine WCall.mk _ _ h116 ?_
      exact ⟨_, rfl⟩
    · rw [hm]
      exact ⟨_, rfl⟩
  obtain ⟨S', this⟩ := this
  exact run_tm this (by simp only [strips_t, strips_nil]) rfl rfl rfl rfl rfl

/-! ### Appending -/

def ExtT (T T' : List Nat) : Prop := T.length ≤ T'.length ∧ ∀ t v, nth T t = some v → nth T' t = some v
theorem ExtT.refl (T : List Nat) : ExtT T T := ⟨Nat.le_refl _, fun _ _ h => h⟩
theorem ExtT.trans {T T' T'' : List Nat} (h : ExtT T T') (h' : ExtT T' T'') : ExtT T T'' := ⟨Nat.le_trans h.1 h'.1, fun t v e => h'.2 t v (h.2 t v e)⟩

noncomputable def strTok : Tok → Tok | .own _ => .no | t => t

@[reducible] noncomputable def cellsR (r : Tm) (tk : Tok) : List V := [.int .u8 r.k, .int .i64 r.n, .str r.s, .list (szOf r.a r.ls) (tkOf r.b) 0 (r.ls.map enc), .list (szOf r.c r.ts) tk 0 (encTs r.ts)]

theorem strip_encR (r : Tm) (tk : Tok) (h : strTok tk = tkOf r.d) : V.agg (mapN cellStrip (cellsR r tk)) = encA r := by
  show V.agg [_, _, _, cellStrip (.list _ (tkOf r.b) 0 _), cellStrip (.list _ tk 0 _)] = _
  rw [strip_tk]
  cases tk with
  | no => rw [show cellStrip (.list (szOf r.c r.ts) .no 0 (encTs r.ts)) = .list (szOf r.c r.ts) (tkOf r.d) 0 (encTs r.ts) by rw [← h]; rfl]; rfl
  | tight => rw [show cellStrip (.list (szOf r.c r.ts) .tight 0 (encTs r.ts)) = .list (szOf r.c r.ts) (tkOf r.d) 0 (encTs r.ts) by rw [← h]; rfl]; rfl
  | own t => rw [show cellStrip (.list (szOf r.c r.ts) (.own t) 0 (encTs r.ts)) = .list (szOf r.c r.ts) (tkOf r.d) 0 (encTs r.ts) by rw [← h]; rfl]; rfl

/-- How a list of terms that grows stands. -/
def Grows {α : Type} (T : List Nat) (done : List α) (tok : Tok) : Prop := (done = [] ∧ tok = .tight) ∨ ∃ t, tok = .own t ∧ nth T t = some done.length ∧ done ≠ []

theorem Grows.ext {α : Type} {T T' : List Nat} {done : List α} {tok : Tok} (h : Grows T done tok) (e : ExtT T T') : Grows T' done tok := by
  rcases h with h | ⟨t, h1, h2, h3⟩
  · exact .inl h
  · exact .inr ⟨t, h1, e.2 _ _ h2, h3⟩

theorem encTs_app (l m : List Tm) : encTs (l ++ m) = appN (encTs l) (encTs m) := by rw [appN_eq, encTs_eq, encTs_eq, encTs_eq, List.map_append]

theorem nth_len {α : Type} {l : List α} {t : Nat} {v : α} (h : nth l t = some v) : t < l.length := by rw [nth_eq] at h; exact (List.getElem?_eq_some_iff.1 h).1

theorem app44 {A : Env} {H : List Blk} {T : List Nat} {ac : Acc} {done : List Tm} {tok : Tok} {row : V} {r : Tm} (hac : ac.heap = true) (hg : Grows T done tok) (hlen : done.length < 1000000000) (hrow : row = encA r) :
    ∃ T' tok', append Try.cfg A { heap := H, toks := T } ac 44 (.list (szOf false done) tok 0 (encTs done)) (.list 5 .tight 0 [row]) = some (.list (szOf false (done ++ [r])) tok' 0 (encTs (done ++ [r])), { heap := H, toks := T' }) ∧
      Grows T' (done ++ [r]) tok' ∧ T.length ≤ T'.length ∧ (∀ t, tok' = .own t → ∀ t' v, t' ≠ t → nth T t' = some v → nth T' t' = some v) ∧ (∀ t, tok' = .own t → tok = .own t ∨ t = T.length) := by
  subst hrow
  rcases hg with ⟨rfl, rfl⟩ | ⟨t, rfl, h2, h3⟩
  · refine ⟨appN T [1], .own (lenN T), ?_, .inr ⟨_, rfl, ?_, by simp⟩, ?_, ?_, ?_⟩
    · show (ite _ _ _) = _
      refine (if_pos ?_).trans ?_
      · exact (⟨by omega, .inl rfl, by omega, hac⟩ : 0 < 5 ∧ (true = true ∨ 0 = 5) ∧ (0 + 1) * 81 ≤ 140737488355328 ∧ ac.heap = true)
      · rw [show encTs ([] ++ [r]) = [encA r] from encTs_eq [r], show encTs [] = [] from encTs_eq []]
        rfl
    · rw [appN_eq, nth_eq, lenN_eq, List.getElem?_append_right (Nat.le_refl _), Nat.sub_self]; rfl
    · rw [appN_eq]; simp
    · intro t _ t' v _ hv
      rw [nth_eq] at hv
      rw [appN_eq, nth_eq, List.getElem?_append_left (List.getElem?_eq_some_iff.1 hv).1]; exact hv
    · intro t ht; cases ht; exact .inr (lenN_eq T)
  · refine ⟨setN T t (lenN (encTs done) + 1), .own t, ?_, .inr ⟨t, rfl, ?_, by simp⟩, ?_, ?_, ?_⟩
    · have hne : (encTs done).isEmpty = false := by
        cases done with
        | nil => exact absurd rfl h3
        | cons d ds => rw [encTs]; rfl
      have hsz : szOf false done = 5 := by
        cases done with
        | nil => exact absurd rfl h3
        | cons d ds => rfl
      have hsz2 : szOf false (done ++ [r]) = 5 := by
        cases done with
        | nil => exact absurd rfl h3
        | cons d ds => rfl
      rw [hsz, hsz2]
      show (ite _ _ _) = _
      refine (if_pos ?_).trans ?_
      · exact (⟨by omega, .inr rfl, by rw [encTs_len]; omega, hac⟩ : 0 < 5 ∧ ((encTs done).isEmpty = true ∨ 5 = 5) ∧ (lenN (encTs done) + 1) * 81 ≤ 140737488355328 ∧ ac.heap = true)
      show (ite _ _ _) = _
      refine (if_pos ?_).trans ?_
      · show nth T t = some (lenN (encTs done))
        rw [encTs_len]; exact h2
      · rw [encTs_app, show encTs [r] = [encA r] from encTs_eq [r]]
        rfl
    · rw [setN_eq, nth_eq, List.getElem?_set_self (by exact nth_len h2), encTs_len]; simp
    · rw [setN_eq, List.length_set]; exact Nat.le_refl _
    · intro t1 ht1 t' v hne hv
      cases ht1
      rw [setN_eq, nth_eq, List.getElem?_set_ne (fun e => hne e.symm), ← nth_eq]; exact hv
    · intro t1 ht1; cases ht1; exact .inl rfl

end Go.Ev
