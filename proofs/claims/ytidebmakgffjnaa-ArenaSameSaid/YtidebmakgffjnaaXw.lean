/- Terms: levels in the place of parameters (own work). -/
import Derived.Test.YtidebmakgffjnaaXu
/- Levels: At, and levels that are apart, in plain numbers (own work). -/
namespace Go.Ev
open Go.Proofs Go.RowKit

/-- Numbers that At takes. -/
def Le41 (v : P4) : Prop := v.p0 ≤ FAR ∧ v.p1 ≤ FAR ∧ v.p2 ≤ FAR ∧ v.p3 ≤ FAR

theorem okFar_iff {p : Int} : okFar p = true ↔ 0 ≤ p ∧ p ≤ FAR := by
  unfold okFar
  rw [iLt_eq, iLt_eq]
  simp

theorem tm_ge {p v : Int} (hp : 0 ≤ v) : 0 ≤ tm p v := by unfold tm; split <;> omega

theorem at_step {m p q : Int} (hm : 0 ≤ m) (hq : 0 ≤ q) (hq2 : q ≤ FAR) (hp : p ≤ TOP) : (if p < 0 then m else maxI m (wrapI .i64 (q + p))) = max m (tm p q) := by
  unfold tm TOP FAR at *
  split
  · omega
  · rw [wrapI_id (by omega) (by omega)]
    unfold maxI
    split <;> omega

theorem atF_eq {l : Lv} (hl : Vd l) {q : P4} (h0 : Ge0 q) (h1 : Le41 q) : atF l q = ev l q := by
  obtain ⟨q0, q1, q2, q3⟩ := h0
  obtain ⟨r0, r1, r2, r3⟩ := h1
  have hm := mayF_iff.2 hl
  obtain ⟨a1, a2, a3, a4, a5, a6, a7⟩ := hl
  have e : atF l q = foldP (fun i p m => maxI m (wrapI .i64 (q.get i + p))) l.ps 0 l.c := by
    unfold atF
    rw [okFar_iff.2 ⟨q0, r0⟩, okFar_iff.2 ⟨q1, r1⟩, okFar_iff.2 ⟨q2, r2⟩, okFar_iff.2 ⟨q3, r3⟩, hm]
    rfl
  rw [e]
  unfold foldP foldP foldP foldP foldP
  simp only [iLt_eq, cond_ite, decide_eq_true_eq]
  have g0 : q.get 0 = q.p0 := rfl
  have g1 : q.get (0 + 1) = q.p1 := rfl
  have g2 : q.get (0 + 1 + 1) = q.p2 := rfl
  have g3 : q.get (0 + 1 + 1 + 1) = q.p3 := rfl
  rw [g0, g1, g2, g3]
  have m0 : 0 ≤ max l.c (tm l.p0 q.p0) := by omega
  have m1 : 0 ≤ max (max l.c (tm l.p0 q.p0)) (tm l.p1 q.p1) := by omega
  have m2 : 0 ≤ max (max (max l.c (tm l.p0 q.p0)) (tm l.p1 q.p1)) (tm l.p2 q.p2) := by omega
  rw [at_step a1 q0 r0 a3.2, at_step m0 q1 r1 a4.2, at_step m1 q2 r2 a5.2, at_step m2 q3 r3 a6.2]
  rfl

theorem tm_mono {p q v : Int} (h : p ≤ q) (hv : 0 ≤ v) : tm p v ≤ tm q v := by
  unfold tm; split <;> split <;> omega

theorem Le.ev {a b : Lv} (h : Le a b) {v : P4} (hv : Ge0 v) (hb : Wk b) : ev a v ≤ ev b v := by
  obtain ⟨h0, h1, h2, h3, h4⟩ := h
  obtain ⟨v0, v1, v2, v3⟩ := hv
  have hself := (@ev_le b v (Go.Ev.ev b v)).1 (Int.le_refl _)
  obtain ⟨k, k0, k1, k2, k3⟩ := hself
  have hge := ev_ge (v := v) hb
  rw [ev_le]
  have t0 := tm_mono h0 v0
  have t1 := tm_mono h1 v1
  have t2 := tm_mono h2 v2
  have t3 := tm_mono h3 v3
  refine ⟨?_, by omega, by omega, by omega, by omega⟩
  have w : ∀ p x : Int, 0 ≤ x → tm p x ≤ Go.Ev.ev b v → a.c ≤ p → a.c ≤ Go.Ev.ev b v := fun p x hx h1 h2 => by unfold tm at h1; split at h1 <;> omega
  rcases h4 with h4 | h4 | h4 | h4 | h4
  · omega
  · exact w _ _ v0 k0 h4
  · exact w _ _ v1 k1 h4
  · exact w _ _ v2 k2 h4
  · exact w _ _ v3 k3 h4

theorem mx_eq_iff {a b : Lv} (ha : Vd a) (hb : Vd b) : mx a b = b ↔ Le a b := by
  constructor
  · intro h
    have := le_mx ha hb
    rwa [h] at this
  · intro h
    refine ev_ext (maxF_eq ha hb).2.wk hb.wk (maxF_eq ha hb).2.nf hb.nf (fun v hv => ?_)
    rw [ev_mx ha hb hv]
    have := h.ev hv hb.wk
    omega

theorem le_antisymm' {a b : Lv} (ha : Vd a) (hb : Vd b) (h : Le a b) (k : Le b a) : a = b :=
  ev_ext ha.wk hb.wk ha.nf hb.nf (fun _ hv => Int.le_antisymm (h.ev hv hb.wk) (k.ev hv ha.wk))

@[reducible] def f0 : P4 := ⟨FAR, 0, 0, 0⟩
@[reducible] def f1 : P4 := ⟨0, FAR, 0, 0⟩
@[reducible] def f2 : P4 := ⟨0, 0, FAR, 0⟩
@[reducible] def f3 : P4 := ⟨0, 0, 0, FAR⟩
@[reducible] def fz : P4 := ⟨0, 0, 0, 0⟩

theorem le_of_tests {a b : Lv} (ha : Vd a) (hb : Vd b) (hz : ev a fz ≤ ev b fz) (h0 : ev a f0 ≤ ev b f0) (h1 : ev a f1 ≤ ev b f1) (h2 : ev a f2 ≤ ev b f2) (h3 : ev a f3 ≤ ev b f3) : Le a b := by
  have hz' := (@le_ev a fz a.c).2 (.inl (Int.le_refl _))
  have t0 := (@le_ev a f0 (tm a.p0 FAR)).2 (.inr (.inl (Int.le_refl _)))
  have t1 := (@le_ev a f1 (tm a.p1 FAR)).2 (.inr (.inr (.inl (Int.le_refl _))))
  have t2 := (@le_ev a f2 (tm a.p2 FAR)).2 (.inr (.inr (.inr (.inl (Int.le_refl _)))))
  have t3 := (@le_ev a f3 (tm a.p3 FAR)).2 (.inr (.inr (.inr (.inr (Int.le_refl _)))))
  have kz := (@le_ev b fz a.c).1 (by omega)
  have k0 := (@le_ev b f0 (tm a.p0 FAR)).1 (by omega)
  have k1 := (@le_ev b f1 (tm a.p1 FAR)).1 (by omega)
  have k2 := (@le_ev b f2 (tm a.p2 FAR)).1 (by omega)
  have k3 := (@le_ev b f3 (tm a.p3 FAR)).1 (by omega)
  clear hz h0 h1 h2 h3 hz' t0 t1 t2 t3
  obtain ⟨a1, a2, a3, a4, a5, a6, a7⟩ := ha
  obtain ⟨b1, b2, b3, b4, b5, b6, b7⟩ := hb
  clear a7 b7
  have big : ∀ p q : Int, q ≤ TOP → -1 ≤ q → q ≤ TOP → p ≤ TOP → -1 ≤ p → (tm p FAR ≤ tm q FAR ∨ tm p FAR ≤ TOP) → p ≤ q := fun p q _ _ _ _ _ h => by
    unfold tm FAR TOP at *
    split at h <;> split at h <;> omega
  have sm : ∀ p : Int, p ≤ TOP → tm p 0 ≤ TOP := fun p hp => by unfold tm TOP at *; split <;> omega
  have s0 := sm b.p0 b3.2
  have s1 := sm b.p1 b4.2
  have s2 := sm b.p2 b5.2
  have s3 := sm b.p3 b6.2
  refine ⟨big _ _ b3.2 b3.1 b3.2 a3.2 a3.1 ?_, big _ _ b4.2 b4.1 b4.2 a4.2 a4.1 ?_, big _ _ b5.2 b5.1 b5.2 a5.2 a5.1 ?_, big _ _ b6.2 b6.1 b6.2 a6.2 a6.1 ?_, ?_⟩
  · rcases k0 with k | k | k | k | k
    · right; omega
    · left; exact k
    all_goals (right; have k' : tm a.p0 FAR ≤ tm _ 0 := k; omega)
  · rcases k1 with k | k | k | k | k
    · right; omega
    · right; have k' : tm a.p1 FAR ≤ tm b.p0 0 := k; omega
    · left; exact k
    all_goals (right; have k' : tm a.p1 FAR ≤ tm _ 0 := k; omega)
  · rcases k2 with k | k | k | k | k
    · right; omega
    · right; have k' : tm a.p2 FAR ≤ tm b.p0 0 := k; omega
    · right; have k' : tm a.p2 FAR ≤ tm b.p1 0 := k; omega
    · left; exact k
    · right; have k' : tm a.p2 FAR ≤ tm b.p3 0 := k; omega
  · rcases k3 with k | k | k | k | k
    · right; omega
    · right; have k' : tm a.p3 FAR ≤ tm b.p0 0 := k; omega
    · right; have k' : tm a.p3 FAR ≤ tm b.p1 0 := k; omega
    · right; have k' : tm a.p3 FAR ≤ tm b.p2 0 := k; omega
    · left; exact k
  · have z : ∀ p : Int, a.c ≤ tm p 0 → a.c ≤ p ∨ a.c ≤ b.c := fun p hp => by unfold tm at hp; split at hp <;> omega
    rcases kz with k | k | k | k | k
    · exact .inl k
    · rcases z b.p0 k with h | h
      · exact .inr (.inl h)
      · exact .inl h
    · rcases z b.p1 k with h | h
      · exact .inr (.inr (.inl h))
      · exact .inl h
    · rcases z b.p2 k with h | h
      · exact .inr (.inr (.inr (.inl h)))
      · exact .inl h
    · rcases z b.p3 k with h | h
      · exact .inr (.inr (.inr (.inr h)))
      · exact .inl h

/-- Are there numbers, of those that are tried, at which one is above the other one? -/
noncomputable def apartF (a b : Lv) : Bool := iLt (atF b fz) (atF a fz) || (iLt (atF b f0) (atF a f0) || (iLt (atF b f1) (atF a f1) || (iLt (atF b f2) (atF a f2) || iLt (atF b f3) (atF a f3))))

theorem apart_of {a b : Lv} (ha : Vd a) (hb : Vd b) (h : ¬ Le a b) : apartF a b = true := by
  cases hq : apartF a b with
  | true => rfl
  | false =>
    exfalso
    unfold apartF at hq
    simp only [Bool.or_eq_false_iff, iLt_not] at hq
    obtain ⟨qz, q0, q1, q2, q3⟩ := hq
    have gz : Ge0 fz ∧ Le41 fz := by unfold Ge0 Le41 FAR; simp
    have g0 : Ge0 f0 ∧ Le41 f0 := by unfold Ge0 Le41 FAR; simp
    have g1 : Ge0 f1 ∧ Le41 f1 := by unfold Ge0 Le41 FAR; simp
    have g2 : Ge0 f2 ∧ Le41 f2 := by unfold Ge0 Le41 FAR; simp
    have g3 : Ge0 f3 ∧ Le41 f3 := by unfold Ge0 Le41 FAR; simp
    rw [atF_eq ha gz.1 gz.2, atF_eq hb gz.1 gz.2] at qz
    rw [atF_eq ha g0.1 g0.2, atF_eq hb g0.1 g0.2] at q0
    rw [atF_eq ha g1.1 g1.2, atF_eq hb g1.1 g1.2] at q1
    rw [atF_eq ha g2.1 g2.2, atF_eq hb g2.1 g2.2] at q2
    rw [atF_eq ha g3.1 g3.2, atF_eq hb g3.1 g3.2] at q3
    exact h (le_of_tests ha hb qz q0 q1 q2 q3)

theorem ev_bound {l : Lv} (hl : Vd l) {v : P4} (hv : Ge0 v) {k : Int} (h0 : v.p0 ≤ k) (h1 : v.p1 ≤ k) (h2 : v.p2 ≤ k) (h3 : v.p3 ≤ k) : ev l v ≤ TOP + k := by
  obtain ⟨a1, a2, a3, a4, a5, a6, a7⟩ := hl
  obtain ⟨v0, v1, v2, v3⟩ := hv
  have t : ∀ p x : Int, p ≤ TOP → 0 ≤ x → x ≤ k → tm p x ≤ TOP + k := fun p x hp hx hk => by unfold tm TOP at *; split <;> omega
  rw [ev_le]
  exact ⟨by omega, t _ _ a3.2 v0 h0, t _ _ a4.2 v1 h1, t _ _ a5.2 v2 h2, t _ _ a6.2 v3 h3⟩

end Go.Ev

/- Levels: the document's Leq and Inst (written by lvy.py; own work). -/
namespace Go.Ev
open Go.Proofs Go.RowKit
set_option maxRecDepth 100000

/-! ### Leq -/

noncomputable def leqR (a b : Lv) : Bool := bif mayF a && mayF b then !apartF a b else false

theorem r29_frame (n : Nat) (a b : Lv) : frame Try.cfg (run Try.cfg (n + 7)) (n + 7) 29 [enc a, enc b] St.empty = some (.bool (leqR a b), St.empty) := by
  refine frame_of Try.cfg _ (fn := Try.f29) rfl rfl ?_
  refine WCall.mk _ _ (r27_ok (n + 1) a _) ?_
  cases ha : mayF a with
  | false => rw [show leqR a b = false by simp [leqR, ha]]; rfl
  | true =>
  refine WCall.mk _ _ (r27_ok (n + 1) b _) ?_
  cases hb : mayF b with
  | false => rw [show leqR a b = false by simp [leqR, hb]]; rfl
  | true =>
  refine WCall.mk _ _ (r31_ok n a fz _) ?_
  refine WCall.mk _ _ (r31_ok n b fz _) ?_
  refine WCmp.mk (fun hz => ?_) (fun hz => ?_)
  · rw [show leqR a b = false by simp [leqR, apartF, *]]; rfl
  refine WCode.round (nt := 37) (fx := []) ?_
  refine WCmp.yes rfl ?_
  refine WOut.mk _ rfl ?_
  refine WCall.mk _ _ (r31_ok n a f0 _) ?_
  refine WCall.mk _ _ (r31_ok n b f0 _) ?_
  refine WCmp.mk (fun h0 => ?_) (fun h0 => ?_)
  · rw [show leqR a b = false by simp [leqR, apartF, *]]; rfl
  refine WOut.mk _ rfl ?_
  refine WOut.mk _ rfl ?_
  refine WCode.round (nt := 37) (fx := []) ?_
  refine WCmp.yes rfl ?_
  refine WOut.mk _ rfl ?_
  refine WCall.mk _ _ (r31_ok n a f1 _) ?_
  refine WCall.mk _ _ (r31_ok n b f1 _) ?_
  refine WCmp.mk (fun h1 => ?_) (fun h1 => ?_)
  · rw [show leqR a b = false by simp [leqR, apartF, *]]; rfl
  refine WOut.mk _ rfl ?_
  refine WOut.mk _ rfl ?_
  refine WCode.round (nt := 37) (fx := []) ?_
  refine WCmp.yes rfl ?_
  refine WOut.mk _ rfl ?_
  refine WCall.mk _ _ (r31_ok n a f2 _) ?_
  refine WCall.mk _ _ (r31_ok n b f2 _) ?_
  refine WCmp.mk (fun h2 => ?_) (fun h2 => ?_)
  · rw [show leqR a b = false by simp [leqR, apartF, *]]; rfl
  refine WOut.mk _ rfl ?_
  refine WOut.mk _ rfl ?_
  refine WCode.round (nt := 37) (fx := []) ?_
  refine WCmp.yes rfl ?_
  refine WOut.mk _ rfl ?_
  refine WCall.mk _ _ (r31_ok n a f3 _) ?_
  refine WCall.mk _ _ (r31_ok n b f3 _) ?_
  refine WCmp.mk (fun h3 => ?_) (fun h3 => ?_)
  · rw [show leqR a b = false by simp [leqR, apartF, *]]; rfl
  refine WOut.mk _ rfl ?_
  refine WOut.mk _ rfl ?_
  refine WCode.round (nt := 37) (fx := []) ?_
  refine WCmp.no rfl ?_
  rw [show leqR a b = true by simp [leqR, apartF, *]]
  rfl

theorem r29_ok (n : Nat) (a b : Lv) (S : St) : run Try.cfg (n + 8) (.f 29) [enc a, enc b] S = some (.bool (leqR a b), S) := run_val (r29_frame n a b) rfl rfl rfl rfl rfl

/-! ### Inst -/

noncomputable def f23L : Code := loopN Try.f23 0
noncomputable def f23M : Code := loopN Try.f23 1

theorem f23_by (n k : Nat) (l : Lv) (tok : Tok) (bys : List Lv) (hlen : bys.length < 100) (S : St) (K : Ex → Env → St → Prop) : ∀ (rem : List Lv) (j f : Nat), rem.length < f → (∀ i, rem[i]? = bys[j + i]?) → j + rem.length = bys.length →
    (match rem.all mayF with | true => K (.exit 0) { nt := 59, tmps := [(1, encL tok bys), (2, .ptr (.loc 2) 0), (4, .ptr (.loc 4) 0), (6, .int .i64 (.ofNat bys.length)), (16, .bool false)], locs := [(2, cellsOf l), (4, zeros)], fix := [] } S | false => K .ret { nt := 59, tmps := [(4, .ptr (.loc 4) 0), (5, .int .i64 1)], locs := [(2, cellsOf l), (4, zeros)], fix := [] } S) →
    WCode (iter (evalCode Try.cfg (run Try.cfg (n + 6)) k 23 (Try.cfg.fc 23) f23L) f { nt := 59, tmps := [(1, encL tok bys), (2, .ptr (.loc 2) 0), (4, .ptr (.loc 4) 0), (6, .int .i64 (.ofNat j))], locs := [(2, cellsOf l), (4, zeros)], fix := [] } S) K
  | [], j, f + 1, hf, hr, hj, hK => by
    have hjl : j = bys.length := by simpa using hj
    subst hjl
    refine WCode.round (nt := 59) (fx := []) ?_
    refine WCmp.no (by rw [iLt_nat, lenN_eq, List.length_map]; exact blt_self bys.length) ?_
    exact hK
  | b :: rem, j, f + 1, hf, hr, hj, hK => by
    have hb : bys[j]? = some b := by have := hr 0; simpa using this.symm
    have hjl : j < bys.length := (List.getElem?_eq_some_iff.1 hb).1
    refine WCode.round (nt := 59) (fx := []) ?_
    refine WCmp.yes (by rw [iLt_nat, lenN_eq, List.length_map]; rw [Nat.blt_eq]; exact hjl) ?_
    refine WOut.mk _ (index25 hb) ?_
    refine WCall.mk _ _ (r27_ok n b _) ?_
    cases hm : mayF b with
    | false =>
      have hq : (b :: rem).all mayF = false := by simp [hm]
      rw [hq] at hK
      exact hK
    | true =>
      have hq : (b :: rem).all mayF = rem.all mayF := by simp [hm]
      rw [hq] at hK
      refine WOut.mk _ (addOne (by omega)) ?_
      exact f23_by n k l tok bys hlen S K rem (j + 1) f (by simp only [List.length_cons] at hf; omega) (fun i => by have := hr (i + 1); simp only [List.getElem?_cons_succ] at this; rw [this]; congr 1; omega) (by simp only [List.length_cons] at hj; omega) hK

noncomputable def instStepR (bys : List Lv) (i p : Int) (out : Lv) : Option Lv := match bys[i.toNat]? with | some b => some (formF (bothR out (formF (plusR b p)))) | none => none

noncomputable def instR (l : Lv) (bys : List Lv) : Lv × Int := match mayF l && bys.all mayF with
  | true => match foldE (instStepR bys) l.ps 0 { zeroLv with c := l.c } with
    | (true, out) => toldF out
    | (false, _) => (noLv, 8)
  | false => (noLv, 1)

theorem foldE_nil {T : Type} (step : Int → Int → T → Option T) (i : Int) (t : T) : foldE step [] i t = (true, t) := rfl

theorem f23_at4 (n k j : Nat) (l : Lv) (tok : Tok) (bys : List Lv) (S : St) (K : Ex → Env → St → Prop) (out : Lv)
    (h : match foldE (instStepR bys) [] 4 out with | (true, o') => K (.exit 2) { nt := 59, tmps := [(1, encL tok bys), (2, .ptr (.loc 2) 0), (4, .ptr (.loc 4) 0), (7, .ptr (.loc 7) 0), (8, .int .i64 4), (31, .bool false)], locs := [(2, cellsOf l), (4, zeros), (7, cellsOf o')], fix := [] } S | (false, o') => K .ret { nt := 59, tmps := [(4, .ptr (.loc 4) 0), (5, .int .i64 8)], locs := [(2, cellsOf l), (4, zeros), (7, cellsOf o')], fix := [] } S) :
    WCode (iter (evalCode Try.cfg (run Try.cfg (n + 7)) k 23 (Try.cfg.fc 23) f23M) (j + 1) { nt := 59, tmps := [(1, encL tok bys), (2, .ptr (.loc 2) 0), (4, .ptr (.loc 4) 0), (7, .ptr (.loc 7) 0), (8, .int .i64 4)], locs := [(2, cellsOf l), (4, zeros), (7, cellsOf out)], fix := [] } S) K := by
  refine WCode.round (nt := 59) (fx := []) ?_
  refine WCmp.no rfl ?_
  exact h

theorem f23_at3 (n k j : Nat) (l : Lv) (tok : Tok) (bys : List Lv) (S : St) (K : Ex → Env → St → Prop) (out : Lv)
    (h : match foldE (instStepR bys) [l.p3] 3 out with | (true, o') => K (.exit 2) { nt := 59, tmps := [(1, encL tok bys), (2, .ptr (.loc 2) 0), (4, .ptr (.loc 4) 0), (7, .ptr (.loc 7) 0), (8, .int .i64 4), (31, .bool false)], locs := [(2, cellsOf l), (4, zeros), (7, cellsOf o')], fix := [] } S | (false, o') => K .ret { nt := 59, tmps := [(4, .ptr (.loc 4) 0), (5, .int .i64 8)], locs := [(2, cellsOf l), (4, zeros), (7, cellsOf o')], fix := [] } S) :
    WCode (iter (evalCode Try.cfg (run Try.cfg (n + 7)) k 23 (Try.cfg.fc 23) f23M) (j + 2) { nt := 59, tmps := [(1, encL tok bys), (2, .ptr (.loc 2) 0), (4, .ptr (.loc 4) 0), (7, .ptr (.loc 7) 0), (8, .int .i64 3)], locs := [(2, cellsOf l), (4, zeros), (7, cellsOf out)], fix := [] } S) K := by
  refine WCode.round (nt := 59) (fx := []) ?_
  rw [foldE_cons] at h
  refine WCmp.yes rfl ?_
  refine WOut.mk _ rfl ?_
  refine WCmp.mk (fun h1 => ?_) (fun h1 => ?_)
  · rw [h1] at h
    refine WOut.mk _ rfl ?_
    exact f23_at4 n k j l tok bys S K out h
  · rw [h1] at h
    cases hb : bys[3]? with
    | none =>
      rw [show instStepR bys 3 l.p3 out = none by unfold instStepR; rw [show (3 : Int).toNat = 3 from rfl, hb]] at h
      have hl : bys.length ≤ 3 := List.getElem?_eq_none_iff.1 hb
      refine WCmp.yes (by
        show (!iLt (.ofNat 3) (.ofNat (lenN (bys.map enc)))) = true
        rw [iLt_nat, lenN_eq, List.length_map]
        cases hq : Nat.blt 3 bys.length with
        | false => rfl
        | true => rw [Nat.blt_eq] at hq; omega) ?_
      exact h
    | some b =>
      rw [show instStepR bys 3 l.p3 out = some (formF (bothR out (formF (plusR b l.p3)))) by unfold instStepR; rw [show (3 : Int).toNat = 3 from rfl, hb]] at h
      have hl : 3 < bys.length := (List.getElem?_eq_some_iff.1 hb).1
      refine WCmp.no (by show (!iLt (.ofNat 3) (.ofNat (lenN (bys.map enc)))) = false; rw [iLt_nat, lenN_eq, List.length_map, show Nat.blt 3 bys.length = true by rw [Nat.blt_eq]; exact hl]; rfl) ?_
      refine WOut.mk _ (index25 (j := 3) hb) ?_
      refine WOut.mk _ rfl ?_
      refine WCall.mk _ _ (r77_ok n b l.p3 _) ?_
      refine WCall.mk _ _ (r79_ok n out (formF (plusR b l.p3)) _) ?_
      refine WOut.mk _ rfl ?_
      exact f23_at4 n k j l tok bys S K _ h

theorem f23_at2 (n k j : Nat) (l : Lv) (tok : Tok) (bys : List Lv) (S : St) (K : Ex → Env → St → Prop) (out : Lv)
    (h : match foldE (instStepR bys) [l.p2, l.p3] 2 out with | (true, o') => K (.exit 2) { nt := 59, tmps := [(1, encL tok bys), (2, .ptr (.loc 2) 0), (4, .ptr (.loc 4) 0), (7, .ptr (.loc 7) 0), (8, .int .i64 4), (31, .bool false)], locs := [(2, cellsOf l), (4, zeros), (7, cellsOf o')], fix := [] } S | (false, o') => K .ret { nt := 59, tmps := [(4, .ptr (.loc 4) 0), (5, .int .i64 8)], locs := [(2, cellsOf l), (4, zeros), (7, cellsOf o')], fix := [] } S) :
    WCode (iter (evalCode Try.cfg (run Try.cfg (n + 7)) k 23 (Try.cfg.fc 23) f23M) (j + 3) { nt := 59, tmps := [(1, encL tok bys), (2, .ptr (.loc 2) 0), (4, .ptr (.loc 4) 0), (7, .ptr (.loc 7) 0), (8, .int .i64 2)], locs := [(2, cellsOf l), (4, zeros), (7, cellsOf out)], fix := [] } S) K := by
  refine WCode.round (nt := 59) (fx := []) ?_
  rw [foldE_cons] at h
  refine WCmp.yes rfl ?_
  refine WOut.mk _ rfl ?_
  refine WCmp.mk (fun h1 => ?_) (fun h1 => ?_)
  · rw [h1] at h
    refine WOut.mk _ rfl ?_
    exact f23_at3 n k j l tok bys S K out h
  · rw [h1] at h
    cases hb : bys[2]? with
    | none =>
      rw [show instStepR bys 2 l.p2 out = none by unfold instStepR; rw [show (2 : Int).toNat = 2 from rfl, hb]] at h
      have hl : bys.length ≤ 2 := List.getElem?_eq_none_iff.1 hb
      refine WCmp.yes (by
        show (!iLt (.ofNat 2) (.ofNat (lenN (bys.map enc)))) = true
        rw [iLt_nat, lenN_eq, List.length_map]
        cases hq : Nat.blt 2 bys.length with
        | false => rfl
        | true => rw [Nat.blt_eq] at hq; omega) ?_
      exact h
    | some b =>
      rw [show instStepR bys 2 l.p2 out = some (formF (bothR out (formF (plusR b l.p2)))) by unfold instStepR; rw [show (2 : Int).toNat = 2 from rfl, hb]] at h
      have hl : 2 < bys.length := (List.getElem?_eq_some_iff.1 hb).1
      refine WCmp.no (by show (!iLt (.ofNat 2) (.ofNat (lenN (bys.map enc)))) = false; rw [iLt_nat, lenN_eq, List.length_map, show Nat.blt 2 bys.length = true by rw [Nat.blt_eq]; exact hl]; rfl) ?_
      refine WOut.mk _ (index25 (j := 2) hb) ?_
      refine WOut.mk _ rfl ?_
      refine WCall.mk _ _ (r77_ok n b l.p2 _) ?_
      refine WCall.mk _ _ (r79_ok n out (formF (plusR b l.p2)) _) ?_
      refine WOut.mk _ rfl ?_
      exact f23_at3 n k j l tok bys S K _ h

theorem f23_at1 (n k j : Nat) (l : Lv) (tok : Tok) (bys : List Lv) (S : St) (K : Ex → Env → St → Prop) (out : Lv)
    (h : match foldE (instStepR bys) [l.p1, l.p2, l.p3] 1 out with | (true, o') => K (.exit 2) { nt := 59, tmps := [(1, encL tok bys), (2, .ptr (.loc 2) 0), (4, .ptr (.loc 4) 0), (7, .ptr (.loc 7) 0), (8, .int .i64 4), (31, .bool false)], locs := [(2, cellsOf l), (4, zeros), (7, cellsOf o')], fix := [] } S | (false, o') => K .ret { nt := 59, tmps := [(4, .ptr (.loc 4) 0), (5, .int .i64 8)], locs := [(2, cellsOf l), (4, zeros), (7, cellsOf o')], fix := [] } S) :
    WCode (iter (evalCode Try.cfg (run Try.cfg (n + 7)) k 23 (Try.cfg.fc 23) f23M) (j + 4) { nt := 59, tmps := [(1, encL tok bys), (2, .ptr (.loc 2) 0), (4, .ptr (.loc 4) 0), (7, .ptr (.loc 7) 0), (8, .int .i64 1)], locs := [(2, cellsOf l), (4, zeros), (7, cellsOf out)], fix := [] } S) K := by
  refine WCode.round (nt := 59) (fx := []) ?_
  rw [foldE_cons] at h
  refine WCmp.yes rfl ?_
  refine WOut.mk _ rfl ?_
  refine WCmp.mk (fun h1 => ?_) (fun h1 => ?_)
  · rw [h1] at h
    refine WOut.mk _ rfl ?_
    exact f23_at2 n k j l tok bys S K out h
  · rw [h1] at h
    cases hb : bys[1]? with
    | none =>
      rw [show instStepR bys 1 l.p1 out = none by unfold instStepR; rw [show (1 : Int).toNat = 1 from rfl, hb]] at h
      have hl : bys.length ≤ 1 := List.getElem?_eq_none_iff.1 hb
      refine WCmp.yes (by
        show (!iLt (.ofNat 1) (.ofNat (lenN (bys.map enc)))) = true
        rw [iLt_nat, lenN_eq, List.length_map]
        cases hq : Nat.blt 1 bys.length with
        | false => rfl
        | true => rw [Nat.blt_eq] at hq; omega) ?_
      exact h
    | some b =>
      rw [show instStepR bys 1 l.p1 out = some (formF (bothR out (formF (plusR b l.p1)))) by unfold instStepR; rw [show (1 : Int).toNat = 1 from rfl, hb]] at h
      have hl : 1 < bys.length := (List.getElem?_eq_some_iff.1 hb).1
      refine WCmp.no (by show (!iLt (.ofNat 1) (.ofNat (lenN (bys.map enc)))) = false; rw [iLt_nat, lenN_eq, List.length_map, show Nat.blt 1 bys.length = true by rw [Nat.blt_eq]; exact hl]; rfl) ?_
      refine WOut.mk _ (index25 (j := 1) hb) ?_
      refine WOut.mk _ rfl ?_
      refine WCall.mk _ _ (r77_ok n b l.p1 _) ?_
      refine WCall.mk _ _ (r79_ok n out (formF (plusR b l.p1)) _) ?_
      refine WOut.mk _ rfl ?_
      exact f23_at2 n k j l tok bys S K _ h

theorem f23_at0 (n k j : Nat) (l : Lv) (tok : Tok) (bys : List Lv) (S : St) (K : Ex → Env → St → Prop) (out : Lv)
    (h : match foldE (instStepR bys) [l.p0, l.p1, l.p2, l.p3] 0 out with | (true, o') => K (.exit 2) { nt := 59, tmps := [(1, encL tok bys), (2, .ptr (.loc 2) 0), (4, .ptr (.loc 4) 0), (7, .ptr (.loc 7) 0), (8, .int .i64 4), (31, .bool false)], locs := [(2, cellsOf l), (4, zeros), (7, cellsOf o')], fix := [] } S | (false, o') => K .ret { nt := 59, tmps := [(4, .ptr (.loc 4) 0), (5, .int .i64 8)], locs := [(2, cellsOf l), (4, zeros), (7, cellsOf o')], fix := [] } S) :
    WCode (iter (evalCode Try.cfg (run Try.cfg (n + 7)) k 23 (Try.cfg.fc 23) f23M) (j + 5) { nt := 59, tmps := [(1, encL tok bys), (2, .ptr (.loc 2) 0), (4, .ptr (.loc 4) 0), (7, .ptr (.loc 7) 0), (8, .int .i64 0)], locs := [(2, cellsOf l), (4, zeros), (7, cellsOf out)], fix := [] } S) K := by
  refine WCode.round (nt := 59) (fx := []) ?_
  rw [foldE_cons] at h
  refine WCmp.yes rfl ?_
  refine WOut.mk _ rfl ?_
  refine WCmp.mk (fun h1 => ?_) (fun h1 => ?_)
  · rw [h1] at h
    refine WOut.mk _ rfl ?_
    exact f23_at1 n k j l tok bys S K out h
  · rw [h1] at h
    cases hb : bys[0]? with
    | none =>
      rw [show instStepR bys 0 l.p0 out = none by unfold instStepR; rw [show (0 : Int).toNat = 0 from rfl, hb]] at h
      have hl : bys.length ≤ 0 := List.getElem?_eq_none_iff.1 hb
      refine WCmp.yes (by
        show (!iLt (.ofNat 0) (.ofNat (lenN (bys.map enc)))) = true
        rw [iLt_nat, lenN_eq, List.length_map]
        cases hq : Nat.blt 0 bys.length with
        | false => rfl
        | true => rw [Nat.blt_eq] at hq; omega) ?_
      exact h
    | some b =>
      rw [show instStepR bys 0 l.p0 out = some (formF (bothR out (formF (plusR b l.p0)))) by unfold instStepR; rw [show (0 : Int).toNat = 0 from rfl, hb]] at h
      have hl : 0 < bys.length := (List.getElem?_eq_some_iff.1 hb).1
      refine WCmp.no (by show (!iLt (.ofNat 0) (.ofNat (lenN (bys.map enc)))) = false; rw [iLt_nat, lenN_eq, List.length_map, show Nat.blt 0 bys.length = true by rw [Nat.blt_eq]; exact hl]; rfl) ?_
      refine WOut.mk _ (index25 (j := 0) hb) ?_
      refine WOut.mk _ rfl ?_
      refine WCall.mk _ _ (r77_ok n b l.p0 _) ?_
      refine WCall.mk _ _ (r79_ok n out (formF (plusR b l.p0)) _) ?_
      refine WOut.mk _ rfl ?_
      exact f23_at1 n k j l tok bys S K _ h

theorem r23_frame (n : Nat) (l : Lv) (tok : Tok) (bys : List Lv) (hlen : bys.length < n + 8) (hlen2 : bys.length < 100) : frame Try.cfg (run Try.cfg (n + 8)) (n + 8) 23 [enc l, encL tok bys] St.empty = some (encR (instR l bys), St.empty) := by
  refine frame_of Try.cfg _ (fn := Try.f23) rfl rfl ?_
  refine WCall.mk _ _ (r27_ok (n + 2) l _) ?_
  cases hm : mayF l with
  | false =>
    rw [show instR l bys = (noLv, 1) by unfold instR; rw [hm]; rfl]
    rfl
  | true =>
  refine f23_by (n + 2) _ l tok bys hlen2 _ _ bys 0 (n + 8) hlen (fun i => by rw [Nat.zero_add]) (by rw [Nat.zero_add]) ?_
  cases hall : bys.all mayF with
  | false =>
    rw [show instR l bys = (noLv, 1) by unfold instR; rw [hm, hall]; rfl]
    rfl
  | true =>
  refine WCall.mk _ _ (r33_ok (n + 7) _) ?_
  refine f23_at0 (n + 1) _ (n + 3) l tok bys _ _ { zeroLv with c := l.c } ?_
  cases hf : foldE (instStepR bys) l.ps 0 { zeroLv with c := l.c } with
  | mk ok out =>
  cases ok with
  | true =>
    refine WCall.mk _ _ (r76_ok (n + 1) out _) ?_
    rw [show instR l bys = toldF out by unfold instR; rw [hm, hall, hf]; rfl]
    rfl
  | false =>
    rw [show instR l bys = (noLv, 8) by unfold instR; rw [hm, hall, hf]; rfl]
    rfl

theorem r23_ok (n : Nat) (l : Lv) (tok : Tok) (bys : List Lv) (S : St) (hlen : bys.length < n + 8) (hlen2 : bys.length < 100) : run Try.cfg (n + 9) (.f 23) [enc l, encL tok bys] S = some (encR (instR l bys), S) := by
  have key : ∀ tk : Tok, (encL tok bys).strip = encL tk bys → run Try.cfg (n + 9) (.f 23) [enc l, encL tok bys] S = some (encR (instR l bys), S) := fun tk hs => by
    have h := r23_frame n l tk bys hlen hlen2
    rw [← hs] at h
    exact run_val h rfl rfl rfl rfl rfl
  cases tok with
  | no => exact key .no rfl
  | tight => exact key .tight rfl
  | own t => exact key .no rfl

end Go.Ev

/- Levels: the document's functions give what the program's give (own work). -/
namespace Go.Ev
open Go.Proofs Go.RowKit

theorem maxI_eq (x y : Int) : maxI x y = max x y := by unfold maxI; split <;> omega

theorem bothR_eq {a b : Lv} (ha : Wk a) (hb : Wk b) : bothR a b = joinF a b := by
  rw [joinW_eq ha hb]
  unfold bothR
  simp only [maxI_eq]

theorem toldF_eq (y : Lv) : toldF y = bif mayF (formF y) then (formF y, 0) else (noLv, 4) := rfl

theorem form_form {y : Lv} (hy : Wk y) : formF (formF y) = formF y := (formF_self (form_nf hy).2.1.1).2 (form_nf hy).1

theorem told_form {y : Lv} (hy : Wk y) : toldF (formF y) = toldF y := by rw [toldF_eq, toldF_eq, form_form hy]

theorem succR_eq (l : Lv) : succR l = succF l := by
  unfold succR succF
  cases h : mayF l with
  | false => rfl
  | true =>
    have hv := mayF_iff.1 h
    rw [plusR_eq, plusF_eq hv (by omega) (by unfold TOP; omega), told_form (plW hv (by omega) (by unfold TOP; omega)).1]

theorem maxR_eq (a b : Lv) : maxR a b = maxF a b := by
  unfold maxR maxF
  cases ha : mayF a with
  | false => rfl
  | true =>
    cases hb : mayF b with
    | false => rfl
    | true =>
      have va := mayF_iff.1 ha
      have vb := mayF_iff.1 hb
      rw [bothR_eq va.wk vb.wk, told_form (joinW va.wk vb.wk).1]

theorem not_apart {a b : Lv} (ha : Vd a) (hb : Vd b) (h : Le a b) : apartF a b = false := by
  have gz : Ge0 fz ∧ Le41 fz := by unfold Ge0 Le41 FAR; simp
  have g0 : Ge0 f0 ∧ Le41 f0 := by unfold Ge0 Le41 FAR; simp
  have g1 : Ge0 f1 ∧ Le41 f1 := by unfold Ge0 Le41 FAR; simp
  have g2 : Ge0 f2 ∧ Le41 f2 := by unfold Ge0 Le41 FAR; simp
  have g3 : Ge0 f3 ∧ Le41 f3 := by unfold Ge0 Le41 FAR; simp
  have k : ∀ q : P4, Ge0 q ∧ Le41 q → iLt (atF b q) (atF a q) = false := fun q hq => by
    rw [iLt_not, atF_eq ha hq.1 hq.2, atF_eq hb hq.1 hq.2]
    exact h.ev hq.1 hb.wk
  unfold apartF
  rw [k fz gz, k f0 g0, k f1 g1, k f2 g2, k f3 g3]
  rfl

theorem leqR_eq (a b : Lv) : leqR a b = leqF a b := by
  unfold leqR
  cases ha : mayF a with
  | false => unfold leqF; rw [ha]; rfl
  | true =>
    cases hb : mayF b with
    | false => unfold leqF; rw [ha, hb]; rfl
    | true =>
      have va := mayF_iff.1 ha
      have vb := mayF_iff.1 hb
      show (!apartF a b) = leqF a b
      cases h : leqF a b with
      | true => rw [not_apart va vb ((leqF_iff va vb).1 h)]; rfl
      | false => rw [apart_of va vb (fun hl => by rw [(leqF_iff va vb).2 hl] at h; cases h)]; rfl

/-! ### Inst -/

/-- The same at all numbers. -/
def Same (x y : Lv) : Prop := Wk x ∧ Wk y ∧ ∀ v, Ge0 v → ev x v = ev y v

theorem fold_same {bys : List Lv} (hb : ∀ b ∈ bys, Vd b) : ∀ (ps : List Int) (i : Int) (x y : Lv), (∀ p ∈ ps, p ≤ TOP) → Same x y →
    (∃ x' y', foldE (instStep bys) ps i x = (true, x') ∧ foldE (instStepR bys) ps i y = (true, y') ∧ Same x' y') ∨ (∃ x' y', foldE (instStep bys) ps i x = (false, x') ∧ foldE (instStepR bys) ps i y = (false, y'))
  | [], i, x, y, _, h => .inl ⟨x, y, rfl, rfl, h⟩
  | p :: ps, i, x, y, hp, h => by
    have hp' : ∀ q ∈ ps, q ≤ TOP := fun q hq => hp q (List.mem_cons_of_mem _ hq)
    rw [foldE_cons, foldE_cons]
    cases hq : iLt p 0 with
    | true => exact fold_same hb ps (i + 1) x y hp' h
    | false =>
      rw [iLt_not] at hq
      cases hg : bys[i.toNat]? with
      | none =>
        right
        refine ⟨x, y, ?_, ?_⟩
        · simp only [instStep, hg]
        · simp only [instStepR, hg]
      | some b =>
        have vb := hb b (List.mem_of_getElem? hg)
        have hpl := plW vb hq (hp p List.mem_cons_self)
        have e1 : instStep bys i p x = some (joinF x (pl b p)) := by
          simp only [instStep, hg]
          rw [plusF_eq vb hq (hp p List.mem_cons_self)]
        have hfp := form_nf hpl.1
        have e2 : instStepR bys i p y = some (formF (joinF y (formF (pl b p)))) := by
          simp only [instStepR, hg]
          rw [plusR_eq, plusF_eq vb hq (hp p List.mem_cons_self), bothR_eq h.2.1 hfp.2]
        rw [e1, e2]
        simp only
        obtain ⟨wx, wy, he⟩ := h
        have j1 := joinW wx hpl.1
        have j2 := joinW wy hfp.2
        refine fold_same hb ps (i + 1) _ _ hp' ⟨j1.1, (form_nf j2.1).2, fun v hv => ?_⟩
        rw [j1.2 v hv, ev_form j2.1 hv, j2.2 v hv, ev_form hpl.1 hv, he v hv]

theorem told_same {x y : Lv} (h : Same x y) : toldF x = toldF y := by
  obtain ⟨wx, wy, he⟩ := h
  have e : formF x = formF y := ev_ext (form_nf wx).2 (form_nf wy).2 (form_nf wx).1 (form_nf wy).1 (fun v hv => by rw [ev_form wx hv, ev_form wy hv, he v hv])
  rw [toldF_eq, toldF_eq, e]

theorem instR_eq (l : Lv) (bys : List Lv) : instR l bys = instF l bys := by
  unfold instR instF
  cases hm : (mayF l && bys.all mayF) with
  | false => rfl
  | true =>
    simp only [Bool.and_eq_true] at hm
    have vl := mayF_iff.1 hm.1
    have hb : ∀ b ∈ bys, Vd b := fun b hbm => mayF_iff.1 (List.all_eq_true.1 hm.2 b hbm)
    have hz : Wk { zeroLv with c := l.c } := by
      obtain ⟨w0, _⟩ := vl.wk
      exact ⟨w0, by simp, by simp, by simp, by simp⟩
    have hp : ∀ p ∈ l.ps, p ≤ TOP := by
      obtain ⟨a1, a2, a3, a4, a5, a6, a7⟩ := vl
      intro p h
      simp only [List.mem_cons, List.not_mem_nil, or_false] at h
      rcases h with rfl | rfl | rfl | rfl
      · exact a3.2
      · exact a4.2
      · exact a5.2
      · exact a6.2
    simp only
    rcases fold_same hb l.ps 0 { zeroLv with c := l.c } { zeroLv with c := l.c } hp ⟨hz, hz, fun _ _ => rfl⟩ with ⟨x, y, h1, h2, h3⟩ | ⟨x, y, h1, h2⟩
    · rw [h1, h2]
      exact (told_same h3).symm
    · rw [h1, h2]

end Go.Ev

/- Terms: Levels, the package's and the document's (written by tmr.py; own work). -/
namespace Go.Ev
open Go.Proofs
set_option maxRecDepth 100000
set_option linter.unusedSimpArgs false
set_option linter.unusedVariables false

/-- All nodes have few levels. -/
def FewL (x : Tm) : Prop := ∃ l d r, scanT few20 x l d = some r
theorem FewL.len {x : Tm} (h : FewL x) : x.ls.length < 1000000000 := by
  obtain ⟨l, d, r, h⟩ := h
  obtain ⟨_, _, _, _, hp, _⟩ := scanT_some h
  unfold few20 at hp
  have := Nat.le_of_ble_eq_true hp
  omega
theorem FewL.kid {x y : Tm} (h : FewL x) (hy : y ∈ x.ts) : FewL y := by
  obtain ⟨l, d, r, h⟩ := h
  obtain ⟨l', d', _, _, _, hts⟩ := scanT_some h
  obtain ⟨l2, r2, h2⟩ := scanTs_mem hts y hy
  exact ⟨l2, d', r2, h2⟩
theorem FewL.of {x : Tm} (h : deepT x = false) : FewL x := by
  unfold deepT at h
  cases hs : scanT few20 x 131072 8192 with
  | none => rw [hs] at h; cases h
  | some r => exact ⟨_, _, _, hs⟩

noncomputable def lvL (bys : List Lv) : List Lv → Except Int (List Lv)
  | [] => .ok []
  | l :: ls => match iEq (instF l bys).2 0 with
    | true => match lvL bys ls with
      | .ok out => .ok ((instF l bys).1 :: out)
      | .error e => .error e
    | false => .error (instF l bys).2

noncomputable def Tm.withL (x : Tm) (l : List Lv) (t : List Tm) : Tm := .mk x.k x.n x.s false l.isEmpty false t.isEmpty l t

mutual
noncomputable def lvT (bys : List Lv) : Tm → Except Int Tm
  | .mk k n s a b c d ls ts => match lvL bys ls with
    | .ok out => match lvTs bys ts with
      | .ok o2 => .ok (Tm.withL (.mk k n s a b c d ls ts) out o2)
      | .error e => .error e
    | .error e => .error e
noncomputable def lvTs (bys : List Lv) : List Tm → Except Int (List Tm)
  | [] => .ok []
  | t :: ts => match lvT bys t with
    | .ok x => match lvTs bys ts with
      | .ok out => .ok (x :: out)
      | .error e => .error e
    | .error e => .error e
end
theorem lvT_eq (bys : List Lv) (x : Tm) : lvT bys x = match lvL bys x.ls with
    | .ok out => match lvTs bys x.ts with
      | .ok o2 => .ok (x.withL out o2)
      | .error e => .error e
    | .error e => .error e := by cases x; rw [lvT]; rfl
theorem lvTs_cons (bys : List Lv) (t : Tm) (ts : List Tm) : lvTs bys (t :: ts) = match lvT bys t with
    | .ok x => match lvTs bys ts with
      | .ok out => .ok (x :: out)
      | .error e => .error e
    | .error e => .error e := by rw [lvTs]

noncomputable def exP (r : Except Int Tm) : Tm × Int := match r with
  | .ok x => (x, 0)
  | .error e => (zTm, e)

@[reducible] noncomputable def cells2 (r : Tm) (tl tt : Tok) : List V := [.int .u8 r.k, .int .i64 r.n, .str r.s, .list (szOf r.a r.ls) tl 0 (r.ls.map enc), .list (szOf r.c r.ts) tt 0 (encTs r.ts)]

theorem strip_own (sz : Nat) (tk : Tok) (top : Nat) (rows : List V) : cellStrip (.list sz tk top rows) = .list sz (strTok tk) top rows := by cases tk <;> rfl

theorem strip_enc2 (r : Tm) (tl tt : Tok) (hl : strTok tl = tkOf r.b) (ht : strTok tt = tkOf r.d) : V.agg (mapN cellStrip (cells2 r tl tt)) = encA r := by
  show V.agg [_, _, _, cellStrip (.list _ tl 0 _), cellStrip (.list _ tt 0 _)] = _
  rw [strip_own, strip_own, hl, ht]
  rfl

/-! ### appending levels -/

theorem map_app (l m : List Lv) : (l ++ m).map enc = appN (l.map enc) (m.map enc) := by rw [appN_eq, List.map_append]
theorem map_len (l : List Lv) : lenN (l.map enc) = l.length := by rw [lenN_eq, List.length_map]

theorem app25' {A : Env} {H : List Blk} {T0 T : List Nat} {ac : Acc} {done : List Lv} {tok : Tok} (r : Lv) (hac : ac.heap = true) (hg : GrowsT T0 T done tok) (hlen : done.length < 1000000000) :
    ∃ T' tok', append Try.cfg A { heap := H, toks := T } ac 25 (.list (szOf false done) tok 0 (done.map enc)) (.list 5 .tight 0 [enc r]) = some (.list (szOf false (done ++ [r])) tok' 0 ((done ++ [r]).map enc), { heap := H, toks := T' }) ∧
      GrowsT T0 T' (done ++ [r]) tok' := by
  obtain ⟨h0, hg⟩ := hg
  rcases hg with ⟨rfl, rfl⟩ | ⟨t, rfl, h1, h2, h3⟩
  · refine ⟨appN T [1], .own (lenN T), ?_, ⟨?_, ?_⟩, .inr ⟨_, rfl, ?_, ?_, by simp⟩⟩
    · show (ite _ _ _) = _
      refine (if_pos ?_).trans ?_
      · exact (⟨by omega, .inl rfl, by omega, hac⟩ : 0 < 5 ∧ (true = true ∨ 0 = 5) ∧ (0 + 1) * 41 ≤ 140737488355328 ∧ ac.heap = true)
      · rfl
    · rw [appN_eq]; have := h0.1; simp; omega
    · intro t v hv
      have hv' := h0.2 t v hv
      rw [nth_eq] at hv'
      rw [appN_eq, nth_eq, List.getElem?_append_left (List.getElem?_eq_some_iff.1 hv').1]; exact hv'
    · rw [lenN_eq]; exact h0.1
    · rw [appN_eq, nth_eq, lenN_eq, List.getElem?_append_right (Nat.le_refl _), Nat.sub_self]; rfl
  · have hne : (done.map enc).isEmpty = false := by
      cases done with
      | nil => exact absurd rfl h3
      | cons d ds => rfl
    have hsz : szOf false done = 5 := by
      cases done with
      | nil => exact absurd rfl h3
      | cons d ds => rfl
    have hsz2 : szOf false (done ++ [r]) = 5 := by
      cases done with
      | nil => exact absurd rfl h3
      | cons d ds => rfl
    refine ⟨setN T t (lenN (done.map enc) + 1), .own t, ?_, ⟨?_, ?_⟩, .inr ⟨t, rfl, h1, ?_, by simp⟩⟩
    · rw [hsz, hsz2]
      show (ite _ _ _) = _
      refine (if_pos ?_).trans ?_
      · exact (⟨by omega, .inr rfl, by rw [map_len]; omega, hac⟩ : 0 < 5 ∧ ((done.map enc).isEmpty = true ∨ 5 = 5) ∧ (lenN (done.map enc) + 1) * 41 ≤ 140737488355328 ∧ ac.heap = true)
      show (ite _ _ _) = _
      refine (if_pos ?_).trans ?_
      · show nth T t = some (lenN (done.map enc))
        rw [map_len]; exact h2
      · rw [map_app]
        rfl
    · rw [setN_eq, List.length_set]; exact h0.1
    · intro t' v hv
      have := nth_len hv
      rw [setN_eq, nth_eq, List.getElem?_set_ne (by omega), ← nth_eq]; exact h0.2 t' v hv
    · rw [setN_eq, nth_eq, List.getElem?_set_self (by exact nth_len h2), map_len]; simp

theorem stripAll_2 (r : Tm) (tl tt : Tok) (hl : strTok tl = tkOf r.b) (ht : strTok tt = tkOf r.d) (e : Int) : (V.tuple [.agg (cells2 r tl tt), .int .i64 e]).stripAll = encP2 (r, e) := by
  show V.tuple [V.agg (mapN cellStrip (cells2 r tl tt)), _] = _
  rw [strip_enc2 r tl tt hl ht]
  rfl

@[reducible] noncomputable def moreL : Option (Lv × Lv) → List (Nat × List V)
  | none => []
  | some p => [(8, cellsOf p.1), (9, cellsOf p.2)]
@[reducible] noncomputable def moreT : Option (Tm × Tm) → List (Nat × List V)
  | none => []
  | some p => [(13, cellsT p.1), (14, cellsT p.2)]
@[reducible] noncomputable def moreL1 : Option Lv → List (Nat × List V)
  | none => []
  | some p => [(8, cellsOf p)]
@[reducible] noncomputable def moreT1 : Option Tm → List (Nat × List V)
  | none => []
  | some p => [(12, cellsT p)]

theorem list_app (l : List (Nat × List V)) : l ++ [] = l := List.append_nil l

/-! ### the package's levels -/

noncomputable def f109L : Code := loopN Try.f109 0
noncomputable def f109M : Code := loopN Try.f109 1

theorem f109_ls (n k : Nat) (t : Tm) (bys : List Lv) (tb : Tok) (hb : bys.length < 40) (hn : 50 ≤ n) (hlen : t.ls.length < 1000000000) (T0 : List Nat) (K : Ex → Env → St → Prop) :
    ∀ (rem : List Lv) (j f : Nat) (done : List Lv) (T : List Nat) (tok : Tok) (o : Option (Lv × Lv)), rem.length < f → (∀ i, rem[i]? = t.ls[j + i]?) → j + rem.length = t.ls.length → j = done.length → GrowsT T0 T done tok →
    (∀ out, lvL bys rem = .ok out → ∀ T' tok' o, GrowsT T0 T' (done ++ out) tok' → K (.exit 0) { nt := 65, tmps := [(1, encL tb bys), (2, .ptr (.loc 2) 0), (4, .ptr (.loc 4) 0), (6, .list (szOf false (done ++ out)) tok' 0 ((done ++ out).map enc)), (17, .list (szOf t.a t.ls) (tkOf t.b) 0 (t.ls.map enc)), (18, .int .i64 (.ofNat (lenN (t.ls.map enc)))), (19, .int .i64 (.ofNat t.ls.length)), (20, .bool false)], locs := (2, cellsT t) :: (4, zeroT) :: moreL o, fix := [] } { heap := [], toks := T' }) →
    (∀ e, lvL bys rem = .error e → ∀ T' o, K .ret { nt := 65, tmps := [(4, .ptr (.loc 4) 0), (5, .int .i64 e)], locs := (2, cellsT t) :: (4, zeroT) :: moreL o, fix := [] } { heap := [], toks := T' }) →
    WCode (iter (evalCode Try.cfg (run Try.cfg n) k 109 (Try.cfg.fc 109) f109L) f { nt := 65, tmps := [(1, encL tb bys), (2, .ptr (.loc 2) 0), (4, .ptr (.loc 4) 0), (6, .list (szOf false done) tok 0 (done.map enc)), (17, .list (szOf t.a t.ls) (tkOf t.b) 0 (t.ls.map enc)), (18, .int .i64 (.ofNat (lenN (t.ls.map enc)))), (19, .int .i64 (.ofNat j))], locs := (2, cellsT t) :: (4, zeroT) :: moreL o, fix := [] } { heap := [], toks := T }) K := by
  intro rem
  induction rem with
  | nil =>
    intro j f done T tok o hf hr hj hjd hg hK hE
    obtain ⟨f, rfl⟩ : ∃ g, f = g + 1 := ⟨f - 1, by simp only [List.length_nil] at hf; omega⟩
    have hjl : j = t.ls.length := by simpa using hj
    subst hjl
    have hK := hK [] rfl T tok o (by simpa using hg)
    simp only [List.append_nil] at hK
    cases o
    all_goals
      refine WCode.round (nt := 65) (fx := []) ?_
      refine WCmp.no (geLenL (by omega)) ?_
      exact hK
  | cons x rem ih =>
    intro j f done T tok o hf hr hj hjd hg hK hE
    obtain ⟨f, rfl⟩ : ∃ g, f = g + 1 := ⟨f - 1, by simp only [List.length_cons] at hf; omega⟩
    have hbx : t.ls[j]? = some x := by have := hr 0; simpa using this.symm
    have hjl : j < t.ls.length := (List.getElem?_eq_some_iff.1 hbx).1
    have h22 : ∀ S, run Try.cfg n (.f 22) [enc x, encL tb bys] S = some (encR (instF x bys), S) := fun S => by
      obtain ⟨m, hm⟩ : ∃ m, n = m + 11 := ⟨n - 11, by omega⟩
      rw [hm]
      exact f22_ok m x tb bys S (by omega) (by omega)
    rw [lvL] at hK hE
    cases o
    all_goals
      refine WCode.round (nt := 65) (fx := []) ?_
      refine WCmp.yes (ltLenL hjl) ?_
      refine WOut.mk _ (index25' hbx) ?_
      refine WCall.mk _ _ (h22 _) ?_
      refine WCmp.mk (fun h => ?_) (fun h => ?_)
      · simp only [Bool.not_eq_true'] at h
        rw [h] at hE
        exact hE _ rfl T (some (x, (instF x bys).1))
      · simp only [Bool.not_eq_false'] at h
        rw [h] at hK hE
        obtain ⟨T2, tok2, hap, hg2⟩ := app25' (A := { nt := 0, tmps := [], locs := [], fix := [] }) (H := []) (ac := .any) (instF x bys).1 rfl hg (by omega)
        refine WApp.mk _ _ ((append_env rfl).trans hap) ?_
        refine WOut.mk _ (addOne (T := 3) (j := j) (by omega)) ?_
        refine ih (j + 1) f (done ++ [(instF x bys).1]) T2 tok2 (some (x, (instF x bys).1)) (by simp only [List.length_cons] at hf; omega) (fun i => by have := hr (i + 1); simp only [List.getElem?_cons_succ] at this; rw [this]; congr 1; omega) (by simp only [List.length_cons] at hj; omega) (by simp [hjd]) hg2 ?_ ?_
        · intro out ho T' tok' o' hg'
          rw [← List.append_cons] at hg' ⊢
          exact hK _ (by rw [ho]) T' tok' o' hg'
        · intro e ho T' o'
          exact hE e (by rw [ho]) T' o'

theorem f109_ts (n k : Nat) (t : Tm) (bys : List Lv) (tb : Tok) (L : List Lv) (tl : Tok) (oL : Option (Lv × Lv)) (hlen : t.ts.length < 1000000000) (T0 : List Nat) (K : Ex → Env → St → Prop)
    (hrec : ∀ y ∈ t.ts, ∀ S, run Try.cfg n (.f 109) [encA y, encL tb bys] S = some (encP2 (exP (lvT bys y)), S)) (herr : ∀ y e, lvT bys y = .error e → iEq e 0 = false) :
    ∀ (rem : List Tm) (j f : Nat) (done : List Tm) (T : List Nat) (tok : Tok) (o : Option (Tm × Tm)), rem.length < f → (∀ i, rem[i]? = t.ts[j + i]?) → j + rem.length = t.ts.length → j = done.length → GrowsT T0 T done tok →
    (∀ out, lvTs bys rem = .ok out → ∀ T' tok' o, GrowsT T0 T' (done ++ out) tok' → K (.exit 2) { nt := 65, tmps := [(1, encL tb bys), (2, .ptr (.loc 2) 0), (4, .ptr (.loc 4) 0), (6, .list (szOf false L) tl 0 (L.map enc)), (11, .list (szOf false (done ++ out)) tok' 0 (encTs (done ++ out))), (39, .list (szOf t.c t.ts) (tkOf t.d) 0 (encTs t.ts)), (40, .int .i64 (.ofNat (lenN (encTs t.ts)))), (41, .int .i64 (.ofNat t.ts.length)), (42, .bool false)], locs := (2, cellsT t) :: (4, zeroT) :: (moreL oL ++ moreT o), fix := [] } { heap := [], toks := T' }) →
    (∀ e, lvTs bys rem = .error e → ∀ T' o, K .ret { nt := 65, tmps := [(4, .ptr (.loc 4) 0), (5, .int .i64 e)], locs := (2, cellsT t) :: (4, zeroT) :: (moreL oL ++ moreT o), fix := [] } { heap := [], toks := T' }) →
    WCode (iter (evalCode Try.cfg (run Try.cfg n) k 109 (Try.cfg.fc 109) f109M) f { nt := 65, tmps := [(1, encL tb bys), (2, .ptr (.loc 2) 0), (4, .ptr (.loc 4) 0), (6, .list (szOf false L) tl 0 (L.map enc)), (11, .list (szOf false done) tok 0 (encTs done)), (39, .list (szOf t.c t.ts) (tkOf t.d) 0 (encTs t.ts)), (40, .int .i64 (.ofNat (lenN (encTs t.ts)))), (41, .int .i64 (.ofNat j))], locs := (2, cellsT t) :: (4, zeroT) :: (moreL oL ++ moreT o), fix := [] } { heap := [], toks := T }) K
  | [], j, f + 1, done, T, tok, o, hf, hr, hj, hjd, hg, hK, hE => by
    have hjl : j = t.ts.length := by simpa using hj
    subst hjl
    have hK := hK [] (by rw [lvTs]) T tok o (by simpa using hg)
    simp only [List.append_nil] at hK
    cases oL <;> cases o
    all_goals
      refine WCode.round (nt := 65) (fx := []) ?_
      refine WCmp.no (geLen (by omega)) ?_
      exact hK
  | y :: rem, j, f + 1, done, T, tok, o, hf, hr, hj, hjd, hg, hK, hE => by
    have hby : t.ts[j]? = some y := by have := hr 0; simpa using this.symm
    have hjl : j < t.ts.length := (List.getElem?_eq_some_iff.1 hby).1
    have hy := fun S => hrec y (List.mem_of_getElem? hby) S
    rw [lvTs_cons] at hK hE
    cases hly : lvT bys y with
    | error e =>
      rw [hly] at hK hE hy
      have he := herr y e hly
      cases oL <;> cases o
      all_goals
        refine WCode.round (nt := 65) (fx := []) ?_
        refine WCmp.yes (ltLen hjl) ?_
        refine WOut.mk _ (index44 hby) ?_
        refine WCall.mk _ _ (hy _) ?_
        refine WCmp.yes (by show (!iEq e 0) = true; rw [he]; rfl) ?_
        exact hE e rfl T (some (y, zTm))
    | ok z =>
      rw [hly] at hK hE hy
      obtain ⟨T2, tok2, hap, hg2⟩ := app44' (A := { nt := 0, tmps := [], locs := [], fix := [] }) (H := []) (ac := .any) rfl hg (by omega) (strip_encA z)
      have hIH := fun h1 h2 => f109_ts n k t bys tb L tl oL hlen T0 K hrec herr rem (j + 1) f (done ++ [z]) T2 tok2 (some (y, z)) (by simp only [List.length_cons] at hf; omega) (fun i => by have := hr (i + 1); simp only [List.getElem?_cons_succ] at this; rw [this]; congr 1; omega) (by simp only [List.length_cons] at hj; omega) (by simp [hjd]) hg2 h1 h2
      cases oL <;> cases o
      all_goals
        refine WCode.round (nt := 65) (fx := []) ?_
        refine WCmp.yes (ltLen hjl) ?_
        refine WOut.mk _ (index44 hby) ?_
        refine WCall.mk _ _ (hy _) ?_
        refine WCmp.no rfl ?_
        refine WApp.mk _ _ ((append_env rfl).trans hap) ?_
        refine WOut.mk _ (addOne (T := 3) (j := j) (by omega)) ?_
        refine hIH ?_ ?_
        · intro out ho T' tok' o' hg'
          rw [← List.append_cons] at hg' ⊢
          exact hK _ (by rw [ho]) T' tok' o' hg'
        · intro e ho T' o'
          exact hE e (by rw [ho]) T' o'

theorem lvL_err {bys : List Lv} : ∀ {ls : List Lv} {e : Int}, lvL bys ls = .error e → iEq e 0 = false
  | [], e, h => by cases h
  | l :: ls, e, h => by
    rw [lvL] at h
    split at h
    · split at h
      · cases h
      · rename_i h2; cases h; exact lvL_err h2
    · rename_i h1; cases h; exact h1

theorem lvT_err {bys : List Lv} (x : Tm) : ∀ {e : Int}, lvT bys x = .error e → iEq e 0 = false := by
  induction x using Tm.ind with
  | h x ih =>
    intro e h
    have key : ∀ (ts : List Tm), (∀ y ∈ ts, y ∈ x.ts) → ∀ {e}, lvTs bys ts = .error e → iEq e 0 = false := by
      intro ts
      induction ts with
      | nil => intro _ e h; rw [lvTs] at h; cases h
      | cons t ts ih2 =>
        intro hm e h
        rw [lvTs_cons] at h
        split at h
        · split at h
          · cases h
          · rename_i h2; cases h; exact ih2 (fun y hy => hm y (List.mem_cons_of_mem _ hy)) h2
        · rename_i h2; cases h; exact ih t (hm t List.mem_cons_self) h2
    rw [lvT_eq] at h
    split at h
    · split at h
      · cases h
      · rename_i h2; cases h; exact key x.ts (fun _ h => h) h2
    · rename_i h2; cases h; exact lvL_err h2

theorem GrowsT.base {α : Type} {T0 T T' : List Nat} {done : List α} {tok : Tok} (h : GrowsT T0 T done tok) : ExtT T0 T := h.1

theorem f109_ok (bys : List Lv) (hb : bys.length < 40) : ∀ (n : Nat) (t : Tm) (tb : Tok) (S : St), Sm t → FewL t → sizeT t < 1000000000 → wt t < n → run Try.cfg (n + 50) (.f 109) [encA t, encL tb bys] S = some (encP2 (exP (lvT bys t)), S)
  | 0, t, tb, S, _, _, _, h => by omega
  | n + 1, t, tb, S, hsm, hfl, hsz, h => by
    rw [show n + 1 + 50 = n + 50 + 1 by omega]
    have hls := hfl.len
    have hw := wt_eq t
    have hwl := wts_len t.ts
    have hlen : t.ts.length < 1000000000 := by have := sizeTs_len t.ts; rw [sizeT_eq] at hsz; omega
    have key : ∀ tb : Tok, ∃ r, frame Try.cfg (run Try.cfg (n + 50)) (n + 50) 109 [encA t, encL tb bys] St.empty = some r ∧ ∃ v S', r = (v, S') ∧ v.stripAll = encP2 (exP (lvT bys t)) ∧ frz { nt := 0, tmps := [], locs := [], fix := [] } S' .any v = some v ∧ isZero v.lvl = true := by
      intro tb
      refine frame_some (fn := Try.f109) rfl rfl ?_
      rw [lvT_eq]
      refine f109_ls (n + 50) (n + 50) t bys tb hb (by omega) hls [] _ t.ls 0 (n + 50) [] [] .tight none (by omega) (fun i => by rw [Nat.zero_add]) (by rw [Nat.zero_add]) rfl (GrowsT.start []) ?_ ?_
      · intro L hL T' tl oL hg
        simp only [List.nil_append] at hg ⊢
        rw [hL]
        have hstl := hg.strTok
        have hrec : ∀ y ∈ t.ts, ∀ S, run Try.cfg (n + 50) (.f 109) [encA y, encL tb bys] S = some (encP2 (exP (lvT bys y)), S) := fun y hy S =>
          f109_ok bys hb n y tb S (((Sm_iff t).1 hsm).2 y hy) (hfl.kid hy) (by have := kid_size hy; omega) (by have := wt_kid hy; omega)
        have hgo := fun K => f109_ts (n + 50) (n + 50) t bys tb L tl oL hlen T' K hrec (fun y e he => lvT_err y he) t.ts 0 (n + 50) [] T' .tight none (by omega) (fun i => by rw [Nat.zero_add]) (by rw [Nat.zero_add]) rfl (GrowsT.start T')
        rcases hg.2 with ⟨hl0, rfl⟩ | ⟨t0, rfl, _⟩
        all_goals
          cases oL
          all_goals
            refine hgo _ ?_ ?_
            · intro out ho T2 tt o2 hg2
              simp only [List.nil_append] at hg2 ⊢
              rw [ho]
              have hstt := hg2.strTok
              rcases hg2.2 with ⟨hl2, rfl⟩ | ⟨t2, rfl, _⟩
              all_goals
                cases o2
                all_goals exact ⟨_, rfl, .tuple [.agg (cells2 (t.withL L out) _ _), .int .i64 0], _, rfl, stripAll_2 (t.withL L out) _ _ hstl hstt 0, rfl, rfl⟩
            · intro e ho T2 o2
              rw [ho]
              cases o2
              all_goals exact ⟨_, rfl, _, _, rfl, stripAll_P2 (zTm, e), rfl, rfl⟩
      · intro e he T' o
        rw [he]
        cases o
        all_goals exact ⟨_, rfl, _, _, rfl, stripAll_P2 (zTm, e), rfl, rfl⟩
    obtain ⟨r, h1, v, S', rfl, h2, h3, h4⟩ := key (strTok tb)
    refine run_val (v' := v) ?_ rfl ?_ h3 h4 h2
    · rw [show mapN V.strip [encA t, encL tb bys] = [encA t, encL (strTok tb) bys] by rw [strips_t]; cases tb <;> rfl]
      exact h1
    · cases tb <;> rfl

/-! ### the package's Levels -/

noncomputable def levM (t : Tm) (bys : List Lv) : Tm × Int := match mayT t with | true => exP (lvT bys t) | false => (zTm, 1)

theorem f71_ok (n : Nat) (t : Tm) (bys : List Lv) (tb : Tok) (S : St) (hb : bys.length < 40) (hsm : Sm t) (hfl : FewL t) (hsz : sizeT t < 1000000000) (h : wt t < n) : run Try.cfg (n + 51) (.f 71) [encA t, encL tb bys] S = some (encP2 (levM t bys), S) := by
  have hw := wt_eq t
  have : ∀ tb, frame Try.cfg (run Try.cfg (n + 50)) (n + 50) 71 [encA t, encL tb bys] St.empty = some (encP2 (levM t bys), St.empty) := by
    intro tb
    refine frame_of Try.cfg _ (fn := Try.f71) rfl rfl ?_
    unfold levM
    refine WCall.mkB (f84_ok (n + 37) t _ hsm (by omega)) (fun hm => ?_) (fun hm => ?_)
    · rw [hm]
      refine WCall.mk _ _ (f109_ok bys hb n t tb _ hsm hfl hsz h) ?_
      rfl
    · rw [hm]; rfl
  have hs : mapN V.strip [encA t, encL tb bys] = [encA t, encL (strTok tb) bys] := by rw [strips_t]; cases tb <;> rfl
  have h2 := this (strTok tb)
  rw [← hs] at h2
  refine run_val h2 rfl ?_ rfl rfl (stripAll_P2 _)
  cases tb <;> rfl

/-! ### the document's Levels -/

noncomputable def Tm.withLs (x : Tm) (l : List Lv) : Tm := .mk x.k x.n x.s false l.isEmpty x.c x.d l x.ts

@[reducible] noncomputable def cellsL (x : Tm) (L : List Lv) (tl : Tok) : List V := [.int .u8 x.k, .int .i64 x.n, .str x.s, .list (szOf false L) tl 0 (L.map enc), .list (szOf x.c x.ts) (tkOf x.d) 0 (encTs x.ts)]

theorem strip_encL (x : Tm) (L : List Lv) (tl : Tok) (h : strTok tl = tkOf L.isEmpty) : V.agg (mapN cellStrip (cellsL x L tl)) = encA (x.withLs L) := by
  show V.agg [_, _, _, cellStrip (.list _ tl 0 _), cellStrip (.list _ (tkOf x.d) 0 _)] = _
  rw [strip_own, strip_tk, h]
  rfl

theorem r104_ok2 (n : Nat) (x : Tm) (L : List Lv) (tl : Tok) (hl : strTok tl = tkOf L.isEmpty) (out : List Tm) (tok : Tok) (ht : strTok tok = tkOf out.isEmpty) (S : St) :
    run Try.cfg (n + 1) (.f 104) [.agg (cellsL x L tl), .list (szOf false out) tok 0 (encTs out)] S = some (encA (x.withL L out), S) := by
  have : frame Try.cfg (run Try.cfg n) n 104 [encA (x.withLs L), .list (szOf false out) (tkOf out.isEmpty) 0 (encTs out)] St.empty = some (.agg (cellsR (x.withL L out) (tkOf out.isEmpty)), St.empty) := by
    refine frame_of Try.cfg _ (fn := Try.f104) rfl rfl ?_
    rfl
  have hs : mapN V.strip [V.agg (cellsL x L tl), .list (szOf false out) tok 0 (encTs out)] = [encA (x.withLs L), .list (szOf false out) (tkOf out.isEmpty) 0 (encTs out)] := by
    show [V.agg (mapN cellStrip (cellsL x L tl)), cellStrip (.list (szOf false out) tok 0 (encTs out))] = _
    rw [strip_encL x L tl hl, strip_own, ht]
  refine run_val (v' := .agg (cellsR (x.withL L out) (tkOf out.isEmpty))) (by rw [hs]; exact this) rfl rfl rfl rfl ?_
  exact strip_encR (x.withL L out) _ (strTok_tk _)

noncomputable def f72L : Code := loopN Try.f72 0
noncomputable def f72M : Code := loopN Try.f72 1

theorem r72_ls (n k : Nat) (t : Tm) (bys : List Lv) (tb : Tok) (hb : bys.length < 40) (hn : 50 ≤ n) (hlen : t.ls.length < 1000000000) (T0 : List Nat) (K : Ex → Env → St → Prop) :
    ∀ (rem : List Lv) (j f : Nat) (done : List Lv) (T : List Nat) (tok : Tok) (o : Option Lv), rem.length < f → (∀ i, rem[i]? = t.ls[j + i]?) → j + rem.length = t.ls.length → j = done.length → GrowsT T0 T done tok →
    (∀ out, lvL bys rem = .ok out → ∀ T' tok' o, GrowsT T0 T' (done ++ out) tok' → K (.exit 0) { nt := 69, tmps := [(1, encL tb bys), (2, .ptr (.loc 2) 0), (4, .ptr (.loc 4) 0), (6, .list (szOf false (done ++ out)) tok' 0 ((done ++ out).map enc)), (7, .int .i64 (.ofNat t.ls.length)), (18, .bool false)], locs := (2, cellsT t) :: (4, zeroT) :: moreL1 o, fix := [] } { heap := [], toks := T' }) →
    (∀ e, lvL bys rem = .error e → ∀ T' o, K .ret { nt := 69, tmps := [(4, .ptr (.loc 4) 0), (5, .int .i64 e)], locs := (2, cellsT t) :: (4, zeroT) :: moreL1 o, fix := [] } { heap := [], toks := T' }) →
    WCode (iter (evalCode Try.cfg (run Try.cfg n) k 72 (Try.cfg.fc 72) f72L) f { nt := 69, tmps := [(1, encL tb bys), (2, .ptr (.loc 2) 0), (4, .ptr (.loc 4) 0), (6, .list (szOf false done) tok 0 (done.map enc)), (7, .int .i64 (.ofNat j))], locs := (2, cellsT t) :: (4, zeroT) :: moreL1 o, fix := [] } { heap := [], toks := T }) K
  | [], j, f + 1, done, T, tok, o, hf, hr, hj, hjd, hg, hK, hE => by
    have hjl : j = t.ls.length := by simpa using hj
    subst hjl
    have hK := hK [] rfl T tok o (by simpa using hg)
    simp only [List.append_nil] at hK
    cases o
    all_goals
      refine WCode.round (nt := 69) (fx := []) ?_
      refine WCmp.no (geLenL (by omega)) ?_
      exact hK
  | x :: rem, j, f + 1, done, T, tok, o, hf, hr, hj, hjd, hg, hK, hE => by
    have hbx : t.ls[j]? = some x := by have := hr 0; simpa using this.symm
    have hjl : j < t.ls.length := (List.getElem?_eq_some_iff.1 hbx).1
    have h23 : ∀ S, run Try.cfg n (.f 23) [enc x, encL tb bys] S = some (encR (instF x bys), S) := fun S => by
      obtain ⟨m, hm⟩ : ∃ m, n = m + 9 := ⟨n - 9, by omega⟩
      rw [hm, r23_ok m x tb bys S (by omega) (by omega), instR_eq]
    rw [lvL] at hK hE
    cases o
    all_goals
      refine WCode.round (nt := 69) (fx := []) ?_
      refine WCmp.yes (ltLenL hjl) ?_
      refine WOut.mk _ (index25' hbx) ?_
      refine WCall.mk _ _ (h23 _) ?_
      refine WCmp.mk (fun h => ?_) (fun h => ?_)
      · simp only [Bool.not_eq_true'] at h
        rw [h] at hE
        exact hE _ rfl T (some (instF x bys).1)
      · simp only [Bool.not_eq_false'] at h
        rw [h] at hK hE
        obtain ⟨T2, tok2, hap, hg2⟩ := app25' (A := { nt := 0, tmps := [], locs := [], fix := [] }) (H := []) (ac := .any) (instF x bys).1 rfl hg (by omega)
        refine WApp.mk _ _ ((append_env rfl).trans hap) ?_
        refine WOut.mk _ (addOne (T := 3) (j := j) (by omega)) ?_
        refine r72_ls n k t bys tb hb hn hlen T0 K rem (j + 1) f (done ++ [(instF x bys).1]) T2 tok2 (some (instF x bys).1) (by simp only [List.length_cons] at hf; omega) (fun i => by have := hr (i + 1); simp only [List.getElem?_cons_succ] at this; rw [this]; congr 1; omega) (by simp only [List.length_cons] at hj; omega) (by simp [hjd]) hg2 ?_ ?_
        · intro out ho T' tok' o' hg'
          rw [← List.append_cons] at hg' ⊢
          exact hK _ (by rw [ho]) T' tok' o' hg'
        · intro e ho T' o'
          exact hE e (by rw [ho]) T' o'

theorem r72_ts (n k : Nat) (t : Tm) (bys : List Lv) (tb : Tok) (L : List Lv) (tl : Tok) (oL : Option Lv) (hlen : t.ts.length < 1000000000) (T0 : List Nat) (K : Ex → Env → St → Prop)
    (hrec : ∀ y ∈ t.ts, ∀ S, run Try.cfg n (.f 72) [encA y, encL tb bys] S = some (encP2 (exP (lvT bys y)), S)) :
    ∀ (rem : List Tm) (j f : Nat) (done : List Tm) (T : List Nat) (tok : Tok) (o : Option Tm), rem.length < f → (∀ i, rem[i]? = t.ts[j + i]?) → j + rem.length = t.ts.length → j = done.length → GrowsT T0 T done tok →
    (∀ out, lvTs bys rem = .ok out → ∀ T' tok' o, GrowsT T0 T' (done ++ out) tok' → K (.exit 2) { nt := 69, tmps := [(1, encL tb bys), (2, .ptr (.loc 2) 0), (4, .ptr (.loc 4) 0), (10, .list (szOf false (done ++ out)) tok' 0 (encTs (done ++ out))), (11, .int .i64 (.ofNat t.ts.length)), (45, .bool false)], locs := (2, cellsL t L tl) :: (4, zeroT) :: (moreL1 oL ++ moreT1 o), fix := [] } { heap := [], toks := T' }) →
    (∀ e, lvTs bys rem = .error e → ∀ T' o, K .ret { nt := 69, tmps := [(4, .ptr (.loc 4) 0), (5, .int .i64 e)], locs := (2, cellsL t L tl) :: (4, zeroT) :: (moreL1 oL ++ moreT1 o), fix := [] } { heap := [], toks := T' }) →
    WCode (iter (evalCode Try.cfg (run Try.cfg n) k 72 (Try.cfg.fc 72) f72M) f { nt := 69, tmps := [(1, encL tb bys), (2, .ptr (.loc 2) 0), (4, .ptr (.loc 4) 0), (10, .list (szOf false done) tok 0 (encTs done)), (11, .int .i64 (.ofNat j))], locs := (2, cellsL t L tl) :: (4, zeroT) :: (moreL1 oL ++ moreT1 o), fix := [] } { heap := [], toks := T }) K
  | [], j, f + 1, done, T, tok, o, hf, hr, hj, hjd, hg, hK, hE => by
    have hjl : j = t.ts.length := by simpa using hj
    subst hjl
    have hK := hK [] (by rw [lvTs]) T tok o (by simpa using hg)
    simp only [List.append_nil] at hK
    cases oL <;> cases o
    all_goals
      refine WCode.round (nt := 69) (fx := []) ?_
      refine WCmp.no (geLen (by omega)) ?_
      exact hK
  | y :: rem, j, f + 1, done, T, tok, o, hf, hr, hj, hjd, hg, hK, hE => by
    have hby : t.ts[j]? = some y := by have := hr 0; simpa using this.symm
    have hjl : j < t.ts.length := (List.getElem?_eq_some_iff.1 hby).1
    have hy := fun S => hrec y (List.mem_of_getElem? hby) S
    rw [lvTs_cons] at hK hE
    cases hly : lvT bys y with
    | error e =>
      rw [hly] at hK hE hy
      have he := lvT_err y hly
      cases oL <;> cases o
      all_goals
        refine WCode.round (nt := 69) (fx := []) ?_
        refine WCmp.yes (ltLen hjl) ?_
        refine WOut.mk _ (index44 hby) ?_
        refine WCall.mk _ _ (hy _) ?_
        refine WCmp.yes (by show (!iEq e 0) = true; rw [he]; rfl) ?_
        exact hE e rfl T (some zTm)
    | ok z =>
      rw [hly] at hK hE hy
      obtain ⟨T2, tok2, hap, hg2⟩ := app44' (A := { nt := 0, tmps := [], locs := [], fix := [] }) (H := []) (ac := .any) rfl hg (by omega) (strip_encA z)
      have hIH := fun h1 h2 => r72_ts n k t bys tb L tl oL hlen T0 K hrec rem (j + 1) f (done ++ [z]) T2 tok2 (some z) (by simp only [List.length_cons] at hf; omega) (fun i => by have := hr (i + 1); simp only [List.getElem?_cons_succ] at this; rw [this]; congr 1; omega) (by simp only [List.length_cons] at hj; omega) (by simp [hjd]) hg2 h1 h2
      cases oL <;> cases o
      all_goals
        refine WCode.round (nt := 69) (fx := []) ?_
        refine WCmp.yes (ltLen hjl) ?_
        refine WOut.mk _ (index44 hby) ?_
        refine WCall.mk _ _ (hy _) ?_
        refine WCmp.no rfl ?_
        refine WApp.mk _ _ ((append_env rfl).trans hap) ?_
        refine WOut.mk _ (addOne (T := 3) (j := j) (by omega)) ?_
        refine hIH ?_ ?_
        · intro out ho T' tok' o' hg'
          rw [← List.append_cons] at hg' ⊢
          exact hK _ (by rw [ho]) T' tok' o' hg'
        · intro e ho T' o'
          exact hE e (by rw [ho]) T' o'

theorem r72_ok (bys : List Lv) (hb : bys.length < 40) : ∀ (n : Nat) (t : Tm) (tb : Tok) (S : St), Sm t → FewL t → sizeT t < 1000000000 → wt t < n → run Try.cfg (n + 50) (.f 72) [encA t, encL tb bys] S = some (encP2 (exP (lvT bys t)), S)
  | 0, t, tb, S, _, _, _, h => by omega
  | n + 1, t, tb, S, hsm, hfl, hsz, h => by
    rw [show n + 1 + 50 = n + 50 + 1 by omega]
    have hls := hfl.len
    have hw := wt_eq t
    have hwl := wts_len t.ts
    have hlen : t.ts.length < 1000000000 := by have := sizeTs_len t.ts; rw [sizeT_eq] at hsz; omega
    have key : ∀ tb : Tok, ∃ r, frame Try.cfg (run Try.cfg (n + 50)) (n + 50) 72 [encA t, encL tb bys] St.empty = some r ∧ ∃ v S', r = (v, S') ∧ v.stripAll = encP2 (exP (lvT bys t)) ∧ frz { nt := 0, tmps := [], locs := [], fix := [] } S' .any v = some v ∧ isZero v.lvl = true := by
      intro tb
      refine frame_some (fn := Try.f72) rfl rfl ?_
      rw [lvT_eq]
      refine r72_ls (n + 50) (n + 50) t bys tb hb (by omega) (by omega) [] _ t.ls 0 (n + 50) [] [] .tight none (by omega) (fun i => by rw [Nat.zero_add]) (by rw [Nat.zero_add]) rfl (GrowsT.start []) ?_ ?_
      · intro L hL T' tl oL hg
        simp only [List.nil_append] at hg ⊢
        rw [hL]
        have hstl := hg.strTok
        have hrec : ∀ y ∈ t.ts, ∀ S, run Try.cfg (n + 50) (.f 72) [encA y, encL tb bys] S = some (encP2 (exP (lvT bys y)), S) := fun y hy S =>
          r72_ok bys hb n y tb S (((Sm_iff t).1 hsm).2 y hy) (hfl.kid hy) (by have := kid_size hy; omega) (by have := wt_kid hy; omega)
        have hgo := fun K => r72_ts (n + 50) (n + 50) t bys tb L tl oL hlen T' K hrec t.ts 0 (n + 50) [] T' .tight none (by omega) (fun i => by rw [Nat.zero_add]) (by rw [Nat.zero_add]) rfl (GrowsT.start T')
        rcases hg.2 with ⟨hl0, rfl⟩ | ⟨t0, rfl, _⟩
        all_goals
          cases oL
          all_goals
            refine hgo _ ?_ ?_
            · intro out ho T2 tt o2 hg2
              simp only [List.nil_append] at hg2 ⊢
              rw [ho]
              have h104 := fun S => r104_ok2 (n + 49) t L _ hstl out tt hg2.strTok S
              cases o2
              all_goals
                refine WCall.mk _ _ (h104 _) ?_
                exact ⟨_, rfl, _, _, rfl, stripAll_P2 (t.withL L out, 0), rfl, rfl⟩
            · intro e ho T2 o2
              rw [ho]
              cases o2
              all_goals exact ⟨_, rfl, _, _, rfl, stripAll_P2 (zTm, e), rfl, rfl⟩
      · intro e he T' o
        rw [he]
        cases o
        all_goals exact ⟨_, rfl, _, _, rfl, stripAll_P2 (zTm, e), rfl, rfl⟩
    obtain ⟨r, h1, v, S', rfl, h2, h3, h4⟩ := key (strTok tb)
    refine run_val (v' := v) ?_ rfl ?_ h3 h4 h2
    · rw [show mapN V.strip [encA t, encL tb bys] = [encA t, encL (strTok tb) bys] by rw [strips_t]; cases tb <;> rfl]
      exact h1
    · cases tb <;> rfl

end Go.Ev
