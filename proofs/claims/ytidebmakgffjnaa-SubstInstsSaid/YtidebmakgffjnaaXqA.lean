/- Terms: the package Inst, lists of 3 to 6 (own work). -/
import Derived.Test.YtidebmakgffjnaaXv
/- Terms: the package's Inst (written by tmq.py; own work). -/
namespace Go.Ev
open Go.Proofs
set_option maxRecDepth 100000
set_option linter.unusedSimpArgs false
set_option linter.unusedVariables false

set_option maxHeartbeats 8000000

/-! ### 3 terms -/

noncomputable def heapI3 (c d : Bool) (x0 x1 x2 : Tm) (s : Int) : List Blk := [.cells 44 [.list (szOf c ([x0, x1, x2] : List Tm)) (tkOf d) 0 ([encA x0, encA x1, encA x2] : List V)], .cells 3 [.int .i64 (.ofNat (sizeM x0)), .int .i64 (.ofNat (sizeM x1)), .int .i64 (.ofNat (sizeM x2))], .cells 75 [.slc (.box 1) 0 1 3 3], .cells 3 [.int .i64 s], .cells 99 [.fn 86 1 [] [.ptr (.box 0) 0]]]

theorem c88_3 (c d : Bool) (x0 x1 x2 : Tm) (n : Nat) (s : Int) (x : Tm) (a : Int) (T : List Nat) (hn : 2 ≤ n) (h2 : iEq x.k 2 = true) (h0 : 0 ≤ a) (ha : a ≤ 1000000000) : run Try.cfg n (.f 88) (encA x :: .int .i64 a :: [.ptr (.box 4) 0, .ptr (.box 3) 0, .ptr (.box 2) 0]) { heap := heapI3 c d x0 x1 x2 s, toks := T } = some (encA (sizeStep [x0, x1, x2] s x a).1, { heap := heapI3 c d x0 x1 x2 (sizeStep [x0, x1, x2] s x a).2, toks := T }) := by
  obtain ⟨p, rfl⟩ : ∃ p, n = p + 2 := ⟨n - 2, by omega⟩
  have hp := f86_ok p x.n a (szOf c ([x0, x1, x2] : List Tm)) (tkOf d) ([encA x0, encA x1, encA x2] : List V) (heapI3 c d x0 x1 x2 s).tail T
  refine run_here rfl ?_
  refine frame_of Try.cfg _ (fn := Try.f88) rfl rfl ?_
  rcases placeK_cases (nn := x.n) (a := a) (m := 3) h0 ha (by omega) with ⟨e, _⟩ | ⟨k, hk, e, _⟩
  · rw [show placeK x.n a (lenN ([encA x0, encA x1, encA x2] : List V)) = -1 from e] at hp
    rw [sizeStep_no (l := [x0, x1, x2]) e]
    refine WCall.mk _ _ hp ?_
    refine WCmp.no rfl ?_
    rfl
  · rw [show placeK x.n a (lenN ([encA x0, encA x1, encA x2] : List V)) = .ofNat k from e] at hp
    have hc : k = 0 ∨ k = 1 ∨ k = 2 := by omega
    rcases hc with rfl | rfl | rfl
    · rw [sizeStep_at (l := [x0, x1, x2]) (k := 0) e rfl]
      refine WCall.mk _ _ hp ?_
      refine WCmp.yes rfl ?_
      refine WOut.mk _ rfl ?_
      refine WOut.mk _ rfl ?_
      refine WOut.mk _ rfl ?_
      rfl
    · rw [sizeStep_at (l := [x0, x1, x2]) (k := 1) e rfl]
      refine WCall.mk _ _ hp ?_
      refine WCmp.yes rfl ?_
      refine WOut.mk _ rfl ?_
      refine WOut.mk _ rfl ?_
      refine WOut.mk _ rfl ?_
      rfl
    · rw [sizeStep_at (l := [x0, x1, x2]) (k := 2) e rfl]
      refine WCall.mk _ _ hp ?_
      refine WCmp.yes rfl ?_
      refine WOut.mk _ rfl ?_
      refine WOut.mk _ rfl ?_
      refine WOut.mk _ rfl ?_
      rfl

theorem c90_3 (c d : Bool) (x0 x1 x2 : Tm) (z : Int) (q : Nat) (w0 : wt x0 < q) (z0 : sizeT x0 < 1000000000) (w1 : wt x1 < q) (z1 : sizeT x1 < 1000000000) (w2 : wt x2 < q) (z2 : sizeT x2 < 1000000000) (n : Nat) (s : Unit) (x : Tm) (a : Int) (T : List Nat) (hn : q + 4 ≤ n) (h2 : iEq x.k 2 = true) (h0 : 0 ≤ a) (ha : a ≤ 1000000000) : run Try.cfg n (.f 90) (encA x :: .int .i64 a :: [.ptr (.box 4) 0, .ptr (.box 0) 0]) { heap := heapI3 c d x0 x1 x2 z, toks := T } = some (encA (placeStep [x0, x1, x2] s x a).1, { heap := heapI3 c d x0 x1 x2 z, toks := T }) := by
  obtain ⟨p, rfl⟩ : ∃ p, n = p + 4 := ⟨n - 4, by omega⟩
  have hp := f86_ok (p + 2) x.n a (szOf c ([x0, x1, x2] : List Tm)) (tkOf d) ([encA x0, encA x1, encA x2] : List V) (heapI3 c d x0 x1 x2 z).tail T
  refine run_here rfl ?_
  refine frame_of Try.cfg _ (fn := Try.f90) rfl rfl ?_
  rcases placeK_cases (nn := x.n) (a := a) (m := 3) h0 ha (by omega) with ⟨e, _⟩ | ⟨k, hk, e, _⟩
  · rw [show placeK x.n a (lenN ([encA x0, encA x1, encA x2] : List V)) = -1 from e] at hp
    rw [placeStep_no (l := [x0, x1, x2]) e]
    refine WCall.mk _ _ hp ?_
    refine WCmp.no rfl ?_
    refine WCmp.mk (fun h3 => ?_) (fun h3 => ?_)
    · simp only [Bool.not_eq_true'] at h3
      rw [h3]
      refine WOut.mk _ rfl ?_
      rfl
    · simp only [Bool.not_eq_false'] at h3
      rw [h3]
      rfl
  · rw [show placeK x.n a (lenN ([encA x0, encA x1, encA x2] : List V)) = .ofNat k from e] at hp
    have hc : k = 0 ∨ k = 1 ∨ k = 2 := by omega
    rcases hc with rfl | rfl | rfl
    · rw [placeStep_at (l := [x0, x1, x2]) (k := 0) e rfl]
      refine WCall.mk _ _ hp ?_
      refine WCmp.yes rfl ?_
      refine WOut.mk _ rfl ?_
      refine WCall.mk _ _ (f91_ok p x0 0 a _ z0 (by omega)) ?_
      rfl
    · rw [placeStep_at (l := [x0, x1, x2]) (k := 1) e rfl]
      refine WCall.mk _ _ hp ?_
      refine WCmp.yes rfl ?_
      refine WOut.mk _ rfl ?_
      refine WCall.mk _ _ (f91_ok p x1 0 a _ z1 (by omega)) ?_
      rfl
    · rw [placeStep_at (l := [x0, x1, x2]) (k := 2) e rfl]
      refine WCall.mk _ _ hp ?_
      refine WCmp.yes rfl ?_
      refine WOut.mk _ rfl ?_
      refine WCall.mk _ _ (f91_ok p x2 0 a _ z2 (by omega)) ?_
      rfl

theorem f37_3 (n q r : Nat) (t : Tm) (x0 x1 x2 : Tm) (c d : Bool) (S : St) (hsm : Sm t) (hsz : sizeT t ≤ 100000000) (hw : wt t < n) (w0 : wt x0 < q) (z0 : sizeT x0 < 1000000000) (w1 : wt x1 < q) (z1 : sizeT x1 < 1000000000) (w2 : wt x2 < q) (z2 : sizeT x2 < 1000000000) (s0 : Sm x0) (s1 : Sm x1) (s2 : Sm x2) (hsm2 : Sm (instTm t [x0, x1, x2])) (hw2 : wt (instTm t [x0, x1, x2]) < r) :
    run Try.cfg (n + q + r + 16) (.f 37) [encA t, .list (szOf c ([x0, x1, x2] : List Tm)) (tkOf d) 0 ([encA x0, encA x1, encA x2] : List V)] S = some (encP2 (instM t [x0, x1, x2]), S) := by
  have : ∃ S', frame Try.cfg (run Try.cfg (n + q + r + 15)) (n + q + r + 15) 37 [encA t, .list (szOf c ([x0, x1, x2] : List Tm)) (tkOf d) 0 ([encA x0, encA x1, encA x2] : List V)] St.empty = some (encP2 (instM t [x0, x1, x2]), S') := by
    refine frame_ex Try.cfg _ (fn := Try.f37) rfl rfl ?_
    refine WCall.mkB (f84_ok (n + q + r + 2) t _ hsm (by omega)) (fun hm => ?_) (fun hm => ?_)
    · refine WMake.mk _ _ _ (mk75 (m := 3) rfl rfl rfl (by omega)) ?_
      refine WCode.round (nt := 56) (fx := []) ?_
      refine WCmp.yes rfl ?_
      refine WOut.mk _ rfl ?_
      refine WCall.mk _ _ (f85_ok (n + q + r + 1) x0 St.empty s0 z0 (by omega)) ?_
      refine WOut.mk _ rfl ?_
      refine WOut.mk _ rfl ?_
      refine WCmp.mk (fun g0 => ?_) (fun g0 => ?_)
      · rw [sizeM_pos] at g0
        refine WOut.mk _ rfl ?_
        refine WCode.round (nt := 56) (fx := []) ?_
        refine WCmp.yes rfl ?_
        refine WOut.mk _ rfl ?_
        refine WCall.mk _ _ (f85_ok (n + q + r + 1) x1 St.empty s1 z1 (by omega)) ?_
        refine WOut.mk _ rfl ?_
        refine WOut.mk _ rfl ?_
        refine WCmp.mk (fun g1 => ?_) (fun g1 => ?_)
        · rw [sizeM_pos] at g1
          refine WOut.mk _ rfl ?_
          refine WCode.round (nt := 56) (fx := []) ?_
          refine WCmp.yes rfl ?_
          refine WOut.mk _ rfl ?_
          refine WCall.mk _ _ (f85_ok (n + q + r + 1) x2 St.empty s2 z2 (by omega)) ?_
          refine WOut.mk _ rfl ?_
          refine WOut.mk _ rfl ?_
          refine WCmp.mk (fun g2 => ?_) (fun g2 => ?_)
          · rw [sizeM_pos] at g2
            refine WOut.mk _ rfl ?_
            refine WCode.round (nt := 56) (fx := []) ?_
            refine WCmp.no rfl ?_
            refine WCall.mk _ _ (f85_ok (n + q + r + 1) t _ hsm (by omega) (by omega)) ?_
            obtain ⟨T1, k1, _, _, e1⟩ := w88_ok (heapI3 c d x0 x1 x2) (sizeStep [x0, x1, x2]) 2 (c88_3 c d x0 x1 x2) (n + q + r + 12) t 0 (.ofNat (sizeM t)) [] (by omega) (by omega) (by omega)
            refine WCall.mk _ _ e1 ?_
            have e0 : instM t [x0, x1, x2] = bif iLt 65536 (walkG (sizeStep [x0, x1, x2]) t (.ofNat (sizeM t)) 0).2 then (zTm, 4) else toldT (instTm t [x0, x1, x2]) := by simp only [instM, List.all_cons, List.all_nil, hm, g0, g1, g2, Bool.and_self, cond_true]
            rw [e0]
            refine WCmp.mk (fun hz => ?_) (fun hz => ?_)
            · rw [hz]
              exact ⟨_, rfl⟩
            · rw [hz]
              obtain ⟨T2, k2, _, e3, e4⟩ := w90_ok (fun _ : Unit => heapI3 c d x0 x1 x2 (walkG (sizeStep [x0, x1, x2]) t (.ofNat (sizeM t)) 0).2) (placeStep [x0, x1, x2]) (q + 4) (c90_3 c d x0 x1 x2 _ q w0 z0 w1 z1 w2 z2) (n + r + 10) t 0 () T1 (by omega) (by omega) (by omega)
              rw [show n + r + 10 + (q + 4) + 1 = n + q + r + 15 by omega] at e4
              refine WCall.mk _ _ e4 ?_
              refine WCall.mk _ _ (f89_ok' (n + q + r + 1) (instTm t [x0, x1, x2]) k2 e3 _ hsm2 (by omega)) ?_
              exact ⟨_, rfl⟩
          · rw [sizeM_pos] at g2
            refine WOut.mk _ rfl ?_
            refine WCode.round (nt := 56) (fx := []) ?_
            refine WCmp.no rfl ?_
            rw [show instM t [x0, x1, x2] = (zTm, 1) by simp only [instM, List.all_cons, List.all_nil, hm, g0, g1, g2, Bool.true_and, Bool.false_and, Bool.and_false, Bool.and_true, cond_false]]
            exact ⟨_, rfl⟩
        · rw [sizeM_pos] at g1
          refine WOut.mk _ rfl ?_
          refine WCode.round (nt := 56) (fx := []) ?_
          refine WCmp.yes rfl ?_
          refine WOut.mk _ rfl ?_
          refine WCall.mk _ _ (f85_ok (n + q + r + 1) x2 St.empty s2 z2 (by omega)) ?_
          refine WOut.mk _ rfl ?_
          refine WOut.mk _ rfl ?_
          refine WCode.round (nt := 56) (fx := []) ?_
          refine WCmp.no rfl ?_
          rw [show instM t [x0, x1, x2] = (zTm, 1) by simp only [instM, List.all_cons, List.all_nil, hm, g0, g1, Bool.true_and, Bool.false_and, Bool.and_false, Bool.and_true, cond_false]]
          exact ⟨_, rfl⟩
      · rw [sizeM_pos] at g0
        refine WOut.mk _ rfl ?_
        refine WCode.round (nt := 56) (fx := []) ?_
        refine WCmp.yes rfl ?_
        refine WOut.mk _ rfl ?_
        refine WCall.mk _ _ (f85_ok (n + q + r + 1) x1 St.empty s1 z1 (by omega)) ?_
        refine WOut.mk _ rfl ?_
        refine WOut.mk _ rfl ?_
        refine WCode.round (nt := 56) (fx := []) ?_
        refine WCmp.yes rfl ?_
        refine WOut.mk _ rfl ?_
        refine WCall.mk _ _ (f85_ok (n + q + r + 1) x2 St.empty s2 z2 (by omega)) ?_
        refine WOut.mk _ rfl ?_
        refine WOut.mk _ rfl ?_
        refine WCode.round (nt := 56) (fx := []) ?_
        refine WCmp.no rfl ?_
        rw [show instM t [x0, x1, x2] = (zTm, 1) by simp only [instM, List.all_cons, List.all_nil, hm, g0, Bool.true_and, Bool.false_and, Bool.and_false, Bool.and_true, cond_false]]
        exact ⟨_, rfl⟩
    · refine WMake.mk _ _ _ (mk75 (m := 3) rfl rfl rfl (by omega)) ?_
      refine WCode.round (nt := 56) (fx := []) ?_
      refine WCmp.yes rfl ?_
      refine WOut.mk _ rfl ?_
      refine WCall.mk _ _ (f85_ok (n + q + r + 1) x0 St.empty s0 z0 (by omega)) ?_
      refine WOut.mk _ rfl ?_
      refine WOut.mk _ rfl ?_
      refine WCode.round (nt := 56) (fx := []) ?_
      refine WCmp.yes rfl ?_
      refine WOut.mk _ rfl ?_
      refine WCall.mk _ _ (f85_ok (n + q + r + 1) x1 St.empty s1 z1 (by omega)) ?_
      refine WOut.mk _ rfl ?_
      refine WOut.mk _ rfl ?_
      refine WCode.round (nt := 56) (fx := []) ?_
      refine WCmp.yes rfl ?_
      refine WOut.mk _ rfl ?_
      refine WCall.mk _ _ (f85_ok (n + q + r + 1) x2 St.empty s2 z2 (by omega)) ?_
      refine WOut.mk _ rfl ?_
      refine WOut.mk _ rfl ?_
      refine WCode.round (nt := 56) (fx := []) ?_
      refine WCmp.no rfl ?_
      rw [show instM t [x0, x1, x2] = (zTm, 1) by simp only [instM, List.all_cons, List.all_nil, hm, Bool.true_and, Bool.false_and, Bool.and_false, Bool.and_true, cond_false]]
      exact ⟨_, rfl⟩
  obtain ⟨S', this⟩ := this
  exact run_tm this (by simp only [strips_t, strips_ts, strips_nil]) rfl rfl rfl rfl (stripAll_P2 _)

/-! ### 4 terms -/

noncomputable def heapI4 (c d : Bool) (x0 x1 x2 x3 : Tm) (s : Int) : List Blk := [.cells 44 [.list (szOf c ([x0, x1, x2, x3] : List Tm)) (tkOf d) 0 ([encA x0, encA x1, encA x2, encA x3] : List V)], .cells 3 [.int .i64 (.ofNat (sizeM x0)), .int .i64 (.ofNat (sizeM x1)), .int .i64 (.ofNat (sizeM x2)), .int .i64 (.ofNat (sizeM x3))], .cells 75 [.slc (.box 1) 0 1 4 4], .cells 3 [.int .i64 s], .cells 99 [.fn 86 1 [] [.ptr (.box 0) 0]]]

theorem c88_4 (c d : Bool) (x0 x1 x2 x3 : Tm) (n : Nat) (s : Int) (x : Tm) (a : Int) (T : List Nat) (hn : 2 ≤ n) (h2 : iEq x.k 2 = true) (h0 : 0 ≤ a) (ha : a ≤ 1000000000) : run Try.cfg n (.f 88) (encA x :: .int .i64 a :: [.ptr (.box 4) 0, .ptr (.box 3) 0, .ptr (.box 2) 0]) { heap := heapI4 c d x0 x1 x2 x3 s, toks := T } = some (encA (sizeStep [x0, x1, x2, x3] s x a).1, { heap := heapI4 c d x0 x1 x2 x3 (sizeStep [x0, x1, x2, x3] s x a).2, toks := T }) := by
  obtain ⟨p, rfl⟩ : ∃ p, n = p + 2 := ⟨n - 2, by omega⟩
  have hp := f86_ok p x.n a (szOf c ([x0, x1, x2, x3] : List Tm)) (tkOf d) ([encA x0, encA x1, encA x2, encA x3] : List V) (heapI4 c d x0 x1 x2 x3 s).tail T
  refine run_here rfl ?_
  refine frame_of Try.cfg _ (fn := Try.f88) rfl rfl ?_
  rcases placeK_cases (nn := x.n) (a := a) (m := 4) h0 ha (by omega) with ⟨e, _⟩ | ⟨k, hk, e, _⟩
  · rw [show placeK x.n a (lenN ([encA x0, encA x1, encA x2, encA x3] : List V)) = -1 from e] at hp
    rw [sizeStep_no (l := [x0, x1, x2, x3]) e]
    refine WCall.mk _ _ hp ?_
    refine WCmp.no rfl ?_
    rfl
  · rw [show placeK x.n a (lenN ([encA x0, encA x1, encA x2, encA x3] : List V)) = .ofNat k from e] at hp
    have hc : k = 0 ∨ k = 1 ∨ k = 2 ∨ k = 3 := by omega
    rcases hc with rfl | rfl | rfl | rfl
    · rw [sizeStep_at (l := [x0, x1, x2, x3]) (k := 0) e rfl]
      refine WCall.mk _ _ hp ?_
      refine WCmp.yes rfl ?_
      refine WOut.mk _ rfl ?_
      refine WOut.mk _ rfl ?_
      refine WOut.mk _ rfl ?_
      rfl
    · rw [sizeStep_at (l := [x0, x1, x2, x3]) (k := 1) e rfl]
      refine WCall.mk _ _ hp ?_
      refine WCmp.yes rfl ?_
      refine WOut.mk _ rfl ?_
      refine WOut.mk _ rfl ?_
      refine WOut.mk _ rfl ?_
      rfl
    · rw [sizeStep_at (l := [x0, x1, x2, x3]) (k := 2) e rfl]
      refine WCall.mk _ _ hp ?_
      refine WCmp.yes rfl ?_
      refine WOut.mk _ rfl ?_
      refine WOut.mk _ rfl ?_
      refine WOut.mk _ rfl ?_
      rfl
    · rw [sizeStep_at (l := [x0, x1, x2, x3]) (k := 3) e rfl]
      refine WCall.mk _ _ hp ?_
      refine WCmp.yes rfl ?_
      refine WOut.mk _ rfl ?_
      refine WOut.mk _ rfl ?_
      refine WOut.mk _ rfl ?_
      rfl

theorem c90_4 (c d : Bool) (x0 x1 x2 x3 : Tm) (z : Int) (q : Nat) (w0 : wt x0 < q) (z0 : sizeT x0 < 1000000000) (w1 : wt x1 < q) (z1 : sizeT x1 < 1000000000) (w2 : wt x2 < q) (z2 : sizeT x2 < 1000000000) (w3 : wt x3 < q) (z3 : sizeT x3 < 1000000000) (n : Nat) (s : Unit) (x : Tm) (a : Int) (T : List Nat) (hn : q + 4 ≤ n) (h2 : iEq x.k 2 = true) (h0 : 0 ≤ a) (ha : a ≤ 1000000000) : run Try.cfg n (.f 90) (encA x :: .int .i64 a :: [.ptr (.box 4) 0, .ptr (.box 0) 0]) { heap := heapI4 c d x0 x1 x2 x3 z, toks := T } = some (encA (placeStep [x0, x1, x2, x3] s x a).1, { heap := heapI4 c d x0 x1 x2 x3 z, toks := T }) := by
  obtain ⟨p, rfl⟩ : ∃ p, n = p + 4 := ⟨n - 4, by omega⟩
  have hp := f86_ok (p + 2) x.n a (szOf c ([x0, x1, x2, x3] : List Tm)) (tkOf d) ([encA x0, encA x1, encA x2, encA x3] : List V) (heapI4 c d x0 x1 x2 x3 z).tail T
  refine run_here rfl ?_
  refine frame_of Try.cfg _ (fn := Try.f90) rfl rfl ?_
  rcases placeK_cases (nn := x.n) (a := a) (m := 4) h0 ha (by omega) with ⟨e, _⟩ | ⟨k, hk, e, _⟩
  · rw [show placeK x.n a (lenN ([encA x0, encA x1, encA x2, encA x3] : List V)) = -1 from e] at hp
    rw [placeStep_no (l := [x0, x1, x2, x3]) e]
    refine WCall.mk _ _ hp ?_
    refine WCmp.no rfl ?_
    refine WCmp.mk (fun h3 => ?_) (fun h3 => ?_)
    · simp only [Bool.not_eq_true'] at h3
      rw [h3]
      refine WOut.mk _ rfl ?_
      rfl
    · simp only [Bool.not_eq_false'] at h3
      rw [h3]
      rfl
  · rw [show placeK x.n a (lenN ([encA x0, encA x1, encA x2, encA x3] : List V)) = .ofNat k from e] at hp
    have hc : k = 0 ∨ k = 1 ∨ k = 2 ∨ k = 3 := by omega
    rcases hc with rfl | rfl | rfl | rfl
    · rw [placeStep_at (l := [x0, x1, x2, x3]) (k := 0) e rfl]
      refine WCall.mk _ _ hp ?_
      refine WCmp.yes rfl ?_
      refine WOut.mk _ rfl ?_
      refine WCall.mk _ _ (f91_ok p x0 0 a _ z0 (by omega)) ?_
      rfl
    · rw [placeStep_at (l := [x0, x1, x2, x3]) (k := 1) e rfl]
      refine WCall.mk _ _ hp ?_
      refine WCmp.yes rfl ?_
      refine WOut.mk _ rfl ?_
      refine WCall.mk _ _ (f91_ok p x1 0 a _ z1 (by omega)) ?_
      rfl
    · rw [placeStep_at (l := [x0, x1, x2, x3]) (k := 2) e rfl]
      refine WCall.mk _ _ hp ?_
      refine WCmp.yes rfl ?_
      refine WOut.mk _ rfl ?_
      refine WCall.mk _ _ (f91_ok p x2 0 a _ z2 (by omega)) ?_
      rfl
    · rw [placeStep_at (l := [x0, x1, x2, x3]) (k := 3) e rfl]
      refine WCall.mk _ _ hp ?_
      refine WCmp.yes rfl ?_
      refine WOut.mk _ rfl ?_
      refine WCall.mk _ _ (f91_ok p x3 0 a _ z3 (by omega)) ?_
      rfl

theorem f37_4 (n q r : Nat) (t : Tm) (x0 x1 x2 x3 : Tm) (c d : Bool) (S : St) (hsm : Sm t) (hsz : sizeT t ≤ 100000000) (hw : wt t < n) (w0 : wt x0 < q) (z0 : sizeT x0 < 1000000000) (w1 : wt x1 < q) (z1 : sizeT x1 < 1000000000) (w2 : wt x2 < q) (z2 : sizeT x2 < 1000000000) (w3 : wt x3 < q) (z3 : sizeT x3 < 1000000000) (s0 : Sm x0) (s1 : Sm x1) (s2 : Sm x2) (s3 : Sm x3) (hsm2 : Sm (instTm t [x0, x1, x2, x3])) (hw2 : wt (instTm t [x0, x1, x2, x3]) < r) :
    run Try.cfg (n + q + r + 16) (.f 37) [encA t, .list (szOf c ([x0, x1, x2, x3] : List Tm)) (tkOf d) 0 ([encA x0, encA x1, encA x2, encA x3] : List V)] S = some (encP2 (instM t [x0, x1, x2, x3]), S) := by
  have : ∃ S', frame Try.cfg (run Try.cfg (n + q + r + 15)) (n + q + r + 15) 37 [encA t, .list (szOf c ([x0, x1, x2, x3] : List Tm)) (tkOf d) 0 ([encA x0, encA x1, encA x2, encA x3] : List V)] St.empty = some (encP2 (instM t [x0, x1, x2, x3]), S') := by
    refine frame_ex Try.cfg _ (fn := Try.f37) rfl rfl ?_
    refine WCall.mkB (f84_ok (n + q + r + 2) t _ hsm (by omega)) (fun hm => ?_) (fun hm => ?_)
    · refine WMake.mk _ _ _ (mk75 (m := 4) rfl rfl rfl (by omega)) ?_
      refine WCode.round (nt := 56) (fx := []) ?_
      refine WCmp.yes rfl ?_
      refine WOut.mk _ rfl ?_
      refine WCall.mk _ _ (f85_ok (n + q + r + 1) x0 St.empty s0 z0 (by omega)) ?_
      refine WOut.mk _ rfl ?_
      refine WOut.mk _ rfl ?_
      refine WCmp.mk (fun g0 => ?_) (fun g0 => ?_)
      · rw [sizeM_pos] at g0
        refine WOut.mk _ rfl ?_
        refine WCode.round (nt := 56) (fx := []) ?_
        refine WCmp.yes rfl ?_
        refine WOut.mk _ rfl ?_
        refine WCall.mk _ _ (f85_ok (n + q + r + 1) x1 St.empty s1 z1 (by omega)) ?_
        refine WOut.mk _ rfl ?_
        refine WOut.mk _ rfl ?_
        refine WCmp.mk (fun g1 => ?_) (fun g1 => ?_)
        · rw [sizeM_pos] at g1
          refine WOut.mk _ rfl ?_
          refine WCode.round (nt := 56) (fx := []) ?_
          refine WCmp.yes rfl ?_
          refine WOut.mk _ rfl ?_
          refine WCall.mk _ _ (f85_ok (n + q + r + 1) x2 St.empty s2 z2 (by omega)) ?_
          refine WOut.mk _ rfl ?_
          refine WOut.mk _ rfl ?_
          refine WCmp.mk (fun g2 => ?_) (fun g2 => ?_)
          · rw [sizeM_pos] at g2
            refine WOut.mk _ rfl ?_
            refine WCode.round (nt := 56) (fx := []) ?_
            refine WCmp.yes rfl ?_
            refine WOut.mk _ rfl ?_
            refine WCall.mk _ _ (f85_ok (n + q + r + 1) x3 St.empty s3 z3 (by omega)) ?_
            refine WOut.mk _ rfl ?_
            refine WOut.mk _ rfl ?_
            refine WCmp.mk (fun g3 => ?_) (fun g3 => ?_)
            · rw [sizeM_pos] at g3
              refine WOut.mk _ rfl ?_
              refine WCode.round (nt := 56) (fx := []) ?_
              refine WCmp.no rfl ?_
              refine WCall.mk _ _ (f85_ok (n + q + r + 1) t _ hsm (by omega) (by omega)) ?_
              obtain ⟨T1, k1, _, _, e1⟩ := w88_ok (heapI4 c d x0 x1 x2 x3) (sizeStep [x0, x1, x2, x3]) 2 (c88_4 c d x0 x1 x2 x3) (n + q + r + 12) t 0 (.ofNat (sizeM t)) [] (by omega) (by omega) (by omega)
              refine WCall.mk _ _ e1 ?_
              have e0 : instM t [x0, x1, x2, x3] = bif iLt 65536 (walkG (sizeStep [x0, x1, x2, x3]) t (.ofNat (sizeM t)) 0).2 then (zTm, 4) else toldT (instTm t [x0, x1, x2, x3]) := by simp only [instM, List.all_cons, List.all_nil, hm, g0, g1, g2, g3, Bool.and_self, cond_true]
              rw [e0]
              refine WCmp.mk (fun hz => ?_) (fun hz => ?_)
              · rw [hz]
                exact ⟨_, rfl⟩
              · rw [hz]
                obtain ⟨T2, k2, _, e3, e4⟩ := w90_ok (fun _ : Unit => heapI4 c d x0 x1 x2 x3 (walkG (sizeStep [x0, x1, x2, x3]) t (.ofNat (sizeM t)) 0).2) (placeStep [x0, x1, x2, x3]) (q + 4) (c90_4 c d x0 x1 x2 x3 _ q w0 z0 w1 z1 w2 z2 w3 z3) (n + r + 10) t 0 () T1 (by omega) (by omega) (by omega)
                rw [show n + r + 10 + (q + 4) + 1 = n + q + r + 15 by omega] at e4
                refine WCall.mk _ _ e4 ?_
                refine WCall.mk _ _ (f89_ok' (n + q + r + 1) (instTm t [x0, x1, x2, x3]) k2 e3 _ hsm2 (by omega)) ?_
                exact ⟨_, rfl⟩
            · rw [sizeM_pos] at g3
              refine WOut.mk _ rfl ?_
              refine WCode.round (nt := 56) (fx := []) ?_
              refine WCmp.no rfl ?_
              rw [show instM t [x0, x1, x2, x3] = (zTm, 1) by simp only [instM, List.all_cons, List.all_nil, hm, g0, g1, g2, g3, Bool.true_and, Bool.false_and, Bool.and_false, Bool.and_true, cond_false]]
              exact ⟨_, rfl⟩
          · rw [sizeM_pos] at g2
            refine WOut.mk _ rfl ?_
            refine WCode.round (nt := 56) (fx := []) ?_
            refine WCmp.yes rfl ?_
            refine WOut.mk _ rfl ?_
            refine WCall.mk _ _ (f85_ok (n + q + r + 1) x3 St.empty s3 z3 (by omega)) ?_
            refine WOut.mk _ rfl ?_
            refine WOut.mk _ rfl ?_
            refine WCode.round (nt := 56) (fx := []) ?_
            refine WCmp.no rfl ?_
            rw [show instM t [x0, x1, x2, x3] = (zTm, 1) by simp only [instM, List.all_cons, List.all_nil, hm, g0, g1, g2, Bool.true_and, Bool.false_and, Bool.and_false, Bool.and_true, cond_false]]
            exact ⟨_, rfl⟩
        · rw [sizeM_pos] at g1
          refine WOut.mk _ rfl ?_
          refine WCode.round (nt := 56) (fx := []) ?_
          refine WCmp.yes rfl ?_
          refine WOut.mk _ rfl ?_
          refine WCall.mk _ _ (f85_ok (n + q + r + 1) x2 St.empty s2 z2 (by omega)) ?_
          refine WOut.mk _ rfl ?_
          refine WOut.mk _ rfl ?_
          refine WCode.round (nt := 56) (fx := []) ?_
          refine WCmp.yes rfl ?_
          refine WOut.mk _ rfl ?_
          refine WCall.mk _ _ (f85_ok (n + q + r + 1) x3 St.empty s3 z3 (by omega)) ?_
          refine WOut.mk _ rfl ?_
          refine WOut.mk _ rfl ?_
          refine WCode.round (nt := 56) (fx := []) ?_
          refine WCmp.no rfl ?_
          rw [show instM t [x0, x1, x2, x3] = (zTm, 1) by simp only [instM, List.all_cons, List.all_nil, hm, g0, g1, Bool.true_and, Bool.false_and, Bool.and_false, Bool.and_true, cond_false]]
          exact ⟨_, rfl⟩
      · rw [sizeM_pos] at g0
        refine WOut.mk _ rfl ?_
        refine WCode.round (nt := 56) (fx := []) ?_
        refine WCmp.yes rfl ?_
        refine WOut.mk _ rfl ?_
        refine WCall.mk _ _ (f85_ok (n + q + r + 1) x1 St.empty s1 z1 (by omega)) ?_
        refine WOut.mk _ rfl ?_
        refine WOut.mk _ rfl ?_
        refine WCode.round (nt := 56) (fx := []) ?_
        refine WCmp.yes rfl ?_
        refine WOut.mk _ rfl ?_
        refine WCall.mk _ _ (f85_ok (n + q + r + 1) x2 St.empty s2 z2 (by omega)) ?_
        refine WOut.mk _ rfl ?_
        refine WOut.mk _ rfl ?_
        refine WCode.round (nt := 56) (fx := []) ?_
        refine WCmp.yes rfl ?_
        refine WOut.mk _ rfl ?_
        refine WCall.mk _ _ (f85_ok (n + q + r + 1) x3 St.empty s3 z3 (by omega)) ?_
        refine WOut.mk _ rfl ?_
        refine WOut.mk _ rfl ?_
        refine WCode.round (nt := 56) (fx := []) ?_
        refine WCmp.no rfl ?_
        rw [show instM t [x0, x1, x2, x3] = (zTm, 1) by simp only [instM, List.all_cons, List.all_nil, hm, g0, Bool.true_and, Bool.false_and, Bool.and_false, Bool.and_true, cond_false]]
        exact ⟨_, rfl⟩
    · refine WMake.mk _ _ _ (mk75 (m := 4) rfl rfl rfl (by omega)) ?_
      refine WCode.round (nt := 56) (fx := []) ?_
      refine WCmp.yes rfl ?_
      refine WOut.mk _ rfl ?_
      refine WCall.mk _ _ (f85_ok (n + q + r + 1) x0 St.empty s0 z0 (by omega)) ?_
      refine WOut.mk _ rfl ?_
      refine WOut.mk _ rfl ?_
      refine WCode.round (nt := 56) (fx := []) ?_
      refine WCmp.yes rfl ?_
      refine WOut.mk _ rfl ?_
      refine WCall.mk _ _ (f85_ok (n + q + r + 1) x1 St.empty s1 z1 (by omega)) ?_
      refine WOut.mk _ rfl ?_
      refine WOut.mk _ rfl ?_
      refine WCode.round (nt := 56) (fx := []) ?_
      refine WCmp.yes rfl ?_
      refine WOut.mk _ rfl ?_
      refine WCall.mk _ _ (f85_ok (n + q + r + 1) x2 St.empty s2 z2 (by omega)) ?_
      refine WOut.mk _ rfl ?_
      refine WOut.mk _ rfl ?_
      refine WCode.round (nt := 56) (fx := []) ?_
      refine WCmp.yes rfl ?_
      refine WOut.mk _ rfl ?_
      refine WCall.mk _ _ (f85_ok (n + q + r + 1) x3 St.empty s3 z3 (by omega)) ?_
      refine WOut.mk _ rfl ?_
      refine WOut.mk _ rfl ?_
      refine WCode.round (nt := 56) (fx := []) ?_
      refine WCmp.no rfl ?_
      rw [show instM t [x0, x1, x2, x3] = (zTm, 1) by simp only [instM, List.all_cons, List.all_nil, hm, Bool.true_and, Bool.false_and, Bool.and_false, Bool.and_true, cond_false]]
      exact ⟨_, rfl⟩
  obtain ⟨S', this⟩ := this
  exact run_tm this (by simp only [strips_t, strips_ts, strips_nil]) rfl rfl rfl rfl (stripAll_P2 _)

/-! ### 5 terms -/

noncomputable def heapI5 (c d : Bool) (x0 x1 x2 x3 x4 : Tm) (s : Int) : List Blk := [.cells 44 [.list (szOf c ([x0, x1, x2, x3, x4] : List Tm)) (tkOf d) 0 ([encA x0, encA x1, encA x2, encA x3, encA x4] : List V)], .cells 3 [.int .i64 (.ofNat (sizeM x0)), .int .i64 (.ofNat (sizeM x1)), .int .i64 (.ofNat (sizeM x2)), .int .i64 (.ofNat (sizeM x3)), .int .i64 (.ofNat (sizeM x4))], .cells 75 [.slc (.box 1) 0 1 5 5], .cells 3 [.int .i64 s], .cells 99 [.fn 86 1 [] [.ptr (.box 0) 0]]]

theorem c88_5 (c d : Bool) (x0 x1 x2 x3 x4 : Tm) (n : Nat) (s : Int) (x : Tm) (a : Int) (T : List Nat) (hn : 2 ≤ n) (h2 : iEq x.k 2 = true) (h0 : 0 ≤ a) (ha : a ≤ 1000000000) : run Try.cfg n (.f 88) (encA x :: .int .i64 a :: [.ptr (.box 4) 0, .ptr (.box 3) 0, .ptr (.box 2) 0]) { heap := heapI5 c d x0 x1 x2 x3 x4 s, toks := T } = some (encA (sizeStep [x0, x1, x2, x3, x4] s x a).1, { heap := heapI5 c d x0 x1 x2 x3 x4 (sizeStep [x0, x1, x2, x3, x4] s x a).2, toks := T }) := by
  obtain ⟨p, rfl⟩ : ∃ p, n = p + 2 := ⟨n - 2, by omega⟩
  have hp := f86_ok p x.n a (szOf c ([x0, x1, x2, x3, x4] : List Tm)) (tkOf d) ([encA x0, encA x1, encA x2, encA x3, encA x4] : List V) (heapI5 c d x0 x1 x2 x3 x4 s).tail T
  refine run_here rfl ?_
  refine frame_of Try.cfg _ (fn := Try.f88) rfl rfl ?_
  rcases placeK_cases (nn := x.n) (a := a) (m := 5) h0 ha (by omega) with ⟨e, _⟩ | ⟨k, hk, e, _⟩
  · rw [show placeK x.n a (lenN ([encA x0, encA x1, encA x2, encA x3, encA x4] : List V)) = -1 from e] at hp
    rw [sizeStep_no (l := [x0, x1, x2, x3, x4]) e]
    refine WCall.mk _ _ hp ?_
    refine WCmp.no rfl ?_
    rfl
  · rw [show placeK x.n a (lenN ([encA x0, encA x1, encA x2, encA x3, encA x4] : List V)) = .ofNat k from e] at hp
    have hc : k = 0 ∨ k = 1 ∨ k = 2 ∨ k = 3 ∨ k = 4 := by omega
    rcases hc with rfl | rfl | rfl | rfl | rfl
    · rw [sizeStep_at (l := [x0, x1, x2, x3, x4]) (k := 0) e rfl]
      refine WCall.mk _ _ hp ?_
      refine WCmp.yes rfl ?_
      refine WOut.mk _ rfl ?_
      refine WOut.mk _ rfl ?_
      refine WOut.mk _ rfl ?_
      rfl
    · rw [sizeStep_at (l := [x0, x1, x2, x3, x4]) (k := 1) e rfl]
      refine WCall.mk _ _ hp ?_
      refine WCmp.yes rfl ?_
      refine WOut.mk _ rfl ?_
      refine WOut.mk _ rfl ?_
      refine WOut.mk _ rfl ?_
      rfl
    · rw [sizeStep_at (l := [x0, x1, x2, x3, x4]) (k := 2) e rfl]
      refine WCall.mk _ _ hp ?_
      refine WCmp.yes rfl ?_
      refine WOut.mk _ rfl ?_
      refine WOut.mk _ rfl ?_
      refine WOut.mk _ rfl ?_
      rfl
    · rw [sizeStep_at (l := [x0, x1, x2, x3, x4]) (k := 3) e rfl]
      refine WCall.mk _ _ hp ?_
      refine WCmp.yes rfl ?_
      refine WOut.mk _ rfl ?_
      refine WOut.mk _ rfl ?_
      refine WOut.mk _ rfl ?_
      rfl
    · rw [sizeStep_at (l := [x0, x1, x2, x3, x4]) (k := 4) e rfl]
      refine WCall.mk _ _ hp ?_
      refine WCmp.yes rfl ?_
      refine WOut.mk _ rfl ?_
      refine WOut.mk _ rfl ?_
      refine WOut.mk _ rfl ?_
      rfl

theorem c90_5 (c d : Bool) (x0 x1 x2 x3 x4 : Tm) (z : Int) (q : Nat) (w0 : wt x0 < q) (z0 : sizeT x0 < 1000000000) (w1 : wt x1 < q) (z1 : sizeT x1 < 1000000000) (w2 : wt x2 < q) (z2 : sizeT x2 < 1000000000) (w3 : wt x3 < q) (z3 : sizeT x3 < 1000000000) (w4 : wt x4 < q) (z4 : sizeT x4 < 1000000000) (n : Nat) (s : Unit) (x : Tm) (a : Int) (T : List Nat) (hn : q + 4 ≤ n) (h2 : iEq x.k 2 = true) (h0 : 0 ≤ a) (ha : a ≤ 1000000000) : run Try.cfg n (.f 90) (encA x :: .int .i64 a :: [.ptr (.box 4) 0, .ptr (.box 0) 0]) { heap := heapI5 c d x0 x1 x2 x3 x4 z, toks := T } = some (encA (placeStep [x0, x1, x2, x3, x4] s x a).1, { heap := heapI5 c d x0 x1 x2 x3 x4 z, toks := T }) := by
  obtain ⟨p, rfl⟩ : ∃ p, n = p + 4 := ⟨n - 4, by omega⟩
  have hp := f86_ok (p + 2) x.n a (szOf c ([x0, x1, x2, x3, x4] : List Tm)) (tkOf d) ([encA x0, encA x1, encA x2, encA x3, encA x4] : List V) (heapI5 c d x0 x1 x2 x3 x4 z).tail T
  refine run_here rfl ?_
  refine frame_of Try.cfg _ (fn := Try.f90) rfl rfl ?_
  rcases placeK_cases (nn := x.n) (a := a) (m := 5) h0 ha (by omega) with ⟨e, _⟩ | ⟨k, hk, e, _⟩
  · rw [show placeK x.n a (lenN ([encA x0, encA x1, encA x2, encA x3, encA x4] : List V)) = -1 from e] at hp
    rw [placeStep_no (l := [x0, x1, x2, x3, x4]) e]
    refine WCall.mk _ _ hp ?_
    refine WCmp.no rfl ?_
    refine WCmp.mk (fun h3 => ?_) (fun h3 => ?_)
    · simp only [Bool.not_eq_true'] at h3
      rw [h3]
      refine WOut.mk _ rfl ?_
      rfl
    · simp only [Bool.not_eq_false'] at h3
      rw [h3]
      rfl
  · rw [show placeK x.n a (lenN ([encA x0, encA x1, encA x2, encA x3, encA x4] : List V)) = .ofNat k from e] at hp
    have hc : k = 0 ∨ k = 1 ∨ k = 2 ∨ k = 3 ∨ k = 4 := by omega
    rcases hc with rfl | rfl | rfl | rfl | rfl
    · rw [placeStep_at (l := [x0, x1, x2, x3, x4]) (k := 0) e rfl]
      refine WCall.mk _ _ hp ?_
      refine WCmp.yes rfl ?_
      refine WOut.mk _ rfl ?_
      refine WCall.mk _ _ (f91_ok p x0 0 a _ z0 (by omega)) ?_
      rfl
    · rw [placeStep_at (l := [x0, x1, x2, x3, x4]) (k := 1) e rfl]
      refine WCall.mk _ _ hp ?_
      refine WCmp.yes rfl ?_
      refine WOut.mk _ rfl ?_
      refine WCall.mk _ _ (f91_ok p x1 0 a _ z1 (by omega)) ?_
      rfl
    · rw [placeStep_at (l := [x0, x1, x2, x3, x4]) (k := 2) e rfl]
      refine WCall.mk _ _ hp ?_
      refine WCmp.yes rfl ?_
      refine WOut.mk _ rfl ?_
      refine WCall.mk _ _ (f91_ok p x2 0 a _ z2 (by omega)) ?_
      rfl
    · rw [placeStep_at (l := [x0, x1, x2, x3, x4]) (k := 3) e rfl]
      refine WCall.mk _ _ hp ?_
      refine WCmp.yes rfl ?_
      refine WOut.mk _ rfl ?_
      refine WCall.mk _ _ (f91_ok p x3 0 a _ z3 (by omega)) ?_
      rfl
    · rw [placeStep_at (l := [x0, x1, x2, x3, x4]) (k := 4) e rfl]
      refine WCall.mk _ _ hp ?_
      refine WCmp.yes rfl ?_
      refine WOut.mk _ rfl ?_
      refine WCall.mk _ _ (f91_ok p x4 0 a _ z4 (by omega)) ?_
      rfl

theorem f37_5 (n q r : Nat) (t : Tm) (x0 x1 x2 x3 x4 : Tm) (c d : Bool) (S : St) (hsm : Sm t) (hsz : sizeT t ≤ 100000000) (hw : wt t < n) (w0 : wt x0 < q) (z0 : sizeT x0 < 1000000000) (w1 : wt x1 < q) (z1 : sizeT x1 < 1000000000) (w2 : wt x2 < q) (z2 : sizeT x2 < 1000000000) (w3 : wt x3 < q) (z3 : sizeT x3 < 1000000000) (w4 : wt x4 < q) (z4 : sizeT x4 < 1000000000) (s0 : Sm x0) (s1 : Sm x1) (s2 : Sm x2) (s3 : Sm x3) (s4 : Sm x4) (hsm2 : Sm (instTm t [x0, x1, x2, x3, x4])) (hw2 : wt (instTm t [x0, x1, x2, x3, x4]) < r) :
    run Try.cfg (n + q + r + 16) (.f 37) [encA t, .list (szOf c ([x0, x1, x2, x3, x4] : List Tm)) (tkOf d) 0 ([encA x0, encA x1, encA x2, encA x3, encA x4] : List V)] S = some (encP2 (instM t [x0, x1, x2, x3, x4]), S) := by
  have : ∃ S', frame Try.cfg (run Try.cfg (n + q + r + 15)) (n + q + r + 15) 37 [encA t, .list (szOf c ([x0, x1, x2, x3, x4] : List Tm)) (tkOf d) 0 ([encA x0, encA x1, encA x2, encA x3, encA x4] : List V)] St.empty = some (encP2 (instM t [x0, x1, x2, x3, x4]), S') := by
    refine frame_ex Try.cfg _ (fn := Try.f37) rfl rfl ?_
    refine WCall.mkB (f84_ok (n + q + r + 2) t _ hsm (by omega)) (fun hm => ?_) (fun hm => ?_)
    · refine WMake.mk _ _ _ (mk75 (m := 5) rfl rfl rfl (by omega)) ?_
      refine WCode.round (nt := 56) (fx := []) ?_
      refine WCmp.yes rfl ?_
      refine WOut.mk _ rfl ?_
      refine WCall.mk _ _ (f85_ok (n + q + r + 1) x0 St.empty s0 z0 (by omega)) ?_
      refine WOut.mk _ rfl ?_
      refine WOut.mk _ rfl ?_
      refine WCmp.mk (fun g0 => ?_) (fun g0 => ?_)
      · rw [sizeM_pos] at g0
        refine WOut.mk _ rfl ?_
        refine WCode.round (nt := 56) (fx := []) ?_
        refine WCmp.yes rfl ?_
        refine WOut.mk _ rfl ?_
        refine WCall.mk _ _ (f85_ok (n + q + r + 1) x1 St.empty s1 z1 (by omega)) ?_
        refine WOut.mk _ rfl ?_
        refine WOut.mk _ rfl ?_
        refine WCmp.mk (fun g1 => ?_) (fun g1 => ?_)
        · rw [sizeM_pos] at g1
          refine WOut.mk _ rfl ?_
          refine WCode.round (nt := 56) (fx := []) ?_
          refine WCmp.yes rfl ?_
          refine WOut.mk _ rfl ?_
          refine WCall.mk _ _ (f85_ok (n + q + r + 1) x2 St.empty s2 z2 (by omega)) ?_
          refine WOut.mk _ rfl ?_
          refine WOut.mk _ rfl ?_
          refine WCmp.mk (fun g2 => ?_) (fun g2 => ?_)
          · rw [sizeM_pos] at g2
            refine WOut.mk _ rfl ?_
            refine WCode.round (nt := 56) (fx := []) ?_
            refine WCmp.yes rfl ?_
            refine WOut.mk _ rfl ?_
            refine WCall.mk _ _ (f85_ok (n + q + r + 1) x3 St.empty s3 z3 (by omega)) ?_
            refine WOut.mk _ rfl ?_
            refine WOut.mk _ rfl ?_
            refine WCmp.mk (fun g3 => ?_) (fun g3 => ?_)
            · rw [sizeM_pos] at g3
              refine WOut.mk _ rfl ?_
              refine WCode.round (nt := 56) (fx := []) ?_
              refine WCmp.yes rfl ?_
              refine WOut.mk _ rfl ?_
              refine WCall.mk _ _ (f85_ok (n + q + r + 1) x4 St.empty s4 z4 (by omega)) ?_
              refine WOut.mk _ rfl ?_
              refine WOut.mk _ rfl ?_
              refine WCmp.mk (fun g4 => ?_) (fun g4 => ?_)
              · rw [sizeM_pos] at g4
                refine WOut.mk _ rfl ?_
                refine WCode.round (nt := 56) (fx := []) ?_
                refine WCmp.no rfl ?_
                refine WCall.mk _ _ (f85_ok (n + q + r + 1) t _ hsm (by omega) (by omega)) ?_
                obtain ⟨T1, k1, _, _, e1⟩ := w88_ok (heapI5 c d x0 x1 x2 x3 x4) (sizeStep [x0, x1, x2, x3, x4]) 2 (c88_5 c d x0 x1 x2 x3 x4) (n + q + r + 12) t 0 (.ofNat (sizeM t)) [] (by omega) (by omega) (by omega)
                refine WCall.mk _ _ e1 ?_
                have e0 : instM t [x0, x1, x2, x3, x4] = bif iLt 65536 (walkG (sizeStep [x0, x1, x2, x3, x4]) t (.ofNat (sizeM t)) 0).2 then (zTm, 4) else toldT (instTm t [x0, x1, x2, x3, x4]) := by simp only [instM, List.all_cons, List.all_nil, hm, g0, g1, g2, g3, g4, Bool.and_self, cond_true]
                rw [e0]
                refine WCmp.mk (fun hz => ?_) (fun hz => ?_)
                · rw [hz]
                  exact ⟨_, rfl⟩
                · rw [hz]
                  obtain ⟨T2, k2, _, e3, e4⟩ := w90_ok (fun _ : Unit => heapI5 c d x0 x1 x2 x3 x4 (walkG (sizeStep [x0, x1, x2, x3, x4]) t (.ofNat (sizeM t)) 0).2) (placeStep [x0, x1, x2, x3, x4]) (q + 4) (c90_5 c d x0 x1 x2 x3 x4 _ q w0 z0 w1 z1 w2 z2 w3 z3 w4 z4) (n + r + 10) t 0 () T1 (by omega) (by omega) (by omega)
                  rw [show n + r + 10 + (q + 4) + 1 = n + q + r + 15 by omega] at e4
                  refine WCall.mk _ _ e4 ?_
                  refine WCall.mk _ _ (f89_ok' (n + q + r + 1) (instTm t [x0, x1, x2, x3, x4]) k2 e3 _ hsm2 (by omega)) ?_
                  exact ⟨_, rfl⟩
              · rw [sizeM_pos] at g4
                refine WOut.mk _ rfl ?_
                refine WCode.round (nt := 56) (fx := []) ?_
                refine WCmp.no rfl ?_
                rw [show instM t [x0, x1, x2, x3, x4] = (zTm, 1) by simp only [instM, List.all_cons, List.all_nil, hm, g0, g1, g2, g3, g4, Bool.true_and, Bool.false_and, Bool.and_false, Bool.and_true, cond_false]]
                exact ⟨_, rfl⟩
            · rw [sizeM_pos] at g3
              refine WOut.mk _ rfl ?_
              refine WCode.round (nt := 56) (fx := []) ?_
              refine WCmp.yes rfl ?_
              refine WOut.mk _ rfl ?_
              refine WCall.mk _ _ (f85_ok (n + q + r + 1) x4 St.empty s4 z4 (by omega)) ?_
              refine WOut.mk _ rfl ?_
              refine WOut.mk _ rfl ?_
              refine WCode.round (nt := 56) (fx := []) ?_
              refine WCmp.no rfl ?_
              rw [show instM t [x0, x1, x2, x3, x4] = (zTm, 1) by simp only [instM, List.all_cons, List.all_nil, hm, g0, g1, g2, g3, Bool.true_and, Bool.false_and, Bool.and_false, Bool.and_true, cond_false]]
              exact ⟨_, rfl⟩
          · rw [sizeM_pos] at g2
            refine WOut.mk _ rfl ?_
            refine WCode.round (nt := 56) (fx := []) ?_
            refine WCmp.yes rfl ?_
            refine WOut.mk _ rfl ?_
            refine WCall.mk _ _ (f85_ok (n + q + r + 1) x3 St.empty s3 z3 (by omega)) ?_
            refine WOut.mk _ rfl ?_
            refine WOut.mk _ rfl ?_
            refine WCode.round (nt := 56) (fx := []) ?_
            refine WCmp.yes rfl ?_
            refine WOut.mk _ rfl ?_
            refine WCall.mk _ _ (f85_ok (n + q + r + 1) x4 St.empty s4 z4 (by omega)) ?_
            refine WOut.mk _ rfl ?_
            refine WOut.mk _ rfl ?_
            refine WCode.round (nt := 56) (fx := []) ?_
            refine WCmp.no rfl ?_
            rw [show instM t [x0, x1, x2, x3, x4] = (zTm, 1) by simp only [instM, List.all_cons, List.all_nil, hm, g0, g1, g2, Bool.true_and, Bool.false_and, Bool.and_false, Bool.and_true, cond_false]]
            exact ⟨_, rfl⟩
        · rw [sizeM_pos] at g1
          refine WOut.mk _ rfl ?_
          refine WCode.round (nt := 56) (fx := []) ?_
          refine WCmp.yes rfl ?_
          refine WOut.mk _ rfl ?_
          refine WCall.mk _ _ (f85_ok (n + q + r + 1) x2 St.empty s2 z2 (by omega)) ?_
          refine WOut.mk _ rfl ?_
          refine WOut.mk _ rfl ?_
          refine WCode.round (nt := 56) (fx := []) ?_
          refine WCmp.yes rfl ?_
          refine WOut.mk _ rfl ?_
          refine WCall.mk _ _ (f85_ok (n + q + r + 1) x3 St.empty s3 z3 (by omega)) ?_
          refine WOut.mk _ rfl ?_
          refine WOut.mk _ rfl ?_
          refine WCode.round (nt := 56) (fx := []) ?_
          refine WCmp.yes rfl ?_
          refine WOut.mk _ rfl ?_
          refine WCall.mk _ _ (f85_ok (n + q + r + 1) x4 St.empty s4 z4 (by omega)) ?_
          refine WOut.mk _ rfl ?_
          refine WOut.mk _ rfl ?_
          refine WCode.round (nt := 56) (fx := []) ?_
          refine WCmp.no rfl ?_
          rw [show instM t [x0, x1, x2, x3, x4] = (zTm, 1) by simp only [instM, List.all_cons, List.all_nil, hm, g0, g1, Bool.true_and, Bool.false_and, Bool.and_false, Bool.and_true, cond_false]]
          exact ⟨_, rfl⟩
      · rw [sizeM_pos] at g0
        refine WOut.mk _ rfl ?_
        refine WCode.round (nt := 56) (fx := []) ?_
        refine WCmp.yes rfl ?_
        refine WOut.mk _ rfl ?_
        refine WCall.mk _ _ (f85_ok (n + q + r + 1) x1 St.empty s1 z1 (by omega)) ?_
        refine WOut.mk _ rfl ?_
        refine WOut.mk _ rfl ?_
        refine WCode.round (nt := 56) (fx := []) ?_
        refine WCmp.yes rfl ?_
        refine WOut.mk _ rfl ?_
        refine WCall.mk _ _ (f85_ok (n + q + r + 1) x2 St.empty s2 z2 (by omega)) ?_
        refine WOut.mk _ rfl ?_
        refine WOut.mk _ rfl ?_
        refine WCode.round (nt := 56) (fx := []) ?_
        refine WCmp.yes rfl ?_
        refine WOut.mk _ rfl ?_
        refine WCall.mk _ _ (f85_ok (n + q + r + 1) x3 St.empty s3 z3 (by omega)) ?_
        refine WOut.mk _ rfl ?_
        refine WOut.mk _ rfl ?_
        refine WCode.round (nt := 56) (fx := []) ?_
        refine WCmp.yes rfl ?_
        refine WOut.mk _ rfl ?_
        refine WCall.mk _ _ (f85_ok (n + q + r + 1) x4 St.empty s4 z4 (by omega)) ?_
        refine WOut.mk _ rfl ?_
        refine WOut.mk _ rfl ?_
        refine WCode.round (nt := 56) (fx := []) ?_
        refine WCmp.no rfl ?_
        rw [show instM t [x0, x1, x2, x3, x4] = (zTm, 1) by simp only [instM, List.all_cons, List.all_nil, hm, g0, Bool.true_and, Bool.false_and, Bool.and_false, Bool.and_true, cond_false]]
        exact ⟨_, rfl⟩
    · refine WMake.mk _ _ _ (mk75 (m := 5) rfl rfl rfl (by omega)) ?_
      refine WCode.round (nt := 56) (fx := []) ?_
      refine WCmp.yes rfl ?_
      refine WOut.mk _ rfl ?_
      refine WCall.mk _ _ (f85_ok (n + q + r + 1) x0 St.empty s0 z0 (by omega)) ?_
      refine WOut.mk _ rfl ?_
      refine WOut.mk _ rfl ?_
      refine WCode.round (nt := 56) (fx := []) ?_
      refine WCmp.yes rfl ?_
      refine WOut.mk _ rfl ?_
      refine WCall.mk _ _ (f85_ok (n + q + r + 1) x1 St.empty s1 z1 (by omega)) ?_
      refine WOut.mk _ rfl ?_
      refine WOut.mk _ rfl ?_
      refine WCode.round (nt := 56) (fx := []) ?_
      refine WCmp.yes rfl ?_
      refine WOut.mk _ rfl ?_
      refine WCall.mk _ _ (f85_ok (n + q + r + 1) x2 St.empty s2 z2 (by omega)) ?_
      refine WOut.mk _ rfl ?_
      refine WOut.mk _ rfl ?_
      refine WCode.round (nt := 56) (fx := []) ?_
      refine WCmp.yes rfl ?_
      refine WOut.mk _ rfl ?_
      refine WCall.mk _ _ (f85_ok (n + q + r + 1) x3 St.empty s3 z3 (by omega)) ?_
      refine WOut.mk _ rfl ?_
      refine WOut.mk _ rfl ?_
      refine WCode.round (nt := 56) (fx := []) ?_
      refine WCmp.yes rfl ?_
      refine WOut.mk _ rfl ?_
      refine WCall.mk _ _ (f85_ok (n + q + r + 1) x4 St.empty s4 z4 (by omega)) ?_
      refine WOut.mk _ rfl ?_
      refine WOut.mk _ rfl ?_
      refine WCode.round (nt := 56) (fx := []) ?_
      refine WCmp.no rfl ?_
      rw [show instM t [x0, x1, x2, x3, x4] = (zTm, 1) by simp only [instM, List.all_cons, List.all_nil, hm, Bool.true_and, Bool.false_and, Bool.and_false, Bool.and_true, cond_false]]
      exact ⟨_, rfl⟩
  obtain ⟨S', this⟩ := this
  exact run_tm this (by simp only [strips_t, strips_ts, strips_nil]) rfl rfl rfl rfl (stripAll_P2 _)

/-! ### 6 terms -/

noncomputable def heapI6 (c d : Bool) (x0 x1 x2 x3 x4 x5 : Tm) (s : Int) : List Blk := [.cells 44 [.list (szOf c ([x0, x1, x2, x3, x4, x5] : List Tm)) (tkOf d) 0 ([encA x0, encA x1, encA x2, encA x3, encA x4, encA x5] : List V)], .cells 3 [.int .i64 (.ofNat (sizeM x0)), .int .i64 (.ofNat (sizeM x1)), .int .i64 (.ofNat (sizeM x2)), .int .i64 (.ofNat (sizeM x3)), .int .i64 (.ofNat (sizeM x4)), .int .i64 (.ofNat (sizeM x5))], .cells 75 [.slc (.box 1) 0 1 6 6], .cells 3 [.int .i64 s], .cells 99 [.fn 86 1 [] [.ptr (.box 0) 0]]]

theorem c88_6 (c d : Bool) (x0 x1 x2 x3 x4 x5 : Tm) (n : Nat) (s : Int) (x : Tm) (a : Int) (T : List Nat) (hn : 2 ≤ n) (h2 : iEq x.k 2 = true) (h0 : 0 ≤ a) (ha : a ≤ 1000000000) : run Try.cfg n (.f 88) (encA x :: .int .i64 a :: [.ptr (.box 4) 0, .ptr (.box 3) 0, .ptr (.box 2) 0]) { heap := heapI6 c d x0 x1 x2 x3 x4 x5 s, toks := T } = some (encA (sizeStep [x0, x1, x2, x3, x4, x5] s x a).1, { heap := heapI6 c d x0 x1 x2 x3 x4 x5 (sizeStep [x0, x1, x2, x3, x4, x5] s x a).2, toks := T }) := by
  obtain ⟨p, rfl⟩ : ∃ p, n = p + 2 := ⟨n - 2, by omega⟩
  have hp := f86_ok p x.n a (szOf c ([x0, x1, x2, x3, x4, x5] : List Tm)) (tkOf d) ([encA x0, encA x1, encA x2, encA x3, encA x4, encA x5] : List V) (heapI6 c d x0 x1 x2 x3 x4 x5 s).tail T
  refine run_here rfl ?_
  refine frame_of Try.cfg _ (fn := Try.f88) rfl rfl ?_
  rcases placeK_cases (nn := x.n) (a := a) (m := 6) h0 ha (by omega) with ⟨e, _⟩ | ⟨k, hk, e, _⟩
  · rw [show placeK x.n a (lenN ([encA x0, encA x1, encA x2, encA x3, encA x4, encA x5] : List V)) = -1 from e] at hp
    rw [sizeStep_no (l := [x0, x1, x2, x3, x4, x5]) e]
    refine WCall.mk _ _ hp ?_
    refine WCmp.no rfl ?_
    rfl
  · rw [show placeK x.n a (lenN ([encA x0, encA x1, encA x2, encA x3, encA x4, encA x5] : List V)) = .ofNat k from e] at hp
    have hc : k = 0 ∨ k = 1 ∨ k = 2 ∨ k = 3 ∨ k = 4 ∨ k = 5 := by omega
    rcases hc with rfl | rfl | rfl | rfl | rfl | rfl
    · rw [sizeStep_at (l := [x0, x1, x2, x3, x4, x5]) (k := 0) e rfl]
      refine WCall.mk _ _ hp ?_
      refine WCmp.yes rfl ?_
      refine WOut.mk _ rfl ?_
      refine WOut.mk _ rfl ?_
      refine WOut.mk _ rfl ?_
      rfl
    · rw [sizeStep_at (l := [x0, x1, x2, x3, x4, x5]) (k := 1) e rfl]
      refine WCall.mk _ _ hp ?_
      refine WCmp.yes rfl ?_
      refine WOut.mk _ rfl ?_
      refine WOut.mk _ rfl ?_
      refine WOut.mk _ rfl ?_
      rfl
    · rw [sizeStep_at (l := [x0, x1, x2, x3, x4, x5]) (k := 2) e rfl]
      refine WCall.mk _ _ hp ?_
      refine WCmp.yes rfl ?_
      refine WOut.mk _ rfl ?_
      refine WOut.mk _ rfl ?_
      refine WOut.mk _ rfl ?_
      rfl
    · rw [sizeStep_at (l := [x0, x1, x2, x3, x4, x5]) (k := 3) e rfl]
      refine WCall.mk _ _ hp ?_
      refine WCmp.yes rfl ?_
      refine WOut.mk _ rfl ?_
      refine WOut.mk _ rfl ?_
      refine WOut.mk _ rfl ?_
      rfl
    · rw [sizeStep_at (l := [x0, x1, x2, x3, x4, x5]) (k := 4) e rfl]
      refine WCall.mk _ _ hp ?_
      refine WCmp.yes rfl ?_
      refine WOut.mk _ rfl ?_
      refine WOut.mk _ rfl ?_
      refine WOut.mk _ rfl ?_
      rfl
    · rw [sizeStep_at (l := [x0, x1, x2, x3, x4, x5]) (k := 5) e rfl]
      refine WCall.mk _ _ hp ?_
      refine WCmp.yes rfl ?_
      refine WOut.mk _ rfl ?_
      refine WOut.mk _ rfl ?_
      refine WOut.mk _ rfl ?_
      rfl

theorem c90_6 (c d : Bool) (x0 x1 x2 x3 x4 x5 : Tm) (z : Int) (q : Nat) (w0 : wt x0 < q) (z0 : sizeT x0 < 1000000000) (w1 : wt x1 < q) (z1 : sizeT x1 < 1000000000) (w2 : wt x2 < q) (z2 : sizeT x2 < 1000000000) (w3 : wt x3 < q) (z3 : sizeT x3 < 1000000000) (w4 : wt x4 < q) (z4 : sizeT x4 < 1000000000) (w5 : wt x5 < q) (z5 : sizeT x5 < 1000000000) (n : Nat) (s : Unit) (x : Tm) (a : Int) (T : List Nat) (hn : q + 4 ≤ n) (h2 : iEq x.k 2 = true) (h0 : 0 ≤ a) (ha : a ≤ 1000000000) : run Try.cfg n (.f 90) (encA x :: .int .i64 a :: [.ptr (.box 4) 0, .ptr (.box 0) 0]) { heap := heapI6 c d x0 x1 x2 x3 x4 x5 z, toks := T } = some (encA (placeStep [x0, x1, x2, x3, x4, x5] s x a).1, { heap := heapI6 c d x0 x1 x2 x3 x4 x5 z, toks := T }) := by
  obtain ⟨p, rfl⟩ : ∃ p, n = p + 4 := ⟨n - 4, by omega⟩
  have hp := f86_ok (p + 2) x.n a (szOf c ([x0, x1, x2, x3, x4, x5] : List Tm)) (tkOf d) ([encA x0, encA x1, encA x2, encA x3, encA x4, encA x5] : List V) (heapI6 c d x0 x1 x2 x3 x4 x5 z).tail T
  refine run_here rfl ?_
  refine frame_of Try.cfg _ (fn := Try.f90) rfl rfl ?_
  rcases placeK_cases (nn := x.n) (a := a) (m := 6) h0 ha (by omega) with ⟨e, _⟩ | ⟨k, hk, e, _⟩
  · rw [show placeK x.n a (lenN ([encA x0, encA x1, encA x2, encA x3, encA x4, encA x5] : List V)) = -1 from e] at hp
    rw [placeStep_no (l := [x0, x1, x2, x3, x4, x5]) e]
    refine WCall.mk _ _ hp ?_
    refine WCmp.no rfl ?_
    refine WCmp.mk (fun h3 => ?_) (fun h3 => ?_)
    · simp only [Bool.not_eq_true'] at h3
      rw [h3]
      refine WOut.mk _ rfl ?_
      rfl
    · simp only [Bool.not_eq_false'] at h3
      rw [h3]
      rfl
  · rw [show placeK x.n a (lenN ([encA x0, encA x1, encA x2, encA x3, encA x4, encA x5] : List V)) = .ofNat k from e] at hp
    have hc : k = 0 ∨ k = 1 ∨ k = 2 ∨ k = 3 ∨ k = 4 ∨ k = 5 := by omega
    rcases hc with rfl | rfl | rfl | rfl | rfl | rfl
    · rw [placeStep_at (l := [x0, x1, x2, x3, x4, x5]) (k := 0) e rfl]
      refine WCall.mk _ _ hp ?_
      refine WCmp.yes rfl ?_
      refine WOut.mk _ rfl ?_
      refine WCall.mk _ _ (f91_ok p x0 0 a _ z0 (by omega)) ?_
      rfl
    · rw [placeStep_at (l := [x0, x1, x2, x3, x4, x5]) (k := 1) e rfl]
      refine WCall.mk _ _ hp ?_
      refine WCmp.yes rfl ?_
      refine WOut.mk _ rfl ?_
      refine WCall.mk _ _ (f91_ok p x1 0 a _ z1 (by omega)) ?_
      rfl
    · rw [placeStep_at (l := [x0, x1, x2, x3, x4, x5]) (k := 2) e rfl]
      refine WCall.mk _ _ hp ?_
      refine WCmp.yes rfl ?_
      refine WOut.mk _ rfl ?_
      refine WCall.mk _ _ (f91_ok p x2 0 a _ z2 (by omega)) ?_
      rfl
    · rw [placeStep_at (l := [x0, x1, x2, x3, x4, x5]) (k := 3) e rfl]
      refine WCall.mk _ _ hp ?_
      refine WCmp.yes rfl ?_
      refine WOut.mk _ rfl ?_
      refine WCall.mk _ _ (f91_ok p x3 0 a _ z3 (by omega)) ?_
      rfl
    · rw [placeStep_at (l := [x0, x1, x2, x3, x4, x5]) (k := 4) e rfl]
      refine WCall.mk _ _ hp ?_
      refine WCmp.yes rfl ?_
      refine WOut.mk _ rfl ?_
      refine WCall.mk _ _ (f91_ok p x4 0 a _ z4 (by omega)) ?_
      rfl
    · rw [placeStep_at (l := [x0, x1, x2, x3, x4, x5]) (k := 5) e rfl]
      refine WCall.mk _ _ hp ?_
      refine WCmp.yes rfl ?_
      refine WOut.mk _ rfl ?_
      refine WCall.mk _ _ (f91_ok p x5 0 a _ z5 (by omega)) ?_
      rfl

theorem f37_6 (n q r : Nat) (t : Tm) (x0 x1 x2 x3 x4 x5 : Tm) (c d : Bool) (S : St) (hsm : Sm t) (hsz : sizeT t ≤ 100000000) (hw : wt t < n) (w0 : wt x0 < q) (z0 : sizeT x0 < 1000000000) (w1 : wt x1 < q) (z1 : sizeT x1 < 1000000000) (w2 : wt x2 < q) (z2 : sizeT x2 < 1000000000) (w3 : wt x3 < q) (z3 : sizeT x3 < 1000000000) (w4 : wt x4 < q) (z4 : sizeT x4 < 1000000000) (w5 : wt x5 < q) (z5 : sizeT x5 < 1000000000) (s0 : Sm x0) (s1 : Sm x1) (s2 : Sm x2) (s3 : Sm x3) (s4 : Sm x4) (s5 : Sm x5) (hsm2 : Sm (instTm t [x0, x1, x2, x3, x4, x5])) (hw2 : wt (instTm t [x0, x1, x2, x3, x4, x5]) < r) :
    run Try.cfg (n + q + r + 16) (.f 37) [encA t, .list (szOf c ([x0, x1, x2, x3, x4, x5] : List Tm)) (tkOf d) 0 ([encA x0, encA x1, encA x2, encA x3, encA x4, encA x5] : List V)] S = some (encP2 (instM t [x0, x1, x2, x3, x4, x5]), S) := by
  have : ∃ S', frame Try.cfg (run Try.cfg (n + q + r + 15)) (n + q + r + 15) 37 [encA t, .list (szOf c ([x0, x1, x2, x3, x4, x5] : List Tm)) (tkOf d) 0 ([encA x0, encA x1, encA x2, encA x3, encA x4, encA x5] : List V)] St.empty = some (encP2 (instM t [x0, x1, x2, x3, x4, x5]), S') := by
    refine frame_ex Try.cfg _ (fn := Try.f37) rfl rfl ?_
    refine WCall.mkB (f84_ok (n + q + r + 2) t _ hsm (by omega)) (fun hm => ?_) (fun hm => ?_)
    · refine WMake.mk _ _ _ (mk75 (m := 6) rfl rfl rfl (by omega)) ?_
      refine WCode.round (nt := 56) (fx := []) ?_
      refine WCmp.yes rfl ?_
      refine WOut.mk _ rfl ?_
      refine WCall.mk _ _ (f85_ok (n + q + r + 1) x0 St.empty s0 z0 (by omega)) ?_
      refine WOut.mk _ rfl ?_
      refine WOut.mk _ rfl ?_
      refine WCmp.mk (fun g0 => ?_) (fun g0 => ?_)
      · rw [sizeM_pos] at g0
        refine WOut.mk _ rfl ?_
        refine WCode.round (nt := 56) (fx := []) ?_
        refine WCmp.yes rfl ?_
        refine WOut.mk _ rfl ?_
        refine WCall.mk _ _ (f85_ok (n + q + r + 1) x1 St.empty s1 z1 (by omega)) ?_
        refine WOut.mk _ rfl ?_
        refine WOut.mk _ rfl ?_
        refine WCmp.mk (fun g1 => ?_) (fun g1 => ?_)
        · rw [sizeM_pos] at g1
          refine WOut.mk _ rfl ?_
          refine WCode.round (nt := 56) (fx := []) ?_
          refine WCmp.yes rfl ?_
          refine WOut.mk _ rfl ?_
          refine WCall.mk _ _ (f85_ok (n + q + r + 1) x2 St.empty s2 z2 (by omega)) ?_
          refine WOut.mk _ rfl ?_
          refine WOut.mk _ rfl ?_
          refine WCmp.mk (fun g2 => ?_) (fun g2 => ?_)
          · rw [sizeM_pos] at g2
            refine WOut.mk _ rfl ?_
            refine WCode.round (nt := 56) (fx := []) ?_
            refine WCmp.yes rfl ?_
            refine WOut.mk _ rfl ?_
            refine WCall.mk _ _ (f85_ok (n + q + r + 1) x3 St.empty s3 z3 (by omega)) ?_
            refine WOut.mk _ rfl ?_
            refine WOut.mk _ rfl ?_
            refine WCmp.mk (fun g3 => ?_) (fun g3 => ?_)
            · rw [sizeM_pos] at g3
              refine WOut.mk _ rfl ?_
              refine WCode.round (nt := 56) (fx := []) ?_
              refine WCmp.yes rfl ?_
              refine WOut.mk _ rfl ?_
              refine WCall.mk _ _ (f85_ok (n + q + r + 1) x4 St.empty s4 z4 (by omega)) ?_
              refine WOut.mk _ rfl ?_
              refine WOut.mk _ rfl ?_
              refine WCmp.mk (fun g4 => ?_) (fun g4 => ?_)
              · rw [sizeM_pos] at g4
                refine WOut.mk _ rfl ?_
                refine WCode.round (nt := 56) (fx := []) ?_
                refine WCmp.yes rfl ?_
                refine WOut.mk _ rfl ?_
                refine WCall.mk _ _ (f85_ok (n + q + r + 1) x5 St.empty s5 z5 (by omega)) ?_
                refine WOut.mk _ rfl ?_
                refine WOut.mk _ rfl ?_
                refine WCmp.mk (fun g5 => ?_) (fun g5 => ?_)
                · rw [sizeM_pos] at g5
                  refine WOut.mk _ rfl ?_
                  refine WCode.round (nt := 56) (fx := []) ?_
                  refine WCmp.no rfl ?_
                  refine WCall.mk _ _ (f85_ok (n + q + r + 1) t _ hsm (by omega) (by omega)) ?_
                  obtain ⟨T1, k1, _, _, e1⟩ := w88_ok (heapI6 c d x0 x1 x2 x3 x4 x5) (sizeStep [x0, x1, x2, x3, x4, x5]) 2 (c88_6 c d x0 x1 x2 x3 x4 x5) (n + q + r + 12) t 0 (.ofNat (sizeM t)) [] (by omega) (by omega) (by omega)
                  refine WCall.mk _ _ e1 ?_
                  have e0 : instM t [x0, x1, x2, x3, x4, x5] = bif iLt 65536 (walkG (sizeStep [x0, x1, x2, x3, x4, x5]) t (.ofNat (sizeM t)) 0).2 then (zTm, 4) else toldT (instTm t [x0, x1, x2, x3, x4, x5]) := by simp only [instM, List.all_cons, List.all_nil, hm, g0, g1, g2, g3, g4, g5, Bool.and_self, cond_true]
                  rw [e0]
                  refine WCmp.mk (fun hz => ?_) (fun hz => ?_)
                  · rw [hz]
                    exact ⟨_, rfl⟩
                  · rw [hz]
                    obtain ⟨T2, k2, _, e3, e4⟩ := w90_ok (fun _ : Unit => heapI6 c d x0 x1 x2 x3 x4 x5 (walkG (sizeStep [x0, x1, x2, x3, x4, x5]) t (.ofNat (sizeM t)) 0).2) (placeStep [x0, x1, x2, x3, x4, x5]) (q + 4) (c90_6 c d x0 x1 x2 x3 x4 x5 _ q w0 z0 w1 z1 w2 z2 w3 z3 w4 z4 w5 z5) (n + r + 10) t 0 () T1 (by omega) (by omega) (by omega)
                    rw [show n + r + 10 + (q + 4) + 1 = n + q + r + 15 by omega] at e4
                    refine WCall.mk _ _ e4 ?_
                    refine WCall.mk _ _ (f89_ok' (n + q + r + 1) (instTm t [x0, x1, x2, x3, x4, x5]) k2 e3 _ hsm2 (by omega)) ?_
                    exact ⟨_, rfl⟩
                · rw [sizeM_pos] at g5
                  refine WOut.mk _ rfl ?_
                  refine WCode.round (nt := 56) (fx := []) ?_
                  refine WCmp.no rfl ?_
                  rw [show instM t [x0, x1, x2, x3, x4, x5] = (zTm, 1) by simp only [instM, List.all_cons, List.all_nil, hm, g0, g1, g2, g3, g4, g5, Bool.true_and, Bool.false_and, Bool.and_false, Bool.and_true, cond_false]]
                  exact ⟨_, rfl⟩
              · rw [sizeM_pos] at g4
                refine WOut.mk _ rfl ?_
                refine WCode.round (nt := 56) (fx := []) ?_
                refine WCmp.yes rfl ?_
                refine WOut.mk _ rfl ?_
                refine WCall.mk _ _ (f85_ok (n + q + r + 1) x5 St.empty s5 z5 (by omega)) ?_
                refine WOut.mk _ rfl ?_
                refine WOut.mk _ rfl ?_
                refine WCode.round (nt := 56) (fx := []) ?_
                refine WCmp.no rfl ?_
                rw [show instM t [x0, x1, x2, x3, x4, x5] = (zTm, 1) by simp only [instM, List.all_cons, List.all_nil, hm, g0, g1, g2, g3, g4, Bool.true_and, Bool.false_and, Bool.and_false, Bool.and_true, cond_false]]
                exact ⟨_, rfl⟩
            · rw [sizeM_pos] at g3
              refine WOut.mk _ rfl ?_
              refine WCode.round (nt := 56) (fx := []) ?_
              refine WCmp.yes rfl ?_
              refine WOut.mk _ rfl ?_
              refine WCall.mk _ _ (f85_ok (n + q + r + 1) x4 St.empty s4 z4 (by omega)) ?_
              refine WOut.mk _ rfl ?_
              refine WOut.mk _ rfl ?_
              refine WCode.round (nt := 56) (fx := []) ?_
              refine WCmp.yes rfl ?_
              refine WOut.mk _ rfl ?_
              refine WCall.mk _ _ (f85_ok (n + q + r + 1) x5 St.empty s5 z5 (by omega)) ?_
              refine WOut.mk _ rfl ?_
              refine WOut.mk _ rfl ?_
              refine WCode.round (nt := 56) (fx := []) ?_
              refine WCmp.no rfl ?_
              rw [show instM t [x0, x1, x2, x3, x4, x5] = (zTm, 1) by simp only [instM, List.all_cons, List.all_nil, hm, g0, g1, g2, g3, Bool.true_and, Bool.false_and, Bool.and_false, Bool.and_true, cond_false]]
              exact ⟨_, rfl⟩
          · rw [sizeM_pos] at g2
            refine WOut.mk _ rfl ?_
            refine WCode.round (nt := 56) (fx := []) ?_
            refine WCmp.yes rfl ?_
            refine WOut.mk _ rfl ?_
            refine WCall.mk _ _ (f85_ok (n + q + r + 1) x3 St.empty s3 z3 (by omega)) ?_
            refine WOut.mk _ rfl ?_
            refine WOut.mk _ rfl ?_
            refine WCode.round (nt := 56) (fx := []) ?_
            refine WCmp.yes rfl ?_
            refine WOut.mk _ rfl ?_
            refine WCall.mk _ _ (f85_ok (n + q + r + 1) x4 St.empty s4 z4 (by omega)) ?_
            refine WOut.mk _ rfl ?_
            refine WOut.mk _ rfl ?_
            refine WCode.round (nt := 56) (fx := []) ?_
            refine WCmp.yes rfl ?_
            refine WOut.mk _ rfl ?_
            refine WCall.mk _ _ (f85_ok (n + q + r + 1) x5 St.empty s5 z5 (by omega)) ?_
            refine WOut.mk _ rfl ?_
            refine WOut.mk _ rfl ?_
            refine WCode.round (nt := 56) (fx := []) ?_
            refine WCmp.no rfl ?_
            rw [show instM t [x0, x1, x2, x3, x4, x5] = (zTm, 1) by simp only [instM, List.all_cons, List.all_nil, hm, g0, g1, g2, Bool.true_and, Bool.false_and, Bool.and_false, Bool.and_true, cond_false]]
            exact ⟨_, rfl⟩
        · rw [sizeM_pos] at g1
          refine WOut.mk _ rfl ?_
          refine WCode.round (nt := 56) (fx := []) ?_
          refine WCmp.yes rfl ?_
          refine WOut.mk _ rfl ?_
          refine WCall.mk _ _ (f85_ok (n + q + r + 1) x2 St.empty s2 z2 (by omega)) ?_
          refine WOut.mk _ rfl ?_
          refine WOut.mk _ rfl ?_
          refine WCode.round (nt := 56) (fx := []) ?_
          refine WCmp.yes rfl ?_
          refine WOut.mk _ rfl ?_
          refine WCall.mk _ _ (f85_ok (n + q + r + 1) x3 St.empty s3 z3 (by omega)) ?_
          refine WOut.mk _ rfl ?_
          refine WOut.mk _ rfl ?_
          refine WCode.round (nt := 56) (fx := []) ?_
          refine WCmp.yes rfl ?_
          refine WOut.mk _ rfl ?_
          refine WCall.mk _ _ (f85_ok (n + q + r + 1) x4 St.empty s4 z4 (by omega)) ?_
          refine WOut.mk _ rfl ?_
          refine WOut.mk _ rfl ?_
          refine WCode.round (nt := 56) (fx := []) ?_
          refine WCmp.yes rfl ?_
          refine WOut.mk _ rfl ?_
          refine WCall.mk _ _ (f85_ok (n + q + r + 1) x5 St.empty s5 z5 (by omega)) ?_
          refine WOut.mk _ rfl ?_
          refine WOut.mk _ rfl ?_
          refine WCode.round (nt := 56) (fx := []) ?_
          refine WCmp.no rfl ?_
          rw [show instM t [x0, x1, x2, x3, x4, x5] = (zTm, 1) by simp only [instM, List.all_cons, List.all_nil, hm, g0, g1, Bool.true_and, Bool.false_and, Bool.and_false, Bool.and_true, cond_false]]
          exact ⟨_, rfl⟩
      · rw [sizeM_pos] at g0
        refine WOut.mk _ rfl ?_
        refine WCode.round (nt := 56) (fx := []) ?_
        refine WCmp.yes rfl ?_
        refine WOut.mk _ rfl ?_
        refine WCall.mk _ _ (f85_ok (n + q + r + 1) x1 St.empty s1 z1 (by omega)) ?_
        refine WOut.mk _ rfl ?_
        refine WOut.mk _ rfl ?_
        refine WCode.round (nt := 56) (fx := []) ?_
        refine WCmp.yes rfl ?_
        refine WOut.mk _ rfl ?_
        refine WCall.mk _ _ (f85_ok (n + q + r + 1) x2 St.empty s2 z2 (by omega)) ?_
        refine WOut.mk _ rfl ?_
        refine WOut.mk _ rfl ?_
        refine WCode.round (nt := 56) (fx := []) ?_
        refine WCmp.yes rfl ?_
        refine WOut.mk _ rfl ?_
        refine WCall.mk _ _ (f85_ok (n + q + r + 1) x3 St.empty s3 z3 (by omega)) ?_
        refine WOut.mk _ rfl ?_
        refine WOut.mk _ rfl ?_
        refine WCode.round (nt := 56) (fx := []) ?_
        refine WCmp.yes rfl ?_
        refine WOut.mk _ rfl ?_
        refine WCall.mk _ _ (f85_ok (n + q + r + 1) x4 St.empty s4 z4 (by omega)) ?_
        refine WOut.mk _ rfl ?_
        refine WOut.mk _ rfl ?_
        refine WCode.round (nt := 56) (fx := []) ?_
        refine WCmp.yes rfl ?_
        refine WOut.mk _ rfl ?_
        refine WCall.mk _ _ (f85_ok (n + q + r + 1) x5 St.empty s5 z5 (by omega)) ?_
        refine WOut.mk _ rfl ?_
        refine WOut.mk _ rfl ?_
        refine WCode.round (nt := 56) (fx := []) ?_
        refine WCmp.no rfl ?_
        rw [show instM t [x0, x1, x2, x3, x4, x5] = (zTm, 1) by simp only [instM, List.all_cons, List.all_nil, hm, g0, Bool.true_and, Bool.false_and, Bool.and_false, Bool.and_true, cond_false]]
        exact ⟨_, rfl⟩
    · refine WMake.mk _ _ _ (mk75 (m := 6) rfl rfl rfl (by omega)) ?_
      refine WCode.round (nt := 56) (fx := []) ?_
      refine WCmp.yes rfl ?_
      refine WOut.mk _ rfl ?_
      refine WCall.mk _ _ (f85_ok (n + q + r + 1) x0 St.empty s0 z0 (by omega)) ?_
      refine WOut.mk _ rfl ?_
      refine WOut.mk _ rfl ?_
      refine WCode.round (nt := 56) (fx := []) ?_
      refine WCmp.yes rfl ?_
      refine WOut.mk _ rfl ?_
      refine WCall.mk _ _ (f85_ok (n + q + r + 1) x1 St.empty s1 z1 (by omega)) ?_
      refine WOut.mk _ rfl ?_
      refine WOut.mk _ rfl ?_
      refine WCode.round (nt := 56) (fx := []) ?_
      refine WCmp.yes rfl ?_
      refine WOut.mk _ rfl ?_
      refine WCall.mk _ _ (f85_ok (n + q + r + 1) x2 St.empty s2 z2 (by omega)) ?_
      refine WOut.mk _ rfl ?_
      refine WOut.mk _ rfl ?_
      refine WCode.round (nt := 56) (fx := []) ?_
      refine WCmp.yes rfl ?_
      refine WOut.mk _ rfl ?_
      refine WCall.mk _ _ (f85_ok (n + q + r + 1) x3 St.empty s3 z3 (by omega)) ?_
      refine WOut.mk _ rfl ?_
      refine WOut.mk _ rfl ?_
      refine WCode.round (nt := 56) (fx := []) ?_
      refine WCmp.yes rfl ?_
      refine WOut.mk _ rfl ?_
      refine WCall.mk _ _ (f85_ok (n + q + r + 1) x4 St.empty s4 z4 (by omega)) ?_
      refine WOut.mk _ rfl ?_
      refine WOut.mk _ rfl ?_
      refine WCode.round (nt := 56) (fx := []) ?_
      refine WCmp.yes rfl ?_
      refine WOut.mk _ rfl ?_
      refine WCall.mk _ _ (f85_ok (n + q + r + 1) x5 St.empty s5 z5 (by omega)) ?_
      refine WOut.mk _ rfl ?_
      refine WOut.mk _ rfl ?_
      refine WCode.round (nt := 56) (fx := []) ?_
      refine WCmp.no rfl ?_
      rw [show instM t [x0, x1, x2, x3, x4, x5] = (zTm, 1) by simp only [instM, List.all_cons, List.all_nil, hm, Bool.true_and, Bool.false_and, Bool.and_false, Bool.and_true, cond_false]]
      exact ⟨_, rfl⟩
  obtain ⟨S', this⟩ := this
  exact run_tm this (by simp only [strips_t, strips_ts, strips_nil]) rfl rfl rfl rfl (stripAll_P2 _)

end Go.Ev
