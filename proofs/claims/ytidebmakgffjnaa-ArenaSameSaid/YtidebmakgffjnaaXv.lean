/- Terms: the package Inst, lists of few terms (own work). -/
import Derived.Test.YtidebmakgffjnaaXu
/- Terms: the package's Inst (written by tmq.py; own work). -/
namespace Go.Ev
open Go.Proofs
set_option maxRecDepth 100000
set_option linter.unusedSimpArgs false
set_option linter.unusedVariables false


theorem w88_by {σ : Type} (H : σ → List Blk) (step : σ → Tm → Int → Tm × σ) (n k : Nat) (x : Tm) (around : Int) (K : Ex → Env → St → Prop) (hlen : x.ts.length < 1000000000) (h0 : 0 ≤ around) (ha : around ≤ 1000000000) (T0 : List Nat)
    (hrec : ∀ y ∈ x.ts, ∀ (s : σ) a T, 0 ≤ a → a ≤ around + 1 → ∃ T' tk, ExtT T T' ∧ strTok tk = tkOf (walkG step y s a).1.d ∧
      run Try.cfg (n + 1) (.f 87) [encA y, .int .i64 a, .fn 88 5 [] [.ptr (.box 4) 0, .ptr (.box 3) 0, .ptr (.box 2) 0]] { heap := H s, toks := T } = some (.agg (cellsR (walkG step y s a).1 tk), { heap := H (walkG step y s a).2, toks := T' })) :
    ∀ (rem : List Tm) (j f : Nat) (done : List Tm) (s : σ) (T : List Nat) (tok : Tok) (o : Option Tm), rem.length < f → (∀ i, rem[i]? = x.ts[j + i]?) → j + rem.length = x.ts.length → j = done.length → GrowsT T0 T done tok →
    (∀ T' tok' (o : Option Tm), GrowsT T0 T' (done ++ (walkGs step x.k rem j s around).1) tok' → K (.exit 0) { nt := 40, tmps := [(1, .int .i64 around), (2, .fn 88 5 [] [.ptr (.box 4) 0, .ptr (.box 3) 0, .ptr (.box 2) 0]), (3, .ptr (.loc 3) 0), (6, .ptr (.loc 6) 0), (7, .list (szOf false (done ++ (walkGs step x.k rem j s around).1)) tok' 0 (encTs (done ++ (walkGs step x.k rem j s around).1))), (18, .list (szOf x.c x.ts) (tkOf x.d) 0 (encTs x.ts)), (19, .int .i64 (.ofNat (lenN (encTs x.ts)))), (20, .int .i64 (.ofNat x.ts.length)), (21, .bool false)], locs := (3, cellsT x) :: (6, zeroT) :: oneMore 9 o, fix := [] } { heap := H (walkGs step x.k rem j s around).2, toks := T' }) →
    WCode (iter (evalCode Try.cfg (run Try.cfg (n + 1)) k 87 (Try.cfg.fc 87) f87L) f { nt := 40, tmps := [(1, .int .i64 around), (2, .fn 88 5 [] [.ptr (.box 4) 0, .ptr (.box 3) 0, .ptr (.box 2) 0]), (3, .ptr (.loc 3) 0), (6, .ptr (.loc 6) 0), (7, .list (szOf false done) tok 0 (encTs done)), (18, .list (szOf x.c x.ts) (tkOf x.d) 0 (encTs x.ts)), (19, .int .i64 (.ofNat (lenN (encTs x.ts)))), (20, .int .i64 (.ofNat j))], locs := (3, cellsT x) :: (6, zeroT) :: oneMore 9 o, fix := [] } { heap := H s, toks := T }) K
  | [], j, f + 1, done, s, T, tok, o, hf, hr, hj, hjd, hg, hK => by
    have hjl : j = x.ts.length := by simpa using hj
    subst hjl
    rw [walkGs] at hK
    simp only [List.append_nil] at hK
    have hK := hK T tok o hg
    cases o
    all_goals
      refine WCode.round (nt := 40) (fx := []) ?_
      refine WCmp.no (geLen (by omega)) ?_
      exact hK
  | y :: rem, j, f + 1, done, s, T, tok, o, hf, hr, hj, hjd, hg, hK => by
    have hb : x.ts[j]? = some y := by have := hr 0; simpa using this.symm
    have hjl : j < x.ts.length := (List.getElem?_eq_some_iff.1 hb).1
    have hbi := bindsF_01 x.k (.ofNat j)
    have eb : addW around (bindsF x.k (.ofNat j)) = around + bindsF x.k (.ofNat j) := addW_eq (by rcases hbi with h | h <;> omega) (by rcases hbi with h | h <;> omega)
    obtain ⟨T1, tk, e1, e2, hy⟩ := hrec y (List.mem_of_getElem? hb) s (addW around (bindsF x.k (.ofNat j))) T (by rw [eb]; rcases hbi with h | h <;> omega) (by rw [eb]; rcases hbi with h | h <;> omega)
    obtain ⟨T2, tok2, hap, hg2⟩ := app44' (A := { nt := 0, tmps := [], locs := [], fix := [] }) (H := H (walkG step y s (addW around (bindsF x.k (.ofNat j)))).2) (ac := ⟨false, none, true⟩) rfl (hg.ext e1) (by omega) (strip_encR _ tk e2)
    rw [walkGs] at hK
    dsimp only at hK
    rw [List.append_cons] at hK
    cases o
    all_goals
      refine WCode.round (nt := 40) (fx := []) ?_
      refine WCmp.yes (ltLen hjl) ?_
      refine WOut.mk _ (index44 hb) ?_
      refine WCall.mk _ _ (f118_ok n x (.ofNat j) _) ?_
      refine WOut.mk _ rfl ?_
      refine WCall.mk _ _ hy ?_
      refine WApp.mk _ _ ((append_env rfl).trans hap) ?_
      refine WOut.mk _ (addOne (T := 3) (j := j) (by omega)) ?_
      exact w88_by H step n k x around K hlen h0 ha T0 hrec rem (j + 1) f (done ++ [(walkG step y s (addW around (bindsF x.k (.ofNat j)))).1]) _ T2 tok2 (some y) (by simp only [List.length_cons] at hf; omega) (fun i => by have := hr (i + 1); simp only [List.getElem?_cons_succ] at this; rw [this]; congr 1; omega) (by simp only [List.length_cons] at hj; omega) (by simp [hjd]) hg2 hK

theorem w88_ok {σ : Type} (H : σ → List Blk) (step : σ → Tm → Int → Tm × σ) (N : Nat)
    (hc : ∀ n (s : σ) x a T, N ≤ n → iEq x.k 2 = true → 0 ≤ a → a ≤ 1000000000 → run Try.cfg n (.f 88) (encA x :: .int .i64 a :: [.ptr (.box 4) 0, .ptr (.box 3) 0, .ptr (.box 2) 0]) { heap := H s, toks := T } = some (encA (step s x a).1, { heap := H (step s x a).2, toks := T })) :
    ∀ (n : Nat) (x : Tm) (around : Int) (s : σ) (T : List Nat), 0 ≤ around → around + sizeT x ≤ 1000000000 → wt x < n → ∃ T' tk, ExtT T T' ∧ strTok tk = tkOf (walkG step x s around).1.d ∧
      run Try.cfg (n + N + 1) (.f 87) [encA x, .int .i64 around, .fn 88 5 [] [.ptr (.box 4) 0, .ptr (.box 3) 0, .ptr (.box 2) 0]] { heap := H s, toks := T } = some (.agg (cellsR (walkG step x s around).1 tk), { heap := H (walkG step x s around).2, toks := T' })
  | 0, x, around, s, T, _, _, h => by omega
  | n + 1, x, around, s, T, h0, hsz, h => by
    rw [show n + 1 + N + 1 = n + N + 1 + 1 by omega]
    have hn : x.ts.length < n + N + 1 := by have := wts_len x.ts; rw [wt_eq] at h; omega
    have hp := sizeT_pos x
    have hlen : x.ts.length < 1000000000 := by have := sizeTs_len x.ts; rw [sizeT_eq] at hsz; omega
    have key : ∃ r, frame Try.cfg (run Try.cfg (n + N + 1)) (n + N + 1) 87 [encA x, .int .i64 around, .fn 88 5 [] [.ptr (.box 4) 0, .ptr (.box 3) 0, .ptr (.box 2) 0]] { heap := H s, toks := T } = some r ∧
        ∃ T' tk, ExtT T T' ∧ strTok tk = tkOf (walkG step x s around).1.d ∧ r = (.agg (cellsR (walkG step x s around).1 tk), { heap := H (walkG step x s around).2, toks := T' }) := by
      refine frame_some (fn := Try.f87) rfl rfl ?_
      rw [walkG_eq]
      refine WCmp.mk (fun h2 => ?_) (fun h2 => ?_)
      · rw [h2]
        refine WCall.mk _ _ (hc (n + N + 1) s x around T (by omega) h2 h0 (by omega)) ?_
        exact ⟨_, rfl, T, _, ExtT.refl T, strTok_tk _, rfl⟩
      · rw [h2]
        refine w88_by H step (n + N) (n + N + 1) x around _ hlen h0 (by omega) T (fun y hy s a T ha0 ha1 => w88_ok H step N hc n y a s T ha0 (by have := kid_size hy; omega) (by have := wt_kid hy; omega)) x.ts 0 (n + N + 1) [] s T .tight none hn (fun i => by rw [Nat.zero_add]) (by rw [Nat.zero_add]) rfl (GrowsT.start T) ?_
        intro T' tok' o hg
        simp only [List.nil_append] at hg ⊢
        have hs := hg.strTok
        rcases hg.2 with ⟨hl, rfl⟩ | ⟨t, rfl, hl⟩
        · cases o
          all_goals exact ⟨_, rfl, T', .tight, hg.1, hs, rfl⟩
        · cases o
          all_goals exact ⟨_, rfl, T', .own t, hg.1, hs, rfl⟩
    obtain ⟨r, h1, T', tk, h2, h3, rfl⟩ := key
    exact ⟨T', tk, h2, h3, run_here rfl h1⟩

theorem w90_by {σ : Type} (H : σ → List Blk) (step : σ → Tm → Int → Tm × σ) (n k : Nat) (x : Tm) (around : Int) (K : Ex → Env → St → Prop) (hlen : x.ts.length < 1000000000) (h0 : 0 ≤ around) (ha : around ≤ 1000000000) (T0 : List Nat)
    (hrec : ∀ y ∈ x.ts, ∀ (s : σ) a T, 0 ≤ a → a ≤ around + 1 → ∃ T' tk, ExtT T T' ∧ strTok tk = tkOf (walkG step y s a).1.d ∧
      run Try.cfg (n + 1) (.f 87) [encA y, .int .i64 a, .fn 90 5 [] [.ptr (.box 4) 0, .ptr (.box 0) 0]] { heap := H s, toks := T } = some (.agg (cellsR (walkG step y s a).1 tk), { heap := H (walkG step y s a).2, toks := T' })) :
    ∀ (rem : List Tm) (j f : Nat) (done : List Tm) (s : σ) (T : List Nat) (tok : Tok) (o : Option Tm), rem.length < f → (∀ i, rem[i]? = x.ts[j + i]?) → j + rem.length = x.ts.length → j = done.length → GrowsT T0 T done tok →
    (∀ T' tok' (o : Option Tm), GrowsT T0 T' (done ++ (walkGs step x.k rem j s around).1) tok' → K (.exit 0) { nt := 40, tmps := [(1, .int .i64 around), (2, .fn 90 5 [] [.ptr (.box 4) 0, .ptr (.box 0) 0]), (3, .ptr (.loc 3) 0), (6, .ptr (.loc 6) 0), (7, .list (szOf false (done ++ (walkGs step x.k rem j s around).1)) tok' 0 (encTs (done ++ (walkGs step x.k rem j s around).1))), (18, .list (szOf x.c x.ts) (tkOf x.d) 0 (encTs x.ts)), (19, .int .i64 (.ofNat (lenN (encTs x.ts)))), (20, .int .i64 (.ofNat x.ts.length)), (21, .bool false)], locs := (3, cellsT x) :: (6, zeroT) :: oneMore 9 o, fix := [] } { heap := H (walkGs step x.k rem j s around).2, toks := T' }) →
    WCode (iter (evalCode Try.cfg (run Try.cfg (n + 1)) k 87 (Try.cfg.fc 87) f87L) f { nt := 40, tmps := [(1, .int .i64 around), (2, .fn 90 5 [] [.ptr (.box 4) 0, .ptr (.box 0) 0]), (3, .ptr (.loc 3) 0), (6, .ptr (.loc 6) 0), (7, .list (szOf false done) tok 0 (encTs done)), (18, .list (szOf x.c x.ts) (tkOf x.d) 0 (encTs x.ts)), (19, .int .i64 (.ofNat (lenN (encTs x.ts)))), (20, .int .i64 (.ofNat j))], locs := (3, cellsT x) :: (6, zeroT) :: oneMore 9 o, fix := [] } { heap := H s, toks := T }) K
  | [], j, f + 1, done, s, T, tok, o, hf, hr, hj, hjd, hg, hK => by
    have hjl : j = x.ts.length := by simpa using hj
    subst hjl
    rw [walkGs] at hK
    simp only [List.append_nil] at hK
    have hK := hK T tok o hg
    cases o
    all_goals
      refine WCode.round (nt := 40) (fx := []) ?_
      refine WCmp.no (geLen (by omega)) ?_
      exact hK
  | y :: rem, j, f + 1, done, s, T, tok, o, hf, hr, hj, hjd, hg, hK => by
    have hb : x.ts[j]? = some y := by have := hr 0; simpa using this.symm
    have hjl : j < x.ts.length := (List.getElem?_eq_some_iff.1 hb).1
    have hbi := bindsF_01 x.k (.ofNat j)
    have eb : addW around (bindsF x.k (.ofNat j)) = around + bindsF x.k (.ofNat j) := addW_eq (by rcases hbi with h | h <;> omega) (by rcases hbi with h | h <;> omega)
    obtain ⟨T1, tk, e1, e2, hy⟩ := hrec y (List.mem_of_getElem? hb) s (addW around (bindsF x.k (.ofNat j))) T (by rw [eb]; rcases hbi with h | h <;> omega) (by rw [eb]; rcases hbi with h | h <;> omega)
    obtain ⟨T2, tok2, hap, hg2⟩ := app44' (A := { nt := 0, tmps := [], locs := [], fix := [] }) (H := H (walkG step y s (addW around (bindsF x.k (.ofNat j)))).2) (ac := ⟨false, none, true⟩) rfl (hg.ext e1) (by omega) (strip_encR _ tk e2)
    rw [walkGs] at hK
    dsimp only at hK
    rw [List.append_cons] at hK
    cases o
    all_goals
      refine WCode.round (nt := 40) (fx := []) ?_
      refine WCmp.yes (ltLen hjl) ?_
      refine WOut.mk _ (index44 hb) ?_
      refine WCall.mk _ _ (f118_ok n x (.ofNat j) _) ?_
      refine WOut.mk _ rfl ?_
      refine WCall.mk _ _ hy ?_
      refine WApp.mk _ _ ((append_env rfl).trans hap) ?_
      refine WOut.mk _ (addOne (T := 3) (j := j) (by omega)) ?_
      exact w90_by H step n k x around K hlen h0 ha T0 hrec rem (j + 1) f (done ++ [(walkG step y s (addW around (bindsF x.k (.ofNat j)))).1]) _ T2 tok2 (some y) (by simp only [List.length_cons] at hf; omega) (fun i => by have := hr (i + 1); simp only [List.getElem?_cons_succ] at this; rw [this]; congr 1; omega) (by simp only [List.length_cons] at hj; omega) (by simp [hjd]) hg2 hK

theorem w90_ok {σ : Type} (H : σ → List Blk) (step : σ → Tm → Int → Tm × σ) (N : Nat)
    (hc : ∀ n (s : σ) x a T, N ≤ n → iEq x.k 2 = true → 0 ≤ a → a ≤ 1000000000 → run Try.cfg n (.f 90) (encA x :: .int .i64 a :: [.ptr (.box 4) 0, .ptr (.box 0) 0]) { heap := H s, toks := T } = some (encA (step s x a).1, { heap := H (step s x a).2, toks := T })) :
    ∀ (n : Nat) (x : Tm) (around : Int) (s : σ) (T : List Nat), 0 ≤ around → around + sizeT x ≤ 1000000000 → wt x < n → ∃ T' tk, ExtT T T' ∧ strTok tk = tkOf (walkG step x s around).1.d ∧
      run Try.cfg (n + N + 1) (.f 87) [encA x, .int .i64 around, .fn 90 5 [] [.ptr (.box 4) 0, .ptr (.box 0) 0]] { heap := H s, toks := T } = some (.agg (cellsR (walkG step x s around).1 tk), { heap := H (walkG step x s around).2, toks := T' })
  | 0, x, around, s, T, _, _, h => by omega
  | n + 1, x, around, s, T, h0, hsz, h => by
    rw [show n + 1 + N + 1 = n + N + 1 + 1 by omega]
    have hn : x.ts.length < n + N + 1 := by have := wts_len x.ts; rw [wt_eq] at h; omega
    have hp := sizeT_pos x
    have hlen : x.ts.length < 1000000000 := by have := sizeTs_len x.ts; rw [sizeT_eq] at hsz; omega
    have key : ∃ r, frame Try.cfg (run Try.cfg (n + N + 1)) (n + N + 1) 87 [encA x, .int .i64 around, .fn 90 5 [] [.ptr (.box 4) 0, .ptr (.box 0) 0]] { heap := H s, toks := T } = some r ∧
        ∃ T' tk, ExtT T T' ∧ strTok tk = tkOf (walkG step x s around).1.d ∧ r = (.agg (cellsR (walkG step x s around).1 tk), { heap := H (walkG step x s around).2, toks := T' }) := by
      refine frame_some (fn := Try.f87) rfl rfl ?_
      rw [walkG_eq]
      refine WCmp.mk (fun h2 => ?_) (fun h2 => ?_)
      · rw [h2]
        refine WCall.mk _ _ (hc (n + N + 1) s x around T (by omega) h2 h0 (by omega)) ?_
        exact ⟨_, rfl, T, _, ExtT.refl T, strTok_tk _, rfl⟩
      · rw [h2]
        refine w90_by H step (n + N) (n + N + 1) x around _ hlen h0 (by omega) T (fun y hy s a T ha0 ha1 => w90_ok H step N hc n y a s T ha0 (by have := kid_size hy; omega) (by have := wt_kid hy; omega)) x.ts 0 (n + N + 1) [] s T .tight none hn (fun i => by rw [Nat.zero_add]) (by rw [Nat.zero_add]) rfl (GrowsT.start T) ?_
        intro T' tok' o hg
        simp only [List.nil_append] at hg ⊢
        have hs := hg.strTok
        rcases hg.2 with ⟨hl, rfl⟩ | ⟨t, rfl, hl⟩
        · cases o
          all_goals exact ⟨_, rfl, T', .tight, hg.1, hs, rfl⟩
        · cases o
          all_goals exact ⟨_, rfl, T', .own t, hg.1, hs, rfl⟩
    obtain ⟨r, h1, T', tk, h2, h3, rfl⟩ := key
    exact ⟨T', tk, h2, h3, run_here rfl h1⟩

theorem mk75 {A : Env} {S : St} {ac : Acc} {l c : Operand} {m : Nat} (hl : operand A l = some (.int .i64 (.ofNat m))) (hc : operand A c = some (.int .i64 (.ofNat m))) (hac : ac.heap = true) (hm : m ≤ 1000) :
    xMake Try.cfg A S ac 75 l c = some (.slc (.box (lenN S.heap)) 0 1 m m, A, { S with heap := appN S.heap [.cells 3 (repCells [.int .i64 0] m)] }) := by
  unfold xMake
  rw [hl, hc]
  show (ite _ _ _) = _
  refine (if_pos ?_).trans ?_
  · exact (⟨hac, by omega, by simp, Int.le_refl _, by simp only [Int.ofNat_eq_natCast]; omega, rfl⟩ : ac.heap = true ∧ 0 < 1 ∧ (0 : Int) ≤ .ofNat m ∧ (Int.ofNat m) ≤ .ofNat m ∧ (Int.ofNat m) * (8 + 1) ≤ 140737488355328 ∧ storable [V.int .i64 0] = true)
  · rfl

noncomputable def instM (t : Tm) (l : List Tm) : Tm × Int := bif mayT t && l.all mayT then (bif iLt 65536 (walkG (sizeStep l) t (.ofNat (sizeM t)) 0).2 then (zTm, 4) else toldT (instTm t l)) else (zTm, 1)

theorem sizeM_pos (x : Tm) : iLt 0 (.ofNat (sizeM x)) = mayT x := by
  unfold sizeM
  cases mayT x with
  | true => exact blt_yes (sizeT_pos x)
  | false => rfl

/-! ### 0 terms -/

noncomputable def heapI0 (c d : Bool) (s : Int) : List Blk := [.cells 44 [.list (szOf c ([] : List Tm)) (tkOf d) 0 ([] : List V)], .cells 3 [], .cells 75 [.slc (.box 1) 0 1 0 0], .cells 3 [.int .i64 s], .cells 99 [.fn 86 1 [] [.ptr (.box 0) 0]]]

theorem c88_0 (c d : Bool) (n : Nat) (s : Int) (x : Tm) (a : Int) (T : List Nat) (hn : 2 ≤ n) (h2 : iEq x.k 2 = true) (h0 : 0 ≤ a) (ha : a ≤ 1000000000) : run Try.cfg n (.f 88) (encA x :: .int .i64 a :: [.ptr (.box 4) 0, .ptr (.box 3) 0, .ptr (.box 2) 0]) { heap := heapI0 c d  s, toks := T } = some (encA (sizeStep [] s x a).1, { heap := heapI0 c d  (sizeStep [] s x a).2, toks := T }) := by
  obtain ⟨p, rfl⟩ : ∃ p, n = p + 2 := ⟨n - 2, by omega⟩
  have hp := f86_ok p x.n a (szOf c ([] : List Tm)) (tkOf d) ([] : List V) (heapI0 c d  s).tail T
  refine run_here rfl ?_
  refine frame_of Try.cfg _ (fn := Try.f88) rfl rfl ?_
  rcases placeK_cases (nn := x.n) (a := a) (m := 0) h0 ha (by omega) with ⟨e, _⟩ | ⟨k, hk, e, _⟩
  · rw [show placeK x.n a (lenN ([] : List V)) = -1 from e] at hp
    rw [sizeStep_no (l := []) e]
    refine WCall.mk _ _ hp ?_
    refine WCmp.no rfl ?_
    rfl
  · omega

theorem c90_0 (c d : Bool) (z : Int) (q : Nat) (n : Nat) (s : Unit) (x : Tm) (a : Int) (T : List Nat) (hn : q + 4 ≤ n) (h2 : iEq x.k 2 = true) (h0 : 0 ≤ a) (ha : a ≤ 1000000000) : run Try.cfg n (.f 90) (encA x :: .int .i64 a :: [.ptr (.box 4) 0, .ptr (.box 0) 0]) { heap := heapI0 c d  z, toks := T } = some (encA (placeStep [] s x a).1, { heap := heapI0 c d  z, toks := T }) := by
  obtain ⟨p, rfl⟩ : ∃ p, n = p + 4 := ⟨n - 4, by omega⟩
  have hp := f86_ok (p + 2) x.n a (szOf c ([] : List Tm)) (tkOf d) ([] : List V) (heapI0 c d  z).tail T
  refine run_here rfl ?_
  refine frame_of Try.cfg _ (fn := Try.f90) rfl rfl ?_
  rcases placeK_cases (nn := x.n) (a := a) (m := 0) h0 ha (by omega) with ⟨e, _⟩ | ⟨k, hk, e, _⟩
  · rw [show placeK x.n a (lenN ([] : List V)) = -1 from e] at hp
    rw [placeStep_no (l := []) e]
    refine WCall.mk _ _ hp ?_
    refine WCmp.no rfl ?_
    refine WCmp.mk (fun h3 => ?_) (fun h3 => ?_)
    · simp only [Bool.not_eq_true'] at h3
      rw [h3]
      refine WOut.mk _ rfl ?_
      rfl
    · simp only [Bool.not_eq_false'] at h3
      rw [h3]
      rfl
  · omega

theorem f37_0 (n q r : Nat) (t : Tm) (c d : Bool) (S : St) (hsm : Sm t) (hsz : sizeT t ≤ 100000000) (hw : wt t < n) (hsm2 : Sm (instTm t [])) (hw2 : wt (instTm t []) < r) :
    run Try.cfg (n + q + r + 16) (.f 37) [encA t, .list (szOf c ([] : List Tm)) (tkOf d) 0 ([] : List V)] S = some (encP2 (instM t []), S) := by
  have : ∃ S', frame Try.cfg (run Try.cfg (n + q + r + 15)) (n + q + r + 15) 37 [encA t, .list (szOf c ([] : List Tm)) (tkOf d) 0 ([] : List V)] St.empty = some (encP2 (instM t []), S') := by
    refine frame_ex Try.cfg _ (fn := Try.f37) rfl rfl ?_
    refine WCall.mkB (f84_ok (n + q + r + 2) t _ hsm (by omega)) (fun hm => ?_) (fun hm => ?_)
    · refine WMake.mk _ _ _ (mk75 (m := 0) rfl rfl rfl (by omega)) ?_
      refine WCode.round (nt := 56) (fx := []) ?_
      refine WCmp.no rfl ?_
      refine WCall.mk _ _ (f85_ok (n + q + r + 1) t _ hsm (by omega) (by omega)) ?_
      obtain ⟨T1, k1, _, _, e1⟩ := w88_ok (heapI0 c d ) (sizeStep []) 2 (c88_0 c d ) (n + q + r + 12) t 0 (.ofNat (sizeM t)) [] (by omega) (by omega) (by omega)
      refine WCall.mk _ _ e1 ?_
      have e0 : instM t [] = bif iLt 65536 (walkG (sizeStep []) t (.ofNat (sizeM t)) 0).2 then (zTm, 4) else toldT (instTm t []) := by simp only [instM, List.all_cons, List.all_nil, hm, Bool.and_self, cond_true]
      rw [e0]
      refine WCmp.mk (fun hz => ?_) (fun hz => ?_)
      · rw [hz]
        exact ⟨_, rfl⟩
      · rw [hz]
        obtain ⟨T2, k2, _, e3, e4⟩ := w90_ok (fun _ : Unit => heapI0 c d  (walkG (sizeStep []) t (.ofNat (sizeM t)) 0).2) (placeStep []) (q + 4) (c90_0 c d  _ q ) (n + r + 10) t 0 () T1 (by omega) (by omega) (by omega)
        rw [show n + r + 10 + (q + 4) + 1 = n + q + r + 15 by omega] at e4
        refine WCall.mk _ _ e4 ?_
        refine WCall.mk _ _ (f89_ok' (n + q + r + 1) (instTm t []) k2 e3 _ hsm2 (by omega)) ?_
        exact ⟨_, rfl⟩
    · refine WMake.mk _ _ _ (mk75 (m := 0) rfl rfl rfl (by omega)) ?_
      refine WCode.round (nt := 56) (fx := []) ?_
      refine WCmp.no rfl ?_
      rw [show instM t [] = (zTm, 1) by simp only [instM, List.all_cons, List.all_nil, hm, Bool.true_and, Bool.false_and, Bool.and_false, Bool.and_true, cond_false]]
      exact ⟨_, rfl⟩
  obtain ⟨S', this⟩ := this
  exact run_tm this (by simp only [strips_t, strips_ts, strips_nil]) rfl rfl rfl rfl (stripAll_P2 _)

/-! ### 1 terms -/

noncomputable def heapI1 (c d : Bool) (x0 : Tm) (s : Int) : List Blk := [.cells 44 [.list (szOf c ([x0] : List Tm)) (tkOf d) 0 ([encA x0] : List V)], .cells 3 [.int .i64 (.ofNat (sizeM x0))], .cells 75 [.slc (.box 1) 0 1 1 1], .cells 3 [.int .i64 s], .cells 99 [.fn 86 1 [] [.ptr (.box 0) 0]]]

theorem c88_1 (c d : Bool) (x0 : Tm) (n : Nat) (s : Int) (x : Tm) (a : Int) (T : List Nat) (hn : 2 ≤ n) (h2 : iEq x.k 2 = true) (h0 : 0 ≤ a) (ha : a ≤ 1000000000) : run Try.cfg n (.f 88) (encA x :: .int .i64 a :: [.ptr (.box 4) 0, .ptr (.box 3) 0, .ptr (.box 2) 0]) { heap := heapI1 c d x0 s, toks := T } = some (encA (sizeStep [x0] s x a).1, { heap := heapI1 c d x0 (sizeStep [x0] s x a).2, toks := T }) := by
  obtain ⟨p, rfl⟩ : ∃ p, n = p + 2 := ⟨n - 2, by omega⟩
  have hp := f86_ok p x.n a (szOf c ([x0] : List Tm)) (tkOf d) ([encA x0] : List V) (heapI1 c d x0 s).tail T
  refine run_here rfl ?_
  refine frame_of Try.cfg _ (fn := Try.f88) rfl rfl ?_
  rcases placeK_cases (nn := x.n) (a := a) (m := 1) h0 ha (by omega) with ⟨e, _⟩ | ⟨k, hk, e, _⟩
  · rw [show placeK x.n a (lenN ([encA x0] : List V)) = -1 from e] at hp
    rw [sizeStep_no (l := [x0]) e]
    refine WCall.mk _ _ hp ?_
    refine WCmp.no rfl ?_
    rfl
  · rw [show placeK x.n a (lenN ([encA x0] : List V)) = .ofNat k from e] at hp
    have hc : k = 0 := by omega
    rcases hc with rfl
    · rw [sizeStep_at (l := [x0]) (k := 0) e rfl]
      refine WCall.mk _ _ hp ?_
      refine WCmp.yes rfl ?_
      refine WOut.mk _ rfl ?_
      refine WOut.mk _ rfl ?_
      refine WOut.mk _ rfl ?_
      rfl

theorem c90_1 (c d : Bool) (x0 : Tm) (z : Int) (q : Nat) (w0 : wt x0 < q) (z0 : sizeT x0 < 1000000000) (n : Nat) (s : Unit) (x : Tm) (a : Int) (T : List Nat) (hn : q + 4 ≤ n) (h2 : iEq x.k 2 = true) (h0 : 0 ≤ a) (ha : a ≤ 1000000000) : run Try.cfg n (.f 90) (encA x :: .int .i64 a :: [.ptr (.box 4) 0, .ptr (.box 0) 0]) { heap := heapI1 c d x0 z, toks := T } = some (encA (placeStep [x0] s x a).1, { heap := heapI1 c d x0 z, toks := T }) := by
  obtain ⟨p, rfl⟩ : ∃ p, n = p + 4 := ⟨n - 4, by omega⟩
  have hp := f86_ok (p + 2) x.n a (szOf c ([x0] : List Tm)) (tkOf d) ([encA x0] : List V) (heapI1 c d x0 z).tail T
  refine run_here rfl ?_
  refine frame_of Try.cfg _ (fn := Try.f90) rfl rfl ?_
  rcases placeK_cases (nn := x.n) (a := a) (m := 1) h0 ha (by omega) with ⟨e, _⟩ | ⟨k, hk, e, _⟩
  · rw [show placeK x.n a (lenN ([encA x0] : List V)) = -1 from e] at hp
    rw [placeStep_no (l := [x0]) e]
    refine WCall.mk _ _ hp ?_
    refine WCmp.no rfl ?_
    refine WCmp.mk (fun h3 => ?_) (fun h3 => ?_)
    · simp only [Bool.not_eq_true'] at h3
      rw [h3]
      refine WOut.mk _ rfl ?_
      rfl
    · simp only [Bool.not_eq_false'] at h3
      rw [h3]
      rfl
  · rw [show placeK x.n a (lenN ([encA x0] : List V)) = .ofNat k from e] at hp
    have hc : k = 0 := by omega
    rcases hc with rfl
    · rw [placeStep_at (l := [x0]) (k := 0) e rfl]
      refine WCall.mk _ _ hp ?_
      refine WCmp.yes rfl ?_
      refine WOut.mk _ rfl ?_
      refine WCall.mk _ _ (f91_ok p x0 0 a _ z0 (by omega)) ?_
      rfl

theorem f37_1 (n q r : Nat) (t : Tm) (x0 : Tm) (c d : Bool) (S : St) (hsm : Sm t) (hsz : sizeT t ≤ 100000000) (hw : wt t < n) (w0 : wt x0 < q) (z0 : sizeT x0 < 1000000000) (s0 : Sm x0) (hsm2 : Sm (instTm t [x0])) (hw2 : wt (instTm t [x0]) < r) :
    run Try.cfg (n + q + r + 16) (.f 37) [encA t, .list (szOf c ([x0] : List Tm)) (tkOf d) 0 ([encA x0] : List V)] S = some (encP2 (instM t [x0]), S) := by
  have : ∃ S', frame Try.cfg (run Try.cfg (n + q + r + 15)) (n + q + r + 15) 37 [encA t, .list (szOf c ([x0] : List Tm)) (tkOf d) 0 ([encA x0] : List V)] St.empty = some (encP2 (instM t [x0]), S') := by
    refine frame_ex Try.cfg _ (fn := Try.f37) rfl rfl ?_
    refine WCall.mkB (f84_ok (n + q + r + 2) t _ hsm (by omega)) (fun hm => ?_) (fun hm => ?_)
    · refine WMake.mk _ _ _ (mk75 (m := 1) rfl rfl rfl (by omega)) ?_
      refine WCode.round (nt := 56) (fx := []) ?_
      refine WCmp.yes rfl ?_
      refine WOut.mk _ rfl ?_
      refine WCall.mk _ _ (f85_ok (n + q + r + 1) x0 St.empty s0 z0 (by omega)) ?_
      refine WOut.mk _ rfl ?_
      refine WOut.mk _ rfl ?_
      refine WCmp.mk (fun g0 => ?_) (fun g0 => ?_)
      · rw [sizeM_pos] at g0
        refine WOut.mk _ rfl ?_
        refine WCode.round (nt := 56) (fx := []) ?_
        refine WCmp.no rfl ?_
        refine WCall.mk _ _ (f85_ok (n + q + r + 1) t _ hsm (by omega) (by omega)) ?_
        obtain ⟨T1, k1, _, _, e1⟩ := w88_ok (heapI1 c d x0) (sizeStep [x0]) 2 (c88_1 c d x0) (n + q + r + 12) t 0 (.ofNat (sizeM t)) [] (by omega) (by omega) (by omega)
        refine WCall.mk _ _ e1 ?_
        have e0 : instM t [x0] = bif iLt 65536 (walkG (sizeStep [x0]) t (.ofNat (sizeM t)) 0).2 then (zTm, 4) else toldT (instTm t [x0]) := by simp only [instM, List.all_cons, List.all_nil, hm, g0, Bool.and_self, cond_true]
        rw [e0]
        refine WCmp.mk (fun hz => ?_) (fun hz => ?_)
        · rw [hz]
          exact ⟨_, rfl⟩
        · rw [hz]
          obtain ⟨T2, k2, _, e3, e4⟩ := w90_ok (fun _ : Unit => heapI1 c d x0 (walkG (sizeStep [x0]) t (.ofNat (sizeM t)) 0).2) (placeStep [x0]) (q + 4) (c90_1 c d x0 _ q w0 z0) (n + r + 10) t 0 () T1 (by omega) (by omega) (by omega)
          rw [show n + r + 10 + (q + 4) + 1 = n + q + r + 15 by omega] at e4
          refine WCall.mk _ _ e4 ?_
          refine WCall.mk _ _ (f89_ok' (n + q + r + 1) (instTm t [x0]) k2 e3 _ hsm2 (by omega)) ?_
          exact ⟨_, rfl⟩
      · rw [sizeM_pos] at g0
        refine WOut.mk _ rfl ?_
        refine WCode.round (nt := 56) (fx := []) ?_
        refine WCmp.no rfl ?_
        rw [show instM t [x0] = (zTm, 1) by simp only [instM, List.all_cons, List.all_nil, hm, g0, Bool.true_and, Bool.false_and, Bool.and_false, Bool.and_true, cond_false]]
        exact ⟨_, rfl⟩
    · refine WMake.mk _ _ _ (mk75 (m := 1) rfl rfl rfl (by omega)) ?_
      refine WCode.round (nt := 56) (fx := []) ?_
      refine WCmp.yes rfl ?_
      refine WOut.mk _ rfl ?_
      refine WCall.mk _ _ (f85_ok (n + q + r + 1) x0 St.empty s0 z0 (by omega)) ?_
      refine WOut.mk _ rfl ?_
      refine WOut.mk _ rfl ?_
      refine WCode.round (nt := 56) (fx := []) ?_
      refine WCmp.no rfl ?_
      rw [show instM t [x0] = (zTm, 1) by simp only [instM, List.all_cons, List.all_nil, hm, Bool.true_and, Bool.false_and, Bool.and_false, Bool.and_true, cond_false]]
      exact ⟨_, rfl⟩
  obtain ⟨S', this⟩ := this
  exact run_tm this (by simp only [strips_t, strips_ts, strips_nil]) rfl rfl rfl rfl (stripAll_P2 _)

/-! ### 2 terms -/

noncomputable def heapI2 (c d : Bool) (x0 x1 : Tm) (s : Int) : List Blk := [.cells 44 [.list (szOf c ([x0, x1] : List Tm)) (tkOf d) 0 ([encA x0, encA x1] : List V)], .cells 3 [.int .i64 (.ofNat (sizeM x0)), .int .i64 (.ofNat (sizeM x1))], .cells 75 [.slc (.box 1) 0 1 2 2], .cells 3 [.int .i64 s], .cells 99 [.fn 86 1 [] [.ptr (.box 0) 0]]]

theorem c88_2 (c d : Bool) (x0 x1 : Tm) (n : Nat) (s : Int) (x : Tm) (a : Int) (T : List Nat) (hn : 2 ≤ n) (h2 : iEq x.k 2 = true) (h0 : 0 ≤ a) (ha : a ≤ 1000000000) : run Try.cfg n (.f 88) (encA x :: .int .i64 a :: [.ptr (.box 4) 0, .ptr (.box 3) 0, .ptr (.box 2) 0]) { heap := heapI2 c d x0 x1 s, toks := T } = some (encA (sizeStep [x0, x1] s x a).1, { heap := heapI2 c d x0 x1 (sizeStep [x0, x1] s x a).2, toks := T }) := by
  obtain ⟨p, rfl⟩ : ∃ p, n = p + 2 := ⟨n - 2, by omega⟩
  have hp := f86_ok p x.n a (szOf c ([x0, x1] : List Tm)) (tkOf d) ([encA x0, encA x1] : List V) (heapI2 c d x0 x1 s).tail T
  refine run_here rfl ?_
  refine frame_of Try.cfg _ (fn := Try.f88) rfl rfl ?_
  rcases placeK_cases (nn := x.n) (a := a) (m := 2) h0 ha (by omega) with ⟨e, _⟩ | ⟨k, hk, e, _⟩
  · rw [show placeK x.n a (lenN ([encA x0, encA x1] : List V)) = -1 from e] at hp
    rw [sizeStep_no (l := [x0, x1]) e]
    refine WCall.mk _ _ hp ?_
    refine WCmp.no rfl ?_
    rfl
  · rw [show placeK x.n a (lenN ([encA x0, encA x1] : List V)) = .ofNat k from e] at hp
    have hc : k = 0 ∨ k = 1 := by omega
    rcases hc with rfl | rfl
    · rw [sizeStep_at (l := [x0, x1]) (k := 0) e rfl]
      refine WCall.mk _ _ hp ?_
      refine WCmp.yes rfl ?_
      refine WOut.mk _ rfl ?_
      refine WOut.mk _ rfl ?_
      refine WOut.mk _ rfl ?_
      rfl
    · rw [sizeStep_at (l := [x0, x1]) (k := 1) e rfl]
      refine WCall.mk _ _ hp ?_
      refine WCmp.yes rfl ?_
      refine WOut.mk _ rfl ?_
      refine WOut.mk _ rfl ?_
      refine WOut.mk _ rfl ?_
      rfl

theorem c90_2 (c d : Bool) (x0 x1 : Tm) (z : Int) (q : Nat) (w0 : wt x0 < q) (z0 : sizeT x0 < 1000000000) (w1 : wt x1 < q) (z1 : sizeT x1 < 1000000000) (n : Nat) (s : Unit) (x : Tm) (a : Int) (T : List Nat) (hn : q + 4 ≤ n) (h2 : iEq x.k 2 = true) (h0 : 0 ≤ a) (ha : a ≤ 1000000000) : run Try.cfg n (.f 90) (encA x :: .int .i64 a :: [.ptr (.box 4) 0, .ptr (.box 0) 0]) { heap := heapI2 c d x0 x1 z, toks := T } = some (encA (placeStep [x0, x1] s x a).1, { heap := heapI2 c d x0 x1 z, toks := T }) := by
  obtain ⟨p, rfl⟩ : ∃ p, n = p + 4 := ⟨n - 4, by omega⟩
  have hp := f86_ok (p + 2) x.n a (szOf c ([x0, x1] : List Tm)) (tkOf d) ([encA x0, encA x1] : List V) (heapI2 c d x0 x1 z).tail T
  refine run_here rfl ?_
  refine frame_of Try.cfg _ (fn := Try.f90) rfl rfl ?_
  rcases placeK_cases (nn := x.n) (a := a) (m := 2) h0 ha (by omega) with ⟨e, _⟩ | ⟨k, hk, e, _⟩
  · rw [show placeK x.n a (lenN ([encA x0, encA x1] : List V)) = -1 from e] at hp
    rw [placeStep_no (l := [x0, x1]) e]
    refine WCall.mk _ _ hp ?_
    refine WCmp.no rfl ?_
    refine WCmp.mk (fun h3 => ?_) (fun h3 => ?_)
    · simp only [Bool.not_eq_true'] at h3
      rw [h3]
      refine WOut.mk _ rfl ?_
      rfl
    · simp only [Bool.not_eq_false'] at h3
      rw [h3]
      rfl
  · rw [show placeK x.n a (lenN ([encA x0, encA x1] : List V)) = .ofNat k from e] at hp
    have hc : k = 0 ∨ k = 1 := by omega
    rcases hc with rfl | rfl
    · rw [placeStep_at (l := [x0, x1]) (k := 0) e rfl]
      refine WCall.mk _ _ hp ?_
      refine WCmp.yes rfl ?_
      refine WOut.mk _ rfl ?_
      refine WCall.mk _ _ (f91_ok p x0 0 a _ z0 (by omega)) ?_
      rfl
    · rw [placeStep_at (l := [x0, x1]) (k := 1) e rfl]
      refine WCall.mk _ _ hp ?_
      refine WCmp.yes rfl ?_
      refine WOut.mk _ rfl ?_
      refine WCall.mk _ _ (f91_ok p x1 0 a _ z1 (by omega)) ?_
      rfl

theorem f37_2 (n q r : Nat) (t : Tm) (x0 x1 : Tm) (c d : Bool) (S : St) (hsm : Sm t) (hsz : sizeT t ≤ 100000000) (hw : wt t < n) (w0 : wt x0 < q) (z0 : sizeT x0 < 1000000000) (w1 : wt x1 < q) (z1 : sizeT x1 < 1000000000) (s0 : Sm x0) (s1 : Sm x1) (hsm2 : Sm (instTm t [x0, x1])) (hw2 : wt (instTm t [x0, x1]) < r) :
    run Try.cfg (n + q + r + 16) (.f 37) [encA t, .list (szOf c ([x0, x1] : List Tm)) (tkOf d) 0 ([encA x0, encA x1] : List V)] S = some (encP2 (instM t [x0, x1]), S) := by
  have : ∃ S', frame Try.cfg (run Try.cfg (n + q + r + 15)) (n + q + r + 15) 37 [encA t, .list (szOf c ([x0, x1] : List Tm)) (tkOf d) 0 ([encA x0, encA x1] : List V)] St.empty = some (encP2 (instM t [x0, x1]), S') := by
    refine frame_ex Try.cfg _ (fn := Try.f37) rfl rfl ?_
    refine WCall.mkB (f84_ok (n + q + r + 2) t _ hsm (by omega)) (fun hm => ?_) (fun hm => ?_)
    · refine WMake.mk _ _ _ (mk75 (m := 2) rfl rfl rfl (by omega)) ?_
      refine WCode.round (nt := 56) (fx := []) ?_
      refine WCmp.yes rfl ?_
      refine WOut.mk _ rfl ?_
      refine WCall.mk _ _ (f85_ok (n + q + r + 1) x0 St.empty s0 z0 (by omega)) ?_
      refine WOut.mk _ rfl ?_
      refine WOut.mk _ rfl ?_
      refine WCmp.mk (fun g0 => ?_) (fun g0 => ?_)
      · rw [sizeM_pos] at g0
        refine WOut.mk _ rfl ?_
        refine WCode.round (nt := 56) (fx := []) ?_
        refine WCmp.yes rfl ?_
        refine WOut.mk _ rfl ?_
        refine WCall.mk _ _ (f85_ok (n + q + r + 1) x1 St.empty s1 z1 (by omega)) ?_
        refine WOut.mk _ rfl ?_
        refine WOut.mk _ rfl ?_
        refine WCmp.mk (fun g1 => ?_) (fun g1 => ?_)
        · rw [sizeM_pos] at g1
          refine WOut.mk _ rfl ?_
          refine WCode.round (nt := 56) (fx := []) ?_
          refine WCmp.no rfl ?_
          refine WCall.mk _ _ (f85_ok (n + q + r + 1) t _ hsm (by omega) (by omega)) ?_
          obtain ⟨T1, k1, _, _, e1⟩ := w88_ok (heapI2 c d x0 x1) (sizeStep [x0, x1]) 2 (c88_2 c d x0 x1) (n + q + r + 12) t 0 (.ofNat (sizeM t)) [] (by omega) (by omega) (by omega)
          refine WCall.mk _ _ e1 ?_
          have e0 : instM t [x0, x1] = bif iLt 65536 (walkG (sizeStep [x0, x1]) t (.ofNat (sizeM t)) 0).2 then (zTm, 4) else toldT (instTm t [x0, x1]) := by simp only [instM, List.all_cons, List.all_nil, hm, g0, g1, Bool.and_self, cond_true]
          rw [e0]
          refine WCmp.mk (fun hz => ?_) (fun hz => ?_)
          · rw [hz]
            exact ⟨_, rfl⟩
          · rw [hz]
            obtain ⟨T2, k2, _, e3, e4⟩ := w90_ok (fun _ : Unit => heapI2 c d x0 x1 (walkG (sizeStep [x0, x1]) t (.ofNat (sizeM t)) 0).2) (placeStep [x0, x1]) (q + 4) (c90_2 c d x0 x1 _ q w0 z0 w1 z1) (n + r + 10) t 0 () T1 (by omega) (by omega) (by omega)
            rw [show n + r + 10 + (q + 4) + 1 = n + q + r + 15 by omega] at e4
            refine WCall.mk _ _ e4 ?_
            refine WCall.mk _ _ (f89_ok' (n + q + r + 1) (instTm t [x0, x1]) k2 e3 _ hsm2 (by omega)) ?_
            exact ⟨_, rfl⟩
        · rw [sizeM_pos] at g1
          refine WOut.mk _ rfl ?_
          refine WCode.round (nt := 56) (fx := []) ?_
          refine WCmp.no rfl ?_
          rw [show instM t [x0, x1] = (zTm, 1) by simp only [instM, List.all_cons, List.all_nil, hm, g0, g1, Bool.true_and, Bool.false_and, Bool.and_false, Bool.and_true, cond_false]]
          exact ⟨_, rfl⟩
      · rw [sizeM_pos] at g0
        refine WOut.mk _ rfl ?_
        refine WCode.round (nt := 56) (fx := []) ?_
        refine WCmp.yes rfl ?_
        refine WOut.mk _ rfl ?_
        refine WCall.mk _ _ (f85_ok (n + q + r + 1) x1 St.empty s1 z1 (by omega)) ?_
        refine WOut.mk _ rfl ?_
        refine WOut.mk _ rfl ?_
        refine WCode.round (nt := 56) (fx := []) ?_
        refine WCmp.no rfl ?_
        rw [show instM t [x0, x1] = (zTm, 1) by simp only [instM, List.all_cons, List.all_nil, hm, g0, Bool.true_and, Bool.false_and, Bool.and_false, Bool.and_true, cond_false]]
        exact ⟨_, rfl⟩
    · refine WMake.mk _ _ _ (mk75 (m := 2) rfl rfl rfl (by omega)) ?_
      refine WCode.round (nt := 56) (fx := []) ?_
      refine WCmp.yes rfl ?_
      refine WOut.mk _ rfl ?_
      refine WCall.mk _ _ (f85_ok (n + q + r + 1) x0 St.empty s0 z0 (by omega)) ?_
      refine WOut.mk _ rfl ?_
      refine WOut.mk _ rfl ?_
      refine WCode.round (nt := 56) (fx := []) ?_
      refine WCmp.yes rfl ?_
      refine WOut.mk _ rfl ?_
      refine WCall.mk _ _ (f85_ok (n + q + r + 1) x1 St.empty s1 z1 (by omega)) ?_
      refine WOut.mk _ rfl ?_
      refine WOut.mk _ rfl ?_
      refine WCode.round (nt := 56) (fx := []) ?_
      refine WCmp.no rfl ?_
      rw [show instM t [x0, x1] = (zTm, 1) by simp only [instM, List.all_cons, List.all_nil, hm, Bool.true_and, Bool.false_and, Bool.and_false, Bool.and_true, cond_false]]
      exact ⟨_, rfl⟩
  obtain ⟨S', this⟩ := this
  exact run_tm this (by simp only [strips_t, strips_ts, strips_nil]) rfl rfl rfl rfl (stripAll_P2 _)

end Go.Ev
