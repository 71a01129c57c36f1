/- Terms: lifts, and what is said of them in plain terms (own work). -/
import Derived.Test.YtidebmakgffjnaaXt
/- Terms: the package's walk, with what is done at each variable (written by tmw.py; own work). -/
namespace Go.Ev
open Go.Proofs
set_option maxRecDepth 100000
set_option linter.unusedSimpArgs false
set_option linter.unusedVariables false

noncomputable def Tm.withN (x : Tm) (n : Int) : Tm := .mk x.k n x.s x.a x.b x.c x.d x.ls x.ts

mutual
noncomputable def walkG {σ : Type} (step : σ → Tm → Int → Tm × σ) : Tm → σ → Int → Tm × σ
  | .mk k n s a b c d ls ts, st, around => bif iEq k 2 then step st (.mk k n s a b c d ls ts) around
    else (.mk k n s a b false (walkGs step k ts 0 st around).1.isEmpty ls (walkGs step k ts 0 st around).1, (walkGs step k ts 0 st around).2)
noncomputable def walkGs {σ : Type} (step : σ → Tm → Int → Tm × σ) (k : Int) : List Tm → Nat → σ → Int → List Tm × σ
  | [], _, st, _ => ([], st)
  | t :: ts, i, st, around => ((walkG step t st (addW around (bindsF k (.ofNat i)))).1 :: (walkGs step k ts (i + 1) (walkG step t st (addW around (bindsF k (.ofNat i)))).2 around).1,
      (walkGs step k ts (i + 1) (walkG step t st (addW around (bindsF k (.ofNat i)))).2 around).2)
end

/-- A term with other terms below it. -/
noncomputable def Tm.withT (x : Tm) (l : List Tm) : Tm := .mk x.k x.n x.s x.a x.b false l.isEmpty x.ls l

theorem walkG_eq {σ : Type} (step : σ → Tm → Int → Tm × σ) (x : Tm) (st : σ) (around : Int) : walkG step x st around = bif iEq x.k 2 then step st x around
    else (x.withT (walkGs step x.k x.ts 0 st around).1, (walkGs step x.k x.ts 0 st around).2) := by cases x; rw [walkG]; rfl

def GrowsT {α : Type} (T0 T : List Nat) (done : List α) (tok : Tok) : Prop := ExtT T0 T ∧ ((done = [] ∧ tok = .tight) ∨ ∃ t, tok = .own t ∧ T0.length ≤ t ∧ nth T t = some done.length ∧ done ≠ [])

theorem GrowsT.start {α : Type} (T : List Nat) : GrowsT (α := α) T T [] .tight := ⟨ExtT.refl T, .inl ⟨rfl, rfl⟩⟩
theorem GrowsT.ext {α : Type} {T0 T T' : List Nat} {done : List α} {tok : Tok} (h : GrowsT T0 T done tok) (e : ExtT T T') : GrowsT T0 T' done tok := by
  obtain ⟨h0, h⟩ := h
  refine ⟨h0.trans e, ?_⟩
  rcases h with h | ⟨t, h1, h2, h3, h4⟩
  · exact .inl h
  · exact .inr ⟨t, h1, h2, e.2 _ _ h3, h4⟩

theorem GrowsT.strTok {α : Type} {T0 T : List Nat} {done : List α} {tok : Tok} (h : GrowsT T0 T done tok) : strTok tok = tkOf done.isEmpty := by
  rcases h.2 with ⟨rfl, rfl⟩ | ⟨t, rfl, _, _, h4⟩
  · rfl
  · cases done with
    | nil => exact absurd rfl h4
    | cons d ds => rfl

theorem strTok_tk (b : Bool) : strTok (tkOf b) = tkOf b := by cases b <;> rfl

theorem append_env {A B : Env} {S : St} {ac ac' : Acc} {T : Nat} {sz tok top rows sz' tok' top' rows'} (h : ac.heap = ac'.heap) :
    append Try.cfg A S ac T (.list sz tok top rows) (.list sz' tok' top' rows') = append Try.cfg B S ac' T (.list sz tok top rows) (.list sz' tok' top' rows') := by
  unfold append
  rw [h]
  rfl

theorem app44' {A : Env} {H : List Blk} {T0 T : List Nat} {ac : Acc} {done : List Tm} {tok : Tok} {row : V} {r : Tm} (hac : ac.heap = true) (hg : GrowsT T0 T done tok) (hlen : done.length < 1000000000) (hrow : row = encA r) :
    ∃ T' tok', append Try.cfg A { heap := H, toks := T } ac 44 (.list (szOf false done) tok 0 (encTs done)) (.list 5 .tight 0 [row]) = some (.list (szOf false (done ++ [r])) tok' 0 (encTs (done ++ [r])), { heap := H, toks := T' }) ∧
      GrowsT T0 T' (done ++ [r]) tok' := by
  obtain ⟨h0, hg⟩ := hg
  have hg' : Grows T done tok := by
    rcases hg with h | ⟨t, h1, h2, h3, h4⟩
    · exact .inl h
    · exact .inr ⟨t, h1, h3, h4⟩
  obtain ⟨T', tok', k1, k2, k3, k4, k5⟩ := app44 (A := A) (H := H) hac hg' hlen hrow
  rcases k2 with ⟨h, _⟩ | ⟨t, rfl, k6, k7⟩
  · simp at h
  have ht : T0.length ≤ t := by
    rcases k5 t rfl with rfl | rfl
    · rcases hg with ⟨_, h⟩ | ⟨t', h1, h2, _⟩
      · cases h
      · cases h1; exact h2
    · exact h0.1
  refine ⟨T', .own t, k1, ⟨Nat.le_trans h0.1 k3, fun t' v hv => k4 t rfl t' v (fun e => ?_) (h0.2 t' v hv)⟩, .inr ⟨t, rfl, ht, k6, k7⟩⟩
  subst e
  have := nth_len hv
  omega

@[reducible] noncomputable def zeroT : List V := [.int .u8 0, .int .i64 0, .str [], .list 0 .tight 0 [], .list 0 .tight 0 []]

noncomputable def f87L : Code := loopN Try.f87 0

noncomputable def st119 (by_ : Int) (s : Unit) (T : List Nat) : St := { heap := [.cells 3 [.int .i64 by_]], toks := T }
@[reducible] noncomputable def clo119 : V := .fn 119 1 [] [.ptr (.box 0) 0]

noncomputable def liftStep (by_ : Int) (s : Unit) (x : Tm) (a : Int) : Tm × Unit := (bif !iLt x.n a then x.withN (addW x.n by_) else x, ())

theorem c119_ok (n : Nat) (by_ : Int) (s : Unit) (x : Tm) (a : Int) (T : List Nat) (h2 : iEq x.k 2 = true) : run Try.cfg (n + 1) (.f 119) [encA x, .int .i64 a, .ptr (.box 0) 0] (st119 by_ s T) = some (encA (liftStep by_ s x a).1, st119 by_ (liftStep by_ s x a).2 T) := by
  refine run_here rfl ?_
  refine frame_of Try.cfg _ (fn := Try.f119) rfl rfl ?_
  unfold liftStep
  refine WCmp.mk (fun h => ?_) (fun h => ?_)
  · rw [h]
    refine WOut.mk _ rfl ?_
    rfl
  · rw [h]
    rfl

theorem w119_by (n k : Nat) (x : Tm) (around : Int) (by_ : Int) (K : Ex → Env → St → Prop) (hlen : x.ts.length < 1000000000) (T0 : List Nat)
    (hrec : ∀ y ∈ x.ts, ∀ (s : Unit) a T, ∃ T' tk, ExtT T T' ∧ strTok tk = tkOf (walkG (liftStep by_) y s a).1.d ∧
      run Try.cfg (n + 2) (.f 87) [encA y, .int .i64 a, clo119] (st119 by_ s T) = some (.agg (cellsR (walkG (liftStep by_) y s a).1 tk), st119 by_ (walkG (liftStep by_) y s a).2 T')) :
    ∀ (rem : List Tm) (j f : Nat) (done : List Tm) (s : Unit) (T : List Nat) (tok : Tok) (o : Option Tm), rem.length < f → (∀ i, rem[i]? = x.ts[j + i]?) → j + rem.length = x.ts.length → j = done.length → GrowsT T0 T done tok →
    (∀ T' tok' (o : Option Tm), GrowsT T0 T' (done ++ (walkGs (liftStep by_) x.k rem j s around).1) tok' → K (.exit 0) { nt := 40, tmps := [(1, .int .i64 around), (2, clo119), (3, .ptr (.loc 3) 0), (6, .ptr (.loc 6) 0), (7, .list (szOf false (done ++ (walkGs (liftStep by_) x.k rem j s around).1)) tok' 0 (encTs (done ++ (walkGs (liftStep by_) x.k rem j s around).1))), (18, .list (szOf x.c x.ts) (tkOf x.d) 0 (encTs x.ts)), (19, .int .i64 (.ofNat (lenN (encTs x.ts)))), (20, .int .i64 (.ofNat x.ts.length)), (21, .bool false)], locs := (3, cellsT x) :: (6, zeroT) :: oneMore 9 o, fix := [] } (st119 by_ (walkGs (liftStep by_) x.k rem j s around).2 T')) →
    WCode (iter (evalCode Try.cfg (run Try.cfg (n + 2)) k 87 (Try.cfg.fc 87) f87L) f { nt := 40, tmps := [(1, .int .i64 around), (2, clo119), (3, .ptr (.loc 3) 0), (6, .ptr (.loc 6) 0), (7, .list (szOf false done) tok 0 (encTs done)), (18, .list (szOf x.c x.ts) (tkOf x.d) 0 (encTs x.ts)), (19, .int .i64 (.ofNat (lenN (encTs x.ts)))), (20, .int .i64 (.ofNat j))], locs := (3, cellsT x) :: (6, zeroT) :: oneMore 9 o, fix := [] } (st119 by_ s T)) K
  | [], j, f + 1, done, s, T, tok, o, hf, hr, hj, hjd, hg, hK => by
    have hjl : j = x.ts.length := by simpa using hj
    subst hjl
    rw [walkGs] at hK
    simp only [List.append_nil] at hK
    have hK := hK T tok o hg
    cases o
    all_goals
      refine WCode.round (nt := 40) (fx := []) ?_
      refine WCmp.no (geLen (by omega)) ?_
      exact hK
  | y :: rem, j, f + 1, done, s, T, tok, o, hf, hr, hj, hjd, hg, hK => by
    have hb : x.ts[j]? = some y := by have := hr 0; simpa using this.symm
    have hjl : j < x.ts.length := (List.getElem?_eq_some_iff.1 hb).1
    obtain ⟨T1, tk, e1, e2, hy⟩ := hrec y (List.mem_of_getElem? hb) s (addW around (bindsF x.k (.ofNat j))) T
    obtain ⟨T2, tok2, ha, hg2⟩ := app44' (A := { nt := 0, tmps := [], locs := [], fix := [] }) (H := (st119 by_ (walkG (liftStep by_) y s (addW around (bindsF x.k (.ofNat j)))).2 T1).heap) (ac := ⟨false, none, true⟩) rfl (hg.ext e1) (by omega) (strip_encR _ tk e2)
    rw [walkGs] at hK
    dsimp only at hK
    rw [List.append_cons] at hK
    cases o
    all_goals
      refine WCode.round (nt := 40) (fx := []) ?_
      refine WCmp.yes (ltLen hjl) ?_
      refine WOut.mk _ (index44 hb) ?_
      refine WCall.mk _ _ (f118_ok (n + 1) x (.ofNat j) _) ?_
      refine WOut.mk _ rfl ?_
      refine WCall.mk _ _ hy ?_
      refine WApp.mk _ _ ((append_env rfl).trans ha) ?_
      refine WOut.mk _ (addOne (T := 3) (j := j) (by omega)) ?_
      exact w119_by n k x around by_ K hlen T0 hrec rem (j + 1) f (done ++ [(walkG (liftStep by_) y s (addW around (bindsF x.k (.ofNat j)))).1]) _ T2 tok2 (some y) (by simp only [List.length_cons] at hf; omega) (fun i => by have := hr (i + 1); simp only [List.getElem?_cons_succ] at this; rw [this]; congr 1; omega) (by simp only [List.length_cons] at hj; omega) (by simp [hjd]) hg2 hK

theorem w119_ok : ∀ (n : Nat) (x : Tm) (around : Int) (by_ : Int) (s : Unit) (T : List Nat), sizeT x < 1000000000 → wt x < n → ∃ T' tk, ExtT T T' ∧ strTok tk = tkOf (walkG (liftStep by_) x s around).1.d ∧
      run Try.cfg (n + 2) (.f 87) [encA x, .int .i64 around, clo119] (st119 by_ s T) = some (.agg (cellsR (walkG (liftStep by_) x s around).1 tk), st119 by_ (walkG (liftStep by_) x s around).2 T')
  | 0, x, around, by_, s, T, _, h => by omega
  | n + 1, x, around, by_, s, T, hsz, h => by
    have hn : x.ts.length < n + 2 := by have := wts_len x.ts; rw [wt_eq] at h; omega
    have hlen : x.ts.length < 1000000000 := by have := sizeTs_len x.ts; rw [sizeT_eq] at hsz; omega
    have key : ∃ r, frame Try.cfg (run Try.cfg (n + 2)) (n + 2) 87 [encA x, .int .i64 around, clo119] (st119 by_ s T) = some r ∧
        ∃ T' tk, ExtT T T' ∧ strTok tk = tkOf (walkG (liftStep by_) x s around).1.d ∧ r = (.agg (cellsR (walkG (liftStep by_) x s around).1 tk), st119 by_ (walkG (liftStep by_) x s around).2 T') := by
      refine frame_some (fn := Try.f87) rfl rfl ?_
      rw [walkG_eq]
      refine WCmp.mk (fun h2 => ?_) (fun h2 => ?_)
      · rw [h2]
        refine WCall.mk _ _ (c119_ok (n + 1) by_ s x around T h2) ?_
        exact ⟨_, rfl, T, _, ExtT.refl T, strTok_tk _, rfl⟩
      · rw [h2]
        refine w119_by n (n + 2) x around by_ _ hlen T (fun y hy s a T => w119_ok n y a by_ s T (by have := kid_size hy; omega) (by have := wt_kid hy; omega)) x.ts 0 (n + 2) [] s T .tight none hn (fun i => by rw [Nat.zero_add]) (by rw [Nat.zero_add]) rfl (GrowsT.start T) ?_
        intro T' tok' o hg
        simp only [List.nil_append] at hg ⊢
        have hs := hg.strTok
        rcases hg.2 with ⟨hl, rfl⟩ | ⟨t, rfl, hl⟩
        · cases o
          all_goals exact ⟨_, rfl, T', .tight, hg.1, hs, rfl⟩
        · cases o
          all_goals exact ⟨_, rfl, T', .own t, hg.1, hs, rfl⟩
    obtain ⟨r, h1, T', tk, h2, h3, rfl⟩ := key
    exact ⟨T', tk, h2, h3, run_here rfl h1⟩

noncomputable def st92 (by_ : Int) (s : Bool) (T : List Nat) : St := { heap := [.cells 3 [.int .i64 by_], .cells 4 [.bool s]], toks := T }
@[reducible] noncomputable def clo92 : V := .fn 92 2 [] [.ptr (.box 1) 0, .ptr (.box 0) 0]

noncomputable def heldStep (by_ : Int) (s : Bool) (x : Tm) (a : Int) : Tm × Bool := (x, s || (!iLt x.n a && iLt x.n (subW a by_)))

theorem c92_ok (n : Nat) (by_ : Int) (s : Bool) (x : Tm) (a : Int) (T : List Nat) (h2 : iEq x.k 2 = true) : run Try.cfg (n + 1) (.f 92) [encA x, .int .i64 a, .ptr (.box 1) 0, .ptr (.box 0) 0] (st92 by_ s T) = some (encA (heldStep by_ s x a).1, st92 by_ (heldStep by_ s x a).2 T) := by
  refine run_here rfl ?_
  refine frame_of Try.cfg _ (fn := Try.f92) rfl rfl ?_
  unfold heldStep
  cases s with
  | true => rfl
  | false =>
    refine WCmp.mk (fun h => ?_) (fun h => ?_)
    · rw [h]
      refine WOut.mk _ rfl ?_
      refine WCmp.mk (fun h3 => ?_) (fun h3 => ?_)
      · rw [show iLt x.n (subW a by_) = true from h3]; rfl
      · rw [show iLt x.n (subW a by_) = false from h3]; rfl
    · rw [h]; rfl

theorem w92_by (n k : Nat) (x : Tm) (around : Int) (by_ : Int) (K : Ex → Env → St → Prop) (hlen : x.ts.length < 1000000000) (T0 : List Nat)
    (hrec : ∀ y ∈ x.ts, ∀ (s : Bool) a T, ∃ T' tk, ExtT T T' ∧ strTok tk = tkOf (walkG (heldStep by_) y s a).1.d ∧
      run Try.cfg (n + 2) (.f 87) [encA y, .int .i64 a, clo92] (st92 by_ s T) = some (.agg (cellsR (walkG (heldStep by_) y s a).1 tk), st92 by_ (walkG (heldStep by_) y s a).2 T')) :
    ∀ (rem : List Tm) (j f : Nat) (done : List Tm) (s : Bool) (T : List Nat) (tok : Tok) (o : Option Tm), rem.length < f → (∀ i, rem[i]? = x.ts[j + i]?) → j + rem.length = x.ts.length → j = done.length → GrowsT T0 T done tok →
    (∀ T' tok' (o : Option Tm), GrowsT T0 T' (done ++ (walkGs (heldStep by_) x.k rem j s around).1) tok' → K (.exit 0) { nt := 40, tmps := [(1, .int .i64 around), (2, clo92), (3, .ptr (.loc 3) 0), (6, .ptr (.loc 6) 0), (7, .list (szOf false (done ++ (walkGs (heldStep by_) x.k rem j s around).1)) tok' 0 (encTs (done ++ (walkGs (heldStep by_) x.k rem j s around).1))), (18, .list (szOf x.c x.ts) (tkOf x.d) 0 (encTs x.ts)), (19, .int .i64 (.ofNat (lenN (encTs x.ts)))), (20, .int .i64 (.ofNat x.ts.length)), (21, .bool false)], locs := (3, cellsT x) :: (6, zeroT) :: oneMore 9 o, fix := [] } (st92 by_ (walkGs (heldStep by_) x.k rem j s around).2 T')) →
    WCode (iter (evalCode Try.cfg (run Try.cfg (n + 2)) k 87 (Try.cfg.fc 87) f87L) f { nt := 40, tmps := [(1, .int .i64 around), (2, clo92), (3, .ptr (.loc 3) 0), (6, .ptr (.loc 6) 0), (7, .list (szOf false done) tok 0 (encTs done)), (18, .list (szOf x.c x.ts) (tkOf x.d) 0 (encTs x.ts)), (19, .int .i64 (.ofNat (lenN (encTs x.ts)))), (20, .int .i64 (.ofNat j))], locs := (3, cellsT x) :: (6, zeroT) :: oneMore 9 o, fix := [] } (st92 by_ s T)) K
  | [], j, f + 1, done, s, T, tok, o, hf, hr, hj, hjd, hg, hK => by
    have hjl : j = x.ts.length := by simpa using hj
    subst hjl
    rw [walkGs] at hK
    simp only [List.append_nil] at hK
    have hK := hK T tok o hg
    cases o
    all_goals
      refine WCode.round (nt := 40) (fx := []) ?_
      refine WCmp.no (geLen (by omega)) ?_
      exact hK
  | y :: rem, j, f + 1, done, s, T, tok, o, hf, hr, hj, hjd, hg, hK => by
    have hb : x.ts[j]? = some y := by have := hr 0; simpa using this.symm
    have hjl : j < x.ts.length := (List.getElem?_eq_some_iff.1 hb).1
    obtain ⟨T1, tk, e1, e2, hy⟩ := hrec y (List.mem_of_getElem? hb) s (addW around (bindsF x.k (.ofNat j))) T
    obtain ⟨T2, tok2, ha, hg2⟩ := app44' (A := { nt := 0, tmps := [], locs := [], fix := [] }) (H := (st92 by_ (walkG (heldStep by_) y s (addW around (bindsF x.k (.ofNat j)))).2 T1).heap) (ac := ⟨false, none, true⟩) rfl (hg.ext e1) (by omega) (strip_encR _ tk e2)
    rw [walkGs] at hK
    dsimp only at hK
    rw [List.append_cons] at hK
    cases o
    all_goals
      refine WCode.round (nt := 40) (fx := []) ?_
      refine WCmp.yes (ltLen hjl) ?_
      refine WOut.mk _ (index44 hb) ?_
      refine WCall.mk _ _ (f118_ok (n + 1) x (.ofNat j) _) ?_
      refine WOut.mk _ rfl ?_
      refine WCall.mk _ _ hy ?_
      refine WApp.mk _ _ ((append_env rfl).trans ha) ?_
      refine WOut.mk _ (addOne (T := 3) (j := j) (by omega)) ?_
      exact w92_by n k x around by_ K hlen T0 hrec rem (j + 1) f (done ++ [(walkG (heldStep by_) y s (addW around (bindsF x.k (.ofNat j)))).1]) _ T2 tok2 (some y) (by simp only [List.length_cons] at hf; omega) (fun i => by have := hr (i + 1); simp only [List.getElem?_cons_succ] at this; rw [this]; congr 1; omega) (by simp only [List.length_cons] at hj; omega) (by simp [hjd]) hg2 hK

theorem w92_ok : ∀ (n : Nat) (x : Tm) (around : Int) (by_ : Int) (s : Bool) (T : List Nat), sizeT x < 1000000000 → wt x < n → ∃ T' tk, ExtT T T' ∧ strTok tk = tkOf (walkG (heldStep by_) x s around).1.d ∧
      run Try.cfg (n + 2) (.f 87) [encA x, .int .i64 around, clo92] (st92 by_ s T) = some (.agg (cellsR (walkG (heldStep by_) x s around).1 tk), st92 by_ (walkG (heldStep by_) x s around).2 T')
  | 0, x, around, by_, s, T, _, h => by omega
  | n + 1, x, around, by_, s, T, hsz, h => by
    have hn : x.ts.length < n + 2 := by have := wts_len x.ts; rw [wt_eq] at h; omega
    have hlen : x.ts.length < 1000000000 := by have := sizeTs_len x.ts; rw [sizeT_eq] at hsz; omega
    have key : ∃ r, frame Try.cfg (run Try.cfg (n + 2)) (n + 2) 87 [encA x, .int .i64 around, clo92] (st92 by_ s T) = some r ∧
        ∃ T' tk, ExtT T T' ∧ strTok tk = tkOf (walkG (heldStep by_) x s around).1.d ∧ r = (.agg (cellsR (walkG (heldStep by_) x s around).1 tk), st92 by_ (walkG (heldStep by_) x s around).2 T') := by
      refine frame_some (fn := Try.f87) rfl rfl ?_
      rw [walkG_eq]
      refine WCmp.mk (fun h2 => ?_) (fun h2 => ?_)
      · rw [h2]
        refine WCall.mk _ _ (c92_ok (n + 1) by_ s x around T h2) ?_
        exact ⟨_, rfl, T, _, ExtT.refl T, strTok_tk _, rfl⟩
      · rw [h2]
        refine w92_by n (n + 2) x around by_ _ hlen T (fun y hy s a T => w92_ok n y a by_ s T (by have := kid_size hy; omega) (by have := wt_kid hy; omega)) x.ts 0 (n + 2) [] s T .tight none hn (fun i => by rw [Nat.zero_add]) (by rw [Nat.zero_add]) rfl (GrowsT.start T) ?_
        intro T' tok' o hg
        simp only [List.nil_append] at hg ⊢
        have hs := hg.strTok
        rcases hg.2 with ⟨hl, rfl⟩ | ⟨t, rfl, hl⟩
        · cases o
          all_goals exact ⟨_, rfl, T', .tight, hg.1, hs, rfl⟩
        · cases o
          all_goals exact ⟨_, rfl, T', .own t, hg.1, hs, rfl⟩
    obtain ⟨r, h1, T', tk, h2, h3, rfl⟩ := key
    exact ⟨T', tk, h2, h3, run_here rfl h1⟩

noncomputable def st101 (kk : Int) (s : Unit) (T : List Nat) : St := { heap := [.cells 3 [.int .i64 kk]], toks := T }
@[reducible] noncomputable def clo101 : V := .fn 101 1 [] [.ptr (.box 0) 0]

noncomputable def closeStep (kk : Int) (s : Unit) (x : Tm) (a : Int) : Tm × Unit := (bif iEq (subW x.n a) kk then x.withN a else bif !iLt (subW x.n a) 0 && iLt (subW x.n a) kk then x.withN (addW x.n 1) else x, ())

theorem c101_ok (n : Nat) (kk : Int) (s : Unit) (x : Tm) (a : Int) (T : List Nat) (h2 : iEq x.k 2 = true) : run Try.cfg (n + 1) (.f 101) [encA x, .int .i64 a, .ptr (.box 0) 0] (st101 kk s T) = some (encA (closeStep kk s x a).1, st101 kk (closeStep kk s x a).2 T) := by
  refine run_here rfl ?_
  refine frame_of Try.cfg _ (fn := Try.f101) rfl rfl ?_
  unfold closeStep
  refine WOut.mk _ rfl ?_
  refine WCmp.mk (fun h => ?_) (fun h => ?_)
  · rw [show iEq (subW x.n a) kk = true from h]
    rfl
  · rw [show iEq (subW x.n a) kk = false from h]
    refine WCmp.mk (fun h3 => ?_) (fun h3 => ?_)
    · rw [show (!iLt (subW x.n a) 0) = true from h3]
      refine WCmp.mk (fun h4 => ?_) (fun h4 => ?_)
      · rw [show iLt (subW x.n a) kk = true from h4]
        refine WOut.mk _ rfl ?_
        rfl
      · rw [show iLt (subW x.n a) kk = false from h4]
        rfl
    · rw [show (!iLt (subW x.n a) 0) = false from h3]
      rfl

theorem w101_by (n k : Nat) (x : Tm) (around : Int) (kk : Int) (K : Ex → Env → St → Prop) (hlen : x.ts.length < 1000000000) (T0 : List Nat)
    (hrec : ∀ y ∈ x.ts, ∀ (s : Unit) a T, ∃ T' tk, ExtT T T' ∧ strTok tk = tkOf (walkG (closeStep kk) y s a).1.d ∧
      run Try.cfg (n + 2) (.f 87) [encA y, .int .i64 a, clo101] (st101 kk s T) = some (.agg (cellsR (walkG (closeStep kk) y s a).1 tk), st101 kk (walkG (closeStep kk) y s a).2 T')) :
    ∀ (rem : List Tm) (j f : Nat) (done : List Tm) (s : Unit) (T : List Nat) (tok : Tok) (o : Option Tm), rem.length < f → (∀ i, rem[i]? = x.ts[j + i]?) → j + rem.length = x.ts.length → j = done.length → GrowsT T0 T done tok →
    (∀ T' tok' (o : Option Tm), GrowsT T0 T' (done ++ (walkGs (closeStep kk) x.k rem j s around).1) tok' → K (.exit 0) { nt := 40, tmps := [(1, .int .i64 around), (2, clo101), (3, .ptr (.loc 3) 0), (6, .ptr (.loc 6) 0), (7, .list (szOf false (done ++ (walkGs (closeStep kk) x.k rem j s around).1)) tok' 0 (encTs (done ++ (walkGs (closeStep kk) x.k rem j s around).1))), (18, .list (szOf x.c x.ts) (tkOf x.d) 0 (encTs x.ts)), (19, .int .i64 (.ofNat (lenN (encTs x.ts)))), (20, .int .i64 (.ofNat x.ts.length)), (21, .bool false)], locs := (3, cellsT x) :: (6, zeroT) :: oneMore 9 o, fix := [] } (st101 kk (walkGs (closeStep kk) x.k rem j s around).2 T')) →
    WCode (iter (evalCode Try.cfg (run Try.cfg (n + 2)) k 87 (Try.cfg.fc 87) f87L) f { nt := 40, tmps := [(1, .int .i64 around), (2, clo101), (3, .ptr (.loc 3) 0), (6, .ptr (.loc 6) 0), (7, .list (szOf false done) tok 0 (encTs done)), (18, .list (szOf x.c x.ts) (tkOf x.d) 0 (encTs x.ts)), (19, .int .i64 (.ofNat (lenN (encTs x.ts)))), (20, .int .i64 (.ofNat j))], locs := (3, cellsT x) :: (6, zeroT) :: oneMore 9 o, fix := [] } (st101 kk s T)) K
  | [], j, f + 1, done, s, T, tok, o, hf, hr, hj, hjd, hg, hK => by
    have hjl : j = x.ts.length := by simpa using hj
    subst hjl
    rw [walkGs] at hK
    simp only [List.append_nil] at hK
    have hK := hK T tok o hg
    cases o
    all_goals
      refine WCode.round (nt := 40) (fx := []) ?_
      refine WCmp.no (geLen (by omega)) ?_
      exact hK
  | y :: rem, j, f + 1, done, s, T, tok, o, hf, hr, hj, hjd, hg, hK => by
    have hb : x.ts[j]? = some y := by have := hr 0; simpa using this.symm
    have hjl : j < x.ts.length := (List.getElem?_eq_some_iff.1 hb).1
    obtain ⟨T1, tk, e1, e2, hy⟩ := hrec y (List.mem_of_getElem? hb) s (addW around (bindsF x.k (.ofNat j))) T
    obtain ⟨T2, tok2, ha, hg2⟩ := app44' (A := { nt := 0, tmps := [], locs := [], fix := [] }) (H := (st101 kk (walkG (closeStep kk) y s (addW around (bindsF x.k (.ofNat j)))).2 T1).heap) (ac := ⟨false, none, true⟩) rfl (hg.ext e1) (by omega) (strip_encR _ tk e2)
    rw [walkGs] at hK
    dsimp only at hK
    rw [List.append_cons] at hK
    cases o
    all_goals
      refine WCode.round (nt := 40) (fx := []) ?_
      refine WCmp.yes (ltLen hjl) ?_
      refine WOut.mk _ (index44 hb) ?_
      refine WCall.mk _ _ (f118_ok (n + 1) x (.ofNat j) _) ?_
      refine WOut.mk _ rfl ?_
      refine WCall.mk _ _ hy ?_
      refine WApp.mk _ _ ((append_env rfl).trans ha) ?_
      refine WOut.mk _ (addOne (T := 3) (j := j) (by omega)) ?_
      exact w101_by n k x around kk K hlen T0 hrec rem (j + 1) f (done ++ [(walkG (closeStep kk) y s (addW around (bindsF x.k (.ofNat j)))).1]) _ T2 tok2 (some y) (by simp only [List.length_cons] at hf; omega) (fun i => by have := hr (i + 1); simp only [List.getElem?_cons_succ] at this; rw [this]; congr 1; omega) (by simp only [List.length_cons] at hj; omega) (by simp [hjd]) hg2 hK

theorem w101_ok : ∀ (n : Nat) (x : Tm) (around : Int) (kk : Int) (s : Unit) (T : List Nat), sizeT x < 1000000000 → wt x < n → ∃ T' tk, ExtT T T' ∧ strTok tk = tkOf (walkG (closeStep kk) x s around).1.d ∧
      run Try.cfg (n + 2) (.f 87) [encA x, .int .i64 around, clo101] (st101 kk s T) = some (.agg (cellsR (walkG (closeStep kk) x s around).1 tk), st101 kk (walkG (closeStep kk) x s around).2 T')
  | 0, x, around, kk, s, T, _, h => by omega
  | n + 1, x, around, kk, s, T, hsz, h => by
    have hn : x.ts.length < n + 2 := by have := wts_len x.ts; rw [wt_eq] at h; omega
    have hlen : x.ts.length < 1000000000 := by have := sizeTs_len x.ts; rw [sizeT_eq] at hsz; omega
    have key : ∃ r, frame Try.cfg (run Try.cfg (n + 2)) (n + 2) 87 [encA x, .int .i64 around, clo101] (st101 kk s T) = some r ∧
        ∃ T' tk, ExtT T T' ∧ strTok tk = tkOf (walkG (closeStep kk) x s around).1.d ∧ r = (.agg (cellsR (walkG (closeStep kk) x s around).1 tk), st101 kk (walkG (closeStep kk) x s around).2 T') := by
      refine frame_some (fn := Try.f87) rfl rfl ?_
      rw [walkG_eq]
      refine WCmp.mk (fun h2 => ?_) (fun h2 => ?_)
      · rw [h2]
        refine WCall.mk _ _ (c101_ok (n + 1) kk s x around T h2) ?_
        exact ⟨_, rfl, T, _, ExtT.refl T, strTok_tk _, rfl⟩
      · rw [h2]
        refine w101_by n (n + 2) x around kk _ hlen T (fun y hy s a T => w101_ok n y a kk s T (by have := kid_size hy; omega) (by have := wt_kid hy; omega)) x.ts 0 (n + 2) [] s T .tight none hn (fun i => by rw [Nat.zero_add]) (by rw [Nat.zero_add]) rfl (GrowsT.start T) ?_
        intro T' tok' o hg
        simp only [List.nil_append] at hg ⊢
        have hs := hg.strTok
        rcases hg.2 with ⟨hl, rfl⟩ | ⟨t, rfl, hl⟩
        · cases o
          all_goals exact ⟨_, rfl, T', .tight, hg.1, hs, rfl⟩
        · cases o
          all_goals exact ⟨_, rfl, T', .own t, hg.1, hs, rfl⟩
    obtain ⟨r, h1, T', tk, h2, h3, rfl⟩ := key
    exact ⟨T', tk, h2, h3, run_here rfl h1⟩

end Go.Ev

/- Terms: Lift and Close, the document's and the package's (written by tmi.py; own work). -/
namespace Go.Ev
open Go.Proofs
set_option maxRecDepth 100000
set_option linter.unusedSimpArgs false
set_option linter.unusedVariables false

/-! ### with -/

theorem r104_ok (n : Nat) (x : Tm) (L : List Tm) (tok : Tok) (ht : strTok tok = tkOf L.isEmpty) (S : St) : run Try.cfg (n + 1) (.f 104) [encA x, .list (szOf false L) tok 0 (encTs L)] S = some (encA (x.withT L), S) := by
  have : frame Try.cfg (run Try.cfg n) n 104 [encA x, .list (szOf false L) (tkOf L.isEmpty) 0 (encTs L)] St.empty = some (.agg (cellsR (x.withT L) (tkOf L.isEmpty)), St.empty) := by
    refine frame_of Try.cfg _ (fn := Try.f104) rfl rfl ?_
    rfl
  have hs : mapN V.strip [encA x, .list (szOf false L) tok 0 (encTs L)] = [encA x, .list (szOf false L) (tkOf L.isEmpty) 0 (encTs L)] := by
    rw [strips_t, ← ht]
    cases tok <;> rfl
  refine run_val (v' := .agg (cellsR (x.withT L) (tkOf L.isEmpty))) (by rw [hs]; exact this) rfl rfl rfl rfl ?_
  exact strip_encR (x.withT L) _ (strTok_tk _)

/-! ### the document's Lift -/

noncomputable def f100L : Code := loopN Try.f100 0



theorem r100_by (n k : Nat) (x : Tm) (by_ : Int) (around : Int) (K : Ex → Env → St → Prop) (hlen : x.ts.length < 1000000000) (T0 : List Nat)
    (hrec : ∀ y ∈ x.ts, ∀ a S, run Try.cfg (n + 1) (.f 100) [encA y, .int .i64 a, .int .i64 by_] S = some (encA (walkG (liftStep by_) y () a).1, S)) :
    ∀ (rem : List Tm) (j f : Nat) (done : List Tm) (T : List Nat) (tok : Tok), rem.length < f → (∀ i, rem[i]? = x.ts[j + i]?) → j + rem.length = x.ts.length → j = done.length → GrowsT T0 T done tok →
    (∀ T' tok', GrowsT T0 T' (done ++ (walkGs (liftStep by_) x.k rem j () around).1) tok' → K (.exit 0) { nt := 47, tmps := [(1, .int .i64 around), (2, .int .i64 by_), (3, .ptr (.loc 3) 0), (6, .ptr (.loc 6) 0), (7, .list (szOf false (done ++ (walkGs (liftStep by_) x.k rem j () around).1)) tok' 0 (encTs (done ++ (walkGs (liftStep by_) x.k rem j () around).1))), (8, .int .i64 (.ofNat x.ts.length)), (26, .bool false)], locs := [(3, cellsT x), (6, zeroT)], fix := [] } { heap := [], toks := T' }) →
    WCode (iter (evalCode Try.cfg (run Try.cfg (n + 1)) k 100 (Try.cfg.fc 100) f100L) f { nt := 47, tmps := [(1, .int .i64 around), (2, .int .i64 by_), (3, .ptr (.loc 3) 0), (6, .ptr (.loc 6) 0), (7, .list (szOf false done) tok 0 (encTs done)), (8, .int .i64 (.ofNat j))], locs := [(3, cellsT x), (6, zeroT)], fix := [] } { heap := [], toks := T }) K
  | [], j, f + 1, done, T, tok, hf, hr, hj, hjd, hg, hK => by
    have hjl : j = x.ts.length := by simpa using hj
    subst hjl
    rw [walkGs] at hK
    simp only [List.append_nil] at hK
    have hK := hK T tok hg
    refine WCode.round (nt := 47) (fx := []) ?_
    refine WCmp.no (geLen (by omega)) ?_
    exact hK
  | y :: rem, j, f + 1, done, T, tok, hf, hr, hj, hjd, hg, hK => by
    have hb : x.ts[j]? = some y := by have := hr 0; simpa using this.symm
    have hjl : j < x.ts.length := (List.getElem?_eq_some_iff.1 hb).1
    have hy := hrec y (List.mem_of_getElem? hb) (addW around (bindsF x.k (.ofNat j)))
    obtain ⟨T2, tok2, ha, hg2⟩ := app44' (A := { nt := 0, tmps := [], locs := [], fix := [] }) (H := []) (ac := ⟨false, none, true⟩) rfl hg (by omega) (strip_encA (walkG (liftStep by_) y () (addW around (bindsF x.k (.ofNat j)))).1)
    rw [walkGs] at hK
    dsimp only at hK
    rw [List.append_cons] at hK
    refine WCode.round (nt := 47) (fx := []) ?_
    refine WCmp.yes (ltLen hjl) ?_
    refine WOut.mk _ (index44 hb) ?_
    refine WCall.mk _ _ (r103_ok (n + 0) x (.ofNat j) _) ?_
    refine WOut.mk _ rfl ?_
    refine WCall.mk _ _ (hy _) ?_
    refine WApp.mk _ _ ((append_env rfl).trans ha) ?_
    refine WOut.mk _ (addOne (T := 3) (j := j) (by omega)) ?_
    exact r100_by n k x by_ around K hlen T0 hrec rem (j + 1) f (done ++ [(walkG (liftStep by_) y () (addW around (bindsF x.k (.ofNat j)))).1]) T2 tok2 (by simp only [List.length_cons] at hf; omega) (fun i => by have := hr (i + 1); simp only [List.getElem?_cons_succ] at this; rw [this]; congr 1; omega) (by simp only [List.length_cons] at hj; omega) (by simp [hjd]) hg2 hK

theorem r100_ok : ∀ (n : Nat) (x : Tm) (by_ : Int) (around : Int) (S : St), sizeT x < 1000000000 → wt x < n → run Try.cfg (n + 1) (.f 100) [encA x, .int .i64 around, .int .i64 by_] S = some (encA (walkG (liftStep by_) x () around).1, S)
  | 0, x, by_, around, S, _, h => by omega
  | n + 1, x, by_, around, S, hsz, h => by
    have hn : x.ts.length < n + 1 := by have := wts_len x.ts; rw [wt_eq] at h; omega
    have hlen : x.ts.length < 1000000000 := by have := sizeTs_len x.ts; rw [sizeT_eq] at hsz; omega
    have key : ∃ S', frame Try.cfg (run Try.cfg (n + 1)) (n + 1) 100 [encA x, .int .i64 around, .int .i64 by_] St.empty = some (encA (walkG (liftStep by_) x () around).1, S') := by
      refine frame_ex Try.cfg _ (fn := Try.f100) rfl rfl ?_
      rw [walkG_eq]
      refine WCmp.mk (fun h2 => ?_) (fun h2 => ?_)
      · rw [h2]
        unfold liftStep
        refine WCmp.mk (fun h => ?_) (fun h => ?_)
        · rw [h]
          refine WOut.mk _ rfl ?_
          exact ⟨_, rfl⟩
        · rw [h]
          exact ⟨_, rfl⟩
      · rw [h2]
        refine r100_by n (n + 1) x by_ around _ hlen [] (fun y hy a S => r100_ok n y by_ a S (by have := kid_size hy; omega) (by have := wt_kid hy; omega)) x.ts 0 (n + 1) [] [] .tight hn (fun i => by rw [Nat.zero_add]) (by rw [Nat.zero_add]) rfl (GrowsT.start []) ?_
        intro T' tok' hg
        simp only [List.nil_append] at hg ⊢
        refine WCall.mk _ _ (r104_ok (n + 0) x _ tok' hg.strTok _) ?_
        exact ⟨_, rfl⟩
    obtain ⟨S', h1⟩ := key
    exact run_tm h1 (by simp only [strips_t, strips_i, strips_ts, strips_nil]) rfl rfl rfl rfl (strip_encA _)

/-! ### the document's Close -/

noncomputable def f56L : Code := loopN Try.f56 0

noncomputable def closeR (kk : Int) (s : Unit) (x : Tm) (a : Int) : Tm × Unit := (bif iEq x.n (addW kk a) then x.withN a else bif !iLt x.n a && iLt x.n (addW kk a) then x.withN (addW x.n 1) else x, ())

theorem r56_by (n k : Nat) (x : Tm) (kk : Int) (around : Int) (K : Ex → Env → St → Prop) (hlen : x.ts.length < 1000000000) (T0 : List Nat)
    (hrec : ∀ y ∈ x.ts, ∀ a S, run Try.cfg (n + 1) (.f 56) [encA y, .int .i64 kk, .int .i64 a] S = some (encA (walkG (closeR kk) y () a).1, S)) :
    ∀ (rem : List Tm) (j f : Nat) (done : List Tm) (T : List Nat) (tok : Tok), rem.length < f → (∀ i, rem[i]? = x.ts[j + i]?) → j + rem.length = x.ts.length → j = done.length → GrowsT T0 T done tok →
    (∀ T' tok', GrowsT T0 T' (done ++ (walkGs (closeR kk) x.k rem j () around).1) tok' → K (.exit 0) { nt := 62, tmps := [(1, .int .i64 kk), (2, .int .i64 around), (3, .ptr (.loc 3) 0), (6, .ptr (.loc 6) 0), (7, .list (szOf false (done ++ (walkGs (closeR kk) x.k rem j () around).1)) tok' 0 (encTs (done ++ (walkGs (closeR kk) x.k rem j () around).1))), (8, .int .i64 (.ofNat x.ts.length)), (41, .bool false)], locs := [(3, cellsT x), (6, zeroT)], fix := [] } { heap := [], toks := T' }) →
    WCode (iter (evalCode Try.cfg (run Try.cfg (n + 1)) k 56 (Try.cfg.fc 56) f56L) f { nt := 62, tmps := [(1, .int .i64 kk), (2, .int .i64 around), (3, .ptr (.loc 3) 0), (6, .ptr (.loc 6) 0), (7, .list (szOf false done) tok 0 (encTs done)), (8, .int .i64 (.ofNat j))], locs := [(3, cellsT x), (6, zeroT)], fix := [] } { heap := [], toks := T }) K
  | [], j, f + 1, done, T, tok, hf, hr, hj, hjd, hg, hK => by
    have hjl : j = x.ts.length := by simpa using hj
    subst hjl
    rw [walkGs] at hK
    simp only [List.append_nil] at hK
    have hK := hK T tok hg
    refine WCode.round (nt := 62) (fx := []) ?_
    refine WCmp.no (geLen (by omega)) ?_
    exact hK
  | y :: rem, j, f + 1, done, T, tok, hf, hr, hj, hjd, hg, hK => by
    have hb : x.ts[j]? = some y := by have := hr 0; simpa using this.symm
    have hjl : j < x.ts.length := (List.getElem?_eq_some_iff.1 hb).1
    have hy := hrec y (List.mem_of_getElem? hb) (addW around (bindsF x.k (.ofNat j)))
    obtain ⟨T2, tok2, ha, hg2⟩ := app44' (A := { nt := 0, tmps := [], locs := [], fix := [] }) (H := []) (ac := ⟨false, none, true⟩) rfl hg (by omega) (strip_encA (walkG (closeR kk) y () (addW around (bindsF x.k (.ofNat j)))).1)
    rw [walkGs] at hK
    dsimp only at hK
    rw [List.append_cons] at hK
    refine WCode.round (nt := 62) (fx := []) ?_
    refine WCmp.yes (ltLen hjl) ?_
    refine WOut.mk _ (index44 hb) ?_
    refine WCall.mk _ _ (r103_ok (n + 0) x (.ofNat j) _) ?_
    refine WOut.mk _ rfl ?_
    refine WCall.mk _ _ (hy _) ?_
    refine WApp.mk _ _ ((append_env rfl).trans ha) ?_
    refine WOut.mk _ (addOne (T := 3) (j := j) (by omega)) ?_
    exact r56_by n k x kk around K hlen T0 hrec rem (j + 1) f (done ++ [(walkG (closeR kk) y () (addW around (bindsF x.k (.ofNat j)))).1]) T2 tok2 (by simp only [List.length_cons] at hf; omega) (fun i => by have := hr (i + 1); simp only [List.getElem?_cons_succ] at this; rw [this]; congr 1; omega) (by simp only [List.length_cons] at hj; omega) (by simp [hjd]) hg2 hK

theorem r56_ok : ∀ (n : Nat) (x : Tm) (kk : Int) (around : Int) (S : St), sizeT x < 1000000000 → wt x < n → run Try.cfg (n + 1) (.f 56) [encA x, .int .i64 kk, .int .i64 around] S = some (encA (walkG (closeR kk) x () around).1, S)
  | 0, x, kk, around, S, _, h => by omega
  | n + 1, x, kk, around, S, hsz, h => by
    have hn : x.ts.length < n + 1 := by have := wts_len x.ts; rw [wt_eq] at h; omega
    have hlen : x.ts.length < 1000000000 := by have := sizeTs_len x.ts; rw [sizeT_eq] at hsz; omega
    have key : ∃ S', frame Try.cfg (run Try.cfg (n + 1)) (n + 1) 56 [encA x, .int .i64 kk, .int .i64 around] St.empty = some (encA (walkG (closeR kk) x () around).1, S') := by
      refine frame_ex Try.cfg _ (fn := Try.f56) rfl rfl ?_
      rw [walkG_eq]
      refine WCmp.mk (fun h2 => ?_) (fun h2 => ?_)
      · rw [h2]
        unfold closeR
        refine WOut.mk _ rfl ?_
        refine WCmp.mk (fun h => ?_) (fun h => ?_)
        · rw [show iEq x.n (addW kk around) = true from h]
          exact ⟨_, rfl⟩
        · rw [show iEq x.n (addW kk around) = false from h]
          refine WCmp.mk (fun h3 => ?_) (fun h3 => ?_)
          · rw [h3]
            refine WOut.mk _ rfl ?_
            refine WCmp.mk (fun h4 => ?_) (fun h4 => ?_)
            · rw [show iLt x.n (addW kk around) = true from h4]
              refine WOut.mk _ rfl ?_
              exact ⟨_, rfl⟩
            · rw [show iLt x.n (addW kk around) = false from h4]
              exact ⟨_, rfl⟩
          · rw [h3]
            exact ⟨_, rfl⟩
      · rw [h2]
        refine r56_by n (n + 1) x kk around _ hlen [] (fun y hy a S => r56_ok n y kk a S (by have := kid_size hy; omega) (by have := wt_kid hy; omega)) x.ts 0 (n + 1) [] [] .tight hn (fun i => by rw [Nat.zero_add]) (by rw [Nat.zero_add]) rfl (GrowsT.start []) ?_
        intro T' tok' hg
        simp only [List.nil_append] at hg ⊢
        refine WCall.mk _ _ (r104_ok (n + 0) x _ tok' hg.strTok _) ?_
        exact ⟨_, rfl⟩
    obtain ⟨S', h1⟩ := key
    exact run_tm h1 (by simp only [strips_t, strips_i, strips_ts, strips_nil]) rfl rfl rfl rfl (strip_encA _)

/-! ### The package's lift, Lift, Close, told -/

noncomputable def zTm : Tm := .mk 0 0 [] false true false true [] []

noncomputable def toldT (x : Tm) : Tm × Int := match mayT x with | true => (x, 0) | false => (zTm, 4)
@[reducible] noncomputable def encP2 (r : Tm × Int) : V := .tuple [encA r.1, .int .i64 r.2]

theorem stripAll_P2 (r : Tm × Int) : (encP2 r).stripAll = encP2 r := by
  show V.tuple [(encA r.1).strip, _] = _
  rw [strip_encA]
  rfl

theorem f89_ok (n : Nat) (x : Tm) (S : St) (hsm : Sm x) (h : wt x < n) : run Try.cfg (n + 14) (.f 89) [encA x] S = some (encP2 (toldT x), S) := by
  have : frame Try.cfg (run Try.cfg (n + 13)) (n + 13) 89 [encA x] St.empty = some (encP2 (toldT x), St.empty) := by
    refine frame_of Try.cfg _ (fn := Try.f89) rfl rfl ?_
    unfold toldT
    refine WCall.mkB (f84_ok n x _ hsm h) (fun hm => ?_) (fun hm => ?_)
    · rw [hm]; rfl
    · rw [hm]; rfl
  exact run_tm this (by simp only [strips_t, strips_nil]) rfl rfl rfl rfl (stripAll_P2 _)

/-- f89, with the result of walk. -/
theorem f89_ok' (n : Nat) (x : Tm) (tk : Tok) (ht : strTok tk = tkOf x.d) (S : St) (hsm : Sm x) (h : wt x < n) : run Try.cfg (n + 14) (.f 89) [.agg (cellsR x tk)] S = some (encP2 (toldT x), S) := by
  have : frame Try.cfg (run Try.cfg (n + 13)) (n + 13) 89 [encA x] St.empty = some (encP2 (toldT x), St.empty) := by
    refine frame_of Try.cfg _ (fn := Try.f89) rfl rfl ?_
    unfold toldT
    refine WCall.mkB (f84_ok n x _ hsm h) (fun hm => ?_) (fun hm => ?_)
    · rw [hm]; rfl
    · rw [hm]; rfl
  have hm : mapN V.strip [V.agg (cellsR x tk)] = [encA x] := by show [V.agg (mapN cellStrip (cellsR x tk))] = _; rw [strip_encR x tk ht]
  rw [← hm] at this
  exact run_val this rfl rfl rfl rfl (stripAll_P2 _)

noncomputable def liftT (x : Tm) (from_ by_ : Int) : Tm := (walkG (liftStep by_) x () from_).1

theorem f91_ok (n : Nat) (x : Tm) (from_ by_ : Int) (S : St) (hsz : sizeT x < 1000000000) (h : wt x < n) : run Try.cfg (n + 3) (.f 91) [encA x, .int .i64 from_, .int .i64 by_] S = some (encA (liftT x from_ by_), S) := by
  obtain ⟨T', tk, _, h2, h3⟩ := w119_ok n x from_ by_ () [] hsz h
  have : frame Try.cfg (run Try.cfg (n + 2)) (n + 2) 91 [encA x, .int .i64 from_, .int .i64 by_] St.empty = some (.agg (cellsR (liftT x from_ by_) tk), st119 by_ () T') := by
    refine frame_of Try.cfg _ (fn := Try.f91) rfl rfl ?_
    refine WCall.mk _ _ h3 ?_
    rfl
  exact run_tm this (by simp only [strips_t, strips_i, strips_nil]) rfl rfl rfl rfl (strip_encR _ tk h2)

noncomputable def liftM (x : Tm) (from_ by_ : Int) : Tm × Int := bif iLt from_ 0 || !mayT x then (zTm, 1) else bif (walkG (heldStep by_) x false from_).2 then (zTm, 7) else toldT (liftT x from_ by_)

theorem f38_ok (n : Nat) (x : Tm) (from_ by_ : Int) (S : St) (hsm : Sm x) (hsz : sizeT x < 1000000000) (h : wt x < n) (hsm2 : Sm (liftT x from_ by_)) (h2 : wt (liftT x from_ by_) < n) :
    run Try.cfg (n + 15) (.f 38) [encA x, .int .i64 from_, .int .i64 by_] S = some (encP2 (liftM x from_ by_), S) := by
  have : ∃ S', frame Try.cfg (run Try.cfg (n + 14)) (n + 14) 38 [encA x, .int .i64 from_, .int .i64 by_] St.empty = some (encP2 (liftM x from_ by_), S') := by
    refine frame_ex Try.cfg _ (fn := Try.f38) rfl rfl ?_
    unfold liftM
    refine WCmp.mk (fun h0 => ?_) (fun h0 => ?_)
    · rw [h0]
      exact ⟨_, rfl⟩
    · rw [h0]
      refine WCall.mkB (f84_ok (n + 1) x _ hsm (by omega)) (fun hm => ?_) (fun hm => ?_)
      · rw [hm]
        obtain ⟨T', tk, _, k2, k3⟩ := w92_ok (n + 12) x from_ by_ false [] hsz (by omega)
        refine WCall.mk _ _ k3 ?_
        cases hh : (walkG (heldStep by_) x false from_).2 with
        | true => exact ⟨_, rfl⟩
        | false =>
          refine WCall.mk _ _ (f91_ok (n + 11) x from_ by_ _ hsz (by omega)) ?_
          refine WCall.mk _ _ (f89_ok n (liftT x from_ by_) _ hsm2 h2) ?_
          exact ⟨_, rfl⟩
      · rw [hm]
        exact ⟨_, rfl⟩
  obtain ⟨S', this⟩ := this
  exact run_tm this (by simp only [strips_t, strips_i, strips_nil]) rfl rfl rfl rfl (stripAll_P2 _)

noncomputable def closeT (x : Tm) (kk : Int) : Tm := (walkG (closeStep kk) x () 0).1
noncomputable def closeM (x : Tm) (kk : Int) : Tm × Int := bif iLt kk 0 || !mayT x then (zTm, 1) else toldT (closeT x kk)

theorem f54_ok (n : Nat) (x : Tm) (kk : Int) (S : St) (hsm : Sm x) (hsz : sizeT x < 1000000000) (h : wt x < n) (hsm2 : Sm (closeT x kk)) (h2 : wt (closeT x kk) < n) :
    run Try.cfg (n + 15) (.f 54) [encA x, .int .i64 kk] S = some (encP2 (closeM x kk), S) := by
  have : ∃ S', frame Try.cfg (run Try.cfg (n + 14)) (n + 14) 54 [encA x, .int .i64 kk] St.empty = some (encP2 (closeM x kk), S') := by
    refine frame_ex Try.cfg _ (fn := Try.f54) rfl rfl ?_
    unfold closeM
    refine WCmp.mk (fun h0 => ?_) (fun h0 => ?_)
    · rw [h0]
      exact ⟨_, rfl⟩
    · rw [h0]
      refine WCall.mkB (f84_ok (n + 1) x _ hsm (by omega)) (fun hm => ?_) (fun hm => ?_)
      · rw [hm]
        obtain ⟨T', tk, _, k2, k3⟩ := w101_ok (n + 12) x 0 kk () [] hsz (by omega)
        refine WCall.mk _ _ k3 ?_
        refine WCall.mk _ _ (f89_ok' n (closeT x kk) tk k2 _ hsm2 h2) ?_
        exact ⟨_, rfl⟩
      · rw [hm]
        exact ⟨_, rfl⟩
  obtain ⟨S', this⟩ := this
  exact run_tm this (by simp only [strips_t, strips_i, strips_nil]) rfl rfl rfl rfl (stripAll_P2 _)

end Go.Ev

/- Terms: the functions of the laws: between, lifts, Same, told, few (own work). -/
namespace Go.Ev
open Go.Proofs
set_option maxRecDepth 100000
set_option linter.unusedSimpArgs false
set_option linter.unusedVariables false

/-! ### between -/

mutual
noncomputable def btwT : Tm → Int → Int → Bool
  | .mk k n _ _ _ _ _ _ ts, lo, hi => bif iEq k 2 then !iLt n lo && iLt n hi else btwTs k ts 0 lo hi
noncomputable def btwTs (k : Int) : List Tm → Nat → Int → Int → Bool
  | [], _, _, _ => false
  | t :: ts, i, lo, hi => btwT t (addW lo (bindsF k (.ofNat i))) (addW hi (bindsF k (.ofNat i))) || btwTs k ts (i + 1) lo hi
end
theorem btwT_eq (x : Tm) (lo hi : Int) : btwT x lo hi = bif iEq x.k 2 then !iLt x.n lo && iLt x.n hi else btwTs x.k x.ts 0 lo hi := by cases x; rw [btwT]; rfl
theorem btwTs_cons (k : Int) (t : Tm) (ts : List Tm) (i : Nat) (lo hi : Int) : btwTs k (t :: ts) i lo hi = (btwT t (addW lo (bindsF k (.ofNat i))) (addW hi (bindsF k (.ofNat i))) || btwTs k ts (i + 1) lo hi) := by rw [btwTs]

noncomputable def f99L : Code := loopN Try.f99 0

theorem f99_by (n k : Nat) (x : Tm) (lo hi : Int) (S : St) (K : Ex → Env → St → Prop) (hlen : x.ts.length < 1000000000)
    (hrec : ∀ y ∈ x.ts, ∀ a b, run Try.cfg (n + 1) (.f 99) [encA y, .int .i64 a, .int .i64 b] S = some (.bool (btwT y a b), S)) :
    ∀ (rem : List Tm) (j f : Nat) (o : Option Int), rem.length < f → (∀ i, rem[i]? = x.ts[j + i]?) → j + rem.length = x.ts.length →
    (btwTs x.k rem j lo hi = false → K (.exit 0) { nt := 44, tmps := [(1, .int .i64 lo), (2, .int .i64 hi), (3, .ptr (.loc 3) 0), (7, .int .i64 (.ofNat x.ts.length)), (26, .bool false)], locs := [(3, cellsT x)], fix := [] } S) →
    (btwTs x.k rem j lo hi = true → K .ret { nt := 44, tmps := [(6, .bool true)], locs := [(3, cellsT x)], fix := [] } S) →
    WCode (iter (evalCode Try.cfg (run Try.cfg (n + 1)) k 99 (Try.cfg.fc 99) f99L) f { nt := 44, tmps := [(1, .int .i64 lo), (2, .int .i64 hi), (3, .ptr (.loc 3) 0), (7, .int .i64 (.ofNat j))], locs := [(3, cellsT x)], fix := [] } S) K
  | [], j, f + 1, o, hf, hr, hj, hK, hY => by
    have hjl : j = x.ts.length := by simpa using hj
    subst hjl
    refine WCode.round (nt := 44) (fx := []) ?_
    refine WCmp.no (geLen (by omega)) ?_
    exact hK (by rw [btwTs])
  | y :: rem, j, f + 1, o, hf, hr, hj, hK, hY => by
    have hb : x.ts[j]? = some y := by have := hr 0; simpa using this.symm
    have hjl : j < x.ts.length := (List.getElem?_eq_some_iff.1 hb).1
    rw [btwTs_cons] at hK hY
    refine WCode.round (nt := 44) (fx := []) ?_
    refine WCmp.yes (ltLen hjl) ?_
    refine WCall.mk _ _ (r103_ok n x (.ofNat j) _) ?_
    refine WOut.mk _ (index44 hb) ?_
    refine WOut.mk _ rfl ?_
    refine WOut.mk _ rfl ?_
    refine WCall.mkB (hrec y (List.mem_of_getElem? hb) _ _) (fun h => ?_) (fun h => ?_)
    · exact hY (by rw [show btwT y (addW lo (bindsF x.k (.ofNat j))) (addW hi (bindsF x.k (.ofNat j))) = true from h]; rfl)
    · rw [show btwT y (addW lo (bindsF x.k (.ofNat j))) (addW hi (bindsF x.k (.ofNat j))) = false from h, Bool.false_or] at hK hY
      refine WOut.mk _ (addOne (T := 3) (j := j) (by omega)) ?_
      exact f99_by n k x lo hi S K hlen hrec rem (j + 1) f none (by simp only [List.length_cons] at hf; omega) (fun i => by have := hr (i + 1); simp only [List.getElem?_cons_succ] at this; rw [this]; congr 1; omega) (by simp only [List.length_cons] at hj; omega) hK hY

theorem f99_ok : ∀ (n : Nat) (x : Tm) (lo hi : Int) (S : St), sizeT x < 1000000000 → wt x < n → run Try.cfg (n + 1) (.f 99) [encA x, .int .i64 lo, .int .i64 hi] S = some (.bool (btwT x lo hi), S)
  | 0, x, lo, hi, S, _, h => by omega
  | n + 1, x, lo, hi, S, hsz, h => by
    have hn : x.ts.length < n + 1 := by have := wts_len x.ts; rw [wt_eq] at h; omega
    have hlen : x.ts.length < 1000000000 := by have := sizeTs_len x.ts; rw [sizeT_eq] at hsz; omega
    have : frame Try.cfg (run Try.cfg (n + 1)) (n + 1) 99 [encA x, .int .i64 lo, .int .i64 hi] St.empty = some (.bool (btwT x lo hi), St.empty) := by
      refine frame_of Try.cfg _ (fn := Try.f99) rfl rfl ?_
      rw [btwT_eq]
      refine WCmp.mk (fun h2 => ?_) (fun h2 => ?_)
      · rw [h2]
        repeat' (refine WCmp.mk (fun _ => ?_) (fun _ => ?_))
        all_goals exact rfB (by simp [*])
      · rw [h2]
        refine f99_by n (n + 1) x lo hi _ _ hlen (fun y hy a b => f99_ok n y a b _ (by have := kid_size hy; omega) (by have := wt_kid hy; omega)) x.ts 0 (n + 1) none hn (fun i => by rw [Nat.zero_add]) (by rw [Nat.zero_add]) (fun h => ?_) (fun h => ?_)
        · exact rfB (by simp [h])
        · exact rfB (by simp [h])
    exact run_tm this (by simp only [strips_t, strips_i, strips_nil]) rfl rfl rfl rfl rfl

/-! ### lifts -/

noncomputable def liftsL (x : Tm) (from_ by_ : Int) : Tm × Int := bif !mayT x || iLt from_ 0 then (zTm, 1) else bif iLt by_ 0 && btwT x from_ (subW from_ by_) then (zTm, 7) else (liftT x from_ by_, 0)

theorem f53_ok (n : Nat) (x : Tm) (from_ by_ : Int) (S : St) (hsm : Sm x) (hsz : sizeT x < 1000000000) (h : wt x < n) :
    run Try.cfg (n + 9) (.f 53) [encA x, .int .i64 from_, .int .i64 by_] S = some (encP2 (liftsL x from_ by_), S) := by
  have : frame Try.cfg (run Try.cfg (n + 8)) (n + 8) 53 [encA x, .int .i64 from_, .int .i64 by_] St.empty = some (encP2 (liftsL x from_ by_), St.empty) := by
    refine frame_of Try.cfg _ (fn := Try.f53) rfl rfl ?_
    unfold liftsL
    have hl : run Try.cfg (n + 8) (.f 100) [encA x, .int .i64 from_, .int .i64 by_] St.empty = some (encA (liftT x from_ by_), St.empty) := r100_ok (n + 7) x by_ from_ _ hsz (by omega)
    refine WCall.mkB (r55_ok n x _ hsm (by omega)) (fun hm => ?_) (fun hm => ?_)
    · rw [hm]
      refine WCmp.mk (fun h0 => ?_) (fun h0 => ?_)
      · rw [h0]; rfl
      · rw [h0]
        refine WCmp.mk (fun h1 => ?_) (fun h1 => ?_)
        · rw [h1]
          refine WOut.mk _ rfl ?_
          refine WCall.mkB (f99_ok (n + 7) x from_ (subW from_ by_) _ hsz (by omega)) (fun hb => ?_) (fun hb => ?_)
          · rw [hb]; rfl
          · rw [hb]
            refine WCall.mk _ _ hl ?_
            rfl
        · rw [h1]
          refine WCall.mk _ _ hl ?_
          rfl
    · rw [hm]; rfl
  exact run_tm this (by simp only [strips_t, strips_i, strips_nil]) rfl rfl rfl rfl (stripAll_P2 _)

end Go.Ev

/- Terms: the functions of the laws: Same, told, few, works (own work). -/
namespace Go.Ev
open Go.Proofs
set_option maxRecDepth 100000
set_option linter.unusedSimpArgs false
set_option linter.unusedVariables false

mutual
noncomputable def sameT : Tm → Tm → Bool
  | .mk k n s _ _ _ _ ls ts, b => (iEq k b.k && iEq n b.n && decide (s = b.s) && iEq (.ofNat (lenN (ls.map enc))) (.ofNat (lenN (b.ls.map enc))) && iEq (.ofNat (lenN (encTs ts))) (.ofNat (lenN (encTs b.ts)))) && (decide (ls = b.ls) && sameTs ts b.ts)
noncomputable def sameTs : List Tm → List Tm → Bool
  | [], _ => true
  | t :: ts, u :: us => sameT t u && sameTs ts us
  | _ :: _, [] => false
end
theorem sameT_eq (a b : Tm) : sameT a b = ((iEq a.k b.k && iEq a.n b.n && decide (a.s = b.s) && iEq (.ofNat (lenN (a.ls.map enc))) (.ofNat (lenN (b.ls.map enc))) && iEq (.ofNat (lenN (encTs a.ts))) (.ofNat (lenN (encTs b.ts)))) && (decide (a.ls = b.ls) && sameTs a.ts b.ts)) := by cases a; rw [sameT]; rfl

theorem iEq_nat {a b : Nat} : iEq (.ofNat a) (.ofNat b) = decide (a = b) := by
  show Nat.beq a b = decide (a = b)
  rw [Bool.eq_iff_iff, Nat.beq_eq, decide_eq_true_eq]

noncomputable def f39L : Code := loopN Try.f39 0
noncomputable def f39M : Code := loopN Try.f39 1

theorem f39_ls (R : Run) (k : Nat) (a b : Tm) (S : St) (K : Ex → Env → St → Prop) (hlen : a.ls.length ≤ 9223372036854775807) :
    ∀ (ra rb : List Lv) (j f : Nat), ra.length < f → ra.length = rb.length → (∀ i, ra[i]? = a.ls[j + i]?) → (∀ i, rb[i]? = b.ls[j + i]?) → j + ra.length = a.ls.length →
    (ra = rb → K (.exit 0) { nt := 81, tmps := [(2, .ptr (.loc 2) 0), (3, .ptr (.loc 3) 0), (5, .int .i64 (.ofNat a.ls.length)), (48, .bool false)], locs := [(2, cellsT a), (3, cellsT b)], fix := [] } S) →
    (ra ≠ rb → K .ret { nt := 81, tmps := [(4, .bool false)], locs := [(2, cellsT a), (3, cellsT b)], fix := [] } S) →
    WCode (iter (evalCode Try.cfg R k 39 (Try.cfg.fc 39) f39L) f { nt := 81, tmps := [(2, .ptr (.loc 2) 0), (3, .ptr (.loc 3) 0), (5, .int .i64 (.ofNat j))], locs := [(2, cellsT a), (3, cellsT b)], fix := [] } S) K
  | [], [], j, f + 1, hf, _, hra, hrb, hj, hK, hN => by
    have hjl : j = a.ls.length := by simpa using hj
    subst hjl
    refine WCode.round (nt := 81) (fx := []) ?_
    refine WCmp.no (geLenL (by omega)) ?_
    exact hK rfl
  | x :: ra, y :: rb, j, f + 1, hf, he, hra, hrb, hj, hK, hN => by
    have ha : a.ls[j]? = some x := by have := hra 0; simpa using this.symm
    have hb : b.ls[j]? = some y := by have := hrb 0; simpa using this.symm
    have hjl : j < a.ls.length := (List.getElem?_eq_some_iff.1 ha).1
    refine WCode.round (nt := 81) (fx := []) ?_
    refine WCmp.yes (ltLenL hjl) ?_
    refine WOut.mk _ (index25' ha) ?_
    refine WOut.mk _ (index25' hb) ?_
    refine WOut.mkB (bin24n x y) (fun h => ?_) (fun h => ?_)
    · exact hN (fun e => by cases e; simp at h)
    · have hxy : x = y := by simpa using h
      refine WOut.mk _ (addOne (T := 3) (j := j) (by omega)) ?_
      exact f39_ls R k a b S K hlen ra rb (j + 1) f (by simp only [List.length_cons] at hf; omega) (by simpa using he) (fun i => by have := hra (i + 1); simp only [List.getElem?_cons_succ] at this; rw [this]; congr 1; omega) (fun i => by have := hrb (i + 1); simp only [List.getElem?_cons_succ] at this; rw [this]; congr 1; omega) (by simp only [List.length_cons] at hj; omega)
        (fun e => hK (by rw [e, hxy])) (fun e => hN (fun e2 => e (by cases e2; rfl)))
  | [], _ :: _, j, f + 1, _, he, _, _, _, _, _ => by cases he
  | _ :: _, [], j, f + 1, _, he, _, _, _, _, _ => by cases he

theorem f39_ts (n k : Nat) (a b : Tm) (S : St) (K : Ex → Env → St → Prop) (hlen : a.ts.length < 1000000000)
    (hrec : ∀ y ∈ a.ts, ∀ z S, run Try.cfg n (.f 39) [encA y, encA z] S = some (.bool (sameT y z), S)) :
    ∀ (ra rb : List Tm) (j f : Nat), ra.length < f → ra.length = rb.length → (∀ i, ra[i]? = a.ts[j + i]?) → (∀ i, rb[i]? = b.ts[j + i]?) → j + ra.length = a.ts.length →
    (sameTs ra rb = true → K (.exit 2) { nt := 81, tmps := [(2, .ptr (.loc 2) 0), (3, .ptr (.loc 3) 0), (6, .int .i64 (.ofNat a.ts.length)), (66, .bool false)], locs := [(2, cellsT a), (3, cellsT b)], fix := [] } S) →
    (sameTs ra rb = false → K .ret { nt := 81, tmps := [(4, .bool false)], locs := [(2, cellsT a), (3, cellsT b)], fix := [] } S) →
    WCode (iter (evalCode Try.cfg (run Try.cfg n) k 39 (Try.cfg.fc 39) f39M) f { nt := 81, tmps := [(2, .ptr (.loc 2) 0), (3, .ptr (.loc 3) 0), (6, .int .i64 (.ofNat j))], locs := [(2, cellsT a), (3, cellsT b)], fix := [] } S) K
  | [], [], j, f + 1, hf, _, hra, hrb, hj, hK, hN => by
    have hjl : j = a.ts.length := by simpa using hj
    subst hjl
    refine WCode.round (nt := 81) (fx := []) ?_
    refine WCmp.no (geLen (by omega)) ?_
    exact hK (by rw [sameTs])
  | x :: ra, y :: rb, j, f + 1, hf, he, hra, hrb, hj, hK, hN => by
    have ha : a.ts[j]? = some x := by have := hra 0; simpa using this.symm
    have hb : b.ts[j]? = some y := by have := hrb 0; simpa using this.symm
    have hjl : j < a.ts.length := (List.getElem?_eq_some_iff.1 ha).1
    rw [sameTs] at hK hN
    refine WCode.round (nt := 81) (fx := []) ?_
    refine WCmp.yes (ltLen hjl) ?_
    refine WOut.mk _ (index44 ha) ?_
    refine WOut.mk _ (index44 hb) ?_
    refine WCall.mkB (hrec x (List.mem_of_getElem? ha) y _) (fun h => ?_) (fun h => ?_)
    · rw [h, Bool.true_and] at hK hN
      refine WOut.mk _ (addOne (T := 3) (j := j) (by omega)) ?_
      exact f39_ts n k a b S K hlen hrec ra rb (j + 1) f (by simp only [List.length_cons] at hf; omega) (by simpa using he) (fun i => by have := hra (i + 1); simp only [List.getElem?_cons_succ] at this; rw [this]; congr 1; omega) (fun i => by have := hrb (i + 1); simp only [List.getElem?_cons_succ] at this; rw [this]; congr 1; omega) (by simp only [List.length_cons] at hj; omega) hK hN
    · exact hN (by rw [h]; rfl)
  | [], _ :: _, j, f + 1, _, he, _, _, _, _, _ => by cases he
  | _ :: _, [], j, f + 1, _, he, _, _, _, _, _ => by cases he

theorem r39_ok : ∀ (n : Nat) (a b : Tm) (S : St), Sm a → sizeT a < 1000000000 → wt a < n → run Try.cfg n (.f 39) [encA a, encA b] S = some (.bool (sameT a b), S)
  | 0, a, b, S, _, _, h => by omega
  | n + 1, a, b, S, hsm, hsz, h => by
    have hw := wt_eq a
    have hwl := wts_len a.ts
    have hlen : a.ts.length < 1000000000 := by have := sizeTs_len a.ts; rw [sizeT_eq] at hsz; omega
    have : frame Try.cfg (run Try.cfg n) n 39 [encA a, encA b] St.empty = some (.bool (sameT a b), St.empty) := by
      refine frame_of Try.cfg _ (fn := Try.f39) rfl rfl ?_
      rw [sameT_eq]
      refine WCmp.mk (fun h1 => ?_) (fun h1 => ?_)
      · exact rfB (by simp only [Bool.not_eq_true'] at h1; rw [h1]; rfl)
      simp only [Bool.not_eq_false'] at h1
      rw [h1]
      refine WCmp.mk (fun h2 => ?_) (fun h2 => ?_)
      · exact rfB (by simp only [Bool.not_eq_true'] at h2; rw [h2]; rfl)
      simp only [Bool.not_eq_false'] at h2
      rw [h2]
      refine WOut.mkB strNe (fun h3 => ?_) (fun h3 => ?_)
      · exact rfB (by simp only [Bool.not_eq_true'] at h3; rw [h3]; rfl)
      simp only [Bool.not_eq_false'] at h3
      rw [h3]
      refine WCmp.mk (fun h4 => ?_) (fun h4 => ?_)
      · exact rfB (by simp only [Bool.not_eq_true'] at h4; rw [h4]; rfl)
      simp only [Bool.not_eq_false'] at h4
      rw [h4]
      refine WCmp.mk (fun h5 => ?_) (fun h5 => ?_)
      · exact rfB (by simp only [Bool.not_eq_true'] at h5; rw [h5]; rfl)
      simp only [Bool.not_eq_false'] at h5
      rw [h5]
      rw [iEq_nat, decide_eq_true_eq, lenN_eq, lenN_eq, List.length_map, List.length_map] at h4
      rw [iEq_nat, decide_eq_true_eq, encTs_len, encTs_len] at h5
      refine f39_ls _ n a b _ _ ((Sm_iff a).1 hsm).1.1 a.ls b.ls 0 n (by omega) h4 (fun i => by rw [Nat.zero_add]) (fun i => by rw [Nat.zero_add]) (by rw [Nat.zero_add]) (fun h6 => ?_) (fun h6 => ?_)
      · refine f39_ts n n a b _ _ hlen (fun y hy z S => r39_ok n y z S (((Sm_iff a).1 hsm).2 y hy) (by have := kid_size hy; omega) (by have := wt_kid hy; omega)) a.ts b.ts 0 n (by omega) h5 (fun i => by rw [Nat.zero_add]) (fun i => by rw [Nat.zero_add]) (by rw [Nat.zero_add]) (fun h7 => ?_) (fun h7 => ?_)
        · exact rfB (by simp [h6, h7])
        · exact rfB (by simp [h6, h7])
      · exact rfB (by simp [h6])
    exact run_tm this (by simp only [strips_t, strips_nil]) rfl rfl rfl rfl rfl

theorem sameT_refl (x : Tm) : sameT x x = true := by
  induction x using Tm.ind with
  | h x ih =>
    have : ∀ ts : List Tm, (∀ y ∈ ts, sameT y y = true) → sameTs ts ts = true := by
      intro ts
      induction ts with
      | nil => intro _; rw [sameTs]
      | cons t ts ih2 => intro h; rw [sameTs, h t List.mem_cons_self, ih2 (fun y hy => h y (List.mem_cons_of_mem _ hy))]; rfl
    rw [sameT_eq, this x.ts ih, iEq_nat, iEq_nat]
    simp [iEq_eq]

/-! ### told -/

noncomputable def toldL (t : Tm) (e : Int) (want : Tm) (first : Int) : Bool := bif iEq first 0 && (deepT want || !mayT want) then iEq e 4 && sameT t zTm else bif iEq first 0 then iEq e 0 && sameT t want else iEq e first && sameT t zTm

theorem f57_ok (n : Nat) (t : Tm) (e : Int) (want : Tm) (first : Int) (S : St) (hsm : Sm t) (hsz : sizeT t < 1000000000) (h : wt t < n) (hsm2 : Sm want) (h2 : wt want < n) :
    run Try.cfg (n + 9) (.f 57) [encA t, .int .i64 e, encA want, .int .i64 first] S = some (.bool (toldL t e want first), S) := by
  have hs1 : run Try.cfg (n + 8) (.f 39) [encA t, encA zTm] St.empty = some (.bool (sameT t zTm), St.empty) := r39_ok (n + 8) t zTm _ hsm hsz (by omega)
  have hs2 : run Try.cfg (n + 8) (.f 39) [encA t, encA want] St.empty = some (.bool (sameT t want), St.empty) := r39_ok (n + 8) t want _ hsm hsz (by omega)
  have : frame Try.cfg (run Try.cfg (n + 8)) (n + 8) 57 [encA t, .int .i64 e, encA want, .int .i64 first] St.empty = some (.bool (toldL t e want first), St.empty) := by
    refine frame_of Try.cfg _ (fn := Try.f57) rfl rfl ?_
    unfold toldL
    refine WCmp.mk (fun h0 => ?_) (fun h0 => ?_)
    · rw [h0]
      refine WCall.mkB (r82_ok (n + 7) want _ (by omega)) (fun hd => ?_) (fun hd => ?_)
      · rw [hd]
        refine WCmp.yes rfl ?_
        refine WCmp.mk (fun h1 => ?_) (fun h1 => ?_)
        · refine WCall.mk _ _ hs1 ?_
          exact rfB (by rw [h1]; rfl)
        · exact rfB (by rw [h1]; rfl)
      · rw [hd]
        refine WCall.mkB (r55_ok n want _ hsm2 (by omega)) (fun hm => ?_) (fun hm => ?_)
        · rw [hm]
          refine WCmp.no (by rw [h0]; rfl) ?_
          refine WCmp.mk (fun h1 => ?_) (fun h1 => ?_)
          · refine WCall.mk _ _ hs2 ?_
            exact rfB (by rw [h1]; rfl)
          · exact rfB (by rw [h1]; rfl)
        · rw [hm]
          refine WCmp.yes rfl ?_
          refine WCmp.mk (fun h1 => ?_) (fun h1 => ?_)
          · refine WCall.mk _ _ hs1 ?_
            exact rfB (by rw [h1]; rfl)
          · exact rfB (by rw [h1]; rfl)
    · rw [h0]
      refine WCmp.yes (by rw [h0]; rfl) ?_
      refine WCmp.mk (fun h1 => ?_) (fun h1 => ?_)
      · refine WCall.mk _ _ hs1 ?_
        exact rfB (by rw [h1]; rfl)
      · exact rfB (by rw [h1]; rfl)
  exact run_tm this (by simp only [strips_t, strips_i, strips_nil]) rfl rfl rfl rfl rfl

/-! ### few -/

noncomputable def fewT (t : Tm) (l : List Tm) : Bool := !deepT t && !iLt 10 (.ofNat (lenN (encTs l))) && l.all (fun x => !deepT x)

noncomputable def f52L : Code := loopN Try.f52 0

theorem f52_by (n k : Nat) (t : Tm) (l : List Tm) (c d : Bool) (hlen : l.length < 1000000000) (S : St) (K : Ex → Env → St → Prop) (hw : ∀ x ∈ l, wt x < n) :
    ∀ (rem : List Tm) (j f : Nat) (o : Option Int), rem.length < f → (∀ i, rem[i]? = l[j + i]?) → j + rem.length = l.length →
    (rem.all (fun x => !deepT x) = true → K (.exit 0) { nt := 24, tmps := [(1, .list (szOf c l) (tkOf d) 0 (encTs l)), (5, .int .i64 (.ofNat l.length)), (16, .bool false)], locs := [(2, cellsT t)], fix := [] } S) →
    (rem.all (fun x => !deepT x) = false → K .ret { nt := 24, tmps := [(4, .bool false)], locs := [(2, cellsT t)], fix := [] } S) →
    WCode (iter (evalCode Try.cfg (run Try.cfg (n + 1)) k 52 (Try.cfg.fc 52) f52L) f { nt := 24, tmps := [(1, .list (szOf c l) (tkOf d) 0 (encTs l)), (5, .int .i64 (.ofNat j))], locs := [(2, cellsT t)], fix := [] } S) K
  | [], j, f + 1, o, hf, hr, hj, hK, hY => by
    have hjl : j = l.length := by simpa using hj
    subst hjl
    refine WCode.round (nt := 24) (fx := []) ?_
    refine WCmp.no (geLen (by omega)) ?_
    exact hK rfl
  | y :: rem, j, f + 1, o, hf, hr, hj, hK, hY => by
    have hb : l[j]? = some y := by have := hr 0; simpa using this.symm
    have hjl : j < l.length := (List.getElem?_eq_some_iff.1 hb).1
    refine WCode.round (nt := 24) (fx := []) ?_
    refine WCmp.yes (ltLen hjl) ?_
    refine WOut.mk _ (index44 hb) ?_
    refine WCall.mkB (r82_ok n y _ (hw y (List.mem_of_getElem? hb))) (fun h => ?_) (fun h => ?_)
    · exact hY (by simp only [List.all_cons, h]; rfl)
    · refine WOut.mk _ (addOne (T := 3) (j := j) (by omega)) ?_
      exact f52_by n k t l c d hlen S K hw rem (j + 1) f none (by simp only [List.length_cons] at hf; omega) (fun i => by have := hr (i + 1); simp only [List.getElem?_cons_succ] at this; rw [this]; congr 1; omega) (by simp only [List.length_cons] at hj; omega) (fun h2 => hK (by simp only [List.all_cons, h, h2]; rfl)) (fun h2 => hY (by simp only [List.all_cons, h, h2]; rfl))

theorem f52_ok (n : Nat) (t : Tm) (l : List Tm) (c d : Bool) (S : St) (ht : wt t < n) (hl : wts l < n) : run Try.cfg (n + 2) (.f 52) [encA t, .list (szOf c l) (tkOf d) 0 (encTs l)] S = some (.bool (fewT t l), S) := by
  have : frame Try.cfg (run Try.cfg (n + 1)) (n + 1) 52 [encA t, .list (szOf c l) (tkOf d) 0 (encTs l)] St.empty = some (.bool (fewT t l), St.empty) := by
    refine frame_of Try.cfg _ (fn := Try.f52) rfl rfl ?_
    unfold fewT
    refine WCall.mkB (r82_ok n t _ ht) (fun hd => ?_) (fun hd => ?_)
    · rw [hd]; rfl
    · rw [hd]
      refine WCmp.mk (fun h1 => ?_) (fun h1 => ?_)
      · exact rfB (by rw [h1]; rfl)
      · have hlen : l.length ≤ 10 := by
          have h1' : Nat.blt 10 (lenN (encTs l)) = false := h1
          rw [encTs_len] at h1'
          by_cases h : l.length ≤ 10
          · exact h
          · rw [blt_yes (by omega)] at h1'; cases h1'
        have hwl := wts_len l
        refine f52_by n (n + 1) t l c d (by omega) _ _ (fun x hx => by have := wts_mem hx; omega) l 0 (n + 1) none (by omega) (fun i => by rw [Nat.zero_add]) (by rw [Nat.zero_add]) (fun h2 => ?_) (fun h2 => ?_)
        · exact rfB (by rw [h1, h2]; rfl)
        · exact rfB (by rw [h1, h2]; rfl)
  exact run_tm this (by simp only [strips_t, strips_ts, strips_nil]) rfl rfl rfl rfl rfl

/-! ### works() -/

theorem f36_frame (n : Nat) : frame Try.cfg (run Try.cfg (n + 20)) (n + 20) 36 [] St.empty = some (.bool true, St.empty) := by kernel_rfl
theorem f36_ok (n : Nat) (S : St) : run Try.cfg (n + 21) (.f 36) [] S = some (.bool true, S) := run_val (f36_frame n) rfl rfl rfl rfl rfl

end Go.Ev

/- Terms: what the functions give, in plain terms (own work). -/
namespace Go.Ev
open Go.Proofs
set_option maxRecDepth 100000
set_option linter.unusedSimpArgs false
set_option linter.unusedVariables false

/-! ### scans -/

theorem scanTs_mem {p : Tm → Bool} {d : Nat} : ∀ {ts : List Tm} {l r : Nat}, scanTs p ts l d = some r → ∀ y ∈ ts, ∃ l' r', scanT p y l' d = some r'
  | [], l, r, _, y, hy => by cases hy
  | t :: ts, l, r, h, y, hy => by
    rw [scanTs_cons] at h
    split at h
    · rename_i l' h1
      cases hy with
      | head => exact ⟨_, _, h1⟩
      | tail _ hy => exact scanTs_mem h y hy
    · cases h

theorem scanT_some {p : Tm → Bool} {x : Tm} {l d r : Nat} (h : scanT p x l d = some r) : ∃ l' d', l = l' + 1 ∧ d = d' + 1 ∧ p x = true ∧ scanTs p x.ts l' d' = some r := by
  rw [scanT_eq] at h
  split at h
  · rename_i l' d'
    split at h
    · rename_i hp; exact ⟨l', d', rfl, rfl, hp, h⟩
    · cases h
  · cases h

theorem scan_ind {p : Tm → Bool} {P : Tm → Nat → Prop} (h : ∀ x d, p x = true → (∀ y ∈ x.ts, P y d) → P x (d + 1)) (x : Tm) : ∀ {l d r : Nat}, scanT p x l d = some r → P x d := by
  induction x using Tm.ind with
  | h x ih =>
    intro l d r hs
    obtain ⟨l', d', rfl, rfl, hp, hts⟩ := scanT_some hs
    refine h x d' hp (fun y hy => ?_)
    obtain ⟨l2, r2, h2⟩ := scanTs_mem hts y hy
    exact ih y hy h2

theorem scan_size {p : Tm → Bool} (x : Tm) : ∀ {l d r : Nat}, scanT p x l d = some r → r + sizeT x = l := by
  induction x using Tm.ind with
  | h x ih =>
    intro l d r hs
    obtain ⟨l', d', rfl, rfl, hp, hts⟩ := scanT_some hs
    have key : ∀ (ts : List Tm), (∀ y ∈ ts, y ∈ x.ts) → ∀ {l r}, scanTs p ts l d' = some r → r + sizeTs ts = l := by
      intro ts
      induction ts with
      | nil => intro _ l r h; rw [scanTs] at h; cases h; rw [sizeTs]; rfl
      | cons t ts ih2 =>
        intro hm l r h
        rw [scanTs_cons] at h
        split at h
        · rename_i l1 h1
          have := ih t (hm t List.mem_cons_self) h1
          have := ih2 (fun y hy => hm y (List.mem_cons_of_mem _ hy)) h
          rw [sizeTs_cons]
          omega
        · cases h
    have := key x.ts (fun _ h => h) hts
    rw [sizeT_eq]
    omega

theorem scan_mono {p q : Tm → Bool} (hpq : ∀ x, p x = true → q x = true) (x : Tm) : ∀ {l d r l2 d2 : Nat}, scanT p x l d = some r → l ≤ l2 → d ≤ d2 → scanT q x l2 d2 = some (r + (l2 - l)) := by
  induction x using Tm.ind with
  | h x ih =>
    intro l d r l2 d2 hs hl hd
    obtain ⟨l', d', rfl, rfl, hp, hts⟩ := scanT_some hs
    obtain ⟨m, rfl⟩ : ∃ m, l2 = m + 1 := ⟨l2 - 1, by omega⟩
    obtain ⟨e, rfl⟩ : ∃ e, d2 = e + 1 := ⟨d2 - 1, by omega⟩
    rw [scanT_eq]
    simp only
    rw [hpq x hp]
    simp only
    have key : ∀ (ts : List Tm), (∀ y ∈ ts, y ∈ x.ts) → ∀ {l r l2}, scanTs p ts l d' = some r → l ≤ l2 → scanTs q ts l2 e = some (r + (l2 - l)) := by
      intro ts
      induction ts with
      | nil => intro _ l r l2 h hl; rw [scanTs] at h ⊢; cases h; congr 1; omega
      | cons t ts ih2 =>
        intro hm l r l2 h hl
        rw [scanTs_cons] at h ⊢
        split at h
        · rename_i l1 h1
          have h3 := scan_le _ _ h1
          have h4 := ih t (hm t List.mem_cons_self) h1 hl (by omega : d' ≤ e)
          have h5 := ih2 (fun y hy => hm y (List.mem_cons_of_mem _ hy)) h (by omega : l1 ≤ l1 + (l2 - l))
          rw [h4]
          simp only
          rw [h5]
          congr 1
          omega
        · cases h
    have := key x.ts (fun _ h => h) hts (by omega : l' ≤ m)
    rw [this]
    congr 1
    omega

theorem may_some {x : Tm} (h : mayT x = true) : ∃ r, scanT nodeT x 65536 4096 = some r := by
  unfold mayT at h
  exact Option.isSome_iff_exists.1 h

theorem ble_len {a b : Nat} (h : a ≤ b) : Nat.ble a b = true := Nat.ble_eq_true_of_le h

theorem node_few {x : Tm} (h : nodeT x = true) : few20 x = true := by
  unfold nodeT at h
  simp only [Bool.and_eq_true] at h
  have h1 := h.2.2
  unfold lvOk at h1
  unfold few20
  have e : ∀ m : Nat, iEq (.ofNat (lenN (x.ls.map enc))) (.ofNat m) = true → x.ls.length = m := fun m hm => by
    rw [iEq_nat, lenN_eq, List.length_map, decide_eq_true_eq] at hm; exact hm
  refine ble_len ?_
  cases h2 : iEq x.k 1 with
  | true => rw [h2] at h1; have := e 1 h1; omega
  | false =>
    rw [h2] at h1
    cases h3 : iEq x.k 3 with
    | true =>
      rw [h3] at h1
      have h4 : Nat.blt 4 (lenN (x.ls.map enc)) = false := by
        have h5 : (!Nat.blt 4 (lenN (x.ls.map enc))) = true := h1
        simpa using h5
      rw [lenN_eq, List.length_map] at h4
      by_cases h6 : 4 < x.ls.length
      · rw [blt_yes h6] at h4; cases h4
      · omega
    | false => rw [h3] at h1; have := e 0 h1; omega

theorem may_deep {x : Tm} (h : mayT x = true) : deepT x = false := by
  obtain ⟨r, hr⟩ := may_some h
  have := scan_mono (q := few20) (fun x h => node_few h) x hr (by omega : 65536 ≤ 131072) (by omega : 4096 ≤ 8192)
  unfold deepT
  rw [this]
  rfl

theorem may_size {x : Tm} (h : mayT x = true) : sizeT x ≤ 65536 := by
  obtain ⟨r, hr⟩ := may_some h
  have := scan_size x hr
  omega

theorem deep_size {x : Tm} (h : deepT x = false) : sizeT x ≤ 131072 := by
  unfold deepT at h
  cases hs : scanT few20 x 131072 8192 with
  | none => rw [hs] at h; cases h
  | some r => have := scan_size x hs; omega

/-! ### what walks keep -/

def Keeps (x y : Tm) : Prop := wt y = wt x ∧ (Sm x → Sm y) ∧ sizeT y = sizeT x

theorem Keeps.refl (x : Tm) : Keeps x x := ⟨rfl, id, rfl⟩

theorem keeps_withN (x : Tm) (n : Int) : Keeps x (x.withN n) := by
  cases x
  refine ⟨?_, ?_, ?_⟩
  · rw [wt_eq, wt_eq]; rfl
  · intro h; rw [Sm_iff] at h ⊢; exact h
  · rw [sizeT_eq, sizeT_eq]; rfl

theorem walk_keeps {σ : Type} {step : σ → Tm → Int → Tm × σ} (hs : ∀ s x a, Keeps x (step s x a).1) (x : Tm) : ∀ s a, Keeps x (walkG step x s a).1 := by
  induction x using Tm.ind with
  | h x ih =>
    intro s a
    rw [walkG_eq]
    cases h2 : iEq x.k 2 with
    | true => exact hs s x a
    | false =>
      have key : ∀ (ts : List Tm), (∀ y ∈ ts, y ∈ x.ts) → ∀ i s, wts (walkGs step x.k ts i s a).1 = wts ts ∧ ((∀ y ∈ ts, Sm y) → ∀ y ∈ (walkGs step x.k ts i s a).1, Sm y) ∧ sizeTs (walkGs step x.k ts i s a).1 = sizeTs ts := by
        intro ts
        induction ts with
        | nil => intro _ i s; rw [walkGs]; exact ⟨rfl, fun h => h, rfl⟩
        | cons t ts ih2 =>
          intro hm i s
          rw [walkGs]
          obtain ⟨a1, a2, a3⟩ := ih t (hm t List.mem_cons_self) s (addW a (bindsF x.k (.ofNat i)))
          obtain ⟨b1, b2, b3⟩ := ih2 (fun y hy => hm y (List.mem_cons_of_mem _ hy)) (i + 1) (walkG step t s (addW a (bindsF x.k (.ofNat i)))).2
          refine ⟨?_, ?_, ?_⟩
          · rw [wts, wts, a1, b1]
          · intro h y hy
            cases hy with
            | head => exact a2 (h t List.mem_cons_self)
            | tail _ hy => exact b2 (fun z hz => h z (List.mem_cons_of_mem _ hz)) y hy
          · rw [sizeTs_cons, sizeTs_cons, a3, b3]
      obtain ⟨k1, k2, k3⟩ := key x.ts (fun _ h => h) 0 s
      show Keeps x (x.withT _)
      refine ⟨?_, ?_, ?_⟩
      · rw [wt_eq, wt_eq x]; show 1 + x.s.length + x.ls.length + wts (walkGs step x.k x.ts 0 s a).1 = _; rw [k1]
      · intro h
        rw [Sm_iff] at h ⊢
        exact ⟨h.1, k2 h.2⟩
      · rw [sizeT_eq, sizeT_eq x]; show 1 + sizeTs (walkGs step x.k x.ts 0 s a).1 = _; rw [k3]

theorem lift_keeps (x : Tm) (a b : Int) : Keeps x (liftT x a b) := walk_keeps (fun s x a => by
  unfold liftStep
  cases (!iLt x.n a) with
  | true => exact keeps_withN x _
  | false => exact Keeps.refl x) x () a

theorem close_keeps (x : Tm) (kk : Int) : Keeps x (closeT x kk) := walk_keeps (fun s x a => by
  unfold closeStep
  cases iEq (subW x.n a) kk with
  | true => exact keeps_withN x _
  | false =>
    cases (!iLt (subW x.n a) 0 && iLt (subW x.n a) kk) with
    | true => exact keeps_withN x _
    | false => exact Keeps.refl x) x () 0

theorem bindsF_01 (k i : Int) : bindsF k i = 0 ∨ bindsF k i = 1 := by
  unfold bindsF
  cases ((iEq k 5 || iEq k 6) && iEq i 1) <;> cases (iEq k 7 && iEq i 2) <;> simp

theorem wrap_in {z : Int} (h : -9223372036854775808 ≤ z) (h2 : z ≤ 9223372036854775807) : wrapI .i64 z = z := by
  cases z with
  | ofNat m => exact wrapI_id (by simp) h2
  | negSucc m =>
    show (bif Nat.ble m 9223372036854775807 then Int.negSucc m else _) = _
    rw [show Nat.ble m 9223372036854775807 = true from ble_len (by omega)]
    rfl

theorem addW_eq {a b : Int} (h : -9223372036854775808 ≤ a + b) (h2 : a + b ≤ 9223372036854775807) : addW a b = a + b := wrap_in h h2
theorem subW_eq {a b : Int} (h : -9223372036854775808 ≤ a - b) (h2 : a - b ≤ 9223372036854775807) : subW a b = a - b := wrap_in h h2

/-- The same walk, where what is done is the same. -/
theorem walk_congr {σ : Type} {f g : σ → Tm → Int → Tm × σ} {B : Int} (hB : B ≤ 9223372036854775807) (hfg : ∀ s v a, iEq v.k 2 = true → nodeT v = true → 0 ≤ a → a ≤ B → f s v a = g s v a) (x : Tm) {l d r : Nat} (h : scanT nodeT x l d = some r) :
    ∀ (s : σ) (a : Int), 0 ≤ a → a + d ≤ B → walkG f x s a = walkG g x s a := by
  refine scan_ind (P := fun x d => ∀ (s : σ) (a : Int), 0 ≤ a → a + d ≤ B → walkG f x s a = walkG g x s a) (fun x d hp ih s a h0 hd => ?_) x h
  rw [walkG_eq, walkG_eq]
  cases h2 : iEq x.k 2 with
  | true => exact hfg s x a h2 hp h0 (by omega)
  | false =>
    have key : ∀ (ts : List Tm), (∀ y ∈ ts, y ∈ x.ts) → ∀ i s, walkGs f x.k ts i s a = walkGs g x.k ts i s a := by
      intro ts
      induction ts with
      | nil => intro _ i s; rw [walkGs, walkGs]
      | cons t ts ih2 =>
        intro hm i s
        have hb := bindsF_01 x.k (.ofNat i)
        have e : addW a (bindsF x.k (.ofNat i)) = a + bindsF x.k (.ofNat i) := addW_eq (by rcases hb with h | h <;> omega) (by rcases hb with h | h <;> omega)
        rw [walkGs, walkGs, ih t (hm t List.mem_cons_self) s _ (by rw [e]; rcases hb with h | h <;> omega) (by rw [e]; rcases hb with h | h <;> omega)]
        rw [ih2 (fun y hy => hm y (List.mem_cons_of_mem _ hy))]
    rw [key x.ts (fun _ h => h) 0 s]
    rfl

theorem node_var {x : Tm} (h : nodeT x = true) (h2 : iEq x.k 2 = true) : 0 ≤ x.n ∧ x.n ≤ 1048576 := by
  unfold nodeT at h
  simp only [Bool.and_eq_true] at h
  have h1 := h.2.1.2
  unfold nuOk at h1
  rw [h2] at h1
  simp only [cond_true, Bool.and_eq_true, Bool.not_eq_true', iLt_not] at h1
  exact h1

/-! ### held -/

theorem held_eq {by_ : Int} (hb : -2147483648 ≤ by_) (hb2 : by_ ≤ 2147483648) (x : Tm) {l d r : Nat} (h : scanT nodeT x l d = some r) :
    ∀ (s : Bool) (a : Int), 0 ≤ a → a + d ≤ 2147483648 → (walkG (heldStep by_) x s a).2 = (s || btwT x a (a - by_)) := by
  refine scan_ind (P := fun x d => ∀ (s : Bool) (a : Int), 0 ≤ a → a + d ≤ 2147483648 → (walkG (heldStep by_) x s a).2 = (s || btwT x a (a - by_))) (fun x d hp ih s a h0 hd => ?_) x h
  rw [walkG_eq, btwT_eq]
  cases h2 : iEq x.k 2 with
  | true =>
    show (s || (!iLt x.n a && iLt x.n (subW a by_))) = _
    rw [subW_eq (by omega) (by omega)]
    rfl
  | false =>
    show (walkGs (heldStep by_) x.k x.ts 0 s a).2 = (s || btwTs x.k x.ts 0 a (a - by_))
    have key : ∀ (ts : List Tm), (∀ y ∈ ts, y ∈ x.ts) → ∀ i s, (walkGs (heldStep by_) x.k ts i s a).2 = (s || btwTs x.k ts i a (a - by_)) := by
      intro ts
      induction ts with
      | nil => intro _ i s; rw [walkGs, btwTs]; simp
      | cons t ts ih2 =>
        intro hm i s
        have hb := bindsF_01 x.k (.ofNat i)
        have e : addW a (bindsF x.k (.ofNat i)) = a + bindsF x.k (.ofNat i) := addW_eq (by rcases hb with h | h <;> omega) (by rcases hb with h | h <;> omega)
        have e2 : addW (a - by_) (bindsF x.k (.ofNat i)) = a + bindsF x.k (.ofNat i) - by_ := by rw [addW_eq (by rcases hb with h | h <;> omega) (by rcases hb with h | h <;> omega)]; omega
        rw [walkGs, btwTs_cons, ih2 (fun y hy => hm y (List.mem_cons_of_mem _ hy)), e, e2, ih t (hm t List.mem_cons_self) s _ (by rcases hb with h | h <;> omega) (by rcases hb with h | h <;> omega), Bool.or_assoc]
    exact key x.ts (fun _ h => h) 0 s

theorem btw_none (x : Tm) : ∀ (lo hi : Int) (d : Nat) (l r : Nat), scanT nodeT x l d = some r → hi ≤ lo → -4294967296 ≤ hi → lo + d ≤ 4294967296 → btwT x lo hi = false := by
  intro lo hi d l r h
  revert lo hi
  refine scan_ind (P := fun x d => ∀ (lo hi : Int), hi ≤ lo → -4294967296 ≤ hi → lo + d ≤ 4294967296 → btwT x lo hi = false) (fun x d hp ih lo hi h0 h1 hd => ?_) x h
  rw [btwT_eq]
  cases h2 : iEq x.k 2 with
  | true =>
    show (!iLt x.n lo && iLt x.n hi) = false
    cases h3 : iLt x.n lo with
    | true => rfl
    | false =>
      rw [iLt_not] at h3
      show iLt x.n hi = false
      rw [iLt_not]
      omega
  | false =>
    show btwTs x.k x.ts 0 lo hi = false
    have key : ∀ (ts : List Tm), (∀ y ∈ ts, y ∈ x.ts) → ∀ i, btwTs x.k ts i lo hi = false := by
      intro ts
      induction ts with
      | nil => intro _ i; rw [btwTs]
      | cons t ts ih2 =>
        intro hm i
        have hb := bindsF_01 x.k (.ofNat i)
        rw [btwTs_cons, ih2 (fun y hy => hm y (List.mem_cons_of_mem _ hy)), addW_eq (by rcases hb with h | h <;> omega) (by rcases hb with h | h <;> omega), addW_eq (by rcases hb with h | h <;> omega) (by rcases hb with h | h <;> omega), ih t (hm t List.mem_cons_self) _ _ (by omega) (by rcases hb with h | h <;> omega) (by rcases hb with h | h <;> omega)]
        rfl
    exact key x.ts (fun _ h => h) 0

/-! ### Close -/

theorem close_eq {x : Tm} (hm : mayT x = true) {kk : Int} (hk : 0 ≤ kk) (hk2 : kk ≤ 9223372036854775807) : (walkG (closeR (if (2097152 : Int) < kk then 2097152 else kk)) x () 0).1 = closeT x kk := by
  obtain ⟨r, hr⟩ := may_some hm
  unfold closeT
  rw [walk_congr (B := 1048576) (f := closeR (if (2097152 : Int) < kk then 2097152 else kk)) (g := closeStep kk) (by omega) (fun s v a h2 hp h0 hb => ?_) x hr () 0 (by omega) (by omega)]
  obtain ⟨n0, n1⟩ := node_var hp h2
  unfold closeR closeStep
  have e1 : subW v.n a = v.n - a := subW_eq (by omega) (by omega)
  have e2 : addW (if (2097152 : Int) < kk then 2097152 else kk) a = (if (2097152 : Int) < kk then 2097152 else kk) + a := addW_eq (by split <;> omega) (by split <;> omega)
  rw [e1, e2]
  have c1 : iEq v.n ((if (2097152 : Int) < kk then 2097152 else kk) + a) = iEq (v.n - a) kk := by
    rw [iEq_eq, iEq_eq]
    congr 1
    apply propext
    split <;> constructor <;> intro h <;> omega
  have c2 : iLt v.n a = iLt (v.n - a) 0 := by
    rw [iLt_eq, iLt_eq]
    congr 1
    apply propext
    constructor <;> intro h <;> omega
  rw [c1, c2]
  cases h4 : iLt (v.n - a) 0 with
  | true => rfl
  | false =>
    rw [iLt_not] at h4
    have c3 : iLt v.n ((if (2097152 : Int) < kk then 2097152 else kk) + a) = iLt (v.n - a) kk := by
      rw [iLt_eq, iLt_eq]
      congr 1
      apply propext
      split <;> constructor <;> intro h <;> omega
    rw [c3]

end Go.Ev

/- Terms: what the arguments of the laws are (own work). -/
namespace Go.Ev
open Go.Proofs Go.RowKit
set_option maxRecDepth 100000
set_option linter.unusedSimpArgs false
set_option linter.unusedVariables false

theorem shp_str {n t : Nat} {cs : List V} (hu : Try.prog.underlying t = some .string) (h : Shp Try.prog n t cs) : ∃ s : List UInt8, cs = [.str s] ∧ s.length ≤ maxLen := by
  cases n with
  | zero => exact h.elim
  | succ n => rw [Shp, hu] at h; exact h

theorem shp_slice {n t e : Nat} {cs : List V} (hu : Try.prog.underlying t = some (.slice e)) (h : Shp Try.prog n t cs) : ∃ m rows, n = m + 1 ∧ cs = [.list (Try.prog.cellsOf e) .no 0 rows] ∧ rows.length ≤ maxLen ∧ ∀ r ∈ rows, ∃ cs, r = .agg cs ∧ Shp Try.prog m e cs := by
  cases n with
  | zero => exact h.elim
  | succ n =>
    rw [Shp, hu] at h
    obtain ⟨rows, h1, h2, h3⟩ := h
    exact ⟨n, rows, rfl, h1, h2, h3⟩

theorem rows_lv {m : Nat} : ∀ {rows : List V}, (∀ r ∈ rows, ∃ cs, r = .agg cs ∧ Shp Try.prog m 24 cs) → ∃ bys : List Lv, rows = bys.map enc
  | [], _ => ⟨[], rfl⟩
  | r :: rows, h => by
    obtain ⟨bys, e⟩ := rows_lv (fun r hr => h r (List.mem_cons_of_mem _ hr))
    obtain ⟨cs, e1, h1⟩ := h r List.mem_cons_self
    obtain ⟨l, e2⟩ := shp24 h1
    exact ⟨l :: bys, by rw [e, e1, e2]; rfl⟩

theorem rows_tm {m : Nat} (hm : ∀ cs, Shp Try.prog m 46 cs → ∃ t : Tm, cs = cellsT t ∧ Sm t) : ∀ {rows : List V}, (∀ r ∈ rows, ∃ cs, r = .agg cs ∧ Shp Try.prog m 46 cs) → ∃ ts : List Tm, rows = encTs ts ∧ ∀ t ∈ ts, Sm t
  | [], _ => ⟨[], (by rw [encTs]), (fun t ht => by cases ht)⟩
  | r :: rows, h => by
    obtain ⟨ts, e, hs⟩ := rows_tm hm (fun r hr => h r (List.mem_cons_of_mem _ hr))
    obtain ⟨cs, e1, h1⟩ := h r List.mem_cons_self
    obtain ⟨t, e2, h2⟩ := hm cs h1
    refine ⟨t :: ts, by rw [encTs, encT_eq, e, e1, e2], fun u hu => ?_⟩
    cases hu with
    | head => exact h2
    | tail _ hu => exact hs u hu

theorem szOf_true {α : Type} (l : List α) : szOf true l = 5 := by cases l <;> rfl

theorem shp46 : ∀ (n : Nat) (cs : List V), Shp Try.prog n 46 cs → ∃ t : Tm, cs = cellsT t ∧ Sm t := by
  intro n
  induction n using Nat.strongRecOn with
  | ind n ih =>
    intro cs h
    cases n with
    | zero => exact h.elim
    | succ n =>
      rw [Shp, Try.underlying46] at h
      obtain ⟨c1, d, rfl, h1, h⟩ := h
      obtain ⟨c2, d, rfl, h2, h⟩ := h
      obtain ⟨c3, d, rfl, h3, h⟩ := h
      obtain ⟨c4, d, rfl, h4, h⟩ := h
      obtain ⟨c5, d, rfl, h5, h⟩ := h
      obtain rfl : d = [] := h
      obtain ⟨k, rfl, _⟩ := shp_int Try.underlying5 h1
      obtain ⟨z, rfl, _⟩ := shp_int Try.underlying3 h2
      obtain ⟨s, rfl, hs⟩ := shp_str Try.underlying9 h3
      obtain ⟨m1, r1, _, rfl, hl1, hr1⟩ := shp_slice Try.underlying25 h4
      obtain ⟨m2, r2, hm2, rfl, hl2, hr2⟩ := shp_slice Try.underlying44 h5
      obtain ⟨ls, rfl⟩ := rows_lv hr1
      obtain ⟨ts, rfl, hts⟩ := rows_tm (fun cs hc => ih m2 (by omega) cs hc) hr2
      have e24 : Try.prog.cellsOf 24 = 5 := by kernel_rfl
      have e46 : Try.prog.cellsOf 46 = 5 := by kernel_rfl
      have hml : maxLen = 9223372036854775807 := by decide
      refine ⟨.mk k z s true false true false ls ts, ?_, ?_⟩
      · show _ = [V.int .u8 k, .int .i64 z, .str s, .list (szOf true ls) (tkOf false) 0 (ls.map enc), .list (szOf true ts) (tkOf false) 0 (encTs ts)]
        rw [szOf_true, szOf_true, e24, e46]
        rfl
      · rw [Sm_iff]
        refine ⟨⟨?_, ?_⟩, hts⟩
        · show ls.length ≤ _
          rw [List.length_map] at hl1
          omega
        · show s.length ≤ _
          omega

theorem arg46 {ts : List Nat} {us : List V} (h : Args Try.prog (46 :: ts) us) : ∃ (t : Tm) (rest : List V), us = encA t :: rest ∧ Sm t ∧ Args Try.prog ts rest := by
  obtain ⟨v, rest, n, c, rfl, h1, h2, h3⟩ := args_cons h
  obtain ⟨t, rfl, hs⟩ := shp46 n c h1
  rcases h2 with ⟨_, rfl⟩ | ⟨hh, _⟩
  · exact ⟨t, rest, rfl, hs, h3⟩
  · rw [show isAggT Try.prog 46 = true by kernel_rfl] at hh; cases hh

theorem arg44 {ts : List Nat} {us : List V} (h : Args Try.prog (44 :: ts) us) : ∃ (l : List Tm) (rest : List V), us = .list (szOf true l) (tkOf false) 0 (encTs l) :: rest ∧ (∀ t ∈ l, Sm t) ∧ Args Try.prog ts rest := by
  obtain ⟨v, rest, n, c, rfl, h1, h2, h3⟩ := args_cons h
  obtain ⟨m, r, _, rfl, hl, hr⟩ := shp_slice Try.underlying44 h1
  obtain ⟨l, rfl, hs⟩ := rows_tm (shp46 m) hr
  have e46 : Try.prog.cellsOf 46 = 5 := by kernel_rfl
  rcases h2 with ⟨hh, _⟩ | ⟨_, hh⟩
  · rw [show isAggT Try.prog 44 = false by kernel_rfl] at hh; cases hh
  · cases hh; exact ⟨l, rest, by rw [szOf_true, e46]; rfl, hs, h3⟩

theorem arg3b {ts : List Nat} {us : List V} (h : Args Try.prog (3 :: ts) us) : ∃ (z : Int) (rest : List V), us = .int .i64 z :: rest ∧ (-9223372036854775808 ≤ z ∧ z ≤ 9223372036854775807) ∧ Args Try.prog ts rest := by
  obtain ⟨v, rest, n, c, rfl, h1, h2, h3⟩ := args_cons h
  obtain ⟨l, rfl, hw⟩ := shp_int Try.underlying3 h1
  have hw' : (decide (IntKind.i64.min ≤ l) && decide (l ≤ IntKind.i64.max)) = true := hw
  simp only [Bool.and_eq_true, decide_eq_true_eq] at hw'
  have hmin : IntKind.i64.min = -9223372036854775808 := by decide
  have hmax : IntKind.i64.max = 9223372036854775807 := by decide
  rcases h2 with ⟨hh, _⟩ | ⟨_, hh⟩
  · rw [show isAggT Try.prog 3 = false by kernel_rfl] at hh; cases hh
  · cases hh; exact ⟨l, rest, rfl, by omega, h3⟩

end Go.Ev

/- Terms: SubstLifts, walked and proved (own work). -/
namespace Go.Ev
open Go.Proofs Go.RowKit
set_option maxRecDepth 100000
set_option linter.unusedSimpArgs false
set_option linter.unusedVariables false

theorem Sm_zTm : Sm zTm := by
  rw [Sm_iff]
  exact ⟨⟨by show 0 ≤ _; omega, by show 0 ≤ _; omega⟩, fun y hy => by cases hy⟩
theorem wt_zTm : wt zTm = 1 := by rw [wt_eq]; show 1 + 0 + 0 + wts [] = 1; rw [wts]
theorem size_zTm : sizeT zTm = 1 := by rw [sizeT_eq]; show 1 + sizeTs [] = 1; rw [sizeTs]

/-- What is answered: the term, or none. -/
def OneOf (r : Tm × Int) (x : Tm) : Prop := r.1 = x ∨ r.1 = zTm

theorem OneOf.facts {r : Tm × Int} {x : Tm} (h : OneOf r x) {n : Nat} (hsm : Sm x) (hsz : sizeT x < 1000000000) (hw : wt x < n) (hn : 1 < n) : Sm r.1 ∧ sizeT r.1 < 1000000000 ∧ wt r.1 < n := by
  rcases h with h | h
  · rw [h]; exact ⟨hsm, hsz, hw⟩
  · rw [h]; exact ⟨Sm_zTm, by rw [size_zTm]; omega, by rw [wt_zTm]; exact hn⟩

theorem toldT_one (x : Tm) : OneOf (toldT x) x := by
  unfold toldT
  cases mayT x with
  | true => exact .inl rfl
  | false => exact .inr rfl

theorem liftM_one (x : Tm) (a b : Int) : OneOf (liftM x a b) (liftT x a b) := by
  unfold liftM
  cases (iLt a 0 || !mayT x) with
  | true => exact .inr rfl
  | false =>
    cases (walkG (heldStep b) x false a).2 with
    | true => exact .inr rfl
    | false => exact toldT_one _

theorem closeM_one (x : Tm) (a : Int) : OneOf (closeM x a) (closeT x a) := by
  unfold closeM
  cases (iLt a 0 || !mayT x) with
  | true => exact .inr rfl
  | false => exact toldT_one _

theorem liftsL_one (x : Tm) (a b : Int) : OneOf (liftsL x a b) (liftT x a b) := by
  unfold liftsL
  cases (!mayT x || iLt a 0) with
  | true => exact .inr rfl
  | false =>
    cases (iLt b 0 && btwT x a (subW a b)) with
    | true => exact .inr rfl
    | false => exact .inl rfl

theorem told_err (e : Int) (he : iEq e 0 = false) : toldL zTm e zTm e = true := by
  unfold toldL
  rw [he]
  show (iEq e e && sameT zTm zTm) = true
  rw [sameT_refl, iEq_eq]
  simp

/-- What may be is answered, what may not is none. -/
theorem told_ok (x : Tm) : toldL (toldT x).1 (toldT x).2 x 0 = true := by
  unfold toldL toldT
  cases hm : mayT x with
  | true =>
    rw [may_deep hm]
    show (iEq 0 0 && sameT x x) = true
    rw [sameT_refl]
    rfl
  | false =>
    cases deepT x with
    | true => show (iEq 4 4 && sameT zTm zTm) = true; rw [sameT_refl]; rfl
    | false => show (iEq 4 4 && sameT zTm zTm) = true; rw [sameT_refl]; rfl

theorem lift_told (x : Tm) (a b : Int) (ha : a ≤ 1073741824) (hb : -1073741824 ≤ b) (hb2 : b ≤ 1073741824) : toldL (liftM x a b).1 (liftM x a b).2 (liftsL x a b).1 (liftsL x a b).2 = true := by
  unfold liftM liftsL
  cases h0 : iLt a 0 with
  | true =>
    rw [Bool.true_or, Bool.or_true]
    exact told_err 1 rfl
  | false =>
    rw [Bool.false_or, Bool.or_false]
    cases hm : mayT x with
    | false => exact told_err 1 rfl
    | true =>
      rw [iLt_not] at h0
      obtain ⟨r, hr⟩ := may_some hm
      have e1 := held_eq (by omega : -2147483648 ≤ b) (by omega) x hr false a h0 (by omega)
      rw [Bool.false_or] at e1
      have e2 : subW a b = a - b := subW_eq (by omega) (by omega)
      have e3 : (iLt b 0 && btwT x a (subW a b)) = btwT x a (a - b) := by
        rw [e2]
        cases h1 : iLt b 0 with
        | true => rfl
        | false =>
          rw [iLt_not] at h1
          rw [btw_none x a (a - b) _ _ _ hr (by omega) (by omega) (by omega)]
          rfl
      rw [e3, e1]
      cases btwT x a (a - b) with
      | true => exact told_err 7 rfl
      | false => exact told_ok (liftT x a b)

theorem law10_frame (n : Nat) (t : Tm) (a b kk : Int) (hsm : Sm t) (hk : kk ≤ 9223372036854775807) (hn : wt t < n) : ∃ S', frame Try.cfg (run Try.cfg (n + 22)) (n + 22) 10 [encA t, .int .i64 a, .int .i64 b, .int .i64 kk] St.empty = some (.bool true, S') := by
  have hw0 : 0 < wt t := by rw [wt_eq]; omega
  have hworks := f36_ok (n + 1) St.empty
  have kL := lift_keeps t a b
  have kC := close_keeps t kk
  refine frame_ex Try.cfg _ (fn := Try.f10) rfl rfl ?_
  refine WCall.mkB (f52_ok (n + 20) t [] false true _ (by omega) (by rw [wts]; omega)) (fun hf => ?_) (fun hf => ?_)
  · refine WCmp.mk (fun h1 => ?_) (fun h1 => ?_)
    · refine WCall.mk _ _ hworks ?_
      exact ⟨_, rfl⟩
    refine WCmp.mk (fun h2 => ?_) (fun h2 => ?_)
    · refine WCall.mk _ _ hworks ?_
      exact ⟨_, rfl⟩
    refine WCmp.mk (fun h3 => ?_) (fun h3 => ?_)
    · refine WCall.mk _ _ hworks ?_
      exact ⟨_, rfl⟩
    rw [iLt_not] at h1 h2 h3
    have hd : deepT t = false := by
      unfold fewT at hf
      simp only [Bool.and_eq_true, Bool.not_eq_true'] at hf
      exact hf.1.1
    have hsz : sizeT t < 1000000000 := by have := deep_size hd; omega
    have smL := kL.2.1 hsm
    have smC := kC.2.1 hsm
    have szL : sizeT (liftT t a b) < 1000000000 := by rw [kL.2.2]; exact hsz
    have szC : sizeT (closeT t kk) < 1000000000 := by rw [kC.2.2]; exact hsz
    have wtL : wt (liftT t a b) < n + 7 := by rw [kL.1]; omega
    have wtC : wt (closeT t kk) < n + 7 := by rw [kC.1]; omega
    obtain ⟨m1, m2, m3⟩ := (liftM_one t a b).facts smL szL wtL (by omega)
    obtain ⟨l1, l2, l3⟩ := (liftsL_one t a b).facts smL szL wtL (by omega)
    obtain ⟨c1, c2, c3⟩ := (closeM_one t kk).facts smC szC wtC (by omega)
    refine WCall.mk _ _ (f38_ok (n + 7) t a b _ hsm hsz (by omega) smL wtL) ?_
    refine WCall.mk _ _ (f53_ok (n + 13) t a b _ hsm hsz (by omega)) ?_
    refine WCall.mk _ _ (f54_ok (n + 7) t kk _ hsm hsz (by omega) smC wtC) ?_
    have hlt := lift_told t a b h3 h2 h1
    have t1 := f57_ok (n + 13) (liftM t a b).1 (liftM t a b).2 (liftsL t a b).1 (liftsL t a b).2 St.empty m1 m2 (by omega) l1 (by omega)
    rw [hlt] at t1
    have terr : closeM t kk = (zTm, 1) → run Try.cfg (n + 22) (.f 57) [encA (closeM t kk).1, .int .i64 (closeM t kk).2, encA zTm, .int .i64 1] St.empty = some (.bool true, St.empty) := fun e => by
      have := f57_ok (n + 13) (closeM t kk).1 (closeM t kk).2 zTm 1 St.empty c1 c2 (by omega) Sm_zTm (by rw [wt_zTm]; omega)
      rw [this, e, told_err 1 rfl]
    refine WCall.mkB (r55_ok (n + 14) t _ hsm (by omega)) (fun hm => ?_) (fun hm => ?_)
    · refine WCmp.mk (fun hk0 => ?_) (fun hk0 => ?_)
      · refine WCall.mk _ _ t1 ?_
        refine WCall.mk _ _ (terr (by unfold closeM; rw [hk0]; rfl)) ?_
        refine WCall.mk _ _ hworks ?_
        exact ⟨_, rfl⟩
      · have hk0' := hk0
        rw [iLt_not] at hk0'
        have hc : closeM t kk = toldT (closeT t kk) := by unfold closeM; rw [hk0, hm]; rfl
        have t2 := f57_ok (n + 13) (closeM t kk).1 (closeM t kk).2 (closeT t kk) 0 St.empty c1 c2 (by omega) smC (by omega)
        rw [hc, told_ok, ← hc] at t2
        have t3 := r56_ok (n + 21) t (if (2097152 : Int) < kk then 2097152 else kk) 0 St.empty hsz (by omega)
        rw [close_eq hm hk0' hk] at t3
        refine WCall.mk _ _ t3 ?_
        refine WCall.mk _ _ t1 ?_
        refine WCall.mk _ _ t2 ?_
        refine WCall.mk _ _ hworks ?_
        exact ⟨_, rfl⟩
    · refine WCall.mk _ _ t1 ?_
      refine WCall.mk _ _ (terr (by unfold closeM; rw [hm, Bool.not_false, Bool.or_true]; rfl)) ?_
      refine WCall.mk _ _ hworks ?_
      exact ⟨_, rfl⟩
  · refine WCall.mk _ _ hworks ?_
    exact ⟨_, rfl⟩

theorem law10 (us : List V) (h : Args Try.prog Try.f10.params.toList us) : ∃ n S', run Try.cfg n (.f 10) us St.empty = some (.bool true, S') := by
  rw [Try.params10] at h
  obtain ⟨t, r1, rfl, hsm, h1⟩ := arg46 h
  obtain ⟨a, r2, rfl, _, h2⟩ := arg3b h1
  obtain ⟨b, r3, rfl, _, h3⟩ := arg3b h2
  obtain ⟨kk, r4, rfl, hk, h4⟩ := arg3b h3
  obtain rfl := arg_nil h4
  obtain ⟨S', hf⟩ := law10_frame (wt t + 1) t a b kk hsm hk.2 (by omega)
  exact ⟨wt t + 24, St.empty, run_tm hf (by simp only [strips_t, strips_i, strips_nil]) rfl rfl rfl rfl rfl⟩

end Go.Ev

/- Terms: Inst, the document's; Grown (written by tmp.py; own work). -/
namespace Go.Ev
open Go.Proofs
set_option maxRecDepth 100000
set_option linter.unusedSimpArgs false
set_option linter.unusedVariables false

/-- Which one comes in the place of a variable; -1: none. -/
noncomputable def placeK (nn a : Int) (m : Nat) : Int := bif iLt nn a || !iLt nn (addW a (.ofNat m)) then -1 else subW (subW (.ofNat m) 1) (subW nn a)

theorem placeK_cases {nn a : Int} {m : Nat} (h0 : 0 ≤ a) (ha : a ≤ 1000000000) (hm : m ≤ 1000000000) : (placeK nn a m = -1 ∧ (iLt nn a = true ∨ iLt nn (addW a (.ofNat m)) = false)) ∨ ∃ k : Nat, k < m ∧ placeK nn a m = .ofNat k ∧ iLt nn a = false ∧ iLt nn (addW a (.ofNat m)) = true ∧ subW (subW (.ofNat m) 1) (subW nn a) = .ofNat k := by
  unfold placeK
  have e1 : addW a (.ofNat m) = a + m := addW_eq (by simp only [Int.ofNat_eq_natCast]; omega) (by simp only [Int.ofNat_eq_natCast]; omega)
  cases h1 : iLt nn a with
  | true => left; exact ⟨rfl, .inl rfl⟩
  | false =>
    cases h2 : iLt nn (addW a (.ofNat m)) with
    | false => left; exact ⟨rfl, .inr rfl⟩
    | true =>
      right
      rw [iLt_not] at h1
      rw [e1, iLt_iff] at h2
      have e2 : subW nn a = nn - a := subW_eq (by omega) (by omega)
      have e3 : subW (.ofNat m) 1 = (m : Int) - 1 := subW_eq (by simp only [Int.ofNat_eq_natCast]; omega) (by simp only [Int.ofNat_eq_natCast]; omega)
      have e4 : subW ((m : Int) - 1) (nn - a) = (m : Int) - 1 - (nn - a) := subW_eq (by omega) (by omega)
      refine ⟨((m : Int) - 1 - (nn - a)).toNat, by omega, ?_, rfl, rfl, ?_⟩
      · rw [e2, e3, e4]; simp only [Bool.not_true, Bool.or_self, cond_false, Int.ofNat_eq_natCast]; omega
      · rw [e2, e3, e4]; simp only [Int.ofNat_eq_natCast]; omega

/-- A term in the place of a variable; or none, and the variable is less by their number. -/
noncomputable def placeStep (l : List Tm) (s : Unit) (x : Tm) (a : Int) : Tm × Unit := (match placeK x.n a l.length with
  | .ofNat k => match l[k]? with
    | some y => liftT y 0 a
    | none => x
  | .negSucc _ => bif iLt x.n a then x else x.withN (subW x.n (.ofNat l.length)), ())

/-- How many nodes more. -/
noncomputable def sizeStep (l : List Tm) (s : Int) (x : Tm) (a : Int) : Tm × Int := (x, match placeK x.n a l.length with
  | .ofNat k => match l[k]? with
    | some y => addW s (subW (.ofNat (sizeM y)) 1)
    | none => s
  | .negSucc _ => s)

theorem placeStep_no {l : List Tm} {x : Tm} {a : Int} (h : placeK x.n a l.length = -1) : placeStep l () x a = (bif iLt x.n a then x else x.withN (subW x.n (.ofNat l.length)), ()) := by unfold placeStep; rw [h]; rfl
theorem placeStep_at {l : List Tm} {x y : Tm} {a : Int} {k : Nat} (h : placeK x.n a l.length = .ofNat k) (hy : l[k]? = some y) : placeStep l () x a = (liftT y 0 a, ()) := by unfold placeStep; rw [h]; simp only [hy]
theorem sizeStep_no {l : List Tm} {x : Tm} {a s : Int} (h : placeK x.n a l.length = -1) : sizeStep l s x a = (x, s) := by unfold sizeStep; rw [h]; rfl
theorem sizeStep_at {l : List Tm} {x y : Tm} {a s : Int} {k : Nat} (h : placeK x.n a l.length = .ofNat k) (hy : l[k]? = some y) : sizeStep l s x a = (x, addW s (subW (.ofNat (sizeM y)) 1)) := by unfold sizeStep; rw [h]; simp only [hy]

theorem f86_ok (n : Nat) (nn a : Int) (sz : Nat) (tk : Tok) (rows : List V) (H : List Blk) (T : List Nat) :
    run Try.cfg (n + 1) (.f 86) [.int .i64 nn, .int .i64 a, .ptr (.box 0) 0] { heap := .cells 44 [.list sz tk 0 rows] :: H, toks := T } = some (.int .i64 (placeK nn a (lenN rows)), { heap := .cells 44 [.list sz tk 0 rows] :: H, toks := T }) := by
  refine run_here rfl ?_
  refine frame_of Try.cfg _ (fn := Try.f86) rfl rfl ?_
  unfold placeK
  refine WCmp.mk (fun h => ?_) (fun h => ?_)
  · rw [h]; rfl
  · rw [h]
    refine WOut.mk _ rfl ?_
    refine WCmp.mk (fun h2 => ?_) (fun h2 => ?_)
    · rw [show (!iLt nn (addW a (.ofNat (lenN rows)))) = true from h2]; rfl
    · rw [show (!iLt nn (addW a (.ofNat (lenN rows)))) = false from h2]
      refine WOut.mk _ rfl ?_
      refine WOut.mk _ rfl ?_
      refine WOut.mk _ rfl ?_
      rfl

noncomputable def f110L : Code := loopN Try.f110 0

theorem r110_by (n k : Nat) (x : Tm) (l : List Tm) (c d : Bool) (around : Int) (K : Ex → Env → St → Prop) (hlen : x.ts.length < 1000000000) (h0 : 0 ≤ around) (ha : around ≤ 1000000000) (T0 : List Nat)
    (hrec : ∀ y ∈ x.ts, ∀ a S, 0 ≤ a → a ≤ around + 1 → run Try.cfg (n + 2) (.f 110) [encA y, .list (szOf c l) (tkOf d) 0 (encTs l), .int .i64 a] S = some (encA (walkG (placeStep l) y () a).1, S)) :
    ∀ (rem : List Tm) (j f : Nat) (done : List Tm) (T : List Nat) (tok : Tok), rem.length < f → (∀ i, rem[i]? = x.ts[j + i]?) → j + rem.length = x.ts.length → j = done.length → GrowsT T0 T done tok →
    (∀ T' tok', GrowsT T0 T' (done ++ (walkGs (placeStep l) x.k rem j () around).1) tok' → K (.exit 0) { nt := 69, tmps := [(1, .list (szOf c l) (tkOf d) 0 (encTs l)), (2, .int .i64 around), (3, .ptr (.loc 3) 0), (6, .ptr (.loc 6) 0), (7, .list (szOf false (done ++ (walkGs (placeStep l) x.k rem j () around).1)) tok' 0 (encTs (done ++ (walkGs (placeStep l) x.k rem j () around).1))), (8, .int .i64 (.ofNat x.ts.length)), (48, .bool false)], locs := [(3, cellsT x), (6, zeroT)], fix := [] } { heap := [], toks := T' }) →
    WCode (iter (evalCode Try.cfg (run Try.cfg (n + 2)) k 110 (Try.cfg.fc 110) f110L) f { nt := 69, tmps := [(1, .list (szOf c l) (tkOf d) 0 (encTs l)), (2, .int .i64 around), (3, .ptr (.loc 3) 0), (6, .ptr (.loc 6) 0), (7, .list (szOf false done) tok 0 (encTs done)), (8, .int .i64 (.ofNat j))], locs := [(3, cellsT x), (6, zeroT)], fix := [] } { heap := [], toks := T }) K
  | [], j, f + 1, done, T, tok, hf, hr, hj, hjd, hg, hK => by
    have hjl : j = x.ts.length := by simpa using hj
    subst hjl
    rw [walkGs] at hK
    simp only [List.append_nil] at hK
    have hK := hK T tok hg
    refine WCode.round (nt := 69) (fx := []) ?_
    refine WCmp.no (geLen (by omega)) ?_
    exact hK
  | y :: rem, j, f + 1, done, T, tok, hf, hr, hj, hjd, hg, hK => by
    have hb : x.ts[j]? = some y := by have := hr 0; simpa using this.symm
    have hjl : j < x.ts.length := (List.getElem?_eq_some_iff.1 hb).1
    have hbi := bindsF_01 x.k (.ofNat j)
    have eb : addW around (bindsF x.k (.ofNat j)) = around + bindsF x.k (.ofNat j) := addW_eq (by rcases hbi with h | h <;> omega) (by rcases hbi with h | h <;> omega)
    have hy := hrec y (List.mem_of_getElem? hb) (addW around (bindsF x.k (.ofNat j))) { heap := [], toks := T } (by rw [eb]; rcases hbi with h | h <;> omega) (by rw [eb]; rcases hbi with h | h <;> omega)
    obtain ⟨T2, tok2, hap, hg2⟩ := app44' (A := { nt := 0, tmps := [], locs := [], fix := [] }) (H := []) (ac := ⟨false, none, true⟩) rfl hg (by omega) (strip_encA (walkG (placeStep l) y () (addW around (bindsF x.k (.ofNat j)))).1)
    rw [walkGs] at hK
    dsimp only at hK
    rw [List.append_cons] at hK
    refine WCode.round (nt := 69) (fx := []) ?_
    refine WCmp.yes (ltLen hjl) ?_
    refine WOut.mk _ (index44 hb) ?_
    refine WCall.mk _ _ (r103_ok (n + 1) x (.ofNat j) _) ?_
    refine WOut.mk _ rfl ?_
    refine WCall.mk _ _ hy ?_
    refine WApp.mk _ _ ((append_env rfl).trans hap) ?_
    refine WOut.mk _ (addOne (T := 3) (j := j) (by omega)) ?_
    exact r110_by n k x l c d around K hlen h0 ha T0 hrec rem (j + 1) f (done ++ [(walkG (placeStep l) y () (addW around (bindsF x.k (.ofNat j)))).1]) T2 tok2 (by simp only [List.length_cons] at hf; omega) (fun i => by have := hr (i + 1); simp only [List.getElem?_cons_succ] at this; rw [this]; congr 1; omega) (by simp only [List.length_cons] at hj; omega) (by simp [hjd]) hg2 hK

/-- The terms that come in the place of variables are small enough. -/
def Fits (l : List Tm) (n : Nat) : Prop := l.length ≤ 1000 ∧ ∀ y ∈ l, sizeT y < 1000000000 ∧ wt y < n

theorem r110_ok : ∀ (n : Nat) (x : Tm) (l : List Tm) (c d : Bool) (around : Int) (m : Nat) (S : St), 0 ≤ around → around + sizeT x ≤ 1000000000 → wt x < n → Fits l m → run Try.cfg (n + m + 2) (.f 110) [encA x, .list (szOf c l) (tkOf d) 0 (encTs l), .int .i64 around] S = some (encA (walkG (placeStep l) x () around).1, S)
  | 0, x, l, c, d, around, m, S, _, _, h, _ => by omega
  | n + 1, x, l, c, d, around, m, S, h0, hsz, h, hl => by
    rw [show n + 1 + m + 2 = n + m + 2 + 1 by omega]
    have hn : x.ts.length < n + m + 2 := by have := wts_len x.ts; rw [wt_eq] at h; omega
    have hp := sizeT_pos x
    have hlen : x.ts.length < 1000000000 := by have := sizeTs_len x.ts; rw [sizeT_eq] at hsz; omega
    have key : ∃ S', frame Try.cfg (run Try.cfg (n + m + 2)) (n + m + 2) 110 [encA x, .list (szOf c l) (tkOf d) 0 (encTs l), .int .i64 around] St.empty = some (encA (walkG (placeStep l) x () around).1, S') := by
      refine frame_ex Try.cfg _ (fn := Try.f110) rfl rfl ?_
      rw [walkG_eq]
      have hpk := placeK_cases (nn := x.n) (a := around) (m := l.length) h0 (by omega) (by have := hl.1; omega)
      refine WCmp.mk (fun h2 => ?_) (fun h2 => ?_)
      · rw [h2]
        refine WCmp.mk (fun h3 => ?_) (fun h3 => ?_)
        · rcases hpk with ⟨e, _⟩ | ⟨k, _, _, e, _⟩
          · rw [placeStep_no e, h3]; exact ⟨_, rfl⟩
          · rw [h3] at e; cases e
        · refine WOut.mk _ (show _ = some (V.int .i64 (addW around (.ofNat l.length))) by rw [← encTs_len]; rfl) ?_
          refine WCmp.mk (fun h4 => ?_) (fun h4 => ?_)
          · rcases hpk with ⟨_, e | e⟩ | ⟨k, hk, e, _, _, e5⟩
            · rw [h3] at e; cases e
            · rw [h4] at e; cases e
            · obtain ⟨y, hy⟩ : ∃ y, l[k]? = some y := ⟨l[k], List.getElem?_eq_getElem hk⟩
              have hym := hl.2 y (List.mem_of_getElem? hy)
              rw [placeStep_at e hy]
              refine WOut.mk _ rfl ?_
              refine WOut.mk _ rfl ?_
              refine WOut.mk _ (show _ = some (V.int .i64 (.ofNat k)) by rw [← e5, ← encTs_len]; rfl) ?_
              refine WOut.mk _ (index44 hy) ?_
              refine WCall.mk _ _ (r100_ok (n + m + 1) y around 0 _ hym.1 (by omega)) ?_
              exact ⟨_, rfl⟩
          · rcases hpk with ⟨e, _⟩ | ⟨k, _, _, _, e, _⟩
            · rw [placeStep_no e, h3]
              refine WOut.mk _ (show _ = some (V.int .i64 (subW x.n (.ofNat l.length))) by rw [← encTs_len]; rfl) ?_
              exact ⟨_, rfl⟩
            · rw [h4] at e; cases e
      · rw [h2]
        refine r110_by (n + m) (n + m + 2) x l c d around _ hlen h0 (by omega) [] (fun y hy a S ha0 ha1 => r110_ok n y l c d a m S ha0 (by have := kid_size hy; omega) (by have := wt_kid hy; omega) hl) x.ts 0 (n + m + 2) [] [] .tight hn (fun i => by rw [Nat.zero_add]) (by rw [Nat.zero_add]) rfl (GrowsT.start []) ?_
        intro T' tok' hg
        simp only [List.nil_append] at hg ⊢
        refine WCall.mk _ _ (r104_ok (n + m + 1) x _ tok' hg.strTok _) ?_
        exact ⟨_, rfl⟩
    obtain ⟨S', h1⟩ := key
    exact run_tm h1 (by simp only [strips_t, strips_i, strips_ts, strips_nil]) rfl rfl rfl rfl (strip_encA _)

noncomputable def instTm (x : Tm) (l : List Tm) : Tm := (walkG (placeStep l) x () 0).1

theorem r73_ok (n : Nat) (x : Tm) (l : List Tm) (c d : Bool) (m : Nat) (S : St) (hsz : sizeT x ≤ 1000000000) (h : wt x < n) (hl : Fits l m) : run Try.cfg (n + m + 3) (.f 73) [encA x, .list (szOf c l) (tkOf d) 0 (encTs l)] S = some (encA (instTm x l), S) := by
  have : frame Try.cfg (run Try.cfg (n + m + 2)) (n + m + 2) 73 [encA x, .list (szOf c l) (tkOf d) 0 (encTs l)] St.empty = some (encA (instTm x l), St.empty) := by
    refine frame_of Try.cfg _ (fn := Try.f73) rfl rfl ?_
    refine WCall.mk _ _ (r110_ok n x l c d 0 m _ (by omega) (by omega) h hl) ?_
    rfl
  exact run_tm this (by simp only [strips_t, strips_ts, strips_nil]) rfl rfl rfl rfl (strip_encA _)

/-! ### Grown -/

noncomputable def mostF : List Tm → Int → Int
  | [], acc => acc
  | y :: l, acc => mostF l (mxI acc (.ofNat (sizeT y)))

noncomputable def f70L : Code := loopN Try.f70 0

theorem r70_by (n k : Nat) (t : Tm) (l : List Tm) (c d : Bool) (hl : Fits l n) (S : St) (K : Ex → Env → St → Prop) :
    ∀ (rem : List Tm) (j f : Nat) (acc : Int), rem.length < f → (∀ i, rem[i]? = l[j + i]?) → j + rem.length = l.length →
    K (.exit 0) { nt := 24, tmps := [(1, .list (szOf c l) (tkOf d) 0 (encTs l)), (2, .ptr (.loc 2) 0), (5, .int .i64 (mostF rem acc)), (6, .int .i64 (.ofNat l.length)), (10, .bool false)], locs := [(2, cellsT t)], fix := [] } S →
    WCode (iter (evalCode Try.cfg (run Try.cfg n) k 70 (Try.cfg.fc 70) f70L) f { nt := 24, tmps := [(1, .list (szOf c l) (tkOf d) 0 (encTs l)), (2, .ptr (.loc 2) 0), (5, .int .i64 acc), (6, .int .i64 (.ofNat j))], locs := [(2, cellsT t)], fix := [] } S) K
  | [], j, f + 1, acc, hf, hr, hj, hK => by
    have hjl : j = l.length := by simpa using hj
    subst hjl
    refine WCode.round (nt := 24) (fx := []) ?_
    refine WCmp.no (geLen (by omega)) ?_
    exact hK
  | y :: rem, j, f + 1, acc, hf, hr, hj, hK => by
    have hb : l[j]? = some y := by have := hr 0; simpa using this.symm
    have hjl : j < l.length := (List.getElem?_eq_some_iff.1 hb).1
    have hl1 := hl.1
    have hym := hl.2 y (List.mem_of_getElem? hb)
    refine WCode.round (nt := 24) (fx := []) ?_
    refine WCmp.yes (ltLen hjl) ?_
    refine WOut.mk _ (index44 hb) ?_
    refine WCall.mk _ _ (r44_ok n y _ hym.1 hym.2) ?_
    refine WOut.mk _ (addOne (T := 3) (j := j) (by omega)) ?_
    exact r70_by n k t l c d hl S K rem (j + 1) f _ (by simp only [List.length_cons] at hf; omega) (fun i => by have := hr (i + 1); simp only [List.getElem?_cons_succ] at this; rw [this]; congr 1; omega) (by simp only [List.length_cons] at hj; omega) hK

noncomputable def grownL (t : Tm) (l : List Tm) : Int := wrapI .i64 ((.ofNat (sizeT t)) * mostF l 1)

theorem r70_ok (n : Nat) (t : Tm) (l : List Tm) (c d : Bool) (S : St) (hl : Fits l n) (hn : l.length < n) (hsz : sizeT t < 1000000000) (hw : wt t < n) : run Try.cfg (n + 1) (.f 70) [encA t, .list (szOf c l) (tkOf d) 0 (encTs l)] S = some (.int .i64 (grownL t l), S) := by
  have : frame Try.cfg (run Try.cfg n) n 70 [encA t, .list (szOf c l) (tkOf d) 0 (encTs l)] St.empty = some (.int .i64 (grownL t l), St.empty) := by
    refine frame_of Try.cfg _ (fn := Try.f70) rfl rfl ?_
    refine r70_by n n t l c d hl _ _ l 0 n 1 hn (fun i => by rw [Nat.zero_add]) (by rw [Nat.zero_add]) ?_
    refine WCall.mk _ _ (r44_ok n t _ hsz hw) ?_
    refine WOut.mk _ rfl ?_
    rfl
  exact run_tm this (by simp only [strips_t, strips_ts, strips_nil]) rfl rfl rfl rfl rfl

end Go.Ev
