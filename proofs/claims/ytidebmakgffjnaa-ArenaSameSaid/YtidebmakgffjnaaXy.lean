/- Terms: what is done to their variables, as maps; SubstLaws (own work). -/
import Derived.Test.YtidebmakgffjnaaXv
/- Terms: how great an Inst is (own work). -/
namespace Go.Ev
open Go.Proofs Go.RowKit
set_option maxRecDepth 100000
set_option linter.unusedSimpArgs false
set_option linter.unusedVariables false

/-! ### Inst -/

theorem inst_keeps {l : List Tm} (hl : ∀ y ∈ l, Sm y) (x : Tm) : ∀ s a, (Sm x → Sm (walkG (placeStep l) x s a).1) := by
  induction x using Tm.ind with
  | h x ih =>
    intro s a hx
    rw [walkG_eq]
    cases h2 : iEq x.k 2 with
    | true =>
      show Sm (placeStep l s x a).1
      unfold placeStep
      simp only
      split
      · split
        · rename_i y hy; exact (lift_keeps y 0 a).2.1 (hl y (List.mem_of_getElem? hy))
        · exact hx
      · cases iLt x.n a with
        | true => exact hx
        | false => exact (keeps_withN x _).2.1 hx
    | false =>
      show Sm (x.withT _)
      have key : ∀ (ts : List Tm), (∀ y ∈ ts, y ∈ x.ts) → ∀ i s, (∀ y ∈ ts, Sm y) → ∀ y ∈ (walkGs (placeStep l) x.k ts i s a).1, Sm y := by
        intro ts
        induction ts with
        | nil => intro _ i s h; rw [walkGs]; exact h
        | cons t ts ih2 =>
          intro hm i s h y hy
          rw [walkGs] at hy
          cases hy with
          | head => exact ih t (hm t List.mem_cons_self) s _ (h t List.mem_cons_self)
          | tail _ hy => exact ih2 (fun y hy => hm y (List.mem_cons_of_mem _ hy)) (i + 1) _ (fun z hz => h z (List.mem_cons_of_mem _ hz)) y hy
      rw [Sm_iff] at hx ⊢
      exact ⟨hx.1, key x.ts (fun _ h => h) 0 s hx.2⟩

theorem node_kids0 {x : Tm} (h : nodeT x = true) (h2 : iEq x.k 2 = true) : x.ts = [] := by
  unfold nodeT at h
  simp only [Bool.and_eq_true] at h
  have h1 := h.1.1.2
  have e : kidsF x.k = 0 := by unfold kidsF; rw [h2, iEq_ne h2 (c := 1) rfl, iEq_ne h2 (c := 3) rfl]; rfl
  rw [e] at h1
  have h3 : iEq (.ofNat (lenN (encTs x.ts))) (.ofNat 0) = true := h1
  rw [iEq_nat, decide_eq_true_eq, encTs_len] at h3
  exact List.eq_nil_of_length_eq_zero h3

/-- How many nodes an Inst has. -/
theorem size_walk {l : List Tm} (hl : l.length ≤ 1000) (hm : ∀ y ∈ l, mayT y = true) (x : Tm) {L d r : Nat} (h : scanT nodeT x L d = some r) :
    ∀ (s : Int) (a : Int), 0 ≤ a → a + d ≤ 1000000000 → 0 ≤ s → s + sizeT (walkG (placeStep l) x () a).1 ≤ 4000000000000000000 →
      sizeT x ≤ sizeT (walkG (placeStep l) x () a).1 ∧ (walkG (sizeStep l) x s a).2 + sizeT x = s + sizeT (walkG (placeStep l) x () a).1 := by
  refine scan_ind (P := fun x d => ∀ (s : Int) (a : Int), 0 ≤ a → a + d ≤ 1000000000 → 0 ≤ s → s + sizeT (walkG (placeStep l) x () a).1 ≤ 4000000000000000000 →
      sizeT x ≤ sizeT (walkG (placeStep l) x () a).1 ∧ (walkG (sizeStep l) x s a).2 + sizeT x = s + sizeT (walkG (placeStep l) x () a).1) (fun x d hp ih s a h0 hd hs hb => ?_) x h
  rw [walkG_eq] at hb ⊢
  rw [walkG_eq]
  cases h2 : iEq x.k 2 with
  | true =>
    rw [h2] at hb
    have hx1 : sizeT x = 1 := by rw [sizeT_eq, node_kids0 hp h2, sizeTs]
    show sizeT x ≤ sizeT (placeStep l () x a).1 ∧ (sizeStep l s x a).2 + sizeT x = s + sizeT (placeStep l () x a).1
    have hb' : s + sizeT (placeStep l () x a).1 ≤ 4000000000000000000 := hb
    rcases placeK_cases (nn := x.n) (a := a) (m := l.length) h0 (by omega) (by omega) with ⟨e, _⟩ | ⟨k, hk, e, _⟩
    · rw [placeStep_no e, sizeStep_no e]
      have : sizeT (bif iLt x.n a then x else x.withN (subW x.n (.ofNat l.length))) = sizeT x := by
        cases iLt x.n a with
        | true => rfl
        | false => exact (keeps_withN x _).2.2
      show sizeT x ≤ sizeT (bif iLt x.n a then x else x.withN (subW x.n (.ofNat l.length))) ∧ s + sizeT x = s + sizeT (bif iLt x.n a then x else x.withN (subW x.n (.ofNat l.length)))
      rw [this]
      exact ⟨Nat.le_refl _, rfl⟩
    · obtain ⟨y, hy⟩ : ∃ y, l[k]? = some y := ⟨l[k], List.getElem?_eq_getElem hk⟩
      have hym := hm y (List.mem_of_getElem? hy)
      have hys : sizeM y = sizeT y := by unfold sizeM; rw [hym]
      have hyp := sizeT_pos y
      rw [placeStep_at e hy] at hb'
      rw [placeStep_at e hy, sizeStep_at e hy]
      have hk3 : sizeT (liftT y 0 a) = sizeT y := (lift_keeps y 0 a).2.2
      have hb2 : s + sizeT (liftT y 0 a) ≤ 4000000000000000000 := hb'
      show sizeT x ≤ sizeT (liftT y 0 a) ∧ addW s (subW (.ofNat (sizeM y)) 1) + sizeT x = s + sizeT (liftT y 0 a)
      rw [hk3] at hb2 ⊢
      rw [hys, hx1]
      have e1 : subW (.ofNat (sizeT y)) 1 = (sizeT y : Int) - 1 := subW_eq (by simp only [Int.ofNat_eq_natCast]; omega) (by simp only [Int.ofNat_eq_natCast]; omega)
      rw [e1, addW_eq (by omega) (by omega)]
      refine ⟨by omega, by omega⟩
  | false =>
    rw [h2] at hb
    have hb' : s + sizeT (x.withT (walkGs (placeStep l) x.k x.ts 0 () a).1) ≤ 4000000000000000000 := hb
    have hz : sizeT (x.withT (walkGs (placeStep l) x.k x.ts 0 () a).1) = 1 + sizeTs (walkGs (placeStep l) x.k x.ts 0 () a).1 := by rw [sizeT_eq]; rfl
    show sizeT x ≤ sizeT (x.withT (walkGs (placeStep l) x.k x.ts 0 () a).1) ∧ (walkGs (sizeStep l) x.k x.ts 0 s a).2 + sizeT x = s + sizeT (x.withT (walkGs (placeStep l) x.k x.ts 0 () a).1)
    rw [hz] at hb' ⊢
    have key : ∀ (ts : List Tm), (∀ y ∈ ts, y ∈ x.ts) → ∀ (i : Nat) (s : Int), 0 ≤ s → s + sizeTs (walkGs (placeStep l) x.k ts i () a).1 ≤ 4000000000000000000 →
        sizeTs ts ≤ sizeTs (walkGs (placeStep l) x.k ts i () a).1 ∧ (walkGs (sizeStep l) x.k ts i s a).2 + sizeTs ts = s + sizeTs (walkGs (placeStep l) x.k ts i () a).1 := by
      intro ts
      induction ts with
      | nil => intro _ i s h1 h3; rw [walkGs, walkGs]; exact ⟨Nat.le_refl _, rfl⟩
      | cons t ts ih2 =>
        intro hm2 i s h1 h3
        rw [walkGs] at h3 ⊢
        rw [walkGs]
        dsimp only at h3 ⊢
        rw [sizeTs_cons] at h3 ⊢
        rw [sizeTs_cons]
        have hbi := bindsF_01 x.k (.ofNat i)
        have eb : addW a (bindsF x.k (.ofNat i)) = a + bindsF x.k (.ofNat i) := addW_eq (by rcases hbi with h | h <;> omega) (by rcases hbi with h | h <;> omega)
        rw [eb] at h3 ⊢
        rw [show (walkG (placeStep l) t () (a + bindsF x.k (.ofNat i))).2 = () from rfl] at h3 ⊢
        obtain ⟨a1, a2⟩ := ih t (hm2 t List.mem_cons_self) s (a + bindsF x.k (.ofNat i)) (by rcases hbi with h | h <;> omega) (by rcases hbi with h | h <;> omega) h1 (by omega)
        obtain ⟨b1, b2⟩ := ih2 (fun y hy => hm2 y (List.mem_cons_of_mem _ hy)) (i + 1) (walkG (sizeStep l) t s (a + bindsF x.k (.ofNat i))).2 (by omega) (by omega)
        refine ⟨by omega, by omega⟩
    obtain ⟨k1, k2⟩ := key x.ts (fun _ h => h) 0 s hs (by omega)
    rw [sizeT_eq x]
    refine ⟨by omega, by omega⟩

/-- An Inst has no more nodes than Grown. -/
theorem size_grown {l : List Tm} {M : Nat} (h1 : 1 ≤ M) (hl : ∀ y ∈ l, sizeT y ≤ M) (x : Tm) {L d r : Nat} (h : scanT nodeT x L d = some r) : ∀ (a : Int), sizeT (walkG (placeStep l) x () a).1 ≤ sizeT x * M := by
  refine scan_ind (P := fun x d => ∀ (a : Int), sizeT (walkG (placeStep l) x () a).1 ≤ sizeT x * M) (fun x d hp ih a => ?_) x h
  rw [walkG_eq]
  cases h2 : iEq x.k 2 with
  | true =>
    have hx1 : sizeT x = 1 := by rw [sizeT_eq, node_kids0 hp h2, sizeTs]
    show sizeT (placeStep l () x a).1 ≤ _
    rw [hx1, Nat.one_mul]
    unfold placeStep
    simp only
    split
    · split
      · rename_i y hy; rw [(lift_keeps y 0 a).2.2]; exact hl y (List.mem_of_getElem? hy)
      · omega
    · cases iLt x.n a with
      | true => show sizeT x ≤ M; omega
      | false => show sizeT (x.withN _) ≤ M; rw [(keeps_withN x _).2.2]; omega
  | false =>
    show sizeT (x.withT (walkGs (placeStep l) x.k x.ts 0 () a).1) ≤ _
    rw [sizeT_eq, sizeT_eq x]
    show 1 + sizeTs (walkGs (placeStep l) x.k x.ts 0 () a).1 ≤ _
    have key : ∀ (ts : List Tm), (∀ y ∈ ts, y ∈ x.ts) → ∀ i, sizeTs (walkGs (placeStep l) x.k ts i () a).1 ≤ sizeTs ts * M := by
      intro ts
      induction ts with
      | nil => intro _ i; rw [walkGs]; show sizeTs [] ≤ _; rw [sizeTs]; omega
      | cons t ts ih2 =>
        intro hm i
        rw [walkGs, sizeTs_cons, sizeTs_cons, Nat.add_mul]
        have := ih t (hm t List.mem_cons_self) (addW a (bindsF x.k (.ofNat i)))
        have := ih2 (fun y hy => hm y (List.mem_cons_of_mem _ hy)) (i + 1)
        rw [show (walkG (placeStep l) t () (addW a (bindsF x.k (.ofNat i)))).2 = () from rfl]
        omega
    have := key x.ts (fun _ h => h) 0
    rw [Nat.add_mul]
    omega

/-- What the package answers. -/
theorem inst_ok {t : Tm} {l : List Tm} (hm : mayT t = true) (hl : ∀ y ∈ l, mayT y = true) (hn : l.length ≤ 1000) (hr : mayT (instTm t l) = true) : instM t l = (instTm t l, 0) := by
  unfold instM
  have h1 : l.all mayT = true := List.all_eq_true.2 hl
  obtain ⟨r, hs⟩ := may_some hm
  have h2 := may_size hr
  have h3 : sizeM t = sizeT t := by unfold sizeM; rw [hm]
  have hts := may_size hm
  obtain ⟨_, h4⟩ := size_walk hn hl t hs (.ofNat (sizeM t)) 0 (Int.le_refl _) (by omega) (by simp only [Int.ofNat_eq_natCast]; omega) (by rw [h3]; unfold instTm at h2; simp only [Int.ofNat_eq_natCast]; omega)
  have h5 : (walkG (sizeStep l) t (.ofNat (sizeM t)) 0).2 = sizeT (instTm t l) := by
    rw [h3] at h4 ⊢
    unfold instTm
    simp only [Int.ofNat_eq_natCast] at h4 ⊢
    omega
  rw [hm, h1, h5]
  have h6 : iLt 65536 (sizeT (instTm t l) : Int) = false := by rw [iLt_not]; omega
  rw [h6]
  show toldT _ = _
  unfold toldT
  rw [hr]

end Go.Ev

/- Terms: what is done to their variables, in plain terms (own work). -/
namespace Go.Ev
open Go.Proofs
set_option maxRecDepth 100000
set_option linter.unusedSimpArgs false
set_option linter.unusedVariables false

/-- A variable. -/
noncomputable def varT (n : Int) : Tm := .mk 2 n [] true true true true [] []

mutual
/-- A term, however it lies. -/
noncomputable def nrm : Tm → Tm
  | .mk k n s _ _ _ _ ls ts => .mk k n s true true true true ls (nrms ts)
noncomputable def nrms : List Tm → List Tm
  | [] => []
  | t :: ts => nrm t :: nrms ts
end
theorem nrm_eq (x : Tm) : nrm x = .mk x.k x.n x.s true true true true x.ls (nrms x.ts) := by cases x; rw [nrm]; rfl
theorem nrms_nil : nrms [] = [] := by rw [nrms]
theorem nrms_cons (t : Tm) (ts : List Tm) : nrms (t :: ts) = nrm t :: nrms ts := by rw [nrms]
theorem nrms_map (ts : List Tm) : nrms ts = ts.map nrm := by
  induction ts with
  | nil => exact nrms_nil
  | cons t ts ih => rw [nrms_cons, ih]; rfl
theorem nrms_len (ts : List Tm) : (nrms ts).length = ts.length := by rw [nrms_map, List.length_map]

mutual
/-- Another term in the place of each variable. -/
noncomputable def mapT (g : Int → Int → Tm) : Tm → Int → Tm
  | .mk k n s _ _ _ _ ls ts, a => bif iEq k 2 then g a n else .mk k n s true true true true ls (mapTs g k ts 0 a)
noncomputable def mapTs (g : Int → Int → Tm) (k : Int) : List Tm → Nat → Int → List Tm
  | [], _, _ => []
  | t :: ts, i, a => mapT g t (a + bindsF k (.ofNat i)) :: mapTs g k ts (i + 1) a
end
theorem mapT_eq (g : Int → Int → Tm) (x : Tm) (a : Int) : mapT g x a = bif iEq x.k 2 then g a x.n else .mk x.k x.n x.s true true true true x.ls (mapTs g x.k x.ts 0 a) := by cases x; rw [mapT]; rfl
theorem mapTs_nil (g : Int → Int → Tm) (k : Int) (i : Nat) (a : Int) : mapTs g k [] i a = [] := by rw [mapTs]
theorem mapTs_cons (g : Int → Int → Tm) (k : Int) (t : Tm) (ts : List Tm) (i : Nat) (a : Int) : mapTs g k (t :: ts) i a = mapT g t (a + bindsF k (.ofNat i)) :: mapTs g k ts (i + 1) a := by rw [mapTs]
theorem mapTs_len (g : Int → Int → Tm) (k : Int) (a : Int) : ∀ (ts : List Tm) (i : Nat), (mapTs g k ts i a).length = ts.length
  | [], i => by rw [mapTs_nil]
  | t :: ts, i => by rw [mapTs_cons, List.length_cons, List.length_cons, mapTs_len g k a ts]

/-- Lists of terms: what holds of each place holds of all. -/
theorem mapTs_ext {f g : Int → Int → Tm} {k a c : Int} : ∀ {ts us : List Tm} (i : Nat), ts.length = us.length → (∀ j t u, ts[j]? = some t → us[j]? = some u → mapT f t (a + bindsF k (.ofNat (i + j))) = mapT g u (c + bindsF k (.ofNat (i + j)))) → mapTs f k ts i a = mapTs g k us i c
  | [], [], i, _, _ => by rw [mapTs_nil, mapTs_nil]
  | [], u :: us, i, h, _ => by simp at h
  | t :: ts, [], i, h, _ => by simp at h
  | t :: ts, u :: us, i, h, hh => by
    rw [mapTs_cons, mapTs_cons]
    have h0 := hh 0 t u rfl rfl
    rw [Nat.add_zero] at h0
    rw [h0, mapTs_ext (i + 1) (by simpa using h) (fun j t' u' h1 h2 => by
      have := hh (j + 1) t' u' (by simpa using h1) (by simpa using h2)
      rw [show i + 1 + j = i + (j + 1) by omega]
      exact this)]

theorem mapT_nrm {g : Int → Int → Tm} (x : Tm) : ∀ a, mapT g (nrm x) a = mapT g x a := by
  induction x using Tm.ind with
  | h x ih =>
    intro a
    rw [nrm_eq, mapT_eq, mapT_eq g x]
    show (bif iEq x.k 2 then g a x.n else Tm.mk x.k x.n x.s true true true true x.ls (mapTs g x.k (nrms x.ts) 0 a)) = _
    rw [mapTs_ext (f := g) (g := g) (ts := nrms x.ts) (us := x.ts) (c := a) 0 (nrms_len _) (fun j t u h1 h2 => by
      rw [nrms_map, List.getElem?_map, h2] at h1
      cases h1
      exact ih u (List.mem_of_getElem? h2) _)]

theorem mapTs_get {g : Int → Int → Tm} {k a : Int} : ∀ {ts : List Tm} (i : Nat) {j : Nat} {t : Tm}, (mapTs g k ts i a)[j]? = some t → ∃ u, ts[j]? = some u ∧ t = mapT g u (a + bindsF k (.ofNat (i + j)))
  | [], i, j, t, h => by rw [mapTs_nil] at h; simp at h
  | u :: ts, i, 0, t, h => by
    rw [mapTs_cons] at h
    simp only [List.getElem?_cons_zero, Option.some.injEq] at h
    exact ⟨u, rfl, by rw [← h]; rfl⟩
  | u :: ts, i, j + 1, t, h => by
    rw [mapTs_cons] at h
    simp only [List.getElem?_cons_succ] at h
    obtain ⟨v, h1, h2⟩ := mapTs_get (i + 1) h
    exact ⟨v, by simpa using h1, by rw [h2, show i + 1 + j = i + (j + 1) by omega]⟩

/-- One after the other is at once. -/
theorem mapT_comp {f g : Int → Int → Tm} (a : Int) (x : Tm) : ∀ c, mapT f (mapT g x c) (a + c) = mapT (fun c n => mapT f (g c n) (a + c)) x c := by
  induction x using Tm.ind with
  | h x ih =>
    intro c
    rw [mapT_eq g x, mapT_eq _ x c]
    cases h2 : iEq x.k 2 with
    | true => rfl
    | false =>
      simp only [cond_false]
      rw [mapT_eq]
      show (bif iEq x.k 2 then _ else Tm.mk x.k x.n x.s true true true true x.ls (mapTs f x.k (mapTs g x.k x.ts 0 c) 0 (a + c))) = _
      rw [h2]
      simp only [cond_false]
      rw [mapTs_ext (g := fun c n => mapT f (g c n) (a + c)) (us := x.ts) (c := c) 0 (mapTs_len g x.k c x.ts 0) (fun j t u h1 h3 => by
        obtain ⟨v, h4, h5⟩ := mapTs_get 0 h1
        rw [h3] at h4
        cases h4
        rw [h5, Int.add_assoc]
        exact ih u (List.mem_of_getElem? h3) _)]

theorem mapT_shift {f : Int → Int → Tm} (a : Int) (x : Tm) : ∀ c, mapT f x (a + c) = mapT (fun c n => f (a + c) n) x c := by
  induction x using Tm.ind with
  | h x ih =>
    intro c
    rw [mapT_eq f x, mapT_eq _ x c]
    cases h2 : iEq x.k 2 with
    | true => rfl
    | false =>
      simp only [cond_false]
      rw [mapTs_ext (g := fun c n => f (a + c) n) (us := x.ts) (c := c) 0 rfl (fun j t u h1 h3 => by
        rw [h1] at h3
        cases h3
        rw [Int.add_assoc]
        exact ih t (List.mem_of_getElem? h1) _)]

mutual
/-- All variables, with so many binders around. -/
def AllV (Q : Int → Int → Prop) : Tm → Int → Prop
  | .mk k n _ _ _ _ _ _ ts, a => match iEq k 2 with
    | true => Q a n
    | false => AllVs Q k ts 0 a
def AllVs (Q : Int → Int → Prop) (k : Int) : List Tm → Nat → Int → Prop
  | [], _, _ => True
  | t :: ts, i, a => AllV Q t (a + bindsF k (.ofNat i)) ∧ AllVs Q k ts (i + 1) a
end
theorem AllV_eq (Q : Int → Int → Prop) (x : Tm) (a : Int) : AllV Q x a = (match iEq x.k 2 with
    | true => Q a x.n
    | false => AllVs Q x.k x.ts 0 a) := by cases x; rw [AllV]; rfl
theorem AllVs_iff {Q : Int → Int → Prop} {k : Int} {a : Int} : ∀ {ts : List Tm} (i : Nat), AllVs Q k ts i a ↔ ∀ j t, ts[j]? = some t → AllV Q t (a + bindsF k (.ofNat (i + j)))
  | [], i => by rw [AllVs]; simp
  | t :: ts, i => by
    rw [AllVs, AllVs_iff (i + 1)]
    constructor
    · intro h j u hu
      cases j with
      | zero => simp only [List.getElem?_cons_zero, Option.some.injEq] at hu; rw [← hu]; exact h.1
      | succ j =>
        have := h.2 j u (by simpa using hu)
        rw [show i + (j + 1) = i + 1 + j by omega]
        exact this
    · intro h
      refine ⟨h 0 t rfl, fun j u hu => ?_⟩
      have := h (j + 1) u (by simpa using hu)
      rw [show i + 1 + j = i + (j + 1) by omega]
      exact this
theorem AllV_var {Q : Int → Int → Prop} {x : Tm} {a : Int} (h : iEq x.k 2 = true) : AllV Q x a ↔ Q a x.n := by rw [AllV_eq, h]
theorem AllV_kids {Q : Int → Int → Prop} {x : Tm} {a : Int} (h : iEq x.k 2 = false) : AllV Q x a ↔ ∀ j t, x.ts[j]? = some t → AllV Q t (a + bindsF x.k (.ofNat j)) := by
  rw [AllV_eq, h]
  show AllVs Q x.k x.ts 0 a ↔ _
  rw [AllVs_iff 0]
  simp only [Nat.zero_add]

theorem allV_mono {Q R : Int → Int → Prop} (x : Tm) : ∀ a, (∀ a n, Q a n → R a n) → AllV Q x a → AllV R x a := by
  induction x using Tm.ind with
  | h x ih =>
    intro a hqr h
    cases h2 : iEq x.k 2 with
    | true => rw [AllV_var h2] at h ⊢; exact hqr _ _ h
    | false => rw [AllV_kids h2] at h ⊢; exact fun j t ht => ih t (List.mem_of_getElem? ht) _ hqr (h j t ht)

theorem allV_and {Q R : Int → Int → Prop} (x : Tm) : ∀ a, AllV Q x a → AllV R x a → AllV (fun a n => Q a n ∧ R a n) x a := by
  induction x using Tm.ind with
  | h x ih =>
    intro a h h'
    cases h2 : iEq x.k 2 with
    | true => rw [AllV_var h2] at h h' ⊢; exact ⟨h, h'⟩
    | false => rw [AllV_kids h2] at h h' ⊢; exact fun j t ht => ih t (List.mem_of_getElem? ht) _ (h j t ht) (h' j t ht)

theorem allV_any {Q : Int → Prop} (x : Tm) : ∀ a c, AllV (fun _ n => Q n) x a → AllV (fun _ n => Q n) x c := by
  induction x using Tm.ind with
  | h x ih =>
    intro a c h
    cases h2 : iEq x.k 2 with
    | true => rw [AllV_var h2] at h ⊢; exact h
    | false => rw [AllV_kids h2] at h ⊢; exact fun j t ht => ih t (List.mem_of_getElem? ht) _ _ (h j t ht)

theorem mapT_congr {f g : Int → Int → Tm} (x : Tm) : ∀ a, AllV (fun a n => f a n = g a n) x a → mapT f x a = mapT g x a := by
  induction x using Tm.ind with
  | h x ih =>
    intro a h
    rw [mapT_eq, mapT_eq]
    cases h2 : iEq x.k 2 with
    | true => rw [AllV_var h2] at h; exact h
    | false =>
      rw [AllV_kids h2] at h
      simp only [cond_false]
      rw [mapTs_ext (g := g) (us := x.ts) (c := a) 0 rfl (fun j t u h1 h3 => by
        rw [h1] at h3
        cases h3
        rw [Nat.zero_add]
        exact ih t (List.mem_of_getElem? h1) _ (h j t h1))]

theorem allV_map {Q : Int → Int → Prop} {g : Int → Int → Tm} (a : Int) (x : Tm) : ∀ c, AllV (fun c n => AllV Q (g c n) (a + c)) x c → AllV Q (mapT g x c) (a + c) := by
  induction x using Tm.ind with
  | h x ih =>
    intro c h
    rw [mapT_eq]
    cases h2 : iEq x.k 2 with
    | true => rw [AllV_var h2] at h; exact h
    | false =>
      rw [AllV_kids h2] at h
      simp only [cond_false]
      rw [AllV_kids (show iEq (Tm.mk x.k x.n x.s true true true true x.ls (mapTs g x.k x.ts 0 c)).k 2 = false from h2)]
      intro j t ht
      obtain ⟨u, h3, h4⟩ := mapTs_get 0 (show (mapTs g x.k x.ts 0 c)[j]? = some t from ht)
      rw [h4, Nat.zero_add, Int.add_assoc]
      exact ih u (List.mem_of_getElem? h3) _ (h j u h3)

theorem allV_nrm {Q : Int → Int → Prop} (x : Tm) : ∀ a, AllV Q (nrm x) a ↔ AllV Q x a := by
  induction x using Tm.ind with
  | h x ih =>
    intro a
    rw [nrm_eq]
    cases h2 : iEq x.k 2 with
    | true =>
      rw [AllV_var h2, AllV_var (show iEq (Tm.mk x.k x.n x.s true true true true x.ls (nrms x.ts)).k 2 = true from h2)]
      exact Iff.rfl
    | false =>
      rw [AllV_kids h2, AllV_kids (show iEq (Tm.mk x.k x.n x.s true true true true x.ls (nrms x.ts)).k 2 = false from h2)]
      constructor
      · intro h j t ht
        have := h j (nrm t) (show (nrms x.ts)[j]? = _ by rw [nrms_map, List.getElem?_map, ht]; rfl)
        exact (ih t (List.mem_of_getElem? ht) _).1 this
      · intro h j t ht
        have ht : (nrms x.ts)[j]? = some t := ht
        rw [nrms_map, List.getElem?_map] at ht
        cases h3 : x.ts[j]? with
        | none => rw [h3] at ht; cases ht
        | some u =>
          rw [h3] at ht
          cases ht
          exact (ih u (List.mem_of_getElem? h3) _).2 (h j u h3)

/-! ### So deep -/

/-- All nodes may be; so deep. -/
def Dp (x : Tm) (d : Nat) : Prop := scanT nodeT x (sizeT x) d = some 0

theorem scan_less {p : Tm → Bool} (x : Tm) : ∀ {l d r : Nat}, scanT p x l d = some r → ∀ z, scanT p x (sizeT x + z) d = some z := by
  induction x using Tm.ind with
  | h x ih =>
    intro l d r h z
    obtain ⟨l', d', rfl, rfl, hp, hts⟩ := scanT_some h
    rw [scanT_eq, sizeT_eq, show 1 + sizeTs x.ts + z = sizeTs x.ts + z + 1 by omega]
    simp only
    rw [hp]
    simp only
    have key : ∀ (ts : List Tm), (∀ y ∈ ts, y ∈ x.ts) → ∀ {l r}, scanTs p ts l d' = some r → ∀ z, scanTs p ts (sizeTs ts + z) d' = some z := by
      intro ts
      induction ts with
      | nil => intro _ l r _ z; rw [scanTs, sizeTs, Nat.zero_add]
      | cons t ts ih2 =>
        intro hm l r h z
        rw [scanTs_cons] at h
        split at h
        · rename_i l1 h1
          rw [scanTs_cons, sizeTs_cons, Nat.add_assoc, ih t (hm t List.mem_cons_self) h1]
          exact ih2 (fun y hy => hm y (List.mem_cons_of_mem _ hy)) h z
        · cases h
    exact key x.ts (fun _ h => h) hts z

theorem dp_of_scan {x : Tm} {l d r : Nat} (h : scanT nodeT x l d = some r) : Dp x d := by
  have := scan_less x h 0
  rwa [Nat.add_zero] at this

theorem dp_node {x : Tm} {d : Nat} : Dp x d ↔ ∃ d', d = d' + 1 ∧ nodeT x = true ∧ ∀ y ∈ x.ts, Dp y d' := by
  constructor
  · intro h
    obtain ⟨l', d', _, rfl, hp, hts⟩ := scanT_some h
    refine ⟨d', rfl, hp, fun y hy => ?_⟩
    obtain ⟨l2, r2, h2⟩ := scanTs_mem hts y hy
    exact dp_of_scan h2
  · rintro ⟨d', rfl, hp, h⟩
    unfold Dp
    rw [scanT_eq, sizeT_eq, Nat.add_comm]
    simp only
    rw [hp]
    simp only
    have key : ∀ (ts : List Tm), (∀ y ∈ ts, Dp y d') → ∀ z, scanTs nodeT ts (sizeTs ts + z) d' = some z := by
      intro ts
      induction ts with
      | nil => intro _ z; rw [scanTs, sizeTs, Nat.zero_add]
      | cons t ts ih2 =>
        intro hm z
        rw [scanTs_cons, sizeTs_cons, Nat.add_assoc, scan_less t (hm t List.mem_cons_self)]
        exact ih2 (fun y hy => hm y (List.mem_cons_of_mem _ hy)) z
    have := key x.ts h 0
    rwa [Nat.add_zero] at this

theorem dp_mono {x : Tm} {d e : Nat} (h : Dp x d) (hd : d ≤ e) : Dp x e := by
  have := scan_mono (q := nodeT) (fun _ h => h) x h (Nat.le_refl _) hd
  exact dp_of_scan this

theorem may_dp {x : Tm} (h : mayT x = true) : Dp x 4096 := by
  obtain ⟨r, hr⟩ := may_some h
  exact dp_of_scan hr

theorem dp_may {x : Tm} {d : Nat} (h : Dp x d) (hd : d ≤ 4096) (hs : sizeT x ≤ 65536) : mayT x = true := by
  have := scan_mono (q := nodeT) (fun _ h => h) x h hs hd
  unfold mayT
  rw [this]
  rfl

theorem sizeTs_mem {y : Tm} : ∀ {ts : List Tm}, y ∈ ts → sizeT y ≤ sizeTs ts
  | t :: ts, h => by
    rw [sizeTs_cons]
    cases h with
    | head => omega
    | tail _ h => have := sizeTs_mem h; omega

theorem dp_size (x : Tm) : ∀ {d : Nat}, Dp x d → Dp x (sizeT x) := by
  induction x using Tm.ind with
  | h x ih =>
    intro d h
    obtain ⟨d', _, hp, hk⟩ := dp_node.1 h
    rw [sizeT_eq]
    exact dp_node.2 ⟨sizeTs x.ts, Nat.add_comm _ _, hp, fun y hy => dp_mono (ih y hy (hk y hy)) (sizeTs_mem hy)⟩

theorem nodeT_congr {x y : Tm} (h1 : x.k = y.k) (h2 : x.n = y.n) (h3 : x.s = y.s) (h4 : x.ls = y.ls) (h5 : x.ts.length = y.ts.length) : nodeT x = nodeT y := by
  unfold nodeT nmOk nuOk lvOk
  rw [h1, h2, h3, h4, encTs_len, encTs_len, h5]

theorem node_nrm (x : Tm) : nodeT (nrm x) = nodeT x := by
  rw [nrm_eq]
  exact nodeT_congr rfl rfl rfl rfl (nrms_len _)

theorem dp_nrm (x : Tm) : ∀ {d : Nat}, Dp (nrm x) d ↔ Dp x d := by
  induction x using Tm.ind with
  | h x ih =>
    intro d
    rw [dp_node, dp_node, node_nrm]
    have hts : (nrm x).ts = x.ts.map nrm := by rw [nrm_eq, ← nrms_map]; rfl
    rw [hts]
    constructor
    · rintro ⟨d', e, hp, h⟩
      exact ⟨d', e, hp, fun y hy => (ih y hy).1 (h _ (List.mem_map_of_mem hy))⟩
    · rintro ⟨d', e, hp, h⟩
      refine ⟨d', e, hp, fun y hy => ?_⟩
      obtain ⟨z, hz, rfl⟩ := List.mem_map.1 hy
      exact (ih z hz).2 (h z hz)

theorem size_nrm (x : Tm) : sizeT (nrm x) = sizeT x := by
  induction x using Tm.ind with
  | h x ih =>
    rw [sizeT_eq, sizeT_eq x]
    have hts : (nrm x).ts = x.ts.map nrm := by rw [nrm_eq, ← nrms_map]; rfl
    rw [hts]
    have key : ∀ (ts : List Tm), (∀ y ∈ ts, sizeT (nrm y) = sizeT y) → sizeTs (ts.map nrm) = sizeTs ts := by
      intro ts
      induction ts with
      | nil => intro _; rfl
      | cons t ts ih2 => intro h; rw [List.map_cons, sizeTs_cons, sizeTs_cons, h t List.mem_cons_self, ih2 (fun y hy => h y (List.mem_cons_of_mem _ hy))]
    rw [key x.ts ih]

/-- What may be is seen from what is seen. -/
theorem may_nrm {x y : Tm} (h : nrm x = nrm y) : mayT x = mayT y := by
  have key : ∀ {x y : Tm}, nrm x = nrm y → mayT x = true → mayT y = true := fun {x y} h hx => by
    refine dp_may (d := 4096) ?_ (Nat.le_refl _) ?_
    · rw [← dp_nrm, ← h, dp_nrm]; exact may_dp hx
    · rw [← size_nrm, ← h, size_nrm]; exact may_size hx
  cases hx : mayT x with
  | true => exact (key h hx).symm
  | false =>
    cases hy : mayT y with
    | false => rfl
    | true => rw [key h.symm hy] at hx; cases hx

theorem same_nrm (x : Tm) : ∀ {y : Tm}, nrm x = nrm y → sameT x y = true := by
  induction x using Tm.ind with
  | h x ih =>
    intro y h
    rw [nrm_eq, nrm_eq y] at h
    injection h with h1 h2 h3 _ _ _ _ h4 h5
    have key : ∀ (ts us : List Tm), (∀ z ∈ ts, z ∈ x.ts) → nrms ts = nrms us → sameTs ts us = true := by
      intro ts
      induction ts with
      | nil => intro us _ _; rw [sameTs]
      | cons t ts ih2 =>
        intro us hm he
        cases us with
        | nil => rw [nrms_nil, nrms_cons] at he; cases he
        | cons u us =>
          rw [nrms_cons, nrms_cons] at he
          injection he with e1 e2
          rw [sameTs, ih t (hm t List.mem_cons_self) e1, ih2 us (fun z hz => hm z (List.mem_cons_of_mem _ hz)) e2]
          rfl
    have hl : x.ts.length = y.ts.length := by rw [← nrms_len, h5, nrms_len]
    rw [sameT_eq, key x.ts y.ts (fun _ h => h) h5, h1, h2, h3, h4, iEq_nat, iEq_nat, encTs_len, encTs_len, hl]
    simp [iEq_eq]

theorem node_varT {n : Int} (h0 : 0 ≤ n) (h1 : n ≤ 1048576) : nodeT (varT n) = true := by
  have e : nodeT (varT n) = (!iLt n 0 && !iLt 1048576 n) := by
    show ((!iLt (kidsF 2) 0 && iEq (.ofNat (lenN (encTs []))) (kidsF 2)) && true && (decide (([] : List UInt8) = []) && (!iLt n 0 && !iLt 1048576 n) && iEq (.ofNat (lenN (([] : List Lv).map enc))) 0)) = _
    rw [encTs_len, show (!iLt (kidsF 2) 0 && iEq (.ofNat ([] : List Tm).length) (kidsF 2)) = true from rfl, show iEq (.ofNat (lenN (([] : List Lv).map enc))) 0 = true from rfl, show decide (([] : List UInt8) = []) = true from rfl]
    simp only [Bool.true_and, Bool.and_true]
  rw [e]
  simp only [Bool.and_eq_true, Bool.not_eq_true', iLt_not]
  exact ⟨h0, h1⟩

theorem dp_varT {n : Int} (h0 : 0 ≤ n) (h1 : n ≤ 1048576) {d : Nat} : Dp (varT n) (d + 1) :=
  dp_node.2 ⟨d, rfl, node_varT h0 h1, fun y hy => by cases hy⟩

theorem dp_map {g : Int → Int → Tm} {e : Nat} (x : Tm) : ∀ {d : Nat} (a : Int), Dp x d → AllV (fun a n => Dp (g a n) (e + 1)) x a → Dp (mapT g x a) (d + e) := by
  induction x using Tm.ind with
  | h x ih =>
    intro d a h hv
    obtain ⟨d', rfl, hp, hk⟩ := dp_node.1 h
    rw [mapT_eq]
    cases h2 : iEq x.k 2 with
    | true => rw [AllV_var h2] at hv; exact dp_mono hv (by omega)
    | false =>
      rw [AllV_kids h2] at hv
      simp only [cond_false]
      refine dp_node.2 ⟨d' + e, by omega, ?_, fun y hy => ?_⟩
      · rw [← hp]; exact nodeT_congr rfl rfl rfl rfl (mapTs_len _ _ _ _ _)
      · obtain ⟨j, hj⟩ := List.getElem?_of_mem (show y ∈ mapTs g x.k x.ts 0 a from hy)
        obtain ⟨u, h3, h4⟩ := mapTs_get 0 hj
        rw [h4, Nat.zero_add]
        exact ih u (List.mem_of_getElem? h3) _ (hk u (List.mem_of_getElem? h3)) (hv j u h3)

/-! ### What variables are -/

theorem allV_scan {lo hi : Int} (x : Tm) : ∀ {d : Nat} (a : Int), Dp x d → lo ≤ a → a + d ≤ hi → AllV (fun a n => 0 ≤ n ∧ n ≤ 1048576 ∧ lo ≤ a ∧ a ≤ hi) x a := by
  induction x using Tm.ind with
  | h x ih =>
    intro d a h h0 h1
    obtain ⟨d', rfl, hp, hk⟩ := dp_node.1 h
    cases h2 : iEq x.k 2 with
    | true =>
      rw [AllV_var h2]
      obtain ⟨n0, n1⟩ := node_var hp h2
      exact ⟨n0, n1, h0, by omega⟩
    | false =>
      rw [AllV_kids h2]
      intro j t ht
      have hb := bindsF_01 x.k (.ofNat j)
      refine ih t (List.mem_of_getElem? ht) _ (hk t (List.mem_of_getElem? ht)) ?_ ?_ <;> rcases hb with hb | hb <;> rw [hb] <;> omega

theorem mxI_le {m n B : Int} : mxI m n ≤ B ↔ m ≤ B ∧ n ≤ B := by
  unfold mxI
  split <;> omega

theorem free_le (x : Tm) : ∀ {d : Nat} (a B : Int), Dp x d → 0 ≤ a → a + d ≤ 4294967296 → 0 ≤ B → (freeF x a ≤ B ↔ AllV (fun a n => n + 1 - a ≤ B) x a) := by
  induction x using Tm.ind with
  | h x ih =>
    intro d a B h h0 h1 hB
    obtain ⟨d', rfl, hp, hk⟩ := dp_node.1 h
    rw [freeF_eq]
    cases h2 : iEq x.k 2 with
    | true =>
      rw [AllV_var h2]
      obtain ⟨n0, n1⟩ := node_var hp h2
      show mxI 0 (subW (addW x.n 1) a) ≤ B ↔ _
      rw [addW_eq (by omega) (by omega), subW_eq (by omega) (by omega), mxI_le]
      omega
    | false =>
      rw [AllV_kids h2]
      show freeFs x.k x.ts 0 a 0 ≤ B ↔ _
      have key : ∀ (ts : List Tm), (∀ y ∈ ts, y ∈ x.ts) → ∀ (i : Nat) (acc : Int), freeFs x.k ts i a acc ≤ B ↔ (acc ≤ B ∧ ∀ j t, ts[j]? = some t → AllV (fun a n => n + 1 - a ≤ B) t (a + bindsF x.k (.ofNat (i + j)))) := by
        intro ts
        induction ts with
        | nil => intro _ i acc; rw [freeFs]; simp
        | cons t ts ih2 =>
          intro hm i acc
          have hb := bindsF_01 x.k (.ofNat i)
          have eb : addW a (bindsF x.k (.ofNat i)) = a + bindsF x.k (.ofNat i) := addW_eq (by rcases hb with h | h <;> omega) (by rcases hb with h | h <;> omega)
          rw [freeFs_cons, ih2 (fun y hy => hm y (List.mem_cons_of_mem _ hy)), mxI_le, eb, ih t (hm t List.mem_cons_self) _ B (hk t (hm t List.mem_cons_self)) (by rcases hb with h | h <;> omega) (by rcases hb with h | h <;> omega) hB]
          constructor
          · rintro ⟨⟨q1, q2⟩, q3⟩
            refine ⟨q1, fun j u hu => ?_⟩
            cases j with
            | zero => simp only [List.getElem?_cons_zero, Option.some.injEq] at hu; rw [← hu]; exact q2
            | succ j =>
              have := q3 j u (by simpa using hu)
              rw [show i + (j + 1) = i + 1 + j by omega]
              exact this
          · rintro ⟨q1, q2⟩
            refine ⟨⟨q1, q2 0 t rfl⟩, fun j u hu => ?_⟩
            have := q2 (j + 1) u (by simpa using hu)
            rw [show i + 1 + j = i + (j + 1) by omega]
            exact this
      rw [key x.ts (fun _ h => h) 0 0]
      simp only [Nat.zero_add]
      exact ⟨fun h => h.2, fun h => ⟨hB, h⟩⟩

theorem free_pos (x : Tm) (a : Int) : 0 ≤ freeF x a := by
  rw [freeF_eq]
  cases h2 : iEq x.k 2 with
  | true => show 0 ≤ mxI 0 _; unfold mxI; split <;> omega
  | false =>
    show 0 ≤ freeFs x.k x.ts 0 a 0
    have key : ∀ (ts : List Tm) (i : Nat) (acc : Int), 0 ≤ acc → 0 ≤ freeFs x.k ts i a acc := by
      intro ts
      induction ts with
      | nil => intro i acc h; rw [freeFs]; exact h
      | cons t ts ih => intro i acc h; rw [freeFs_cons]; exact ih _ _ (by unfold mxI; split <;> omega)
    exact key x.ts 0 0 (Int.le_refl _)

/-! ### Walks are maps -/

theorem nrms_nil_iff {ts : List Tm} : nrms ts = [] ↔ ts = [] := by rw [nrms_map, List.map_eq_nil_iff]

theorem nrm_walk {step : Unit → Tm → Int → Tm × Unit} {g : Int → Int → Tm} {B : Int} (hB : B ≤ 9223372036854775807) (hs : ∀ v a, iEq v.k 2 = true → nodeT v = true → 0 ≤ a → a ≤ B → nrm (step () v a).1 = g a v.n) (x : Tm) :
    ∀ {d : Nat} (a : Int), Dp x d → 0 ≤ a → a + d ≤ B → nrm (walkG step x () a).1 = mapT g x a := by
  induction x using Tm.ind with
  | h x ih =>
    intro d a h h0 hd
    obtain ⟨d', rfl, hp, hk⟩ := dp_node.1 h
    rw [walkG_eq, mapT_eq]
    cases h2 : iEq x.k 2 with
    | true => exact hs x a h2 hp h0 (by omega)
    | false =>
      show nrm (x.withT (walkGs step x.k x.ts 0 () a).1) = Tm.mk x.k x.n x.s true true true true x.ls (mapTs g x.k x.ts 0 a)
      have key : ∀ (ts : List Tm), (∀ y ∈ ts, y ∈ x.ts) → ∀ i, nrms (walkGs step x.k ts i () a).1 = mapTs g x.k ts i a := by
        intro ts
        induction ts with
        | nil => intro _ i; rw [walkGs, mapTs_nil, nrms_nil]
        | cons t ts ih2 =>
          intro hm i
          have hb := bindsF_01 x.k (.ofNat i)
          have eb : addW a (bindsF x.k (.ofNat i)) = a + bindsF x.k (.ofNat i) := addW_eq (by rcases hb with h | h <;> omega) (by rcases hb with h | h <;> omega)
          rw [walkGs, mapTs_cons]
          dsimp only
          rw [show (walkG step t () (addW a (bindsF x.k (.ofNat i)))).2 = () from rfl]
          rw [nrms_cons, eb, ih t (hm t List.mem_cons_self) _ (hk t (hm t List.mem_cons_self)) (by rcases hb with h | h <;> omega) (by rcases hb with h | h <;> omega)]
          rw [ih2 (fun y hy => hm y (List.mem_cons_of_mem _ hy)) (i + 1)]
      rw [nrm_eq]
      show Tm.mk x.k x.n x.s true true true true x.ls (nrms (walkGs step x.k x.ts 0 () a).1) = _
      rw [key x.ts (fun _ h => h) 0]

theorem node_isVar {x : Tm} (h : nodeT x = true) (h2 : iEq x.k 2 = true) : nrm x = varT x.n := by
  have hk : x.k = 2 := by rw [iEq_eq, decide_eq_true_eq] at h2; exact h2
  unfold nodeT at h
  simp only [Bool.and_eq_true] at h
  obtain ⟨⟨⟨_, h3⟩, _⟩, ⟨h4, _⟩, h5⟩ := h
  have e : kidsF x.k = 0 := by rw [hk]; rfl
  rw [e] at h3
  have h3 : iEq (.ofNat (lenN (encTs x.ts))) (.ofNat 0) = true := h3
  rw [iEq_nat, decide_eq_true_eq, encTs_len] at h3
  have h6 := List.eq_nil_of_length_eq_zero h3
  unfold nmOk at h4
  rw [hk] at h4
  have h4 : decide (x.s = []) = true := h4
  rw [decide_eq_true_eq] at h4
  unfold lvOk at h5
  rw [hk] at h5
  have h5 : iEq (.ofNat (lenN (x.ls.map enc))) (.ofNat 0) = true := h5
  rw [iEq_nat, decide_eq_true_eq, lenN_eq, List.length_map] at h5
  have h7 := List.eq_nil_of_length_eq_zero h5
  rw [nrm_eq, hk, h4, h6, h7, nrms_nil]
  rfl

/-- Each variable in its own place. -/
theorem mapT_id (x : Tm) : ∀ {d : Nat} (a : Int), Dp x d → mapT (fun _ n => varT n) x a = nrm x := by
  induction x using Tm.ind with
  | h x ih =>
    intro d a h
    obtain ⟨d', rfl, hp, hk⟩ := dp_node.1 h
    rw [mapT_eq]
    cases h2 : iEq x.k 2 with
    | true => exact (node_isVar hp h2).symm
    | false =>
      simp only [cond_false]
      rw [nrm_eq]
      have key : ∀ (ts : List Tm), (∀ y ∈ ts, y ∈ x.ts) → ∀ i, mapTs (fun _ n => varT n) x.k ts i a = nrms ts := by
        intro ts
        induction ts with
        | nil => intro _ i; rw [mapTs_nil, nrms_nil]
        | cons t ts ih2 =>
          intro hm i
          rw [mapTs_cons, nrms_cons, ih t (hm t List.mem_cons_self) _ (hk t (hm t List.mem_cons_self)), ih2 (fun y hy => hm y (List.mem_cons_of_mem _ hy))]
      rw [key x.ts (fun _ h => h) 0]

theorem nrm_withN (x : Tm) (n : Int) : nrm (x.withN n) = .mk x.k n x.s true true true true x.ls (nrms x.ts) := by rw [nrm_eq]; rfl
theorem nrm_var_withN {x : Tm} (h : nodeT x = true) (h2 : iEq x.k 2 = true) (n : Int) : nrm (x.withN n) = varT n := by
  have := node_isVar h h2
  rw [nrm_eq] at this
  injection this with h1 _ h3 _ _ _ _ h4 h5
  rw [nrm_withN, h1, h3, h4, h5]
  rfl

noncomputable def liftG (by_ : Int) (a n : Int) : Tm := if a ≤ n then varT (n + by_) else varT n
noncomputable def inst1 (u : Tm) (a n : Int) : Tm := if n < a then varT n else if n = a then mapT (liftG a) u 0 else varT (n - 1)
noncomputable def inst2 (u v : Tm) (a n : Int) : Tm := if n < a then varT n else if n = a then mapT (liftG a) v 0 else if n = a + 1 then mapT (liftG a) u 0 else varT (n - 2)
noncomputable def closeG (kk : Int) (a n : Int) : Tm := if n - a = kk then varT a else if a ≤ n ∧ n - a < kk then varT (n + 1) else varT n

theorem mapVar (g : Int → Int → Tm) (n a : Int) : mapT g (varT n) a = g a n := by rw [mapT_eq]; rfl

theorem nrm_lift {x : Tm} {d : Nat} (hd : Dp x d) {a b : Int} (h0 : 0 ≤ a) (h1 : a + d ≤ 4294967296) (hb : 0 ≤ b) (hb2 : b ≤ 4294967296) : nrm (liftT x a b) = mapT (liftG b) x a := by
  unfold liftT
  refine nrm_walk (B := 4294967296) (by omega) (fun v a h2 hp ha0 ha1 => ?_) x a hd h0 h1
  obtain ⟨n0, n1⟩ := node_var hp h2
  unfold liftStep liftG
  cases h3 : iLt v.n a with
  | true =>
    rw [iLt_iff] at h3
    rw [if_neg (by omega)]
    exact node_isVar hp h2
  | false =>
    rw [iLt_not] at h3
    rw [if_pos (by omega)]
    show nrm (v.withN (addW v.n b)) = _
    rw [addW_eq (by omega) (by omega)]
    exact nrm_var_withN hp h2 _

theorem nrm_inst1 {x u : Tm} {d e : Nat} (hd : Dp x d) (h1 : d ≤ 1000000000) (he : Dp u e) (h2 : e ≤ 1000000000) {a : Int} (h0 : 0 ≤ a) (ha : a + d ≤ 1000000000) : nrm (walkG (placeStep [u]) x () a).1 = mapT (inst1 u) x a := by
  refine nrm_walk (B := 1000000000) (by omega) (fun v a hk hp ha0 ha1 => ?_) x a hd h0 ha
  obtain ⟨n0, n1⟩ := node_var hp hk
  unfold inst1
  rcases placeK_cases (nn := v.n) (a := a) (m := [u].length) ha0 ha1 (by simp) with ⟨e1, h3⟩ | ⟨k, hk1, e1, h3, h4, h5⟩
  · rw [placeStep_no e1]
    have e2 : addW a (.ofNat [u].length) = a + 1 := addW_eq (by show _ ≤ a + 1; omega) (by show a + 1 ≤ _; omega)
    rw [e2] at h3
    cases h6 : iLt v.n a with
    | true =>
      rw [iLt_iff] at h6
      rw [if_pos h6]
      exact node_isVar hp hk
    | false =>
      rw [h6] at h3
      rcases h3 with h3 | h3
      · cases h3
      rw [iLt_not] at h3 h6
      rw [if_neg (by omega), if_neg (by omega)]
      show nrm (v.withN (subW v.n 1)) = _
      rw [subW_eq (by omega) (by omega)]
      exact nrm_var_withN hp hk _
  · have hk0 : k = 0 := by simp at hk1; exact hk1
    subst hk0
    rw [placeStep_at (y := u) e1 rfl]
    rw [iLt_not] at h3
    have e2 : addW a (.ofNat [u].length) = a + 1 := addW_eq (by show _ ≤ a + 1; omega) (by show a + 1 ≤ _; omega)
    rw [e2, iLt_iff] at h4
    rw [if_neg (by omega), if_pos (by omega)]
    exact nrm_lift he (by omega) (by omega) ha0 (by omega)

theorem nrm_inst2 {x u v : Tm} {d e f : Nat} (hd : Dp x d) (h1 : d ≤ 1000000000) (he : Dp u e) (h2 : e ≤ 1000000000) (hf : Dp v f) (h3 : f ≤ 1000000000) {a : Int} (h0 : 0 ≤ a) (ha : a + d ≤ 1000000000) : nrm (walkG (placeStep [u, v]) x () a).1 = mapT (inst2 u v) x a := by
  refine nrm_walk (B := 1000000000) (by omega) (fun w a hk hp ha0 ha1 => ?_) x a hd h0 ha
  obtain ⟨n0, n1⟩ := node_var hp hk
  unfold inst2
  have e2 : addW a (.ofNat [u, v].length) = a + 2 := addW_eq (by show _ ≤ a + 2; omega) (by show a + 2 ≤ _; omega)
  rcases placeK_cases (nn := w.n) (a := a) (m := [u, v].length) ha0 ha1 (by simp) with ⟨e1, h3⟩ | ⟨k, hk1, e1, h3, h4, h5⟩
  · rw [placeStep_no e1]
    rw [e2] at h3
    cases h6 : iLt w.n a with
    | true =>
      rw [iLt_iff] at h6
      rw [if_pos h6]
      exact node_isVar hp hk
    | false =>
      rw [h6] at h3
      rcases h3 with h3 | h3
      · cases h3
      rw [iLt_not] at h3 h6
      rw [if_neg (by omega), if_neg (by omega), if_neg (by omega)]
      show nrm (w.withN (subW w.n 2)) = _
      rw [subW_eq (by omega) (by omega)]
      exact nrm_var_withN hp hk _
  · rw [iLt_not] at h3
    rw [e2, iLt_iff] at h4
    have e3 : subW w.n a = w.n - a := subW_eq (by omega) (by omega)
    have e4 : subW (.ofNat [u, v].length) 1 = 1 := rfl
    rw [e3, e4, subW_eq (by omega) (by omega)] at h5
    have hk2 : k = 0 ∨ k = 1 := by simp at hk1; omega
    rcases hk2 with rfl | rfl
    · have h5 : 1 - (w.n - a) = 0 := h5
      rw [placeStep_at (y := u) e1 rfl]
      rw [if_neg (by omega), if_neg (by omega), if_pos (by omega)]
      exact nrm_lift he (by omega) (by omega) ha0 (by omega)
    · have h5 : 1 - (w.n - a) = 1 := h5
      rw [placeStep_at (y := v) e1 rfl]
      rw [if_neg (by omega), if_pos (by omega)]
      exact nrm_lift hf (by omega) (by omega) ha0 (by omega)

theorem nrm_close {x : Tm} {d : Nat} (hd : Dp x d) (h1 : d ≤ 1000000000) {kk : Int} (hk0 : 0 ≤ kk) (hk1 : kk ≤ 1000000000) : nrm (closeT x kk) = mapT (closeG kk) x 0 := by
  unfold closeT
  refine nrm_walk (B := 1000000000) (by omega) (fun v a h2 hp ha0 ha1 => ?_) x 0 hd (Int.le_refl _) (by omega)
  obtain ⟨n0, n1⟩ := node_var hp h2
  unfold closeStep closeG
  have e1 : subW v.n a = v.n - a := subW_eq (by omega) (by omega)
  rw [e1]
  cases h3 : iEq (v.n - a) kk with
  | true =>
    rw [iEq_eq, decide_eq_true_eq] at h3
    rw [if_pos h3]
    exact nrm_var_withN hp h2 _
  | false =>
    rw [iEq_eq, decide_eq_false_iff_not] at h3
    rw [if_neg h3]
    cases h4 : iLt (v.n - a) 0 with
    | true =>
      rw [iLt_iff] at h4
      rw [if_neg (by omega)]
      exact node_isVar hp h2
    | false =>
      rw [iLt_not] at h4
      cases h5 : iLt (v.n - a) kk with
      | true =>
        rw [iLt_iff] at h5
        rw [if_pos (by omega)]
        show nrm (v.withN (addW v.n 1)) = _
        rw [addW_eq (by omega) (by omega)]
        exact nrm_var_withN hp h2 _
      | false =>
        rw [iLt_not] at h5
        rw [if_neg (by omega)]
        exact node_isVar hp h2

/-! ### What the package answers -/

theorem lift_ok {x : Tm} {a b : Int} (hm : mayT x = true) (h0 : 0 ≤ a) (h1 : a ≤ 1073741824) (hb : 0 ≤ b) (hb2 : b ≤ 1073741824) (hr : mayT (liftT x a b) = true) : liftM x a b = (liftT x a b, 0) := by
  unfold liftM
  have e0 : iLt a 0 = false := by rw [iLt_not]; exact h0
  obtain ⟨r, hs⟩ := may_some hm
  have e1 := held_eq (by omega : -2147483648 ≤ b) (by omega) x hs false a h0 (by omega)
  rw [Bool.false_or, btw_none x a (a - b) _ _ _ hs (by omega) (by omega) (by omega)] at e1
  rw [e0, hm, e1]
  show toldT _ = _
  unfold toldT
  rw [hr]

theorem close_ok {x : Tm} {kk : Int} (hm : mayT x = true) (h0 : 0 ≤ kk) (hr : mayT (closeT x kk) = true) : closeM x kk = (closeT x kk, 0) := by
  unfold closeM
  have e0 : iLt kk 0 = false := by rw [iLt_not]; exact h0
  rw [e0, hm]
  show toldT _ = _
  unfold toldT
  rw [hr]

end Go.Ev

/- Terms: the laws of lifts, of terms in the place of variables, of closed ones, in plain terms (own work). -/
namespace Go.Ev
open Go.Proofs
set_option maxRecDepth 100000
set_option linter.unusedSimpArgs false
set_option linter.unusedVariables false

/-! ### Each variable -/

theorem liftG_ge {b a n : Int} (h : a ≤ n) : liftG b a n = varT (n + b) := if_pos h
theorem liftG_lt {b a n : Int} (h : n < a) : liftG b a n = varT n := if_neg (by omega)
theorem inst1_lt {u : Tm} {a n : Int} (h : n < a) : inst1 u a n = varT n := if_pos h
theorem inst1_eq (u : Tm) (a : Int) : inst1 u a a = mapT (liftG a) u 0 := by unfold inst1; rw [if_neg (by omega), if_pos rfl]
theorem inst1_gt {u : Tm} {a n : Int} (h : a < n) : inst1 u a n = varT (n - 1) := by unfold inst1; rw [if_neg (by omega), if_neg (by omega)]
theorem inst2_lt {u v : Tm} {a n : Int} (h : n < a) : inst2 u v a n = varT n := if_pos h
theorem inst2_0 (u v : Tm) (a : Int) : inst2 u v a a = mapT (liftG a) v 0 := by unfold inst2; rw [if_neg (by omega), if_pos rfl]
theorem inst2_1 (u v : Tm) (a : Int) : inst2 u v a (a + 1) = mapT (liftG a) u 0 := by unfold inst2; rw [if_neg (by omega), if_neg (by omega), if_pos rfl]
theorem inst2_gt {u v : Tm} {a n : Int} (h : a + 1 < n) : inst2 u v a n = varT (n - 2) := by unfold inst2; rw [if_neg (by omega), if_neg (by omega), if_neg (by omega)]
theorem closeG_eq {k a n : Int} (h : n - a = k) : closeG k a n = varT a := if_pos h
theorem closeG_in {k a n : Int} (h : a ≤ n) (h2 : n - a < k) : closeG k a n = varT (n + 1) := by unfold closeG; rw [if_neg (by omega), if_pos ⟨h, h2⟩]
theorem closeG_out {k a n : Int} (h : n - a ≠ k) (h2 : n < a ∨ k < n - a) : closeG k a n = varT n := by unfold closeG; rw [if_neg h, if_neg (by omega)]

theorem mapT_ext {f g : Int → Int → Tm} {x : Tm} {a : Int} (h : ∀ a n, f a n = g a n) : mapT f x a = mapT g x a := by
  rw [show f = g from funext fun a => funext fun n => h a n]

theorem mapT_comp0 {f g : Int → Int → Tm} (x : Tm) (c : Int) : mapT f (mapT g x c) c = mapT (fun c n => mapT f (g c n) c) x c := by
  have := mapT_comp (f := f) (g := g) 0 x c
  simp only [Int.zero_add] at this
  exact this

theorem mapT_at {f g : Int → Int → Tm} (a : Int) (x : Tm) : mapT f (mapT g x 0) a = mapT (fun c n => mapT f (g c n) (a + c)) x 0 := by
  have := mapT_comp (f := f) (g := g) a x 0
  simp only [Int.add_zero] at this
  exact this

/-- Lifted by one number and by another. -/
theorem lift_at {x y c n : Int} (hx : 0 ≤ x) : mapT (liftG y) (liftG x c n) c = liftG (x + y) c n := by
  by_cases h : c ≤ n
  · rw [liftG_ge h, mapVar, liftG_ge (by omega), liftG_ge h, Int.add_assoc]
  · rw [liftG_lt (by omega), mapVar, liftG_lt (by omega), liftG_lt (by omega)]

theorem map_lift2 {x y : Int} (hx : 0 ≤ x) (t : Tm) : mapT (liftG y) (mapT (liftG x) t 0) 0 = mapT (liftG (x + y)) t 0 := by
  rw [mapT_comp0]
  exact mapT_ext (fun c n => lift_at hx)

/-- Lifted below binders. -/
theorem map_lift_under {a b : Int} (ha : 0 ≤ a) (v : Tm) : mapT (liftG b) (mapT (liftG a) v 0) a = mapT (liftG (a + b)) v 0 := by
  rw [mapT_at]
  refine mapT_ext (fun c n => ?_)
  by_cases h : c ≤ n
  · rw [liftG_ge h, mapVar, liftG_ge (by omega), liftG_ge h, Int.add_assoc]
  · rw [liftG_lt (by omega), mapVar, liftG_lt (by omega), liftG_lt (by omega)]

/-- What was lifted is back. -/
theorem map_back (u : Tm) (t : Tm) : mapT (inst1 u) (mapT (liftG 1) t 0) 0 = mapT (fun _ n => varT n) t 0 := by
  rw [mapT_comp0]
  refine mapT_ext (fun c n => ?_)
  by_cases h : c ≤ n
  · rw [liftG_ge h, mapVar, inst1_gt (by omega), Int.add_sub_cancel]
  · rw [liftG_lt (by omega), mapVar, inst1_lt (by omega)]

/-- A term in the place of a variable that is not there. -/
theorem map_over {a : Int} (ha : 0 ≤ a) (u v : Tm) : mapT (inst1 u) (mapT (liftG (a + 1)) v 0) a = mapT (liftG a) v 0 := by
  rw [mapT_at]
  refine mapT_ext (fun c n => ?_)
  by_cases h : c ≤ n
  · rw [liftG_ge h, mapVar, inst1_gt (by omega), liftG_ge h, show n + (a + 1) - 1 = n + a by omega]
  · rw [liftG_lt (by omega), mapVar, inst1_lt (by omega), liftG_lt (by omega)]

/-- What was closed is opened. -/
theorem map_open {N : Int} (hN : 0 ≤ N) {w : Tm} (hw : nrm w = varT N) (t : Tm) (h : AllV (fun a n => n + 1 - a ≤ N + 1) t 0) : mapT (inst1 w) (mapT (closeG N) t 0) 0 = mapT (fun _ n => varT n) t 0 := by
  rw [mapT_comp0]
  refine mapT_congr t 0 (allV_mono t 0 (fun a n h => ?_) h)
  by_cases h1 : n - a = N
  · rw [closeG_eq h1, mapVar, inst1_eq, ← mapT_nrm, hw, mapVar, liftG_ge hN, show N + a = n by omega]
  · by_cases h2 : a ≤ n
    · rw [closeG_in h2 (by omega), mapVar, inst1_gt (by omega), Int.add_sub_cancel]
    · rw [closeG_out h1 (by omega), mapVar, inst1_lt (by omega)]

theorem map_none_inst {u : Tm} (t : Tm) (h : AllV (fun a n => n + 1 - a ≤ 0) t 0) : mapT (inst1 u) t 0 = mapT (fun _ n => varT n) t 0 :=
  mapT_congr t 0 (allV_mono t 0 (fun a n h => inst1_lt (by omega)) h)
theorem map_none_lift {b : Int} (t : Tm) (h : AllV (fun a n => n + 1 - a ≤ 0) t 0) : mapT (liftG b) t 0 = mapT (fun _ n => varT n) t 0 :=
  mapT_congr t 0 (allV_mono t 0 (fun a n h => liftG_lt (by omega)) h)

/-- Two terms at once. -/
theorem map_twice (u v : Tm) (t : Tm) (h : AllV (fun a n => 0 ≤ a) t 0) : mapT (inst1 u) (mapT (inst1 (mapT (liftG 1) v 0)) t 0) 0 = mapT (inst2 u v) t 0 := by
  rw [mapT_comp0]
  refine mapT_congr t 0 (allV_mono t 0 (fun a n h => ?_) h)
  by_cases h1 : n < a
  · rw [inst1_lt h1, mapVar, inst1_lt h1, inst2_lt h1]
  · by_cases h2 : n = a
    · subst h2
      rw [inst1_eq, map_lift2 (by omega), Int.add_comm 1 n, map_over h, inst2_0]
    · rw [inst1_gt (by omega), mapVar]
      by_cases h3 : n = a + 1
      · subst h3
        rw [Int.add_sub_cancel, inst1_eq, inst2_1]
      · rw [inst1_gt (by omega), inst2_gt (by omega), show n - 1 - 1 = n - 2 by omega]

/-- A term in the place of a variable, lifted. -/
theorem map_inst_under {a : Int} (ha : 0 ≤ a) (u v : Tm) (h : AllV (fun a n => 0 ≤ a) u 0) : mapT (inst1 v) (mapT (liftG a) u 0) a = mapT (liftG a) (mapT (inst1 v) u 0) 0 := by
  rw [mapT_at, mapT_comp0]
  refine mapT_congr u 0 (allV_mono u 0 (fun c n h => ?_) h)
  by_cases h1 : n < c
  · rw [liftG_lt h1, mapVar, inst1_lt (by omega), inst1_lt h1, mapVar, liftG_lt h1]
  · rw [liftG_ge (by omega), mapVar]
    by_cases h2 : n = c
    · subst h2
      rw [Int.add_comm n a, inst1_eq, inst1_eq, map_lift_under h, Int.add_comm]
    · rw [inst1_gt (by omega), inst1_gt (by omega), mapVar, liftG_ge (by omega), show n + a - 1 = n - 1 + a by omega]

/-- A term in the place of a variable, and then another one. -/
theorem map_after (u v : Tm) (t : Tm) (h : AllV (fun a n => 0 ≤ a) t 0) (hu : AllV (fun a n => 0 ≤ a) u 0) : mapT (inst1 v) (mapT (inst1 u) t 0) 0 = mapT (inst2 v (mapT (inst1 v) u 0)) t 0 := by
  rw [mapT_comp0]
  refine mapT_congr t 0 (allV_mono t 0 (fun a n h => ?_) h)
  by_cases h1 : n < a
  · rw [inst1_lt h1, mapVar, inst1_lt h1, inst2_lt h1]
  · by_cases h2 : n = a
    · subst h2
      rw [inst1_eq, map_inst_under h u v hu, inst2_0]
    · rw [inst1_gt (by omega), mapVar]
      by_cases h3 : n = a + 1
      · subst h3
        rw [Int.add_sub_cancel, inst1_eq, inst2_1]
      · rw [inst1_gt (by omega), inst2_gt (by omega), show n - 1 - 1 = n - 2 by omega]

/-- A term without variables. -/
theorem map_const {f : Int → Int → Tm} {c : Tm} (hc : c.ts = []) (hk : iEq c.k 2 = false) (a : Int) : mapT f c a = nrm c := by
  rw [mapT_eq, hk, nrm_eq, hc, nrms_nil, mapTs_nil]
  rfl

/-- No variable is caught. -/
theorem map_names (u fr : Tm) (hc : fr.ts = []) (hk : iEq fr.k 2 = false) (t : Tm) (h : AllV (fun a n => 0 ≤ a) t 0) : mapT (inst1 u) (mapT (inst1 fr) t 0) 0 = mapT (inst1 fr) (mapT (inst1 u) t 1) 0 := by
  have e := mapT_comp (f := inst1 fr) (g := inst1 u) (-1) t 1
  rw [show (-1 : Int) + 1 = 0 from rfl] at e
  rw [e]
  have e2 := mapT_shift (f := fun c n => mapT (inst1 fr) (inst1 u c n) (-1 + c)) 1 t 0
  rw [show (1 : Int) + 0 = 1 from rfl] at e2
  rw [e2, mapT_comp0]
  refine mapT_congr t 0 (allV_mono t 0 (fun a n h => ?_) h)
  rw [show -1 + (1 + a) = a by omega]
  have efr : ∀ g b, mapT g fr b = nrm fr := fun g b => map_const hc hk b
  have efr2 : ∀ g b, mapT g (nrm fr) b = nrm fr := fun g b => by rw [mapT_nrm, efr]
  by_cases h1 : n < a
  · rw [inst1_lt h1, mapVar, inst1_lt h1, inst1_lt (by omega), mapVar, inst1_lt h1]
  · by_cases h2 : n = a
    · subst h2
      rw [inst1_eq, efr, efr2, inst1_lt (by omega), mapVar, inst1_eq, efr]
    · rw [inst1_gt (by omega), mapVar]
      by_cases h3 : n = a + 1
      · subst h3
        rw [Int.add_sub_cancel, inst1_eq, Int.add_comm 1 a, inst1_eq, map_over h]
      · rw [inst1_gt (by omega), inst1_gt (by omega), mapVar, inst1_gt (by omega)]

/-! ### What may be -/

/-- What is known of a term's variables. -/
theorem allV_may {t : Tm} {d : Nat} (h : Dp t d) {F : Int} (hd : d ≤ 1000000) (hF : freeF t 0 ≤ F) : AllV (fun a n => (0 ≤ n ∧ n ≤ 1048576 ∧ 0 ≤ a ∧ a ≤ d) ∧ n + 1 - a ≤ F) t 0 :=
  allV_and t 0 (allV_scan t 0 h (Int.le_refl _) (by omega)) ((free_le t 0 F h (Int.le_refl _) (by omega) (by have := free_pos t 0; omega)).1 hF)

theorem allV_pos {t : Tm} {d : Nat} (h : Dp t d) : AllV (fun a n => 0 ≤ a) t 0 :=
  allV_mono t 0 (fun a n h => h.2.2.1) (allV_scan (hi := d) t 0 h (Int.le_refl _) (by omega))

theorem nrm_lift0 {t : Tm} (h : mayT t = true) {b : Int} (hb : 0 ≤ b) (hb2 : b ≤ 4294967296) : nrm (liftT t 0 b) = mapT (liftG b) t 0 := nrm_lift (may_dp h) (Int.le_refl _) (by omega) hb hb2
theorem nrm_inst0 {t u : Tm} (h : mayT t = true) (hu : mayT u = true) : nrm (instTm t [u]) = mapT (inst1 u) t 0 := nrm_inst1 (may_dp h) (by omega) (may_dp hu) (by omega) (Int.le_refl _) (by omega)
theorem nrm_inst00 {t u v : Tm} (h : mayT t = true) (hu : mayT u = true) (hv : mayT v = true) : nrm (instTm t [u, v]) = mapT (inst2 u v) t 0 := nrm_inst2 (may_dp h) (by omega) (may_dp hu) (by omega) (may_dp hv) (by omega) (Int.le_refl _) (by omega)
theorem nrm_close0 {t : Tm} (h : mayT t = true) {k : Int} (hk : 0 ≤ k) (hk2 : k ≤ 1000000) : nrm (closeT t k) = mapT (closeG k) t 0 := nrm_close (may_dp h) (by omega) hk (by omega)

theorem may_lift {t : Tm} (hm : mayT t = true) {F b : Int} (hF : freeF t 0 ≤ F) (hb : 0 ≤ b) (hFb : F + 4096 + b ≤ 1048576) : mayT (liftT t 0 b) = true := by
  have hFp := free_pos t 0
  refine dp_may (d := 4096) ?_ (Nat.le_refl _) (by rw [(lift_keeps t 0 b).2.2]; exact may_size hm)
  rw [← dp_nrm, nrm_lift0 hm hb (by omega)]
  refine dp_map (e := 0) t 0 (may_dp hm) (allV_mono t 0 (fun a n h => ?_) (allV_may (may_dp hm) (by omega) hF))
  by_cases h1 : a ≤ n
  · rw [liftG_ge h1]; exact dp_varT (by omega) (by omega)
  · rw [liftG_lt (by omega)]; exact dp_varT (by omega) (by omega)

theorem may_close {t : Tm} (hm : mayT t = true) {k : Int} (hk : 0 ≤ k) (hk2 : k ≤ 1000) : mayT (closeT t k) = true := by
  refine dp_may (d := 4096) ?_ (Nat.le_refl _) (by rw [(close_keeps t k).2.2]; exact may_size hm)
  rw [← dp_nrm, nrm_close0 hm hk (by omega)]
  refine dp_map (e := 0) t 0 (may_dp hm) (allV_mono t 0 (fun a n h => ?_) (allV_scan (lo := 0) (hi := 4096) t 0 (may_dp hm) (Int.le_refl _) (by omega)))
  by_cases h1 : n - a = k
  · rw [closeG_eq h1]; exact dp_varT (by omega) (by omega)
  · by_cases h2 : a ≤ n ∧ n - a < k
    · rw [closeG_in h2.1 h2.2]; exact dp_varT (by omega) (by omega)
    · rw [closeG_out h1 (by omega)]; exact dp_varT (by omega) (by omega)

/-- The variable N in the place of a variable. -/
theorem may_open {c w : Tm} {N : Int} (hm : mayT c = true) (hw : nrm w = varT N) (h0 : 0 ≤ N) (h1 : N ≤ 1000) : mayT w = true ∧ mayT (instTm c [w]) = true := by
  have hsw : sizeT w = 1 := by rw [← size_nrm, hw, sizeT_eq]; show 1 + sizeTs [] = 1; rw [sizeTs]
  have hmw : mayT w = true := dp_may (d := 1) (by rw [← dp_nrm, hw]; exact dp_varT h0 (by omega)) (by omega) (by omega)
  refine ⟨hmw, ?_⟩
  obtain ⟨r, hs⟩ := may_some hm
  have hz := size_grown (l := [w]) (M := 1) (Nat.le_refl _) (fun y hy => by cases hy with | head => omega | tail _ h => cases h) c hs 0
  rw [Nat.mul_one] at hz
  have hcs := may_size hm
  refine dp_may (d := 4096) ?_ (Nat.le_refl _) (by unfold instTm; omega)
  rw [← dp_nrm, nrm_inst0 hm hmw]
  refine dp_map (e := 0) c 0 (may_dp hm) (allV_mono c 0 (fun a n h => ?_) (allV_scan (lo := 0) (hi := 4096) c 0 (may_dp hm) (Int.le_refl _) (by omega)))
  by_cases h2 : n < a
  · rw [inst1_lt h2]; exact dp_varT (by omega) (by omega)
  · by_cases h3 : n = a
    · subst h3
      rw [inst1_eq, ← mapT_nrm, hw, mapVar, liftG_ge h0]; exact dp_varT (by omega) (by omega)
    · rw [inst1_gt (by omega)]; exact dp_varT (by omega) (by omega)

theorem nrm_id {t : Tm} (h : mayT t = true) : mapT (fun _ n => varT n) t 0 = nrm t := mapT_id t 0 (may_dp h)

/-! ### SubstLaws -/

structure LawsOk (t u w : Tm) (x y N : Int) : Prop where
  one : mayT (liftT t 0 x) = true
  two : mayT (liftT (liftT t 0 x) 0 y) = true
  both : mayT (liftT t 0 (x + y)) = true
  up : mayT (liftT t 0 1) = true
  back : mayT (instTm (liftT t 0 1) [u]) = true
  same2 : sameT (liftT (liftT t 0 x) 0 y) (liftT t 0 (x + y)) = true
  sameB : sameT (instTm (liftT t 0 1) [u]) t = true
  close : mayT (closeT t N) = true
  mw : mayT w = true
  again : mayT (instTm (closeT t N) [w]) = true
  sameA : freeF t 0 ≤ N + 1 → sameT (instTm (closeT t N) [w]) t = true
  none : freeF t 0 = 0 → mayT (instTm t [u]) = true ∧ sameT (instTm t [u]) t = true ∧ sameT (liftT t 0 x) t = true

theorem laws_ok {t u w : Tm} {x y N : Int} (ht : mayT t = true) (hu : mayT u = true) (hF : freeF t 0 ≤ 524288) (hx : 0 ≤ x) (hx2 : x < 1000) (hy : 0 ≤ y) (hy2 : y < 1000) (hN : 0 ≤ N) (hN2 : N < 1000) (hw : nrm w = varT N) : LawsOk t u w x y N := by
  have one := may_lift ht hF hx (by omega)
  have both := may_lift ht hF (show 0 ≤ x + y by omega) (by omega)
  have up := may_lift ht hF (show (0 : Int) ≤ 1 by omega) (by omega)
  have e2 : nrm (liftT (liftT t 0 x) 0 y) = nrm (liftT t 0 (x + y)) := by
    rw [nrm_lift0 one hy (by omega), nrm_lift0 ht (by omega) (by omega), ← mapT_nrm (liftT t 0 x), nrm_lift0 ht hx (by omega), map_lift2 hx]
  have eb : nrm (instTm (liftT t 0 1) [u]) = nrm t := by
    rw [nrm_inst0 up hu, ← mapT_nrm, nrm_lift0 ht (by omega) (by omega), map_back, nrm_id ht]
  have close := may_close ht hN (by omega)
  obtain ⟨mw, again⟩ := may_open close hw hN (by omega)
  refine ⟨one, by rw [may_nrm e2]; exact both, both, up, by rw [may_nrm eb]; exact ht, same_nrm _ e2, same_nrm _ eb, close, mw, again, fun h => same_nrm _ ?_, fun h => ?_⟩
  · rw [nrm_inst0 close mw, ← mapT_nrm, nrm_close0 ht hN (by omega), map_open hN hw t ((free_le t 0 (N + 1) (may_dp ht) (Int.le_refl _) (by omega) (by omega)).1 h), nrm_id ht]
  · have ha := (free_le t 0 0 (may_dp ht) (Int.le_refl _) (by omega) (by omega)).1 (by omega)
    have ei : nrm (instTm t [u]) = nrm t := by rw [nrm_inst0 ht hu, map_none_inst t ha, nrm_id ht]
    refine ⟨by rw [may_nrm ei]; exact ht, same_nrm _ ei, same_nrm _ ?_⟩
    rw [nrm_lift0 ht hx (by omega), map_none_lift t ha, nrm_id ht]

/-! ### Terms that are small -/

structure Bd (x : Tm) (p s : Nat) (b : Int) : Prop where
  dp : Dp x p
  sz : sizeT x ≤ s
  va : ∀ a, AllV (fun _ n => n ≤ b) x a

theorem Bd.may {x : Tm} {p s : Nat} {b : Int} (h : Bd x p s b) (hp : p ≤ 4096) (hs : s ≤ 65536) : mayT x = true := dp_may h.dp hp (by have := h.sz; omega)

theorem Bd.scan {x : Tm} {p s : Nat} {b : Int} (h : Bd x p s b) : AllV (fun a n => (0 ≤ n ∧ n ≤ 1048576 ∧ 0 ≤ a ∧ a ≤ p) ∧ n ≤ b) x 0 :=
  allV_and x 0 (allV_scan x 0 h.dp (Int.le_refl _) (by omega)) (h.va 0)

theorem bd_of {x : Tm} {s : Nat} {F : Int} (hm : mayT x = true) (hs : sizeT x ≤ s) (hs2 : s ≤ 65536) (hF : freeF x 0 ≤ F) : Bd x s s (F + s) := by
  have hd : Dp x s := dp_mono (dp_size x (may_dp hm)) hs
  refine ⟨hd, hs, fun a => allV_any x 0 a ?_⟩
  exact allV_mono x 0 (fun a n h => by omega) (allV_may hd (by omega) hF)

theorem bd_map {x : Tm} {g : Int → Int → Tm} {p s e : Nat} {b c : Int} (h : Bd x p s b) (hg : ∀ a n : Int, 0 ≤ n → 0 ≤ a → a ≤ (p : Int) → n ≤ b → Dp (g a n) (e + 1) ∧ ∀ k, AllV (fun _ n => n ≤ c) (g a n) k) : Dp (mapT g x 0) (p + e) ∧ ∀ a, AllV (fun _ n => n ≤ c) (mapT g x 0) a := by
  refine ⟨dp_map x 0 h.dp (allV_mono x 0 (fun a n h => (hg a n (by omega) (by omega) (by omega) h.2).1) h.scan), fun a => ?_⟩
  have := allV_map (Q := fun _ n => n ≤ c) 0 x 0 (allV_mono x 0 (fun a n h => (hg a n (by omega) (by omega) (by omega) h.2).2 _) h.scan)
  exact allV_any _ _ _ this

theorem bd_nrm {x y : Tm} {p s : Nat} {b : Int} (e : nrm x = y) (h1 : Dp y p) (h2 : ∀ a, AllV (fun _ n => n ≤ b) y a) (h3 : sizeT x ≤ s) : Bd x p s b := by
  subst e
  exact ⟨(dp_nrm x).1 h1, h3, fun a => (allV_nrm x a).1 (h2 a)⟩

theorem bd_varT {n b : Int} (h0 : 0 ≤ n) (h1 : n ≤ 1048576) (h2 : n ≤ b) (d : Nat) : Dp (varT n) (d + 1) ∧ ∀ k, AllV (fun _ n => n ≤ b) (varT n) k :=
  ⟨dp_varT h0 h1, fun k => (AllV_var (show iEq (varT n).k 2 = true from rfl)).2 h2⟩

theorem bd_liftG {u : Tm} {q s : Nat} {b : Int} (h : Bd u q s b) (hq : 1 ≤ q) {a : Int} (h0 : 0 ≤ a) (hb : b + a ≤ 1048576) : Dp (mapT (liftG a) u 0) q ∧ ∀ k, AllV (fun _ n => n ≤ b + a) (mapT (liftG a) u 0) k := by
  refine bd_map (e := 0) h (fun c n hn hc hcp hnb => ?_)
  by_cases h1 : c ≤ n
  · rw [liftG_ge h1]; exact bd_varT (by omega) (by omega) (by omega) 0
  · rw [liftG_lt (by omega)]; exact bd_varT (by omega) (by omega) (by omega) 0

theorem bd_lift {u : Tm} {q s : Nat} {b : Int} (h : Bd u q s b) (hq : q ≤ 4096) {a : Int} (h0 : 0 ≤ a) (h1 : a ≤ 1000000) (hq1 : 1 ≤ q) (hb : b + a ≤ 1048576) : Bd (liftT u 0 a) q s (b + a) := by
  obtain ⟨k1, k2⟩ := bd_liftG h hq1 h0 hb
  exact bd_nrm (nrm_lift h.dp (Int.le_refl _) (by omega) h0 (by omega)) k1 k2 (by rw [(lift_keeps u 0 a).2.2]; exact h.sz)

theorem bd_dp_pos {u : Tm} {q : Nat} (h : Dp u q) : 1 ≤ q := by
  obtain ⟨d', rfl, _⟩ := dp_node.1 h
  omega

theorem bd_inst1 {x u : Tm} {p s q s2 : Nat} {b c : Int} (h : Bd x p s b) (hu : Bd u q s2 c) (hp : p ≤ 4096) (hq : q ≤ 4096) {B : Int} (h1 : b ≤ B) (h2 : c + p ≤ B) (hB : B ≤ 1048576) : Bd (instTm x [u]) (p + q) (s * s2) B := by
  have hq1 := bd_dp_pos hu.dp
  obtain ⟨q', rfl⟩ : ∃ q', q = q' + 1 := ⟨q - 1, by omega⟩
  obtain ⟨k1, k2⟩ := bd_map (g := inst1 u) (e := q') (c := B) h (fun a n hn ha hap hnb => by
    by_cases h3 : n < a
    · rw [inst1_lt h3]; exact bd_varT (by omega) (by omega) (by omega) _
    · by_cases h4 : n = a
      · subst h4
        rw [inst1_eq]
        obtain ⟨m1, m2⟩ := bd_liftG (a := n) hu (by omega) ha (by omega)
        exact ⟨m1, fun k => allV_mono _ _ (fun _ n h => by omega) (m2 k)⟩
      · rw [inst1_gt (by omega)]; exact bd_varT (by omega) (by omega) (by omega) _)
  have hz := size_grown (l := [u]) (M := s2) (by have := hu.sz; have := sizeT_pos u; omega) (fun y hy => by cases hy with | head => exact hu.sz | tail _ h => cases h) x h.dp 0
  exact bd_nrm (nrm_inst1 h.dp (by omega) hu.dp (by omega) (Int.le_refl _) (by omega)) (dp_mono k1 (by omega)) k2 (Nat.le_trans hz (Nat.mul_le_mul_right _ h.sz))

theorem bd_inst2 {x u v : Tm} {p s q s2 : Nat} {b c : Int} (h : Bd x p s b) (hu : Bd u q s2 c) (hv : Bd v q s2 c) (hp : p ≤ 4096) (hq : q ≤ 4096) {B : Int} (h1 : b ≤ B) (h2 : c + p ≤ B) (hB : B ≤ 1048576) : Bd (instTm x [u, v]) (p + q) (s * s2) B := by
  have hq1 := bd_dp_pos hu.dp
  obtain ⟨q', rfl⟩ : ∃ q', q = q' + 1 := ⟨q - 1, by omega⟩
  obtain ⟨k1, k2⟩ := bd_map (g := inst2 u v) (e := q') (c := B) h (fun a n hn ha hap hnb => by
    by_cases h3 : n < a
    · rw [inst2_lt h3]; exact bd_varT (by omega) (by omega) (by omega) _
    · by_cases h4 : n = a
      · subst h4
        rw [inst2_0]
        obtain ⟨m1, m2⟩ := bd_liftG (a := n) hv (by omega) ha (by omega)
        exact ⟨m1, fun k => allV_mono _ _ (fun _ n h => by omega) (m2 k)⟩
      · by_cases h5 : n = a + 1
        · subst h5
          rw [inst2_1]
          obtain ⟨m1, m2⟩ := bd_liftG (a := a) hu (by omega) ha (by omega)
          exact ⟨m1, fun k => allV_mono _ _ (fun _ n h => by omega) (m2 k)⟩
        · rw [inst2_gt (by omega)]; exact bd_varT (by omega) (by omega) (by omega) _)
  have hz := size_grown (l := [u, v]) (M := s2) (by have := hu.sz; have := sizeT_pos u; omega) (fun y hy => by
    cases hy with
    | head => exact hu.sz
    | tail _ h => cases h with
      | head => exact hv.sz
      | tail _ h => cases h) x h.dp 0
  exact bd_nrm (nrm_inst2 h.dp (by omega) hu.dp (by omega) hv.dp (by omega) (Int.le_refl _) (by omega)) (dp_mono k1 (by omega)) k2 (Nat.le_trans hz (Nat.mul_le_mul_right _ h.sz))

theorem Bd.mono {x : Tm} {p s q r : Nat} {b c : Int} (h : Bd x p s b) (h1 : p ≤ q) (h2 : s ≤ r) (h3 : b ≤ c) : Bd x q r c :=
  ⟨dp_mono h.dp h1, Nat.le_trans h.sz h2, fun a => allV_mono x a (fun _ n h => by omega) (h.va a)⟩

end Go.Ev

/- Terms: what the package answers, where all may be; SubstLaws, walked and proved (own work). -/
namespace Go.Ev
open Go.Proofs Go.RowKit
set_option maxRecDepth 100000
set_option linter.unusedSimpArgs false
set_option linter.unusedVariables false

/-- A term, as a row of a slice. -/
@[reducible] noncomputable def encS (x : Tm) : V := .agg (mapN cellStrip (cellsT x))
theorem encS_eq (x : Tm) : encS x = encA x := by
  show V.agg [_, _, _, cellStrip (.list _ (tkOf x.b) 0 _), cellStrip (.list _ (tkOf x.d) 0 _)] = _
  rw [strip_tk, strip_tk]
  rfl

theorem f38_may (n : Nat) (x : Tm) (a b : Int) (S : St) (hsm : Sm x) (hm : mayT x = true) (hw : wt x < n) (h0 : 0 ≤ a) (h1 : a ≤ 1073741824) (hb : 0 ≤ b) (hb2 : b ≤ 1073741824) (hr : mayT (liftT x a b) = true) :
    run Try.cfg (n + 15) (.f 38) [encA x, .int .i64 a, .int .i64 b] S = some (encP2 (liftT x a b, 0), S) := by
  have k := lift_keeps x a b
  have := f38_ok n x a b S hsm (by have := may_size hm; omega) hw (k.2.1 hsm) (by rw [k.1]; exact hw)
  rwa [lift_ok hm h0 h1 hb hb2 hr] at this

theorem f54_may (n : Nat) (x : Tm) (k : Int) (S : St) (hsm : Sm x) (hm : mayT x = true) (hw : wt x < n) (h0 : 0 ≤ k) (hr : mayT (closeT x k) = true) :
    run Try.cfg (n + 15) (.f 54) [encA x, .int .i64 k] S = some (encP2 (closeT x k, 0), S) := by
  have kk := close_keeps x k
  have := f54_ok n x k S hsm (by have := may_size hm; omega) hw (kk.2.1 hsm) (by rw [kk.1]; exact hw)
  rwa [close_ok hm h0 hr] at this

theorem f37_may1 (n q r : Nat) (x u : Tm) (S : St) (hsm : Sm x) (hm : mayT x = true) (hw : wt x < n) (hsu : Sm u) (hmu : mayT u = true) (hwu : wt u < q) (hr : mayT (instTm x [u]) = true) (hwr : wt (instTm x [u]) < r) :
    run Try.cfg (n + q + r + 16) (.f 37) [encA x, .list 5 .tight 0 [encS u]] S = some (encP2 (instTm x [u], 0), S) := by
  rw [encS_eq]
  have hs : ∀ y ∈ [u], Sm y := fun y hy => by cases hy with | head => exact hsu | tail _ h => cases h
  have := f37_1 n q r x u true true S hsm (by have := may_size hm; omega) hw hwu (by have := may_size hmu; omega) hsu (inst_keeps hs x () 0 hsm) hwr
  rwa [inst_ok hm (fun y hy => by cases hy with | head => exact hmu | tail _ h => cases h) (by simp) hr] at this

theorem f37_may2 (n q r : Nat) (x u v : Tm) (S : St) (hsm : Sm x) (hm : mayT x = true) (hw : wt x < n) (hsu : Sm u) (hmu : mayT u = true) (hwu : wt u < q) (hsv : Sm v) (hmv : mayT v = true) (hwv : wt v < q) (hr : mayT (instTm x [u, v]) = true) (hwr : wt (instTm x [u, v]) < r) :
    run Try.cfg (n + q + r + 16) (.f 37) [encA x, .list 5 .tight 0 [encS u, encS v]] S = some (encP2 (instTm x [u, v], 0), S) := by
  rw [encS_eq, encS_eq]
  have hs : ∀ y ∈ [u, v], Sm y ∧ mayT y = true := fun y hy => by
    cases hy with
    | head => exact ⟨hsu, hmu⟩
    | tail _ h => cases h with
      | head => exact ⟨hsv, hmv⟩
      | tail _ h => cases h
  have := f37_2 n q r x u v true true S hsm (by have := may_size hm; omega) hw hwu (by have := may_size hmu; omega) hwv (by have := may_size hmv; omega) hsu hsv (inst_keeps (fun y hy => (hs y hy).1) x () 0 hsm) hwr
  rwa [inst_ok hm (fun y hy => (hs y hy).2) (by simp) hr] at this

theorem sm_inst1 {x u : Tm} (hx : Sm x) (hu : Sm u) : Sm (instTm x [u]) := inst_keeps (fun y hy => by cases hy with | head => exact hu | tail _ h => cases h) x () 0 hx
theorem sm_inst2 {x u v : Tm} (hx : Sm x) (hu : Sm u) (hv : Sm v) : Sm (instTm x [u, v]) := inst_keeps (fun y hy => by
  cases hy with
  | head => exact hu
  | tail _ h => cases h with
    | head => exact hv
    | tail _ h => cases h) x () 0 hx

theorem f39_yes (n : Nat) (a b : Tm) (S : St) (hsm : Sm a) (hsz : sizeT a < 1000000000) (hw : wt a < n) (h : sameT a b = true) : run Try.cfg n (.f 39) [encA a, encA b] S = some (.bool true, S) := by
  have := r39_ok n a b S hsm hsz hw
  rwa [h] at this

/-- A variable, as the laws build it. -/
noncomputable def vT (n : Int) : Tm := .mk 2 n [] false true false true [] []
theorem nrm_vT (n : Int) : nrm (vT n) = varT n := by rw [nrm_eq]; show Tm.mk 2 n [] true true true true [] (nrms []) = _; rw [nrms_nil]; rfl
theorem Sm_vT (n : Int) : Sm (vT n) := by
  rw [Sm_iff]
  exact ⟨⟨by show 0 ≤ _; omega, by show 0 ≤ _; omega⟩, fun y hy => by cases hy⟩
theorem wt_vT (n : Int) : wt (vT n) = 1 := by rw [wt_eq]; show 1 + 0 + 0 + wts [] = 1; rw [wts]

theorem f58_ok (n : Nat) (z : Int) (S : St) : run Try.cfg (n + 1) (.f 58) [.int .i64 z] S = some (encA (vT z), S) := by
  have : frame Try.cfg (run Try.cfg n) n 58 [.int .i64 z] St.empty = some (encA (vT z), St.empty) := by
    refine frame_of Try.cfg _ (fn := Try.f58) rfl rfl ?_
    rfl
  exact run_tm this (by simp only [strips_i, strips_nil]) rfl rfl rfl rfl rfl

theorem arg72 {ts : List Nat} {us : List V} (h : Args Try.prog (72 :: ts) us) : ∃ (z : Int) (rest : List V), us = .int .u16 z :: rest ∧ (0 ≤ z ∧ z ≤ 65535) ∧ Args Try.prog ts rest := by
  obtain ⟨v, rest, n, c, rfl, h1, h2, h3⟩ := args_cons h
  obtain ⟨l, rfl, hw⟩ := shp_int Try.underlying72 h1
  have hw' : (decide (IntKind.u16.min ≤ l) && decide (l ≤ IntKind.u16.max)) = true := hw
  simp only [Bool.and_eq_true, decide_eq_true_eq] at hw'
  have hmin : IntKind.u16.min = 0 := by decide
  have hmax : IntKind.u16.max = 65535 := by decide
  rcases h2 with ⟨hh, _⟩ | ⟨_, hh⟩
  · rw [show isAggT Try.prog 72 = false by kernel_rfl] at hh; cases hh
  · cases hh; exact ⟨l, rest, rfl, by omega, h3⟩

theorem rem1000 {T : Nat} {z : Int} (h0 : 0 ≤ z) (h1 : z ≤ 65535) : binOp Try.cfg .rem T (.int .i64 (wrapI .i64 z)) (.int .i64 1000) = some (.int .i64 (z % 1000)) := by
  rw [wrap_in (by omega) (by omega)]
  show some (V.int .i64 (z.tmod 1000)) = _
  rw [Int.tmod_eq_emod_of_nonneg h0]

theorem addI {T : Nat} {x y : Int} (h0 : 0 ≤ x + y) (h1 : x + y ≤ 1000000000) : binOp Try.cfg .add T (.int .i64 x) (.int .i64 y) = some (.int .i64 (x + y)) := by
  show some (V.int .i64 (wrapI .i64 (x + y))) = _
  rw [wrap_in (by omega) (by omega)]

theorem law11_frame (n : Nat) (t u : Tm) (a b k : Int) (hsm : Sm t) (hsu : Sm u) (ha : 0 ≤ a) (ha2 : a ≤ 65535) (hb : 0 ≤ b) (hb2 : b ≤ 65535) (hk : 0 ≤ k) (hk2 : k ≤ 65535) (hn : wt t < n) (hnu : wt u < n)
    (w1 : wt (instTm (liftT t 0 1) [u]) < n) (w2 : wt (instTm (closeT t (k % 1000)) [vT (k % 1000)]) < n) (w3 : wt (instTm t [u]) < n) :
    ∃ S', frame Try.cfg (run Try.cfg (n + n + n + 100)) (n + n + n + 100) 11 [encA t, encA u, .int .u16 a, .int .u16 b, .int .u16 k] St.empty = some (.bool true, S') := by
  have hworks := f36_ok (n + n + n + 79) St.empty
  have hw0 : 0 < wt t := by rw [wt_eq]; omega
  refine frame_ex Try.cfg _ (fn := Try.f11) rfl rfl ?_
  have h52 : run Try.cfg (n + n + n + 100) (.f 52) [encA t, .list 5 .tight 0 [encS u]] St.empty = some (.bool (fewT t [u]), St.empty) := by
    have := f52_ok (n + n + n + 98) t [u] true true St.empty (by omega) (by rw [wts, wts]; omega)
    rw [encTs_eq] at this
    rw [encS_eq]
    exact this
  refine WCall.mkB h52 (fun hf => ?_) (fun hf => ?_)
  · refine WCall.mkB (r55_ok (n + n + n + 92) t _ hsm (by omega)) (fun hm => ?_) (fun hm => ?_)
    · refine WCall.mkB (r55_ok (n + n + n + 92) u _ hsu (by omega)) (fun hmu => ?_) (fun hmu => ?_)
      · have hsz := may_size hm
        have hszu := may_size hmu
        have hfree := fun S => r43_ok (n + n + n + 98) t S (by omega) (by omega)
        refine WCall.mk _ _ (hfree _) ?_
        refine WCmp.mk (fun h1 => ?_) (fun h1 => ?_)
        · refine WCall.mk _ _ hworks ?_
          exact ⟨_, rfl⟩
        · rw [iLt_not] at h1
          have hx0 : 0 ≤ a % 1000 := by omega
          have hx1 : a % 1000 < 1000 := by omega
          have hy0 : 0 ≤ b % 1000 := by omega
          have hy1 : b % 1000 < 1000 := by omega
          have hk0 : 0 ≤ k % 1000 := by omega
          have hk1 : k % 1000 < 1000 := by omega
          have L := laws_ok (x := a % 1000) (y := b % 1000) (N := k % 1000) hm hmu h1 hx0 hx1 hy0 hy1 hk0 hk1 (nrm_vT (k % 1000))
          generalize hX : a % 1000 = X at *
          generalize hY : b % 1000 = Y at *
          generalize hK : k % 1000 = N at *
          have rA : ∀ T, binOp Try.cfg .rem T (.int .i64 (wrapI .i64 a)) (.int .i64 1000) = some (.int .i64 X) := fun T => by rw [← hX]; exact rem1000 ha ha2
          have rB : ∀ T, binOp Try.cfg .rem T (.int .i64 (wrapI .i64 b)) (.int .i64 1000) = some (.int .i64 Y) := fun T => by rw [← hY]; exact rem1000 hb hb2
          have rK : ∀ T, binOp Try.cfg .rem T (.int .i64 (wrapI .i64 k)) (.int .i64 1000) = some (.int .i64 N) := fun T => by rw [← hK]; exact rem1000 hk hk2
          have k1 := lift_keeps t 0 X
          have k2 := lift_keeps (liftT t 0 X) 0 Y
          have k3 := lift_keeps t 0 (X + Y)
          have k4 := lift_keeps t 0 1
          have k5 := close_keeps t N
          have sm1 := k1.2.1 hsm
          have sm4 := k4.2.1 hsm
          have sm5 := k5.2.1 hsm
          have c1 := fun S => f38_may (n + n + n + 85) t 0 X S hsm hm (by omega) (by omega) (by omega) hx0 (by omega) L.one
          have c2 := fun S => f38_may (n + n + n + 85) (liftT t 0 X) 0 Y S sm1 L.one (by rw [k1.1]; omega) (by omega) (by omega) hy0 (by omega) L.two
          have c3 := fun S => f38_may (n + n + n + 85) t 0 (X + Y) S hsm hm (by omega) (by omega) (by omega) (by omega) (by omega) L.both
          have c4 := fun S => f38_may (n + n + n + 85) t 0 1 S hsm hm (by omega) (by omega) (by omega) (by omega) (by omega) L.up
          have c5 := fun S => f37_may1 (n + 84) n n (liftT t 0 1) u S sm4 L.up (by rw [k4.1]; omega) hsu hmu hnu L.back w1
          rw [show n + 84 + n + n + 16 = n + n + n + 100 by omega] at c5
          have c6 := fun S => f39_yes (n + n + n + 100) (liftT (liftT t 0 X) 0 Y) (liftT t 0 (X + Y)) S (k2.2.1 sm1) (by rw [k2.2.2, k1.2.2]; omega) (by rw [k2.1, k1.1]; omega) L.same2
          have c7 := fun S => f39_yes (n + n + n + 100) (instTm (liftT t 0 1) [u]) t S (sm_inst1 sm4 hsu) (by have := may_size L.back; omega) (by omega) L.sameB
          have c8 := fun S => f54_may (n + n + n + 85) t N S hsm hm (by omega) hk0 L.close
          have c9 := fun S => f37_may1 (n + 84) n n (closeT t N) (vT N) S sm5 L.close (by rw [k5.1]; omega) (Sm_vT N) L.mw (by rw [wt_vT]; omega) L.again w2
          rw [show n + 84 + n + n + 16 = n + n + n + 100 by omega] at c9
          refine WOut.mk _ (rA _) ?_
          refine WOut.mk _ (rB _) ?_
          refine WCall.mk _ _ (c1 _) ?_
          refine WCall.mk _ _ (c2 _) ?_
          refine WOut.mk _ (addI (by omega) (by omega)) ?_
          refine WCall.mk _ _ (c3 _) ?_
          refine WCall.mk _ _ (c4 _) ?_
          refine WCall.mk _ _ (c5 _) ?_
          refine WCmp.no rfl ?_
          refine WCmp.no rfl ?_
          refine WCmp.no rfl ?_
          refine WCmp.no rfl ?_
          refine WCmp.no rfl ?_
          refine WCall.mk _ _ (c6 _) ?_
          refine WCall.mk _ _ (c7 _) ?_
          refine WOut.mk _ (rK _) ?_
          refine WCall.mk _ _ (c8 _) ?_
          refine WCall.mk _ _ (f58_ok (n + n + n + 99) N _) ?_
          refine WCall.mk _ _ (c9 _) ?_
          refine WCmp.no rfl ?_
          refine WCmp.no rfl ?_
          refine WCall.mk _ _ (hfree _) ?_
          refine WOut.mk _ (addI (by omega) (by omega)) ?_
          refine WCmp.mk (fun h2 => ?_) (fun h2 => ?_)
          · have h2 : (!iLt (N + 1) (freeF t 0)) = true := h2
            rw [Bool.not_eq_true', iLt_not] at h2
            refine WCall.mk _ _ (f39_yes (n + n + n + 100) (instTm (closeT t N) [vT N]) t _ (sm_inst1 sm5 (Sm_vT N)) (by have := may_size L.again; omega) (by omega) (L.sameA h2)) ?_
            refine WCall.mk _ _ (hfree _) ?_
            refine WCmp.mk (fun h3 => ?_) (fun h3 => ?_)
            · rw [iEq_eq, decide_eq_true_eq] at h3
              obtain ⟨m1, m2, m3⟩ := L.none h3
              have c10 := fun S => f37_may1 (n + 84) n n t u S hsm hm (by omega) hsu hmu hnu m1 w3
              rw [show n + 84 + n + n + 16 = n + n + n + 100 by omega] at c10
              refine WCall.mk _ _ (c10 _) ?_
              refine WCmp.yes rfl ?_
              refine WCall.mk _ _ (f39_yes (n + n + n + 100) (instTm t [u]) t _ (sm_inst1 hsm hsu) (by have := may_size m1; omega) (by omega) m2) ?_
              refine WCall.mk _ _ (f39_yes (n + n + n + 100) (liftT t 0 X) t _ sm1 (by rw [k1.2.2]; omega) (by rw [k1.1]; omega) m3) ?_
              refine WCall.mk _ _ hworks ?_
              exact ⟨_, rfl⟩
            · refine WCall.mk _ _ hworks ?_
              exact ⟨_, rfl⟩
          · refine WCall.mk _ _ (hfree _) ?_
            refine WCmp.mk (fun h3 => ?_) (fun h3 => ?_)
            · rw [iEq_eq, decide_eq_true_eq] at h3
              obtain ⟨m1, m2, m3⟩ := L.none h3
              have c10 := fun S => f37_may1 (n + 84) n n t u S hsm hm (by omega) hsu hmu hnu m1 w3
              rw [show n + 84 + n + n + 16 = n + n + n + 100 by omega] at c10
              refine WCall.mk _ _ (c10 _) ?_
              refine WCmp.yes rfl ?_
              refine WCall.mk _ _ (f39_yes (n + n + n + 100) (instTm t [u]) t _ (sm_inst1 hsm hsu) (by have := may_size m1; omega) (by omega) m2) ?_
              refine WCall.mk _ _ (f39_yes (n + n + n + 100) (liftT t 0 X) t _ sm1 (by rw [k1.2.2]; omega) (by rw [k1.1]; omega) m3) ?_
              refine WCall.mk _ _ hworks ?_
              exact ⟨_, rfl⟩
            · refine WCall.mk _ _ hworks ?_
              exact ⟨_, rfl⟩
      · refine WCall.mk _ _ hworks ?_
        exact ⟨_, rfl⟩
    · refine WCall.mk _ _ hworks ?_
      exact ⟨_, rfl⟩
  · refine WCall.mk _ _ hworks ?_
    exact ⟨_, rfl⟩

theorem law11 (us : List V) (h : Args Try.prog Try.f11.params.toList us) : ∃ n S', run Try.cfg n (.f 11) us St.empty = some (.bool true, S') := by
  rw [Try.params11] at h
  obtain ⟨t, r1, rfl, hsm, h1⟩ := arg46 h
  obtain ⟨u, r2, rfl, hsu, h2⟩ := arg46 h1
  obtain ⟨a, r3, rfl, ha, h3⟩ := arg72 h2
  obtain ⟨b, r4, rfl, hb, h4⟩ := arg72 h3
  obtain ⟨k, r5, rfl, hk, h5⟩ := arg72 h4
  obtain rfl := arg_nil h5
  obtain ⟨S', hf⟩ := law11_frame (wt t + wt u + wt (instTm (liftT t 0 1) [u]) + wt (instTm (closeT t (k % 1000)) [vT (k % 1000)]) + wt (instTm t [u]) + 1) t u a b k hsm hsu ha.1 ha.2 hb.1 hb.2 hk.1 hk.2 (by omega) (by omega) (by omega) (by omega) (by omega)
  exact ⟨_, St.empty, run_tm hf (by simp only [strips_t, strips_i, strips_nil]) rfl rfl rfl rfl rfl⟩

end Go.Ev
