/- The statement SubstInsts is proved: the law returns true at every input, and its arguments read behind the call as before. No condition (own work). -/
import Derived.Test.YtidebmakgffjnaaXv
import Derived.Test.YtidebmakgffjnaaXw
import Derived.Test.YtidebmakgffjnaaXqA
import Derived.Test.YtidebmakgffjnaaXqB
import Derived.Test.YtidebmakgffjnaaXqC
import Derived.Test.YtidebmakgffjnaaXqD
import Derived.Test.YtidebmakgffjnaaRows
import Derived.WalkKit
import Derived.JoinedCond
/- Terms: SubstInsts, in plain terms (own work). -/
namespace Go.Ev
open Go.Proofs Go.RowKit
set_option maxRecDepth 100000
set_option linter.unusedSimpArgs false
set_option linter.unusedVariables false

/-! ### Levels may be -/

theorem lvL_len {bys : List Lv} : ∀ {ls out : List Lv}, lvL bys ls = .ok out → out.length = ls.length ∧ out.all mayF = true
  | [], out, h => by cases h; exact ⟨rfl, rfl⟩
  | l :: ls, out, h => by
    rw [lvL] at h
    split at h
    · rename_i h0
      split at h
      · rename_i o2 h2
        cases h
        obtain ⟨h3, h4⟩ := lvL_len h2
        refine ⟨by simp [h3], ?_⟩
        rw [List.all_cons, h4, Bool.and_true]
        unfold instF at h0 ⊢
        have tf : ∀ y, iEq (toldF y).2 0 = true → mayF (toldF y).1 = true := fun y hy => by
          rw [toldF_eq] at hy ⊢
          cases hm : mayF (formF y) with
          | true => exact hm
          | false => rw [hm] at hy; cases hy
        cases hq : (mayF l && bys.all mayF) with
        | false => rw [hq] at h0; cases h0
        | true =>
          rw [hq] at h0
          cases hf : foldE (instStep bys) l.ps 0 { zeroLv with c := l.c } with
          | mk ok out =>
            rw [hf] at h0
            cases ok with
            | true => exact tf out h0
            | false => cases h0
      · cases h
    · cases h

theorem node_withL {x : Tm} (h : nodeT x = true) {out : List Lv} {o2 : List Tm} (h1 : out.length = x.ls.length) (h2 : out.all mayF = true) (h3 : o2.length = x.ts.length) : nodeT (x.withL out o2) = true := by
  unfold nodeT at h ⊢
  have e1 : lenN (encTs (x.withL out o2).ts) = lenN (encTs x.ts) := by rw [encTs_len, encTs_len]; exact h3
  have e2 : lenN ((x.withL out o2).ls.map enc) = lenN (x.ls.map enc) := by rw [lenN_eq, lenN_eq, List.length_map, List.length_map]; exact h1
  have e3 : lvOk (x.withL out o2) = lvOk x := by unfold lvOk; rw [e2]; rfl
  rw [e1, e3]
  simp only [Bool.and_eq_true] at h ⊢
  exact ⟨⟨h.1.1, h2⟩, h.2⟩

theorem lvT_scan {bys : List Lv} (x : Tm) : ∀ {z : Tm}, lvT bys x = .ok z → ∀ {l d r : Nat}, scanT nodeT x l d = some r → scanT nodeT z l d = some r := by
  induction x using Tm.ind with
  | h x ih =>
    intro z hz l d r hs
    obtain ⟨l', d', rfl, rfl, hp, hts⟩ := scanT_some hs
    rw [lvT_eq] at hz
    split at hz
    · rename_i out ho
      split at hz
      · rename_i o2 h2
        cases hz
        have key : ∀ (ts : List Tm), (∀ y ∈ ts, y ∈ x.ts) → ∀ {o2 : List Tm}, lvTs bys ts = .ok o2 → ∀ {l r}, scanTs nodeT ts l d' = some r → scanTs nodeT o2 l d' = some r ∧ o2.length = ts.length := by
          intro ts
          induction ts with
          | nil => intro _ o2 h l r hs; rw [lvTs] at h; cases h; exact ⟨hs, rfl⟩
          | cons t ts ih2 =>
            intro hm o2 h l r hs
            rw [lvTs_cons] at h
            rw [scanTs_cons] at hs
            split at h
            · rename_i z hz
              split at h
              · rename_i o3 h3
                cases h
                split at hs
                · rename_i l1 h1
                  obtain ⟨k1, k2⟩ := ih2 (fun y hy => hm y (List.mem_cons_of_mem _ hy)) h3 hs
                  rw [scanTs_cons, ih t (hm t List.mem_cons_self) hz h1]
                  exact ⟨k1, by simp [k2]⟩
                · cases hs
              · cases h
            · cases h
        obtain ⟨k1, k2⟩ := key x.ts (fun _ h => h) h2 hts
        obtain ⟨e1, e2⟩ := lvL_len ho
        rw [scanT_eq]
        simp only
        rw [node_withL hp e1 e2 k2]
        exact k1
      · cases hz
    · cases hz

theorem lvT_may {bys : List Lv} {x z : Tm} (h : lvT bys x = .ok z) (hm : mayT x = true) : mayT z = true := by
  obtain ⟨r, hr⟩ := may_some hm
  unfold mayT
  rw [lvT_scan x h hr]
  rfl

theorem lvT_keeps {bys : List Lv} (x : Tm) : ∀ {z : Tm}, lvT bys x = .ok z → Keeps x z := by
  induction x using Tm.ind with
  | h x ih =>
    intro z hz
    rw [lvT_eq] at hz
    split at hz
    · rename_i out ho
      split at hz
      · rename_i o2 h2
        cases hz
        have key : ∀ (ts : List Tm), (∀ y ∈ ts, y ∈ x.ts) → ∀ {o2 : List Tm}, lvTs bys ts = .ok o2 → wts o2 = wts ts ∧ ((∀ y ∈ ts, Sm y) → ∀ y ∈ o2, Sm y) ∧ sizeTs o2 = sizeTs ts := by
          intro ts
          induction ts with
          | nil => intro _ o2 h; rw [lvTs] at h; cases h; exact ⟨rfl, fun h => h, rfl⟩
          | cons t ts ih2 =>
            intro hm o2 h
            rw [lvTs_cons] at h
            split at h
            · rename_i z hz
              split at h
              · rename_i o3 h3
                cases h
                obtain ⟨a1, a2, a3⟩ := ih t (hm t List.mem_cons_self) hz
                obtain ⟨b1, b2, b3⟩ := ih2 (fun y hy => hm y (List.mem_cons_of_mem _ hy)) h3
                refine ⟨by rw [wts, wts, a1, b1], ?_, by rw [sizeTs_cons, sizeTs_cons, a3, b3]⟩
                intro h y hy
                cases hy with
                | head => exact a2 (h t List.mem_cons_self)
                | tail _ hy => exact b2 (fun z hz => h z (List.mem_cons_of_mem _ hz)) y hy
              · cases h
            · cases h
        obtain ⟨k1, k2, k3⟩ := key x.ts (fun _ h => h) h2
        obtain ⟨e1, _⟩ := lvL_len ho
        refine ⟨?_, ?_, ?_⟩
        · rw [wt_eq, wt_eq x]; show 1 + x.s.length + out.length + wts o2 = _; rw [k1, e1]
        · intro h
          rw [Sm_iff] at h ⊢
          refine ⟨⟨?_, h.1.2⟩, k2 h.2⟩
          show out.length ≤ _
          rw [e1]
          exact h.1.1
        · rw [sizeT_eq, sizeT_eq x]; show 1 + sizeTs o2 = _; rw [k3]
      · cases hz
    · cases hz

/-- What Levels answers. -/
noncomputable def exT (r : Except Int Tm) (x : Tm) : Tm := match r with | .ok z => z | .error _ => x

theorem levM_facts (t : Tm) (bys : List Lv) {n : Nat} (hsm : Sm t) (hsz : sizeT t < 1000000000) (hw : wt t < n) (hn : 1 < n) : Sm (levM t bys).1 ∧ sizeT (levM t bys).1 < 1000000000 ∧ wt (levM t bys).1 < n := by
  unfold levM
  cases mayT t with
  | false => exact ⟨Sm_zTm, by rw [size_zTm]; omega, by rw [wt_zTm]; exact hn⟩
  | true =>
    cases h : lvT bys t with
    | error e => exact ⟨Sm_zTm, by show sizeT zTm < _; rw [size_zTm]; omega, by show wt zTm < _; rw [wt_zTm]; exact hn⟩
    | ok z =>
      obtain ⟨a1, a2, a3⟩ := lvT_keeps t h
      exact ⟨a2 hsm, by show sizeT z < _; rw [a3]; exact hsz, by show wt z < _; rw [a1]; exact hw⟩

theorem lev_told (t : Tm) (bys : List Lv) (hm : mayT t = true) : toldL (levM t bys).1 (levM t bys).2 (exP (lvT bys t)).1 (exP (lvT bys t)).2 = true := by
  unfold levM
  rw [hm]
  cases h : lvT bys t with
  | error e => exact told_err e (lvT_err t h)
  | ok z =>
    have hz := lvT_may h hm
    unfold toldL exP
    rw [hz, may_deep hz]
    show (iEq 0 0 && sameT z z) = true
    rw [sameT_refl]
    rfl

end Go.Ev

/- Terms: how great an Inst is (own work). -/
namespace Go.Ev
open Go.Proofs Go.RowKit
set_option maxRecDepth 100000
set_option linter.unusedSimpArgs false
set_option linter.unusedVariables false

/-! ### Inst -/

theorem inst_keeps {l : List Tm} (hl : ∀ y ∈ l, Sm y) (x : Tm) : ∀ s a, (Sm x → Sm (walkG (placeStep l) x s a).1) := by
  induction x using Tm.ind with
  | h x ih =>
    intro s a hx
    rw [walkG_eq]
    cases h2 : iEq x.k 2 with
    | true =>
      show Sm (placeStep l s x a).1
      unfold placeStep
      simp only
      split
      · split
        · rename_i y hy; exact (lift_keeps y 0 a).2.1 (hl y (List.mem_of_getElem? hy))
        · exact hx
      · cases iLt x.n a with
        | true => exact hx
        | false => exact (keeps_withN x _).2.1 hx
    | false =>
      show Sm (x.withT _)
      have key : ∀ (ts : List Tm), (∀ y ∈ ts, y ∈ x.ts) → ∀ i s, (∀ y ∈ ts, Sm y) → ∀ y ∈ (walkGs (placeStep l) x.k ts i s a).1, Sm y := by
        intro ts
        induction ts with
        | nil => intro _ i s h; rw [walkGs]; exact h
        | cons t ts ih2 =>
          intro hm i s h y hy
          rw [walkGs] at hy
          cases hy with
          | head => exact ih t (hm t List.mem_cons_self) s _ (h t List.mem_cons_self)
          | tail _ hy => exact ih2 (fun y hy => hm y (List.mem_cons_of_mem _ hy)) (i + 1) _ (fun z hz => h z (List.mem_cons_of_mem _ hz)) y hy
      rw [Sm_iff] at hx ⊢
      exact ⟨hx.1, key x.ts (fun _ h => h) 0 s hx.2⟩

theorem node_kids0 {x : Tm} (h : nodeT x = true) (h2 : iEq x.k 2 = true) : x.ts = [] := by
  unfold nodeT at h
  simp only [Bool.and_eq_true] at h
  have h1 := h.1.1.2
  have e : kidsF x.k = 0 := by unfold kidsF; rw [h2, iEq_ne h2 (c := 1) rfl, iEq_ne h2 (c := 3) rfl]; rfl
  rw [e] at h1
  have h3 : iEq (.ofNat (lenN (encTs x.ts))) (.ofNat 0) = true := h1
  rw [iEq_nat, decide_eq_true_eq, encTs_len] at h3
  exact List.eq_nil_of_length_eq_zero h3

/-- How many nodes an Inst has. -/
theorem size_walk {l : List Tm} (hl : l.length ≤ 1000) (hm : ∀ y ∈ l, mayT y = true) (x : Tm) {L d r : Nat} (h : scanT nodeT x L d = some r) :
    ∀ (s : Int) (a : Int), 0 ≤ a → a + d ≤ 1000000000 → 0 ≤ s → s + sizeT (walkG (placeStep l) x () a).1 ≤ 4000000000000000000 →
      sizeT x ≤ sizeT (walkG (placeStep l) x () a).1 ∧ (walkG (sizeStep l) x s a).2 + sizeT x = s + sizeT (walkG (placeStep l) x () a).1 := by
  refine scan_ind (P := fun x d => ∀ (s : Int) (a : Int), 0 ≤ a → a + d ≤ 1000000000 → 0 ≤ s → s + sizeT (walkG (placeStep l) x () a).1 ≤ 4000000000000000000 →
      sizeT x ≤ sizeT (walkG (placeStep l) x () a).1 ∧ (walkG (sizeStep l) x s a).2 + sizeT x = s + sizeT (walkG (placeStep l) x () a).1) (fun x d hp ih s a h0 hd hs hb => ?_) x h
  rw [walkG_eq] at hb ⊢
  rw [walkG_eq]
  cases h2 : iEq x.k 2 with
  | true =>
    rw [h2] at hb
    have hx1 : sizeT x = 1 := by rw [sizeT_eq, node_kids0 hp h2, sizeTs]
    show sizeT x ≤ sizeT (placeStep l () x a).1 ∧ (sizeStep l s x a).2 + sizeT x = s + sizeT (placeStep l () x a).1
    have hb' : s + sizeT (placeStep l () x a).1 ≤ 4000000000000000000 := hb
    rcases placeK_cases (nn := x.n) (a := a) (m := l.length) h0 (by omega) (by omega) with ⟨e, _⟩ | ⟨k, hk, e, _⟩
    · rw [placeStep_no e, sizeStep_no e]
      have : sizeT (bif iLt x.n a then x else x.withN (subW x.n (.ofNat l.length))) = sizeT x := by
        cases iLt x.n a with
        | true => rfl
        | false => exact (keeps_withN x _).2.2
      show sizeT x ≤ sizeT (bif iLt x.n a then x else x.withN (subW x.n (.ofNat l.length))) ∧ s + sizeT x = s + sizeT (bif iLt x.n a then x else x.withN (subW x.n (.ofNat l.length)))
      rw [this]
      exact ⟨Nat.le_refl _, rfl⟩
    · obtain ⟨y, hy⟩ : ∃ y, l[k]? = some y := ⟨l[k], List.getElem?_eq_getElem hk⟩
      have hym := hm y (List.mem_of_getElem? hy)
      have hys : sizeM y = sizeT y := by unfold sizeM; rw [hym]
      have hyp := sizeT_pos y
      rw [placeStep_at e hy] at hb'
      rw [placeStep_at e hy, sizeStep_at e hy]
      have hk3 : sizeT (liftT y 0 a) = sizeT y := (lift_keeps y 0 a).2.2
      have hb2 : s + sizeT (liftT y 0 a) ≤ 4000000000000000000 := hb'
      show sizeT x ≤ sizeT (liftT y 0 a) ∧ addW s (subW (.ofNat (sizeM y)) 1) + sizeT x = s + sizeT (liftT y 0 a)
      rw [hk3] at hb2 ⊢
      rw [hys, hx1]
      have e1 : subW (.ofNat (sizeT y)) 1 = (sizeT y : Int) - 1 := subW_eq (by simp only [Int.ofNat_eq_natCast]; omega) (by simp only [Int.ofNat_eq_natCast]; omega)
      rw [e1, addW_eq (by omega) (by omega)]
      refine ⟨by omega, by omega⟩
  | false =>
    rw [h2] at hb
    have hb' : s + sizeT (x.withT (walkGs (placeStep l) x.k x.ts 0 () a).1) ≤ 4000000000000000000 := hb
    have hz : sizeT (x.withT (walkGs (placeStep l) x.k x.ts 0 () a).1) = 1 + sizeTs (walkGs (placeStep l) x.k x.ts 0 () a).1 := by rw [sizeT_eq]; rfl
    show sizeT x ≤ sizeT (x.withT (walkGs (placeStep l) x.k x.ts 0 () a).1) ∧ (walkGs (sizeStep l) x.k x.ts 0 s a).2 + sizeT x = s + sizeT (x.withT (walkGs (placeStep l) x.k x.ts 0 () a).1)
    rw [hz] at hb' ⊢
    have key : ∀ (ts : List Tm), (∀ y ∈ ts, y ∈ x.ts) → ∀ (i : Nat) (s : Int), 0 ≤ s → s + sizeTs (walkGs (placeStep l) x.k ts i () a).1 ≤ 4000000000000000000 →
        sizeTs ts ≤ sizeTs (walkGs (placeStep l) x.k ts i () a).1 ∧ (walkGs (sizeStep l) x.k ts i s a).2 + sizeTs ts = s + sizeTs (walkGs (placeStep l) x.k ts i () a).1 := by
      intro ts
      induction ts with
      | nil => intro _ i s h1 h3; rw [walkGs, walkGs]; exact ⟨Nat.le_refl _, rfl⟩
      | cons t ts ih2 =>
        intro hm2 i s h1 h3
        rw [walkGs] at h3 ⊢
        rw [walkGs]
        dsimp only at h3 ⊢
        rw [sizeTs_cons] at h3 ⊢
        rw [sizeTs_cons]
        have hbi := bindsF_01 x.k (.ofNat i)
        have eb : addW a (bindsF x.k (.ofNat i)) = a + bindsF x.k (.ofNat i) := addW_eq (by rcases hbi with h | h <;> omega) (by rcases hbi with h | h <;> omega)
        rw [eb] at h3 ⊢
        rw [show (walkG (placeStep l) t () (a + bindsF x.k (.ofNat i))).2 = () from rfl] at h3 ⊢
        obtain ⟨a1, a2⟩ := ih t (hm2 t List.mem_cons_self) s (a + bindsF x.k (.ofNat i)) (by rcases hbi with h | h <;> omega) (by rcases hbi with h | h <;> omega) h1 (by omega)
        obtain ⟨b1, b2⟩ := ih2 (fun y hy => hm2 y (List.mem_cons_of_mem _ hy)) (i + 1) (walkG (sizeStep l) t s (a + bindsF x.k (.ofNat i))).2 (by omega) (by omega)
        refine ⟨by omega, by omega⟩
    obtain ⟨k1, k2⟩ := key x.ts (fun _ h => h) 0 s hs (by omega)
    rw [sizeT_eq x]
    refine ⟨by omega, by omega⟩

/-- An Inst has no more nodes than Grown. -/
theorem size_grown {l : List Tm} {M : Nat} (h1 : 1 ≤ M) (hl : ∀ y ∈ l, sizeT y ≤ M) (x : Tm) {L d r : Nat} (h : scanT nodeT x L d = some r) : ∀ (a : Int), sizeT (walkG (placeStep l) x () a).1 ≤ sizeT x * M := by
  refine scan_ind (P := fun x d => ∀ (a : Int), sizeT (walkG (placeStep l) x () a).1 ≤ sizeT x * M) (fun x d hp ih a => ?_) x h
  rw [walkG_eq]
  cases h2 : iEq x.k 2 with
  | true =>
    have hx1 : sizeT x = 1 := by rw [sizeT_eq, node_kids0 hp h2, sizeTs]
    show sizeT (placeStep l () x a).1 ≤ _
    rw [hx1, Nat.one_mul]
    unfold placeStep
    simp only
    split
    · split
      · rename_i y hy; rw [(lift_keeps y 0 a).2.2]; exact hl y (List.mem_of_getElem? hy)
      · omega
    · cases iLt x.n a with
      | true => show sizeT x ≤ M; omega
      | false => show sizeT (x.withN _) ≤ M; rw [(keeps_withN x _).2.2]; omega
  | false =>
    show sizeT (x.withT (walkGs (placeStep l) x.k x.ts 0 () a).1) ≤ _
    rw [sizeT_eq, sizeT_eq x]
    show 1 + sizeTs (walkGs (placeStep l) x.k x.ts 0 () a).1 ≤ _
    have key : ∀ (ts : List Tm), (∀ y ∈ ts, y ∈ x.ts) → ∀ i, sizeTs (walkGs (placeStep l) x.k ts i () a).1 ≤ sizeTs ts * M := by
      intro ts
      induction ts with
      | nil => intro _ i; rw [walkGs]; show sizeTs [] ≤ _; rw [sizeTs]; omega
      | cons t ts ih2 =>
        intro hm i
        rw [walkGs, sizeTs_cons, sizeTs_cons, Nat.add_mul]
        have := ih t (hm t List.mem_cons_self) (addW a (bindsF x.k (.ofNat i)))
        have := ih2 (fun y hy => hm y (List.mem_cons_of_mem _ hy)) (i + 1)
        rw [show (walkG (placeStep l) t () (addW a (bindsF x.k (.ofNat i)))).2 = () from rfl]
        omega
    have := key x.ts (fun _ h => h) 0
    rw [Nat.add_mul]
    omega

/-- What the package answers. -/
theorem inst_ok {t : Tm} {l : List Tm} (hm : mayT t = true) (hl : ∀ y ∈ l, mayT y = true) (hn : l.length ≤ 1000) (hr : mayT (instTm t l) = true) : instM t l = (instTm t l, 0) := by
  unfold instM
  have h1 : l.all mayT = true := List.all_eq_true.2 hl
  obtain ⟨r, hs⟩ := may_some hm
  have h2 := may_size hr
  have h3 : sizeM t = sizeT t := by unfold sizeM; rw [hm]
  have hts := may_size hm
  obtain ⟨_, h4⟩ := size_walk hn hl t hs (.ofNat (sizeM t)) 0 (Int.le_refl _) (by omega) (by simp only [Int.ofNat_eq_natCast]; omega) (by rw [h3]; unfold instTm at h2; simp only [Int.ofNat_eq_natCast]; omega)
  have h5 : (walkG (sizeStep l) t (.ofNat (sizeM t)) 0).2 = sizeT (instTm t l) := by
    rw [h3] at h4 ⊢
    unfold instTm
    simp only [Int.ofNat_eq_natCast] at h4 ⊢
    omega
  rw [hm, h1, h5]
  have h6 : iLt 65536 (sizeT (instTm t l) : Int) = false := by rw [iLt_not]; omega
  rw [h6]
  show toldT _ = _
  unfold toldT
  rw [hr]

end Go.Ev

/- Terms: SubstInsts, walked and proved (written by tmt.py; own work). -/
namespace Go.Ev
open Go.Proofs Go.RowKit
set_option maxRecDepth 100000
set_option linter.unusedSimpArgs false
set_option linter.unusedVariables false
set_option maxHeartbeats 4000000

theorem f37_any (n q r : Nat) (t : Tm) (l : List Tm) (c d : Bool) (S : St) (hlen : l.length ≤ 10) (hsm : Sm t) (hsz : sizeT t ≤ 100000000) (hw : wt t < n) (hl : ∀ x ∈ l, (wt x < q ∧ sizeT x < 1000000000) ∧ Sm x) (hsm2 : Sm (instTm t l)) (hw2 : wt (instTm t l) < r) :
    run Try.cfg (n + q + r + 16) (.f 37) [encA t, .list (szOf c l) (tkOf d) 0 (encTs l)] S = some (encP2 (instM t l), S) := by
  rw [encTs_eq]
  match l, hlen, hl, hsm2, hw2 with
  | [], _, hl, hsm2, hw2 => exact f37_0 n q r t  c d S hsm hsz hw   hsm2 hw2
  | [x0], _, hl, hsm2, hw2 => exact f37_1 n q r t x0 c d S hsm hsz hw (hl x0 (by simp)).1.1 (hl x0 (by simp)).1.2 (hl x0 (by simp)).2 hsm2 hw2
  | [x0, x1], _, hl, hsm2, hw2 => exact f37_2 n q r t x0 x1 c d S hsm hsz hw (hl x0 (by simp)).1.1 (hl x0 (by simp)).1.2 (hl x1 (by simp)).1.1 (hl x1 (by simp)).1.2 (hl x0 (by simp)).2 (hl x1 (by simp)).2 hsm2 hw2
  | [x0, x1, x2], _, hl, hsm2, hw2 => exact f37_3 n q r t x0 x1 x2 c d S hsm hsz hw (hl x0 (by simp)).1.1 (hl x0 (by simp)).1.2 (hl x1 (by simp)).1.1 (hl x1 (by simp)).1.2 (hl x2 (by simp)).1.1 (hl x2 (by simp)).1.2 (hl x0 (by simp)).2 (hl x1 (by simp)).2 (hl x2 (by simp)).2 hsm2 hw2
  | [x0, x1, x2, x3], _, hl, hsm2, hw2 => exact f37_4 n q r t x0 x1 x2 x3 c d S hsm hsz hw (hl x0 (by simp)).1.1 (hl x0 (by simp)).1.2 (hl x1 (by simp)).1.1 (hl x1 (by simp)).1.2 (hl x2 (by simp)).1.1 (hl x2 (by simp)).1.2 (hl x3 (by simp)).1.1 (hl x3 (by simp)).1.2 (hl x0 (by simp)).2 (hl x1 (by simp)).2 (hl x2 (by simp)).2 (hl x3 (by simp)).2 hsm2 hw2
  | [x0, x1, x2, x3, x4], _, hl, hsm2, hw2 => exact f37_5 n q r t x0 x1 x2 x3 x4 c d S hsm hsz hw (hl x0 (by simp)).1.1 (hl x0 (by simp)).1.2 (hl x1 (by simp)).1.1 (hl x1 (by simp)).1.2 (hl x2 (by simp)).1.1 (hl x2 (by simp)).1.2 (hl x3 (by simp)).1.1 (hl x3 (by simp)).1.2 (hl x4 (by simp)).1.1 (hl x4 (by simp)).1.2 (hl x0 (by simp)).2 (hl x1 (by simp)).2 (hl x2 (by simp)).2 (hl x3 (by simp)).2 (hl x4 (by simp)).2 hsm2 hw2
  | [x0, x1, x2, x3, x4, x5], _, hl, hsm2, hw2 => exact f37_6 n q r t x0 x1 x2 x3 x4 x5 c d S hsm hsz hw (hl x0 (by simp)).1.1 (hl x0 (by simp)).1.2 (hl x1 (by simp)).1.1 (hl x1 (by simp)).1.2 (hl x2 (by simp)).1.1 (hl x2 (by simp)).1.2 (hl x3 (by simp)).1.1 (hl x3 (by simp)).1.2 (hl x4 (by simp)).1.1 (hl x4 (by simp)).1.2 (hl x5 (by simp)).1.1 (hl x5 (by simp)).1.2 (hl x0 (by simp)).2 (hl x1 (by simp)).2 (hl x2 (by simp)).2 (hl x3 (by simp)).2 (hl x4 (by simp)).2 (hl x5 (by simp)).2 hsm2 hw2
  | [x0, x1, x2, x3, x4, x5, x6], _, hl, hsm2, hw2 => exact f37_7 n q r t x0 x1 x2 x3 x4 x5 x6 c d S hsm hsz hw (hl x0 (by simp)).1.1 (hl x0 (by simp)).1.2 (hl x1 (by simp)).1.1 (hl x1 (by simp)).1.2 (hl x2 (by simp)).1.1 (hl x2 (by simp)).1.2 (hl x3 (by simp)).1.1 (hl x3 (by simp)).1.2 (hl x4 (by simp)).1.1 (hl x4 (by simp)).1.2 (hl x5 (by simp)).1.1 (hl x5 (by simp)).1.2 (hl x6 (by simp)).1.1 (hl x6 (by simp)).1.2 (hl x0 (by simp)).2 (hl x1 (by simp)).2 (hl x2 (by simp)).2 (hl x3 (by simp)).2 (hl x4 (by simp)).2 (hl x5 (by simp)).2 (hl x6 (by simp)).2 hsm2 hw2
  | [x0, x1, x2, x3, x4, x5, x6, x7], _, hl, hsm2, hw2 => exact f37_8 n q r t x0 x1 x2 x3 x4 x5 x6 x7 c d S hsm hsz hw (hl x0 (by simp)).1.1 (hl x0 (by simp)).1.2 (hl x1 (by simp)).1.1 (hl x1 (by simp)).1.2 (hl x2 (by simp)).1.1 (hl x2 (by simp)).1.2 (hl x3 (by simp)).1.1 (hl x3 (by simp)).1.2 (hl x4 (by simp)).1.1 (hl x4 (by simp)).1.2 (hl x5 (by simp)).1.1 (hl x5 (by simp)).1.2 (hl x6 (by simp)).1.1 (hl x6 (by simp)).1.2 (hl x7 (by simp)).1.1 (hl x7 (by simp)).1.2 (hl x0 (by simp)).2 (hl x1 (by simp)).2 (hl x2 (by simp)).2 (hl x3 (by simp)).2 (hl x4 (by simp)).2 (hl x5 (by simp)).2 (hl x6 (by simp)).2 (hl x7 (by simp)).2 hsm2 hw2
  | [x0, x1, x2, x3, x4, x5, x6, x7, x8], _, hl, hsm2, hw2 => exact f37_9 n q r t x0 x1 x2 x3 x4 x5 x6 x7 x8 c d S hsm hsz hw (hl x0 (by simp)).1.1 (hl x0 (by simp)).1.2 (hl x1 (by simp)).1.1 (hl x1 (by simp)).1.2 (hl x2 (by simp)).1.1 (hl x2 (by simp)).1.2 (hl x3 (by simp)).1.1 (hl x3 (by simp)).1.2 (hl x4 (by simp)).1.1 (hl x4 (by simp)).1.2 (hl x5 (by simp)).1.1 (hl x5 (by simp)).1.2 (hl x6 (by simp)).1.1 (hl x6 (by simp)).1.2 (hl x7 (by simp)).1.1 (hl x7 (by simp)).1.2 (hl x8 (by simp)).1.1 (hl x8 (by simp)).1.2 (hl x0 (by simp)).2 (hl x1 (by simp)).2 (hl x2 (by simp)).2 (hl x3 (by simp)).2 (hl x4 (by simp)).2 (hl x5 (by simp)).2 (hl x6 (by simp)).2 (hl x7 (by simp)).2 (hl x8 (by simp)).2 hsm2 hw2
  | [x0, x1, x2, x3, x4, x5, x6, x7, x8, x9], _, hl, hsm2, hw2 => exact f37_10 n q r t x0 x1 x2 x3 x4 x5 x6 x7 x8 x9 c d S hsm hsz hw (hl x0 (by simp)).1.1 (hl x0 (by simp)).1.2 (hl x1 (by simp)).1.1 (hl x1 (by simp)).1.2 (hl x2 (by simp)).1.1 (hl x2 (by simp)).1.2 (hl x3 (by simp)).1.1 (hl x3 (by simp)).1.2 (hl x4 (by simp)).1.1 (hl x4 (by simp)).1.2 (hl x5 (by simp)).1.1 (hl x5 (by simp)).1.2 (hl x6 (by simp)).1.1 (hl x6 (by simp)).1.2 (hl x7 (by simp)).1.1 (hl x7 (by simp)).1.2 (hl x8 (by simp)).1.1 (hl x8 (by simp)).1.2 (hl x9 (by simp)).1.1 (hl x9 (by simp)).1.2 (hl x0 (by simp)).2 (hl x1 (by simp)).2 (hl x2 (by simp)).2 (hl x3 (by simp)).2 (hl x4 (by simp)).2 (hl x5 (by simp)).2 (hl x6 (by simp)).2 (hl x7 (by simp)).2 (hl x8 (by simp)).2 (hl x9 (by simp)).2 hsm2 hw2
  | _ :: _ :: _ :: _ :: _ :: _ :: _ :: _ :: _ :: _ :: _ :: _, h, _, _, _ => simp only [List.length_cons] at h; omega

/-! ### What is told -/

theorem inst_one (t : Tm) (l : List Tm) : OneOf (instM t l) (instTm t l) ∧ sizeT (instM t l).1 ≤ 65536 := by
  have hz : sizeT zTm ≤ 65536 := by rw [size_zTm]; omega
  unfold instM
  cases (mayT t && l.all mayT) with
  | false => exact ⟨.inr rfl, hz⟩
  | true =>
    cases iLt 65536 (walkG (sizeStep l) t (.ofNat (sizeM t)) 0).2 with
    | true => exact ⟨.inr rfl, hz⟩
    | false =>
      refine ⟨toldT_one _, ?_⟩
      show sizeT (toldT (instTm t l)).1 ≤ 65536
      unfold toldT
      cases hm : mayT (instTm t l) with
      | true => exact may_size hm
      | false => exact hz

theorem inst_told (t : Tm) (l : List Tm) (hlen : l.length ≤ 1000) (ht : mayT t = true) (hl : l.all mayT = true) : toldL (instM t l).1 (instM t l).2 (instTm t l) 0 = true := by
  have hl' := List.all_eq_true.1 hl
  obtain ⟨r, hs⟩ := may_some ht
  have hts := may_size ht
  have hsz := size_grown (l := l) (M := 65536) (by omega) (fun y hy => may_size (hl' y hy)) t hs 0
  have hb : sizeT (walkG (placeStep l) t () 0).1 ≤ 65536 * 65536 := Nat.le_trans hsz (Nat.mul_le_mul_right _ hts)
  have h3 : sizeM t = sizeT t := by unfold sizeM; rw [ht]
  obtain ⟨_, h4⟩ := size_walk hlen hl' t hs (.ofNat (sizeM t)) 0 (Int.le_refl _) (by omega) (by simp only [Int.ofNat_eq_natCast]; omega) (by rw [h3]; simp only [Int.ofNat_eq_natCast]; omega)
  have h5 : (walkG (sizeStep l) t (.ofNat (sizeM t)) 0).2 = sizeT (instTm t l) := by
    rw [h3] at h4 ⊢
    unfold instTm
    simp only [Int.ofNat_eq_natCast] at h4 ⊢
    omega
  unfold instM
  rw [ht, hl, h5]
  cases h6 : iLt 65536 (sizeT (instTm t l) : Int) with
  | false => exact told_ok _
  | true =>
    rw [iLt_iff] at h6
    have hm : mayT (instTm t l) = false := by
      cases hm : mayT (instTm t l) with
      | false => rfl
      | true => have := may_size hm; omega
    show toldL zTm 4 (instTm t l) 0 = true
    unfold toldL
    rw [hm, Bool.not_false, Bool.or_true]
    show (iEq 4 4 && sameT zTm zTm) = true
    rw [sameT_refl]
    rfl

/-! ### The walk -/

noncomputable def f15L : Code := loopN Try.f15 0

theorem f15_by (n k : Nat) (t : Tm) (l : List Tm) (c d : Bool) (hlen : l.length < 1000000000) (hl : ∀ x ∈ l, Sm x ∧ wt x < n) (cx cy : Tm) (S : St) (K : Ex → Env → St → Prop) :
    ∀ (rem : List Tm) (j f : Nat) (b : Bool), rem.length < f → (∀ i, rem[i]? = l[j + i]?) → j + rem.length = l.length →
    (∀ b', b' = (b && rem.all mayT) → K (.exit 0) { nt := 94, tmps := [(1, .list (szOf c l) (tkOf d) 0 (encTs l)), (3, .ptr (.loc 3) 0), (7, .bool b'), (12, .int .i64 (.ofNat l.length)), (56, .bool false)], locs := [(3, cellsT t), (8, cellsT cx), (10, cellsT cy)], fix := [] } S) →
    WCode (iter (evalCode Try.cfg (run Try.cfg (n + 8)) k 15 (Try.cfg.fc 15) f15L) f { nt := 94, tmps := [(1, .list (szOf c l) (tkOf d) 0 (encTs l)), (3, .ptr (.loc 3) 0), (7, .bool b), (12, .int .i64 (.ofNat j))], locs := [(3, cellsT t), (8, cellsT cx), (10, cellsT cy)], fix := [] } S) K
  | [], j, f + 1, b, hf, hr, hj, hK => by
    have hjl : j = l.length := by simpa using hj
    subst hjl
    have hK := hK b (by rw [List.all_nil, Bool.and_true])
    cases b
    all_goals
      refine WCode.round (nt := 94) (fx := []) ?_
      refine WCmp.no (geLen (by omega)) ?_
      exact hK
  | y :: rem, j, f + 1, b, hf, hr, hj, hK => by
    have hb : l[j]? = some y := by have := hr 0; simpa using this.symm
    have hjl : j < l.length := (List.getElem?_eq_some_iff.1 hb).1
    obtain ⟨hsm, hw⟩ := hl y (List.mem_of_getElem? hb)
    have hIH := fun b hK => f15_by n k t l c d hlen hl cx cy S K rem (j + 1) f b (by simp only [List.length_cons] at hf; omega) (fun i => by have := hr (i + 1); simp only [List.getElem?_cons_succ] at this; rw [this]; congr 1; omega) (by simp only [List.length_cons] at hj; omega) hK
    cases b with
    | false =>
      refine WCode.round (nt := 94) (fx := []) ?_
      refine WCmp.yes (ltLen hjl) ?_
      refine WOut.mk _ (addOne (T := 3) (j := j) (by omega)) ?_
      exact hIH false (fun b' h => hK b' h)
    | true =>
      refine WCode.round (nt := 94) (fx := []) ?_
      refine WCmp.yes (ltLen hjl) ?_
      refine WOut.mk _ (index44 hb) ?_
      refine WCall.mkB (r55_ok n y _ hsm hw) (fun hm => ?_) (fun hm => ?_)
      · refine WOut.mk _ (addOne (T := 3) (j := j) (by omega)) ?_
        exact hIH true (fun b' h => hK b' (by rw [h, List.all_cons, hm]; rfl))
      · refine WOut.mk _ (addOne (T := 3) (j := j) (by omega)) ?_
        exact hIH false (fun b' h => hK b' (by rw [h, List.all_cons, hm]; rfl))

theorem law15_frame (n : Nat) (t : Tm) (l : List Tm) (bys : List Lv) (hsm : Sm t) (hl : ∀ x ∈ l, Sm x) (hn : wt t < n) (hln : wts l < n) (hzn : wt (instTm t l) < n) :
    ∃ S', frame Try.cfg (run Try.cfg (n + n + n + 100)) (n + n + n + 100) 15 [encA t, .list (szOf true l) (tkOf false) 0 (encTs l), encL .no bys] St.empty = some (.bool true, S') := by
  have hworks := f36_ok (n + n + n + 79) St.empty
  have hwx : ∀ x ∈ l, wt x < n := fun x hx => by have := wts_mem hx; omega
  refine frame_ex Try.cfg _ (fn := Try.f15) rfl rfl ?_
  refine WCall.mkB (f52_ok (n + n + n + 98) t l true false _ (by omega) (by omega)) (fun hf => ?_) (fun hf => ?_)
  · refine WCmp.mk (fun h1 => ?_) (fun h1 => ?_)
    · refine WCall.mk _ _ hworks ?_
      exact ⟨_, rfl⟩
    have hb : bys.length ≤ 10 := by
      have h1' : Nat.blt 10 (lenN (bys.map enc)) = false := h1
      rw [lenN_eq, List.length_map] at h1'
      by_cases h : bys.length ≤ 10
      · exact h
      · rw [blt_yes (by omega)] at h1'; cases h1'
    unfold fewT at hf
    simp only [Bool.and_eq_true, Bool.not_eq_true'] at hf
    obtain ⟨⟨hd, hlen⟩, hld⟩ := hf
    have hlen : l.length ≤ 10 := by
      have h1' : Nat.blt 10 (lenN (encTs l)) = false := hlen
      rw [encTs_len] at h1'
      by_cases h : l.length ≤ 10
      · exact h
      · rw [blt_yes (by omega)] at h1'; cases h1'
    have hts := deep_size hd
    have hlz : ∀ x ∈ l, sizeT x ≤ 131072 := fun x hx => deep_size (by have := List.all_eq_true.1 hld x hx; simpa using this)
    have hfit : ∀ m, n ≤ m → Fits l m := fun m hm => ⟨by omega, fun y hy => ⟨by have := hlz y hy; omega, by have := hwx y hy; omega⟩⟩
    refine WCall.mk _ _ (r70_ok (n + n + n + 99) t l true false _ (hfit _ (by omega)) (by omega) (by omega) (by omega)) ?_
    refine WCmp.mk (fun h2 => ?_) (fun h2 => ?_)
    · refine WCall.mk _ _ hworks ?_
      exact ⟨_, rfl⟩
    have hsmI : Sm (instTm t l) := inst_keeps hl t () 0 hsm
    obtain ⟨l1, l2, l3⟩ := levM_facts t bys hsm (by omega : sizeT t < 1000000000) (by omega : wt t < n + 1) (by omega)
    have h71 := f71_ok (n + n + n + 49) t bys .no St.empty (by omega) hsm (FewL.of hd) (by omega) (by omega)
    have h37 := f37_any (n + 84) n n t l true false St.empty hlen hsm (by omega) (by omega) (fun x hx => ⟨⟨hwx x hx, by have := hlz x hx; omega⟩, hl x hx⟩) hsmI hzn
    rw [show n + 84 + n + n + 16 = n + n + n + 100 by omega] at h37
    have hloop := fun cx cy b K hK => f15_by (n + n + n + 92) (n + n + n + 100) t l true false (by omega) (fun x hx => ⟨hl x hx, by have := hwx x hx; omega⟩) cx cy St.empty K l 0 (n + n + n + 100) b (by have := wts_len l; omega) (fun i => by rw [Nat.zero_add]) (by rw [Nat.zero_add]) hK
    refine WCall.mkB (r55_ok (n + n + n + 92) t _ hsm (by omega)) (fun hm => ?_) (fun hm => ?_)
    · refine WCall.mk _ _ h71 ?_
      have hlt := lev_told t bys hm
      have t1 := f57_ok (n + n + n + 91) (levM t bys).1 (levM t bys).2 (exP (lvT bys t)).1 (exP (lvT bys t)).2 St.empty l1 l2 (by omega) (by
        have := levM_facts t bys hsm (by omega : sizeT t < 1000000000) (by omega : wt t < n + 1) (by omega)
        unfold levM at this
        rw [hm] at this
        exact this.1) (by
        have := levM_facts t bys hsm (by omega : sizeT t < 1000000000) (by omega : wt t < n + 1) (by omega)
        unfold levM at this
        rw [hm] at this
        have h3 := this.2.2
        show wt (exP (lvT bys t)).1 < _
        have h4 : wt (exP (lvT bys t)).1 < n + 1 := h3
        omega)
      rw [hlt] at t1
      refine WCall.mk _ _ (r72_ok bys (by omega) (n + n + n + 50) t .no _ hsm (FewL.of hd) (by omega) (by omega)) ?_
      refine WCall.mk _ _ t1 ?_
      refine hloop (levM t bys).1 (exP (lvT bys t)).1 true _ ?_
      intro b' hall
      rw [Bool.true_and] at hall
      cases b' with
      | false =>
        have he : instM t l = (zTm, 1) := by unfold instM; rw [← hall, Bool.and_false]; rfl
        rw [he] at h37
        refine WCall.mk _ _ h37 ?_
        have h39 := r39_ok (n + n + n + 100) zTm zTm St.empty Sm_zTm (by rw [size_zTm]; omega) (by rw [wt_zTm]; omega)
        rw [sameT_refl] at h39
        refine WCmp.yes rfl ?_
        refine WCall.mk _ _ h39 ?_
        refine WCall.mk _ _ hworks ?_
        exact ⟨_, rfl⟩
      | true =>
        obtain ⟨io, iz⟩ := inst_one t l
        have hsmi : Sm (instM t l).1 := by
          rcases io with h | h <;> rw [h]
          · exact hsmI
          · exact Sm_zTm
        have hwi : wt (instM t l).1 < n + 1 := by
          rcases io with h | h <;> rw [h]
          · omega
          · rw [wt_zTm]; omega
        have t2 := f57_ok (n + n + n + 91) (instM t l).1 (instM t l).2 (instTm t l) 0 St.empty hsmi (by omega) (by omega) hsmI (by omega)
        rw [inst_told t l (by omega) hm hall.symm] at t2
        refine WCall.mk _ _ h37 ?_
        have h73 := r73_ok (n + n + 97) t l true false n St.empty (by omega) (by omega) (hfit n (Nat.le_refl _))
        rw [show n + n + 97 + n + 3 = n + n + n + 100 by omega] at h73
        refine WCall.mk _ _ h73 ?_
        refine WCall.mk _ _ t2 ?_
        refine WCall.mk _ _ hworks ?_
        exact ⟨_, rfl⟩
    · have hlv : levM t bys = (zTm, 1) := by unfold levM; rw [hm]
      rw [hlv] at h71
      have t1 := f57_ok (n + n + n + 91) zTm 1 zTm 1 St.empty Sm_zTm (by rw [size_zTm]; omega) (by rw [wt_zTm]; omega) Sm_zTm (by rw [wt_zTm]; omega)
      rw [told_err 1 rfl] at t1
      refine WCall.mk _ _ h71 ?_
      refine WCall.mk _ _ t1 ?_
      refine hloop zTm zTm false _ ?_
      intro b' hall
      rw [Bool.false_and] at hall
      subst hall
      have he : instM t l = (zTm, 1) := by unfold instM; rw [hm, Bool.false_and]; rfl
      rw [he] at h37
      refine WCall.mk _ _ h37 ?_
      have h39 := r39_ok (n + n + n + 100) zTm zTm St.empty Sm_zTm (by rw [size_zTm]; omega) (by rw [wt_zTm]; omega)
      rw [sameT_refl] at h39
      refine WCmp.yes rfl ?_
      refine WCall.mk _ _ h39 ?_
      refine WCall.mk _ _ hworks ?_
      exact ⟨_, rfl⟩
  · refine WCall.mk _ _ hworks ?_
    exact ⟨_, rfl⟩

theorem law15 (us : List V) (h : Args Try.prog Try.f15.params.toList us) : ∃ n S', run Try.cfg n (.f 15) us St.empty = some (.bool true, S') := by
  rw [Try.params15] at h
  obtain ⟨t, r1, rfl, hsm, h1⟩ := arg46 h
  obtain ⟨l, r2, rfl, hl, h2⟩ := arg44 h1
  obtain ⟨bys, r3, rfl, h3⟩ := arg25 h2
  obtain rfl := arg_nil h3
  obtain ⟨S', hf⟩ := law15_frame (wt t + wts l + wt (instTm t l) + 1) t l bys hsm hl (by omega) (by omega) (by omega)
  exact ⟨_, St.empty, run_tm hf (by rw [strips_t, strips_ts]; rfl) rfl rfl rfl rfl rfl⟩

end Go.Ev

namespace Go.Proofs.Ytidebmakgffjnaa
open Go.Ev Go.ChangeShapes Go.WideShapes Go.ChangeAt Go.RowKit

theorem evOwn : ownKnob Try.prog.godebug = none := by kernel_rfl
theorem evLaid : laidOutB Try.prog = true := by kernel_rfl
theorem evMaps : mapsRowed Try.prog = true := by kernel_rfl
noncomputable def evTypes : List Nat := [3, 5, 9, 22, 24, 25, 44, 46]
theorem evPlain : allB (plainT Try.prog evTypes) evTypes = true := by kernel_rfl
theorem evRead : allB (fun t => Try.prog.readableRec t) evTypes = true := by kernel_rfl
theorem evPar {ts : List Nat} (h : allB (fun t => memN t evTypes) ts = true) : ∀ t ∈ ts, memN t evTypes = true ∧ Try.prog.readableRec t = true :=
  fun t ht => ⟨allB_mem h t ht, allB_mem evRead t (memN_iff.1 (allB_mem h t ht))⟩

set_option maxRecDepth 100000 in
theorem substInsts_lifted (hlaw : ∀ us, Args Try.prog Try.f15.params.toList us → ∃ n S', run Go.Ev.Try.cfg n (.f 15) us St.empty = some (.bool true, S')) (os : Os) (started : os.Started) (H : Type) (enc : TypeId × Value → H) :
    ReturnsInHanded {} Try.checked os 15 .any (Rows.substInstsSpec.pre6 enc Try.prog Try.f15 Rows.substInstsRow.domain false) (Rows.substInstsSpec.post enc Try.prog Try.f15 false true false false) := by
  refine returnsInHanded_of_change (C := Try.checked) evOwn started (by kernel_rfl) Try.func15
    (ChangeSpec.witness6 (enc := enc) (C := Try.checked) false ⟨#[], #[.agg #[.int .u8 0, .int .i64 0, .string ⟨⟨[]⟩⟩, .slice none 0 0, .slice none 0 0], .slice none 0 0, .slice none 0 0], []⟩ 8 (by kernel_rfl) (by kernel_rfl) (by kernel_rfl) (by kernel_rfl)) ?_
  intro W base args ds gs before hval hW _ _
  exact law_contract (C := Go.Ev.Try.cfg) (P := Try.prog) (s := Rows.substInstsSpec) Go.Ev.Try.runOk evLaid evMaps evPlain (evPar (by kernel_rfl)) (by kernel_rfl) rfl (tb := 4) (by kernel_rfl) Try.underlying4
    (fun _ ds hd => by
      match ds, (show ds.length = 3 from hd) with
      | [d1, d2, d3], _ => rfl) hval hW hlaw

theorem substInsts_of (hlaw : ∀ us, Args Try.prog Try.f15.params.toList us → ∃ n S', run Go.Ev.Try.cfg n (.f 15) us St.empty = some (.bool true, S')) : Rows.SubstInstsSaid :=
  OpenClaim.holds_of_wide 15 Try.f15 rfl rfl rfl rfl rfl rfl rfl ⟨rfl, rfl, rfl, rfl, rfl⟩ rfl rfl rfl rfl rfl (by kernel_rfl) Try.func15 (by kernel_rfl)
    (of_decide_eq_true (by kernel_rfl)) (by unfold Func.isWrapper; first | (rw [if_pos (by decide +kernel)]; kernel_rfl) | (rw [if_neg (by decide +kernel)]; exact ⟨rfl, rfl⟩))
    (fun os started H enc _ => substInsts_lifted hlaw os started H enc)

end Go.Proofs.Ytidebmakgffjnaa

namespace Go.Proofs.Ytidebmakgffjnaa

/-- SubstInsts. -/
theorem substInsts_holds : Rows.SubstInstsSaid := substInsts_of (fun us h => Go.Ev.law15 us h)

end Go.Proofs.Ytidebmakgffjnaa
