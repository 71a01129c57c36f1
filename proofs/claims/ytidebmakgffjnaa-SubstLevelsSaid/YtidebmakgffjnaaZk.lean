/- The statement SubstLevels is proved: the law returns true at every input, and its arguments read behind the call as before. No condition (own work). -/
import Derived.Test.YtidebmakgffjnaaXy
import Derived.Test.YtidebmakgffjnaaXw
import Derived.Test.YtidebmakgffjnaaRows
import Derived.WalkKit
import Derived.JoinedCond
/- Terms: SubstTwice, SubstNames, walked and proved (own work). -/
namespace Go.Ev
open Go.Proofs Go.RowKit
set_option maxRecDepth 100000
set_option linter.unusedSimpArgs false
set_option linter.unusedVariables false
set_option maxHeartbeats 1000000

/-! ### small -/

noncomputable def smT (x : Tm) : Bool := !deepT x && (mayT x && (!iLt 30 (.ofNat (sizeT x)) && !iLt 1000 (freeF x 0)))

noncomputable def f35L : Code := loopN Try.f35 0

theorem f35_by (n k : Nat) (l : List Tm) (c d : Bool) (hlen : l.length < 1000000000) (hl : ∀ x ∈ l, Sm x ∧ wt x < n) (S : St) (K : Ex → Env → St → Prop) :
    ∀ (rem : List Tm) (j f : Nat), rem.length < f → (∀ i, rem[i]? = l[j + i]?) → j + rem.length = l.length →
    (rem.all smT = true → K (.exit 0) { nt := 39, tmps := [(0, .list (szOf c l) (tkOf d) 0 (encTs l)), (3, .int .i64 (.ofNat l.length)), (7, .bool false)], locs := [], fix := [] } S) →
    (rem.all smT = false → K .ret { nt := 39, tmps := [(2, .bool false)], locs := [], fix := [] } S) →
    WCode (iter (evalCode Try.cfg (run Try.cfg (n + 8)) k 35 (Try.cfg.fc 35) f35L) f { nt := 39, tmps := [(0, .list (szOf c l) (tkOf d) 0 (encTs l)), (3, .int .i64 (.ofNat j))], locs := [], fix := [] } S) K
  | [], j, f + 1, hf, hr, hj, hK, hY => by
    have hjl : j = l.length := by simpa using hj
    subst hjl
    refine WCode.round (nt := 39) (fx := []) ?_
    refine WCmp.no (geLen (by omega)) ?_
    exact hK rfl
  | y :: rem, j, f + 1, hf, hr, hj, hK, hY => by
    have hb : l[j]? = some y := by have := hr 0; simpa using this.symm
    have hjl : j < l.length := (List.getElem?_eq_some_iff.1 hb).1
    obtain ⟨hsm, hw⟩ := hl y (List.mem_of_getElem? hb)
    refine WCode.round (nt := 39) (fx := []) ?_
    refine WCmp.yes (ltLen hjl) ?_
    refine WOut.mk _ (index44 hb) ?_
    refine WCall.mkB (r82_ok (n + 7) y _ (by omega)) (fun hd => ?_) (fun hd => ?_)
    · exact hY (by rw [List.all_cons]; unfold smT; rw [hd]; rfl)
    refine WOut.mk _ (index44 hb) ?_
    refine WCall.mkB (r55_ok n y _ hsm hw) (fun hm => ?_) (fun hm => ?_)
    · have hsz := may_size hm
      refine WOut.mk _ (index44 hb) ?_
      refine WCall.mk _ _ (r44_ok (n + 8) y _ (by omega) (by omega)) ?_
      refine WCmp.mk (fun hz => ?_) (fun hz => ?_)
      · exact hY (by rw [List.all_cons]; unfold smT; rw [hd, hm, hz]; rfl)
      refine WOut.mk _ (index44 hb) ?_
      refine WCall.mk _ _ (r43_ok (n + 6) y _ (by omega) (by omega)) ?_
      refine WCmp.mk (fun hF => ?_) (fun hF => ?_)
      · exact hY (by rw [List.all_cons]; unfold smT; rw [hd, hm, hz, hF]; rfl)
      have hs : smT y = true := by unfold smT; rw [hd, hm, hz, hF]; rfl
      refine WOut.mk _ (addOne (T := 3) (j := j) (by omega)) ?_
      exact f35_by n k l c d hlen hl S K rem (j + 1) f (by simp only [List.length_cons] at hf; omega) (fun i => by have := hr (i + 1); simp only [List.getElem?_cons_succ] at this; rw [this]; congr 1; omega) (by simp only [List.length_cons] at hj; omega) (fun h => hK (by rw [List.all_cons, hs, h]; rfl)) (fun h => hY (by rw [List.all_cons, hs, h]; rfl))
    · exact hY (by rw [List.all_cons]; unfold smT; rw [hd, hm]; rfl)

theorem f35_ok (n : Nat) (l : List Tm) (c d : Bool) (S : St) (hlen : l.length ≤ 10) (hn : 10 < n) (hl : ∀ x ∈ l, Sm x ∧ wt x < n) : run Try.cfg (n + 9) (.f 35) [.list (szOf c l) (tkOf d) 0 (encTs l)] S = some (.bool (l.all smT), S) := by
  have : frame Try.cfg (run Try.cfg (n + 8)) (n + 8) 35 [.list (szOf c l) (tkOf d) 0 (encTs l)] St.empty = some (.bool (l.all smT), St.empty) := by
    refine frame_of Try.cfg _ (fn := Try.f35) rfl rfl ?_
    refine f35_by n (n + 8) l c d (by omega) hl _ _ l 0 (n + 8) (by omega) (fun i => by rw [Nat.zero_add]) (by rw [Nat.zero_add]) (fun h => ?_) (fun h => ?_)
    · exact rfB h.symm
    · exact rfB h.symm
  exact run_tm this (by simp only [strips_ts, strips_nil]) rfl rfl rfl rfl rfl

theorem small_facts {x : Tm} (h : smT x = true) : mayT x = true ∧ freeF x 0 ≤ 1000 ∧ Bd x 30 30 1030 := by
  unfold smT at h
  simp only [Bool.and_eq_true, Bool.not_eq_true', iLt_not] at h
  obtain ⟨_, hm, hz, hF⟩ := h
  exact ⟨hm, hF, bd_of hm (by simp only [Int.ofNat_eq_natCast] at hz; omega) (by omega) hF⟩

theorem inst1_nrm (u : Tm) (a n : Int) : inst1 u a n = inst1 (nrm u) a n := by unfold inst1; rw [mapT_nrm]
theorem inst2_nrm (u v : Tm) (a n : Int) : inst2 u v a n = inst2 u (nrm v) a n := by unfold inst2; rw [mapT_nrm]
theorem inst2_nrm' (u v : Tm) (a n : Int) : inst2 u v a n = inst2 (nrm u) v a n := by unfold inst2; rw [mapT_nrm]

/-! ### SubstTwice -/

structure TwiceOk (t u v : Tm) : Prop where
  both : mayT (instTm t [u, v]) = true
  up : mayT (liftT v 0 1) = true
  one : mayT (instTm t [liftT v 0 1]) = true
  two : mayT (instTm (instTm t [liftT v 0 1]) [u]) = true
  same : sameT (instTm t [u, v]) (instTm (instTm t [liftT v 0 1]) [u]) = true
  a : mayT (instTm t [u]) = true
  b : mayT (instTm (instTm t [u]) [v]) = true
  w : mayT (instTm u [v]) = true
  c : mayT (instTm t [v, instTm u [v]]) = true
  same2 : sameT (instTm (instTm t [u]) [v]) (instTm t [v, instTm u [v]]) = true

theorem twice_ok {t u v : Tm} (ht : smT t = true) (hu : smT u = true) (hv : smT v = true) : TwiceOk t u v := by
  obtain ⟨mt, ft, bt⟩ := small_facts ht
  obtain ⟨mu, fu, bu⟩ := small_facts hu
  obtain ⟨mv, fv, bv⟩ := small_facts hv
  have b1 := bd_inst2 (B := 1060) bt bu bv (by omega) (by omega) (by omega) (by omega) (by omega)
  have b2 := bd_lift (a := 1) bv (by omega) (by omega) (by omega) (by omega) (by omega)
  have b3 := bd_inst1 (B := 1061) bt b2 (by omega) (by omega) (by omega) (by omega) (by omega)
  have b4 := bd_inst1 (B := 1090) b3 bu (by omega) (by omega) (by omega) (by omega) (by omega)
  have b5 := bd_inst1 (B := 1060) bt bu (by omega) (by omega) (by omega) (by omega) (by omega)
  have b6 := bd_inst1 (B := 1090) b5 bv (by omega) (by omega) (by omega) (by omega) (by omega)
  have b7 := bd_inst1 (B := 1060) bu bv (by omega) (by omega) (by omega) (by omega) (by omega)
  have b8 := bd_inst2 (B := 1090) bt (bv.mono (q := 60) (r := 900) (c := 1060) (by omega) (by omega) (by omega)) b7 (by omega) (by omega) (by omega) (by omega) (by omega)
  have m1 := b1.may (by omega) (by omega)
  have m2 := b2.may (by omega) (by omega)
  have m3 := b3.may (by omega) (by omega)
  have m4 := b4.may (by omega) (by omega)
  have m5 := b5.may (by omega) (by omega)
  have m6 := b6.may (by omega) (by omega)
  have m7 := b7.may (by omega) (by omega)
  have m8 := b8.may (by omega) (by omega)
  refine ⟨m1, m2, m3, m4, same_nrm _ ?_, m5, m6, m7, m8, same_nrm _ ?_⟩
  · rw [nrm_inst00 mt mu mv, nrm_inst0 m3 mu, ← mapT_nrm (instTm t _), nrm_inst0 mt m2, mapT_ext (f := inst1 (liftT v 0 1)) (inst1_nrm _), nrm_lift0 mv (by omega) (by omega), map_twice u v t (allV_pos bt.dp)]
  · rw [nrm_inst0 m5 mv, ← mapT_nrm (instTm t _), nrm_inst0 mt mu, map_after u v t (allV_pos bt.dp) (allV_pos bu.dp), nrm_inst00 mt mv m7, mapT_ext (f := inst2 v (instTm u [v])) (inst2_nrm _ _), nrm_inst0 mu mv]

theorem law7_frame (n : Nat) (t u v : Tm) (hst : Sm t) (hsu : Sm u) (hsv : Sm v) (h10 : 10 < n) (ht : wt t < n) (hu : wt u < n) (hv : wt v < n)
    (w1 : wt (instTm t [u, v]) < n) (w2 : wt (instTm t [liftT v 0 1]) < n) (w3 : wt (instTm (instTm t [liftT v 0 1]) [u]) < n) (w4 : wt (instTm t [u]) < n) (w5 : wt (instTm (instTm t [u]) [v]) < n) (w6 : wt (instTm u [v]) < n) (w7 : wt (instTm t [v, instTm u [v]]) < n) :
    ∃ S', frame Try.cfg (run Try.cfg (n + n + n + 100)) (n + n + n + 100) 7 [encA t, encA u, encA v] St.empty = some (.bool true, S') := by
  have hworks := f36_ok (n + n + n + 79) St.empty
  refine frame_ex Try.cfg _ (fn := Try.f7) rfl rfl ?_
  have h35 : run Try.cfg (n + n + n + 100) (.f 35) [.list 5 .tight 0 [encS t, encS u, encS v]] St.empty = some (.bool ([t, u, v].all smT), St.empty) := by
    have := f35_ok (n + n + n + 91) [t, u, v] true true St.empty (by simp) (by omega) (fun x hx => by
      simp only [List.mem_cons, List.not_mem_nil, or_false] at hx
      rcases hx with rfl | rfl | rfl
      · exact ⟨hst, by omega⟩
      · exact ⟨hsu, by omega⟩
      · exact ⟨hsv, by omega⟩)
    rw [encTs_eq] at this
    rw [encS_eq, encS_eq, encS_eq]
    exact this
  refine WCall.mkB h35 (fun hf => ?_) (fun hf => ?_)
  · simp only [List.all_cons, List.all_nil, Bool.and_true, Bool.and_eq_true] at hf
    have L := twice_ok hf.1 hf.2.1 hf.2.2
    obtain ⟨mt, _, _⟩ := small_facts hf.1
    obtain ⟨mu, _, _⟩ := small_facts hf.2.1
    obtain ⟨mv, _, _⟩ := small_facts hf.2.2
    have kv := lift_keeps v 0 1
    have smU := kv.2.1 hsv
    have c1 := fun S => f37_may2 (n + 84) n n t u v S hst mt (by omega) hsu mu hu hsv mv hv L.both w1
    have c2 := fun S => f38_may (n + n + n + 85) v 0 1 S hsv mv (by omega) (by omega) (by omega) (by omega) (by omega) L.up
    have c3 := fun S => f37_may1 (n + 84) n n t (liftT v 0 1) S hst mt (by omega) smU L.up (by rw [kv.1]; exact hv) L.one w2
    have c4 := fun S => f37_may1 (n + 84) n n (instTm t [liftT v 0 1]) u S (sm_inst1 hst smU) L.one (by omega) hsu mu hu L.two w3
    have c5 := fun S => f39_yes (n + n + n + 100) (instTm t [u, v]) (instTm (instTm t [liftT v 0 1]) [u]) S (sm_inst2 hst hsu hsv) (by have := may_size L.both; omega) (by omega) L.same
    have c6 := fun S => f37_may1 (n + 84) n n t u S hst mt (by omega) hsu mu hu L.a w4
    have c7 := fun S => f37_may1 (n + 84) n n (instTm t [u]) v S (sm_inst1 hst hsu) L.a (by omega) hsv mv hv L.b w5
    have c8 := fun S => f37_may1 (n + 84) n n u v S hsu mu (by omega) hsv mv hv L.w w6
    have c9 := fun S => f37_may2 (n + 84) n n t v (instTm u [v]) S hst mt (by omega) hsv mv hv (sm_inst1 hsu hsv) L.w w6 L.c w7
    have c10 := fun S => f39_yes (n + n + n + 100) (instTm (instTm t [u]) [v]) (instTm t [v, instTm u [v]]) S (sm_inst1 (sm_inst1 hst hsu) hsv) (by have := may_size L.b; omega) (by omega) L.same2
    rw [show n + 84 + n + n + 16 = n + n + n + 100 by omega] at c1 c3 c4 c6 c7 c8 c9
    refine WCall.mk _ _ (c1 _) ?_
    refine WCall.mk _ _ (c2 _) ?_
    refine WCall.mk _ _ (c3 _) ?_
    refine WCall.mk _ _ (c4 _) ?_
    refine WCmp.no rfl ?_
    refine WCmp.no rfl ?_
    refine WCmp.no rfl ?_
    refine WCmp.no rfl ?_
    refine WCall.mk _ _ (c5 _) ?_
    refine WCall.mk _ _ (c6 _) ?_
    refine WCall.mk _ _ (c7 _) ?_
    refine WCall.mk _ _ (c8 _) ?_
    refine WCmp.no rfl ?_
    refine WCmp.no rfl ?_
    refine WCmp.no rfl ?_
    refine WCall.mk _ _ (c9 _) ?_
    refine WCmp.yes rfl ?_
    refine WCall.mk _ _ (c10 _) ?_
    refine WCall.mk _ _ hworks ?_
    exact ⟨_, rfl⟩
  · refine WCall.mk _ _ hworks ?_
    exact ⟨_, rfl⟩

theorem law7 (us : List V) (h : Args Try.prog Try.f7.params.toList us) : ∃ n S', run Try.cfg n (.f 7) us St.empty = some (.bool true, S') := by
  rw [Try.params7] at h
  obtain ⟨t, r1, rfl, hst, h1⟩ := arg46 h
  obtain ⟨u, r2, rfl, hsu, h2⟩ := arg46 h1
  obtain ⟨v, r3, rfl, hsv, h3⟩ := arg46 h2
  obtain rfl := arg_nil h3
  obtain ⟨S', hf⟩ := law7_frame (wt t + wt u + wt v + wt (instTm t [u, v]) + wt (instTm t [liftT v 0 1]) + wt (instTm (instTm t [liftT v 0 1]) [u]) + wt (instTm t [u]) + wt (instTm (instTm t [u]) [v]) + wt (instTm u [v]) + wt (instTm t [v, instTm u [v]]) + 11) t u v hst hsu hsv (by omega) (by omega) (by omega) (by omega) (by omega) (by omega) (by omega) (by omega) (by omega) (by omega) (by omega)
  exact ⟨_, St.empty, run_tm hf (by simp only [strips_t, strips_nil]) rfl rfl rfl rfl rfl⟩

end Go.Ev

/- Terms: SubstInsts, in plain terms (own work). -/
namespace Go.Ev
open Go.Proofs Go.RowKit
set_option maxRecDepth 100000
set_option linter.unusedSimpArgs false
set_option linter.unusedVariables false

/-! ### Levels may be -/

theorem lvL_len {bys : List Lv} : ∀ {ls out : List Lv}, lvL bys ls = .ok out → out.length = ls.length ∧ out.all mayF = true
  | [], out, h => by cases h; exact ⟨rfl, rfl⟩
  | l :: ls, out, h => by
    rw [lvL] at h
    split at h
    · rename_i h0
      split at h
      · rename_i o2 h2
        cases h
        obtain ⟨h3, h4⟩ := lvL_len h2
        refine ⟨by simp [h3], ?_⟩
        rw [List.all_cons, h4, Bool.and_true]
        unfold instF at h0 ⊢
        have tf : ∀ y, iEq (toldF y).2 0 = true → mayF (toldF y).1 = true := fun y hy => by
          rw [toldF_eq] at hy ⊢
          cases hm : mayF (formF y) with
          | true => exact hm
          | false => rw [hm] at hy; cases hy
        cases hq : (mayF l && bys.all mayF) with
        | false => rw [hq] at h0; cases h0
        | true =>
          rw [hq] at h0
          cases hf : foldE (instStep bys) l.ps 0 { zeroLv with c := l.c } with
          | mk ok out =>
            rw [hf] at h0
            cases ok with
            | true => exact tf out h0
            | false => cases h0
      · cases h
    · cases h

theorem node_withL {x : Tm} (h : nodeT x = true) {out : List Lv} {o2 : List Tm} (h1 : out.length = x.ls.length) (h2 : out.all mayF = true) (h3 : o2.length = x.ts.length) : nodeT (x.withL out o2) = true := by
  unfold nodeT at h ⊢
  have e1 : lenN (encTs (x.withL out o2).ts) = lenN (encTs x.ts) := by rw [encTs_len, encTs_len]; exact h3
  have e2 : lenN ((x.withL out o2).ls.map enc) = lenN (x.ls.map enc) := by rw [lenN_eq, lenN_eq, List.length_map, List.length_map]; exact h1
  have e3 : lvOk (x.withL out o2) = lvOk x := by unfold lvOk; rw [e2]; rfl
  rw [e1, e3]
  simp only [Bool.and_eq_true] at h ⊢
  exact ⟨⟨h.1.1, h2⟩, h.2⟩

theorem lvT_scan {bys : List Lv} (x : Tm) : ∀ {z : Tm}, lvT bys x = .ok z → ∀ {l d r : Nat}, scanT nodeT x l d = some r → scanT nodeT z l d = some r := by
  induction x using Tm.ind with
  | h x ih =>
    intro z hz l d r hs
    obtain ⟨l', d', rfl, rfl, hp, hts⟩ := scanT_some hs
    rw [lvT_eq] at hz
    split at hz
    · rename_i out ho
      split at hz
      · rename_i o2 h2
        cases hz
        have key : ∀ (ts : List Tm), (∀ y ∈ ts, y ∈ x.ts) → ∀ {o2 : List Tm}, lvTs bys ts = .ok o2 → ∀ {l r}, scanTs nodeT ts l d' = some r → scanTs nodeT o2 l d' = some r ∧ o2.length = ts.length := by
          intro ts
          induction ts with
          | nil => intro _ o2 h l r hs; rw [lvTs] at h; cases h; exact ⟨hs, rfl⟩
          | cons t ts ih2 =>
            intro hm o2 h l r hs
            rw [lvTs_cons] at h
            rw [scanTs_cons] at hs
            split at h
            · rename_i z hz
              split at h
              · rename_i o3 h3
                cases h
                split at hs
                · rename_i l1 h1
                  obtain ⟨k1, k2⟩ := ih2 (fun y hy => hm y (List.mem_cons_of_mem _ hy)) h3 hs
                  rw [scanTs_cons, ih t (hm t List.mem_cons_self) hz h1]
                  exact ⟨k1, by simp [k2]⟩
                · cases hs
              · cases h
            · cases h
        obtain ⟨k1, k2⟩ := key x.ts (fun _ h => h) h2 hts
        obtain ⟨e1, e2⟩ := lvL_len ho
        rw [scanT_eq]
        simp only
        rw [node_withL hp e1 e2 k2]
        exact k1
      · cases hz
    · cases hz

theorem lvT_may {bys : List Lv} {x z : Tm} (h : lvT bys x = .ok z) (hm : mayT x = true) : mayT z = true := by
  obtain ⟨r, hr⟩ := may_some hm
  unfold mayT
  rw [lvT_scan x h hr]
  rfl

theorem lvT_keeps {bys : List Lv} (x : Tm) : ∀ {z : Tm}, lvT bys x = .ok z → Keeps x z := by
  induction x using Tm.ind with
  | h x ih =>
    intro z hz
    rw [lvT_eq] at hz
    split at hz
    · rename_i out ho
      split at hz
      · rename_i o2 h2
        cases hz
        have key : ∀ (ts : List Tm), (∀ y ∈ ts, y ∈ x.ts) → ∀ {o2 : List Tm}, lvTs bys ts = .ok o2 → wts o2 = wts ts ∧ ((∀ y ∈ ts, Sm y) → ∀ y ∈ o2, Sm y) ∧ sizeTs o2 = sizeTs ts := by
          intro ts
          induction ts with
          | nil => intro _ o2 h; rw [lvTs] at h; cases h; exact ⟨rfl, fun h => h, rfl⟩
          | cons t ts ih2 =>
            intro hm o2 h
            rw [lvTs_cons] at h
            split at h
            · rename_i z hz
              split at h
              · rename_i o3 h3
                cases h
                obtain ⟨a1, a2, a3⟩ := ih t (hm t List.mem_cons_self) hz
                obtain ⟨b1, b2, b3⟩ := ih2 (fun y hy => hm y (List.mem_cons_of_mem _ hy)) h3
                refine ⟨by rw [wts, wts, a1, b1], ?_, by rw [sizeTs_cons, sizeTs_cons, a3, b3]⟩
                intro h y hy
                cases hy with
                | head => exact a2 (h t List.mem_cons_self)
                | tail _ hy => exact b2 (fun z hz => h z (List.mem_cons_of_mem _ hz)) y hy
              · cases h
            · cases h
        obtain ⟨k1, k2, k3⟩ := key x.ts (fun _ h => h) h2
        obtain ⟨e1, _⟩ := lvL_len ho
        refine ⟨?_, ?_, ?_⟩
        · rw [wt_eq, wt_eq x]; show 1 + x.s.length + out.length + wts o2 = _; rw [k1, e1]
        · intro h
          rw [Sm_iff] at h ⊢
          refine ⟨⟨?_, h.1.2⟩, k2 h.2⟩
          show out.length ≤ _
          rw [e1]
          exact h.1.1
        · rw [sizeT_eq, sizeT_eq x]; show 1 + sizeTs o2 = _; rw [k3]
      · cases hz
    · cases hz

/-- What Levels answers. -/
noncomputable def exT (r : Except Int Tm) (x : Tm) : Tm := match r with | .ok z => z | .error _ => x

theorem levM_facts (t : Tm) (bys : List Lv) {n : Nat} (hsm : Sm t) (hsz : sizeT t < 1000000000) (hw : wt t < n) (hn : 1 < n) : Sm (levM t bys).1 ∧ sizeT (levM t bys).1 < 1000000000 ∧ wt (levM t bys).1 < n := by
  unfold levM
  cases mayT t with
  | false => exact ⟨Sm_zTm, by rw [size_zTm]; omega, by rw [wt_zTm]; exact hn⟩
  | true =>
    cases h : lvT bys t with
    | error e => exact ⟨Sm_zTm, by show sizeT zTm < _; rw [size_zTm]; omega, by show wt zTm < _; rw [wt_zTm]; exact hn⟩
    | ok z =>
      obtain ⟨a1, a2, a3⟩ := lvT_keeps t h
      exact ⟨a2 hsm, by show sizeT z < _; rw [a3]; exact hsz, by show wt z < _; rw [a1]; exact hw⟩

theorem lev_told (t : Tm) (bys : List Lv) (hm : mayT t = true) : toldL (levM t bys).1 (levM t bys).2 (exP (lvT bys t)).1 (exP (lvT bys t)).2 = true := by
  unfold levM
  rw [hm]
  cases h : lvT bys t with
  | error e => exact told_err e (lvT_err t h)
  | ok z =>
    have hz := lvT_may h hm
    unfold toldL exP
    rw [hz, may_deep hz]
    show (iEq 0 0 && sameT z z) = true
    rw [sameT_refl]
    rfl

end Go.Ev

/- Terms: SubstLevels, walked and proved (own work). -/
namespace Go.Ev
open Go.Proofs Go.RowKit
set_option maxRecDepth 100000
set_option linter.unusedSimpArgs false
set_option linter.unusedVariables false
set_option maxHeartbeats 1000000

/-! ### Levels in the place of parameters, as a map -/

mutual
/-- All levels of a term have a value. -/
def OkL (bys : List Lv) : Tm → Prop
  | .mk _ _ _ _ _ _ _ ls ts => (∀ l ∈ ls, iEq (instF l bys).2 0 = true) ∧ OkLs bys ts
def OkLs (bys : List Lv) : List Tm → Prop
  | [] => True
  | t :: ts => OkL bys t ∧ OkLs bys ts
end
theorem OkLs_iff (bys : List Lv) (ts : List Tm) : OkLs bys ts ↔ ∀ y ∈ ts, OkL bys y := by
  induction ts with
  | nil => rw [OkLs]; simp
  | cons t ts ih => rw [OkLs, ih]; simp
theorem OkL_iff (bys : List Lv) (x : Tm) : OkL bys x ↔ (∀ l ∈ x.ls, iEq (instF l bys).2 0 = true) ∧ ∀ y ∈ x.ts, OkL bys y := by cases x; rw [OkL, OkLs_iff]; exact Iff.rfl

mutual
noncomputable def lvN (bys : List Lv) : Tm → Tm
  | .mk k n s _ _ _ _ ls ts => .mk k n s true true true true (ls.map (fun l => (instF l bys).1)) (lvNs bys ts)
noncomputable def lvNs (bys : List Lv) : List Tm → List Tm
  | [] => []
  | t :: ts => lvN bys t :: lvNs bys ts
end
theorem lvN_eq (bys : List Lv) (x : Tm) : lvN bys x = .mk x.k x.n x.s true true true true (x.ls.map (fun l => (instF l bys).1)) (lvNs bys x.ts) := by cases x; rw [lvN]; rfl
theorem lvNs_map (bys : List Lv) (ts : List Tm) : lvNs bys ts = ts.map (lvN bys) := by
  induction ts with
  | nil => rw [lvNs]; rfl
  | cons t ts ih => rw [lvNs, ih]; rfl

theorem lvL_ok {bys : List Lv} : ∀ {ls : List Lv}, (∀ l ∈ ls, iEq (instF l bys).2 0 = true) → lvL bys ls = .ok (ls.map (fun l => (instF l bys).1))
  | [], _ => by rw [lvL]; rfl
  | l :: ls, h => by
    rw [lvL, h l List.mem_cons_self, lvL_ok (fun x hx => h x (List.mem_cons_of_mem _ hx))]
    rfl

theorem lvL_inv {bys : List Lv} : ∀ {ls out : List Lv}, lvL bys ls = .ok out → ∀ l ∈ ls, iEq (instF l bys).2 0 = true
  | [], _, _, l, hl => by cases hl
  | l :: ls, out, h, x, hx => by
    rw [lvL] at h
    split at h
    · rename_i h0
      split at h
      · rename_i o2 h2
        cases hx with
        | head => exact h0
        | tail _ hx => exact lvL_inv h2 x hx
      · cases h
    · cases h

/-- Where all levels have a value, so has the term. -/
theorem lvT_ok {bys : List Lv} (x : Tm) : OkL bys x → ∃ z, lvT bys x = .ok z ∧ nrm z = lvN bys x := by
  induction x using Tm.ind with
  | h x ih =>
    intro h
    rw [OkL_iff] at h
    have key : ∀ (ts : List Tm), (∀ y ∈ ts, y ∈ x.ts) → ∃ o2, lvTs bys ts = .ok o2 ∧ nrms o2 = lvNs bys ts := by
      intro ts
      induction ts with
      | nil => intro _; exact ⟨[], by rw [lvTs], by rw [lvNs, nrms_nil]⟩
      | cons t ts ih2 =>
        intro hm
        obtain ⟨z, h1, h2⟩ := ih t (hm t List.mem_cons_self) (h.2 t (hm t List.mem_cons_self))
        obtain ⟨o2, h3, h4⟩ := ih2 (fun y hy => hm y (List.mem_cons_of_mem _ hy))
        exact ⟨z :: o2, by rw [lvTs_cons, h1, h3], by rw [lvNs, nrms_cons, h2, h4]⟩
    obtain ⟨o2, h3, h4⟩ := key x.ts (fun _ h => h)
    refine ⟨x.withL (x.ls.map (fun l => (instF l bys).1)) o2, by rw [lvT_eq, lvL_ok h.1, h3], ?_⟩
    rw [nrm_eq, lvN_eq, ← h4]
    rfl

theorem lvT_inv {bys : List Lv} (x : Tm) : ∀ {z : Tm}, lvT bys x = .ok z → OkL bys x := by
  induction x using Tm.ind with
  | h x ih =>
    intro z h
    rw [lvT_eq] at h
    split at h
    · rename_i out ho
      split at h
      · rename_i o2 h2
        rw [OkL_iff]
        refine ⟨lvL_inv ho, ?_⟩
        have key : ∀ (ts : List Tm), (∀ y ∈ ts, y ∈ x.ts) → ∀ {o2 : List Tm}, lvTs bys ts = .ok o2 → ∀ y ∈ ts, OkL bys y := by
          intro ts
          induction ts with
          | nil => intro _ o2 _ y hy; cases hy
          | cons t ts ih2 =>
            intro hm o2 h y hy
            rw [lvTs_cons] at h
            split at h
            · rename_i z hz
              split at h
              · rename_i o3 h3
                cases hy with
                | head => exact ih t (hm t List.mem_cons_self) hz
                | tail _ hy => exact ih2 (fun y hy => hm y (List.mem_cons_of_mem _ hy)) h3 y hy
              · cases h
            · cases h
        exact key x.ts (fun _ h => h) h2
      · cases h
    · cases h

theorem lvT_nrm {bys : List Lv} {x z : Tm} (h : lvT bys x = .ok z) : nrm z = lvN bys x := by
  obtain ⟨z', h1, h2⟩ := lvT_ok x (lvT_inv x h)
  rw [h] at h1
  cases h1
  exact h2

theorem okL_nrm {bys : List Lv} (x : Tm) : OkL bys (nrm x) ↔ OkL bys x := by
  induction x using Tm.ind with
  | h x ih =>
    rw [OkL_iff, OkL_iff]
    have hts : (nrm x).ts = x.ts.map nrm := by rw [nrm_eq, ← nrms_map]; rfl
    have hls : (nrm x).ls = x.ls := by rw [nrm_eq]; rfl
    rw [hts, hls]
    constructor
    · rintro ⟨h1, h2⟩
      exact ⟨h1, fun y hy => (ih y hy).1 (h2 _ (List.mem_map_of_mem hy))⟩
    · rintro ⟨h1, h2⟩
      refine ⟨h1, fun y hy => ?_⟩
      obtain ⟨z, hz, rfl⟩ := List.mem_map.1 hy
      exact (ih z hz).2 (h2 z hz)

theorem okL_map {bys : List Lv} {g : Int → Int → Tm} (hg : ∀ a n, OkL bys (g a n)) (x : Tm) : ∀ a, OkL bys x → OkL bys (mapT g x a) := by
  induction x using Tm.ind with
  | h x ih =>
    intro a h
    rw [mapT_eq]
    cases h2 : iEq x.k 2 with
    | true => exact hg _ _
    | false =>
      rw [OkL_iff] at h
      simp only [cond_false]
      rw [OkL_iff]
      refine ⟨h.1, fun y hy => ?_⟩
      obtain ⟨j, hj⟩ := List.getElem?_of_mem (show y ∈ mapTs g x.k x.ts 0 a from hy)
      obtain ⟨u, h3, h4⟩ := mapTs_get 0 hj
      rw [h4]
      exact ih u (List.mem_of_getElem? h3) _ (h.2 u (List.mem_of_getElem? h3))

theorem okL_varT (bys : List Lv) (n : Int) : OkL bys (varT n) := by
  rw [OkL_iff]
  exact ⟨fun l hl => (by cases hl), fun y hy => (by cases hy)⟩
theorem okL_liftG (bys : List Lv) (b a n : Int) : OkL bys (liftG b a n) := by
  unfold liftG
  split <;> exact okL_varT _ _
theorem okL_inst1 {bys : List Lv} {u : Tm} (h : OkL bys u) (a n : Int) : OkL bys (inst1 u a n) := by
  unfold inst1
  split
  · exact okL_varT _ _
  · split
    · exact okL_map (okL_liftG bys a) u 0 h
    · exact okL_varT _ _

theorem lvN_nrm {bys : List Lv} (x : Tm) : lvN bys (nrm x) = lvN bys x := by
  induction x using Tm.ind with
  | h x ih =>
    rw [lvN_eq, lvN_eq bys x]
    have hts : (nrm x).ts = x.ts.map nrm := by rw [nrm_eq, ← nrms_map]; rfl
    have e : lvNs bys (nrm x).ts = lvNs bys x.ts := by
      rw [hts, lvNs_map, lvNs_map, List.map_map]
      exact List.map_congr_left (fun y hy => ih y hy)
    rw [e, nrm_eq]
    rfl

theorem lvN_varT (bys : List Lv) (n : Int) : lvN bys (varT n) = varT n := by
  rw [lvN_eq]
  show Tm.mk 2 n [] true true true true [] (lvNs bys []) = _
  rw [lvNs]
  rfl

theorem lvN_map {bys : List Lv} {g : Int → Int → Tm} (x : Tm) : ∀ a, lvN bys (mapT g x a) = mapT (fun a n => lvN bys (g a n)) (lvN bys x) a := by
  induction x using Tm.ind with
  | h x ih =>
    intro a
    rw [mapT_eq, mapT_eq _ (lvN bys x)]
    have ek : (lvN bys x).k = x.k := by rw [lvN_eq]; rfl
    have en : (lvN bys x).n = x.n := by rw [lvN_eq]; rfl
    have es : (lvN bys x).s = x.s := by rw [lvN_eq]; rfl
    have el : (lvN bys x).ls = x.ls.map (fun l => (instF l bys).1) := by rw [lvN_eq]; rfl
    have et : (lvN bys x).ts = lvNs bys x.ts := by rw [lvN_eq]; rfl
    rw [ek, en, es, el, et]
    cases h2 : iEq x.k 2 with
    | true => rfl
    | false =>
      simp only [cond_false]
      rw [lvN_eq]
      show Tm.mk x.k x.n x.s true true true true (x.ls.map (fun l => (instF l bys).1)) (lvNs bys (mapTs g x.k x.ts 0 a)) = _
      have key : ∀ (ts : List Tm), (∀ y ∈ ts, y ∈ x.ts) → ∀ i, lvNs bys (mapTs g x.k ts i a) = mapTs (fun a n => lvN bys (g a n)) x.k (lvNs bys ts) i a := by
        intro ts
        induction ts with
        | nil => intro _ i; rw [mapTs_nil, lvNs, mapTs_nil]
        | cons t ts ih2 =>
          intro hm i
          rw [mapTs_cons, lvNs, lvNs, mapTs_cons, ih t (hm t List.mem_cons_self), ih2 (fun y hy => hm y (List.mem_cons_of_mem _ hy))]
      rw [key x.ts (fun _ h => h)]

theorem lvN_liftG (bys : List Lv) (b a n : Int) : lvN bys (liftG b a n) = liftG b a n := by
  unfold liftG
  split <;> exact lvN_varT _ _

theorem lvN_mapLift (bys : List Lv) (b : Int) (x : Tm) (a : Int) : lvN bys (mapT (liftG b) x a) = mapT (liftG b) (lvN bys x) a := by
  rw [lvN_map]
  exact mapT_ext (fun a n => lvN_liftG bys b a n)

theorem lvN_inst1 (bys : List Lv) (u : Tm) (a n : Int) : lvN bys (inst1 u a n) = inst1 (lvN bys u) a n := by
  unfold inst1
  split
  · exact lvN_varT _ _
  · split
    · exact lvN_mapLift bys a u 0
    · exact lvN_varT _ _

theorem lvN_mapInst (bys : List Lv) (u x : Tm) (a : Int) : lvN bys (mapT (inst1 u) x a) = mapT (inst1 (lvN bys u)) (lvN bys x) a := by
  rw [lvN_map]
  exact mapT_ext (fun a n => lvN_inst1 bys u a n)

theorem allV_lvN {bys : List Lv} {Q : Int → Int → Prop} (x : Tm) : ∀ a, AllV Q x a → AllV Q (lvN bys x) a := by
  induction x using Tm.ind with
  | h x ih =>
    intro a h
    rw [lvN_eq]
    cases h2 : iEq x.k 2 with
    | true =>
      rw [AllV_var h2] at h
      exact (AllV_var (show iEq (Tm.mk x.k x.n x.s true true true true (x.ls.map (fun l => (instF l bys).1)) (lvNs bys x.ts)).k 2 = true from h2)).2 h
    | false =>
      rw [AllV_kids h2] at h
      rw [AllV_kids (show iEq (Tm.mk x.k x.n x.s true true true true (x.ls.map (fun l => (instF l bys).1)) (lvNs bys x.ts)).k 2 = false from h2)]
      intro j t ht
      have ht : (lvNs bys x.ts)[j]? = some t := ht
      rw [lvNs_map, List.getElem?_map] at ht
      cases h3 : x.ts[j]? with
      | none => rw [h3] at ht; cases ht
      | some u =>
        rw [h3] at ht
        cases ht
        exact ih u (List.mem_of_getElem? h3) _ (h j u h3)

theorem bd_lv {bys : List Lv} {x z : Tm} {p s : Nat} {b : Int} (hz : lvT bys x = .ok z) (h : Bd x p s b) : Bd z p s b := by
  refine ⟨dp_of_scan (lvT_scan x hz h.dp), by rw [(lvT_keeps x hz).2.2]; exact h.sz, fun a => ?_⟩
  rw [← allV_nrm, lvT_nrm hz]
  exact allV_lvN x a (h.va a)

/-! ### SubstLevels -/

structure LevelsOk (bys : List Lv) (t u x y c d : Tm) : Prop where
  a : mayT (instTm x [y]) = true
  b : mayT (instTm t [u]) = true
  up : mayT (liftT t 0 3) = true
  w : mayT (liftT x 0 3) = true
  lc : lvT bys (instTm t [u]) = .ok c
  ld : lvT bys (liftT t 0 3) = .ok d
  same : sameT (instTm x [y]) c = true
  same2 : sameT d (liftT x 0 3) = true

theorem levels_ok {bys : List Lv} {t u x y : Tm} (ht : smT t = true) (hu : smT u = true) (hx : lvT bys t = .ok x) (hy : lvT bys u = .ok y) : ∃ c d, LevelsOk bys t u x y c d := by
  obtain ⟨mt, ft, bt⟩ := small_facts ht
  obtain ⟨mu, fu, bu⟩ := small_facts hu
  have bx := bd_lv hx bt
  have by_ := bd_lv hy bu
  have mx := lvT_may hx mt
  have my := lvT_may hy mu
  have m1 := (bd_inst1 (B := 1060) bx by_ (by omega) (by omega) (by omega) (by omega) (by omega)).may (by omega) (by omega)
  have m2 := (bd_inst1 (B := 1060) bt bu (by omega) (by omega) (by omega) (by omega) (by omega)).may (by omega) (by omega)
  have m3 := (bd_lift (a := 3) bt (by omega) (by omega) (by omega) (by omega) (by omega)).may (by omega) (by omega)
  have m4 := (bd_lift (a := 3) bx (by omega) (by omega) (by omega) (by omega) (by omega)).may (by omega) (by omega)
  have ot := lvT_inv t hx
  have ou := lvT_inv u hy
  have eb : nrm (instTm t [u]) = mapT (inst1 u) t 0 := nrm_inst0 mt mu
  have ob : OkL bys (instTm t [u]) := by rw [← okL_nrm, eb]; exact okL_map (okL_inst1 ou) t 0 ot
  have eu : nrm (liftT t 0 3) = mapT (liftG 3) t 0 := nrm_lift0 mt (by omega) (by omega)
  have ol : OkL bys (liftT t 0 3) := by rw [← okL_nrm, eu]; exact okL_map (okL_liftG bys 3) t 0 ot
  obtain ⟨c, hc, ec⟩ := lvT_ok _ ob
  obtain ⟨d, hd, ed⟩ := lvT_ok _ ol
  refine ⟨c, d, m1, m2, m3, m4, hc, hd, same_nrm _ ?_, same_nrm _ ?_⟩
  · rw [ec, ← lvN_nrm (instTm t [u]), eb, lvN_mapInst, nrm_inst0 mx my, ← mapT_nrm x, lvT_nrm hx, mapT_ext (f := inst1 y) (inst1_nrm _), lvT_nrm hy]
  · rw [ed, ← lvN_nrm (liftT t 0 3), eu, lvN_mapLift, nrm_lift0 mx (by omega) (by omega), ← mapT_nrm x, lvT_nrm hx]

theorem f71_may (n : Nat) (t : Tm) (bys : List Lv) (S : St) (hb : bys.length < 40) (hsm : Sm t) (hm : mayT t = true) (h : wt t < n) {r : Except Int Tm} (hr : lvT bys t = r) : run Try.cfg (n + 51) (.f 71) [encA t, encL .no bys] S = some (encP2 (exP r), S) := by
  have := f71_ok n t bys .no S hb hsm (FewL.of (may_deep hm)) (by have := may_size hm; omega) h
  unfold levM at this
  rw [hm, hr] at this
  exact this

theorem law16_frame (n : Nat) (t u : Tm) (bys : List Lv) (hst : Sm t) (hsu : Sm u) (h10 : 10 < n) (ht : wt t < n) (hu : wt u < n) (w2 : wt (instTm t [u]) < n) (w1 : ∀ x y, lvT bys t = .ok x → lvT bys u = .ok y → wt (instTm x [y]) < n) :
    ∃ S', frame Try.cfg (run Try.cfg (n + n + n + 100)) (n + n + n + 100) 16 [encA t, encA u, encL .no bys] St.empty = some (.bool true, S') := by
  have hworks := f36_ok (n + n + n + 79) St.empty
  refine frame_ex Try.cfg _ (fn := Try.f16) rfl rfl ?_
  have h35 : run Try.cfg (n + n + n + 100) (.f 35) [.list 5 .tight 0 [encS t, encS u]] St.empty = some (.bool ([t, u].all smT), St.empty) := by
    have := f35_ok (n + n + n + 91) [t, u] true true St.empty (by simp) (by omega) (fun x hx => by
      simp only [List.mem_cons, List.not_mem_nil, or_false] at hx
      rcases hx with rfl | rfl
      · exact ⟨hst, by omega⟩
      · exact ⟨hsu, by omega⟩)
    rw [encTs_eq] at this
    rw [encS_eq, encS_eq]
    exact this
  refine WCall.mkB h35 (fun hf => ?_) (fun hf => ?_)
  · refine WCmp.mk (fun h1 => ?_) (fun h1 => ?_)
    · refine WCall.mk _ _ hworks ?_
      exact ⟨_, rfl⟩
    · have hb : bys.length ≤ 10 := by
        have h1' : Nat.blt 10 (lenN (bys.map enc)) = false := h1
        rw [lenN_eq, List.length_map] at h1'
        by_cases h : bys.length ≤ 10
        · exact h
        · rw [blt_yes (by omega)] at h1'; cases h1'
      simp only [List.all_cons, List.all_nil, Bool.and_true, Bool.and_eq_true] at hf
      obtain ⟨mt, _, _⟩ := small_facts hf.1
      obtain ⟨mu, _, _⟩ := small_facts hf.2
      cases hx : lvT bys t with
      | error e =>
        have he := lvT_err t hx
        cases hy : lvT bys u with
        | error e2 =>
          refine WCall.mk _ _ (f71_may (n + n + n + 49) t bys _ (by omega) hst mt (by omega) hx) ?_
          refine WCall.mk _ _ (f71_may (n + n + n + 49) u bys _ (by omega) hsu mu (by omega) hy) ?_
          refine WCmp.yes (by show (!iEq e 0) = true; rw [he]; rfl) ?_
          refine WCall.mk _ _ hworks ?_
          exact ⟨_, rfl⟩
        | ok y =>
          refine WCall.mk _ _ (f71_may (n + n + n + 49) t bys _ (by omega) hst mt (by omega) hx) ?_
          refine WCall.mk _ _ (f71_may (n + n + n + 49) u bys _ (by omega) hsu mu (by omega) hy) ?_
          refine WCmp.yes (by show (!iEq e 0) = true; rw [he]; rfl) ?_
          refine WCall.mk _ _ hworks ?_
          exact ⟨_, rfl⟩
      | ok x =>
        cases hy : lvT bys u with
        | error e2 =>
          have he := lvT_err u hy
          refine WCall.mk _ _ (f71_may (n + n + n + 49) t bys _ (by omega) hst mt (by omega) hx) ?_
          refine WCall.mk _ _ (f71_may (n + n + n + 49) u bys _ (by omega) hsu mu (by omega) hy) ?_
          refine WCmp.no rfl ?_
          refine WCmp.yes (by show (!iEq e2 0) = true; rw [he]; rfl) ?_
          refine WCall.mk _ _ hworks ?_
          exact ⟨_, rfl⟩
        | ok y =>
          obtain ⟨c, d, L⟩ := levels_ok hf.1 hf.2 hx hy
          have kx := lvT_keeps t hx
          have ky := lvT_keeps u hy
          have kl := lift_keeps t 0 3
          have kl2 := lift_keeps x 0 3
          have smx := kx.2.1 hst
          have smy := ky.2.1 hsu
          have mx := lvT_may hx mt
          have my := lvT_may hy mu
          have smb := sm_inst1 hst hsu
          have kc := lvT_keeps _ L.lc
          have kd := lvT_keeps _ L.ld
          have ww := w1 x y hx hy
          have c1 := fun S => f37_may1 (n + 84) n n x y S smx mx (by rw [kx.1]; omega) smy my (by rw [ky.1]; exact hu) L.a ww
          have c2 := fun S => f37_may1 (n + 84) n n t u S hst mt (by omega) hsu mu hu L.b w2
          have c3 := fun S => f71_may (n + n + n + 49) (instTm t [u]) bys S (by omega) smb L.b (by omega) L.lc
          have c4 := fun S => f38_may (n + n + n + 85) t 0 3 S hst mt (by omega) (by omega) (by omega) (by omega) (by omega) L.up
          have c5 := fun S => f39_yes (n + n + n + 100) (instTm x [y]) c S (sm_inst1 smx smy) (by have := may_size L.a; omega) (by omega) L.same
          have c6 := fun S => f71_may (n + n + n + 49) (liftT t 0 3) bys S (by omega) (kl.2.1 hst) L.up (by rw [kl.1]; omega) L.ld
          have c7 := fun S => f38_may (n + n + n + 85) x 0 3 S smx mx (by rw [kx.1]; omega) (by omega) (by omega) (by omega) (by omega) L.w
          have c8 := fun S => f39_yes (n + n + n + 100) d (liftT x 0 3) S (kd.2.1 (kl.2.1 hst)) (by rw [kd.2.2]; have := may_size L.up; omega) (by rw [kd.1, kl.1]; omega) L.same2
          rw [show n + 84 + n + n + 16 = n + n + n + 100 by omega] at c1 c2
          refine WCall.mk _ _ (f71_may (n + n + n + 49) t bys _ (by omega) hst mt (by omega) hx) ?_
          refine WCall.mk _ _ (f71_may (n + n + n + 49) u bys _ (by omega) hsu mu (by omega) hy) ?_
          refine WCmp.no rfl ?_
          refine WCmp.no rfl ?_
          refine WCall.mk _ _ (c1 _) ?_
          refine WCall.mk _ _ (c2 _) ?_
          refine WCmp.no rfl ?_
          refine WCmp.no rfl ?_
          refine WCall.mk _ _ (c3 _) ?_
          refine WCall.mk _ _ (c4 _) ?_
          refine WCmp.no rfl ?_
          refine WCmp.no rfl ?_
          refine WCall.mk _ _ (c5 _) ?_
          refine WCall.mk _ _ (c6 _) ?_
          refine WCall.mk _ _ (c7 _) ?_
          refine WCmp.yes rfl ?_
          refine WCmp.yes rfl ?_
          refine WCall.mk _ _ (c8 _) ?_
          refine WCall.mk _ _ hworks ?_
          exact ⟨_, rfl⟩
  · refine WCall.mk _ _ hworks ?_
    exact ⟨_, rfl⟩

theorem law16 (us : List V) (h : Args Try.prog Try.f16.params.toList us) : ∃ n S', run Try.cfg n (.f 16) us St.empty = some (.bool true, S') := by
  rw [Try.params16] at h
  obtain ⟨t, r1, rfl, hst, h1⟩ := arg46 h
  obtain ⟨u, r2, rfl, hsu, h2⟩ := arg46 h1
  obtain ⟨bys, r3, rfl, h3⟩ := arg25 h2
  obtain rfl := arg_nil h3
  have hw : ∃ m, ∀ x y, lvT bys t = .ok x → lvT bys u = .ok y → wt (instTm x [y]) ≤ m := by
    cases hx : lvT bys t with
    | error e => exact ⟨0, fun x y h => by cases h⟩
    | ok x0 =>
      cases hy : lvT bys u with
      | error e => exact ⟨0, fun x y _ h => by cases h⟩
      | ok y0 => exact ⟨wt (instTm x0 [y0]), fun x y h1 h2 => by cases h1; cases h2; exact Nat.le_refl _⟩
  obtain ⟨m, hm⟩ := hw
  obtain ⟨S', hf⟩ := law16_frame (wt t + wt u + wt (instTm t [u]) + m + 11) t u bys hst hsu (by omega) (by omega) (by omega) (by omega) (fun x y h1 h2 => by have := hm x y h1 h2; omega)
  exact ⟨_, St.empty, run_tm hf (by rw [strips_t, strips_t]; rfl) rfl rfl rfl rfl rfl⟩

end Go.Ev

namespace Go.Proofs.Ytidebmakgffjnaa
open Go.Ev Go.ChangeShapes Go.WideShapes Go.ChangeAt Go.RowKit

theorem evOwn : ownKnob Try.prog.godebug = none := by kernel_rfl
theorem evLaid : laidOutB Try.prog = true := by kernel_rfl
theorem evMaps : mapsRowed Try.prog = true := by kernel_rfl
noncomputable def evTypes : List Nat := [3, 5, 9, 22, 24, 25, 44, 46]
theorem evPlain : allB (plainT Try.prog evTypes) evTypes = true := by kernel_rfl
theorem evRead : allB (fun t => Try.prog.readableRec t) evTypes = true := by kernel_rfl
theorem evPar {ts : List Nat} (h : allB (fun t => memN t evTypes) ts = true) : ∀ t ∈ ts, memN t evTypes = true ∧ Try.prog.readableRec t = true :=
  fun t ht => ⟨allB_mem h t ht, allB_mem evRead t (memN_iff.1 (allB_mem h t ht))⟩

set_option maxRecDepth 100000 in
theorem substLevels_lifted (hlaw : ∀ us, Args Try.prog Try.f16.params.toList us → ∃ n S', run Go.Ev.Try.cfg n (.f 16) us St.empty = some (.bool true, S')) (os : Os) (started : os.Started) (H : Type) (enc : TypeId × Value → H) :
    ReturnsInHanded {} Try.checked os 16 .any (Rows.substLevelsSpec.pre6 enc Try.prog Try.f16 Rows.substLevelsRow.domain false) (Rows.substLevelsSpec.post enc Try.prog Try.f16 false true false false) := by
  refine returnsInHanded_of_change (C := Try.checked) evOwn started (by kernel_rfl) Try.func16
    (ChangeSpec.witness6 (enc := enc) (C := Try.checked) false ⟨#[], #[.agg #[.int .u8 0, .int .i64 0, .string ⟨⟨[]⟩⟩, .slice none 0 0, .slice none 0 0], .agg #[.int .u8 0, .int .i64 0, .string ⟨⟨[]⟩⟩, .slice none 0 0, .slice none 0 0], .slice none 0 0], []⟩ 8 (by kernel_rfl) (by kernel_rfl) (by kernel_rfl) (by kernel_rfl)) ?_
  intro W base args ds gs before hval hW _ _
  exact law_contract (C := Go.Ev.Try.cfg) (P := Try.prog) (s := Rows.substLevelsSpec) Go.Ev.Try.runOk evLaid evMaps evPlain (evPar (by kernel_rfl)) (by kernel_rfl) rfl (tb := 4) (by kernel_rfl) Try.underlying4
    (fun _ ds hd => by
      match ds, (show ds.length = 3 from hd) with
      | [d1, d2, d3], _ => rfl) hval hW hlaw

theorem substLevels_of (hlaw : ∀ us, Args Try.prog Try.f16.params.toList us → ∃ n S', run Go.Ev.Try.cfg n (.f 16) us St.empty = some (.bool true, S')) : Rows.SubstLevelsSaid :=
  OpenClaim.holds_of_wide 16 Try.f16 rfl rfl rfl rfl rfl rfl rfl ⟨rfl, rfl, rfl, rfl, rfl⟩ rfl rfl rfl rfl rfl (by kernel_rfl) Try.func16 (by kernel_rfl)
    (of_decide_eq_true (by kernel_rfl)) (by unfold Func.isWrapper; first | (rw [if_pos (by decide +kernel)]; kernel_rfl) | (rw [if_neg (by decide +kernel)]; exact ⟨rfl, rfl⟩))
    (fun os started H enc _ => substLevels_lifted hlaw os started H enc)

end Go.Proofs.Ytidebmakgffjnaa

namespace Go.Proofs.Ytidebmakgffjnaa

/-- SubstLevels. -/
theorem substLevels_holds : Rows.SubstLevelsSaid := substLevels_of (fun us h => Go.Ev.law16 us h)

end Go.Proofs.Ytidebmakgffjnaa
