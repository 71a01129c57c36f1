/- The statement SubstNames is proved: the law returns true at every input, and its arguments read behind the call as before. No condition (own work). -/
import Derived.Test.YtidebmakgffjnaaXy
import Derived.Test.YtidebmakgffjnaaRows
import Derived.WalkKit
import Derived.JoinedCond
/- Terms: SubstTwice, SubstNames, walked and proved (own work). -/
namespace Go.Ev
open Go.Proofs Go.RowKit
set_option maxRecDepth 100000
set_option linter.unusedSimpArgs false
set_option linter.unusedVariables false
set_option maxHeartbeats 1000000

/-! ### small -/

noncomputable def smT (x : Tm) : Bool := !deepT x && (mayT x && (!iLt 30 (.ofNat (sizeT x)) && !iLt 1000 (freeF x 0)))

noncomputable def f35L : Code := loopN Try.f35 0

theorem f35_by (n k : Nat) (l : List Tm) (c d : Bool) (hlen : l.length < 1000000000) (hl : ∀ x ∈ l, Sm x ∧ wt x < n) (S : St) (K : Ex → Env → St → Prop) :
    ∀ (rem : List Tm) (j f : Nat), rem.length < f → (∀ i, rem[i]? = l[j + i]?) → j + rem.length = l.length →
    (rem.all smT = true → K (.exit 0) { nt := 39, tmps := [(0, .list (szOf c l) (tkOf d) 0 (encTs l)), (3, .int .i64 (.ofNat l.length)), (7, .bool false)], locs := [], fix := [] } S) →
    (rem.all smT = false → K .ret { nt := 39, tmps := [(2, .bool false)], locs := [], fix := [] } S) →
    WCode (iter (evalCode Try.cfg (run Try.cfg (n + 8)) k 35 (Try.cfg.fc 35) f35L) f { nt := 39, tmps := [(0, .list (szOf c l) (tkOf d) 0 (encTs l)), (3, .int .i64 (.ofNat j))], locs := [], fix := [] } S) K
  | [], j, f + 1, hf, hr, hj, hK, hY => by
    have hjl : j = l.length := by simpa using hj
    subst hjl
    refine WCode.round (nt := 39) (fx := []) ?_
    refine WCmp.no (geLen (by omega)) ?_
    exact hK rfl
  | y :: rem, j, f + 1, hf, hr, hj, hK, hY => by
    have hb : l[j]? = some y := by have := hr 0; simpa using this.symm
    have hjl : j < l.length := (List.getElem?_eq_some_iff.1 hb).1
    obtain ⟨hsm, hw⟩ := hl y (List.mem_of_getElem? hb)
    refine WCode.round (nt := 39) (fx := []) ?_
    refine WCmp.yes (ltLen hjl) ?_
    refine WOut.mk _ (index44 hb) ?_
    refine WCall.mkB (r82_ok (n + 7) y _ (by omega)) (fun hd => ?_) (fun hd => ?_)
    · exact hY (by rw [List.all_cons]; unfold smT; rw [hd]; rfl)
    refine WOut.mk _ (index44 hb) ?_
    refine WCall.mkB (r55_ok n y _ hsm hw) (fun hm => ?_) (fun hm => ?_)
    · have hsz := may_size hm
      refine WOut.mk _ (index44 hb) ?_
      refine WCall.mk _ _ (r44_ok (n + 8) y _ (by omega) (by omega)) ?_
      refine WCmp.mk (fun hz => ?_) (fun hz => ?_)
      · exact hY (by rw [List.all_cons]; unfold smT; rw [hd, hm, hz]; rfl)
      refine WOut.mk _ (index44 hb) ?_
      refine WCall.mk _ _ (r43_ok (n + 6) y _ (by omega) (by omega)) ?_
      refine WCmp.mk (fun hF => ?_) (fun hF => ?_)
      · exact hY (by rw [List.all_cons]; unfold smT; rw [hd, hm, hz, hF]; rfl)
      have hs : smT y = true := by unfold smT; rw [hd, hm, hz, hF]; rfl
      refine WOut.mk _ (addOne (T := 3) (j := j) (by omega)) ?_
      exact f35_by n k l c d hlen hl S K rem (j + 1) f (by simp only [List.length_cons] at hf; omega) (fun i => by have := hr (i + 1); simp only [List.getElem?_cons_succ] at this; rw [this]; congr 1; omega) (by simp only [List.length_cons] at hj; omega) (fun h => hK (by rw [List.all_cons, hs, h]; rfl)) (fun h => hY (by rw [List.all_cons, hs, h]; rfl))
    · exact hY (by rw [List.all_cons]; unfold smT; rw [hd, hm]; rfl)

theorem f35_ok (n : Nat) (l : List Tm) (c d : Bool) (S : St) (hlen : l.length ≤ 10) (hn : 10 < n) (hl : ∀ x ∈ l, Sm x ∧ wt x < n) : run Try.cfg (n + 9) (.f 35) [.list (szOf c l) (tkOf d) 0 (encTs l)] S = some (.bool (l.all smT), S) := by
  have : frame Try.cfg (run Try.cfg (n + 8)) (n + 8) 35 [.list (szOf c l) (tkOf d) 0 (encTs l)] St.empty = some (.bool (l.all smT), St.empty) := by
    refine frame_of Try.cfg _ (fn := Try.f35) rfl rfl ?_
    refine f35_by n (n + 8) l c d (by omega) hl _ _ l 0 (n + 8) (by omega) (fun i => by rw [Nat.zero_add]) (by rw [Nat.zero_add]) (fun h => ?_) (fun h => ?_)
    · exact rfB h.symm
    · exact rfB h.symm
  exact run_tm this (by simp only [strips_ts, strips_nil]) rfl rfl rfl rfl rfl

theorem small_facts {x : Tm} (h : smT x = true) : mayT x = true ∧ freeF x 0 ≤ 1000 ∧ Bd x 30 30 1030 := by
  unfold smT at h
  simp only [Bool.and_eq_true, Bool.not_eq_true', iLt_not] at h
  obtain ⟨_, hm, hz, hF⟩ := h
  exact ⟨hm, hF, bd_of hm (by simp only [Int.ofNat_eq_natCast] at hz; omega) (by omega) hF⟩

theorem inst1_nrm (u : Tm) (a n : Int) : inst1 u a n = inst1 (nrm u) a n := by unfold inst1; rw [mapT_nrm]
theorem inst2_nrm (u v : Tm) (a n : Int) : inst2 u v a n = inst2 u (nrm v) a n := by unfold inst2; rw [mapT_nrm]
theorem inst2_nrm' (u v : Tm) (a n : Int) : inst2 u v a n = inst2 (nrm u) v a n := by unfold inst2; rw [mapT_nrm]

/-! ### SubstTwice -/

structure TwiceOk (t u v : Tm) : Prop where
  both : mayT (instTm t [u, v]) = true
  up : mayT (liftT v 0 1) = true
  one : mayT (instTm t [liftT v 0 1]) = true
  two : mayT (instTm (instTm t [liftT v 0 1]) [u]) = true
  same : sameT (instTm t [u, v]) (instTm (instTm t [liftT v 0 1]) [u]) = true
  a : mayT (instTm t [u]) = true
  b : mayT (instTm (instTm t [u]) [v]) = true
  w : mayT (instTm u [v]) = true
  c : mayT (instTm t [v, instTm u [v]]) = true
  same2 : sameT (instTm (instTm t [u]) [v]) (instTm t [v, instTm u [v]]) = true

theorem twice_ok {t u v : Tm} (ht : smT t = true) (hu : smT u = true) (hv : smT v = true) : TwiceOk t u v := by
  obtain ⟨mt, ft, bt⟩ := small_facts ht
  obtain ⟨mu, fu, bu⟩ := small_facts hu
  obtain ⟨mv, fv, bv⟩ := small_facts hv
  have b1 := bd_inst2 (B := 1060) bt bu bv (by omega) (by omega) (by omega) (by omega) (by omega)
  have b2 := bd_lift (a := 1) bv (by omega) (by omega) (by omega) (by omega) (by omega)
  have b3 := bd_inst1 (B := 1061) bt b2 (by omega) (by omega) (by omega) (by omega) (by omega)
  have b4 := bd_inst1 (B := 1090) b3 bu (by omega) (by omega) (by omega) (by omega) (by omega)
  have b5 := bd_inst1 (B := 1060) bt bu (by omega) (by omega) (by omega) (by omega) (by omega)
  have b6 := bd_inst1 (B := 1090) b5 bv (by omega) (by omega) (by omega) (by omega) (by omega)
  have b7 := bd_inst1 (B := 1060) bu bv (by omega) (by omega) (by omega) (by omega) (by omega)
  have b8 := bd_inst2 (B := 1090) bt (bv.mono (q := 60) (r := 900) (c := 1060) (by omega) (by omega) (by omega)) b7 (by omega) (by omega) (by omega) (by omega) (by omega)
  have m1 := b1.may (by omega) (by omega)
  have m2 := b2.may (by omega) (by omega)
  have m3 := b3.may (by omega) (by omega)
  have m4 := b4.may (by omega) (by omega)
  have m5 := b5.may (by omega) (by omega)
  have m6 := b6.may (by omega) (by omega)
  have m7 := b7.may (by omega) (by omega)
  have m8 := b8.may (by omega) (by omega)
  refine ⟨m1, m2, m3, m4, same_nrm _ ?_, m5, m6, m7, m8, same_nrm _ ?_⟩
  · rw [nrm_inst00 mt mu mv, nrm_inst0 m3 mu, ← mapT_nrm (instTm t _), nrm_inst0 mt m2, mapT_ext (f := inst1 (liftT v 0 1)) (inst1_nrm _), nrm_lift0 mv (by omega) (by omega), map_twice u v t (allV_pos bt.dp)]
  · rw [nrm_inst0 m5 mv, ← mapT_nrm (instTm t _), nrm_inst0 mt mu, map_after u v t (allV_pos bt.dp) (allV_pos bu.dp), nrm_inst00 mt mv m7, mapT_ext (f := inst2 v (instTm u [v])) (inst2_nrm _ _), nrm_inst0 mu mv]

theorem law7_frame (n : Nat) (t u v : Tm) (hst : Sm t) (hsu : Sm u) (hsv : Sm v) (h10 : 10 < n) (ht : wt t < n) (hu : wt u < n) (hv : wt v < n)
    (w1 : wt (instTm t [u, v]) < n) (w2 : wt (instTm t [liftT v 0 1]) < n) (w3 : wt (instTm (instTm t [liftT v 0 1]) [u]) < n) (w4 : wt (instTm t [u]) < n) (w5 : wt (instTm (instTm t [u]) [v]) < n) (w6 : wt (instTm u [v]) < n) (w7 : wt (instTm t [v, instTm u [v]]) < n) :
    ∃ S', frame Try.cfg (run Try.cfg (n + n + n + 100)) (n + n + n + 100) 7 [encA t, encA u, encA v] St.empty = some (.bool true, S') := by
  have hworks := f36_ok (n + n + n + 79) St.empty
  refine frame_ex Try.cfg _ (fn := Try.f7) rfl rfl ?_
  have h35 : run Try.cfg (n + n + n + 100) (.f 35) [.list 5 .tight 0 [encS t, encS u, encS v]] St.empty = some (.bool ([t, u, v].all smT), St.empty) := by
    have := f35_ok (n + n + n + 91) [t, u, v] true true St.empty (by simp) (by omega) (fun x hx => by
      simp only [List.mem_cons, List.not_mem_nil, or_false] at hx
      rcases hx with rfl | rfl | rfl
      · exact ⟨hst, by omega⟩
      · exact ⟨hsu, by omega⟩
      · exact ⟨hsv, by omega⟩)
    rw [encTs_eq] at this
    rw [encS_eq, encS_eq, encS_eq]
    exact this
  refine WCall.mkB h35 (fun hf => ?_) (fun hf => ?_)
  · simp only [List.all_cons, List.all_nil, Bool.and_true, Bool.and_eq_true] at hf
    have L := twice_ok hf.1 hf.2.1 hf.2.2
    obtain ⟨mt, _, _⟩ := small_facts hf.1
    obtain ⟨mu, _, _⟩ := small_facts hf.2.1
    obtain ⟨mv, _, _⟩ := small_facts hf.2.2
    have kv := lift_keeps v 0 1
    have smU := kv.2.1 hsv
    have c1 := fun S => f37_may2 (n + 84) n n t u v S hst mt (by omega) hsu mu hu hsv mv hv L.both w1
    have c2 := fun S => f38_may (n + n + n + 85) v 0 1 S hsv mv (by omega) (by omega) (by omega) (by omega) (by omega) L.up
    have c3 := fun S => f37_may1 (n + 84) n n t (liftT v 0 1) S hst mt (by omega) smU L.up (by rw [kv.1]; exact hv) L.one w2
    have c4 := fun S => f37_may1 (n + 84) n n (instTm t [liftT v 0 1]) u S (sm_inst1 hst smU) L.one (by omega) hsu mu hu L.two w3
    have c5 := fun S => f39_yes (n + n + n + 100) (instTm t [u, v]) (instTm (instTm t [liftT v 0 1]) [u]) S (sm_inst2 hst hsu hsv) (by have := may_size L.both; omega) (by omega) L.same
    have c6 := fun S => f37_may1 (n + 84) n n t u S hst mt (by omega) hsu mu hu L.a w4
    have c7 := fun S => f37_may1 (n + 84) n n (instTm t [u]) v S (sm_inst1 hst hsu) L.a (by omega) hsv mv hv L.b w5
    have c8 := fun S => f37_may1 (n + 84) n n u v S hsu mu (by omega) hsv mv hv L.w w6
    have c9 := fun S => f37_may2 (n + 84) n n t v (instTm u [v]) S hst mt (by omega) hsv mv hv (sm_inst1 hsu hsv) L.w w6 L.c w7
    have c10 := fun S => f39_yes (n + n + n + 100) (instTm (instTm t [u]) [v]) (instTm t [v, instTm u [v]]) S (sm_inst1 (sm_inst1 hst hsu) hsv) (by have := may_size L.b; omega) (by omega) L.same2
    rw [show n + 84 + n + n + 16 = n + n + n + 100 by omega] at c1 c3 c4 c6 c7 c8 c9
    refine WCall.mk _ _ (c1 _) ?_
    refine WCall.mk _ _ (c2 _) ?_
    refine WCall.mk _ _ (c3 _) ?_
    refine WCall.mk _ _ (c4 _) ?_
    refine WCmp.no rfl ?_
    refine WCmp.no rfl ?_
    refine WCmp.no rfl ?_
    refine WCmp.no rfl ?_
    refine WCall.mk _ _ (c5 _) ?_
    refine WCall.mk _ _ (c6 _) ?_
    refine WCall.mk _ _ (c7 _) ?_
    refine WCall.mk _ _ (c8 _) ?_
    refine WCmp.no rfl ?_
    refine WCmp.no rfl ?_
    refine WCmp.no rfl ?_
    refine WCall.mk _ _ (c9 _) ?_
    refine WCmp.yes rfl ?_
    refine WCall.mk _ _ (c10 _) ?_
    refine WCall.mk _ _ hworks ?_
    exact ⟨_, rfl⟩
  · refine WCall.mk _ _ hworks ?_
    exact ⟨_, rfl⟩

theorem law7 (us : List V) (h : Args Try.prog Try.f7.params.toList us) : ∃ n S', run Try.cfg n (.f 7) us St.empty = some (.bool true, S') := by
  rw [Try.params7] at h
  obtain ⟨t, r1, rfl, hst, h1⟩ := arg46 h
  obtain ⟨u, r2, rfl, hsu, h2⟩ := arg46 h1
  obtain ⟨v, r3, rfl, hsv, h3⟩ := arg46 h2
  obtain rfl := arg_nil h3
  obtain ⟨S', hf⟩ := law7_frame (wt t + wt u + wt v + wt (instTm t [u, v]) + wt (instTm t [liftT v 0 1]) + wt (instTm (instTm t [liftT v 0 1]) [u]) + wt (instTm t [u]) + wt (instTm (instTm t [u]) [v]) + wt (instTm u [v]) + wt (instTm t [v, instTm u [v]]) + 11) t u v hst hsu hsv (by omega) (by omega) (by omega) (by omega) (by omega) (by omega) (by omega) (by omega) (by omega) (by omega) (by omega)
  exact ⟨_, St.empty, run_tm hf (by simp only [strips_t, strips_nil]) rfl rfl rfl rfl rfl⟩

end Go.Ev

/- Terms: SubstNames, walked and proved (own work). -/
namespace Go.Ev
open Go.Proofs Go.RowKit
set_option maxRecDepth 100000
set_option linter.unusedSimpArgs false
set_option linter.unusedVariables false
set_option maxHeartbeats 1000000

/-- A sort, a constant, a lambda, as the laws build them. -/
noncomputable def sT : Tm := .mk 1 0 [] true true false true [zeroLv] []
noncomputable def cT (s : List UInt8) : Tm := .mk 3 0 s false true false true [] []
noncomputable def lamT (a b : Tm) : Tm := .mk 5 0 [] false true true true [] [a, b]

theorem f33_ok (n : Nat) (S : St) : run Try.cfg (n + 1) (.f 33) [] S = some (enc zeroLv, S) := by
  have : frame Try.cfg (run Try.cfg n) n 33 [] St.empty = some (enc zeroLv, St.empty) := by
    refine frame_of Try.cfg _ (fn := Try.f33) rfl rfl ?_
    rfl
  exact run_val this rfl rfl rfl rfl rfl

theorem f41_ok (n : Nat) (S : St) : run Try.cfg (n + 2) (.f 41) [] S = some (encA sT, S) := by
  have : frame Try.cfg (run Try.cfg (n + 1)) (n + 1) 41 [] St.empty = some (encA sT, St.empty) := by
    refine frame_of Try.cfg _ (fn := Try.f41) rfl rfl ?_
    refine WCall.mk _ _ (f33_ok n _) ?_
    rfl
  exact run_val this rfl rfl rfl rfl rfl

theorem f42_ok (n : Nat) (s : List UInt8) (S : St) : run Try.cfg (n + 1) (.f 42) [.str s] S = some (encA (cT s), S) := by
  have : frame Try.cfg (run Try.cfg n) n 42 [.str s] St.empty = some (encA (cT s), St.empty) := by
    refine frame_of Try.cfg _ (fn := Try.f42) rfl rfl ?_
    rfl
  exact run_val this rfl rfl rfl rfl rfl

theorem f40_ok (n : Nat) (a b : Tm) (S : St) : run Try.cfg (n + 1) (.f 40) [encA a, encA b] S = some (encA (lamT a b), S) := by
  have : frame Try.cfg (run Try.cfg n) n 40 [encA a, encA b] St.empty = some (.agg [.int .u8 5, .int .i64 0, .str [], .list 0 .tight 0 [], .list 5 .tight 0 [encS a, encS b]], St.empty) := by
    refine frame_of Try.cfg _ (fn := Try.f40) rfl rfl ?_
    rfl
  have e : V.agg [.int .u8 5, .int .i64 0, .str [], .list 0 .tight 0 [], .list 5 .tight 0 [encS a, encS b]] = encA (lamT a b) := by
    rw [encS_eq, encS_eq]
    show _ = V.agg [.int .u8 5, .int .i64 0, .str [], .list 0 .tight 0 [], .list 5 .tight 0 (encTs [a, b])]
    rw [encTs_eq]
    rfl
  rw [e] at this
  exact run_tm this (by simp only [strips_t, strips_nil]) rfl rfl rfl rfl (strip_encA _)

theorem Sm_sT : Sm sT := by
  rw [Sm_iff]
  exact ⟨⟨by show 1 ≤ _; omega, by show 0 ≤ _; omega⟩, fun y hy => by cases hy⟩
theorem Sm_cT {s : List UInt8} (h : s.length ≤ 100) : Sm (cT s) := by
  rw [Sm_iff]
  exact ⟨⟨by show 0 ≤ _; omega, by show s.length ≤ _; omega⟩, fun y hy => by cases hy⟩
theorem Sm_lamT {a b : Tm} (ha : Sm a) (hb : Sm b) : Sm (lamT a b) := by
  rw [Sm_iff]
  refine ⟨⟨by show 0 ≤ _; omega, by show 0 ≤ _; omega⟩, fun y hy => ?_⟩
  have hy : y ∈ [a, b] := hy
  simp only [List.mem_cons, List.not_mem_nil, or_false] at hy
  rcases hy with rfl | rfl
  · exact ha
  · exact hb
theorem wt_sT : wt sT = 2 := by rw [wt_eq]; show 1 + 0 + 1 + wts [] = 2; rw [wts]
theorem wt_cT (s : List UInt8) : wt (cT s) = 1 + s.length := by rw [wt_eq]; show 1 + s.length + 0 + wts [] = _; rw [wts]; omega
theorem wt_lamT (a b : Tm) : wt (lamT a b) = 3 + wt a + wt b := by
  rw [wt_eq]
  show 1 + 0 + 0 + wts [a, b] = _
  rw [wts, wts, wts]
  omega
theorem size_sT : sizeT sT = 1 := by rw [sizeT_eq]; show 1 + sizeTs [] = 1; rw [sizeTs]
theorem size_cT (s : List UInt8) : sizeT (cT s) = 1 := by rw [sizeT_eq]; show 1 + sizeTs [] = 1; rw [sizeTs]
theorem size_lamT (a b : Tm) : sizeT (lamT a b) = 1 + sizeT a + sizeT b := by
  rw [sizeT_eq]
  show 1 + sizeTs [a, b] = _
  rw [sizeTs_cons, sizeTs_cons, sizeTs]
  omega

theorem node_sT : nodeT sT = true := by kernel_rfl
noncomputable def frS : List UInt8 := [102, 114, 101, 115, 104, 39]
theorem node_fr : nodeT (cT frS) = true := by kernel_rfl
theorem node_lam0 : nodeT (lamT zTm zTm) = true := by kernel_rfl
theorem node_lamT (a b : Tm) : nodeT (lamT a b) = true := by
  rw [← node_lam0]
  exact nodeT_congr rfl rfl rfl rfl rfl

theorem dp_leaf {x : Tm} (h : nodeT x = true) (h2 : x.ts = []) (d : Nat) : Dp x (d + 1) := dp_node.2 ⟨d, rfl, h, fun y hy => by rw [h2] at hy; cases hy⟩
theorem va_leaf {x : Tm} (hk : iEq x.k 2 = false) (h2 : x.ts = []) (b a : Int) : AllV (fun _ n => n ≤ b) x a := by
  rw [AllV_kids hk, h2]
  intro j t h
  simp at h

theorem bd_lam {t : Tm} {p s : Nat} {b : Int} (h : Bd t p s b) : Bd (lamT sT t) (p + 1) (s + 2) b := by
  have hp := bd_dp_pos h.dp
  obtain ⟨q, rfl⟩ : ∃ q, p = q + 1 := ⟨p - 1, by omega⟩
  refine ⟨dp_node.2 ⟨q + 1, rfl, node_lamT _ _, fun y hy => ?_⟩, by rw [size_lamT, size_sT]; have := h.sz; omega, fun a => ?_⟩
  · have hy : y ∈ [sT, t] := hy
    simp only [List.mem_cons, List.not_mem_nil, or_false] at hy
    rcases hy with rfl | rfl
    · exact dp_leaf node_sT rfl q
    · exact h.dp
  · rw [AllV_kids (show iEq (lamT sT t).k 2 = false from rfl)]
    intro j y hy
    have hy : [sT, t][j]? = some y := hy
    match j, hy with
    | 0, hy => cases hy; exact va_leaf rfl rfl _ _
    | 1, hy => cases hy; exact h.va _
    | j + 2, hy => simp at hy

theorem Bd.kid {x y : Tm} {p s : Nat} {b : Int} (h : Bd x p s b) (hk : iEq x.k 2 = false) {j : Nat} (hy : x.ts[j]? = some y) : Bd y p s b := by
  obtain ⟨d', rfl, _, hd⟩ := dp_node.1 h.dp
  have hm := List.mem_of_getElem? hy
  refine ⟨dp_mono (hd y hm) (by omega), by have := kid_size hm; have := h.sz; omega, fun a => ?_⟩
  have := h.va 0
  rw [AllV_kids hk] at this
  exact allV_any _ _ _ (this j y hy)

/-- Free variables of what was put. -/
theorem free_inst {t u : Tm} (mt : mayT t = true) (mu : mayT u = true) (mr : mayT (instTm t [u]) = true) {B : Int} (h0 : 0 ≤ B) (h1 : freeF t 0 - 1 ≤ B) (h2 : freeF u 0 ≤ B) : freeF (instTm t [u]) 0 ≤ B := by
  rw [free_le _ 0 B (may_dp mr) (Int.le_refl _) (by omega) h0, ← allV_nrm, nrm_inst0 mt mu]
  have := allV_map (Q := fun a n => n + 1 - a ≤ B) (g := inst1 u) 0 t 0 (allV_mono t 0 (fun a n h => ?_) (allV_may (may_dp mt) (by omega) (Int.le_refl _)))
  · rwa [Int.zero_add] at this
  rw [Int.zero_add]
  by_cases h3 : n < a
  · rw [inst1_lt h3]; exact (AllV_var (show iEq (varT n).k 2 = true from rfl)).2 (by show n + 1 - a ≤ B; omega)
  · by_cases h4 : n = a
    · subst h4
      rw [inst1_eq]
      have := allV_map (Q := fun a n => n + 1 - a ≤ B) (g := liftG n) n u 0 (allV_mono u 0 (fun c m h => ?_) (allV_may (may_dp mu) (by omega) h2))
      · rwa [Int.add_zero] at this
      by_cases h5 : c ≤ m
      · rw [liftG_ge h5]; exact (AllV_var (show iEq (varT (m + n)).k 2 = true from rfl)).2 (by show m + n + 1 - (n + c) ≤ B; omega)
      · rw [liftG_lt (by omega)]; exact (AllV_var (show iEq (varT m).k 2 = true from rfl)).2 (by show m + 1 - (n + c) ≤ B; omega)
    · rw [inst1_gt (by omega)]; exact (AllV_var (show iEq (varT (n - 1)).k 2 = true from rfl)).2 (by show n - 1 + 1 - a ≤ B; omega)

noncomputable def bodyT (t u : Tm) : Tm := (walkG (placeStep [u]) t () 1).1

theorem inst_lam (t u : Tm) : (instTm (lamT sT t) [u]).ts = [(walkG (placeStep [u]) sT () (addW 0 (bindsF 5 (.ofNat 0)))).1, bodyT t u] := by
  have e : (instTm (lamT sT t) [u]).ts = (walkGs (placeStep [u]) 5 [sT, t] 0 () 0).1 := by
    unfold instTm
    rw [walkG_eq]
    rfl
  rw [e, walkGs, walkGs, walkGs]
  have e2 : addW 0 (bindsF 5 (.ofNat (0 + 1))) = 1 := rfl
  rw [e2]
  rfl

structure NamesOk (t u : Tm) : Prop where
  lam : mayT (lamT sT t) = true
  a : mayT (instTm (lamT sT t) [u]) = true
  up : mayT (liftT u 0 1) = true
  fr : mayT (cT frS) = true
  named : mayT (instTm t [cT frS]) = true
  b : mayT (instTm (instTm t [cT frS]) [u]) = true
  body : mayT (bodyT t u) = true
  back : mayT (instTm (bodyT t u) [cT frS]) = true
  same : sameT (instTm (instTm t [cT frS]) [u]) (instTm (bodyT t u) [cT frS]) = true
  x : mayT (instTm t [u]) = true

theorem names_ok {t u : Tm} (ht : smT t = true) (hu : smT u = true) : NamesOk t u := by
  obtain ⟨mt, ft, bt⟩ := small_facts ht
  obtain ⟨mu, fu, bu⟩ := small_facts hu
  have bf : Bd (cT frS) 1 1 1 := ⟨dp_leaf node_fr rfl 0, by rw [size_cT]; omega, fun a => va_leaf rfl rfl _ _⟩
  have b1 := bd_lam bt
  have b2 := bd_inst1 (B := 1061) b1 bu (by omega) (by omega) (by omega) (by omega) (by omega)
  have b3 := bd_lift (a := 1) bu (by omega) (by omega) (by omega) (by omega) (by omega)
  have b4 := bd_inst1 (B := 1030) bt bf (by omega) (by omega) (by omega) (by omega) (by omega)
  have b5 := bd_inst1 (B := 1061) b4 bu (by omega) (by omega) (by omega) (by omega) (by omega)
  have hk : iEq (instTm (lamT sT t) [u]).k 2 = false := by
    have e : (instTm (lamT sT t) [u]).k = 5 := by
      unfold instTm
      rw [walkG_eq]
      rfl
    rw [e]
    rfl
  have b6 := b2.kid hk (j := 1) (y := bodyT t u) (by rw [inst_lam]; rfl)
  have b7 := bd_inst1 (B := 1062) b6 bf (by omega) (by omega) (by omega) (by omega) (by omega)
  have b8 := bd_inst1 (B := 1060) bt bu (by omega) (by omega) (by omega) (by omega) (by omega)
  have mf := bf.may (by omega) (by omega)
  have m4 := b4.may (by omega) (by omega)
  have m6 := b6.may (by omega) (by omega)
  refine ⟨b1.may (by omega) (by omega), b2.may (by omega) (by omega), b3.may (by omega) (by omega), mf, m4, b5.may (by omega) (by omega), m6, b7.may (by omega) (by omega), same_nrm _ ?_, b8.may (by omega) (by omega)⟩
  have eb : nrm (bodyT t u) = mapT (inst1 u) t 1 := nrm_inst1 (may_dp mt) (by omega) (may_dp mu) (by omega) (by omega) (by omega)
  rw [nrm_inst0 m4 mu, ← mapT_nrm (instTm t _), nrm_inst0 mt mf, map_names u (cT frS) rfl rfl t (allV_pos bt.dp), nrm_inst0 m6 mf, ← mapT_nrm (bodyT t u), eb]

theorem subI {T : Nat} {x y : Int} (h0 : -1000000000 ≤ x - y) (h1 : x - y ≤ 1000000000) : binOp Try.cfg .sub T (.int .i64 x) (.int .i64 y) = some (.int .i64 (x - y)) := by
  show some (V.int .i64 (wrapI .i64 (x - y))) = _
  rw [wrap_in (by omega) (by omega)]

theorem law8_frame (n : Nat) (t u : Tm) (hst : Sm t) (hsu : Sm u) (h10 : 10 < n) (ht : wt t + 5 < n) (hu : wt u < n)
    (w1 : wt (instTm (lamT sT t) [u]) < n) (w2 : wt (instTm t [cT frS]) < n) (w3 : wt (instTm (instTm t [cT frS]) [u]) < n) (w4 : wt (instTm (bodyT t u) [cT frS]) < n) (w5 : wt (instTm t [u]) < n) :
    ∃ S', frame Try.cfg (run Try.cfg (n + n + n + 100)) (n + n + n + 100) 8 [encA t, encA u] St.empty = some (.bool true, S') := by
  have hworks := f36_ok (n + n + n + 79) St.empty
  refine frame_ex Try.cfg _ (fn := Try.f8) rfl rfl ?_
  have h35 : run Try.cfg (n + n + n + 100) (.f 35) [.list 5 .tight 0 [encS t, encS u]] St.empty = some (.bool ([t, u].all smT), St.empty) := by
    have := f35_ok (n + n + n + 91) [t, u] true true St.empty (by simp) (by omega) (fun x hx => by
      simp only [List.mem_cons, List.not_mem_nil, or_false] at hx
      rcases hx with rfl | rfl
      · exact ⟨hst, by omega⟩
      · exact ⟨hsu, by omega⟩)
    rw [encTs_eq] at this
    rw [encS_eq, encS_eq]
    exact this
  refine WCall.mkB h35 (fun hf => ?_) (fun hf => ?_)
  · simp only [List.all_cons, List.all_nil, Bool.and_true, Bool.and_eq_true] at hf
    have L := names_ok hf.1 hf.2
    obtain ⟨mt, ft, _⟩ := small_facts hf.1
    obtain ⟨mu, fu, _⟩ := small_facts hf.2
    have fp := free_pos t 0
    have fpu := free_pos u 0
    have ku := lift_keeps u 0 1
    have smU := ku.2.1 hsu
    have smL := Sm_lamT Sm_sT hst
    have smF : Sm (cT frS) := Sm_cT (by show 6 ≤ 100; omega)
    have wF : wt (cT frS) = 7 := wt_cT frS
    have smA := sm_inst1 smL hsu
    have hk1 : (instTm (lamT sT t) [u]).ts[1]? = some (bodyT t u) := by rw [inst_lam]; rfl
    have hkl : (instTm (lamT sT t) [u]).ts.length = 2 := by rw [inst_lam]; rfl
    have hkm := List.mem_of_getElem? hk1
    have smB : Sm (bodyT t u) := ((Sm_iff _).1 smA).2 _ hkm
    have wB : wt (bodyT t u) < n := by have := wt_kid hkm; omega
    have c1 := fun S => f37_may1 (n + 84) n n (lamT sT t) u S smL L.lam (by rw [wt_lamT, wt_sT]; omega) hsu mu hu L.a w1
    have c2 := fun S => f38_may (n + n + n + 85) u 0 1 S hsu mu (by omega) (by omega) (by omega) (by omega) (by omega) L.up
    have c3 := fun S => f37_may1 (n + 84) n n t (cT frS) S hst mt (by omega) smF L.fr (by omega) L.named w2
    have c4 := fun S => f37_may1 (n + 84) n n (instTm t [cT frS]) u S (sm_inst1 hst smF) L.named (by omega) hsu mu hu L.b w3
    have c5 := fun S => f37_may1 (n + 84) n n (bodyT t u) (cT frS) S smB L.body (by omega) smF L.fr (by omega) L.back w4
    have c6 := fun S => f39_yes (n + n + n + 100) (instTm (instTm t [cT frS]) [u]) (instTm (bodyT t u) [cT frS]) S (sm_inst1 (sm_inst1 hst smF) hsu) (by have := may_size L.b; omega) (by omega) L.same
    have c7 := fun S => f37_may1 (n + 84) n n t u S hst mt (by omega) hsu mu hu L.x w5
    have c8 := fun S => r43_ok (n + n + n + 98) t S (by have := may_size mt; omega) (by omega)
    have c9 := fun S => r43_ok (n + n + n + 98) u S (by have := may_size mu; omega) (by omega)
    have c10 := fun S => r43_ok (n + n + n + 98) (instTm t [u]) S (by have := may_size L.x; omega) (by omega)
    have c11 := fun S => r44_ok (n + n + n + 100) (liftT u 0 1) S (by have := may_size L.up; omega) (by rw [ku.1]; omega)
    have c12 := fun S => r44_ok (n + n + n + 100) u S (by have := may_size mu; omega) (by omega)
    rw [show n + 84 + n + n + 16 = n + n + n + 100 by omega] at c1 c3 c4 c5 c7
    refine WCall.mk _ _ (f41_ok (n + n + n + 98) _) ?_
    refine WCall.mk _ _ (f40_ok (n + n + n + 99) sT t _) ?_
    refine WCall.mk _ _ (c1 _) ?_
    refine WCall.mk _ _ (c2 _) ?_
    refine WCmp.no rfl ?_
    refine WCmp.no rfl ?_
    refine WCmp.no (by rw [encTs_len, hkl]; rfl) ?_
    refine WCall.mk _ _ (f42_ok (n + n + n + 99) frS _) ?_
    refine WCall.mk _ _ (c3 _) ?_
    refine WCall.mk _ _ (c4 _) ?_
    refine WOut.mk _ (index44 (j := 1) hk1) ?_
    refine WCall.mk _ _ (f42_ok (n + n + n + 99) frS _) ?_
    refine WCall.mk _ _ (c5 _) ?_
    refine WCmp.no rfl ?_
    refine WCmp.no rfl ?_
    refine WCmp.no rfl ?_
    refine WCall.mk _ _ (c6 _) ?_
    refine WCall.mk _ _ (c8 _) ?_
    refine WOut.mk _ (subI (by omega) (by omega)) ?_
    refine WCall.mk _ _ (c7 _) ?_
    refine WCmp.yes rfl ?_
    refine WCall.mk _ _ (c10 _) ?_
    refine WCall.mk _ _ (c9 _) ?_
    refine WCmp.yes ?_ ?_
    · rw [Bool.not_eq_true', iLt_not]
      refine free_inst mt mu L.x ?_ ?_ ?_ <;> (repeat' split) <;> omega
    refine WCall.mk _ _ (c11 _) ?_
    refine WCall.mk _ _ (c12 _) ?_
    refine WCmp.yes (by rw [ku.2.2, iEq_eq]; simp) ?_
    refine WCall.mk _ _ hworks ?_
    exact ⟨_, rfl⟩
  · refine WCall.mk _ _ hworks ?_
    exact ⟨_, rfl⟩

theorem law8 (us : List V) (h : Args Try.prog Try.f8.params.toList us) : ∃ n S', run Try.cfg n (.f 8) us St.empty = some (.bool true, S') := by
  rw [Try.params8] at h
  obtain ⟨t, r1, rfl, hst, h1⟩ := arg46 h
  obtain ⟨u, r2, rfl, hsu, h2⟩ := arg46 h1
  obtain rfl := arg_nil h2
  obtain ⟨S', hf⟩ := law8_frame (wt t + wt u + wt (instTm (lamT sT t) [u]) + wt (instTm t [cT frS]) + wt (instTm (instTm t [cT frS]) [u]) + wt (instTm (bodyT t u) [cT frS]) + wt (instTm t [u]) + 11) t u hst hsu (by omega) (by omega) (by omega) (by omega) (by omega) (by omega) (by omega) (by omega)
  exact ⟨_, St.empty, run_tm hf (by simp only [strips_t, strips_nil]) rfl rfl rfl rfl rfl⟩

end Go.Ev

namespace Go.Proofs.Ytidebmakgffjnaa
open Go.Ev Go.ChangeShapes Go.WideShapes Go.ChangeAt Go.RowKit

theorem evOwn : ownKnob Try.prog.godebug = none := by kernel_rfl
theorem evLaid : laidOutB Try.prog = true := by kernel_rfl
theorem evMaps : mapsRowed Try.prog = true := by kernel_rfl
noncomputable def evTypes : List Nat := [3, 5, 9, 22, 24, 25, 44, 46]
theorem evPlain : allB (plainT Try.prog evTypes) evTypes = true := by kernel_rfl
theorem evRead : allB (fun t => Try.prog.readableRec t) evTypes = true := by kernel_rfl
theorem evPar {ts : List Nat} (h : allB (fun t => memN t evTypes) ts = true) : ∀ t ∈ ts, memN t evTypes = true ∧ Try.prog.readableRec t = true :=
  fun t ht => ⟨allB_mem h t ht, allB_mem evRead t (memN_iff.1 (allB_mem h t ht))⟩

set_option maxRecDepth 100000 in
theorem substNames_lifted (hlaw : ∀ us, Args Try.prog Try.f8.params.toList us → ∃ n S', run Go.Ev.Try.cfg n (.f 8) us St.empty = some (.bool true, S')) (os : Os) (started : os.Started) (H : Type) (enc : TypeId × Value → H) :
    ReturnsInHanded {} Try.checked os 8 .any (Rows.substNamesSpec.pre6 enc Try.prog Try.f8 Rows.substNamesRow.domain false) (Rows.substNamesSpec.post enc Try.prog Try.f8 false true false false) := by
  refine returnsInHanded_of_change (C := Try.checked) evOwn started (by kernel_rfl) Try.func8
    (ChangeSpec.witness6 (enc := enc) (C := Try.checked) false ⟨#[], #[.agg #[.int .u8 0, .int .i64 0, .string ⟨⟨[]⟩⟩, .slice none 0 0, .slice none 0 0], .agg #[.int .u8 0, .int .i64 0, .string ⟨⟨[]⟩⟩, .slice none 0 0, .slice none 0 0]], []⟩ 8 (by kernel_rfl) (by kernel_rfl) (by kernel_rfl) (by kernel_rfl)) ?_
  intro W base args ds gs before hval hW _ _
  exact law_contract (C := Go.Ev.Try.cfg) (P := Try.prog) (s := Rows.substNamesSpec) Go.Ev.Try.runOk evLaid evMaps evPlain (evPar (by kernel_rfl)) (by kernel_rfl) rfl (tb := 4) (by kernel_rfl) Try.underlying4
    (fun _ ds hd => by
      match ds, (show ds.length = 2 from hd) with
      | [d1, d2], _ => rfl) hval hW hlaw

theorem substNames_of (hlaw : ∀ us, Args Try.prog Try.f8.params.toList us → ∃ n S', run Go.Ev.Try.cfg n (.f 8) us St.empty = some (.bool true, S')) : Rows.SubstNamesSaid :=
  OpenClaim.holds_of_wide 8 Try.f8 rfl rfl rfl rfl rfl rfl rfl ⟨rfl, rfl, rfl, rfl, rfl⟩ rfl rfl rfl rfl rfl (by kernel_rfl) Try.func8 (by kernel_rfl)
    (of_decide_eq_true (by kernel_rfl)) (by unfold Func.isWrapper; first | (rw [if_pos (by decide +kernel)]; kernel_rfl) | (rw [if_neg (by decide +kernel)]; exact ⟨rfl, rfl⟩))
    (fun os started H enc _ => substNames_lifted hlaw os started H enc)

end Go.Proofs.Ytidebmakgffjnaa

namespace Go.Proofs.Ytidebmakgffjnaa

/-- SubstNames. -/
theorem substNames_holds : Rows.SubstNamesSaid := substNames_of (fun us h => Go.Ev.law8 us h)

end Go.Proofs.Ytidebmakgffjnaa
