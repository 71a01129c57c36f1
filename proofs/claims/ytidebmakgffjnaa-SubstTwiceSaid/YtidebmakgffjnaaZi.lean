/- The statement SubstTwice is proved: the law returns true at every input, and its arguments read behind the call as before. No condition (own work). -/
import Derived.Test.YtidebmakgffjnaaXy
import Derived.Test.YtidebmakgffjnaaRows
import Derived.WalkKit
import Derived.JoinedCond
/- Terms: SubstTwice, SubstNames, walked and proved (own work). -/
namespace Go.Ev
open Go.Proofs Go.RowKit
set_option maxRecDepth 100000
set_option linter.unusedSimpArgs false
set_option linter.unusedVariables false
set_option maxHeartbeats 1000000

/-! ### small -/

noncomputable def smT (x : Tm) : Bool := !deepT x && (mayT x && (!iLt 30 (.ofNat (sizeT x)) && !iLt 1000 (freeF x 0)))

noncomputable def f35L : Code := loopN Try.f35 0

theorem f35_by (n k : Nat) (l : List Tm) (c d : Bool) (hlen : l.length < 1000000000) (hl : ∀ x ∈ l, Sm x ∧ wt x < n) (S : St) (K : Ex → Env → St → Prop) :
    ∀ (rem : List Tm) (j f : Nat), rem.length < f → (∀ i, rem[i]? = l[j + i]?) → j + rem.length = l.length →
    (rem.all smT = true → K (.exit 0) { nt := 39, tmps := [(0, .list (szOf c l) (tkOf d) 0 (encTs l)), (3, .int .i64 (.ofNat l.length)), (7, .bool false)], locs := [], fix := [] } S) →
    (rem.all smT = false → K .ret { nt := 39, tmps := [(2, .bool false)], locs := [], fix := [] } S) →
    WCode (iter (evalCode Try.cfg (run Try.cfg (n + 8)) k 35 (Try.cfg.fc 35) f35L) f { nt := 39, tmps := [(0, .list (szOf c l) (tkOf d) 0 (encTs l)), (3, .int .i64 (.ofNat j))], locs := [], fix := [] } S) K
  | [], j, f + 1, hf, hr, hj, hK, hY => by
    have hjl : j = l.length := by simpa using hj
    subst hjl
    refine WCode.round (nt := 39) (fx := []) ?_
    refine WCmp.no (geLen (by omega)) ?_
    exact hK rfl
  | y :: rem, j, f + 1, hf, hr, hj, hK, hY => by
    have hb : l[j]? = some y := by have := hr 0; simpa using this.symm
    have hjl : j < l.length := (List.getElem?_eq_some_iff.1 hb).1
    obtain ⟨hsm, hw⟩ := hl y (List.mem_of_getElem? hb)
    refine WCode.round (nt := 39) (fx := []) ?_
    refine WCmp.yes (ltLen hjl) ?_
    refine WOut.mk _ (index44 hb) ?_
    refine WCall.mkB (r82_ok (n + 7) y _ (by omega)) (fun hd => ?_) (fun hd => ?_)
    · exact hY (by rw [List.all_cons]; unfold smT; rw [hd]; rfl)
    refine WOut.mk _ (index44 hb) ?_
    refine WCall.mkB (r55_ok n y _ hsm hw) (fun hm => ?_) (fun hm => ?_)
    · have hsz := may_size hm
      refine WOut.mk _ (index44 hb) ?_
      refine WCall.mk _ _ (r44_ok (n + 8) y _ (by omega) (by omega)) ?_
      refine WCmp.mk (fun hz => ?_) (fun hz => ?_)
      · exact hY (by rw [List.all_cons]; unfold smT; rw [hd, hm, hz]; rfl)
      refine WOut.mk _ (index44 hb) ?_
      refine WCall.mk _ _ (r43_ok (n + 6) y _ (by omega) (by omega)) ?_
      refine WCmp.mk (fun hF => ?_) (fun hF => ?_)
      · exact hY (by rw [List.all_cons]; unfold smT; rw [hd, hm, hz, hF]; rfl)
      have hs : smT y = true := by unfold smT; rw [hd, hm, hz, hF]; rfl
      refine WOut.mk _ (addOne (T := 3) (j := j) (by omega)) ?_
      exact f35_by n k l c d hlen hl S K rem (j + 1) f (by simp only [List.length_cons] at hf; omega) (fun i => by have := hr (i + 1); simp only [List.getElem?_cons_succ] at this; rw [this]; congr 1; omega) (by simp only [List.length_cons] at hj; omega) (fun h => hK (by rw [List.all_cons, hs, h]; rfl)) (fun h => hY (by rw [List.all_cons, hs, h]; rfl))
    · exact hY (by rw [List.all_cons]; unfold smT; rw [hd, hm]; rfl)

theorem f35_ok (n : Nat) (l : List Tm) (c d : Bool) (S : St) (hlen : l.length ≤ 10) (hn : 10 < n) (hl : ∀ x ∈ l, Sm x ∧ wt x < n) : run Try.cfg (n + 9) (.f 35) [.list (szOf c l) (tkOf d) 0 (encTs l)] S = some (.bool (l.all smT), S) := by
  have : frame Try.cfg (run Try.cfg (n + 8)) (n + 8) 35 [.list (szOf c l) (tkOf d) 0 (encTs l)] St.empty = some (.bool (l.all smT), St.empty) := by
    refine frame_of Try.cfg _ (fn := Try.f35) rfl rfl ?_
    refine f35_by n (n + 8) l c d (by omega) hl _ _ l 0 (n + 8) (by omega) (fun i => by rw [Nat.zero_add]) (by rw [Nat.zero_add]) (fun h => ?_) (fun h => ?_)
    · exact rfB h.symm
    · exact rfB h.symm
  exact run_tm this (by simp only [strips_ts, strips_nil]) rfl rfl rfl rfl rfl

theorem small_facts {x : Tm} (h : smT x = true) : mayT x = true ∧ freeF x 0 ≤ 1000 ∧ Bd x 30 30 1030 := by
  unfold smT at h
  simp only [Bool.and_eq_true, Bool.not_eq_true', iLt_not] at h
  obtain ⟨_, hm, hz, hF⟩ := h
  exact ⟨hm, hF, bd_of hm (by simp only [Int.ofNat_eq_natCast] at hz; omega) (by omega) hF⟩

theorem inst1_nrm (u : Tm) (a n : Int) : inst1 u a n = inst1 (nrm u) a n := by unfold inst1; rw [mapT_nrm]
theorem inst2_nrm (u v : Tm) (a n : Int) : inst2 u v a n = inst2 u (nrm v) a n := by unfold inst2; rw [mapT_nrm]
theorem inst2_nrm' (u v : Tm) (a n : Int) : inst2 u v a n = inst2 (nrm u) v a n := by unfold inst2; rw [mapT_nrm]

/-! ### SubstTwice -/

structure TwiceOk (t u v : Tm) : Prop where
  both : mayT (instTm t [u, v]) = true
  up : mayT (liftT v 0 1) = true
  one : mayT (instTm t [liftT v 0 1]) = true
  two : mayT (instTm (instTm t [liftT v 0 1]) [u]) = true
  same : sameT (instTm t [u, v]) (instTm (instTm t [liftT v 0 1]) [u]) = true
  a : mayT (instTm t [u]) = true
  b : mayT (instTm (instTm t [u]) [v]) = true
  w : mayT (instTm u [v]) = true
  c : mayT (instTm t [v, instTm u [v]]) = true
  same2 : sameT (instTm (instTm t [u]) [v]) (instTm t [v, instTm u [v]]) = true

theorem twice_ok {t u v : Tm} (ht : smT t = true) (hu : smT u = true) (hv : smT v = true) : TwiceOk t u v := by
  obtain ⟨mt, ft, bt⟩ := small_facts ht
  obtain ⟨mu, fu, bu⟩ := small_facts hu
  obtain ⟨mv, fv, bv⟩ := small_facts hv
  have b1 := bd_inst2 (B := 1060) bt bu bv (by omega) (by omega) (by omega) (by omega) (by omega)
  have b2 := bd_lift (a := 1) bv (by omega) (by omega) (by omega) (by omega) (by omega)
  have b3 := bd_inst1 (B := 1061) bt b2 (by omega) (by omega) (by omega) (by omega) (by omega)
  have b4 := bd_inst1 (B := 1090) b3 bu (by omega) (by omega) (by omega) (by omega) (by omega)
  have b5 := bd_inst1 (B := 1060) bt bu (by omega) (by omega) (by omega) (by omega) (by omega)
  have b6 := bd_inst1 (B := 1090) b5 bv (by omega) (by omega) (by omega) (by omega) (by omega)
  have b7 := bd_inst1 (B := 1060) bu bv (by omega) (by omega) (by omega) (by omega) (by omega)
  have b8 := bd_inst2 (B := 1090) bt (bv.mono (q := 60) (r := 900) (c := 1060) (by omega) (by omega) (by omega)) b7 (by omega) (by omega) (by omega) (by omega) (by omega)
  have m1 := b1.may (by omega) (by omega)
  have m2 := b2.may (by omega) (by omega)
  have m3 := b3.may (by omega) (by omega)
  have m4 := b4.may (by omega) (by omega)
  have m5 := b5.may (by omega) (by omega)
  have m6 := b6.may (by omega) (by omega)
  have m7 := b7.may (by omega) (by omega)
  have m8 := b8.may (by omega) (by omega)
  refine ⟨m1, m2, m3, m4, same_nrm _ ?_, m5, m6, m7, m8, same_nrm _ ?_⟩
  · rw [nrm_inst00 mt mu mv, nrm_inst0 m3 mu, ← mapT_nrm (instTm t _), nrm_inst0 mt m2, mapT_ext (f := inst1 (liftT v 0 1)) (inst1_nrm _), nrm_lift0 mv (by omega) (by omega), map_twice u v t (allV_pos bt.dp)]
  · rw [nrm_inst0 m5 mv, ← mapT_nrm (instTm t _), nrm_inst0 mt mu, map_after u v t (allV_pos bt.dp) (allV_pos bu.dp), nrm_inst00 mt mv m7, mapT_ext (f := inst2 v (instTm u [v])) (inst2_nrm _ _), nrm_inst0 mu mv]

theorem law7_frame (n : Nat) (t u v : Tm) (hst : Sm t) (hsu : Sm u) (hsv : Sm v) (h10 : 10 < n) (ht : wt t < n) (hu : wt u < n) (hv : wt v < n)
    (w1 : wt (instTm t [u, v]) < n) (w2 : wt (instTm t [liftT v 0 1]) < n) (w3 : wt (instTm (instTm t [liftT v 0 1]) [u]) < n) (w4 : wt (instTm t [u]) < n) (w5 : wt (instTm (instTm t [u]) [v]) < n) (w6 : wt (instTm u [v]) < n) (w7 : wt (instTm t [v, instTm u [v]]) < n) :
    ∃ S', frame Try.cfg (run Try.cfg (n + n + n + 100)) (n + n + n + 100) 7 [encA t, encA u, encA v] St.empty = some (.bool true, S') := by
  have hworks := f36_ok (n + n + n + 79) St.empty
  refine frame_ex Try.cfg _ (fn := Try.f7) rfl rfl ?_
  have h35 : run Try.cfg (n + n + n + 100) (.f 35) [.list 5 .tight 0 [encS t, encS u, encS v]] St.empty = some (.bool ([t, u, v].all smT), St.empty) := by
    have := f35_ok (n + n + n + 91) [t, u, v] true true St.empty (by simp) (by omega) (fun x hx => by
      simp only [List.mem_cons, List.not_mem_nil, or_false] at hx
      rcases hx with rfl | rfl | rfl
      · exact ⟨hst, by omega⟩
      · exact ⟨hsu, by omega⟩
      · exact ⟨hsv, by omega⟩)
    rw [encTs_eq] at this
    rw [encS_eq, encS_eq, encS_eq]
    exact this
  refine WCall.mkB h35 (fun hf => ?_) (fun hf => ?_)
  · simp only [List.all_cons, List.all_nil, Bool.and_true, Bool.and_eq_true] at hf
    have L := twice_ok hf.1 hf.2.1 hf.2.2
    obtain ⟨mt, _, _⟩ := small_facts hf.1
    obtain ⟨mu, _, _⟩ := small_facts hf.2.1
    obtain ⟨mv, _, _⟩ := small_facts hf.2.2
    have kv := lift_keeps v 0 1
    have smU := kv.2.1 hsv
    have c1 := fun S => f37_may2 (n + 84) n n t u v S hst mt (by omega) hsu mu hu hsv mv hv L.both w1
    have c2 := fun S => f38_may (n + n + n + 85) v 0 1 S hsv mv (by omega) (by omega) (by omega) (by omega) (by omega) L.up
    have c3 := fun S => f37_may1 (n + 84) n n t (liftT v 0 1) S hst mt (by omega) smU L.up (by rw [kv.1]; exact hv) L.one w2
    have c4 := fun S => f37_may1 (n + 84) n n (instTm t [liftT v 0 1]) u S (sm_inst1 hst smU) L.one (by omega) hsu mu hu L.two w3
    have c5 := fun S => f39_yes (n + n + n + 100) (instTm t [u, v]) (instTm (instTm t [liftT v 0 1]) [u]) S (sm_inst2 hst hsu hsv) (by have := may_size L.both; omega) (by omega) L.same
    have c6 := fun S => f37_may1 (n + 84) n n t u S hst mt (by omega) hsu mu hu L.a w4
    have c7 := fun S => f37_may1 (n + 84) n n (instTm t [u]) v S (sm_inst1 hst hsu) L.a (by omega) hsv mv hv L.b w5
    have c8 := fun S => f37_may1 (n + 84) n n u v S hsu mu (by omega) hsv mv hv L.w w6
    have c9 := fun S => f37_may2 (n + 84) n n t v (instTm u [v]) S hst mt (by omega) hsv mv hv (sm_inst1 hsu hsv) L.w w6 L.c w7
    have c10 := fun S => f39_yes (n + n + n + 100) (instTm (instTm t [u]) [v]) (instTm t [v, instTm u [v]]) S (sm_inst1 (sm_inst1 hst hsu) hsv) (by have := may_size L.b; omega) (by omega) L.same2
    rw [show n + 84 + n + n + 16 = n + n + n + 100 by omega] at c1 c3 c4 c6 c7 c8 c9
    refine WCall.mk _ _ (c1 _) ?_
    refine WCall.mk _ _ (c2 _) ?_
    refine WCall.mk _ _ (c3 _) ?_
    refine WCall.mk _ _ (c4 _) ?_
    refine WCmp.no rfl ?_
    refine WCmp.no rfl ?_
    refine WCmp.no rfl ?_
    refine WCmp.no rfl ?_
    refine WCall.mk _ _ (c5 _) ?_
    refine WCall.mk _ _ (c6 _) ?_
    refine WCall.mk _ _ (c7 _) ?_
    refine WCall.mk _ _ (c8 _) ?_
    refine WCmp.no rfl ?_
    refine WCmp.no rfl ?_
    refine WCmp.no rfl ?_
    refine WCall.mk _ _ (c9 _) ?_
    refine WCmp.yes rfl ?_
    refine WCall.mk _ _ (c10 _) ?_
    refine WCall.mk _ _ hworks ?_
    exact ⟨_, rfl⟩
  · refine WCall.mk _ _ hworks ?_
    exact ⟨_, rfl⟩

theorem law7 (us : List V) (h : Args Try.prog Try.f7.params.toList us) : ∃ n S', run Try.cfg n (.f 7) us St.empty = some (.bool true, S') := by
  rw [Try.params7] at h
  obtain ⟨t, r1, rfl, hst, h1⟩ := arg46 h
  obtain ⟨u, r2, rfl, hsu, h2⟩ := arg46 h1
  obtain ⟨v, r3, rfl, hsv, h3⟩ := arg46 h2
  obtain rfl := arg_nil h3
  obtain ⟨S', hf⟩ := law7_frame (wt t + wt u + wt v + wt (instTm t [u, v]) + wt (instTm t [liftT v 0 1]) + wt (instTm (instTm t [liftT v 0 1]) [u]) + wt (instTm t [u]) + wt (instTm (instTm t [u]) [v]) + wt (instTm u [v]) + wt (instTm t [v, instTm u [v]]) + 11) t u v hst hsu hsv (by omega) (by omega) (by omega) (by omega) (by omega) (by omega) (by omega) (by omega) (by omega) (by omega) (by omega)
  exact ⟨_, St.empty, run_tm hf (by simp only [strips_t, strips_nil]) rfl rfl rfl rfl rfl⟩

end Go.Ev

namespace Go.Proofs.Ytidebmakgffjnaa
open Go.Ev Go.ChangeShapes Go.WideShapes Go.ChangeAt Go.RowKit

theorem evOwn : ownKnob Try.prog.godebug = none := by kernel_rfl
theorem evLaid : laidOutB Try.prog = true := by kernel_rfl
theorem evMaps : mapsRowed Try.prog = true := by kernel_rfl
noncomputable def evTypes : List Nat := [3, 5, 9, 22, 24, 25, 44, 46]
theorem evPlain : allB (plainT Try.prog evTypes) evTypes = true := by kernel_rfl
theorem evRead : allB (fun t => Try.prog.readableRec t) evTypes = true := by kernel_rfl
theorem evPar {ts : List Nat} (h : allB (fun t => memN t evTypes) ts = true) : ∀ t ∈ ts, memN t evTypes = true ∧ Try.prog.readableRec t = true :=
  fun t ht => ⟨allB_mem h t ht, allB_mem evRead t (memN_iff.1 (allB_mem h t ht))⟩

set_option maxRecDepth 100000 in
theorem substTwice_lifted (hlaw : ∀ us, Args Try.prog Try.f7.params.toList us → ∃ n S', run Go.Ev.Try.cfg n (.f 7) us St.empty = some (.bool true, S')) (os : Os) (started : os.Started) (H : Type) (enc : TypeId × Value → H) :
    ReturnsInHanded {} Try.checked os 7 .any (Rows.substTwiceSpec.pre6 enc Try.prog Try.f7 Rows.substTwiceRow.domain false) (Rows.substTwiceSpec.post enc Try.prog Try.f7 false true false false) := by
  refine returnsInHanded_of_change (C := Try.checked) evOwn started (by kernel_rfl) Try.func7
    (ChangeSpec.witness6 (enc := enc) (C := Try.checked) false ⟨#[], #[.agg #[.int .u8 0, .int .i64 0, .string ⟨⟨[]⟩⟩, .slice none 0 0, .slice none 0 0], .agg #[.int .u8 0, .int .i64 0, .string ⟨⟨[]⟩⟩, .slice none 0 0, .slice none 0 0], .agg #[.int .u8 0, .int .i64 0, .string ⟨⟨[]⟩⟩, .slice none 0 0, .slice none 0 0]], []⟩ 8 (by kernel_rfl) (by kernel_rfl) (by kernel_rfl) (by kernel_rfl)) ?_
  intro W base args ds gs before hval hW _ _
  exact law_contract (C := Go.Ev.Try.cfg) (P := Try.prog) (s := Rows.substTwiceSpec) Go.Ev.Try.runOk evLaid evMaps evPlain (evPar (by kernel_rfl)) (by kernel_rfl) rfl (tb := 4) (by kernel_rfl) Try.underlying4
    (fun _ ds hd => by
      match ds, (show ds.length = 3 from hd) with
      | [d1, d2, d3], _ => rfl) hval hW hlaw

theorem substTwice_of (hlaw : ∀ us, Args Try.prog Try.f7.params.toList us → ∃ n S', run Go.Ev.Try.cfg n (.f 7) us St.empty = some (.bool true, S')) : Rows.SubstTwiceSaid :=
  OpenClaim.holds_of_wide 7 Try.f7 rfl rfl rfl rfl rfl rfl rfl ⟨rfl, rfl, rfl, rfl, rfl⟩ rfl rfl rfl rfl rfl (by kernel_rfl) Try.func7 (by kernel_rfl)
    (of_decide_eq_true (by kernel_rfl)) (by unfold Func.isWrapper; first | (rw [if_pos (by decide +kernel)]; kernel_rfl) | (rw [if_neg (by decide +kernel)]; exact ⟨rfl, rfl⟩))
    (fun os started H enc _ => substTwice_lifted hlaw os started H enc)

end Go.Proofs.Ytidebmakgffjnaa

namespace Go.Proofs.Ytidebmakgffjnaa

/-- SubstTwice. -/
theorem substTwice_holds : Rows.SubstTwiceSaid := substTwice_of (fun us h => Go.Ev.law7 us h)

end Go.Proofs.Ytidebmakgffjnaa
