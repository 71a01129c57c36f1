/- The statement ArenaNil is proved: the law returns true at every input, and its arguments read behind the call as before. No condition (own work). -/
import Derived.Test.YtidebmakgffjnaaXu
import Derived.Test.YtidebmakgffjnaaRows
import Derived.WalkKit
import Derived.JoinedCond
/- The arena: Vast; works(); of no arena; ArenaNil, walked and proved (own work). -/
namespace Go.Ev
open Go.Proofs Go.RowKit
set_option maxRecDepth 100000
set_option linter.unusedSimpArgs false
set_option linter.unusedVariables false
set_option maxHeartbeats 1000000

theorem f46_frame (n : Nat) : frame Try.cfg (run Try.cfg (n + 30)) (n + 30) 46 [] St.empty = some (.bool true, (frame Try.cfg (run Try.cfg (n + 30)) (n + 30) 46 [] St.empty).elim St.empty (·.2)) := by kernel_rfl
theorem f46_ok (n : Nat) (S : St) : run Try.cfg (n + 31) (.f 46) [] S = some (.bool true, S) := run_val (f46_frame n) rfl rfl rfl rfl rfl

/-! ### Vast -/

noncomputable def vastGo : List Tm → Int → Option Int
  | [], n => some n
  | x :: l, n => match deepT x with
    | true => none
    | false => vastGo l (addW n (.ofNat (sizeT x)))
noncomputable def vastL (l : List Tm) (most nodes : Int) : Bool := bif iLt most (.ofNat l.length) then true else match vastGo l 0 with
  | none => true
  | some n => iLt nodes n

noncomputable def f45L : Code := loopN Try.f45 0

theorem f45_by (n k : Nat) (l : List Tm) (c d : Bool) (most nodes : Int) (hlen : l.length < 1000000000) (hl : ∀ x ∈ l, wt x < n) (S : St) (K : Ex → Env → St → Prop) :
    ∀ (rem : List Tm) (j f : Nat) (z : Int), rem.length < f → (∀ i, rem[i]? = l[j + i]?) → j + rem.length = l.length →
    (∀ z', vastGo rem z = some z' → K (.exit 0) { nt := 34, tmps := [(0, .list (szOf c l) (tkOf d) 0 (encTs l)), (2, .int .i64 nodes), (7, .int .i64 z'), (8, .int .i64 (.ofNat l.length)), (16, .bool false)], locs := [], fix := [] } S) →
    (vastGo rem z = none → K .ret { nt := 34, tmps := [(6, .bool true)], locs := [], fix := [] } S) →
    WCode (iter (evalCode Try.cfg (run Try.cfg (n + 1)) k 45 (Try.cfg.fc 45) f45L) f { nt := 34, tmps := [(0, .list (szOf c l) (tkOf d) 0 (encTs l)), (2, .int .i64 nodes), (7, .int .i64 z), (8, .int .i64 (.ofNat j))], locs := [], fix := [] } S) K
  | [], j, f + 1, z, hf, hr, hj, hK, hY => by
    have hjl : j = l.length := by simpa using hj
    subst hjl
    refine WCode.round (nt := 34) (fx := []) ?_
    refine WCmp.no (geLen (by omega)) ?_
    exact hK z rfl
  | y :: rem, j, f + 1, z, hf, hr, hj, hK, hY => by
    have hb : l[j]? = some y := by have := hr 0; simpa using this.symm
    have hjl : j < l.length := (List.getElem?_eq_some_iff.1 hb).1
    have hw := hl y (List.mem_of_getElem? hb)
    rw [vastGo] at hK hY
    refine WCode.round (nt := 34) (fx := []) ?_
    refine WCmp.yes (ltLen hjl) ?_
    refine WOut.mk _ (index44 hb) ?_
    refine WCall.mkB (r82_ok n y _ hw) (fun hd => ?_) (fun hd => ?_)
    · rw [hd] at hY
      exact hY rfl
    · rw [hd] at hK hY
      have hsz := deep_size hd
      refine WOut.mk _ (index44 hb) ?_
      refine WCall.mk _ _ (r44_ok (n + 1) y _ (by omega) (by omega)) ?_
      refine WOut.mk _ rfl ?_
      refine WOut.mk _ (addOne (T := 3) (j := j) (by omega)) ?_
      exact f45_by n k l c d most nodes hlen hl S K rem (j + 1) f _ (by simp only [List.length_cons] at hf; omega) (fun i => by have := hr (i + 1); simp only [List.getElem?_cons_succ] at this; rw [this]; congr 1; omega) (by simp only [List.length_cons] at hj; omega) hK hY

theorem f45_ok (n : Nat) (l : List Tm) (c d : Bool) (most nodes : Int) (S : St) (hmost : most ≤ 1000) (hn : 1000 < n) (hl : ∀ x ∈ l, wt x < n) : run Try.cfg (n + 2) (.f 45) [.list (szOf c l) (tkOf d) 0 (encTs l), .int .i64 most, .int .i64 nodes] S = some (.bool (vastL l most nodes), S) := by
  have : frame Try.cfg (run Try.cfg (n + 1)) (n + 1) 45 [.list (szOf c l) (tkOf d) 0 (encTs l), .int .i64 most, .int .i64 nodes] St.empty = some (.bool (vastL l most nodes), St.empty) := by
    refine frame_of Try.cfg _ (fn := Try.f45) rfl rfl ?_
    unfold vastL
    refine WCmp.mk (fun h => ?_) (fun h => ?_)
    · rw [lenN_eq, ← lenN_eq, encTs_len] at h
      rw [h]
      rfl
    · rw [lenN_eq, ← lenN_eq, encTs_len] at h
      rw [h]
      rw [iLt_not] at h
      have hlen : l.length ≤ 1000 := by simp only [Int.ofNat_eq_natCast] at h; omega
      refine f45_by n (n + 1) l c d most nodes (by omega) hl _ _ l 0 (n + 1) 0 (by omega) (fun i => by rw [Nat.zero_add]) (by rw [Nat.zero_add]) (fun z hz => ?_) (fun hz => ?_)
      · rw [hz]
        refine WCmp.mk (fun h2 => ?_) (fun h2 => ?_)
        · exact rfB h2.symm
        · exact rfB h2.symm
      · rw [hz]
        rfl
  exact run_tm this (by rw [strips_ts]; rfl) rfl rfl rfl rfl rfl

/-! ### Of no arena -/

theorem f97_nil (m : Nat) (n : Int) (S : St) : run Try.cfg (m + 1) (.f 97) [.nilp, .int .i64 n] S = some (.int .i64 2, S) := by
  have : frame Try.cfg (run Try.cfg m) m 97 [.nilp, .int .i64 n] St.empty = some (.int .i64 2, St.empty) := by
    refine frame_of Try.cfg _ (fn := Try.f97) rfl rfl ?_
    refine WOut.mk _ rfl ?_
    rfl
  exact run_val this rfl rfl rfl rfl rfl

theorem f48_nil (m : Nat) (t : Tm) (S : St) : run Try.cfg (m + 1) (.f 48) [.nilp, encA t] S = some (.tuple [.int .i64 0, .int .i64 2], S) := by
  have : ∃ S', frame Try.cfg (run Try.cfg m) m 48 [.nilp, encA t] St.empty = some (.tuple [.int .i64 0, .int .i64 2], S') := by
    refine frame_ex Try.cfg _ (fn := Try.f48) rfl rfl ?_
    refine WOut.mk _ rfl ?_
    exact ⟨_, rfl⟩
  obtain ⟨S', this⟩ := this
  refine run_val (v := .tuple [.int .i64 0, .int .i64 2]) (S' := S') ?_ rfl rfl rfl rfl rfl
  rw [show mapN V.strip [V.nilp, encA t] = [V.nilp, encA t] from congrArg (List.cons V.nilp) (strips_t t [])]
  exact this

theorem f60_nil (m : Nat) (t : Tm) (S : St) : run Try.cfg (m + 1) (.f 60) [.nilp, encA t] S = some (.tuple [.int .i64 0, .bool false], S) := by
  have : ∃ S', frame Try.cfg (run Try.cfg m) m 60 [.nilp, encA t] St.empty = some (.tuple [.int .i64 0, .bool false], S') := by
    refine frame_ex Try.cfg _ (fn := Try.f60) rfl rfl ?_
    refine WOut.mk _ rfl ?_
    exact ⟨_, rfl⟩
  obtain ⟨S', this⟩ := this
  refine run_val (v := .tuple [.int .i64 0, .bool false]) (S' := S') ?_ rfl rfl rfl rfl rfl
  rw [show mapN V.strip [V.nilp, encA t] = [V.nilp, encA t] from congrArg (List.cons V.nilp) (strips_t t [])]
  exact this

theorem f51_nil (m : Nat) (n : Int) (S : St) : run Try.cfg (m + 2) (.f 51) [.nilp, .int .i64 n] S = some (encP2 (zTm, 2), S) := by
  have : ∃ S', frame Try.cfg (run Try.cfg (m + 1)) (m + 1) 51 [.nilp, .int .i64 n] St.empty = some (encP2 (zTm, 2), S') := by
    refine frame_ex Try.cfg _ (fn := Try.f51) rfl rfl ?_
    refine WCall.mk _ _ (f97_nil m n _) ?_
    refine WCmp.yes rfl ?_
    exact ⟨_, rfl⟩
  obtain ⟨S', this⟩ := this
  exact run_val this rfl rfl rfl rfl (stripAll_P2 _)

theorem f61_nil (m : Nat) (n : Int) (S : St) : run Try.cfg (m + 2) (.f 61) [.nilp, .int .i64 n] S = some (.tuple [.list 0 .tight 0 [], .int .i64 2], S) := by
  have : ∃ S', frame Try.cfg (run Try.cfg (m + 1)) (m + 1) 61 [.nilp, .int .i64 n] St.empty = some (.tuple [.list 0 .tight 0 [], .int .i64 2], S') := by
    refine frame_ex Try.cfg _ (fn := Try.f61) rfl rfl ?_
    refine WCall.mk _ _ (f97_nil m n _) ?_
    refine WCmp.yes rfl ?_
    exact ⟨_, rfl⟩
  obtain ⟨S', this⟩ := this
  exact run_val this rfl rfl rfl rfl rfl

noncomputable def zNode : V := .agg Try.ti112.zero

theorem f108_nil (m : Nat) (n : Int) (S : St) : run Try.cfg (m + 2) (.f 108) [.nilp, .int .i64 n] S = some (zNode, S) := by
  have : ∃ S', frame Try.cfg (run Try.cfg (m + 1)) (m + 1) 108 [.nilp, .int .i64 n] St.empty = some (zNode, S') := by
    refine frame_ex Try.cfg _ (fn := Try.f108) rfl rfl ?_
    refine WCall.mk _ _ (f97_nil m n _) ?_
    refine WCmp.no rfl ?_
    exact ⟨_, rfl⟩
  obtain ⟨S', this⟩ := this
  exact run_val this rfl rfl rfl rfl rfl

theorem f66_nil (m : Nat) (n : Int) (S : St) : run Try.cfg (m + 3) (.f 66) [.nilp, .int .i64 n] S = some (.int .i64 0, S) := by
  have : frame Try.cfg (run Try.cfg (m + 2)) (m + 2) 66 [.nilp, .int .i64 n] St.empty = some (.int .i64 0, St.empty) := by
    refine frame_of Try.cfg _ (fn := Try.f66) rfl rfl ?_
    refine WCall.mk _ _ (f108_nil m n _) ?_
    rfl
  exact run_val this rfl rfl rfl rfl rfl
theorem f67_nil (m : Nat) (n : Int) (S : St) : run Try.cfg (m + 3) (.f 67) [.nilp, .int .i64 n] S = some (.int .i64 0, S) := by
  have : frame Try.cfg (run Try.cfg (m + 2)) (m + 2) 67 [.nilp, .int .i64 n] St.empty = some (.int .i64 0, St.empty) := by
    refine frame_of Try.cfg _ (fn := Try.f67) rfl rfl ?_
    refine WCall.mk _ _ (f108_nil m n _) ?_
    rfl
  exact run_val this rfl rfl rfl rfl rfl
theorem f68_nil (m : Nat) (n : Int) (S : St) : run Try.cfg (m + 3) (.f 68) [.nilp, .int .i64 n] S = some (.int .i64 0, S) := by
  have : frame Try.cfg (run Try.cfg (m + 2)) (m + 2) 68 [.nilp, .int .i64 n] St.empty = some (.int .i64 0, St.empty) := by
    refine frame_of Try.cfg _ (fn := Try.f68) rfl rfl ?_
    refine WCall.mk _ _ (f108_nil m n _) ?_
    rfl
  exact run_val this rfl rfl rfl rfl rfl
theorem f50_nil (m : Nat) (S : St) : run Try.cfg (m + 1) (.f 50) [.nilp] S = some (.int .i64 0, S) := by
  have : frame Try.cfg (run Try.cfg m) m 50 [.nilp] St.empty = some (.int .i64 0, St.empty) := by
    refine frame_of Try.cfg _ (fn := Try.f50) rfl rfl ?_
    refine WOut.mk _ rfl ?_
    rfl
  exact run_val this rfl rfl rfl rfl rfl

/-! ### ArenaNil -/

@[reducible] noncomputable def encS' (x : Tm) : V := .agg (mapN cellStrip (cellsT x))
theorem encS'_eq (x : Tm) : encS' x = encA x := by
  show V.agg [_, _, _, cellStrip (.list _ (tkOf x.b) 0 _), cellStrip (.list _ (tkOf x.d) 0 _)] = _
  rw [strip_tk, strip_tk]
  rfl

theorem law14_frame (n : Nat) (t : Tm) (z : Int) (hn : wt t < n + 1001) : ∃ S', frame Try.cfg (run Try.cfg (n + 1100)) (n + 1100) 14 [encA t, .int .i64 z] St.empty = some (.bool true, S') := by
  have hworks := f46_ok (n + 1069) St.empty
  refine frame_ex Try.cfg _ (fn := Try.f14) rfl rfl ?_
  have h45 : run Try.cfg (n + 1100) (.f 45) [.list 5 .tight 0 [encS' t], .int .i64 1, .int .i64 4000] St.empty = some (.bool (vastL [t] 1 4000), St.empty) := by
    have := f45_ok (n + 1098) [t] true true 1 4000 St.empty (by omega) (by omega) (fun x hx => by cases hx with | head => omega | tail _ h => cases h)
    rw [encTs_eq] at this
    rw [encS'_eq]
    exact this
  refine WCall.mkB h45 (fun hv => ?_) (fun hv => ?_)
  · refine WCall.mk _ _ hworks ?_
    exact ⟨_, rfl⟩
  · refine WCall.mk _ _ (f48_nil (n + 1099) t _) ?_
    refine WCall.mk _ _ (f60_nil (n + 1099) t _) ?_
    refine WCall.mk _ _ (f51_nil (n + 1098) z _) ?_
    refine WCall.mk _ _ (f61_nil (n + 1098) z _) ?_
    refine WCmp.yes rfl ?_
    refine WCmp.yes rfl ?_
    refine WCmp.yes rfl ?_
    refine WCmp.yes rfl ?_
    refine WCmp.yes rfl ?_
    refine WCmp.yes rfl ?_
    refine WCmp.yes rfl ?_
    refine WCall.mk _ _ (f66_nil (n + 1097) z _) ?_
    refine WCall.mk _ _ (f67_nil (n + 1097) z _) ?_
    refine WOut.mk _ rfl ?_
    refine WCall.mk _ _ (f68_nil (n + 1097) z _) ?_
    refine WOut.mk _ rfl ?_
    refine WCall.mk _ _ (f50_nil (n + 1099) _) ?_
    refine WOut.mk _ rfl ?_
    refine WCmp.yes rfl ?_
    refine WCall.mk _ _ hworks ?_
    exact ⟨_, rfl⟩

theorem law14 (us : List V) (h : Args Try.prog Try.f14.params.toList us) : ∃ n S', run Try.cfg n (.f 14) us St.empty = some (.bool true, S') := by
  rw [Try.params14] at h
  obtain ⟨t, r1, rfl, hsm, h1⟩ := arg46 h
  obtain ⟨z, r2, rfl, _, h2⟩ := arg3b h1
  obtain rfl := arg_nil h2
  obtain ⟨S', hf⟩ := law14_frame (wt t) t z (by omega)
  exact ⟨_, St.empty, run_tm hf (by simp only [strips_t, strips_i, strips_nil]) rfl rfl rfl rfl rfl⟩

end Go.Ev

namespace Go.Proofs.Ytidebmakgffjnaa
open Go.Ev Go.ChangeShapes Go.WideShapes Go.ChangeAt Go.RowKit

theorem evOwn : ownKnob Try.prog.godebug = none := by kernel_rfl
theorem evLaid : laidOutB Try.prog = true := by kernel_rfl
theorem evMaps : mapsRowed Try.prog = true := by kernel_rfl
noncomputable def evTypes : List Nat := [3, 5, 9, 22, 24, 25, 44, 46]
theorem evPlain : allB (plainT Try.prog evTypes) evTypes = true := by kernel_rfl
theorem evRead : allB (fun t => Try.prog.readableRec t) evTypes = true := by kernel_rfl
theorem evPar {ts : List Nat} (h : allB (fun t => memN t evTypes) ts = true) : ∀ t ∈ ts, memN t evTypes = true ∧ Try.prog.readableRec t = true :=
  fun t ht => ⟨allB_mem h t ht, allB_mem evRead t (memN_iff.1 (allB_mem h t ht))⟩

set_option maxRecDepth 100000 in
theorem arenaNil_lifted (hlaw : ∀ us, Args Try.prog Try.f14.params.toList us → ∃ n S', run Go.Ev.Try.cfg n (.f 14) us St.empty = some (.bool true, S')) (os : Os) (started : os.Started) (H : Type) (enc : TypeId × Value → H) :
    ReturnsInHanded {} Try.checked os 14 .any (Rows.arenaNilSpec.pre6 enc Try.prog Try.f14 Rows.arenaNilRow.domain false) (Rows.arenaNilSpec.post enc Try.prog Try.f14 false true false false) := by
  refine returnsInHanded_of_change (C := Try.checked) evOwn started (by kernel_rfl) Try.func14
    (ChangeSpec.witness6 (enc := enc) (C := Try.checked) false ⟨#[], #[.agg #[.int .u8 0, .int .i64 0, .string ⟨⟨[]⟩⟩, .slice none 0 0, .slice none 0 0], .int .i64 0], []⟩ 8 (by kernel_rfl) (by kernel_rfl) (by kernel_rfl) (by kernel_rfl)) ?_
  intro W base args ds gs before hval hW _ _
  exact law_contract (C := Go.Ev.Try.cfg) (P := Try.prog) (s := Rows.arenaNilSpec) Go.Ev.Try.runOk evLaid evMaps evPlain (evPar (by kernel_rfl)) (by kernel_rfl) rfl (tb := 4) (by kernel_rfl) Try.underlying4
    (fun _ ds hd => by
      match ds, (show ds.length = 2 from hd) with
      | [d1, d2], _ => rfl) hval hW hlaw

theorem arenaNil_of (hlaw : ∀ us, Args Try.prog Try.f14.params.toList us → ∃ n S', run Go.Ev.Try.cfg n (.f 14) us St.empty = some (.bool true, S')) : Rows.ArenaNilSaid :=
  OpenClaim.holds_of_wide 14 Try.f14 rfl rfl rfl rfl rfl rfl rfl ⟨rfl, rfl, rfl, rfl, rfl⟩ rfl rfl rfl rfl rfl (by kernel_rfl) Try.func14 (by kernel_rfl)
    (of_decide_eq_true (by kernel_rfl)) (by unfold Func.isWrapper; first | (rw [if_pos (by decide +kernel)]; kernel_rfl) | (rw [if_neg (by decide +kernel)]; exact ⟨rfl, rfl⟩))
    (fun os started H enc _ => arenaNil_lifted hlaw os started H enc)

end Go.Proofs.Ytidebmakgffjnaa

namespace Go.Proofs.Ytidebmakgffjnaa

/-- ArenaNil. -/
theorem arenaNil_holds : Rows.ArenaNilSaid := arenaNil_of (fun us h => Go.Ev.law14 us h)

end Go.Proofs.Ytidebmakgffjnaa
