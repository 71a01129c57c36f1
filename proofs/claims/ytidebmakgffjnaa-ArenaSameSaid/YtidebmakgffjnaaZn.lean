/- The statement ArenaSame is proved: the law returns true at every input, and its arguments read behind the call as before. No condition (own work). -/
import Derived.Test.YtidebmakgffjnaaXz
import Derived.Test.YtidebmakgffjnaaXw
import Derived.Test.YtidebmakgffjnaaRows
import Derived.WalkKit
import Derived.JoinedCond
/- The arena: Vast; works(); of no arena; ArenaNil, walked and proved (own work). -/
namespace Go.Ev
open Go.Proofs Go.RowKit
set_option maxRecDepth 100000
set_option linter.unusedSimpArgs false
set_option linter.unusedVariables false
set_option maxHeartbeats 1000000

theorem f46_frame (n : Nat) : frame Try.cfg (run Try.cfg (n + 30)) (n + 30) 46 [] St.empty = some (.bool true, (frame Try.cfg (run Try.cfg (n + 30)) (n + 30) 46 [] St.empty).elim St.empty (·.2)) := by kernel_rfl
theorem f46_ok (n : Nat) (S : St) : run Try.cfg (n + 31) (.f 46) [] S = some (.bool true, S) := run_val (f46_frame n) rfl rfl rfl rfl rfl

/-! ### Vast -/

noncomputable def vastGo : List Tm → Int → Option Int
  | [], n => some n
  | x :: l, n => match deepT x with
    | true => none
    | false => vastGo l (addW n (.ofNat (sizeT x)))
noncomputable def vastL (l : List Tm) (most nodes : Int) : Bool := bif iLt most (.ofNat l.length) then true else match vastGo l 0 with
  | none => true
  | some n => iLt nodes n

noncomputable def f45L : Code := loopN Try.f45 0

theorem f45_by (n k : Nat) (l : List Tm) (c d : Bool) (most nodes : Int) (hlen : l.length < 1000000000) (hl : ∀ x ∈ l, wt x < n) (S : St) (K : Ex → Env → St → Prop) :
    ∀ (rem : List Tm) (j f : Nat) (z : Int), rem.length < f → (∀ i, rem[i]? = l[j + i]?) → j + rem.length = l.length →
    (∀ z', vastGo rem z = some z' → K (.exit 0) { nt := 34, tmps := [(0, .list (szOf c l) (tkOf d) 0 (encTs l)), (2, .int .i64 nodes), (7, .int .i64 z'), (8, .int .i64 (.ofNat l.length)), (16, .bool false)], locs := [], fix := [] } S) →
    (vastGo rem z = none → K .ret { nt := 34, tmps := [(6, .bool true)], locs := [], fix := [] } S) →
    WCode (iter (evalCode Try.cfg (run Try.cfg (n + 1)) k 45 (Try.cfg.fc 45) f45L) f { nt := 34, tmps := [(0, .list (szOf c l) (tkOf d) 0 (encTs l)), (2, .int .i64 nodes), (7, .int .i64 z), (8, .int .i64 (.ofNat j))], locs := [], fix := [] } S) K
  | [], j, f + 1, z, hf, hr, hj, hK, hY => by
    have hjl : j = l.length := by simpa using hj
    subst hjl
    refine WCode.round (nt := 34) (fx := []) ?_
    refine WCmp.no (geLen (by omega)) ?_
    exact hK z rfl
  | y :: rem, j, f + 1, z, hf, hr, hj, hK, hY => by
    have hb : l[j]? = some y := by have := hr 0; simpa using this.symm
    have hjl : j < l.length := (List.getElem?_eq_some_iff.1 hb).1
    have hw := hl y (List.mem_of_getElem? hb)
    rw [vastGo] at hK hY
    refine WCode.round (nt := 34) (fx := []) ?_
    refine WCmp.yes (ltLen hjl) ?_
    refine WOut.mk _ (index44 hb) ?_
    refine WCall.mkB (r82_ok n y _ hw) (fun hd => ?_) (fun hd => ?_)
    · rw [hd] at hY
      exact hY rfl
    · rw [hd] at hK hY
      have hsz := deep_size hd
      refine WOut.mk _ (index44 hb) ?_
      refine WCall.mk _ _ (r44_ok (n + 1) y _ (by omega) (by omega)) ?_
      refine WOut.mk _ rfl ?_
      refine WOut.mk _ (addOne (T := 3) (j := j) (by omega)) ?_
      exact f45_by n k l c d most nodes hlen hl S K rem (j + 1) f _ (by simp only [List.length_cons] at hf; omega) (fun i => by have := hr (i + 1); simp only [List.getElem?_cons_succ] at this; rw [this]; congr 1; omega) (by simp only [List.length_cons] at hj; omega) hK hY

theorem f45_ok (n : Nat) (l : List Tm) (c d : Bool) (most nodes : Int) (S : St) (hmost : most ≤ 1000) (hn : 1000 < n) (hl : ∀ x ∈ l, wt x < n) : run Try.cfg (n + 2) (.f 45) [.list (szOf c l) (tkOf d) 0 (encTs l), .int .i64 most, .int .i64 nodes] S = some (.bool (vastL l most nodes), S) := by
  have : frame Try.cfg (run Try.cfg (n + 1)) (n + 1) 45 [.list (szOf c l) (tkOf d) 0 (encTs l), .int .i64 most, .int .i64 nodes] St.empty = some (.bool (vastL l most nodes), St.empty) := by
    refine frame_of Try.cfg _ (fn := Try.f45) rfl rfl ?_
    unfold vastL
    refine WCmp.mk (fun h => ?_) (fun h => ?_)
    · rw [lenN_eq, ← lenN_eq, encTs_len] at h
      rw [h]
      rfl
    · rw [lenN_eq, ← lenN_eq, encTs_len] at h
      rw [h]
      rw [iLt_not] at h
      have hlen : l.length ≤ 1000 := by simp only [Int.ofNat_eq_natCast] at h; omega
      refine f45_by n (n + 1) l c d most nodes (by omega) hl _ _ l 0 (n + 1) 0 (by omega) (fun i => by rw [Nat.zero_add]) (by rw [Nat.zero_add]) (fun z hz => ?_) (fun hz => ?_)
      · rw [hz]
        refine WCmp.mk (fun h2 => ?_) (fun h2 => ?_)
        · exact rfB h2.symm
        · exact rfB h2.symm
      · rw [hz]
        rfl
  exact run_tm this (by rw [strips_ts]; rfl) rfl rfl rfl rfl rfl

/-! ### Of no arena -/

theorem f97_nil (m : Nat) (n : Int) (S : St) : run Try.cfg (m + 1) (.f 97) [.nilp, .int .i64 n] S = some (.int .i64 2, S) := by
  have : frame Try.cfg (run Try.cfg m) m 97 [.nilp, .int .i64 n] St.empty = some (.int .i64 2, St.empty) := by
    refine frame_of Try.cfg _ (fn := Try.f97) rfl rfl ?_
    refine WOut.mk _ rfl ?_
    rfl
  exact run_val this rfl rfl rfl rfl rfl

theorem f48_nil (m : Nat) (t : Tm) (S : St) : run Try.cfg (m + 1) (.f 48) [.nilp, encA t] S = some (.tuple [.int .i64 0, .int .i64 2], S) := by
  have : ∃ S', frame Try.cfg (run Try.cfg m) m 48 [.nilp, encA t] St.empty = some (.tuple [.int .i64 0, .int .i64 2], S') := by
    refine frame_ex Try.cfg _ (fn := Try.f48) rfl rfl ?_
    refine WOut.mk _ rfl ?_
    exact ⟨_, rfl⟩
  obtain ⟨S', this⟩ := this
  refine run_val (v := .tuple [.int .i64 0, .int .i64 2]) (S' := S') ?_ rfl rfl rfl rfl rfl
  rw [show mapN V.strip [V.nilp, encA t] = [V.nilp, encA t] from congrArg (List.cons V.nilp) (strips_t t [])]
  exact this

theorem f60_nil (m : Nat) (t : Tm) (S : St) : run Try.cfg (m + 1) (.f 60) [.nilp, encA t] S = some (.tuple [.int .i64 0, .bool false], S) := by
  have : ∃ S', frame Try.cfg (run Try.cfg m) m 60 [.nilp, encA t] St.empty = some (.tuple [.int .i64 0, .bool false], S') := by
    refine frame_ex Try.cfg _ (fn := Try.f60) rfl rfl ?_
    refine WOut.mk _ rfl ?_
    exact ⟨_, rfl⟩
  obtain ⟨S', this⟩ := this
  refine run_val (v := .tuple [.int .i64 0, .bool false]) (S' := S') ?_ rfl rfl rfl rfl rfl
  rw [show mapN V.strip [V.nilp, encA t] = [V.nilp, encA t] from congrArg (List.cons V.nilp) (strips_t t [])]
  exact this

theorem f51_nil (m : Nat) (n : Int) (S : St) : run Try.cfg (m + 2) (.f 51) [.nilp, .int .i64 n] S = some (encP2 (zTm, 2), S) := by
  have : ∃ S', frame Try.cfg (run Try.cfg (m + 1)) (m + 1) 51 [.nilp, .int .i64 n] St.empty = some (encP2 (zTm, 2), S') := by
    refine frame_ex Try.cfg _ (fn := Try.f51) rfl rfl ?_
    refine WCall.mk _ _ (f97_nil m n _) ?_
    refine WCmp.yes rfl ?_
    exact ⟨_, rfl⟩
  obtain ⟨S', this⟩ := this
  exact run_val this rfl rfl rfl rfl (stripAll_P2 _)

theorem f61_nil (m : Nat) (n : Int) (S : St) : run Try.cfg (m + 2) (.f 61) [.nilp, .int .i64 n] S = some (.tuple [.list 0 .tight 0 [], .int .i64 2], S) := by
  have : ∃ S', frame Try.cfg (run Try.cfg (m + 1)) (m + 1) 61 [.nilp, .int .i64 n] St.empty = some (.tuple [.list 0 .tight 0 [], .int .i64 2], S') := by
    refine frame_ex Try.cfg _ (fn := Try.f61) rfl rfl ?_
    refine WCall.mk _ _ (f97_nil m n _) ?_
    refine WCmp.yes rfl ?_
    exact ⟨_, rfl⟩
  obtain ⟨S', this⟩ := this
  exact run_val this rfl rfl rfl rfl rfl

noncomputable def zNode : V := .agg Try.ti112.zero

theorem f108_nil (m : Nat) (n : Int) (S : St) : run Try.cfg (m + 2) (.f 108) [.nilp, .int .i64 n] S = some (zNode, S) := by
  have : ∃ S', frame Try.cfg (run Try.cfg (m + 1)) (m + 1) 108 [.nilp, .int .i64 n] St.empty = some (zNode, S') := by
    refine frame_ex Try.cfg _ (fn := Try.f108) rfl rfl ?_
    refine WCall.mk _ _ (f97_nil m n _) ?_
    refine WCmp.no rfl ?_
    exact ⟨_, rfl⟩
  obtain ⟨S', this⟩ := this
  exact run_val this rfl rfl rfl rfl rfl

theorem f66_nil (m : Nat) (n : Int) (S : St) : run Try.cfg (m + 3) (.f 66) [.nilp, .int .i64 n] S = some (.int .i64 0, S) := by
  have : frame Try.cfg (run Try.cfg (m + 2)) (m + 2) 66 [.nilp, .int .i64 n] St.empty = some (.int .i64 0, St.empty) := by
    refine frame_of Try.cfg _ (fn := Try.f66) rfl rfl ?_
    refine WCall.mk _ _ (f108_nil m n _) ?_
    rfl
  exact run_val this rfl rfl rfl rfl rfl
theorem f67_nil (m : Nat) (n : Int) (S : St) : run Try.cfg (m + 3) (.f 67) [.nilp, .int .i64 n] S = some (.int .i64 0, S) := by
  have : frame Try.cfg (run Try.cfg (m + 2)) (m + 2) 67 [.nilp, .int .i64 n] St.empty = some (.int .i64 0, St.empty) := by
    refine frame_of Try.cfg _ (fn := Try.f67) rfl rfl ?_
    refine WCall.mk _ _ (f108_nil m n _) ?_
    rfl
  exact run_val this rfl rfl rfl rfl rfl
theorem f68_nil (m : Nat) (n : Int) (S : St) : run Try.cfg (m + 3) (.f 68) [.nilp, .int .i64 n] S = some (.int .i64 0, S) := by
  have : frame Try.cfg (run Try.cfg (m + 2)) (m + 2) 68 [.nilp, .int .i64 n] St.empty = some (.int .i64 0, St.empty) := by
    refine frame_of Try.cfg _ (fn := Try.f68) rfl rfl ?_
    refine WCall.mk _ _ (f108_nil m n _) ?_
    rfl
  exact run_val this rfl rfl rfl rfl rfl
theorem f50_nil (m : Nat) (S : St) : run Try.cfg (m + 1) (.f 50) [.nilp] S = some (.int .i64 0, S) := by
  have : frame Try.cfg (run Try.cfg m) m 50 [.nilp] St.empty = some (.int .i64 0, St.empty) := by
    refine frame_of Try.cfg _ (fn := Try.f50) rfl rfl ?_
    refine WOut.mk _ rfl ?_
    rfl
  exact run_val this rfl rfl rfl rfl rfl

/-! ### ArenaNil -/

@[reducible] noncomputable def encS' (x : Tm) : V := .agg (mapN cellStrip (cellsT x))
theorem encS'_eq (x : Tm) : encS' x = encA x := by
  show V.agg [_, _, _, cellStrip (.list _ (tkOf x.b) 0 _), cellStrip (.list _ (tkOf x.d) 0 _)] = _
  rw [strip_tk, strip_tk]
  rfl

theorem law14_frame (n : Nat) (t : Tm) (z : Int) (hn : wt t < n + 1001) : ∃ S', frame Try.cfg (run Try.cfg (n + 1100)) (n + 1100) 14 [encA t, .int .i64 z] St.empty = some (.bool true, S') := by
  have hworks := f46_ok (n + 1069) St.empty
  refine frame_ex Try.cfg _ (fn := Try.f14) rfl rfl ?_
  have h45 : run Try.cfg (n + 1100) (.f 45) [.list 5 .tight 0 [encS' t], .int .i64 1, .int .i64 4000] St.empty = some (.bool (vastL [t] 1 4000), St.empty) := by
    have := f45_ok (n + 1098) [t] true true 1 4000 St.empty (by omega) (by omega) (fun x hx => by cases hx with | head => omega | tail _ h => cases h)
    rw [encTs_eq] at this
    rw [encS'_eq]
    exact this
  refine WCall.mkB h45 (fun hv => ?_) (fun hv => ?_)
  · refine WCall.mk _ _ hworks ?_
    exact ⟨_, rfl⟩
  · refine WCall.mk _ _ (f48_nil (n + 1099) t _) ?_
    refine WCall.mk _ _ (f60_nil (n + 1099) t _) ?_
    refine WCall.mk _ _ (f51_nil (n + 1098) z _) ?_
    refine WCall.mk _ _ (f61_nil (n + 1098) z _) ?_
    refine WCmp.yes rfl ?_
    refine WCmp.yes rfl ?_
    refine WCmp.yes rfl ?_
    refine WCmp.yes rfl ?_
    refine WCmp.yes rfl ?_
    refine WCmp.yes rfl ?_
    refine WCmp.yes rfl ?_
    refine WCall.mk _ _ (f66_nil (n + 1097) z _) ?_
    refine WCall.mk _ _ (f67_nil (n + 1097) z _) ?_
    refine WOut.mk _ rfl ?_
    refine WCall.mk _ _ (f68_nil (n + 1097) z _) ?_
    refine WOut.mk _ rfl ?_
    refine WCall.mk _ _ (f50_nil (n + 1099) _) ?_
    refine WOut.mk _ rfl ?_
    refine WCmp.yes rfl ?_
    refine WCall.mk _ _ hworks ?_
    exact ⟨_, rfl⟩

theorem law14 (us : List V) (h : Args Try.prog Try.f14.params.toList us) : ∃ n S', run Try.cfg n (.f 14) us St.empty = some (.bool true, S') := by
  rw [Try.params14] at h
  obtain ⟨t, r1, rfl, hsm, h1⟩ := arg46 h
  obtain ⟨z, r2, rfl, _, h2⟩ := arg3b h1
  obtain rfl := arg_nil h2
  obtain ⟨S', hf⟩ := law14_frame (wt t) t z (by omega)
  exact ⟨_, St.empty, run_tm hf (by simp only [strips_t, strips_i, strips_nil]) rfl rfl rfl rfl rfl⟩

end Go.Ev

/- The arena: a term is got (written by tng.py; own work). -/
namespace Go.Ev
open Go.Proofs Go.RowKit
set_option maxRecDepth 100000
set_option linter.unusedSimpArgs false
set_option linter.unusedVariables false
set_option maxHeartbeats 4000000

theorem appN_assoc {α : Type} (a b c : List α) : appN (appN a b) c = appN a (appN b c) := by rw [appN_eq, appN_eq, appN_eq, appN_eq, List.append_assoc]

theorem nth_end {α : Type} (J : List α) (x : α) (M : List α) : nth (appN J (x :: M)) (lenN J) = some x := by
  rw [nth_eq, appN_eq, lenN_eq, List.getElem?_append_right (Nat.le_refl _), Nat.sub_self]
  rfl
theorem set_end {α : Type} (J : List α) (x y : α) (M : List α) : setN (appN J (x :: M)) (lenN J) y = appN J (y :: M) := by
  rw [setN_eq, appN_eq, appN_eq, lenN_eq, List.set_append_right _ _ (Nat.le_refl _), Nat.sub_self]
  rfl

theorem rd_box {A : Env} {ns : List Nd} {tok : Tok} {J : List Blk} {T : List Nat} {x : Nd} {M : List Blk} : rd A (arS ns tok (appN J (.cells 112 (ndC x) :: M)) T) (.box (lenN J + 1 + 1)) = some (ndC x) := by
  show (match nth (appN J (.cells 112 (ndC x) :: M)) (lenN J) with | some (.cells _ cs) => some cs | _ => none) = _
  rw [nth_end]

theorem ld_box {A : Env} {ns : List Nd} {tok : Tok} {J : List Blk} {T : List Nat} {x : Nd} {M : List Blk} {ac : Acc} {ty o : Nat} {i : TI} {v : V} (hac : ac.heap = true) (hi : Try.cfg.ti ty = some i) (hle : Nat.ble (o + i.size) 31 = true) (hv : mk i.isAgg (takeN i.size (dropN o (ndC x))) = some v) :
    load Try.cfg A (arS ns tok (appN J (.cells 112 (ndC x) :: M)) T) ac ty (.ptr (.box (lenN J + 1 + 1)) o) = some v := by
  unfold load
  rw [hi]
  show (bif ac.heap then match rd A (arS ns tok (appN J (.cells 112 (ndC x) :: M)) T) (.box (lenN J + 1 + 1)) with
    | some cs => bif Nat.ble (o + i.size) (lenN cs) then mk i.isAgg (takeN i.size (dropN o cs)) else none
    | none => none else none) = _
  rw [hac, rd_box]
  show (bif Nat.ble (o + i.size) 31 then mk i.isAgg (takeN i.size (dropN o (ndC x))) else none) = _
  rw [hle]
  exact hv

theorem st_box {A : Env} {ns : List Nd} {tok : Tok} {J : List Blk} {T : List Nat} {cs : List V} {x : Nd} {ac : Acc} (hac : ac.heap = true) (hl : lenN cs = 31) :
    store Try.cfg A { heap := .map 104 (ents (ns.map Nd.key) 0) :: .cells 107 [.list (szN ns) tok 0 (ns.map ndV), .map 0] :: appN J [.cells 112 cs], toks := T } ac 112 (.ptr (.box (lenN J + 1 + 1)) 0) (ndV x) = some (A, arS ns tok (appN J [.cells 112 (ndC x)]) T) := by
  unfold store
  rw [show Try.cfg.ti 112 = some { kind := .struct [(0, 110), (27, 3), (28, 3), (29, 3), (30, 3)], size := 31, bytes := 256, zero := Try.ti112.zero } from rfl]
  show (bif ac.heap && Nat.beq 31 31 then wr A _ (.box (lenN J + 1 + 1)) 0 (ndC x) else none) = _
  rw [hac]
  show wr A _ (.box (lenN J + 1 + 1)) 0 (ndC x) = _
  have hn : nth (.map 104 (ents (ns.map Nd.key) 0) :: .cells 107 [.list (szN ns) tok 0 (ns.map ndV), .map 0] :: appN J [Blk.cells 112 cs]) (lenN J + 1 + 1) = some (Blk.cells 112 cs) := nth_end J (Blk.cells 112 cs) []
  have hs : ∀ y, setN (.map 104 (ents (ns.map Nd.key) 0) :: .cells 107 [.list (szN ns) tok 0 (ns.map ndV), .map 0] :: appN J [Blk.cells 112 cs]) (lenN J + 1 + 1) y = .map 104 (ents (ns.map Nd.key) 0) :: .cells 107 [.list (szN ns) tok 0 (ns.map ndV), .map 0] :: appN J [y] := fun y => congrArg (fun l => Blk.map 104 (ents (ns.map Nd.key) 0) :: .cells 107 [.list (szN ns) tok 0 (ns.map ndV), .map 0] :: l) (set_end J (Blk.cells 112 cs) y [])
  have hb : Nat.ble (0 + lenN (ndC x)) (lenN cs) = true := by rw [hl]; rfl
  have e : splice cs 0 (ndC x) = ndC x := by
    unfold splice
    rw [takeN_eq, dropN_eq, appN_eq, appN_eq]
    have : cs.length = 31 := by rw [← lenN_eq]; exact hl
    rw [List.take_zero, List.nil_append]
    have e2 : cs.drop (0 + lenN (ndC x)) = [] := List.drop_eq_nil_of_le (by rw [this]; exact Nat.le_refl _)
    rw [e2, List.append_nil]
  unfold wr
  rw [show storable (ndC x) = true from rfl]
  dsimp only [cond_true]
  rw [hn]
  dsimp only
  rw [hb, hs, e]
  rfl

mutual
/-- A term as it is got. -/
noncomputable def gt : Tm → Tm
  | .mk k n s _ _ _ _ ls ts => .mk k n s false ls.isEmpty false ts.isEmpty ls (gts ts)
noncomputable def gts : List Tm → List Tm
  | [] => []
  | t :: ts => gt t :: gts ts
end
theorem gts_nil : gts [] = [] := by rw [gts]
theorem gts_cons (t : Tm) (ts : List Tm) : gts (t :: ts) = gt t :: gts ts := by rw [gts]

theorem ext_app (T : List Nat) (m : Nat) : ExtT T (appN T [m]) := by
  refine ⟨by rw [appN_eq]; simp, fun t v hv => ?_⟩
  have := nth_len hv
  rw [nth_eq] at hv
  rw [nth_eq, appN_eq, List.getElem?_append_left this]
  exact hv

/-- What a get gives. -/
def Gets (N : Nat) (t : Tm) (i : Nat) (ns : List Nd) (tok : Tok) : Prop := ∀ (J : List Blk) (T : List Nat),
  ∃ J' T' tl tt, ExtT T T' ∧ strTok tl = tkOf (gt t).b ∧ strTok tt = tkOf (gt t).d ∧
    run Try.cfg N (.f 98) [.ptr (.box 1) 0, .int .i64 (.ofNat i)] (arS ns tok J T) = some (.agg (cells2 (gt t) tl tt), arS ns tok (appN J J') T')

theorem f121_1 (n : Nat) (l0 : Lv) (x : Nd) (hx : x.key.l0 = l0)  (ns : List Nd) (tok : Tok) (J M : List Blk) (T : List Nat) :
    run Try.cfg (n + 1) (.f 121) [.slc (.box (lenN J + 1 + 1)) 4 5 1 4] (arS ns tok (appN J (.cells 112 (ndC x) :: M)) T) = some (.list 5 (.own (lenN T)) 0 ([l0].map enc), arS ns tok (appN J (.cells 112 (ndC x) :: M)) (appN T [1])) := by
  have e : ∀ A : Env, rowsIn A (arS ns tok (appN J (.cells 112 (ndC x) :: M)) T) .any 5 (.slc (.box (lenN J + 1 + 1)) 4 5 1 4) = some (0, [l0].map enc) := fun A => by
    subst hx 
    unfold rowsIn
    dsimp only
    rw [rd_box]
    rfl
  refine run_here rfl ?_
  refine frame_of Try.cfg _ (fn := Try.f121) rfl rfl ?_
  refine WApp.mk _ _ (show _ = some ((V.list 5 (.own (lenN T)) 0 ([l0].map enc)), arS ns tok (appN J (.cells 112 (ndC x) :: M)) (appN T [1])) from ?_) ?_
  · unfold append
    rw [show Try.cfg.ti 25 = some { kind := .slice 24, size := 1, bytes := 24, zero := [.list 0 .tight 0 []] } from rfl]
    dsimp only
    rw [show Try.cfg.ti 24 = some Try.ti24 from rfl]
    dsimp only
    rw [show Try.ti24.size = 5 from rfl, e]
    rfl
  · rfl

theorem f121_2 (n : Nat) (l0 l1 : Lv) (x : Nd) (hx : x.key.l0 = l0) (hx1 : x.key.l1 = l1) (ns : List Nd) (tok : Tok) (J M : List Blk) (T : List Nat) :
    run Try.cfg (n + 1) (.f 121) [.slc (.box (lenN J + 1 + 1)) 4 5 2 4] (arS ns tok (appN J (.cells 112 (ndC x) :: M)) T) = some (.list 5 (.own (lenN T)) 0 ([l0, l1].map enc), arS ns tok (appN J (.cells 112 (ndC x) :: M)) (appN T [2])) := by
  have e : ∀ A : Env, rowsIn A (arS ns tok (appN J (.cells 112 (ndC x) :: M)) T) .any 5 (.slc (.box (lenN J + 1 + 1)) 4 5 2 4) = some (0, [l0, l1].map enc) := fun A => by
    subst hx hx1
    unfold rowsIn
    dsimp only
    rw [rd_box]
    rfl
  refine run_here rfl ?_
  refine frame_of Try.cfg _ (fn := Try.f121) rfl rfl ?_
  refine WApp.mk _ _ (show _ = some ((V.list 5 (.own (lenN T)) 0 ([l0, l1].map enc)), arS ns tok (appN J (.cells 112 (ndC x) :: M)) (appN T [2])) from ?_) ?_
  · unfold append
    rw [show Try.cfg.ti 25 = some { kind := .slice 24, size := 1, bytes := 24, zero := [.list 0 .tight 0 []] } from rfl]
    dsimp only
    rw [show Try.cfg.ti 24 = some Try.ti24 from rfl]
    dsimp only
    rw [show Try.ti24.size = 5 from rfl, e]
    rfl
  · rfl

theorem f121_3 (n : Nat) (l0 l1 l2 : Lv) (x : Nd) (hx : x.key.l0 = l0) (hx1 : x.key.l1 = l1) (hx2 : x.key.l2 = l2) (ns : List Nd) (tok : Tok) (J M : List Blk) (T : List Nat) :
    run Try.cfg (n + 1) (.f 121) [.slc (.box (lenN J + 1 + 1)) 4 5 3 4] (arS ns tok (appN J (.cells 112 (ndC x) :: M)) T) = some (.list 5 (.own (lenN T)) 0 ([l0, l1, l2].map enc), arS ns tok (appN J (.cells 112 (ndC x) :: M)) (appN T [3])) := by
  have e : ∀ A : Env, rowsIn A (arS ns tok (appN J (.cells 112 (ndC x) :: M)) T) .any 5 (.slc (.box (lenN J + 1 + 1)) 4 5 3 4) = some (0, [l0, l1, l2].map enc) := fun A => by
    subst hx hx1 hx2
    unfold rowsIn
    dsimp only
    rw [rd_box]
    rfl
  refine run_here rfl ?_
  refine frame_of Try.cfg _ (fn := Try.f121) rfl rfl ?_
  refine WApp.mk _ _ (show _ = some ((V.list 5 (.own (lenN T)) 0 ([l0, l1, l2].map enc)), arS ns tok (appN J (.cells 112 (ndC x) :: M)) (appN T [3])) from ?_) ?_
  · unfold append
    rw [show Try.cfg.ti 25 = some { kind := .slice 24, size := 1, bytes := 24, zero := [.list 0 .tight 0 []] } from rfl]
    dsimp only
    rw [show Try.cfg.ti 24 = some Try.ti24 from rfl]
    dsimp only
    rw [show Try.ti24.size = 5 from rfl, e]
    rfl
  · rfl

theorem f121_4 (n : Nat) (l0 l1 l2 l3 : Lv) (x : Nd) (hx : x.key.l0 = l0) (hx1 : x.key.l1 = l1) (hx2 : x.key.l2 = l2) (hx3 : x.key.l3 = l3) (ns : List Nd) (tok : Tok) (J M : List Blk) (T : List Nat) :
    run Try.cfg (n + 1) (.f 121) [.slc (.box (lenN J + 1 + 1)) 4 5 4 4] (arS ns tok (appN J (.cells 112 (ndC x) :: M)) T) = some (.list 5 (.own (lenN T)) 0 ([l0, l1, l2, l3].map enc), arS ns tok (appN J (.cells 112 (ndC x) :: M)) (appN T [4])) := by
  have e : ∀ A : Env, rowsIn A (arS ns tok (appN J (.cells 112 (ndC x) :: M)) T) .any 5 (.slc (.box (lenN J + 1 + 1)) 4 5 4 4) = some (0, [l0, l1, l2, l3].map enc) := fun A => by
    subst hx hx1 hx2 hx3
    unfold rowsIn
    dsimp only
    rw [rd_box]
    rfl
  refine run_here rfl ?_
  refine frame_of Try.cfg _ (fn := Try.f121) rfl rfl ?_
  refine WApp.mk _ _ (show _ = some ((V.list 5 (.own (lenN T)) 0 ([l0, l1, l2, l3].map enc)), arS ns tok (appN J (.cells 112 (ndC x) :: M)) (appN T [4])) from ?_) ?_
  · unfold append
    rw [show Try.cfg.ti 25 = some { kind := .slice 24, size := 1, bytes := 24, zero := [.list 0 .tight 0 []] } from rfl]
    dsimp only
    rw [show Try.cfg.ti 24 = some Try.ti24 from rfl]
    dsimp only
    rw [show Try.ti24.size = 5 from rfl, e]
    rfl
  · rfl

theorem get_0_0 (n : Nat) (k nn : Int) (s : List UInt8) (fa fb fc fd : Bool) (ns : List Nd) (tok : Tok) (i : Nat) (sz dp fr : Int) (hnd : ns[i]? = some (⟨kyOf (.mk k nn s fa fb fc fd [] []) 0 0 0, 0, sz, dp, fr⟩ : Nd)) : Gets (n + 6) (.mk k nn s fa fb fc fd [] []) i ns tok := by
  intro J T
  have g0 := GrowsT.start (α := Tm) T
  have key : ∃ r, frame Try.cfg (run Try.cfg (n + 5)) (n + 5) 98 [.ptr (.box 1) 0, .int .i64 (.ofNat i)] (arS ns tok J T) = some r ∧
      ∃ J' T' tl tt, ExtT T T' ∧ strTok tl = tkOf (gt (.mk k nn s fa fb fc fd [] [])).b ∧ strTok tt = tkOf (gt (.mk k nn s fa fb fc fd [] [])).d ∧ r = (.agg (cells2 (gt (.mk k nn s fa fb fc fd [] [])) tl tt), arS ns tok (appN J J') T') := by
    refine frame_some (fn := Try.f98) rfl rfl ?_
    refine WOut.mk _ rfl ?_
    refine WOut.mk _ (index105 hnd) ?_
    refine WOut.mk _ rfl ?_
    refine WSto.mk _ _ (st_box rfl rfl) ?_
    refine WOut.mk _ (ld_box (M := []) rfl rfl rfl rfl) ?_
    refine WOut.mk _ (ld_box (M := []) rfl rfl rfl rfl) ?_
    refine WOut.mk _ (ld_box (M := []) rfl rfl rfl rfl) ?_
    refine WSto.mk _ _ rfl ?_
    refine WOut.mk _ (ld_box (M := []) rfl rfl rfl rfl) ?_
    refine WCmp.no rfl ?_
    refine WOut.mk _ (ld_box (M := []) rfl rfl rfl rfl) ?_
    refine WCode.round (nt := 58) (fx := []) ?_
    refine WCmp.no rfl ?_
    refine WOut.mk _ rfl ?_
    refine WSto.mk _ _ rfl ?_
    exact ⟨_, rfl, .cells 112 (ndC (⟨kyOf (.mk k nn s fa fb fc fd [] []) 0 0 0, 0, sz, dp, fr⟩ : Nd)) :: [], T, .tight, .tight, (ExtT.refl T), rfl, rfl, rfl⟩
  obtain ⟨r, h1, J', T', tl, tt, h2, h3, h4, rfl⟩ := key
  exact ⟨J', T', tl, tt, h2, h3, h4, run_here rfl h1⟩

theorem get_0_1 (n : Nat) (k nn : Int) (s : List UInt8) (fa fb fc fd : Bool) (x0 : Tm) (ns : List Nd) (tok : Tok) (i : Nat) (i0 : Nat) (ih0 : Gets (n + 5) x0 i0 ns tok) (sz dp fr : Int) (hnd : ns[i]? = some (⟨kyOf (.mk k nn s fa fb fc fd [] [x0]) (.ofNat i0) 0 0, 1, sz, dp, fr⟩ : Nd)) : Gets (n + 6) (.mk k nn s fa fb fc fd [] [x0]) i ns tok := by
  intro J T
  have g0 := GrowsT.start (α := Tm) T
  obtain ⟨J0, T0, tl0, tt0, x0E, p0, q0, r0⟩ := ih0 (appN J (.cells 112 (ndC (⟨kyOf (.mk k nn s fa fb fc fd [] [x0]) (.ofNat i0) 0 0, 1, sz, dp, fr⟩ : Nd)) :: [])) T
  rw [appN_assoc] at r0
  have r0' : run Try.cfg (n + 5) (.f 98) [.ptr (.box 1) 0, .int .i64 (.ofNat i0)] (arS ns tok (appN J (.cells 112 (ndC (⟨kyOf (.mk k nn s fa fb fc fd [] [x0]) (.ofNat i0) 0 0, 1, sz, dp, fr⟩ : Nd)) :: [])) T) = some (.agg (cells2 (gt x0) tl0 tt0), arS ns tok (appN J (.cells 112 (ndC (⟨kyOf (.mk k nn s fa fb fc fd [] [x0]) (.ofNat i0) 0 0, 1, sz, dp, fr⟩ : Nd)) :: J0)) T0) := r0
  obtain ⟨U0, tk0, a0, g1⟩ := app44' (A := { nt := 0, tmps := [], locs := [], fix := [] }) (H := (arS ns tok (appN J (.cells 112 (ndC (⟨kyOf (.mk k nn s fa fb fc fd [] [x0]) (.ofNat i0) 0 0, 1, sz, dp, fr⟩ : Nd)) :: J0)) T0).heap) (ac := ⟨false, none, true⟩) rfl (g0.ext x0E) (by simp) (strip_enc2 (gt x0) tl0 tt0 p0 q0)
  have key : ∃ r, frame Try.cfg (run Try.cfg (n + 5)) (n + 5) 98 [.ptr (.box 1) 0, .int .i64 (.ofNat i)] (arS ns tok J T) = some r ∧
      ∃ J' T' tl tt, ExtT T T' ∧ strTok tl = tkOf (gt (.mk k nn s fa fb fc fd [] [x0])).b ∧ strTok tt = tkOf (gt (.mk k nn s fa fb fc fd [] [x0])).d ∧ r = (.agg (cells2 (gt (.mk k nn s fa fb fc fd [] [x0])) tl tt), arS ns tok (appN J J') T') := by
    refine frame_some (fn := Try.f98) rfl rfl ?_
    refine WOut.mk _ rfl ?_
    refine WOut.mk _ (index105 hnd) ?_
    refine WOut.mk _ rfl ?_
    refine WSto.mk _ _ (st_box rfl rfl) ?_
    refine WOut.mk _ (ld_box (M := []) rfl rfl rfl rfl) ?_
    refine WOut.mk _ (ld_box (M := []) rfl rfl rfl rfl) ?_
    refine WOut.mk _ (ld_box (M := []) rfl rfl rfl rfl) ?_
    refine WSto.mk _ _ rfl ?_
    refine WOut.mk _ (ld_box (M := []) rfl rfl rfl rfl) ?_
    refine WCmp.no rfl ?_
    refine WOut.mk _ (ld_box (M := []) rfl rfl rfl rfl) ?_
    refine WCode.round (nt := 58) (fx := []) ?_
    refine WCmp.yes rfl ?_
    refine WOut.mk _ rfl ?_
    refine WOut.mk _ (ld_box (M := []) rfl rfl rfl rfl) ?_
    refine WOut.mk _ rfl ?_
    refine WCall.mk _ _ r0' ?_
    refine WApp.mk _ _ ((append_env rfl).trans a0) ?_
    refine WSto.mk _ _ rfl ?_
    refine WOut.mk _ rfl ?_
    refine WCode.round (nt := 58) (fx := []) ?_
    refine WCmp.no rfl ?_
    refine WOut.mk _ rfl ?_
    refine WSto.mk _ _ rfl ?_
    exact ⟨_, rfl, .cells 112 (ndC (⟨kyOf (.mk k nn s fa fb fc fd [] [x0]) (.ofNat i0) 0 0, 1, sz, dp, fr⟩ : Nd)) :: J0, U0, .tight, tk0, g1.1, rfl, g1.strTok, rfl⟩
  obtain ⟨r, h1, J', T', tl, tt, h2, h3, h4, rfl⟩ := key
  exact ⟨J', T', tl, tt, h2, h3, h4, run_here rfl h1⟩

theorem get_0_2 (n : Nat) (k nn : Int) (s : List UInt8) (fa fb fc fd : Bool) (x0 x1 : Tm) (ns : List Nd) (tok : Tok) (i : Nat) (i0 : Nat) (ih0 : Gets (n + 5) x0 i0 ns tok) (i1 : Nat) (ih1 : Gets (n + 5) x1 i1 ns tok) (sz dp fr : Int) (hnd : ns[i]? = some (⟨kyOf (.mk k nn s fa fb fc fd [] [x0, x1]) (.ofNat i0) (.ofNat i1) 0, 2, sz, dp, fr⟩ : Nd)) : Gets (n + 6) (.mk k nn s fa fb fc fd [] [x0, x1]) i ns tok := by
  intro J T
  have g0 := GrowsT.start (α := Tm) T
  obtain ⟨J0, T0, tl0, tt0, x0E, p0, q0, r0⟩ := ih0 (appN J (.cells 112 (ndC (⟨kyOf (.mk k nn s fa fb fc fd [] [x0, x1]) (.ofNat i0) (.ofNat i1) 0, 2, sz, dp, fr⟩ : Nd)) :: [])) T
  rw [appN_assoc] at r0
  have r0' : run Try.cfg (n + 5) (.f 98) [.ptr (.box 1) 0, .int .i64 (.ofNat i0)] (arS ns tok (appN J (.cells 112 (ndC (⟨kyOf (.mk k nn s fa fb fc fd [] [x0, x1]) (.ofNat i0) (.ofNat i1) 0, 2, sz, dp, fr⟩ : Nd)) :: [])) T) = some (.agg (cells2 (gt x0) tl0 tt0), arS ns tok (appN J (.cells 112 (ndC (⟨kyOf (.mk k nn s fa fb fc fd [] [x0, x1]) (.ofNat i0) (.ofNat i1) 0, 2, sz, dp, fr⟩ : Nd)) :: J0)) T0) := r0
  obtain ⟨U0, tk0, a0, g1⟩ := app44' (A := { nt := 0, tmps := [], locs := [], fix := [] }) (H := (arS ns tok (appN J (.cells 112 (ndC (⟨kyOf (.mk k nn s fa fb fc fd [] [x0, x1]) (.ofNat i0) (.ofNat i1) 0, 2, sz, dp, fr⟩ : Nd)) :: J0)) T0).heap) (ac := ⟨false, none, true⟩) rfl (g0.ext x0E) (by simp) (strip_enc2 (gt x0) tl0 tt0 p0 q0)
  obtain ⟨J1, T1, tl1, tt1, x1E, p1, q1, r1⟩ := ih1 (appN J (.cells 112 (ndC (⟨kyOf (.mk k nn s fa fb fc fd [] [x0, x1]) (.ofNat i0) (.ofNat i1) 0, 2, sz, dp, fr⟩ : Nd)) :: J0)) U0
  rw [appN_assoc] at r1
  have r1' : run Try.cfg (n + 5) (.f 98) [.ptr (.box 1) 0, .int .i64 (.ofNat i1)] (arS ns tok (appN J (.cells 112 (ndC (⟨kyOf (.mk k nn s fa fb fc fd [] [x0, x1]) (.ofNat i0) (.ofNat i1) 0, 2, sz, dp, fr⟩ : Nd)) :: J0)) U0) = some (.agg (cells2 (gt x1) tl1 tt1), arS ns tok (appN J (.cells 112 (ndC (⟨kyOf (.mk k nn s fa fb fc fd [] [x0, x1]) (.ofNat i0) (.ofNat i1) 0, 2, sz, dp, fr⟩ : Nd)) :: (appN J0 J1))) T1) := r1
  obtain ⟨U1, tk1, a1, g2⟩ := app44' (A := { nt := 0, tmps := [], locs := [], fix := [] }) (H := (arS ns tok (appN J (.cells 112 (ndC (⟨kyOf (.mk k nn s fa fb fc fd [] [x0, x1]) (.ofNat i0) (.ofNat i1) 0, 2, sz, dp, fr⟩ : Nd)) :: (appN J0 J1))) T1).heap) (ac := ⟨false, none, true⟩) rfl (g1.ext x1E) (by simp) (strip_enc2 (gt x1) tl1 tt1 p1 q1)
  have key : ∃ r, frame Try.cfg (run Try.cfg (n + 5)) (n + 5) 98 [.ptr (.box 1) 0, .int .i64 (.ofNat i)] (arS ns tok J T) = some r ∧
      ∃ J' T' tl tt, ExtT T T' ∧ strTok tl = tkOf (gt (.mk k nn s fa fb fc fd [] [x0, x1])).b ∧ strTok tt = tkOf (gt (.mk k nn s fa fb fc fd [] [x0, x1])).d ∧ r = (.agg (cells2 (gt (.mk k nn s fa fb fc fd [] [x0, x1])) tl tt), arS ns tok (appN J J') T') := by
    refine frame_some (fn := Try.f98) rfl rfl ?_
    refine WOut.mk _ rfl ?_
    refine WOut.mk _ (index105 hnd) ?_
    refine WOut.mk _ rfl ?_
    refine WSto.mk _ _ (st_box rfl rfl) ?_
    refine WOut.mk _ (ld_box (M := []) rfl rfl rfl rfl) ?_
    refine WOut.mk _ (ld_box (M := []) rfl rfl rfl rfl) ?_
    refine WOut.mk _ (ld_box (M := []) rfl rfl rfl rfl) ?_
    refine WSto.mk _ _ rfl ?_
    refine WOut.mk _ (ld_box (M := []) rfl rfl rfl rfl) ?_
    refine WCmp.no rfl ?_
    refine WOut.mk _ (ld_box (M := []) rfl rfl rfl rfl) ?_
    refine WCode.round (nt := 58) (fx := []) ?_
    refine WCmp.yes rfl ?_
    refine WOut.mk _ rfl ?_
    refine WOut.mk _ (ld_box (M := []) rfl rfl rfl rfl) ?_
    refine WOut.mk _ rfl ?_
    refine WCall.mk _ _ r0' ?_
    refine WApp.mk _ _ ((append_env rfl).trans a0) ?_
    refine WSto.mk _ _ rfl ?_
    refine WOut.mk _ rfl ?_
    refine WCode.round (nt := 58) (fx := []) ?_
    refine WCmp.yes rfl ?_
    refine WOut.mk _ rfl ?_
    refine WOut.mk _ (ld_box (M := J0) rfl rfl rfl rfl) ?_
    refine WOut.mk _ rfl ?_
    refine WCall.mk _ _ r1' ?_
    refine WApp.mk _ _ ((append_env rfl).trans a1) ?_
    refine WSto.mk _ _ rfl ?_
    refine WOut.mk _ rfl ?_
    refine WCode.round (nt := 58) (fx := []) ?_
    refine WCmp.no rfl ?_
    refine WOut.mk _ rfl ?_
    refine WSto.mk _ _ rfl ?_
    exact ⟨_, rfl, .cells 112 (ndC (⟨kyOf (.mk k nn s fa fb fc fd [] [x0, x1]) (.ofNat i0) (.ofNat i1) 0, 2, sz, dp, fr⟩ : Nd)) :: (appN J0 J1), U1, .tight, tk1, g2.1, rfl, g2.strTok, rfl⟩
  obtain ⟨r, h1, J', T', tl, tt, h2, h3, h4, rfl⟩ := key
  exact ⟨J', T', tl, tt, h2, h3, h4, run_here rfl h1⟩

theorem get_0_3 (n : Nat) (k nn : Int) (s : List UInt8) (fa fb fc fd : Bool) (x0 x1 x2 : Tm) (ns : List Nd) (tok : Tok) (i : Nat) (i0 : Nat) (ih0 : Gets (n + 5) x0 i0 ns tok) (i1 : Nat) (ih1 : Gets (n + 5) x1 i1 ns tok) (i2 : Nat) (ih2 : Gets (n + 5) x2 i2 ns tok) (sz dp fr : Int) (hnd : ns[i]? = some (⟨kyOf (.mk k nn s fa fb fc fd [] [x0, x1, x2]) (.ofNat i0) (.ofNat i1) (.ofNat i2), 3, sz, dp, fr⟩ : Nd)) : Gets (n + 6) (.mk k nn s fa fb fc fd [] [x0, x1, x2]) i ns tok := by
  intro J T
  have g0 := GrowsT.start (α := Tm) T
  obtain ⟨J0, T0, tl0, tt0, x0E, p0, q0, r0⟩ := ih0 (appN J (.cells 112 (ndC (⟨kyOf (.mk k nn s fa fb fc fd [] [x0, x1, x2]) (.ofNat i0) (.ofNat i1) (.ofNat i2), 3, sz, dp, fr⟩ : Nd)) :: [])) T
  rw [appN_assoc] at r0
  have r0' : run Try.cfg (n + 5) (.f 98) [.ptr (.box 1) 0, .int .i64 (.ofNat i0)] (arS ns tok (appN J (.cells 112 (ndC (⟨kyOf (.mk k nn s fa fb fc fd [] [x0, x1, x2]) (.ofNat i0) (.ofNat i1) (.ofNat i2), 3, sz, dp, fr⟩ : Nd)) :: [])) T) = some (.agg (cells2 (gt x0) tl0 tt0), arS ns tok (appN J (.cells 112 (ndC (⟨kyOf (.mk k nn s fa fb fc fd [] [x0, x1, x2]) (.ofNat i0) (.ofNat i1) (.ofNat i2), 3, sz, dp, fr⟩ : Nd)) :: J0)) T0) := r0
  obtain ⟨U0, tk0, a0, g1⟩ := app44' (A := { nt := 0, tmps := [], locs := [], fix := [] }) (H := (arS ns tok (appN J (.cells 112 (ndC (⟨kyOf (.mk k nn s fa fb fc fd [] [x0, x1, x2]) (.ofNat i0) (.ofNat i1) (.ofNat i2), 3, sz, dp, fr⟩ : Nd)) :: J0)) T0).heap) (ac := ⟨false, none, true⟩) rfl (g0.ext x0E) (by simp) (strip_enc2 (gt x0) tl0 tt0 p0 q0)
  obtain ⟨J1, T1, tl1, tt1, x1E, p1, q1, r1⟩ := ih1 (appN J (.cells 112 (ndC (⟨kyOf (.mk k nn s fa fb fc fd [] [x0, x1, x2]) (.ofNat i0) (.ofNat i1) (.ofNat i2), 3, sz, dp, fr⟩ : Nd)) :: J0)) U0
  rw [appN_assoc] at r1
  have r1' : run Try.cfg (n + 5) (.f 98) [.ptr (.box 1) 0, .int .i64 (.ofNat i1)] (arS ns tok (appN J (.cells 112 (ndC (⟨kyOf (.mk k nn s fa fb fc fd [] [x0, x1, x2]) (.ofNat i0) (.ofNat i1) (.ofNat i2), 3, sz, dp, fr⟩ : Nd)) :: J0)) U0) = some (.agg (cells2 (gt x1) tl1 tt1), arS ns tok (appN J (.cells 112 (ndC (⟨kyOf (.mk k nn s fa fb fc fd [] [x0, x1, x2]) (.ofNat i0) (.ofNat i1) (.ofNat i2), 3, sz, dp, fr⟩ : Nd)) :: (appN J0 J1))) T1) := r1
  obtain ⟨U1, tk1, a1, g2⟩ := app44' (A := { nt := 0, tmps := [], locs := [], fix := [] }) (H := (arS ns tok (appN J (.cells 112 (ndC (⟨kyOf (.mk k nn s fa fb fc fd [] [x0, x1, x2]) (.ofNat i0) (.ofNat i1) (.ofNat i2), 3, sz, dp, fr⟩ : Nd)) :: (appN J0 J1))) T1).heap) (ac := ⟨false, none, true⟩) rfl (g1.ext x1E) (by simp) (strip_enc2 (gt x1) tl1 tt1 p1 q1)
  obtain ⟨J2, T2, tl2, tt2, x2E, p2, q2, r2⟩ := ih2 (appN J (.cells 112 (ndC (⟨kyOf (.mk k nn s fa fb fc fd [] [x0, x1, x2]) (.ofNat i0) (.ofNat i1) (.ofNat i2), 3, sz, dp, fr⟩ : Nd)) :: (appN J0 J1))) U1
  rw [appN_assoc] at r2
  have r2' : run Try.cfg (n + 5) (.f 98) [.ptr (.box 1) 0, .int .i64 (.ofNat i2)] (arS ns tok (appN J (.cells 112 (ndC (⟨kyOf (.mk k nn s fa fb fc fd [] [x0, x1, x2]) (.ofNat i0) (.ofNat i1) (.ofNat i2), 3, sz, dp, fr⟩ : Nd)) :: (appN J0 J1))) U1) = some (.agg (cells2 (gt x2) tl2 tt2), arS ns tok (appN J (.cells 112 (ndC (⟨kyOf (.mk k nn s fa fb fc fd [] [x0, x1, x2]) (.ofNat i0) (.ofNat i1) (.ofNat i2), 3, sz, dp, fr⟩ : Nd)) :: (appN (appN J0 J1) J2))) T2) := r2
  obtain ⟨U2, tk2, a2, g3⟩ := app44' (A := { nt := 0, tmps := [], locs := [], fix := [] }) (H := (arS ns tok (appN J (.cells 112 (ndC (⟨kyOf (.mk k nn s fa fb fc fd [] [x0, x1, x2]) (.ofNat i0) (.ofNat i1) (.ofNat i2), 3, sz, dp, fr⟩ : Nd)) :: (appN (appN J0 J1) J2))) T2).heap) (ac := ⟨false, none, true⟩) rfl (g2.ext x2E) (by simp) (strip_enc2 (gt x2) tl2 tt2 p2 q2)
  have key : ∃ r, frame Try.cfg (run Try.cfg (n + 5)) (n + 5) 98 [.ptr (.box 1) 0, .int .i64 (.ofNat i)] (arS ns tok J T) = some r ∧
      ∃ J' T' tl tt, ExtT T T' ∧ strTok tl = tkOf (gt (.mk k nn s fa fb fc fd [] [x0, x1, x2])).b ∧ strTok tt = tkOf (gt (.mk k nn s fa fb fc fd [] [x0, x1, x2])).d ∧ r = (.agg (cells2 (gt (.mk k nn s fa fb fc fd [] [x0, x1, x2])) tl tt), arS ns tok (appN J J') T') := by
    refine frame_some (fn := Try.f98) rfl rfl ?_
    refine WOut.mk _ rfl ?_
    refine WOut.mk _ (index105 hnd) ?_
    refine WOut.mk _ rfl ?_
    refine WSto.mk _ _ (st_box rfl rfl) ?_
    refine WOut.mk _ (ld_box (M := []) rfl rfl rfl rfl) ?_
    refine WOut.mk _ (ld_box (M := []) rfl rfl rfl rfl) ?_
    refine WOut.mk _ (ld_box (M := []) rfl rfl rfl rfl) ?_
    refine WSto.mk _ _ rfl ?_
    refine WOut.mk _ (ld_box (M := []) rfl rfl rfl rfl) ?_
    refine WCmp.no rfl ?_
    refine WOut.mk _ (ld_box (M := []) rfl rfl rfl rfl) ?_
    refine WCode.round (nt := 58) (fx := []) ?_
    refine WCmp.yes rfl ?_
    refine WOut.mk _ rfl ?_
    refine WOut.mk _ (ld_box (M := []) rfl rfl rfl rfl) ?_
    refine WOut.mk _ rfl ?_
    refine WCall.mk _ _ r0' ?_
    refine WApp.mk _ _ ((append_env rfl).trans a0) ?_
    refine WSto.mk _ _ rfl ?_
    refine WOut.mk _ rfl ?_
    refine WCode.round (nt := 58) (fx := []) ?_
    refine WCmp.yes rfl ?_
    refine WOut.mk _ rfl ?_
    refine WOut.mk _ (ld_box (M := J0) rfl rfl rfl rfl) ?_
    refine WOut.mk _ rfl ?_
    refine WCall.mk _ _ r1' ?_
    refine WApp.mk _ _ ((append_env rfl).trans a1) ?_
    refine WSto.mk _ _ rfl ?_
    refine WOut.mk _ rfl ?_
    refine WCode.round (nt := 58) (fx := []) ?_
    refine WCmp.yes rfl ?_
    refine WOut.mk _ rfl ?_
    refine WOut.mk _ (ld_box (M := (appN J0 J1)) rfl rfl rfl rfl) ?_
    refine WOut.mk _ rfl ?_
    refine WCall.mk _ _ r2' ?_
    refine WApp.mk _ _ ((append_env rfl).trans a2) ?_
    refine WSto.mk _ _ rfl ?_
    refine WOut.mk _ rfl ?_
    refine WCode.round (nt := 58) (fx := []) ?_
    refine WCmp.no rfl ?_
    refine WOut.mk _ rfl ?_
    refine WSto.mk _ _ rfl ?_
    exact ⟨_, rfl, .cells 112 (ndC (⟨kyOf (.mk k nn s fa fb fc fd [] [x0, x1, x2]) (.ofNat i0) (.ofNat i1) (.ofNat i2), 3, sz, dp, fr⟩ : Nd)) :: (appN (appN J0 J1) J2), U2, .tight, tk2, g3.1, rfl, g3.strTok, rfl⟩
  obtain ⟨r, h1, J', T', tl, tt, h2, h3, h4, rfl⟩ := key
  exact ⟨J', T', tl, tt, h2, h3, h4, run_here rfl h1⟩

theorem get_1_0 (n : Nat) (k nn : Int) (s : List UInt8) (fa fb fc fd : Bool) (l0 : Lv) (ns : List Nd) (tok : Tok) (i : Nat) (sz dp fr : Int) (hnd : ns[i]? = some (⟨kyOf (.mk k nn s fa fb fc fd [l0] []) 0 0 0, 0, sz, dp, fr⟩ : Nd)) : Gets (n + 6) (.mk k nn s fa fb fc fd [l0] []) i ns tok := by
  intro J T
  have h121 := f121_1 (n + 4) l0 (⟨kyOf (.mk k nn s fa fb fc fd [l0] []) 0 0 0, 0, sz, dp, fr⟩ : Nd) rfl  ns tok J [] T
  have g0 := GrowsT.start (α := Tm) (appN T [1])
  have key : ∃ r, frame Try.cfg (run Try.cfg (n + 5)) (n + 5) 98 [.ptr (.box 1) 0, .int .i64 (.ofNat i)] (arS ns tok J T) = some r ∧
      ∃ J' T' tl tt, ExtT T T' ∧ strTok tl = tkOf (gt (.mk k nn s fa fb fc fd [l0] [])).b ∧ strTok tt = tkOf (gt (.mk k nn s fa fb fc fd [l0] [])).d ∧ r = (.agg (cells2 (gt (.mk k nn s fa fb fc fd [l0] [])) tl tt), arS ns tok (appN J J') T') := by
    refine frame_some (fn := Try.f98) rfl rfl ?_
    refine WOut.mk _ rfl ?_
    refine WOut.mk _ (index105 hnd) ?_
    refine WOut.mk _ rfl ?_
    refine WSto.mk _ _ (st_box rfl rfl) ?_
    refine WOut.mk _ (ld_box (M := []) rfl rfl rfl rfl) ?_
    refine WOut.mk _ (ld_box (M := []) rfl rfl rfl rfl) ?_
    refine WOut.mk _ (ld_box (M := []) rfl rfl rfl rfl) ?_
    refine WSto.mk _ _ rfl ?_
    refine WOut.mk _ (ld_box (M := []) rfl rfl rfl rfl) ?_
    refine WCmp.yes rfl ?_
    refine WOut.mk _ (ld_box (M := []) rfl rfl rfl rfl) ?_
    refine WCall.mk _ _ h121 ?_
    refine WSto.mk _ _ rfl ?_
    refine WOut.mk _ (ld_box (M := []) rfl rfl rfl rfl) ?_
    refine WCode.round (nt := 58) (fx := []) ?_
    refine WCmp.no rfl ?_
    refine WOut.mk _ rfl ?_
    refine WSto.mk _ _ rfl ?_
    exact ⟨_, rfl, .cells 112 (ndC (⟨kyOf (.mk k nn s fa fb fc fd [l0] []) 0 0 0, 0, sz, dp, fr⟩ : Nd)) :: [], (appN T [1]), (.own (lenN T)), .tight, (ext_app T 1), rfl, rfl, rfl⟩
  obtain ⟨r, h1, J', T', tl, tt, h2, h3, h4, rfl⟩ := key
  exact ⟨J', T', tl, tt, h2, h3, h4, run_here rfl h1⟩

theorem get_2_0 (n : Nat) (k nn : Int) (s : List UInt8) (fa fb fc fd : Bool) (l0 l1 : Lv) (ns : List Nd) (tok : Tok) (i : Nat) (sz dp fr : Int) (hnd : ns[i]? = some (⟨kyOf (.mk k nn s fa fb fc fd [l0, l1] []) 0 0 0, 0, sz, dp, fr⟩ : Nd)) : Gets (n + 6) (.mk k nn s fa fb fc fd [l0, l1] []) i ns tok := by
  intro J T
  have h121 := f121_2 (n + 4) l0 l1 (⟨kyOf (.mk k nn s fa fb fc fd [l0, l1] []) 0 0 0, 0, sz, dp, fr⟩ : Nd) rfl rfl ns tok J [] T
  have g0 := GrowsT.start (α := Tm) (appN T [2])
  have key : ∃ r, frame Try.cfg (run Try.cfg (n + 5)) (n + 5) 98 [.ptr (.box 1) 0, .int .i64 (.ofNat i)] (arS ns tok J T) = some r ∧
      ∃ J' T' tl tt, ExtT T T' ∧ strTok tl = tkOf (gt (.mk k nn s fa fb fc fd [l0, l1] [])).b ∧ strTok tt = tkOf (gt (.mk k nn s fa fb fc fd [l0, l1] [])).d ∧ r = (.agg (cells2 (gt (.mk k nn s fa fb fc fd [l0, l1] [])) tl tt), arS ns tok (appN J J') T') := by
    refine frame_some (fn := Try.f98) rfl rfl ?_
    refine WOut.mk _ rfl ?_
    refine WOut.mk _ (index105 hnd) ?_
    refine WOut.mk _ rfl ?_
    refine WSto.mk _ _ (st_box rfl rfl) ?_
    refine WOut.mk _ (ld_box (M := []) rfl rfl rfl rfl) ?_
    refine WOut.mk _ (ld_box (M := []) rfl rfl rfl rfl) ?_
    refine WOut.mk _ (ld_box (M := []) rfl rfl rfl rfl) ?_
    refine WSto.mk _ _ rfl ?_
    refine WOut.mk _ (ld_box (M := []) rfl rfl rfl rfl) ?_
    refine WCmp.yes rfl ?_
    refine WOut.mk _ (ld_box (M := []) rfl rfl rfl rfl) ?_
    refine WCall.mk _ _ h121 ?_
    refine WSto.mk _ _ rfl ?_
    refine WOut.mk _ (ld_box (M := []) rfl rfl rfl rfl) ?_
    refine WCode.round (nt := 58) (fx := []) ?_
    refine WCmp.no rfl ?_
    refine WOut.mk _ rfl ?_
    refine WSto.mk _ _ rfl ?_
    exact ⟨_, rfl, .cells 112 (ndC (⟨kyOf (.mk k nn s fa fb fc fd [l0, l1] []) 0 0 0, 0, sz, dp, fr⟩ : Nd)) :: [], (appN T [2]), (.own (lenN T)), .tight, (ext_app T 2), rfl, rfl, rfl⟩
  obtain ⟨r, h1, J', T', tl, tt, h2, h3, h4, rfl⟩ := key
  exact ⟨J', T', tl, tt, h2, h3, h4, run_here rfl h1⟩

theorem get_3_0 (n : Nat) (k nn : Int) (s : List UInt8) (fa fb fc fd : Bool) (l0 l1 l2 : Lv) (ns : List Nd) (tok : Tok) (i : Nat) (sz dp fr : Int) (hnd : ns[i]? = some (⟨kyOf (.mk k nn s fa fb fc fd [l0, l1, l2] []) 0 0 0, 0, sz, dp, fr⟩ : Nd)) : Gets (n + 6) (.mk k nn s fa fb fc fd [l0, l1, l2] []) i ns tok := by
  intro J T
  have h121 := f121_3 (n + 4) l0 l1 l2 (⟨kyOf (.mk k nn s fa fb fc fd [l0, l1, l2] []) 0 0 0, 0, sz, dp, fr⟩ : Nd) rfl rfl rfl ns tok J [] T
  have g0 := GrowsT.start (α := Tm) (appN T [3])
  have key : ∃ r, frame Try.cfg (run Try.cfg (n + 5)) (n + 5) 98 [.ptr (.box 1) 0, .int .i64 (.ofNat i)] (arS ns tok J T) = some r ∧
      ∃ J' T' tl tt, ExtT T T' ∧ strTok tl = tkOf (gt (.mk k nn s fa fb fc fd [l0, l1, l2] [])).b ∧ strTok tt = tkOf (gt (.mk k nn s fa fb fc fd [l0, l1, l2] [])).d ∧ r = (.agg (cells2 (gt (.mk k nn s fa fb fc fd [l0, l1, l2] [])) tl tt), arS ns tok (appN J J') T') := by
    refine frame_some (fn := Try.f98) rfl rfl ?_
    refine WOut.mk _ rfl ?_
    refine WOut.mk _ (index105 hnd) ?_
    refine WOut.mk _ rfl ?_
    refine WSto.mk _ _ (st_box rfl rfl) ?_
    refine WOut.mk _ (ld_box (M := []) rfl rfl rfl rfl) ?_
    refine WOut.mk _ (ld_box (M := []) rfl rfl rfl rfl) ?_
    refine WOut.mk _ (ld_box (M := []) rfl rfl rfl rfl) ?_
    refine WSto.mk _ _ rfl ?_
    refine WOut.mk _ (ld_box (M := []) rfl rfl rfl rfl) ?_
    refine WCmp.yes rfl ?_
    refine WOut.mk _ (ld_box (M := []) rfl rfl rfl rfl) ?_
    refine WCall.mk _ _ h121 ?_
    refine WSto.mk _ _ rfl ?_
    refine WOut.mk _ (ld_box (M := []) rfl rfl rfl rfl) ?_
    refine WCode.round (nt := 58) (fx := []) ?_
    refine WCmp.no rfl ?_
    refine WOut.mk _ rfl ?_
    refine WSto.mk _ _ rfl ?_
    exact ⟨_, rfl, .cells 112 (ndC (⟨kyOf (.mk k nn s fa fb fc fd [l0, l1, l2] []) 0 0 0, 0, sz, dp, fr⟩ : Nd)) :: [], (appN T [3]), (.own (lenN T)), .tight, (ext_app T 3), rfl, rfl, rfl⟩
  obtain ⟨r, h1, J', T', tl, tt, h2, h3, h4, rfl⟩ := key
  exact ⟨J', T', tl, tt, h2, h3, h4, run_here rfl h1⟩

theorem get_4_0 (n : Nat) (k nn : Int) (s : List UInt8) (fa fb fc fd : Bool) (l0 l1 l2 l3 : Lv) (ns : List Nd) (tok : Tok) (i : Nat) (sz dp fr : Int) (hnd : ns[i]? = some (⟨kyOf (.mk k nn s fa fb fc fd [l0, l1, l2, l3] []) 0 0 0, 0, sz, dp, fr⟩ : Nd)) : Gets (n + 6) (.mk k nn s fa fb fc fd [l0, l1, l2, l3] []) i ns tok := by
  intro J T
  have h121 := f121_4 (n + 4) l0 l1 l2 l3 (⟨kyOf (.mk k nn s fa fb fc fd [l0, l1, l2, l3] []) 0 0 0, 0, sz, dp, fr⟩ : Nd) rfl rfl rfl rfl ns tok J [] T
  have g0 := GrowsT.start (α := Tm) (appN T [4])
  have key : ∃ r, frame Try.cfg (run Try.cfg (n + 5)) (n + 5) 98 [.ptr (.box 1) 0, .int .i64 (.ofNat i)] (arS ns tok J T) = some r ∧
      ∃ J' T' tl tt, ExtT T T' ∧ strTok tl = tkOf (gt (.mk k nn s fa fb fc fd [l0, l1, l2, l3] [])).b ∧ strTok tt = tkOf (gt (.mk k nn s fa fb fc fd [l0, l1, l2, l3] [])).d ∧ r = (.agg (cells2 (gt (.mk k nn s fa fb fc fd [l0, l1, l2, l3] [])) tl tt), arS ns tok (appN J J') T') := by
    refine frame_some (fn := Try.f98) rfl rfl ?_
    refine WOut.mk _ rfl ?_
    refine WOut.mk _ (index105 hnd) ?_
    refine WOut.mk _ rfl ?_
    refine WSto.mk _ _ (st_box rfl rfl) ?_
    refine WOut.mk _ (ld_box (M := []) rfl rfl rfl rfl) ?_
    refine WOut.mk _ (ld_box (M := []) rfl rfl rfl rfl) ?_
    refine WOut.mk _ (ld_box (M := []) rfl rfl rfl rfl) ?_
    refine WSto.mk _ _ rfl ?_
    refine WOut.mk _ (ld_box (M := []) rfl rfl rfl rfl) ?_
    refine WCmp.yes rfl ?_
    refine WOut.mk _ (ld_box (M := []) rfl rfl rfl rfl) ?_
    refine WCall.mk _ _ h121 ?_
    refine WSto.mk _ _ rfl ?_
    refine WOut.mk _ (ld_box (M := []) rfl rfl rfl rfl) ?_
    refine WCode.round (nt := 58) (fx := []) ?_
    refine WCmp.no rfl ?_
    refine WOut.mk _ rfl ?_
    refine WSto.mk _ _ rfl ?_
    exact ⟨_, rfl, .cells 112 (ndC (⟨kyOf (.mk k nn s fa fb fc fd [l0, l1, l2, l3] []) 0 0 0, 0, sz, dp, fr⟩ : Nd)) :: [], (appN T [4]), (.own (lenN T)), .tight, (ext_app T 4), rfl, rfl, rfl⟩
  obtain ⟨r, h1, J', T', tl, tt, h2, h3, h4, rfl⟩ := key
  exact ⟨J', T', tl, tt, h2, h3, h4, run_here rfl h1⟩

theorem node_lk {t : Tm} (h : nodeT t = true) : t.ls = [] ∨ t.ts = [] := by
  have hk := node_kids h
  have h0 := h
  unfold nodeT at h
  simp only [Bool.and_eq_true] at h
  have h1 := h.2.2
  unfold lvOk at h1
  cases h2 : iEq t.k 1 with
  | true =>
    right
    have e : kidsF t.k = 0 := by unfold kidsF; rw [h2]; rfl
    rw [e] at hk
    exact List.eq_nil_of_length_eq_zero (by simp only [Int.ofNat_eq_natCast] at hk; omega)
  | false =>
    rw [h2] at h1
    cases h3 : iEq t.k 3 with
    | true =>
      right
      have e : kidsF t.k = 0 := by unfold kidsF; rw [h2, h3]; cases iEq t.k 2 <;> rfl
      rw [e] at hk
      exact List.eq_nil_of_length_eq_zero (by simp only [Int.ofNat_eq_natCast] at hk; omega)
    | false =>
      left
      rw [h3] at h1
      have h1 : iEq (.ofNat (lenN (t.ls.map enc))) (.ofNat 0) = true := h1
      rw [iEq_nat, lenN_eq, List.length_map, decide_eq_true_eq] at h1
      exact List.eq_nil_of_length_eq_zero h1

theorem f98_ok {ns : List Nd} {tok : Tok} (hko : KO ns) : ∀ (n : Nat) (t : Tm) (i d : Nat), Dp t d → wt t < n → IsT (ns.map Nd.key) t i → Gets (n + 5) t i ns tok
  | 0, t, i, d, _, h, _ => by omega
  | n + 1, t, i, d, hd, h, hi => by
    obtain ⟨d', rfl, hp, hkd⟩ := dp_node.1 hd
    have hls := node_levels hp
    have hk := node_kids hp
    have h3 := kids3 hp
    have hlk := node_lk hp
    rw [IsT_eq] at hi
    obtain ⟨ids, h1, h2⟩ := hi
    have hl := IsTs_len h2
    have ih : ∀ j x, t.ts[j]? = some x → ∃ i', ids[j]? = some i' ∧ Gets (n + 5) x i' ns tok := fun j x hj => by
      obtain ⟨i', e1, e2⟩ := IsTs_get h2 hj
      have hm := List.mem_of_getElem? hj
      exact ⟨i', e1, f98_ok hko n x i' d' (hkd x hm) (by have := wt_kid hm; omega) e2⟩
    rw [List.getElem?_map] at h1
    obtain ⟨nd, hn, hkey⟩ : ∃ nd, ns[i]? = some nd ∧ nd.key = kyOf t (atI ids 0) (atI ids 1) (atI ids 2) := by
      cases hn : ns[i]? with
      | none => rw [hn] at h1; cases h1
      | some nd => rw [hn] at h1; exact ⟨nd, rfl, by simpa using h1⟩
    have hkk := hko nd (List.mem_of_getElem? hn)
    rw [hkey] at hkk
    have hkids : nd.kids = t.ts.length := by
      have : (Int.ofNat nd.kids) = Int.ofNat t.ts.length := hkk.trans hk.symm
      exact Int.ofNat.inj this
    obtain ⟨ky, kd, sz, dp, fr⟩ := nd
    simp only at hkey hkids
    subst hkey
    subst hkids
    obtain ⟨k, nn, s, fa, fb, fc, fd, ls, ts⟩ := t
    match ls, ts, ids, hls, h3, hlk, hl, ih, hn with
    | [], [], [], _, _, _, _, _, hn => exact get_0_0 n k nn s fa fb fc fd ns tok i sz dp fr hn
    | [], [x0], [i0], _, _, _, _, ih, hn =>
      obtain ⟨j0, e0, g0⟩ := ih 0 x0 rfl
      cases e0
      exact get_0_1 n k nn s fa fb fc fd x0 ns tok i i0 g0 sz dp fr hn
    | [], [x0, x1], [i0, i1], _, _, _, _, ih, hn =>
      obtain ⟨j0, e0, g0⟩ := ih 0 x0 rfl
      obtain ⟨j1, e1, g1⟩ := ih 1 x1 rfl
      cases e0
      cases e1
      exact get_0_2 n k nn s fa fb fc fd x0 x1 ns tok i i0 g0 i1 g1 sz dp fr hn
    | [], [x0, x1, x2], [i0, i1, i2], _, _, _, _, ih, hn =>
      obtain ⟨j0, e0, g0⟩ := ih 0 x0 rfl
      obtain ⟨j1, e1, g1⟩ := ih 1 x1 rfl
      obtain ⟨j2, e2, g2⟩ := ih 2 x2 rfl
      cases e0
      cases e1
      cases e2
      exact get_0_3 n k nn s fa fb fc fd x0 x1 x2 ns tok i i0 g0 i1 g1 i2 g2 sz dp fr hn
    | [l0], [], [], _, _, _, _, _, hn => exact get_1_0 n k nn s fa fb fc fd l0 ns tok i sz dp fr hn
    | [l0, l1], [], [], _, _, _, _, _, hn => exact get_2_0 n k nn s fa fb fc fd l0 l1 ns tok i sz dp fr hn
    | [l0, l1, l2], [], [], _, _, _, _, _, hn => exact get_3_0 n k nn s fa fb fc fd l0 l1 l2 ns tok i sz dp fr hn
    | [l0, l1, l2, l3], [], [], _, _, _, _, _, hn => exact get_4_0 n k nn s fa fb fc fd l0 l1 l2 l3 ns tok i sz dp fr hn
    | _ :: _, _ :: _, _, _, _, hlk, _, _, _ => rcases hlk with h | h <;> cases h
    | _ :: _ :: _ :: _ :: _ :: _, [], _, hls, _, _, _, _, _ => simp only [Tm.ls, List.length_cons] at hls; omega
    | _, _ :: _ :: _ :: _ :: _, _, _, h3, _, _, _, _ => simp only [Tm.ts, List.length_cons] at h3; omega

end Go.Ev

/- The arena: Put, Get; within (own work). -/
namespace Go.Ev
open Go.Proofs Go.RowKit
set_option maxRecDepth 100000
set_option linter.unusedSimpArgs false
set_option linter.unusedVariables false
set_option maxHeartbeats 1000000

/-! ### New, Put, Get -/

theorem f47_ok (n : Nat) : run Try.cfg (n + 1) (.f 47) [] St.empty = some (.ptr (.box 1) 0, arS [] .tight [] []) := by
  refine run_here rfl ?_
  refine frame_of Try.cfg _ (fn := Try.f47) rfl rfl ?_
  rfl

theorem f48_no (n : Nat) (t : Tm) (ns : List Nd) (tok : Tok) (J : List Blk) (T : List Nat) (hsm : Sm t) (hm : mayT t = false) (hw : wt t < n) :
    run Try.cfg (n + 14) (.f 48) [.ptr (.box 1) 0, encA t] (arS ns tok J T) = some (.tuple [.int .i64 0, .int .i64 1], arS ns tok J T) := by
  have h := f84_ok n t (arS ns tok J T) hsm hw
  rw [hm] at h
  refine run_here rfl ?_
  refine frame_of Try.cfg _ (fn := Try.f48) rfl rfl ?_
  refine WOut.mk _ rfl ?_
  refine WCall.mk _ _ h ?_
  rfl

theorem f48_yes (n : Nat) (t : Tm) (ns : List Nd) (tok : Tok) (J : List Blk) (T : List Nat) (hsm : Sm t) (hm : mayT t = true) (hw : wt t < n) (hg : GrowsT [] T ns tok) (hlen : ns.length + sizeT t < 200000) (hko : KO ns) :
    ∃ ns' T' tok', ns'.map Nd.key = (putK t (ns.map Nd.key)).2 ∧ KO ns' ∧ GrowsT [] T' ns' tok' ∧ Tk T tok T' tok' ∧
      run Try.cfg (n + 14) (.f 48) [.ptr (.box 1) 0, encA t] (arS ns tok J T) = some (.tuple [.int .i64 (.ofNat (putK t (ns.map Nd.key)).1), .int .i64 0], arS ns' tok' J T') := by
  have h := f84_ok n t (arS ns tok J T) hsm hw
  rw [hm] at h
  obtain ⟨ns', T', tok', e1, e2, e3, e4, e5⟩ := f96_ok (n + 3) t 4096 (may_dp hm) (by omega) ns tok J T hg hlen hko
  refine ⟨ns', T', tok', e1, e2, e3, e4, ?_⟩
  refine run_here rfl ?_
  refine frame_of Try.cfg _ (fn := Try.f48) rfl rfl ?_
  refine WOut.mk _ rfl ?_
  refine WCall.mk _ _ h ?_
  refine WCall.mk _ _ e5 ?_
  refine WCmp.no rfl ?_
  rfl

theorem f97_there (m : Nat) (ns : List Nd) (tok : Tok) (J : List Blk) (T : List Nat) (i : Nat) (hi : i < ns.length) : run Try.cfg (m + 1) (.f 97) [.ptr (.box 1) 0, .int .i64 (.ofNat i)] (arS ns tok J T) = some (.int .i64 0, arS ns tok J T) := by
  have h := f97_ok m ns tok J T (.ofNat i)
  have e1 : iLt (.ofNat i) 0 = false := by rw [iLt_not]; simp only [Int.ofNat_eq_natCast]; omega
  have e2 : iLt (.ofNat i) (.ofNat (lenN (ns.map ndV))) = true := by rw [nds_len]; exact blt_yes hi
  rw [e1, e2] at h
  exact h

theorem f51_ok (n : Nat) (t : Tm) (i d : Nat) (ns : List Nd) (tok : Tok) (J : List Blk) (T : List Nat) (hko : KO ns) (hd : Dp t d) (hw : wt t < n) (hi : IsT (ns.map Nd.key) t i) :
    ∃ J' T' tl tt, ExtT T T' ∧ strTok tl = tkOf (gt t).b ∧ strTok tt = tkOf (gt t).d ∧
      run Try.cfg (n + 6) (.f 51) [.ptr (.box 1) 0, .int .i64 (.ofNat i)] (arS ns tok J T) = some (.tuple [.agg (cells2 (gt t) tl tt), .int .i64 0], arS ns tok (appN J J') T') := by
  obtain ⟨J', T', tl, tt, e1, e2, e3, e4⟩ := f98_ok (tok := tok) hko n t i d hd hw hi J T
  have hl : i < ns.length := by
    rw [IsT_eq] at hi
    obtain ⟨ids, h1, _⟩ := hi
    have := (List.getElem?_eq_some_iff.1 h1).1
    rwa [List.length_map] at this
  refine ⟨J', T', tl, tt, e1, e2, e3, ?_⟩
  refine run_here rfl ?_
  refine frame_of Try.cfg _ (fn := Try.f51) rfl rfl ?_
  refine WCall.mk _ _ (f97_there (n + 4) ns tok J T i hl) ?_
  refine WCmp.no rfl ?_
  refine WCall.mk _ _ e4 ?_
  rfl

/-! ### within -/

theorem app44k {T0 T : List Nat} {ac : Acc} {done : List Tm} {tok : Tok} {row : V} {r : Tm} (hac : ac.heap = true) (hg : GrowsT T0 T done tok) (hlen : done.length < 1000000000) (hrow : row = encA r) :
    ∃ T' tok', (∀ (A : Env) (H : List Blk), append Try.cfg A { heap := H, toks := T } ac 44 (.list (szOf false done) tok 0 (encTs done)) (.list 5 .tight 0 [row]) = some (.list (szOf false (done ++ [r])) tok' 0 (encTs (done ++ [r])), { heap := H, toks := T' })) ∧
      GrowsT T0 T' (done ++ [r]) tok' ∧ Tk T tok T' tok' := by
  subst hrow
  obtain ⟨h0, hg⟩ := hg
  rcases hg with ⟨rfl, rfl⟩ | ⟨t, rfl, h1, h2, h3⟩
  · refine ⟨appN T [1], .own (lenN T), fun A H => ?_, ⟨⟨?_, ?_⟩, .inr ⟨_, rfl, ?_, ?_, by simp⟩⟩, ⟨by rw [appN_eq]; simp, fun u v _ hv => ?_, .inr ⟨rfl, _, rfl, by rw [lenN_eq]; exact Nat.le_refl _⟩⟩⟩
    · show (ite _ _ _) = _
      refine (if_pos ?_).trans ?_
      · exact (⟨by omega, .inl rfl, by omega, hac⟩ : 0 < 5 ∧ (true = true ∨ 0 = 5) ∧ (0 + 1) * 81 ≤ 140737488355328 ∧ ac.heap = true)
      · simp only [encTs_eq]; rfl
    · rw [appN_eq]; have := h0.1; simp; omega
    · intro t v hv
      have hv' := h0.2 t v hv
      rw [nth_eq] at hv'
      rw [appN_eq, nth_eq, List.getElem?_append_left (List.getElem?_eq_some_iff.1 hv').1]; exact hv'
    · rw [lenN_eq]; exact h0.1
    · rw [appN_eq, nth_eq, lenN_eq, List.getElem?_append_right (Nat.le_refl _), Nat.sub_self]; rfl
    · have := nth_len hv
      rw [nth_eq] at hv
      rw [appN_eq, nth_eq, List.getElem?_append_left this]; exact hv
  · have hne : (encTs done).isEmpty = false := by
      cases done with
      | nil => exact absurd rfl h3
      | cons d ds => rw [encTs]; rfl
    have hsz : szOf false done = 5 := by
      cases done with
      | nil => exact absurd rfl h3
      | cons d ds => rfl
    have hsz2 : szOf false (done ++ [r]) = 5 := by
      cases done with
      | nil => exact absurd rfl h3
      | cons d ds => rfl
    refine ⟨setN T t (lenN (encTs done) + 1), .own t, fun A H => ?_, ⟨⟨?_, ?_⟩, .inr ⟨t, rfl, h1, ?_, by simp⟩⟩, ⟨by rw [setN_eq]; simp, fun u v hu hv => ?_, .inl rfl⟩⟩
    · rw [hsz, hsz2]
      show (ite _ _ _) = _
      refine (if_pos ?_).trans ?_
      · exact (⟨by omega, .inr rfl, by rw [encTs_len]; omega, hac⟩ : 0 < 5 ∧ ((encTs done).isEmpty = true ∨ 5 = 5) ∧ (lenN (encTs done) + 1) * 81 ≤ 140737488355328 ∧ ac.heap = true)
      show (ite _ _ _) = _
      refine (if_pos ?_).trans ?_
      · show nth T t = some (lenN (encTs done))
        rw [encTs_len]; exact h2
      · rw [encTs_app, show encTs [r] = [encA r] by rw [encTs_eq]; rfl]
        rfl
    · rw [setN_eq, List.length_set]; exact h0.1
    · intro t' v hv
      have := nth_len hv
      rw [setN_eq, nth_eq, List.getElem?_set_ne (by omega), ← nth_eq]; exact h0.2 t' v hv
    · rw [setN_eq, nth_eq, List.getElem?_set_self (by exact nth_len h2), encTs_len]; simp
    · have hne2 : t ≠ u := fun e => hu (by rw [e])
      rw [setN_eq, nth_eq, List.getElem?_set_ne hne2, ← nth_eq]; exact hv

/-- Is a term among others? -/
noncomputable def inT (t : Tm) (out : List Tm) : Bool := out.any (fun x => sameT x t)

mutual
/-- All terms that a term is made of, and itself, behind others, each once. -/
noncomputable def wiT : Tm → List Tm → List Tm
  | .mk k n s a b c d ls ts, out => match inT (.mk k n s a b c d ls ts) (wiTs ts out) with
    | true => wiTs ts out
    | false => wiTs ts out ++ [.mk k n s a b c d ls ts]
noncomputable def wiTs : List Tm → List Tm → List Tm
  | [], out => out
  | t :: ts, out => wiTs ts (wiT t out)
end
theorem wiT_eq (t : Tm) (out : List Tm) : wiT t out = match inT t (wiTs t.ts out) with
    | true => wiTs t.ts out
    | false => wiTs t.ts out ++ [t] := by cases t; rw [wiT]; rfl
theorem wiTs_nil (out : List Tm) : wiTs [] out = out := by rw [wiTs]
theorem wiTs_cons (t : Tm) (ts : List Tm) (out : List Tm) : wiTs (t :: ts) out = wiTs ts (wiT t out) := by rw [wiTs]

/-- What is among terms is small enough. -/
def Fine (N : Nat) (out : List Tm) : Prop := ∀ x ∈ out, Sm x ∧ sizeT x < 1000000000 ∧ wt x < N

theorem wi_facts (t : Tm) : ∀ (out : List Tm), (wiT t out).length ≤ out.length + sizeT t ∧ ∀ N, Sm t → sizeT t < 1000000000 → wt t < N → Fine N out → Fine N (wiT t out) := by
  induction t using Tm.ind with
  | h t ih =>
    intro out
    have key : ∀ (ts : List Tm), (∀ y ∈ ts, y ∈ t.ts) → ∀ out, (wiTs ts out).length ≤ out.length + sizeTs ts ∧ ∀ N, (∀ y ∈ ts, Sm y ∧ sizeT y < 1000000000 ∧ wt y < N) → Fine N out → Fine N (wiTs ts out) := by
      intro ts
      induction ts with
      | nil => intro _ out; rw [wiTs_nil, sizeTs]; exact ⟨by omega, fun N _ h => h⟩
      | cons x ts ih2 =>
        intro hm out
        rw [wiTs_cons, sizeTs_cons]
        obtain ⟨a1, a2⟩ := ih x (hm x List.mem_cons_self) out
        obtain ⟨b1, b2⟩ := ih2 (fun y hy => hm y (List.mem_cons_of_mem _ hy)) (wiT x out)
        exact ⟨by omega, fun N hN hf => b2 N (fun y hy => hN y (List.mem_cons_of_mem _ hy)) (a2 N (hN x List.mem_cons_self).1 (hN x List.mem_cons_self).2.1 (hN x List.mem_cons_self).2.2 hf)⟩
    obtain ⟨k1, k2⟩ := key t.ts (fun _ h => h) out
    rw [wiT_eq, sizeT_eq]
    have hf : ∀ N, Sm t → 1 + sizeTs t.ts < 1000000000 → wt t < N → Fine N out → Fine N (wiTs t.ts out) := fun N hs hz hw hf =>
      k2 N (fun y hy => ⟨((Sm_iff t).1 hs).2 y hy, by have := sizeTs_mem hy; omega, by have := wt_kid hy; omega⟩) hf
    cases inT t (wiTs t.ts out) with
    | true => exact ⟨by show (wiTs t.ts out).length ≤ _; omega, hf⟩
    | false =>
      refine ⟨by simp only [List.length_append, List.length_cons, List.length_nil]; omega, fun N hs hz hw hfo x hx => ?_⟩
      rw [List.mem_append, List.mem_singleton] at hx
      rcases hx with hx | rfl
      · exact hf N hs hz hw hfo x hx
      · exact ⟨hs, by rw [sizeT_eq]; exact hz, hw⟩

noncomputable def f49L : Code := loopN Try.f49 0
noncomputable def f49M : Code := loopN Try.f49 1

theorem f49_by2 (R : Run) (k : Nat) (t : Tm) (out : List Tm) (tok : Tok) (hlen : out.length < 1000000000) (S : St) (K : Ex → Env → St → Prop)
    (hsame : ∀ x ∈ out, R (.f 39) [encA x, encA t] S = some (.bool (sameT x t), S)) :
    ∀ (rem : List Tm) (j f : Nat), rem.length < f → (∀ i, rem[i]? = out[j + i]?) → j + rem.length = out.length →
    (inT t rem = false → K (.exit 2) { nt := 38, tmps := [(0, .list (szOf false out) tok 0 (encTs out)), (3, .ptr (.loc 3) 0), (6, .int .i64 (.ofNat out.length)), (24, .bool false)], locs := [(3, cellsT t)], fix := [] } S) →
    (inT t rem = true → K .ret { nt := 38, tmps := [(4, .list (szOf false out) tok 0 (encTs out))], locs := [(3, cellsT t)], fix := [] } S) →
    WCode (iter (evalCode Try.cfg R k 49 (Try.cfg.fc 49) f49M) f { nt := 38, tmps := [(0, .list (szOf false out) tok 0 (encTs out)), (3, .ptr (.loc 3) 0), (6, .int .i64 (.ofNat j))], locs := [(3, cellsT t)], fix := [] } S) K
  | [], j, f + 1, hf, hr, hj, hK, hY => by
    have hjl : j = out.length := by simpa using hj
    subst hjl
    refine WCode.round (nt := 38) (fx := []) ?_
    refine WCmp.no (geLen (by omega)) ?_
    exact hK rfl
  | y :: rem, j, f + 1, hf, hr, hj, hK, hY => by
    have hb : out[j]? = some y := by have := hr 0; simpa using this.symm
    have hjl : j < out.length := (List.getElem?_eq_some_iff.1 hb).1
    refine WCode.round (nt := 38) (fx := []) ?_
    refine WCmp.yes (ltLen hjl) ?_
    refine WOut.mk _ (index44 hb) ?_
    refine WCall.mkB (hsame y (List.mem_of_getElem? hb)) (fun h => ?_) (fun h => ?_)
    · exact hY (by unfold inT; rw [List.any_cons, h]; rfl)
    · refine WOut.mk _ (addOne (T := 3) (j := j) (by omega)) ?_
      exact f49_by2 R k t out tok hlen S K hsame rem (j + 1) f (by simp only [List.length_cons] at hf; omega) (fun i => by have := hr (i + 1); simp only [List.getElem?_cons_succ] at this; rw [this]; congr 1; omega) (by simp only [List.length_cons] at hj; omega)
        (fun h2 => hK (by unfold inT at h2 ⊢; rw [List.any_cons, h, h2]; rfl)) (fun h2 => hY (by unfold inT at h2 ⊢; rw [List.any_cons, h, h2]; rfl))

/-- What within does. -/
def Wi (N M : Nat) (t : Tm) : Prop := ∀ (out : List Tm) (tok : Tok) (H : List Blk) (T : List Nat), GrowsT [] T out tok → out.length + sizeT t < 1000000 → Fine N out →
  ∃ T' tok', GrowsT [] T' (wiT t out) tok' ∧ Tk T tok T' tok' ∧ run Try.cfg M (.f 49) [.list (szOf false out) tok 0 (encTs out), encA t] { heap := H, toks := T } = some (.list (szOf false (wiT t out)) tok' 0 (encTs (wiT t out)), { heap := H, toks := T' })

theorem f49_by1 (N m k : Nat) (t : Tm) (H : List Blk) (K : Ex → Env → St → Prop) (hlen : t.ts.length < 1000000000) (hfn : ∀ y ∈ t.ts, Sm y ∧ sizeT y < 1000000000 ∧ wt y < N) (hrec : ∀ y ∈ t.ts, Wi N m y) :
    ∀ (rem : List Tm) (j f : Nat) (out : List Tm) (tok : Tok) (T : List Nat), rem.length < f → (∀ i, rem[i]? = t.ts[j + i]?) → j + rem.length = t.ts.length → GrowsT [] T out tok → out.length + sizeTs rem < 1000000 → Fine N out →
    (∀ T' tok', GrowsT [] T' (wiTs rem out) tok' → Tk T tok T' tok' → K (.exit 0) { nt := 38, tmps := [(0, .list (szOf false (wiTs rem out)) tok' 0 (encTs (wiTs rem out))), (3, .ptr (.loc 3) 0), (5, .int .i64 (.ofNat t.ts.length)), (11, .bool false)], locs := [(3, cellsT t)], fix := [] } { heap := H, toks := T' }) →
    WCode (iter (evalCode Try.cfg (run Try.cfg m) k 49 (Try.cfg.fc 49) f49L) f { nt := 38, tmps := [(0, .list (szOf false out) tok 0 (encTs out)), (3, .ptr (.loc 3) 0), (5, .int .i64 (.ofNat j))], locs := [(3, cellsT t)], fix := [] } { heap := H, toks := T }) K
  | [], j, f + 1, out, tok, T, hf, hr, hj, hg, hN, hfo, hK => by
    have hjl : j = t.ts.length := by simpa using hj
    subst hjl
    have hK := hK T tok (by rw [wiTs_nil]; exact hg) (Tk.refl _ _)
    rw [wiTs_nil] at hK
    refine WCode.round (nt := 38) (fx := []) ?_
    refine WCmp.no (geLen (by omega)) ?_
    exact hK
  | y :: rem, j, f + 1, out, tok, T, hf, hr, hj, hg, hN, hfo, hK => by
    have hb : t.ts[j]? = some y := by have := hr 0; simpa using this.symm
    have hjl : j < t.ts.length := (List.getElem?_eq_some_iff.1 hb).1
    have hy := List.mem_of_getElem? hb
    rw [sizeTs_cons] at hN
    obtain ⟨T1, tok1, g1, z1, r1⟩ := hrec y hy out tok H T hg (by omega) hfo
    obtain ⟨w1, w2⟩ := wi_facts y out
    rw [wiTs_cons] at hK
    refine WCode.round (nt := 38) (fx := []) ?_
    refine WCmp.yes (ltLen hjl) ?_
    refine WOut.mk _ (index44 hb) ?_
    refine WCall.mk _ _ r1 ?_
    refine WOut.mk _ (addOne (T := 3) (j := j) (by omega)) ?_
    exact f49_by1 N m k t H K hlen hfn hrec rem (j + 1) f (wiT y out) tok1 T1 (by simp only [List.length_cons] at hf; omega) (fun i => by have := hr (i + 1); simp only [List.getElem?_cons_succ] at this; rw [this]; congr 1; omega) (by simp only [List.length_cons] at hj; omega) g1 (by omega)
      (w2 N (hfn y hy).1 (hfn y hy).2.1 (hfn y hy).2.2 hfo) (fun T' tok' g z => hK T' tok' g (z1.trans z))

theorem wis_facts {N : Nat} : ∀ (ts : List Tm) (out : List Tm), (∀ y ∈ ts, Sm y ∧ sizeT y < 1000000000 ∧ wt y < N) → Fine N out → Fine N (wiTs ts out) ∧ (wiTs ts out).length ≤ out.length + sizeTs ts
  | [], out, _, hf => by rw [wiTs_nil, sizeTs]; exact ⟨hf, by omega⟩
  | x :: ts, out, h, hf => by
    obtain ⟨w1, w2⟩ := wi_facts x out
    have hx := h x List.mem_cons_self
    obtain ⟨k1, k2⟩ := wis_facts ts (wiT x out) (fun y hy => h y (List.mem_cons_of_mem _ hy)) (w2 N hx.1 hx.2.1 hx.2.2 hf)
    rw [wiTs_cons, sizeTs_cons]
    exact ⟨k1, by omega⟩

theorem f49_ok (N : Nat) (hN : 1000000 ≤ N) : ∀ (M : Nat) (t : Tm), N + wt t ≤ M → Sm t → sizeT t < 1000000000 → wt t < N → Wi N M t
  | 0, t, h, _, _, hw => by omega
  | m + 1, t, h, hs, hzt, hwN => by
    intro out tok H T hg hlen hfo
    have hkids : ∀ y ∈ t.ts, Sm y ∧ sizeT y < 1000000000 ∧ wt y < N := fun y hy => ⟨((Sm_iff t).1 hs).2 y hy, by have := kid_size hy; omega, by have := wt_kid hy; omega⟩
    have hrec : ∀ y ∈ t.ts, Wi N m y := fun y hy => f49_ok N hN m y (by have := wt_kid hy; omega) (hkids y hy).1 (hkids y hy).2.1 (hkids y hy).2.2
    have hsz := sizeT_eq t
    have hwl := wts_len t.ts
    have hzl := sizeTs_len t.ts
    have hwt := wt_eq t
    obtain ⟨hf1, hl1⟩ := wis_facts t.ts out hkids hfo
    have key : ∃ r, frame Try.cfg (run Try.cfg m) m 49 [.list (szOf false out) tok 0 (encTs out), encA t] { heap := H, toks := T } = some r ∧
        ∃ T' tok', GrowsT [] T' (wiT t out) tok' ∧ Tk T tok T' tok' ∧ r = (.list (szOf false (wiT t out)) tok' 0 (encTs (wiT t out)), { heap := H, toks := T' }) := by
      refine frame_some (fn := Try.f49) rfl rfl ?_
      refine f49_by1 N m m t H _ (by omega) hkids hrec t.ts 0 m out tok T (by omega) (fun i => by rw [Nat.zero_add]) (by rw [Nat.zero_add]) hg (by omega) hfo ?_
      intro T1 tok1 g1 z1
      rw [wiT_eq]
      refine f49_by2 (run Try.cfg m) m t (wiTs t.ts out) tok1 (by omega) _ _ (fun x hx => r39_ok m x t _ (hf1 x hx).1 (hf1 x hx).2.1 (by have := (hf1 x hx).2.2; omega)) (wiTs t.ts out) 0 m (by omega) (fun i => by rw [Nat.zero_add]) (by rw [Nat.zero_add]) (fun hin => ?_) (fun hin => ?_)
      · rw [hin]
        obtain ⟨T2, tok2, ha, g2, z2⟩ := app44k (ac := .any) (row := .agg (mapN cellStrip (cellsT t))) (r := t) rfl g1 (by omega) (encS'_eq t)
        refine WApp.mk _ _ ((append_env rfl).trans (ha { nt := 0, tmps := [], locs := [], fix := [] } H)) ?_
        exact ⟨_, rfl, T2, tok2, g2, z1.trans z2, rfl⟩
      · rw [hin]
        exact ⟨_, rfl, T1, tok1, g1, z1, rfl⟩
    obtain ⟨r, h1, T', tok', h2, h3, rfl⟩ := key
    refine ⟨T', tok', h2, h3, ?_⟩
    exact run_here rfl h1

end Go.Ev

/- ArenaCounts: in plain terms, walked and proved (own work). -/
namespace Go.Ev
open Go.Proofs Go.RowKit
set_option maxRecDepth 100000
set_option linter.unusedSimpArgs false
set_option linter.unusedVariables false
set_option maxHeartbeats 1000000

/-! ### In plain terms -/

theorem puts_is (ts : List Tm) : ∀ ks, IsTs (putKs ts ks).2 ts (putKs ts ks).1 := by
  induction ts with
  | nil => intro ks; rw [putKs_nil]; exact (IsTs_nil _ _).2 rfl
  | cons x ts ih =>
    intro ks
    rw [putKs_cons]
    have h1 := ih (putK x ks).2
    obtain ⟨r, hr⟩ : ∃ r, (putKs ts (putK x ks).2).2 = (putK x ks).2 ++ r := by
      have key : ∀ (ts : List Tm) ks, ∃ r, (putKs ts ks).2 = ks ++ r := by
        intro ts
        induction ts with
        | nil => intro ks; exact ⟨[], by rw [putKs_nil]; simp⟩
        | cons y ts ih =>
          intro ks
          rw [putKs_cons]
          obtain ⟨r, hr⟩ := ih (putK y ks).2
          obtain ⟨r0, h0⟩ := (putK_more y ks).2.pre
          exact ⟨r0 ++ r, by simp only; rw [hr, h0]; simp⟩
      exact key ts _
    exact (IsTs_cons _ _ _ _).2 ⟨_, _, rfl, by simp only; rw [hr]; exact IsT_more r x (put_is x ks), h1⟩

/-- A key is a term's, however it lies. -/
theorem is_nrm {ks : List Ky} (t : Tm) : ∀ {u : Tm} {i : Nat}, IsT ks t i → nrm t = nrm u → IsT ks u i := by
  induction t using Tm.ind with
  | h t ih =>
    intro u i ht he
    obtain ⟨k1, k2, k3, k4, k5⟩ := nrm_facts he
    rw [IsT_eq] at ht ⊢
    obtain ⟨ids, h1, h2⟩ := ht
    have hk : kyOf t (atI ids 0) (atI ids 1) (atI ids 2) = kyOf u (atI ids 0) (atI ids 1) (atI ids 2) := by unfold kyOf; rw [k1, k2, k3, k4]
    refine ⟨ids, by rw [← hk]; exact h1, ?_⟩
    have key : ∀ (ts us : List Tm) (ids : List Nat), (∀ y ∈ ts, y ∈ t.ts) → nrms ts = nrms us → IsTs ks ts ids → IsTs ks us ids := by
      intro ts
      induction ts with
      | nil =>
        intro us ids _ he h
        cases us with
        | nil => exact h
        | cons u us => rw [nrms_nil, nrms_cons] at he; cases he
      | cons x ts ih2 =>
        intro us ids hm he h
        cases us with
        | nil => rw [nrms_nil, nrms_cons] at he; cases he
        | cons u us =>
          rw [nrms_cons, nrms_cons] at he
          injection he with e1 e2
          rw [IsTs_cons] at h ⊢
          obtain ⟨i, is, rfl, a1, a2⟩ := h
          exact ⟨i, is, rfl, ih x (hm x List.mem_cons_self) a1 e1, ih2 us is (fun y hy => hm y (List.mem_cons_of_mem _ hy)) e2 a2⟩
    exact key t.ts u.ts ids (fun _ h => h) k5 h2

theorem iss_inj {ks : List Ky} (hn : ks.Nodup) : ∀ {ts : List Tm} {a b : List Nat}, IsTs ks ts a → IsTs ks ts b → a = b
  | [], a, b, h, h' => by rw [IsTs_nil] at h h'; rw [h, h']
  | t :: ts, a, b, h, h' => by
    rw [IsTs_cons] at h h'
    obtain ⟨i, is, rfl, h1, h2⟩ := h
    obtain ⟨j, js, rfl, h3, h4⟩ := h'
    rw [is_inj hn t h1 h3 rfl, iss_inj hn h2 h4]

/-- The terms of an arena. -/
structure AllIs (ks : List Ky) (all : List Tm) : Prop where
  len : all.length = ks.length
  is : ∀ (i : Nat) (t : Tm), all[i]? = some t → IsT ks t i
  may : ∀ x ∈ all, mayT x = true

theorem may_kid {t y : Tm} (h : mayT t = true) (hy : y ∈ t.ts) : mayT y = true := by
  obtain ⟨d', e, _, hk⟩ := dp_node.1 (may_dp h)
  have := kid_size hy
  have := may_size h
  exact dp_may (hk y hy) (by omega) (by omega)

theorem wi_put (t : Tm) : ∀ {ks : List Ky} {all : List Tm}, ks.Nodup → AllIs ks all → mayT t = true → AllIs (putK t ks).2 (wiT t all) := by
  induction t using Tm.ind with
  | h t ih =>
    intro ks all hn ha hm
    have key : ∀ (ts : List Tm), (∀ y ∈ ts, y ∈ t.ts) → ∀ {ks : List Ky} {all : List Tm}, ks.Nodup → AllIs ks all → AllIs (putKs ts ks).2 (wiTs ts all) ∧ (putKs ts ks).2.Nodup := by
      intro ts
      induction ts with
      | nil => intro _ ks all hn ha; rw [putKs_nil, wiTs_nil]; exact ⟨ha, hn⟩
      | cons x ts ih2 =>
        intro hmm ks all hn ha
        rw [putKs_cons, wiTs_cons]
        exact ih2 (fun y hy => hmm y (List.mem_cons_of_mem _ hy)) (put_nodup x hn) (ih x (hmm x List.mem_cons_self) hn ha (may_kid hm (hmm x List.mem_cons_self)))
    obtain ⟨k1, k2⟩ := key t.ts (fun _ h => h) hn ha
    have hids := puts_is t.ts ks
    have hput := put_is t ks
    rw [wiT_eq]
    rw [putK_eq] at hput ⊢
    cases hin : inT t (wiTs t.ts all) with
    | true =>
      unfold inT at hin
      rw [List.any_eq_true] at hin
      obtain ⟨x, hx, hs⟩ := hin
      obtain ⟨i, hi⟩ := List.getElem?_of_mem hx
      have h1 := is_nrm x (k1.is i x hi) (nrm_same x hs)
      rw [IsT_eq] at h1
      obtain ⟨ids', h2, h3⟩ := h1
      rw [iss_inj k2 h3 hids] at h2
      cases hidx : idxK (kyOf t (atI (putKs t.ts ks).1 0) (atI (putKs t.ts ks).1 1) (atI (putKs t.ts ks).1 2)) (putKs t.ts ks).2 0 with
      | some j => exact k1
      | none => exact absurd (List.mem_of_getElem? h2) (idxK_none hidx)
    | false =>
      cases hidx : idxK (kyOf t (atI (putKs t.ts ks).1 0) (atI (putKs t.ts ks).1 1) (atI (putKs t.ts ks).1 2)) (putKs t.ts ks).2 0 with
      | some j =>
        exfalso
        obtain ⟨_, h2, h3⟩ := idxK_lt hidx
        rw [Nat.sub_zero] at h3
        have hj : j < (wiTs t.ts all).length := by rw [k1.len]; omega
        have hx := List.getElem?_eq_getElem hj
        have h4 : IsT (putKs t.ts ks).2 t j := (IsT_eq _ _ _).2 ⟨_, h3, hids⟩
        have hxm := k1.may _ (List.getElem_mem hj)
        have h5 := is_same _ (may_dp hxm) (may_dp hm) (k1.is j _ hx) h4
        have h6 : inT t (wiTs t.ts all) = true := by
          unfold inT
          rw [List.any_eq_true]
          exact ⟨_, List.getElem_mem hj, same_nrm _ h5⟩
        rw [hin] at h6
        cases h6
      | none =>
        rw [hidx] at hput
        refine ⟨by simp [k1.len], fun i u hu => ?_, fun x hx => ?_⟩
        · by_cases hlt : i < (wiTs t.ts all).length
          · rw [List.getElem?_append_left hlt] at hu
            exact IsT_more _ u (k1.is i u hu)
          · rw [List.getElem?_append_right (by omega)] at hu
            have hi : i - (wiTs t.ts all).length = 0 := by
              rcases Nat.eq_zero_or_pos (i - (wiTs t.ts all).length) with h | h
              · exact h
              · rw [List.getElem?_eq_none (by simp; omega)] at hu; cases hu
            rw [hi] at hu
            simp only [List.getElem?_cons_zero, Option.some.injEq] at hu
            subst hu
            have e : i = (putKs t.ts ks).2.length := by rw [← k1.len]; omega
            rw [e]
            exact hput
        · rw [List.mem_append, List.mem_singleton] at hx
          rcases hx with hx | rfl
          · exact k1.may x hx
          · exact hm

theorem vastGo_facts : ∀ (l : List Tm) (n z : Int), 0 ≤ n → n + 131072 * l.length ≤ 1000000000 → vastGo l n = some z → z = n + sizeTs l ∧ ∀ x ∈ l, deepT x = false
  | [], n, z, _, _, h => by rw [vastGo] at h; cases h; rw [sizeTs]; exact ⟨by simp, fun x hx => by cases hx⟩
  | x :: l, n, z, h0, hb, h => by
    rw [vastGo] at h
    cases hd : deepT x with
    | true => rw [hd] at h; cases h
    | false =>
      rw [hd] at h
      have hs := deep_size hd
      simp only [List.length_cons] at hb
      have e : addW n (.ofNat (sizeT x)) = n + sizeT x := addW_eq (by simp only [Int.ofNat_eq_natCast]; omega) (by simp only [Int.ofNat_eq_natCast]; omega)
      simp only [e] at h
      obtain ⟨h1, h2⟩ := vastGo_facts l (n + sizeT x) z (by omega) (by omega) h
      rw [sizeTs_cons]
      refine ⟨by omega, fun y hy => ?_⟩
      cases hy with
      | head => exact hd
      | tail _ hy => exact h2 y hy

theorem vast_facts {l : List Tm} {most nodes : Int} (h0 : 0 ≤ most) (h1 : most ≤ 1000) (hn : 0 ≤ nodes) (h : vastL l most nodes = false) : l.length ≤ 1000 ∧ sizeTs l ≤ nodes.toNat ∧ ∀ x ∈ l, deepT x = false := by
  unfold vastL at h
  cases h2 : iLt most (.ofNat l.length) with
  | true => rw [h2] at h; cases h
  | false =>
    rw [h2] at h
    rw [iLt_not] at h2
    simp only [Int.ofNat_eq_natCast] at h2
    cases hv : vastGo l 0 with
    | none => rw [hv] at h; cases h
    | some z =>
      rw [hv] at h
      have h : iLt nodes z = false := h
      rw [iLt_not] at h
      obtain ⟨e, hd⟩ := vastGo_facts l 0 z (Int.le_refl _) (by omega) hv
      exact ⟨by omega, by omega, hd⟩

theorem run_strip {id : Nat} (hp : (Try.cfg.fc id).pure = true) {args args' : List V} (ha : allB V.pure args = true) (ha' : allB V.pure args' = true) (h : mapN V.strip args = mapN V.strip args') (n : Nat) (S : St) : run Try.cfg n (.f id) args S = run Try.cfg n (.f id) args' S := by
  cases n with
  | zero => rfl
  | succ n =>
    show step Try.cfg (run Try.cfg n) n (.f id) args S = step Try.cfg (run Try.cfg n) n (.f id) args' S
    unfold step
    dsimp only
    rw [hp, ha, ha', h]
    rfl

theorem Tk.ext {T T' : List Nat} {tok : Tok} (h : ExtT T T') : Tk T tok T' tok := ⟨h.1, fun u v _ hv => h.2 u v hv, .inl rfl⟩

/-- A list grows; another one's token stays. -/
theorem grow_keep {α : Type} {T T' : List Nat} {tok tok' tk : Tok} {l : List α} (h : GrowsT [] T l tk) (z : Tk T tok T' tok') (ha : ∀ u, tk = .own u → tok ≠ .own u) : GrowsT [] T' l tk := by
  refine ⟨⟨Nat.zero_le _, fun t v hv => by simp [nth_eq] at hv⟩, ?_⟩
  rcases h.2 with h | ⟨u, e1, e2, e3, e4⟩
  · exact .inl h
  · exact .inr ⟨u, e1, Nat.zero_le _, z.keep u _ (ha u e1) e3, e4⟩

theorem apart_keep {α : Type} {T T' : List Nat} {tok tok' tk : Tok} {l : List α} (h : GrowsT [] T l tk) (z : Tk T tok T' tok') (ha : ∀ u, tk = .own u → tok ≠ .own u) : ∀ u, tk = .own u → tok' ≠ .own u := fun u hu => by
  rcases h.2 with ⟨_, e⟩ | ⟨u', e1, e2, e3, e4⟩
  · rw [e] at hu; cases hu
  · rw [e1] at hu
    cases hu
    exact z.other (ha _ e1) e3

end Go.Ev

/- ArenaCounts: walked (own work). -/
namespace Go.Ev
open Go.Proofs Go.RowKit
set_option maxRecDepth 100000
set_option linter.unusedSimpArgs false
set_option linter.unusedVariables false
set_option maxHeartbeats 1000000

theorem iEq_same (a : Int) : iEq a a = true := by rw [iEq_eq]; simp

theorem gt_eq (x : Tm) : gt x = .mk x.k x.n x.s false x.ls.isEmpty false x.ts.isEmpty x.ls (gts x.ts) := by cases x; rw [gt]; rfl

theorem gt_facts (x : Tm) : nrm (gt x) = nrm x ∧ (Sm x → Sm (gt x)) ∧ wt (gt x) = wt x := by
  induction x using Tm.ind with
  | h x ih =>
    have key : ∀ ts : List Tm, (∀ y ∈ ts, y ∈ x.ts) → nrms (gts ts) = nrms ts ∧ ((∀ y ∈ ts, Sm y) → ∀ y ∈ gts ts, Sm y) ∧ wts (gts ts) = wts ts := by
      intro ts
      induction ts with
      | nil => intro _; rw [gts_nil]; exact ⟨rfl, fun h => h, rfl⟩
      | cons y ts ih2 =>
        intro hm
        obtain ⟨a1, a2, a3⟩ := ih y (hm y List.mem_cons_self)
        obtain ⟨b1, b2, b3⟩ := ih2 (fun z hz => hm z (List.mem_cons_of_mem _ hz))
        rw [gts_cons]
        refine ⟨by rw [nrms_cons, nrms_cons, a1, b1], fun h z hz => ?_, by rw [wts, wts, a3, b3]⟩
        cases hz with
        | head => exact a2 (h y List.mem_cons_self)
        | tail _ hz => exact b2 (fun w hw => h w (List.mem_cons_of_mem _ hw)) z hz
    obtain ⟨k1, k2, k3⟩ := key x.ts (fun _ h => h)
    refine ⟨?_, fun h => ?_, ?_⟩
    · rw [nrm_eq, nrm_eq x, ← k1, gt_eq]; rfl
    · rw [Sm_iff] at h ⊢
      rw [gt_eq]
      exact ⟨h.1, k2 h.2⟩
    · rw [wt_eq, wt_eq x, ← k3, gt_eq]; rfl

/-! ### An arena, and all terms in it -/

structure Ar (N : Nat) (ns : List Nd) (tok : Tok) (T : List Nat) (all : List Tm) (tk : Tok) : Prop where
  nd : (ns.map Nd.key).Nodup
  ko : KO ns
  is : AllIs (ns.map Nd.key) all
  gn : GrowsT [] T ns tok
  ga : GrowsT [] T all tk
  ap : ∀ u, tk = .own u → tok ≠ .own u
  fi : Fine N all

theorem Ar.len {N : Nat} {ns : List Nd} {tok tk : Tok} {T : List Nat} {all : List Tm} (h : Ar N ns tok T all tk) : all.length = ns.length := by
  have := h.is.len; rwa [List.length_map] at this

theorem Ar.put {N : Nat} {ns ns' : List Nd} {tok tok' tk tk2 : Tok} {T T' T2 : List Nat} {all all' : List Tm} {t : Tm} (h : Ar N ns tok T all tk) (e1 : ns'.map Nd.key = (putK t (ns.map Nd.key)).2) (ko : KO ns') (g : GrowsT [] T' ns' tok') (z : Tk T tok T' tok')
    (g2 : GrowsT [] T2 all' tk2) (z2 : Tk T' tk T2 tk2) (hf : Fine N all') (ha : AllIs (putK t (ns.map Nd.key)).2 all') : Ar N ns' tok' T2 all' tk2 := by
  have h1 := grow_keep h.ga z h.ap
  have h2 := apart_keep h.ga z h.ap
  refine ⟨by rw [e1]; exact put_nodup t h.nd, ko, by rw [e1]; exact ha, grow_keep g z2 (fun u hu hv => h2 u hv hu), g2, fun u hu hv => ?_, hf⟩
  exact apart_keep g z2 (fun u hu hv => h2 u hv hu) u hv hu

theorem Ar.putAgain {N : Nat} {ns ns' : List Nd} {tok tok' tk : Tok} {T T' : List Nat} {all : List Tm} {t : Tm} {i : Nat} (h : Ar N ns tok T all tk) (e : IsT (ns.map Nd.key) t i) (e1 : ns'.map Nd.key = (putK t (ns.map Nd.key)).2) (ko : KO ns') (g : GrowsT [] T' ns' tok') (z : Tk T tok T' tok') : Ar N ns' tok' T' all tk := by
  rw [put_there h.nd t e] at e1
  simp only at e1
  exact ⟨by rw [e1]; exact h.nd, ko, by rw [e1]; exact h.is, g, grow_keep h.ga z h.ap, apart_keep h.ga z h.ap, h.fi⟩

theorem Ar.ext {N : Nat} {ns : List Nd} {tok tk : Tok} {T T' : List Nat} {all : List Tm} (h : Ar N ns tok T all tk) (e : ExtT T T') : Ar N ns tok T' all tk :=
  ⟨h.nd, h.ko, h.is, h.gn.ext e, h.ga.ext e, h.ap, h.fi⟩

/-! ### The walk -/

noncomputable def f9L : Code := loopN Try.f9 0
noncomputable def f9M : Code := loopN Try.f9 1

theorem f9_a (N n k : Nat) (hN : 1000000 ≤ N) (hn : N + N ≤ n) (l : List Tm) (hlen : l.length < 1000000000) (hl : ∀ x ∈ l, Sm x ∧ sizeT x < 1000000000 ∧ wt x < N) (K : Ex → Env → St → Prop) :
    ∀ (rem : List Tm) (j f : Nat) (ns : List Nd) (tok : Tok) (T : List Nat) (all : List Tm) (tk : Tok), rem.length < f → (∀ i, rem[i]? = l[j + i]?) → j + rem.length = l.length → Ar N ns tok T all tk → ns.length + sizeTs rem < 100000 →
    (∀ ns' tok' T' all' tk', Ar N ns' tok' T' all' tk' → ns'.length < 100000 → K (.exit 0) { nt := 96, tmps := [(0, .list (szOf true l) (tkOf false) 0 (encTs l)), (3, .ptr (.box 1) 0), (4, .list (szOf false all') tk' 0 (encTs all')), (5, .int .i64 (.ofNat l.length)), (22, .bool false)], locs := [], fix := [] } (arS ns' tok' [] T')) →
    WCode (iter (evalCode Try.cfg (run Try.cfg (n + 14)) k 9 (Try.cfg.fc 9) f9L) f { nt := 96, tmps := [(0, .list (szOf true l) (tkOf false) 0 (encTs l)), (3, .ptr (.box 1) 0), (4, .list (szOf false all) tk 0 (encTs all)), (5, .int .i64 (.ofNat j))], locs := [], fix := [] } (arS ns tok [] T)) K
  | [], j, f + 1, ns, tok, T, all, tk, hf, hr, hj, ha, hz, hK => by
    have hjl : j = l.length := by simpa using hj
    subst hjl
    refine WCode.round (nt := 96) (fx := []) ?_
    refine WCmp.no (geLen (by omega)) ?_
    exact hK ns tok T all tk ha (by omega)
  | y :: rem, j, f + 1, ns, tok, T, all, tk, hf, hr, hj, ha, hz, hK => by
    have hb : l[j]? = some y := by have := hr 0; simpa using this.symm
    have hjl : j < l.length := (List.getElem?_eq_some_iff.1 hb).1
    obtain ⟨hs, hy, hw⟩ := hl y (List.mem_of_getElem? hb)
    rw [sizeTs_cons] at hz
    refine WCode.round (nt := 96) (fx := []) ?_
    refine WCmp.yes (ltLen hjl) ?_
    refine WOut.mk _ (index44 hb) ?_
    cases hm : mayT y with
    | false =>
      refine WCall.mk _ _ (f48_no n y ns tok [] T hs hm (by omega)) ?_
      refine WCmp.no rfl ?_
      refine WCall.mk _ _ (f50_ok (n + 13) ns tok [] T) ?_
      refine WCmp.no (by show (!iEq _ _) = false; rw [nds_len, encTs_len, ha.len, iEq_same]; rfl) ?_
      refine WOut.mk _ (addOne (T := 3) (j := j) (by omega)) ?_
      exact f9_a N n k hN hn l hlen hl K rem (j + 1) f ns tok T all tk (by simp only [List.length_cons] at hf; omega) (fun i => by have := hr (i + 1); simp only [List.getElem?_cons_succ] at this; rw [this]; congr 1; omega) (by simp only [List.length_cons] at hj; omega) ha (by omega) hK
    | true =>
      obtain ⟨ns1, T1, tok1, e1, ko1, g1, z1, r1⟩ := f48_yes n y ns tok [] T hs hm (by omega) ha.gn (by omega) ha.ko
      obtain ⟨T2, tk2, g2, z2, r2⟩ := f49_ok N hN (n + 14) y (by omega) hs hy hw all tk (arS ns1 tok1 [] T1).heap T1 (grow_keep ha.ga z1 ha.ap) (by rw [ha.len]; omega) ha.fi
      obtain ⟨w1, w2⟩ := wi_facts y all
      have ha2 := ha.put (t := y) e1 ko1 g1 z1 g2 z2 (w2 N hs hy hw ha.fi) (wi_put y ha.nd ha.is hm)
      have hl2 := ha2.len
      have hl1 := ha.len
      refine WCall.mk _ _ r1 ?_
      refine WCmp.yes rfl ?_
      refine WOut.mk _ (index44 hb) ?_
      refine WCall.mk _ _ r2 ?_
      refine WCall.mk _ _ (f50_ok (n + 13) ns1 tok1 [] T2) ?_
      refine WCmp.no (by show (!iEq _ _) = false; rw [nds_len, encTs_len, ha2.len, iEq_same]; rfl) ?_
      refine WOut.mk _ (addOne (T := 3) (j := j) (by omega)) ?_
      exact f9_a N n k hN hn l hlen hl K rem (j + 1) f ns1 tok1 T2 (wiT y all) tk2 (by simp only [List.length_cons] at hf; omega) (fun i => by have := hr (i + 1); simp only [List.getElem?_cons_succ] at this; rw [this]; congr 1; omega) (by simp only [List.length_cons] at hj; omega) ha2 (by omega) hK

@[reducible] noncomputable def more9 : Option (Tm × Tok × Tok) → List (Nat × List V)
  | none => []
  | some p => [(11, cells2 p.1 p.2.1 p.2.2)]

theorem f9_b (N n k : Nat) (hN : 1000000 ≤ N) (hn : N + N ≤ n) (c0 : List Nat) (l : List Tm) (all : List Tm) (tk : Tok) (hlen : all.length < 100000) (K : Ex → Env → St → Prop) :
    ∀ (rem : List Tm) (j f : Nat) (ns : List Nd) (tok : Tok) (J : List Blk) (T : List Nat) (o : Option (Tm × Tok × Tok)), rem.length < f → (∀ i, rem[i]? = all[j + i]?) → j + rem.length = all.length → Ar N ns tok T all tk →
    (∀ o S, K (.exit 2) { nt := 96, tmps := [(3, .ptr (.box 1) 0), (4, .list (szOf false all) tk 0 (encTs all)), (8, .int .i64 (.ofNat all.length)), (50, .bool false)], locs := more9 o, fix := [] } S) →
    WCode (iter (evalCode Try.cfg (run Try.cfg (n + 14)) k 9 (Try.cfg.fc 9) f9M) f { nt := 96, tmps := [(3, .ptr (.box 1) 0), (4, .list (szOf false all) tk 0 (encTs all)), (8, .int .i64 (.ofNat j))], locs := more9 o, fix := [] } (arS ns tok J T)) K
  | [], j, f + 1, ns, tok, J, T, o, hf, hr, hj, ha, hK => by
    have hjl : j = all.length := by simpa using hj
    subst hjl
    have hK := hK o (arS ns tok J T)
    cases o
    all_goals
      refine WCode.round (nt := 96) (fx := []) ?_
      refine WCmp.no (geLen (by omega)) ?_
      exact hK
  | y :: rem, j, f + 1, ns, tok, J, T, o, hf, hr, hj, ha, hK => by
    have hb : all[j]? = some y := by have := hr 0; simpa using this.symm
    have hjl : j < all.length := (List.getElem?_eq_some_iff.1 hb).1
    obtain ⟨hs, hy, hw⟩ := ha.fi y (List.mem_of_getElem? hb)
    have hm := ha.is.may y (List.mem_of_getElem? hb)
    have his := ha.is.is j y hb
    have hsz := may_size hm
    obtain ⟨ns1, T1, tok1, e1, ko1, g1, z1, r1⟩ := f48_yes n y ns tok J T hs hm (by omega) ha.gn (by have := ha.len; omega) ha.ko
    have ha1 := ha.putAgain his e1 ko1 g1 z1
    rw [put_there ha.nd y his] at r1
    obtain ⟨J', T2, tl, tt, x2, s1, s2, r2⟩ := f51_ok (n + 8) y j 4096 ns1 tok1 J T1 ko1 (may_dp hm) (by omega) (ha1.is.is j y hb)
    have ha2 := ha1.ext x2
    obtain ⟨q1, q2, q3⟩ := gt_facts y
    have h39 : ∀ S, run Try.cfg (n + 14) (.f 39) [.agg (cells2 (gt y) tl tt), encA y] S = some (.bool true, S) := fun S => by
      rw [run_strip (args' := [encA (gt y), encA y]) rfl rfl rfl (by show V.agg (mapN cellStrip (cells2 (gt y) tl tt)) :: mapN V.strip [encA y] = _; rw [strip_enc2 _ _ _ s1 s2, strips_t, strips_t, strips_t])]
      rw [r39_ok (n + 14) (gt y) y S (q2 hs) (by rw [← size_nrm, q1, size_nrm]; omega) (by omega), same_nrm _ q1]
    have hIH := f9_b N n k hN hn c0 l all tk hlen K rem (j + 1) f ns1 tok1 (appN J J') T2 (some (gt y, tl, tt)) (by simp only [List.length_cons] at hf; omega) (fun i => by have := hr (i + 1); simp only [List.getElem?_cons_succ] at this; rw [this]; congr 1; omega) (by simp only [List.length_cons] at hj; omega) ha2 hK
    have h50 : (!iEq (.ofNat (lenN (ns1.map ndV))) (.ofNat (lenN (encTs all)))) = false := by rw [nds_len, encTs_len, ha2.len, iEq_same]; rfl
    cases o
    all_goals
      refine WCode.round (nt := 96) (fx := []) ?_
      refine WCmp.yes (ltLen hjl) ?_
      refine WOut.mk _ (index44 hb) ?_
      refine WCall.mk _ _ r1 ?_
      refine WCall.mk _ _ r2 ?_
      refine WCmp.no (by show (!iEq _ _) = false; rw [iEq_same]; rfl) ?_
      refine WCmp.no rfl ?_
      refine WCmp.no rfl ?_
      refine WOut.mk _ (index44 hb) ?_
      refine WCall.mk _ _ (h39 _) ?_
      refine WCall.mk _ _ (f50_ok (n + 13) ns1 tok1 (appN J J') T2) ?_
      refine WCmp.no h50 ?_
      refine WOut.mk _ (addOne (T := 3) (j := j) (by omega)) ?_
      exact hIH

theorem nil_all (N : Nat) : Ar N [] .tight [] [] .tight :=
  ⟨List.Pairwise.nil, (fun _ h => by cases h), ⟨rfl, (fun i t h => by simp at h), (fun _ h => by cases h)⟩, .start [], .start [], (fun _ h => by cases h), (fun _ h => by cases h)⟩

theorem law9_frame (N : Nat) (l : List Tm) (hN : 1000000 ≤ N) (hl : ∀ x ∈ l, Sm x ∧ wt x < N) : ∃ S', frame Try.cfg (run Try.cfg (N + N + 14)) (N + N + 14) 9 [.list (szOf true l) (tkOf false) 0 (encTs l)] St.empty = some (.bool true, S') := by
  have hworks : ∀ S, run Try.cfg (N + N + 14) (.f 46) [] S = some (.bool true, S) := fun S => by
    have := f46_ok (N + N + 14 - 31) S
    rwa [show N + N + 14 - 31 + 31 = N + N + 14 by omega] at this
  have h45 := f45_ok (N + N + 12) l true false 20 300 St.empty (by omega) (by omega) (fun x hx => by have := (hl x hx).2; omega)
  refine frame_ex Try.cfg _ (fn := Try.f9) rfl rfl ?_
  refine WCall.mkB h45 (fun hv => ?_) (fun hv => ?_)
  · refine WCall.mk _ _ (hworks _) ?_
    exact ⟨_, rfl⟩
  · obtain ⟨b1, b2, b3⟩ := vast_facts (by omega) (by omega) (by omega) hv
    have b2 : sizeTs l ≤ 300 := b2
    refine WCall.mk _ _ (f47_ok (N + N + 13)) ?_
    refine WOut.mk _ rfl ?_
    refine f9_a N (N + N) (N + N + 14) hN (Nat.le_refl _) l (by omega) (fun x hx => ⟨(hl x hx).1, by have := deep_size (b3 x hx); omega, (hl x hx).2⟩) _ l 0 (N + N + 14) [] .tight [] [] .tight (by omega) (fun i => by rw [Nat.zero_add]) (by rw [Nat.zero_add]) (nil_all N) (by simp; omega) ?_
    intro ns tok T all tk ha hz
    refine f9_b N (N + N) (N + N + 14) hN (Nat.le_refl _) [] l all tk (by rw [ha.len]; exact hz) _ all 0 (N + N + 14) ns tok [] T none (by rw [ha.len]; omega) (fun i => by rw [Nat.zero_add]) (by rw [Nat.zero_add]) ha ?_
    intro o S
    cases o
    all_goals
      refine WCall.mk _ _ (hworks _) ?_
      exact ⟨_, rfl⟩

theorem law9 (us : List V) (h : Args Try.prog Try.f9.params.toList us) : ∃ n S', run Try.cfg n (.f 9) us St.empty = some (.bool true, S') := by
  rw [Try.params9] at h
  obtain ⟨l, r1, rfl, hsm, h1⟩ := arg44 h
  obtain rfl := arg_nil h1
  obtain ⟨S', hf⟩ := law9_frame (1000001 + wts l) l (by omega) (fun x hx => ⟨hsm x hx, by have := wts_mem hx; omega⟩)
  exact ⟨_, St.empty, run_tm hf (by rw [strips_ts]; rfl) rfl rfl rfl rfl rfl⟩

end Go.Ev

/- The arena: Copy (own work). -/
namespace Go.Ev
open Go.Proofs Go.RowKit
set_option maxRecDepth 100000
set_option linter.unusedSimpArgs false
set_option linter.unusedVariables false
set_option maxHeartbeats 1000000

theorem appLs (a b : Bool) (ls : List Lv) (h : ls.length < 1000000000) (T : List Nat) :
    ∃ T' tl, (∀ (A : Env) (H : List Blk) (ac : Acc), ac.heap = true → append Try.cfg A { heap := H, toks := T } ac 25 (.list 0 .tight 0 []) (.list (szOf a ls) (tkOf b) 0 (ls.map enc)) = some (.list (szOf false ls) tl 0 (ls.map enc), { heap := H, toks := T' })) ∧ GrowsT T T' ls tl := by
  cases ls with
  | nil => exact ⟨T, .tight, fun A H ac _ => by cases a <;> cases b <;> rfl, GrowsT.start T⟩
  | cons x ls =>
    refine ⟨appN T [(x :: ls).length], .own (lenN T), fun A H ac hac => ?_, ⟨?_, ?_⟩, .inr ⟨_, rfl, ?_, ?_, by simp⟩⟩
    · have hl : lenN ((x :: ls).map enc) = (x :: ls).length := by rw [lenN_eq, List.length_map]
      show (ite _ _ _) = _
      refine (if_pos ?_).trans ?_
      · exact (⟨by omega, .inl rfl, by rw [hl]; show (0 + _) * 41 ≤ _; omega, hac⟩ : 0 < 5 ∧ (true = true ∨ 0 = 5) ∧ (0 + lenN ((x :: ls).map enc)) * 41 ≤ 140737488355328 ∧ ac.heap = true)
      · show some (_, ({ heap := H, toks := appN T [0 + lenN ((x :: ls).map enc)] } : St)) = _
        rw [hl, Nat.zero_add]
        rfl
    · rw [appN_eq]; simp
    · intro t v hv
      rw [nth_eq] at hv
      rw [appN_eq, nth_eq, List.getElem?_append_left (List.getElem?_eq_some_iff.1 hv).1]; exact hv
    · rw [lenN_eq]; exact Nat.le_refl _
    · rw [appN_eq, nth_eq, lenN_eq, List.getElem?_append_right (Nat.le_refl _), Nat.sub_self]; rfl

noncomputable def f59L : Code := loopN Try.f59 0

@[reducible] noncomputable def cp3 (t : Tm) (tl tok : Tok) (done : List Tm) : List V := [.int .u8 t.k, .int .i64 t.n, .str t.s, .list (szOf false t.ls) tl 0 (t.ls.map enc), .list (szOf false done) tok 0 (encTs done)]

theorem f59_by (n k : Nat) (t : Tm) (tl : Tok) (hlen : t.ts.length < 1000000000) (T0 : List Nat) (K : Ex → Env → St → Prop)
    (hrec : ∀ y ∈ t.ts, ∀ S, run Try.cfg n (.f 59) [encA y] S = some (encA (gt y), S)) :
    ∀ (rem : List Tm) (j f : Nat) (done : List Tm) (T : List Nat) (tok : Tok), rem.length < f → (∀ i, rem[i]? = t.ts[j + i]?) → j + rem.length = t.ts.length → j = done.length → GrowsT T0 T done tok →
    (∀ T' tok', GrowsT T0 T' (done ++ gts rem) tok' → K (.exit 0) { nt := 37, tmps := [(1, .ptr (.loc 1) 0), (2, .ptr (.loc 2) 0), (3, .ptr (.loc 3) 0), (4, .int .i64 (.ofNat t.ts.length)), (22, .bool false)], locs := [(1, cellsT t), (2, zeroT), (3, cp3 t tl tok' (done ++ gts rem))], fix := [] } { heap := [], toks := T' }) →
    WCode (iter (evalCode Try.cfg (run Try.cfg n) k 59 (Try.cfg.fc 59) f59L) f { nt := 37, tmps := [(1, .ptr (.loc 1) 0), (2, .ptr (.loc 2) 0), (3, .ptr (.loc 3) 0), (4, .int .i64 (.ofNat j))], locs := [(1, cellsT t), (2, zeroT), (3, cp3 t tl tok done)], fix := [] } { heap := [], toks := T }) K
  | [], j, f + 1, done, T, tok, hf, hr, hj, hjd, hg, hK => by
    have hjl : j = t.ts.length := by simpa using hj
    subst hjl
    have hK := hK T tok (by rw [gts_nil, List.append_nil]; exact hg)
    rw [gts_nil, List.append_nil] at hK
    refine WCode.round (nt := 37) (fx := []) ?_
    refine WCmp.no (geLen (by omega)) ?_
    exact hK
  | y :: rem, j, f + 1, done, T, tok, hf, hr, hj, hjd, hg, hK => by
    have hby : t.ts[j]? = some y := by have := hr 0; simpa using this.symm
    have hjl : j < t.ts.length := (List.getElem?_eq_some_iff.1 hby).1
    have hy := fun S => hrec y (List.mem_of_getElem? hby) S
    obtain ⟨T2, tok2, hap, hg2⟩ := app44' (A := { nt := 0, tmps := [], locs := [], fix := [] }) (H := []) (ac := ⟨false, none, true⟩) rfl hg (by omega) (strip_encA (gt y))
    rw [gts_cons, List.append_cons] at hK
    refine WCode.round (nt := 37) (fx := []) ?_
    refine WCmp.yes (ltLen hjl) ?_
    refine WOut.mk _ (index44 hby) ?_
    refine WCall.mk _ _ (hy _) ?_
    refine WApp.mk _ _ ((append_env rfl).trans hap) ?_
    refine WOut.mk _ (addOne (T := 3) (j := j) (by omega)) ?_
    exact f59_by n k t tl hlen T0 K hrec rem (j + 1) f (done ++ [gt y]) T2 tok2 (by simp only [List.length_cons] at hf; omega) (fun i => by have := hr (i + 1); simp only [List.getElem?_cons_succ] at this; rw [this]; congr 1; omega) (by simp only [List.length_cons] at hj; omega) (by simp [hjd]) hg2 hK

theorem f59_ok : ∀ (n : Nat) (t : Tm) (S : St), FewL t → sizeT t < 1000000000 → wt t < n → run Try.cfg n (.f 59) [encA t] S = some (encA (gt t), S)
  | 0, t, S, _, _, h => by omega
  | n + 1, t, S, hfl, hsz, h => by
    have hls := hfl.len
    have hw := wt_eq t
    have hwl := wts_len t.ts
    have hlen : t.ts.length < 1000000000 := by have := sizeTs_len t.ts; rw [sizeT_eq] at hsz; omega
    have key : ∃ r, frame Try.cfg (run Try.cfg n) n 59 [encA t] St.empty = some r ∧ ∃ v S', r = (v, S') ∧ v.stripAll = encA (gt t) ∧ frz { nt := 0, tmps := [], locs := [], fix := [] } S' .any v = some v ∧ isZero v.lvl = true := by
      obtain ⟨T1, tl, ha, hg⟩ := appLs t.a t.b t.ls hls []
      refine frame_some (fn := Try.f59) rfl rfl ?_
      refine WApp.mk _ _ ((append_env rfl).trans (ha { nt := 0, tmps := [], locs := [], fix := [] } [] .any rfl)) ?_
      refine f59_by n n t tl hlen T1 _ (fun y hy S => f59_ok n y S (hfl.kid hy) (by have := kid_size hy; omega) (by have := wt_kid hy; omega)) t.ts 0 n [] T1 .tight (by omega) (fun i => by rw [Nat.zero_add]) (by rw [Nat.zero_add]) rfl (GrowsT.start T1) ?_
      intro T2 tt hg2
      rw [List.nil_append] at hg2 ⊢
      refine ⟨_, rfl, _, _, rfl, ?_, rfl, rfl⟩
      rw [gt_eq]
      exact (strip_enc2 (.mk t.k t.n t.s false t.ls.isEmpty false t.ts.isEmpty t.ls (gts t.ts)) tl tt hg.strTok (by have := hg2.strTok; rw [this]; cases t.ts <;> simp [gts_nil, gts_cons, Tm.d]))
    obtain ⟨r, h1, v, S', rfl, h2, h3, h4⟩ := key
    exact run_tm h1 (by simp only [strips_t, strips_nil]) rfl rfl h3 h4 h2

end Go.Ev

/- The arena, in plain terms: numbers (own work). -/
namespace Go.Ev
open Go.Proofs Go.RowKit
set_option maxRecDepth 100000
set_option linter.unusedSimpArgs false
set_option linter.unusedVariables false
set_option maxHeartbeats 1000000

/-- What a term is made of has lesser numbers, or none. -/
def Wf (ks : List Ky) : Prop := ∀ (i : Nat) (k : Ky), ks[i]? = some k → (k.a < i ∨ k.a = 0) ∧ (k.b < i ∨ k.b = 0) ∧ (k.c < i ∨ k.c = 0)

theorem is_lt {ks : List Ky} {t : Tm} {i : Nat} (h : IsT ks t i) : i < ks.length := by
  rw [IsT_eq] at h
  obtain ⟨ids, h, _⟩ := h
  exact (List.getElem?_eq_some_iff.1 h).1

theorem iss_lt {ks : List Ky} : ∀ {ts : List Tm} {ids : List Nat}, IsTs ks ts ids → ∀ i ∈ ids, i < ks.length
  | [], ids, h, i, hi => by rw [IsTs_nil] at h; subst h; cases hi
  | t :: ts, ids, h, i, hi => by
    rw [IsTs_cons] at h
    obtain ⟨j, js, rfl, h1, h2⟩ := h
    cases hi with
    | head => exact is_lt h1
    | tail _ hi => exact iss_lt h2 i hi

theorem atI_lt {ids : List Nat} {n : Nat} (h : ∀ i ∈ ids, i < n) (j : Nat) : atI ids j < n ∨ atI ids j = 0 := by
  unfold atI
  cases hj : ids[j]? with
  | none => exact .inr rfl
  | some x =>
    have := h x (List.mem_of_getElem? hj)
    exact .inl (by simp only [Int.ofNat_eq_natCast]; omega)

theorem atI_get {ids : List Nat} {j x : Nat} (h : ids[j]? = some x) : atI ids j = x := by unfold atI; rw [h]; rfl

theorem put_wf (t : Tm) : ∀ {ks : List Ky}, Wf ks → Wf (putK t ks).2 := by
  induction t using Tm.ind with
  | h t ih =>
    intro ks h
    have key : ∀ (ts : List Tm), (∀ y ∈ ts, y ∈ t.ts) → ∀ {ks}, Wf ks → Wf (putKs ts ks).2 := by
      intro ts
      induction ts with
      | nil => intro _ ks h; rw [putKs_nil]; exact h
      | cons x ts ih2 =>
        intro hm ks h
        rw [putKs_cons]
        exact ih2 (fun y hy => hm y (List.mem_cons_of_mem _ hy)) (ih x (hm x List.mem_cons_self) h)
    have hk := key t.ts (fun _ h => h) h
    have hids := iss_lt (puts_is t.ts ks)
    rw [putK_eq]
    cases hi : idxK (kyOf t (atI (putKs t.ts ks).1 0) (atI (putKs t.ts ks).1 1) (atI (putKs t.ts ks).1 2)) (putKs t.ts ks).2 0 with
    | some j => exact hk
    | none =>
      intro i k hik
      simp only at hik
      by_cases hlt : i < (putKs t.ts ks).2.length
      · rw [List.getElem?_append_left hlt] at hik
        exact hk i k hik
      · rw [List.getElem?_append_right (by omega)] at hik
        have h0 : i - (putKs t.ts ks).2.length = 0 := by
          rcases Nat.eq_zero_or_pos (i - (putKs t.ts ks).2.length) with h | h
          · exact h
          · rw [List.getElem?_eq_none (by simp; omega)] at hik; cases hik
        rw [h0] at hik
        simp only [List.getElem?_cons_zero, Option.some.injEq] at hik
        subst hik
        have e : i = (putKs t.ts ks).2.length := by omega
        rw [e]
        exact ⟨atI_lt hids 0, atI_lt hids 1, atI_lt hids 2⟩

/-- What a term is made of has lesser numbers. -/
theorem kid_low {ks : List Ky} (hw : Wf ks) {t : Tm} {i d : Nat} {ids : List Nat} (hd : Dp t d) (h1 : ks[i]? = some (kyOf t (atI ids 0) (atI ids 1) (atI ids 2))) (h2 : IsTs ks t.ts ids) {j x : Nat} (hj : ids[j]? = some x) : x < i := by
  obtain ⟨d', rfl, hp, hkd⟩ := dp_node.1 hd
  have h3 := kids3 hp
  have hl := IsTs_len h2
  have hjl : j < ids.length := (List.getElem?_eq_some_iff.1 hj).1
  have ha := atI_get hj
  obtain ⟨wa, wb, wc⟩ := hw i _ h1
  have hx : (x : Int) < i ∨ (x : Int) = 0 := by
    rw [← ha]
    match j, hjl with
    | 0, _ => exact wa
    | 1, _ => exact wb
    | 2, _ => exact wc
    | j + 3, hjl => omega
  rcases hx with hx | hx
  · omega
  · rcases Nat.eq_zero_or_pos i with rfl | hi
    · exfalso
      have hx0 : x = 0 := by omega
      subst hx0
      have hyl : j < t.ts.length := by omega
      obtain ⟨i', e1, e2⟩ := IsTs_get h2 (List.getElem?_eq_getElem hyl)
      rw [hj] at e1
      cases e1
      have hm := List.getElem_mem hyl
      have := is_same t hd (hkd _ hm) ((IsT_eq _ _ _).2 ⟨ids, h1, h2⟩) e2
      have e3 : sizeT t = sizeT t.ts[j] := by rw [← size_nrm t, this, size_nrm]
      have := kid_size hm
      omega
    · omega

/-- Two terms have one number just if they are the same. -/
theorem num_same {ks : List Ky} (hn : ks.Nodup) {t u : Tm} {i j d e : Nat} (hd : Dp t d) (he : Dp u e) (h1 : IsT ks t i) (h2 : IsT ks u j) : sameT t u = decide (i = j) := by
  cases hs : sameT t u with
  | true => have := is_inj hn t h1 h2 (nrm_same t hs); rw [decide_eq_true this]
  | false =>
    by_cases hij : i = j
    · subst hij
      rw [same_nrm t (is_same t hd he h1 h2)] at hs
      cases hs
    · rw [decide_eq_false hij]

/-! ### The numbers of terms -/

def Num (ks : List Ky) (x : Tm) (v : Int) : Prop := (mayT x = true ∧ ∃ m : Nat, v = .ofNat m ∧ IsT ks x m) ∨ (mayT x = false ∧ v = -1)

def Nums (ks : List Ky) (l : List Tm) (nums : List Int) : Prop := ∀ (i : Nat) (x : Tm) (v : Int), l[i]? = some x → nums[i]? = some v → Num ks x v

theorem Num.more {ks : List Ky} (r : List Ky) {x : Tm} {v : Int} (h : Num ks x v) : Num (ks ++ r) x v := by
  rcases h with ⟨h1, m, h2, h3⟩ | h
  · exact .inl ⟨h1, m, h2, IsT_more r x h3⟩
  · exact .inr h

theorem Nums.add {ks ks' : List Ky} {l : List Tm} {nums : List Int} {y : Tm} {v : Int} (h : Nums ks l nums) (hp : ∃ r, ks' = ks ++ r) (hy : l[nums.length]? = some y) (hv : Num ks' y v) : Nums ks' l (nums ++ [v]) := by
  obtain ⟨r, rfl⟩ := hp
  intro i x w hx hw
  by_cases hlt : i < nums.length
  · rw [List.getElem?_append_left hlt] at hw
    exact (h i x w hx hw).more r
  · rw [List.getElem?_append_right (by omega)] at hw
    have h0 : i - nums.length = 0 := by
      rcases Nat.eq_zero_or_pos (i - nums.length) with h | h
      · exact h
      · rw [List.getElem?_eq_none (by simp; omega)] at hw; cases hw
    rw [h0] at hw
    simp only [List.getElem?_cons_zero, Option.some.injEq] at hw
    subst hw
    have e : i = nums.length := by omega
    rw [e, hy] at hx
    cases hx
    exact hv

theorem kids_get {ks : List Ky} {t : Tm} {i : Nat} (h : IsT ks t i) : ∃ ids, ks[i]? = some (kyOf t (atI ids 0) (atI ids 1) (atI ids 2)) ∧ IsTs ks t.ts ids := (IsT_eq _ _ _).1 h

/-! ### Numbers in a list -/

@[reducible] noncomputable def intV (v : Int) : V := .agg [.int .i64 v]
noncomputable def szI (nums : List Int) : Nat := match nums with | [] => 0 | _ :: _ => 1

theorem ints_len (nums : List Int) : lenN (nums.map intV) = nums.length := by rw [lenN_eq, List.length_map]

theorem index75 {nums : List Int} {tok : Tok} {j : Nat} {v : Int} (h : nums[j]? = some v) : indexAddr Try.cfg 75 (.list (szI nums) tok 0 (nums.map intV)) (.int .i64 (.ofNat j)) = some (.imm 0 [.int .i64 v]) := by
  have hj : j < nums.length := (List.getElem?_eq_some_iff.1 h).1
  have hs : szI nums = 1 := by
    cases nums with
    | nil => simp at h
    | cons y l => rfl
  rw [hs]
  show (match below (.int .i64 (.ofNat j)) (lenN (nums.map intV)) with
    | some i => match nth (nums.map intV) i with
      | some r => bif Nat.beq 1 1 then some (V.imm 0 r.cells) else none
      | none => none
    | none => none) = _
  rw [ints_len, below_of hj]
  simp only
  rw [nth_eq, List.getElem?_map, h]
  rfl

theorem app75 {T0 T : List Nat} {ac : Acc} {nums : List Int} {tok : Tok} (v : Int) (hac : ac.heap = true) (hg : GrowsT T0 T nums tok) (hlen : nums.length < 1000000000) :
    ∃ T' tok', (∀ (A : Env) (H : List Blk), append Try.cfg A { heap := H, toks := T } ac 75 (.list (szI nums) tok 0 (nums.map intV)) (.list 1 .tight 0 [intV v]) = some (.list (szI (nums ++ [v])) tok' 0 ((nums ++ [v]).map intV), { heap := H, toks := T' })) ∧
      GrowsT T0 T' (nums ++ [v]) tok' ∧ Tk T tok T' tok' := by
  obtain ⟨h0, hg⟩ := hg
  rcases hg with ⟨rfl, rfl⟩ | ⟨t, rfl, h1, h2, h3⟩
  · refine ⟨appN T [1], .own (lenN T), fun A H => ?_, ⟨⟨?_, ?_⟩, .inr ⟨_, rfl, ?_, ?_, by simp⟩⟩, ⟨by rw [appN_eq]; simp, fun u v _ hv => ?_, .inr ⟨rfl, _, rfl, by rw [lenN_eq]; exact Nat.le_refl _⟩⟩⟩
    · show (ite _ _ _) = _
      refine (if_pos ?_).trans ?_
      · exact (⟨by omega, .inl rfl, by omega, hac⟩ : 0 < 1 ∧ (true = true ∨ 0 = 1) ∧ (0 + 1) * 9 ≤ 140737488355328 ∧ ac.heap = true)
      · rfl
    · rw [appN_eq]; have := h0.1; simp; omega
    · intro t v hv
      have hv' := h0.2 t v hv
      rw [nth_eq] at hv'
      rw [appN_eq, nth_eq, List.getElem?_append_left (List.getElem?_eq_some_iff.1 hv').1]; exact hv'
    · rw [lenN_eq]; exact h0.1
    · rw [appN_eq, nth_eq, lenN_eq, List.getElem?_append_right (Nat.le_refl _), Nat.sub_self]; rfl
    · have := nth_len hv
      rw [nth_eq] at hv
      rw [appN_eq, nth_eq, List.getElem?_append_left this]; exact hv
  · have hsz : szI nums = 1 := by
      cases nums with
      | nil => exact absurd rfl h3
      | cons d ds => rfl
    have hsz2 : szI (nums ++ [v]) = 1 := by
      cases nums with
      | nil => exact absurd rfl h3
      | cons d ds => rfl
    refine ⟨setN T t (lenN (nums.map intV) + 1), .own t, fun A H => ?_, ⟨⟨?_, ?_⟩, .inr ⟨t, rfl, h1, ?_, by simp⟩⟩, ⟨by rw [setN_eq]; simp, fun u v hu hv => ?_, .inl rfl⟩⟩
    · rw [hsz, hsz2]
      show (ite _ _ _) = _
      refine (if_pos ?_).trans ?_
      · exact (⟨by omega, .inr rfl, by rw [ints_len]; omega, hac⟩ : 0 < 1 ∧ ((nums.map intV).isEmpty = true ∨ 1 = 1) ∧ (lenN (nums.map intV) + 1) * 9 ≤ 140737488355328 ∧ ac.heap = true)
      show (ite _ _ _) = _
      refine (if_pos ?_).trans ?_
      · show nth T t = some (lenN (nums.map intV))
        rw [ints_len]; exact h2
      · rw [show (nums ++ [v]).map intV = appN (nums.map intV) [intV v] by rw [appN_eq, List.map_append]; rfl]
        rfl
    · rw [setN_eq, List.length_set]; exact h0.1
    · intro t' v hv
      have := nth_len hv
      rw [setN_eq, nth_eq, List.getElem?_set_ne (by omega), ← nth_eq]; exact h0.2 t' v hv
    · rw [setN_eq, nth_eq, List.getElem?_set_self (by exact nth_len h2), ints_len]; simp
    · have hne : t ≠ u := fun e => hu (by rw [e])
      rw [setN_eq, nth_eq, List.getElem?_set_ne hne, ← nth_eq]; exact hv

end Go.Ev

/- The arena: Find, Kids (written by tnn.py; own work). -/
namespace Go.Ev
open Go.Proofs Go.RowKit
set_option maxRecDepth 100000
set_option linter.unusedSimpArgs false
set_option linter.unusedVariables false
set_option maxHeartbeats 4000000

theorem idx_at {ks : List Ky} (hn : ks.Nodup) {k : Ky} {i : Nat} (h : ks[i]? = some k) : idxK k ks 0 = some i := by
  cases hi : idxK k ks 0 with
  | some j =>
    obtain ⟨_, _, h3⟩ := idxK_lt hi
    rw [Nat.sub_zero] at h3
    rw [(List.getElem?_inj (List.getElem?_eq_some_iff.1 h).1 hn).1 (h.trans h3.symm)]
  | none => exact absurd (List.mem_of_getElem? h) (idxK_none hi)

theorem few4 {ls : List Lv} (h : ls.length ≤ 4) : iLt 4 (.ofNat (lenN (ls.map enc))) = false := by rw [iLt_not, lenN_eq, List.length_map]; simp only [Int.ofNat_eq_natCast]; omega

/-- What Find gives. -/
def Finds (N : Nat) (t : Tm) (i : Nat) (ns : List Nd) (tok : Tok) (J : List Blk) (T : List Nat) : Prop :=
  run Try.cfg N (.f 60) [.ptr (.box 1) 0, encA t] (arS ns tok J T) = some (.tuple [.int .i64 (.ofNat i), .bool true], arS ns tok J T)

theorem find_0 (n : Nat) (k nn : Int) (s : List UInt8) (fa fb fc fd : Bool) (ls : List Lv) (hls : ls.length ≤ 4) (ns : List Nd) (tok : Tok) (J : List Blk) (T : List Nat) (i : Nat) (nd : Nd) (hi : idxK (kyOf (.mk k nn s fa fb fc fd ls []) 0 0 0) (ns.map Nd.key) 0 = some i) (hnd : ns[i]? = some nd) (hk : nd.kids = 0) :
    Finds (n + 11) (.mk k nn s fa fb fc fd ls []) i ns tok J T := by
  refine run_here rfl ?_
  refine frame_of Try.cfg _ (fn := Try.f60) rfl rfl ?_
  refine WOut.mk _ rfl ?_
  refine WCmp.no rfl ?_
  refine WCmp.no (few4 hls) ?_
  refine WCode.round (nt := 75) (fx := []) ?_
  refine WCmp.no rfl ?_
  refine WCall.mk _ _ (f105_ok (n + 9) (.mk k nn s fa fb fc fd ls []) 0 0 0 St.empty hls) ?_
  refine WOut.mk _ (look_yes rfl hi) ?_
  refine WOut.mk _ (index105 hnd) ?_
  refine WCmp.no (by show (!iEq (.ofNat nd.kids) _) = false; rw [hk]; rfl) ?_
  rfl

theorem find_1 (n : Nat) (k nn : Int) (s : List UInt8) (fa fb fc fd : Bool) (ls : List Lv) (x0 : Tm) (hls : ls.length ≤ 4) (ns : List Nd) (tok : Tok) (J : List Blk) (T : List Nat) (i0 : Nat) (r0 : Finds (n + 10) x0 i0 ns tok J T) (i : Nat) (nd : Nd) (hi : idxK (kyOf (.mk k nn s fa fb fc fd ls [x0]) (.ofNat i0) 0 0) (ns.map Nd.key) 0 = some i) (hnd : ns[i]? = some nd) (hk : nd.kids = 1) :
    Finds (n + 11) (.mk k nn s fa fb fc fd ls [x0]) i ns tok J T := by
  refine run_here rfl ?_
  refine frame_of Try.cfg _ (fn := Try.f60) rfl rfl ?_
  refine WOut.mk _ rfl ?_
  refine WCmp.no rfl ?_
  refine WCmp.no (few4 hls) ?_
  refine WCode.round (nt := 75) (fx := []) ?_
  refine WCmp.yes rfl ?_
  refine WOut.mk _ (index44 (j := 0) (x := x0) rfl) ?_
  refine WCall.mk _ _ r0 ?_
  refine WOut.mk _ rfl ?_
  refine WOut.mk _ rfl ?_
  refine WCode.round (nt := 75) (fx := []) ?_
  refine WCmp.no rfl ?_
  refine WCall.mk _ _ (f105_ok (n + 9) (.mk k nn s fa fb fc fd ls [x0]) (.ofNat i0) 0 0 St.empty hls) ?_
  refine WOut.mk _ (look_yes rfl hi) ?_
  refine WOut.mk _ (index105 hnd) ?_
  refine WCmp.no (by show (!iEq (.ofNat nd.kids) _) = false; rw [hk]; rfl) ?_
  rfl

theorem find_2 (n : Nat) (k nn : Int) (s : List UInt8) (fa fb fc fd : Bool) (ls : List Lv) (x0 x1 : Tm) (hls : ls.length ≤ 4) (ns : List Nd) (tok : Tok) (J : List Blk) (T : List Nat) (i0 : Nat) (r0 : Finds (n + 10) x0 i0 ns tok J T) (i1 : Nat) (r1 : Finds (n + 10) x1 i1 ns tok J T) (i : Nat) (nd : Nd) (hi : idxK (kyOf (.mk k nn s fa fb fc fd ls [x0, x1]) (.ofNat i0) (.ofNat i1) 0) (ns.map Nd.key) 0 = some i) (hnd : ns[i]? = some nd) (hk : nd.kids = 2) :
    Finds (n + 11) (.mk k nn s fa fb fc fd ls [x0, x1]) i ns tok J T := by
  refine run_here rfl ?_
  refine frame_of Try.cfg _ (fn := Try.f60) rfl rfl ?_
  refine WOut.mk _ rfl ?_
  refine WCmp.no rfl ?_
  refine WCmp.no (few4 hls) ?_
  refine WCode.round (nt := 75) (fx := []) ?_
  refine WCmp.yes rfl ?_
  refine WOut.mk _ (index44 (j := 0) (x := x0) rfl) ?_
  refine WCall.mk _ _ r0 ?_
  refine WOut.mk _ rfl ?_
  refine WOut.mk _ rfl ?_
  refine WCode.round (nt := 75) (fx := []) ?_
  refine WCmp.yes rfl ?_
  refine WOut.mk _ (index44 (j := 1) (x := x1) rfl) ?_
  refine WCall.mk _ _ r1 ?_
  refine WOut.mk _ rfl ?_
  refine WOut.mk _ rfl ?_
  refine WCode.round (nt := 75) (fx := []) ?_
  refine WCmp.no rfl ?_
  refine WCall.mk _ _ (f105_ok (n + 9) (.mk k nn s fa fb fc fd ls [x0, x1]) (.ofNat i0) (.ofNat i1) 0 St.empty hls) ?_
  refine WOut.mk _ (look_yes rfl hi) ?_
  refine WOut.mk _ (index105 hnd) ?_
  refine WCmp.no (by show (!iEq (.ofNat nd.kids) _) = false; rw [hk]; rfl) ?_
  rfl

theorem find_3 (n : Nat) (k nn : Int) (s : List UInt8) (fa fb fc fd : Bool) (ls : List Lv) (x0 x1 x2 : Tm) (hls : ls.length ≤ 4) (ns : List Nd) (tok : Tok) (J : List Blk) (T : List Nat) (i0 : Nat) (r0 : Finds (n + 10) x0 i0 ns tok J T) (i1 : Nat) (r1 : Finds (n + 10) x1 i1 ns tok J T) (i2 : Nat) (r2 : Finds (n + 10) x2 i2 ns tok J T) (i : Nat) (nd : Nd) (hi : idxK (kyOf (.mk k nn s fa fb fc fd ls [x0, x1, x2]) (.ofNat i0) (.ofNat i1) (.ofNat i2)) (ns.map Nd.key) 0 = some i) (hnd : ns[i]? = some nd) (hk : nd.kids = 3) :
    Finds (n + 11) (.mk k nn s fa fb fc fd ls [x0, x1, x2]) i ns tok J T := by
  refine run_here rfl ?_
  refine frame_of Try.cfg _ (fn := Try.f60) rfl rfl ?_
  refine WOut.mk _ rfl ?_
  refine WCmp.no rfl ?_
  refine WCmp.no (few4 hls) ?_
  refine WCode.round (nt := 75) (fx := []) ?_
  refine WCmp.yes rfl ?_
  refine WOut.mk _ (index44 (j := 0) (x := x0) rfl) ?_
  refine WCall.mk _ _ r0 ?_
  refine WOut.mk _ rfl ?_
  refine WOut.mk _ rfl ?_
  refine WCode.round (nt := 75) (fx := []) ?_
  refine WCmp.yes rfl ?_
  refine WOut.mk _ (index44 (j := 1) (x := x1) rfl) ?_
  refine WCall.mk _ _ r1 ?_
  refine WOut.mk _ rfl ?_
  refine WOut.mk _ rfl ?_
  refine WCode.round (nt := 75) (fx := []) ?_
  refine WCmp.yes rfl ?_
  refine WOut.mk _ (index44 (j := 2) (x := x2) rfl) ?_
  refine WCall.mk _ _ r2 ?_
  refine WOut.mk _ rfl ?_
  refine WOut.mk _ rfl ?_
  refine WCode.round (nt := 75) (fx := []) ?_
  refine WCmp.no rfl ?_
  refine WCall.mk _ _ (f105_ok (n + 9) (.mk k nn s fa fb fc fd ls [x0, x1, x2]) (.ofNat i0) (.ofNat i1) (.ofNat i2) St.empty hls) ?_
  refine WOut.mk _ (look_yes rfl hi) ?_
  refine WOut.mk _ (index105 hnd) ?_
  refine WCmp.no (by show (!iEq (.ofNat nd.kids) _) = false; rw [hk]; rfl) ?_
  rfl

theorem f60_ok {ns : List Nd} {tok : Tok} {J : List Blk} {T : List Nat} (hko : KO ns) (hnd : (ns.map Nd.key).Nodup) : ∀ (n : Nat) (t : Tm) (i d : Nat), Dp t d → wt t < n → IsT (ns.map Nd.key) t i → Finds (n + 10) t i ns tok J T
  | 0, t, i, d, _, h, _ => by omega
  | n + 1, t, i, d, hd, h, hi => by
    obtain ⟨d', rfl, hp, hkd⟩ := dp_node.1 hd
    have hls := node_levels hp
    have hk := node_kids hp
    have h3 := kids3 hp
    rw [IsT_eq] at hi
    obtain ⟨ids, h1, h2⟩ := hi
    have hidx := idx_at hnd h1
    have hl := IsTs_len h2
    have ih : ∀ j x, t.ts[j]? = some x → ∃ i', ids[j]? = some i' ∧ Finds (n + 10) x i' ns tok J T := fun j x hj => by
      obtain ⟨i', e1, e2⟩ := IsTs_get h2 hj
      have hm := List.mem_of_getElem? hj
      exact ⟨i', e1, f60_ok hko hnd n x i' d' (hkd x hm) (by have := wt_kid hm; omega) e2⟩
    rw [List.getElem?_map] at h1
    obtain ⟨nd, hn, hkey⟩ : ∃ nd, ns[i]? = some nd ∧ nd.key = kyOf t (atI ids 0) (atI ids 1) (atI ids 2) := by
      cases hn : ns[i]? with
      | none => rw [hn] at h1; cases h1
      | some nd => rw [hn] at h1; exact ⟨nd, rfl, by simpa using h1⟩
    have hkk := hko nd (List.mem_of_getElem? hn)
    rw [hkey] at hkk
    have hkids : nd.kids = t.ts.length := by
      have : (Int.ofNat nd.kids) = Int.ofNat t.ts.length := hkk.trans hk.symm
      exact Int.ofNat.inj this
    obtain ⟨k, nn, s, fa, fb, fc, fd, ls, ts⟩ := t
    match ts, ids, h3, hl, ih, hidx, hkids with
    | [], [], _, _, _, hidx, hkids => exact find_0 n k nn s fa fb fc fd ls hls ns tok J T i nd hidx hn hkids
    | [x0], [i0], _, _, ih, hidx, hkids =>
      obtain ⟨j0, e0, g0⟩ := ih 0 x0 rfl
      cases e0
      exact find_1 n k nn s fa fb fc fd ls x0 hls ns tok J T i0 g0 i nd hidx hn hkids
    | [x0, x1], [i0, i1], _, _, ih, hidx, hkids =>
      obtain ⟨j0, e0, g0⟩ := ih 0 x0 rfl
      obtain ⟨j1, e1, g1⟩ := ih 1 x1 rfl
      cases e0
      cases e1
      exact find_2 n k nn s fa fb fc fd ls x0 x1 hls ns tok J T i0 g0 i1 g1 i nd hidx hn hkids
    | [x0, x1, x2], [i0, i1, i2], _, _, ih, hidx, hkids =>
      obtain ⟨j0, e0, g0⟩ := ih 0 x0 rfl
      obtain ⟨j1, e1, g1⟩ := ih 1 x1 rfl
      obtain ⟨j2, e2, g2⟩ := ih 2 x2 rfl
      cases e0
      cases e1
      cases e2
      exact find_3 n k nn s fa fb fc fd ls x0 x1 x2 hls ns tok J T i0 g0 i1 g1 i2 g2 i nd hidx hn hkids
    | _ :: _ :: _ :: _ :: _, _, h3, _, _, _, _ => simp only [Tm.ts, List.length_cons] at h3; omega

theorem f106_0 (n : Nat)  (x : Nd)  (ns : List Nd) (tok : Tok) (J M : List Blk) (T : List Nat) :
    run Try.cfg (n + 1) (.f 106) [.slc (.box (lenN J + 1 + 1)) 24 1 0 3] (arS ns tok (appN J (.cells 112 (ndC x) :: M)) T) = some (.list 1 .tight 0 [], arS ns tok (appN J (.cells 112 (ndC x) :: M)) T) := by
  have e : ∀ A : Env, rowsIn A (arS ns tok (appN J (.cells 112 (ndC x) :: M)) T) .any 1 (.slc (.box (lenN J + 1 + 1)) 24 1 0 3) = some (0, ([] : List Int).map intV) := fun A => by
    unfold rowsIn
    dsimp only
    rw [rd_box]
    rfl
  refine run_here rfl ?_
  refine frame_of Try.cfg _ (fn := Try.f106) rfl rfl ?_
  refine WApp.mk _ _ (show _ = some ((V.list 1 .tight 0 []), arS ns tok (appN J (.cells 112 (ndC x) :: M)) T) from ?_) ?_
  · unfold append
    rw [show Try.cfg.ti 75 = some Try.ti75 from rfl]
    dsimp only [Try.ti75]
    rw [show Try.cfg.ti 3 = some Try.ti3 from rfl]
    dsimp only
    rw [show Try.ti3.size = 1 from rfl, e]
    rfl
  · rfl

theorem f106_1 (n : Nat) (a : Nat) (x : Nd) (ha : x.key.a = .ofNat a) (ns : List Nd) (tok : Tok) (J M : List Blk) (T : List Nat) :
    run Try.cfg (n + 1) (.f 106) [.slc (.box (lenN J + 1 + 1)) 24 1 1 3] (arS ns tok (appN J (.cells 112 (ndC x) :: M)) T) = some (.list 1 (.own (lenN T)) 0 (([(.ofNat a)] : List Int).map intV), arS ns tok (appN J (.cells 112 (ndC x) :: M)) (appN T [1])) := by
  have e : ∀ A : Env, rowsIn A (arS ns tok (appN J (.cells 112 (ndC x) :: M)) T) .any 1 (.slc (.box (lenN J + 1 + 1)) 24 1 1 3) = some (0, ([(.ofNat a)] : List Int).map intV) := fun A => by
    unfold rowsIn
    dsimp only
    rw [rd_box]
    rw [← ha]
    rfl
  refine run_here rfl ?_
  refine frame_of Try.cfg _ (fn := Try.f106) rfl rfl ?_
  refine WApp.mk _ _ (show _ = some ((V.list 1 (.own (lenN T)) 0 (([(.ofNat a)] : List Int).map intV)), arS ns tok (appN J (.cells 112 (ndC x) :: M)) (appN T [1])) from ?_) ?_
  · unfold append
    rw [show Try.cfg.ti 75 = some Try.ti75 from rfl]
    dsimp only [Try.ti75]
    rw [show Try.cfg.ti 3 = some Try.ti3 from rfl]
    dsimp only
    rw [show Try.ti3.size = 1 from rfl, e]
    rfl
  · rfl

theorem f106_2 (n : Nat) (a b : Nat) (x : Nd) (ha : x.key.a = .ofNat a) (hb : x.key.b = .ofNat b) (ns : List Nd) (tok : Tok) (J M : List Blk) (T : List Nat) :
    run Try.cfg (n + 1) (.f 106) [.slc (.box (lenN J + 1 + 1)) 24 1 2 3] (arS ns tok (appN J (.cells 112 (ndC x) :: M)) T) = some (.list 1 (.own (lenN T)) 0 (([(.ofNat a), (.ofNat b)] : List Int).map intV), arS ns tok (appN J (.cells 112 (ndC x) :: M)) (appN T [2])) := by
  have e : ∀ A : Env, rowsIn A (arS ns tok (appN J (.cells 112 (ndC x) :: M)) T) .any 1 (.slc (.box (lenN J + 1 + 1)) 24 1 2 3) = some (0, ([(.ofNat a), (.ofNat b)] : List Int).map intV) := fun A => by
    unfold rowsIn
    dsimp only
    rw [rd_box]
    rw [← ha, ← hb]
    rfl
  refine run_here rfl ?_
  refine frame_of Try.cfg _ (fn := Try.f106) rfl rfl ?_
  refine WApp.mk _ _ (show _ = some ((V.list 1 (.own (lenN T)) 0 (([(.ofNat a), (.ofNat b)] : List Int).map intV)), arS ns tok (appN J (.cells 112 (ndC x) :: M)) (appN T [2])) from ?_) ?_
  · unfold append
    rw [show Try.cfg.ti 75 = some Try.ti75 from rfl]
    dsimp only [Try.ti75]
    rw [show Try.cfg.ti 3 = some Try.ti3 from rfl]
    dsimp only
    rw [show Try.ti3.size = 1 from rfl, e]
    rfl
  · rfl

theorem f106_3 (n : Nat) (a b c : Nat) (x : Nd) (ha : x.key.a = .ofNat a) (hb : x.key.b = .ofNat b) (hc : x.key.c = .ofNat c) (ns : List Nd) (tok : Tok) (J M : List Blk) (T : List Nat) :
    run Try.cfg (n + 1) (.f 106) [.slc (.box (lenN J + 1 + 1)) 24 1 3 3] (arS ns tok (appN J (.cells 112 (ndC x) :: M)) T) = some (.list 1 (.own (lenN T)) 0 (([(.ofNat a), (.ofNat b), (.ofNat c)] : List Int).map intV), arS ns tok (appN J (.cells 112 (ndC x) :: M)) (appN T [3])) := by
  have e : ∀ A : Env, rowsIn A (arS ns tok (appN J (.cells 112 (ndC x) :: M)) T) .any 1 (.slc (.box (lenN J + 1 + 1)) 24 1 3 3) = some (0, ([(.ofNat a), (.ofNat b), (.ofNat c)] : List Int).map intV) := fun A => by
    unfold rowsIn
    dsimp only
    rw [rd_box]
    rw [← ha, ← hb, ← hc]
    rfl
  refine run_here rfl ?_
  refine frame_of Try.cfg _ (fn := Try.f106) rfl rfl ?_
  refine WApp.mk _ _ (show _ = some ((V.list 1 (.own (lenN T)) 0 (([(.ofNat a), (.ofNat b), (.ofNat c)] : List Int).map intV)), arS ns tok (appN J (.cells 112 (ndC x) :: M)) (appN T [3])) from ?_) ?_
  · unfold append
    rw [show Try.cfg.ti 75 = some Try.ti75 from rfl]
    dsimp only [Try.ti75]
    rw [show Try.cfg.ti 3 = some Try.ti3 from rfl]
    dsimp only
    rw [show Try.ti3.size = 1 from rfl, e]
    rfl
  · rfl

theorem ExtT.more (T l : List Nat) : ExtT T (appN T l) := by
  refine ⟨by rw [appN_eq]; simp, fun t v hv => ?_⟩
  rw [nth_eq] at hv
  rw [appN_eq, nth_eq, List.getElem?_append_left (List.getElem?_eq_some_iff.1 hv).1]; exact hv

/-- What Kids gives. -/
def KidsOf (N : Nat) (i : Nat) (ids : List Nat) (ns : List Nd) (tok : Tok) (J : List Blk) (T : List Nat) : Prop :=
  ∃ J' T' sz tk, ExtT T T' ∧ (ids ≠ [] → sz = 1) ∧ run Try.cfg N (.f 61) [.ptr (.box 1) 0, .int .i64 (.ofNat i)] (arS ns tok J T) = some (.tuple [.list sz tk 0 (ids.map (fun x => intV (.ofNat x))), .int .i64 0], arS ns tok (appN J J') T')

theorem kids_0 (n : Nat)  (nd : Nd)  (hk : nd.kids = 0) (ns : List Nd) (tok : Tok) (J : List Blk) (T : List Nat) (i : Nat) (hnd : ns[i]? = some nd) : KidsOf (n + 6) i [] ns tok J T := by
  have key : ∃ r, frame Try.cfg (run Try.cfg (n + 5)) (n + 5) 61 [.ptr (.box 1) 0, .int .i64 (.ofNat i)] (arS ns tok J T) = some r ∧
      ∃ J' T' sz tk, ExtT T T' ∧ (([] : List Nat) ≠ [] → sz = 1) ∧ r = (.tuple [.list sz tk 0 (([] : List Nat).map (fun x => intV (.ofNat x))), .int .i64 0], arS ns tok (appN J J') T') := by
    obtain ⟨ky, kd, sz, dp, fr⟩ := nd
    simp only at hk
    subst hk
    refine frame_some (fn := Try.f61) rfl rfl ?_
    refine WCall.mk _ _ (f97_there (n + 4) ns tok J T i (List.getElem?_eq_some_iff.1 hnd).1) ?_
    refine WCmp.no rfl ?_
    refine WOut.mk _ rfl ?_
    refine WOut.mk _ (index105 hnd) ?_
    refine WOut.mk _ rfl ?_
    refine WSto.mk _ _ (st_box rfl rfl) ?_
    refine WOut.mk _ (ld_box (M := []) rfl rfl rfl rfl) ?_
    refine WCall.mk _ _ (f106_0 (n + 4) _ ns tok J [] T) ?_
    exact ⟨_, rfl, [.cells 112 (ndC _)], _, _, _, ExtT.refl T, fun _ => rfl, rfl⟩
  obtain ⟨r, h1, J', T', sz, tk, h2, h3, rfl⟩ := key
  exact ⟨J', T', sz, tk, h2, h3, run_here rfl h1⟩

theorem kids_1 (n : Nat) (a : Nat) (nd : Nd) (ha : nd.key.a = .ofNat a) (hk : nd.kids = 1) (ns : List Nd) (tok : Tok) (J : List Blk) (T : List Nat) (i : Nat) (hnd : ns[i]? = some nd) : KidsOf (n + 6) i [a] ns tok J T := by
  have key : ∃ r, frame Try.cfg (run Try.cfg (n + 5)) (n + 5) 61 [.ptr (.box 1) 0, .int .i64 (.ofNat i)] (arS ns tok J T) = some r ∧
      ∃ J' T' sz tk, ExtT T T' ∧ (([a] : List Nat) ≠ [] → sz = 1) ∧ r = (.tuple [.list sz tk 0 (([a] : List Nat).map (fun x => intV (.ofNat x))), .int .i64 0], arS ns tok (appN J J') T') := by
    obtain ⟨ky, kd, sz, dp, fr⟩ := nd
    simp only at hk
    subst hk
    refine frame_some (fn := Try.f61) rfl rfl ?_
    refine WCall.mk _ _ (f97_there (n + 4) ns tok J T i (List.getElem?_eq_some_iff.1 hnd).1) ?_
    refine WCmp.no rfl ?_
    refine WOut.mk _ rfl ?_
    refine WOut.mk _ (index105 hnd) ?_
    refine WOut.mk _ rfl ?_
    refine WSto.mk _ _ (st_box rfl rfl) ?_
    refine WOut.mk _ (ld_box (M := []) rfl rfl rfl rfl) ?_
    refine WCall.mk _ _ (f106_1 (n + 4) a _ ha ns tok J [] T) ?_
    exact ⟨_, rfl, [.cells 112 (ndC _)], _, _, _, ExtT.more T _, fun _ => rfl, rfl⟩
  obtain ⟨r, h1, J', T', sz, tk, h2, h3, rfl⟩ := key
  exact ⟨J', T', sz, tk, h2, h3, run_here rfl h1⟩

theorem kids_2 (n : Nat) (a b : Nat) (nd : Nd) (ha : nd.key.a = .ofNat a) (hb : nd.key.b = .ofNat b) (hk : nd.kids = 2) (ns : List Nd) (tok : Tok) (J : List Blk) (T : List Nat) (i : Nat) (hnd : ns[i]? = some nd) : KidsOf (n + 6) i [a, b] ns tok J T := by
  have key : ∃ r, frame Try.cfg (run Try.cfg (n + 5)) (n + 5) 61 [.ptr (.box 1) 0, .int .i64 (.ofNat i)] (arS ns tok J T) = some r ∧
      ∃ J' T' sz tk, ExtT T T' ∧ (([a, b] : List Nat) ≠ [] → sz = 1) ∧ r = (.tuple [.list sz tk 0 (([a, b] : List Nat).map (fun x => intV (.ofNat x))), .int .i64 0], arS ns tok (appN J J') T') := by
    obtain ⟨ky, kd, sz, dp, fr⟩ := nd
    simp only at hk
    subst hk
    refine frame_some (fn := Try.f61) rfl rfl ?_
    refine WCall.mk _ _ (f97_there (n + 4) ns tok J T i (List.getElem?_eq_some_iff.1 hnd).1) ?_
    refine WCmp.no rfl ?_
    refine WOut.mk _ rfl ?_
    refine WOut.mk _ (index105 hnd) ?_
    refine WOut.mk _ rfl ?_
    refine WSto.mk _ _ (st_box rfl rfl) ?_
    refine WOut.mk _ (ld_box (M := []) rfl rfl rfl rfl) ?_
    refine WCall.mk _ _ (f106_2 (n + 4) a b _ ha hb ns tok J [] T) ?_
    exact ⟨_, rfl, [.cells 112 (ndC _)], _, _, _, ExtT.more T _, fun _ => rfl, rfl⟩
  obtain ⟨r, h1, J', T', sz, tk, h2, h3, rfl⟩ := key
  exact ⟨J', T', sz, tk, h2, h3, run_here rfl h1⟩

theorem kids_3 (n : Nat) (a b c : Nat) (nd : Nd) (ha : nd.key.a = .ofNat a) (hb : nd.key.b = .ofNat b) (hc : nd.key.c = .ofNat c) (hk : nd.kids = 3) (ns : List Nd) (tok : Tok) (J : List Blk) (T : List Nat) (i : Nat) (hnd : ns[i]? = some nd) : KidsOf (n + 6) i [a, b, c] ns tok J T := by
  have key : ∃ r, frame Try.cfg (run Try.cfg (n + 5)) (n + 5) 61 [.ptr (.box 1) 0, .int .i64 (.ofNat i)] (arS ns tok J T) = some r ∧
      ∃ J' T' sz tk, ExtT T T' ∧ (([a, b, c] : List Nat) ≠ [] → sz = 1) ∧ r = (.tuple [.list sz tk 0 (([a, b, c] : List Nat).map (fun x => intV (.ofNat x))), .int .i64 0], arS ns tok (appN J J') T') := by
    obtain ⟨ky, kd, sz, dp, fr⟩ := nd
    simp only at hk
    subst hk
    refine frame_some (fn := Try.f61) rfl rfl ?_
    refine WCall.mk _ _ (f97_there (n + 4) ns tok J T i (List.getElem?_eq_some_iff.1 hnd).1) ?_
    refine WCmp.no rfl ?_
    refine WOut.mk _ rfl ?_
    refine WOut.mk _ (index105 hnd) ?_
    refine WOut.mk _ rfl ?_
    refine WSto.mk _ _ (st_box rfl rfl) ?_
    refine WOut.mk _ (ld_box (M := []) rfl rfl rfl rfl) ?_
    refine WCall.mk _ _ (f106_3 (n + 4) a b c _ ha hb hc ns tok J [] T) ?_
    exact ⟨_, rfl, [.cells 112 (ndC _)], _, _, _, ExtT.more T _, fun _ => rfl, rfl⟩
  obtain ⟨r, h1, J', T', sz, tk, h2, h3, rfl⟩ := key
  exact ⟨J', T', sz, tk, h2, h3, run_here rfl h1⟩

theorem f61_ok {ns : List Nd} {tok : Tok} {J : List Blk} {T : List Nat} (hko : KO ns) (n : Nat) (t : Tm) (i d : Nat) (hd : Dp t d) (ids : List Nat) (h1 : (ns.map Nd.key)[i]? = some (kyOf t (atI ids 0) (atI ids 1) (atI ids 2))) (h2 : IsTs (ns.map Nd.key) t.ts ids) : KidsOf (n + 6) i ids ns tok J T := by
  obtain ⟨d', rfl, hp, hkd⟩ := dp_node.1 hd
  have hk := node_kids hp
  have h3 := kids3 hp
  have hl := IsTs_len h2
  rw [List.getElem?_map] at h1
  obtain ⟨nd, hn, hkey⟩ : ∃ nd, ns[i]? = some nd ∧ nd.key = kyOf t (atI ids 0) (atI ids 1) (atI ids 2) := by
    cases hn : ns[i]? with
    | none => rw [hn] at h1; cases h1
    | some nd => rw [hn] at h1; exact ⟨nd, rfl, by simpa using h1⟩
  have hkk := hko nd (List.mem_of_getElem? hn)
  rw [hkey] at hkk
  have hkids : nd.kids = ids.length := by
    have : (Int.ofNat nd.kids) = Int.ofNat t.ts.length := hkk.trans hk.symm
    rw [hl]
    exact Int.ofNat.inj this
  rw [← hl] at h3
  match ids, h3, hkids, hkey with
  | [], _, hkids, hkey => exact kids_0 n nd hkids ns tok J T i hn
  | [a], _, hkids, hkey => exact kids_1 n a nd (by rw [hkey]; rfl) hkids ns tok J T i hn
  | [a, b], _, hkids, hkey => exact kids_2 n a b nd (by rw [hkey]; rfl) (by rw [hkey]; rfl) hkids ns tok J T i hn
  | [a, b, c], _, hkids, hkey => exact kids_3 n a b c nd (by rw [hkey]; rfl) (by rw [hkey]; rfl) (by rw [hkey]; rfl) hkids ns tok J T i hn
  | _ :: _ :: _ :: _ :: _, h3, _, _ => simp only [List.length_cons] at h3; omega

end Go.Ev

/- ArenaSame: walked (own work). -/
namespace Go.Ev
open Go.Proofs Go.RowKit
set_option maxRecDepth 100000
set_option linter.unusedSimpArgs false
set_option linter.unusedVariables false
set_option maxHeartbeats 1000000

/-! ### An arena, and the numbers of what was put -/

structure As (l : List Tm) (ns : List Nd) (tok : Tok) (T : List Nat) (nums : List Int) (tk : Tok) : Prop where
  nd : (ns.map Nd.key).Nodup
  ko : KO ns
  wf : Wf (ns.map Nd.key)
  nm : Nums (ns.map Nd.key) l nums
  gn : GrowsT [] T ns tok
  ga : GrowsT [] T nums tk
  ap : ∀ u, tk = .own u → tok ≠ .own u

theorem nil_same (l : List Tm) : As l [] .tight [] [] .tight :=
  ⟨List.Pairwise.nil, (fun _ h => by cases h), (fun i k h => by simp at h), (fun i x v _ h => by simp at h), .start [], .start [], (fun _ h => by cases h)⟩

/-- A number more. -/
theorem As.num {l : List Tm} {ns : List Nd} {tok tk tk2 : Tok} {T T2 : List Nat} {nums : List Int} {y : Tm} {v : Int} (h : As l ns tok T nums tk) (hy : l[nums.length]? = some y) (hv : Num (ns.map Nd.key) y v)
    (g2 : GrowsT [] T2 (nums ++ [v]) tk2) (z2 : Tk T tk T2 tk2) : As l ns tok T2 (nums ++ [v]) tk2 :=
  ⟨h.nd, h.ko, h.wf, h.nm.add ⟨[], by simp⟩ hy hv, grow_keep h.gn z2 (fun u hu hv => h.ap u hv hu), g2, fun u hu hv => apart_keep h.gn z2 (fun u hu hv => h.ap u hv hu) u hv hu⟩

theorem Nums.more {ks : List Ky} (r : List Ky) {l : List Tm} {nums : List Int} (h : Nums ks l nums) : Nums (ks ++ r) l nums := fun i x v hx hv => (h i x v hx hv).more r

/-- A term put. -/
theorem As.put {l : List Tm} {ns ns' : List Nd} {tok tok' tk : Tok} {T T' : List Nat} {nums : List Int} {t : Tm} (h : As l ns tok T nums tk) (e1 : ns'.map Nd.key = (putK t (ns.map Nd.key)).2) (ko : KO ns') (g : GrowsT [] T' ns' tok') (z : Tk T tok T' tok') : As l ns' tok' T' nums tk := by
  obtain ⟨r, hr⟩ := (putK_more t (ns.map Nd.key)).2.pre
  exact ⟨by rw [e1]; exact put_nodup t h.nd, ko, by rw [e1]; exact put_wf t h.wf, by rw [e1, hr]; exact h.nm.more r, g, grow_keep h.ga z h.ap, apart_keep h.ga z h.ap⟩

theorem As.ext {l : List Tm} {ns : List Nd} {tok tk : Tok} {T T' : List Nat} {nums : List Int} (h : As l ns tok T nums tk) (e : ExtT T T') : As l ns tok T' nums tk :=
  ⟨h.nd, h.ko, h.wf, h.nm, h.gn.ext e, h.ga.ext e, h.ap⟩

/-! ### The walk -/

noncomputable def f12A : Code := loopN Try.f12 0
noncomputable def f12B : Code := loopN Try.f12 1
noncomputable def f12C : Code := ((loopsOf f12B)[0]?).getD .skip
noncomputable def f12D : Code := ((loopsOf f12B)[1]?).getD .skip

@[reducible] noncomputable def encN (nums : List Int) (tk : Tok) : V := .list (szI nums) tk 0 (nums.map intV)

theorem f12_a (N n k : Nat) (hn : N ≤ n) (l : List Tm) (hlen : l.length < 1000000000) (hl : ∀ x ∈ l, Sm x ∧ FewL x ∧ sizeT x < 1000000000 ∧ wt x < N) (K : Ex → Env → St → Prop) :
    ∀ (rem : List Tm) (f : Nat) (ns : List Nd) (tok : Tok) (T : List Nat) (nums : List Int) (tk : Tok), rem.length < f → (∀ i, rem[i]? = l[nums.length + i]?) → nums.length + rem.length = l.length → As l ns tok T nums tk → ns.length + sizeTs rem < 100000 →
    (∀ ns' tok' T' nums' tk', nums'.length = l.length → As l ns' tok' T' nums' tk' → ns'.length < 100000 → K (.exit 0) { nt := 211, tmps := [(0, .list (szOf true l) (tkOf false) 0 (encTs l)), (3, .ptr (.box 1) 0), (4, encN nums' tk'), (5, .int .i64 (.ofNat l.length)), (28, .bool false)], locs := [], fix := [] } (arS ns' tok' [] T')) →
    WCode (iter (evalCode Try.cfg (run Try.cfg (n + 20)) k 12 (Try.cfg.fc 12) f12A) f { nt := 211, tmps := [(0, .list (szOf true l) (tkOf false) 0 (encTs l)), (3, .ptr (.box 1) 0), (4, encN nums tk), (5, .int .i64 (.ofNat nums.length))], locs := [], fix := [] } (arS ns tok [] T)) K
  | [], f + 1, ns, tok, T, nums, tk, hf, hr, hj, ha, hz, hK => by
    have hjl : nums.length = l.length := by simpa using hj
    have hK := hK ns tok T nums tk hjl ha (by omega)
    rw [← hjl] at hK
    refine WCode.round (nt := 211) (fx := []) ?_
    refine WCmp.no (geLen (by omega)) ?_
    exact hK
  | y :: rem, f + 1, ns, tok, T, nums, tk, hf, hr, hj, ha, hz, hK => by
    have hb : l[nums.length]? = some y := by have := hr 0; simpa using this.symm
    have hjl : nums.length < l.length := (List.getElem?_eq_some_iff.1 hb).1
    obtain ⟨hs, hfl, hy, hw⟩ := hl y (List.mem_of_getElem? hb)
    obtain ⟨q1, q2, q3⟩ := gt_facts y
    have q4 : sizeT (gt y) = sizeT y := by rw [← size_nrm, q1, size_nrm]
    have h59 := fun S => f59_ok (n + 20) y S hfl hy (by omega)
    have h55 := fun S => r55_ok (n + 12) y S hs (by omega)
    rw [sizeTs_cons] at hz
    refine WCode.round (nt := 211) (fx := []) ?_
    refine WCmp.yes (ltLen hjl) ?_
    refine WOut.mk _ (index44 hb) ?_
    refine WCall.mk _ _ (h59 _) ?_
    cases hm : mayT y with
    | false =>
      obtain ⟨T2, tk2, hap, g2, z2⟩ := app75 (ac := .any) (-1) rfl ha.ga (by omega)
      have ha2 := ha.num hb (.inr ⟨hm, rfl⟩) g2 z2
      rw [hm] at h55
      refine WCall.mk _ _ (f48_no (n + 6) (gt y) ns tok [] T (q2 hs) (by rw [may_nrm q1]; exact hm) (by omega)) ?_
      refine WCmp.no rfl ?_
      refine WOut.mk _ (index44 hb) ?_
      refine WCall.mk _ _ (h55 _) ?_
      refine WOut.mk _ rfl ?_
      refine WCmp.yes rfl ?_
      refine WApp.mk _ _ ((append_env rfl).trans (hap { nt := 0, tmps := [], locs := [], fix := [] } _)) ?_
      refine WOut.mk _ (addOne (T := 3) (j := nums.length) (by omega)) ?_
      have e : nums.length + 1 = (nums ++ [(-1 : Int)]).length := by simp
      rw [e]
      exact f12_a N n k hn l hlen hl K rem f ns tok T2 (nums ++ [-1]) tk2 (by simp only [List.length_cons] at hf; omega) (fun i => by have := hr (i + 1); simp only [List.getElem?_cons_succ] at this; rw [this, ← e]; congr 1; omega) (by simp only [List.length_cons] at hj; rw [← e]; omega) ha2 (by omega) hK
    | true =>
      obtain ⟨ns1, T1, tok1, e1, ko1, g1, z1, r1⟩ := f48_yes (n + 6) (gt y) ns tok [] T (q2 hs) (by rw [may_nrm q1]; exact hm) (by omega) ha.gn (by omega) ha.ko
      have ha1 := ha.put e1 ko1 g1 z1
      obtain ⟨T2, tk2, hap, g2, z2⟩ := app75 (ac := .any) (.ofNat (putK (gt y) (ns.map Nd.key)).1) rfl ha1.ga (by omega)
      have hput : Num (ns1.map Nd.key) y (.ofNat (putK (gt y) (ns.map Nd.key)).1) := .inl ⟨hm, _, rfl, is_nrm (gt y) (by rw [e1]; exact put_is (gt y) _) q1⟩
      have ha2 := ha1.num hb hput g2 z2
      have hlen1 : ns1.length ≤ ns.length + sizeT y := by
        have := (putK_more (gt y) (ns.map Nd.key)).2.len
        have := len_keys e1
        rw [List.length_map] at *
        omega
      rw [hm] at h55
      refine WCall.mk _ _ r1 ?_
      refine WCmp.yes rfl ?_
      refine WOut.mk _ (index44 hb) ?_
      refine WCall.mk _ _ (h55 _) ?_
      refine WOut.mk _ rfl ?_
      refine WCmp.no rfl ?_
      refine WApp.mk _ _ ((append_env rfl).trans (hap { nt := 0, tmps := [], locs := [], fix := [] } _)) ?_
      refine WOut.mk _ (addOne (T := 3) (j := nums.length) (by omega)) ?_
      have e : nums.length + 1 = (nums ++ [(Int.ofNat (putK (gt y) (ns.map Nd.key)).1)]).length := by simp
      rw [e]
      exact f12_a N n k hn l hlen hl K rem f ns1 tok1 T2 (nums ++ [Int.ofNat (putK (gt y) (ns.map Nd.key)).1]) tk2 (by simp only [List.length_cons] at hf; omega) (fun i => by have := hr (i + 1); simp only [List.getElem?_cons_succ] at this; rw [this, ← e]; congr 1; omega) (by simp only [List.length_cons] at hj; rw [← e]; omega) ha2 (by omega) hK

@[reducible] noncomputable def cells2' (p : Tm × Tok × Tok) : List V := cells2 p.1 p.2.1 p.2.2
@[reducible] noncomputable def more12 : Option ((Tm × Tok × Tok) × Option (Tm × Tok × Tok)) → List (Nat × List V)
  | none => []
  | some (p, none) => [(9, cells2' p)]
  | some (p, some q) => [(9, cells2' p), (17, cells2' q)]

/-- Is what is got the same? -/
theorem same_got (n : Nat) {y : Tm} {tl tt : Tok} (hs : Sm y) (hy : sizeT y < 1000000000) (hw : wt y < n) (s1 : strTok tl = tkOf (gt y).b) (s2 : strTok tt = tkOf (gt y).d) : ∀ S, run Try.cfg n (.f 39) [.agg (cells2 (gt y) tl tt), encA y] S = some (.bool true, S) := fun S => by
  obtain ⟨q1, q2, q3⟩ := gt_facts y
  rw [run_strip (args' := [encA (gt y), encA y]) rfl rfl rfl (by show V.agg (mapN cellStrip (cells2 (gt y) tl tt)) :: mapN V.strip [encA y] = _; rw [strip_enc2 _ _ _ s1 s2, strips_t, strips_t, strips_t])]
  rw [r39_ok n (gt y) y S (q2 hs) (by rw [← size_nrm, q1, size_nrm]; omega) (by omega), same_nrm _ q1]

theorem f12_c (n k : Nat) (l : List Tm) (hlen : l.length < 1000000000) (hl : ∀ x ∈ l, Sm x ∧ sizeT x < 1000000000 ∧ wt x < n) (ns : List Nd) (tok : Tok) (J : List Blk) (T : List Nat) (nums : List Int) (tk : Tok) (hnl : nums.length = l.length) (ha : As l ns tok T nums tk)
    (i : Nat) (x : Tm) (hx : l[i]? = some x) (hmx : mayT x = true) (m : Nat) (hm : nums[i]? = some (.ofNat m)) (him : IsT (ns.map Nd.key) x m) (o : (Tm × Tok × Tok) × Option (Tm × Tok × Tok)) (K : Ex → Env → St → Prop)
    (hK : K (.exit 4) { nt := 211, tmps := [(0, .list (szOf true l) (tkOf false) 0 (encTs l)), (3, .ptr (.box 1) 0), (4, encN nums tk), (8, .int .i64 (.ofNat i)), (13, .int .i64 (.ofNat i)), (118, .bool false)], locs := more12 (some o), fix := [] } (arS ns tok J T)) :
    ∀ (rem j f : Nat), rem < f → j + rem = i →
    WCode (iter (evalCode Try.cfg (run Try.cfg (n + 20)) k 12 (Try.cfg.fc 12) f12C) f { nt := 211, tmps := [(0, .list (szOf true l) (tkOf false) 0 (encTs l)), (3, .ptr (.box 1) 0), (4, encN nums tk), (8, .int .i64 (.ofNat i)), (13, .int .i64 (.ofNat j))], locs := more12 (some o), fix := [] } (arS ns tok J T)) K := by
  have hil : i < l.length := (List.getElem?_eq_some_iff.1 hx).1
  intro rem
  induction rem with
  | zero =>
    intro j f hf hj
    obtain ⟨f, rfl⟩ : ∃ f', f = f' + 1 := ⟨f - 1, by omega⟩
    have hji : j = i := by omega
    subst hji
    obtain ⟨p, o2⟩ := o
    cases o2
    all_goals
      refine WCode.round (nt := 211) (fx := []) ?_
      refine WCmp.no (blt_no (by omega)) ?_
      exact hK
  | succ rem ih =>
    intro j f hf hj
    obtain ⟨f, rfl⟩ : ∃ f', f = f' + 1 := ⟨f - 1, by omega⟩
    have hji : j < i := by omega
    have hjl : j < l.length := by omega
    obtain ⟨y, hy⟩ : ∃ y, l[j]? = some y := ⟨_, List.getElem?_eq_getElem hjl⟩
    obtain ⟨v, hv⟩ : ∃ v, nums[j]? = some v := ⟨_, List.getElem?_eq_getElem (by omega)⟩
    have hnum := ha.nm j y v hy hv
    have hIH := ih (j + 1) f (by omega) (by omega)
    obtain ⟨hs, hz, hw⟩ := hl x (List.mem_of_getElem? hx)
    have h39 := fun S => r39_ok (n + 20) x y S hs hz (by omega)
    obtain ⟨p, o2⟩ := o
    rcases hnum with ⟨hmy, m', rfl, him'⟩ | ⟨hmy, rfl⟩
    · have hsame := num_same ha.nd (may_dp hmx) (may_dp hmy) him him'
      rw [hsame] at h39
      by_cases hmm : m = m'
      · rw [decide_eq_true hmm] at h39
        cases o2
        all_goals
          refine WCode.round (nt := 211) (fx := []) ?_
          refine WCmp.yes (blt_yes hji) ?_
          refine WOut.mk _ (index75 hv) ?_
          refine WCmp.yes (by show (!iLt (.ofNat m') 0) = true; rw [Bool.not_eq_true', iLt_not]; simp only [Int.ofNat_eq_natCast]; omega) ?_
          refine WOut.mk _ (index75 hm) ?_
          refine WOut.mk _ (index75 hv) ?_
          refine WCmp.yes (by show iEq (.ofNat m) (.ofNat m') = true; rw [iEq_nat, decide_eq_true hmm]) ?_
          refine WOut.mk _ (index44 hx) ?_
          refine WOut.mk _ (index44 hy) ?_
          refine WCall.mk _ _ (h39 _) ?_
          refine WOut.mk _ rfl ?_
          refine WOut.mk _ (addOne (T := 3) (j := j) (by omega)) ?_
          exact hIH
      · rw [decide_eq_false hmm] at h39
        cases o2
        all_goals
          refine WCode.round (nt := 211) (fx := []) ?_
          refine WCmp.yes (blt_yes hji) ?_
          refine WOut.mk _ (index75 hv) ?_
          refine WCmp.yes (by show (!iLt (.ofNat m') 0) = true; rw [Bool.not_eq_true', iLt_not]; simp only [Int.ofNat_eq_natCast]; omega) ?_
          refine WOut.mk _ (index75 hm) ?_
          refine WOut.mk _ (index75 hv) ?_
          refine WCmp.no (by show iEq (.ofNat m) (.ofNat m') = false; rw [iEq_nat, decide_eq_false hmm]) ?_
          refine WOut.mk _ (index44 hx) ?_
          refine WOut.mk _ (index44 hy) ?_
          refine WCall.mk _ _ (h39 _) ?_
          refine WOut.mk _ rfl ?_
          refine WOut.mk _ (addOne (T := 3) (j := j) (by omega)) ?_
          exact hIH
    · cases o2
      all_goals
        refine WCode.round (nt := 211) (fx := []) ?_
        refine WCmp.yes (blt_yes hji) ?_
        refine WOut.mk _ (index75 hv) ?_
        refine WCmp.no rfl ?_
        refine WOut.mk _ (addOne (T := 3) (j := j) (by omega)) ?_
        exact hIH

end Go.Ev

/- ArenaSame: walked and proved (own work). -/
namespace Go.Ev
open Go.Proofs Go.RowKit
set_option maxRecDepth 100000
set_option linter.unusedSimpArgs false
set_option linter.unusedVariables false
set_option maxHeartbeats 1000000

theorem ltNat {a b : Nat} (h : a < b) : iLt (.ofNat a) (.ofNat b) = true := blt_yes h

@[reducible] noncomputable def encK (sz : Nat) (tk : Tok) (ids : List Nat) : V := .list sz tk 0 (ids.map (fun x => intV (.ofNat x)))

theorem kids_len (ids : List Nat) : lenN (ids.map (fun x => intV (.ofNat x))) = ids.length := by rw [lenN_eq, List.length_map]

theorem index75k {ids : List Nat} {sz : Nat} {tok : Tok} {j v : Nat} (hsz : ids ≠ [] → sz = 1) (h : ids[j]? = some v) : indexAddr Try.cfg 75 (encK sz tok ids) (.int .i64 (.ofNat j)) = some (.imm 0 [.int .i64 (.ofNat v)]) := by
  have hj : j < ids.length := (List.getElem?_eq_some_iff.1 h).1
  have hs : sz = 1 := hsz (fun e => by rw [e] at h; simp at h)
  rw [hs]
  show (match below (.int .i64 (.ofNat j)) (lenN (ids.map (fun x => intV (.ofNat x)))) with
    | some i => match nth (ids.map (fun x => intV (.ofNat x))) i with
      | some r => bif Nat.beq 1 1 then some (V.imm 0 r.cells) else none
      | none => none
    | none => none) = _
  rw [kids_len, below_of hj]
  simp only
  rw [nth_eq, List.getElem?_map, h]
  rfl

theorem f12_d (n k : Nat) (l : List Tm) (hlen : l.length < 1000000000) (ns : List Nd) (tok : Tok) (nums : List Int) (tk : Tok)
    (i : Nat) (x : Tm) (hx : l[i]? = some x) (hmx : mayT x = true) (hsx : Sm x) (hzx : sizeT x < 1000000000) (hwx : wt x < n) (m : Nat) (hm : nums[i]? = some (.ofNat m)) (ids : List Nat) (hkey : (ns.map Nd.key)[m]? = some (kyOf x (atI ids 0) (atI ids 1) (atI ids 2))) (hids : IsTs (ns.map Nd.key) x.ts ids)
    (sz : Nat) (tkk : Tok) (hsz : ids ≠ [] → sz = 1) (p : Tm × Tok × Tok) (K : Ex → Env → St → Prop)
    (hK : ∀ J T q, As l ns tok T nums tk → K (.exit 6) { nt := 211, tmps := [(0, .list (szOf true l) (tkOf false) 0 (encTs l)), (3, .ptr (.box 1) 0), (4, encN nums tk), (8, .int .i64 (.ofNat i)), (14, encK sz tkk ids), (16, .int .i64 (.ofNat ids.length)), (172, .bool false)], locs := more12 (some (p, q)), fix := [] } (arS ns tok J T)) :
    ∀ (rem j f : Nat) (J : List Blk) (T : List Nat) (q : Option (Tm × Tok × Tok)), rem < f → j + rem = ids.length → As l ns tok T nums tk →
    WCode (iter (evalCode Try.cfg (run Try.cfg (n + 20)) k 12 (Try.cfg.fc 12) f12D) f { nt := 211, tmps := [(0, .list (szOf true l) (tkOf false) 0 (encTs l)), (3, .ptr (.box 1) 0), (4, encN nums tk), (8, .int .i64 (.ofNat i)), (14, encK sz tkk ids), (16, .int .i64 (.ofNat j))], locs := more12 (some (p, q)), fix := [] } (arS ns tok J T)) K := by
  intro rem
  induction rem with
  | zero =>
    intro j f J T q hf hj ha
    obtain ⟨f, rfl⟩ : ∃ f', f = f' + 1 := ⟨f - 1, by omega⟩
    have hji : j = ids.length := by omega
    subst hji
    have hK := hK J T q ha
    cases q
    all_goals
      refine WCode.round (nt := 211) (fx := []) ?_
      refine WCmp.no (by show iLt _ _ = false; rw [kids_len]; exact blt_no (by omega)) ?_
      exact hK
  | succ rem ih =>
    intro j f J T q hf hj ha
    obtain ⟨f, rfl⟩ : ∃ f', f = f' + 1 := ⟨f - 1, by omega⟩
    have hjl : j < ids.length := by omega
    have hl3 : ids.length < 1000000000 := by rw [IsTs_len hids]; have := sizeTs_len x.ts; rw [sizeT_eq] at hzx; omega
    obtain ⟨v, hv⟩ : ∃ v, ids[j]? = some v := ⟨_, List.getElem?_eq_getElem hjl⟩
    obtain ⟨y, hy⟩ : ∃ y, x.ts[j]? = some y := ⟨_, List.getElem?_eq_getElem (by rw [← IsTs_len hids]; exact hjl)⟩
    have hym := List.mem_of_getElem? hy
    have hiy : IsT (ns.map Nd.key) y v := by
      obtain ⟨v', e1, e2⟩ := IsTs_get hids hy
      rw [hv] at e1
      cases e1
      exact e2
    have hlow := kid_low ha.wf (may_dp hmx) hkey hids hv
    have hsy := ((Sm_iff x).1 hsx).2 y hym
    have hwy := wt_kid hym
    have hzy := kid_size hym
    obtain ⟨J', T', tl, tt, x2, s1, s2, r2⟩ := f51_ok (n + 14) y v 4096 ns tok J T ha.ko (may_dp (may_kid hmx hym)) (by omega) hiy
    have h39 := same_got (n + 20) hsy (by omega) (by omega) s1 s2
    have hIH := ih (j + 1) f (appN J J') T' (some (gt y, tl, tt)) (by omega) (by omega) (ha.ext x2)
    cases q
    all_goals
      refine WCode.round (nt := 211) (fx := []) ?_
      refine WCmp.yes (by show iLt _ _ = true; rw [kids_len]; exact blt_yes hjl) ?_
      refine WOut.mk _ (index75k hsz hv) ?_
      refine WCall.mk _ _ r2 ?_
      refine WCmp.no rfl ?_
      refine WOut.mk _ (index75k hsz hv) ?_
      refine WOut.mk _ (index75 hm) ?_
      refine WCmp.no (by show (!iLt (.ofNat v) (.ofNat m)) = false; rw [ltNat hlow]; rfl) ?_
      refine WOut.mk _ (index44 hx) ?_
      refine WOut.mk _ (index44 hy) ?_
      refine WCall.mk _ _ (h39 _) ?_
      refine WOut.mk _ (addOne (T := 3) (j := j) (by omega)) ?_
      exact hIH

theorem f12_b (n k : Nat) (hn : 100000 ≤ n) (l : List Tm) (hlen : l.length < 10000) (hl : ∀ x ∈ l, Sm x ∧ sizeT x < 1000000000 ∧ wt x < n) (ns : List Nd) (tok : Tok) (nums : List Int) (tk : Tok) (hnl : nums.length = l.length) (K : Ex → Env → St → Prop)
    (hK : ∀ J T o, K (.exit 2) { nt := 211, tmps := [(0, .list (szOf true l) (tkOf false) 0 (encTs l)), (3, .ptr (.box 1) 0), (4, encN nums tk), (8, .int .i64 (.ofNat l.length)), (58, .bool false)], locs := more12 o, fix := [] } (arS ns tok J T)) :
    ∀ (rem j f : Nat) (J : List Blk) (T : List Nat) (o : Option ((Tm × Tok × Tok) × Option (Tm × Tok × Tok))), rem < f → j + rem = l.length → As l ns tok T nums tk →
    WCode (iter (evalCode Try.cfg (run Try.cfg (n + 20)) (n + 20) 12 (Try.cfg.fc 12) f12B) f { nt := 211, tmps := [(0, .list (szOf true l) (tkOf false) 0 (encTs l)), (3, .ptr (.box 1) 0), (4, encN nums tk), (8, .int .i64 (.ofNat j))], locs := more12 o, fix := [] } (arS ns tok J T)) K := by
  intro rem
  induction rem with
  | zero =>
    intro j f J T o hf hj ha
    obtain ⟨f, rfl⟩ : ∃ f', f = f' + 1 := ⟨f - 1, by omega⟩
    have hji : j = l.length := by omega
    subst hji
    have hK := hK J T o
    rcases o with _ | ⟨p, _ | q⟩
    all_goals
      refine WCode.round (nt := 211) (fx := []) ?_
      refine WCmp.no (geLen (by omega)) ?_
      exact hK
  | succ rem ih =>
    intro j f J T o hf hj ha
    obtain ⟨f, rfl⟩ : ∃ f', f = f' + 1 := ⟨f - 1, by omega⟩
    have hjl : j < l.length := by omega
    obtain ⟨x, hx⟩ : ∃ x, l[j]? = some x := ⟨_, List.getElem?_eq_getElem hjl⟩
    obtain ⟨v, hv⟩ : ∃ v, nums[j]? = some v := ⟨_, List.getElem?_eq_getElem (by omega)⟩
    obtain ⟨hsx, hzx, hwx⟩ := hl x (List.mem_of_getElem? hx)
    rcases ha.nm j x v hx hv with ⟨hmx, m, rfl, him⟩ | ⟨hmx, rfl⟩
    · have hlow : m < ns.length := by have := is_lt him; rwa [List.length_map] at this
      obtain ⟨ids, hkey, hids⟩ := kids_get him
      obtain ⟨J1, T1, tl, tt, x1, s1, s2, r1⟩ := f51_ok (n + 14) x m 4096 ns tok J T ha.ko (may_dp hmx) (by omega) him
      have h39 := same_got (n + 20) hsx hzx (by omega) s1 s2
      have ha1 := ha.ext x1
      have h60 : run Try.cfg (n + 20) (.f 60) [.ptr (.box 1) 0, encA x] (arS ns tok (appN J J1) T1) = some (.tuple [.int .i64 (.ofNat m), .bool true], arS ns tok (appN J J1) T1) := f60_ok (tok := tok) (J := appN J J1) (T := T1) ha.ko ha.nd (n + 10) x m 4096 (may_dp hmx) (by omega) him
      obtain ⟨J2, T2, sz, tkk, x2, hsz, r2⟩ := f61_ok (tok := tok) (J := appN J J1) (T := T1) ha.ko (n + 14) x m 4096 (may_dp hmx) ids hkey hids
      have r2 : run Try.cfg (n + 20) (.f 61) [.ptr (.box 1) 0, .int .i64 (.ofNat m)] (arS ns tok (appN J J1) T1) = some (.tuple [encK sz tkk ids, .int .i64 0], arS ns tok (appN (appN J J1) J2) T2) := r2
      have ha2 := ha1.ext x2
      have hl3 : ids.length < 100000 := by rw [IsTs_len hids]; have := sizeTs_len x.ts; have := may_size hmx; rw [sizeT_eq] at this; omega
      have hIH := fun J T o h => ih (j + 1) f J T o (by omega) (by omega) h
      rcases o with _ | ⟨p, _ | q⟩
      · refine WCode.round (nt := 211) (fx := []) ?_
        refine WCmp.yes (ltLen hjl) ?_
        refine WOut.mk _ (index75 hv) ?_
        refine WCmp.no (by rw [iLt_not]; simp only [Int.ofNat_eq_natCast]; omega) ?_
        refine WOut.mk _ (index75 hv) ?_
        refine WCall.mk _ _ r1 ?_
        refine WOut.mk _ (index44 hx) ?_
        refine WCall.mk _ _ h60 ?_
        refine WCmp.no rfl ?_
        refine WOut.mk _ (index44 hx) ?_
        refine WCall.mk _ _ (h39 _) ?_
        refine WOut.mk _ (index75 hv) ?_
        refine WCmp.no (by show (!iEq _ _) = false; rw [iEq_same]; rfl) ?_
        refine WOut.mk _ (index75 hv) ?_
        refine WCall.mk _ _ (f50_ok (n + 19) ns tok (appN J J1) T1) ?_
        refine WCmp.no (by show (!iLt _ _) = false; rw [nds_len, ltNat hlow]; rfl) ?_
        refine f12_c n (n + 20) l (by omega) hl ns tok (appN J J1) T1 nums tk hnl ha1 j x hx hmx m hv him ((gt x, tl, tt), none) _ ?_ j 0 (n + 20) (by omega) (by omega)
        refine WOut.mk _ (index75 hv) ?_
        refine WCall.mk _ _ r2 ?_
        refine WCmp.no rfl ?_
        refine WOut.mk _ (index44 hx) ?_
        refine WCmp.no (by show (!iEq _ _) = false; rw [kids_len, encTs_len, IsTs_len hids, iEq_same]; rfl) ?_
        refine f12_d n (n + 20) l (by omega) ns tok nums tk j x hx hmx hsx hzx hwx m hv ids hkey hids sz tkk hsz (gt x, tl, tt) _ ?_ ids.length 0 (n + 20) _ _ none (by omega) (by omega) ha2
        intro J3 T3 q3 ha3
        cases q3 with
        | none =>
          refine WOut.mk _ (addOne (T := 3) (j := j) (by omega)) ?_
          exact hIH _ _ (some ((gt x, tl, tt), none)) ha3
        | some q3 =>
          refine WOut.mk _ (addOne (T := 3) (j := j) (by omega)) ?_
          exact hIH _ _ (some ((gt x, tl, tt), some q3)) ha3
      · refine WCode.round (nt := 211) (fx := []) ?_
        refine WCmp.yes (ltLen hjl) ?_
        refine WOut.mk _ (index75 hv) ?_
        refine WCmp.no (by rw [iLt_not]; simp only [Int.ofNat_eq_natCast]; omega) ?_
        refine WOut.mk _ (index75 hv) ?_
        refine WCall.mk _ _ r1 ?_
        refine WOut.mk _ (index44 hx) ?_
        refine WCall.mk _ _ h60 ?_
        refine WCmp.no rfl ?_
        refine WOut.mk _ (index44 hx) ?_
        refine WCall.mk _ _ (h39 _) ?_
        refine WOut.mk _ (index75 hv) ?_
        refine WCmp.no (by show (!iEq _ _) = false; rw [iEq_same]; rfl) ?_
        refine WOut.mk _ (index75 hv) ?_
        refine WCall.mk _ _ (f50_ok (n + 19) ns tok (appN J J1) T1) ?_
        refine WCmp.no (by show (!iLt _ _) = false; rw [nds_len, ltNat hlow]; rfl) ?_
        refine f12_c n (n + 20) l (by omega) hl ns tok (appN J J1) T1 nums tk hnl ha1 j x hx hmx m hv him ((gt x, tl, tt), none) _ ?_ j 0 (n + 20) (by omega) (by omega)
        refine WOut.mk _ (index75 hv) ?_
        refine WCall.mk _ _ r2 ?_
        refine WCmp.no rfl ?_
        refine WOut.mk _ (index44 hx) ?_
        refine WCmp.no (by show (!iEq _ _) = false; rw [kids_len, encTs_len, IsTs_len hids, iEq_same]; rfl) ?_
        refine f12_d n (n + 20) l (by omega) ns tok nums tk j x hx hmx hsx hzx hwx m hv ids hkey hids sz tkk hsz (gt x, tl, tt) _ ?_ ids.length 0 (n + 20) _ _ none (by omega) (by omega) ha2
        intro J3 T3 q3 ha3
        cases q3 with
        | none =>
          refine WOut.mk _ (addOne (T := 3) (j := j) (by omega)) ?_
          exact hIH _ _ (some ((gt x, tl, tt), none)) ha3
        | some q3 =>
          refine WOut.mk _ (addOne (T := 3) (j := j) (by omega)) ?_
          exact hIH _ _ (some ((gt x, tl, tt), some q3)) ha3
      · refine WCode.round (nt := 211) (fx := []) ?_
        refine WCmp.yes (ltLen hjl) ?_
        refine WOut.mk _ (index75 hv) ?_
        refine WCmp.no (by rw [iLt_not]; simp only [Int.ofNat_eq_natCast]; omega) ?_
        refine WOut.mk _ (index75 hv) ?_
        refine WCall.mk _ _ r1 ?_
        refine WOut.mk _ (index44 hx) ?_
        refine WCall.mk _ _ h60 ?_
        refine WCmp.no rfl ?_
        refine WOut.mk _ (index44 hx) ?_
        refine WCall.mk _ _ (h39 _) ?_
        refine WOut.mk _ (index75 hv) ?_
        refine WCmp.no (by show (!iEq _ _) = false; rw [iEq_same]; rfl) ?_
        refine WOut.mk _ (index75 hv) ?_
        refine WCall.mk _ _ (f50_ok (n + 19) ns tok (appN J J1) T1) ?_
        refine WCmp.no (by show (!iLt _ _) = false; rw [nds_len, ltNat hlow]; rfl) ?_
        refine f12_c n (n + 20) l (by omega) hl ns tok (appN J J1) T1 nums tk hnl ha1 j x hx hmx m hv him ((gt x, tl, tt), (some q)) _ ?_ j 0 (n + 20) (by omega) (by omega)
        refine WOut.mk _ (index75 hv) ?_
        refine WCall.mk _ _ r2 ?_
        refine WCmp.no rfl ?_
        refine WOut.mk _ (index44 hx) ?_
        refine WCmp.no (by show (!iEq _ _) = false; rw [kids_len, encTs_len, IsTs_len hids, iEq_same]; rfl) ?_
        refine f12_d n (n + 20) l (by omega) ns tok nums tk j x hx hmx hsx hzx hwx m hv ids hkey hids sz tkk hsz (gt x, tl, tt) _ ?_ ids.length 0 (n + 20) _ _ (some q) (by omega) (by omega) ha2
        intro J3 T3 q3 ha3
        cases q3 with
        | none =>
          refine WOut.mk _ (addOne (T := 3) (j := j) (by omega)) ?_
          exact hIH _ _ (some ((gt x, tl, tt), none)) ha3
        | some q3 =>
          refine WOut.mk _ (addOne (T := 3) (j := j) (by omega)) ?_
          exact hIH _ _ (some ((gt x, tl, tt), some q3)) ha3
    · have hIH := ih (j + 1) f J T o (by omega) (by omega) ha
      rcases o with _ | ⟨p, _ | q⟩
      all_goals
        refine WCode.round (nt := 211) (fx := []) ?_
        refine WCmp.yes (ltLen hjl) ?_
        refine WOut.mk _ (index75 hv) ?_
        refine WCmp.yes rfl ?_
        refine WOut.mk _ (addOne (T := 3) (j := j) (by omega)) ?_
        exact hIH

theorem law12_frame (N : Nat) (l : List Tm) (hN : 1000000 ≤ N) (hl : ∀ x ∈ l, Sm x ∧ wt x < N) : ∃ S', frame Try.cfg (run Try.cfg (N + 20)) (N + 20) 12 [.list (szOf true l) (tkOf false) 0 (encTs l)] St.empty = some (.bool true, S') := by
  have hworks : ∀ S, run Try.cfg (N + 20) (.f 46) [] S = some (.bool true, S) := fun S => by
    have := f46_ok (N + 20 - 31) S
    rwa [show N + 20 - 31 + 31 = N + 20 by omega] at this
  have h45 := f45_ok (N + 18) l true false 40 4000 St.empty (by omega) (by omega) (fun x hx => by have := (hl x hx).2; omega)
  refine frame_ex Try.cfg _ (fn := Try.f12) rfl rfl ?_
  refine WCall.mkB h45 (fun hv => ?_) (fun hv => ?_)
  · refine WCall.mk _ _ (hworks _) ?_
    exact ⟨_, rfl⟩
  · obtain ⟨b1, b2, b3⟩ := vast_facts (by omega) (by omega) (by omega) hv
    have b2 : sizeTs l ≤ 4000 := b2
    have hsz : ∀ x ∈ l, sizeT x < 1000000000 := fun x hx => by have := deep_size (b3 x hx); omega
    refine WCall.mk _ _ (f47_ok (N + 19)) ?_
    refine WOut.mk _ rfl ?_
    refine f12_a N N (N + 20) (Nat.le_refl _) l (by omega) (fun x hx => ⟨(hl x hx).1, FewL.of (b3 x hx), hsz x hx, (hl x hx).2⟩) _ l (N + 20) [] .tight [] [] .tight (by omega) (fun i => by simp) (by simp) (nil_same l) (by simp; omega) ?_
    intro ns tok T nums tk hnl ha hz
    refine f12_b N (N + 20) (by omega) l (by omega) (fun x hx => ⟨(hl x hx).1, hsz x hx, (hl x hx).2⟩) ns tok nums tk hnl _ ?_ l.length 0 (N + 20) [] T none (by omega) (by omega) ha
    intro J T o
    rcases o with _ | ⟨p, _ | q⟩
    all_goals
      refine WCall.mk _ _ (hworks _) ?_
      exact ⟨_, rfl⟩

theorem law12 (us : List V) (h : Args Try.prog Try.f12.params.toList us) : ∃ n S', run Try.cfg n (.f 12) us St.empty = some (.bool true, S') := by
  rw [Try.params12] at h
  obtain ⟨l, r1, rfl, hsm, h1⟩ := arg44 h
  obtain rfl := arg_nil h1
  obtain ⟨S', hf⟩ := law12_frame (1000001 + wts l) l (by omega) (fun x hx => ⟨hsm x hx, by have := wts_mem hx; omega⟩)
  exact ⟨_, St.empty, run_tm hf (by rw [strips_ts]; rfl) rfl rfl rfl rfl rfl⟩

end Go.Ev

namespace Go.Proofs.Ytidebmakgffjnaa
open Go.Ev Go.ChangeShapes Go.WideShapes Go.ChangeAt Go.RowKit

theorem evOwn : ownKnob Try.prog.godebug = none := by kernel_rfl
theorem evLaid : laidOutB Try.prog = true := by kernel_rfl
theorem evMaps : mapsRowed Try.prog = true := by kernel_rfl
noncomputable def evTypes : List Nat := [3, 5, 9, 22, 24, 25, 44, 46]
theorem evPlain : allB (plainT Try.prog evTypes) evTypes = true := by kernel_rfl
theorem evRead : allB (fun t => Try.prog.readableRec t) evTypes = true := by kernel_rfl
theorem evPar {ts : List Nat} (h : allB (fun t => memN t evTypes) ts = true) : ∀ t ∈ ts, memN t evTypes = true ∧ Try.prog.readableRec t = true :=
  fun t ht => ⟨allB_mem h t ht, allB_mem evRead t (memN_iff.1 (allB_mem h t ht))⟩

set_option maxRecDepth 100000 in
theorem arenaSame_lifted (hlaw : ∀ us, Args Try.prog Try.f12.params.toList us → ∃ n S', run Go.Ev.Try.cfg n (.f 12) us St.empty = some (.bool true, S')) (os : Os) (started : os.Started) (H : Type) (enc : TypeId × Value → H) :
    ReturnsInHanded {} Try.checked os 12 .any (Rows.arenaSameSpec.pre6 enc Try.prog Try.f12 Rows.arenaSameRow.domain false) (Rows.arenaSameSpec.post enc Try.prog Try.f12 false true false false) := by
  refine returnsInHanded_of_change (C := Try.checked) evOwn started (by kernel_rfl) Try.func12
    (ChangeSpec.witness6 (enc := enc) (C := Try.checked) false ⟨#[], #[.slice none 0 0], []⟩ 8 (by kernel_rfl) (by kernel_rfl) (by kernel_rfl) (by kernel_rfl)) ?_
  intro W base args ds gs before hval hW _ _
  exact law_contract (C := Go.Ev.Try.cfg) (P := Try.prog) (s := Rows.arenaSameSpec) Go.Ev.Try.runOk evLaid evMaps evPlain (evPar (by kernel_rfl)) (by kernel_rfl) rfl (tb := 4) (by kernel_rfl) Try.underlying4
    (fun _ ds hd => by
      match ds, (show ds.length = 1 from hd) with
      | [d1], _ => rfl) hval hW hlaw

theorem arenaSame_of (hlaw : ∀ us, Args Try.prog Try.f12.params.toList us → ∃ n S', run Go.Ev.Try.cfg n (.f 12) us St.empty = some (.bool true, S')) : Rows.ArenaSameSaid :=
  OpenClaim.holds_of_wide 12 Try.f12 rfl rfl rfl rfl rfl rfl rfl ⟨rfl, rfl, rfl, rfl, rfl⟩ rfl rfl rfl rfl rfl (by kernel_rfl) Try.func12 (by kernel_rfl)
    (of_decide_eq_true (by kernel_rfl)) (by unfold Func.isWrapper; first | (rw [if_pos (by decide +kernel)]; kernel_rfl) | (rw [if_neg (by decide +kernel)]; exact ⟨rfl, rfl⟩))
    (fun os started H enc _ => arenaSame_lifted hlaw os started H enc)

end Go.Proofs.Ytidebmakgffjnaa

namespace Go.Proofs.Ytidebmakgffjnaa

/-- ArenaSame. -/
theorem arenaSame_holds : Rows.ArenaSameSaid := arenaSame_of (fun us h => Go.Ev.law12 us h)

end Go.Proofs.Ytidebmakgffjnaa
