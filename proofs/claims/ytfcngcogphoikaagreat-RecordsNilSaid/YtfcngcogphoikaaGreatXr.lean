/- RecordsNil: Deep, and what is given where there is no environment (own work). -/
import Derived.Test.YtfcngcogphoikaaGreatXg
import Derived.Test.YtfcngcogphoikaaGreatXp
import Derived.ProofKit
/- RecordsNil: terms, of which only the form is told; the document's Deep; what is given where there is no environment (own work). -/
namespace Go.Ev
open Go.Proofs Go.RowKit
set_option maxRecDepth 100000

theorem rw_val {id n : Nat} {args : List V} {S S' : St} {v v' r : V} (hc : cutW id = none) (h : frame Go.Ev.Tryz.cfg (RW n) n id (mapN V.strip args) St.empty = some (v, S')) (hp : (Go.Ev.Tryz.cfg.fc id).pure = true) (ha : allB V.pure args = true)
    (hf : frz { nt := 0, tmps := [], locs := [], fix := [] } S' .any v = some v') (hz : isZero v'.lvl = true) (hs : v'.stripAll = r) : RW (n + 1) (.f id) args S = some (r, S) :=
  (rw_step hc).trans (step_val h hp ha hf hz hs)

section
variable {C : Cfg} {R : Run}
theorem frame_p {k id : Nat} {args : List V} {S : St} {fn : Func} {c : Code} {p : V × St → Prop} (hf : C.fn id = some fn) (hc : fn.body = some c)
    (h : wCode C R (C.fc id) k id fn.ntmps [] c { nt := fn.ntmps, tmps := number 0 args, locs := [], fix := [] } S fun e A S => match e with | .exit _ => False | _ => ∃ r, finish C fn A S = some r ∧ p r) :
    ∃ r, frame C R k id args S = some r ∧ p r := by
  obtain ⟨e, A, S', h1, h3⟩ := wCode_imp C R (C.fc id) c h
  unfold frame
  simp only [hf, hc, h1]
  cases e with
  | exit i => exact h3.elim
  | normal => exact h3
  | ret => exact h3
end

inductive Tq where
  | mk (k n : Int) (s : List UInt8) (ls : List V) (ts : List Tq)

noncomputable def Tq.k : Tq → Int | .mk k _ _ _ _ => k
noncomputable def Tq.n : Tq → Int | .mk _ n _ _ _ => n
noncomputable def Tq.s : Tq → List UInt8 | .mk _ _ s _ _ => s
noncomputable def Tq.ls : Tq → List V | .mk _ _ _ ls _ => ls
noncomputable def Tq.ts : Tq → List Tq | .mk _ _ _ _ ts => ts

mutual
noncomputable def encT : Tq → V
  | .mk k n s ls ts => .agg [.int .u8 k, .int .i64 n, .str s, .list 5 .no 0 ls, .list 5 .no 0 (encTs ts)]
noncomputable def encTs : List Tq → List V
  | [] => []
  | t :: ts => encT t :: encTs ts
end

@[reducible] noncomputable def cellsT (x : Tq) : List V := [.int .u8 x.k, .int .i64 x.n, .str x.s, .list 5 .no 0 x.ls, .list 5 .no 0 (encTs x.ts)]
@[reducible] noncomputable def encA (x : Tq) : V := .agg (cellsT x)

theorem encT_eq (x : Tq) : encT x = encA x := by cases x; rw [encT]; rfl
theorem encTs_eq (ts : List Tq) : encTs ts = ts.map encA := by
  induction ts with
  | nil => rw [encTs]; rfl
  | cons t ts ih => rw [encTs, ih, encT_eq]; rfl
theorem encTs_len (ts : List Tq) : lenN (encTs ts) = ts.length := by rw [encTs_eq, lenN_eq, List.length_map]

mutual
/-- How much there is of a term. -/
def wt : Tq → Nat
  | .mk _ _ _ _ ts => 1 + wts ts
def wts : List Tq → Nat
  | [] => 0
  | t :: ts => 1 + wt t + wts ts
end

theorem wt_eq (x : Tq) : wt x = 1 + wts x.ts := by cases x; rw [wt]; rfl
theorem wts_len (ts : List Tq) : ts.length ≤ wts ts := by
  induction ts with
  | nil => simp
  | cons t ts ih => rw [wts]; simp only [List.length_cons]; omega
theorem wts_mem {x : Tq} {ts : List Tq} (h : x ∈ ts) : wt x < wts ts := by
  induction ts with
  | nil => cases h
  | cons t ts ih =>
    rw [wts]
    cases h with
    | head => omega
    | tail _ h => have := ih h; omega
theorem wt_kid {x y : Tq} (h : x ∈ y.ts) : wt x < wt y := by rw [wt_eq y]; have := wts_mem h; omega

theorem below_of {j m : Nat} (h : j < m) : below (.int .i64 (.ofNat j)) m = some j := by
  unfold below
  show (bif Nat.blt j m then some j else none) = some j
  rw [show Nat.blt j m = true by rw [Nat.blt_eq]; exact h]
  rfl

theorem index23 {ts : List Tq} {j : Nat} {x : Tq} (h : ts[j]? = some x) : indexAddr Go.Ev.Tryz.cfg 23 (.list 5 .no 0 (encTs ts)) (.int .i64 (.ofNat j)) = some (.imm 0 (cellsT x)) := by
  have hj : j < ts.length := (List.getElem?_eq_some_iff.1 h).1
  show (match below (.int .i64 (.ofNat j)) (lenN (encTs ts)) with
    | some i => match nth (encTs ts) i with
      | some r => bif Nat.beq 5 5 then some (V.imm 0 r.cells) else none
      | none => none
    | none => none) = _
  rw [encTs_len, below_of hj]
  simp only
  rw [nth_eq, encTs_eq, List.getElem?_map, h]
  rfl

theorem wrapI_id {n : Int} (h : 0 ≤ n) (h2 : n ≤ 9223372036854775807) : wrapI .i64 n = n := by
  cases n with
  | ofNat m =>
    show (bif Nat.ble m 9223372036854775807 then Int.ofNat m else _) = _
    rw [show Nat.ble m 9223372036854775807 = true from Nat.ble_eq_true_of_le (by simp only [Int.ofNat_eq_natCast] at h2; omega)]
    rfl
  | negSucc m => omega
theorem addOne {T j : Nat} (h : j < 9223372036854775807) : binOp Go.Ev.Tryz.cfg .add T (.int .i64 (.ofNat j)) (.int .i64 1) = some (.int .i64 (.ofNat (j + 1))) := by
  show some (V.int .i64 (bif Nat.ble (j + 1) 9223372036854775807 then Int.ofNat (j + 1) else _)) = _
  rw [show Nat.ble (j + 1) 9223372036854775807 = true from Nat.ble_eq_true_of_le h]
  rfl
theorem subOne {T j : Nat} (h : j < 9223372036854775807) : binOp Go.Ev.Tryz.cfg .sub T (.int .i64 (.ofNat (j + 1))) (.int .i64 1) = some (.int .i64 (.ofNat j)) := by
  show some (V.int .i64 (wrapI .i64 (((j + 1 : Nat) : Int) - 1))) = _
  rw [show (((j + 1 : Nat) : Int) - 1) = (j : Int) by omega, wrapI_id (by omega) (by omega)]
  rfl
theorem blt_yes {a b : Nat} (h : a < b) : Nat.blt a b = true := by rw [Nat.blt_eq]; exact h
theorem blt_no {a b : Nat} (h : ¬ a < b) : Nat.blt a b = false := by
  cases hq : Nat.blt a b with
  | false => rfl
  | true => rw [Nat.blt_eq] at hq; omega
theorem ltLen {j : Nat} {ts : List Tq} (h : j < ts.length) : iLt (.ofNat j) (.ofNat (lenN (encTs ts))) = true := by rw [encTs_len]; exact blt_yes h
theorem geLen {j : Nat} {ts : List Tq} (h : ¬ j < ts.length) : iLt (.ofNat j) (.ofNat (lenN (encTs ts))) = false := by rw [encTs_len]; exact blt_no h

noncomputable def encO : Option Nat → V | some l => .int .i64 (.ofNat l) | none => .int .i64 (-1)

noncomputable def loopsOf : Code → List Code
  | .seq a b => loopsOf a ++ loopsOf b
  | .block _ b => loopsOf b
  | .loop b => [b]
  | _ => []
noncomputable def loopN (fn : Func) (j : Nat) : Code := (((fn.body.map loopsOf).getD [])[j]?).getD .skip
noncomputable def f9L : Code := loopN Go.Proofs.Tryz.f9 0

theorem r9_by (n k : Nat) (x : Tq) (d : Nat) (hd : d < 1000000) (S : St) (K : Ex → Env → St → Prop) (l0 : Nat) (hl0 : l0 < 1000000)
    (hrec : ∀ y ∈ x.ts, ∀ l, l < 1000000 → ∃ o : Option Nat, (∀ l', o = some l' → l' < l) ∧ RW n (.f 9) [encA y, .int .i64 (.ofNat l), .int .i64 (.ofNat d)] S = some (encO o, S))
    (hK : ∀ l', l' ≤ l0 → K (.exit 0) { nt := 41, tmps := [(1, .int .i64 (.ofNat l')), (2, .int .i64 (.ofNat (d + 1))), (3, .ptr (.loc 3) 0), (7, .int .i64 (.ofNat x.ts.length)), (26, .bool false)], locs := [(3, cellsT x)], fix := [] } S)
    (hN : K .ret { nt := 41, tmps := [(6, .int .i64 (-1))], locs := [(3, cellsT x)], fix := [] } S) :
    ∀ (rem : List Tq) (j f l : Nat), rem.length < f → (∀ i, rem[i]? = x.ts[j + i]?) → j + rem.length = x.ts.length → l ≤ l0 → j < 1000000 → l + j < 1000000 →
    WCode (iter (evalCode Go.Ev.Tryz.cfg (RW n) k 9 (Go.Ev.Tryz.cfg.fc 9) f9L) f { nt := 41, tmps := [(1, .int .i64 (.ofNat l)), (2, .int .i64 (.ofNat (d + 1))), (3, .ptr (.loc 3) 0), (7, .int .i64 (.ofNat j))], locs := [(3, cellsT x)], fix := [] } S) K
  | [], j, f + 1, l, hf, hr, hj, hl, _, _ => by
    have hjl : j = x.ts.length := by simpa using hj
    subst hjl
    refine WCode.round (nt := 41) (fx := []) ?_
    refine WCmp.no (geLen (by omega)) ?_
    exact hK l hl
  | y :: rem, j, f + 1, l, hf, hr, hj, hl, hj2, hlj => by
    have hb : x.ts[j]? = some y := by have := hr 0; simpa using this.symm
    have hjl : j < x.ts.length := (List.getElem?_eq_some_iff.1 hb).1
    obtain ⟨o, ho, hy⟩ := hrec y (List.mem_of_getElem? hb) l (by omega)
    refine WCode.round (nt := 41) (fx := []) ?_
    refine WCmp.yes (ltLen hjl) ?_
    refine WOut.mk _ (index23 hb) ?_
    refine WOut.mk _ (subOne (by omega)) ?_
    cases o with
    | none =>
      refine WCall.mk _ _ hy ?_
      refine WCmp.yes rfl ?_
      exact hN
    | some l' =>
      have := ho l' rfl
      refine WCall.mk _ _ hy ?_
      refine WCmp.no rfl ?_
      refine WOut.mk _ (addOne (by omega)) ?_
      exact r9_by n k x d hd S K l0 hl0 hrec hK hN rem (j + 1) f l' (by simp only [List.length_cons] at hf; omega) (fun i => by have := hr (i + 1); simp only [List.getElem?_cons_succ] at this; rw [this]; congr 1; omega) (by simp only [List.length_cons] at hj; omega) (by omega) (by omega) (by omega)

/-- What a term's number of nodes leads to: a number that is less, or none. -/
def LessO (l : Nat) (v : V) : Prop := ∃ o : Option Nat, (∀ l', o = some l' → l' < l) ∧ v = encO o

theorem r9_frame (n : Nat) (x : Tq) (l d : Nat) (hl : l < 1000000) (hd : d < 1000000) (hn : x.ts.length < n)
    (hrec : ∀ y ∈ x.ts, ∀ l d, l < 1000000 → d < 1000000 → ∃ o : Option Nat, (∀ l', o = some l' → l' < l) ∧ RW n (.f 9) [encA y, .int .i64 (.ofNat l), .int .i64 (.ofNat d)] St.empty = some (encO o, St.empty)) :
    ∃ r, frame Go.Ev.Tryz.cfg (RW n) n 9 [encA x, .int .i64 (.ofNat l), .int .i64 (.ofNat d)] St.empty = some r ∧ LessO l r.1 ∧ r.2 = St.empty := by
  refine frame_p (p := fun r => LessO l r.1 ∧ r.2 = St.empty) (fn := Go.Proofs.Tryz.f9) rfl rfl ?_
  cases l with
  | zero => refine WOut.mk _ rfl ?_; refine WCmp.yes rfl ?_; exact ⟨_, rfl, ⟨none, (fun _ h => by cases h), rfl⟩, rfl⟩
  | succ l =>
  refine WOut.mk _ (subOne (by omega)) ?_
  refine WCmp.no rfl ?_
  cases d with
  | zero => refine WCmp.yes rfl ?_; exact ⟨_, rfl, ⟨none, (fun _ h => by cases h), rfl⟩, rfl⟩
  | succ d =>
  refine WCmp.no rfl ?_
  refine WCmp.mk (fun hq => ?_) (fun hq => ?_)
  · exact ⟨_, rfl, ⟨none, (fun _ h => by cases h), rfl⟩, rfl⟩
  · refine r9_by n n x d (by omega) _ _ l (by omega) (fun y hy l hl => hrec y hy l d hl (by omega)) (fun l' hl' => ?_) ?_ x.ts 0 n l hn (fun i => by rw [Nat.zero_add]) (by rw [Nat.zero_add]) (by omega) (by omega) (by omega)
    · exact ⟨_, rfl, ⟨some l', (fun _ h => by cases h; omega), rfl⟩, rfl⟩
    · exact ⟨_, rfl, ⟨none, (fun _ h => by cases h), rfl⟩, rfl⟩

end Go.Ev

/- RecordsNil: Deep is told; what is given where there is no environment; the law (own work). -/
namespace Go.Ev
open Go.Proofs Go.RowKit
set_option maxRecDepth 100000

theorem r9_ok : ∀ (n : Nat) (x : Tq) (l d : Nat) (S : St), l < 1000000 → d < 1000000 → wt x < n →
    ∃ o : Option Nat, (∀ l', o = some l' → l' < l) ∧ RW n (.f 9) [encA x, .int .i64 (.ofNat l), .int .i64 (.ofNat d)] S = some (encO o, S)
  | 0, x, l, d, S, _, _, h => by omega
  | n + 1, x, l, d, S, hl, hd, h => by
    have hn : x.ts.length < n := by have := wts_len x.ts; rw [wt_eq] at h; omega
    obtain ⟨⟨v, S'⟩, h1, ⟨o, ho, h2⟩, h3⟩ := r9_frame n x l d hl hd hn (fun y hy l d hl hd => r9_ok n y l d _ hl hd (by have := wt_kid hy; omega))
    simp only at h2 h3
    subst h2
    subst h3
    refine ⟨o, ho, ?_⟩
    cases o with
    | none => exact rw_val rfl h1 rfl rfl rfl rfl rfl
    | some l' => exact rw_val rfl h1 rfl rfl rfl rfl rfl

theorem r4_ok (n : Nat) (x : Tq) (S : St) (h : wt x < n) : ∃ b, RW (n + 1) (.f 4) [encA x] S = some (.bool b, S) := by
  obtain ⟨⟨v, S'⟩, h1, b, h2⟩ : ∃ r, frame Go.Ev.Tryz.cfg (RW n) n 4 [encA x] St.empty = some r ∧ ∃ b, r = (V.bool b, St.empty) := by
    refine frame_p (p := fun r => ∃ b, r = (V.bool b, St.empty)) (fn := Go.Proofs.Tryz.f4) rfl rfl ?_
    obtain ⟨o, _, h9⟩ := r9_ok n x 131072 8192 St.empty (by omega) (by omega) h
    cases o with
    | none => refine WCall.mk _ _ h9 ?_; refine WCmp.yes rfl ?_; exact ⟨_, rfl, true, rfl⟩
    | some l => refine WCall.mk _ _ h9 ?_; refine WCmp.no rfl ?_; exact ⟨_, rfl, false, rfl⟩
  cases h2
  exact ⟨b, rw_val rfl h1 rfl rfl rfl rfl rfl⟩

noncomputable def valB (r : Option (V × St)) (v : V) : Bool := match r with | some (u, _) => eqV v u | none => false
theorem val_is {r : Option (V × St)} {v : V} (h : valB r v = true) : ∃ S', r = some (v, S') := by
  cases r with
  | none => cases h
  | some p =>
    obtain ⟨u, S'⟩ := p
    rw [eqV_is v u h]
    exact ⟨S', rfl⟩

noncomputable def zT : V := .agg [.int .u8 0, .int .i64 0, .str [], .list 0 .tight 0 [], .list 0 .tight 0 []]

theorem r6_val (n : Nat) (x y : Tq) : valB (frame Go.Ev.Tryz.cfg (RW (n + 3)) (n + 3) 6 [.nilp, encA x, .int .i64 0, encA y] St.empty) (.tuple [zT, .int .i64 2]) = true := by kernel_rfl
theorem r7_val (n : Nat) (x y : Tq) : valB (frame Go.Ev.Tryz.cfg (RW (n + 3)) (n + 3) 7 [.nilp, encA x, encA y] St.empty) (.tuple [zT, .int .i64 2]) = true := by kernel_rfl
theorem r8_val (n : Nat) : valB (frame Go.Ev.Tryz.cfg (RW (n + 8)) (n + 8) 8 [.nilp, .str [80, 97, 105, 114]] St.empty) (.tuple [.int .i64 0, .bool false]) = true := by kernel_rfl

theorem r6_ok (n : Nat) (x y : Tq) (S : St) : RW (n + 4) (.f 6) [.nilp, encA x, .int .i64 0, encA y] S = some (.tuple [zT, .int .i64 2], S) := by
  obtain ⟨S', h⟩ := val_is (r6_val n x y)
  exact rw_val rfl h rfl rfl rfl rfl rfl
theorem r7_ok (n : Nat) (x y : Tq) (S : St) : RW (n + 4) (.f 7) [.nilp, encA x, encA y] S = some (.tuple [zT, .int .i64 2], S) := by
  obtain ⟨S', h⟩ := val_is (r7_val n x y)
  exact rw_val rfl h rfl rfl rfl rfl rfl
theorem r8_ok (n : Nat) (S : St) : RW (n + 9) (.f 8) [.nilp, .str [80, 97, 105, 114]] S = some (.tuple [.int .i64 0, .bool false], S) := by
  obtain ⟨S', h⟩ := val_is (r8_val n)
  exact rw_val rfl h rfl rfl rfl rfl rfl

theorem WCall.mkB {R : Run} {t : Tgt} {args : List V} {S : St} {K : V → St → Prop} {b : Bool} {S' : St} (h : R t args S = some (.bool b, S')) (kt : b = true → K (.bool true) S') (kf : b = false → K (.bool false) S') : WCall R t args S K := by
  cases b with
  | true => exact ⟨_, _, h, kt rfl⟩
  | false => exact ⟨_, _, h, kf rfl⟩

theorem r3_ok (n : Nat) (x y : Tq) (hx : wt x < n) (hy : wt y < n) : RW (n + 11) (.f 3) [encA x, encA y] St.empty = some (.bool true, St.empty) := by
  obtain ⟨bx, h1⟩ := r4_ok (n + 9) x St.empty (by omega)
  obtain ⟨by', h2⟩ := r4_ok (n + 9) y St.empty (by omega)
  have hf : frame Go.Ev.Tryz.cfg (RW (n + 10)) (n + 10) 3 [encA x, encA y] St.empty = some (.bool true, St.empty) := by
    refine frame_of Go.Ev.Tryz.cfg _ (fn := Go.Proofs.Tryz.f3) rfl rfl ?_
    refine WCall.mkB h1 (fun _ => ?_) (fun _ => ?_)
    · refine WCall.mk _ _ (rw_works _ _) ?_
      rfl
    · refine WCall.mkB h2 (fun _ => ?_) (fun _ => ?_)
      · refine WCall.mk _ _ (rw_works _ _) ?_
        rfl
      · refine WCall.mk _ _ (r6_ok (n + 6) x y St.empty) ?_
        refine WCall.mk _ _ (r7_ok (n + 6) x y St.empty) ?_
        refine WCall.mk _ _ (r8_ok (n + 1) St.empty) ?_
        refine WCmp.yes rfl ?_
        refine WCmp.yes rfl ?_
        refine WCmp.yes rfl ?_
        refine WCall.mk _ _ (rw_works _ _) ?_
        rfl
  exact rw_val rfl hf rfl rfl rfl rfl rfl

end Go.Ev
