/- The package level, function by function, and in plain numbers (own work). -/
import Derived.Test.YtidebmakgffjnaaXp
import Derived.Test.YtidebmakgffjnaaXf
/- Levels: the loop over a level's parameters (written by f112.py; own work). -/
namespace Go.Ev
open Go.Proofs
set_option maxRecDepth 100000

/-- The rounds of a loop over a level's parameters: i: the first one's number. -/
def Rounds (R : Run) (b : Nat) : List Int → Int → St → St → Prop
  | [], _, S, S' => S' = S
  | p :: ps, i, S, S' => (iLt p 0 = true ∧ Rounds R b ps (i + 1) S S') ∨ (iLt p 0 = false ∧ ∃ S1, R (.y b) [.int .i64 i, .int .i64 p] S = some (.bool true, S1) ∧ Rounds R b ps (i + 1) S1 S') ∨
      (iLt p 0 = false ∧ R (.y b) [.int .i64 i, .int .i64 p] S = some (.bool false, S'))

noncomputable def loopOf : Code → Option Code
  | .seq a b => match loopOf a with | some c => some c | none => loopOf b
  | .block _ b => loopOf b
  | .loop b => some b
  | _ => none

noncomputable def f112L : Code := ((Try.f112.body).bind loopOf).getD .skip

theorem f112_at4 (R : Run) (k m : Nat) (p0 p1 p2 p3 : Int) (b : Nat) (S S' : St) (K : Ex → Env → St → Prop) (hK : ∀ e A, (e = .exit 0 ∨ e = .ret) → K e A S') (h : Rounds R b [] 4 S S') :
    WCode (iter (evalCode Try.cfg R k 112 (Try.cfg.fc 112) f112L) (m + 1) { nt := 21, tmps := [(0, .yield b), (6, .agg [.int .i64 p0, .int .i64 p1, .int .i64 p2, .int .i64 p3]), (7, .int .i64 4)], locs := [], fix := [] } S) K := by
  refine WCode.round (nt := 21) (fx := []) ?_
  refine WCmp.no rfl ?_
  have h' : S' = S := h
  subst h'
  exact hK _ _ (.inl rfl)

theorem f112_at3 (R : Run) (k m : Nat) (p0 p1 p2 p3 : Int) (b : Nat) (S S' : St) (K : Ex → Env → St → Prop) (hK : ∀ e A, (e = .exit 0 ∨ e = .ret) → K e A S') (h : Rounds R b [p3] 3 S S') :
    WCode (iter (evalCode Try.cfg R k 112 (Try.cfg.fc 112) f112L) (m + 2) { nt := 21, tmps := [(0, .yield b), (6, .agg [.int .i64 p0, .int .i64 p1, .int .i64 p2, .int .i64 p3]), (7, .int .i64 3)], locs := [], fix := [] } S) K := by
  refine WCode.round (nt := 21) (fx := []) ?_
  refine WCmp.yes rfl ?_
  refine WOut.mk _ rfl ?_
  rcases h with ⟨h1, h2⟩ | ⟨h1, S1, h2, h3⟩ | ⟨h1, h2⟩
  · refine WCmp.no (by rw [h1]; rfl) ?_
    refine WOut.mk _ rfl ?_
    exact f112_at4 R k m p0 p1 p2 p3 b S S' K hK h2
  · refine WCmp.yes (by rw [h1]; rfl) ?_
    refine WCall.mk _ _ h2 ?_
    refine WOut.mk _ rfl ?_
    exact f112_at4 R k m p0 p1 p2 p3 b S1 S' K hK h3
  · refine WCmp.yes (by rw [h1]; rfl) ?_
    refine WCall.mk _ _ h2 ?_
    exact hK _ _ (.inr rfl)

theorem f112_at2 (R : Run) (k m : Nat) (p0 p1 p2 p3 : Int) (b : Nat) (S S' : St) (K : Ex → Env → St → Prop) (hK : ∀ e A, (e = .exit 0 ∨ e = .ret) → K e A S') (h : Rounds R b [p2, p3] 2 S S') :
    WCode (iter (evalCode Try.cfg R k 112 (Try.cfg.fc 112) f112L) (m + 3) { nt := 21, tmps := [(0, .yield b), (6, .agg [.int .i64 p0, .int .i64 p1, .int .i64 p2, .int .i64 p3]), (7, .int .i64 2)], locs := [], fix := [] } S) K := by
  refine WCode.round (nt := 21) (fx := []) ?_
  refine WCmp.yes rfl ?_
  refine WOut.mk _ rfl ?_
  rcases h with ⟨h1, h2⟩ | ⟨h1, S1, h2, h3⟩ | ⟨h1, h2⟩
  · refine WCmp.no (by rw [h1]; rfl) ?_
    refine WOut.mk _ rfl ?_
    exact f112_at3 R k m p0 p1 p2 p3 b S S' K hK h2
  · refine WCmp.yes (by rw [h1]; rfl) ?_
    refine WCall.mk _ _ h2 ?_
    refine WOut.mk _ rfl ?_
    exact f112_at3 R k m p0 p1 p2 p3 b S1 S' K hK h3
  · refine WCmp.yes (by rw [h1]; rfl) ?_
    refine WCall.mk _ _ h2 ?_
    exact hK _ _ (.inr rfl)

theorem f112_at1 (R : Run) (k m : Nat) (p0 p1 p2 p3 : Int) (b : Nat) (S S' : St) (K : Ex → Env → St → Prop) (hK : ∀ e A, (e = .exit 0 ∨ e = .ret) → K e A S') (h : Rounds R b [p1, p2, p3] 1 S S') :
    WCode (iter (evalCode Try.cfg R k 112 (Try.cfg.fc 112) f112L) (m + 4) { nt := 21, tmps := [(0, .yield b), (6, .agg [.int .i64 p0, .int .i64 p1, .int .i64 p2, .int .i64 p3]), (7, .int .i64 1)], locs := [], fix := [] } S) K := by
  refine WCode.round (nt := 21) (fx := []) ?_
  refine WCmp.yes rfl ?_
  refine WOut.mk _ rfl ?_
  rcases h with ⟨h1, h2⟩ | ⟨h1, S1, h2, h3⟩ | ⟨h1, h2⟩
  · refine WCmp.no (by rw [h1]; rfl) ?_
    refine WOut.mk _ rfl ?_
    exact f112_at2 R k m p0 p1 p2 p3 b S S' K hK h2
  · refine WCmp.yes (by rw [h1]; rfl) ?_
    refine WCall.mk _ _ h2 ?_
    refine WOut.mk _ rfl ?_
    exact f112_at2 R k m p0 p1 p2 p3 b S1 S' K hK h3
  · refine WCmp.yes (by rw [h1]; rfl) ?_
    refine WCall.mk _ _ h2 ?_
    exact hK _ _ (.inr rfl)

theorem f112_at0 (R : Run) (k m : Nat) (p0 p1 p2 p3 : Int) (b : Nat) (S S' : St) (K : Ex → Env → St → Prop) (hK : ∀ e A, (e = .exit 0 ∨ e = .ret) → K e A S') (h : Rounds R b [p0, p1, p2, p3] 0 S S') :
    WCode (iter (evalCode Try.cfg R k 112 (Try.cfg.fc 112) f112L) (m + 5) { nt := 21, tmps := [(0, .yield b), (6, .agg [.int .i64 p0, .int .i64 p1, .int .i64 p2, .int .i64 p3]), (7, .int .i64 0)], locs := [], fix := [] } S) K := by
  refine WCode.round (nt := 21) (fx := []) ?_
  refine WCmp.yes rfl ?_
  refine WOut.mk _ rfl ?_
  rcases h with ⟨h1, h2⟩ | ⟨h1, S1, h2, h3⟩ | ⟨h1, h2⟩
  · refine WCmp.no (by rw [h1]; rfl) ?_
    refine WOut.mk _ rfl ?_
    exact f112_at1 R k m p0 p1 p2 p3 b S S' K hK h2
  · refine WCmp.yes (by rw [h1]; rfl) ?_
    refine WCall.mk _ _ h2 ?_
    refine WOut.mk _ rfl ?_
    exact f112_at1 R k m p0 p1 p2 p3 b S1 S' K hK h3
  · refine WCmp.yes (by rw [h1]; rfl) ?_
    refine WCall.mk _ _ h2 ?_
    exact hK _ _ (.inr rfl)

theorem f112_box0 (R : Run) (k : Nat) (c p0 p1 p2 p3 : Int) (b : Nat) (H : List Blk) (toks : List Nat) (S' : St) (h : Rounds R b [p0, p1, p2, p3] 0 { heap := .cells 24 [.int .i64 c, .int .i64 p0, .int .i64 p1, .int .i64 p2, .int .i64 p3] :: H, toks := toks } S') :
    frame Try.cfg R (k + 5) 112 [.yield b, .ptr (.box 0) 0] { heap := .cells 24 [.int .i64 c, .int .i64 p0, .int .i64 p1, .int .i64 p2, .int .i64 p3] :: H, toks := toks } = some (.tuple [], S') := by
  refine frame_of Try.cfg R (fn := Try.f112) rfl rfl ?_
  refine f112_at0 R (k + 5) k p0 p1 p2 p3 b _ S' _ ?_ h
  intro e A he
  rcases he with rfl | rfl <;> rfl

theorem f112_box2 (R : Run) (k : Nat) (c p0 p1 p2 p3 : Int) (b : Nat) (X Y : Blk) (H : List Blk) (toks : List Nat) (S' : St) (h : Rounds R b [p0, p1, p2, p3] 0 { heap := X :: Y :: .cells 24 [.int .i64 c, .int .i64 p0, .int .i64 p1, .int .i64 p2, .int .i64 p3] :: H, toks := toks } S') :
    frame Try.cfg R (k + 5) 112 [.yield b, .ptr (.box 2) 0] { heap := X :: Y :: .cells 24 [.int .i64 c, .int .i64 p0, .int .i64 p1, .int .i64 p2, .int .i64 p3] :: H, toks := toks } = some (.tuple [], S') := by
  refine frame_of Try.cfg R (fn := Try.f112) rfl rfl ?_
  refine f112_at0 R (k + 5) k p0 p1 p2 p3 b _ S' _ ?_ h
  intro e A he
  rcases he with rfl | rfl <;> rfl

end Go.Ev

/- Levels: form (own work). -/
namespace Go.Ev
open Go.Proofs
set_option maxRecDepth 100000

structure Lv where
  c : Int
  p0 : Int
  p1 : Int
  p2 : Int
  p3 : Int
  deriving DecidableEq

@[reducible] def cellsOf (l : Lv) : List V := [.int .i64 l.c, .int .i64 l.p0, .int .i64 l.p1, .int .i64 l.p2, .int .i64 l.p3]
@[reducible] def enc (l : Lv) : V := .agg (cellsOf l)
@[reducible] def zeros : List V := [.int .i64 0, .int .i64 0, .int .i64 0, .int .i64 0, .int .i64 0]

theorem f80_ok (n : Nat) (l : Lv) (S : St) : run Try.cfg (n + 1) (.f 80) [enc l] S = some (.fn 112 (lenN S.heap + 1) [] [.ptr (.box (lenN S.heap)) 0], { S with heap := appN S.heap [.cells 24 (cellsOf l)] }) := by
  refine run_here rfl ?_
  refine frame_of Try.cfg _ (fn := Try.f80) rfl rfl ?_
  rfl

noncomputable def rangeOf : Code → Option (Code × Code)
  | .seq a b => match rangeOf a with | some c => some c | none => rangeOf b
  | .block _ b => rangeOf b
  | .rangeFunc _ _ x y => some (x, y)
  | _ => none

noncomputable def rangeX (fn : Func) : Code := ((fn.body.bind rangeOf).getD (.skip, .skip)).1
noncomputable def rangeY (fn : Func) : Code := ((fn.body.bind rangeOf).getD (.skip, .skip)).2

noncomputable def rec81 (l : Lv) : LoopR := { fid := 81, nt := 15, tmps := [(1, .ptr (.loc 1) 0), (2, .ptr (.loc 2) 0), (6, .fn 112 1 [] [.ptr (.box 0) 0])], locs := [(1, cellsOf l), (2, zeros)], params := [7, 8], assign := rangeX Try.f81, body := rangeY Try.f81, st := .ready, pend := none }

noncomputable def st81 (l0 l : Lv) : St := { heap := [.cells 24 (cellsOf l0), .loop (rec81 l)], toks := [] }

noncomputable def fstep (p c : Int) : Int := bif iLt p c then c else 0

theorem f81_round (R : Run) (k : Nat) (l0 l : Lv) (i p : Int) : round Try.cfg R k 1 [.int .i64 i, .int .i64 p] (st81 l0 l) = some (.bool true, st81 l0 { l with c := fstep p l.c }) := by
  refine round_of (r := rec81 l) (nt := 15) (fx := [1, 2]) rfl rfl rfl rfl rfl rfl rfl ?_
  refine WCmp.mk (fun h => ?_) (fun h => ?_)
  · have e : fstep p l.c = 0 := by unfold fstep; cases hq : iLt p l.c with | true => rw [hq] at h; cases h | false => rfl
    rw [e]
    rfl
  · have e : fstep p l.c = l.c := by unfold fstep; cases hq : iLt p l.c with | true => rfl | false => rw [hq] at h; cases h
    rw [e]
    rfl

/-! ### Loops over the parameters of a level, whole -/

noncomputable def foldP {T : Type} (step : Int → Int → T → T) : List Int → Int → T → T
  | [], _, t => t
  | p :: ps, i, t => foldP step ps (i + 1) (bif iLt p 0 then t else step i p t)

theorem rounds_one {R : Run} {b : Nat} {T : Type} (st : T → St) (step : Int → Int → T → T) {p i : Int} {ps : List Int} {t : T} {S' : St}
    (h : R (.y b) [.int .i64 i, .int .i64 p] (st t) = some (.bool true, st (step i p t))) (hn : Rounds R b ps (i + 1) (st (bif iLt p 0 then t else step i p t)) S') : Rounds R b (p :: ps) i (st t) S' := by
  cases hq : iLt p 0 with
  | true => rw [hq] at hn; exact .inl ⟨hq, hn⟩
  | false => rw [hq] at hn; exact .inr (.inl ⟨hq, _, h, hn⟩)

theorem rounds_all {R : Run} {b : Nat} {T : Type} (st : T → St) (step : Int → Int → T → T) {p0 p1 p2 p3 : Int} {t : T}
    (h : ∀ i p t, (i = 0 ∨ i = 1 ∨ i = 2 ∨ i = 3) → R (.y b) [.int .i64 i, .int .i64 p] (st t) = some (.bool true, st (step i p t))) :
    Rounds R b [p0, p1, p2, p3] 0 (st t) (st (foldP step [p0, p1, p2, p3] 0 t)) := by
  refine rounds_one st step (h _ _ _ (by omega)) ?_
  refine rounds_one st step (h _ _ _ (by omega)) ?_
  refine rounds_one st step (h _ _ _ (by omega)) ?_
  refine rounds_one st step (h _ _ _ (by omega)) ?_
  rfl

@[reducible] def Lv.ps (l : Lv) : List Int := [l.p0, l.p1, l.p2, l.p3]

noncomputable def formF (l : Lv) : Lv := foldP (fun _ p (l : Lv) => { l with c := fstep p l.c }) l.ps 0 l

theorem f81_ok (n : Nat) (l : Lv) (S : St) : run Try.cfg (n + 7) (.f 81) [enc l] S = some (enc (formF l), S) := by
  refine run_pure rfl rfl (v := enc (formF l)) (S' := ?_) ?_ rfl rfl
  rotate_left
  · refine frame_of Try.cfg _ (fn := Try.f81) rfl rfl ?_
    refine WCall.mk _ _ (f80_ok (n + 5) l _) ?_
    refine WCode.mk _ _ _ (eRange_of (f := 112) (top := 1) (first := []) (cap := [.ptr (.box 0) 0]) (l := rec81 l) (r := rec81 (formF l)) (S' := st81 l (formF l)) (v := .tuple []) (by rfl) (by rfl) ?_ (by rfl) (.inl rfl)) ?_
    · refine run_here (n := n + 5) rfl ?_
      refine f112_box0 (run Try.cfg (n + 5)) n l.c l.p0 l.p1 l.p2 l.p3 1 _ [] _ ?_
      exact rounds_all (st81 l) (fun _ p (l : Lv) => { l with c := fstep p l.c }) (fun i p t _ => run_yield' (f81_round _ _ l t i p))
    · rfl

end Go.Ev

/- Levels: two levels held against one another (own work). -/
namespace Go.Ev
open Go.Proofs
set_option maxRecDepth 100000

theorem calm_then {α β : Type} (P : Program) (s : Sem α) (f : α → Sem β) : calm P (s >>= f) = (calm P s).bind fun a => calm P (f a) := by
  induction s with
  | pure a => rfl
  | program k ih => exact ih P
  | _ => rfl

theorem calm_pure {α : Type} (P : Program) (a : α) : calm P (pure a : Sem α) = some a := rfl

theorem eq3 (d : Nat) (a b : Int) : calm Try.prog (Op.equalIn (d + 1) 3 (.int .i64 a) (.int .i64 b)) = some (a == b) := rfl

theorem part3 {xs : Array Value} {i : Nat} {k : IntKind} {n : Int} (h : xs.toList[i]? = some (.int k n)) : calm Try.prog (Go.part 3 xs i) = some (.int k n) := by
  unfold Go.part
  rw [calm_then, show calm Try.prog (isAgg 3) = some false from rfl]
  have h' : xs[i]? = some (.int k n) := by simpa using h
  simp [h', calm_pure]

theorem eq22 (d : Nat) (a0 a1 a2 a3 b0 b1 b2 b3 : Int) : calm Try.prog (Op.equalIn (d + 2) 22 (.agg #[.int .i64 a0, .int .i64 a1, .int .i64 a2, .int .i64 a3]) (.agg #[.int .i64 b0, .int .i64 b1, .int .i64 b2, .int .i64 b3])) = some ((a0 == b0) && ((a1 == b1) && ((a2 == b2) && (a3 == b3)))) := by
  unfold Op.equalIn
  rw [calm_then, show calm Try.prog (underlying 22) = some (.array 4 3) from rfl]
  simp only [Option.bind]
  rw [calm_then, show calm Try.prog (sizeOf 3) = some 1 from rfl]
  simp only [Option.bind, Std.Legacy.Range.forIn_eq_forIn_range', Std.Legacy.Range.size]
  cases h0 : (a0 == b0) <;> cases h1 : (a1 == b1) <;> cases h2 : (a2 == b2) <;> cases h3 : (a3 == b3) <;>
  simp [List.range', calm_then, calm_pure, eq3, part3 (xs := #[Value.int .i64 a0, .int .i64 a1, .int .i64 a2, .int .i64 a3]) (i := 0) rfl, part3 (xs := #[Value.int .i64 a0, .int .i64 a1, .int .i64 a2, .int .i64 a3]) (i := 1) rfl,
    part3 (xs := #[Value.int .i64 a0, .int .i64 a1, .int .i64 a2, .int .i64 a3]) (i := 2) rfl, part3 (xs := #[Value.int .i64 a0, .int .i64 a1, .int .i64 a2, .int .i64 a3]) (i := 3) rfl,
    part3 (xs := #[Value.int .i64 b0, .int .i64 b1, .int .i64 b2, .int .i64 b3]) (i := 0) rfl, part3 (xs := #[Value.int .i64 b0, .int .i64 b1, .int .i64 b2, .int .i64 b3]) (i := 1) rfl,
    part3 (xs := #[Value.int .i64 b0, .int .i64 b1, .int .i64 b2, .int .i64 b3]) (i := 2) rfl, part3 (xs := #[Value.int .i64 b0, .int .i64 b1, .int .i64 b2, .int .i64 b3]) (i := 3) rfl, h0, h1, h2, h3]

theorem part22 (c p0 p1 p2 p3 : Int) : calm Try.prog (Go.part 22 #[.int .i64 c, .int .i64 p0, .int .i64 p1, .int .i64 p2, .int .i64 p3] 1) = some (.agg #[.int .i64 p0, .int .i64 p1, .int .i64 p2, .int .i64 p3]) := rfl

theorem eq24 (a b : Lv) : calm Try.prog (Op.equal 24 (.agg #[.int .i64 a.c, .int .i64 a.p0, .int .i64 a.p1, .int .i64 a.p2, .int .i64 a.p3]) (.agg #[.int .i64 b.c, .int .i64 b.p0, .int .i64 b.p1, .int .i64 b.p2, .int .i64 b.p3])) = some (decide (a = b)) := by
  have hd : decide (a = b) = ((a.c == b.c) && ((a.p0 == b.p0) && ((a.p1 == b.p1) && ((a.p2 == b.p2) && (a.p3 == b.p3))))) := by
    cases a; cases b
    rw [Bool.eq_iff_iff]
    simp
  rw [hd]
  unfold Op.equal Op.maxDepth Op.equalIn
  rw [calm_then, show calm Try.prog (underlying 24) = some (.struct #[{ name := "C", type := 3, offset := 0, embedded := false, tag := "", pkgPath := "", byteOffset := 0 }, { name := "P", type := 22, offset := 1, embedded := false, tag := "", pkgPath := "", byteOffset := 8 }]) from rfl]
  simp only [Option.bind]
  rw [calm_then, show calm Try.prog program = some Try.prog from rfl]
  simp only [Option.bind, show Try.prog.stoodInHeld 24 = false by kernel_rfl]
  cases h0 : (a.c == b.c) <;> cases h1 : ((a.p0 == b.p0) && ((a.p1 == b.p1) && ((a.p2 == b.p2) && (a.p3 == b.p3)))) <;>
  simp [calm_then, calm_pure, eq3, eq22, part22, part3 (xs := #[Value.int .i64 a.c, .int .i64 a.p0, .int .i64 a.p1, .int .i64 a.p2, .int .i64 a.p3]) (i := 0) rfl,
    part3 (xs := #[Value.int .i64 b.c, .int .i64 b.p0, .int .i64 b.p1, .int .i64 b.p2, .int .i64 b.p3]) (i := 0) rfl, h0, h1]

/-- Two levels, held against one another. -/
theorem bin24 (a b : Lv) : binOp Try.cfg .eql 24 (enc a) (enc b) = some (.bool (decide (a = b))) := by
  have e : calm Try.cfg.prog (do eqGuard .eql 24 (.tmp 0) (.tmp 0) (.agg ⟨[Value.int .i64 a.c, .int .i64 a.p0, .int .i64 a.p1, .int .i64 a.p2, .int .i64 a.p3]⟩) (.agg ⟨[Value.int .i64 b.c, .int .i64 b.p0, .int .i64 b.p1, .int .i64 b.p2, .int .i64 b.p3]⟩); Op.equal 24 (.agg ⟨[Value.int .i64 a.c, .int .i64 a.p0, .int .i64 a.p1, .int .i64 a.p2, .int .i64 a.p3]⟩) (.agg ⟨[Value.int .i64 b.c, .int .i64 b.p0, .int .i64 b.p1, .int .i64 b.p2, .int .i64 b.p3]⟩)) = some (decide (a = b)) := by
    rw [calm_then, show calm Try.cfg.prog (eqGuard .eql 24 (.tmp 0) (.tmp 0) (.agg ⟨[Value.int .i64 a.c, .int .i64 a.p0, .int .i64 a.p1, .int .i64 a.p2, .int .i64 a.p3]⟩) (.agg ⟨[Value.int .i64 b.c, .int .i64 b.p0, .int .i64 b.p1, .int .i64 b.p2, .int .i64 b.p3]⟩)) = some () by kernel_rfl]
    exact eq24 a b
  show (match Try.cfg.ti 24, calm Try.cfg.prog _ with
    | some _, some b => some (V.bool b)
    | _, _ => none) = _
  rw [e]
  rfl

theorem bin24n (a b : Lv) : binOp Try.cfg .neq 24 (enc a) (enc b) = some (.bool (!decide (a = b))) := by
  have e : calm Try.cfg.prog (do eqGuard .neq 24 (.tmp 0) (.tmp 0) (.agg ⟨[Value.int .i64 a.c, .int .i64 a.p0, .int .i64 a.p1, .int .i64 a.p2, .int .i64 a.p3]⟩) (.agg ⟨[Value.int .i64 b.c, .int .i64 b.p0, .int .i64 b.p1, .int .i64 b.p2, .int .i64 b.p3]⟩); Op.equal 24 (.agg ⟨[Value.int .i64 a.c, .int .i64 a.p0, .int .i64 a.p1, .int .i64 a.p2, .int .i64 a.p3]⟩) (.agg ⟨[Value.int .i64 b.c, .int .i64 b.p0, .int .i64 b.p1, .int .i64 b.p2, .int .i64 b.p3]⟩)) = some (decide (a = b)) := by
    rw [calm_then, show calm Try.cfg.prog (eqGuard .neq 24 (.tmp 0) (.tmp 0) (.agg ⟨[Value.int .i64 a.c, .int .i64 a.p0, .int .i64 a.p1, .int .i64 a.p2, .int .i64 a.p3]⟩) (.agg ⟨[Value.int .i64 b.c, .int .i64 b.p0, .int .i64 b.p1, .int .i64 b.p2, .int .i64 b.p3]⟩)) = some () by kernel_rfl]
    exact eq24 a b
  show (match Try.cfg.ti 24, calm Try.cfg.prog _ with
    | some _, some b => some (V.bool (!b))
    | _, _ => none) = _
  rw [e]
  rfl

end Go.Ev

/- Levels: May, told, plus, join, Succ, Max, Zero, Param (written by lvd.py; own work). -/
namespace Go.Ev
open Go.Proofs
set_option maxRecDepth 100000

@[reducible] def TOP : Int := 1099511627776
noncomputable def okP (p : Int) : Bool := !iLt p (-1) && !iLt TOP p
noncomputable def mayF (l : Lv) : Bool := !iLt l.c 0 && (!iLt TOP l.c && (okP l.p0 && (okP l.p1 && (okP l.p2 && (okP l.p3 && decide (formF l = l))))))

theorem f26_frame (n : Nat) (l : Lv) : frame Try.cfg (run Try.cfg (n + 7)) (n + 7) 26 [enc l] St.empty = some (.bool (mayF l), St.empty) := by
  refine frame_of Try.cfg _ (fn := Try.f26) rfl rfl ?_
  refine WCmp.mk (fun a1 => ?_) (fun a1 => ?_)
  · rw [show mayF l = false by simp [mayF, okP, *]]; rfl
  refine WCmp.mk (fun a2 => ?_) (fun a2 => ?_)
  · rw [show mayF l = false by simp [mayF, okP, *]]; rfl
  refine WCode.round (nt := 29) (fx := []) ?_
  refine WCmp.yes rfl ?_
  refine WOut.mk _ rfl ?_
  refine WCmp.mk (fun b0 => ?_) (fun b0 => ?_)
  · rw [show mayF l = false by simp [mayF, okP, *]]; rfl
  refine WCmp.mk (fun c0 => ?_) (fun c0 => ?_)
  · rw [show mayF l = false by simp [mayF, okP, *]]; rfl
  refine WOut.mk _ rfl ?_
  refine WCode.round (nt := 29) (fx := []) ?_
  refine WCmp.yes rfl ?_
  refine WOut.mk _ rfl ?_
  refine WCmp.mk (fun b1 => ?_) (fun b1 => ?_)
  · rw [show mayF l = false by simp [mayF, okP, *]]; rfl
  refine WCmp.mk (fun c1 => ?_) (fun c1 => ?_)
  · rw [show mayF l = false by simp [mayF, okP, *]]; rfl
  refine WOut.mk _ rfl ?_
  refine WCode.round (nt := 29) (fx := []) ?_
  refine WCmp.yes rfl ?_
  refine WOut.mk _ rfl ?_
  refine WCmp.mk (fun b2 => ?_) (fun b2 => ?_)
  · rw [show mayF l = false by simp [mayF, okP, *]]; rfl
  refine WCmp.mk (fun c2 => ?_) (fun c2 => ?_)
  · rw [show mayF l = false by simp [mayF, okP, *]]; rfl
  refine WOut.mk _ rfl ?_
  refine WCode.round (nt := 29) (fx := []) ?_
  refine WCmp.yes rfl ?_
  refine WOut.mk _ rfl ?_
  refine WCmp.mk (fun b3 => ?_) (fun b3 => ?_)
  · rw [show mayF l = false by simp [mayF, okP, *]]; rfl
  refine WCmp.mk (fun c3 => ?_) (fun c3 => ?_)
  · rw [show mayF l = false by simp [mayF, okP, *]]; rfl
  refine WOut.mk _ rfl ?_
  refine WCode.round (nt := 29) (fx := []) ?_
  refine WCmp.no rfl ?_
  refine WCall.mk _ _ (f81_ok n l _) ?_
  refine WOut.mk _ (bin24 _ _) ?_
  rw [show mayF l = decide (formF l = l) by simp [mayF, okP, *]]
  rfl

theorem f26_ok (n : Nat) (l : Lv) (S : St) : run Try.cfg (n + 8) (.f 26) [enc l] S = some (.bool (mayF l), S) :=
  run_val (f26_frame n l) rfl rfl rfl rfl rfl

noncomputable def noLv : Lv := ⟨0, 0, 0, 0, 0⟩

noncomputable def toldF (l : Lv) : Lv × Int := bif mayF (formF l) then (formF l, 0) else (noLv, 4)

@[reducible] def encR (r : Lv × Int) : V := .tuple [enc r.1, .int .i64 r.2]

theorem f74_frame (n : Nat) (l : Lv) : frame Try.cfg (run Try.cfg (n + 8)) (n + 8) 74 [enc l] St.empty = some (encR (toldF l), St.empty) := by
  refine frame_of Try.cfg _ (fn := Try.f74) rfl rfl ?_
  refine WCall.mk _ _ (f81_ok (n + 1) l _) ?_
  refine WCall.mk _ _ (f26_ok n (formF l) _) ?_
  cases h : mayF (formF l) with
  | true =>
    rw [show toldF l = (formF l, 0) by simp [toldF, h]]
    rfl
  | false =>
    rw [show toldF l = (noLv, 4) by simp [toldF, h]]
    rfl

theorem f74_ok (n : Nat) (l : Lv) (S : St) : run Try.cfg (n + 9) (.f 74) [enc l] S = some (encR (toldF l), S) :=
  run_val (f74_frame n l) rfl rfl rfl rfl rfl

end Go.Ev

/- Levels: plus, join, Succ, Max, Zero, Param (own work). -/
namespace Go.Ev
open Go.Proofs
set_option maxRecDepth 100000

noncomputable def Lv.set (i v : Int) (l : Lv) : Lv := bif iEq i 0 then { l with p0 := v } else bif iEq i 1 then { l with p1 := v } else bif iEq i 2 then { l with p2 := v } else { l with p3 := v }
noncomputable def Lv.get (i : Int) (l : Lv) : Int := bif iEq i 0 then l.p0 else bif iEq i 1 then l.p1 else bif iEq i 2 then l.p2 else l.p3
def maxI (m n : Int) : Int := if n > m then n else m

/-! ### plus -/

noncomputable def rec75 (by' : Int) (l : Lv) : LoopR := { fid := 75, nt := 23, tmps := [(2, .ptr (.loc 2) 0), (3, .ptr (.loc 3) 0), (4, .ptr (.loc 4) 0), (13, .fn 112 1 [] [.ptr (.box 0) 0])], locs := [(2, cellsOf l), (3, [.int .i64 by']), (4, zeros)], params := [14, 15], assign := rangeX Try.f75, body := rangeY Try.f75, st := .ready, pend := none }

noncomputable def st75 (l0 : Lv) (by' : Int) (l : Lv) : St := { heap := [.cells 24 (cellsOf l0), .loop (rec75 by' l)], toks := [] }

theorem f75_round (R : Run) (k : Nat) (l0 l : Lv) (by' i p : Int) (hi : i = 0 ∨ i = 1 ∨ i = 2 ∨ i = 3) :
    round Try.cfg R k 1 [.int .i64 i, .int .i64 p] (st75 l0 by' l) = some (.bool true, st75 l0 by' (l.set i (wrapI .i64 (p + by')))) := by
  refine round_of (r := rec75 by' l) (nt := 23) (fx := [2, 3, 4]) rfl rfl rfl rfl rfl rfl rfl ?_
  refine WOut.mk _ rfl ?_
  rcases hi with rfl | rfl | rfl | rfl <;> (refine WOut.mk _ rfl ?_; rfl)

noncomputable def plusF (l : Lv) (by' : Int) : Lv := foldP (fun i p (l : Lv) => l.set i (wrapI .i64 (p + by'))) l.ps 0 { l with c := wrapI .i64 (l.c + by') }

theorem f75_frame (n : Nat) (l : Lv) (by' : Int) : ∃ S', frame Try.cfg (run Try.cfg (n + 6)) (n + 6) 75 [enc l, .int .i64 by'] St.empty = some (enc (plusF l by'), S') := by
  refine frame_ex Try.cfg _ (fn := Try.f75) rfl rfl ?_
  refine WOut.mk _ rfl ?_
  refine WCall.mk _ _ (f80_ok (n + 5) { l with c := wrapI .i64 (l.c + by') } _) ?_
  refine WCode.mk _ _ _ (eRange_of (f := 112) (top := 1) (first := []) (cap := [.ptr (.box 0) 0]) (l := rec75 by' { l with c := wrapI .i64 (l.c + by') }) (r := rec75 by' (plusF l by')) (S' := st75 { l with c := wrapI .i64 (l.c + by') } by' (plusF l by')) (v := .tuple []) (by rfl) (by rfl) ?_ (by rfl) (.inl rfl)) ?_
  · refine run_here (n := n + 5) rfl ?_
    refine f112_box0 (run Try.cfg (n + 5)) n _ l.p0 l.p1 l.p2 l.p3 1 _ [] _ ?_
    exact rounds_all (st75 { l with c := wrapI .i64 (l.c + by') } by') _ (fun i p t hi => run_yield' (f75_round _ _ _ t by' i p hi))
  · exact ⟨_, rfl⟩

theorem f75_ok (n : Nat) (l : Lv) (by' : Int) (S : St) : run Try.cfg (n + 7) (.f 75) [enc l, .int .i64 by'] S = some (enc (plusF l by'), S) := by
  obtain ⟨S', h⟩ := f75_frame n l by'
  exact run_val h rfl rfl rfl rfl rfl

/-! ### join -/

noncomputable def rec78 (a b : Lv) : LoopR := { fid := 78, nt := 27, tmps := [(2, .ptr (.loc 2) 0), (4, .ptr (.loc 4) 0), (14, .fn 112 1 [] [.ptr (.box 0) 0])], locs := [(2, cellsOf a), (3, cellsOf b), (4, zeros)], params := [15, 16], assign := rangeX Try.f78, body := rangeY Try.f78, st := .ready, pend := none }

noncomputable def st78 (b a : Lv) : St := { heap := [.cells 24 (cellsOf b), .loop (rec78 a b)], toks := [] }

theorem f78_round (R : Run) (k : Nat) (b a : Lv) (i p : Int) (hi : i = 0 ∨ i = 1 ∨ i = 2 ∨ i = 3) :
    round Try.cfg R k 1 [.int .i64 i, .int .i64 p] (st78 b a) = some (.bool true, st78 b (a.set i (maxI (a.get i) p))) := by
  refine round_of (r := rec78 a b) (nt := 27) (fx := [2, 3, 4]) rfl rfl rfl rfl rfl rfl rfl ?_
  rcases hi with rfl | rfl | rfl | rfl <;> (refine WOut.mk _ rfl ?_; refine WOut.mk _ rfl ?_; rfl)

noncomputable def joinF (a b : Lv) : Lv := foldP (fun i p (a : Lv) => a.set i (maxI (a.get i) p)) b.ps 0 { a with c := maxI a.c b.c }

theorem f78_frame (n : Nat) (a b : Lv) : ∃ S', frame Try.cfg (run Try.cfg (n + 6)) (n + 6) 78 [enc a, enc b] St.empty = some (enc (joinF a b), S') := by
  refine frame_ex Try.cfg _ (fn := Try.f78) rfl rfl ?_
  refine WCall.mk _ _ (f80_ok (n + 5) b _) ?_
  refine WCode.mk _ _ _ (eRange_of (f := 112) (top := 1) (first := []) (cap := [.ptr (.box 0) 0]) (l := rec78 { a with c := maxI a.c b.c } b) (r := rec78 (joinF a b) b) (S' := st78 b (joinF a b)) (v := .tuple []) (by rfl) (by rfl) ?_ (by rfl) (.inl rfl)) ?_
  · refine run_here (n := n + 5) rfl ?_
    refine f112_box0 (run Try.cfg (n + 5)) n b.c b.p0 b.p1 b.p2 b.p3 1 _ [] _ ?_
    exact rounds_all (st78 b) _ (fun i p t hi => run_yield' (f78_round _ _ b t i p hi))
  · exact ⟨_, rfl⟩

theorem f78_ok (n : Nat) (a b : Lv) (S : St) : run Try.cfg (n + 7) (.f 78) [enc a, enc b] S = some (enc (joinF a b), S) := by
  obtain ⟨S', h⟩ := f78_frame n a b
  exact run_val h rfl rfl rfl rfl rfl

/-! ### Succ, Max -/

noncomputable def succF (l : Lv) : Lv × Int := bif mayF l then toldF (plusF l 1) else (noLv, 1)
noncomputable def maxF (a b : Lv) : Lv × Int := bif mayF a && mayF b then toldF (joinF a b) else (noLv, 1)

theorem f18_frame (n : Nat) (l : Lv) : frame Try.cfg (run Try.cfg (n + 9)) (n + 9) 18 [enc l] St.empty = some (encR (succF l), St.empty) := by
  refine frame_of Try.cfg _ (fn := Try.f18) rfl rfl ?_
  refine WCall.mk _ _ (f26_ok (n + 1) l _) ?_
  cases h : mayF l with
  | true =>
    refine WCall.mk _ _ (f75_ok (n + 2) l 1 _) ?_
    refine WCall.mk _ _ (f74_ok n (plusF l 1) _) ?_
    rw [show succF l = toldF (plusF l 1) by simp [succF, h]]
    rfl
  | false =>
    rw [show succF l = (noLv, 1) by simp [succF, h]]
    rfl

theorem f18_ok (n : Nat) (l : Lv) (S : St) : run Try.cfg (n + 10) (.f 18) [enc l] S = some (encR (succF l), S) := run_val (f18_frame n l) rfl rfl rfl rfl rfl

theorem f20_frame (n : Nat) (a b : Lv) : frame Try.cfg (run Try.cfg (n + 9)) (n + 9) 20 [enc a, enc b] St.empty = some (encR (maxF a b), St.empty) := by
  refine frame_of Try.cfg _ (fn := Try.f20) rfl rfl ?_
  refine WCall.mk _ _ (f26_ok (n + 1) a _) ?_
  cases h : mayF a with
  | true =>
    refine WCall.mk _ _ (f26_ok (n + 1) b _) ?_
    cases h2 : mayF b with
    | true =>
      refine WCall.mk _ _ (f78_ok (n + 2) a b _) ?_
      refine WCall.mk _ _ (f74_ok n (joinF a b) _) ?_
      rw [show maxF a b = toldF (joinF a b) by simp [maxF, h, h2]]
      rfl
    | false =>
      rw [show maxF a b = (noLv, 1) by simp [maxF, h2]]
      rfl
  | false =>
    rw [show maxF a b = (noLv, 1) by simp [maxF, h]]
    rfl

theorem f20_ok (n : Nat) (a b : Lv) (S : St) : run Try.cfg (n + 10) (.f 20) [enc a, enc b] S = some (encR (maxF a b), S) := run_val (f20_frame n a b) rfl rfl rfl rfl rfl

/-! ### Zero, Param -/

@[reducible] def zeroLv : Lv := ⟨0, -1, -1, -1, -1⟩

theorem f32_ok (n : Nat) (S : St) : run Try.cfg (n + 6) (.f 32) [] S = some (enc zeroLv, S) :=
  run_val (v := enc zeroLv) (S' := St.empty) (frame_of Try.cfg _ (fn := Try.f32) rfl rfl (by
    iterate 4
      refine WCode.round (nt := 10) (fx := []) ?_
      refine WCmp.yes rfl ?_
      refine WOut.mk _ rfl ?_
      refine WOut.mk _ rfl ?_
    refine WCode.round (nt := 10) (fx := []) ?_
    refine WCmp.no rfl ?_
    rfl)) rfl rfl rfl rfl rfl

noncomputable def paramF (i : Int) : Lv × Int := bif iLt i 0 || !iLt i 4 then (noLv, 1) else (zeroLv.set i 0, 0)

theorem iLt_iff {a b : Int} : iLt a b = true ↔ a < b := by rw [iLt_eq]; simp
theorem iLt_not {a b : Int} : iLt a b = false ↔ b ≤ a := by rw [iLt_eq]; simp

theorem f24_frame (n : Nat) (i : Int) : frame Try.cfg (run Try.cfg (n + 6)) (n + 6) 24 [.int .i64 i] St.empty = some (encR (paramF i), St.empty) := by
  refine frame_of Try.cfg _ (fn := Try.f24) rfl rfl ?_
  refine WCall.mk _ _ (f32_ok n _) ?_
  refine WCmp.mk (fun h => ?_) (fun h => ?_)
  · rw [show paramF i = (noLv, 1) by simp [paramF, h]]; rfl
  · refine WCmp.mk (fun h2 => ?_) (fun h2 => ?_)
    · rw [show paramF i = (noLv, 1) by simp [paramF, h2]]; rfl
    · have h3 := iLt_not.1 h
      have h4 : i < 4 := iLt_iff.1 (by simpa using h2)
      have h5 : i = 0 ∨ i = 1 ∨ i = 2 ∨ i = 3 := by omega
      rcases h5 with rfl | rfl | rfl | rfl <;> (refine WOut.mk _ rfl ?_; rfl)

theorem f24_ok (n : Nat) (i : Int) (S : St) : run Try.cfg (n + 7) (.f 24) [.int .i64 i] S = some (encR (paramF i), S) := run_val (f24_frame n i) rfl rfl rfl rfl rfl

end Go.Ev

/- Levels: Leq, At (own work). -/
namespace Go.Ev
open Go.Proofs
set_option maxRecDepth 100000

/-! ### Loops over the parameters of a level that may be left -/

noncomputable def foldE {T : Type} (step : Int → Int → T → Option T) : List Int → Int → T → Bool × T
  | [], _, t => (true, t)
  | p :: ps, i, t => match iLt p 0 with
    | true => foldE step ps (i + 1) t
    | false => match step i p t with
      | some t' => foldE step ps (i + 1) t'
      | none => (false, t)

theorem rounds_exit {R : Run} {b : Nat} {T : Type} (st stX : T → St) (step : Int → Int → T → Option T) : ∀ (ps : List Int) (i : Int) (t : T), 0 ≤ i → i + ps.length ≤ 4 →
    (∀ i p t t', (i = 0 ∨ i = 1 ∨ i = 2 ∨ i = 3) → iLt p 0 = false → step i p t = some t' → R (.y b) [.int .i64 i, .int .i64 p] (st t) = some (.bool true, st t')) →
    (∀ i p t, (i = 0 ∨ i = 1 ∨ i = 2 ∨ i = 3) → iLt p 0 = false → step i p t = none → R (.y b) [.int .i64 i, .int .i64 p] (st t) = some (.bool false, stX t)) →
    Rounds R b ps i (st t) (match foldE step ps i t with | (true, t') => st t' | (false, t') => stX t')
  | [], i, t, _, _, _, _ => rfl
  | p :: ps, i, t, h0, h4, h1, h2 => by
    have h4' : i + 1 + ps.length ≤ 4 := by simp only [List.length_cons] at h4; omega
    have hi : i = 0 ∨ i = 1 ∨ i = 2 ∨ i = 3 := by omega
    unfold foldE
    cases hq : iLt p 0 with
    | true => exact .inl ⟨hq, rounds_exit st stX step ps (i + 1) t (by omega) h4' h1 h2⟩
    | false =>
      simp only
      cases hs : step i p t with
      | some t' => exact .inr (.inl ⟨hq, _, h1 i p t t' hi hq hs, rounds_exit st stX step ps (i + 1) t' (by omega) h4' h1 h2⟩)
      | none => exact .inr (.inr ⟨hq, h2 i p t hi hq hs⟩)

/-! ### Leq -/

noncomputable def rec28 (a b : Lv) (m : Int) : LoopR := { fid := 28, nt := 41, tmps := [(2, .ptr (.loc 2) 0), (3, .ptr (.loc 3) 0), (4, .ptr (.loc 4) 0), (5, .ptr (.loc 5) 0), (21, .fn 112 1 [] [.ptr (.box 0) 0])], locs := [(2, cellsOf a), (3, cellsOf b), (4, [.bool false]), (5, [.int .i64 m])], params := [22, 23], assign := rangeX Try.f28, body := rangeY Try.f28, st := .ready, pend := none }

noncomputable def st28 (a b : Lv) (m : Int) : St := { heap := [.cells 24 (cellsOf b), .loop (rec28 a b m)], toks := [] }

theorem f28_round (R : Run) (k : Nat) (a b : Lv) (m i p : Int) : round Try.cfg R k 1 [.int .i64 i, .int .i64 p] (st28 a b m) = some (.bool true, st28 a b (maxI m p)) := by
  refine round_of (r := rec28 a b m) (nt := 41) (fx := [2, 3, 4, 5]) rfl rfl rfl rfl rfl rfl rfl ?_
  rfl

noncomputable def rangesOf : Code → List (Code × Code)
  | .seq a b => rangesOf a ++ rangesOf b
  | .block _ b => rangesOf b
  | .rangeFunc _ _ x y => [(x, y)]
  | _ => []

noncomputable def rangeN (fn : Func) (j : Nat) : Code × Code := (((fn.body.map rangesOf).getD [])[j]?).getD (.skip, .skip)

noncomputable def over28 (a b : Lv) (m : Int) : LoopR := { rec28 a b m with st := .over, locs := [], tmps := [], pend := none }

noncomputable def rec28b (a b : Lv) (m : Int) : LoopR := { fid := 28, nt := 41, tmps := [(2, .ptr (.loc 2) 0), (3, .ptr (.loc 3) 0), (4, .ptr (.loc 4) 0), (5, .ptr (.loc 5) 0), (28, .fn 112 3 [] [.ptr (.box 2) 0])], locs := [(2, cellsOf a), (3, cellsOf b), (4, [.bool false]), (5, [.int .i64 m])], params := [29, 30], assign := (rangeN Try.f28 1).1, body := (rangeN Try.f28 1).2, st := .ready, pend := none }

noncomputable def st28b (a b : Lv) (m : Int) : St := { heap := [.cells 24 (cellsOf b), .loop (over28 a b m), .cells 24 (cellsOf a), .loop (rec28b a b m)], toks := [] }
noncomputable def st28x (a b : Lv) (m : Int) : St := { heap := [.cells 24 (cellsOf b), .loop (over28 a b m), .cells 24 (cellsOf a), .loop { rec28b a b m with st := .done, pend := some .ret }], toks := [] }

theorem f28_go (R : Run) (k : Nat) (a b : Lv) (m i p : Int) (hi : i = 0 ∨ i = 1 ∨ i = 2 ∨ i = 3) (h : iLt (b.get i) p = false) :
    round Try.cfg R k 3 [.int .i64 i, .int .i64 p] (st28b a b m) = some (.bool true, st28b a b m) := by
  refine round_of (r := rec28b a b m) (nt := 41) (fx := [2, 3, 4, 5]) rfl rfl rfl rfl rfl rfl rfl ?_
  rcases hi with rfl | rfl | rfl | rfl <;> (refine WOut.mk _ rfl ?_; refine WCmp.no h ?_; rfl)

theorem f28_stop (R : Run) (k : Nat) (a b : Lv) (m i p : Int) (hi : i = 0 ∨ i = 1 ∨ i = 2 ∨ i = 3) (h : iLt (b.get i) p = true) :
    round Try.cfg R k 3 [.int .i64 i, .int .i64 p] (st28b a b m) = some (.bool false, st28x a b m) := by
  refine round_of (r := rec28b a b m) (nt := 41) (fx := [2, 3, 4, 5]) rfl rfl rfl rfl rfl rfl rfl ?_
  rcases hi with rfl | rfl | rfl | rfl <;> (refine WOut.mk _ rfl ?_; refine WCmp.yes h ?_; rfl)

noncomputable def leastF (b : Lv) : Int := foldP (fun _ p m => maxI m p) b.ps 0 b.c
noncomputable def leqStep (b : Lv) (i p : Int) (_ : Unit) : Option Unit := match iLt (b.get i) p with | true => none | false => some ()
noncomputable def leqF (a b : Lv) : Bool := match mayF a && mayF b with
  | true => match foldE (leqStep b) a.ps 0 () with
    | (true, _) => !iLt (leastF b) a.c
    | (false, _) => false
  | false => false

theorem f28_frame (n : Nat) (a b : Lv) : ∃ S', frame Try.cfg (run Try.cfg (n + 8)) (n + 8) 28 [enc a, enc b] St.empty = some (.bool (leqF a b), S') := by
  refine frame_ex Try.cfg _ (fn := Try.f28) rfl rfl ?_
  refine WCall.mk _ _ (f26_ok n a _) ?_
  cases ha : mayF a with
  | false => rw [show leqF a b = false by simp [leqF, ha]]; exact ⟨_, rfl⟩
  | true =>
  refine WCall.mk _ _ (f26_ok n b _) ?_
  cases hb : mayF b with
  | false => rw [show leqF a b = false by simp [leqF, hb]]; exact ⟨_, rfl⟩
  | true =>
  refine WCall.mk _ _ (f80_ok (n + 7) b _) ?_
  refine WCode.mk _ _ _ (eRange_of (f := 112) (top := 1) (first := []) (cap := [.ptr (.box 0) 0]) (l := rec28 a b b.c) (r := rec28 a b (leastF b)) (S' := st28 a b (leastF b)) (v := .tuple []) (by rfl) (by rfl) ?_ (by rfl) (.inl rfl)) ?_
  · refine run_here (n := n + 7) rfl ?_
    refine f112_box0 (run Try.cfg (n + 7)) (n + 2) b.c b.p0 b.p1 b.p2 b.p3 1 _ [] _ ?_
    exact rounds_all (st28 a b) _ (fun i p t _ => run_yield' (n := n + 6) (f28_round _ _ a b t i p))
  refine WCall.mk _ _ (f80_ok (n + 7) a _) ?_
  have hrounds := rounds_exit (R := run Try.cfg (n + 7)) (b := 3) (fun _ : Unit => st28b a b (leastF b)) (fun _ => st28x a b (leastF b)) (leqStep b) a.ps 0 () (by omega) (by simp)
    (fun i p _ _ hi _ hs => run_yield' (n := n + 6) (f28_go _ _ a b _ i p hi (by unfold leqStep at hs; split at hs <;> first | assumption | cases hs)))
    (fun i p _ hi _ hs => run_yield' (n := n + 6) (f28_stop _ _ a b _ i p hi (by unfold leqStep at hs; split at hs <;> first | assumption | cases hs)))
  cases hf : foldE (leqStep b) a.ps 0 () with
  | mk ok u =>
  rw [hf] at hrounds
  cases ok with
  | true =>
    refine WCode.mk _ _ _ (eRange_of (f := 112) (top := 3) (first := []) (cap := [.ptr (.box 2) 0]) (l := rec28b a b (leastF b)) (r := rec28b a b (leastF b)) (S' := st28b a b (leastF b)) (v := .tuple []) (by rfl) (by rfl) ?_ (by rfl) (.inl rfl)) ?_
    · refine run_here (n := n + 7) rfl ?_
      exact f112_box2 (run Try.cfg (n + 7)) (n + 2) a.c a.p0 a.p1 a.p2 a.p3 3 _ _ _ [] _ hrounds
    rw [show leqF a b = !iLt (leastF b) a.c by simp [leqF, ha, hb, hf]]
    refine WCmp.mk (fun h => ?_) (fun h => ?_)
    · rw [h]; exact ⟨_, rfl⟩
    · rw [h]; exact ⟨_, rfl⟩
  | false =>
    refine WCode.mk _ _ _ (eRange_of (f := 112) (top := 3) (first := []) (cap := [.ptr (.box 2) 0]) (l := rec28b a b (leastF b)) (r := { rec28b a b (leastF b) with st := .done, pend := some .ret }) (S' := st28x a b (leastF b)) (v := .tuple []) (by rfl) (by rfl) ?_ (by rfl) (.inr rfl)) ?_
    · refine run_here (n := n + 7) rfl ?_
      exact f112_box2 (run Try.cfg (n + 7)) (n + 2) a.c a.p0 a.p1 a.p2 a.p3 3 _ _ _ [] _ hrounds
    rw [show leqF a b = false by simp [leqF, ha, hb, hf]]
    exact ⟨_, rfl⟩

theorem f28_ok (n : Nat) (a b : Lv) (S : St) : run Try.cfg (n + 9) (.f 28) [enc a, enc b] S = some (.bool (leqF a b), S) := by
  obtain ⟨S', h⟩ := f28_frame n a b
  exact run_val h rfl rfl rfl rfl rfl

/-! ### At -/

structure P4 where
  p0 : Int
  p1 : Int
  p2 : Int
  p3 : Int

@[reducible] def encP (p : P4) : V := .agg [.int .i64 p.p0, .int .i64 p.p1, .int .i64 p.p2, .int .i64 p.p3]
noncomputable def P4.get (i : Int) (l : P4) : Int := bif iEq i 0 then l.p0 else bif iEq i 1 then l.p1 else bif iEq i 2 then l.p2 else l.p3

noncomputable def rec30 (l : Lv) (p : P4) (m : Int) : LoopR := { fid := 30, nt := 38, tmps := [(3, .ptr (.loc 3) 0), (4, .int .i64 0), (7, .ptr (.loc 7) 0), (27, .fn 112 1 [] [.ptr (.box 0) 0])], locs := [(2, cellsOf l), (3, [.int .i64 p.p0, .int .i64 p.p1, .int .i64 p.p2, .int .i64 p.p3]), (7, [.int .i64 m])], params := [28, 29], assign := rangeX Try.f30, body := rangeY Try.f30, st := .ready, pend := none }
noncomputable def st30 (l : Lv) (p : P4) (m : Int) : St := { heap := [.cells 24 (cellsOf l), .loop (rec30 l p m)], toks := [] }

theorem f30_round (R : Run) (k : Nat) (l : Lv) (q : P4) (m i p : Int) (hi : i = 0 ∨ i = 1 ∨ i = 2 ∨ i = 3) :
    round Try.cfg R k 1 [.int .i64 i, .int .i64 p] (st30 l q m) = some (.bool true, st30 l q (maxI m (wrapI .i64 (q.get i + p)))) := by
  refine round_of (r := rec30 l q m) (nt := 38) (fx := [2, 3, 7]) rfl rfl rfl rfl rfl rfl rfl ?_
  rcases hi with rfl | rfl | rfl | rfl <;> (refine WOut.mk _ rfl ?_; refine WOut.mk _ rfl ?_; rfl)

@[reducible] def FAR : Int := 2199023255552
noncomputable def okFar (p : Int) : Bool := !iLt p 0 && !iLt FAR p
noncomputable def atF (l : Lv) (q : P4) : Int := bif okFar q.p0 && (okFar q.p1 && (okFar q.p2 && (okFar q.p3 && mayF l))) then foldP (fun i p m => maxI m (wrapI .i64 (q.get i + p))) l.ps 0 l.c else 0

theorem f30_frame (n : Nat) (l : Lv) (q : P4) : ∃ S', frame Try.cfg (run Try.cfg (n + 8)) (n + 8) 30 [enc l, encP q] St.empty = some (.int .i64 (atF l q), S') := by
  refine frame_ex Try.cfg _ (fn := Try.f30) rfl rfl ?_
  refine WCode.round (nt := 38) (fx := []) ?_
  refine WCmp.yes rfl ?_
  refine WOut.mk _ rfl ?_
  refine WCmp.mk (fun b0 => ?_) (fun b0 => ?_)
  · rw [show atF l q = 0 by simp [atF, okFar, *]]; exact ⟨_, rfl⟩
  refine WCmp.mk (fun c0 => ?_) (fun c0 => ?_)
  · rw [show atF l q = 0 by simp [atF, okFar, *]]; exact ⟨_, rfl⟩
  refine WOut.mk _ rfl ?_
  refine WCode.round (nt := 38) (fx := []) ?_
  refine WCmp.yes rfl ?_
  refine WOut.mk _ rfl ?_
  refine WCmp.mk (fun b1 => ?_) (fun b1 => ?_)
  · rw [show atF l q = 0 by simp [atF, okFar, *]]; exact ⟨_, rfl⟩
  refine WCmp.mk (fun c1 => ?_) (fun c1 => ?_)
  · rw [show atF l q = 0 by simp [atF, okFar, *]]; exact ⟨_, rfl⟩
  refine WOut.mk _ rfl ?_
  refine WCode.round (nt := 38) (fx := []) ?_
  refine WCmp.yes rfl ?_
  refine WOut.mk _ rfl ?_
  refine WCmp.mk (fun b2 => ?_) (fun b2 => ?_)
  · rw [show atF l q = 0 by simp [atF, okFar, *]]; exact ⟨_, rfl⟩
  refine WCmp.mk (fun c2 => ?_) (fun c2 => ?_)
  · rw [show atF l q = 0 by simp [atF, okFar, *]]; exact ⟨_, rfl⟩
  refine WOut.mk _ rfl ?_
  refine WCode.round (nt := 38) (fx := []) ?_
  refine WCmp.yes rfl ?_
  refine WOut.mk _ rfl ?_
  refine WCmp.mk (fun b3 => ?_) (fun b3 => ?_)
  · rw [show atF l q = 0 by simp [atF, okFar, *]]; exact ⟨_, rfl⟩
  refine WCmp.mk (fun c3 => ?_) (fun c3 => ?_)
  · rw [show atF l q = 0 by simp [atF, okFar, *]]; exact ⟨_, rfl⟩
  refine WOut.mk _ rfl ?_
  refine WCode.round (nt := 38) (fx := []) ?_
  refine WCmp.no rfl ?_
  refine WCall.mk _ _ (f26_ok n l _) ?_
  cases hm : mayF l with
  | false => rw [show atF l q = 0 by simp [atF, hm]]; exact ⟨_, rfl⟩
  | true =>
  have e : atF l q = foldP (fun i p m => maxI m (wrapI .i64 (q.get i + p))) l.ps 0 l.c := by simp [atF, okFar, *]
  refine WCall.mk _ _ (f80_ok (n + 7) l _) ?_
  refine WCode.mk _ _ _ (eRange_of (f := 112) (top := 1) (first := []) (cap := [.ptr (.box 0) 0]) (l := rec30 l q l.c) (r := rec30 l q (atF l q)) (S' := st30 l q (atF l q)) (v := .tuple []) (by rfl) (by rfl) ?_ (by rfl) (.inl rfl)) ?_
  · refine run_here (n := n + 7) rfl ?_
    refine f112_box0 (run Try.cfg (n + 7)) (n + 2) l.c l.p0 l.p1 l.p2 l.p3 1 _ [] _ ?_
    rw [e]
    exact rounds_all (st30 l q) _ (fun i p t hi => run_yield' (n := n + 6) (f30_round _ _ l q t i p hi))
  · exact ⟨_, rfl⟩

theorem f30_ok (n : Nat) (l : Lv) (q : P4) (S : St) : run Try.cfg (n + 9) (.f 30) [enc l, encP q] S = some (.int .i64 (atF l q), S) := by
  obtain ⟨S', h⟩ := f30_frame n l q
  exact run_val h rfl rfl rfl rfl rfl

end Go.Ev

/- Levels: Inst (written by lvg.py; own work). -/
namespace Go.Ev
open Go.Proofs
set_option maxRecDepth 100000

@[reducible] def encL (tok : Tok) (bys : List Lv) : V := .list 5 tok 0 (bys.map enc)

noncomputable def loopsOf : Code → List Code
  | .seq a b => loopsOf a ++ loopsOf b
  | .block _ b => loopsOf b
  | .loop b => [b]
  | _ => []

noncomputable def loopN (fn : Func) (j : Nat) : Code := (((fn.body.map loopsOf).getD [])[j]?).getD .skip

theorem index25 {tok : Tok} {bys : List Lv} {j : Nat} {b : Lv} (h : bys[j]? = some b) : indexAddr Try.cfg 25 (encL tok bys) (.int .i64 (.ofNat j)) = some (.imm 0 (cellsOf b)) := by
  have hj : j < bys.length := (List.getElem?_eq_some_iff.1 h).1
  show (match below (.int .i64 (.ofNat j)) (lenN (bys.map enc)) with
    | some i => match nth (bys.map enc) i with
      | some r => bif Nat.beq 5 5 then some (V.imm 0 r.cells) else none
      | none => none
    | none => none) = _
  have e1 : below (.int .i64 (.ofNat j)) (lenN (bys.map enc)) = some j := by
    unfold below
    rw [lenN_eq, List.length_map]
    show (bif Nat.blt j bys.length then some j else none) = some j
    rw [show Nat.blt j bys.length = true by rw [Nat.blt_eq]; exact hj]
    rfl
  rw [e1]
  simp only
  rw [nth_eq, List.getElem?_map, h]
  rfl

theorem addOne {T j : Nat} (h : j < 9223372036854775807) : binOp Try.cfg .add T (.int .i64 (.ofNat j)) (.int .i64 1) = some (.int .i64 (.ofNat (j + 1))) := by
  show some (V.int .i64 (bif Nat.ble (j + 1) 9223372036854775807 then Int.ofNat (j + 1) else _)) = _
  rw [show Nat.ble (j + 1) 9223372036854775807 = true from Nat.ble_eq_true_of_le h]
  rfl

theorem blt_self (n : Nat) : Nat.blt n n = false := by
  cases h : Nat.blt n n with
  | false => rfl
  | true => rw [Nat.blt_eq] at h; omega

theorem iLt_nat {a b : Nat} : iLt (.ofNat a) (.ofNat b) = Nat.blt a b := rfl

noncomputable def f22L : Code := loopN Try.f22 0

/-- What stands behind the first loop. -/
noncomputable def endsLoop : Code → Bool
  | .seq _ b => endsLoop b
  | .block _ (.loop _) => true
  | _ => false

noncomputable def afterLoop : Code → Option Code
  | .seq a b => match endsLoop a with
    | true => some b
    | false => afterLoop b
  | _ => none

noncomputable def f22T : Code := ((Try.f22.body).bind afterLoop).getD .skip

theorem f22_by1 (n k : Nat) (l : Lv) (tok : Tok) (bys : List Lv) (hlen : bys.length < 100) (K : Ex → Env → St → Prop) : ∀ (rem : List Lv) (j f : Nat) (is : Bool) (x : Lv), rem.length < f → (∀ i, rem[i]? = bys[j + i]?) → j + rem.length = bys.length →
    (∀ x, K (.exit 0) { nt := 54, tmps := [(2, .ptr (.loc 2) 0), (3, .ptr (.loc 3) 0), (4, .ptr (.loc 4) 0), (5, .ptr (.loc 5) 0), (6, .bool (is && rem.all mayF)), (14, encL tok bys), (15, .int .i64 (.ofNat (lenN (bys.map enc)))), (16, .int .i64 (.ofNat bys.length)), (17, .bool false)], locs := [(2, cellsOf l), (3, [encL tok bys]), (4, zeros), (5, [.int .i64 0]), (8, cellsOf x)], fix := [] } St.empty) →
    WCode (iter (evalCode Try.cfg (run Try.cfg (n + 8)) k 22 (Try.cfg.fc 22) f22L) f { nt := 54, tmps := [(2, .ptr (.loc 2) 0), (3, .ptr (.loc 3) 0), (4, .ptr (.loc 4) 0), (5, .ptr (.loc 5) 0), (6, .bool is), (14, encL tok bys), (15, .int .i64 (.ofNat (lenN (bys.map enc)))), (16, .int .i64 (.ofNat j))], locs := [(2, cellsOf l), (3, [encL tok bys]), (4, zeros), (5, [.int .i64 0]), (8, cellsOf x)], fix := [] } St.empty) K
  | [], j, f + 1, is, x, hf, hr, hj, hK => by
    have hjl : j = bys.length := by simpa using hj
    subst hjl
    refine WCode.round (nt := 54) (fx := []) ?_
    refine WCmp.no (by rw [iLt_nat, lenN_eq, List.length_map]; exact blt_self bys.length) ?_
    have := hK x
    simp only [List.all_nil, Bool.and_true] at this
    exact this
  | b :: rem, j, f + 1, is, x, hf, hr, hj, hK => by
    have hb : bys[j]? = some b := by have := hr 0; simpa using this.symm
    have hjl : j < bys.length := (List.getElem?_eq_some_iff.1 hb).1
    have hnext : ∀ is', K = K → (∀ x, K (.exit 0) { nt := 54, tmps := [(2, .ptr (.loc 2) 0), (3, .ptr (.loc 3) 0), (4, .ptr (.loc 4) 0), (5, .ptr (.loc 5) 0), (6, .bool (is' && rem.all mayF)), (14, encL tok bys), (15, .int .i64 (.ofNat (lenN (bys.map enc)))), (16, .int .i64 (.ofNat bys.length)), (17, .bool false)], locs := [(2, cellsOf l), (3, [encL tok bys]), (4, zeros), (5, [.int .i64 0]), (8, cellsOf x)], fix := [] } St.empty) → _ :=
      fun is' _ hK' => f22_by1 n k l tok bys hlen K rem (j + 1) f is' b (by simp only [List.length_cons] at hf; omega) (fun i => by have := hr (i + 1); simp only [List.getElem?_cons_succ] at this; rw [this]; congr 1; omega) (by simp only [List.length_cons] at hj; omega) hK'
    refine WCode.round (nt := 54) (fx := []) ?_
    refine WCmp.yes (by rw [iLt_nat, lenN_eq, List.length_map]; rw [Nat.blt_eq]; exact hjl) ?_
    refine WOut.mk _ (index25 hb) ?_
    cases is with
    | true =>
      refine WCall.mk _ _ (f26_ok n b _) ?_
      refine WOut.mk _ (addOne (by omega)) ?_
      exact hnext (mayF b) rfl (by simpa [List.all_cons] using hK)
    | false =>
      refine WOut.mk _ (addOne (by omega)) ?_
      exact hnext false rfl (by simpa [List.all_cons] using hK)

noncomputable def instStep (bys : List Lv) (i p : Int) (out : Lv) : Option Lv := match bys[i.toNat]? with | some b => some (joinF out (plusF b p)) | none => none

noncomputable def instF (l : Lv) (bys : List Lv) : Lv × Int := match mayF l && bys.all mayF with
  | true => match foldE (instStep bys) l.ps 0 { zeroLv with c := l.c } with
    | (true, out) => toldF out
    | (false, _) => (noLv, 8)
  | false => (noLv, 1)

noncomputable def rec220 (l : Lv) (tok : Tok) (bys : List Lv) (out : Lv) : LoopR := { fid := 22, nt := 54, tmps := [(3, .ptr (.loc 3) 0), (4, .ptr (.loc 4) 0), (5, .ptr (.loc 5) 0), (9, .ptr (.loc 9) 0), (34, .fn 112 1 [] [.ptr (.box 0) 0])], locs := [(2, cellsOf l), (3, [encL tok bys]), (4, zeros), (5, [.int .i64 0]), (9, cellsOf out)], params := [35, 36], assign := rangeX Try.f22, body := rangeY Try.f22, st := .ready, pend := none }
noncomputable def rec22x0 (l : Lv) (tok : Tok) (bys : List Lv) (out : Lv) : LoopR := { fid := 22, nt := 54, tmps := [(3, .ptr (.loc 3) 0), (4, .ptr (.loc 4) 0), (5, .ptr (.loc 5) 0), (9, .ptr (.loc 9) 0), (34, .fn 112 1 [] [.ptr (.box 0) 0])], locs := [(2, cellsOf l), (3, [encL tok bys]), (4, zeros), (5, [.int .i64 8]), (9, cellsOf out)], params := [35, 36], assign := rangeX Try.f22, body := rangeY Try.f22, st := .done, pend := some .ret }
noncomputable def st220 (l : Lv) (tok : Tok) (bys : List Lv) (out : Lv) : St := { heap := [.cells 24 (cellsOf l), .loop (rec220 l tok bys out)], toks := [] }
noncomputable def st22x0 (l : Lv) (tok : Tok) (bys : List Lv) (out : Lv) : St := { heap := [.cells 24 (cellsOf l), .loop (rec22x0 l tok bys out)], toks := [] }

theorem f22_go0 (n k : Nat) (l : Lv) (tok : Tok) (bys : List Lv) (out b : Lv) (p : Int) (j : Nat) (hb : bys[j]? = some b) :
    round Try.cfg (run Try.cfg (n + 7)) k 1 [.int .i64 (.ofNat j), .int .i64 p] (st220 l tok bys out) = some (.bool true, st220 l tok bys (joinF out (plusF b p))) := by
  have hjl : j < bys.length := (List.getElem?_eq_some_iff.1 hb).1
  refine round_of (r := rec220 l tok bys out) (nt := 54) (fx := [2, 3, 4, 5, 9]) rfl rfl rfl rfl rfl rfl rfl ?_
  refine WCmp.no (by show (!iLt (.ofNat j) (.ofNat (lenN (bys.map enc)))) = false; rw [iLt_nat, lenN_eq, List.length_map, show Nat.blt j bys.length = true by rw [Nat.blt_eq]; exact hjl]; rfl) ?_
  refine WOut.mk _ (index25 hb) ?_
  refine WCall.mk _ _ (f75_ok n b p _) ?_
  refine WCall.mk _ _ (f78_ok n out (plusF b p) _) ?_
  rfl

theorem f22_stop0 (n k : Nat) (l : Lv) (tok : Tok) (bys : List Lv) (out : Lv) (p : Int) (j : Nat) (hb : bys[j]? = none) :
    round Try.cfg (run Try.cfg (n + 7)) k 1 [.int .i64 (.ofNat j), .int .i64 p] (st220 l tok bys out) = some (.bool false, st22x0 l tok bys out) := by
  have hjl : bys.length ≤ j := List.getElem?_eq_none_iff.1 hb
  refine round_of (r := rec220 l tok bys out) (nt := 54) (fx := [2, 3, 4, 5, 9]) rfl rfl rfl rfl rfl rfl rfl ?_
  refine WCmp.yes (by
    show (!iLt (.ofNat j) (.ofNat (lenN (bys.map enc)))) = true
    rw [iLt_nat, lenN_eq, List.length_map]
    cases hq : Nat.blt j bys.length with
    | false => rfl
    | true => rw [Nat.blt_eq] at hq; omega) ?_
  rfl

theorem f22_rest0 (n : Nat) (l : Lv) (tok : Tok) (bys : List Lv) (ok : Bool) (hok : ok = (mayF l && bys.all mayF)) :
    wCode Try.cfg (run Try.cfg (n + 10)) (Try.cfg.fc 22) (n + 10) 22 54 [] f22T { nt := 54, tmps := [(2, .ptr (.loc 2) 0), (3, .ptr (.loc 3) 0), (4, .ptr (.loc 4) 0), (5, .ptr (.loc 5) 0), (6, .bool ok), (14, encL tok bys), (15, .int .i64 (.ofNat (lenN (bys.map enc)))), (16, .int .i64 (.ofNat bys.length)), (17, .bool false)], locs := [(2, cellsOf l), (3, [encL tok bys]), (4, zeros), (5, [.int .i64 0])], fix := [] } St.empty (fun e A S => match e with | .exit _ => False | _ => ∃ S', finish Try.cfg Try.f22 A S = some (encR (instF l bys), S')) := by
  cases hq : ok with
  | false =>
    have e : instF l bys = (noLv, 1) := by unfold instF; rw [← hok, hq]
    rw [e]
    exact ⟨_, rfl⟩
  | true =>
  rw [hq] at hok
  refine WCall.mk _ _ (f32_ok (n + 4) _) ?_
  refine WCall.mk _ _ (f80_ok (n + 9) l _) ?_
  have hrounds := rounds_exit (R := run Try.cfg (n + 9)) (b := 1) (st220 l tok bys) (st22x0 l tok bys) (instStep bys) l.ps 0 { zeroLv with c := l.c } (by omega) (by simp)
    (fun i p out out' hi _ hs => by
      obtain ⟨j, rfl⟩ : ∃ j : Nat, i = .ofNat j := ⟨i.toNat, by rcases hi with rfl | rfl | rfl | rfl <;> rfl⟩
      unfold instStep at hs
      simp only [Int.ofNat_eq_natCast, Int.toNat_natCast] at hs
      split at hs
      · rename_i b hb; cases hs; exact run_yield' (n := n + 8) (f22_go0 (n + 1) _ l tok bys out b p j hb)
      · cases hs)
    (fun i p out hi _ hs => by
      obtain ⟨j, rfl⟩ : ∃ j : Nat, i = .ofNat j := ⟨i.toNat, by rcases hi with rfl | rfl | rfl | rfl <;> rfl⟩
      unfold instStep at hs
      simp only [Int.ofNat_eq_natCast, Int.toNat_natCast] at hs
      split at hs
      · cases hs
      · rename_i hb; exact run_yield' (n := n + 8) (f22_stop0 (n + 1) _ l tok bys out p j hb))
  cases hf : foldE (instStep bys) l.ps 0 { zeroLv with c := l.c } with
  | mk okk out =>
  rw [hf] at hrounds
  cases okk with
  | true =>
    refine WCode.mk _ _ _ (eRange_of (f := 112) (top := 1) (first := []) (cap := [.ptr (.box 0) 0]) (l := rec220 l tok bys { zeroLv with c := l.c }) (r := rec220 l tok bys out) (S' := st220 l tok bys out) (v := .tuple []) (by rfl) (by rfl) ?_ (by rfl) (.inl rfl)) ?_
    · refine run_here (n := n + 9) rfl ?_
      exact f112_box0 (run Try.cfg (n + 9)) (n + 4) l.c l.p0 l.p1 l.p2 l.p3 1 _ [] _ hrounds
    refine WCall.mk _ _ (f74_ok (n + 1) out _) ?_
    rw [show instF l bys = toldF out by unfold instF; rw [← hok, hf]]
    exact ⟨_, rfl⟩
  | false =>
    refine WCode.mk _ _ _ (eRange_of (f := 112) (top := 1) (first := []) (cap := [.ptr (.box 0) 0]) (l := rec220 l tok bys { zeroLv with c := l.c }) (r := rec22x0 l tok bys out) (S' := st22x0 l tok bys out) (v := .tuple []) (by rfl) (by rfl) ?_ (by rfl) (.inr rfl)) ?_
    · refine run_here (n := n + 9) rfl ?_
      exact f112_box0 (run Try.cfg (n + 9)) (n + 4) l.c l.p0 l.p1 l.p2 l.p3 1 _ [] _ hrounds
    rw [show instF l bys = (noLv, 8) by unfold instF; rw [← hok, hf]]
    exact ⟨_, rfl⟩

noncomputable def rec221 (l : Lv) (tok : Tok) (bys : List Lv) (x : Lv) (out : Lv) : LoopR := { fid := 22, nt := 54, tmps := [(3, .ptr (.loc 3) 0), (4, .ptr (.loc 4) 0), (5, .ptr (.loc 5) 0), (9, .ptr (.loc 9) 0), (34, .fn 112 1 [] [.ptr (.box 0) 0])], locs := [(2, cellsOf l), (3, [encL tok bys]), (4, zeros), (5, [.int .i64 0]), (8, cellsOf x), (9, cellsOf out)], params := [35, 36], assign := rangeX Try.f22, body := rangeY Try.f22, st := .ready, pend := none }
noncomputable def rec22x1 (l : Lv) (tok : Tok) (bys : List Lv) (x : Lv) (out : Lv) : LoopR := { fid := 22, nt := 54, tmps := [(3, .ptr (.loc 3) 0), (4, .ptr (.loc 4) 0), (5, .ptr (.loc 5) 0), (9, .ptr (.loc 9) 0), (34, .fn 112 1 [] [.ptr (.box 0) 0])], locs := [(2, cellsOf l), (3, [encL tok bys]), (4, zeros), (5, [.int .i64 8]), (8, cellsOf x), (9, cellsOf out)], params := [35, 36], assign := rangeX Try.f22, body := rangeY Try.f22, st := .done, pend := some .ret }
noncomputable def st221 (l : Lv) (tok : Tok) (bys : List Lv) (x : Lv) (out : Lv) : St := { heap := [.cells 24 (cellsOf l), .loop (rec221 l tok bys x out)], toks := [] }
noncomputable def st22x1 (l : Lv) (tok : Tok) (bys : List Lv) (x : Lv) (out : Lv) : St := { heap := [.cells 24 (cellsOf l), .loop (rec22x1 l tok bys x out)], toks := [] }

theorem f22_go1 (n k : Nat) (l : Lv) (tok : Tok) (bys : List Lv) (x : Lv) (out b : Lv) (p : Int) (j : Nat) (hb : bys[j]? = some b) :
    round Try.cfg (run Try.cfg (n + 7)) k 1 [.int .i64 (.ofNat j), .int .i64 p] (st221 l tok bys x out) = some (.bool true, st221 l tok bys x (joinF out (plusF b p))) := by
  have hjl : j < bys.length := (List.getElem?_eq_some_iff.1 hb).1
  refine round_of (r := rec221 l tok bys x out) (nt := 54) (fx := [2, 3, 4, 5, 8, 9]) rfl rfl rfl rfl rfl rfl rfl ?_
  refine WCmp.no (by show (!iLt (.ofNat j) (.ofNat (lenN (bys.map enc)))) = false; rw [iLt_nat, lenN_eq, List.length_map, show Nat.blt j bys.length = true by rw [Nat.blt_eq]; exact hjl]; rfl) ?_
  refine WOut.mk _ (index25 hb) ?_
  refine WCall.mk _ _ (f75_ok n b p _) ?_
  refine WCall.mk _ _ (f78_ok n out (plusF b p) _) ?_
  rfl

theorem f22_stop1 (n k : Nat) (l : Lv) (tok : Tok) (bys : List Lv) (x : Lv) (out : Lv) (p : Int) (j : Nat) (hb : bys[j]? = none) :
    round Try.cfg (run Try.cfg (n + 7)) k 1 [.int .i64 (.ofNat j), .int .i64 p] (st221 l tok bys x out) = some (.bool false, st22x1 l tok bys x out) := by
  have hjl : bys.length ≤ j := List.getElem?_eq_none_iff.1 hb
  refine round_of (r := rec221 l tok bys x out) (nt := 54) (fx := [2, 3, 4, 5, 8, 9]) rfl rfl rfl rfl rfl rfl rfl ?_
  refine WCmp.yes (by
    show (!iLt (.ofNat j) (.ofNat (lenN (bys.map enc)))) = true
    rw [iLt_nat, lenN_eq, List.length_map]
    cases hq : Nat.blt j bys.length with
    | false => rfl
    | true => rw [Nat.blt_eq] at hq; omega) ?_
  rfl

theorem f22_rest1 (n : Nat) (l : Lv) (tok : Tok) (bys : List Lv) (x : Lv) (ok : Bool) (hok : ok = (mayF l && bys.all mayF)) :
    wCode Try.cfg (run Try.cfg (n + 10)) (Try.cfg.fc 22) (n + 10) 22 54 [] f22T { nt := 54, tmps := [(2, .ptr (.loc 2) 0), (3, .ptr (.loc 3) 0), (4, .ptr (.loc 4) 0), (5, .ptr (.loc 5) 0), (6, .bool ok), (14, encL tok bys), (15, .int .i64 (.ofNat (lenN (bys.map enc)))), (16, .int .i64 (.ofNat bys.length)), (17, .bool false)], locs := [(2, cellsOf l), (3, [encL tok bys]), (4, zeros), (5, [.int .i64 0]), (8, cellsOf x)], fix := [] } St.empty (fun e A S => match e with | .exit _ => False | _ => ∃ S', finish Try.cfg Try.f22 A S = some (encR (instF l bys), S')) := by
  cases hq : ok with
  | false =>
    have e : instF l bys = (noLv, 1) := by unfold instF; rw [← hok, hq]
    rw [e]
    exact ⟨_, rfl⟩
  | true =>
  rw [hq] at hok
  refine WCall.mk _ _ (f32_ok (n + 4) _) ?_
  refine WCall.mk _ _ (f80_ok (n + 9) l _) ?_
  have hrounds := rounds_exit (R := run Try.cfg (n + 9)) (b := 1) (st221 l tok bys x) (st22x1 l tok bys x) (instStep bys) l.ps 0 { zeroLv with c := l.c } (by omega) (by simp)
    (fun i p out out' hi _ hs => by
      obtain ⟨j, rfl⟩ : ∃ j : Nat, i = .ofNat j := ⟨i.toNat, by rcases hi with rfl | rfl | rfl | rfl <;> rfl⟩
      unfold instStep at hs
      simp only [Int.ofNat_eq_natCast, Int.toNat_natCast] at hs
      split at hs
      · rename_i b hb; cases hs; exact run_yield' (n := n + 8) (f22_go1 (n + 1) _ l tok bys x out b p j hb)
      · cases hs)
    (fun i p out hi _ hs => by
      obtain ⟨j, rfl⟩ : ∃ j : Nat, i = .ofNat j := ⟨i.toNat, by rcases hi with rfl | rfl | rfl | rfl <;> rfl⟩
      unfold instStep at hs
      simp only [Int.ofNat_eq_natCast, Int.toNat_natCast] at hs
      split at hs
      · cases hs
      · rename_i hb; exact run_yield' (n := n + 8) (f22_stop1 (n + 1) _ l tok bys x out p j hb))
  cases hf : foldE (instStep bys) l.ps 0 { zeroLv with c := l.c } with
  | mk okk out =>
  rw [hf] at hrounds
  cases okk with
  | true =>
    refine WCode.mk _ _ _ (eRange_of (f := 112) (top := 1) (first := []) (cap := [.ptr (.box 0) 0]) (l := rec221 l tok bys x { zeroLv with c := l.c }) (r := rec221 l tok bys x out) (S' := st221 l tok bys x out) (v := .tuple []) (by rfl) (by rfl) ?_ (by rfl) (.inl rfl)) ?_
    · refine run_here (n := n + 9) rfl ?_
      exact f112_box0 (run Try.cfg (n + 9)) (n + 4) l.c l.p0 l.p1 l.p2 l.p3 1 _ [] _ hrounds
    refine WCall.mk _ _ (f74_ok (n + 1) out _) ?_
    rw [show instF l bys = toldF out by unfold instF; rw [← hok, hf]]
    exact ⟨_, rfl⟩
  | false =>
    refine WCode.mk _ _ _ (eRange_of (f := 112) (top := 1) (first := []) (cap := [.ptr (.box 0) 0]) (l := rec221 l tok bys x { zeroLv with c := l.c }) (r := rec22x1 l tok bys x out) (S' := st22x1 l tok bys x out) (v := .tuple []) (by rfl) (by rfl) ?_ (by rfl) (.inr rfl)) ?_
    · refine run_here (n := n + 9) rfl ?_
      exact f112_box0 (run Try.cfg (n + 9)) (n + 4) l.c l.p0 l.p1 l.p2 l.p3 1 _ [] _ hrounds
    rw [show instF l bys = (noLv, 8) by unfold instF; rw [← hok, hf]]
    exact ⟨_, rfl⟩

theorem f22_frame (n : Nat) (l : Lv) (tok : Tok) (bys : List Lv) (hlen : bys.length < n + 10) (hlen2 : bys.length < 100) : ∃ S', frame Try.cfg (run Try.cfg (n + 10)) (n + 10) 22 [enc l, encL tok bys] St.empty = some (encR (instF l bys), S') := by
  refine frame_ex Try.cfg _ (fn := Try.f22) rfl rfl ?_
  refine WCall.mk _ _ (f26_ok (n + 2) l _) ?_
  cases bys with
  | nil =>
    refine WCode.round (nt := 54) (fx := []) ?_
    refine WCmp.no rfl ?_
    exact f22_rest0 n l tok [] (mayF l) (by simp)
  | cons b rem =>
    refine WCode.round (nt := 54) (fx := []) ?_
    refine WCmp.yes (by show iLt (.ofNat 0) (.ofNat (lenN ((b :: rem).map enc))) = true; rw [iLt_nat, lenN_eq, List.length_map, Nat.blt_eq]; simp) ?_
    refine WOut.mk _ (index25 (j := 0) rfl) ?_
    have hf : rem.length < n + 9 := by simp only [List.length_cons] at hlen; omega
    have hr : ∀ i : Nat, rem[i]? = (b :: rem)[1 + i]? := fun i => by rw [Nat.add_comm, List.getElem?_cons_succ]
    have hj : 1 + rem.length = (b :: rem).length := by rw [List.length_cons]; omega
    cases hm : mayF l with
    | true =>
      refine WCall.mk _ _ (f26_ok (n + 2) b _) ?_
      refine WOut.mk _ (addOne (j := 0) (by omega)) ?_
      exact f22_by1 (n + 2) _ l tok (b :: rem) hlen2 _ rem 1 (n + 9) (mayF b) b hf hr hj (fun x => f22_rest1 n l tok (b :: rem) x (mayF b && rem.all mayF) (by simp [hm]))
    | false =>
      refine WOut.mk _ (addOne (j := 0) (by omega)) ?_
      exact f22_by1 (n + 2) _ l tok (b :: rem) hlen2 _ rem 1 (n + 9) false b hf hr hj (fun x => f22_rest1 n l tok (b :: rem) x (false && rem.all mayF) (by simp [hm]))

theorem f22_ok (n : Nat) (l : Lv) (tok : Tok) (bys : List Lv) (S : St) (hlen : bys.length < n + 10) (hlen2 : bys.length < 100) : run Try.cfg (n + 11) (.f 22) [enc l, encL tok bys] S = some (encR (instF l bys), S) := by
  have key : ∀ tk : Tok, (encL tok bys).strip = encL tk bys → run Try.cfg (n + 11) (.f 22) [enc l, encL tok bys] S = some (encR (instF l bys), S) := fun tk hs => by
    obtain ⟨S', h⟩ := f22_frame n l tk bys hlen hlen2
    rw [← hs] at h
    exact run_val h rfl rfl rfl rfl rfl
  cases tok with
  | no => exact key .no rfl
  | tight => exact key .tight rfl
  | own t => exact key .no rfl

end Go.Ev

/- Levels: what the functions of the package give, in plain numbers (own work). -/
namespace Go.Ev
open Go.Proofs

/-- A level that may be. -/
def Vd (l : Lv) : Prop := 0 ≤ l.c ∧ l.c ≤ TOP ∧ (-1 ≤ l.p0 ∧ l.p0 ≤ TOP) ∧ (-1 ≤ l.p1 ∧ l.p1 ≤ TOP) ∧ (-1 ≤ l.p2 ∧ l.p2 ≤ TOP) ∧ (-1 ≤ l.p3 ∧ l.p3 ≤ TOP) ∧
  (l.c = 0 ∨ (l.p0 < l.c ∧ l.p1 < l.c ∧ l.p2 < l.c ∧ l.p3 < l.c))

theorem okP_iff {p : Int} : okP p = true ↔ -1 ≤ p ∧ p ≤ TOP := by
  unfold okP
  rw [iLt_eq, iLt_eq]
  simp

theorem cond_ite {α : Type} (b : Bool) (x y : α) : (bif b then x else y) = if b = true then x else y := by cases b <;> rfl

noncomputable def fs (p c : Int) : Int := if p < 0 then c else if p < c then c else 0

theorem formF_eq (l : Lv) : formF l = { l with c := fs l.p3 (fs l.p2 (fs l.p1 (fs l.p0 l.c))) } := by
  unfold formF foldP foldP foldP foldP foldP fs fstep
  simp only [iLt_eq, cond_ite, decide_eq_true_eq]
  split <;> split <;> split <;> split <;> rfl

theorem form_c {l : Lv} (hc : 0 ≤ l.c) : (formF l).c = if l.c ≤ l.p0 ∨ l.c ≤ l.p1 ∨ l.c ≤ l.p2 ∨ l.c ≤ l.p3 then 0 else l.c := by
  rw [formF_eq]
  show fs l.p3 (fs l.p2 (fs l.p1 (fs l.p0 l.c))) = _
  unfold fs
  repeat' split
  all_goals first | rfl | omega

theorem Lv.ext' {a b : Lv} (h : a.c = b.c) (h0 : a.p0 = b.p0) (h1 : a.p1 = b.p1) (h2 : a.p2 = b.p2) (h3 : a.p3 = b.p3) : a = b := by
  cases a; cases b; simp_all

theorem formF_self {l : Lv} (hc : 0 ≤ l.c) : formF l = l ↔ (l.c = 0 ∨ (l.p0 < l.c ∧ l.p1 < l.c ∧ l.p2 < l.c ∧ l.p3 < l.c)) := by
  have h := form_c hc
  constructor
  · intro e
    rw [e] at h
    split at h <;> omega
  · intro e
    refine Lv.ext' ?_ ?_ ?_ ?_ ?_
    · rw [h]; split <;> omega
    all_goals rw [formF_eq]

theorem mayF_iff {l : Lv} : mayF l = true ↔ Vd l := by
  unfold mayF Vd
  simp only [Bool.and_eq_true, okP_iff, Bool.not_eq_true', iLt_not, decide_eq_true_eq]
  constructor
  · rintro ⟨h1, h2, h3, h4, h5, h6, h7⟩
    exact ⟨h1, h2, h3, h4, h5, h6, (formF_self h1).1 h7⟩
  · rintro ⟨h1, h2, h3, h4, h5, h6, h7⟩
    exact ⟨h1, h2, h3, h4, h5, h6, (formF_self h1).2 h7⟩

/-- The greater one of two levels that may be. -/
def mx (a b : Lv) : Lv := { c := if max a.c b.c ≤ max a.p0 b.p0 ∨ max a.c b.c ≤ max a.p1 b.p1 ∨ max a.c b.c ≤ max a.p2 b.p2 ∨ max a.c b.c ≤ max a.p3 b.p3 then 0 else max a.c b.c, p0 := max a.p0 b.p0, p1 := max a.p1 b.p1, p2 := max a.p2 b.p2, p3 := max a.p3 b.p3 }

theorem joinF_eq {a b : Lv} (ha : Vd a) (hb : Vd b) : joinF a b = { c := max a.c b.c, p0 := max a.p0 b.p0, p1 := max a.p1 b.p1, p2 := max a.p2 b.p2, p3 := max a.p3 b.p3 } := by
  obtain ⟨a1, a2, a3, a4, a5, a6, a7⟩ := ha
  obtain ⟨b1, b2, b3, b4, b5, b6, b7⟩ := hb
  have e : joinF a b = { c := maxI a.c b.c, p0 := if b.p0 < 0 then a.p0 else maxI a.p0 b.p0, p1 := if b.p1 < 0 then a.p1 else maxI a.p1 b.p1, p2 := if b.p2 < 0 then a.p2 else maxI a.p2 b.p2, p3 := if b.p3 < 0 then a.p3 else maxI a.p3 b.p3 } := by
    unfold joinF foldP foldP foldP foldP foldP
    simp only [iLt_eq, cond_ite, decide_eq_true_eq]
    split <;> split <;> split <;> split <;> rfl
  rw [e]
  unfold maxI
  refine Lv.ext' ?_ ?_ ?_ ?_ ?_ <;> simp only [] <;> (repeat' split) <;> omega

theorem maxF_eq {a b : Lv} (ha : Vd a) (hb : Vd b) : maxF a b = (mx a b, 0) ∧ Vd (mx a b) := by
  have hv : Vd (mx a b) := by
    obtain ⟨a1, a2, a3, a4, a5, a6, a7⟩ := ha
    obtain ⟨b1, b2, b3, b4, b5, b6, b7⟩ := hb
    unfold Vd mx
    simp only
    split <;> omega
  have hf : formF (joinF a b) = mx a b := by
    rw [joinF_eq ha hb]
    refine Lv.ext' ?_ ?_ ?_ ?_ ?_
    · rw [form_c (by show 0 ≤ max a.c b.c; have := ha.1; omega)]; rfl
    all_goals (rw [formF_eq]; rfl)
  refine ⟨?_, hv⟩
  unfold maxF toldF
  rw [mayF_iff.2 ha, mayF_iff.2 hb, hf, mayF_iff.2 hv]
  rfl

/-- One level is at most another one. -/
def Le (a b : Lv) : Prop := a.p0 ≤ b.p0 ∧ a.p1 ≤ b.p1 ∧ a.p2 ≤ b.p2 ∧ a.p3 ≤ b.p3 ∧ (a.c ≤ b.c ∨ a.c ≤ b.p0 ∨ a.c ≤ b.p1 ∨ a.c ≤ b.p2 ∨ a.c ≤ b.p3)

theorem max_step {m p : Int} (hm : 0 ≤ m) : (if p < 0 then m else maxI m p) = max m p := by
  unfold maxI
  split
  · omega
  · split <;> omega

theorem leastF_eq {b : Lv} (hb : 0 ≤ b.c) : leastF b = max (max (max (max b.c b.p0) b.p1) b.p2) b.p3 := by
  unfold leastF foldP foldP foldP foldP foldP
  simp only [iLt_eq, cond_ite, decide_eq_true_eq]
  have h0 : 0 ≤ max b.c b.p0 := by omega
  have h1 : 0 ≤ max (max b.c b.p0) b.p1 := by omega
  have h2 : 0 ≤ max (max (max b.c b.p0) b.p1) b.p2 := by omega
  rw [max_step hb, max_step h0, max_step h1, max_step h2]

theorem foldE_cons {T : Type} (step : Int → Int → T → Option T) (p : Int) (ps : List Int) (i : Int) (t : T) : foldE step (p :: ps) i t = match iLt p 0 with
    | true => foldE step ps (i + 1) t
    | false => match step i p t with
      | some t' => foldE step ps (i + 1) t'
      | none => (false, t) := rfl

theorem leqF_iff {a b : Lv} (ha : Vd a) (hb : Vd b) : leqF a b = true ↔ Le a b := by
  obtain ⟨a1, a2, a3, a4, a5, a6, a7⟩ := ha
  obtain ⟨b1, b2, b3, b4, b5, b6, b7⟩ := hb
  have hma : mayF a = true := mayF_iff.2 ⟨a1, a2, a3, a4, a5, a6, a7⟩
  have hmb : mayF b = true := mayF_iff.2 ⟨b1, b2, b3, b4, b5, b6, b7⟩
  have hl : a.c ≤ leastF b ↔ (a.c ≤ b.c ∨ a.c ≤ b.p0 ∨ a.c ≤ b.p1 ∨ a.c ≤ b.p2 ∨ a.c ≤ b.p3) := by
    rw [leastF_eq b1]
    omega
  have hfold : (∃ u, foldE (leqStep b) a.ps 0 () = (true, u)) ∧ (a.p0 ≤ b.p0 ∧ a.p1 ≤ b.p1 ∧ a.p2 ≤ b.p2 ∧ a.p3 ≤ b.p3) ∨ (∃ u, foldE (leqStep b) a.ps 0 () = (false, u)) ∧ ¬ (a.p0 ≤ b.p0 ∧ a.p1 ≤ b.p1 ∧ a.p2 ≤ b.p2 ∧ a.p3 ≤ b.p3) := by
    have step : ∀ (i p q : Int) (ps : List Int), b.get i = q → -1 ≤ q → foldE (leqStep b) (p :: ps) i () = if p ≤ q then foldE (leqStep b) ps (i + 1) () else (false, ()) := fun i p q ps hq h1 => by
      rw [foldE_cons]
      have hs : leqStep b i p () = match iLt q p with | true => none | false => some () := by unfold leqStep; first | (rw [hq]; done) | (rw [hq]; rfl)
      rw [hs]
      cases h2 : iLt p 0 with
      | true => rw [iLt_iff] at h2; rw [if_pos (by omega)]
      | false =>
        cases h3 : iLt q p with
        | true => rw [iLt_iff] at h3; rw [if_neg (by omega)]
        | false => rw [iLt_not] at h3; rw [if_pos (by omega)]
    rw [step 0 a.p0 b.p0 _ rfl b3.1, step (0 + 1) a.p1 b.p1 _ rfl b4.1, step (0 + 1 + 1) a.p2 b.p2 _ rfl b5.1, step (0 + 1 + 1 + 1) a.p3 b.p3 _ rfl b6.1]
    by_cases h0 : a.p0 ≤ b.p0
    · by_cases h1 : a.p1 ≤ b.p1
      · by_cases h2 : a.p2 ≤ b.p2
        · by_cases h3 : a.p3 ≤ b.p3
          · left; exact ⟨⟨(), by simp [h0, h1, h2, h3, foldE]⟩, h0, h1, h2, h3⟩
          · right; exact ⟨⟨(), by simp [h0, h1, h2, h3]⟩, fun h => h3 h.2.2.2⟩
        · right; exact ⟨⟨(), by simp [h0, h1, h2]⟩, fun h => h2 h.2.2.1⟩
      · right; exact ⟨⟨(), by simp [h0, h1]⟩, fun h => h1 h.2.1⟩
    · right; exact ⟨⟨(), by simp [h0]⟩, fun h => h0 h.1⟩
  unfold leqF Le
  rw [hma, hmb]
  simp only [Bool.and_self]
  rcases hfold with ⟨⟨u, h⟩, hp⟩ | ⟨⟨u, h⟩, hp⟩
  · rw [h]
    simp only [Bool.not_eq_true', iLt_not, hl]
    exact ⟨fun hh => ⟨hp.1, hp.2.1, hp.2.2.1, hp.2.2.2, hh⟩, fun hh => hh.2.2.2.2⟩
  · rw [h]
    exact ⟨(fun hh => by cases hh), fun hh => absurd ⟨hh.1, hh.2.1, hh.2.2.1, hh.2.2.2.1⟩ hp⟩

theorem wrapI_id {n : Int} (h : 0 ≤ n) (h2 : n ≤ 9223372036854775807) : wrapI .i64 n = n := by
  cases n with
  | ofNat m =>
    show (bif Nat.ble m 9223372036854775807 then Int.ofNat m else _) = _
    rw [show Nat.ble m 9223372036854775807 = true from Nat.ble_eq_true_of_le (by simp only [Int.ofNat_eq_natCast] at h2; omega)]
    rfl
  | negSucc m => omega

/-- A level that is so much more. -/
def pl (l : Lv) (n : Int) : Lv := { c := l.c + n, p0 := if l.p0 < 0 then l.p0 else l.p0 + n, p1 := if l.p1 < 0 then l.p1 else l.p1 + n, p2 := if l.p2 < 0 then l.p2 else l.p2 + n, p3 := if l.p3 < 0 then l.p3 else l.p3 + n }

theorem plusF_eq {l : Lv} (hl : Vd l) {n : Int} (h0 : 0 ≤ n) (hn : n ≤ TOP) : plusF l n = pl l n := by
  obtain ⟨a1, a2, a3, a4, a5, a6, a7⟩ := hl
  have e : plusF l n = { c := wrapI .i64 (l.c + n), p0 := if l.p0 < 0 then l.p0 else wrapI .i64 (l.p0 + n), p1 := if l.p1 < 0 then l.p1 else wrapI .i64 (l.p1 + n), p2 := if l.p2 < 0 then l.p2 else wrapI .i64 (l.p2 + n), p3 := if l.p3 < 0 then l.p3 else wrapI .i64 (l.p3 + n) } := by
    unfold plusF foldP foldP foldP foldP foldP
    simp only [iLt_eq, cond_ite, decide_eq_true_eq]
    split <;> split <;> split <;> split <;> rfl
  rw [e]
  unfold pl
  unfold TOP at *
  refine Lv.ext' ?_ ?_ ?_ ?_ ?_ <;> simp only []
  · rw [wrapI_id (by omega) (by omega)]
  all_goals (split <;> first | rfl | rw [wrapI_id (by omega) (by omega)])

end Go.Ev

/- Levels: the anchor; what the arguments of the laws are (own work). -/
namespace Go.Ev
open Go.Proofs Go.RowKit
set_option maxRecDepth 100000

theorem f17_frame : frame Try.cfg (run Try.cfg 19) 19 17 [] St.empty = some (.bool true, St.empty) := by kernel_rfl

/-- works() -/
theorem f17_ok (S : St) : run Try.cfg 20 (.f 17) [] S = some (.bool true, S) := run_val f17_frame rfl rfl rfl rfl rfl

theorem shp_int {n t : Nat} {k : IntKind} {cs : List V} (hu : Try.prog.underlying t = some (.int k)) (h : Shp Try.prog n t cs) : ∃ z, cs = [.int k z] ∧ (Lit.int k z).wf = true := by
  cases n with
  | zero => exact h.elim
  | succ n => rw [Shp, hu] at h; exact h

theorem shp_arr {n t m e : Nat} {cs : List V} (hu : Try.prog.underlying t = some (.array m e)) (h : Shp Try.prog n t cs) : ∃ n', Reps (Shp Try.prog n' e) m cs := by
  cases n with
  | zero => exact h.elim
  | succ n => rw [Shp, hu] at h; exact ⟨n, h⟩

theorem shp22 {n : Nat} {cs : List V} (h : Shp Try.prog n 22 cs) : ∃ p : P4, cs = [.int .i64 p.p0, .int .i64 p.p1, .int .i64 p.p2, .int .i64 p.p3] := by
  obtain ⟨n', h⟩ := shp_arr Try.underlying22 h
  obtain ⟨a, b, rfl, h0, h⟩ := h
  obtain ⟨c, d, rfl, h1, h⟩ := h
  obtain ⟨e, f, rfl, h2, h⟩ := h
  obtain ⟨g, i, rfl, h3, h⟩ := h
  obtain rfl : i = [] := h
  obtain ⟨z0, rfl, _⟩ := shp_int Try.underlying3 h0
  obtain ⟨z1, rfl, _⟩ := shp_int Try.underlying3 h1
  obtain ⟨z2, rfl, _⟩ := shp_int Try.underlying3 h2
  obtain ⟨z3, rfl, _⟩ := shp_int Try.underlying3 h3
  exact ⟨⟨z0, z1, z2, z3⟩, rfl⟩

theorem shp24 {n : Nat} {cs : List V} (h : Shp Try.prog n 24 cs) : ∃ l : Lv, cs = cellsOf l := by
  cases n with
  | zero => exact h.elim
  | succ n =>
    rw [Shp, Try.underlying24] at h
    obtain ⟨a, b, rfl, h0, h⟩ := h
    obtain ⟨c, d, rfl, h1, h⟩ := h
    obtain rfl : d = [] := h
    obtain ⟨z, rfl, _⟩ := shp_int Try.underlying3 h0
    obtain ⟨p, rfl⟩ := shp22 h1
    exact ⟨⟨z, p.p0, p.p1, p.p2, p.p3⟩, rfl⟩

theorem shp25 {n : Nat} {cs : List V} (h : Shp Try.prog n 25 cs) : ∃ bys : List Lv, cs = [encL .no bys] := by
  cases n with
  | zero => exact h.elim
  | succ n =>
    rw [Shp, Try.underlying25] at h
    obtain ⟨rows, rfl, _, h⟩ := h
    have key : ∀ rows : List V, (∀ r ∈ rows, ∃ cs, r = .agg cs ∧ Shp Try.prog n 24 cs) → ∃ bys : List Lv, rows = bys.map enc := by
      intro rows
      induction rows with
      | nil => intro _; exact ⟨[], rfl⟩
      | cons r rows ih =>
        intro h
        obtain ⟨bys, e⟩ := ih (fun r hr => h r (List.mem_cons_of_mem _ hr))
        obtain ⟨cs, e1, h1⟩ := h r List.mem_cons_self
        obtain ⟨l, e2⟩ := shp24 h1
        exact ⟨l :: bys, by rw [e, e1, e2]; rfl⟩
    obtain ⟨bys, rfl⟩ := key rows h
    exact ⟨bys, rfl⟩

theorem args_cons {t : Nat} {ts : List Nat} {us : List V} (h : Args Try.prog (t :: ts) us) : ∃ v rest n c, us = v :: rest ∧ Shp Try.prog n t c ∧ ((isAggT Try.prog t = true ∧ v = .agg c) ∨ (isAggT Try.prog t = false ∧ c = [v])) ∧ Args Try.prog ts rest := h

theorem arg24 {ts : List Nat} {us : List V} (h : Args Try.prog (24 :: ts) us) : ∃ (l : Lv) (rest : List V), us = enc l :: rest ∧ Args Try.prog ts rest := by
  obtain ⟨v, rest, n, c, rfl, h1, h2, h3⟩ := args_cons h
  obtain ⟨l, rfl⟩ := shp24 h1
  rcases h2 with ⟨_, rfl⟩ | ⟨hh, _⟩
  · exact ⟨l, rest, rfl, h3⟩
  · rw [show isAggT Try.prog 24 = true by kernel_rfl] at hh; cases hh

theorem arg22 {ts : List Nat} {us : List V} (h : Args Try.prog (22 :: ts) us) : ∃ (p : P4) (rest : List V), us = encP p :: rest ∧ Args Try.prog ts rest := by
  obtain ⟨v, rest, n, c, rfl, h1, h2, h3⟩ := args_cons h
  obtain ⟨l, rfl⟩ := shp22 h1
  rcases h2 with ⟨_, rfl⟩ | ⟨hh, _⟩
  · exact ⟨l, rest, rfl, h3⟩
  · rw [show isAggT Try.prog 22 = true by kernel_rfl] at hh; cases hh

theorem arg25 {ts : List Nat} {us : List V} (h : Args Try.prog (25 :: ts) us) : ∃ (bys : List Lv) (rest : List V), us = encL .no bys :: rest ∧ Args Try.prog ts rest := by
  obtain ⟨v, rest, n, c, rfl, h1, h2, h3⟩ := args_cons h
  obtain ⟨l, rfl⟩ := shp25 h1
  rcases h2 with ⟨hh, _⟩ | ⟨_, hh⟩
  · rw [show isAggT Try.prog 25 = false by kernel_rfl] at hh; cases hh
  · cases hh; exact ⟨l, rest, rfl, h3⟩

theorem arg3 {ts : List Nat} {us : List V} (h : Args Try.prog (3 :: ts) us) : ∃ (z : Int) (rest : List V), us = .int .i64 z :: rest ∧ Args Try.prog ts rest := by
  obtain ⟨v, rest, n, c, rfl, h1, h2, h3⟩ := args_cons h
  obtain ⟨l, rfl, _⟩ := shp_int Try.underlying3 h1
  rcases h2 with ⟨hh, _⟩ | ⟨_, hh⟩
  · rw [show isAggT Try.prog 3 = false by kernel_rfl] at hh; cases hh
  · cases hh; exact ⟨l, rest, rfl, h3⟩

theorem arg_nil {us : List V} (h : Args Try.prog [] us) : us = [] := h

end Go.Ev
