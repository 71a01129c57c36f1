/- The evaluator is sound: code, activations, loops over functions, with any fuel (own work). -/
import Derived.Test.YtfcngcogphoikaaGreatXc
import Derived.LoopNIn
/- The evaluator is sound: the code of a function, without loops over functions (own work). -/
namespace Go.Ev
open Go.RowKit

def exOf : Ex → Exit
  | .normal => .normal
  | .ret => .ret
  | .exit id => .exit id

section
variable {C : Cfg} {P : Program} {R : Run} {ro : Option Nat} {n : Nat} {k fid : Nat}

/-- The deferred calls of a frame: those of before, and marks of blocks that are new. -/
def Later (w : World) (a a' : Act) : Prop := ∀ d ∈ a'.defers, d ∈ a.defers ∨ ∃ r, d.target = .collected r ∧ w.heap.size ≤ r

theorem Later.refl (w : World) (a : Act) : Later w a a := fun _ h => .inl h
theorem Later.same {w : World} {a a' : Act} (h : a'.defers = a.defers) : Later w a a' := fun _ hd => .inl (h ▸ hd)
theorem Later.trans {w w' : World} {a a' a'' : Act} (h : Later w a a') (hs : w.heap.size ≤ w'.heap.size) (k : Later w' a' a'') : Later w a a'' := fun d hd => by
  rcases k d hd with h1 | ⟨r, h1, h2⟩
  · exact h d h1
  · exact .inr ⟨r, h1, Nat.le_trans hs h2⟩

/-- What the evaluator says of a piece of code is what the model does. -/
def CodeSound (P : Program) (ro : Option Nat) (c : Code) (f : CodeR) : Prop :=
  ∀ (n : Nat) {E : Rho} {S : St} {lc : LocM} {A : Env} {a : Act} {w : World} {e : Ex} {A1 : Env} {S1 : St} {Q : Exit → Act → World → Prop},
    SRel E S w → ERel E S lc A a w → f A S = some (e, A1, S1) → (∀ E' lc' a' w', Later w a a' → Res E S lc A a' w E' S1 lc' A1 w' → Q (exOf e) a' w') → c.wpIn (Fw ro) n P Q a w

theorem seq_sound {x y : Code} {f g : CodeR} (hx : CodeSound P ro x f) (hy : CodeSound P ro y g) : CodeSound P ro (.seq x y) (fun A S => iter.andThen (f A S) g) := by
  intro n E S lc A a w e A1 S1 Q hS hE h hQ
  refine wpIn_seq ?_
  replace h : iter.andThen (f A S) g = some (e, A1, S1) := h
  unfold iter.andThen at h
  split at h
  · rename_i A' S' hf
    exact hx n hS hE hf (fun E' lc' a' w' hl hr => hy n hr.srel hr.erel h (fun E'' lc'' a'' w'' hl' hr' => hQ _ _ _ _ (hl.trans hr.step.size hl') (hr.trans hr')))
  · rename_i hne
    refine hx n hS hE h (fun E' lc' a' w' hl hr => ?_)
    have := hQ _ _ _ _ hl hr
    cases e with
    | normal => exact absurd h (hne _ _)
    | ret => exact this
    | exit id => exact this

theorem cond_sound {c : Operand} {x y : Code} {f g : CodeR} (hx : CodeSound P ro x f) (hy : CodeSound P ro y g) : CodeSound P ro (.cond c x y) (fun A S => eCond A S c f g) := by
  intro n E S lc A a w e A1 S1 Q hS hE h hQ
  replace h : eCond A S c f g = some (e, A1, S1) := h
  unfold eCond at h
  split at h
  · rename_i hc
    exact wpIn_cond_true (operand_rel hE.tmps hc) (hx n hS hE h hQ)
  · rename_i hc
    exact wpIn_cond_false (operand_rel hE.tmps hc) (hy n hS hE h hQ)
  · cases h

theorem block_sound {id : Nat} {x : Code} {f : CodeR} (hx : CodeSound P ro x f) : CodeSound P ro (.block id x) (fun A S => eBlock id (f A S)) := by
  intro n E S lc A a w e A1 S1 Q hS hE h hQ
  refine wpIn_block ?_
  replace h : eBlock id (f A S) = some (e, A1, S1) := h
  unfold eBlock at h
  split at h
  · rename_i i A' S' hf
    cases h
    refine hx n hS hE hf (fun E' lc' a' w' hl hr => ?_)
    have := hQ _ _ _ _ hl hr
    cases hi : Nat.beq i id with
    | true =>
      have hid := Nat.eq_of_beq_eq_true hi
      subst hid
      rw [hi] at this
      simp only [exOf, Exit.inBlock, if_true]
      exact this
    | false =>
      have hne : i ≠ id := fun e => by rw [e, beq_self] at hi; cases hi
      rw [hi] at this
      simp only [exOf, Exit.inBlock, hne, if_false]
      exact this
  · rename_i hne
    refine hx n hS hE h (fun E' lc' a' w' hl hr => ?_)
    have := hQ _ _ _ _ hl hr
    cases e with
    | normal => exact this
    | ret => exact this
    | exit i => exact absurd h (hne _ _ _)

theorem iter_sound {x : Code} {f : CodeR} (hx : CodeSound P ro x f) (n : Nat) {Q : Exit → Act → World → Prop} : ∀ (m : Nat) {E : Rho} {S : St} {lc : LocM} {A : Env} {a : Act} {w : World} {e : Ex} {A1 : Env} {S1 : St},
    SRel E S w → ERel E S lc A a w → iter f m A S = some (e, A1, S1) → (∀ E' lc' a' w', Later w a a' → Res E S lc A a' w E' S1 lc' A1 w' → Q (exOf e) a' w') → Code.roundsIn (Fw ro) n P x Q m a w
  | 0, _, _, _, _, _, _, _, _, _, _, _, h, _ => by rw [iter_zero] at h; cases h
  | m + 1, E, S, lc, A, a, w, e, A1, S1, hS, hE, h, hQ => by
    rw [iter_succ] at h
    rw [roundsIn_succ]
    unfold iter.andThen at h
    split at h
    · rename_i A' S' hf
      exact hx n hS hE hf (fun E' lc' a' w' hl hr => iter_sound hx n m hr.srel hr.erel h (fun E'' lc'' a'' w'' hl' hr' => hQ _ _ _ _ (hl.trans hr.step.size hl') (hr.trans hr')))
    · rename_i hne
      refine hx n hS hE h (fun E' lc' a' w' hl hr => ?_)
      have := hQ _ _ _ _ hl hr
      cases e with
      | normal => exact absurd h (hne _ _)
      | ret => exact this
      | exit id => exact this

theorem loop_sound {x : Code} {f : CodeR} (hx : CodeSound P ro x f) : CodeSound P ro (.loop x) (fun A S => iter f k A S) := by
  intro n E S lc A a w e A1 S1 Q hS hE h hQ
  exact wpIn_loop_rounds k (iter_sound hx n k hS hE h hQ)

/-- CODE, but for loops over functions: of them it is asked. -/
theorem code_sound (hC : CfgOk C P) (hR : RunOk C P R)
    (hrange : ∀ g ps x y, ro = none → codeOk (C.fc fid) (.rangeFunc g ps x y) = true → CodeSound P ro (.rangeFunc g ps x y) (fun A S => eRange R fid g ps x y A S)) :
    ∀ c : Code, codeOk (C.fc fid) c = true → (ro = none ∨ noRange c = true) → CodeSound P ro c (fun A S => evalCode C R k fid (C.fc fid) c A S)
  | .skip, _, _ => fun n E S lc A a w e A1 S1 Q hS hE h hQ => by
    replace h : some (Ex.normal, A, S) = some (e, A1, S1) := h
    cases h
    exact wpIn_skip (hQ _ _ _ _ (Later.refl _ _) (Res.refl hS hE))
  | .region id ops draw, hok, _ => fun n E S lc A a w e A1 S1 Q hS hE h hQ => by
    replace h : eRegion C R (C.fc fid) id ops draw A S = some (e, A1, S1) := h
    cases draw with
    | true =>
      refine (drawn_sound (n := n) (ro := ro) (Q := Q) hC hC.mixed hR hok hS hE h (fun E' lc' a' w' hd hr => ?_)).2
      have hl := Later.same (w := w) hd
      · have hee : e = .normal := by
          simp only [eRegion] at h
          unfold after at h
          split at h
          · cases h; rfl
          · cases h
        have := hQ _ _ _ _ hl hr
        rw [hee] at this
        exact this
    | false =>
      refine (region_sound (n := n) (ro := ro) (Q := Q) hC hR hS hE h (fun E' lc' a' w' hd hr => ?_)).2
      have hl := Later.same (w := w) hd
      · have hee : e = .normal := by
          simp only [eRegion] at h
          unfold after at h
          split at h
          · cases h; rfl
          · cases h
        have := hQ _ _ _ _ hl hr
        rw [hee] at this
        exact this
  | .seq x y, hok, hn => by
    obtain ⟨h1, h2⟩ := andB_true.1 hok
    have hn' := hn.imp_right (fun h => andB_true.1 (show andB (noRange x) (noRange y) = true from h))
    have := seq_sound (code_sound hC hR hrange x h1 (hn'.imp_right And.left)) (code_sound hC hR hrange y h2 (hn'.imp_right And.right))
    exact this
  | .cond c x y, hok, hn => by
    obtain ⟨h1, h2⟩ := andB_true.1 hok
    have hn' := hn.imp_right (fun h => andB_true.1 (show andB (noRange x) (noRange y) = true from h))
    have := cond_sound (c := c) (code_sound hC hR hrange x h1 (hn'.imp_right And.left)) (code_sound hC hR hrange y h2 (hn'.imp_right And.right))
    exact this
  | .block id x, hok, hn => block_sound (code_sound hC hR hrange x hok hn)
  | .loop x, hok, hn => loop_sound (code_sound hC hR hrange x hok hn)
  | .rangeFunc g ps x y, hok, hn => by
    rcases hn with hn | hn
    · exact hrange g ps x y hn hok
    · cases hn
  | .exit id, _, _ => fun n E S lc A a w e A1 S1 Q hS hE h hQ => by
    replace h : some (Ex.exit id, A, S) = some (e, A1, S1) := h
    cases h
    exact wpIn_exit (hQ _ _ _ _ (Later.refl _ _) (Res.refl hS hE))
  | .ret, _, _ => fun n E S lc A a w e A1 S1 Q hS hE h hQ => by
    replace h : some (Ex.ret, A, S) = some (e, A1, S1) := h
    cases h
    exact wpIn_ret (hQ _ _ _ _ (Later.refl _ _) (Res.refl hS hE))
  | .goto _, _, _ => fun n E S lc A a w e A1 S1 Q hS hE h hQ => by
    replace h : none = some (e, A1, S1) := h
    cases h
  | .label _, _, _ => fun n E S lc A a w e A1 S1 Q hS hE h hQ => by
    replace h : none = some (e, A1, S1) := h
    cases h
  | .scope _, _, _ => fun n E S lc A a w e A1 S1 Q hS hE h hQ => by
    replace h : none = some (e, A1, S1) := h
    cases h
  | .refuse _, _, _ => fun n E S lc A a w e A1 S1 Q hS hE h hQ => by
    replace h : none = some (e, A1, S1) := h
    cases h

end

end Go.Ev

/- The evaluator is sound: a function's activation, from its code (own work). -/
namespace Go.Ev
open Go.RowKit

section
variable {C : Cfg} {P : Program} {R : Run} {E : Rho} {S : St} {lc : LocM} {A : Env} {w w' w0 : World} {k : Nat}

theorem run_take {r : Nat} (h : w.heap[r]? = some (.deferred (some []))) :
    (Instr.takeDeferred r).run P w = .ok [] { w with heap := w.heap.setIfInBounds r (.deferred none) } := by
  simp [Instr.takeDeferred, getObj, setObj, Sem.run, h]

/-- The marks of a frame are taken, one by one. -/
theorem leave_marks {fn : Func} {T : Array Value} {Q : Ending → World → Prop} {n : Nat} : ∀ (ds : List Deferred) (w : World), SRel E S w → ERel E S lc A ⟨T, ds⟩ w →
    (∀ d ∈ ds, ∃ r, d.target = .collected r ∧ w0.heap.size ≤ r) →
    (∀ w', SRel E S w' → ERel E S lc A ⟨T, []⟩ w' → w'.os = w.os → w'.tape = w.tape → w'.output = w.output → w'.heap.size = w.heap.size → (∀ k, k < w0.heap.size → w'.heap[k]? = w.heap[k]?) →
      ∃ v, (results fn T).run P w' = .ok v w' ∧ Q (.returned v) w') →
    LeavesInM (Fw none) n P fn T Q ds .returning w
  | [], w, hS, hE, _, hK => hK w hS hE rfl rfl rfl rfl (fun _ _ => rfl)
  | d :: ds, w, hS, hE, hd, hK => by
    obtain ⟨r, hr1, hr2, hr3⟩ := hE.marks d (List.mem_cons_self)
    obtain ⟨r', hr4, hr5⟩ := hd d (List.mem_cons_self)
    rw [hr1] at hr4
    cases hr4
    have hlt : r < w.heap.size := (Array.getElem?_eq_some_iff.1 hr2).1
    have hk : ∀ k, k ≠ r → ({ w with heap := w.heap.setIfInBounds r (.deferred none) } : World).heap[k]? = w.heap[k]? := fun k hk => Array.getElem?_setIfInBounds_ne (Ne.symm hk)
    have hM : ∀ o, E.M r o = none := fun o => by
      cases hq : E.M r o with
      | none => rfl
      | some x => have := (hS.M r o x hq).1; simp [World.cell?, hr2] at this
    have hS1 : SRel E S { w with heap := w.heap.setIfInBounds r (.deferred none) } := hS.except hr3 hM hk
    have hsz : ({ w with heap := w.heap.setIfInBounds r (.deferred none) } : World).heap.size = w.heap.size := Array.size_setIfInBounds
    obtain ⟨hp1, hp2⟩ := List.pairwise_cons.1 (show ((d :: ds).map (·.target)).Pairwise _ from hE.mdist)
    have hE1 : ERel E S lc A ⟨T, ds⟩ { w with heap := w.heap.setIfInBounds r (.deferred none) } := by
      refine ⟨hE.nt, hE.tmps, hE.locs.mono (Mono.refl E) (fun k hk' => hk k fun e => ?_), fun B hB => ?_, fun d' hd' => ?_, hp2⟩
      · obtain ⟨e', h1, h2⟩ := hk'
        obtain ⟨cs, hcs⟩ := Option.isSome_iff_exists.1 h1
        obtain ⟨B, h3, arr, ty, h4, _⟩ := hE.locs.cells e' cs hcs
        rw [h2] at h3
        cases h3
        rw [e, hr2] at h4
        cases h4
      · obtain ⟨h1, h2, h3⟩ := hE.apart B hB
        exact ⟨h1, h2, by rw [hsz]; exact h3⟩
      · obtain ⟨s, h1, h2, h3⟩ := hE.marks d' (List.mem_cons_of_mem _ hd')
        refine ⟨s, h1, ?_, h3⟩
        rw [hk s (fun e => hp1 _ (List.mem_map_of_mem hd') r s hr1 h1 e.symm)]
        exact h2
    refine ⟨by simp, .inl ⟨r, _, hr1, run_take hr2, ?_⟩⟩
    refine leave_marks ds _ hS1 hE1 (fun d' hd' => hd d' (List.mem_cons_of_mem _ hd')) (fun w' h1 h2 h3 h4 h5 h6 h7 => hK w' h1 h2 h3 h4 h5 (h6.trans hsz) (fun k hk' => ?_))
    rw [h7 k hk', hk k (by omega)]

def resSem (T : Array Value) : ResultVar → Sem Value
  | .tmp t => pure (T.getD t undef)
  | .cell a t => do loadVar t (← asAddr (T.getD a undef))

theorem results_eq (fn : Func) (T : Array Value) : results fn T = (do
    let vs ← fn.results.mapM (resSem T)
    pure (if h : vs.size = 1 then vs[0] else .tuple vs)) := by
  unfold results
  congr 1

theorem results_rel (hC : CfgOk C P) (hS : SRel E S w) {T : Array Value} (hT : Tmps E lc A.tmps T) (hL : Locs E w lc A.locs) : ∀ {l : List ResultVar} {vs : List V}, resultsOf C A S l = some vs →
    ∃ X : List Value, (l.mapM (resSem T)).run P w = .ok X w ∧ ValsRel E lc vs X
  | [], vs, h => by
    unfold resultsOf at h
    cases h
    exact ⟨[], by simp, rfl⟩
  | .tmp t :: l, vs, h => by
    unfold resultsOf at h
    split at h
    · rename_i v vs' h1 h2
      cases h
      obtain ⟨X, k1, k2⟩ := results_rel hC hS hT hL h2
      obtain ⟨x, j1, j2⟩ := hT t v h1
      refine ⟨x :: X, ?_, x, X, rfl, j2, k2⟩
      rw [List.mapM_cons]
      simp [resSem, k1, Array.getD_eq_getD_getElem?, j1]
    · cases h
  | .cell a ty :: l, vs, h => by
    unfold resultsOf at h
    split at h
    · rename_i p hp
      split at h
      · rename_i v vs' h1 h2
        cases h
        obtain ⟨X, k1, k2⟩ := results_rel hC hS hT hL h2
        obtain ⟨x, j1, j2⟩ := hT a p hp
        obtain ⟨cv, i1, i2⟩ := load_sound hC hS hL h1 j2
        refine ⟨cv :: X, ?_, cv, X, rfl, i2, k2⟩
        have i3 : (do loadVar ty (← asAddr (T.getD a undef)) : Sem Value).run P w = .ok cv w := by
          rw [Array.getD_eq_getD_getElem?, j1]
          have hpt : ∃ ad, x = .pointer (some ad) := by
            cases p with
            | ptr b o => exact ptr_pointer j2
            | imm top cs => obtain ⟨_, B, o, e, _⟩ := j2; exact ⟨_, e⟩
            | _ => simp [load] at h1; split at h1 <;> cases h1
          obtain ⟨ad, rfl⟩ := hpt
          simpa [Instr.loadAt, Instr.sureAddr, asAddr] using i1
        have i4 : (resSem T (.cell a ty)).run P w = .ok cv w := i3
        rw [List.mapM_cons]
        simp [Sem.run_bind, i4, k1]
      · cases h
    · cases h

theorem look_number {args : List V} {X : List Value} (h : ValsRel E lc args X) {t : Nat} {v : V} (ht : look t (number 0 args) = some v) : ∃ x, X[t]? = some x ∧ VRel E lc v x := by
  have key : ∀ (l : List V) (i : Nat), look t (number i l) = some v → i ≤ t ∧ l[t - i]? = some v := by
    intro l
    induction l with
    | nil => intro i h; cases h
    | cons a l ih =>
      intro i h
      have e : number i (a :: l) = (i, a) :: number (i + 1) l := rfl
      rw [e] at h
      by_cases hti : t = i
      · subst hti
        rw [look_cons_same] at h
        cases h
        simp
      · rw [look_cons_other hti] at h
        obtain ⟨h1, h2⟩ := ih (i + 1) h
        refine ⟨by omega, ?_⟩
        rw [show t - i = (t - (i + 1)) + 1 by omega]
        simpa using h2
  obtain ⟨_, h2⟩ := key args 0 ht
  exact h.get h2

theorem one_rel {vs : List V} {X : List Value} (h : ValsRel E lc vs X) (hl : (valsLvl vs).isSome = true) : VRel E lc (one vs) (if h : X.length = 1 then X[0] else .tuple ⟨X⟩) ∧ (one vs).lvl.isSome = true := by
  match vs, h, hl with
  | [], h, hl => cases h; exact ⟨⟨rfl, [], rfl, rfl⟩, rfl⟩
  | [v], h, hl =>
    obtain ⟨x, Y, rfl, h1, h2⟩ := h
    cases h2
    refine ⟨h1, ?_⟩
    obtain ⟨n, hn⟩ := isSome_within hl
    have := (valsLvl_within.1 hn).1
    exact within_isSome (aggLvl_lvl this)
  | v :: u :: vs, h, hl =>
    refine ⟨?_, hl⟩
    obtain ⟨x, Y, rfl, h1, y, Z, rfl, h2⟩ := h
    have hne : ¬ (x :: y :: Z).length = 1 := by simp
    rw [dif_neg hne]
    exact ⟨hl, _, rfl, ⟨x, _, rfl, h1, y, Z, rfl, h2⟩⟩

/-- A FUNCTION, ACTIVATED. -/
theorem frame_sound (hC : CfgOk C P) (hcode : ∀ fid c, codeOk (C.fc fid) c = true → CodeSound P none c (fun A S => evalCode C R k fid (C.fc fid) c A S)) {id : Nat} {args : List V} {v : V} {S' : St}
    (h : frame C R k id args S = some (v, S')) : v.lvl.isSome = true ∧
    ∀ E w X, SRel E S w → ValsRel E noLoc args X → Calls P id ⟨X⟩ w (CallPost E S w v S') := by
  unfold frame at h
  split at h
  · rename_i fn hfn
    split at h
    · rename_i c hc
      split at h
      · cases h
      · rename_i e A1 S1 hne hev
        split at h
        · rename_i vs hvs
          split at h
          · rename_i top htop
            cases h
            have hls : (valsLvl vs).isSome = true := by rw [htop]; rfl
            have hlv : (one vs).lvl.isSome = true := by
              match vs, hls with
              | [], _ => rfl
              | [v], hl =>
                obtain ⟨n, hn⟩ := isSome_within hl
                exact within_isSome (aggLvl_lvl (valsLvl_within.1 hn).1)
              | v :: u :: vs, hl => exact hl
            refine ⟨hlv, fun E w X hS hX => ?_⟩
            obtain ⟨hf1, _⟩ := hC.fn id fn hfn
            refine (callsIn_wide (n := 0)).1 (callsIn_of_wp_marks (F := Fw none) hf1 hc trivial ?_)
            have hE0 : ERel E S noLoc { nt := fn.ntmps, tmps := number 0 args, locs := [], fix := [] } ⟨(⟨X⟩ : Array Value) ++ Array.replicate (fn.ntmps - X.length) undef, []⟩ w := by
              refine ⟨by simp; omega, fun t v ht => ?_, ⟨(fun d cs hd => by cases hd), (fun d d' B hd => by cases hd)⟩, fun B hB => ?_, fun d hd => (by cases hd), List.Pairwise.nil⟩
              · obtain ⟨x, h1, h2⟩ := look_number hX ht
                refine ⟨x, ?_, h2⟩
                have hlt : t < X.length := (List.getElem?_eq_some_iff.1 h1).1
                rw [Array.getElem?_append_left (by simpa using hlt)]
                simpa using h1
              · obtain ⟨d, hd, _⟩ := hB; cases hd
            refine hcode id c (hC.body id fn c hfn hc) 0 hS hE0 hev (fun E' lc' a' w' hl hr => ?_)
            have hmarks : ∀ d ∈ a'.defers, ∃ r, d.target = .collected r ∧ w.heap.size ≤ r := fun d hd => by
              rcases hl d hd with h | h
              · cases h
              · exact h
            have hgoal : LeavesInM (Fw none) 0 P fn a'.tmps (CallPost E S w (one vs) S') a'.defers .returning w' := by
              refine leave_marks (w0 := w) a'.defers w' hr.srel hr.erel hmarks (fun w'' h1 h2 h3 h4 h5 h6 h7 => ?_)
              obtain ⟨Y, k1, k2⟩ := results_rel hC h1 h2.tmps h2.locs hvs
              obtain ⟨k3, _⟩ := one_rel k2 hls
              have hrun : (results fn a'.tmps).run P w'' = .ok (if h : Y.length = 1 then Y[0] else .tuple ⟨Y⟩) w'' := by
                rw [results_eq, Array.mapM_eq_mapM_toList]
                simp [k1]
              refine ⟨_, hrun, _, E', rfl, h1, ?_, k3.reloc (isSome_within hlv).choose_spec⟩
              have hst := hr.step
              exact ⟨h3.trans hst.os, h4.trans hst.tape, h5.trans hst.output, by rw [h6]; exact hst.size,
                fun k hk hn => (h7 k hk).trans (hst.keep k hk (fun hf => hf.elim hn (fun ⟨d, hd, _⟩ => by cases hd))),
                fun k hk => (hst.grow k (.inl hk)).imp_left (fun hf => hf.elim (fun hq => hq) (fun ⟨d, hd, _⟩ => by cases hd)),
                hst.mem, fun B o x hx => (hst.mnew B o x hx).imp_right (fun y => y.imp_left (fun hf => hf.elim (fun hq => hq) (fun ⟨d, hd, _⟩ => by cases hd))),
                hst.rho, hst.tok, hst.lm⟩
            cases e with
            | normal => exact hgoal
            | ret => exact hgoal
            | exit id => exact (hne _ rfl).elim
          · cases h
        · cases h
      · cases h
    · cases h
  · cases h

end

end Go.Ev

/- The evaluator is sound: a function that is called in the empty state (own work). -/
namespace Go.Ev
open Go.RowKit

section
variable {C : Cfg} {P : Program} {R : Run} {E : Rho} {S : St} {lc : LocM} {A : Env} {w w' : World} {k : Nat}

theorem isZero_within {o : Option Nat} (h : isZero o = true) : within o 0 := by
  unfold isZero at h
  split at h
  · exact ⟨0, rfl, Nat.le_refl _⟩
  · cases h

theorem pures_of {l : List V} (h : within (valsLvl l) 0) : allB V.pure l = true := by
  induction l with
  | nil => rfl
  | cons v l ih =>
    have hb := valsLvl_within.1 h
    refine allB_cons_iff.2 ⟨?_, ih hb.2⟩
    unfold V.pure isZero
    obtain ⟨n, h1, h2⟩ := hb.1
    have : n = 0 := by omega
    subst this
    rw [h1]
    rfl

theorem plain_stripAll (v : V) : plainV v.stripAll = true := by
  cases v with
  | tuple vs =>
    show (mapN V.strip vs).all plainA = true
    rw [mapN_eq, List.all_map]
    simp [Function.comp_def, strip_plainA]
  | agg cs => exact strip_plainA (.agg cs)
  | list sz tok top rows => cases tok <;> rfl
  | _ => rfl

theorem frz_rel {ac : Acc} {M' : Nat → Nat → Option Value} (hM1 : ∀ B o x, E.M B o = some x → M' B o = some x)
    (hM2 : ∀ B, FL E S lc A B → ∀ o x, w.cell? ⟨B, o, none⟩ = some x → x.oneCell' = true → M' B o = some x) (hS : SRel E S w) (hL : Locs E w lc A.locs)
    {v v' : V} {x : Value} (h : frz A S ac v = some v') (hv : VRel E lc v x) (hz : isZero v'.lvl = true) : VRel (only M') noLoc v'.stripAll x := by
  unfold frz at h
  split at h
  · rename_i vs
    split at h
    · rename_i l hl
      cases h
      obtain ⟨h1, X, rfl, h2⟩ := hv
      have hp := pures_of (isZero_within hz)
      have hr := aggsFrz_rel hM1 hM2 hS hL hl h2 hp
      refine ⟨?_, X, rfl, ?_⟩
      · rw [mapN_eq, map_strip_lvl]; exact within_isSome (isZero_within hz)
      · rw [mapN_eq]; exact hr
    · cases h
  · rename_i hnt
    have hn : ∀ vs, v' ≠ .tuple vs := fun vs e => by
      subst e
      unfold aggFrz at h
      split at h
      · split at h
        · cases h
        · cases h
      · unfold cellFrz at h
        split at h
        · replace h := (bif_some h).2
          split at h
          · replace h := (bif_some h).2
            split at h
            · cases h
            · cases h
          · cases h
        · cases h; exact hnt _ rfl
    have hp : v'.pure = true := by
      cases v' <;> first | exact absurd rfl (hn _) | exact hz
    have := aggFrz_rel hM1 hM2 hS hL h hv hp
    cases v' <;> first | exact absurd rfl (hn _) | exact this

theorem empty_rel {M : Nat → Nat → Option Value} (hM : MTrue M w) : SRel (only M) St.empty w where
  len := rfl
  blk b B k hb := by cases hb
  nodup := List.nodup_nil
  tlen := rfl
  tok t o ho := by cases ho
  tdist t u o p ho := by cases ho
  tρ t o ho := by cases ho
  M := hM
  Mρ B o x _ hB := by cases hB
  Mτ B o x t p _ hp := by cases hp
  ll b r d B hb := by cases hb
  lldist b b' r r' d d' B hb := by cases hb

theorem FP_empty {M : Nat → Nat → Option Value} {k : Nat} (h : FP (only M) St.empty k) : False := by
  rcases h with h | ⟨o, ho, _⟩ | ⟨b, r, d, h1, _⟩
  · cases h
  · cases ho
  · cases h1

theorem pure_sound (hC : CfgOk C P) (hcode : ∀ fid c, codeOk (C.fc fid) c = true → CodeSound P none c (fun A S => evalCode C R k fid (C.fc fid) c A S)) {id : Nat} {args : List V} {v v' : V} {S' : St}
    (h : frame C R k id (mapN V.strip args) St.empty = some (v, S')) (hf : frz { nt := 0, tmps := [], locs := [], fix := [] } S' .any v = some v') (hz : isZero v'.lvl = true) :
    PureCalls P id args v'.stripAll := by
  obtain ⟨_, hcall⟩ := frame_sound hC hcode h
  refine ⟨?_, plain_stripAll v', fun M w X hM hX => ?_⟩
  · have hw := isZero_within hz
    cases v' with
    | tuple vs => show within (valsLvl (mapN V.strip vs)) 0; rw [mapN_eq, map_strip_lvl]; exact hw
    | agg cs => exact aggLvl_lvl (v := (V.agg cs).strip) (by rw [strip_aggLvl]; exact hw)
    | list sz tok top rows => cases tok <;> exact hw
    | _ => exact hw
  · refine (hcall (only M) w X (empty_rel hM) (by rw [mapN_eq]; exact hX)).mono ?_
    rintro e w' ⟨cv, E', rfl, hS', hst, hv⟩
    have hMlt : ∀ B o x, M B o = some x → B < w.heap.size := fun B o x hx => cell_block (hM B o x hx).1
    have hM1 : ∀ B o x, E'.M B o = some x → (if B < w.heap.size then M B o else World.all w' B o) = some x := fun B o x hx => by
      rcases hst.mnew B o x hx with h | h | h
      · rw [if_pos (hMlt B o x h)]; exact h
      · exact (FP_empty h).elim
      · rw [if_neg (by omega)]; exact all_more hS' B o x hx
    refine ⟨cv, fun B o => if B < w.heap.size then M B o else World.all w' B o, rfl, ⟨hst.os, hst.tape, hst.output, hst.size, fun k hk => hst.keep k hk (fun hf => FP_empty hf)⟩, ?_, ?_, ?_, ?_⟩
    · intro B o x hx
      by_cases hlt : B < w.heap.size
      · simp only [hlt, if_true] at hx
        exact hS'.M B o x (hst.mem B o x hx)
      · simp only [hlt, if_false] at hx
        exact all_true w' B o x hx
    · intro B o x hx
      simp only [hMlt B o x hx, if_true]; exact hx
    · intro B o x hx
      by_cases hlt : B < w.heap.size
      · simp only [hlt, if_true] at hx; exact .inl hx
      · exact .inr (by omega)
    · refine frz_rel (A := { nt := 0, tmps := [], locs := [], fix := [] }) (lc := noLoc) hM1 ?_ hS' ⟨(fun d cs hd => by cases hd), (fun d d' B hd => by cases hd)⟩ hf hv hz
      intro B hB o x hx hx1
      rcases hB with hB | ⟨d, hd, _⟩
      · rcases hst.grow B hB with h | h
        · exact (FP_empty h).elim
        · show (if B < w.heap.size then M B o else World.all w' B o) = some x
          rw [if_neg (by omega)]; exact all_knows hx hx1
      · cases hd

end

end Go.Ev

/- The evaluator is sound: the record of a loop over a function (own work). -/
namespace Go.Ev
open Go.RowKit

section
variable {C : Cfg} {P : Program} {R : Run} {E : Rho} {S : St} {lc : LocM} {A : Env} {a : Act} {w w' : World}

/-- What a block must be to be a variable that a loop's record keeps. -/
def KeptBy (E : Rho) (S : St) (b B : Nat) : Prop :=
  B ∉ E.ρ ∧ (∀ (t : Nat) (o : Own), E.τ[t]? = some o → o.g ≠ B) ∧ (∀ o, E.M B o = none) ∧
    ∀ b' r d, b' ≠ b → S.heap[b']? = some (.loop r) → (look d r.locs).isSome = true → E.lm b' d ≠ some B

/-- The record of a loop is written anew. -/
theorem set_loop (hS : SRel E S w) {b l : Nat} (hb : E.ρ[b]? = some l) {r r' : LoopR} (hr : S.heap[b]? = some (.loop r)) (hk : ∀ k, k ≠ l → w'.heap[k]? = w.heap[k]?)
    (hH : HoldsLoop E w' l (E.lm b) r') (hL : Locs E w' (E.lm b) r'.locs) (hll : ∀ d B, (look d r'.locs).isSome = true → E.lm b d = some B → KeptBy E S b B) :
    SRel E { S with heap := S.heap.set b (.loop r') } w' := by
  have hblt : b < S.heap.length := (List.getElem?_eq_some_iff.1 hr).1
  have hlmem : l ∈ E.ρ := List.mem_of_getElem? hb
  have hget : ∀ b', b' ≠ b → (S.heap.set b (.loop r'))[b']? = S.heap[b']? := fun b' h => by rw [List.getElem?_set_ne (Ne.symm h)]
  have hsame : (S.heap.set b (.loop r'))[b]? = some (.loop r') := by rw [List.getElem?_set_self hblt]
  refine ⟨by simp [hS.len], ?_, hS.nodup, hS.tlen, ?_, hS.tdist, hS.tρ, ?_, hS.Mρ, hS.Mτ, ?_, ?_⟩
  · intro b' B k hB hk'
    by_cases hbb : b' = b
    · subst hbb
      rw [hb] at hB
      cases hB
      have hk'' : (S.heap.set b' (.loop r'))[b']? = some k := hk'
      rw [hsame] at hk''
      cases hk''
      exact ⟨hH, hL⟩
    · have hk'' : (S.heap.set b (.loop r'))[b']? = some k := hk'
      rw [hget b' hbb] at hk''
      have hBl : B ≠ l := fun e => by
        subst e
        have h1 := (List.getElem?_eq_some_iff.1 hB).1
        have h2 := (List.getElem?_eq_some_iff.1 hb).1
        exact hbb ((List.getElem_inj hS.nodup).1 (by rw [(List.getElem?_eq_some_iff.1 hB).2, (List.getElem?_eq_some_iff.1 hb).2]))
      exact (hS.blk b' B k hB hk'').mono (Mono.refl E) (List.getElem?_eq_some_iff.1 hB).1 (hk B hBl) (fun q hq j ⟨d, hd, hj⟩ => hk j fun e => by
        subst hq
        exact (hS.ll b' q d j hk'' hd hj).1 (e ▸ hlmem))
  · intro t o ho
    obtain ⟨h1, h2, h3, h4, cur, e, h5, h6⟩ := hS.tok t o ho
    exact ⟨h1, h2, h3, h4, cur, e, by rw [hk o.g (fun e' => hS.tρ t o ho (by rw [e']; exact hlmem))]; exact h5, h6⟩
  · intro B o x hx
    obtain ⟨h1, h2⟩ := hS.M B o x hx
    have hBl : B ≠ l := fun e => hS.Mρ B o x hx (e ▸ hlmem)
    exact ⟨by rw [World.cell?_of_block (w := w) (a := ⟨B, o, none⟩) (hk B hBl)]; exact h1, h2⟩
  · intro b' q d B hq hd hB
    have hq' : (S.heap.set b (.loop r'))[b']? = some (.loop q) := hq
    by_cases hbb : b' = b
    · subst hbb
      rw [hsame] at hq'
      cases hq'
      obtain ⟨h1, h2, h3, _⟩ := hll d B hd hB
      exact ⟨h1, h2, h3⟩
    · rw [hget b' hbb] at hq'
      exact hS.ll b' q d B hq' hd hB
  · intro b1 b2 q1 q2 d1 d2 B hq1 hq2 hd1 hd2 hB1 hB2
    have hq1' : (S.heap.set b (.loop r'))[b1]? = some (.loop q1) := hq1
    have hq2' : (S.heap.set b (.loop r'))[b2]? = some (.loop q2) := hq2
    by_cases h1 : b1 = b
    · by_cases h2 : b2 = b
      · rw [h1, h2]
      · exfalso
        subst h1
        rw [hsame] at hq1'
        cases hq1'
        rw [hget b2 h2] at hq2'
        exact (hll d1 B hd1 hB1).2.2.2 b2 q2 d2 h2 hq2' hd2 hB2
    · by_cases h2 : b2 = b
      · exfalso
        subst h2
        rw [hsame] at hq2'
        cases hq2'
        rw [hget b1 h1] at hq1'
        exact (hll d2 B hd2 hB2).2.2.2 b1 q1 d1 h1 hq1' hd1 hB1
      · rw [hget b1 h1] at hq1'
        rw [hget b2 h2] at hq2'
        exact hS.lldist b1 b2 q1 q2 d1 d2 B hq1' hq2' hd1 hd2 hB1 hB2

theorem keptBy_of_ll (hS : SRel E S w) {b d B : Nat} {r : LoopR} (hr : S.heap[b]? = some (.loop r)) (hd : (look d r.locs).isSome = true) (hB : E.lm b d = some B) : KeptBy E S b B := by
  obtain ⟨h1, h2, h3⟩ := hS.ll b r d B hr hd hB
  exact ⟨h1, h2, h3, fun b' r' d' hne hr' hd' hB' => hne (hS.lldist b' b r' r d' d B hr' hr hd' hd hB' hB)⟩

theorem keptBy_of_apart (hE : ERel E S lc A a w) {b d B : Nat} (hd : (look d A.locs).isSome = true) (hB : lc d = some B) : KeptBy E S b B := by
  obtain ⟨h1, h2, _⟩ := hE.apart B ⟨d, hd, hB⟩
  exact ⟨fun h => h1 (.inl h), fun t o ho e => h1 (.inr (.inl ⟨o, List.mem_of_getElem? ho, e⟩)), h2, fun b' r d' _ hr hd' hB' => h1 (.inr (.inr ⟨b', r, d', hr, hd', hB'⟩))⟩

/-! ### A new record -/

def Rho.pushLoop (E : Rho) (l : Nat) (lc : LocM) : Rho := { E with ρ := E.ρ ++ [l], lm := fun b => if b = E.ρ.length then lc else E.lm b }

theorem pushLoop_mono (E : Rho) (l : Nat) (lc : LocM) : Mono E (E.pushLoop l lc) :=
  ⟨fun _ _ _ h => h, ⟨[l], rfl⟩, fun _ o h => ⟨o, h, rfl, Nat.le_refl _, fun _ => rfl⟩, fun _ hb => if_neg (Nat.ne_of_lt hb)⟩

theorem pushLoop_FP {l k : Nat} {r : LoopR} (hS : SRel E S w) (hr : r.locs = A.locs) (h : FP (E.pushLoop l lc) { S with heap := S.heap ++ [.loop r] } k) : FP E S k ∨ k = l ∨ LP lc A.locs k := by
  rcases h with h | ⟨o, ho, hg⟩ | ⟨b, q, d, h1, h2, h3⟩
  · rcases List.mem_append.1 (show k ∈ E.ρ ++ [l] from h) with h | h
    · exact .inl (.inl h)
    · exact .inr (.inl (List.mem_singleton.1 h))
  · exact .inl (.inr (.inl ⟨o, ho, hg⟩))
  · have h1' : (S.heap ++ [Blk.loop r])[b]? = some (.loop q) := h1
    have h3' : (if b = E.ρ.length then lc else E.lm b) d = some k := h3
    by_cases hb : b = E.ρ.length
    · subst hb
      rw [← hS.len] at h1'
      simp only [List.getElem?_concat_length, Option.some.injEq, Blk.loop.injEq] at h1'
      subst h1'
      rw [if_pos rfl] at h3'
      exact .inr (.inr ⟨d, by rw [← hr]; exact h2, h3'⟩)
    · have hlt : b < S.heap.length := by
        have := (List.getElem?_eq_some_iff.1 h1').1
        rw [List.length_append, List.length_singleton] at this
        have := hS.len
        omega
      rw [List.getElem?_append_left hlt] at h1'
      rw [if_neg hb] at h3'
      exact .inl (.inr (.inr ⟨b, q, d, h1', h2, h3'⟩))

theorem push_loop (hS : SRel E S w) (hE : ERel E S lc A a w) (hg : Grew w w') {l : Nat} (hl : w.heap.size ≤ l) {r : LoopR} (hr : r.locs = A.locs)
    (hH : HoldsLoop (E.pushLoop l lc) w' l lc r) : SRel (E.pushLoop l lc) { S with heap := S.heap ++ [.loop r] } w' := by
  have hm := pushLoop_mono E l lc
  have hget : ∀ b : Nat, b < E.ρ.length → (S.heap ++ [Blk.loop r])[b]? = S.heap[b]? := fun b hb => List.getElem?_append_left (by rw [hS.len]; exact hb)
  have hlast : (S.heap ++ [Blk.loop r])[E.ρ.length]? = some (.loop r) := by rw [← hS.len]; simp
  have hρ : ∀ b : Nat, b < E.ρ.length → (E.pushLoop l lc).ρ[b]? = E.ρ[b]? := fun b hb => List.getElem?_append_left hb
  have hbound : ∀ (b : Nat) (k : Blk), (S.heap ++ [Blk.loop r])[b]? = some k → b < E.ρ.length ∨ (b = E.ρ.length ∧ k = .loop r) := fun b k hb => by
    have h1 := (List.getElem?_eq_some_iff.1 hb).1
    rw [List.length_append, List.length_singleton, hS.len] at h1
    by_cases he : b = E.ρ.length
    · subst he
      rw [hlast] at hb
      cases hb
      exact .inr ⟨rfl, rfl⟩
    · exact .inl (by omega)
  have hlm : ∀ b : Nat, b < E.ρ.length → (E.pushLoop l lc).lm b = E.lm b := hm.lm
  have hlmn : (E.pushLoop l lc).lm E.ρ.length = lc := if_pos rfl
  have hap : ∀ d B, (look d r.locs).isSome = true → lc d = some B → ¬ FP E S B ∧ (∀ o, E.M B o = none) ∧ B < w.heap.size := fun d B hd hB => hE.apart B ⟨d, by rw [← hr]; exact hd, hB⟩
  refine ⟨by show (S.heap ++ [_]).length = (E.ρ ++ [l]).length; simp [hS.len], ?_, ?_, hS.tlen, ?_, hS.tdist, ?_, ?_, ?_, hS.Mτ, ?_, ?_⟩
  · intro b B k hB hk
    rcases hbound b k hk with hb | ⟨rfl, rfl⟩
    · rw [hρ b hb] at hB
      have hk' : S.heap[b]? = some k := by rw [← hget b hb]; exact hk
      exact (hS.blk b B k hB hk').mono hm hb (hg.keep B (hS.lt hB)) (fun q hq j ⟨d, hd, hj⟩ => hg.keep j (hS.lt_loop (hq ▸ hk') hd hj))
    · have hBl : B = l := by
        have : (E.ρ ++ [l])[E.ρ.length]? = some B := hB
        simp at this
        exact this.symm
      subst hBl
      rw [hlmn]
      refine ⟨hH, ?_⟩
      rw [hr]
      exact hE.locs.mono hm (fun k hk => hg.keep k (hE.apart k hk).2.2)
  · show (E.ρ ++ [l]).Nodup
    rw [List.nodup_append]
    exact ⟨hS.nodup, by simp, fun x hx y hy e => by
      rw [List.mem_singleton] at hy
      have := hS.lt_mem hx
      omega⟩
  · intro t o ho
    obtain ⟨h1, h2, h3, h4, cur, e, h5, h6⟩ := hS.tok t o ho
    exact ⟨h1, h2, h3, h4, cur, e, by rw [hg.keep _ (hS.lt_tok ho)]; exact h5, h6⟩
  · intro t o ho hmem
    rcases List.mem_append.1 (show o.g ∈ E.ρ ++ [l] from hmem) with h | h
    · exact hS.tρ t o ho h
    · have := hS.lt_tok ho
      rw [List.mem_singleton] at h
      omega
  · intro B o x hx
    obtain ⟨h1, h2⟩ := hS.M B o x hx
    exact ⟨by rw [World.cell?_of_block (w := w) (a := ⟨B, o, none⟩) (hg.keep B (cell_block h1))]; exact h1, h2⟩
  · intro B o x hx hmem
    rcases List.mem_append.1 (show B ∈ E.ρ ++ [l] from hmem) with h | h
    · exact hS.Mρ B o x hx h
    · have := cell_block (hS.M B o x hx).1
      rw [List.mem_singleton] at h
      omega
  · intro b q d B hq hd hB
    rcases hbound b _ hq with hb | ⟨rfl, hqr⟩
    · rw [hlm b hb] at hB
      have hq' : S.heap[b]? = some (.loop q) := by rw [← hget b hb]; exact hq
      obtain ⟨h1, h2, h3⟩ := hS.ll b q d B hq' hd hB
      refine ⟨fun hmem => ?_, h2, h3⟩
      rcases List.mem_append.1 (show B ∈ E.ρ ++ [l] from hmem) with h | h
      · exact h1 h
      · have := hS.lt_loop hq' hd hB
        rw [List.mem_singleton] at h
        omega
    · cases hqr
      rw [hlmn] at hB
      obtain ⟨h1, h2, h3⟩ := hap d B hd hB
      refine ⟨fun hmem => ?_, fun t o ho e => h1 (.inr (.inl ⟨o, List.mem_of_getElem? ho, e⟩)), h2⟩
      rcases List.mem_append.1 (show B ∈ E.ρ ++ [l] from hmem) with h | h
      · exact h1 (.inl h)
      · rw [List.mem_singleton] at h
        omega
  · intro b1 b2 q1 q2 d1 d2 B hq1 hq2 hd1 hd2 hB1 hB2
    rcases hbound b1 _ hq1 with hb1 | ⟨rfl, hqr1⟩
    · have hq1' : S.heap[b1]? = some (.loop q1) := by rw [← hget b1 hb1]; exact hq1
      rw [hlm b1 hb1] at hB1
      rcases hbound b2 _ hq2 with hb2 | ⟨rfl, hqr2⟩
      · have hq2' : S.heap[b2]? = some (.loop q2) := by rw [← hget b2 hb2]; exact hq2
        rw [hlm b2 hb2] at hB2
        exact hS.lldist b1 b2 q1 q2 d1 d2 B hq1' hq2' hd1 hd2 hB1 hB2
      · exfalso
        cases hqr2
        rw [hlmn] at hB2
        exact (hap d2 B hd2 hB2).1 (.inr (.inr ⟨b1, q1, d1, hq1', hd1, hB1⟩))
    · rcases hbound b2 _ hq2 with hb2 | ⟨rfl, hqr2⟩
      · exfalso
        cases hqr1
        have hq2' : S.heap[b2]? = some (.loop q2) := by rw [← hget b2 hb2]; exact hq2
        rw [hlm b2 hb2] at hB2
        rw [hlmn] at hB1
        exact (hap d1 B hd1 hB1).1 (.inr (.inr ⟨b2, q2, d2, hq2', hd2, hB2⟩))
      · rfl

end

end Go.Ev

/- The evaluator is sound: a loop over a function (own work). -/
namespace Go.Ev
open Go.RowKit

section
variable {C : Cfg} {P : Program} {R : Run} {E : Rho} {S : St} {lc : LocM} {A : Env} {a : Act} {w w' : World} {fid : Nat}

theorem run_endLoop {l : Nat} {L : Loop} (h : w.heap[l]? = some (.loop L)) (hs : L.state ≠ .busy) :
    (Instr.endLoop l).run P w = .ok L.pending { w with heap := w.heap.setIfInBounds l (.loop { L with state := .exhausted }) } := by
  simp [Instr.endLoop, Instr.getLoop, getObj, setObj, Sem.run, h, hs]

theorem FP_set_loop {b k : Nat} {r' : LoopR} (hr : r'.locs = []) (h : FP E { S with heap := S.heap.set b (.loop r') } k) : FP E S k := by
  rcases h with h | h | ⟨b', q, d, h1, h2, h3⟩
  · exact .inl h
  · exact .inr (.inl h)
  · have h1' : (S.heap.set b (.loop r'))[b']? = some (.loop q) := h1
    by_cases hb : b' = b
    · subst hb
      rw [List.getElem?_set] at h1'
      simp only [if_true] at h1'
      split at h1'
      · cases h1'
        rw [hr] at h2
        cases h2
      · cases h1'
    · rw [List.getElem?_set_ne (Ne.symm hb)] at h1'
      exact .inr (.inr ⟨b', q, d, h1', h2, h3⟩)

/-- Behind the entry of the loop: the frame has lent its variables to the record. -/
theorem lent_rel (hS : SRel E S w) (hE : ERel E S lc A a w) {r : LoopR} (hr : r.locs = A.locs) {L : Loop} :
    ERel (E.pushLoop (w.heap.size + 1) lc) { S with heap := S.heap ++ [.loop r] } lc { A with locs := [] } ⟨a.tmps, { target := .collected w.heap.size, args := #[] } :: a.defers⟩
      ((w.alloc (.deferred (some []))).alloc (.loop L)) := by
  have hm := pushLoop_mono E (w.heap.size + 1) lc
  have hg1 := Grew.alloc w (.deferred (some []))
  have hg2 := Grew.alloc (w.alloc (.deferred (some []))) (.loop L)
  have hkeep : ∀ k, k < w.heap.size → ((w.alloc (.deferred (some []))).alloc (.loop L)).heap[k]? = w.heap[k]? := fun k hk =>
    (hg2.keep k (Nat.lt_of_lt_of_le hk hg1.size)).trans (hg1.keep k hk)
  refine ⟨hE.nt, hE.tmps.mono hm (fun _ _ _ _ _ h _ => h), ⟨(fun d cs hd => by cases hd), (fun d d' B hd => by cases hd)⟩, fun B hB => ?_, fun d hd => ?_, ?_⟩
  · obtain ⟨d, hd, _⟩ := hB; cases hd
  · rcases List.mem_cons.1 hd with rfl | hd
    · refine ⟨w.heap.size, rfl, ?_, fun hf => ?_⟩
      · rw [hg2.keep _ (by rw [alloc_size]; omega)]; exact alloc_new w _
      · rcases pushLoop_FP hS hr hf with h | h | h
        · have := hS.lt_FP h; omega
        · omega
        · have := (hE.apart _ h).2.2; omega
    · obtain ⟨s, h1, h2, h3⟩ := hE.marks d hd
      have hlt : s < w.heap.size := (Array.getElem?_eq_some_iff.1 h2).1
      refine ⟨s, h1, by rw [hkeep s hlt]; exact h2, fun hf => ?_⟩
      rcases pushLoop_FP hS hr hf with h | h | ⟨d', k1, k2⟩
      · exact h3 h
      · omega
      · obtain ⟨cs, hcs⟩ := Option.isSome_iff_exists.1 k1
        obtain ⟨B, k3, arr, ty, k4, _⟩ := hE.locs.cells d' cs hcs
        rw [k2] at k3
        cases k3
        rw [h2] at k4
        cases k4
  · show List.Pairwise _ ((_ :: a.defers).map (·.target))
    rw [List.map_cons]
    refine List.Pairwise.cons (fun t ht => ?_) hE.mdist
    obtain ⟨d, hd, rfl⟩ := List.mem_map.1 ht
    intro r s h1 h2
    cases h1
    obtain ⟨s', k1, k2, _⟩ := hE.marks d hd
    rw [h2] at k1
    cases k1
    have := (Array.getElem?_eq_some_iff.1 k2).1
    omega

theorem isSome_max {o p : Option Nat} {top : Nat} (h : within (both o p) top) : o.isSome = true ∧ p.isSome = true := by
  cases o <;> cases p <;> first | exact ⟨rfl, rfl⟩ | exact absurd h within_none

theorem lvls_append {l m : List V} (hl : (valsLvl l).isSome = true) (hm : (valsLvl m).isSome = true) : (valsLvl (l ++ m)).isSome = true := by
  obtain ⟨i, hi⟩ := isSome_within hl
  obtain ⟨j, hj⟩ := isSome_within hm
  exact within_isSome (n := max i j) (valsLvl_append.2 ⟨within_mono hi (Nat.le_max_left _ _), within_mono hj (Nat.le_max_right _ _)⟩)

theorem lvls_cons {v : V} {m : List V} (hl : (aggLvl v).isSome = true) (hm : (valsLvl m).isSome = true) : (valsLvl (v :: m)).isSome = true := by
  obtain ⟨i, hi⟩ := isSome_within hl
  obtain ⟨j, hj⟩ := isSome_within hm
  exact within_isSome (n := max i j) (valsLvl_within.2 ⟨within_mono hi (Nat.le_max_left _ _), within_mono hj (Nat.le_max_right _ _)⟩)

/-- THE LOOP OVER A FUNCTION. -/
theorem range_sound (hC : CfgOk C P) (hR : RunOk C P R) {g : Operand} {ps : Array Tmp} {x y : Code} (hok : codeOk (C.fc fid) (.rangeFunc g ps x y) = true) :
    CodeSound P none (.rangeFunc g ps x y) (fun A S => eRange R fid g ps x y A S) := by
  intro n E S lc A a w e A1 S1 Q hS hE h hQ
  replace h : eRange R fid g ps x y A S = some (e, A1, S1) := h
  unfold eRange at h
  split at h
  · rename_i f top first cap hg
    split at h
    · rename_i v S' hrun
      split at h
      · rename_i r hr
        split at h
        · rename_i hst
          cases h
          rw [nth_eq, lenN_eq] at hr
          rw [appN_eq, appN_eq, lenN_eq] at hrun
          obtain ⟨ok1, ok2⟩ := andB_true.1 (show andB (andB (codeOk (C.fc fid) x) (noRange x)) (andB (codeOk (C.fc fid) y) (noRange y)) = true from hok)
          obtain ⟨w0, hw0⟩ : ∃ w0 : World, w0 = w := ⟨w, rfl⟩
          have hlen := hS.len
          have hm := pushLoop_mono E (w.heap.size + 1) lc
          have hsize : (w.alloc (.deferred (some []))).heap.size = w.heap.size + 1 := alloc_size w _
          have hg1 := Grew.alloc w (.deferred (some []))
          -- the record
          have hcall : ∀ fn : FuncId, ∃ (l : Nat) (mark : List Deferred) (w₁ : World) (d : Deferred) (w₁' : World) (f : FuncId) (args : Array Value) (w₂ : World),
              (Instr.enterLoop fn a.tmps ps x y (Fw none).round).run P w = .ok (l, mark) w₁ ∧ (resolve a.eval (rangeCall g l) 0).run P w₁ = .ok d w₁' ∧
              (∀ f', Target.leads P w₁' d.target d.args = some f' → (Fw none).fn f') ∧ (invoke d.target d.args).run P w₁' = .ok (.enter f args) w₂ ∧
              ((Fw none).depth.isSome = true → 1 ≤ n) ∧ CallsIn (Fw none) (n - 1) P f args w₂ (rangePost (Fw none) n P l Q { a with defers := mark ++ a.defers }) := by
            intro fn
            obtain ⟨hvt, hp1, hp2, Xf, Xc, hcx, hXf, hXc⟩ := operand_rel hE.tmps hg
            have hvE : VRel E lc (.fn f top first cap) (.func (.func f) ⟨Xf⟩ ⟨Xc⟩) := ⟨hvt, hp1, hp2, Xf, Xc, rfl, hXf, hXc⟩
            obtain ⟨_, _, _, Yf, Yc, hcy, hYf, hYc⟩ := VRel.mono (lc' := noLoc) hvE hm (fun d B _ hi => by cases hi)
            injection hcy with _ e1 e2
            have e1' : Xf = Yf := congrArg Array.toList e1
            have e2' : Xc = Yc := congrArg Array.toList e2
            subst e1'; subst e2'
            let L : Loop := { state := .ready, pending := none, fn := fn, tmps := a.tmps, params := ps, assign := x, body := y, defers := w.heap.size }
            let r0 : LoopR := { fid := fid, nt := A.nt, tmps := A.tmps, locs := A.locs, params := ps.toList, assign := x, body := y, st := .ready, pend := none }
            have hgL : Grew w ((w.alloc (.deferred (some []))).alloc (.loop L)) := by
              have hg2 := Grew.alloc (w.alloc (.deferred (some []))) (.loop L)
              exact ⟨hg2.os.trans hg1.os, hg2.tape.trans hg1.tape, hg2.output.trans hg1.output, Nat.le_trans hg1.size hg2.size,
                fun k hk => (hg2.keep k (Nat.lt_of_lt_of_le hk hg1.size)).trans (hg1.keep k hk)⟩
            have hnew : ((w.alloc (.deferred (some []))).alloc (.loop L)).heap[w.heap.size + 1]? = some (.loop L) := by
              rw [← hsize]; exact alloc_new _ _
            have hH : HoldsLoop (E.pushLoop (w.heap.size + 1) lc) ((w.alloc (.deferred (some []))).alloc (.loop L)) (w.heap.size + 1) lc r0 :=
              ⟨L, hnew, rfl, fun _ => ⟨⟨(hC.okc fid x).2 (andB_true.1 ok1), (hC.okc fid y).2 (andB_true.1 ok2)⟩, rfl, rfl, rfl, hE.nt, hE.tmps.mono hm (fun _ _ _ _ _ h _ => h)⟩,
                fun _ => rfl, fun _ => rfl, fun h => by cases h⟩
            have hS1 := push_loop hS hE hgL (l := w.heap.size + 1) (by omega) (r := r0) rfl hH
            have hE1 := lent_rel hS hE (r := r0) rfl (L := L)
            have hb : (E.pushLoop (w.heap.size + 1) lc).ρ[S.heap.length]? = some (w.heap.size + 1) := by
              rw [hS.len]; show (E.ρ ++ [_])[E.ρ.length]? = _; simp
            obtain ⟨hl1, hl2⟩ := isSome_max hvt
            have hargs : ValsRel (E.pushLoop (w.heap.size + 1) lc) noLoc (first ++ .yield S.heap.length :: cap) (Xf ++ (.func (.yield (w.heap.size + 1)) #[] #[]) :: Xc) :=
              hYf.append ⟨_, _, rfl, ⟨_, hb, rfl⟩, hYc⟩
            have hargl : (valsLvl (first ++ .yield S.heap.length :: cap)).isSome = true := lvls_append hl1 (lvls_cons rfl hl2)
            have hnp : ((C.fc f).pure && allB V.pure (first ++ .yield S.heap.length :: cap)) = false := by
              cases hq : allB V.pure (first ++ .yield S.heap.length :: cap) with
              | false => cases (C.fc f).pure <;> rfl
              | true => have := allB_mem hq (.yield S.heap.length) (List.mem_append_right _ (List.mem_cons_self)); cases this
            obtain ⟨_, hcalls⟩ := hR.call f _ _ v S' hnp hrun
            refine ⟨w.heap.size + 1, [{ target := .collected w.heap.size, args := #[] }], (w.alloc (.deferred (some []))).alloc (.loop L),
              { target := .fn (.func f) ⟨Xc⟩, args := ⟨Xf ++ [.func (.yield (w.heap.size + 1)) #[] #[]]⟩ }, (w.alloc (.deferred (some []))).alloc (.loop L), f,
              ⟨Xf ++ (.func (.yield (w.heap.size + 1)) #[] #[]) :: Xc⟩, (w.alloc (.deferred (some []))).alloc (.loop L), ?_, ?_, fun _ _ => trivial, ?_, fun h => (by cases h), ?_⟩
            · show Result.ok ((w.alloc (.deferred (some []))).heap.size, _) _ = _
              rw [hsize]
              rfl
            · have : a.eval g = .func (.func f) ⟨Xf⟩ ⟨Xc⟩ := hcx
              have hc : a.eval (.const (.func (.yield (w.heap.size + 1)) #[] #[])) = .func (.yield (w.heap.size + 1)) #[] #[] := rfl
              simp [resolve, Deferred.ofValue, this, hc]
            · have : ((⟨Xf ++ [.func (.yield (w.heap.size + 1)) #[] #[]]⟩ : Array Value) ++ (⟨Xc⟩ : Array Value)) = ⟨Xf ++ (.func (.yield (w.heap.size + 1)) #[] #[]) :: Xc⟩ := by
                apply Array.toList_inj.1; simp
              show (callFunc f (_ ++ _)).run P _ = _
              rw [this]
              exact callFunc_run (hR.fn f _ _ _ hrun)
            · refine (callsIn_wide (n := n - 1)).2 ((hcalls _ _ _ hS1 hargs hargl).mono ?_)
              rintro e' w2 ⟨cv, E2, rfl, hS2, hst2, _⟩
              have hb2 := hst2.mono.rho_get hb
              have hlm2 : E2.lm S.heap.length = lc := by
                rw [hst2.lm _ (List.getElem?_eq_some_iff.1 hb).1, hlen]; exact if_pos rfl
              obtain ⟨⟨L2, q1, q2, q3, q4, q5, q6⟩, hLocs⟩ := hS2.blk _ _ _ hb2 hr
              rw [hlm2] at hLocs
              have hnb : L2.state ≠ .busy := by
                rcases hst with h | h
                · rw [h] at q2; intro hh; rw [show L2.state = .ready from q2] at hh; cases hh
                · rw [h] at q2; intro hh; rw [show L2.state = .done from q2] at hh; cases hh
              have hlt2 : w.heap.size + 1 < w2.heap.size := (Array.getElem?_eq_some_iff.1 q1).1
              have hk4 : ∀ k, k ≠ w.heap.size + 1 → ({ w2 with heap := w2.heap.setIfInBounds (w.heap.size + 1) (.loop { L2 with state := .exhausted }) } : World).heap[k]? = w2.heap[k]? :=
                fun k hk => Array.getElem?_setIfInBounds_ne (Ne.symm hk)
              have hS3 := set_loop (w' := { w2 with heap := w2.heap.setIfInBounds (w.heap.size + 1) (.loop { L2 with state := .exhausted }) }) hS2 hb2 hr hk4
                (r' := { r with st := .over, locs := [], tmps := [], pend := none })
                ⟨{ L2 with state := .exhausted }, (by simp [hlt2]), trivial, fun h => absurd rfl h, fun _ => rfl, fun h => (by cases h), fun h => (by cases h)⟩
                ⟨(fun d cs hd => by cases hd), (fun d d' B hd => by cases hd)⟩ (fun d B hd => by cases hd)
              have hE2 := hE1.frame hst2.mono hst2.grow hst2.size hst2.keep hst2.mnew
              have hlmem : w.heap.size + 1 ∈ E2.ρ := List.mem_of_getElem? hb2
              have hE3 : ERel E2 { S' with heap := S'.heap.set S.heap.length (.loop { r with st := .over, locs := [], tmps := [], pend := none }) } lc { A with locs := r.locs }
                  ⟨a.tmps, { target := .collected w.heap.size, args := #[] } :: a.defers⟩ { w2 with heap := w2.heap.setIfInBounds (w.heap.size + 1) (.loop { L2 with state := .exhausted }) } := by
                refine ⟨hE.nt, hE2.tmps, hLocs.mono (Mono.refl E2) (fun k hk => hk4 k fun e => ?_), fun B hB => ?_, fun d hd => ?_, hE2.mdist⟩
                · obtain ⟨d, hd, hB⟩ := hk
                  exact (hS2.ll _ r d k hr hd (by rw [hlm2]; exact hB)).1 (by rw [e]; exact hlmem)
                · obtain ⟨d, hd, hB⟩ := hB
                  have hB' : E2.lm S.heap.length d = some B := by rw [hlm2]; exact hB
                  obtain ⟨j1, j2, j3, j4⟩ := keptBy_of_ll hS2 hr hd hB'
                  refine ⟨fun hf => ?_, j3, ?_⟩
                  · rcases hf with hf | ⟨o, ho, hog⟩ | ⟨b', r', d', i1, i2, i3⟩
                    · exact j1 hf
                    · obtain ⟨t, ht⟩ := List.mem_iff_getElem?.1 ho
                      exact j2 t o ht hog
                    · have i1' : (S'.heap.set S.heap.length (.loop { r with st := .over, locs := [], tmps := [], pend := none }))[b']? = some (.loop r') := i1
                      by_cases hbb : b' = S.heap.length
                      · subst hbb
                        rw [List.getElem?_set_self (List.getElem?_eq_some_iff.1 hr).1] at i1'
                        cases i1'
                        cases i2
                      · rw [List.getElem?_set_ne (Ne.symm hbb)] at i1'
                        exact j4 b' r' d' hbb i1' i2 i3
                  · show B < (w2.heap.setIfInBounds _ _).size
                    rw [Array.size_setIfInBounds]; exact hS2.lt_loop hr hd hB'
                · obtain ⟨s, i1, i2, i3⟩ := hE2.marks d hd
                  exact ⟨s, i1, by rw [hk4 s (fun e => i3 (.inl (by rw [e]; exact hlmem)))]; exact i2, fun hf => i3 (FP_set_loop rfl hf)⟩
              have hres : Res E S lc A ⟨a.tmps, { target := .collected w.heap.size, args := #[] } :: a.defers⟩ w E2
                  { S' with heap := S'.heap.set S.heap.length (.loop { r with st := .over, locs := [], tmps := [], pend := none }) } lc { A with locs := r.locs }
                  { w2 with heap := w2.heap.setIfInBounds (w.heap.size + 1) (.loop { L2 with state := .exhausted }) } := by
                have hFP1 : ∀ k, FP (E.pushLoop (w.heap.size + 1) lc) { S with heap := S.heap ++ [.loop r0] } k → FL E S lc A k ∨ w.heap.size ≤ k := fun k hk => by
                  rcases pushLoop_FP hS rfl hk with h | h | h
                  · exact .inl (.inl h)
                  · exact .inr (by omega)
                  · exact .inl (.inr h)
                refine ⟨hS3, hE3, ⟨hst2.os.trans hgL.os, hst2.tape.trans hgL.tape, hst2.output.trans hgL.output, ?_, fun k hk hn => ?_, fun k hk => ?_, hst2.mem, fun B o z hz => ?_, ?_, hst2.tok, fun b hb => ?_⟩, rfl, fun _ _ => rfl⟩
                · show w.heap.size ≤ (w2.heap.setIfInBounds _ _).size
                  rw [Array.size_setIfInBounds]; exact Nat.le_trans hgL.size hst2.size
                · rw [hk4 k (by omega), hst2.keep k (Nat.lt_of_lt_of_le hk hgL.size) (fun hf => (hFP1 k hf).elim hn (by omega)), hgL.keep k hk]
                · have hFP2 : FP E2 S' k := by
                    rcases hk with hk | ⟨d, hd, hB⟩
                    · exact FP_set_loop rfl hk
                    · exact .inr (.inr ⟨_, r, d, hr, hd, by rw [hlm2]; exact hB⟩)
                  rcases hst2.grow k hFP2 with h | h
                  · exact hFP1 k h
                  · exact .inr (Nat.le_trans hgL.size h)
                · rcases hst2.mnew B o z hz with h | h | h
                  · exact .inl h
                  · exact .inr (hFP1 B h)
                  · exact .inr (.inr (Nat.le_trans hgL.size h))
                · obtain ⟨rr, hrr⟩ := hst2.rho
                  exact ⟨(w.heap.size + 1) :: rr, by rw [hrr]; show (E.ρ ++ [_]) ++ rr = _; simp⟩
                · rw [hst2.lm b (by show b < (E.ρ ++ [_]).length; simp; omega)]; exact hm.lm b hb
              have hlater : Later w a ⟨a.tmps, { target := .collected w.heap.size, args := #[] } :: a.defers⟩ := fun d hd => by
                rcases List.mem_cons.1 hd with rfl | hd
                · exact .inr ⟨_, rfl, Nat.le_refl _⟩
                · exact .inl hd
              have hq := hQ E2 lc _ _ hlater (by rw [setN_eq, lenN_eq]; exact hres)
              refine ⟨L2.pending, _, run_endLoop q1 hnb, ?_⟩
              rcases hst with h | h
              · rw [q4 (.inl h)] at hq
                rw [q5 h] at hq ⊢
                exact hq
              · obtain ⟨ex, z1, z2, z3⟩ := q6 h
                rw [z1] at hq
                rw [z2] at hq ⊢
                cases ex with
                | normal => exact absurd rfl z3
                | ret => exact wpIn_ret hq
                | exit i => exact wpIn_exit hq
          exact wpIn_rangeFunc (fun fn _ => hcall fn)
        · cases h
      · cases h
    · cases h
  · cases h

end

end Go.Ev

/- The evaluator is sound: one round of a loop over a function (own work). -/
namespace Go.Ev
open Go.RowKit

section
variable {C : Cfg} {P : Program} {R : Run} {E : Rho} {S S1 : St} {lc : LocM} {A : Env} {a : Act} {w w' : World} {k : Nat}

theorem lentLoop_some {b : Nat} {st : RSt} {r : LoopR} (h : lentLoop S b st = some r) : S.heap[b]? = some (.loop r) ∧ r.st = st ∧ r.locs = [] := by
  unfold lentLoop at h
  split at h
  · rename_i r' hr
    split at h
    · rename_i hc
      cases h
      rw [nth_eq] at hr
      exact ⟨hr, hc.1, List.isEmpty_iff.1 hc.2⟩
    · cases h
  · cases h

theorem putLoop_eq (S : St) (b : Nat) (r : LoopR) : putLoop S b r = { S with heap := S.heap.set b (.loop r) } := by
  unfold putLoop; rw [setN_eq]

theorem run_getLoop {l : Nat} {L : Loop} (h : w.heap[l]? = some (.loop L)) : (Instr.getLoop l).run P w = .ok L w := by
  simp [Instr.getLoop, getObj, Sem.run, h]

theorem run_beginRound {l : Nat} {L : Loop} (h : w.heap[l]? = some (.loop L)) (hs : L.state = .ready) :
    (Instr.beginRound l).run P w = .ok () { w with heap := w.heap.setIfInBounds l (.loop { L with state := .busy }) } := by
  simp [Instr.beginRound, Instr.getLoop, getObj, setObj, Sem.run, h, hs]

theorem run_endRound {l : Nat} {L : Loop} (h : w.heap[l]? = some (.loop L)) (j : Option Code) :
    (Instr.endRound l j).run P w = .ok (.bool j.isNone) { w with heap := w.heap.setIfInBounds l (.loop { L with state := if j.isNone then .ready else .done, pending := j }) } := by
  simp [Instr.endRound, Instr.getLoop, getObj, setObj, Sem.run, h]

theorem setAll_rel {l : LocM} {ts : List Nat} : ∀ {T : Array Value} {tmps tmps' : List (Nat × V)} {vs : List V} {X : List Value}, setAll tmps ts vs = some tmps' → Tmps E l tmps T → ValsRel E l vs X → (∀ t ∈ ts, t < T.size) →
    Tmps E l tmps' ((ts.zip X).foldl (fun T p => T.setIfInBounds p.1 p.2) T) ∧ ((ts.zip X).foldl (fun T p => T.setIfInBounds p.1 p.2) T).size = T.size := by
  induction ts with
  | nil =>
    intro T tmps tmps' vs X h hT hX _
    cases vs with
    | nil => cases h; exact ⟨hT, rfl⟩
    | cons v vs => cases h
  | cons t ts ih =>
    intro T tmps tmps' vs X h hT hX hlt
    cases vs with
    | nil => cases h
    | cons v vs =>
      obtain ⟨x, Y, rfl, h1, h2⟩ := hX
      have h' : setAll ((t, v) :: tmps) ts vs = some tmps' := h
      have := ih (T := T.setIfInBounds t x) h' (tmps_set hT (hlt t (List.mem_cons_self)) h1) h2 (fun s hs => by rw [Array.size_setIfInBounds]; exact hlt s (List.mem_cons_of_mem _ hs))
      rw [List.zip_cons_cons, List.foldl_cons]
      exact ⟨this.1, this.2.trans (by rw [Array.size_setIfInBounds])⟩

end

end Go.Ev

/- The evaluator is sound: one round of a loop over a function, whole (own work; under way). -/
namespace Go.Ev
open Go.RowKit

section
variable {C : Cfg} {P : Program} {R : Run} {E : Rho} {S S1 : St} {lc : LocM} {A : Env} {a : Act} {w w' : World} {k : Nat}

theorem setAll_length : ∀ {l l' : List (Nat × V)} {ts : List Nat} {vs : List V}, setAll l ts vs = some l' → vs.length = ts.length
  | _, _, [], [], _ => rfl
  | _, _, [], _ :: _, h => by cases h
  | _, _, _ :: _, [], h => by cases h
  | l, l', t :: ts, v :: vs, h => by
    have h' : setAll ((t, v) :: l) ts vs = some l' := h
    rw [List.length_cons, List.length_cons, setAll_length h']

theorem run_yield {B : Nat} {L : Loop} (h : w.heap[B]? = some (.loop L)) {X : List Value} (hX : X.length = L.params.size) :
    (Instr.yield B ⟨X⟩).run P w = .ok (.round B L.fn ((L.params.toList.zip X).foldl (fun T p => T.setIfInBounds p.1 p.2) L.tmps) L.assign L.body) w := by
  have hf : (L.params.zip ⟨X⟩).foldl (fun tmps (x : Tmp × Value) => tmps.setIfInBounds x.1 x.2) L.tmps = (L.params.toList.zip X).foldl (fun T p => T.setIfInBounds p.1 p.2) L.tmps := by
    rw [← Array.foldl_toList, Array.toList_zip]
  simp only [Instr.yield, Sem.run_bind, run_getLoop h, Result.andThen_ok]
  have hz : (L.params.zip (⟨X⟩ : Array Value)).size = L.params.size := by simp [hX]
  rw [hz] at hf
  simp [hX]
  exact hf

/-- The frame of a round, its variables lent by the record. -/
theorem round_enter (hS : SRel E S w) {b B : Nat} (hb : E.ρ[b]? = some B) {r : LoopR} (hr : S.heap[b]? = some (.loop r)) (hst : r.st = .ready) {ts : List (Nat × V)} {T : Array Value}
    (hT : Tmps E (E.lm b) ts T) (hnt : r.nt ≤ T.size) :
    SRel E (putLoop S b { r with st := .assigns, locs := [] }) w ∧
    ERel E (putLoop S b { r with st := .assigns, locs := [] }) (E.lm b) { nt := r.nt, tmps := ts, locs := r.locs, fix := keysOf r.locs } ⟨T, []⟩ w := by
  rw [putLoop_eq]
  obtain ⟨⟨L, q1, q2, q3, q4, q5, q6⟩, hL⟩ := hS.blk _ _ _ hb hr
  rw [hst] at q2
  refine ⟨set_loop hS hb hr (fun _ _ => rfl) ⟨L, q1, q2, fun _ => q3 (by rw [hst]; intro h; cases h), fun _ => q4 (.inl hst), fun h => (by cases h), fun h => (by cases h)⟩
    ⟨(fun d cs hd => by cases hd), (fun d d' B hd => by cases hd)⟩ (fun d B hd => by cases hd), ⟨hnt, hT, hL, fun j hj => ?_, fun d hd => (by cases hd), List.Pairwise.nil⟩⟩
  obtain ⟨d, hd, hB⟩ := hj
  obtain ⟨j1, j2, j3, j4⟩ := keptBy_of_ll hS hr hd hB
  refine ⟨fun hf => ?_, j3, hS.lt_loop hr hd hB⟩
  rcases hf with hf | ⟨o, ho, hog⟩ | ⟨b', r', d', i1, i2, i3⟩
  · exact j1 hf
  · obtain ⟨t, ht⟩ := List.mem_iff_getElem?.1 ho
    exact j2 t o ht hog
  · have i1' : (S.heap.set b (.loop { r with st := .assigns, locs := [] }))[b']? = some (.loop r') := i1
    by_cases hbb : b' = b
    · subst hbb
      rw [List.getElem?_set_self (List.getElem?_eq_some_iff.1 hr).1] at i1'
      cases i1'
      cases i2
    · rw [List.getElem?_set_ne (Ne.symm hbb)] at i1'
      exact j4 b' r' d' hbb i1' i2 i3

theorem look_keepLocs {l : List (Nat × List V)} {d : Nat} {cs : List V} : ∀ {ks : List Nat}, look d (keepLocs l ks) = some cs → d ∈ ks ∧ look d l = some cs
  | [], h => by cases h
  | t :: ts, h => by
    unfold keepLocs at h
    split at h
    · rename_i v hv
      by_cases hdt : d = t
      · subst hdt
        rw [look_cons_same] at h
        cases h
        exact ⟨List.mem_cons_self, hv⟩
      · rw [look_cons_other hdt] at h
        obtain ⟨h1, h2⟩ := look_keepLocs (ks := ts) h
        exact ⟨List.mem_cons_of_mem _ h1, h2⟩
    · obtain ⟨h1, h2⟩ := look_keepLocs (ks := ts) h
      exact ⟨List.mem_cons_of_mem _ h1, h2⟩

/-- The end of a round: the variables go back to the record. -/
theorem round_leave (hS : SRel E S w) (hE : ERel E S lc A a w) {b B : Nat} (hb : E.ρ[b]? = some B) {r r' : LoopR} (hr : S.heap[b]? = some (.loop r)) {keys : List Nat}
    (hlc : ∀ d ∈ keys, lc d = E.lm b d) (hloc : r'.locs = keepLocs A.locs keys) {L : Loop} (hk : ∀ k, k ≠ B → w'.heap[k]? = w.heap[k]?) (hw : w.heap[B]? = some (.loop L))
    (hH : HoldsLoop E w' B (E.lm b) r') : SRel E (putLoop S b r') w' := by
  rw [putLoop_eq]
  have hin : ∀ d cs, look d r'.locs = some cs → d ∈ keys ∧ look d A.locs = some cs := fun d cs hd => look_keepLocs (by rw [← hloc]; exact hd)
  refine set_loop hS hb hr hk hH ⟨fun d cs hd => ?_, fun d d' C h1 h2 h3 h4 => ?_⟩ (fun d C hd hC => ?_)
  · obtain ⟨h1, h2⟩ := hin d cs hd
    obtain ⟨C, h3, h4⟩ := hE.locs.cells d cs h2
    refine ⟨C, by rw [← hlc d h1]; exact h3, h4.mono (Mono.refl E) (hk C fun e => ?_)⟩
    obtain ⟨arr, ty, h5, _⟩ := h4
    rw [e, hw] at h5
    cases h5
  · obtain ⟨cs, hcs⟩ := Option.isSome_iff_exists.1 h1
    obtain ⟨cs', hcs'⟩ := Option.isSome_iff_exists.1 h2
    obtain ⟨i1, i2⟩ := hin d cs hcs
    obtain ⟨j1, j2⟩ := hin d' cs' hcs'
    exact hE.locs.inj d d' C (by rw [i2]; rfl) (by rw [j2]; rfl) (by rw [hlc d i1]; exact h3) (by rw [hlc d' j1]; exact h4)
  · obtain ⟨cs, hcs⟩ := Option.isSome_iff_exists.1 hd
    obtain ⟨i1, i2⟩ := hin d cs hcs
    exact keptBy_of_apart hE (by rw [i2]; rfl) (by rw [hlc d i1]; exact hC)

end

end Go.Ev

/- The evaluator is sound: one round, from its code (own work). -/
namespace Go.Ev
open Go.RowKit

section
variable {C : Cfg} {P : Program} {R : Run} {k : Nat}

theorem keys_mem {l : List (Nat × List V)} {d : Nat} (h : d ∈ keysOf l) : memN d (keysOf l) = true := memN_iff.2 h

/-- The frame, where the record of a loop (which has lent its variables) is written anew. -/
theorem erel_set {E : Rho} {S : St} {lc : LocM} {A : Env} {a : Act} {w w' : World} (hE : ERel E S lc A a w) {b B : Nat} (hb : E.ρ[b]? = some B) {r' : LoopR} (hloc : r'.locs = [])
    (hk : ∀ k, k ≠ B → w'.heap[k]? = w.heap[k]?) (hsz : w'.heap.size = w.heap.size) : ERel E (putLoop S b r') lc A a w' := by
  rw [putLoop_eq]
  have hB : FP E S B := .inl (List.mem_of_getElem? hb)
  refine ⟨hE.nt, hE.tmps, hE.locs.mono (Mono.refl E) (fun k hk' => hk k fun e => (hE.apart k hk').1 (by rw [e]; exact hB)), fun C hC => ?_, fun d hd => ?_, hE.mdist⟩
  · obtain ⟨h1, h2, h3⟩ := hE.apart C hC
    exact ⟨fun hf => h1 (FP_set_loop hloc hf), h2, by rw [hsz]; exact h3⟩
  · obtain ⟨s, h1, h2, h3⟩ := hE.marks d hd
    exact ⟨s, h1, by rw [hk s (fun e => h3 (by rw [e]; exact hB))]; exact h2, fun hf => h3 (FP_set_loop hloc hf)⟩

/-- The step of a whole round, from its parts. -/
theorem round_step {E E1 E2 : Rho} {S S1 S2 : St} {lc1 lc2 : LocM} {A1 A2 : Env} {a1 a2 : Act} {w w1 w1' w2 w3 : World} {b B : Nat} {r r1 r3 : LoopR} {L2 : Loop} {nt : Nat} {ts : List (Nat × V)} (hb : E.ρ[b]? = some B)
    (hr : S.heap[b]? = some (.loop r))
    (hr1 : Res E (putLoop S b { r with st := .assigns, locs := [] }) (E.lm b) { nt := nt, tmps := ts, locs := r.locs, fix := keysOf r.locs } a1 w E1 S1 lc1 A1 w1)
    (h1 : r1.locs = []) (hk1 : ∀ k, k ≠ B → w1'.heap[k]? = w1.heap[k]?) (ho1 : w1'.os = w1.os) (ht1 : w1'.tape = w1.tape) (hu1 : w1'.output = w1.output) (hs1 : w1'.heap.size = w1.heap.size)
    (hr2 : Res E1 (putLoop S1 b r1) lc1 A1 a2 w1' E2 S2 lc2 A2 w2) {r2 : LoopR} (hg2 : S2.heap[b]? = some (.loop r2)) (hq : w2.heap[B]? = some (.loop L2))
    (h3 : r3.locs = keepLocs A2.locs (keysOf r.locs)) (hk3 : ∀ k, k ≠ B → w3.heap[k]? = w2.heap[k]?) (ho3 : w3.os = w2.os) (ht3 : w3.tape = w2.tape) (hu3 : w3.output = w2.output) (hs3 : w3.heap.size = w2.heap.size)
    (hH : HoldsLoop E2 w3 B (E2.lm b) r3) :
    SRel E2 (putLoop S2 b r3) w3 ∧ Step E E2 (FP E S) (FP E2 (putLoop S2 b r3)) w w3 := by
  have hblt : b < E.ρ.length := (List.getElem?_eq_some_iff.1 hb).1
  have hb1 := hr1.step.mono.rho_get hb
  have hb2 := hr2.step.mono.rho_get hb1
  have hlc : ∀ d ∈ keysOf r.locs, lc2 d = E2.lm b d := fun d hd => by
    have e1 : lc1 d = E.lm b d := hr1.fix.2 d (keys_mem hd)
    have e2 : lc2 d = lc1 d := hr2.fix.2 d (by rw [hr1.fix.1]; exact keys_mem hd)
    rw [e2, e1, hr2.step.lm b (Nat.lt_of_lt_of_le hblt hr1.step.mono.len), hr1.step.lm b hblt]
  have hBr1 : FL E1 S1 lc1 A1 B := .inl (.inl (List.mem_of_getElem? hb1))
  have hBr2 : FL E2 S2 lc2 A2 B := .inl (.inl (List.mem_of_getElem? hb2))
  have s1 : Step E E1 (FP E S) (FL E1 S1 lc1 A1) w w1 := hr1.step.wider fun k hk => by
    rcases hk with hk | ⟨d, hd, hB⟩
    · rw [putLoop_eq] at hk; exact FP_set_loop rfl hk
    · exact .inr (.inr ⟨b, r, d, hr, hd, hB⟩)
  have s2 : Step E1 E1 (FL E1 S1 lc1 A1) (FL E1 (putLoop S1 b r1) lc1 A1) w1 w1' :=
    ⟨ho1, ht1, hu1, by rw [hs1]; exact Nat.le_refl _, fun k _ hn => hk1 k fun e => hn (by rw [e]; exact hBr1), fun k hk => .inl (by
      rcases hk with hk | hk
      · rw [putLoop_eq] at hk; exact .inl (FP_set_loop h1 hk)
      · exact .inr hk), fun _ _ _ h => h, fun _ _ _ h => .inl h, ⟨[], by simp⟩, TExt.refl E1, fun _ _ => rfl⟩
  have s3 : Step E2 E2 (FL E2 S2 lc2 A2) (FP E2 (putLoop S2 b r3)) w2 w3 :=
    ⟨ho3, ht3, hu3, by rw [hs3]; exact Nat.le_refl _, fun k _ hn => hk3 k fun e => hn (by rw [e]; exact hBr2), fun k hk => .inl (by
      rw [putLoop_eq] at hk
      rcases hk with hk | hk | ⟨b', q, d, i1, i2, i3⟩
      · exact .inl (.inl hk)
      · exact .inl (.inr (.inl hk))
      · have i1' : (S2.heap.set b (.loop r3))[b']? = some (.loop q) := i1
        by_cases hbb : b' = b
        · subst hbb
          rw [List.getElem?_set_self (List.getElem?_eq_some_iff.1 hg2).1] at i1'
          cases i1'
          obtain ⟨cs, hcs⟩ := Option.isSome_iff_exists.1 i2
          obtain ⟨j1, j2⟩ := look_keepLocs (by rw [← h3]; exact hcs)
          exact .inr ⟨d, by rw [j2]; rfl, by rw [hlc d j1]; exact i3⟩
        · rw [List.getElem?_set_ne (Ne.symm hbb)] at i1'
          exact .inl (.inr (.inr ⟨b', q, d, i1', i2, i3⟩))), fun _ _ _ h => h, fun _ _ _ h => .inl h, ⟨[], by simp⟩, TExt.refl E2, fun _ _ => rfl⟩
  exact ⟨round_leave hr2.srel hr2.erel hb2 hg2 hlc h3 hk3 hq hH, ((s1.trans s2).trans hr2.step).trans s3⟩

/-- ONE ROUND. -/
theorem round_sound (hC : CfgOk C P) (hcode : ∀ ro fid c, codeOk (C.fc fid) c = true → (ro = none ∨ noRange c = true) → CodeSound P ro c (fun A S => evalCode C R k fid (C.fc fid) c A S))
    {b : Nat} {args : List V} {S S' : St} {v : V} (h : round C R k b args S = some (v, S')) : v.lvl.isSome = true ∧
    ∀ E w X B, SRel E S w → ValsRel E noLoc args X → (valsLvl args).isSome = true → E.ρ[b]? = some B → Yields P B ⟨X⟩ w (CallPost E S w v S') := by
  unfold round at h
  split at h
  · rename_i r hr
    rw [nth_eq] at hr
    split at h
    · rename_i hcond
      obtain ⟨hst, hpend, hpar⟩ := hcond
      split at h
      · rename_i ts hts
        unfold roundBody at h
        split at h
        · rename_i A1 S1 hev1
          split at h
          · rename_i r1 hl1
            unfold roundEnd at h
            split at h
            · rename_i e A2 S2 hev2
              split at h
              · rename_i r2 hl2
                obtain ⟨g1, g2, g3⟩ := lentLoop_some hl1
                obtain ⟨f1, f2, f3⟩ := lentLoop_some hl2
                have hv : v.lvl.isSome = true := by cases e <;> (cases h; rfl)
                refine ⟨hv, fun E w X B hS hX hlX hb => ?_⟩
                obtain ⟨⟨L, q1, q2, q3, q4, q5, q6⟩, hL⟩ := hS.blk _ _ _ hb hr
                obtain ⟨⟨o1, o2⟩, p1, p2, p3, p4, p5⟩ := q3 (by rw [hst]; intro h; cases h)
                have hlen : X.length = L.params.size := by
                  rw [hX.length, setAll_length hts, ← p1, Array.length_toList]
                obtain ⟨n0, hn0⟩ := isSome_within hlX
                obtain ⟨hT, hTs⟩ := setAll_rel hts p5 (hX.reloc_vals hn0) (fun t ht => by
                  have := allB_mem hpar t ht
                  rw [Nat.blt_eq] at this
                  omega)
                obtain ⟨hS0, hE0⟩ := round_enter hS hb hr hst hT (by rw [hTs]; exact p4)
                refine ⟨_, _, _, _, run_yield q1 hlen, fun n => roundIn_of_wpIn trivial ?_⟩
                rw [p1, p2, p3]
                obtain ⟨c1, c2⟩ := (hC.okc _ _).1 o1
                obtain ⟨c3, c4⟩ := (hC.okc _ _).1 o2
                refine hcode (some B) r.fid r.assign c1 (.inr c2) n hS0 hE0 hev1 (fun E1 lc1 a1 w1 _ hr1 => ?_)
                have hb1 := hr1.step.mono.rho_get hb
                obtain ⟨⟨L1, x1, x2, x3, x4, x5, x6⟩, _⟩ := hr1.srel.blk _ _ _ hb1 g1
                rw [g2] at x2
                have hk1 : ∀ k, k ≠ B → ({ w1 with heap := w1.heap.setIfInBounds B (.loop { L1 with state := .busy }) } : World).heap[k]? = w1.heap[k]? := fun k hk => Array.getElem?_setIfInBounds_ne (Ne.symm hk)
                have hlt1 : B < w1.heap.size := (Array.getElem?_eq_some_iff.1 x1).1
                refine ⟨_, run_beginRound x1 x2, ?_⟩
                have hS1 : SRel E1 (putLoop S1 b { r1 with st := .busy }) { w1 with heap := w1.heap.setIfInBounds B (.loop { L1 with state := .busy }) } := by
                  rw [putLoop_eq]
                  exact set_loop hr1.srel hb1 g1 hk1 ⟨{ L1 with state := .busy }, (by simp [hlt1]), rfl, fun _ => x3 (by rw [g2]; intro h; cases h), fun _ => x4 (.inr (.inl g2)), fun h => (by cases h), fun h => (by cases h)⟩
                    ⟨(fun d cs hd => by rw [show ({ r1 with st := RSt.busy } : LoopR).locs = r1.locs from rfl, g3] at hd; cases hd), (fun d d' B hd => by rw [show ({ r1 with st := RSt.busy } : LoopR).locs = r1.locs from rfl, g3] at hd; cases hd)⟩
                    (fun d B hd => by rw [show ({ r1 with st := RSt.busy } : LoopR).locs = r1.locs from rfl, g3] at hd; cases hd)
                have hE1 := erel_set (w' := { w1 with heap := w1.heap.setIfInBounds B (.loop { L1 with state := .busy }) }) (S := S1) hr1.erel hb1 (r' := { r1 with st := .busy }) g3 hk1 (Array.size_setIfInBounds)
                refine hcode (some B) r.fid r.body c3 (.inr c4) n hS1 hE1 hev2 (fun E2 lc2 a2 w2 _ hr2 => ?_)
                have hb2 := hr2.step.mono.rho_get hb1
                obtain ⟨⟨L2, y1, y2, y3, y4, y5, y6⟩, _⟩ := hr2.srel.blk _ _ _ hb2 f1
                have hlt2 : B < w2.heap.size := (Array.getElem?_eq_some_iff.1 y1).1
                have y3' := y3 (by rw [f2]; intro h; cases h)
                have hfin : ∀ (j : Option Code) (r3 : LoopR), r3.locs = keepLocs A2.locs (keysOf r.locs) →
                    HoldsLoop E2 { w2 with heap := w2.heap.setIfInBounds B (.loop { L2 with state := if j.isNone then .ready else .done, pending := j }) } B (E2.lm b) r3 →
                    ∃ v' w', (Instr.endRound B j).run P w2 = .ok v' w' ∧ CallPost E S w (.bool j.isNone) (putLoop S2 b r3) (.returned v') w' := fun j r3 h3 hH => by
                  obtain ⟨t1, t2⟩ := round_step hb hr hr1 (r1 := { r1 with st := .busy }) g3 hk1 rfl rfl rfl (Array.size_setIfInBounds) hr2 f1 y1 h3
                    (w3 := { w2 with heap := w2.heap.setIfInBounds B (.loop { L2 with state := if j.isNone then .ready else .done, pending := j }) })
                    (fun k hk => Array.getElem?_setIfInBounds_ne (Ne.symm hk)) rfl rfl rfl (Array.size_setIfInBounds) hH
                  exact ⟨_, _, run_endRound y1 j, _, E2, rfl, t1, t2, rfl⟩
                cases e with
                | normal =>
                  cases h
                  exact hfin none { r2 with st := .ready, locs := keepLocs A2.locs (keysOf r.locs) } rfl
                    ⟨{ L2 with state := .ready, pending := none }, by simp [hlt2], rfl, fun _ => y3', fun _ => y4 (.inr (.inr f2)), fun _ => rfl, fun h => by cases h⟩
                | ret =>
                  cases h
                  exact hfin (some .ret) { r2 with st := .done, locs := keepLocs A2.locs (keysOf r.locs), pend := some .ret } rfl
                    ⟨{ L2 with state := .done, pending := some .ret }, by simp [hlt2], rfl, fun _ => y3', fun h => (by rcases h with h | h | h <;> cases h), fun h => (by cases h), fun _ => ⟨.ret, rfl, rfl, by intro h; cases h⟩⟩
                | exit id =>
                  cases h
                  exact hfin (some (.exit id)) { r2 with st := .done, locs := keepLocs A2.locs (keysOf r.locs), pend := some (.exit id) } rfl
                    ⟨{ L2 with state := .done, pending := some (.exit id) }, by simp [hlt2], rfl, fun _ => y3', fun h => (by rcases h with h | h | h <;> cases h), fun h => (by cases h), fun _ => ⟨.exit id, rfl, rfl, by intro h; cases h⟩⟩
              · cases h
            · cases h
          · cases h
        · cases h
      · cases h
    · cases h
  · cases h

end

end Go.Ev

/- The evaluator is sound: with any fuel, for any function and any round (own work). -/
namespace Go.Ev
open Go.RowKit

section
variable {C : Cfg} {P : Program} {R : Run} {k : Nat}

theorem code_all (hC : CfgOk C P) (hR : RunOk C P R) (ro : Option Nat) (fid : Nat) (c : Code) (hok : codeOk (C.fc fid) c = true) (hro : ro = none ∨ noRange c = true) :
    CodeSound P ro c (fun A S => evalCode C R k fid (C.fc fid) c A S) :=
  code_sound hC hR (fun g ps x y hn hok' => by subst hn; exact range_sound hC hR hok') c hok hro

theorem frame_fn (hC : CfgOk C P) {id : Nat} {args : List V} {S : St} {r : V × St} (h : frame C R k id args S = some r) :
    ∃ fn c, P.funcs[id]? = some fn ∧ (fn.name == "runtime.NumGoroutine") = false ∧ fn.body = some c := by
  unfold frame at h
  split at h
  · rename_i fn hfn
    split at h
    · rename_i c hc
      obtain ⟨h1, h2⟩ := hC.fn id fn hfn
      exact ⟨fn, c, h1, h2, hc⟩
    · cases h
  · cases h

theorem step_f (id : Nat) (args : List V) (S : St) : step C R k (.f id) args S =
    bif (C.fc id).pure && allB V.pure args then
      match frame C R k id (mapN V.strip args) St.empty with
      | some (v, S') => match frz { nt := 0, tmps := [], locs := [], fix := [] } S' .any v with
        | some v => if isZero v.lvl then some (v.stripAll, S) else none
        | none => none
      | none => none
    else frame C R k id args S := rfl

theorem step_ok (hC : CfgOk C P) (hR : RunOk C P R) : RunOk C P (step C R k) where
  fn id args S r h := by
    rw [step_f] at h
    cases hq : ((C.fc id).pure && allB V.pure args) with
    | true =>
      rw [hq] at h
      simp only [cond_true] at h
      split at h
      · rename_i v S' hf
        exact frame_fn hC hf
      · cases h
    | false =>
      rw [hq] at h
      exact frame_fn hC h
  pure id args S v S' hp ha h := by
    rw [step_f, hp, ha] at h
    simp only [Bool.and_self, cond_true] at h
    split at h
    · rename_i v0 S0 hf
      split at h
      · rename_i v1 hz
        split at h
        · rename_i hz0
          cases h
          exact ⟨rfl, pure_sound hC (fun fid c hok => code_all hC hR none fid c hok (.inl rfl)) hf hz hz0⟩
        · cases h
      · cases h
    · cases h
  call id args S v S' hq h := by
    rw [step_f, hq] at h
    obtain ⟨h1, h2⟩ := frame_sound hC (fun fid c hok => code_all hC hR none fid c hok (.inl rfl)) (show frame C R k id args S = some (v, S') from h)
    exact ⟨h1, fun E w X hS hX _ => h2 E w X hS hX⟩
  yield b args S v S' h := round_sound hC (fun ro fid c hok hro => code_all hC hR ro fid c hok hro) (show round C R k b args S = some (v, S') from h)

/-- THE EVALUATOR IS SOUND. -/
theorem run_ok (hC : CfgOk C P) : ∀ n, RunOk C P (run C n)
  | 0 => ⟨(fun _ _ _ _ h => by cases (show (none : Option (V × St)) = _ from h)), (fun _ _ _ _ _ _ _ h => by cases (show (none : Option (V × St)) = _ from h)),
      (fun _ _ _ _ _ _ h => by cases (show (none : Option (V × St)) = _ from h)), (fun _ _ _ _ _ h => by cases (show (none : Option (V × St)) = _ from h))⟩
  | n + 1 => step_ok (k := n) hC (run_ok hC n)

end

end Go.Ev

/- The tables fit the program: a check that the kernel runs (own work). -/
namespace Go.Ev
open Go.RowKit

noncomputable def eqPairs : List (Nat × Nat) → List (Nat × Nat) → Bool
  | [], [] => true
  | a :: l, b :: m => andB (Nat.beq a.1 b.1) (andB (Nat.beq a.2 b.2) (eqPairs l m))
  | _, _ => false

theorem eqPairs_eq : ∀ {l m : List (Nat × Nat)}, eqPairs l m = true → l = m
  | [], [], _ => rfl
  | [], _ :: _, h => by cases h
  | _ :: _, [], h => by cases h
  | (a, b) :: l, (c, d) :: m, h => by
    obtain ⟨h1, h2⟩ := andB_true.1 (show andB (Nat.beq a c) (andB (Nat.beq b d) (eqPairs l m)) = true from h)
    obtain ⟨h3, h4⟩ := andB_true.1 h2
    rw [Nat.eq_of_beq_eq_true h1, Nat.eq_of_beq_eq_true h3, eqPairs_eq h4]

noncomputable def kindB (P : Program) (T : Nat) (k : Kd) : Bool :=
  match k, P.underlying T with
  | .bool, some .bool => true
  | .int k, some (.int j) => decide (j = k)
  | .str, some .string => true
  | .ptr e, some (.pointer f) => Nat.beq f e
  | .slice e, some (.slice f) => Nat.beq f e
  | .arr n e, some (.array m f) => andB (Nat.beq m n) (Nat.beq f e)
  | .struct fs, some (.struct fields) => andB (eqPairs (fields.toList.map (fun f => (f.offset, f.type))) fs) (allB (fun f => (P.info? f.type).isSome) fields.toList)
  | .map k e, some (.map j f) => andB (Nat.beq j k) (Nat.beq f e)
  | .func, some (.func _ _ _) => true
  | .other, _ => true
  | _, _ => false

theorem kindB_ok {P : Program} {T : Nat} {k : Kd} (h : kindB P T k = true) : KindOk P T k := by
  unfold kindB at h
  split at h
  · assumption
  · rename_i hq; rw [of_decide_eq_true h] at hq; exact hq
  · assumption
  · rename_i hq; rw [Nat.eq_of_beq_eq_true h] at hq; exact hq
  · rename_i hq; rw [Nat.eq_of_beq_eq_true h] at hq; exact hq
  · rename_i hq
    obtain ⟨h1, h2⟩ := andB_true.1 h
    rw [Nat.eq_of_beq_eq_true h1, Nat.eq_of_beq_eq_true h2] at hq; exact hq
  · rename_i fs fields hq
    obtain ⟨h1, h2⟩ := andB_true.1 h
    exact ⟨fields, hq, eqPairs_eq h1, fun f hf => allB_mem h2 f hf⟩
  · rename_i hq
    obtain ⟨h1, h2⟩ := andB_true.1 h
    rw [Nat.eq_of_beq_eq_true h1, Nat.eq_of_beq_eq_true h2] at hq; exact hq
  · rename_i hq; exact ⟨_, _, _, hq⟩
  · trivial
  · cases h

noncomputable def infoB (P : Program) (T : Nat) (i : TI) : Bool :=
  match P.info? T with
  | some inf => andB (Nat.beq inf.size i.size) (andB (Nat.beq inf.bytes i.bytes) (match inf.zero with | some z => eqConsts i.zero z.cells.toList | none => false))
  | none => false

noncomputable def soleB (P : Program) (T : Nat) (i : TI) : Bool :=
  match P.underlying T with
  | some (.struct _) => false
  | some (.array _ _) => false
  | some _ => Nat.beq i.size 1
  | none => false

noncomputable def tiB (P : Program) (T : Nat) (i : TI) : Bool :=
  andB (infoB P T i) (andB (Nat.beq (lenN i.zero) i.size) (andB (kindB P T i.kind) (orB i.isAgg (soleB P T i))))

theorem tiB_ok {P : Program} {T : Nat} {i : TI} (h : tiB P T i = true) : TIOk P T i := by
  obtain ⟨h1, h2⟩ := andB_true.1 h
  obtain ⟨h3, h4⟩ := andB_true.1 h2
  obtain ⟨h5, h6⟩ := andB_true.1 h4
  refine ⟨?_, kindB_ok h5, ?_⟩
  · unfold infoB at h1
    split at h1
    · rename_i inf hinf
      obtain ⟨k1, k2⟩ := andB_true.1 h1
      obtain ⟨k3, k4⟩ := andB_true.1 k2
      split at k4
      · rename_i z hz
        exact ⟨inf, z, hinf, Nat.eq_of_beq_eq_true k1, Nat.eq_of_beq_eq_true k3, hz, k4, by rw [← lenN_eq]; exact Nat.eq_of_beq_eq_true h3⟩
      · cases k4
    · cases h1
  · rcases orB_true.1 h6 with h | h
    · exact .inl h
    · right
      unfold soleB at h
      split at h
      · cases h
      · cases h
      · rename_i d hs ha hd
        refine ⟨Nat.eq_of_beq_eq_true h, d, hd, ?_⟩
        cases d <;> first | trivial | exact absurd rfl (hs _) | exact absurd rfl (ha _ _)
      · cases h

/-- What is asked of a function's text. -/
noncomputable def bodyB (C : Cfg) (f : Nat) (fn : Func) : Bool := match fn.body with | some c => codeOk (C.fc f) c | none => true

def FnOk (C : Cfg) (P : Program) (f : Nat) (fn : Func) : Prop := P.funcs[f]? = some fn ∧ (fn.name == "runtime.NumGoroutine") = false ∧ bodyB C f fn = true

theorem body_of {C : Cfg} {f : Nat} {fn : Func} {c : Code} (h : bodyB C f fn = true) (hc : fn.body = some c) : codeOk (C.fc f) c = true := by
  unfold bodyB at h
  rw [hc] at h
  exact h

end Go.Ev

/- The check of a region that draws its order, by sets of numbers that are told as one number (own work). -/
namespace Go.Ev
open Go.RowKit

/-- What must come before an operation, as a set. -/
noncomputable def ancQ (l : List Nat) (o : Oper) : Nat :=
  List.rec (motive := fun _ => Nat) 0 (fun e _ ih => bif Region.binds .any e then Nat.lor (Nat.lor (Nat.pow 2 e.on) (match nth l e.on with | some m => m | none => 0)) ih else ih) o.after.toList

noncomputable def pairQ (F : FC) (ops : List Oper) (ac : Nat → Acc) (y : Oper) (ly : List Nat) (j : Nat) (anc : Nat) : List Oper → Nat → Bool
  | [], _ => true
  | x :: rest, i =>
    andB (match Nat.blt i j with
      | true => andB (orB (Nat.testBit anc i) (indep (looks ops x) ly x y (ac i) (ac j))) (unlike (isFresh F x) (isFresh F y))
      | false => true) (pairQ F ops ac y ly j anc rest (i + 1))

noncomputable def rowsQ (F : FC) (ops : List Oper) (ac : Nat → Acc) : List Oper → Nat → List Nat → Bool
  | [], _, _ => true
  | y :: rest, j, l =>
    andB (edgesB j y.after.toList) (andB (pairQ F ops ac y (looks ops y) j (ancQ l y) ops 0) (rowsQ F ops ac rest (j + 1) (appN l [ancQ l y])))

def SameSet (m : Nat) (l : List Nat) : Prop := ∀ i, Nat.testBit m i = memN i l

theorem memN_app (i : Nat) (a b : List Nat) : memN i (appN a b) = (memN i a || memN i b) := by
  rw [Bool.eq_iff_iff, memN_iff, appN_eq, List.mem_append, Bool.or_eq_true, memN_iff, memN_iff]

theorem memN_cons' (i a : Nat) (l : List Nat) : memN i (a :: l) = (decide (a = i) || memN i l) := by
  rw [Bool.eq_iff_iff, memN_iff, List.mem_cons, Bool.or_eq_true, memN_iff, decide_eq_true_eq]
  constructor
  · rintro (h | h)
    · exact .inl h.symm
    · exact .inr h
  · rintro (h | h)
    · exact .inl h.symm
    · exact .inr h

theorem memN_nil' (i : Nat) : memN i [] = false := by
  cases h : memN i [] with
  | false => rfl
  | true => rw [memN_iff] at h; cases h

noncomputable def ancF (l : List (List Nat)) (e : Edge) : List Nat := bif Region.binds .any e then e.on :: (match nth l e.on with | some m => m | none => []) else []
noncomputable def ancS (l : List Nat) (es : List Edge) : Nat := List.rec (motive := fun _ => Nat) 0 (fun e _ ih => bif Region.binds .any e then Nat.lor (Nat.lor (Nat.pow 2 e.on) (match nth l e.on with | some m => m | none => 0)) ih else ih) es

theorem ancS_is {l : List Nat} {l' : List (List Nat)} (h : ∀ j, (∃ m k, nth l j = some m ∧ nth l' j = some k ∧ SameSet m k) ∨ (nth l j = none ∧ nth l' j = none)) (i : Nat) : ∀ es : List Edge, Nat.testBit (ancS l es) i = memN i (flatN (ancF l') es)
  | [] => (Nat.zero_testBit i).trans (memN_nil' i).symm
  | e :: es => by
    have ih := ancS_is h i es
    show Nat.testBit (bif Region.binds .any e then Nat.lor (Nat.lor (Nat.pow 2 e.on) (match nth l e.on with | some m => m | none => 0)) (ancS l es) else ancS l es) i = memN i (appN (ancF l' e) (flatN (ancF l') es))
    rw [memN_app, ← ih]
    unfold ancF
    cases Region.binds .any e with
    | false => simp only [cond_false]; rw [memN_nil', Bool.false_or]
    | true =>
      simp only [cond_true]
      rw [memN_cons']
      show Nat.testBit ((2 ^ e.on ||| _) ||| _) i = _
      rw [Nat.testBit_or, Nat.testBit_or, Nat.testBit_two_pow]
      congr 2
      rcases h e.on with ⟨m, k, h1, h2, h3⟩ | ⟨h1, h2⟩
      · rw [h1, h2]; exact h3 i
      · rw [h1, h2]; simp only; rw [memN_nil']; exact Nat.zero_testBit i

theorem ancQ_is {l : List Nat} {l' : List (List Nat)} (h : ∀ j, (∃ m k, nth l j = some m ∧ nth l' j = some k ∧ SameSet m k) ∨ (nth l j = none ∧ nth l' j = none)) (o : Oper) : SameSet (ancQ l o) (ancOf l' o) :=
  fun i => ancS_is h i o.after.toList

theorem pairQ_is {F : FC} {ops : List Oper} {ac : Nat → Acc} {y : Oper} {ly : List Nat} {j m : Nat} {anc : List Nat} (h : SameSet m anc) : ∀ (l : List Oper) (i : Nat), pairQ F ops ac y ly j m l i = pairOk F ops ac y ly j anc l i
  | [], _ => rfl
  | x :: rest, i => by
    rw [pairQ, pairOk, pairQ_is h rest (i + 1), h i]
    cases Nat.blt i j <;> rfl

theorem rowsQ_is {F : FC} {ops : List Oper} {ac : Nat → Acc} : ∀ (r : List Oper) (j : Nat) (l : List Nat) (l' : List (List Nat)), l.length = l'.length → (∀ (i m : Nat) (k : List Nat), l[i]? = some m → l'[i]? = some k → SameSet m k) → rowsQ F ops ac r j l = rowsOk F ops ac r j l'
  | [], _, _, _, _, _ => rfl
  | y :: rest, j, l, l', hl, h => by
    have ha : SameSet (ancQ l y) (ancOf l' y) := ancQ_is (fun j => by
      rw [nth_eq, nth_eq]
      cases h1 : l[j]? with
      | none => right; rw [List.getElem?_eq_none_iff] at h1; exact ⟨rfl, List.getElem?_eq_none_iff.2 (by omega)⟩
      | some m =>
        have hj := (List.getElem?_eq_some_iff.1 h1).1
        left
        exact ⟨m, l'[j], rfl, List.getElem?_eq_getElem (by omega), h j m _ h1 (List.getElem?_eq_getElem (by omega))⟩) y
    rw [rowsQ, rowsOk, pairQ_is ha, appN_eq, appN_eq, rowsQ_is rest (j + 1) (l ++ [ancQ l y]) (l' ++ [ancOf l' y]) (by simp [hl]) (fun i m k hm hk => by
      by_cases hi : i < l.length
      · rw [List.getElem?_append_left hi] at hm
        rw [List.getElem?_append_left (by omega)] at hk
        exact h i m k hm hk
      · rw [List.getElem?_append_right (by omega)] at hm
        rw [List.getElem?_append_right (by omega)] at hk
        rw [← hl] at hk
        cases hq : i - l.length with
        | zero => rw [hq] at hm hk; cases hm; cases hk; exact ha
        | succ q => rw [hq] at hm; cases hm)]

noncomputable def drawQ (F : FC) (id : Nat) (ops : Array Oper) : Bool := match splitIn ops.toList with
  | none => rowsQ F ops.toList (F.acc id) ops.toList 0 []
  | some q => andB (rowsQ F ops.toList (F.acc id) (appN q.pre [q.b]) 0 []) (andB (edgesB (lenN q.pre + 1) q.p.after.toList) (andB (edgesB (lenN q.pre + 2) q.i.after.toList) (andB (edgesB (lenN q.pre + 3) q.e.after.toList) (andB (edgesB (lenN q.pre + 4) q.h.after.toList)
    (andB (hasAll q.p (lenN q.pre + 1)) (andB (hasEdge q.i (lenN q.pre + 1)) (andB (hasEdge q.e (lenN q.pre + 2)) (hasEdge q.h (lenN q.pre + 1)))))))))

theorem drawQ_is (F : FC) (id : Nat) (ops : Array Oper) : drawQ F id ops = drawOk F id ops := by
  have key : ∀ r, rowsQ F ops.toList (F.acc id) r 0 [] = rowsOk F ops.toList (F.acc id) r 0 [] := fun r => rowsQ_is r 0 [] [] rfl (fun i m k h _ => by cases h)
  unfold drawQ drawOk
  cases splitIn ops.toList with
  | none => exact key _
  | some q => simp only [inOk, key]

noncomputable def codeQ (F : FC) : Code → Bool
  | .region id ops draw => (match draw with | true => drawQ F id ops | false => true)
  | .seq a b => andB (codeQ F a) (codeQ F b)
  | .cond _ a b => andB (codeQ F a) (codeQ F b)
  | .block _ b => codeQ F b
  | .loop b => codeQ F b
  | .rangeFunc _ _ a b => andB (andB (codeQ F a) (noRange a)) (andB (codeQ F b) (noRange b))
  | _ => true

theorem codeQ_is (F : FC) (c : Code) : codeQ F c = codeOk F c := by
  induction c with
  | region id ops draw => cases draw with
    | true => exact drawQ_is F id ops
    | false => rfl
  | seq a b ha hb => show andB (codeQ F a) (codeQ F b) = andB (codeOk F a) (codeOk F b); rw [ha, hb]
  | cond c a b ha hb => show andB (codeQ F a) (codeQ F b) = andB (codeOk F a) (codeOk F b); rw [ha, hb]
  | block id b hb => exact hb
  | loop b hb => exact hb
  | rangeFunc f ps a b ha hb => show andB (andB (codeQ F a) (noRange a)) (andB (codeQ F b) (noRange b)) = andB (andB (codeOk F a) (noRange a)) (andB (codeOk F b) (noRange b)); rw [ha, hb]
  | _ => rfl

noncomputable def bodyQ (C : Cfg) (f : Nat) (fn : Func) : Bool := match fn.body with | some c => codeQ (C.fc f) c | none => true

theorem body_q {C : Cfg} {f : Nat} {fn : Func} (h : bodyQ C f fn = true) : bodyB C f fn = true := by
  unfold bodyQ at h
  unfold bodyB
  cases hc : fn.body with
  | none => rfl
  | some c => rw [hc] at h; exact (codeQ_is (C.fc f) c).symm.trans h

end Go.Ev
