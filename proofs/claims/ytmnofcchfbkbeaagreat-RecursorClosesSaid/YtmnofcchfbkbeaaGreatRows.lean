/-
  NARROWER THAN 'FOR EVERY INPUT', by the rows' own cells (each row's printed sentence says how): RecursorPlays: loops · RecursorCloses: loops.
  DERIVED. THE GIVEN ROWS OF THIS SEAT. 2 by the template 'for every input the law returns true; each argument reads behind the call as it read before'; 0 by the template 'total and deterministic' (their statements: YtmnofcchfbkbeaaGreatTotals.lean).
  GIVEN WITH THE SEED: the statements are not yours to turn. If you find one false, say at which input.
  Laid BY PROGRAM, IN A SANDBOX (cutbox-rows.mjs): the forced cells as the released guide's own fill.sh prints them over the translation 130aa8d385edc147… (all of the seat's roots in one cut). By AI agents, Wed Nov 11 2026. No macro, syntax, notation, axiom, sorry.
-/
import Derived.Test.YtmnofcchfbkbeaaGreatChecked
import GoSem.Claim
import GoSem.ClaimJoined
import GoSem.ClaimMapViews
import Derived.JoinedTies
import Derived.KernelRfl
namespace Go.Proofs.YtmnofcchfbkbeaaGreat
/- THE CELL 'sum', in the pinned program and in every row, IS THE sha256 OF THE DUMP (.gsa) THAT YtmnofcchfbkbeaaGreatProg.lean LOADS. Nothing in Lean hashes anything: it is a label: what it is worth is what the hold of that sum in a sandbox is worth. -/
noncomputable def Tryz.pinned : Pinned := { name := "ytmnofcchfbkbeaagreat", sum := "130aa8d385edc147505e447de53ed35f5b0f0235fd06f48603b87f15b58bc7f5", checked := Tryz.checked }
namespace Rows
def none {H : Type} : Left H := { results := [], args := [] }

/-- 'battenlaw21.RecursorPlays': WHATEVER THE INPUT: true; the input reads as it did. -/
def recursorPlaysSpec : ChangeSpec := { name := "recursorPlays", fn := fun _ => fun
  | [d] => { results := [.lit (.bool true)], args := [d] }
  | _ => none }
def recursorPlaysRow : OpenClaim := { program := "ytmnofcchfbkbeaagreat", sum := "130aa8d385edc147505e447de53ed35f5b0f0235fd06f48603b87f15b58bc7f5", func := "batten/battenlaw21.RecursorPlays", spec := "recursorPlays", unfollowed := true, recurses := true, loops := true, apart := false }
def RecursorPlaysSaid : Prop := recursorPlaysRow.holds Tryz.pinned (OpenSpec.ofChange recursorPlaysSpec)

/-- ITS FALSE NEIGHBOUR: 'it returns false'. Refute it at one input. -/
def recursorPlaysWrong : ChangeSpec := { name := "recursorPlays", fn := fun _ => fun
  | [d] => { results := [.lit (.bool false)], args := [d] }
  | _ => none }
def RecursorPlaysWrongFalsely : Prop := recursorPlaysRow.holds Tryz.pinned (OpenSpec.ofChange recursorPlaysWrong)

/-- 'battenlaw21.RecursorCloses': WHATEVER THE INPUT: true; the input reads as it did. -/
def recursorClosesSpec : ChangeSpec := { name := "recursorCloses", fn := fun _ => fun
  | [d] => { results := [.lit (.bool true)], args := [d] }
  | _ => none }
def recursorClosesRow : OpenClaim := { program := "ytmnofcchfbkbeaagreat", sum := "130aa8d385edc147505e447de53ed35f5b0f0235fd06f48603b87f15b58bc7f5", func := "batten/battenlaw21.RecursorCloses", spec := "recursorCloses", unfollowed := true, recurses := true, loops := true, apart := false }
def RecursorClosesSaid : Prop := recursorClosesRow.holds Tryz.pinned (OpenSpec.ofChange recursorClosesSpec)

/-- ITS FALSE NEIGHBOUR: 'it returns false'. Refute it at one input. -/
def recursorClosesWrong : ChangeSpec := { name := "recursorCloses", fn := fun _ => fun
  | [d] => { results := [.lit (.bool false)], args := [d] }
  | _ => none }
def RecursorClosesWrongFalsely : Prop := recursorClosesRow.holds Tryz.pinned (OpenSpec.ofChange recursorClosesWrong)

/- THE SECOND FORM. 'bulk': how many values and letters a reading holds, each counted each time it is reached (what is shared counts as often as it is met; a slice's spare places count too). A statement '..UptoSaid' is the law's where the arguments, and the package variables that the reading takes, are together of bulk at most 1048576: NARROWER than '..Said'. Prove '..Said' where nothing that the law and all that it calls make is longer than what came in: it says more and counts as full. Else prove '..UptoSaid'. A law counts once. -/
mutual
def uptoBulk {H : Type} : DataW H → Nat
  | .lit (.string bytes) => bytes.length + 1
  | .lit _ => 1
  | .nil => 1
  | .ptr d => uptoBulk d + 1
  | .slice elems spare => uptoBulkAll elems + uptoBulkAll spare + 1
  | .agg parts => uptoBulkAll parts + 1
  | .iface _ d => uptoBulk d + 1
  | .map entries => uptoBulkEntries entries + 1
  | .held _ => 1
def uptoBulkAll {H : Type} : List (DataW H) → Nat
  | [] => 0
  | d :: r => uptoBulk d + uptoBulkAll r
def uptoBulkEntries {H : Type} : List (Lit × DataW H) → Nat
  | [] => 0
  | x :: r => uptoBulkEntry x + uptoBulkEntries r
def uptoBulkEntry {H : Type} : Lit × DataW H → Nat
  | (.string bytes, d) => bytes.length + uptoBulk d + 1
  | (_, d) => uptoBulk d + 1
 end
def uptoSmall : (H : Type) → List (DataW H) → Bool := fun _ ds => decide (uptoBulkAll ds ≤ 1048576)
def OpenSpec.upto (s : _root_.Go.ChangeSpec) : _root_.Go.OpenSpec := { _root_.Go.OpenSpec.ofChange s with cond := some uptoSmall }

/-- 'battenlaw21.RecursorPlays', WHERE WHAT IT READS IS OF BULK AT MOST 1048576: true; the input reads as it did. -/
def recursorPlaysUptoRow : OpenClaim := { program := "ytmnofcchfbkbeaagreat", sum := "130aa8d385edc147505e447de53ed35f5b0f0235fd06f48603b87f15b58bc7f5", func := "batten/battenlaw21.RecursorPlays", spec := "recursorPlays", unfollowed := true, recurses := true, loops := true, apart := false, narrowed := true }
def RecursorPlaysUptoSaid : Prop := recursorPlaysUptoRow.holds Tryz.pinned (OpenSpec.upto recursorPlaysSpec)

/-- 'battenlaw21.RecursorCloses', WHERE WHAT IT READS IS OF BULK AT MOST 1048576: true; the input reads as it did. -/
def recursorClosesUptoRow : OpenClaim := { program := "ytmnofcchfbkbeaagreat", sum := "130aa8d385edc147505e447de53ed35f5b0f0235fd06f48603b87f15b58bc7f5", func := "batten/battenlaw21.RecursorCloses", spec := "recursorCloses", unfollowed := true, recurses := true, loops := true, apart := false, narrowed := true }
def RecursorClosesUptoSaid : Prop := recursorClosesUptoRow.holds Tryz.pinned (OpenSpec.upto recursorClosesSpec)

end Rows
end Go.Proofs.YtmnofcchfbkbeaaGreat
