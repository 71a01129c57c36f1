/-
  NARROWER THAN 'FOR EVERY INPUT', by the rows' own cells (each row's printed sentence says how): SubstTwice: loops · SubstNames: loops · ArenaCounts: loops · SubstLifts: loops · SubstLaws: loops · ArenaSame: loops · ArenaPlays: loops · ArenaNil: loops · SubstInsts: loops · SubstLevels: loops.
  DERIVED. THE GIVEN ROWS OF THIS SEAT. 14 by the template 'for every input the law returns true; each argument reads behind the call as it read before'; 0 by the template 'total and deterministic' (their statements: YtidebmakgffjnaaTotals.lean).
  GIVEN WITH THE SEED: the statements are not yours to turn. If you find one false, say at which input.
  Laid BY PROGRAM, IN A SANDBOX (cutbox-rows.mjs): the forced cells as the released guide's own fill.sh prints them over the translation 8980b66864713b99… (all of the seat's roots in one cut). By AI agents, Wed Nov 11 2026. No macro, syntax, notation, axiom, sorry.
-/
import Derived.Test.YtidebmakgffjnaaChecked
import GoSem.Claim
import GoSem.ClaimJoined
import GoSem.ClaimMapViews
import Derived.JoinedTies
import Derived.KernelRfl
namespace Go.Proofs.Ytidebmakgffjnaa
/- THE CELL 'sum', in the pinned program and in every row, IS THE sha256 OF THE DUMP (.gsa) THAT YtidebmakgffjnaaProg.lean LOADS. Nothing in Lean hashes anything: it is a label: what it is worth is what the hold of that sum in a sandbox is worth. -/
noncomputable def Try.pinned : Pinned := { name := "ytidebmakgffjnaa", sum := "8980b66864713b991c34ec528dbdd63847979cc533ba8629e48a51f2d19d07c2", checked := Try.checked }
namespace Rows
def none {H : Type} : Left H := { results := [], args := [] }

/-- 'battenlaw02.LevelPlays': WHATEVER THE INPUT: true; the input reads as it did. -/
def levelPlaysSpec : ChangeSpec := { name := "levelPlays", fn := fun _ => fun
  | [d1, d2, d3, d4, d5] => { results := [.lit (.bool true)], args := [d1, d2, d3, d4, d5] }
  | _ => none }
def levelPlaysRow : OpenClaim := { program := "ytidebmakgffjnaa", sum := "8980b66864713b991c34ec528dbdd63847979cc533ba8629e48a51f2d19d07c2", func := "batten/battenlaw02.LevelPlays", spec := "levelPlays", unfollowed := true, recurses := true, plainKeys := false, apart := false }
def LevelPlaysSaid : Prop := levelPlaysRow.holds Try.pinned (OpenSpec.ofChange levelPlaysSpec)

/-- ITS FALSE NEIGHBOUR: 'it returns false'. Refute it at one input. -/
def levelPlaysWrong : ChangeSpec := { name := "levelPlays", fn := fun _ => fun
  | [d1, d2, d3, d4, d5] => { results := [.lit (.bool false)], args := [d1, d2, d3, d4, d5] }
  | _ => none }
def LevelPlaysWrongFalsely : Prop := levelPlaysRow.holds Try.pinned (OpenSpec.ofChange levelPlaysWrong)

/-- 'battenlaw02.LevelMeans': WHATEVER THE INPUT: true; the input reads as it did. -/
def levelMeansSpec : ChangeSpec := { name := "levelMeans", fn := fun _ => fun
  | [d1, d2, d3, d4] => { results := [.lit (.bool true)], args := [d1, d2, d3, d4] }
  | _ => none }
def levelMeansRow : OpenClaim := { program := "ytidebmakgffjnaa", sum := "8980b66864713b991c34ec528dbdd63847979cc533ba8629e48a51f2d19d07c2", func := "batten/battenlaw02.LevelMeans", spec := "levelMeans", unfollowed := true, recurses := true, plainKeys := false, apart := false }
def LevelMeansSaid : Prop := levelMeansRow.holds Try.pinned (OpenSpec.ofChange levelMeansSpec)

/-- ITS FALSE NEIGHBOUR: 'it returns false'. Refute it at one input. -/
def levelMeansWrong : ChangeSpec := { name := "levelMeans", fn := fun _ => fun
  | [d1, d2, d3, d4] => { results := [.lit (.bool false)], args := [d1, d2, d3, d4] }
  | _ => none }
def LevelMeansWrongFalsely : Prop := levelMeansRow.holds Try.pinned (OpenSpec.ofChange levelMeansWrong)

/-- 'battenlaw02.LevelOrder': WHATEVER THE INPUT: true; the input reads as it did. -/
def levelOrderSpec : ChangeSpec := { name := "levelOrder", fn := fun _ => fun
  | [d1, d2, d3] => { results := [.lit (.bool true)], args := [d1, d2, d3] }
  | _ => none }
def levelOrderRow : OpenClaim := { program := "ytidebmakgffjnaa", sum := "8980b66864713b991c34ec528dbdd63847979cc533ba8629e48a51f2d19d07c2", func := "batten/battenlaw02.LevelOrder", spec := "levelOrder", unfollowed := true, recurses := true, plainKeys := false, apart := false }
def LevelOrderSaid : Prop := levelOrderRow.holds Try.pinned (OpenSpec.ofChange levelOrderSpec)

/-- ITS FALSE NEIGHBOUR: 'it returns false'. Refute it at one input. -/
def levelOrderWrong : ChangeSpec := { name := "levelOrder", fn := fun _ => fun
  | [d1, d2, d3] => { results := [.lit (.bool false)], args := [d1, d2, d3] }
  | _ => none }
def LevelOrderWrongFalsely : Prop := levelOrderRow.holds Try.pinned (OpenSpec.ofChange levelOrderWrong)

/-- 'battenlaw02.LevelInsts': WHATEVER THE INPUT: true; the input reads as it did. -/
def levelInstsSpec : ChangeSpec := { name := "levelInsts", fn := fun _ => fun
  | [d1, d2, d3] => { results := [.lit (.bool true)], args := [d1, d2, d3] }
  | _ => none }
def levelInstsRow : OpenClaim := { program := "ytidebmakgffjnaa", sum := "8980b66864713b991c34ec528dbdd63847979cc533ba8629e48a51f2d19d07c2", func := "batten/battenlaw02.LevelInsts", spec := "levelInsts", unfollowed := true, recurses := true, plainKeys := false, apart := false }
def LevelInstsSaid : Prop := levelInstsRow.holds Try.pinned (OpenSpec.ofChange levelInstsSpec)

/-- ITS FALSE NEIGHBOUR: 'it returns false'. Refute it at one input. -/
def levelInstsWrong : ChangeSpec := { name := "levelInsts", fn := fun _ => fun
  | [d1, d2, d3] => { results := [.lit (.bool false)], args := [d1, d2, d3] }
  | _ => none }
def LevelInstsWrongFalsely : Prop := levelInstsRow.holds Try.pinned (OpenSpec.ofChange levelInstsWrong)

/-- 'battenlaw04.SubstTwice': WHATEVER THE INPUT: true; the input reads as it did. -/
def substTwiceSpec : ChangeSpec := { name := "substTwice", fn := fun _ => fun
  | [d1, d2, d3] => { results := [.lit (.bool true)], args := [d1, d2, d3] }
  | _ => none }
def substTwiceRow : OpenClaim := { program := "ytidebmakgffjnaa", sum := "8980b66864713b991c34ec528dbdd63847979cc533ba8629e48a51f2d19d07c2", func := "batten/battenlaw04.SubstTwice", spec := "substTwice", unfollowed := true, recurses := true, loops := true, plainKeys := false, apart := false }
def SubstTwiceSaid : Prop := substTwiceRow.holds Try.pinned (OpenSpec.ofChange substTwiceSpec)

/-- ITS FALSE NEIGHBOUR: 'it returns false'. Refute it at one input. -/
def substTwiceWrong : ChangeSpec := { name := "substTwice", fn := fun _ => fun
  | [d1, d2, d3] => { results := [.lit (.bool false)], args := [d1, d2, d3] }
  | _ => none }
def SubstTwiceWrongFalsely : Prop := substTwiceRow.holds Try.pinned (OpenSpec.ofChange substTwiceWrong)

/-- 'battenlaw04.SubstNames': WHATEVER THE INPUT: true; the input reads as it did. -/
def substNamesSpec : ChangeSpec := { name := "substNames", fn := fun _ => fun
  | [d1, d2] => { results := [.lit (.bool true)], args := [d1, d2] }
  | _ => none }
def substNamesRow : OpenClaim := { program := "ytidebmakgffjnaa", sum := "8980b66864713b991c34ec528dbdd63847979cc533ba8629e48a51f2d19d07c2", func := "batten/battenlaw04.SubstNames", spec := "substNames", unfollowed := true, recurses := true, loops := true, plainKeys := false, apart := false }
def SubstNamesSaid : Prop := substNamesRow.holds Try.pinned (OpenSpec.ofChange substNamesSpec)

/-- ITS FALSE NEIGHBOUR: 'it returns false'. Refute it at one input. -/
def substNamesWrong : ChangeSpec := { name := "substNames", fn := fun _ => fun
  | [d1, d2] => { results := [.lit (.bool false)], args := [d1, d2] }
  | _ => none }
def SubstNamesWrongFalsely : Prop := substNamesRow.holds Try.pinned (OpenSpec.ofChange substNamesWrong)

/-- 'battenlaw05.ArenaCounts': WHATEVER THE INPUT: true; the input reads as it did. -/
def arenaCountsSpec : ChangeSpec := { name := "arenaCounts", fn := fun _ => fun
  | [d] => { results := [.lit (.bool true)], args := [d] }
  | _ => none }
def arenaCountsRow : OpenClaim := { program := "ytidebmakgffjnaa", sum := "8980b66864713b991c34ec528dbdd63847979cc533ba8629e48a51f2d19d07c2", func := "batten/battenlaw05.ArenaCounts", spec := "arenaCounts", unfollowed := true, recurses := true, loops := true, plainKeys := false, apart := false }
def ArenaCountsSaid : Prop := arenaCountsRow.holds Try.pinned (OpenSpec.ofChange arenaCountsSpec)

/-- ITS FALSE NEIGHBOUR: 'it returns false'. Refute it at one input. -/
def arenaCountsWrong : ChangeSpec := { name := "arenaCounts", fn := fun _ => fun
  | [d] => { results := [.lit (.bool false)], args := [d] }
  | _ => none }
def ArenaCountsWrongFalsely : Prop := arenaCountsRow.holds Try.pinned (OpenSpec.ofChange arenaCountsWrong)

/-- 'battenlaw04.SubstLifts': WHATEVER THE INPUT: true; the input reads as it did. -/
def substLiftsSpec : ChangeSpec := { name := "substLifts", fn := fun _ => fun
  | [d1, d2, d3, d4] => { results := [.lit (.bool true)], args := [d1, d2, d3, d4] }
  | _ => none }
def substLiftsRow : OpenClaim := { program := "ytidebmakgffjnaa", sum := "8980b66864713b991c34ec528dbdd63847979cc533ba8629e48a51f2d19d07c2", func := "batten/battenlaw04.SubstLifts", spec := "substLifts", unfollowed := true, recurses := true, loops := true, plainKeys := false, apart := false }
def SubstLiftsSaid : Prop := substLiftsRow.holds Try.pinned (OpenSpec.ofChange substLiftsSpec)

/-- ITS FALSE NEIGHBOUR: 'it returns false'. Refute it at one input. -/
def substLiftsWrong : ChangeSpec := { name := "substLifts", fn := fun _ => fun
  | [d1, d2, d3, d4] => { results := [.lit (.bool false)], args := [d1, d2, d3, d4] }
  | _ => none }
def SubstLiftsWrongFalsely : Prop := substLiftsRow.holds Try.pinned (OpenSpec.ofChange substLiftsWrong)

/-- 'battenlaw04.SubstLaws': WHATEVER THE INPUT: true; the input reads as it did. -/
def substLawsSpec : ChangeSpec := { name := "substLaws", fn := fun _ => fun
  | [d1, d2, d3, d4, d5] => { results := [.lit (.bool true)], args := [d1, d2, d3, d4, d5] }
  | _ => none }
def substLawsRow : OpenClaim := { program := "ytidebmakgffjnaa", sum := "8980b66864713b991c34ec528dbdd63847979cc533ba8629e48a51f2d19d07c2", func := "batten/battenlaw04.SubstLaws", spec := "substLaws", unfollowed := true, recurses := true, loops := true, plainKeys := false, apart := false }
def SubstLawsSaid : Prop := substLawsRow.holds Try.pinned (OpenSpec.ofChange substLawsSpec)

/-- ITS FALSE NEIGHBOUR: 'it returns false'. Refute it at one input. -/
def substLawsWrong : ChangeSpec := { name := "substLaws", fn := fun _ => fun
  | [d1, d2, d3, d4, d5] => { results := [.lit (.bool false)], args := [d1, d2, d3, d4, d5] }
  | _ => none }
def SubstLawsWrongFalsely : Prop := substLawsRow.holds Try.pinned (OpenSpec.ofChange substLawsWrong)

/-- 'battenlaw05.ArenaSame': WHATEVER THE INPUT: true; the input reads as it did. -/
def arenaSameSpec : ChangeSpec := { name := "arenaSame", fn := fun _ => fun
  | [d] => { results := [.lit (.bool true)], args := [d] }
  | _ => none }
def arenaSameRow : OpenClaim := { program := "ytidebmakgffjnaa", sum := "8980b66864713b991c34ec528dbdd63847979cc533ba8629e48a51f2d19d07c2", func := "batten/battenlaw05.ArenaSame", spec := "arenaSame", unfollowed := true, recurses := true, loops := true, plainKeys := false, apart := false }
def ArenaSameSaid : Prop := arenaSameRow.holds Try.pinned (OpenSpec.ofChange arenaSameSpec)

/-- ITS FALSE NEIGHBOUR: 'it returns false'. Refute it at one input. -/
def arenaSameWrong : ChangeSpec := { name := "arenaSame", fn := fun _ => fun
  | [d] => { results := [.lit (.bool false)], args := [d] }
  | _ => none }
def ArenaSameWrongFalsely : Prop := arenaSameRow.holds Try.pinned (OpenSpec.ofChange arenaSameWrong)

/-- 'battenlaw05.ArenaPlays': WHATEVER THE INPUT: true; the input reads as it did. -/
def arenaPlaysSpec : ChangeSpec := { name := "arenaPlays", fn := fun _ => fun
  | [d1, d2, d3] => { results := [.lit (.bool true)], args := [d1, d2, d3] }
  | _ => none }
def arenaPlaysRow : OpenClaim := { program := "ytidebmakgffjnaa", sum := "8980b66864713b991c34ec528dbdd63847979cc533ba8629e48a51f2d19d07c2", func := "batten/battenlaw05.ArenaPlays", spec := "arenaPlays", unfollowed := true, recurses := true, loops := true, plainKeys := false, apart := false }
def ArenaPlaysSaid : Prop := arenaPlaysRow.holds Try.pinned (OpenSpec.ofChange arenaPlaysSpec)

/-- ITS FALSE NEIGHBOUR: 'it returns false'. Refute it at one input. -/
def arenaPlaysWrong : ChangeSpec := { name := "arenaPlays", fn := fun _ => fun
  | [d1, d2, d3] => { results := [.lit (.bool false)], args := [d1, d2, d3] }
  | _ => none }
def ArenaPlaysWrongFalsely : Prop := arenaPlaysRow.holds Try.pinned (OpenSpec.ofChange arenaPlaysWrong)

/-- 'battenlaw05.ArenaNil': WHATEVER THE INPUT: true; the input reads as it did. -/
def arenaNilSpec : ChangeSpec := { name := "arenaNil", fn := fun _ => fun
  | [d1, d2] => { results := [.lit (.bool true)], args := [d1, d2] }
  | _ => none }
def arenaNilRow : OpenClaim := { program := "ytidebmakgffjnaa", sum := "8980b66864713b991c34ec528dbdd63847979cc533ba8629e48a51f2d19d07c2", func := "batten/battenlaw05.ArenaNil", spec := "arenaNil", unfollowed := true, recurses := true, loops := true, plainKeys := false, apart := false }
def ArenaNilSaid : Prop := arenaNilRow.holds Try.pinned (OpenSpec.ofChange arenaNilSpec)

/-- ITS FALSE NEIGHBOUR: 'it returns false'. Refute it at one input. -/
def arenaNilWrong : ChangeSpec := { name := "arenaNil", fn := fun _ => fun
  | [d1, d2] => { results := [.lit (.bool false)], args := [d1, d2] }
  | _ => none }
def ArenaNilWrongFalsely : Prop := arenaNilRow.holds Try.pinned (OpenSpec.ofChange arenaNilWrong)

/-- 'battenlaw04.SubstInsts': WHATEVER THE INPUT: true; the input reads as it did. -/
def substInstsSpec : ChangeSpec := { name := "substInsts", fn := fun _ => fun
  | [d1, d2, d3] => { results := [.lit (.bool true)], args := [d1, d2, d3] }
  | _ => none }
def substInstsRow : OpenClaim := { program := "ytidebmakgffjnaa", sum := "8980b66864713b991c34ec528dbdd63847979cc533ba8629e48a51f2d19d07c2", func := "batten/battenlaw04.SubstInsts", spec := "substInsts", unfollowed := true, recurses := true, loops := true, plainKeys := false, apart := false }
def SubstInstsSaid : Prop := substInstsRow.holds Try.pinned (OpenSpec.ofChange substInstsSpec)

/-- ITS FALSE NEIGHBOUR: 'it returns false'. Refute it at one input. -/
def substInstsWrong : ChangeSpec := { name := "substInsts", fn := fun _ => fun
  | [d1, d2, d3] => { results := [.lit (.bool false)], args := [d1, d2, d3] }
  | _ => none }
def SubstInstsWrongFalsely : Prop := substInstsRow.holds Try.pinned (OpenSpec.ofChange substInstsWrong)

/-- 'battenlaw04.SubstLevels': WHATEVER THE INPUT: true; the input reads as it did. -/
def substLevelsSpec : ChangeSpec := { name := "substLevels", fn := fun _ => fun
  | [d1, d2, d3] => { results := [.lit (.bool true)], args := [d1, d2, d3] }
  | _ => none }
def substLevelsRow : OpenClaim := { program := "ytidebmakgffjnaa", sum := "8980b66864713b991c34ec528dbdd63847979cc533ba8629e48a51f2d19d07c2", func := "batten/battenlaw04.SubstLevels", spec := "substLevels", unfollowed := true, recurses := true, loops := true, plainKeys := false, apart := false }
def SubstLevelsSaid : Prop := substLevelsRow.holds Try.pinned (OpenSpec.ofChange substLevelsSpec)

/-- ITS FALSE NEIGHBOUR: 'it returns false'. Refute it at one input. -/
def substLevelsWrong : ChangeSpec := { name := "substLevels", fn := fun _ => fun
  | [d1, d2, d3] => { results := [.lit (.bool false)], args := [d1, d2, d3] }
  | _ => none }
def SubstLevelsWrongFalsely : Prop := substLevelsRow.holds Try.pinned (OpenSpec.ofChange substLevelsWrong)

/- THE SECOND FORM. 'bulk': how many values and letters a reading holds, each counted each time it is reached (what is shared counts as often as it is met; a slice's spare places count too). A statement '..UptoSaid' is the law's where the arguments, and the package variables that the reading takes, are together of bulk at most 1048576: NARROWER than '..Said'. Prove '..Said' where nothing that the law and all that it calls make is longer than what came in: it says more and counts as full. Else prove '..UptoSaid'. A law counts once. -/
mutual
def uptoBulk {H : Type} : DataW H → Nat
  | .lit (.string bytes) => bytes.length + 1
  | .lit _ => 1
  | .nil => 1
  | .ptr d => uptoBulk d + 1
  | .slice elems spare => uptoBulkAll elems + uptoBulkAll spare + 1
  | .agg parts => uptoBulkAll parts + 1
  | .iface _ d => uptoBulk d + 1
  | .map entries => uptoBulkEntries entries + 1
  | .held _ => 1
def uptoBulkAll {H : Type} : List (DataW H) → Nat
  | [] => 0
  | d :: r => uptoBulk d + uptoBulkAll r
def uptoBulkEntries {H : Type} : List (Lit × DataW H) → Nat
  | [] => 0
  | x :: r => uptoBulkEntry x + uptoBulkEntries r
def uptoBulkEntry {H : Type} : Lit × DataW H → Nat
  | (.string bytes, d) => bytes.length + uptoBulk d + 1
  | (_, d) => uptoBulk d + 1
 end
def uptoSmall : (H : Type) → List (DataW H) → Bool := fun _ ds => decide (uptoBulkAll ds ≤ 1048576)
def OpenSpec.upto (s : _root_.Go.ChangeSpec) : _root_.Go.OpenSpec := { _root_.Go.OpenSpec.ofChange s with cond := some uptoSmall }

/-- 'battenlaw02.LevelPlays', WHERE WHAT IT READS IS OF BULK AT MOST 1048576: true; the input reads as it did. -/
def levelPlaysUptoRow : OpenClaim := { program := "ytidebmakgffjnaa", sum := "8980b66864713b991c34ec528dbdd63847979cc533ba8629e48a51f2d19d07c2", func := "batten/battenlaw02.LevelPlays", spec := "levelPlays", unfollowed := true, recurses := true, plainKeys := false, apart := false, narrowed := true }
def LevelPlaysUptoSaid : Prop := levelPlaysUptoRow.holds Try.pinned (OpenSpec.upto levelPlaysSpec)

/-- 'battenlaw02.LevelMeans', WHERE WHAT IT READS IS OF BULK AT MOST 1048576: true; the input reads as it did. -/
def levelMeansUptoRow : OpenClaim := { program := "ytidebmakgffjnaa", sum := "8980b66864713b991c34ec528dbdd63847979cc533ba8629e48a51f2d19d07c2", func := "batten/battenlaw02.LevelMeans", spec := "levelMeans", unfollowed := true, recurses := true, plainKeys := false, apart := false, narrowed := true }
def LevelMeansUptoSaid : Prop := levelMeansUptoRow.holds Try.pinned (OpenSpec.upto levelMeansSpec)

/-- 'battenlaw02.LevelOrder', WHERE WHAT IT READS IS OF BULK AT MOST 1048576: true; the input reads as it did. -/
def levelOrderUptoRow : OpenClaim := { program := "ytidebmakgffjnaa", sum := "8980b66864713b991c34ec528dbdd63847979cc533ba8629e48a51f2d19d07c2", func := "batten/battenlaw02.LevelOrder", spec := "levelOrder", unfollowed := true, recurses := true, plainKeys := false, apart := false, narrowed := true }
def LevelOrderUptoSaid : Prop := levelOrderUptoRow.holds Try.pinned (OpenSpec.upto levelOrderSpec)

/-- 'battenlaw02.LevelInsts', WHERE WHAT IT READS IS OF BULK AT MOST 1048576: true; the input reads as it did. -/
def levelInstsUptoRow : OpenClaim := { program := "ytidebmakgffjnaa", sum := "8980b66864713b991c34ec528dbdd63847979cc533ba8629e48a51f2d19d07c2", func := "batten/battenlaw02.LevelInsts", spec := "levelInsts", unfollowed := true, recurses := true, plainKeys := false, apart := false, narrowed := true }
def LevelInstsUptoSaid : Prop := levelInstsUptoRow.holds Try.pinned (OpenSpec.upto levelInstsSpec)

/-- 'battenlaw04.SubstTwice', WHERE WHAT IT READS IS OF BULK AT MOST 1048576: true; the input reads as it did. -/
def substTwiceUptoRow : OpenClaim := { program := "ytidebmakgffjnaa", sum := "8980b66864713b991c34ec528dbdd63847979cc533ba8629e48a51f2d19d07c2", func := "batten/battenlaw04.SubstTwice", spec := "substTwice", unfollowed := true, recurses := true, loops := true, plainKeys := false, apart := false, narrowed := true }
def SubstTwiceUptoSaid : Prop := substTwiceUptoRow.holds Try.pinned (OpenSpec.upto substTwiceSpec)

/-- 'battenlaw04.SubstNames', WHERE WHAT IT READS IS OF BULK AT MOST 1048576: true; the input reads as it did. -/
def substNamesUptoRow : OpenClaim := { program := "ytidebmakgffjnaa", sum := "8980b66864713b991c34ec528dbdd63847979cc533ba8629e48a51f2d19d07c2", func := "batten/battenlaw04.SubstNames", spec := "substNames", unfollowed := true, recurses := true, loops := true, plainKeys := false, apart := false, narrowed := true }
def SubstNamesUptoSaid : Prop := substNamesUptoRow.holds Try.pinned (OpenSpec.upto substNamesSpec)

/-- 'battenlaw05.ArenaCounts', WHERE WHAT IT READS IS OF BULK AT MOST 1048576: true; the input reads as it did. -/
def arenaCountsUptoRow : OpenClaim := { program := "ytidebmakgffjnaa", sum := "8980b66864713b991c34ec528dbdd63847979cc533ba8629e48a51f2d19d07c2", func := "batten/battenlaw05.ArenaCounts", spec := "arenaCounts", unfollowed := true, recurses := true, loops := true, plainKeys := false, apart := false, narrowed := true }
def ArenaCountsUptoSaid : Prop := arenaCountsUptoRow.holds Try.pinned (OpenSpec.upto arenaCountsSpec)

/-- 'battenlaw04.SubstLifts', WHERE WHAT IT READS IS OF BULK AT MOST 1048576: true; the input reads as it did. -/
def substLiftsUptoRow : OpenClaim := { program := "ytidebmakgffjnaa", sum := "8980b66864713b991c34ec528dbdd63847979cc533ba8629e48a51f2d19d07c2", func := "batten/battenlaw04.SubstLifts", spec := "substLifts", unfollowed := true, recurses := true, loops := true, plainKeys := false, apart := false, narrowed := true }
def SubstLiftsUptoSaid : Prop := substLiftsUptoRow.holds Try.pinned (OpenSpec.upto substLiftsSpec)

/-- 'battenlaw04.SubstLaws', WHERE WHAT IT READS IS OF BULK AT MOST 1048576: true; the input reads as it did. -/
def substLawsUptoRow : OpenClaim := { program := "ytidebmakgffjnaa", sum := "8980b66864713b991c34ec528dbdd63847979cc533ba8629e48a51f2d19d07c2", func := "batten/battenlaw04.SubstLaws", spec := "substLaws", unfollowed := true, recurses := true, loops := true, plainKeys := false, apart := false, narrowed := true }
def SubstLawsUptoSaid : Prop := substLawsUptoRow.holds Try.pinned (OpenSpec.upto substLawsSpec)

/-- 'battenlaw05.ArenaSame', WHERE WHAT IT READS IS OF BULK AT MOST 1048576: true; the input reads as it did. -/
def arenaSameUptoRow : OpenClaim := { program := "ytidebmakgffjnaa", sum := "8980b66864713b991c34ec528dbdd63847979cc533ba8629e48a51f2d19d07c2", func := "batten/battenlaw05.ArenaSame", spec := "arenaSame", unfollowed := true, recurses := true, loops := true, plainKeys := false, apart := false, narrowed := true }
def ArenaSameUptoSaid : Prop := arenaSameUptoRow.holds Try.pinned (OpenSpec.upto arenaSameSpec)

/-- 'battenlaw05.ArenaPlays', WHERE WHAT IT READS IS OF BULK AT MOST 1048576: true; the input reads as it did. -/
def arenaPlaysUptoRow : OpenClaim := { program := "ytidebmakgffjnaa", sum := "8980b66864713b991c34ec528dbdd63847979cc533ba8629e48a51f2d19d07c2", func := "batten/battenlaw05.ArenaPlays", spec := "arenaPlays", unfollowed := true, recurses := true, loops := true, plainKeys := false, apart := false, narrowed := true }
def ArenaPlaysUptoSaid : Prop := arenaPlaysUptoRow.holds Try.pinned (OpenSpec.upto arenaPlaysSpec)

/-- 'battenlaw05.ArenaNil', WHERE WHAT IT READS IS OF BULK AT MOST 1048576: true; the input reads as it did. -/
def arenaNilUptoRow : OpenClaim := { program := "ytidebmakgffjnaa", sum := "8980b66864713b991c34ec528dbdd63847979cc533ba8629e48a51f2d19d07c2", func := "batten/battenlaw05.ArenaNil", spec := "arenaNil", unfollowed := true, recurses := true, loops := true, plainKeys := false, apart := false, narrowed := true }
def ArenaNilUptoSaid : Prop := arenaNilUptoRow.holds Try.pinned (OpenSpec.upto arenaNilSpec)

/-- 'battenlaw04.SubstInsts', WHERE WHAT IT READS IS OF BULK AT MOST 1048576: true; the input reads as it did. -/
def substInstsUptoRow : OpenClaim := { program := "ytidebmakgffjnaa", sum := "8980b66864713b991c34ec528dbdd63847979cc533ba8629e48a51f2d19d07c2", func := "batten/battenlaw04.SubstInsts", spec := "substInsts", unfollowed := true, recurses := true, loops := true, plainKeys := false, apart := false, narrowed := true }
def SubstInstsUptoSaid : Prop := substInstsUptoRow.holds Try.pinned (OpenSpec.upto substInstsSpec)

/-- 'battenlaw04.SubstLevels', WHERE WHAT IT READS IS OF BULK AT MOST 1048576: true; the input reads as it did. -/
def substLevelsUptoRow : OpenClaim := { program := "ytidebmakgffjnaa", sum := "8980b66864713b991c34ec528dbdd63847979cc533ba8629e48a51f2d19d07c2", func := "batten/battenlaw04.SubstLevels", spec := "substLevels", unfollowed := true, recurses := true, loops := true, plainKeys := false, apart := false, narrowed := true }
def SubstLevelsUptoSaid : Prop := substLevelsUptoRow.holds Try.pinned (OpenSpec.upto substLevelsSpec)

end Rows
end Go.Proofs.Ytidebmakgffjnaa
