/-
  No cell of these rows narrows 'for every input' (looked for: loops, veiled, ifaces, maps, wideKeys, modest, calm, conditions, laid).
  DERIVED. THE GIVEN ROWS OF THIS SEAT. 12 by the template 'for every input the law returns true; each argument reads behind the call as it read before'; 0 by the template 'total and deterministic' (their statements: YtghommaokdhjmaaTotals.lean).
  GIVEN WITH THE SEED: the statements are not yours to turn. If you find one false, say at which input.
  Laid BY PROGRAM, IN A SANDBOX (cutbox-rows.mjs): the forced cells as the released guide's own fill.sh prints them over the translation 710cf778bd2f9f72… (all of the seat's roots in one cut). By AI agents, Wed Nov 11 2026. No macro, syntax, notation, axiom, sorry.
-/
import Derived.Test.YtghommaokdhjmaaChecked
import GoSem.Claim
import GoSem.ClaimJoined
import GoSem.ClaimMapViews
import Derived.JoinedTies
import Derived.KernelRfl
namespace Go.Proofs.Ytghommaokdhjmaa
/- THE CELL 'sum', in the pinned program and in every row, IS THE sha256 OF THE DUMP (.gsa) THAT YtghommaokdhjmaaProg.lean LOADS. Nothing in Lean hashes anything: it is a label: what it is worth is what the hold of that sum in a sandbox is worth. -/
noncomputable def Try.pinned : Pinned := { name := "ytghommaokdhjmaa", sum := "710cf778bd2f9f72ae6b840fa41e6a7ccc9cf16253c464e4da9619e513773a43", checked := Try.checked }
namespace Rows
def none {H : Type} : Left H := { results := [], args := [] }

/-- 'constablelaw05.SubstExact': WHATEVER THE INPUT: true; the input reads as it did. -/
def substExactSpec : ChangeSpec := { name := "substExact", fn := fun _ => fun
  | [d1, d2, d3, d4] => { results := [.lit (.bool true)], args := [d1, d2, d3, d4] }
  | _ => none }
def substExactRow : OpenClaim := { program := "ytghommaokdhjmaa", sum := "710cf778bd2f9f72ae6b840fa41e6a7ccc9cf16253c464e4da9619e513773a43", func := "constable/constablelaw05.SubstExact", spec := "substExact", inPlace := ["internal/bytealg.abigen_runtime_cmpstring"], unfollowed := true, recurses := true, apart := false }
def SubstExactSaid : Prop := substExactRow.holds Try.pinned (OpenSpec.ofChange substExactSpec)

/-- ITS FALSE NEIGHBOUR: 'it returns false'. Refute it at one input. -/
def substExactWrong : ChangeSpec := { name := "substExact", fn := fun _ => fun
  | [d1, d2, d3, d4] => { results := [.lit (.bool false)], args := [d1, d2, d3, d4] }
  | _ => none }
def SubstExactWrongFalsely : Prop := substExactRow.holds Try.pinned (OpenSpec.ofChange substExactWrong)

/-- 'constablelaw05.SubstBack': WHATEVER THE INPUT: true; the input reads as it did. -/
def substBackSpec : ChangeSpec := { name := "substBack", fn := fun _ => fun
  | [d1, d2, d3, d4, d5] => { results := [.lit (.bool true)], args := [d1, d2, d3, d4, d5] }
  | _ => none }
def substBackRow : OpenClaim := { program := "ytghommaokdhjmaa", sum := "710cf778bd2f9f72ae6b840fa41e6a7ccc9cf16253c464e4da9619e513773a43", func := "constable/constablelaw05.SubstBack", spec := "substBack", inPlace := ["internal/bytealg.abigen_runtime_cmpstring"], unfollowed := true, recurses := true, apart := false }
def SubstBackSaid : Prop := substBackRow.holds Try.pinned (OpenSpec.ofChange substBackSpec)

/-- ITS FALSE NEIGHBOUR: 'it returns false'. Refute it at one input. -/
def substBackWrong : ChangeSpec := { name := "substBack", fn := fun _ => fun
  | [d1, d2, d3, d4, d5] => { results := [.lit (.bool false)], args := [d1, d2, d3, d4, d5] }
  | _ => none }
def SubstBackWrongFalsely : Prop := substBackRow.holds Try.pinned (OpenSpec.ofChange substBackWrong)

/-- 'constablelaw05.SubstBoth': WHATEVER THE INPUT: true; the input reads as it did. -/
def substBothSpec : ChangeSpec := { name := "substBoth", fn := fun _ => fun
  | [d1, d2] => { results := [.lit (.bool true)], args := [d1, d2] }
  | _ => none }
def substBothRow : OpenClaim := { program := "ytghommaokdhjmaa", sum := "710cf778bd2f9f72ae6b840fa41e6a7ccc9cf16253c464e4da9619e513773a43", func := "constable/constablelaw05.SubstBoth", spec := "substBoth", inPlace := ["internal/bytealg.abigen_runtime_cmpstring"], unfollowed := true, recurses := true, apart := false }
def SubstBothSaid : Prop := substBothRow.holds Try.pinned (OpenSpec.ofChange substBothSpec)

/-- ITS FALSE NEIGHBOUR: 'it returns false'. Refute it at one input. -/
def substBothWrong : ChangeSpec := { name := "substBoth", fn := fun _ => fun
  | [d1, d2] => { results := [.lit (.bool false)], args := [d1, d2] }
  | _ => none }
def SubstBothWrongFalsely : Prop := substBothRow.holds Try.pinned (OpenSpec.ofChange substBothWrong)

/-- 'constablelaw05.SubstMany': WHATEVER THE INPUT: true; the input reads as it did. -/
def substManySpec : ChangeSpec := { name := "substMany", fn := fun _ => fun
  | [d] => { results := [.lit (.bool true)], args := [d] }
  | _ => none }
def substManyRow : OpenClaim := { program := "ytghommaokdhjmaa", sum := "710cf778bd2f9f72ae6b840fa41e6a7ccc9cf16253c464e4da9619e513773a43", func := "constable/constablelaw05.SubstMany", spec := "substMany", inPlace := ["internal/bytealg.abigen_runtime_cmpstring"], unfollowed := true, recurses := true, apart := false }
def SubstManySaid : Prop := substManyRow.holds Try.pinned (OpenSpec.ofChange substManySpec)

/-- ITS FALSE NEIGHBOUR: 'it returns false'. Refute it at one input. -/
def substManyWrong : ChangeSpec := { name := "substMany", fn := fun _ => fun
  | [d] => { results := [.lit (.bool false)], args := [d] }
  | _ => none }
def SubstManyWrongFalsely : Prop := substManyRow.holds Try.pinned (OpenSpec.ofChange substManyWrong)

/-- 'constablelaw04.SetsSame': WHATEVER THE INPUT: true; the input reads as it did. -/
def setsSameSpec : ChangeSpec := { name := "setsSame", fn := fun _ => fun
  | [d1, d2] => { results := [.lit (.bool true)], args := [d1, d2] }
  | _ => none }
def setsSameRow : OpenClaim := { program := "ytghommaokdhjmaa", sum := "710cf778bd2f9f72ae6b840fa41e6a7ccc9cf16253c464e4da9619e513773a43", func := "constable/constablelaw04.SetsSame", spec := "setsSame", inPlace := ["internal/bytealg.abigen_runtime_cmpstring"], unfollowed := true, recurses := true, apart := false }
def SetsSameSaid : Prop := setsSameRow.holds Try.pinned (OpenSpec.ofChange setsSameSpec)

/-- ITS FALSE NEIGHBOUR: 'it returns false'. Refute it at one input. -/
def setsSameWrong : ChangeSpec := { name := "setsSame", fn := fun _ => fun
  | [d1, d2] => { results := [.lit (.bool false)], args := [d1, d2] }
  | _ => none }
def SetsSameWrongFalsely : Prop := setsSameRow.holds Try.pinned (OpenSpec.ofChange setsSameWrong)

/-- 'constablelaw04.SetsDrop': WHATEVER THE INPUT: true; the input reads as it did. -/
def setsDropSpec : ChangeSpec := { name := "setsDrop", fn := fun _ => fun
  | [d1, d2, d3] => { results := [.lit (.bool true)], args := [d1, d2, d3] }
  | _ => none }
def setsDropRow : OpenClaim := { program := "ytghommaokdhjmaa", sum := "710cf778bd2f9f72ae6b840fa41e6a7ccc9cf16253c464e4da9619e513773a43", func := "constable/constablelaw04.SetsDrop", spec := "setsDrop", inPlace := ["internal/bytealg.abigen_runtime_cmpstring"], unfollowed := true, recurses := true, apart := false }
def SetsDropSaid : Prop := setsDropRow.holds Try.pinned (OpenSpec.ofChange setsDropSpec)

/-- ITS FALSE NEIGHBOUR: 'it returns false'. Refute it at one input. -/
def setsDropWrong : ChangeSpec := { name := "setsDrop", fn := fun _ => fun
  | [d1, d2, d3] => { results := [.lit (.bool false)], args := [d1, d2, d3] }
  | _ => none }
def SetsDropWrongFalsely : Prop := setsDropRow.holds Try.pinned (OpenSpec.ofChange setsDropWrong)

/-- 'constablelaw04.SetsExact': WHATEVER THE INPUT: true; the input reads as it did. -/
def setsExactSpec : ChangeSpec := { name := "setsExact", fn := fun _ => fun
  | [d1, d2, d3] => { results := [.lit (.bool true)], args := [d1, d2, d3] }
  | _ => none }
def setsExactRow : OpenClaim := { program := "ytghommaokdhjmaa", sum := "710cf778bd2f9f72ae6b840fa41e6a7ccc9cf16253c464e4da9619e513773a43", func := "constable/constablelaw04.SetsExact", spec := "setsExact", inPlace := ["internal/bytealg.abigen_runtime_cmpstring"], unfollowed := true, recurses := true, apart := false }
def SetsExactSaid : Prop := setsExactRow.holds Try.pinned (OpenSpec.ofChange setsExactSpec)

/-- ITS FALSE NEIGHBOUR: 'it returns false'. Refute it at one input. -/
def setsExactWrong : ChangeSpec := { name := "setsExact", fn := fun _ => fun
  | [d1, d2, d3] => { results := [.lit (.bool false)], args := [d1, d2, d3] }
  | _ => none }
def SetsExactWrongFalsely : Prop := setsExactRow.holds Try.pinned (OpenSpec.ofChange setsExactWrong)

/-- 'constablelaw04.SetsBoth': WHATEVER THE INPUT: true; the input reads as it did. -/
def setsBothSpec : ChangeSpec := { name := "setsBoth", fn := fun _ => fun
  | [d1, d2, d3] => { results := [.lit (.bool true)], args := [d1, d2, d3] }
  | _ => none }
def setsBothRow : OpenClaim := { program := "ytghommaokdhjmaa", sum := "710cf778bd2f9f72ae6b840fa41e6a7ccc9cf16253c464e4da9619e513773a43", func := "constable/constablelaw04.SetsBoth", spec := "setsBoth", inPlace := ["internal/bytealg.abigen_runtime_cmpstring"], unfollowed := true, recurses := true, apart := false }
def SetsBothSaid : Prop := setsBothRow.holds Try.pinned (OpenSpec.ofChange setsBothSpec)

/-- ITS FALSE NEIGHBOUR: 'it returns false'. Refute it at one input. -/
def setsBothWrong : ChangeSpec := { name := "setsBoth", fn := fun _ => fun
  | [d1, d2, d3] => { results := [.lit (.bool false)], args := [d1, d2, d3] }
  | _ => none }
def SetsBothWrongFalsely : Prop := setsBothRow.holds Try.pinned (OpenSpec.ofChange setsBothWrong)

/-- 'constablelaw04.SetsRise': WHATEVER THE INPUT: true; the input reads as it did. -/
def setsRiseSpec : ChangeSpec := { name := "setsRise", fn := fun _ => fun
  | [d] => { results := [.lit (.bool true)], args := [d] }
  | _ => none }
def setsRiseRow : OpenClaim := { program := "ytghommaokdhjmaa", sum := "710cf778bd2f9f72ae6b840fa41e6a7ccc9cf16253c464e4da9619e513773a43", func := "constable/constablelaw04.SetsRise", spec := "setsRise", inPlace := ["internal/bytealg.abigen_runtime_cmpstring"], unfollowed := true, recurses := true, apart := false }
def SetsRiseSaid : Prop := setsRiseRow.holds Try.pinned (OpenSpec.ofChange setsRiseSpec)

/-- ITS FALSE NEIGHBOUR: 'it returns false'. Refute it at one input. -/
def setsRiseWrong : ChangeSpec := { name := "setsRise", fn := fun _ => fun
  | [d] => { results := [.lit (.bool false)], args := [d] }
  | _ => none }
def SetsRiseWrongFalsely : Prop := setsRiseRow.holds Try.pinned (OpenSpec.ofChange setsRiseWrong)

/-- 'constablelaw06.MatchGround': WHATEVER THE INPUT: true; the input reads as it did. -/
def matchGroundSpec : ChangeSpec := { name := "matchGround", fn := fun _ => fun
  | [d1, d2, d3] => { results := [.lit (.bool true)], args := [d1, d2, d3] }
  | _ => none }
def matchGroundRow : OpenClaim := { program := "ytghommaokdhjmaa", sum := "710cf778bd2f9f72ae6b840fa41e6a7ccc9cf16253c464e4da9619e513773a43", func := "constable/constablelaw06.MatchGround", spec := "matchGround", inPlace := ["internal/bytealg.abigen_runtime_cmpstring"], unfollowed := true, recurses := true, apart := false }
def MatchGroundSaid : Prop := matchGroundRow.holds Try.pinned (OpenSpec.ofChange matchGroundSpec)

/-- ITS FALSE NEIGHBOUR: 'it returns false'. Refute it at one input. -/
def matchGroundWrong : ChangeSpec := { name := "matchGround", fn := fun _ => fun
  | [d1, d2, d3] => { results := [.lit (.bool false)], args := [d1, d2, d3] }
  | _ => none }
def MatchGroundWrongFalsely : Prop := matchGroundRow.holds Try.pinned (OpenSpec.ofChange matchGroundWrong)

/-- 'constablelaw06.MatchFree': WHATEVER THE INPUT: true; the input reads as it did. -/
def matchFreeSpec : ChangeSpec := { name := "matchFree", fn := fun _ => fun
  | [d1, d2] => { results := [.lit (.bool true)], args := [d1, d2] }
  | _ => none }
def matchFreeRow : OpenClaim := { program := "ytghommaokdhjmaa", sum := "710cf778bd2f9f72ae6b840fa41e6a7ccc9cf16253c464e4da9619e513773a43", func := "constable/constablelaw06.MatchFree", spec := "matchFree", inPlace := ["internal/bytealg.abigen_runtime_cmpstring"], unfollowed := true, recurses := true, apart := false }
def MatchFreeSaid : Prop := matchFreeRow.holds Try.pinned (OpenSpec.ofChange matchFreeSpec)

/-- ITS FALSE NEIGHBOUR: 'it returns false'. Refute it at one input. -/
def matchFreeWrong : ChangeSpec := { name := "matchFree", fn := fun _ => fun
  | [d1, d2] => { results := [.lit (.bool false)], args := [d1, d2] }
  | _ => none }
def MatchFreeWrongFalsely : Prop := matchFreeRow.holds Try.pinned (OpenSpec.ofChange matchFreeWrong)

/-- 'constablelaw06.MatchNamed': WHATEVER THE INPUT: true; the input reads as it did. -/
def matchNamedSpec : ChangeSpec := { name := "matchNamed", fn := fun _ => fun
  | [d1, d2] => { results := [.lit (.bool true)], args := [d1, d2] }
  | _ => none }
def matchNamedRow : OpenClaim := { program := "ytghommaokdhjmaa", sum := "710cf778bd2f9f72ae6b840fa41e6a7ccc9cf16253c464e4da9619e513773a43", func := "constable/constablelaw06.MatchNamed", spec := "matchNamed", inPlace := ["internal/bytealg.abigen_runtime_cmpstring"], unfollowed := true, recurses := true, apart := false }
def MatchNamedSaid : Prop := matchNamedRow.holds Try.pinned (OpenSpec.ofChange matchNamedSpec)

/-- ITS FALSE NEIGHBOUR: 'it returns false'. Refute it at one input. -/
def matchNamedWrong : ChangeSpec := { name := "matchNamed", fn := fun _ => fun
  | [d1, d2] => { results := [.lit (.bool false)], args := [d1, d2] }
  | _ => none }
def MatchNamedWrongFalsely : Prop := matchNamedRow.holds Try.pinned (OpenSpec.ofChange matchNamedWrong)

/- THE SECOND FORM. 'bulk': how many values and letters a reading holds, each counted each time it is reached (what is shared counts as often as it is met; a slice's spare places count too). A statement '..UptoSaid' is the law's where the arguments, and the package variables that the reading takes, are together of bulk at most 1048576: NARROWER than '..Said'. Prove '..Said' where nothing that the law and all that it calls make is longer than what came in: it says more and counts as full. Else prove '..UptoSaid'. A law counts once. -/
mutual
def uptoBulk {H : Type} : DataW H → Nat
  | .lit (.string bytes) => bytes.length + 1
  | .lit _ => 1
  | .nil => 1
  | .ptr d => uptoBulk d + 1
  | .slice elems spare => uptoBulkAll elems + uptoBulkAll spare + 1
  | .agg parts => uptoBulkAll parts + 1
  | .iface _ d => uptoBulk d + 1
  | .map entries => uptoBulkEntries entries + 1
  | .held _ => 1
def uptoBulkAll {H : Type} : List (DataW H) → Nat
  | [] => 0
  | d :: r => uptoBulk d + uptoBulkAll r
def uptoBulkEntries {H : Type} : List (Lit × DataW H) → Nat
  | [] => 0
  | x :: r => uptoBulkEntry x + uptoBulkEntries r
def uptoBulkEntry {H : Type} : Lit × DataW H → Nat
  | (.string bytes, d) => bytes.length + uptoBulk d + 1
  | (_, d) => uptoBulk d + 1
 end
def uptoSmall : (H : Type) → List (DataW H) → Bool := fun _ ds => decide (uptoBulkAll ds ≤ 1048576)
def OpenSpec.upto (s : _root_.Go.ChangeSpec) : _root_.Go.OpenSpec := { _root_.Go.OpenSpec.ofChange s with cond := some uptoSmall }

/-- 'constablelaw05.SubstExact', WHERE WHAT IT READS IS OF BULK AT MOST 1048576: true; the input reads as it did. -/
def substExactUptoRow : OpenClaim := { program := "ytghommaokdhjmaa", sum := "710cf778bd2f9f72ae6b840fa41e6a7ccc9cf16253c464e4da9619e513773a43", func := "constable/constablelaw05.SubstExact", spec := "substExact", inPlace := ["internal/bytealg.abigen_runtime_cmpstring"], unfollowed := true, recurses := true, apart := false, narrowed := true }
def SubstExactUptoSaid : Prop := substExactUptoRow.holds Try.pinned (OpenSpec.upto substExactSpec)

/-- 'constablelaw05.SubstBack', WHERE WHAT IT READS IS OF BULK AT MOST 1048576: true; the input reads as it did. -/
def substBackUptoRow : OpenClaim := { program := "ytghommaokdhjmaa", sum := "710cf778bd2f9f72ae6b840fa41e6a7ccc9cf16253c464e4da9619e513773a43", func := "constable/constablelaw05.SubstBack", spec := "substBack", inPlace := ["internal/bytealg.abigen_runtime_cmpstring"], unfollowed := true, recurses := true, apart := false, narrowed := true }
def SubstBackUptoSaid : Prop := substBackUptoRow.holds Try.pinned (OpenSpec.upto substBackSpec)

/-- 'constablelaw05.SubstBoth', WHERE WHAT IT READS IS OF BULK AT MOST 1048576: true; the input reads as it did. -/
def substBothUptoRow : OpenClaim := { program := "ytghommaokdhjmaa", sum := "710cf778bd2f9f72ae6b840fa41e6a7ccc9cf16253c464e4da9619e513773a43", func := "constable/constablelaw05.SubstBoth", spec := "substBoth", inPlace := ["internal/bytealg.abigen_runtime_cmpstring"], unfollowed := true, recurses := true, apart := false, narrowed := true }
def SubstBothUptoSaid : Prop := substBothUptoRow.holds Try.pinned (OpenSpec.upto substBothSpec)

/-- 'constablelaw05.SubstMany', WHERE WHAT IT READS IS OF BULK AT MOST 1048576: true; the input reads as it did. -/
def substManyUptoRow : OpenClaim := { program := "ytghommaokdhjmaa", sum := "710cf778bd2f9f72ae6b840fa41e6a7ccc9cf16253c464e4da9619e513773a43", func := "constable/constablelaw05.SubstMany", spec := "substMany", inPlace := ["internal/bytealg.abigen_runtime_cmpstring"], unfollowed := true, recurses := true, apart := false, narrowed := true }
def SubstManyUptoSaid : Prop := substManyUptoRow.holds Try.pinned (OpenSpec.upto substManySpec)

/-- 'constablelaw04.SetsSame', WHERE WHAT IT READS IS OF BULK AT MOST 1048576: true; the input reads as it did. -/
def setsSameUptoRow : OpenClaim := { program := "ytghommaokdhjmaa", sum := "710cf778bd2f9f72ae6b840fa41e6a7ccc9cf16253c464e4da9619e513773a43", func := "constable/constablelaw04.SetsSame", spec := "setsSame", inPlace := ["internal/bytealg.abigen_runtime_cmpstring"], unfollowed := true, recurses := true, apart := false, narrowed := true }
def SetsSameUptoSaid : Prop := setsSameUptoRow.holds Try.pinned (OpenSpec.upto setsSameSpec)

/-- 'constablelaw04.SetsDrop', WHERE WHAT IT READS IS OF BULK AT MOST 1048576: true; the input reads as it did. -/
def setsDropUptoRow : OpenClaim := { program := "ytghommaokdhjmaa", sum := "710cf778bd2f9f72ae6b840fa41e6a7ccc9cf16253c464e4da9619e513773a43", func := "constable/constablelaw04.SetsDrop", spec := "setsDrop", inPlace := ["internal/bytealg.abigen_runtime_cmpstring"], unfollowed := true, recurses := true, apart := false, narrowed := true }
def SetsDropUptoSaid : Prop := setsDropUptoRow.holds Try.pinned (OpenSpec.upto setsDropSpec)

/-- 'constablelaw04.SetsExact', WHERE WHAT IT READS IS OF BULK AT MOST 1048576: true; the input reads as it did. -/
def setsExactUptoRow : OpenClaim := { program := "ytghommaokdhjmaa", sum := "710cf778bd2f9f72ae6b840fa41e6a7ccc9cf16253c464e4da9619e513773a43", func := "constable/constablelaw04.SetsExact", spec := "setsExact", inPlace := ["internal/bytealg.abigen_runtime_cmpstring"], unfollowed := true, recurses := true, apart := false, narrowed := true }
def SetsExactUptoSaid : Prop := setsExactUptoRow.holds Try.pinned (OpenSpec.upto setsExactSpec)

/-- 'constablelaw04.SetsBoth', WHERE WHAT IT READS IS OF BULK AT MOST 1048576: true; the input reads as it did. -/
def setsBothUptoRow : OpenClaim := { program := "ytghommaokdhjmaa", sum := "710cf778bd2f9f72ae6b840fa41e6a7ccc9cf16253c464e4da9619e513773a43", func := "constable/constablelaw04.SetsBoth", spec := "setsBoth", inPlace := ["internal/bytealg.abigen_runtime_cmpstring"], unfollowed := true, recurses := true, apart := false, narrowed := true }
def SetsBothUptoSaid : Prop := setsBothUptoRow.holds Try.pinned (OpenSpec.upto setsBothSpec)

/-- 'constablelaw04.SetsRise', WHERE WHAT IT READS IS OF BULK AT MOST 1048576: true; the input reads as it did. -/
def setsRiseUptoRow : OpenClaim := { program := "ytghommaokdhjmaa", sum := "710cf778bd2f9f72ae6b840fa41e6a7ccc9cf16253c464e4da9619e513773a43", func := "constable/constablelaw04.SetsRise", spec := "setsRise", inPlace := ["internal/bytealg.abigen_runtime_cmpstring"], unfollowed := true, recurses := true, apart := false, narrowed := true }
def SetsRiseUptoSaid : Prop := setsRiseUptoRow.holds Try.pinned (OpenSpec.upto setsRiseSpec)

/-- 'constablelaw06.MatchGround', WHERE WHAT IT READS IS OF BULK AT MOST 1048576: true; the input reads as it did. -/
def matchGroundUptoRow : OpenClaim := { program := "ytghommaokdhjmaa", sum := "710cf778bd2f9f72ae6b840fa41e6a7ccc9cf16253c464e4da9619e513773a43", func := "constable/constablelaw06.MatchGround", spec := "matchGround", inPlace := ["internal/bytealg.abigen_runtime_cmpstring"], unfollowed := true, recurses := true, apart := false, narrowed := true }
def MatchGroundUptoSaid : Prop := matchGroundUptoRow.holds Try.pinned (OpenSpec.upto matchGroundSpec)

/-- 'constablelaw06.MatchFree', WHERE WHAT IT READS IS OF BULK AT MOST 1048576: true; the input reads as it did. -/
def matchFreeUptoRow : OpenClaim := { program := "ytghommaokdhjmaa", sum := "710cf778bd2f9f72ae6b840fa41e6a7ccc9cf16253c464e4da9619e513773a43", func := "constable/constablelaw06.MatchFree", spec := "matchFree", inPlace := ["internal/bytealg.abigen_runtime_cmpstring"], unfollowed := true, recurses := true, apart := false, narrowed := true }
def MatchFreeUptoSaid : Prop := matchFreeUptoRow.holds Try.pinned (OpenSpec.upto matchFreeSpec)

/-- 'constablelaw06.MatchNamed', WHERE WHAT IT READS IS OF BULK AT MOST 1048576: true; the input reads as it did. -/
def matchNamedUptoRow : OpenClaim := { program := "ytghommaokdhjmaa", sum := "710cf778bd2f9f72ae6b840fa41e6a7ccc9cf16253c464e4da9619e513773a43", func := "constable/constablelaw06.MatchNamed", spec := "matchNamed", inPlace := ["internal/bytealg.abigen_runtime_cmpstring"], unfollowed := true, recurses := true, apart := false, narrowed := true }
def MatchNamedUptoSaid : Prop := matchNamedUptoRow.holds Try.pinned (OpenSpec.upto matchNamedSpec)

end Rows
end Go.Proofs.Ytghommaokdhjmaa
