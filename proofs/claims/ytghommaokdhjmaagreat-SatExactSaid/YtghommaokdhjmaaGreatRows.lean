/-
  No cell of these rows narrows 'for every input' (looked for: loops, veiled, ifaces, maps, wideKeys, modest, calm, conditions, laid).
  DERIVED. THE GIVEN ROWS OF THIS SEAT. 6 by the template 'for every input the law returns true; each argument reads behind the call as it read before'; 0 by the template 'total and deterministic' (their statements: YtghommaokdhjmaaGreatTotals.lean).
  GIVEN WITH THE SEED: the statements are not yours to turn. If you find one false, say at which input.
  Laid BY PROGRAM, IN A SANDBOX (cutbox-rows.mjs): the forced cells as the released guide's own fill.sh prints them over the translation 522aab0e0cd4f3f0… (all of the seat's roots in one cut). By AI agents, Wed Nov 11 2026. No macro, syntax, notation, axiom, sorry.
-/
import Derived.Test.YtghommaokdhjmaaGreatChecked
import GoSem.Claim
import GoSem.ClaimJoined
import GoSem.ClaimMapViews
import Derived.JoinedTies
import Derived.KernelRfl
namespace Go.Proofs.YtghommaokdhjmaaGreat
/- THE CELL 'sum', in the pinned program and in every row, IS THE sha256 OF THE DUMP (.gsa) THAT YtghommaokdhjmaaGreatProg.lean LOADS. Nothing in Lean hashes anything: it is a label: what it is worth is what the hold of that sum in a sandbox is worth. -/
noncomputable def Tryz.pinned : Pinned := { name := "ytghommaokdhjmaagreat", sum := "522aab0e0cd4f3f041537714c2bdb73906e671ac1140aebff72000558a9f7f69", checked := Tryz.checked }
namespace Rows
def none {H : Type} : Left H := { results := [], args := [] }

/-- 'constablelaw25.SatExact': WHATEVER THE INPUT: true; the input reads as it did. -/
def satExactSpec : ChangeSpec := { name := "satExact", fn := fun _ => fun
  | [d1, d2, d3, d4, d5] => { results := [.lit (.bool true)], args := [d1, d2, d3, d4, d5] }
  | _ => none }
def satExactRow : OpenClaim := { program := "ytghommaokdhjmaagreat", sum := "522aab0e0cd4f3f041537714c2bdb73906e671ac1140aebff72000558a9f7f69", func := "constable/constablelaw25.SatExact", spec := "satExact", inPlace := ["internal/bytealg.abigen_runtime_cmpstring"], unfollowed := true, recurses := true, apart := false }
def SatExactSaid : Prop := satExactRow.holds Tryz.pinned (OpenSpec.ofChange satExactSpec)

/-- ITS FALSE NEIGHBOUR: 'it returns false'. Refute it at one input. -/
def satExactWrong : ChangeSpec := { name := "satExact", fn := fun _ => fun
  | [d1, d2, d3, d4, d5] => { results := [.lit (.bool false)], args := [d1, d2, d3, d4, d5] }
  | _ => none }
def SatExactWrongFalsely : Prop := satExactRow.holds Tryz.pinned (OpenSpec.ofChange satExactWrong)

/-- 'constablelaw25.SatSteps': WHATEVER THE INPUT: true; the input reads as it did. -/
def satStepsSpec : ChangeSpec := { name := "satSteps", fn := fun _ => fun
  | [d1, d2, d3, d4] => { results := [.lit (.bool true)], args := [d1, d2, d3, d4] }
  | _ => none }
def satStepsRow : OpenClaim := { program := "ytghommaokdhjmaagreat", sum := "522aab0e0cd4f3f041537714c2bdb73906e671ac1140aebff72000558a9f7f69", func := "constable/constablelaw25.SatSteps", spec := "satSteps", inPlace := ["internal/bytealg.abigen_runtime_cmpstring"], unfollowed := true, recurses := true, apart := false }
def SatStepsSaid : Prop := satStepsRow.holds Tryz.pinned (OpenSpec.ofChange satStepsSpec)

/-- ITS FALSE NEIGHBOUR: 'it returns false'. Refute it at one input. -/
def satStepsWrong : ChangeSpec := { name := "satSteps", fn := fun _ => fun
  | [d1, d2, d3, d4] => { results := [.lit (.bool false)], args := [d1, d2, d3, d4] }
  | _ => none }
def SatStepsWrongFalsely : Prop := satStepsRow.holds Tryz.pinned (OpenSpec.ofChange satStepsWrong)

/-- 'constablelaw25.SatSince': WHATEVER THE INPUT: true; the input reads as it did. -/
def satSinceSpec : ChangeSpec := { name := "satSince", fn := fun _ => fun
  | [d1, d2, d3, d4, d5] => { results := [.lit (.bool true)], args := [d1, d2, d3, d4, d5] }
  | _ => none }
def satSinceRow : OpenClaim := { program := "ytghommaokdhjmaagreat", sum := "522aab0e0cd4f3f041537714c2bdb73906e671ac1140aebff72000558a9f7f69", func := "constable/constablelaw25.SatSince", spec := "satSince", inPlace := ["internal/bytealg.abigen_runtime_cmpstring"], unfollowed := true, recurses := true, apart := false }
def SatSinceSaid : Prop := satSinceRow.holds Tryz.pinned (OpenSpec.ofChange satSinceSpec)

/-- ITS FALSE NEIGHBOUR: 'it returns false'. Refute it at one input. -/
def satSinceWrong : ChangeSpec := { name := "satSince", fn := fun _ => fun
  | [d1, d2, d3, d4, d5] => { results := [.lit (.bool false)], args := [d1, d2, d3, d4, d5] }
  | _ => none }
def SatSinceWrongFalsely : Prop := satSinceRow.holds Tryz.pinned (OpenSpec.ofChange satSinceWrong)

/-- 'constablelaw25.SatWrong': WHATEVER THE INPUT: true; the input reads as it did. -/
def satWrongSpec : ChangeSpec := { name := "satWrong", fn := fun _ => fun
  | [d1, d2, d3, d4] => { results := [.lit (.bool true)], args := [d1, d2, d3, d4] }
  | _ => none }
def satWrongRow : OpenClaim := { program := "ytghommaokdhjmaagreat", sum := "522aab0e0cd4f3f041537714c2bdb73906e671ac1140aebff72000558a9f7f69", func := "constable/constablelaw25.SatWrong", spec := "satWrong", inPlace := ["internal/bytealg.abigen_runtime_cmpstring"], unfollowed := true, recurses := true, apart := false }
def SatWrongSaid : Prop := satWrongRow.holds Tryz.pinned (OpenSpec.ofChange satWrongSpec)

/-- ITS FALSE NEIGHBOUR: 'it returns false'. Refute it at one input. -/
def satWrongWrong : ChangeSpec := { name := "satWrong", fn := fun _ => fun
  | [d1, d2, d3, d4] => { results := [.lit (.bool false)], args := [d1, d2, d3, d4] }
  | _ => none }
def SatWrongWrongFalsely : Prop := satWrongRow.holds Tryz.pinned (OpenSpec.ofChange satWrongWrong)

/-- 'constablelaw25.SatNots': WHATEVER THE INPUT: true; the input reads as it did. -/
def satNotsSpec : ChangeSpec := { name := "satNots", fn := fun _ => fun
  | [d1, d2, d3, d4, d5] => { results := [.lit (.bool true)], args := [d1, d2, d3, d4, d5] }
  | _ => none }
def satNotsRow : OpenClaim := { program := "ytghommaokdhjmaagreat", sum := "522aab0e0cd4f3f041537714c2bdb73906e671ac1140aebff72000558a9f7f69", func := "constable/constablelaw25.SatNots", spec := "satNots", inPlace := ["internal/bytealg.abigen_runtime_cmpstring"], unfollowed := true, recurses := true, apart := false }
def SatNotsSaid : Prop := satNotsRow.holds Tryz.pinned (OpenSpec.ofChange satNotsSpec)

/-- ITS FALSE NEIGHBOUR: 'it returns false'. Refute it at one input. -/
def satNotsWrong : ChangeSpec := { name := "satNots", fn := fun _ => fun
  | [d1, d2, d3, d4, d5] => { results := [.lit (.bool false)], args := [d1, d2, d3, d4, d5] }
  | _ => none }
def SatNotsWrongFalsely : Prop := satNotsRow.holds Tryz.pinned (OpenSpec.ofChange satNotsWrong)

/-- 'constablelaw25.SatOnce': WHATEVER THE INPUT: true; the input reads as it did. -/
def satOnceSpec : ChangeSpec := { name := "satOnce", fn := fun _ => fun
  | [d1, d2, d3, d4] => { results := [.lit (.bool true)], args := [d1, d2, d3, d4] }
  | _ => none }
def satOnceRow : OpenClaim := { program := "ytghommaokdhjmaagreat", sum := "522aab0e0cd4f3f041537714c2bdb73906e671ac1140aebff72000558a9f7f69", func := "constable/constablelaw25.SatOnce", spec := "satOnce", inPlace := ["internal/bytealg.abigen_runtime_cmpstring"], unfollowed := true, recurses := true, apart := false }
def SatOnceSaid : Prop := satOnceRow.holds Tryz.pinned (OpenSpec.ofChange satOnceSpec)

/-- ITS FALSE NEIGHBOUR: 'it returns false'. Refute it at one input. -/
def satOnceWrong : ChangeSpec := { name := "satOnce", fn := fun _ => fun
  | [d1, d2, d3, d4] => { results := [.lit (.bool false)], args := [d1, d2, d3, d4] }
  | _ => none }
def SatOnceWrongFalsely : Prop := satOnceRow.holds Tryz.pinned (OpenSpec.ofChange satOnceWrong)

/- THE SECOND FORM. 'bulk': how many values and letters a reading holds, each counted each time it is reached (what is shared counts as often as it is met; a slice's spare places count too). A statement '..UptoSaid' is the law's where the arguments, and the package variables that the reading takes, are together of bulk at most 1048576: NARROWER than '..Said'. Prove '..Said' where nothing that the law and all that it calls make is longer than what came in: it says more and counts as full. Else prove '..UptoSaid'. A law counts once. -/
mutual
def uptoBulk {H : Type} : DataW H → Nat
  | .lit (.string bytes) => bytes.length + 1
  | .lit _ => 1
  | .nil => 1
  | .ptr d => uptoBulk d + 1
  | .slice elems spare => uptoBulkAll elems + uptoBulkAll spare + 1
  | .agg parts => uptoBulkAll parts + 1
  | .iface _ d => uptoBulk d + 1
  | .map entries => uptoBulkEntries entries + 1
  | .held _ => 1
def uptoBulkAll {H : Type} : List (DataW H) → Nat
  | [] => 0
  | d :: r => uptoBulk d + uptoBulkAll r
def uptoBulkEntries {H : Type} : List (Lit × DataW H) → Nat
  | [] => 0
  | x :: r => uptoBulkEntry x + uptoBulkEntries r
def uptoBulkEntry {H : Type} : Lit × DataW H → Nat
  | (.string bytes, d) => bytes.length + uptoBulk d + 1
  | (_, d) => uptoBulk d + 1
 end
def uptoSmall : (H : Type) → List (DataW H) → Bool := fun _ ds => decide (uptoBulkAll ds ≤ 1048576)
def OpenSpec.upto (s : _root_.Go.ChangeSpec) : _root_.Go.OpenSpec := { _root_.Go.OpenSpec.ofChange s with cond := some uptoSmall }

/-- 'constablelaw25.SatExact', WHERE WHAT IT READS IS OF BULK AT MOST 1048576: true; the input reads as it did. -/
def satExactUptoRow : OpenClaim := { program := "ytghommaokdhjmaagreat", sum := "522aab0e0cd4f3f041537714c2bdb73906e671ac1140aebff72000558a9f7f69", func := "constable/constablelaw25.SatExact", spec := "satExact", inPlace := ["internal/bytealg.abigen_runtime_cmpstring"], unfollowed := true, recurses := true, apart := false, narrowed := true }
def SatExactUptoSaid : Prop := satExactUptoRow.holds Tryz.pinned (OpenSpec.upto satExactSpec)

/-- 'constablelaw25.SatSteps', WHERE WHAT IT READS IS OF BULK AT MOST 1048576: true; the input reads as it did. -/
def satStepsUptoRow : OpenClaim := { program := "ytghommaokdhjmaagreat", sum := "522aab0e0cd4f3f041537714c2bdb73906e671ac1140aebff72000558a9f7f69", func := "constable/constablelaw25.SatSteps", spec := "satSteps", inPlace := ["internal/bytealg.abigen_runtime_cmpstring"], unfollowed := true, recurses := true, apart := false, narrowed := true }
def SatStepsUptoSaid : Prop := satStepsUptoRow.holds Tryz.pinned (OpenSpec.upto satStepsSpec)

/-- 'constablelaw25.SatSince', WHERE WHAT IT READS IS OF BULK AT MOST 1048576: true; the input reads as it did. -/
def satSinceUptoRow : OpenClaim := { program := "ytghommaokdhjmaagreat", sum := "522aab0e0cd4f3f041537714c2bdb73906e671ac1140aebff72000558a9f7f69", func := "constable/constablelaw25.SatSince", spec := "satSince", inPlace := ["internal/bytealg.abigen_runtime_cmpstring"], unfollowed := true, recurses := true, apart := false, narrowed := true }
def SatSinceUptoSaid : Prop := satSinceUptoRow.holds Tryz.pinned (OpenSpec.upto satSinceSpec)

/-- 'constablelaw25.SatWrong', WHERE WHAT IT READS IS OF BULK AT MOST 1048576: true; the input reads as it did. -/
def satWrongUptoRow : OpenClaim := { program := "ytghommaokdhjmaagreat", sum := "522aab0e0cd4f3f041537714c2bdb73906e671ac1140aebff72000558a9f7f69", func := "constable/constablelaw25.SatWrong", spec := "satWrong", inPlace := ["internal/bytealg.abigen_runtime_cmpstring"], unfollowed := true, recurses := true, apart := false, narrowed := true }
def SatWrongUptoSaid : Prop := satWrongUptoRow.holds Tryz.pinned (OpenSpec.upto satWrongSpec)

/-- 'constablelaw25.SatNots', WHERE WHAT IT READS IS OF BULK AT MOST 1048576: true; the input reads as it did. -/
def satNotsUptoRow : OpenClaim := { program := "ytghommaokdhjmaagreat", sum := "522aab0e0cd4f3f041537714c2bdb73906e671ac1140aebff72000558a9f7f69", func := "constable/constablelaw25.SatNots", spec := "satNots", inPlace := ["internal/bytealg.abigen_runtime_cmpstring"], unfollowed := true, recurses := true, apart := false, narrowed := true }
def SatNotsUptoSaid : Prop := satNotsUptoRow.holds Tryz.pinned (OpenSpec.upto satNotsSpec)

/-- 'constablelaw25.SatOnce', WHERE WHAT IT READS IS OF BULK AT MOST 1048576: true; the input reads as it did. -/
def satOnceUptoRow : OpenClaim := { program := "ytghommaokdhjmaagreat", sum := "522aab0e0cd4f3f041537714c2bdb73906e671ac1140aebff72000558a9f7f69", func := "constable/constablelaw25.SatOnce", spec := "satOnce", inPlace := ["internal/bytealg.abigen_runtime_cmpstring"], unfollowed := true, recurses := true, apart := false, narrowed := true }
def SatOnceUptoSaid : Prop := satOnceUptoRow.holds Tryz.pinned (OpenSpec.upto satOnceSpec)

end Rows
end Go.Proofs.YtghommaokdhjmaaGreat
