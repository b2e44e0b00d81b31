/-
  No cell of these rows narrows 'for every input' (looked for: loops, veiled, ifaces, maps, wideKeys, modest, calm, conditions, laid).
  DERIVED. THE GIVEN ROWS OF THIS SEAT. 6 by the template 'for every input the law returns true; each argument reads behind the call as it read before'; 0 by the template 'total and deterministic' (their statements: YtompdlhhfpjebaaTotals.lean).
  GIVEN WITH THE SEED: the statements are not yours to turn. If you find one false, say at which input.
  Laid BY PROGRAM, IN A SANDBOX (cutbox-rows.mjs): the forced cells as the released guide's own fill.sh prints them over the translation 07450fbfb9b84638… (all of the seat's roots in one cut). By AI agents, Wed Nov 11 2026. No macro, syntax, notation, axiom, sorry.
-/
import Derived.Test.YtompdlhhfpjebaaChecked
import GoSem.Claim
import GoSem.ClaimJoined
import GoSem.ClaimMapViews
import Derived.JoinedTies
import Derived.KernelRfl
namespace Go.Proofs.Ytompdlhhfpjebaa
/- THE CELL 'sum', in the pinned program and in every row, IS THE sha256 OF THE DUMP (.gsa) THAT YtompdlhhfpjebaaProg.lean LOADS. Nothing in Lean hashes anything: it is a label: what it is worth is what the hold of that sum in a sandbox is worth. -/
noncomputable def Try.pinned : Pinned := { name := "ytompdlhhfpjebaa", sum := "07450fbfb9b846388c83ea55abf6acfd4ae2d3fedc0321a5db867250b3f9a17c", checked := Try.checked }
namespace Rows
def none {H : Type} : Left H := { results := [], args := [] }

/-- 'reparteelaw04.ArithWhole': WHATEVER THE INPUT: true; the input reads as it did. -/
def arithWholeSpec : ChangeSpec := { name := "arithWhole", fn := fun _ => fun
  | [d1, d2, d3] => { results := [.lit (.bool true)], args := [d1, d2, d3] }
  | _ => none }
def arithWholeRow : OpenClaim := { program := "ytompdlhhfpjebaa", sum := "07450fbfb9b846388c83ea55abf6acfd4ae2d3fedc0321a5db867250b3f9a17c", func := "repartee/reparteelaw04.ArithWhole", spec := "arithWhole", inPlace := ["math.Float64bits", "math.Float64frombits"], unfollowed := true, recurses := true, apart := false }
def ArithWholeSaid : Prop := arithWholeRow.holds Try.pinned (OpenSpec.ofChange arithWholeSpec)

/-- ITS FALSE NEIGHBOUR: 'it returns false'. Refute it at one input. -/
def arithWholeWrong : ChangeSpec := { name := "arithWhole", fn := fun _ => fun
  | [d1, d2, d3] => { results := [.lit (.bool false)], args := [d1, d2, d3] }
  | _ => none }
def ArithWholeWrongFalsely : Prop := arithWholeRow.holds Try.pinned (OpenSpec.ofChange arithWholeWrong)

/-- 'reparteelaw04.ArithWrong': WHATEVER THE INPUT: true; the input reads as it did. -/
def arithWrongSpec : ChangeSpec := { name := "arithWrong", fn := fun _ => fun
  | [d1, d2, d3, d4] => { results := [.lit (.bool true)], args := [d1, d2, d3, d4] }
  | _ => none }
def arithWrongRow : OpenClaim := { program := "ytompdlhhfpjebaa", sum := "07450fbfb9b846388c83ea55abf6acfd4ae2d3fedc0321a5db867250b3f9a17c", func := "repartee/reparteelaw04.ArithWrong", spec := "arithWrong", inPlace := ["math.Float64bits", "math.Float64frombits"], unfollowed := true, recurses := true, apart := false }
def ArithWrongSaid : Prop := arithWrongRow.holds Try.pinned (OpenSpec.ofChange arithWrongSpec)

/-- ITS FALSE NEIGHBOUR: 'it returns false'. Refute it at one input. -/
def arithWrongWrong : ChangeSpec := { name := "arithWrong", fn := fun _ => fun
  | [d1, d2, d3, d4] => { results := [.lit (.bool false)], args := [d1, d2, d3, d4] }
  | _ => none }
def ArithWrongWrongFalsely : Prop := arithWrongRow.holds Try.pinned (OpenSpec.ofChange arithWrongWrong)

/-- 'reparteelaw04.ArithLaws': WHATEVER THE INPUT: true; the input reads as it did. -/
def arithLawsSpec : ChangeSpec := { name := "arithLaws", fn := fun _ => fun
  | [d1, d2, d3] => { results := [.lit (.bool true)], args := [d1, d2, d3] }
  | _ => none }
def arithLawsRow : OpenClaim := { program := "ytompdlhhfpjebaa", sum := "07450fbfb9b846388c83ea55abf6acfd4ae2d3fedc0321a5db867250b3f9a17c", func := "repartee/reparteelaw04.ArithLaws", spec := "arithLaws", inPlace := ["math.Float64bits", "math.Float64frombits"], unfollowed := true, recurses := true, apart := false }
def ArithLawsSaid : Prop := arithLawsRow.holds Try.pinned (OpenSpec.ofChange arithLawsSpec)

/-- ITS FALSE NEIGHBOUR: 'it returns false'. Refute it at one input. -/
def arithLawsWrong : ChangeSpec := { name := "arithLaws", fn := fun _ => fun
  | [d1, d2, d3] => { results := [.lit (.bool false)], args := [d1, d2, d3] }
  | _ => none }
def ArithLawsWrongFalsely : Prop := arithLawsRow.holds Try.pinned (OpenSpec.ofChange arithLawsWrong)

/-- 'reparteelaw04.ArithSums': WHATEVER THE INPUT: true; the input reads as it did. -/
def arithSumsSpec : ChangeSpec := { name := "arithSums", fn := fun _ => fun
  | [d1, d2] => { results := [.lit (.bool true)], args := [d1, d2] }
  | _ => none }
def arithSumsRow : OpenClaim := { program := "ytompdlhhfpjebaa", sum := "07450fbfb9b846388c83ea55abf6acfd4ae2d3fedc0321a5db867250b3f9a17c", func := "repartee/reparteelaw04.ArithSums", spec := "arithSums", inPlace := ["math.Float64bits", "math.Float64frombits"], unfollowed := true, recurses := true, apart := false }
def ArithSumsSaid : Prop := arithSumsRow.holds Try.pinned (OpenSpec.ofChange arithSumsSpec)

/-- ITS FALSE NEIGHBOUR: 'it returns false'. Refute it at one input. -/
def arithSumsWrong : ChangeSpec := { name := "arithSums", fn := fun _ => fun
  | [d1, d2] => { results := [.lit (.bool false)], args := [d1, d2] }
  | _ => none }
def ArithSumsWrongFalsely : Prop := arithSumsRow.holds Try.pinned (OpenSpec.ofChange arithSumsWrong)

/-- 'reparteelaw04.ArithEdges': WHATEVER THE INPUT: true; the input reads as it did. -/
def arithEdgesSpec : ChangeSpec := { name := "arithEdges", fn := fun _ => fun
  | [d1, d2] => { results := [.lit (.bool true)], args := [d1, d2] }
  | _ => none }
def arithEdgesRow : OpenClaim := { program := "ytompdlhhfpjebaa", sum := "07450fbfb9b846388c83ea55abf6acfd4ae2d3fedc0321a5db867250b3f9a17c", func := "repartee/reparteelaw04.ArithEdges", spec := "arithEdges", inPlace := ["math.Float64bits", "math.Float64frombits"], unfollowed := true, recurses := true, apart := false }
def ArithEdgesSaid : Prop := arithEdgesRow.holds Try.pinned (OpenSpec.ofChange arithEdgesSpec)

/-- ITS FALSE NEIGHBOUR: 'it returns false'. Refute it at one input. -/
def arithEdgesWrong : ChangeSpec := { name := "arithEdges", fn := fun _ => fun
  | [d1, d2] => { results := [.lit (.bool false)], args := [d1, d2] }
  | _ => none }
def ArithEdgesWrongFalsely : Prop := arithEdgesRow.holds Try.pinned (OpenSpec.ofChange arithEdgesWrong)

/-- 'reparteelaw04.ArithOrder': WHATEVER THE INPUT: true; the input reads as it did. -/
def arithOrderSpec : ChangeSpec := { name := "arithOrder", fn := fun _ => fun
  | [d1, d2, d3] => { results := [.lit (.bool true)], args := [d1, d2, d3] }
  | _ => none }
def arithOrderRow : OpenClaim := { program := "ytompdlhhfpjebaa", sum := "07450fbfb9b846388c83ea55abf6acfd4ae2d3fedc0321a5db867250b3f9a17c", func := "repartee/reparteelaw04.ArithOrder", spec := "arithOrder", inPlace := ["math.Float64bits", "math.Float64frombits"], unfollowed := true, recurses := true, apart := false }
def ArithOrderSaid : Prop := arithOrderRow.holds Try.pinned (OpenSpec.ofChange arithOrderSpec)

/-- ITS FALSE NEIGHBOUR: 'it returns false'. Refute it at one input. -/
def arithOrderWrong : ChangeSpec := { name := "arithOrder", fn := fun _ => fun
  | [d1, d2, d3] => { results := [.lit (.bool false)], args := [d1, d2, d3] }
  | _ => none }
def ArithOrderWrongFalsely : Prop := arithOrderRow.holds Try.pinned (OpenSpec.ofChange arithOrderWrong)

/- THE SECOND FORM. 'bulk': how many values and letters a reading holds, each counted each time it is reached (what is shared counts as often as it is met; a slice's spare places count too). A statement '..UptoSaid' is the law's where the arguments, and the package variables that the reading takes, are together of bulk at most 1048576: NARROWER than '..Said'. Prove '..Said' where nothing that the law and all that it calls make is longer than what came in: it says more and counts as full. Else prove '..UptoSaid'. A law counts once. -/
mutual
def uptoBulk {H : Type} : DataW H → Nat
  | .lit (.string bytes) => bytes.length + 1
  | .lit _ => 1
  | .nil => 1
  | .ptr d => uptoBulk d + 1
  | .slice elems spare => uptoBulkAll elems + uptoBulkAll spare + 1
  | .agg parts => uptoBulkAll parts + 1
  | .iface _ d => uptoBulk d + 1
  | .map entries => uptoBulkEntries entries + 1
  | .held _ => 1
def uptoBulkAll {H : Type} : List (DataW H) → Nat
  | [] => 0
  | d :: r => uptoBulk d + uptoBulkAll r
def uptoBulkEntries {H : Type} : List (Lit × DataW H) → Nat
  | [] => 0
  | x :: r => uptoBulkEntry x + uptoBulkEntries r
def uptoBulkEntry {H : Type} : Lit × DataW H → Nat
  | (.string bytes, d) => bytes.length + uptoBulk d + 1
  | (_, d) => uptoBulk d + 1
 end
def uptoSmall : (H : Type) → List (DataW H) → Bool := fun _ ds => decide (uptoBulkAll ds ≤ 1048576)
def OpenSpec.upto (s : _root_.Go.ChangeSpec) : _root_.Go.OpenSpec := { _root_.Go.OpenSpec.ofChange s with cond := some uptoSmall }

/-- 'reparteelaw04.ArithWhole', WHERE WHAT IT READS IS OF BULK AT MOST 1048576: true; the input reads as it did. -/
def arithWholeUptoRow : OpenClaim := { program := "ytompdlhhfpjebaa", sum := "07450fbfb9b846388c83ea55abf6acfd4ae2d3fedc0321a5db867250b3f9a17c", func := "repartee/reparteelaw04.ArithWhole", spec := "arithWhole", inPlace := ["math.Float64bits", "math.Float64frombits"], unfollowed := true, recurses := true, apart := false, narrowed := true }
def ArithWholeUptoSaid : Prop := arithWholeUptoRow.holds Try.pinned (OpenSpec.upto arithWholeSpec)

/-- 'reparteelaw04.ArithWrong', WHERE WHAT IT READS IS OF BULK AT MOST 1048576: true; the input reads as it did. -/
def arithWrongUptoRow : OpenClaim := { program := "ytompdlhhfpjebaa", sum := "07450fbfb9b846388c83ea55abf6acfd4ae2d3fedc0321a5db867250b3f9a17c", func := "repartee/reparteelaw04.ArithWrong", spec := "arithWrong", inPlace := ["math.Float64bits", "math.Float64frombits"], unfollowed := true, recurses := true, apart := false, narrowed := true }
def ArithWrongUptoSaid : Prop := arithWrongUptoRow.holds Try.pinned (OpenSpec.upto arithWrongSpec)

/-- 'reparteelaw04.ArithLaws', WHERE WHAT IT READS IS OF BULK AT MOST 1048576: true; the input reads as it did. -/
def arithLawsUptoRow : OpenClaim := { program := "ytompdlhhfpjebaa", sum := "07450fbfb9b846388c83ea55abf6acfd4ae2d3fedc0321a5db867250b3f9a17c", func := "repartee/reparteelaw04.ArithLaws", spec := "arithLaws", inPlace := ["math.Float64bits", "math.Float64frombits"], unfollowed := true, recurses := true, apart := false, narrowed := true }
def ArithLawsUptoSaid : Prop := arithLawsUptoRow.holds Try.pinned (OpenSpec.upto arithLawsSpec)

/-- 'reparteelaw04.ArithSums', WHERE WHAT IT READS IS OF BULK AT MOST 1048576: true; the input reads as it did. -/
def arithSumsUptoRow : OpenClaim := { program := "ytompdlhhfpjebaa", sum := "07450fbfb9b846388c83ea55abf6acfd4ae2d3fedc0321a5db867250b3f9a17c", func := "repartee/reparteelaw04.ArithSums", spec := "arithSums", inPlace := ["math.Float64bits", "math.Float64frombits"], unfollowed := true, recurses := true, apart := false, narrowed := true }
def ArithSumsUptoSaid : Prop := arithSumsUptoRow.holds Try.pinned (OpenSpec.upto arithSumsSpec)

/-- 'reparteelaw04.ArithEdges', WHERE WHAT IT READS IS OF BULK AT MOST 1048576: true; the input reads as it did. -/
def arithEdgesUptoRow : OpenClaim := { program := "ytompdlhhfpjebaa", sum := "07450fbfb9b846388c83ea55abf6acfd4ae2d3fedc0321a5db867250b3f9a17c", func := "repartee/reparteelaw04.ArithEdges", spec := "arithEdges", inPlace := ["math.Float64bits", "math.Float64frombits"], unfollowed := true, recurses := true, apart := false, narrowed := true }
def ArithEdgesUptoSaid : Prop := arithEdgesUptoRow.holds Try.pinned (OpenSpec.upto arithEdgesSpec)

/-- 'reparteelaw04.ArithOrder', WHERE WHAT IT READS IS OF BULK AT MOST 1048576: true; the input reads as it did. -/
def arithOrderUptoRow : OpenClaim := { program := "ytompdlhhfpjebaa", sum := "07450fbfb9b846388c83ea55abf6acfd4ae2d3fedc0321a5db867250b3f9a17c", func := "repartee/reparteelaw04.ArithOrder", spec := "arithOrder", inPlace := ["math.Float64bits", "math.Float64frombits"], unfollowed := true, recurses := true, apart := false, narrowed := true }
def ArithOrderUptoSaid : Prop := arithOrderUptoRow.holds Try.pinned (OpenSpec.upto arithOrderSpec)

end Rows
end Go.Proofs.Ytompdlhhfpjebaa
