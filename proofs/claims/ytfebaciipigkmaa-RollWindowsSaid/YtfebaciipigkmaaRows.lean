/-
  No cell of these rows narrows 'for every input' (looked for: loops, veiled, ifaces, maps, wideKeys, modest, calm, conditions, laid).
  DERIVED. THE GIVEN ROWS OF THIS SEAT. 8 by the template 'for every input the law returns true; each argument reads behind the call as it read before'; 0 by the template 'total and deterministic' (their statements: YtfebaciipigkmaaTotals.lean).
  GIVEN WITH THE SEED: the statements are not yours to turn. If you find one false, say at which input.
  Laid BY PROGRAM, IN A SANDBOX (cutbox-rows.mjs): the forced cells as the released guide's own fill.sh prints them over the translation e3ff94c9edc59a86… (all of the seat's roots in one cut). By AI agents, Wed Nov 11 2026. No macro, syntax, notation, axiom, sorry.
-/
import Derived.Test.YtfebaciipigkmaaChecked
import GoSem.Claim
import GoSem.ClaimJoined
import GoSem.ClaimMapViews
import Derived.JoinedTies
import Derived.KernelRfl
namespace Go.Proofs.Ytfebaciipigkmaa
/- THE CELL 'sum', in the pinned program and in every row, IS THE sha256 OF THE DUMP (.gsa) THAT YtfebaciipigkmaaProg.lean LOADS. Nothing in Lean hashes anything: it is a label: what it is worth is what the hold of that sum in a sandbox is worth. -/
noncomputable def Try.pinned : Pinned := { name := "ytfebaciipigkmaa", sum := "e3ff94c9edc59a86f19cc9f09348e60880432a0e59141fb540237c9647a6a1ff", checked := Try.checked }
namespace Rows
def none {H : Type} : Left H := { results := [], args := [] }

/-- 'barquelaw04.RollSums': WHATEVER THE INPUT: true; the input reads as it did. -/
def rollSumsSpec : ChangeSpec := { name := "rollSums", fn := fun _ => fun
  | [d] => { results := [.lit (.bool true)], args := [d] }
  | _ => none }
def rollSumsRow : OpenClaim := { program := "ytfebaciipigkmaa", sum := "e3ff94c9edc59a86f19cc9f09348e60880432a0e59141fb540237c9647a6a1ff", func := "barque/barquelaw04.RollSums", spec := "rollSums", apart := false }
def RollSumsSaid : Prop := rollSumsRow.holds Try.pinned (OpenSpec.ofChange rollSumsSpec)

/-- ITS FALSE NEIGHBOUR: 'it returns false'. Refute it at one input. -/
def rollSumsWrong : ChangeSpec := { name := "rollSums", fn := fun _ => fun
  | [d] => { results := [.lit (.bool false)], args := [d] }
  | _ => none }
def RollSumsWrongFalsely : Prop := rollSumsRow.holds Try.pinned (OpenSpec.ofChange rollSumsWrong)

/-- 'barquelaw04.RollJoins': WHATEVER THE INPUT: true; the input reads as it did. -/
def rollJoinsSpec : ChangeSpec := { name := "rollJoins", fn := fun _ => fun
  | [d1, d2] => { results := [.lit (.bool true)], args := [d1, d2] }
  | _ => none }
def rollJoinsRow : OpenClaim := { program := "ytfebaciipigkmaa", sum := "e3ff94c9edc59a86f19cc9f09348e60880432a0e59141fb540237c9647a6a1ff", func := "barque/barquelaw04.RollJoins", spec := "rollJoins", apart := false }
def RollJoinsSaid : Prop := rollJoinsRow.holds Try.pinned (OpenSpec.ofChange rollJoinsSpec)

/-- ITS FALSE NEIGHBOUR: 'it returns false'. Refute it at one input. -/
def rollJoinsWrong : ChangeSpec := { name := "rollJoins", fn := fun _ => fun
  | [d1, d2] => { results := [.lit (.bool false)], args := [d1, d2] }
  | _ => none }
def RollJoinsWrongFalsely : Prop := rollJoinsRow.holds Try.pinned (OpenSpec.ofChange rollJoinsWrong)

/-- 'barquelaw04.RollThree': WHATEVER THE INPUT: true; the input reads as it did. -/
def rollThreeSpec : ChangeSpec := { name := "rollThree", fn := fun _ => fun
  | [d1, d2, d3, d4, d5] => { results := [.lit (.bool true)], args := [d1, d2, d3, d4, d5] }
  | _ => none }
def rollThreeRow : OpenClaim := { program := "ytfebaciipigkmaa", sum := "e3ff94c9edc59a86f19cc9f09348e60880432a0e59141fb540237c9647a6a1ff", func := "barque/barquelaw04.RollThree", spec := "rollThree", apart := false }
def RollThreeSaid : Prop := rollThreeRow.holds Try.pinned (OpenSpec.ofChange rollThreeSpec)

/-- ITS FALSE NEIGHBOUR: 'it returns false'. Refute it at one input. -/
def rollThreeWrong : ChangeSpec := { name := "rollThree", fn := fun _ => fun
  | [d1, d2, d3, d4, d5] => { results := [.lit (.bool false)], args := [d1, d2, d3, d4, d5] }
  | _ => none }
def RollThreeWrongFalsely : Prop := rollThreeRow.holds Try.pinned (OpenSpec.ofChange rollThreeWrong)

/-- 'barquelaw04.RollEnds': WHATEVER THE INPUT: true; the input reads as it did. -/
def rollEndsSpec : ChangeSpec := { name := "rollEnds", fn := fun _ => fun
  | [d1, d2] => { results := [.lit (.bool true)], args := [d1, d2] }
  | _ => none }
def rollEndsRow : OpenClaim := { program := "ytfebaciipigkmaa", sum := "e3ff94c9edc59a86f19cc9f09348e60880432a0e59141fb540237c9647a6a1ff", func := "barque/barquelaw04.RollEnds", spec := "rollEnds", apart := false }
def RollEndsSaid : Prop := rollEndsRow.holds Try.pinned (OpenSpec.ofChange rollEndsSpec)

/-- ITS FALSE NEIGHBOUR: 'it returns false'. Refute it at one input. -/
def rollEndsWrong : ChangeSpec := { name := "rollEnds", fn := fun _ => fun
  | [d1, d2] => { results := [.lit (.bool false)], args := [d1, d2] }
  | _ => none }
def RollEndsWrongFalsely : Prop := rollEndsRow.holds Try.pinned (OpenSpec.ofChange rollEndsWrong)

/-- 'barquelaw04.RollNobody': WHATEVER THE INPUT: true; the input reads as it did. -/
def rollNobodySpec : ChangeSpec := { name := "rollNobody", fn := fun _ => fun
  | [d] => { results := [.lit (.bool true)], args := [d] }
  | _ => none }
def rollNobodyRow : OpenClaim := { program := "ytfebaciipigkmaa", sum := "e3ff94c9edc59a86f19cc9f09348e60880432a0e59141fb540237c9647a6a1ff", func := "barque/barquelaw04.RollNobody", spec := "rollNobody", apart := false }
def RollNobodySaid : Prop := rollNobodyRow.holds Try.pinned (OpenSpec.ofChange rollNobodySpec)

/-- ITS FALSE NEIGHBOUR: 'it returns false'. Refute it at one input. -/
def rollNobodyWrong : ChangeSpec := { name := "rollNobody", fn := fun _ => fun
  | [d] => { results := [.lit (.bool false)], args := [d] }
  | _ => none }
def RollNobodyWrongFalsely : Prop := rollNobodyRow.holds Try.pinned (OpenSpec.ofChange rollNobodyWrong)

/-- 'barquelaw04.RollAlls': WHATEVER THE INPUT: true; the input reads as it did. -/
def rollAllsSpec : ChangeSpec := { name := "rollAlls", fn := fun _ => fun
  | [d1, d2] => { results := [.lit (.bool true)], args := [d1, d2] }
  | _ => none }
def rollAllsRow : OpenClaim := { program := "ytfebaciipigkmaa", sum := "e3ff94c9edc59a86f19cc9f09348e60880432a0e59141fb540237c9647a6a1ff", func := "barque/barquelaw04.RollAlls", spec := "rollAlls", apart := false }
def RollAllsSaid : Prop := rollAllsRow.holds Try.pinned (OpenSpec.ofChange rollAllsSpec)

/-- ITS FALSE NEIGHBOUR: 'it returns false'. Refute it at one input. -/
def rollAllsWrong : ChangeSpec := { name := "rollAlls", fn := fun _ => fun
  | [d1, d2] => { results := [.lit (.bool false)], args := [d1, d2] }
  | _ => none }
def RollAllsWrongFalsely : Prop := rollAllsRow.holds Try.pinned (OpenSpec.ofChange rollAllsWrong)

/-- 'barquelaw04.RollWindows': WHATEVER THE INPUT: true; the input reads as it did. -/
def rollWindowsSpec : ChangeSpec := { name := "rollWindows", fn := fun _ => fun
  | [d1, d2, d3] => { results := [.lit (.bool true)], args := [d1, d2, d3] }
  | _ => none }
def rollWindowsRow : OpenClaim := { program := "ytfebaciipigkmaa", sum := "e3ff94c9edc59a86f19cc9f09348e60880432a0e59141fb540237c9647a6a1ff", func := "barque/barquelaw04.RollWindows", spec := "rollWindows", apart := false }
def RollWindowsSaid : Prop := rollWindowsRow.holds Try.pinned (OpenSpec.ofChange rollWindowsSpec)

/-- ITS FALSE NEIGHBOUR: 'it returns false'. Refute it at one input. -/
def rollWindowsWrong : ChangeSpec := { name := "rollWindows", fn := fun _ => fun
  | [d1, d2, d3] => { results := [.lit (.bool false)], args := [d1, d2, d3] }
  | _ => none }
def RollWindowsWrongFalsely : Prop := rollWindowsRow.holds Try.pinned (OpenSpec.ofChange rollWindowsWrong)

/-- 'barquelaw04.RollFinds': WHATEVER THE INPUT: true; the input reads as it did. -/
def rollFindsSpec : ChangeSpec := { name := "rollFinds", fn := fun _ => fun
  | [d1, d2] => { results := [.lit (.bool true)], args := [d1, d2] }
  | _ => none }
def rollFindsRow : OpenClaim := { program := "ytfebaciipigkmaa", sum := "e3ff94c9edc59a86f19cc9f09348e60880432a0e59141fb540237c9647a6a1ff", func := "barque/barquelaw04.RollFinds", spec := "rollFinds", apart := false }
def RollFindsSaid : Prop := rollFindsRow.holds Try.pinned (OpenSpec.ofChange rollFindsSpec)

/-- ITS FALSE NEIGHBOUR: 'it returns false'. Refute it at one input. -/
def rollFindsWrong : ChangeSpec := { name := "rollFinds", fn := fun _ => fun
  | [d1, d2] => { results := [.lit (.bool false)], args := [d1, d2] }
  | _ => none }
def RollFindsWrongFalsely : Prop := rollFindsRow.holds Try.pinned (OpenSpec.ofChange rollFindsWrong)

/- THE SECOND FORM. 'bulk': how many values and letters a reading holds, each counted each time it is reached (what is shared counts as often as it is met; a slice's spare places count too). A statement '..UptoSaid' is the law's where the arguments, and the package variables that the reading takes, are together of bulk at most 1048576: NARROWER than '..Said'. Prove '..Said' where nothing that the law and all that it calls make is longer than what came in: it says more and counts as full. Else prove '..UptoSaid'. A law counts once. -/
mutual
def uptoBulk {H : Type} : DataW H → Nat
  | .lit (.string bytes) => bytes.length + 1
  | .lit _ => 1
  | .nil => 1
  | .ptr d => uptoBulk d + 1
  | .slice elems spare => uptoBulkAll elems + uptoBulkAll spare + 1
  | .agg parts => uptoBulkAll parts + 1
  | .iface _ d => uptoBulk d + 1
  | .map entries => uptoBulkEntries entries + 1
  | .held _ => 1
def uptoBulkAll {H : Type} : List (DataW H) → Nat
  | [] => 0
  | d :: r => uptoBulk d + uptoBulkAll r
def uptoBulkEntries {H : Type} : List (Lit × DataW H) → Nat
  | [] => 0
  | x :: r => uptoBulkEntry x + uptoBulkEntries r
def uptoBulkEntry {H : Type} : Lit × DataW H → Nat
  | (.string bytes, d) => bytes.length + uptoBulk d + 1
  | (_, d) => uptoBulk d + 1
 end
def uptoSmall : (H : Type) → List (DataW H) → Bool := fun _ ds => decide (uptoBulkAll ds ≤ 1048576)
def OpenSpec.upto (s : _root_.Go.ChangeSpec) : _root_.Go.OpenSpec := { _root_.Go.OpenSpec.ofChange s with cond := some uptoSmall }

/-- 'barquelaw04.RollSums', WHERE WHAT IT READS IS OF BULK AT MOST 1048576: true; the input reads as it did. -/
def rollSumsUptoRow : OpenClaim := { program := "ytfebaciipigkmaa", sum := "e3ff94c9edc59a86f19cc9f09348e60880432a0e59141fb540237c9647a6a1ff", func := "barque/barquelaw04.RollSums", spec := "rollSums", apart := false, narrowed := true }
def RollSumsUptoSaid : Prop := rollSumsUptoRow.holds Try.pinned (OpenSpec.upto rollSumsSpec)

/-- 'barquelaw04.RollJoins', WHERE WHAT IT READS IS OF BULK AT MOST 1048576: true; the input reads as it did. -/
def rollJoinsUptoRow : OpenClaim := { program := "ytfebaciipigkmaa", sum := "e3ff94c9edc59a86f19cc9f09348e60880432a0e59141fb540237c9647a6a1ff", func := "barque/barquelaw04.RollJoins", spec := "rollJoins", apart := false, narrowed := true }
def RollJoinsUptoSaid : Prop := rollJoinsUptoRow.holds Try.pinned (OpenSpec.upto rollJoinsSpec)

/-- 'barquelaw04.RollThree', WHERE WHAT IT READS IS OF BULK AT MOST 1048576: true; the input reads as it did. -/
def rollThreeUptoRow : OpenClaim := { program := "ytfebaciipigkmaa", sum := "e3ff94c9edc59a86f19cc9f09348e60880432a0e59141fb540237c9647a6a1ff", func := "barque/barquelaw04.RollThree", spec := "rollThree", apart := false, narrowed := true }
def RollThreeUptoSaid : Prop := rollThreeUptoRow.holds Try.pinned (OpenSpec.upto rollThreeSpec)

/-- 'barquelaw04.RollEnds', WHERE WHAT IT READS IS OF BULK AT MOST 1048576: true; the input reads as it did. -/
def rollEndsUptoRow : OpenClaim := { program := "ytfebaciipigkmaa", sum := "e3ff94c9edc59a86f19cc9f09348e60880432a0e59141fb540237c9647a6a1ff", func := "barque/barquelaw04.RollEnds", spec := "rollEnds", apart := false, narrowed := true }
def RollEndsUptoSaid : Prop := rollEndsUptoRow.holds Try.pinned (OpenSpec.upto rollEndsSpec)

/-- 'barquelaw04.RollNobody', WHERE WHAT IT READS IS OF BULK AT MOST 1048576: true; the input reads as it did. -/
def rollNobodyUptoRow : OpenClaim := { program := "ytfebaciipigkmaa", sum := "e3ff94c9edc59a86f19cc9f09348e60880432a0e59141fb540237c9647a6a1ff", func := "barque/barquelaw04.RollNobody", spec := "rollNobody", apart := false, narrowed := true }
def RollNobodyUptoSaid : Prop := rollNobodyUptoRow.holds Try.pinned (OpenSpec.upto rollNobodySpec)

/-- 'barquelaw04.RollAlls', WHERE WHAT IT READS IS OF BULK AT MOST 1048576: true; the input reads as it did. -/
def rollAllsUptoRow : OpenClaim := { program := "ytfebaciipigkmaa", sum := "e3ff94c9edc59a86f19cc9f09348e60880432a0e59141fb540237c9647a6a1ff", func := "barque/barquelaw04.RollAlls", spec := "rollAlls", apart := false, narrowed := true }
def RollAllsUptoSaid : Prop := rollAllsUptoRow.holds Try.pinned (OpenSpec.upto rollAllsSpec)

/-- 'barquelaw04.RollWindows', WHERE WHAT IT READS IS OF BULK AT MOST 1048576: true; the input reads as it did. -/
def rollWindowsUptoRow : OpenClaim := { program := "ytfebaciipigkmaa", sum := "e3ff94c9edc59a86f19cc9f09348e60880432a0e59141fb540237c9647a6a1ff", func := "barque/barquelaw04.RollWindows", spec := "rollWindows", apart := false, narrowed := true }
def RollWindowsUptoSaid : Prop := rollWindowsUptoRow.holds Try.pinned (OpenSpec.upto rollWindowsSpec)

/-- 'barquelaw04.RollFinds', WHERE WHAT IT READS IS OF BULK AT MOST 1048576: true; the input reads as it did. -/
def rollFindsUptoRow : OpenClaim := { program := "ytfebaciipigkmaa", sum := "e3ff94c9edc59a86f19cc9f09348e60880432a0e59141fb540237c9647a6a1ff", func := "barque/barquelaw04.RollFinds", spec := "rollFinds", apart := false, narrowed := true }
def RollFindsUptoSaid : Prop := rollFindsUptoRow.holds Try.pinned (OpenSpec.upto rollFindsSpec)

end Rows
end Go.Proofs.Ytfebaciipigkmaa
