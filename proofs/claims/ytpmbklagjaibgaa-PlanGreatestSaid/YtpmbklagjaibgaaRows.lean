/-
  No cell of these rows narrows 'for every input' (looked for: loops, veiled, ifaces, maps, wideKeys, modest, calm, conditions, laid).
  DERIVED. THE GIVEN ROWS OF THIS SEAT. 9 by the template 'for every input the law returns true; each argument reads behind the call as it read before'; 0 by the template 'total and deterministic' (their statements: YtpmbklagjaibgaaTotals.lean).
  GIVEN WITH THE SEED: the statements are not yours to turn. If you find one false, say at which input.
  Laid BY PROGRAM, IN A SANDBOX (cutbox-rows.mjs): the forced cells as the released guide's own fill.sh prints them over the translation 174fe38126bef095… (all of the seat's roots in one cut). By AI agents, Wed Nov 11 2026. No macro, syntax, notation, axiom, sorry.
-/
import Derived.Test.YtpmbklagjaibgaaChecked
import GoSem.Claim
import GoSem.ClaimJoined
import GoSem.ClaimMapViews
import Derived.JoinedTies
import Derived.KernelRfl
namespace Go.Proofs.Ytpmbklagjaibgaa
/- THE CELL 'sum', in the pinned program and in every row, IS THE sha256 OF THE DUMP (.gsa) THAT YtpmbklagjaibgaaProg.lean LOADS. Nothing in Lean hashes anything: it is a label: what it is worth is what the hold of that sum in a sandbox is worth. -/
noncomputable def Try.pinned : Pinned := { name := "ytpmbklagjaibgaa", sum := "174fe38126bef0951021e6612842e7123b431bde9e30bde11e2d89ffc0497fef", checked := Try.checked }
namespace Rows
def none {H : Type} : Left H := { results := [], args := [] }

/-- 'barquelaw19.PlanMajorities': WHATEVER THE INPUT: true; the input reads as it did. -/
def planMajoritiesSpec : ChangeSpec := { name := "planMajorities", fn := fun _ => fun
  | [d] => { results := [.lit (.bool true)], args := [d] }
  | _ => none }
def planMajoritiesRow : OpenClaim := { program := "ytpmbklagjaibgaa", sum := "174fe38126bef0951021e6612842e7123b431bde9e30bde11e2d89ffc0497fef", func := "barque/barquelaw19.PlanMajorities", spec := "planMajorities", recurses := true, apart := false }
def PlanMajoritiesSaid : Prop := planMajoritiesRow.holds Try.pinned (OpenSpec.ofChange planMajoritiesSpec)

/-- ITS FALSE NEIGHBOUR: 'it returns false'. Refute it at one input. -/
def planMajoritiesWrong : ChangeSpec := { name := "planMajorities", fn := fun _ => fun
  | [d] => { results := [.lit (.bool false)], args := [d] }
  | _ => none }
def PlanMajoritiesWrongFalsely : Prop := planMajoritiesRow.holds Try.pinned (OpenSpec.ofChange planMajoritiesWrong)

/-- 'barquelaw19.PlanReaches': WHATEVER THE INPUT: true; the input reads as it did. -/
def planReachesSpec : ChangeSpec := { name := "planReaches", fn := fun _ => fun
  | [d] => { results := [.lit (.bool true)], args := [d] }
  | _ => none }
def planReachesRow : OpenClaim := { program := "ytpmbklagjaibgaa", sum := "174fe38126bef0951021e6612842e7123b431bde9e30bde11e2d89ffc0497fef", func := "barque/barquelaw19.PlanReaches", spec := "planReaches", recurses := true, apart := false }
def PlanReachesSaid : Prop := planReachesRow.holds Try.pinned (OpenSpec.ofChange planReachesSpec)

/-- ITS FALSE NEIGHBOUR: 'it returns false'. Refute it at one input. -/
def planReachesWrong : ChangeSpec := { name := "planReaches", fn := fun _ => fun
  | [d] => { results := [.lit (.bool false)], args := [d] }
  | _ => none }
def PlanReachesWrongFalsely : Prop := planReachesRow.holds Try.pinned (OpenSpec.ofChange planReachesWrong)

/-- 'barquelaw19.PlanBallots': WHATEVER THE INPUT: true; the input reads as it did. -/
def planBallotsSpec : ChangeSpec := { name := "planBallots", fn := fun _ => fun
  | [d1, d2, d3, d4] => { results := [.lit (.bool true)], args := [d1, d2, d3, d4] }
  | _ => none }
def planBallotsRow : OpenClaim := { program := "ytpmbklagjaibgaa", sum := "174fe38126bef0951021e6612842e7123b431bde9e30bde11e2d89ffc0497fef", func := "barque/barquelaw19.PlanBallots", spec := "planBallots", recurses := true, apart := false }
def PlanBallotsSaid : Prop := planBallotsRow.holds Try.pinned (OpenSpec.ofChange planBallotsSpec)

/-- ITS FALSE NEIGHBOUR: 'it returns false'. Refute it at one input. -/
def planBallotsWrong : ChangeSpec := { name := "planBallots", fn := fun _ => fun
  | [d1, d2, d3, d4] => { results := [.lit (.bool false)], args := [d1, d2, d3, d4] }
  | _ => none }
def PlanBallotsWrongFalsely : Prop := planBallotsRow.holds Try.pinned (OpenSpec.ofChange planBallotsWrong)

/-- 'barquelaw19.PlanBases': WHATEVER THE INPUT: true; the input reads as it did. -/
def planBasesSpec : ChangeSpec := { name := "planBases", fn := fun _ => fun
  | [d1, d2, d3, d4] => { results := [.lit (.bool true)], args := [d1, d2, d3, d4] }
  | _ => none }
def planBasesRow : OpenClaim := { program := "ytpmbklagjaibgaa", sum := "174fe38126bef0951021e6612842e7123b431bde9e30bde11e2d89ffc0497fef", func := "barque/barquelaw19.PlanBases", spec := "planBases", recurses := true, apart := false }
def PlanBasesSaid : Prop := planBasesRow.holds Try.pinned (OpenSpec.ofChange planBasesSpec)

/-- ITS FALSE NEIGHBOUR: 'it returns false'. Refute it at one input. -/
def planBasesWrong : ChangeSpec := { name := "planBases", fn := fun _ => fun
  | [d1, d2, d3, d4] => { results := [.lit (.bool false)], args := [d1, d2, d3, d4] }
  | _ => none }
def PlanBasesWrongFalsely : Prop := planBasesRow.holds Try.pinned (OpenSpec.ofChange planBasesWrong)

/-- 'barquelaw19.PlanNobody': WHATEVER THE INPUT: true; the input reads as it did. -/
def planNobodySpec : ChangeSpec := { name := "planNobody", fn := fun _ => fun
  | [d] => { results := [.lit (.bool true)], args := [d] }
  | _ => none }
def planNobodyRow : OpenClaim := { program := "ytpmbklagjaibgaa", sum := "174fe38126bef0951021e6612842e7123b431bde9e30bde11e2d89ffc0497fef", func := "barque/barquelaw19.PlanNobody", spec := "planNobody", recurses := true, apart := false }
def PlanNobodySaid : Prop := planNobodyRow.holds Try.pinned (OpenSpec.ofChange planNobodySpec)

/-- ITS FALSE NEIGHBOUR: 'it returns false'. Refute it at one input. -/
def planNobodyWrong : ChangeSpec := { name := "planNobody", fn := fun _ => fun
  | [d] => { results := [.lit (.bool false)], args := [d] }
  | _ => none }
def PlanNobodyWrongFalsely : Prop := planNobodyRow.holds Try.pinned (OpenSpec.ofChange planNobodyWrong)

/-- 'barquelaw19.PlanTallies': WHATEVER THE INPUT: true; the input reads as it did. -/
def planTalliesSpec : ChangeSpec := { name := "planTallies", fn := fun _ => fun
  | [d1, d2] => { results := [.lit (.bool true)], args := [d1, d2] }
  | _ => none }
def planTalliesRow : OpenClaim := { program := "ytpmbklagjaibgaa", sum := "174fe38126bef0951021e6612842e7123b431bde9e30bde11e2d89ffc0497fef", func := "barque/barquelaw19.PlanTallies", spec := "planTallies", recurses := true, apart := false }
def PlanTalliesSaid : Prop := planTalliesRow.holds Try.pinned (OpenSpec.ofChange planTalliesSpec)

/-- ITS FALSE NEIGHBOUR: 'it returns false'. Refute it at one input. -/
def planTalliesWrong : ChangeSpec := { name := "planTallies", fn := fun _ => fun
  | [d1, d2] => { results := [.lit (.bool false)], args := [d1, d2] }
  | _ => none }
def PlanTalliesWrongFalsely : Prop := planTalliesRow.holds Try.pinned (OpenSpec.ofChange planTalliesWrong)

/-- 'barquelaw19.PlanMeets': WHATEVER THE INPUT: true; the input reads as it did. -/
def planMeetsSpec : ChangeSpec := { name := "planMeets", fn := fun _ => fun
  | [d1, d2, d3] => { results := [.lit (.bool true)], args := [d1, d2, d3] }
  | _ => none }
def planMeetsRow : OpenClaim := { program := "ytpmbklagjaibgaa", sum := "174fe38126bef0951021e6612842e7123b431bde9e30bde11e2d89ffc0497fef", func := "barque/barquelaw19.PlanMeets", spec := "planMeets", recurses := true, apart := false }
def PlanMeetsSaid : Prop := planMeetsRow.holds Try.pinned (OpenSpec.ofChange planMeetsSpec)

/-- ITS FALSE NEIGHBOUR: 'it returns false'. Refute it at one input. -/
def planMeetsWrong : ChangeSpec := { name := "planMeets", fn := fun _ => fun
  | [d1, d2, d3] => { results := [.lit (.bool false)], args := [d1, d2, d3] }
  | _ => none }
def PlanMeetsWrongFalsely : Prop := planMeetsRow.holds Try.pinned (OpenSpec.ofChange planMeetsWrong)

/-- 'barquelaw19.PlanMerges': WHATEVER THE INPUT: true; the input reads as it did. -/
def planMergesSpec : ChangeSpec := { name := "planMerges", fn := fun _ => fun
  | [d] => { results := [.lit (.bool true)], args := [d] }
  | _ => none }
def planMergesRow : OpenClaim := { program := "ytpmbklagjaibgaa", sum := "174fe38126bef0951021e6612842e7123b431bde9e30bde11e2d89ffc0497fef", func := "barque/barquelaw19.PlanMerges", spec := "planMerges", recurses := true, apart := false }
def PlanMergesSaid : Prop := planMergesRow.holds Try.pinned (OpenSpec.ofChange planMergesSpec)

/-- ITS FALSE NEIGHBOUR: 'it returns false'. Refute it at one input. -/
def planMergesWrong : ChangeSpec := { name := "planMerges", fn := fun _ => fun
  | [d] => { results := [.lit (.bool false)], args := [d] }
  | _ => none }
def PlanMergesWrongFalsely : Prop := planMergesRow.holds Try.pinned (OpenSpec.ofChange planMergesWrong)

/-- 'barquelaw19.PlanGreatest': WHATEVER THE INPUT: true; the input reads as it did. -/
def planGreatestSpec : ChangeSpec := { name := "planGreatest", fn := fun _ => fun
  | [d] => { results := [.lit (.bool true)], args := [d] }
  | _ => none }
def planGreatestRow : OpenClaim := { program := "ytpmbklagjaibgaa", sum := "174fe38126bef0951021e6612842e7123b431bde9e30bde11e2d89ffc0497fef", func := "barque/barquelaw19.PlanGreatest", spec := "planGreatest", recurses := true, apart := false }
def PlanGreatestSaid : Prop := planGreatestRow.holds Try.pinned (OpenSpec.ofChange planGreatestSpec)

/-- ITS FALSE NEIGHBOUR: 'it returns false'. Refute it at one input. -/
def planGreatestWrong : ChangeSpec := { name := "planGreatest", fn := fun _ => fun
  | [d] => { results := [.lit (.bool false)], args := [d] }
  | _ => none }
def PlanGreatestWrongFalsely : Prop := planGreatestRow.holds Try.pinned (OpenSpec.ofChange planGreatestWrong)

/- THE SECOND FORM. 'bulk': how many values and letters a reading holds, each counted each time it is reached (what is shared counts as often as it is met; a slice's spare places count too). A statement '..UptoSaid' is the law's where the arguments, and the package variables that the reading takes, are together of bulk at most 1048576: NARROWER than '..Said'. Prove '..Said' where nothing that the law and all that it calls make is longer than what came in: it says more and counts as full. Else prove '..UptoSaid'. A law counts once. -/
mutual
def uptoBulk {H : Type} : DataW H → Nat
  | .lit (.string bytes) => bytes.length + 1
  | .lit _ => 1
  | .nil => 1
  | .ptr d => uptoBulk d + 1
  | .slice elems spare => uptoBulkAll elems + uptoBulkAll spare + 1
  | .agg parts => uptoBulkAll parts + 1
  | .iface _ d => uptoBulk d + 1
  | .map entries => uptoBulkEntries entries + 1
  | .held _ => 1
def uptoBulkAll {H : Type} : List (DataW H) → Nat
  | [] => 0
  | d :: r => uptoBulk d + uptoBulkAll r
def uptoBulkEntries {H : Type} : List (Lit × DataW H) → Nat
  | [] => 0
  | x :: r => uptoBulkEntry x + uptoBulkEntries r
def uptoBulkEntry {H : Type} : Lit × DataW H → Nat
  | (.string bytes, d) => bytes.length + uptoBulk d + 1
  | (_, d) => uptoBulk d + 1
 end
def uptoSmall : (H : Type) → List (DataW H) → Bool := fun _ ds => decide (uptoBulkAll ds ≤ 1048576)
def OpenSpec.upto (s : _root_.Go.ChangeSpec) : _root_.Go.OpenSpec := { _root_.Go.OpenSpec.ofChange s with cond := some uptoSmall }

/-- 'barquelaw19.PlanMajorities', WHERE WHAT IT READS IS OF BULK AT MOST 1048576: true; the input reads as it did. -/
def planMajoritiesUptoRow : OpenClaim := { program := "ytpmbklagjaibgaa", sum := "174fe38126bef0951021e6612842e7123b431bde9e30bde11e2d89ffc0497fef", func := "barque/barquelaw19.PlanMajorities", spec := "planMajorities", recurses := true, apart := false, narrowed := true }
def PlanMajoritiesUptoSaid : Prop := planMajoritiesUptoRow.holds Try.pinned (OpenSpec.upto planMajoritiesSpec)

/-- 'barquelaw19.PlanReaches', WHERE WHAT IT READS IS OF BULK AT MOST 1048576: true; the input reads as it did. -/
def planReachesUptoRow : OpenClaim := { program := "ytpmbklagjaibgaa", sum := "174fe38126bef0951021e6612842e7123b431bde9e30bde11e2d89ffc0497fef", func := "barque/barquelaw19.PlanReaches", spec := "planReaches", recurses := true, apart := false, narrowed := true }
def PlanReachesUptoSaid : Prop := planReachesUptoRow.holds Try.pinned (OpenSpec.upto planReachesSpec)

/-- 'barquelaw19.PlanBallots', WHERE WHAT IT READS IS OF BULK AT MOST 1048576: true; the input reads as it did. -/
def planBallotsUptoRow : OpenClaim := { program := "ytpmbklagjaibgaa", sum := "174fe38126bef0951021e6612842e7123b431bde9e30bde11e2d89ffc0497fef", func := "barque/barquelaw19.PlanBallots", spec := "planBallots", recurses := true, apart := false, narrowed := true }
def PlanBallotsUptoSaid : Prop := planBallotsUptoRow.holds Try.pinned (OpenSpec.upto planBallotsSpec)

/-- 'barquelaw19.PlanBases', WHERE WHAT IT READS IS OF BULK AT MOST 1048576: true; the input reads as it did. -/
def planBasesUptoRow : OpenClaim := { program := "ytpmbklagjaibgaa", sum := "174fe38126bef0951021e6612842e7123b431bde9e30bde11e2d89ffc0497fef", func := "barque/barquelaw19.PlanBases", spec := "planBases", recurses := true, apart := false, narrowed := true }
def PlanBasesUptoSaid : Prop := planBasesUptoRow.holds Try.pinned (OpenSpec.upto planBasesSpec)

/-- 'barquelaw19.PlanNobody', WHERE WHAT IT READS IS OF BULK AT MOST 1048576: true; the input reads as it did. -/
def planNobodyUptoRow : OpenClaim := { program := "ytpmbklagjaibgaa", sum := "174fe38126bef0951021e6612842e7123b431bde9e30bde11e2d89ffc0497fef", func := "barque/barquelaw19.PlanNobody", spec := "planNobody", recurses := true, apart := false, narrowed := true }
def PlanNobodyUptoSaid : Prop := planNobodyUptoRow.holds Try.pinned (OpenSpec.upto planNobodySpec)

/-- 'barquelaw19.PlanTallies', WHERE WHAT IT READS IS OF BULK AT MOST 1048576: true; the input reads as it did. -/
def planTalliesUptoRow : OpenClaim := { program := "ytpmbklagjaibgaa", sum := "174fe38126bef0951021e6612842e7123b431bde9e30bde11e2d89ffc0497fef", func := "barque/barquelaw19.PlanTallies", spec := "planTallies", recurses := true, apart := false, narrowed := true }
def PlanTalliesUptoSaid : Prop := planTalliesUptoRow.holds Try.pinned (OpenSpec.upto planTalliesSpec)

/-- 'barquelaw19.PlanMeets', WHERE WHAT IT READS IS OF BULK AT MOST 1048576: true; the input reads as it did. -/
def planMeetsUptoRow : OpenClaim := { program := "ytpmbklagjaibgaa", sum := "174fe38126bef0951021e6612842e7123b431bde9e30bde11e2d89ffc0497fef", func := "barque/barquelaw19.PlanMeets", spec := "planMeets", recurses := true, apart := false, narrowed := true }
def PlanMeetsUptoSaid : Prop := planMeetsUptoRow.holds Try.pinned (OpenSpec.upto planMeetsSpec)

/-- 'barquelaw19.PlanMerges', WHERE WHAT IT READS IS OF BULK AT MOST 1048576: true; the input reads as it did. -/
def planMergesUptoRow : OpenClaim := { program := "ytpmbklagjaibgaa", sum := "174fe38126bef0951021e6612842e7123b431bde9e30bde11e2d89ffc0497fef", func := "barque/barquelaw19.PlanMerges", spec := "planMerges", recurses := true, apart := false, narrowed := true }
def PlanMergesUptoSaid : Prop := planMergesUptoRow.holds Try.pinned (OpenSpec.upto planMergesSpec)

/-- 'barquelaw19.PlanGreatest', WHERE WHAT IT READS IS OF BULK AT MOST 1048576: true; the input reads as it did. -/
def planGreatestUptoRow : OpenClaim := { program := "ytpmbklagjaibgaa", sum := "174fe38126bef0951021e6612842e7123b431bde9e30bde11e2d89ffc0497fef", func := "barque/barquelaw19.PlanGreatest", spec := "planGreatest", recurses := true, apart := false, narrowed := true }
def PlanGreatestUptoSaid : Prop := planGreatestUptoRow.holds Try.pinned (OpenSpec.upto planGreatestSpec)

end Rows
end Go.Proofs.Ytpmbklagjaibgaa
