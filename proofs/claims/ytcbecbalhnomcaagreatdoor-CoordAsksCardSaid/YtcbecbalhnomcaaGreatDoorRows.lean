/-
  NARROWER THAN 'FOR EVERY INPUT', by the rows' own cells (each row's printed sentence says how): CoordStale: laid · CoordNobody: laid · CoordNews: laid · CoordAsks: laid · CoordPatience: laid · CoordPrepares: laid · CoordBacked: laid · CoordConfirmed: laid · CoordServes: laid.
  DERIVED. THE GIVEN ROWS OF THIS SEAT. 9 by the template 'for every input the law returns true; each argument reads behind the call as it read before'; 0 by the template 'total and deterministic' (their statements: YtcbecbalhnomcaaGreatDoorTotals.lean).
  GIVEN WITH THE SEED: the statements are not yours to turn. If you find one false, say at which input.
  Laid BY PROGRAM, IN A SANDBOX (cutbox-rows.mjs): the forced cells as the released guide's own fill.sh prints them over the translation ecb4aa9035b6a401… (all of the seat's roots in one cut). By AI agents, Wed Nov 11 2026. No macro, syntax, notation, axiom, sorry.
-/
import Derived.Test.YtcbecbalhnomcaaGreatDoorChecked
import GoSem.PinnedTables
import GoSem.Claim
import GoSem.ClaimJoined
import GoSem.ClaimMapViews
import Derived.JoinedTies
import Derived.KernelRfl
namespace Go.Proofs.YtcbecbalhnomcaaGreatDoor
/- THE CELL 'sum', in the pinned program and in every row, IS THE sha256 OF THE DUMP (.gsa) THAT YtcbecbalhnomcaaGreatDoorProg.lean LOADS. Nothing in Lean hashes anything: it is a label: what it is worth is what the hold of that sum in a sandbox is worth. -/
noncomputable def Tryz.pinned : Pinned := { name := "ytcbecbalhnomcaagreatdoor", sum := "ecb4aa9035b6a4013ce182a4163bdd84a2c733e918b44cab594e447a5af81a3b", checked := Tryz.checked }
namespace Rows
def none {H : Type} : Left H := { results := [], args := [] }

/- WHAT THE LISTED PACKAGE-LEVEL VARIABLES READ AS WHEN THE CALL BEGINS. Each datum BY PROGRAM (the guide's laid-datum.mjs) off the statement by which the dump's own 'gosem.cut.vars' lays the variable. In a bare row this is a premise. The card (YtcbecbalhnomcaaGreatDoorCards.lean) ties it to the program's text. -/
def laid_unicode_utf8_acceptRanges {H : Type} : DataW H := .agg [.agg [.lit (.int .u8 128), .lit (.int .u8 191)], .agg [.lit (.int .u8 160), .lit (.int .u8 191)], .agg [.lit (.int .u8 128), .lit (.int .u8 159)], .agg [.lit (.int .u8 144), .lit (.int .u8 191)], .agg [.lit (.int .u8 128), .lit (.int .u8 143)], .agg [.lit (.int .u8 0), .lit (.int .u8 0)], .agg [.lit (.int .u8 0), .lit (.int .u8 0)], .agg [.lit (.int .u8 0), .lit (.int .u8 0)], .agg [.lit (.int .u8 0), .lit (.int .u8 0)], .agg [.lit (.int .u8 0), .lit (.int .u8 0)], .agg [.lit (.int .u8 0), .lit (.int .u8 0)], .agg [.lit (.int .u8 0), .lit (.int .u8 0)], .agg [.lit (.int .u8 0), .lit (.int .u8 0)], .agg [.lit (.int .u8 0), .lit (.int .u8 0)], .agg [.lit (.int .u8 0), .lit (.int .u8 0)], .agg [.lit (.int .u8 0), .lit (.int .u8 0)]]
/-- One of Go's own tables, pinned by name: the form's constant. -/
def laid_unicode_utf8_first : DataW Unit := Go.Pinned.utf8First

/-- 'barquelaw20.CoordStale': WHATEVER THE INPUT: true; the input reads as it did. -/
def coordStaleSpec : ChangeSpec := { name := "coordStale", fn := fun _ => fun
  | [d1, d2, d3] => { results := [.lit (.bool true)], args := [d1, d2, d3] }
  | _ => none }
def coordStaleRow : OpenClaim := { program := "ytcbecbalhnomcaagreatdoor", sum := "ecb4aa9035b6a4013ce182a4163bdd84a2c733e918b44cab594e447a5af81a3b", func := "barque/barquelaw20.CoordStale", spec := "coordStale", inPlace := ["internal/bytealg.CountString", "internal/bytealg.IndexByteString", "internal/bytealg.IndexString", "internal/abi.NoEscape", "internal/bytealg.MakeNoZero"], unfollowed := true, recurses := true, named := ["unicode/utf8.first", "unicode/utf8.acceptRanges", "internal/bytealg.MaxLen"], apart := false, laid := [("unicode/utf8.acceptRanges", laid_unicode_utf8_acceptRanges), ("unicode/utf8.first", laid_unicode_utf8_first)] }
def CoordStaleSaid : Prop := coordStaleRow.holds Tryz.pinned (OpenSpec.ofChange coordStaleSpec)

/-- ITS FALSE NEIGHBOUR: 'it returns false'. Refute it at one input. -/
def coordStaleWrong : ChangeSpec := { name := "coordStale", fn := fun _ => fun
  | [d1, d2, d3] => { results := [.lit (.bool false)], args := [d1, d2, d3] }
  | _ => none }
def CoordStaleWrongFalsely : Prop := coordStaleRow.holds Tryz.pinned (OpenSpec.ofChange coordStaleWrong)

/-- 'barquelaw20.CoordNobody': WHATEVER THE INPUT: true; the input reads as it did. -/
def coordNobodySpec : ChangeSpec := { name := "coordNobody", fn := fun _ => fun
  | [d1, d2] => { results := [.lit (.bool true)], args := [d1, d2] }
  | _ => none }
def coordNobodyRow : OpenClaim := { program := "ytcbecbalhnomcaagreatdoor", sum := "ecb4aa9035b6a4013ce182a4163bdd84a2c733e918b44cab594e447a5af81a3b", func := "barque/barquelaw20.CoordNobody", spec := "coordNobody", inPlace := ["internal/abi.NoEscape", "internal/bytealg.MakeNoZero", "internal/bytealg.CountString", "internal/bytealg.IndexByteString", "internal/bytealg.IndexString"], unfollowed := true, recurses := true, named := ["unicode/utf8.first", "unicode/utf8.acceptRanges", "internal/bytealg.MaxLen"], apart := false, laid := [("unicode/utf8.acceptRanges", laid_unicode_utf8_acceptRanges), ("unicode/utf8.first", laid_unicode_utf8_first)] }
def CoordNobodySaid : Prop := coordNobodyRow.holds Tryz.pinned (OpenSpec.ofChange coordNobodySpec)

/-- ITS FALSE NEIGHBOUR: 'it returns false'. Refute it at one input. -/
def coordNobodyWrong : ChangeSpec := { name := "coordNobody", fn := fun _ => fun
  | [d1, d2] => { results := [.lit (.bool false)], args := [d1, d2] }
  | _ => none }
def CoordNobodyWrongFalsely : Prop := coordNobodyRow.holds Tryz.pinned (OpenSpec.ofChange coordNobodyWrong)

/-- 'barquelaw20.CoordNews': WHATEVER THE INPUT: true; the input reads as it did. -/
def coordNewsSpec : ChangeSpec := { name := "coordNews", fn := fun _ => fun
  | [d1, d2, d3] => { results := [.lit (.bool true)], args := [d1, d2, d3] }
  | _ => none }
def coordNewsRow : OpenClaim := { program := "ytcbecbalhnomcaagreatdoor", sum := "ecb4aa9035b6a4013ce182a4163bdd84a2c733e918b44cab594e447a5af81a3b", func := "barque/barquelaw20.CoordNews", spec := "coordNews", inPlace := ["internal/bytealg.CountString", "internal/bytealg.IndexByteString", "internal/bytealg.IndexString", "internal/abi.NoEscape"], unfollowed := true, recurses := true, named := ["unicode/utf8.first", "unicode/utf8.acceptRanges", "internal/bytealg.MaxLen"], apart := false, laid := [("unicode/utf8.acceptRanges", laid_unicode_utf8_acceptRanges), ("unicode/utf8.first", laid_unicode_utf8_first)] }
def CoordNewsSaid : Prop := coordNewsRow.holds Tryz.pinned (OpenSpec.ofChange coordNewsSpec)

/-- ITS FALSE NEIGHBOUR: 'it returns false'. Refute it at one input. -/
def coordNewsWrong : ChangeSpec := { name := "coordNews", fn := fun _ => fun
  | [d1, d2, d3] => { results := [.lit (.bool false)], args := [d1, d2, d3] }
  | _ => none }
def CoordNewsWrongFalsely : Prop := coordNewsRow.holds Tryz.pinned (OpenSpec.ofChange coordNewsWrong)

/-- 'barquelaw20.CoordAsks': WHATEVER THE INPUT: true; the input reads as it did. -/
def coordAsksSpec : ChangeSpec := { name := "coordAsks", fn := fun _ => fun
  | [d1, d2] => { results := [.lit (.bool true)], args := [d1, d2] }
  | _ => none }
def coordAsksRow : OpenClaim := { program := "ytcbecbalhnomcaagreatdoor", sum := "ecb4aa9035b6a4013ce182a4163bdd84a2c733e918b44cab594e447a5af81a3b", func := "barque/barquelaw20.CoordAsks", spec := "coordAsks", inPlace := ["internal/bytealg.CountString", "internal/bytealg.IndexByteString", "internal/bytealg.IndexString", "internal/abi.NoEscape"], unfollowed := true, recurses := true, named := ["unicode/utf8.first", "unicode/utf8.acceptRanges", "internal/bytealg.MaxLen"], apart := false, laid := [("unicode/utf8.acceptRanges", laid_unicode_utf8_acceptRanges), ("unicode/utf8.first", laid_unicode_utf8_first)] }
def CoordAsksSaid : Prop := coordAsksRow.holds Tryz.pinned (OpenSpec.ofChange coordAsksSpec)

/-- ITS FALSE NEIGHBOUR: 'it returns false'. Refute it at one input. -/
def coordAsksWrong : ChangeSpec := { name := "coordAsks", fn := fun _ => fun
  | [d1, d2] => { results := [.lit (.bool false)], args := [d1, d2] }
  | _ => none }
def CoordAsksWrongFalsely : Prop := coordAsksRow.holds Tryz.pinned (OpenSpec.ofChange coordAsksWrong)

/-- 'barquelaw20.CoordPatience': WHATEVER THE INPUT: true; the input reads as it did. -/
def coordPatienceSpec : ChangeSpec := { name := "coordPatience", fn := fun _ => fun
  | [d1, d2] => { results := [.lit (.bool true)], args := [d1, d2] }
  | _ => none }
def coordPatienceRow : OpenClaim := { program := "ytcbecbalhnomcaagreatdoor", sum := "ecb4aa9035b6a4013ce182a4163bdd84a2c733e918b44cab594e447a5af81a3b", func := "barque/barquelaw20.CoordPatience", spec := "coordPatience", inPlace := ["internal/bytealg.CountString", "internal/bytealg.IndexByteString", "internal/bytealg.IndexString", "internal/abi.NoEscape"], unfollowed := true, recurses := true, named := ["unicode/utf8.first", "unicode/utf8.acceptRanges", "internal/bytealg.MaxLen"], apart := false, laid := [("unicode/utf8.acceptRanges", laid_unicode_utf8_acceptRanges), ("unicode/utf8.first", laid_unicode_utf8_first)] }
def CoordPatienceSaid : Prop := coordPatienceRow.holds Tryz.pinned (OpenSpec.ofChange coordPatienceSpec)

/-- ITS FALSE NEIGHBOUR: 'it returns false'. Refute it at one input. -/
def coordPatienceWrong : ChangeSpec := { name := "coordPatience", fn := fun _ => fun
  | [d1, d2] => { results := [.lit (.bool false)], args := [d1, d2] }
  | _ => none }
def CoordPatienceWrongFalsely : Prop := coordPatienceRow.holds Tryz.pinned (OpenSpec.ofChange coordPatienceWrong)

/-- 'barquelaw20.CoordPrepares': WHATEVER THE INPUT: true; the input reads as it did. -/
def coordPreparesSpec : ChangeSpec := { name := "coordPrepares", fn := fun _ => fun
  | [d1, d2, d3] => { results := [.lit (.bool true)], args := [d1, d2, d3] }
  | _ => none }
def coordPreparesRow : OpenClaim := { program := "ytcbecbalhnomcaagreatdoor", sum := "ecb4aa9035b6a4013ce182a4163bdd84a2c733e918b44cab594e447a5af81a3b", func := "barque/barquelaw20.CoordPrepares", spec := "coordPrepares", inPlace := ["internal/bytealg.CountString", "internal/bytealg.IndexByteString", "internal/bytealg.IndexString", "internal/abi.NoEscape", "internal/bytealg.MakeNoZero"], unfollowed := true, recurses := true, named := ["unicode/utf8.first", "unicode/utf8.acceptRanges", "internal/bytealg.MaxLen"], apart := false, laid := [("unicode/utf8.acceptRanges", laid_unicode_utf8_acceptRanges), ("unicode/utf8.first", laid_unicode_utf8_first)] }
def CoordPreparesSaid : Prop := coordPreparesRow.holds Tryz.pinned (OpenSpec.ofChange coordPreparesSpec)

/-- ITS FALSE NEIGHBOUR: 'it returns false'. Refute it at one input. -/
def coordPreparesWrong : ChangeSpec := { name := "coordPrepares", fn := fun _ => fun
  | [d1, d2, d3] => { results := [.lit (.bool false)], args := [d1, d2, d3] }
  | _ => none }
def CoordPreparesWrongFalsely : Prop := coordPreparesRow.holds Tryz.pinned (OpenSpec.ofChange coordPreparesWrong)

/-- 'barquelaw20.CoordBacked': WHATEVER THE INPUT: true; the input reads as it did. -/
def coordBackedSpec : ChangeSpec := { name := "coordBacked", fn := fun _ => fun
  | [d1, d2] => { results := [.lit (.bool true)], args := [d1, d2] }
  | _ => none }
def coordBackedRow : OpenClaim := { program := "ytcbecbalhnomcaagreatdoor", sum := "ecb4aa9035b6a4013ce182a4163bdd84a2c733e918b44cab594e447a5af81a3b", func := "barque/barquelaw20.CoordBacked", spec := "coordBacked", inPlace := ["internal/bytealg.CountString", "internal/bytealg.IndexByteString", "internal/bytealg.IndexString", "internal/abi.NoEscape", "internal/bytealg.MakeNoZero"], unfollowed := true, recurses := true, named := ["unicode/utf8.first", "unicode/utf8.acceptRanges", "internal/bytealg.MaxLen"], apart := false, laid := [("unicode/utf8.acceptRanges", laid_unicode_utf8_acceptRanges), ("unicode/utf8.first", laid_unicode_utf8_first)] }
def CoordBackedSaid : Prop := coordBackedRow.holds Tryz.pinned (OpenSpec.ofChange coordBackedSpec)

/-- ITS FALSE NEIGHBOUR: 'it returns false'. Refute it at one input. -/
def coordBackedWrong : ChangeSpec := { name := "coordBacked", fn := fun _ => fun
  | [d1, d2] => { results := [.lit (.bool false)], args := [d1, d2] }
  | _ => none }
def CoordBackedWrongFalsely : Prop := coordBackedRow.holds Tryz.pinned (OpenSpec.ofChange coordBackedWrong)

/-- 'barquelaw20.CoordConfirmed': WHATEVER THE INPUT: true; the input reads as it did. -/
def coordConfirmedSpec : ChangeSpec := { name := "coordConfirmed", fn := fun _ => fun
  | [d1, d2] => { results := [.lit (.bool true)], args := [d1, d2] }
  | _ => none }
def coordConfirmedRow : OpenClaim := { program := "ytcbecbalhnomcaagreatdoor", sum := "ecb4aa9035b6a4013ce182a4163bdd84a2c733e918b44cab594e447a5af81a3b", func := "barque/barquelaw20.CoordConfirmed", spec := "coordConfirmed", inPlace := ["internal/bytealg.CountString", "internal/bytealg.IndexByteString", "internal/bytealg.IndexString", "internal/abi.NoEscape", "internal/bytealg.MakeNoZero"], unfollowed := true, recurses := true, named := ["unicode/utf8.first", "unicode/utf8.acceptRanges", "internal/bytealg.MaxLen"], apart := false, laid := [("unicode/utf8.acceptRanges", laid_unicode_utf8_acceptRanges), ("unicode/utf8.first", laid_unicode_utf8_first)] }
def CoordConfirmedSaid : Prop := coordConfirmedRow.holds Tryz.pinned (OpenSpec.ofChange coordConfirmedSpec)

/-- ITS FALSE NEIGHBOUR: 'it returns false'. Refute it at one input. -/
def coordConfirmedWrong : ChangeSpec := { name := "coordConfirmed", fn := fun _ => fun
  | [d1, d2] => { results := [.lit (.bool false)], args := [d1, d2] }
  | _ => none }
def CoordConfirmedWrongFalsely : Prop := coordConfirmedRow.holds Tryz.pinned (OpenSpec.ofChange coordConfirmedWrong)

/-- 'barquelaw20.CoordServes': WHATEVER THE INPUT: true; the input reads as it did. -/
def coordServesSpec : ChangeSpec := { name := "coordServes", fn := fun _ => fun
  | [d1, d2] => { results := [.lit (.bool true)], args := [d1, d2] }
  | _ => none }
def coordServesRow : OpenClaim := { program := "ytcbecbalhnomcaagreatdoor", sum := "ecb4aa9035b6a4013ce182a4163bdd84a2c733e918b44cab594e447a5af81a3b", func := "barque/barquelaw20.CoordServes", spec := "coordServes", inPlace := ["internal/bytealg.CountString", "internal/bytealg.IndexByteString", "internal/bytealg.IndexString", "internal/abi.NoEscape", "internal/bytealg.MakeNoZero"], unfollowed := true, recurses := true, named := ["unicode/utf8.first", "unicode/utf8.acceptRanges", "internal/bytealg.MaxLen"], apart := false, laid := [("unicode/utf8.acceptRanges", laid_unicode_utf8_acceptRanges), ("unicode/utf8.first", laid_unicode_utf8_first)] }
def CoordServesSaid : Prop := coordServesRow.holds Tryz.pinned (OpenSpec.ofChange coordServesSpec)

/-- ITS FALSE NEIGHBOUR: 'it returns false'. Refute it at one input. -/
def coordServesWrong : ChangeSpec := { name := "coordServes", fn := fun _ => fun
  | [d1, d2] => { results := [.lit (.bool false)], args := [d1, d2] }
  | _ => none }
def CoordServesWrongFalsely : Prop := coordServesRow.holds Tryz.pinned (OpenSpec.ofChange coordServesWrong)

/- THE SECOND FORM. 'bulk': how many values and letters a reading holds, each counted each time it is reached (what is shared counts as often as it is met; a slice's spare places count too). A statement '..UptoSaid' is the law's where the arguments, and the package variables that the reading takes, are together of bulk at most 1048576: NARROWER than '..Said'. Prove '..Said' where nothing that the law and all that it calls make is longer than what came in: it says more and counts as full. Else prove '..UptoSaid'. A law counts once. -/
mutual
def uptoBulk {H : Type} : DataW H → Nat
  | .lit (.string bytes) => bytes.length + 1
  | .lit _ => 1
  | .nil => 1
  | .ptr d => uptoBulk d + 1
  | .slice elems spare => uptoBulkAll elems + uptoBulkAll spare + 1
  | .agg parts => uptoBulkAll parts + 1
  | .iface _ d => uptoBulk d + 1
  | .map entries => uptoBulkEntries entries + 1
  | .held _ => 1
def uptoBulkAll {H : Type} : List (DataW H) → Nat
  | [] => 0
  | d :: r => uptoBulk d + uptoBulkAll r
def uptoBulkEntries {H : Type} : List (Lit × DataW H) → Nat
  | [] => 0
  | x :: r => uptoBulkEntry x + uptoBulkEntries r
def uptoBulkEntry {H : Type} : Lit × DataW H → Nat
  | (.string bytes, d) => bytes.length + uptoBulk d + 1
  | (_, d) => uptoBulk d + 1
 end
def uptoSmall : (H : Type) → List (DataW H) → Bool := fun _ ds => decide (uptoBulkAll ds ≤ 1048576)
def OpenSpec.upto (s : _root_.Go.ChangeSpec) : _root_.Go.OpenSpec := { _root_.Go.OpenSpec.ofChange s with cond := some uptoSmall }

/-- 'barquelaw20.CoordStale', WHERE WHAT IT READS IS OF BULK AT MOST 1048576: true; the input reads as it did. -/
def coordStaleUptoRow : OpenClaim := { program := "ytcbecbalhnomcaagreatdoor", sum := "ecb4aa9035b6a4013ce182a4163bdd84a2c733e918b44cab594e447a5af81a3b", func := "barque/barquelaw20.CoordStale", spec := "coordStale", inPlace := ["internal/bytealg.CountString", "internal/bytealg.IndexByteString", "internal/bytealg.IndexString", "internal/abi.NoEscape", "internal/bytealg.MakeNoZero"], unfollowed := true, recurses := true, named := ["unicode/utf8.first", "unicode/utf8.acceptRanges", "internal/bytealg.MaxLen"], apart := false, laid := [("unicode/utf8.acceptRanges", laid_unicode_utf8_acceptRanges), ("unicode/utf8.first", laid_unicode_utf8_first)], narrowed := true }
def CoordStaleUptoSaid : Prop := coordStaleUptoRow.holds Tryz.pinned (OpenSpec.upto coordStaleSpec)

/-- 'barquelaw20.CoordNobody', WHERE WHAT IT READS IS OF BULK AT MOST 1048576: true; the input reads as it did. -/
def coordNobodyUptoRow : OpenClaim := { program := "ytcbecbalhnomcaagreatdoor", sum := "ecb4aa9035b6a4013ce182a4163bdd84a2c733e918b44cab594e447a5af81a3b", func := "barque/barquelaw20.CoordNobody", spec := "coordNobody", inPlace := ["internal/abi.NoEscape", "internal/bytealg.MakeNoZero", "internal/bytealg.CountString", "internal/bytealg.IndexByteString", "internal/bytealg.IndexString"], unfollowed := true, recurses := true, named := ["unicode/utf8.first", "unicode/utf8.acceptRanges", "internal/bytealg.MaxLen"], apart := false, laid := [("unicode/utf8.acceptRanges", laid_unicode_utf8_acceptRanges), ("unicode/utf8.first", laid_unicode_utf8_first)], narrowed := true }
def CoordNobodyUptoSaid : Prop := coordNobodyUptoRow.holds Tryz.pinned (OpenSpec.upto coordNobodySpec)

/-- 'barquelaw20.CoordNews', WHERE WHAT IT READS IS OF BULK AT MOST 1048576: true; the input reads as it did. -/
def coordNewsUptoRow : OpenClaim := { program := "ytcbecbalhnomcaagreatdoor", sum := "ecb4aa9035b6a4013ce182a4163bdd84a2c733e918b44cab594e447a5af81a3b", func := "barque/barquelaw20.CoordNews", spec := "coordNews", inPlace := ["internal/bytealg.CountString", "internal/bytealg.IndexByteString", "internal/bytealg.IndexString", "internal/abi.NoEscape"], unfollowed := true, recurses := true, named := ["unicode/utf8.first", "unicode/utf8.acceptRanges", "internal/bytealg.MaxLen"], apart := false, laid := [("unicode/utf8.acceptRanges", laid_unicode_utf8_acceptRanges), ("unicode/utf8.first", laid_unicode_utf8_first)], narrowed := true }
def CoordNewsUptoSaid : Prop := coordNewsUptoRow.holds Tryz.pinned (OpenSpec.upto coordNewsSpec)

/-- 'barquelaw20.CoordAsks', WHERE WHAT IT READS IS OF BULK AT MOST 1048576: true; the input reads as it did. -/
def coordAsksUptoRow : OpenClaim := { program := "ytcbecbalhnomcaagreatdoor", sum := "ecb4aa9035b6a4013ce182a4163bdd84a2c733e918b44cab594e447a5af81a3b", func := "barque/barquelaw20.CoordAsks", spec := "coordAsks", inPlace := ["internal/bytealg.CountString", "internal/bytealg.IndexByteString", "internal/bytealg.IndexString", "internal/abi.NoEscape"], unfollowed := true, recurses := true, named := ["unicode/utf8.first", "unicode/utf8.acceptRanges", "internal/bytealg.MaxLen"], apart := false, laid := [("unicode/utf8.acceptRanges", laid_unicode_utf8_acceptRanges), ("unicode/utf8.first", laid_unicode_utf8_first)], narrowed := true }
def CoordAsksUptoSaid : Prop := coordAsksUptoRow.holds Tryz.pinned (OpenSpec.upto coordAsksSpec)

/-- 'barquelaw20.CoordPatience', WHERE WHAT IT READS IS OF BULK AT MOST 1048576: true; the input reads as it did. -/
def coordPatienceUptoRow : OpenClaim := { program := "ytcbecbalhnomcaagreatdoor", sum := "ecb4aa9035b6a4013ce182a4163bdd84a2c733e918b44cab594e447a5af81a3b", func := "barque/barquelaw20.CoordPatience", spec := "coordPatience", inPlace := ["internal/bytealg.CountString", "internal/bytealg.IndexByteString", "internal/bytealg.IndexString", "internal/abi.NoEscape"], unfollowed := true, recurses := true, named := ["unicode/utf8.first", "unicode/utf8.acceptRanges", "internal/bytealg.MaxLen"], apart := false, laid := [("unicode/utf8.acceptRanges", laid_unicode_utf8_acceptRanges), ("unicode/utf8.first", laid_unicode_utf8_first)], narrowed := true }
def CoordPatienceUptoSaid : Prop := coordPatienceUptoRow.holds Tryz.pinned (OpenSpec.upto coordPatienceSpec)

/-- 'barquelaw20.CoordPrepares', WHERE WHAT IT READS IS OF BULK AT MOST 1048576: true; the input reads as it did. -/
def coordPreparesUptoRow : OpenClaim := { program := "ytcbecbalhnomcaagreatdoor", sum := "ecb4aa9035b6a4013ce182a4163bdd84a2c733e918b44cab594e447a5af81a3b", func := "barque/barquelaw20.CoordPrepares", spec := "coordPrepares", inPlace := ["internal/bytealg.CountString", "internal/bytealg.IndexByteString", "internal/bytealg.IndexString", "internal/abi.NoEscape", "internal/bytealg.MakeNoZero"], unfollowed := true, recurses := true, named := ["unicode/utf8.first", "unicode/utf8.acceptRanges", "internal/bytealg.MaxLen"], apart := false, laid := [("unicode/utf8.acceptRanges", laid_unicode_utf8_acceptRanges), ("unicode/utf8.first", laid_unicode_utf8_first)], narrowed := true }
def CoordPreparesUptoSaid : Prop := coordPreparesUptoRow.holds Tryz.pinned (OpenSpec.upto coordPreparesSpec)

/-- 'barquelaw20.CoordBacked', WHERE WHAT IT READS IS OF BULK AT MOST 1048576: true; the input reads as it did. -/
def coordBackedUptoRow : OpenClaim := { program := "ytcbecbalhnomcaagreatdoor", sum := "ecb4aa9035b6a4013ce182a4163bdd84a2c733e918b44cab594e447a5af81a3b", func := "barque/barquelaw20.CoordBacked", spec := "coordBacked", inPlace := ["internal/bytealg.CountString", "internal/bytealg.IndexByteString", "internal/bytealg.IndexString", "internal/abi.NoEscape", "internal/bytealg.MakeNoZero"], unfollowed := true, recurses := true, named := ["unicode/utf8.first", "unicode/utf8.acceptRanges", "internal/bytealg.MaxLen"], apart := false, laid := [("unicode/utf8.acceptRanges", laid_unicode_utf8_acceptRanges), ("unicode/utf8.first", laid_unicode_utf8_first)], narrowed := true }
def CoordBackedUptoSaid : Prop := coordBackedUptoRow.holds Tryz.pinned (OpenSpec.upto coordBackedSpec)

/-- 'barquelaw20.CoordConfirmed', WHERE WHAT IT READS IS OF BULK AT MOST 1048576: true; the input reads as it did. -/
def coordConfirmedUptoRow : OpenClaim := { program := "ytcbecbalhnomcaagreatdoor", sum := "ecb4aa9035b6a4013ce182a4163bdd84a2c733e918b44cab594e447a5af81a3b", func := "barque/barquelaw20.CoordConfirmed", spec := "coordConfirmed", inPlace := ["internal/bytealg.CountString", "internal/bytealg.IndexByteString", "internal/bytealg.IndexString", "internal/abi.NoEscape", "internal/bytealg.MakeNoZero"], unfollowed := true, recurses := true, named := ["unicode/utf8.first", "unicode/utf8.acceptRanges", "internal/bytealg.MaxLen"], apart := false, laid := [("unicode/utf8.acceptRanges", laid_unicode_utf8_acceptRanges), ("unicode/utf8.first", laid_unicode_utf8_first)], narrowed := true }
def CoordConfirmedUptoSaid : Prop := coordConfirmedUptoRow.holds Tryz.pinned (OpenSpec.upto coordConfirmedSpec)

/-- 'barquelaw20.CoordServes', WHERE WHAT IT READS IS OF BULK AT MOST 1048576: true; the input reads as it did. -/
def coordServesUptoRow : OpenClaim := { program := "ytcbecbalhnomcaagreatdoor", sum := "ecb4aa9035b6a4013ce182a4163bdd84a2c733e918b44cab594e447a5af81a3b", func := "barque/barquelaw20.CoordServes", spec := "coordServes", inPlace := ["internal/bytealg.CountString", "internal/bytealg.IndexByteString", "internal/bytealg.IndexString", "internal/abi.NoEscape", "internal/bytealg.MakeNoZero"], unfollowed := true, recurses := true, named := ["unicode/utf8.first", "unicode/utf8.acceptRanges", "internal/bytealg.MaxLen"], apart := false, laid := [("unicode/utf8.acceptRanges", laid_unicode_utf8_acceptRanges), ("unicode/utf8.first", laid_unicode_utf8_first)], narrowed := true }
def CoordServesUptoSaid : Prop := coordServesUptoRow.holds Tryz.pinned (OpenSpec.upto coordServesSpec)

end Rows
end Go.Proofs.YtcbecbalhnomcaaGreatDoor
