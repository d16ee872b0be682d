/-
  NARROWER THAN 'FOR EVERY INPUT', by the rows' own cells (each row's printed sentence says how): SketchMatchesReference: laid · SketchSets: laid · SketchUnions: laid · SketchEstimates: laid · SketchBands: laid · SketchHashes: laid · SketchShorter: laid.
  DERIVED. THE GIVEN ROWS OF THIS SEAT. 7 by the template 'for every input the law returns true; each argument reads behind the call as it read before'; 0 by the template 'total and deterministic' (their statements: YtmehgkkpabbmcaaDoorTotals.lean).
  GIVEN WITH THE SEED: the statements are not yours to turn. If you find one false, say at which input.
  Laid BY PROGRAM, IN A SANDBOX (cutbox-rows.mjs): the forced cells as the released guide's own fill.sh prints them over the translation db17ad210213cf6f… (all of the seat's roots in one cut). By AI agents, Wed Nov 11 2026. No macro, syntax, notation, axiom, sorry.
-/
import Derived.Test.YtmehgkkpabbmcaaDoorChecked
import GoSem.Claim
import GoSem.ClaimJoined
import GoSem.ClaimMapViews
import Derived.JoinedTies
import Derived.KernelRfl
namespace Go.Proofs.YtmehgkkpabbmcaaDoor
/- THE CELL 'sum', in the pinned program and in every row, IS THE sha256 OF THE DUMP (.gsa) THAT YtmehgkkpabbmcaaDoorProg.lean LOADS. Nothing in Lean hashes anything: it is a label: what it is worth is what the hold of that sum in a sandbox is worth. -/
noncomputable def Tryd.pinned : Pinned := { name := "ytmehgkkpabbmcaadoor", sum := "db17ad210213cf6f35853f445524e04082fcddd6b249d11a02367b26f15b2111", checked := Tryd.checked }
namespace Rows
def none {H : Type} : Left H := { results := [], args := [] }

/- WHAT THE LISTED PACKAGE-LEVEL VARIABLES READ AS WHEN THE CALL BEGINS. Each datum BY PROGRAM (the guide's laid-datum.mjs) off the statement by which the dump's own 'gosem.cut.vars' lays the variable. In a bare row this is a premise. The card (YtmehgkkpabbmcaaDoorCards.lean) ties it to the program's text. -/
def laid_math_bits_deBruijn32tab {H : Type} : DataW H := .agg [.lit (.int .u8 0), .lit (.int .u8 1), .lit (.int .u8 28), .lit (.int .u8 2), .lit (.int .u8 29), .lit (.int .u8 14), .lit (.int .u8 24), .lit (.int .u8 3), .lit (.int .u8 30), .lit (.int .u8 22), .lit (.int .u8 20), .lit (.int .u8 15), .lit (.int .u8 25), .lit (.int .u8 17), .lit (.int .u8 4), .lit (.int .u8 8), .lit (.int .u8 31), .lit (.int .u8 27), .lit (.int .u8 13), .lit (.int .u8 23), .lit (.int .u8 21), .lit (.int .u8 19), .lit (.int .u8 16), .lit (.int .u8 7), .lit (.int .u8 26), .lit (.int .u8 12), .lit (.int .u8 18), .lit (.int .u8 6), .lit (.int .u8 11), .lit (.int .u8 5), .lit (.int .u8 10), .lit (.int .u8 9)]
def laid_math_bits_deBruijn64tab {H : Type} : DataW H := .agg [.lit (.int .u8 0), .lit (.int .u8 1), .lit (.int .u8 56), .lit (.int .u8 2), .lit (.int .u8 57), .lit (.int .u8 49), .lit (.int .u8 28), .lit (.int .u8 3), .lit (.int .u8 61), .lit (.int .u8 58), .lit (.int .u8 42), .lit (.int .u8 50), .lit (.int .u8 38), .lit (.int .u8 29), .lit (.int .u8 17), .lit (.int .u8 4), .lit (.int .u8 62), .lit (.int .u8 47), .lit (.int .u8 59), .lit (.int .u8 36), .lit (.int .u8 45), .lit (.int .u8 43), .lit (.int .u8 51), .lit (.int .u8 22), .lit (.int .u8 53), .lit (.int .u8 39), .lit (.int .u8 33), .lit (.int .u8 30), .lit (.int .u8 24), .lit (.int .u8 18), .lit (.int .u8 12), .lit (.int .u8 5), .lit (.int .u8 63), .lit (.int .u8 55), .lit (.int .u8 48), .lit (.int .u8 27), .lit (.int .u8 60), .lit (.int .u8 41), .lit (.int .u8 37), .lit (.int .u8 16), .lit (.int .u8 46), .lit (.int .u8 35), .lit (.int .u8 44), .lit (.int .u8 21), .lit (.int .u8 52), .lit (.int .u8 32), .lit (.int .u8 23), .lit (.int .u8 11), .lit (.int .u8 54), .lit (.int .u8 26), .lit (.int .u8 40), .lit (.int .u8 15), .lit (.int .u8 34), .lit (.int .u8 20), .lit (.int .u8 31), .lit (.int .u8 10), .lit (.int .u8 25), .lit (.int .u8 14), .lit (.int .u8 19), .lit (.int .u8 9), .lit (.int .u8 13), .lit (.int .u8 8), .lit (.int .u8 7), .lit (.int .u8 6)]
def laid_internal_strconv_uint64pow10 {H : Type} : DataW H := .agg [.lit (.int .u64 1), .lit (.int .u64 10), .lit (.int .u64 100), .lit (.int .u64 1000), .lit (.int .u64 10000), .lit (.int .u64 100000), .lit (.int .u64 1000000), .lit (.int .u64 10000000), .lit (.int .u64 100000000), .lit (.int .u64 1000000000), .lit (.int .u64 10000000000), .lit (.int .u64 100000000000), .lit (.int .u64 1000000000000), .lit (.int .u64 10000000000000), .lit (.int .u64 100000000000000), .lit (.int .u64 1000000000000000), .lit (.int .u64 10000000000000000), .lit (.int .u64 100000000000000000), .lit (.int .u64 1000000000000000000), .lit (.int .u64 10000000000000000000)]

/-- 'cleanselaw05.SketchMatchesReference': WHATEVER THE INPUT: true; the input reads as it did. -/
def sketchMatchesReferenceSpec : ChangeSpec := { name := "sketchMatchesReference", fn := fun _ => fun
  | [d1, d2, d3, d4, d5, d6] => { results := [.lit (.bool true)], args := [d1, d2, d3, d4, d5, d6] }
  | _ => none }
def sketchMatchesReferenceRow : OpenClaim := { program := "ytmehgkkpabbmcaadoor", sum := "db17ad210213cf6f35853f445524e04082fcddd6b249d11a02367b26f15b2111", func := "cleanse/cleanselaw05.SketchMatchesReference", spec := "sketchMatchesReference", inPlace := ["internal/abi.NoEscape", "internal/bytealg.MakeNoZero"], unfollowed := true, recurses := true, named := ["internal/strconv.uint64pow10", "math/bits.deBruijn32tab", "math/bits.deBruijn64tab"], apart := false, laid := [("math/bits.deBruijn32tab", laid_math_bits_deBruijn32tab), ("math/bits.deBruijn64tab", laid_math_bits_deBruijn64tab), ("internal/strconv.uint64pow10", laid_internal_strconv_uint64pow10)] }
def SketchMatchesReferenceSaid : Prop := sketchMatchesReferenceRow.holds Tryd.pinned (OpenSpec.ofChange sketchMatchesReferenceSpec)

/-- ITS FALSE NEIGHBOUR: 'it returns false'. Refute it at one input. -/
def sketchMatchesReferenceWrong : ChangeSpec := { name := "sketchMatchesReference", fn := fun _ => fun
  | [d1, d2, d3, d4, d5, d6] => { results := [.lit (.bool false)], args := [d1, d2, d3, d4, d5, d6] }
  | _ => none }
def SketchMatchesReferenceWrongFalsely : Prop := sketchMatchesReferenceRow.holds Tryd.pinned (OpenSpec.ofChange sketchMatchesReferenceWrong)

/-- 'cleanselaw05.SketchSets': WHATEVER THE INPUT: true; the input reads as it did. -/
def sketchSetsSpec : ChangeSpec := { name := "sketchSets", fn := fun _ => fun
  | [d1, d2] => { results := [.lit (.bool true)], args := [d1, d2] }
  | _ => none }
def sketchSetsRow : OpenClaim := { program := "ytmehgkkpabbmcaadoor", sum := "db17ad210213cf6f35853f445524e04082fcddd6b249d11a02367b26f15b2111", func := "cleanse/cleanselaw05.SketchSets", spec := "sketchSets", inPlace := ["internal/abi.NoEscape", "internal/bytealg.MakeNoZero"], unfollowed := true, recurses := true, named := ["internal/strconv.uint64pow10", "math/bits.deBruijn32tab", "math/bits.deBruijn64tab"], apart := false, laid := [("math/bits.deBruijn32tab", laid_math_bits_deBruijn32tab), ("math/bits.deBruijn64tab", laid_math_bits_deBruijn64tab), ("internal/strconv.uint64pow10", laid_internal_strconv_uint64pow10)] }
def SketchSetsSaid : Prop := sketchSetsRow.holds Tryd.pinned (OpenSpec.ofChange sketchSetsSpec)

/-- ITS FALSE NEIGHBOUR: 'it returns false'. Refute it at one input. -/
def sketchSetsWrong : ChangeSpec := { name := "sketchSets", fn := fun _ => fun
  | [d1, d2] => { results := [.lit (.bool false)], args := [d1, d2] }
  | _ => none }
def SketchSetsWrongFalsely : Prop := sketchSetsRow.holds Tryd.pinned (OpenSpec.ofChange sketchSetsWrong)

/-- 'cleanselaw05.SketchUnions': WHATEVER THE INPUT: true; the input reads as it did. -/
def sketchUnionsSpec : ChangeSpec := { name := "sketchUnions", fn := fun _ => fun
  | [d1, d2, d3, d4] => { results := [.lit (.bool true)], args := [d1, d2, d3, d4] }
  | _ => none }
def sketchUnionsRow : OpenClaim := { program := "ytmehgkkpabbmcaadoor", sum := "db17ad210213cf6f35853f445524e04082fcddd6b249d11a02367b26f15b2111", func := "cleanse/cleanselaw05.SketchUnions", spec := "sketchUnions", inPlace := ["internal/abi.NoEscape", "internal/bytealg.MakeNoZero"], unfollowed := true, recurses := true, named := ["internal/strconv.uint64pow10", "math/bits.deBruijn32tab", "math/bits.deBruijn64tab"], apart := false, laid := [("math/bits.deBruijn32tab", laid_math_bits_deBruijn32tab), ("math/bits.deBruijn64tab", laid_math_bits_deBruijn64tab), ("internal/strconv.uint64pow10", laid_internal_strconv_uint64pow10)] }
def SketchUnionsSaid : Prop := sketchUnionsRow.holds Tryd.pinned (OpenSpec.ofChange sketchUnionsSpec)

/-- ITS FALSE NEIGHBOUR: 'it returns false'. Refute it at one input. -/
def sketchUnionsWrong : ChangeSpec := { name := "sketchUnions", fn := fun _ => fun
  | [d1, d2, d3, d4] => { results := [.lit (.bool false)], args := [d1, d2, d3, d4] }
  | _ => none }
def SketchUnionsWrongFalsely : Prop := sketchUnionsRow.holds Tryd.pinned (OpenSpec.ofChange sketchUnionsWrong)

/-- 'cleanselaw05.SketchEstimates': WHATEVER THE INPUT: true; the input reads as it did. -/
def sketchEstimatesSpec : ChangeSpec := { name := "sketchEstimates", fn := fun _ => fun
  | [d1, d2] => { results := [.lit (.bool true)], args := [d1, d2] }
  | _ => none }
def sketchEstimatesRow : OpenClaim := { program := "ytmehgkkpabbmcaadoor", sum := "db17ad210213cf6f35853f445524e04082fcddd6b249d11a02367b26f15b2111", func := "cleanse/cleanselaw05.SketchEstimates", spec := "sketchEstimates", inPlace := ["internal/abi.NoEscape", "internal/bytealg.MakeNoZero"], unfollowed := true, recurses := true, named := ["internal/strconv.uint64pow10", "math/bits.deBruijn32tab", "math/bits.deBruijn64tab"], apart := false, laid := [("math/bits.deBruijn32tab", laid_math_bits_deBruijn32tab), ("math/bits.deBruijn64tab", laid_math_bits_deBruijn64tab), ("internal/strconv.uint64pow10", laid_internal_strconv_uint64pow10)] }
def SketchEstimatesSaid : Prop := sketchEstimatesRow.holds Tryd.pinned (OpenSpec.ofChange sketchEstimatesSpec)

/-- ITS FALSE NEIGHBOUR: 'it returns false'. Refute it at one input. -/
def sketchEstimatesWrong : ChangeSpec := { name := "sketchEstimates", fn := fun _ => fun
  | [d1, d2] => { results := [.lit (.bool false)], args := [d1, d2] }
  | _ => none }
def SketchEstimatesWrongFalsely : Prop := sketchEstimatesRow.holds Tryd.pinned (OpenSpec.ofChange sketchEstimatesWrong)

/-- 'cleanselaw05.SketchBands': WHATEVER THE INPUT: true; the input reads as it did. -/
def sketchBandsSpec : ChangeSpec := { name := "sketchBands", fn := fun _ => fun
  | [d1, d2, d3] => { results := [.lit (.bool true)], args := [d1, d2, d3] }
  | _ => none }
def sketchBandsRow : OpenClaim := { program := "ytmehgkkpabbmcaadoor", sum := "db17ad210213cf6f35853f445524e04082fcddd6b249d11a02367b26f15b2111", func := "cleanse/cleanselaw05.SketchBands", spec := "sketchBands", inPlace := ["internal/abi.NoEscape", "internal/bytealg.MakeNoZero"], unfollowed := true, recurses := true, named := ["internal/strconv.uint64pow10", "math/bits.deBruijn32tab", "math/bits.deBruijn64tab"], apart := false, laid := [("math/bits.deBruijn32tab", laid_math_bits_deBruijn32tab), ("math/bits.deBruijn64tab", laid_math_bits_deBruijn64tab), ("internal/strconv.uint64pow10", laid_internal_strconv_uint64pow10)] }
def SketchBandsSaid : Prop := sketchBandsRow.holds Tryd.pinned (OpenSpec.ofChange sketchBandsSpec)

/-- ITS FALSE NEIGHBOUR: 'it returns false'. Refute it at one input. -/
def sketchBandsWrong : ChangeSpec := { name := "sketchBands", fn := fun _ => fun
  | [d1, d2, d3] => { results := [.lit (.bool false)], args := [d1, d2, d3] }
  | _ => none }
def SketchBandsWrongFalsely : Prop := sketchBandsRow.holds Tryd.pinned (OpenSpec.ofChange sketchBandsWrong)

/-- 'cleanselaw05.SketchHashes': WHATEVER THE INPUT: true; the input reads as it did. -/
def sketchHashesSpec : ChangeSpec := { name := "sketchHashes", fn := fun _ => fun
  | [d1, d2] => { results := [.lit (.bool true)], args := [d1, d2] }
  | _ => none }
def sketchHashesRow : OpenClaim := { program := "ytmehgkkpabbmcaadoor", sum := "db17ad210213cf6f35853f445524e04082fcddd6b249d11a02367b26f15b2111", func := "cleanse/cleanselaw05.SketchHashes", spec := "sketchHashes", inPlace := ["internal/abi.NoEscape", "internal/bytealg.MakeNoZero"], unfollowed := true, recurses := true, named := ["internal/strconv.uint64pow10", "math/bits.deBruijn32tab", "math/bits.deBruijn64tab"], apart := false, laid := [("math/bits.deBruijn32tab", laid_math_bits_deBruijn32tab), ("math/bits.deBruijn64tab", laid_math_bits_deBruijn64tab), ("internal/strconv.uint64pow10", laid_internal_strconv_uint64pow10)] }
def SketchHashesSaid : Prop := sketchHashesRow.holds Tryd.pinned (OpenSpec.ofChange sketchHashesSpec)

/-- ITS FALSE NEIGHBOUR: 'it returns false'. Refute it at one input. -/
def sketchHashesWrong : ChangeSpec := { name := "sketchHashes", fn := fun _ => fun
  | [d1, d2] => { results := [.lit (.bool false)], args := [d1, d2] }
  | _ => none }
def SketchHashesWrongFalsely : Prop := sketchHashesRow.holds Tryd.pinned (OpenSpec.ofChange sketchHashesWrong)

/-- 'cleanselaw05.SketchShorter': WHATEVER THE INPUT: true; the input reads as it did. -/
def sketchShorterSpec : ChangeSpec := { name := "sketchShorter", fn := fun _ => fun
  | [d1, d2, d3] => { results := [.lit (.bool true)], args := [d1, d2, d3] }
  | _ => none }
def sketchShorterRow : OpenClaim := { program := "ytmehgkkpabbmcaadoor", sum := "db17ad210213cf6f35853f445524e04082fcddd6b249d11a02367b26f15b2111", func := "cleanse/cleanselaw05.SketchShorter", spec := "sketchShorter", inPlace := ["internal/abi.NoEscape", "internal/bytealg.MakeNoZero"], unfollowed := true, recurses := true, named := ["internal/strconv.uint64pow10", "math/bits.deBruijn32tab", "math/bits.deBruijn64tab"], apart := false, laid := [("math/bits.deBruijn32tab", laid_math_bits_deBruijn32tab), ("math/bits.deBruijn64tab", laid_math_bits_deBruijn64tab), ("internal/strconv.uint64pow10", laid_internal_strconv_uint64pow10)] }
def SketchShorterSaid : Prop := sketchShorterRow.holds Tryd.pinned (OpenSpec.ofChange sketchShorterSpec)

/-- ITS FALSE NEIGHBOUR: 'it returns false'. Refute it at one input. -/
def sketchShorterWrong : ChangeSpec := { name := "sketchShorter", fn := fun _ => fun
  | [d1, d2, d3] => { results := [.lit (.bool false)], args := [d1, d2, d3] }
  | _ => none }
def SketchShorterWrongFalsely : Prop := sketchShorterRow.holds Tryd.pinned (OpenSpec.ofChange sketchShorterWrong)

/- THE SECOND FORM. 'bulk': how many values and letters a reading holds, each counted each time it is reached (what is shared counts as often as it is met; a slice's spare places count too). A statement '..UptoSaid' is the law's where the arguments, and the package variables that the reading takes, are together of bulk at most 1048576: NARROWER than '..Said'. Prove '..Said' where nothing that the law and all that it calls make is longer than what came in: it says more and counts as full. Else prove '..UptoSaid'. A law counts once. -/
mutual
def uptoBulk {H : Type} : DataW H → Nat
  | .lit (.string bytes) => bytes.length + 1
  | .lit _ => 1
  | .nil => 1
  | .ptr d => uptoBulk d + 1
  | .slice elems spare => uptoBulkAll elems + uptoBulkAll spare + 1
  | .agg parts => uptoBulkAll parts + 1
  | .iface _ d => uptoBulk d + 1
  | .map entries => uptoBulkEntries entries + 1
  | .held _ => 1
def uptoBulkAll {H : Type} : List (DataW H) → Nat
  | [] => 0
  | d :: r => uptoBulk d + uptoBulkAll r
def uptoBulkEntries {H : Type} : List (Lit × DataW H) → Nat
  | [] => 0
  | x :: r => uptoBulkEntry x + uptoBulkEntries r
def uptoBulkEntry {H : Type} : Lit × DataW H → Nat
  | (.string bytes, d) => bytes.length + uptoBulk d + 1
  | (_, d) => uptoBulk d + 1
 end
def uptoSmall : (H : Type) → List (DataW H) → Bool := fun _ ds => decide (uptoBulkAll ds ≤ 1048576)
def OpenSpec.upto (s : _root_.Go.ChangeSpec) : _root_.Go.OpenSpec := { _root_.Go.OpenSpec.ofChange s with cond := some uptoSmall }

/-- 'cleanselaw05.SketchMatchesReference', WHERE WHAT IT READS IS OF BULK AT MOST 1048576: true; the input reads as it did. -/
def sketchMatchesReferenceUptoRow : OpenClaim := { program := "ytmehgkkpabbmcaadoor", sum := "db17ad210213cf6f35853f445524e04082fcddd6b249d11a02367b26f15b2111", func := "cleanse/cleanselaw05.SketchMatchesReference", spec := "sketchMatchesReference", inPlace := ["internal/abi.NoEscape", "internal/bytealg.MakeNoZero"], unfollowed := true, recurses := true, named := ["internal/strconv.uint64pow10", "math/bits.deBruijn32tab", "math/bits.deBruijn64tab"], apart := false, laid := [("math/bits.deBruijn32tab", laid_math_bits_deBruijn32tab), ("math/bits.deBruijn64tab", laid_math_bits_deBruijn64tab), ("internal/strconv.uint64pow10", laid_internal_strconv_uint64pow10)], narrowed := true }
def SketchMatchesReferenceUptoSaid : Prop := sketchMatchesReferenceUptoRow.holds Tryd.pinned (OpenSpec.upto sketchMatchesReferenceSpec)

/-- 'cleanselaw05.SketchSets', WHERE WHAT IT READS IS OF BULK AT MOST 1048576: true; the input reads as it did. -/
def sketchSetsUptoRow : OpenClaim := { program := "ytmehgkkpabbmcaadoor", sum := "db17ad210213cf6f35853f445524e04082fcddd6b249d11a02367b26f15b2111", func := "cleanse/cleanselaw05.SketchSets", spec := "sketchSets", inPlace := ["internal/abi.NoEscape", "internal/bytealg.MakeNoZero"], unfollowed := true, recurses := true, named := ["internal/strconv.uint64pow10", "math/bits.deBruijn32tab", "math/bits.deBruijn64tab"], apart := false, laid := [("math/bits.deBruijn32tab", laid_math_bits_deBruijn32tab), ("math/bits.deBruijn64tab", laid_math_bits_deBruijn64tab), ("internal/strconv.uint64pow10", laid_internal_strconv_uint64pow10)], narrowed := true }
def SketchSetsUptoSaid : Prop := sketchSetsUptoRow.holds Tryd.pinned (OpenSpec.upto sketchSetsSpec)

/-- 'cleanselaw05.SketchUnions', WHERE WHAT IT READS IS OF BULK AT MOST 1048576: true; the input reads as it did. -/
def sketchUnionsUptoRow : OpenClaim := { program := "ytmehgkkpabbmcaadoor", sum := "db17ad210213cf6f35853f445524e04082fcddd6b249d11a02367b26f15b2111", func := "cleanse/cleanselaw05.SketchUnions", spec := "sketchUnions", inPlace := ["internal/abi.NoEscape", "internal/bytealg.MakeNoZero"], unfollowed := true, recurses := true, named := ["internal/strconv.uint64pow10", "math/bits.deBruijn32tab", "math/bits.deBruijn64tab"], apart := false, laid := [("math/bits.deBruijn32tab", laid_math_bits_deBruijn32tab), ("math/bits.deBruijn64tab", laid_math_bits_deBruijn64tab), ("internal/strconv.uint64pow10", laid_internal_strconv_uint64pow10)], narrowed := true }
def SketchUnionsUptoSaid : Prop := sketchUnionsUptoRow.holds Tryd.pinned (OpenSpec.upto sketchUnionsSpec)

/-- 'cleanselaw05.SketchEstimates', WHERE WHAT IT READS IS OF BULK AT MOST 1048576: true; the input reads as it did. -/
def sketchEstimatesUptoRow : OpenClaim := { program := "ytmehgkkpabbmcaadoor", sum := "db17ad210213cf6f35853f445524e04082fcddd6b249d11a02367b26f15b2111", func := "cleanse/cleanselaw05.SketchEstimates", spec := "sketchEstimates", inPlace := ["internal/abi.NoEscape", "internal/bytealg.MakeNoZero"], unfollowed := true, recurses := true, named := ["internal/strconv.uint64pow10", "math/bits.deBruijn32tab", "math/bits.deBruijn64tab"], apart := false, laid := [("math/bits.deBruijn32tab", laid_math_bits_deBruijn32tab), ("math/bits.deBruijn64tab", laid_math_bits_deBruijn64tab), ("internal/strconv.uint64pow10", laid_internal_strconv_uint64pow10)], narrowed := true }
def SketchEstimatesUptoSaid : Prop := sketchEstimatesUptoRow.holds Tryd.pinned (OpenSpec.upto sketchEstimatesSpec)

/-- 'cleanselaw05.SketchBands', WHERE WHAT IT READS IS OF BULK AT MOST 1048576: true; the input reads as it did. -/
def sketchBandsUptoRow : OpenClaim := { program := "ytmehgkkpabbmcaadoor", sum := "db17ad210213cf6f35853f445524e04082fcddd6b249d11a02367b26f15b2111", func := "cleanse/cleanselaw05.SketchBands", spec := "sketchBands", inPlace := ["internal/abi.NoEscape", "internal/bytealg.MakeNoZero"], unfollowed := true, recurses := true, named := ["internal/strconv.uint64pow10", "math/bits.deBruijn32tab", "math/bits.deBruijn64tab"], apart := false, laid := [("math/bits.deBruijn32tab", laid_math_bits_deBruijn32tab), ("math/bits.deBruijn64tab", laid_math_bits_deBruijn64tab), ("internal/strconv.uint64pow10", laid_internal_strconv_uint64pow10)], narrowed := true }
def SketchBandsUptoSaid : Prop := sketchBandsUptoRow.holds Tryd.pinned (OpenSpec.upto sketchBandsSpec)

/-- 'cleanselaw05.SketchHashes', WHERE WHAT IT READS IS OF BULK AT MOST 1048576: true; the input reads as it did. -/
def sketchHashesUptoRow : OpenClaim := { program := "ytmehgkkpabbmcaadoor", sum := "db17ad210213cf6f35853f445524e04082fcddd6b249d11a02367b26f15b2111", func := "cleanse/cleanselaw05.SketchHashes", spec := "sketchHashes", inPlace := ["internal/abi.NoEscape", "internal/bytealg.MakeNoZero"], unfollowed := true, recurses := true, named := ["internal/strconv.uint64pow10", "math/bits.deBruijn32tab", "math/bits.deBruijn64tab"], apart := false, laid := [("math/bits.deBruijn32tab", laid_math_bits_deBruijn32tab), ("math/bits.deBruijn64tab", laid_math_bits_deBruijn64tab), ("internal/strconv.uint64pow10", laid_internal_strconv_uint64pow10)], narrowed := true }
def SketchHashesUptoSaid : Prop := sketchHashesUptoRow.holds Tryd.pinned (OpenSpec.upto sketchHashesSpec)

/-- 'cleanselaw05.SketchShorter', WHERE WHAT IT READS IS OF BULK AT MOST 1048576: true; the input reads as it did. -/
def sketchShorterUptoRow : OpenClaim := { program := "ytmehgkkpabbmcaadoor", sum := "db17ad210213cf6f35853f445524e04082fcddd6b249d11a02367b26f15b2111", func := "cleanse/cleanselaw05.SketchShorter", spec := "sketchShorter", inPlace := ["internal/abi.NoEscape", "internal/bytealg.MakeNoZero"], unfollowed := true, recurses := true, named := ["internal/strconv.uint64pow10", "math/bits.deBruijn32tab", "math/bits.deBruijn64tab"], apart := false, laid := [("math/bits.deBruijn32tab", laid_math_bits_deBruijn32tab), ("math/bits.deBruijn64tab", laid_math_bits_deBruijn64tab), ("internal/strconv.uint64pow10", laid_internal_strconv_uint64pow10)], narrowed := true }
def SketchShorterUptoSaid : Prop := sketchShorterUptoRow.holds Tryd.pinned (OpenSpec.upto sketchShorterSpec)

end Rows
end Go.Proofs.YtmehgkkpabbmcaaDoor
