/-
  NARROWER THAN 'FOR EVERY INPUT', by the rows' own cells (each row's printed sentence says how): FaultsGrouped: laid · TopDictionariesDiagnose: laid · TheFaultIsCandidate: laid · FaultsFound: laid · TestsChosen: laid · ExplanationsExplain: laid · DictionariesChecked: laid · FewestTestsResolve: laid · DictionariesComeBack: laid · DictionariesStay: laid · GroupsDivide: laid.
  DERIVED. THE GIVEN ROWS OF THIS SEAT. 11 by the template 'for every input the law returns true; each argument reads behind the call as it read before'; 0 by the template 'total and deterministic' (their statements: YtpifoghhaohhaaaGreatDoorTotals.lean).
  GIVEN WITH THE SEED: the statements are not yours to turn. If you find one false, say at which input.
  Laid BY PROGRAM, IN A SANDBOX (cutbox-rows.mjs): the forced cells as the released guide's own fill.sh prints them over the translation 616a041b548f31a8… (all of the seat's roots in one cut). By AI agents, Wed Nov 11 2026. No macro, syntax, notation, axiom, sorry.
-/
import Derived.Test.YtpifoghhaohhaaaGreatDoorChecked
import GoSem.PinnedTables
import GoSem.Claim
import GoSem.ClaimJoined
import GoSem.ClaimMapViews
import Derived.JoinedTies
import Derived.KernelRfl
namespace Go.Proofs.YtpifoghhaohhaaaGreatDoor
/- THE CELL 'sum', in the pinned program and in every row, IS THE sha256 OF THE DUMP (.gsa) THAT YtpifoghhaohhaaaGreatDoorProg.lean LOADS. Nothing in Lean hashes anything: it is a label: what it is worth is what the hold of that sum in a sandbox is worth. -/
noncomputable def Tryz.pinned : Pinned := { name := "ytpifoghhaohhaaagreatdoor", sum := "616a041b548f31a82393c02c585179b3e8f6e38cbccfb8f15d6d045e4552f691", checked := Tryz.checked }
namespace Rows
def none {H : Type} : Left H := { results := [], args := [] }

/- WHAT THE LISTED PACKAGE-LEVEL VARIABLES READ AS WHEN THE CALL BEGINS. Each datum BY PROGRAM (the guide's laid-datum.mjs) off the statement by which the dump's own 'gosem.cut.vars' lays the variable. In a bare row this is a premise. The card (YtpifoghhaohhaaaGreatDoorCards.lean) ties it to the program's text. -/
def laid_math_bits_deBruijn32tab {H : Type} : DataW H := .agg [.lit (.int .u8 0), .lit (.int .u8 1), .lit (.int .u8 28), .lit (.int .u8 2), .lit (.int .u8 29), .lit (.int .u8 14), .lit (.int .u8 24), .lit (.int .u8 3), .lit (.int .u8 30), .lit (.int .u8 22), .lit (.int .u8 20), .lit (.int .u8 15), .lit (.int .u8 25), .lit (.int .u8 17), .lit (.int .u8 4), .lit (.int .u8 8), .lit (.int .u8 31), .lit (.int .u8 27), .lit (.int .u8 13), .lit (.int .u8 23), .lit (.int .u8 21), .lit (.int .u8 19), .lit (.int .u8 16), .lit (.int .u8 7), .lit (.int .u8 26), .lit (.int .u8 12), .lit (.int .u8 18), .lit (.int .u8 6), .lit (.int .u8 11), .lit (.int .u8 5), .lit (.int .u8 10), .lit (.int .u8 9)]
def laid_math_bits_deBruijn64tab {H : Type} : DataW H := .agg [.lit (.int .u8 0), .lit (.int .u8 1), .lit (.int .u8 56), .lit (.int .u8 2), .lit (.int .u8 57), .lit (.int .u8 49), .lit (.int .u8 28), .lit (.int .u8 3), .lit (.int .u8 61), .lit (.int .u8 58), .lit (.int .u8 42), .lit (.int .u8 50), .lit (.int .u8 38), .lit (.int .u8 29), .lit (.int .u8 17), .lit (.int .u8 4), .lit (.int .u8 62), .lit (.int .u8 47), .lit (.int .u8 59), .lit (.int .u8 36), .lit (.int .u8 45), .lit (.int .u8 43), .lit (.int .u8 51), .lit (.int .u8 22), .lit (.int .u8 53), .lit (.int .u8 39), .lit (.int .u8 33), .lit (.int .u8 30), .lit (.int .u8 24), .lit (.int .u8 18), .lit (.int .u8 12), .lit (.int .u8 5), .lit (.int .u8 63), .lit (.int .u8 55), .lit (.int .u8 48), .lit (.int .u8 27), .lit (.int .u8 60), .lit (.int .u8 41), .lit (.int .u8 37), .lit (.int .u8 16), .lit (.int .u8 46), .lit (.int .u8 35), .lit (.int .u8 44), .lit (.int .u8 21), .lit (.int .u8 52), .lit (.int .u8 32), .lit (.int .u8 23), .lit (.int .u8 11), .lit (.int .u8 54), .lit (.int .u8 26), .lit (.int .u8 40), .lit (.int .u8 15), .lit (.int .u8 34), .lit (.int .u8 20), .lit (.int .u8 31), .lit (.int .u8 10), .lit (.int .u8 25), .lit (.int .u8 14), .lit (.int .u8 19), .lit (.int .u8 9), .lit (.int .u8 13), .lit (.int .u8 8), .lit (.int .u8 7), .lit (.int .u8 6)]
def laid_internal_strconv_uint64pow10 {H : Type} : DataW H := .agg [.lit (.int .u64 1), .lit (.int .u64 10), .lit (.int .u64 100), .lit (.int .u64 1000), .lit (.int .u64 10000), .lit (.int .u64 100000), .lit (.int .u64 1000000), .lit (.int .u64 10000000), .lit (.int .u64 100000000), .lit (.int .u64 1000000000), .lit (.int .u64 10000000000), .lit (.int .u64 100000000000), .lit (.int .u64 1000000000000), .lit (.int .u64 10000000000000), .lit (.int .u64 100000000000000), .lit (.int .u64 1000000000000000), .lit (.int .u64 10000000000000000), .lit (.int .u64 100000000000000000), .lit (.int .u64 1000000000000000000), .lit (.int .u64 10000000000000000000)]
def laid_unicode_utf8_acceptRanges {H : Type} : DataW H := .agg [.agg [.lit (.int .u8 128), .lit (.int .u8 191)], .agg [.lit (.int .u8 160), .lit (.int .u8 191)], .agg [.lit (.int .u8 128), .lit (.int .u8 159)], .agg [.lit (.int .u8 144), .lit (.int .u8 191)], .agg [.lit (.int .u8 128), .lit (.int .u8 143)], .agg [.lit (.int .u8 0), .lit (.int .u8 0)], .agg [.lit (.int .u8 0), .lit (.int .u8 0)], .agg [.lit (.int .u8 0), .lit (.int .u8 0)], .agg [.lit (.int .u8 0), .lit (.int .u8 0)], .agg [.lit (.int .u8 0), .lit (.int .u8 0)], .agg [.lit (.int .u8 0), .lit (.int .u8 0)], .agg [.lit (.int .u8 0), .lit (.int .u8 0)], .agg [.lit (.int .u8 0), .lit (.int .u8 0)], .agg [.lit (.int .u8 0), .lit (.int .u8 0)], .agg [.lit (.int .u8 0), .lit (.int .u8 0)], .agg [.lit (.int .u8 0), .lit (.int .u8 0)]]
/-- One of Go's own tables, pinned by name: the form's constant. -/
def laid_unicode_utf8_first : DataW Unit := Go.Pinned.utf8First

/-- 'scanlaw1.FaultsGrouped': WHATEVER THE INPUT: true; the input reads as it did. -/
def faultsGroupedSpec : ChangeSpec := { name := "faultsGrouped", fn := fun _ => fun
  | [d] => { results := [.lit (.bool true)], args := [d] }
  | _ => none }
def faultsGroupedRow : OpenClaim := { program := "ytpifoghhaohhaaagreatdoor", sum := "616a041b548f31a82393c02c585179b3e8f6e38cbccfb8f15d6d045e4552f691", func := "scanchain/scanlaw1.FaultsGrouped", spec := "faultsGrouped", inPlace := ["internal/abi.NoEscape", "internal/bytealg.MakeNoZero", "internal/bytealg.IndexByteString", "internal/bytealg.IndexString"], unfollowed := true, recurses := true, named := ["internal/strconv.uint64pow10", "math/bits.deBruijn32tab", "math/bits.deBruijn64tab", "unicode/utf8.first", "unicode/utf8.acceptRanges", "internal/bytealg.MaxLen"], apart := false, laid := [("math/bits.deBruijn32tab", laid_math_bits_deBruijn32tab), ("math/bits.deBruijn64tab", laid_math_bits_deBruijn64tab), ("internal/strconv.uint64pow10", laid_internal_strconv_uint64pow10), ("unicode/utf8.acceptRanges", laid_unicode_utf8_acceptRanges), ("unicode/utf8.first", laid_unicode_utf8_first)] }
def FaultsGroupedSaid : Prop := faultsGroupedRow.holds Tryz.pinned (OpenSpec.ofChange faultsGroupedSpec)

/-- ITS FALSE NEIGHBOUR: 'it returns false'. Refute it at one input. -/
def faultsGroupedWrong : ChangeSpec := { name := "faultsGrouped", fn := fun _ => fun
  | [d] => { results := [.lit (.bool false)], args := [d] }
  | _ => none }
def FaultsGroupedWrongFalsely : Prop := faultsGroupedRow.holds Tryz.pinned (OpenSpec.ofChange faultsGroupedWrong)

/-- 'scantop.TopDictionariesDiagnose': WHATEVER THE INPUT: true; the input reads as it did. -/
def topDictionariesDiagnoseSpec : ChangeSpec := { name := "topDictionariesDiagnose", fn := fun _ => fun
  | [d] => { results := [.lit (.bool true)], args := [d] }
  | _ => none }
def topDictionariesDiagnoseRow : OpenClaim := { program := "ytpifoghhaohhaaagreatdoor", sum := "616a041b548f31a82393c02c585179b3e8f6e38cbccfb8f15d6d045e4552f691", func := "scanchain/scantop.TopDictionariesDiagnose", spec := "topDictionariesDiagnose", inPlace := ["internal/bytealg.IndexByteString", "internal/bytealg.IndexString", "internal/abi.NoEscape", "internal/bytealg.MakeNoZero"], unfollowed := true, recurses := true, named := ["unicode/utf8.first", "unicode/utf8.acceptRanges", "internal/strconv.uint64pow10", "math/bits.deBruijn32tab", "math/bits.deBruijn64tab", "internal/bytealg.MaxLen"], apart := false, laid := [("math/bits.deBruijn32tab", laid_math_bits_deBruijn32tab), ("math/bits.deBruijn64tab", laid_math_bits_deBruijn64tab), ("internal/strconv.uint64pow10", laid_internal_strconv_uint64pow10), ("unicode/utf8.acceptRanges", laid_unicode_utf8_acceptRanges), ("unicode/utf8.first", laid_unicode_utf8_first)] }
def TopDictionariesDiagnoseSaid : Prop := topDictionariesDiagnoseRow.holds Tryz.pinned (OpenSpec.ofChange topDictionariesDiagnoseSpec)

/-- ITS FALSE NEIGHBOUR: 'it returns false'. Refute it at one input. -/
def topDictionariesDiagnoseWrong : ChangeSpec := { name := "topDictionariesDiagnose", fn := fun _ => fun
  | [d] => { results := [.lit (.bool false)], args := [d] }
  | _ => none }
def TopDictionariesDiagnoseWrongFalsely : Prop := topDictionariesDiagnoseRow.holds Tryz.pinned (OpenSpec.ofChange topDictionariesDiagnoseWrong)

/-- 'scankeep1.TheFaultIsCandidate': WHATEVER THE INPUT: true; the input reads as it did. -/
def theFaultIsCandidateSpec : ChangeSpec := { name := "theFaultIsCandidate", fn := fun _ => fun
  | [d] => { results := [.lit (.bool true)], args := [d] }
  | _ => none }
def theFaultIsCandidateRow : OpenClaim := { program := "ytpifoghhaohhaaagreatdoor", sum := "616a041b548f31a82393c02c585179b3e8f6e38cbccfb8f15d6d045e4552f691", func := "scanchain/scankeep1.TheFaultIsCandidate", spec := "theFaultIsCandidate", inPlace := ["internal/abi.NoEscape", "internal/bytealg.MakeNoZero", "internal/bytealg.IndexByteString", "internal/bytealg.IndexString"], unfollowed := true, recurses := true, named := ["internal/strconv.uint64pow10", "math/bits.deBruijn32tab", "math/bits.deBruijn64tab", "unicode/utf8.first", "unicode/utf8.acceptRanges", "internal/bytealg.MaxLen"], apart := false, laid := [("math/bits.deBruijn32tab", laid_math_bits_deBruijn32tab), ("math/bits.deBruijn64tab", laid_math_bits_deBruijn64tab), ("internal/strconv.uint64pow10", laid_internal_strconv_uint64pow10), ("unicode/utf8.acceptRanges", laid_unicode_utf8_acceptRanges), ("unicode/utf8.first", laid_unicode_utf8_first)] }
def TheFaultIsCandidateSaid : Prop := theFaultIsCandidateRow.holds Tryz.pinned (OpenSpec.ofChange theFaultIsCandidateSpec)

/-- ITS FALSE NEIGHBOUR: 'it returns false'. Refute it at one input. -/
def theFaultIsCandidateWrong : ChangeSpec := { name := "theFaultIsCandidate", fn := fun _ => fun
  | [d] => { results := [.lit (.bool false)], args := [d] }
  | _ => none }
def TheFaultIsCandidateWrongFalsely : Prop := theFaultIsCandidateRow.holds Tryz.pinned (OpenSpec.ofChange theFaultIsCandidateWrong)

/-- 'scanlaw1.FaultsFound': WHATEVER THE INPUT: true; the input reads as it did. -/
def faultsFoundSpec : ChangeSpec := { name := "faultsFound", fn := fun _ => fun
  | [d] => { results := [.lit (.bool true)], args := [d] }
  | _ => none }
def faultsFoundRow : OpenClaim := { program := "ytpifoghhaohhaaagreatdoor", sum := "616a041b548f31a82393c02c585179b3e8f6e38cbccfb8f15d6d045e4552f691", func := "scanchain/scanlaw1.FaultsFound", spec := "faultsFound", inPlace := ["internal/abi.NoEscape", "internal/bytealg.MakeNoZero", "internal/bytealg.IndexByteString", "internal/bytealg.IndexString"], unfollowed := true, recurses := true, named := ["internal/strconv.uint64pow10", "math/bits.deBruijn32tab", "math/bits.deBruijn64tab", "unicode/utf8.first", "unicode/utf8.acceptRanges", "internal/bytealg.MaxLen"], apart := false, laid := [("math/bits.deBruijn32tab", laid_math_bits_deBruijn32tab), ("math/bits.deBruijn64tab", laid_math_bits_deBruijn64tab), ("internal/strconv.uint64pow10", laid_internal_strconv_uint64pow10), ("unicode/utf8.acceptRanges", laid_unicode_utf8_acceptRanges), ("unicode/utf8.first", laid_unicode_utf8_first)] }
def FaultsFoundSaid : Prop := faultsFoundRow.holds Tryz.pinned (OpenSpec.ofChange faultsFoundSpec)

/-- ITS FALSE NEIGHBOUR: 'it returns false'. Refute it at one input. -/
def faultsFoundWrong : ChangeSpec := { name := "faultsFound", fn := fun _ => fun
  | [d] => { results := [.lit (.bool false)], args := [d] }
  | _ => none }
def FaultsFoundWrongFalsely : Prop := faultsFoundRow.holds Tryz.pinned (OpenSpec.ofChange faultsFoundWrong)

/-- 'scanlaw1.TestsChosen': WHATEVER THE INPUT: true; the input reads as it did. -/
def testsChosenSpec : ChangeSpec := { name := "testsChosen", fn := fun _ => fun
  | [d] => { results := [.lit (.bool true)], args := [d] }
  | _ => none }
def testsChosenRow : OpenClaim := { program := "ytpifoghhaohhaaagreatdoor", sum := "616a041b548f31a82393c02c585179b3e8f6e38cbccfb8f15d6d045e4552f691", func := "scanchain/scanlaw1.TestsChosen", spec := "testsChosen", inPlace := ["internal/abi.NoEscape", "internal/bytealg.MakeNoZero", "internal/bytealg.IndexByteString", "internal/bytealg.IndexString"], unfollowed := true, recurses := true, named := ["internal/strconv.uint64pow10", "math/bits.deBruijn32tab", "math/bits.deBruijn64tab", "unicode/utf8.first", "unicode/utf8.acceptRanges", "internal/bytealg.MaxLen"], apart := false, laid := [("math/bits.deBruijn32tab", laid_math_bits_deBruijn32tab), ("math/bits.deBruijn64tab", laid_math_bits_deBruijn64tab), ("internal/strconv.uint64pow10", laid_internal_strconv_uint64pow10), ("unicode/utf8.acceptRanges", laid_unicode_utf8_acceptRanges), ("unicode/utf8.first", laid_unicode_utf8_first)] }
def TestsChosenSaid : Prop := testsChosenRow.holds Tryz.pinned (OpenSpec.ofChange testsChosenSpec)

/-- ITS FALSE NEIGHBOUR: 'it returns false'. Refute it at one input. -/
def testsChosenWrong : ChangeSpec := { name := "testsChosen", fn := fun _ => fun
  | [d] => { results := [.lit (.bool false)], args := [d] }
  | _ => none }
def TestsChosenWrongFalsely : Prop := testsChosenRow.holds Tryz.pinned (OpenSpec.ofChange testsChosenWrong)

/-- 'scankeep1.ExplanationsExplain': WHATEVER THE INPUT: true; the input reads as it did. -/
def explanationsExplainSpec : ChangeSpec := { name := "explanationsExplain", fn := fun _ => fun
  | [d] => { results := [.lit (.bool true)], args := [d] }
  | _ => none }
def explanationsExplainRow : OpenClaim := { program := "ytpifoghhaohhaaagreatdoor", sum := "616a041b548f31a82393c02c585179b3e8f6e38cbccfb8f15d6d045e4552f691", func := "scanchain/scankeep1.ExplanationsExplain", spec := "explanationsExplain", inPlace := ["internal/abi.NoEscape", "internal/bytealg.MakeNoZero", "internal/bytealg.IndexByteString", "internal/bytealg.IndexString"], unfollowed := true, recurses := true, named := ["internal/strconv.uint64pow10", "math/bits.deBruijn32tab", "math/bits.deBruijn64tab", "unicode/utf8.first", "unicode/utf8.acceptRanges", "internal/bytealg.MaxLen"], apart := false, laid := [("math/bits.deBruijn32tab", laid_math_bits_deBruijn32tab), ("math/bits.deBruijn64tab", laid_math_bits_deBruijn64tab), ("internal/strconv.uint64pow10", laid_internal_strconv_uint64pow10), ("unicode/utf8.acceptRanges", laid_unicode_utf8_acceptRanges), ("unicode/utf8.first", laid_unicode_utf8_first)] }
def ExplanationsExplainSaid : Prop := explanationsExplainRow.holds Tryz.pinned (OpenSpec.ofChange explanationsExplainSpec)

/-- ITS FALSE NEIGHBOUR: 'it returns false'. Refute it at one input. -/
def explanationsExplainWrong : ChangeSpec := { name := "explanationsExplain", fn := fun _ => fun
  | [d] => { results := [.lit (.bool false)], args := [d] }
  | _ => none }
def ExplanationsExplainWrongFalsely : Prop := explanationsExplainRow.holds Tryz.pinned (OpenSpec.ofChange explanationsExplainWrong)

/-- 'scanlaw1.DictionariesChecked': WHATEVER THE INPUT: true; the input reads as it did. -/
def dictionariesCheckedSpec : ChangeSpec := { name := "dictionariesChecked", fn := fun _ => fun
  | [d] => { results := [.lit (.bool true)], args := [d] }
  | _ => none }
def dictionariesCheckedRow : OpenClaim := { program := "ytpifoghhaohhaaagreatdoor", sum := "616a041b548f31a82393c02c585179b3e8f6e38cbccfb8f15d6d045e4552f691", func := "scanchain/scanlaw1.DictionariesChecked", spec := "dictionariesChecked", inPlace := ["internal/abi.NoEscape", "internal/bytealg.MakeNoZero", "internal/bytealg.IndexByteString", "internal/bytealg.IndexString", "internal/bytealg.CountString"], unfollowed := true, recurses := true, named := ["internal/strconv.uint64pow10", "math/bits.deBruijn32tab", "math/bits.deBruijn64tab", "unicode/utf8.first", "unicode/utf8.acceptRanges", "internal/bytealg.MaxLen"], apart := false, laid := [("math/bits.deBruijn32tab", laid_math_bits_deBruijn32tab), ("math/bits.deBruijn64tab", laid_math_bits_deBruijn64tab), ("internal/strconv.uint64pow10", laid_internal_strconv_uint64pow10), ("unicode/utf8.acceptRanges", laid_unicode_utf8_acceptRanges), ("unicode/utf8.first", laid_unicode_utf8_first)] }
def DictionariesCheckedSaid : Prop := dictionariesCheckedRow.holds Tryz.pinned (OpenSpec.ofChange dictionariesCheckedSpec)

/-- ITS FALSE NEIGHBOUR: 'it returns false'. Refute it at one input. -/
def dictionariesCheckedWrong : ChangeSpec := { name := "dictionariesChecked", fn := fun _ => fun
  | [d] => { results := [.lit (.bool false)], args := [d] }
  | _ => none }
def DictionariesCheckedWrongFalsely : Prop := dictionariesCheckedRow.holds Tryz.pinned (OpenSpec.ofChange dictionariesCheckedWrong)

/-- 'scankeep1.FewestTestsResolve': WHATEVER THE INPUT: true; the input reads as it did. -/
def fewestTestsResolveSpec : ChangeSpec := { name := "fewestTestsResolve", fn := fun _ => fun
  | [d] => { results := [.lit (.bool true)], args := [d] }
  | _ => none }
def fewestTestsResolveRow : OpenClaim := { program := "ytpifoghhaohhaaagreatdoor", sum := "616a041b548f31a82393c02c585179b3e8f6e38cbccfb8f15d6d045e4552f691", func := "scanchain/scankeep1.FewestTestsResolve", spec := "fewestTestsResolve", inPlace := ["internal/abi.NoEscape", "internal/bytealg.MakeNoZero", "internal/bytealg.IndexByteString", "internal/bytealg.IndexString"], unfollowed := true, recurses := true, named := ["internal/strconv.uint64pow10", "math/bits.deBruijn32tab", "math/bits.deBruijn64tab", "unicode/utf8.first", "unicode/utf8.acceptRanges", "internal/bytealg.MaxLen"], apart := false, laid := [("math/bits.deBruijn32tab", laid_math_bits_deBruijn32tab), ("math/bits.deBruijn64tab", laid_math_bits_deBruijn64tab), ("internal/strconv.uint64pow10", laid_internal_strconv_uint64pow10), ("unicode/utf8.acceptRanges", laid_unicode_utf8_acceptRanges), ("unicode/utf8.first", laid_unicode_utf8_first)] }
def FewestTestsResolveSaid : Prop := fewestTestsResolveRow.holds Tryz.pinned (OpenSpec.ofChange fewestTestsResolveSpec)

/-- ITS FALSE NEIGHBOUR: 'it returns false'. Refute it at one input. -/
def fewestTestsResolveWrong : ChangeSpec := { name := "fewestTestsResolve", fn := fun _ => fun
  | [d] => { results := [.lit (.bool false)], args := [d] }
  | _ => none }
def FewestTestsResolveWrongFalsely : Prop := fewestTestsResolveRow.holds Tryz.pinned (OpenSpec.ofChange fewestTestsResolveWrong)

/-- 'scankeep1.DictionariesComeBack': WHATEVER THE INPUT: true; the input reads as it did. -/
def dictionariesComeBackSpec : ChangeSpec := { name := "dictionariesComeBack", fn := fun _ => fun
  | [d] => { results := [.lit (.bool true)], args := [d] }
  | _ => none }
def dictionariesComeBackRow : OpenClaim := { program := "ytpifoghhaohhaaagreatdoor", sum := "616a041b548f31a82393c02c585179b3e8f6e38cbccfb8f15d6d045e4552f691", func := "scanchain/scankeep1.DictionariesComeBack", spec := "dictionariesComeBack", inPlace := ["internal/abi.NoEscape", "internal/bytealg.MakeNoZero", "internal/bytealg.IndexByteString", "internal/bytealg.IndexString", "internal/bytealg.CountString"], unfollowed := true, recurses := true, named := ["internal/strconv.uint64pow10", "math/bits.deBruijn32tab", "math/bits.deBruijn64tab", "unicode/utf8.first", "unicode/utf8.acceptRanges", "internal/bytealg.MaxLen"], apart := false, laid := [("math/bits.deBruijn32tab", laid_math_bits_deBruijn32tab), ("math/bits.deBruijn64tab", laid_math_bits_deBruijn64tab), ("internal/strconv.uint64pow10", laid_internal_strconv_uint64pow10), ("unicode/utf8.acceptRanges", laid_unicode_utf8_acceptRanges), ("unicode/utf8.first", laid_unicode_utf8_first)] }
def DictionariesComeBackSaid : Prop := dictionariesComeBackRow.holds Tryz.pinned (OpenSpec.ofChange dictionariesComeBackSpec)

/-- ITS FALSE NEIGHBOUR: 'it returns false'. Refute it at one input. -/
def dictionariesComeBackWrong : ChangeSpec := { name := "dictionariesComeBack", fn := fun _ => fun
  | [d] => { results := [.lit (.bool false)], args := [d] }
  | _ => none }
def DictionariesComeBackWrongFalsely : Prop := dictionariesComeBackRow.holds Tryz.pinned (OpenSpec.ofChange dictionariesComeBackWrong)

/-- 'scankeep1.DictionariesStay': WHATEVER THE INPUT: true; the input reads as it did. -/
def dictionariesStaySpec : ChangeSpec := { name := "dictionariesStay", fn := fun _ => fun
  | [d] => { results := [.lit (.bool true)], args := [d] }
  | _ => none }
def dictionariesStayRow : OpenClaim := { program := "ytpifoghhaohhaaagreatdoor", sum := "616a041b548f31a82393c02c585179b3e8f6e38cbccfb8f15d6d045e4552f691", func := "scanchain/scankeep1.DictionariesStay", spec := "dictionariesStay", inPlace := ["internal/abi.NoEscape", "internal/bytealg.MakeNoZero", "internal/bytealg.IndexByteString", "internal/bytealg.IndexString", "internal/bytealg.CountString"], unfollowed := true, recurses := true, named := ["internal/strconv.uint64pow10", "math/bits.deBruijn32tab", "math/bits.deBruijn64tab", "unicode/utf8.first", "unicode/utf8.acceptRanges", "internal/bytealg.MaxLen"], apart := false, laid := [("math/bits.deBruijn32tab", laid_math_bits_deBruijn32tab), ("math/bits.deBruijn64tab", laid_math_bits_deBruijn64tab), ("internal/strconv.uint64pow10", laid_internal_strconv_uint64pow10), ("unicode/utf8.acceptRanges", laid_unicode_utf8_acceptRanges), ("unicode/utf8.first", laid_unicode_utf8_first)] }
def DictionariesStaySaid : Prop := dictionariesStayRow.holds Tryz.pinned (OpenSpec.ofChange dictionariesStaySpec)

/-- ITS FALSE NEIGHBOUR: 'it returns false'. Refute it at one input. -/
def dictionariesStayWrong : ChangeSpec := { name := "dictionariesStay", fn := fun _ => fun
  | [d] => { results := [.lit (.bool false)], args := [d] }
  | _ => none }
def DictionariesStayWrongFalsely : Prop := dictionariesStayRow.holds Tryz.pinned (OpenSpec.ofChange dictionariesStayWrong)

/-- 'scankeep1.GroupsDivide': WHATEVER THE INPUT: true; the input reads as it did. -/
def groupsDivideSpec : ChangeSpec := { name := "groupsDivide", fn := fun _ => fun
  | [d] => { results := [.lit (.bool true)], args := [d] }
  | _ => none }
def groupsDivideRow : OpenClaim := { program := "ytpifoghhaohhaaagreatdoor", sum := "616a041b548f31a82393c02c585179b3e8f6e38cbccfb8f15d6d045e4552f691", func := "scanchain/scankeep1.GroupsDivide", spec := "groupsDivide", inPlace := ["internal/abi.NoEscape", "internal/bytealg.MakeNoZero", "internal/bytealg.IndexByteString", "internal/bytealg.IndexString"], unfollowed := true, recurses := true, named := ["internal/strconv.uint64pow10", "math/bits.deBruijn32tab", "math/bits.deBruijn64tab", "unicode/utf8.first", "unicode/utf8.acceptRanges", "internal/bytealg.MaxLen"], apart := false, laid := [("math/bits.deBruijn32tab", laid_math_bits_deBruijn32tab), ("math/bits.deBruijn64tab", laid_math_bits_deBruijn64tab), ("internal/strconv.uint64pow10", laid_internal_strconv_uint64pow10), ("unicode/utf8.acceptRanges", laid_unicode_utf8_acceptRanges), ("unicode/utf8.first", laid_unicode_utf8_first)] }
def GroupsDivideSaid : Prop := groupsDivideRow.holds Tryz.pinned (OpenSpec.ofChange groupsDivideSpec)

/-- ITS FALSE NEIGHBOUR: 'it returns false'. Refute it at one input. -/
def groupsDivideWrong : ChangeSpec := { name := "groupsDivide", fn := fun _ => fun
  | [d] => { results := [.lit (.bool false)], args := [d] }
  | _ => none }
def GroupsDivideWrongFalsely : Prop := groupsDivideRow.holds Tryz.pinned (OpenSpec.ofChange groupsDivideWrong)

/- THE SECOND FORM. 'bulk': how many values and letters a reading holds, each counted each time it is reached (what is shared counts as often as it is met; a slice's spare places count too). A statement '..UptoSaid' is the law's where the arguments, and the package variables that the reading takes, are together of bulk at most 1048576: NARROWER than '..Said'. Prove '..Said' where nothing that the law and all that it calls make is longer than what came in: it says more and counts as full. Else prove '..UptoSaid'. A law counts once. -/
mutual
def uptoBulk {H : Type} : DataW H → Nat
  | .lit (.string bytes) => bytes.length + 1
  | .lit _ => 1
  | .nil => 1
  | .ptr d => uptoBulk d + 1
  | .slice elems spare => uptoBulkAll elems + uptoBulkAll spare + 1
  | .agg parts => uptoBulkAll parts + 1
  | .iface _ d => uptoBulk d + 1
  | .map entries => uptoBulkEntries entries + 1
  | .held _ => 1
def uptoBulkAll {H : Type} : List (DataW H) → Nat
  | [] => 0
  | d :: r => uptoBulk d + uptoBulkAll r
def uptoBulkEntries {H : Type} : List (Lit × DataW H) → Nat
  | [] => 0
  | x :: r => uptoBulkEntry x + uptoBulkEntries r
def uptoBulkEntry {H : Type} : Lit × DataW H → Nat
  | (.string bytes, d) => bytes.length + uptoBulk d + 1
  | (_, d) => uptoBulk d + 1
 end
def uptoSmall : (H : Type) → List (DataW H) → Bool := fun _ ds => decide (uptoBulkAll ds ≤ 1048576)
def OpenSpec.upto (s : _root_.Go.ChangeSpec) : _root_.Go.OpenSpec := { _root_.Go.OpenSpec.ofChange s with cond := some uptoSmall }

/-- 'scanlaw1.FaultsGrouped', WHERE WHAT IT READS IS OF BULK AT MOST 1048576: true; the input reads as it did. -/
def faultsGroupedUptoRow : OpenClaim := { program := "ytpifoghhaohhaaagreatdoor", sum := "616a041b548f31a82393c02c585179b3e8f6e38cbccfb8f15d6d045e4552f691", func := "scanchain/scanlaw1.FaultsGrouped", spec := "faultsGrouped", inPlace := ["internal/abi.NoEscape", "internal/bytealg.MakeNoZero", "internal/bytealg.IndexByteString", "internal/bytealg.IndexString"], unfollowed := true, recurses := true, named := ["internal/strconv.uint64pow10", "math/bits.deBruijn32tab", "math/bits.deBruijn64tab", "unicode/utf8.first", "unicode/utf8.acceptRanges", "internal/bytealg.MaxLen"], apart := false, laid := [("math/bits.deBruijn32tab", laid_math_bits_deBruijn32tab), ("math/bits.deBruijn64tab", laid_math_bits_deBruijn64tab), ("internal/strconv.uint64pow10", laid_internal_strconv_uint64pow10), ("unicode/utf8.acceptRanges", laid_unicode_utf8_acceptRanges), ("unicode/utf8.first", laid_unicode_utf8_first)], narrowed := true }
def FaultsGroupedUptoSaid : Prop := faultsGroupedUptoRow.holds Tryz.pinned (OpenSpec.upto faultsGroupedSpec)

/-- 'scantop.TopDictionariesDiagnose', WHERE WHAT IT READS IS OF BULK AT MOST 1048576: true; the input reads as it did. -/
def topDictionariesDiagnoseUptoRow : OpenClaim := { program := "ytpifoghhaohhaaagreatdoor", sum := "616a041b548f31a82393c02c585179b3e8f6e38cbccfb8f15d6d045e4552f691", func := "scanchain/scantop.TopDictionariesDiagnose", spec := "topDictionariesDiagnose", inPlace := ["internal/bytealg.IndexByteString", "internal/bytealg.IndexString", "internal/abi.NoEscape", "internal/bytealg.MakeNoZero"], unfollowed := true, recurses := true, named := ["unicode/utf8.first", "unicode/utf8.acceptRanges", "internal/strconv.uint64pow10", "math/bits.deBruijn32tab", "math/bits.deBruijn64tab", "internal/bytealg.MaxLen"], apart := false, laid := [("math/bits.deBruijn32tab", laid_math_bits_deBruijn32tab), ("math/bits.deBruijn64tab", laid_math_bits_deBruijn64tab), ("internal/strconv.uint64pow10", laid_internal_strconv_uint64pow10), ("unicode/utf8.acceptRanges", laid_unicode_utf8_acceptRanges), ("unicode/utf8.first", laid_unicode_utf8_first)], narrowed := true }
def TopDictionariesDiagnoseUptoSaid : Prop := topDictionariesDiagnoseUptoRow.holds Tryz.pinned (OpenSpec.upto topDictionariesDiagnoseSpec)

/-- 'scankeep1.TheFaultIsCandidate', WHERE WHAT IT READS IS OF BULK AT MOST 1048576: true; the input reads as it did. -/
def theFaultIsCandidateUptoRow : OpenClaim := { program := "ytpifoghhaohhaaagreatdoor", sum := "616a041b548f31a82393c02c585179b3e8f6e38cbccfb8f15d6d045e4552f691", func := "scanchain/scankeep1.TheFaultIsCandidate", spec := "theFaultIsCandidate", inPlace := ["internal/abi.NoEscape", "internal/bytealg.MakeNoZero", "internal/bytealg.IndexByteString", "internal/bytealg.IndexString"], unfollowed := true, recurses := true, named := ["internal/strconv.uint64pow10", "math/bits.deBruijn32tab", "math/bits.deBruijn64tab", "unicode/utf8.first", "unicode/utf8.acceptRanges", "internal/bytealg.MaxLen"], apart := false, laid := [("math/bits.deBruijn32tab", laid_math_bits_deBruijn32tab), ("math/bits.deBruijn64tab", laid_math_bits_deBruijn64tab), ("internal/strconv.uint64pow10", laid_internal_strconv_uint64pow10), ("unicode/utf8.acceptRanges", laid_unicode_utf8_acceptRanges), ("unicode/utf8.first", laid_unicode_utf8_first)], narrowed := true }
def TheFaultIsCandidateUptoSaid : Prop := theFaultIsCandidateUptoRow.holds Tryz.pinned (OpenSpec.upto theFaultIsCandidateSpec)

/-- 'scanlaw1.FaultsFound', WHERE WHAT IT READS IS OF BULK AT MOST 1048576: true; the input reads as it did. -/
def faultsFoundUptoRow : OpenClaim := { program := "ytpifoghhaohhaaagreatdoor", sum := "616a041b548f31a82393c02c585179b3e8f6e38cbccfb8f15d6d045e4552f691", func := "scanchain/scanlaw1.FaultsFound", spec := "faultsFound", inPlace := ["internal/abi.NoEscape", "internal/bytealg.MakeNoZero", "internal/bytealg.IndexByteString", "internal/bytealg.IndexString"], unfollowed := true, recurses := true, named := ["internal/strconv.uint64pow10", "math/bits.deBruijn32tab", "math/bits.deBruijn64tab", "unicode/utf8.first", "unicode/utf8.acceptRanges", "internal/bytealg.MaxLen"], apart := false, laid := [("math/bits.deBruijn32tab", laid_math_bits_deBruijn32tab), ("math/bits.deBruijn64tab", laid_math_bits_deBruijn64tab), ("internal/strconv.uint64pow10", laid_internal_strconv_uint64pow10), ("unicode/utf8.acceptRanges", laid_unicode_utf8_acceptRanges), ("unicode/utf8.first", laid_unicode_utf8_first)], narrowed := true }
def FaultsFoundUptoSaid : Prop := faultsFoundUptoRow.holds Tryz.pinned (OpenSpec.upto faultsFoundSpec)

/-- 'scanlaw1.TestsChosen', WHERE WHAT IT READS IS OF BULK AT MOST 1048576: true; the input reads as it did. -/
def testsChosenUptoRow : OpenClaim := { program := "ytpifoghhaohhaaagreatdoor", sum := "616a041b548f31a82393c02c585179b3e8f6e38cbccfb8f15d6d045e4552f691", func := "scanchain/scanlaw1.TestsChosen", spec := "testsChosen", inPlace := ["internal/abi.NoEscape", "internal/bytealg.MakeNoZero", "internal/bytealg.IndexByteString", "internal/bytealg.IndexString"], unfollowed := true, recurses := true, named := ["internal/strconv.uint64pow10", "math/bits.deBruijn32tab", "math/bits.deBruijn64tab", "unicode/utf8.first", "unicode/utf8.acceptRanges", "internal/bytealg.MaxLen"], apart := false, laid := [("math/bits.deBruijn32tab", laid_math_bits_deBruijn32tab), ("math/bits.deBruijn64tab", laid_math_bits_deBruijn64tab), ("internal/strconv.uint64pow10", laid_internal_strconv_uint64pow10), ("unicode/utf8.acceptRanges", laid_unicode_utf8_acceptRanges), ("unicode/utf8.first", laid_unicode_utf8_first)], narrowed := true }
def TestsChosenUptoSaid : Prop := testsChosenUptoRow.holds Tryz.pinned (OpenSpec.upto testsChosenSpec)

/-- 'scankeep1.ExplanationsExplain', WHERE WHAT IT READS IS OF BULK AT MOST 1048576: true; the input reads as it did. -/
def explanationsExplainUptoRow : OpenClaim := { program := "ytpifoghhaohhaaagreatdoor", sum := "616a041b548f31a82393c02c585179b3e8f6e38cbccfb8f15d6d045e4552f691", func := "scanchain/scankeep1.ExplanationsExplain", spec := "explanationsExplain", inPlace := ["internal/abi.NoEscape", "internal/bytealg.MakeNoZero", "internal/bytealg.IndexByteString", "internal/bytealg.IndexString"], unfollowed := true, recurses := true, named := ["internal/strconv.uint64pow10", "math/bits.deBruijn32tab", "math/bits.deBruijn64tab", "unicode/utf8.first", "unicode/utf8.acceptRanges", "internal/bytealg.MaxLen"], apart := false, laid := [("math/bits.deBruijn32tab", laid_math_bits_deBruijn32tab), ("math/bits.deBruijn64tab", laid_math_bits_deBruijn64tab), ("internal/strconv.uint64pow10", laid_internal_strconv_uint64pow10), ("unicode/utf8.acceptRanges", laid_unicode_utf8_acceptRanges), ("unicode/utf8.first", laid_unicode_utf8_first)], narrowed := true }
def ExplanationsExplainUptoSaid : Prop := explanationsExplainUptoRow.holds Tryz.pinned (OpenSpec.upto explanationsExplainSpec)

/-- 'scanlaw1.DictionariesChecked', WHERE WHAT IT READS IS OF BULK AT MOST 1048576: true; the input reads as it did. -/
def dictionariesCheckedUptoRow : OpenClaim := { program := "ytpifoghhaohhaaagreatdoor", sum := "616a041b548f31a82393c02c585179b3e8f6e38cbccfb8f15d6d045e4552f691", func := "scanchain/scanlaw1.DictionariesChecked", spec := "dictionariesChecked", inPlace := ["internal/abi.NoEscape", "internal/bytealg.MakeNoZero", "internal/bytealg.IndexByteString", "internal/bytealg.IndexString", "internal/bytealg.CountString"], unfollowed := true, recurses := true, named := ["internal/strconv.uint64pow10", "math/bits.deBruijn32tab", "math/bits.deBruijn64tab", "unicode/utf8.first", "unicode/utf8.acceptRanges", "internal/bytealg.MaxLen"], apart := false, laid := [("math/bits.deBruijn32tab", laid_math_bits_deBruijn32tab), ("math/bits.deBruijn64tab", laid_math_bits_deBruijn64tab), ("internal/strconv.uint64pow10", laid_internal_strconv_uint64pow10), ("unicode/utf8.acceptRanges", laid_unicode_utf8_acceptRanges), ("unicode/utf8.first", laid_unicode_utf8_first)], narrowed := true }
def DictionariesCheckedUptoSaid : Prop := dictionariesCheckedUptoRow.holds Tryz.pinned (OpenSpec.upto dictionariesCheckedSpec)

/-- 'scankeep1.FewestTestsResolve', WHERE WHAT IT READS IS OF BULK AT MOST 1048576: true; the input reads as it did. -/
def fewestTestsResolveUptoRow : OpenClaim := { program := "ytpifoghhaohhaaagreatdoor", sum := "616a041b548f31a82393c02c585179b3e8f6e38cbccfb8f15d6d045e4552f691", func := "scanchain/scankeep1.FewestTestsResolve", spec := "fewestTestsResolve", inPlace := ["internal/abi.NoEscape", "internal/bytealg.MakeNoZero", "internal/bytealg.IndexByteString", "internal/bytealg.IndexString"], unfollowed := true, recurses := true, named := ["internal/strconv.uint64pow10", "math/bits.deBruijn32tab", "math/bits.deBruijn64tab", "unicode/utf8.first", "unicode/utf8.acceptRanges", "internal/bytealg.MaxLen"], apart := false, laid := [("math/bits.deBruijn32tab", laid_math_bits_deBruijn32tab), ("math/bits.deBruijn64tab", laid_math_bits_deBruijn64tab), ("internal/strconv.uint64pow10", laid_internal_strconv_uint64pow10), ("unicode/utf8.acceptRanges", laid_unicode_utf8_acceptRanges), ("unicode/utf8.first", laid_unicode_utf8_first)], narrowed := true }
def FewestTestsResolveUptoSaid : Prop := fewestTestsResolveUptoRow.holds Tryz.pinned (OpenSpec.upto fewestTestsResolveSpec)

/-- 'scankeep1.DictionariesComeBack', WHERE WHAT IT READS IS OF BULK AT MOST 1048576: true; the input reads as it did. -/
def dictionariesComeBackUptoRow : OpenClaim := { program := "ytpifoghhaohhaaagreatdoor", sum := "616a041b548f31a82393c02c585179b3e8f6e38cbccfb8f15d6d045e4552f691", func := "scanchain/scankeep1.DictionariesComeBack", spec := "dictionariesComeBack", inPlace := ["internal/abi.NoEscape", "internal/bytealg.MakeNoZero", "internal/bytealg.IndexByteString", "internal/bytealg.IndexString", "internal/bytealg.CountString"], unfollowed := true, recurses := true, named := ["internal/strconv.uint64pow10", "math/bits.deBruijn32tab", "math/bits.deBruijn64tab", "unicode/utf8.first", "unicode/utf8.acceptRanges", "internal/bytealg.MaxLen"], apart := false, laid := [("math/bits.deBruijn32tab", laid_math_bits_deBruijn32tab), ("math/bits.deBruijn64tab", laid_math_bits_deBruijn64tab), ("internal/strconv.uint64pow10", laid_internal_strconv_uint64pow10), ("unicode/utf8.acceptRanges", laid_unicode_utf8_acceptRanges), ("unicode/utf8.first", laid_unicode_utf8_first)], narrowed := true }
def DictionariesComeBackUptoSaid : Prop := dictionariesComeBackUptoRow.holds Tryz.pinned (OpenSpec.upto dictionariesComeBackSpec)

/-- 'scankeep1.DictionariesStay', WHERE WHAT IT READS IS OF BULK AT MOST 1048576: true; the input reads as it did. -/
def dictionariesStayUptoRow : OpenClaim := { program := "ytpifoghhaohhaaagreatdoor", sum := "616a041b548f31a82393c02c585179b3e8f6e38cbccfb8f15d6d045e4552f691", func := "scanchain/scankeep1.DictionariesStay", spec := "dictionariesStay", inPlace := ["internal/abi.NoEscape", "internal/bytealg.MakeNoZero", "internal/bytealg.IndexByteString", "internal/bytealg.IndexString", "internal/bytealg.CountString"], unfollowed := true, recurses := true, named := ["internal/strconv.uint64pow10", "math/bits.deBruijn32tab", "math/bits.deBruijn64tab", "unicode/utf8.first", "unicode/utf8.acceptRanges", "internal/bytealg.MaxLen"], apart := false, laid := [("math/bits.deBruijn32tab", laid_math_bits_deBruijn32tab), ("math/bits.deBruijn64tab", laid_math_bits_deBruijn64tab), ("internal/strconv.uint64pow10", laid_internal_strconv_uint64pow10), ("unicode/utf8.acceptRanges", laid_unicode_utf8_acceptRanges), ("unicode/utf8.first", laid_unicode_utf8_first)], narrowed := true }
def DictionariesStayUptoSaid : Prop := dictionariesStayUptoRow.holds Tryz.pinned (OpenSpec.upto dictionariesStaySpec)

/-- 'scankeep1.GroupsDivide', WHERE WHAT IT READS IS OF BULK AT MOST 1048576: true; the input reads as it did. -/
def groupsDivideUptoRow : OpenClaim := { program := "ytpifoghhaohhaaagreatdoor", sum := "616a041b548f31a82393c02c585179b3e8f6e38cbccfb8f15d6d045e4552f691", func := "scanchain/scankeep1.GroupsDivide", spec := "groupsDivide", inPlace := ["internal/abi.NoEscape", "internal/bytealg.MakeNoZero", "internal/bytealg.IndexByteString", "internal/bytealg.IndexString"], unfollowed := true, recurses := true, named := ["internal/strconv.uint64pow10", "math/bits.deBruijn32tab", "math/bits.deBruijn64tab", "unicode/utf8.first", "unicode/utf8.acceptRanges", "internal/bytealg.MaxLen"], apart := false, laid := [("math/bits.deBruijn32tab", laid_math_bits_deBruijn32tab), ("math/bits.deBruijn64tab", laid_math_bits_deBruijn64tab), ("internal/strconv.uint64pow10", laid_internal_strconv_uint64pow10), ("unicode/utf8.acceptRanges", laid_unicode_utf8_acceptRanges), ("unicode/utf8.first", laid_unicode_utf8_first)], narrowed := true }
def GroupsDivideUptoSaid : Prop := groupsDivideUptoRow.holds Tryz.pinned (OpenSpec.upto groupsDivideSpec)

end Rows
end Go.Proofs.YtpifoghhaohhaaaGreatDoor
