/-
  NARROWER THAN 'FOR EVERY INPUT', by the rows' own cells (each row's printed sentence says how): VectorsStay: laid · VectorsChecked: laid · TopComplementedCovers: laid · VectorsChosen: laid · FewestAreEnough: laid · TopFewestDetectShorts: laid · SequencesComeBack: laid · VectorsGenerated: laid · OrdersAreOrders: laid.
  DERIVED. THE GIVEN ROWS OF THIS SEAT. 9 by the template 'for every input the law returns true; each argument reads behind the call as it read before'; 0 by the template 'total and deterministic' (their statements: YthcldfmlfjomfaaDoorTotals.lean).
  GIVEN WITH THE SEED: the statements are not yours to turn. If you find one false, say at which input.
  Laid BY PROGRAM, IN A SANDBOX (cutbox-rows.mjs): the forced cells as the released guide's own fill.sh prints them over the translation 9f4e0e5706e193f2… (all of the seat's roots in one cut). By AI agents, Wed Nov 11 2026. No macro, syntax, notation, axiom, sorry.
-/
import Derived.Test.YthcldfmlfjomfaaDoorChecked
import GoSem.PinnedTables
import GoSem.Claim
import GoSem.ClaimJoined
import GoSem.ClaimMapViews
import Derived.JoinedTies
import Derived.KernelRfl
namespace Go.Proofs.YthcldfmlfjomfaaDoor
/- THE CELL 'sum', in the pinned program and in every row, IS THE sha256 OF THE DUMP (.gsa) THAT YthcldfmlfjomfaaDoorProg.lean LOADS. Nothing in Lean hashes anything: it is a label: what it is worth is what the hold of that sum in a sandbox is worth. -/
noncomputable def Tryd.pinned : Pinned := { name := "ythcldfmlfjomfaadoor", sum := "9f4e0e5706e193f2cd73eff330f59b6fe257bcf258721e8d82af8ea9f259ec7f", checked := Tryd.checked }
namespace Rows
def none {H : Type} : Left H := { results := [], args := [] }

/- WHAT THE LISTED PACKAGE-LEVEL VARIABLES READ AS WHEN THE CALL BEGINS. Each datum BY PROGRAM (the guide's laid-datum.mjs) off the statement by which the dump's own 'gosem.cut.vars' lays the variable. In a bare row this is a premise. The card (YthcldfmlfjomfaaDoorCards.lean) ties it to the program's text. -/
def laid_unicode_utf8_acceptRanges {H : Type} : DataW H := .agg [.agg [.lit (.int .u8 128), .lit (.int .u8 191)], .agg [.lit (.int .u8 160), .lit (.int .u8 191)], .agg [.lit (.int .u8 128), .lit (.int .u8 159)], .agg [.lit (.int .u8 144), .lit (.int .u8 191)], .agg [.lit (.int .u8 128), .lit (.int .u8 143)], .agg [.lit (.int .u8 0), .lit (.int .u8 0)], .agg [.lit (.int .u8 0), .lit (.int .u8 0)], .agg [.lit (.int .u8 0), .lit (.int .u8 0)], .agg [.lit (.int .u8 0), .lit (.int .u8 0)], .agg [.lit (.int .u8 0), .lit (.int .u8 0)], .agg [.lit (.int .u8 0), .lit (.int .u8 0)], .agg [.lit (.int .u8 0), .lit (.int .u8 0)], .agg [.lit (.int .u8 0), .lit (.int .u8 0)], .agg [.lit (.int .u8 0), .lit (.int .u8 0)], .agg [.lit (.int .u8 0), .lit (.int .u8 0)], .agg [.lit (.int .u8 0), .lit (.int .u8 0)]]
/-- One of Go's own tables, pinned by name: the form's constant. -/
def laid_unicode_utf8_first : DataW Unit := Go.Pinned.utf8First
def laid_math_bits_deBruijn32tab {H : Type} : DataW H := .agg [.lit (.int .u8 0), .lit (.int .u8 1), .lit (.int .u8 28), .lit (.int .u8 2), .lit (.int .u8 29), .lit (.int .u8 14), .lit (.int .u8 24), .lit (.int .u8 3), .lit (.int .u8 30), .lit (.int .u8 22), .lit (.int .u8 20), .lit (.int .u8 15), .lit (.int .u8 25), .lit (.int .u8 17), .lit (.int .u8 4), .lit (.int .u8 8), .lit (.int .u8 31), .lit (.int .u8 27), .lit (.int .u8 13), .lit (.int .u8 23), .lit (.int .u8 21), .lit (.int .u8 19), .lit (.int .u8 16), .lit (.int .u8 7), .lit (.int .u8 26), .lit (.int .u8 12), .lit (.int .u8 18), .lit (.int .u8 6), .lit (.int .u8 11), .lit (.int .u8 5), .lit (.int .u8 10), .lit (.int .u8 9)]
def laid_math_bits_deBruijn64tab {H : Type} : DataW H := .agg [.lit (.int .u8 0), .lit (.int .u8 1), .lit (.int .u8 56), .lit (.int .u8 2), .lit (.int .u8 57), .lit (.int .u8 49), .lit (.int .u8 28), .lit (.int .u8 3), .lit (.int .u8 61), .lit (.int .u8 58), .lit (.int .u8 42), .lit (.int .u8 50), .lit (.int .u8 38), .lit (.int .u8 29), .lit (.int .u8 17), .lit (.int .u8 4), .lit (.int .u8 62), .lit (.int .u8 47), .lit (.int .u8 59), .lit (.int .u8 36), .lit (.int .u8 45), .lit (.int .u8 43), .lit (.int .u8 51), .lit (.int .u8 22), .lit (.int .u8 53), .lit (.int .u8 39), .lit (.int .u8 33), .lit (.int .u8 30), .lit (.int .u8 24), .lit (.int .u8 18), .lit (.int .u8 12), .lit (.int .u8 5), .lit (.int .u8 63), .lit (.int .u8 55), .lit (.int .u8 48), .lit (.int .u8 27), .lit (.int .u8 60), .lit (.int .u8 41), .lit (.int .u8 37), .lit (.int .u8 16), .lit (.int .u8 46), .lit (.int .u8 35), .lit (.int .u8 44), .lit (.int .u8 21), .lit (.int .u8 52), .lit (.int .u8 32), .lit (.int .u8 23), .lit (.int .u8 11), .lit (.int .u8 54), .lit (.int .u8 26), .lit (.int .u8 40), .lit (.int .u8 15), .lit (.int .u8 34), .lit (.int .u8 20), .lit (.int .u8 31), .lit (.int .u8 10), .lit (.int .u8 25), .lit (.int .u8 14), .lit (.int .u8 19), .lit (.int .u8 9), .lit (.int .u8 13), .lit (.int .u8 8), .lit (.int .u8 7), .lit (.int .u8 6)]
def laid_internal_strconv_uint64pow10 {H : Type} : DataW H := .agg [.lit (.int .u64 1), .lit (.int .u64 10), .lit (.int .u64 100), .lit (.int .u64 1000), .lit (.int .u64 10000), .lit (.int .u64 100000), .lit (.int .u64 1000000), .lit (.int .u64 10000000), .lit (.int .u64 100000000), .lit (.int .u64 1000000000), .lit (.int .u64 10000000000), .lit (.int .u64 100000000000), .lit (.int .u64 1000000000000), .lit (.int .u64 10000000000000), .lit (.int .u64 100000000000000), .lit (.int .u64 1000000000000000), .lit (.int .u64 10000000000000000), .lit (.int .u64 100000000000000000), .lit (.int .u64 1000000000000000000), .lit (.int .u64 10000000000000000000)]

/-- 'scankeep1.VectorsStay': WHATEVER THE INPUT: true; the input reads as it did. -/
def vectorsStaySpec : ChangeSpec := { name := "vectorsStay", fn := fun _ => fun
  | [d] => { results := [.lit (.bool true)], args := [d] }
  | _ => none }
def vectorsStayRow : OpenClaim := { program := "ythcldfmlfjomfaadoor", sum := "9f4e0e5706e193f2cd73eff330f59b6fe257bcf258721e8d82af8ea9f259ec7f", func := "scanchain/scankeep1.VectorsStay", spec := "vectorsStay", inPlace := ["internal/bytealg.IndexByteString", "internal/bytealg.IndexString"], unfollowed := true, recurses := true, named := ["unicode/utf8.first", "unicode/utf8.acceptRanges", "internal/bytealg.MaxLen"], plainKeys := false, apart := false, laid := [("unicode/utf8.acceptRanges", laid_unicode_utf8_acceptRanges), ("unicode/utf8.first", laid_unicode_utf8_first)] }
def VectorsStaySaid : Prop := vectorsStayRow.holds Tryd.pinned (OpenSpec.ofChange vectorsStaySpec)

/-- ITS FALSE NEIGHBOUR: 'it returns false'. Refute it at one input. -/
def vectorsStayWrong : ChangeSpec := { name := "vectorsStay", fn := fun _ => fun
  | [d] => { results := [.lit (.bool false)], args := [d] }
  | _ => none }
def VectorsStayWrongFalsely : Prop := vectorsStayRow.holds Tryd.pinned (OpenSpec.ofChange vectorsStayWrong)

/-- 'scanlaw1.VectorsChecked': WHATEVER THE INPUT: true; the input reads as it did. -/
def vectorsCheckedSpec : ChangeSpec := { name := "vectorsChecked", fn := fun _ => fun
  | [d] => { results := [.lit (.bool true)], args := [d] }
  | _ => none }
def vectorsCheckedRow : OpenClaim := { program := "ythcldfmlfjomfaadoor", sum := "9f4e0e5706e193f2cd73eff330f59b6fe257bcf258721e8d82af8ea9f259ec7f", func := "scanchain/scanlaw1.VectorsChecked", spec := "vectorsChecked", inPlace := ["internal/bytealg.IndexByteString", "internal/bytealg.IndexString", "internal/abi.NoEscape", "internal/bytealg.CountString"], unfollowed := true, recurses := true, named := ["unicode/utf8.first", "unicode/utf8.acceptRanges", "internal/bytealg.MaxLen"], plainKeys := false, apart := false, laid := [("unicode/utf8.acceptRanges", laid_unicode_utf8_acceptRanges), ("unicode/utf8.first", laid_unicode_utf8_first)] }
def VectorsCheckedSaid : Prop := vectorsCheckedRow.holds Tryd.pinned (OpenSpec.ofChange vectorsCheckedSpec)

/-- ITS FALSE NEIGHBOUR: 'it returns false'. Refute it at one input. -/
def vectorsCheckedWrong : ChangeSpec := { name := "vectorsChecked", fn := fun _ => fun
  | [d] => { results := [.lit (.bool false)], args := [d] }
  | _ => none }
def VectorsCheckedWrongFalsely : Prop := vectorsCheckedRow.holds Tryd.pinned (OpenSpec.ofChange vectorsCheckedWrong)

/-- 'scantop.TopComplementedCovers': WHATEVER THE INPUT: true; the input reads as it did. -/
def topComplementedCoversSpec : ChangeSpec := { name := "topComplementedCovers", fn := fun _ => fun
  | [d] => { results := [.lit (.bool true)], args := [d] }
  | _ => none }
def topComplementedCoversRow : OpenClaim := { program := "ythcldfmlfjomfaadoor", sum := "9f4e0e5706e193f2cd73eff330f59b6fe257bcf258721e8d82af8ea9f259ec7f", func := "scanchain/scantop.TopComplementedCovers", spec := "topComplementedCovers", inPlace := ["internal/bytealg.IndexByteString", "internal/bytealg.IndexString"], unfollowed := true, recurses := true, named := ["unicode/utf8.first", "unicode/utf8.acceptRanges", "internal/bytealg.MaxLen"], plainKeys := false, apart := false, laid := [("unicode/utf8.acceptRanges", laid_unicode_utf8_acceptRanges), ("unicode/utf8.first", laid_unicode_utf8_first)] }
def TopComplementedCoversSaid : Prop := topComplementedCoversRow.holds Tryd.pinned (OpenSpec.ofChange topComplementedCoversSpec)

/-- ITS FALSE NEIGHBOUR: 'it returns false'. Refute it at one input. -/
def topComplementedCoversWrong : ChangeSpec := { name := "topComplementedCovers", fn := fun _ => fun
  | [d] => { results := [.lit (.bool false)], args := [d] }
  | _ => none }
def TopComplementedCoversWrongFalsely : Prop := topComplementedCoversRow.holds Tryd.pinned (OpenSpec.ofChange topComplementedCoversWrong)

/-- 'scanlaw1.VectorsChosen': WHATEVER THE INPUT: true; the input reads as it did. -/
def vectorsChosenSpec : ChangeSpec := { name := "vectorsChosen", fn := fun _ => fun
  | [d] => { results := [.lit (.bool true)], args := [d] }
  | _ => none }
def vectorsChosenRow : OpenClaim := { program := "ythcldfmlfjomfaadoor", sum := "9f4e0e5706e193f2cd73eff330f59b6fe257bcf258721e8d82af8ea9f259ec7f", func := "scanchain/scanlaw1.VectorsChosen", spec := "vectorsChosen", inPlace := ["internal/bytealg.IndexByteString", "internal/bytealg.IndexString"], unfollowed := true, recurses := true, named := ["unicode/utf8.first", "unicode/utf8.acceptRanges", "internal/bytealg.MaxLen"], plainKeys := false, apart := false, laid := [("unicode/utf8.acceptRanges", laid_unicode_utf8_acceptRanges), ("unicode/utf8.first", laid_unicode_utf8_first)] }
def VectorsChosenSaid : Prop := vectorsChosenRow.holds Tryd.pinned (OpenSpec.ofChange vectorsChosenSpec)

/-- ITS FALSE NEIGHBOUR: 'it returns false'. Refute it at one input. -/
def vectorsChosenWrong : ChangeSpec := { name := "vectorsChosen", fn := fun _ => fun
  | [d] => { results := [.lit (.bool false)], args := [d] }
  | _ => none }
def VectorsChosenWrongFalsely : Prop := vectorsChosenRow.holds Tryd.pinned (OpenSpec.ofChange vectorsChosenWrong)

/-- 'scankeep1.FewestAreEnough': WHATEVER THE INPUT: true; the input reads as it did. -/
def fewestAreEnoughSpec : ChangeSpec := { name := "fewestAreEnough", fn := fun _ => fun
  | [d] => { results := [.lit (.bool true)], args := [d] }
  | _ => none }
def fewestAreEnoughRow : OpenClaim := { program := "ythcldfmlfjomfaadoor", sum := "9f4e0e5706e193f2cd73eff330f59b6fe257bcf258721e8d82af8ea9f259ec7f", func := "scanchain/scankeep1.FewestAreEnough", spec := "fewestAreEnough", inPlace := ["internal/bytealg.IndexByteString", "internal/bytealg.IndexString"], unfollowed := true, recurses := true, named := ["unicode/utf8.first", "unicode/utf8.acceptRanges", "internal/bytealg.MaxLen"], plainKeys := false, apart := false, laid := [("unicode/utf8.acceptRanges", laid_unicode_utf8_acceptRanges), ("unicode/utf8.first", laid_unicode_utf8_first)] }
def FewestAreEnoughSaid : Prop := fewestAreEnoughRow.holds Tryd.pinned (OpenSpec.ofChange fewestAreEnoughSpec)

/-- ITS FALSE NEIGHBOUR: 'it returns false'. Refute it at one input. -/
def fewestAreEnoughWrong : ChangeSpec := { name := "fewestAreEnough", fn := fun _ => fun
  | [d] => { results := [.lit (.bool false)], args := [d] }
  | _ => none }
def FewestAreEnoughWrongFalsely : Prop := fewestAreEnoughRow.holds Tryd.pinned (OpenSpec.ofChange fewestAreEnoughWrong)

/-- 'scantop.TopFewestDetectShorts': WHATEVER THE INPUT: true; the input reads as it did. -/
def topFewestDetectShortsSpec : ChangeSpec := { name := "topFewestDetectShorts", fn := fun _ => fun
  | [d] => { results := [.lit (.bool true)], args := [d] }
  | _ => none }
def topFewestDetectShortsRow : OpenClaim := { program := "ythcldfmlfjomfaadoor", sum := "9f4e0e5706e193f2cd73eff330f59b6fe257bcf258721e8d82af8ea9f259ec7f", func := "scanchain/scantop.TopFewestDetectShorts", spec := "topFewestDetectShorts", inPlace := ["internal/bytealg.IndexByteString", "internal/bytealg.IndexString"], unfollowed := true, recurses := true, named := ["unicode/utf8.first", "unicode/utf8.acceptRanges", "internal/bytealg.MaxLen"], plainKeys := false, apart := false, laid := [("unicode/utf8.acceptRanges", laid_unicode_utf8_acceptRanges), ("unicode/utf8.first", laid_unicode_utf8_first)] }
def TopFewestDetectShortsSaid : Prop := topFewestDetectShortsRow.holds Tryd.pinned (OpenSpec.ofChange topFewestDetectShortsSpec)

/-- ITS FALSE NEIGHBOUR: 'it returns false'. Refute it at one input. -/
def topFewestDetectShortsWrong : ChangeSpec := { name := "topFewestDetectShorts", fn := fun _ => fun
  | [d] => { results := [.lit (.bool false)], args := [d] }
  | _ => none }
def TopFewestDetectShortsWrongFalsely : Prop := topFewestDetectShortsRow.holds Tryd.pinned (OpenSpec.ofChange topFewestDetectShortsWrong)

/-- 'scankeep1.SequencesComeBack': WHATEVER THE INPUT: true; the input reads as it did. -/
def sequencesComeBackSpec : ChangeSpec := { name := "sequencesComeBack", fn := fun _ => fun
  | [d] => { results := [.lit (.bool true)], args := [d] }
  | _ => none }
def sequencesComeBackRow : OpenClaim := { program := "ythcldfmlfjomfaadoor", sum := "9f4e0e5706e193f2cd73eff330f59b6fe257bcf258721e8d82af8ea9f259ec7f", func := "scanchain/scankeep1.SequencesComeBack", spec := "sequencesComeBack", inPlace := ["internal/bytealg.IndexByteString", "internal/bytealg.IndexString", "internal/abi.NoEscape", "internal/bytealg.CountString"], unfollowed := true, recurses := true, named := ["unicode/utf8.first", "unicode/utf8.acceptRanges", "internal/bytealg.MaxLen"], plainKeys := false, apart := false, laid := [("unicode/utf8.acceptRanges", laid_unicode_utf8_acceptRanges), ("unicode/utf8.first", laid_unicode_utf8_first)] }
def SequencesComeBackSaid : Prop := sequencesComeBackRow.holds Tryd.pinned (OpenSpec.ofChange sequencesComeBackSpec)

/-- ITS FALSE NEIGHBOUR: 'it returns false'. Refute it at one input. -/
def sequencesComeBackWrong : ChangeSpec := { name := "sequencesComeBack", fn := fun _ => fun
  | [d] => { results := [.lit (.bool false)], args := [d] }
  | _ => none }
def SequencesComeBackWrongFalsely : Prop := sequencesComeBackRow.holds Tryd.pinned (OpenSpec.ofChange sequencesComeBackWrong)

/-- 'scanlaw1.VectorsGenerated': WHATEVER THE INPUT: true; the input reads as it did. -/
def vectorsGeneratedSpec : ChangeSpec := { name := "vectorsGenerated", fn := fun _ => fun
  | [d] => { results := [.lit (.bool true)], args := [d] }
  | _ => none }
def vectorsGeneratedRow : OpenClaim := { program := "ythcldfmlfjomfaadoor", sum := "9f4e0e5706e193f2cd73eff330f59b6fe257bcf258721e8d82af8ea9f259ec7f", func := "scanchain/scanlaw1.VectorsGenerated", spec := "vectorsGenerated", inPlace := ["internal/abi.NoEscape", "internal/bytealg.MakeNoZero", "internal/bytealg.CountString", "internal/bytealg.IndexByteString", "internal/bytealg.IndexString"], unfollowed := true, recurses := true, named := ["internal/strconv.uint64pow10", "math/bits.deBruijn32tab", "math/bits.deBruijn64tab", "internal/bytealg.MaxLen", "unicode/utf8.first", "unicode/utf8.acceptRanges"], plainKeys := false, apart := false, laid := [("math/bits.deBruijn32tab", laid_math_bits_deBruijn32tab), ("math/bits.deBruijn64tab", laid_math_bits_deBruijn64tab), ("internal/strconv.uint64pow10", laid_internal_strconv_uint64pow10), ("unicode/utf8.acceptRanges", laid_unicode_utf8_acceptRanges), ("unicode/utf8.first", laid_unicode_utf8_first)] }
def VectorsGeneratedSaid : Prop := vectorsGeneratedRow.holds Tryd.pinned (OpenSpec.ofChange vectorsGeneratedSpec)

/-- ITS FALSE NEIGHBOUR: 'it returns false'. Refute it at one input. -/
def vectorsGeneratedWrong : ChangeSpec := { name := "vectorsGenerated", fn := fun _ => fun
  | [d] => { results := [.lit (.bool false)], args := [d] }
  | _ => none }
def VectorsGeneratedWrongFalsely : Prop := vectorsGeneratedRow.holds Tryd.pinned (OpenSpec.ofChange vectorsGeneratedWrong)

/-- 'scankeep1.OrdersAreOrders': WHATEVER THE INPUT: true; the input reads as it did. -/
def ordersAreOrdersSpec : ChangeSpec := { name := "ordersAreOrders", fn := fun _ => fun
  | [d] => { results := [.lit (.bool true)], args := [d] }
  | _ => none }
def ordersAreOrdersRow : OpenClaim := { program := "ythcldfmlfjomfaadoor", sum := "9f4e0e5706e193f2cd73eff330f59b6fe257bcf258721e8d82af8ea9f259ec7f", func := "scanchain/scankeep1.OrdersAreOrders", spec := "ordersAreOrders", inPlace := ["internal/bytealg.IndexByteString", "internal/bytealg.IndexString"], unfollowed := true, recurses := true, named := ["unicode/utf8.first", "unicode/utf8.acceptRanges", "internal/bytealg.MaxLen"], plainKeys := false, apart := false, laid := [("unicode/utf8.acceptRanges", laid_unicode_utf8_acceptRanges), ("unicode/utf8.first", laid_unicode_utf8_first)] }
def OrdersAreOrdersSaid : Prop := ordersAreOrdersRow.holds Tryd.pinned (OpenSpec.ofChange ordersAreOrdersSpec)

/-- ITS FALSE NEIGHBOUR: 'it returns false'. Refute it at one input. -/
def ordersAreOrdersWrong : ChangeSpec := { name := "ordersAreOrders", fn := fun _ => fun
  | [d] => { results := [.lit (.bool false)], args := [d] }
  | _ => none }
def OrdersAreOrdersWrongFalsely : Prop := ordersAreOrdersRow.holds Tryd.pinned (OpenSpec.ofChange ordersAreOrdersWrong)

/- THE SECOND FORM. 'bulk': how many values and letters a reading holds, each counted each time it is reached (what is shared counts as often as it is met; a slice's spare places count too). A statement '..UptoSaid' is the law's where the arguments, and the package variables that the reading takes, are together of bulk at most 1048576: NARROWER than '..Said'. Prove '..Said' where nothing that the law and all that it calls make is longer than what came in: it says more and counts as full. Else prove '..UptoSaid'. A law counts once. -/
mutual
def uptoBulk {H : Type} : DataW H → Nat
  | .lit (.string bytes) => bytes.length + 1
  | .lit _ => 1
  | .nil => 1
  | .ptr d => uptoBulk d + 1
  | .slice elems spare => uptoBulkAll elems + uptoBulkAll spare + 1
  | .agg parts => uptoBulkAll parts + 1
  | .iface _ d => uptoBulk d + 1
  | .map entries => uptoBulkEntries entries + 1
  | .held _ => 1
def uptoBulkAll {H : Type} : List (DataW H) → Nat
  | [] => 0
  | d :: r => uptoBulk d + uptoBulkAll r
def uptoBulkEntries {H : Type} : List (Lit × DataW H) → Nat
  | [] => 0
  | x :: r => uptoBulkEntry x + uptoBulkEntries r
def uptoBulkEntry {H : Type} : Lit × DataW H → Nat
  | (.string bytes, d) => bytes.length + uptoBulk d + 1
  | (_, d) => uptoBulk d + 1
 end
def uptoSmall : (H : Type) → List (DataW H) → Bool := fun _ ds => decide (uptoBulkAll ds ≤ 1048576)
def OpenSpec.upto (s : _root_.Go.ChangeSpec) : _root_.Go.OpenSpec := { _root_.Go.OpenSpec.ofChange s with cond := some uptoSmall }

/-- 'scankeep1.VectorsStay', WHERE WHAT IT READS IS OF BULK AT MOST 1048576: true; the input reads as it did. -/
def vectorsStayUptoRow : OpenClaim := { program := "ythcldfmlfjomfaadoor", sum := "9f4e0e5706e193f2cd73eff330f59b6fe257bcf258721e8d82af8ea9f259ec7f", func := "scanchain/scankeep1.VectorsStay", spec := "vectorsStay", inPlace := ["internal/bytealg.IndexByteString", "internal/bytealg.IndexString"], unfollowed := true, recurses := true, named := ["unicode/utf8.first", "unicode/utf8.acceptRanges", "internal/bytealg.MaxLen"], plainKeys := false, apart := false, laid := [("unicode/utf8.acceptRanges", laid_unicode_utf8_acceptRanges), ("unicode/utf8.first", laid_unicode_utf8_first)], narrowed := true }
def VectorsStayUptoSaid : Prop := vectorsStayUptoRow.holds Tryd.pinned (OpenSpec.upto vectorsStaySpec)

/-- 'scanlaw1.VectorsChecked', WHERE WHAT IT READS IS OF BULK AT MOST 1048576: true; the input reads as it did. -/
def vectorsCheckedUptoRow : OpenClaim := { program := "ythcldfmlfjomfaadoor", sum := "9f4e0e5706e193f2cd73eff330f59b6fe257bcf258721e8d82af8ea9f259ec7f", func := "scanchain/scanlaw1.VectorsChecked", spec := "vectorsChecked", inPlace := ["internal/bytealg.IndexByteString", "internal/bytealg.IndexString", "internal/abi.NoEscape", "internal/bytealg.CountString"], unfollowed := true, recurses := true, named := ["unicode/utf8.first", "unicode/utf8.acceptRanges", "internal/bytealg.MaxLen"], plainKeys := false, apart := false, laid := [("unicode/utf8.acceptRanges", laid_unicode_utf8_acceptRanges), ("unicode/utf8.first", laid_unicode_utf8_first)], narrowed := true }
def VectorsCheckedUptoSaid : Prop := vectorsCheckedUptoRow.holds Tryd.pinned (OpenSpec.upto vectorsCheckedSpec)

/-- 'scantop.TopComplementedCovers', WHERE WHAT IT READS IS OF BULK AT MOST 1048576: true; the input reads as it did. -/
def topComplementedCoversUptoRow : OpenClaim := { program := "ythcldfmlfjomfaadoor", sum := "9f4e0e5706e193f2cd73eff330f59b6fe257bcf258721e8d82af8ea9f259ec7f", func := "scanchain/scantop.TopComplementedCovers", spec := "topComplementedCovers", inPlace := ["internal/bytealg.IndexByteString", "internal/bytealg.IndexString"], unfollowed := true, recurses := true, named := ["unicode/utf8.first", "unicode/utf8.acceptRanges", "internal/bytealg.MaxLen"], plainKeys := false, apart := false, laid := [("unicode/utf8.acceptRanges", laid_unicode_utf8_acceptRanges), ("unicode/utf8.first", laid_unicode_utf8_first)], narrowed := true }
def TopComplementedCoversUptoSaid : Prop := topComplementedCoversUptoRow.holds Tryd.pinned (OpenSpec.upto topComplementedCoversSpec)

/-- 'scanlaw1.VectorsChosen', WHERE WHAT IT READS IS OF BULK AT MOST 1048576: true; the input reads as it did. -/
def vectorsChosenUptoRow : OpenClaim := { program := "ythcldfmlfjomfaadoor", sum := "9f4e0e5706e193f2cd73eff330f59b6fe257bcf258721e8d82af8ea9f259ec7f", func := "scanchain/scanlaw1.VectorsChosen", spec := "vectorsChosen", inPlace := ["internal/bytealg.IndexByteString", "internal/bytealg.IndexString"], unfollowed := true, recurses := true, named := ["unicode/utf8.first", "unicode/utf8.acceptRanges", "internal/bytealg.MaxLen"], plainKeys := false, apart := false, laid := [("unicode/utf8.acceptRanges", laid_unicode_utf8_acceptRanges), ("unicode/utf8.first", laid_unicode_utf8_first)], narrowed := true }
def VectorsChosenUptoSaid : Prop := vectorsChosenUptoRow.holds Tryd.pinned (OpenSpec.upto vectorsChosenSpec)

/-- 'scankeep1.FewestAreEnough', WHERE WHAT IT READS IS OF BULK AT MOST 1048576: true; the input reads as it did. -/
def fewestAreEnoughUptoRow : OpenClaim := { program := "ythcldfmlfjomfaadoor", sum := "9f4e0e5706e193f2cd73eff330f59b6fe257bcf258721e8d82af8ea9f259ec7f", func := "scanchain/scankeep1.FewestAreEnough", spec := "fewestAreEnough", inPlace := ["internal/bytealg.IndexByteString", "internal/bytealg.IndexString"], unfollowed := true, recurses := true, named := ["unicode/utf8.first", "unicode/utf8.acceptRanges", "internal/bytealg.MaxLen"], plainKeys := false, apart := false, laid := [("unicode/utf8.acceptRanges", laid_unicode_utf8_acceptRanges), ("unicode/utf8.first", laid_unicode_utf8_first)], narrowed := true }
def FewestAreEnoughUptoSaid : Prop := fewestAreEnoughUptoRow.holds Tryd.pinned (OpenSpec.upto fewestAreEnoughSpec)

/-- 'scantop.TopFewestDetectShorts', WHERE WHAT IT READS IS OF BULK AT MOST 1048576: true; the input reads as it did. -/
def topFewestDetectShortsUptoRow : OpenClaim := { program := "ythcldfmlfjomfaadoor", sum := "9f4e0e5706e193f2cd73eff330f59b6fe257bcf258721e8d82af8ea9f259ec7f", func := "scanchain/scantop.TopFewestDetectShorts", spec := "topFewestDetectShorts", inPlace := ["internal/bytealg.IndexByteString", "internal/bytealg.IndexString"], unfollowed := true, recurses := true, named := ["unicode/utf8.first", "unicode/utf8.acceptRanges", "internal/bytealg.MaxLen"], plainKeys := false, apart := false, laid := [("unicode/utf8.acceptRanges", laid_unicode_utf8_acceptRanges), ("unicode/utf8.first", laid_unicode_utf8_first)], narrowed := true }
def TopFewestDetectShortsUptoSaid : Prop := topFewestDetectShortsUptoRow.holds Tryd.pinned (OpenSpec.upto topFewestDetectShortsSpec)

/-- 'scankeep1.SequencesComeBack', WHERE WHAT IT READS IS OF BULK AT MOST 1048576: true; the input reads as it did. -/
def sequencesComeBackUptoRow : OpenClaim := { program := "ythcldfmlfjomfaadoor", sum := "9f4e0e5706e193f2cd73eff330f59b6fe257bcf258721e8d82af8ea9f259ec7f", func := "scanchain/scankeep1.SequencesComeBack", spec := "sequencesComeBack", inPlace := ["internal/bytealg.IndexByteString", "internal/bytealg.IndexString", "internal/abi.NoEscape", "internal/bytealg.CountString"], unfollowed := true, recurses := true, named := ["unicode/utf8.first", "unicode/utf8.acceptRanges", "internal/bytealg.MaxLen"], plainKeys := false, apart := false, laid := [("unicode/utf8.acceptRanges", laid_unicode_utf8_acceptRanges), ("unicode/utf8.first", laid_unicode_utf8_first)], narrowed := true }
def SequencesComeBackUptoSaid : Prop := sequencesComeBackUptoRow.holds Tryd.pinned (OpenSpec.upto sequencesComeBackSpec)

/-- 'scanlaw1.VectorsGenerated', WHERE WHAT IT READS IS OF BULK AT MOST 1048576: true; the input reads as it did. -/
def vectorsGeneratedUptoRow : OpenClaim := { program := "ythcldfmlfjomfaadoor", sum := "9f4e0e5706e193f2cd73eff330f59b6fe257bcf258721e8d82af8ea9f259ec7f", func := "scanchain/scanlaw1.VectorsGenerated", spec := "vectorsGenerated", inPlace := ["internal/abi.NoEscape", "internal/bytealg.MakeNoZero", "internal/bytealg.CountString", "internal/bytealg.IndexByteString", "internal/bytealg.IndexString"], unfollowed := true, recurses := true, named := ["internal/strconv.uint64pow10", "math/bits.deBruijn32tab", "math/bits.deBruijn64tab", "internal/bytealg.MaxLen", "unicode/utf8.first", "unicode/utf8.acceptRanges"], plainKeys := false, apart := false, laid := [("math/bits.deBruijn32tab", laid_math_bits_deBruijn32tab), ("math/bits.deBruijn64tab", laid_math_bits_deBruijn64tab), ("internal/strconv.uint64pow10", laid_internal_strconv_uint64pow10), ("unicode/utf8.acceptRanges", laid_unicode_utf8_acceptRanges), ("unicode/utf8.first", laid_unicode_utf8_first)], narrowed := true }
def VectorsGeneratedUptoSaid : Prop := vectorsGeneratedUptoRow.holds Tryd.pinned (OpenSpec.upto vectorsGeneratedSpec)

/-- 'scankeep1.OrdersAreOrders', WHERE WHAT IT READS IS OF BULK AT MOST 1048576: true; the input reads as it did. -/
def ordersAreOrdersUptoRow : OpenClaim := { program := "ythcldfmlfjomfaadoor", sum := "9f4e0e5706e193f2cd73eff330f59b6fe257bcf258721e8d82af8ea9f259ec7f", func := "scanchain/scankeep1.OrdersAreOrders", spec := "ordersAreOrders", inPlace := ["internal/bytealg.IndexByteString", "internal/bytealg.IndexString"], unfollowed := true, recurses := true, named := ["unicode/utf8.first", "unicode/utf8.acceptRanges", "internal/bytealg.MaxLen"], plainKeys := false, apart := false, laid := [("unicode/utf8.acceptRanges", laid_unicode_utf8_acceptRanges), ("unicode/utf8.first", laid_unicode_utf8_first)], narrowed := true }
def OrdersAreOrdersUptoSaid : Prop := ordersAreOrdersUptoRow.holds Tryd.pinned (OpenSpec.upto ordersAreOrdersSpec)

end Rows
end Go.Proofs.YthcldfmlfjomfaaDoor
