/-
  No cell of these rows narrows 'for every input' (looked for: loops, veiled, ifaces, maps, wideKeys, modest, calm, conditions, laid).
  DERIVED. THE GIVEN ROWS OF THIS SEAT. 2 by the template 'for every input the law returns true; each argument reads behind the call as it read before'; 0 by the template 'total and deterministic' (their statements: YteepabfepfehgaaTotals.lean).
  GIVEN WITH THE SEED: the statements are not yours to turn. If you find one false, say at which input.
  Laid BY PROGRAM, IN A SANDBOX (cutbox-rows.mjs): the forced cells as the released guide's own fill.sh prints them over the translation 90cfff2b3f8bb3e3… (all of the seat's roots in one cut). By AI agents, Wed Nov 11 2026. No macro, syntax, notation, axiom, sorry.
-/
import Derived.Test.YteepabfepfehgaaChecked
import GoSem.Claim
import GoSem.ClaimJoined
import GoSem.ClaimMapViews
import Derived.JoinedTies
import Derived.KernelRfl
namespace Go.Proofs.Yteepabfepfehgaa
/- THE CELL 'sum', in the pinned program and in every row, IS THE sha256 OF THE DUMP (.gsa) THAT YteepabfepfehgaaProg.lean LOADS. Nothing in Lean hashes anything: it is a label: what it is worth is what the hold of that sum in a sandbox is worth. -/
noncomputable def Try.pinned : Pinned := { name := "yteepabfepfehgaa", sum := "90cfff2b3f8bb3e3228278889d6a10232453be6ba0be373e31244c2020c98ef0", checked := Try.checked }
namespace Rows
def none {H : Type} : Left H := { results := [], args := [] }

/-- 'scanlaw1.WafersCompared': WHATEVER THE INPUT: true; the input reads as it did. -/
def wafersComparedSpec : ChangeSpec := { name := "wafersCompared", fn := fun _ => fun
  | [d] => { results := [.lit (.bool true)], args := [d] }
  | _ => none }
def wafersComparedRow : OpenClaim := { program := "yteepabfepfehgaa", sum := "90cfff2b3f8bb3e3228278889d6a10232453be6ba0be373e31244c2020c98ef0", func := "scanchain/scanlaw1.WafersCompared", spec := "wafersCompared", inPlace := ["internal/bytealg.IndexByteString"], unfollowed := true, recurses := true, plainKeys := false, apart := false }
def WafersComparedSaid : Prop := wafersComparedRow.holds Try.pinned (OpenSpec.ofChange wafersComparedSpec)

/-- ITS FALSE NEIGHBOUR: 'it returns false'. Refute it at one input. -/
def wafersComparedWrong : ChangeSpec := { name := "wafersCompared", fn := fun _ => fun
  | [d] => { results := [.lit (.bool false)], args := [d] }
  | _ => none }
def WafersComparedWrongFalsely : Prop := wafersComparedRow.holds Try.pinned (OpenSpec.ofChange wafersComparedWrong)

/-- 'scankeep1.WafersStay': WHATEVER THE INPUT: true; the input reads as it did. -/
def wafersStaySpec : ChangeSpec := { name := "wafersStay", fn := fun _ => fun
  | [d] => { results := [.lit (.bool true)], args := [d] }
  | _ => none }
def wafersStayRow : OpenClaim := { program := "yteepabfepfehgaa", sum := "90cfff2b3f8bb3e3228278889d6a10232453be6ba0be373e31244c2020c98ef0", func := "scanchain/scankeep1.WafersStay", spec := "wafersStay", inPlace := ["internal/bytealg.IndexByteString"], unfollowed := true, recurses := true, plainKeys := false, apart := false }
def WafersStaySaid : Prop := wafersStayRow.holds Try.pinned (OpenSpec.ofChange wafersStaySpec)

/-- ITS FALSE NEIGHBOUR: 'it returns false'. Refute it at one input. -/
def wafersStayWrong : ChangeSpec := { name := "wafersStay", fn := fun _ => fun
  | [d] => { results := [.lit (.bool false)], args := [d] }
  | _ => none }
def WafersStayWrongFalsely : Prop := wafersStayRow.holds Try.pinned (OpenSpec.ofChange wafersStayWrong)

/- THE SECOND FORM. 'bulk': how many values and letters a reading holds, each counted each time it is reached (what is shared counts as often as it is met; a slice's spare places count too). A statement '..UptoSaid' is the law's where the arguments, and the package variables that the reading takes, are together of bulk at most 1048576: NARROWER than '..Said'. Prove '..Said' where nothing that the law and all that it calls make is longer than what came in: it says more and counts as full. Else prove '..UptoSaid'. A law counts once. -/
mutual
def uptoBulk {H : Type} : DataW H → Nat
  | .lit (.string bytes) => bytes.length + 1
  | .lit _ => 1
  | .nil => 1
  | .ptr d => uptoBulk d + 1
  | .slice elems spare => uptoBulkAll elems + uptoBulkAll spare + 1
  | .agg parts => uptoBulkAll parts + 1
  | .iface _ d => uptoBulk d + 1
  | .map entries => uptoBulkEntries entries + 1
  | .held _ => 1
def uptoBulkAll {H : Type} : List (DataW H) → Nat
  | [] => 0
  | d :: r => uptoBulk d + uptoBulkAll r
def uptoBulkEntries {H : Type} : List (Lit × DataW H) → Nat
  | [] => 0
  | x :: r => uptoBulkEntry x + uptoBulkEntries r
def uptoBulkEntry {H : Type} : Lit × DataW H → Nat
  | (.string bytes, d) => bytes.length + uptoBulk d + 1
  | (_, d) => uptoBulk d + 1
 end
def uptoSmall : (H : Type) → List (DataW H) → Bool := fun _ ds => decide (uptoBulkAll ds ≤ 1048576)
def OpenSpec.upto (s : _root_.Go.ChangeSpec) : _root_.Go.OpenSpec := { _root_.Go.OpenSpec.ofChange s with cond := some uptoSmall }

/-- 'scanlaw1.WafersCompared', WHERE WHAT IT READS IS OF BULK AT MOST 1048576: true; the input reads as it did. -/
def wafersComparedUptoRow : OpenClaim := { program := "yteepabfepfehgaa", sum := "90cfff2b3f8bb3e3228278889d6a10232453be6ba0be373e31244c2020c98ef0", func := "scanchain/scanlaw1.WafersCompared", spec := "wafersCompared", inPlace := ["internal/bytealg.IndexByteString"], unfollowed := true, recurses := true, plainKeys := false, apart := false, narrowed := true }
def WafersComparedUptoSaid : Prop := wafersComparedUptoRow.holds Try.pinned (OpenSpec.upto wafersComparedSpec)

/-- 'scankeep1.WafersStay', WHERE WHAT IT READS IS OF BULK AT MOST 1048576: true; the input reads as it did. -/
def wafersStayUptoRow : OpenClaim := { program := "yteepabfepfehgaa", sum := "90cfff2b3f8bb3e3228278889d6a10232453be6ba0be373e31244c2020c98ef0", func := "scanchain/scankeep1.WafersStay", spec := "wafersStay", inPlace := ["internal/bytealg.IndexByteString"], unfollowed := true, recurses := true, plainKeys := false, apart := false, narrowed := true }
def WafersStayUptoSaid : Prop := wafersStayUptoRow.holds Try.pinned (OpenSpec.upto wafersStaySpec)

end Rows
end Go.Proofs.Yteepabfepfehgaa
