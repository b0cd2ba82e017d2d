/-
  No cell of these rows narrows 'for every input' (looked for: loops, veiled, ifaces, maps, wideKeys, modest, calm, conditions, laid).
  DERIVED. THE GIVEN ROWS OF THIS SEAT. 5 by the template 'for every input the law returns true; each argument reads behind the call as it read before'; 0 by the template 'total and deterministic' (their statements: YtnphjhignhmhaaaTotals.lean).
  GIVEN WITH THE SEED: the statements are not yours to turn. If you find one false, say at which input.
  Laid BY PROGRAM, IN A SANDBOX (cutbox-rows.mjs): the forced cells as the released guide's own fill.sh prints them over the translation ab86155653c224cc… (all of the seat's roots in one cut). By AI agents, Wed Nov 11 2026. No macro, syntax, notation, axiom, sorry.
-/
import Derived.Test.YtnphjhignhmhaaaChecked
import GoSem.Claim
import GoSem.ClaimJoined
import GoSem.ClaimMapViews
import Derived.JoinedTies
import Derived.KernelRfl
namespace Go.Proofs.Ytnphjhignhmhaaa
/- THE CELL 'sum', in the pinned program and in every row, IS THE sha256 OF THE DUMP (.gsa) THAT YtnphjhignhmhaaaProg.lean LOADS. Nothing in Lean hashes anything: it is a label: what it is worth is what the hold of that sum in a sandbox is worth. -/
noncomputable def Try.pinned : Pinned := { name := "ytnphjhignhmhaaa", sum := "ab86155653c224cc84e0a3826e1f04625c52970de5e383fcaac91f59e674b6a1", checked := Try.checked }
namespace Rows
def none {H : Type} : Left H := { results := [], args := [] }

/-- 'ephemerislaw06.MacTags': WHATEVER THE INPUT: true; the input reads as it did. -/
def macTagsSpec : ChangeSpec := { name := "macTags", fn := fun _ => fun
  | [d1, d2, d3] => { results := [.lit (.bool true)], args := [d1, d2, d3] }
  | _ => none }
def macTagsRow : OpenClaim := { program := "ytnphjhignhmhaaa", sum := "ab86155653c224cc84e0a3826e1f04625c52970de5e383fcaac91f59e674b6a1", func := "ephemeris/ephemerislaw06.MacTags", spec := "macTags", unfollowed := true, recurses := true, apart := false }
def MacTagsSaid : Prop := macTagsRow.holds Try.pinned (OpenSpec.ofChange macTagsSpec)

/-- ITS FALSE NEIGHBOUR: 'it returns false'. Refute it at one input. -/
def macTagsWrong : ChangeSpec := { name := "macTags", fn := fun _ => fun
  | [d1, d2, d3] => { results := [.lit (.bool false)], args := [d1, d2, d3] }
  | _ => none }
def MacTagsWrongFalsely : Prop := macTagsRow.holds Try.pinned (OpenSpec.ofChange macTagsWrong)

/-- 'ephemerislaw06.MacParts': WHATEVER THE INPUT: true; the input reads as it did. -/
def macPartsSpec : ChangeSpec := { name := "macParts", fn := fun _ => fun
  | [d1, d2, d3, d4] => { results := [.lit (.bool true)], args := [d1, d2, d3, d4] }
  | _ => none }
def macPartsRow : OpenClaim := { program := "ytnphjhignhmhaaa", sum := "ab86155653c224cc84e0a3826e1f04625c52970de5e383fcaac91f59e674b6a1", func := "ephemeris/ephemerislaw06.MacParts", spec := "macParts", unfollowed := true, recurses := true, apart := false }
def MacPartsSaid : Prop := macPartsRow.holds Try.pinned (OpenSpec.ofChange macPartsSpec)

/-- ITS FALSE NEIGHBOUR: 'it returns false'. Refute it at one input. -/
def macPartsWrong : ChangeSpec := { name := "macParts", fn := fun _ => fun
  | [d1, d2, d3, d4] => { results := [.lit (.bool false)], args := [d1, d2, d3, d4] }
  | _ => none }
def MacPartsWrongFalsely : Prop := macPartsRow.holds Try.pinned (OpenSpec.ofChange macPartsWrong)

/-- 'ephemerislaw06.MacWords': WHATEVER THE INPUT: true; the input reads as it did. -/
def macWordsSpec : ChangeSpec := { name := "macWords", fn := fun _ => fun
  | [d1, d2, d3, d4] => { results := [.lit (.bool true)], args := [d1, d2, d3, d4] }
  | _ => none }
def macWordsRow : OpenClaim := { program := "ytnphjhignhmhaaa", sum := "ab86155653c224cc84e0a3826e1f04625c52970de5e383fcaac91f59e674b6a1", func := "ephemeris/ephemerislaw06.MacWords", spec := "macWords", unfollowed := true, recurses := true, apart := false }
def MacWordsSaid : Prop := macWordsRow.holds Try.pinned (OpenSpec.ofChange macWordsSpec)

/-- ITS FALSE NEIGHBOUR: 'it returns false'. Refute it at one input. -/
def macWordsWrong : ChangeSpec := { name := "macWords", fn := fun _ => fun
  | [d1, d2, d3, d4] => { results := [.lit (.bool false)], args := [d1, d2, d3, d4] }
  | _ => none }
def MacWordsWrongFalsely : Prop := macWordsRow.holds Try.pinned (OpenSpec.ofChange macWordsWrong)

/-- 'ephemerislaw06.MacTables': WHATEVER THE INPUT: true; the input reads as it did. -/
def macTablesSpec : ChangeSpec := { name := "macTables", fn := fun _ => fun
  | [d1, d2] => { results := [.lit (.bool true)], args := [d1, d2] }
  | _ => none }
def macTablesRow : OpenClaim := { program := "ytnphjhignhmhaaa", sum := "ab86155653c224cc84e0a3826e1f04625c52970de5e383fcaac91f59e674b6a1", func := "ephemeris/ephemerislaw06.MacTables", spec := "macTables", unfollowed := true, recurses := true, apart := false }
def MacTablesSaid : Prop := macTablesRow.holds Try.pinned (OpenSpec.ofChange macTablesSpec)

/-- ITS FALSE NEIGHBOUR: 'it returns false'. Refute it at one input. -/
def macTablesWrong : ChangeSpec := { name := "macTables", fn := fun _ => fun
  | [d1, d2] => { results := [.lit (.bool false)], args := [d1, d2] }
  | _ => none }
def MacTablesWrongFalsely : Prop := macTablesRow.holds Try.pinned (OpenSpec.ofChange macTablesWrong)

/-- 'ephemerislaw06.MacKnown': WHATEVER THE INPUT: true; the input reads as it did. -/
def macKnownSpec : ChangeSpec := { name := "macKnown", fn := fun _ => fun
  | [] => { results := [.lit (.bool true)], args := [] }
  | _ => none }
def macKnownRow : OpenClaim := { program := "ytnphjhignhmhaaa", sum := "ab86155653c224cc84e0a3826e1f04625c52970de5e383fcaac91f59e674b6a1", func := "ephemeris/ephemerislaw06.MacKnown", spec := "macKnown", unfollowed := true, recurses := true, apart := false }
def MacKnownSaid : Prop := macKnownRow.holds Try.pinned (OpenSpec.ofChange macKnownSpec)

/-- ITS FALSE NEIGHBOUR: 'it returns false'. Refute it at one input. -/
def macKnownWrong : ChangeSpec := { name := "macKnown", fn := fun _ => fun
  | [] => { results := [.lit (.bool false)], args := [] }
  | _ => none }
def MacKnownWrongFalsely : Prop := macKnownRow.holds Try.pinned (OpenSpec.ofChange macKnownWrong)

/- THE SECOND FORM. 'bulk': how many values and letters a reading holds, each counted each time it is reached (what is shared counts as often as it is met; a slice's spare places count too). A statement '..UptoSaid' is the law's where the arguments, and the package variables that the reading takes, are together of bulk at most 1048576: NARROWER than '..Said'. Prove '..Said' where nothing that the law and all that it calls make is longer than what came in: it says more and counts as full. Else prove '..UptoSaid'. A law counts once. -/
mutual
def uptoBulk {H : Type} : DataW H → Nat
  | .lit (.string bytes) => bytes.length + 1
  | .lit _ => 1
  | .nil => 1
  | .ptr d => uptoBulk d + 1
  | .slice elems spare => uptoBulkAll elems + uptoBulkAll spare + 1
  | .agg parts => uptoBulkAll parts + 1
  | .iface _ d => uptoBulk d + 1
  | .map entries => uptoBulkEntries entries + 1
  | .held _ => 1
def uptoBulkAll {H : Type} : List (DataW H) → Nat
  | [] => 0
  | d :: r => uptoBulk d + uptoBulkAll r
def uptoBulkEntries {H : Type} : List (Lit × DataW H) → Nat
  | [] => 0
  | x :: r => uptoBulkEntry x + uptoBulkEntries r
def uptoBulkEntry {H : Type} : Lit × DataW H → Nat
  | (.string bytes, d) => bytes.length + uptoBulk d + 1
  | (_, d) => uptoBulk d + 1
 end
def uptoSmall : (H : Type) → List (DataW H) → Bool := fun _ ds => decide (uptoBulkAll ds ≤ 1048576)
def OpenSpec.upto (s : _root_.Go.ChangeSpec) : _root_.Go.OpenSpec := { _root_.Go.OpenSpec.ofChange s with cond := some uptoSmall }

/-- 'ephemerislaw06.MacTags', WHERE WHAT IT READS IS OF BULK AT MOST 1048576: true; the input reads as it did. -/
def macTagsUptoRow : OpenClaim := { program := "ytnphjhignhmhaaa", sum := "ab86155653c224cc84e0a3826e1f04625c52970de5e383fcaac91f59e674b6a1", func := "ephemeris/ephemerislaw06.MacTags", spec := "macTags", unfollowed := true, recurses := true, apart := false, narrowed := true }
def MacTagsUptoSaid : Prop := macTagsUptoRow.holds Try.pinned (OpenSpec.upto macTagsSpec)

/-- 'ephemerislaw06.MacParts', WHERE WHAT IT READS IS OF BULK AT MOST 1048576: true; the input reads as it did. -/
def macPartsUptoRow : OpenClaim := { program := "ytnphjhignhmhaaa", sum := "ab86155653c224cc84e0a3826e1f04625c52970de5e383fcaac91f59e674b6a1", func := "ephemeris/ephemerislaw06.MacParts", spec := "macParts", unfollowed := true, recurses := true, apart := false, narrowed := true }
def MacPartsUptoSaid : Prop := macPartsUptoRow.holds Try.pinned (OpenSpec.upto macPartsSpec)

/-- 'ephemerislaw06.MacWords', WHERE WHAT IT READS IS OF BULK AT MOST 1048576: true; the input reads as it did. -/
def macWordsUptoRow : OpenClaim := { program := "ytnphjhignhmhaaa", sum := "ab86155653c224cc84e0a3826e1f04625c52970de5e383fcaac91f59e674b6a1", func := "ephemeris/ephemerislaw06.MacWords", spec := "macWords", unfollowed := true, recurses := true, apart := false, narrowed := true }
def MacWordsUptoSaid : Prop := macWordsUptoRow.holds Try.pinned (OpenSpec.upto macWordsSpec)

/-- 'ephemerislaw06.MacTables', WHERE WHAT IT READS IS OF BULK AT MOST 1048576: true; the input reads as it did. -/
def macTablesUptoRow : OpenClaim := { program := "ytnphjhignhmhaaa", sum := "ab86155653c224cc84e0a3826e1f04625c52970de5e383fcaac91f59e674b6a1", func := "ephemeris/ephemerislaw06.MacTables", spec := "macTables", unfollowed := true, recurses := true, apart := false, narrowed := true }
def MacTablesUptoSaid : Prop := macTablesUptoRow.holds Try.pinned (OpenSpec.upto macTablesSpec)

/-- 'ephemerislaw06.MacKnown', WHERE WHAT IT READS IS OF BULK AT MOST 1048576: true; the input reads as it did. -/
def macKnownUptoRow : OpenClaim := { program := "ytnphjhignhmhaaa", sum := "ab86155653c224cc84e0a3826e1f04625c52970de5e383fcaac91f59e674b6a1", func := "ephemeris/ephemerislaw06.MacKnown", spec := "macKnown", unfollowed := true, recurses := true, apart := false, narrowed := true }
def MacKnownUptoSaid : Prop := macKnownUptoRow.holds Try.pinned (OpenSpec.upto macKnownSpec)

end Rows
end Go.Proofs.Ytnphjhignhmhaaa
