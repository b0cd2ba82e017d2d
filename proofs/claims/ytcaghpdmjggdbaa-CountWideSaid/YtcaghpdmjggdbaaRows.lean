/-
  No cell of these rows narrows 'for every input' (looked for: loops, veiled, ifaces, maps, wideKeys, modest, calm, conditions, laid).
  DERIVED. THE GIVEN ROWS OF THIS SEAT. 3 by the template 'for every input the law returns true; each argument reads behind the call as it read before'; 0 by the template 'total and deterministic' (their statements: YtcaghpdmjggdbaaTotals.lean).
  GIVEN WITH THE SEED: the statements are not yours to turn. If you find one false, say at which input.
  Laid BY PROGRAM, IN A SANDBOX (cutbox-rows.mjs): the forced cells as the released guide's own fill.sh prints them over the translation 74b94653857c57be… (all of the seat's roots in one cut). By AI agents, Wed Nov 11 2026. No macro, syntax, notation, axiom, sorry.
-/
import Derived.Test.YtcaghpdmjggdbaaChecked
import GoSem.Claim
import GoSem.ClaimJoined
import GoSem.ClaimMapViews
import Derived.JoinedTies
import Derived.KernelRfl
namespace Go.Proofs.Ytcaghpdmjggdbaa
/- THE CELL 'sum', in the pinned program and in every row, IS THE sha256 OF THE DUMP (.gsa) THAT YtcaghpdmjggdbaaProg.lean LOADS. Nothing in Lean hashes anything: it is a label: what it is worth is what the hold of that sum in a sandbox is worth. -/
noncomputable def Try.pinned : Pinned := { name := "ytcaghpdmjggdbaa", sum := "74b94653857c57be6addca442f38c91dce98bbf05695457d2b34ac0a69165cdd", checked := Try.checked }
namespace Rows
def none {H : Type} : Left H := { results := [], args := [] }

/-- 'ephemerislaw09.CountWide': WHATEVER THE INPUT: true; the input reads as it did. -/
def countWideSpec : ChangeSpec := { name := "countWide", fn := fun _ => fun
  | [d1, d2, d3] => { results := [.lit (.bool true)], args := [d1, d2, d3] }
  | _ => none }
def countWideRow : OpenClaim := { program := "ytcaghpdmjggdbaa", sum := "74b94653857c57be6addca442f38c91dce98bbf05695457d2b34ac0a69165cdd", func := "ephemeris/ephemerislaw09.CountWide", spec := "countWide", unfollowed := true, recurses := true, apart := false }
def CountWideSaid : Prop := countWideRow.holds Try.pinned (OpenSpec.ofChange countWideSpec)

/-- ITS FALSE NEIGHBOUR: 'it returns false'. Refute it at one input. -/
def countWideWrong : ChangeSpec := { name := "countWide", fn := fun _ => fun
  | [d1, d2, d3] => { results := [.lit (.bool false)], args := [d1, d2, d3] }
  | _ => none }
def CountWideWrongFalsely : Prop := countWideRow.holds Try.pinned (OpenSpec.ofChange countWideWrong)

/-- 'ephemerislaw09.CountFollows': WHATEVER THE INPUT: true; the input reads as it did. -/
def countFollowsSpec : ChangeSpec := { name := "countFollows", fn := fun _ => fun
  | [d1, d2, d3] => { results := [.lit (.bool true)], args := [d1, d2, d3] }
  | _ => none }
def countFollowsRow : OpenClaim := { program := "ytcaghpdmjggdbaa", sum := "74b94653857c57be6addca442f38c91dce98bbf05695457d2b34ac0a69165cdd", func := "ephemeris/ephemerislaw09.CountFollows", spec := "countFollows", unfollowed := true, recurses := true, apart := false }
def CountFollowsSaid : Prop := countFollowsRow.holds Try.pinned (OpenSpec.ofChange countFollowsSpec)

/-- ITS FALSE NEIGHBOUR: 'it returns false'. Refute it at one input. -/
def countFollowsWrong : ChangeSpec := { name := "countFollows", fn := fun _ => fun
  | [d1, d2, d3] => { results := [.lit (.bool false)], args := [d1, d2, d3] }
  | _ => none }
def CountFollowsWrongFalsely : Prop := countFollowsRow.holds Try.pinned (OpenSpec.ofChange countFollowsWrong)

/-- 'ephemerislaw09.CountKnown': WHATEVER THE INPUT: true; the input reads as it did. -/
def countKnownSpec : ChangeSpec := { name := "countKnown", fn := fun _ => fun
  | [] => { results := [.lit (.bool true)], args := [] }
  | _ => none }
def countKnownRow : OpenClaim := { program := "ytcaghpdmjggdbaa", sum := "74b94653857c57be6addca442f38c91dce98bbf05695457d2b34ac0a69165cdd", func := "ephemeris/ephemerislaw09.CountKnown", spec := "countKnown", unfollowed := true, recurses := true, apart := false }
def CountKnownSaid : Prop := countKnownRow.holds Try.pinned (OpenSpec.ofChange countKnownSpec)

/-- ITS FALSE NEIGHBOUR: 'it returns false'. Refute it at one input. -/
def countKnownWrong : ChangeSpec := { name := "countKnown", fn := fun _ => fun
  | [] => { results := [.lit (.bool false)], args := [] }
  | _ => none }
def CountKnownWrongFalsely : Prop := countKnownRow.holds Try.pinned (OpenSpec.ofChange countKnownWrong)

/- THE SECOND FORM. 'bulk': how many values and letters a reading holds, each counted each time it is reached (what is shared counts as often as it is met; a slice's spare places count too). A statement '..UptoSaid' is the law's where the arguments, and the package variables that the reading takes, are together of bulk at most 1048576: NARROWER than '..Said'. Prove '..Said' where nothing that the law and all that it calls make is longer than what came in: it says more and counts as full. Else prove '..UptoSaid'. A law counts once. -/
mutual
def uptoBulk {H : Type} : DataW H → Nat
  | .lit (.string bytes) => bytes.length + 1
  | .lit _ => 1
  | .nil => 1
  | .ptr d => uptoBulk d + 1
  | .slice elems spare => uptoBulkAll elems + uptoBulkAll spare + 1
  | .agg parts => uptoBulkAll parts + 1
  | .iface _ d => uptoBulk d + 1
  | .map entries => uptoBulkEntries entries + 1
  | .held _ => 1
def uptoBulkAll {H : Type} : List (DataW H) → Nat
  | [] => 0
  | d :: r => uptoBulk d + uptoBulkAll r
def uptoBulkEntries {H : Type} : List (Lit × DataW H) → Nat
  | [] => 0
  | x :: r => uptoBulkEntry x + uptoBulkEntries r
def uptoBulkEntry {H : Type} : Lit × DataW H → Nat
  | (.string bytes, d) => bytes.length + uptoBulk d + 1
  | (_, d) => uptoBulk d + 1
 end
def uptoSmall : (H : Type) → List (DataW H) → Bool := fun _ ds => decide (uptoBulkAll ds ≤ 1048576)
def OpenSpec.upto (s : _root_.Go.ChangeSpec) : _root_.Go.OpenSpec := { _root_.Go.OpenSpec.ofChange s with cond := some uptoSmall }

/-- 'ephemerislaw09.CountWide', WHERE WHAT IT READS IS OF BULK AT MOST 1048576: true; the input reads as it did. -/
def countWideUptoRow : OpenClaim := { program := "ytcaghpdmjggdbaa", sum := "74b94653857c57be6addca442f38c91dce98bbf05695457d2b34ac0a69165cdd", func := "ephemeris/ephemerislaw09.CountWide", spec := "countWide", unfollowed := true, recurses := true, apart := false, narrowed := true }
def CountWideUptoSaid : Prop := countWideUptoRow.holds Try.pinned (OpenSpec.upto countWideSpec)

/-- 'ephemerislaw09.CountFollows', WHERE WHAT IT READS IS OF BULK AT MOST 1048576: true; the input reads as it did. -/
def countFollowsUptoRow : OpenClaim := { program := "ytcaghpdmjggdbaa", sum := "74b94653857c57be6addca442f38c91dce98bbf05695457d2b34ac0a69165cdd", func := "ephemeris/ephemerislaw09.CountFollows", spec := "countFollows", unfollowed := true, recurses := true, apart := false, narrowed := true }
def CountFollowsUptoSaid : Prop := countFollowsUptoRow.holds Try.pinned (OpenSpec.upto countFollowsSpec)

/-- 'ephemerislaw09.CountKnown', WHERE WHAT IT READS IS OF BULK AT MOST 1048576: true; the input reads as it did. -/
def countKnownUptoRow : OpenClaim := { program := "ytcaghpdmjggdbaa", sum := "74b94653857c57be6addca442f38c91dce98bbf05695457d2b34ac0a69165cdd", func := "ephemeris/ephemerislaw09.CountKnown", spec := "countKnown", unfollowed := true, recurses := true, apart := false, narrowed := true }
def CountKnownUptoSaid : Prop := countKnownUptoRow.holds Try.pinned (OpenSpec.upto countKnownSpec)

end Rows
end Go.Proofs.Ytcaghpdmjggdbaa
