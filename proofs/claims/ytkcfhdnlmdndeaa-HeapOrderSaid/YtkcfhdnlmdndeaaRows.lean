/-
  No cell of these rows narrows 'for every input' (looked for: loops, veiled, ifaces, maps, wideKeys, modest, calm, conditions, laid).
  DERIVED. THE GIVEN ROWS OF THIS SEAT. 9 by the template 'for every input the law returns true; each argument reads behind the call as it read before'; 0 by the template 'total and deterministic' (their statements: YtkcfhdnlmdndeaaTotals.lean).
  GIVEN WITH THE SEED: the statements are not yours to turn. If you find one false, say at which input.
  Laid BY PROGRAM, IN A SANDBOX (cutbox-rows.mjs): the forced cells as the released guide's own fill.sh prints them over the translation ec749e4c200eccec… (all of the seat's roots in one cut). By AI agents, Wed Nov 11 2026. No macro, syntax, notation, axiom, sorry.
-/
import Derived.Test.YtkcfhdnlmdndeaaChecked
import GoSem.Claim
import GoSem.ClaimJoined
import GoSem.ClaimMapViews
import Derived.JoinedTies
import Derived.KernelRfl
namespace Go.Proofs.Ytkcfhdnlmdndeaa
/- THE CELL 'sum', in the pinned program and in every row, IS THE sha256 OF THE DUMP (.gsa) THAT YtkcfhdnlmdndeaaProg.lean LOADS. Nothing in Lean hashes anything: it is a label: what it is worth is what the hold of that sum in a sandbox is worth. -/
noncomputable def Try.pinned : Pinned := { name := "ytkcfhdnlmdndeaa", sum := "ec749e4c200eccec0027249c99f997f24f8b425eb0447f2b426d2174feab6150", checked := Try.checked }
namespace Rows
def none {H : Type} : Left H := { results := [], args := [] }

/-- 'ephemerislaw13.HeapAhead': WHATEVER THE INPUT: true; the input reads as it did. -/
def heapAheadSpec : ChangeSpec := { name := "heapAhead", fn := fun _ => fun
  | [d1, d2, d3] => { results := [.lit (.bool true)], args := [d1, d2, d3] }
  | _ => none }
def heapAheadRow : OpenClaim := { program := "ytkcfhdnlmdndeaa", sum := "ec749e4c200eccec0027249c99f997f24f8b425eb0447f2b426d2174feab6150", func := "ephemeris/ephemerislaw13.HeapAhead", spec := "heapAhead", unfollowed := true, recurses := true, apart := false }
def HeapAheadSaid : Prop := heapAheadRow.holds Try.pinned (OpenSpec.ofChange heapAheadSpec)

/-- ITS FALSE NEIGHBOUR: 'it returns false'. Refute it at one input. -/
def heapAheadWrong : ChangeSpec := { name := "heapAhead", fn := fun _ => fun
  | [d1, d2, d3] => { results := [.lit (.bool false)], args := [d1, d2, d3] }
  | _ => none }
def HeapAheadWrongFalsely : Prop := heapAheadRow.holds Try.pinned (OpenSpec.ofChange heapAheadWrong)

/-- 'ephemerislaw13.HeapTies': WHATEVER THE INPUT: true; the input reads as it did. -/
def heapTiesSpec : ChangeSpec := { name := "heapTies", fn := fun _ => fun
  | [d1, d2] => { results := [.lit (.bool true)], args := [d1, d2] }
  | _ => none }
def heapTiesRow : OpenClaim := { program := "ytkcfhdnlmdndeaa", sum := "ec749e4c200eccec0027249c99f997f24f8b425eb0447f2b426d2174feab6150", func := "ephemeris/ephemerislaw13.HeapTies", spec := "heapTies", unfollowed := true, recurses := true, apart := false }
def HeapTiesSaid : Prop := heapTiesRow.holds Try.pinned (OpenSpec.ofChange heapTiesSpec)

/-- ITS FALSE NEIGHBOUR: 'it returns false'. Refute it at one input. -/
def heapTiesWrong : ChangeSpec := { name := "heapTies", fn := fun _ => fun
  | [d1, d2] => { results := [.lit (.bool false)], args := [d1, d2] }
  | _ => none }
def HeapTiesWrongFalsely : Prop := heapTiesRow.holds Try.pinned (OpenSpec.ofChange heapTiesWrong)

/-- 'ephemerislaw13.HeapMoves': WHATEVER THE INPUT: true; the input reads as it did. -/
def heapMovesSpec : ChangeSpec := { name := "heapMoves", fn := fun _ => fun
  | [d1, d2] => { results := [.lit (.bool true)], args := [d1, d2] }
  | _ => none }
def heapMovesRow : OpenClaim := { program := "ytkcfhdnlmdndeaa", sum := "ec749e4c200eccec0027249c99f997f24f8b425eb0447f2b426d2174feab6150", func := "ephemeris/ephemerislaw13.HeapMoves", spec := "heapMoves", unfollowed := true, recurses := true, apart := false }
def HeapMovesSaid : Prop := heapMovesRow.holds Try.pinned (OpenSpec.ofChange heapMovesSpec)

/-- ITS FALSE NEIGHBOUR: 'it returns false'. Refute it at one input. -/
def heapMovesWrong : ChangeSpec := { name := "heapMoves", fn := fun _ => fun
  | [d1, d2] => { results := [.lit (.bool false)], args := [d1, d2] }
  | _ => none }
def HeapMovesWrongFalsely : Prop := heapMovesRow.holds Try.pinned (OpenSpec.ofChange heapMovesWrong)

/-- 'ephemerislaw13.HeapPlays': WHATEVER THE INPUT: true; the input reads as it did. -/
def heapPlaysSpec : ChangeSpec := { name := "heapPlays", fn := fun _ => fun
  | [d1, d2] => { results := [.lit (.bool true)], args := [d1, d2] }
  | _ => none }
def heapPlaysRow : OpenClaim := { program := "ytkcfhdnlmdndeaa", sum := "ec749e4c200eccec0027249c99f997f24f8b425eb0447f2b426d2174feab6150", func := "ephemeris/ephemerislaw13.HeapPlays", spec := "heapPlays", inPlace := ["maps.clone"], unfollowed := true, recurses := true, apart := false }
def HeapPlaysSaid : Prop := heapPlaysRow.holds Try.pinned (OpenSpec.ofChange heapPlaysSpec)

/-- ITS FALSE NEIGHBOUR: 'it returns false'. Refute it at one input. -/
def heapPlaysWrong : ChangeSpec := { name := "heapPlays", fn := fun _ => fun
  | [d1, d2] => { results := [.lit (.bool false)], args := [d1, d2] }
  | _ => none }
def HeapPlaysWrongFalsely : Prop := heapPlaysRow.holds Try.pinned (OpenSpec.ofChange heapPlaysWrong)

/-- 'ephemerislaw13.HeapKnown': WHATEVER THE INPUT: true; the input reads as it did. -/
def heapKnownSpec : ChangeSpec := { name := "heapKnown", fn := fun _ => fun
  | [] => { results := [.lit (.bool true)], args := [] }
  | _ => none }
def heapKnownRow : OpenClaim := { program := "ytkcfhdnlmdndeaa", sum := "ec749e4c200eccec0027249c99f997f24f8b425eb0447f2b426d2174feab6150", func := "ephemeris/ephemerislaw13.HeapKnown", spec := "heapKnown", inPlace := ["maps.clone"], unfollowed := true, recurses := true, apart := false }
def HeapKnownSaid : Prop := heapKnownRow.holds Try.pinned (OpenSpec.ofChange heapKnownSpec)

/-- ITS FALSE NEIGHBOUR: 'it returns false'. Refute it at one input. -/
def heapKnownWrong : ChangeSpec := { name := "heapKnown", fn := fun _ => fun
  | [] => { results := [.lit (.bool false)], args := [] }
  | _ => none }
def HeapKnownWrongFalsely : Prop := heapKnownRow.holds Try.pinned (OpenSpec.ofChange heapKnownWrong)

/-- 'ephemerislaw14.TimersTimes': WHATEVER THE INPUT: true; the input reads as it did. -/
def timersTimesSpec : ChangeSpec := { name := "timersTimes", fn := fun _ => fun
  | [d1, d2, d3, d4] => { results := [.lit (.bool true)], args := [d1, d2, d3, d4] }
  | _ => none }
def timersTimesRow : OpenClaim := { program := "ytkcfhdnlmdndeaa", sum := "ec749e4c200eccec0027249c99f997f24f8b425eb0447f2b426d2174feab6150", func := "ephemeris/ephemerislaw14.TimersTimes", spec := "timersTimes", unfollowed := true, recurses := true, apart := false }
def TimersTimesSaid : Prop := timersTimesRow.holds Try.pinned (OpenSpec.ofChange timersTimesSpec)

/-- ITS FALSE NEIGHBOUR: 'it returns false'. Refute it at one input. -/
def timersTimesWrong : ChangeSpec := { name := "timersTimes", fn := fun _ => fun
  | [d1, d2, d3, d4] => { results := [.lit (.bool false)], args := [d1, d2, d3, d4] }
  | _ => none }
def TimersTimesWrongFalsely : Prop := timersTimesRow.holds Try.pinned (OpenSpec.ofChange timersTimesWrong)

/-- 'ephemerislaw14.TimersSeq': WHATEVER THE INPUT: true; the input reads as it did. -/
def timersSeqSpec : ChangeSpec := { name := "timersSeq", fn := fun _ => fun
  | [d1, d2, d3, d4] => { results := [.lit (.bool true)], args := [d1, d2, d3, d4] }
  | _ => none }
def timersSeqRow : OpenClaim := { program := "ytkcfhdnlmdndeaa", sum := "ec749e4c200eccec0027249c99f997f24f8b425eb0447f2b426d2174feab6150", func := "ephemeris/ephemerislaw14.TimersSeq", spec := "timersSeq", unfollowed := true, recurses := true, apart := false }
def TimersSeqSaid : Prop := timersSeqRow.holds Try.pinned (OpenSpec.ofChange timersSeqSpec)

/-- ITS FALSE NEIGHBOUR: 'it returns false'. Refute it at one input. -/
def timersSeqWrong : ChangeSpec := { name := "timersSeq", fn := fun _ => fun
  | [d1, d2, d3, d4] => { results := [.lit (.bool false)], args := [d1, d2, d3, d4] }
  | _ => none }
def TimersSeqWrongFalsely : Prop := timersSeqRow.holds Try.pinned (OpenSpec.ofChange timersSeqWrong)

/-- 'ephemerislaw14.TimersOrder': WHATEVER THE INPUT: true; the input reads as it did. -/
def timersOrderSpec : ChangeSpec := { name := "timersOrder", fn := fun _ => fun
  | [d1, d2] => { results := [.lit (.bool true)], args := [d1, d2] }
  | _ => none }
def timersOrderRow : OpenClaim := { program := "ytkcfhdnlmdndeaa", sum := "ec749e4c200eccec0027249c99f997f24f8b425eb0447f2b426d2174feab6150", func := "ephemeris/ephemerislaw14.TimersOrder", spec := "timersOrder", unfollowed := true, recurses := true, apart := false }
def TimersOrderSaid : Prop := timersOrderRow.holds Try.pinned (OpenSpec.ofChange timersOrderSpec)

/-- ITS FALSE NEIGHBOUR: 'it returns false'. Refute it at one input. -/
def timersOrderWrong : ChangeSpec := { name := "timersOrder", fn := fun _ => fun
  | [d1, d2] => { results := [.lit (.bool false)], args := [d1, d2] }
  | _ => none }
def TimersOrderWrongFalsely : Prop := timersOrderRow.holds Try.pinned (OpenSpec.ofChange timersOrderWrong)

/-- 'ephemerislaw13.HeapOrder': WHATEVER THE INPUT: true; the input reads as it did. -/
def heapOrderSpec : ChangeSpec := { name := "heapOrder", fn := fun _ => fun
  | [d] => { results := [.lit (.bool true)], args := [d] }
  | _ => none }
def heapOrderRow : OpenClaim := { program := "ytkcfhdnlmdndeaa", sum := "ec749e4c200eccec0027249c99f997f24f8b425eb0447f2b426d2174feab6150", func := "ephemeris/ephemerislaw13.HeapOrder", spec := "heapOrder", unfollowed := true, recurses := true, apart := false }
def HeapOrderSaid : Prop := heapOrderRow.holds Try.pinned (OpenSpec.ofChange heapOrderSpec)

/-- ITS FALSE NEIGHBOUR: 'it returns false'. Refute it at one input. -/
def heapOrderWrong : ChangeSpec := { name := "heapOrder", fn := fun _ => fun
  | [d] => { results := [.lit (.bool false)], args := [d] }
  | _ => none }
def HeapOrderWrongFalsely : Prop := heapOrderRow.holds Try.pinned (OpenSpec.ofChange heapOrderWrong)

/- THE SECOND FORM. 'bulk': how many values and letters a reading holds, each counted each time it is reached (what is shared counts as often as it is met; a slice's spare places count too). A statement '..UptoSaid' is the law's where the arguments, and the package variables that the reading takes, are together of bulk at most 1048576: NARROWER than '..Said'. Prove '..Said' where nothing that the law and all that it calls make is longer than what came in: it says more and counts as full. Else prove '..UptoSaid'. A law counts once. -/
mutual
def uptoBulk {H : Type} : DataW H → Nat
  | .lit (.string bytes) => bytes.length + 1
  | .lit _ => 1
  | .nil => 1
  | .ptr d => uptoBulk d + 1
  | .slice elems spare => uptoBulkAll elems + uptoBulkAll spare + 1
  | .agg parts => uptoBulkAll parts + 1
  | .iface _ d => uptoBulk d + 1
  | .map entries => uptoBulkEntries entries + 1
  | .held _ => 1
def uptoBulkAll {H : Type} : List (DataW H) → Nat
  | [] => 0
  | d :: r => uptoBulk d + uptoBulkAll r
def uptoBulkEntries {H : Type} : List (Lit × DataW H) → Nat
  | [] => 0
  | x :: r => uptoBulkEntry x + uptoBulkEntries r
def uptoBulkEntry {H : Type} : Lit × DataW H → Nat
  | (.string bytes, d) => bytes.length + uptoBulk d + 1
  | (_, d) => uptoBulk d + 1
 end
def uptoSmall : (H : Type) → List (DataW H) → Bool := fun _ ds => decide (uptoBulkAll ds ≤ 1048576)
def OpenSpec.upto (s : _root_.Go.ChangeSpec) : _root_.Go.OpenSpec := { _root_.Go.OpenSpec.ofChange s with cond := some uptoSmall }

/-- 'ephemerislaw13.HeapAhead', WHERE WHAT IT READS IS OF BULK AT MOST 1048576: true; the input reads as it did. -/
def heapAheadUptoRow : OpenClaim := { program := "ytkcfhdnlmdndeaa", sum := "ec749e4c200eccec0027249c99f997f24f8b425eb0447f2b426d2174feab6150", func := "ephemeris/ephemerislaw13.HeapAhead", spec := "heapAhead", unfollowed := true, recurses := true, apart := false, narrowed := true }
def HeapAheadUptoSaid : Prop := heapAheadUptoRow.holds Try.pinned (OpenSpec.upto heapAheadSpec)

/-- 'ephemerislaw13.HeapTies', WHERE WHAT IT READS IS OF BULK AT MOST 1048576: true; the input reads as it did. -/
def heapTiesUptoRow : OpenClaim := { program := "ytkcfhdnlmdndeaa", sum := "ec749e4c200eccec0027249c99f997f24f8b425eb0447f2b426d2174feab6150", func := "ephemeris/ephemerislaw13.HeapTies", spec := "heapTies", unfollowed := true, recurses := true, apart := false, narrowed := true }
def HeapTiesUptoSaid : Prop := heapTiesUptoRow.holds Try.pinned (OpenSpec.upto heapTiesSpec)

/-- 'ephemerislaw13.HeapMoves', WHERE WHAT IT READS IS OF BULK AT MOST 1048576: true; the input reads as it did. -/
def heapMovesUptoRow : OpenClaim := { program := "ytkcfhdnlmdndeaa", sum := "ec749e4c200eccec0027249c99f997f24f8b425eb0447f2b426d2174feab6150", func := "ephemeris/ephemerislaw13.HeapMoves", spec := "heapMoves", unfollowed := true, recurses := true, apart := false, narrowed := true }
def HeapMovesUptoSaid : Prop := heapMovesUptoRow.holds Try.pinned (OpenSpec.upto heapMovesSpec)

/-- 'ephemerislaw13.HeapPlays', WHERE WHAT IT READS IS OF BULK AT MOST 1048576: true; the input reads as it did. -/
def heapPlaysUptoRow : OpenClaim := { program := "ytkcfhdnlmdndeaa", sum := "ec749e4c200eccec0027249c99f997f24f8b425eb0447f2b426d2174feab6150", func := "ephemeris/ephemerislaw13.HeapPlays", spec := "heapPlays", inPlace := ["maps.clone"], unfollowed := true, recurses := true, apart := false, narrowed := true }
def HeapPlaysUptoSaid : Prop := heapPlaysUptoRow.holds Try.pinned (OpenSpec.upto heapPlaysSpec)

/-- 'ephemerislaw13.HeapKnown', WHERE WHAT IT READS IS OF BULK AT MOST 1048576: true; the input reads as it did. -/
def heapKnownUptoRow : OpenClaim := { program := "ytkcfhdnlmdndeaa", sum := "ec749e4c200eccec0027249c99f997f24f8b425eb0447f2b426d2174feab6150", func := "ephemeris/ephemerislaw13.HeapKnown", spec := "heapKnown", inPlace := ["maps.clone"], unfollowed := true, recurses := true, apart := false, narrowed := true }
def HeapKnownUptoSaid : Prop := heapKnownUptoRow.holds Try.pinned (OpenSpec.upto heapKnownSpec)

/-- 'ephemerislaw14.TimersTimes', WHERE WHAT IT READS IS OF BULK AT MOST 1048576: true; the input reads as it did. -/
def timersTimesUptoRow : OpenClaim := { program := "ytkcfhdnlmdndeaa", sum := "ec749e4c200eccec0027249c99f997f24f8b425eb0447f2b426d2174feab6150", func := "ephemeris/ephemerislaw14.TimersTimes", spec := "timersTimes", unfollowed := true, recurses := true, apart := false, narrowed := true }
def TimersTimesUptoSaid : Prop := timersTimesUptoRow.holds Try.pinned (OpenSpec.upto timersTimesSpec)

/-- 'ephemerislaw14.TimersSeq', WHERE WHAT IT READS IS OF BULK AT MOST 1048576: true; the input reads as it did. -/
def timersSeqUptoRow : OpenClaim := { program := "ytkcfhdnlmdndeaa", sum := "ec749e4c200eccec0027249c99f997f24f8b425eb0447f2b426d2174feab6150", func := "ephemeris/ephemerislaw14.TimersSeq", spec := "timersSeq", unfollowed := true, recurses := true, apart := false, narrowed := true }
def TimersSeqUptoSaid : Prop := timersSeqUptoRow.holds Try.pinned (OpenSpec.upto timersSeqSpec)

/-- 'ephemerislaw14.TimersOrder', WHERE WHAT IT READS IS OF BULK AT MOST 1048576: true; the input reads as it did. -/
def timersOrderUptoRow : OpenClaim := { program := "ytkcfhdnlmdndeaa", sum := "ec749e4c200eccec0027249c99f997f24f8b425eb0447f2b426d2174feab6150", func := "ephemeris/ephemerislaw14.TimersOrder", spec := "timersOrder", unfollowed := true, recurses := true, apart := false, narrowed := true }
def TimersOrderUptoSaid : Prop := timersOrderUptoRow.holds Try.pinned (OpenSpec.upto timersOrderSpec)

/-- 'ephemerislaw13.HeapOrder', WHERE WHAT IT READS IS OF BULK AT MOST 1048576: true; the input reads as it did. -/
def heapOrderUptoRow : OpenClaim := { program := "ytkcfhdnlmdndeaa", sum := "ec749e4c200eccec0027249c99f997f24f8b425eb0447f2b426d2174feab6150", func := "ephemeris/ephemerislaw13.HeapOrder", spec := "heapOrder", unfollowed := true, recurses := true, apart := false, narrowed := true }
def HeapOrderUptoSaid : Prop := heapOrderUptoRow.holds Try.pinned (OpenSpec.upto heapOrderSpec)

end Rows
end Go.Proofs.Ytkcfhdnlmdndeaa
