/-
  No cell of these rows narrows 'for every input' (looked for: loops, veiled, ifaces, maps, wideKeys, modest, calm, conditions, laid).
  DERIVED. THE GIVEN ROWS OF THIS SEAT. 5 by the template 'for every input the law returns true; each argument reads behind the call as it read before'; 0 by the template 'total and deterministic' (their statements: YtapagoaoglmegaaGreatTotals.lean).
  GIVEN WITH THE SEED: the statements are not yours to turn. If you find one false, say at which input.
  Laid BY PROGRAM, IN A SANDBOX (cutbox-rows.mjs): the forced cells as the released guide's own fill.sh prints them over the translation d818c4f487dbf3d1… (all of the seat's roots in one cut). By AI agents, Wed Nov 11 2026. No macro, syntax, notation, axiom, sorry.
-/
import Derived.Test.YtapagoaoglmegaaGreatChecked
import GoSem.Claim
import GoSem.ClaimJoined
import GoSem.ClaimMapViews
import Derived.JoinedTies
import Derived.KernelRfl
namespace Go.Proofs.YtapagoaoglmegaaGreat
/- THE CELL 'sum', in the pinned program and in every row, IS THE sha256 OF THE DUMP (.gsa) THAT YtapagoaoglmegaaGreatProg.lean LOADS. Nothing in Lean hashes anything: it is a label: what it is worth is what the hold of that sum in a sandbox is worth. -/
noncomputable def Tryz.pinned : Pinned := { name := "ytapagoaoglmegaagreat", sum := "d818c4f487dbf3d11f1c430a154dcb83ecab161d67c8a376a86a4a4b7cf62caa", checked := Tryz.checked }
namespace Rows
def none {H : Type} : Left H := { results := [], args := [] }

/-- 'ephemerislaw25.ChooseKnown': WHATEVER THE INPUT: true; the input reads as it did. -/
def chooseKnownSpec : ChangeSpec := { name := "chooseKnown", fn := fun _ => fun
  | [] => { results := [.lit (.bool true)], args := [] }
  | _ => none }
def chooseKnownRow : OpenClaim := { program := "ytapagoaoglmegaagreat", sum := "d818c4f487dbf3d11f1c430a154dcb83ecab161d67c8a376a86a4a4b7cf62caa", func := "ephemeris/ephemerislaw25.ChooseKnown", spec := "chooseKnown", unfollowed := true, recurses := true, named := ["math/bits.divideError", "math/bits.overflowError"], apart := false }
def ChooseKnownSaid : Prop := chooseKnownRow.holds Tryz.pinned (OpenSpec.ofChange chooseKnownSpec)

/-- ITS FALSE NEIGHBOUR: 'it returns false'. Refute it at one input. -/
def chooseKnownWrong : ChangeSpec := { name := "chooseKnown", fn := fun _ => fun
  | [] => { results := [.lit (.bool false)], args := [] }
  | _ => none }
def ChooseKnownWrongFalsely : Prop := chooseKnownRow.holds Tryz.pinned (OpenSpec.ofChange chooseKnownWrong)

/-- 'ephemerislaw25.ChooseOrder': WHATEVER THE INPUT: true; the input reads as it did. -/
def chooseOrderSpec : ChangeSpec := { name := "chooseOrder", fn := fun _ => fun
  | [d1, d2, d3] => { results := [.lit (.bool true)], args := [d1, d2, d3] }
  | _ => none }
def chooseOrderRow : OpenClaim := { program := "ytapagoaoglmegaagreat", sum := "d818c4f487dbf3d11f1c430a154dcb83ecab161d67c8a376a86a4a4b7cf62caa", func := "ephemeris/ephemerislaw25.ChooseOrder", spec := "chooseOrder", unfollowed := true, recurses := true, named := ["math/bits.divideError", "math/bits.overflowError"], apart := false }
def ChooseOrderSaid : Prop := chooseOrderRow.holds Tryz.pinned (OpenSpec.ofChange chooseOrderSpec)

/-- ITS FALSE NEIGHBOUR: 'it returns false'. Refute it at one input. -/
def chooseOrderWrong : ChangeSpec := { name := "chooseOrder", fn := fun _ => fun
  | [d1, d2, d3] => { results := [.lit (.bool false)], args := [d1, d2, d3] }
  | _ => none }
def ChooseOrderWrongFalsely : Prop := chooseOrderRow.holds Tryz.pinned (OpenSpec.ofChange chooseOrderWrong)

/-- 'ephemerislaw25.ChooseMore': WHATEVER THE INPUT: true; the input reads as it did. -/
def chooseMoreSpec : ChangeSpec := { name := "chooseMore", fn := fun _ => fun
  | [d1, d2] => { results := [.lit (.bool true)], args := [d1, d2] }
  | _ => none }
def chooseMoreRow : OpenClaim := { program := "ytapagoaoglmegaagreat", sum := "d818c4f487dbf3d11f1c430a154dcb83ecab161d67c8a376a86a4a4b7cf62caa", func := "ephemeris/ephemerislaw25.ChooseMore", spec := "chooseMore", unfollowed := true, recurses := true, named := ["math/bits.divideError", "math/bits.overflowError"], apart := false }
def ChooseMoreSaid : Prop := chooseMoreRow.holds Tryz.pinned (OpenSpec.ofChange chooseMoreSpec)

/-- ITS FALSE NEIGHBOUR: 'it returns false'. Refute it at one input. -/
def chooseMoreWrong : ChangeSpec := { name := "chooseMore", fn := fun _ => fun
  | [d1, d2] => { results := [.lit (.bool false)], args := [d1, d2] }
  | _ => none }
def ChooseMoreWrongFalsely : Prop := chooseMoreRow.holds Tryz.pinned (OpenSpec.ofChange chooseMoreWrong)

/-- 'ephemerislaw25.ChooseTells': WHATEVER THE INPUT: true; the input reads as it did. -/
def chooseTellsSpec : ChangeSpec := { name := "chooseTells", fn := fun _ => fun
  | [d1, d2] => { results := [.lit (.bool true)], args := [d1, d2] }
  | _ => none }
def chooseTellsRow : OpenClaim := { program := "ytapagoaoglmegaagreat", sum := "d818c4f487dbf3d11f1c430a154dcb83ecab161d67c8a376a86a4a4b7cf62caa", func := "ephemeris/ephemerislaw25.ChooseTells", spec := "chooseTells", unfollowed := true, recurses := true, named := ["math/bits.divideError", "math/bits.overflowError"], apart := false }
def ChooseTellsSaid : Prop := chooseTellsRow.holds Tryz.pinned (OpenSpec.ofChange chooseTellsSpec)

/-- ITS FALSE NEIGHBOUR: 'it returns false'. Refute it at one input. -/
def chooseTellsWrong : ChangeSpec := { name := "chooseTells", fn := fun _ => fun
  | [d1, d2] => { results := [.lit (.bool false)], args := [d1, d2] }
  | _ => none }
def ChooseTellsWrongFalsely : Prop := chooseTellsRow.holds Tryz.pinned (OpenSpec.ofChange chooseTellsWrong)

/-- 'ephemerislaw25.ChooseRight': WHATEVER THE INPUT: true; the input reads as it did. -/
def chooseRightSpec : ChangeSpec := { name := "chooseRight", fn := fun _ => fun
  | [d1, d2] => { results := [.lit (.bool true)], args := [d1, d2] }
  | _ => none }
def chooseRightRow : OpenClaim := { program := "ytapagoaoglmegaagreat", sum := "d818c4f487dbf3d11f1c430a154dcb83ecab161d67c8a376a86a4a4b7cf62caa", func := "ephemeris/ephemerislaw25.ChooseRight", spec := "chooseRight", unfollowed := true, recurses := true, named := ["math/bits.divideError", "math/bits.overflowError"], apart := false }
def ChooseRightSaid : Prop := chooseRightRow.holds Tryz.pinned (OpenSpec.ofChange chooseRightSpec)

/-- ITS FALSE NEIGHBOUR: 'it returns false'. Refute it at one input. -/
def chooseRightWrong : ChangeSpec := { name := "chooseRight", fn := fun _ => fun
  | [d1, d2] => { results := [.lit (.bool false)], args := [d1, d2] }
  | _ => none }
def ChooseRightWrongFalsely : Prop := chooseRightRow.holds Tryz.pinned (OpenSpec.ofChange chooseRightWrong)

/- THE SECOND FORM. 'bulk': how many values and letters a reading holds, each counted each time it is reached (what is shared counts as often as it is met; a slice's spare places count too). A statement '..UptoSaid' is the law's where the arguments, and the package variables that the reading takes, are together of bulk at most 1048576: NARROWER than '..Said'. Prove '..Said' where nothing that the law and all that it calls make is longer than what came in: it says more and counts as full. Else prove '..UptoSaid'. A law counts once. -/
mutual
def uptoBulk {H : Type} : DataW H → Nat
  | .lit (.string bytes) => bytes.length + 1
  | .lit _ => 1
  | .nil => 1
  | .ptr d => uptoBulk d + 1
  | .slice elems spare => uptoBulkAll elems + uptoBulkAll spare + 1
  | .agg parts => uptoBulkAll parts + 1
  | .iface _ d => uptoBulk d + 1
  | .map entries => uptoBulkEntries entries + 1
  | .held _ => 1
def uptoBulkAll {H : Type} : List (DataW H) → Nat
  | [] => 0
  | d :: r => uptoBulk d + uptoBulkAll r
def uptoBulkEntries {H : Type} : List (Lit × DataW H) → Nat
  | [] => 0
  | x :: r => uptoBulkEntry x + uptoBulkEntries r
def uptoBulkEntry {H : Type} : Lit × DataW H → Nat
  | (.string bytes, d) => bytes.length + uptoBulk d + 1
  | (_, d) => uptoBulk d + 1
 end
def uptoSmall : (H : Type) → List (DataW H) → Bool := fun _ ds => decide (uptoBulkAll ds ≤ 1048576)
def OpenSpec.upto (s : _root_.Go.ChangeSpec) : _root_.Go.OpenSpec := { _root_.Go.OpenSpec.ofChange s with cond := some uptoSmall }

/-- 'ephemerislaw25.ChooseKnown', WHERE WHAT IT READS IS OF BULK AT MOST 1048576: true; the input reads as it did. -/
def chooseKnownUptoRow : OpenClaim := { program := "ytapagoaoglmegaagreat", sum := "d818c4f487dbf3d11f1c430a154dcb83ecab161d67c8a376a86a4a4b7cf62caa", func := "ephemeris/ephemerislaw25.ChooseKnown", spec := "chooseKnown", unfollowed := true, recurses := true, named := ["math/bits.divideError", "math/bits.overflowError"], apart := false, narrowed := true }
def ChooseKnownUptoSaid : Prop := chooseKnownUptoRow.holds Tryz.pinned (OpenSpec.upto chooseKnownSpec)

/-- 'ephemerislaw25.ChooseOrder', WHERE WHAT IT READS IS OF BULK AT MOST 1048576: true; the input reads as it did. -/
def chooseOrderUptoRow : OpenClaim := { program := "ytapagoaoglmegaagreat", sum := "d818c4f487dbf3d11f1c430a154dcb83ecab161d67c8a376a86a4a4b7cf62caa", func := "ephemeris/ephemerislaw25.ChooseOrder", spec := "chooseOrder", unfollowed := true, recurses := true, named := ["math/bits.divideError", "math/bits.overflowError"], apart := false, narrowed := true }
def ChooseOrderUptoSaid : Prop := chooseOrderUptoRow.holds Tryz.pinned (OpenSpec.upto chooseOrderSpec)

/-- 'ephemerislaw25.ChooseMore', WHERE WHAT IT READS IS OF BULK AT MOST 1048576: true; the input reads as it did. -/
def chooseMoreUptoRow : OpenClaim := { program := "ytapagoaoglmegaagreat", sum := "d818c4f487dbf3d11f1c430a154dcb83ecab161d67c8a376a86a4a4b7cf62caa", func := "ephemeris/ephemerislaw25.ChooseMore", spec := "chooseMore", unfollowed := true, recurses := true, named := ["math/bits.divideError", "math/bits.overflowError"], apart := false, narrowed := true }
def ChooseMoreUptoSaid : Prop := chooseMoreUptoRow.holds Tryz.pinned (OpenSpec.upto chooseMoreSpec)

/-- 'ephemerislaw25.ChooseTells', WHERE WHAT IT READS IS OF BULK AT MOST 1048576: true; the input reads as it did. -/
def chooseTellsUptoRow : OpenClaim := { program := "ytapagoaoglmegaagreat", sum := "d818c4f487dbf3d11f1c430a154dcb83ecab161d67c8a376a86a4a4b7cf62caa", func := "ephemeris/ephemerislaw25.ChooseTells", spec := "chooseTells", unfollowed := true, recurses := true, named := ["math/bits.divideError", "math/bits.overflowError"], apart := false, narrowed := true }
def ChooseTellsUptoSaid : Prop := chooseTellsUptoRow.holds Tryz.pinned (OpenSpec.upto chooseTellsSpec)

/-- 'ephemerislaw25.ChooseRight', WHERE WHAT IT READS IS OF BULK AT MOST 1048576: true; the input reads as it did. -/
def chooseRightUptoRow : OpenClaim := { program := "ytapagoaoglmegaagreat", sum := "d818c4f487dbf3d11f1c430a154dcb83ecab161d67c8a376a86a4a4b7cf62caa", func := "ephemeris/ephemerislaw25.ChooseRight", spec := "chooseRight", unfollowed := true, recurses := true, named := ["math/bits.divideError", "math/bits.overflowError"], apart := false, narrowed := true }
def ChooseRightUptoSaid : Prop := chooseRightUptoRow.holds Tryz.pinned (OpenSpec.upto chooseRightSpec)

end Rows
end Go.Proofs.YtapagoaoglmegaaGreat
