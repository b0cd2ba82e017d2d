/-
  No cell of these rows narrows 'for every input' (looked for: loops, veiled, ifaces, maps, wideKeys, modest, calm, conditions, laid).
  DERIVED. THE GIVEN ROWS OF THIS SEAT. 12 by the template 'for every input the law returns true; each argument reads behind the call as it read before'; 0 by the template 'total and deterministic' (their statements: YtapagoaoglmegaaTotals.lean).
  GIVEN WITH THE SEED: the statements are not yours to turn. If you find one false, say at which input.
  Laid BY PROGRAM, IN A SANDBOX (cutbox-rows.mjs): the forced cells as the released guide's own fill.sh prints them over the translation 43bd94ee0da2b817… (all of the seat's roots in one cut). By AI agents, Wed Nov 11 2026. No macro, syntax, notation, axiom, sorry.
-/
import Derived.Test.YtapagoaoglmegaaChecked
import GoSem.Claim
import GoSem.ClaimJoined
import GoSem.ClaimMapViews
import Derived.JoinedTies
import Derived.KernelRfl
namespace Go.Proofs.Ytapagoaoglmegaa
/- THE CELL 'sum', in the pinned program and in every row, IS THE sha256 OF THE DUMP (.gsa) THAT YtapagoaoglmegaaProg.lean LOADS. Nothing in Lean hashes anything: it is a label: what it is worth is what the hold of that sum in a sandbox is worth. -/
noncomputable def Try.pinned : Pinned := { name := "ytapagoaoglmegaa", sum := "43bd94ee0da2b8176eb6477c0f0d2f08e13bdd9a789ed92ca5963e802ecca007", checked := Try.checked }
namespace Rows
def none {H : Type} : Left H := { results := [], args := [] }

/-- 'ephemerislaw23.ClusterTells': WHATEVER THE INPUT: true; the input reads as it did. -/
def clusterTellsSpec : ChangeSpec := { name := "clusterTells", fn := fun _ => fun
  | [d1, d2, d3] => { results := [.lit (.bool true)], args := [d1, d2, d3] }
  | _ => none }
def clusterTellsRow : OpenClaim := { program := "ytapagoaoglmegaa", sum := "43bd94ee0da2b8176eb6477c0f0d2f08e13bdd9a789ed92ca5963e802ecca007", func := "ephemeris/ephemerislaw23.ClusterTells", spec := "clusterTells", unfollowed := true, recurses := true, apart := false }
def ClusterTellsSaid : Prop := clusterTellsRow.holds Try.pinned (OpenSpec.ofChange clusterTellsSpec)

/-- ITS FALSE NEIGHBOUR: 'it returns false'. Refute it at one input. -/
def clusterTellsWrong : ChangeSpec := { name := "clusterTells", fn := fun _ => fun
  | [d1, d2, d3] => { results := [.lit (.bool false)], args := [d1, d2, d3] }
  | _ => none }
def ClusterTellsWrongFalsely : Prop := clusterTellsRow.holds Try.pinned (OpenSpec.ofChange clusterTellsWrong)

/-- 'ephemerislaw23.ClusterLeaves': WHATEVER THE INPUT: true; the input reads as it did. -/
def clusterLeavesSpec : ChangeSpec := { name := "clusterLeaves", fn := fun _ => fun
  | [d1, d2, d3] => { results := [.lit (.bool true)], args := [d1, d2, d3] }
  | _ => none }
def clusterLeavesRow : OpenClaim := { program := "ytapagoaoglmegaa", sum := "43bd94ee0da2b8176eb6477c0f0d2f08e13bdd9a789ed92ca5963e802ecca007", func := "ephemeris/ephemerislaw23.ClusterLeaves", spec := "clusterLeaves", unfollowed := true, recurses := true, apart := false }
def ClusterLeavesSaid : Prop := clusterLeavesRow.holds Try.pinned (OpenSpec.ofChange clusterLeavesSpec)

/-- ITS FALSE NEIGHBOUR: 'it returns false'. Refute it at one input. -/
def clusterLeavesWrong : ChangeSpec := { name := "clusterLeaves", fn := fun _ => fun
  | [d1, d2, d3] => { results := [.lit (.bool false)], args := [d1, d2, d3] }
  | _ => none }
def ClusterLeavesWrongFalsely : Prop := clusterLeavesRow.holds Try.pinned (OpenSpec.ofChange clusterLeavesWrong)

/-- 'ephemerislaw23.ClusterSpreads': WHATEVER THE INPUT: true; the input reads as it did. -/
def clusterSpreadsSpec : ChangeSpec := { name := "clusterSpreads", fn := fun _ => fun
  | [d] => { results := [.lit (.bool true)], args := [d] }
  | _ => none }
def clusterSpreadsRow : OpenClaim := { program := "ytapagoaoglmegaa", sum := "43bd94ee0da2b8176eb6477c0f0d2f08e13bdd9a789ed92ca5963e802ecca007", func := "ephemeris/ephemerislaw23.ClusterSpreads", spec := "clusterSpreads", unfollowed := true, recurses := true, apart := false }
def ClusterSpreadsSaid : Prop := clusterSpreadsRow.holds Try.pinned (OpenSpec.ofChange clusterSpreadsSpec)

/-- ITS FALSE NEIGHBOUR: 'it returns false'. Refute it at one input. -/
def clusterSpreadsWrong : ChangeSpec := { name := "clusterSpreads", fn := fun _ => fun
  | [d] => { results := [.lit (.bool false)], args := [d] }
  | _ => none }
def ClusterSpreadsWrongFalsely : Prop := clusterSpreadsRow.holds Try.pinned (OpenSpec.ofChange clusterSpreadsWrong)

/-- 'ephemerislaw23.ClusterCalm': WHATEVER THE INPUT: true; the input reads as it did. -/
def clusterCalmSpec : ChangeSpec := { name := "clusterCalm", fn := fun _ => fun
  | [d] => { results := [.lit (.bool true)], args := [d] }
  | _ => none }
def clusterCalmRow : OpenClaim := { program := "ytapagoaoglmegaa", sum := "43bd94ee0da2b8176eb6477c0f0d2f08e13bdd9a789ed92ca5963e802ecca007", func := "ephemeris/ephemerislaw23.ClusterCalm", spec := "clusterCalm", unfollowed := true, recurses := true, apart := false }
def ClusterCalmSaid : Prop := clusterCalmRow.holds Try.pinned (OpenSpec.ofChange clusterCalmSpec)

/-- ITS FALSE NEIGHBOUR: 'it returns false'. Refute it at one input. -/
def clusterCalmWrong : ChangeSpec := { name := "clusterCalm", fn := fun _ => fun
  | [d] => { results := [.lit (.bool false)], args := [d] }
  | _ => none }
def ClusterCalmWrongFalsely : Prop := clusterCalmRow.holds Try.pinned (OpenSpec.ofChange clusterCalmWrong)

/-- 'ephemerislaw23.ClusterKnown': WHATEVER THE INPUT: true; the input reads as it did. -/
def clusterKnownSpec : ChangeSpec := { name := "clusterKnown", fn := fun _ => fun
  | [] => { results := [.lit (.bool true)], args := [] }
  | _ => none }
def clusterKnownRow : OpenClaim := { program := "ytapagoaoglmegaa", sum := "43bd94ee0da2b8176eb6477c0f0d2f08e13bdd9a789ed92ca5963e802ecca007", func := "ephemeris/ephemerislaw23.ClusterKnown", spec := "clusterKnown", unfollowed := true, recurses := true, apart := false }
def ClusterKnownSaid : Prop := clusterKnownRow.holds Try.pinned (OpenSpec.ofChange clusterKnownSpec)

/-- ITS FALSE NEIGHBOUR: 'it returns false'. Refute it at one input. -/
def clusterKnownWrong : ChangeSpec := { name := "clusterKnown", fn := fun _ => fun
  | [] => { results := [.lit (.bool false)], args := [] }
  | _ => none }
def ClusterKnownWrongFalsely : Prop := clusterKnownRow.holds Try.pinned (OpenSpec.ofChange clusterKnownWrong)

/-- 'ephemerislaw23.ClusterOrder': WHATEVER THE INPUT: true; the input reads as it did. -/
def clusterOrderSpec : ChangeSpec := { name := "clusterOrder", fn := fun _ => fun
  | [d1, d2, d3] => { results := [.lit (.bool true)], args := [d1, d2, d3] }
  | _ => none }
def clusterOrderRow : OpenClaim := { program := "ytapagoaoglmegaa", sum := "43bd94ee0da2b8176eb6477c0f0d2f08e13bdd9a789ed92ca5963e802ecca007", func := "ephemeris/ephemerislaw23.ClusterOrder", spec := "clusterOrder", unfollowed := true, recurses := true, apart := false }
def ClusterOrderSaid : Prop := clusterOrderRow.holds Try.pinned (OpenSpec.ofChange clusterOrderSpec)

/-- ITS FALSE NEIGHBOUR: 'it returns false'. Refute it at one input. -/
def clusterOrderWrong : ChangeSpec := { name := "clusterOrder", fn := fun _ => fun
  | [d1, d2, d3] => { results := [.lit (.bool false)], args := [d1, d2, d3] }
  | _ => none }
def ClusterOrderWrongFalsely : Prop := clusterOrderRow.holds Try.pinned (OpenSpec.ofChange clusterOrderWrong)

/-- 'ephemerislaw22.EdgesOrder': WHATEVER THE INPUT: true; the input reads as it did. -/
def edgesOrderSpec : ChangeSpec := { name := "edgesOrder", fn := fun _ => fun
  | [d1, d2, d3] => { results := [.lit (.bool true)], args := [d1, d2, d3] }
  | _ => none }
def edgesOrderRow : OpenClaim := { program := "ytapagoaoglmegaa", sum := "43bd94ee0da2b8176eb6477c0f0d2f08e13bdd9a789ed92ca5963e802ecca007", func := "ephemeris/ephemerislaw22.EdgesOrder", spec := "edgesOrder", unfollowed := true, recurses := true, apart := false }
def EdgesOrderSaid : Prop := edgesOrderRow.holds Try.pinned (OpenSpec.ofChange edgesOrderSpec)

/-- ITS FALSE NEIGHBOUR: 'it returns false'. Refute it at one input. -/
def edgesOrderWrong : ChangeSpec := { name := "edgesOrder", fn := fun _ => fun
  | [d1, d2, d3] => { results := [.lit (.bool false)], args := [d1, d2, d3] }
  | _ => none }
def EdgesOrderWrongFalsely : Prop := edgesOrderRow.holds Try.pinned (OpenSpec.ofChange edgesOrderWrong)

/-- 'ephemerislaw22.EdgesWithin': WHATEVER THE INPUT: true; the input reads as it did. -/
def edgesWithinSpec : ChangeSpec := { name := "edgesWithin", fn := fun _ => fun
  | [d1, d2, d3] => { results := [.lit (.bool true)], args := [d1, d2, d3] }
  | _ => none }
def edgesWithinRow : OpenClaim := { program := "ytapagoaoglmegaa", sum := "43bd94ee0da2b8176eb6477c0f0d2f08e13bdd9a789ed92ca5963e802ecca007", func := "ephemeris/ephemerislaw22.EdgesWithin", spec := "edgesWithin", unfollowed := true, recurses := true, apart := false }
def EdgesWithinSaid : Prop := edgesWithinRow.holds Try.pinned (OpenSpec.ofChange edgesWithinSpec)

/-- ITS FALSE NEIGHBOUR: 'it returns false'. Refute it at one input. -/
def edgesWithinWrong : ChangeSpec := { name := "edgesWithin", fn := fun _ => fun
  | [d1, d2, d3] => { results := [.lit (.bool false)], args := [d1, d2, d3] }
  | _ => none }
def EdgesWithinWrongFalsely : Prop := edgesWithinRow.holds Try.pinned (OpenSpec.ofChange edgesWithinWrong)

/-- 'ephemerislaw22.EdgesSound': WHATEVER THE INPUT: true; the input reads as it did. -/
def edgesSoundSpec : ChangeSpec := { name := "edgesSound", fn := fun _ => fun
  | [d1, d2, d3] => { results := [.lit (.bool true)], args := [d1, d2, d3] }
  | _ => none }
def edgesSoundRow : OpenClaim := { program := "ytapagoaoglmegaa", sum := "43bd94ee0da2b8176eb6477c0f0d2f08e13bdd9a789ed92ca5963e802ecca007", func := "ephemeris/ephemerislaw22.EdgesSound", spec := "edgesSound", unfollowed := true, recurses := true, apart := false }
def EdgesSoundSaid : Prop := edgesSoundRow.holds Try.pinned (OpenSpec.ofChange edgesSoundSpec)

/-- ITS FALSE NEIGHBOUR: 'it returns false'. Refute it at one input. -/
def edgesSoundWrong : ChangeSpec := { name := "edgesSound", fn := fun _ => fun
  | [d1, d2, d3] => { results := [.lit (.bool false)], args := [d1, d2, d3] }
  | _ => none }
def EdgesSoundWrongFalsely : Prop := edgesSoundRow.holds Try.pinned (OpenSpec.ofChange edgesSoundWrong)

/-- 'ephemerislaw22.EdgesSums': WHATEVER THE INPUT: true; the input reads as it did. -/
def edgesSumsSpec : ChangeSpec := { name := "edgesSums", fn := fun _ => fun
  | [d] => { results := [.lit (.bool true)], args := [d] }
  | _ => none }
def edgesSumsRow : OpenClaim := { program := "ytapagoaoglmegaa", sum := "43bd94ee0da2b8176eb6477c0f0d2f08e13bdd9a789ed92ca5963e802ecca007", func := "ephemeris/ephemerislaw22.EdgesSums", spec := "edgesSums", unfollowed := true, recurses := true, apart := false }
def EdgesSumsSaid : Prop := edgesSumsRow.holds Try.pinned (OpenSpec.ofChange edgesSumsSpec)

/-- ITS FALSE NEIGHBOUR: 'it returns false'. Refute it at one input. -/
def edgesSumsWrong : ChangeSpec := { name := "edgesSums", fn := fun _ => fun
  | [d] => { results := [.lit (.bool false)], args := [d] }
  | _ => none }
def EdgesSumsWrongFalsely : Prop := edgesSumsRow.holds Try.pinned (OpenSpec.ofChange edgesSumsWrong)

/-- 'ephemerislaw22.EdgesTell': WHATEVER THE INPUT: true; the input reads as it did. -/
def edgesTellSpec : ChangeSpec := { name := "edgesTell", fn := fun _ => fun
  | [d1, d2, d3, d4] => { results := [.lit (.bool true)], args := [d1, d2, d3, d4] }
  | _ => none }
def edgesTellRow : OpenClaim := { program := "ytapagoaoglmegaa", sum := "43bd94ee0da2b8176eb6477c0f0d2f08e13bdd9a789ed92ca5963e802ecca007", func := "ephemeris/ephemerislaw22.EdgesTell", spec := "edgesTell", unfollowed := true, recurses := true, apart := false }
def EdgesTellSaid : Prop := edgesTellRow.holds Try.pinned (OpenSpec.ofChange edgesTellSpec)

/-- ITS FALSE NEIGHBOUR: 'it returns false'. Refute it at one input. -/
def edgesTellWrong : ChangeSpec := { name := "edgesTell", fn := fun _ => fun
  | [d1, d2, d3, d4] => { results := [.lit (.bool false)], args := [d1, d2, d3, d4] }
  | _ => none }
def EdgesTellWrongFalsely : Prop := edgesTellRow.holds Try.pinned (OpenSpec.ofChange edgesTellWrong)

/-- 'ephemerislaw22.EdgesKnown': WHATEVER THE INPUT: true; the input reads as it did. -/
def edgesKnownSpec : ChangeSpec := { name := "edgesKnown", fn := fun _ => fun
  | [] => { results := [.lit (.bool true)], args := [] }
  | _ => none }
def edgesKnownRow : OpenClaim := { program := "ytapagoaoglmegaa", sum := "43bd94ee0da2b8176eb6477c0f0d2f08e13bdd9a789ed92ca5963e802ecca007", func := "ephemeris/ephemerislaw22.EdgesKnown", spec := "edgesKnown", unfollowed := true, recurses := true, apart := false }
def EdgesKnownSaid : Prop := edgesKnownRow.holds Try.pinned (OpenSpec.ofChange edgesKnownSpec)

/-- ITS FALSE NEIGHBOUR: 'it returns false'. Refute it at one input. -/
def edgesKnownWrong : ChangeSpec := { name := "edgesKnown", fn := fun _ => fun
  | [] => { results := [.lit (.bool false)], args := [] }
  | _ => none }
def EdgesKnownWrongFalsely : Prop := edgesKnownRow.holds Try.pinned (OpenSpec.ofChange edgesKnownWrong)

/- THE SECOND FORM. 'bulk': how many values and letters a reading holds, each counted each time it is reached (what is shared counts as often as it is met; a slice's spare places count too). A statement '..UptoSaid' is the law's where the arguments, and the package variables that the reading takes, are together of bulk at most 1048576: NARROWER than '..Said'. Prove '..Said' where nothing that the law and all that it calls make is longer than what came in: it says more and counts as full. Else prove '..UptoSaid'. A law counts once. -/
mutual
def uptoBulk {H : Type} : DataW H → Nat
  | .lit (.string bytes) => bytes.length + 1
  | .lit _ => 1
  | .nil => 1
  | .ptr d => uptoBulk d + 1
  | .slice elems spare => uptoBulkAll elems + uptoBulkAll spare + 1
  | .agg parts => uptoBulkAll parts + 1
  | .iface _ d => uptoBulk d + 1
  | .map entries => uptoBulkEntries entries + 1
  | .held _ => 1
def uptoBulkAll {H : Type} : List (DataW H) → Nat
  | [] => 0
  | d :: r => uptoBulk d + uptoBulkAll r
def uptoBulkEntries {H : Type} : List (Lit × DataW H) → Nat
  | [] => 0
  | x :: r => uptoBulkEntry x + uptoBulkEntries r
def uptoBulkEntry {H : Type} : Lit × DataW H → Nat
  | (.string bytes, d) => bytes.length + uptoBulk d + 1
  | (_, d) => uptoBulk d + 1
 end
def uptoSmall : (H : Type) → List (DataW H) → Bool := fun _ ds => decide (uptoBulkAll ds ≤ 1048576)
def OpenSpec.upto (s : _root_.Go.ChangeSpec) : _root_.Go.OpenSpec := { _root_.Go.OpenSpec.ofChange s with cond := some uptoSmall }

/-- 'ephemerislaw23.ClusterTells', WHERE WHAT IT READS IS OF BULK AT MOST 1048576: true; the input reads as it did. -/
def clusterTellsUptoRow : OpenClaim := { program := "ytapagoaoglmegaa", sum := "43bd94ee0da2b8176eb6477c0f0d2f08e13bdd9a789ed92ca5963e802ecca007", func := "ephemeris/ephemerislaw23.ClusterTells", spec := "clusterTells", unfollowed := true, recurses := true, apart := false, narrowed := true }
def ClusterTellsUptoSaid : Prop := clusterTellsUptoRow.holds Try.pinned (OpenSpec.upto clusterTellsSpec)

/-- 'ephemerislaw23.ClusterLeaves', WHERE WHAT IT READS IS OF BULK AT MOST 1048576: true; the input reads as it did. -/
def clusterLeavesUptoRow : OpenClaim := { program := "ytapagoaoglmegaa", sum := "43bd94ee0da2b8176eb6477c0f0d2f08e13bdd9a789ed92ca5963e802ecca007", func := "ephemeris/ephemerislaw23.ClusterLeaves", spec := "clusterLeaves", unfollowed := true, recurses := true, apart := false, narrowed := true }
def ClusterLeavesUptoSaid : Prop := clusterLeavesUptoRow.holds Try.pinned (OpenSpec.upto clusterLeavesSpec)

/-- 'ephemerislaw23.ClusterSpreads', WHERE WHAT IT READS IS OF BULK AT MOST 1048576: true; the input reads as it did. -/
def clusterSpreadsUptoRow : OpenClaim := { program := "ytapagoaoglmegaa", sum := "43bd94ee0da2b8176eb6477c0f0d2f08e13bdd9a789ed92ca5963e802ecca007", func := "ephemeris/ephemerislaw23.ClusterSpreads", spec := "clusterSpreads", unfollowed := true, recurses := true, apart := false, narrowed := true }
def ClusterSpreadsUptoSaid : Prop := clusterSpreadsUptoRow.holds Try.pinned (OpenSpec.upto clusterSpreadsSpec)

/-- 'ephemerislaw23.ClusterCalm', WHERE WHAT IT READS IS OF BULK AT MOST 1048576: true; the input reads as it did. -/
def clusterCalmUptoRow : OpenClaim := { program := "ytapagoaoglmegaa", sum := "43bd94ee0da2b8176eb6477c0f0d2f08e13bdd9a789ed92ca5963e802ecca007", func := "ephemeris/ephemerislaw23.ClusterCalm", spec := "clusterCalm", unfollowed := true, recurses := true, apart := false, narrowed := true }
def ClusterCalmUptoSaid : Prop := clusterCalmUptoRow.holds Try.pinned (OpenSpec.upto clusterCalmSpec)

/-- 'ephemerislaw23.ClusterKnown', WHERE WHAT IT READS IS OF BULK AT MOST 1048576: true; the input reads as it did. -/
def clusterKnownUptoRow : OpenClaim := { program := "ytapagoaoglmegaa", sum := "43bd94ee0da2b8176eb6477c0f0d2f08e13bdd9a789ed92ca5963e802ecca007", func := "ephemeris/ephemerislaw23.ClusterKnown", spec := "clusterKnown", unfollowed := true, recurses := true, apart := false, narrowed := true }
def ClusterKnownUptoSaid : Prop := clusterKnownUptoRow.holds Try.pinned (OpenSpec.upto clusterKnownSpec)

/-- 'ephemerislaw23.ClusterOrder', WHERE WHAT IT READS IS OF BULK AT MOST 1048576: true; the input reads as it did. -/
def clusterOrderUptoRow : OpenClaim := { program := "ytapagoaoglmegaa", sum := "43bd94ee0da2b8176eb6477c0f0d2f08e13bdd9a789ed92ca5963e802ecca007", func := "ephemeris/ephemerislaw23.ClusterOrder", spec := "clusterOrder", unfollowed := true, recurses := true, apart := false, narrowed := true }
def ClusterOrderUptoSaid : Prop := clusterOrderUptoRow.holds Try.pinned (OpenSpec.upto clusterOrderSpec)

/-- 'ephemerislaw22.EdgesOrder', WHERE WHAT IT READS IS OF BULK AT MOST 1048576: true; the input reads as it did. -/
def edgesOrderUptoRow : OpenClaim := { program := "ytapagoaoglmegaa", sum := "43bd94ee0da2b8176eb6477c0f0d2f08e13bdd9a789ed92ca5963e802ecca007", func := "ephemeris/ephemerislaw22.EdgesOrder", spec := "edgesOrder", unfollowed := true, recurses := true, apart := false, narrowed := true }
def EdgesOrderUptoSaid : Prop := edgesOrderUptoRow.holds Try.pinned (OpenSpec.upto edgesOrderSpec)

/-- 'ephemerislaw22.EdgesWithin', WHERE WHAT IT READS IS OF BULK AT MOST 1048576: true; the input reads as it did. -/
def edgesWithinUptoRow : OpenClaim := { program := "ytapagoaoglmegaa", sum := "43bd94ee0da2b8176eb6477c0f0d2f08e13bdd9a789ed92ca5963e802ecca007", func := "ephemeris/ephemerislaw22.EdgesWithin", spec := "edgesWithin", unfollowed := true, recurses := true, apart := false, narrowed := true }
def EdgesWithinUptoSaid : Prop := edgesWithinUptoRow.holds Try.pinned (OpenSpec.upto edgesWithinSpec)

/-- 'ephemerislaw22.EdgesSound', WHERE WHAT IT READS IS OF BULK AT MOST 1048576: true; the input reads as it did. -/
def edgesSoundUptoRow : OpenClaim := { program := "ytapagoaoglmegaa", sum := "43bd94ee0da2b8176eb6477c0f0d2f08e13bdd9a789ed92ca5963e802ecca007", func := "ephemeris/ephemerislaw22.EdgesSound", spec := "edgesSound", unfollowed := true, recurses := true, apart := false, narrowed := true }
def EdgesSoundUptoSaid : Prop := edgesSoundUptoRow.holds Try.pinned (OpenSpec.upto edgesSoundSpec)

/-- 'ephemerislaw22.EdgesSums', WHERE WHAT IT READS IS OF BULK AT MOST 1048576: true; the input reads as it did. -/
def edgesSumsUptoRow : OpenClaim := { program := "ytapagoaoglmegaa", sum := "43bd94ee0da2b8176eb6477c0f0d2f08e13bdd9a789ed92ca5963e802ecca007", func := "ephemeris/ephemerislaw22.EdgesSums", spec := "edgesSums", unfollowed := true, recurses := true, apart := false, narrowed := true }
def EdgesSumsUptoSaid : Prop := edgesSumsUptoRow.holds Try.pinned (OpenSpec.upto edgesSumsSpec)

/-- 'ephemerislaw22.EdgesTell', WHERE WHAT IT READS IS OF BULK AT MOST 1048576: true; the input reads as it did. -/
def edgesTellUptoRow : OpenClaim := { program := "ytapagoaoglmegaa", sum := "43bd94ee0da2b8176eb6477c0f0d2f08e13bdd9a789ed92ca5963e802ecca007", func := "ephemeris/ephemerislaw22.EdgesTell", spec := "edgesTell", unfollowed := true, recurses := true, apart := false, narrowed := true }
def EdgesTellUptoSaid : Prop := edgesTellUptoRow.holds Try.pinned (OpenSpec.upto edgesTellSpec)

/-- 'ephemerislaw22.EdgesKnown', WHERE WHAT IT READS IS OF BULK AT MOST 1048576: true; the input reads as it did. -/
def edgesKnownUptoRow : OpenClaim := { program := "ytapagoaoglmegaa", sum := "43bd94ee0da2b8176eb6477c0f0d2f08e13bdd9a789ed92ca5963e802ecca007", func := "ephemeris/ephemerislaw22.EdgesKnown", spec := "edgesKnown", unfollowed := true, recurses := true, apart := false, narrowed := true }
def EdgesKnownUptoSaid : Prop := edgesKnownUptoRow.holds Try.pinned (OpenSpec.upto edgesKnownSpec)

end Rows
end Go.Proofs.Ytapagoaoglmegaa
