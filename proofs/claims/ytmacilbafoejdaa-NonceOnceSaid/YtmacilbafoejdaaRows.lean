/-
  No cell of these rows narrows 'for every input' (looked for: loops, veiled, ifaces, maps, wideKeys, modest, calm, conditions, laid).
  DERIVED. THE GIVEN ROWS OF THIS SEAT. 4 by the template 'for every input the law returns true; each argument reads behind the call as it read before'; 0 by the template 'total and deterministic' (their statements: YtmacilbafoejdaaTotals.lean).
  GIVEN WITH THE SEED: the statements are not yours to turn. If you find one false, say at which input.
  Laid BY PROGRAM, IN A SANDBOX (cutbox-rows.mjs): the forced cells as the released guide's own fill.sh prints them over the translation 375d7b27ad904a41… (all of the seat's roots in one cut). By AI agents, Wed Nov 11 2026. No macro, syntax, notation, axiom, sorry.
-/
import Derived.Test.YtmacilbafoejdaaChecked
import GoSem.Claim
import GoSem.ClaimJoined
import GoSem.ClaimMapViews
import Derived.JoinedTies
import Derived.KernelRfl
namespace Go.Proofs.Ytmacilbafoejdaa
/- THE CELL 'sum', in the pinned program and in every row, IS THE sha256 OF THE DUMP (.gsa) THAT YtmacilbafoejdaaProg.lean LOADS. Nothing in Lean hashes anything: it is a label: what it is worth is what the hold of that sum in a sandbox is worth. -/
noncomputable def Try.pinned : Pinned := { name := "ytmacilbafoejdaa", sum := "375d7b27ad904a416f1a4232d424b4701a88b3482f74b1463b575c2096d2e37c", checked := Try.checked }
namespace Rows
def none {H : Type} : Left H := { results := [], args := [] }

/-- 'ephemerislaw18.NonceKeeps': WHATEVER THE INPUT: true; the input reads as it did. -/
def nonceKeepsSpec : ChangeSpec := { name := "nonceKeeps", fn := fun _ => fun
  | [d1, d2] => { results := [.lit (.bool true)], args := [d1, d2] }
  | _ => none }
def nonceKeepsRow : OpenClaim := { program := "ytmacilbafoejdaa", sum := "375d7b27ad904a416f1a4232d424b4701a88b3482f74b1463b575c2096d2e37c", func := "ephemeris/ephemerislaw18.NonceKeeps", spec := "nonceKeeps", apart := false }
def NonceKeepsSaid : Prop := nonceKeepsRow.holds Try.pinned (OpenSpec.ofChange nonceKeepsSpec)

/-- ITS FALSE NEIGHBOUR: 'it returns false'. Refute it at one input. -/
def nonceKeepsWrong : ChangeSpec := { name := "nonceKeeps", fn := fun _ => fun
  | [d1, d2] => { results := [.lit (.bool false)], args := [d1, d2] }
  | _ => none }
def NonceKeepsWrongFalsely : Prop := nonceKeepsRow.holds Try.pinned (OpenSpec.ofChange nonceKeepsWrong)

/-- 'ephemerislaw18.NonceTells': WHATEVER THE INPUT: true; the input reads as it did. -/
def nonceTellsSpec : ChangeSpec := { name := "nonceTells", fn := fun _ => fun
  | [d] => { results := [.lit (.bool true)], args := [d] }
  | _ => none }
def nonceTellsRow : OpenClaim := { program := "ytmacilbafoejdaa", sum := "375d7b27ad904a416f1a4232d424b4701a88b3482f74b1463b575c2096d2e37c", func := "ephemeris/ephemerislaw18.NonceTells", spec := "nonceTells", apart := false }
def NonceTellsSaid : Prop := nonceTellsRow.holds Try.pinned (OpenSpec.ofChange nonceTellsSpec)

/-- ITS FALSE NEIGHBOUR: 'it returns false'. Refute it at one input. -/
def nonceTellsWrong : ChangeSpec := { name := "nonceTells", fn := fun _ => fun
  | [d] => { results := [.lit (.bool false)], args := [d] }
  | _ => none }
def NonceTellsWrongFalsely : Prop := nonceTellsRow.holds Try.pinned (OpenSpec.ofChange nonceTellsWrong)

/-- 'ephemerislaw18.NonceOnce': WHATEVER THE INPUT: true; the input reads as it did. -/
def nonceOnceSpec : ChangeSpec := { name := "nonceOnce", fn := fun _ => fun
  | [d] => { results := [.lit (.bool true)], args := [d] }
  | _ => none }
def nonceOnceRow : OpenClaim := { program := "ytmacilbafoejdaa", sum := "375d7b27ad904a416f1a4232d424b4701a88b3482f74b1463b575c2096d2e37c", func := "ephemeris/ephemerislaw18.NonceOnce", spec := "nonceOnce", apart := false }
def NonceOnceSaid : Prop := nonceOnceRow.holds Try.pinned (OpenSpec.ofChange nonceOnceSpec)

/-- ITS FALSE NEIGHBOUR: 'it returns false'. Refute it at one input. -/
def nonceOnceWrong : ChangeSpec := { name := "nonceOnce", fn := fun _ => fun
  | [d] => { results := [.lit (.bool false)], args := [d] }
  | _ => none }
def NonceOnceWrongFalsely : Prop := nonceOnceRow.holds Try.pinned (OpenSpec.ofChange nonceOnceWrong)

/-- 'ephemerislaw18.NonceKnown': WHATEVER THE INPUT: true; the input reads as it did. -/
def nonceKnownSpec : ChangeSpec := { name := "nonceKnown", fn := fun _ => fun
  | [] => { results := [.lit (.bool true)], args := [] }
  | _ => none }
def nonceKnownRow : OpenClaim := { program := "ytmacilbafoejdaa", sum := "375d7b27ad904a416f1a4232d424b4701a88b3482f74b1463b575c2096d2e37c", func := "ephemeris/ephemerislaw18.NonceKnown", spec := "nonceKnown", apart := false }
def NonceKnownSaid : Prop := nonceKnownRow.holds Try.pinned (OpenSpec.ofChange nonceKnownSpec)

/-- ITS FALSE NEIGHBOUR: 'it returns false'. Refute it at one input. -/
def nonceKnownWrong : ChangeSpec := { name := "nonceKnown", fn := fun _ => fun
  | [] => { results := [.lit (.bool false)], args := [] }
  | _ => none }
def NonceKnownWrongFalsely : Prop := nonceKnownRow.holds Try.pinned (OpenSpec.ofChange nonceKnownWrong)

/- THE SECOND FORM. 'bulk': how many values and letters a reading holds, each counted each time it is reached (what is shared counts as often as it is met; a slice's spare places count too). A statement '..UptoSaid' is the law's where the arguments, and the package variables that the reading takes, are together of bulk at most 1048576: NARROWER than '..Said'. Prove '..Said' where nothing that the law and all that it calls make is longer than what came in: it says more and counts as full. Else prove '..UptoSaid'. A law counts once. -/
mutual
def uptoBulk {H : Type} : DataW H → Nat
  | .lit (.string bytes) => bytes.length + 1
  | .lit _ => 1
  | .nil => 1
  | .ptr d => uptoBulk d + 1
  | .slice elems spare => uptoBulkAll elems + uptoBulkAll spare + 1
  | .agg parts => uptoBulkAll parts + 1
  | .iface _ d => uptoBulk d + 1
  | .map entries => uptoBulkEntries entries + 1
  | .held _ => 1
def uptoBulkAll {H : Type} : List (DataW H) → Nat
  | [] => 0
  | d :: r => uptoBulk d + uptoBulkAll r
def uptoBulkEntries {H : Type} : List (Lit × DataW H) → Nat
  | [] => 0
  | x :: r => uptoBulkEntry x + uptoBulkEntries r
def uptoBulkEntry {H : Type} : Lit × DataW H → Nat
  | (.string bytes, d) => bytes.length + uptoBulk d + 1
  | (_, d) => uptoBulk d + 1
 end
def uptoSmall : (H : Type) → List (DataW H) → Bool := fun _ ds => decide (uptoBulkAll ds ≤ 1048576)
def OpenSpec.upto (s : _root_.Go.ChangeSpec) : _root_.Go.OpenSpec := { _root_.Go.OpenSpec.ofChange s with cond := some uptoSmall }

/-- 'ephemerislaw18.NonceKeeps', WHERE WHAT IT READS IS OF BULK AT MOST 1048576: true; the input reads as it did. -/
def nonceKeepsUptoRow : OpenClaim := { program := "ytmacilbafoejdaa", sum := "375d7b27ad904a416f1a4232d424b4701a88b3482f74b1463b575c2096d2e37c", func := "ephemeris/ephemerislaw18.NonceKeeps", spec := "nonceKeeps", apart := false, narrowed := true }
def NonceKeepsUptoSaid : Prop := nonceKeepsUptoRow.holds Try.pinned (OpenSpec.upto nonceKeepsSpec)

/-- 'ephemerislaw18.NonceTells', WHERE WHAT IT READS IS OF BULK AT MOST 1048576: true; the input reads as it did. -/
def nonceTellsUptoRow : OpenClaim := { program := "ytmacilbafoejdaa", sum := "375d7b27ad904a416f1a4232d424b4701a88b3482f74b1463b575c2096d2e37c", func := "ephemeris/ephemerislaw18.NonceTells", spec := "nonceTells", apart := false, narrowed := true }
def NonceTellsUptoSaid : Prop := nonceTellsUptoRow.holds Try.pinned (OpenSpec.upto nonceTellsSpec)

/-- 'ephemerislaw18.NonceOnce', WHERE WHAT IT READS IS OF BULK AT MOST 1048576: true; the input reads as it did. -/
def nonceOnceUptoRow : OpenClaim := { program := "ytmacilbafoejdaa", sum := "375d7b27ad904a416f1a4232d424b4701a88b3482f74b1463b575c2096d2e37c", func := "ephemeris/ephemerislaw18.NonceOnce", spec := "nonceOnce", apart := false, narrowed := true }
def NonceOnceUptoSaid : Prop := nonceOnceUptoRow.holds Try.pinned (OpenSpec.upto nonceOnceSpec)

/-- 'ephemerislaw18.NonceKnown', WHERE WHAT IT READS IS OF BULK AT MOST 1048576: true; the input reads as it did. -/
def nonceKnownUptoRow : OpenClaim := { program := "ytmacilbafoejdaa", sum := "375d7b27ad904a416f1a4232d424b4701a88b3482f74b1463b575c2096d2e37c", func := "ephemeris/ephemerislaw18.NonceKnown", spec := "nonceKnown", apart := false, narrowed := true }
def NonceKnownUptoSaid : Prop := nonceKnownUptoRow.holds Try.pinned (OpenSpec.upto nonceKnownSpec)

end Rows
end Go.Proofs.Ytmacilbafoejdaa
