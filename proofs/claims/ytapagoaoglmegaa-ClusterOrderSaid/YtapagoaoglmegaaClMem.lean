/- Candidates in memory. -/
import Derived.Test.YtapagoaoglmegaaMapF
import Derived.Test.YtapagoaoglmegaaClPlain
import Derived.Deep.RegionHeld3
namespace Go.Proofs.Ytapagoaoglmegaa
open Go.RowKit Go.Proofs.YtapagoaoglmegaaW.PrintWords Go.Proofs.YtapagoaoglmegaaW.PrintLast Go.Proofs.YtapagoaoglmegaaW.PrintMore PCl
set_option linter.unusedVariables false
set_option linter.unusedSimpArgs false

@[reducible] def oY : Bool := true
@[reducible] def oN : Bool := false
theorem spot_none {w : World} {ad : Addr} {v : Value} (h : w.cell? ad = some v) : ∃ r off, ad = ⟨r, off, none⟩ := by
  obtain ⟨r, off, spot⟩ := ad
  cases spot with
  | none => exact ⟨r, off, rfl⟩
  | some s => simp only [World.cell?] at h; split at h <;> simp_all
theorem add_zero' (ad : Addr) : ad.add 0 = ad := by unfold Addr.add; simp
theorem add_none (r off k : Nat) : (⟨r, off, none⟩ : Addr).add k = ⟨r, off + k, none⟩ := by unfold Addr.add; split <;> simp_all
theorem hid {p : Prop} (h : p) : Hid p := h
theorem take_snoc {α : Type} {l : List α} {i : Nat} {x : α} (h : l[i]? = some x) : l.take (i + 1) = l.take i ++ [x] := by
  rw [List.take_add_one, h]; rfl
def encC (c : S27) : List Value := [.int .i64 c.f0, .int .i64 c.f1.f0, .int .i64 c.f1.f1, .int .i64 c.f1.f2, .int .i64 c.f2]
/-- The five cells of a candidate. -/
def At5 (w : World) (r o : Nat) (c : S27) : Prop :=
  w.cell? ⟨r, o, none⟩ = some (.int .i64 c.f0) ∧ w.cell? ⟨r, o + 1, none⟩ = some (.int .i64 c.f1.f0) ∧ w.cell? ⟨r, o + 2, none⟩ = some (.int .i64 c.f1.f1) ∧ w.cell? ⟨r, o + 3, none⟩ = some (.int .i64 c.f1.f2) ∧ w.cell? ⟨r, o + 4, none⟩ = some (.int .i64 c.f2)
theorem At5.fr {w w' : World} {r o : Nat} {c : S27} {S : Nat → Prop} (h : At5 w r o c) (k : Fr S w w') (hs : ¬ S r) : At5 w' r o c := by
  have hb := World.block_lt_of_cell? w _ h.1
  exact ⟨(k.cell (a := ⟨r, o, none⟩) hb hs).trans h.1, (k.cell (a := ⟨r, o + 1, none⟩) hb hs).trans h.2.1, (k.cell (a := ⟨r, o + 2, none⟩) hb hs).trans h.2.2.1, (k.cell (a := ⟨r, o + 3, none⟩) hb hs).trans h.2.2.2.1, (k.cell (a := ⟨r, o + 4, none⟩) hb hs).trans h.2.2.2.2⟩
theorem C27_open {w : World} {A : Option Addr} {l : List S27} (h : Kd.C k27 w A l.length l) (hn : 0 < l.length) : ∃ r off, A = some ⟨r, off, none⟩ ∧ r < w.heap.size ∧ ∀ i c, l[i]? = some c → At5 w r (off + i * 5) c := by
  obtain ⟨ad, rfl, h0, _⟩ := at_T27 h 0 (by omega) (by omega)
  rw [show (0 : Int).toNat * 5 = 0 from rfl, add_zero'] at h0
  obtain ⟨r, off, rfl⟩ := spot_none h0
  refine ⟨r, off, rfl, World.block_lt_of_cell? w _ h0, fun i c hi => ?_⟩
  have hil := (List.getElem?_eq_some_iff.1 hi).1
  obtain ⟨ad, e, h1, h2, h3, h4, h5⟩ := at_T27 h (i : Int) (by omega) (by omega)
  obtain rfl := Option.some.inj e
  rw [rd_get hi, Int.toNat_natCast, add_none] at h1 h2 h3 h4 h5
  exact ⟨h1, h2, h3, h4, h5⟩
theorem C27_nil {w : World} {A : Option Addr} {l : List S27} (h : Kd.C k27 w A l.length l) : l.length ≤ 9223372036854775807 := h.2.1
end Go.Proofs.Ytapagoaoglmegaa
