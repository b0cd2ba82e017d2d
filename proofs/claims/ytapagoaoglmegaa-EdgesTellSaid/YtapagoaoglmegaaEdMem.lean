/- Spans in memory; which may be; whether one of a row may not. -/
import Derived.Test.YtapagoaoglmegaaKit
import Derived.Test.YtapagoaoglmegaaEdSpans
import Derived.Test.YtapagoaoglmegaaLists
import Derived.Deep.RegionHeld3
import Derived.Shelf.SlicesQ.IndexFunc
import Derived.Shelf.SlGeneric
import Derived.Lib.Hide
namespace Go.Proofs.Ytapagoaoglmegaa
open Go.RowKit Go.Proofs.YtapagoaoglmegaaW.PrintWords Go.Proofs.YtapagoaoglmegaaW.PrintLast Go.Proofs.YtapagoaoglmegaaW.PrintMore PCl
set_option linter.unusedVariables false
set_option linter.unusedSimpArgs false
set_option maxRecDepth 100000
theorem hidE {p : Prop} (h : p) : Hid p := h
theorem spotE {w : World} {ad : Addr} {v : Value} (h : w.cell? ad = some v) : ∃ r off, ad = ⟨r, off, none⟩ := by
  obtain ⟨r, off, spot⟩ := ad
  cases spot with
  | none => exact ⟨r, off, rfl⟩
  | some s => simp only [World.cell?] at h; split at h <;> simp_all
theorem addE (r off k : Nat) : (⟨r, off, none⟩ : Addr).add k = ⟨r, off + k, none⟩ := by unfold Addr.add; split <;> simp_all
def encS (s : S24) : List Value := [.int .i64 s.f0, .int .i64 s.f1, .int .i64 s.f2]
@[reducible] def vS (s : S24) : Value := .agg #[.int .i64 s.f0, .int .i64 s.f1, .int .i64 s.f2]
/-- The three cells of a span. -/
def AtS (w : World) (r o : Nat) (s : S24) : Prop :=
  w.cell? ⟨r, o, none⟩ = some (.int .i64 s.f0) ∧ w.cell? ⟨r, o + 1, none⟩ = some (.int .i64 s.f1) ∧ w.cell? ⟨r, o + 2, none⟩ = some (.int .i64 s.f2)
theorem AtS.fr {w w' : World} {r o : Nat} {s : S24} {S : Nat → Prop} (h : AtS w r o s) (k : Fr S w w') (hs : ¬ S r) : AtS w' r o s := by
  have hb := World.block_lt_of_cell? w _ h.1
  exact ⟨(k.cell (a := ⟨r, o, none⟩) hb hs).trans h.1, (k.cell (a := ⟨r, o + 1, none⟩) hb hs).trans h.2.1, (k.cell (a := ⟨r, o + 2, none⟩) hb hs).trans h.2.2⟩
theorem rdE {l : List S24} {i : Nat} {s : S24} (h : l[i]? = some s) : rd_T24 l (i : Int) = s := by
  unfold rd_T24; simp [h]
theorem C24_open {w : World} {A : Option Addr} {l : List S24} (h : Kd.C k24 w A l.length l) (hn : 0 < l.length) : ∃ r off, A = some ⟨r, off, none⟩ ∧ r < w.heap.size ∧ ∀ i s, l[i]? = some s → AtS w r (off + i * 3) s := by
  obtain ⟨ad, rfl, h0, _⟩ := at_T24 h 0 (by omega) (by omega)
  rw [show (0 : Int).toNat * 3 = 0 from rfl] at h0
  have e0 : ad.add 0 = ad := by unfold Addr.add; simp
  rw [e0] at h0
  obtain ⟨r, off, rfl⟩ := spotE h0
  refine ⟨r, off, rfl, World.block_lt_of_cell? w _ h0, fun i s hi => ?_⟩
  have hil := (List.getElem?_eq_some_iff.1 hi).1
  obtain ⟨ad, e, h1, h2, h3⟩ := at_T24 h (i : Int) (by omega) (by omega)
  obtain rfl := Option.some.inj e
  rw [rdE hi, Int.toNat_natCast, addE] at h1 h2 h3
  exact ⟨h1, h2, h3⟩
theorem C24_len {w : World} {A : Option Addr} {l : List S24} (h : Kd.C k24 w A l.length l) : l.length ≤ 9223372036854775807 := h.2.1
theorem may_at (s : S24) (W : World) : Calls Try.prog 71 #[vS s] W fun e w' => e = .returned (.bool (mayE s)) ∧ Fr (fun _ => False) W w' := by
  by_cases h1 : 0 ≤ s.f1
  · by_cases h2 : s.f1 ≤ s.f2
    · by_cases h3 : s.f2 ≤ 4611686018427387904
      · have e : mayE s = true := by unfold mayE; simp [h1, h2, h3]
        rw [e]
        clear e
        have t1 : decide (s.f1 ≥ 0) = true := decide_eq_true h1
        have t2 : decide (s.f1 ≤ s.f2) = true := decide_eq_true h2
        have t3 : decide (s.f2 ≤ 4611686018427387904) = true := decide_eq_true h3
        go_enter Try.func71, Try.ntmps71
        go_wp2
        go_ret
        exact ⟨rfl, by (repeat' (first | (with_reducible exact Fr.refl _ _) | (with_reducible assumption) | (with_reducible refine Fr.alloc ?_ _) | (with_reducible refine Fr.drew ?_) | (with_reducible refine Fr.drewN ?_ _) | (with_reducible refine Fr.setCell ?_ _ _ ?_) | (exact Or.inr rfl) | (left; simp; done) | (left; simp; omega) | (simp; done) | (simp; omega) | omega))⟩
      · have e : mayE s = false := by unfold mayE; simp [h3]
        rw [e]
        clear e
        have t1 : decide (s.f1 ≥ 0) = true := decide_eq_true h1
        have t2 : decide (s.f1 ≤ s.f2) = true := decide_eq_true h2
        have t3 : decide (s.f2 ≤ 4611686018427387904) = false := decide_eq_false h3
        go_enter Try.func71, Try.ntmps71
        go_wp2
        go_ret
        exact ⟨rfl, by (repeat' (first | (with_reducible exact Fr.refl _ _) | (with_reducible assumption) | (with_reducible refine Fr.alloc ?_ _) | (with_reducible refine Fr.drew ?_) | (with_reducible refine Fr.drewN ?_ _) | (with_reducible refine Fr.setCell ?_ _ _ ?_) | (exact Or.inr rfl) | (left; simp; done) | (left; simp; omega) | (simp; done) | (simp; omega) | omega))⟩
    · have e : mayE s = false := by unfold mayE; simp [h2]
      rw [e]
      clear e
      have t1 : decide (s.f1 ≥ 0) = true := decide_eq_true h1
      have t2 : decide (s.f1 ≤ s.f2) = false := decide_eq_false h2
      go_enter Try.func71, Try.ntmps71
      go_wp2
      go_ret
      exact ⟨rfl, by (repeat' (first | (with_reducible exact Fr.refl _ _) | (with_reducible assumption) | (with_reducible refine Fr.alloc ?_ _) | (with_reducible refine Fr.drew ?_) | (with_reducible refine Fr.drewN ?_ _) | (with_reducible refine Fr.setCell ?_ _ _ ?_) | (exact Or.inr rfl) | (left; simp; done) | (left; simp; omega) | (simp; done) | (simp; omega) | omega))⟩
  · have e : mayE s = false := by unfold mayE; simp [h1]
    rw [e]
    clear e
    have t1 : decide (s.f1 ≥ 0) = false := decide_eq_false h1
    go_enter Try.func71, Try.ntmps71
    go_wp2
    go_ret
    exact ⟨rfl, by (repeat' (first | (with_reducible exact Fr.refl _ _) | (with_reducible assumption) | (with_reducible refine Fr.alloc ?_ _) | (with_reducible refine Fr.drew ?_) | (with_reducible refine Fr.drewN ?_ _) | (with_reducible refine Fr.setCell ?_ _ _ ?_) | (exact Or.inr rfl) | (left; simp; done) | (left; simp; omega) | (simp; done) | (simp; omega) | omega))⟩
theorem bad_at (s : S24) (W : World) : Calls Try.prog 70 #[vS s] W fun e w' => e = .returned (.bool (!mayE s)) ∧ Fr (fun _ => False) W w' := by
  obtain ⟨q, hq⟩ : ∃ q, q = mayE s := ⟨_, rfl⟩
  have HM : Hid (∀ W, Calls Try.prog 71 #[vS s] W fun e w' => e = .returned (.bool q) ∧ Fr (fun _ => False) W w') := hidE (by rw [hq]; exact may_at s)
  rw [← hq]
  clear hq
  go_enter Try.func70, Try.ntmps70
  go_wp2_with fail
  generalize hW : World.alloc W _ = W1
  have f0 : Fr (fun _ => False) W W1 := by subst hW; (repeat' (first | (with_reducible exact Fr.refl _ _) | (with_reducible assumption) | (with_reducible refine Fr.alloc ?_ _) | (with_reducible refine Fr.drew ?_) | (with_reducible refine Fr.drewN ?_ _) | (with_reducible refine Fr.setCell ?_ _ _ ?_) | (exact Or.inr rfl) | (left; simp; done) | (left; simp; omega) | (simp; done) | (simp; omega) | omega))
  clear hW
  refine (HM.out _).mono ?_
  rintro e w2 ⟨rfl, k2⟩
  go_wp2
  go_ret
  exact ⟨rfl, f0.trans k2 (fun _ _ h => h)⟩
section
open Go.Shelf
shelf_lay_g SlLaysH0.n8 Slgf 8 at Try 69 as Ytapagoaoglmegaa.ctf
end
end Go.Proofs.Ytapagoaoglmegaa
