/- What the tags of both sides tell, in the words that the law's walk uses. -/
import Derived.Test.YtnphjhignhmhaaaMacRefTag
import Derived.Test.YtnphjhignhmhaaaMacWakes2
namespace Go.Proofs.Ytnphjhignhmhaaa
open Go.RowKit Go.Proofs.YtnphjhignhmhaaaW.PrintWords Go.Proofs.YtnphjhignhmhaaaW.PrintLast Go.Proofs.YtnphjhignhmhaaaW.PrintMore
set_option linter.unusedVariables false
set_option linter.unusedSimpArgs false

/-- An address at which a cell of a row lies is no place inside a cell. -/
theorem spot_none {w : World} {ad : Addr} {v : Value} (h : w.cell? ad = some v) : ∃ r off, ad = ⟨r, off, none⟩ := by
  obtain ⟨r, off, spot⟩ := ad
  cases spot with
  | none => exact ⟨r, off, rfl⟩
  | some s => simp only [World.cell?] at h; split at h <;> simp_all
theorem add_zero' (ad : Addr) : ad.add 0 = ad := by unfold Addr.add; simp
theorem Byt0.of_C {w : World} {A : Option Addr} {c : Nat} {l : List Int} (h : Kd.C (Kd.int .u8) w A l.length l) (hc : l.length ≤ c) (hb : ∀ x ∈ l, Byte x) : Byt0 w (.slice A l.length c) l := by
  refine ⟨A, c, rfl, hc, by unfold maxLen; exact h.2.1, hb, ?_⟩
  by_cases h0 : l = []
  · exact .inl h0
  · have hpos : 0 < l.length := List.length_pos_iff.2 h0
    obtain ⟨ad, rfl, hq⟩ := Kd.at_int h 0 (by omega) (by omega)
    rw [show (0 : Int).toNat = 0 from rfl, add_zero'] at hq
    obtain ⟨r, off, rfl⟩ := spot_none hq
    refine .inr ⟨r, off, rfl, World.block_lt_of_cell? w _ hq, fun i x hi => ?_⟩
    have hil := (List.getElem?_eq_some_iff.1 hi).1
    obtain ⟨ad, e, hz⟩ := Kd.at_int h (i : Int) (by omega) (by omega)
    obtain rfl := Option.some.inj e
    have e1 : rd l (i : Int) = x := by unfold rd; simp [hi]
    rw [e1, Int.toNat_natCast] at hz
    have e2 : (⟨r, off, none⟩ : Addr).add i = ⟨r, off + i, none⟩ := by unfold Addr.add; split <;> simp_all
    rwa [e2] at hz
theorem Parts0.of_C {w : World} {A : Option Addr} {c : Nat} {ls : List (List Int)} (h : Kd.C (Kd.slice 5 (Kd.int .u8)) w A ls.length ls) (hc : ls.length ≤ c) (hb : ∀ l ∈ ls, ∀ x ∈ l, Byte x) : Parts0 w (.slice A ls.length c) ls := by
  refine ⟨A, c, rfl, hc, by unfold maxLen; exact h.2.1, ?_⟩
  by_cases h0 : ls = []
  · exact .inl h0
  · have hpos : 0 < ls.length := List.length_pos_iff.2 h0
    have key : ∀ (i : Nat) (l : List Int), ls[i]? = some l → ∃ ad u, A = some ad ∧ w.cell? (ad.add i) = some u ∧ Byt0 w u l := by
      intro i l hi
      have hil := (List.getElem?_eq_some_iff.1 hi).1
      obtain ⟨ad, cs, e, _, ⟨A0, c0, hcs, l0, g0⟩, hq⟩ := Kd.C_get h ([] : List Int) (i : Int) (by omega) (by omega)
      have e1 : ls.getD (i : Int).toNat [] = l := by simp [hi]
      rw [e1] at hcs l0 g0
      subst hcs
      have hz := hq 0 _ rfl
      rw [Int.toNat_natCast, show (Kd.slice 5 (Kd.int .u8)).sz = 1 from rfl, Nat.mul_one, Nat.add_zero] at hz
      exact ⟨ad, _, e, hz, Byt0.of_C g0 l0 (hb l (List.mem_of_getElem? hi))⟩
    obtain ⟨ad, u, rfl, hz, _⟩ := key 0 ls[0] (by simp [hpos])
    rw [add_zero'] at hz
    obtain ⟨r, off, rfl⟩ := spot_none hz
    refine .inr ⟨r, off, rfl, World.block_lt_of_cell? w _ hz, fun i l hi => ?_⟩
    obtain ⟨ad, u, e, hq, hy⟩ := key i l hi
    obtain rfl := Option.some.inj e
    have e2 : (⟨r, off, none⟩ : Addr).add i = ⟨r, off + i, none⟩ := by unfold Addr.add; split <;> simp_all
    rw [e2] at hq
    exact ⟨u, hq, hy⟩
theorem right_at0 {w : World} {k a b t : Int} {v : Value} {ls : List (List Int)} (hp : Parts0 w v ls) (hs : ls.flatten.length ≤ 4611686018427387904) :
    Calls Try.prog 11 #[.agg #[.int .u32 k, .int .u64 a, .int .u64 b], .int .u64 t, v] w fun e w' => e = .returned (.bool (tagOf a b ls.flatten == t)) ∧ Fr (fun _ => False) w w' := by
  go_enter Try.func11, Try.ntmps11
  go_wp2_with fail
  generalize hW : World.alloc w _ = W
  have k0 : Fr (fun _ => False) w W := by subst hW; (repeat' (first | (with_reducible exact Fr.refl _ _) | (with_reducible assumption) | (with_reducible refine Fr.alloc ?_ _) | (with_reducible refine Fr.drew ?_) | (with_reducible refine Fr.drewN ?_ _) | (with_reducible refine Fr.setCell ?_ _ _ ?_) | (exact Or.inr rfl) | (left; simp; done) | (left; simp; omega) | (simp; done) | (simp; omega) | omega))
  clear hW
  refine (tag_at0 (hp.fr k0 (fun _ _ h => h)) hs).mono ?_
  rintro e w1 ⟨rfl, k1⟩
  go_wp2
  go_ret
  exact ⟨rfl, k0.trans k1 (fun _ _ h => h)⟩

namespace PTg
/-- Parts of bytes, not too many. -/
def Good (ls : List (List Int)) : Prop := (∀ l ∈ ls, ∀ x ∈ l, Byte x) ∧ ls.flatten.length ≤ 4611686018427387904
instance (c : Int) : Decidable (Byte c) := by unfold Byte; infer_instance
instance (ls : List (List Int)) : Decidable (Good ls) := by unfold Good; infer_instance
def mac_Tag.f (a0_0 a0_1 a0_2 : Int) (l1 : List (List Int)) : Option Int := if Good l1 then some (tagOf a0_1 a0_2 l1.flatten) else none
def mac_Right.f (a0_0 a0_1 a0_2 a1 : Int) (l2 : List (List Int)) : Option Bool := if Good l2 then some (tagOf a0_1 a0_2 l2.flatten == a1) else none
def GoodB (l : List Int) : Prop := (∀ x ∈ l, Byte x) ∧ l.length < 17592186044415
instance (l : List Int) : Decidable (GoodB l) := by unfold GoodB; infer_instance
def ephemerisref06_Tag.f (a0_0 a0_1 a0_2 : Int) (l1 : List Int) : Option Int := if GoodB l1 then some (tagOf a0_1 a0_2 l1) else none
def ephemerislaw06_wakes.f : Option Bool := some true
theorem ite_some {α : Type} {p : Prop} {d : Decidable p} {x r : α} (h : @ite _ p d (some x) none = some r) : p ∧ x = r := by
  by_cases hp : p
  · rw [if_pos hp] at h; exact ⟨hp, Option.some.inj h⟩
  · rw [if_neg hp] at h; cases h
theorem mac_Tag.calls (a0_0 : Int) (a0_1 : Int) (a0_2 : Int) (A1 : Option Addr) (c1 : Nat) (l1 : List (List Int)) (r : Int) (w : World) (hr1 : Kd.C (Kd.slice 5 (Kd.int .u8)) w A1 l1.length l1) (hc1 : l1.length ≤ c1) (h : mac_Tag.f a0_0 a0_1 a0_2 l1 = some r) :
    Calls Try.prog 10 #[.agg #[.int .u32 a0_0, .int .u64 a0_1, .int .u64 a0_2], .slice A1 l1.length c1] w fun e w' => e = .returned (.int .u64 r) ∧ Below w.heap.size w w' := by
  obtain ⟨hg, rfl⟩ := ite_some h
  exact (tag_at0 (Parts0.of_C hr1 hc1 hg.1) hg.2).mono fun _ _ q => ⟨q.1, q.2.below⟩
theorem mac_Right.calls (a0_0 : Int) (a0_1 : Int) (a0_2 : Int) (a1 : Int) (A2 : Option Addr) (c2 : Nat) (l2 : List (List Int)) (r : Bool) (w : World) (hr2 : Kd.C (Kd.slice 5 (Kd.int .u8)) w A2 l2.length l2) (hc2 : l2.length ≤ c2) (h : mac_Right.f a0_0 a0_1 a0_2 a1 l2 = some r) :
    Calls Try.prog 11 #[.agg #[.int .u32 a0_0, .int .u64 a0_1, .int .u64 a0_2], .int .u64 a1, .slice A2 l2.length c2] w fun e w' => e = .returned (.bool r) ∧ Below w.heap.size w w' := by
  obtain ⟨hg, rfl⟩ := ite_some h
  exact (right_at0 (Parts0.of_C hr2 hc2 hg.1) hg.2).mono fun _ _ q => ⟨q.1, q.2.below⟩
theorem ephemerisref06_Tag.calls (a0_0 : Int) (a0_1 : Int) (a0_2 : Int) (A1 : Option Addr) (c1 : Nat) (l1 : List Int) (r : Int) (w : World) (hr1 : Kd.C (Kd.int .u8) w A1 l1.length l1) (hc1 : l1.length ≤ c1) (h : ephemerisref06_Tag.f a0_0 a0_1 a0_2 l1 = some r) :
    Calls Try.prog 8 #[.agg #[.int .u32 a0_0, .int .u64 a0_1, .int .u64 a0_2], .slice A1 l1.length c1] w fun e w' => e = .returned (.int .u64 r) ∧ Below w.heap.size w w' := by
  obtain ⟨hg, rfl⟩ := ite_some h
  exact (rtag_at hr1 hc1 hg.1 hg.2).mono fun _ _ q => ⟨q.1, q.2.below⟩
theorem ephemerislaw06_wakes.calls (r : Bool) (w : World) (h : ephemerislaw06_wakes.f = some r) :
    Calls Try.prog 12 #[] w fun e w' => e = .returned (.bool r) ∧ Below w.heap.size w w' := by
  obtain rfl := Option.some.inj h
  exact (wakes_at w).mono fun _ _ q => ⟨q.1, q.2.below⟩
end PTg
end Go.Proofs.Ytnphjhignhmhaaa
