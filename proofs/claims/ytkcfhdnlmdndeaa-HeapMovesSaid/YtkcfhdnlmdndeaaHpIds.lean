/- ids and slices.Equal of a heap's rows; a mask of a whole number. -/
import Derived.Test.YtkcfhdnlmdndeaaHpAwake
import Derived.Test.YtkcfhdnlmdndeaaHpShift
import Derived.Test.YtkcfhdnlmdndeaaPHpx3
import Derived.Test.YtkcfhdnlmdndeaaPHpx2
namespace Go.Proofs.Ytkcfhdnlmdndeaa
open Go.RowKit Go.Proofs.YtkcfhdnlmdndeaaW.PrintWords Go.Proofs.YtkcfhdnlmdndeaaW.PrintLast Go.Proofs.YtkcfhdnlmdndeaaW.PrintMore PHp
set_option linter.unusedVariables false
set_option linter.unusedSimpArgs false
theorem rd24_nth (L : List It) (i : Nat) : rd_T24 L (i : Int) = nth L i := by
  unfold rd_T24 nth; rw [Int.toNat_natCast, List.getD_eq_getElem?_getD]; rfl
theorem ids_l0 {L : List It} (hl : L.length ≤ 1048576) : ∀ (d i k : Nat), i ≤ L.length → L.length - i = d → d < k → ephemerislaw13_ids.l0 k ((L.take i).map (·.f0)) L (L.length : Int) (i : Int) = some (L.map (·.f0))
  | 0, i, k, hi, hd, hk => by
    obtain ⟨k, rfl⟩ : ∃ m, k = m + 1 := ⟨k - 1, by omega⟩
    simp only [ephemerislaw13_ids.l0]
    rw [if_neg (by omega), List.take_of_length_le (by omega)]
  | d + 1, i, k, hi, hd, hk => by
    obtain ⟨k, rfl⟩ : ∃ m, k = m + 1 := ⟨k - 1, by omega⟩
    simp only [ephemerislaw13_ids.l0]
    rw [if_pos (by omega), if_pos (by omega), if_pos (by omega), if_pos (by simp; omega), rd24_nth]
    have e : wrap64 ((i : Int) + 1) = ((i + 1 : Nat) : Int) := by unfold wrap64; omega
    have hn := nth_some (l := L) (i := i) (by omega)
    have := ids_l0 hl d (i + 1) k (by omega) (by omega) (by omega)
    rw [take_snoc hn, List.map_append] at this
    rw [e]
    exact this
theorem ids_f {L : List It} (hl : L.length ≤ 1048576) : ephemerislaw13_ids.f (L.length + 1) L = some (L.map (·.f0)) := by
  have := ids_l0 hl L.length 0 (L.length + 1) (by omega) (by omega) (by omega)
  unfold ephemerislaw13_ids.f
  simpa using this
theorem equal_l0 {l : List Int} (hl : l.length ≤ 1048576) : ∀ (d i k : Nat), i ≤ l.length → l.length - i = d → d < k → slices_Equal_uint64_uint64.l0 k l l (l.length : Int) (i : Int) = some true
  | 0, i, k, hi, hd, hk => by
    obtain ⟨k, rfl⟩ : ∃ m, k = m + 1 := ⟨k - 1, by omega⟩
    simp only [slices_Equal_uint64_uint64.l0]
    rw [if_neg (by omega)]
  | d + 1, i, k, hi, hd, hk => by
    obtain ⟨k, rfl⟩ : ∃ m, k = m + 1 := ⟨k - 1, by omega⟩
    simp only [slices_Equal_uint64_uint64.l0]
    have e : wrap64 ((i : Int) + 1) = ((i + 1 : Nat) : Int) := by unfold wrap64; omega
    rw [if_pos (by omega), if_pos (by omega), if_pos (by omega), if_pos (by omega), if_pos trivial, e]
    exact equal_l0 hl d (i + 1) k (by omega) (by omega) (by omega)
theorem equal_f {l : List Int} (hl : l.length ≤ 1048576) : slices_Equal_uint64_uint64.f (l.length + 1) l l = some true := by
  unfold slices_Equal_uint64_uint64.f
  rw [if_pos rfl]
  exact equal_l0 hl l.length 0 _ (by omega) (by omega) (by omega)
/-- A slice of whole numbers of the call's own, opened. -/
theorem RU_open {w : World} {base : Nat} {v : Value} {l : List Int} (h : Kd.R (Kd.int .u64) 22 w base (fun _ => True) v l) : ∃ A cap, v = .slice A l.length cap ∧ l.length ≤ cap ∧ Kd.C (Kd.int .u64) w A l.length l := by
  obtain ⟨A, c, rfl⟩ := Kd.R_slice h
  have := Kd.R_reads' h
  exact ⟨A, c, rfl, this.2.1, this.2.2⟩
theorem ids_at {w : World} {A : Option Addr} {c : Nat} {L : List It} (hC : Kd.C k24 w A L.length L) (hc : L.length ≤ c) (hl : L.length ≤ 1048576) :
    Calls Try.prog 21 #[.slice A L.length c] w fun e w' => ∃ A' c', e = .returned (.slice A' L.length c') ∧ L.length ≤ c' ∧ Kd.C (Kd.int .u64) w' A' L.length (L.map (·.f0)) ∧ Fr (fun _ => False) w w' := by
  refine (ephemerislaw13_ids.calls (L.length + 1) A c L _ w hC hc (ids_f hl)).mono ?_
  rintro e w' ⟨v, rfl, hr, hb⟩
  obtain ⟨A', c', rfl, h1, h2⟩ := RU_open hr
  simp only [List.length_map] at h1 h2 ⊢
  exact ⟨A', c', rfl, h1, h2, Fr.of_below hb (Nat.le_refl _) _⟩
theorem drawn_fr {w w' : World} (h : Drawn0 w w') : Fr (fun _ => False) w w' := by
  obtain ⟨n, rfl⟩ := h.out
  exact (Fr.refl _ _).drewN n
theorem equal_at {w : World} {A B : Option Addr} {c d n : Nat} {l : List Int} (h1 : Kd.C (Kd.int .u64) w A n l) (h2 : Kd.C (Kd.int .u64) w B n l) (hn : n = l.length) (hc : n ≤ c) (hd : n ≤ d) (hl : n ≤ 1048576) :
    Calls Try.prog 20 #[.slice A n c, .slice B n d] w fun e w' => e = .returned (.bool true) ∧ Fr (fun _ => False) w w' := by
  subst hn
  exact (slices_Equal_uint64_uint64.calls (l.length + 1) A c l B d l true w h1 hc h2 hd (equal_f hl)).mono fun _ _ q => ⟨q.1, drawn_fr q.2⟩
end Go.Proofs.Ytkcfhdnlmdndeaa
