/- The two rows are held against each other. -/
import Derived.Test.YtkcfhdnlmdndeaaRfCopy
namespace Go.Proofs.Ytkcfhdnlmdndeaa
open Go.RowKit Go.Proofs.YtkcfhdnlmdndeaaW.PrintWords Go.Proofs.YtkcfhdnlmdndeaaW.PrintLast Go.Proofs.YtkcfhdnlmdndeaaW.PrintMore PHp
set_option linter.unusedVariables false
set_option linter.unusedSimpArgs false
set_option maxRecDepth 100000
theorem drawn_fr0 {w w' : World} (h : Drawn0 w w') : Fr (fun _ => False) w w' := by
  obtain ⟨n, rfl⟩ := h.out
  exact (Fr.refl _ _).drewN n
def s50 (c : It) : S50 := ⟨c.f0, c.f1, c.f2⟩
theorem Row.toC50 {t : TypeId} {w : World} {g cap : Nat} {L : List It} (h : Row t w g cap L) (hm : cap ≤ maxLen) : Kd.C k50 w (some ⟨g, 0, none⟩) L.length (L.map s50) := by
  refine ⟨by simp, by have := h.len; unfold maxLen at hm; omega, fun _ => ⟨_, rfl, fun j p hj => ?_⟩⟩
  rw [List.getElem?_map] at hj
  obtain ⟨c, hc, rfl⟩ := Option.map_eq_some_iff.1 hj
  refine ⟨encI c, rfl, k50_mk w (s50 c), fun i u hi => ?_⟩
  obtain ⟨cur, hb, h1, h2, h3⟩ := h
  rw [add_none, Nat.zero_add]
  exact (hb.cell _).trans (h3 j c hc i u hi)
theorem RH.C50 {w : World} {g : Nat} {v : Value} {L : List It} {size : Int} (h : RH w g v L size) : ∃ A cap, v = .slice A L.length cap ∧ L.length ≤ cap ∧ Kd.C k50 w A L.length (L.map s50) := by
  rcases h.form with ⟨rfl, rfl⟩ | ⟨r, cap, rfl, hr⟩
  · exact ⟨none, 0, rfl, Nat.le_refl _, ⟨rfl, by simp, fun h => absurd h (by simp)⟩⟩
  · exact ⟨_, cap, rfl, hr.row.len, hr.row.toC50 hr.cap⟩
theorem same_l {L : List It} (hL : L.length ≤ 9223372036854775807) : ∀ (k i : Nat), i + k = L.length → ephemerislaw13_same.l0 (k + 1) L (L.map s50) (L.length : Int) (i : Int) = some true
  | 0, i, h => by
    show (if (i : Int) < (L.length : Int) then _ else _) = _
    rw [if_neg (by omega)]
  | k + 1, i, h => by
    have e1 : rd_T24 L (i : Int) = nth L i := by unfold rd_T24 nth; rw [Int.toNat_natCast, List.getD_eq_getElem?_getD]; rfl
    have e2 : rd_T50 (L.map s50) (i : Int) = s50 (nth L i) := by
      unfold rd_T50 nth
      rw [Int.toNat_natCast, List.getD_eq_getElem?_getD, List.getElem?_map, List.getElem?_eq_getElem (by omega)]
      rfl
    show (if (i : Int) < (L.length : Int) then _ else _) = _
    rw [if_pos (by omega), if_pos (by omega), if_pos (by omega), if_pos (by rw [List.length_map]; omega), e1, e2, if_neg (by simp [s50])]
    rw [show wrap64 ((i : Int) + 1) = ((i + 1 : Nat) : Int) from wrapN' (a := i + 1) (by omega)]
    exact same_l hL k (i + 1) (by omega)
theorem same_at {w : World} {A0 A1 : Option Addr} {c0 c1 : Nat} {L : List It} (h0 : Kd.C k24 w A0 L.length L) (hc0 : L.length ≤ c0) (h1 : Kd.C k50 w A1 L.length (L.map s50)) (hc1 : L.length ≤ c1) (hL : L.length ≤ 1048576) :
    Calls Try.prog 32 #[.slice A0 L.length c0, .slice A1 L.length c1] w fun e w' => e = .returned (.bool true) ∧ Fr (fun _ => False) w w' := by
  have hl : (L.map s50).length = L.length := List.length_map _
  have hf : ephemerislaw13_same.f (L.length + 1) L (L.map s50) = some true := by
    unfold ephemerislaw13_same.f
    rw [if_pos (by rw [hl])]
    exact same_l (by omega) L.length 0 (by omega)
  have := ephemerislaw13_same.calls (L.length + 1) A0 c0 L A1 c1 (L.map s50) true w h0 hc0 (by rw [hl]; exact h1) (by rw [hl]; exact hc1) hf
  rw [hl] at this
  refine this.mono ?_
  rintro e w' ⟨rfl, k⟩
  exact ⟨rfl, drawn_fr0 k⟩
end Go.Proofs.Ytkcfhdnlmdndeaa
