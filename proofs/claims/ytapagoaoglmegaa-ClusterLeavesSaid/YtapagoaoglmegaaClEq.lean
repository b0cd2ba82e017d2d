/- slices.Equal of candidates that are the same; a slice that is told, as it reads later. -/
import Derived.Test.YtapagoaoglmegaaClLeavesP
namespace Go.Proofs.Ytapagoaoglmegaa
open Go.RowKit Go.Proofs.YtapagoaoglmegaaW.PrintWords Go.Proofs.YtapagoaoglmegaaW.PrintLast Go.Proofs.YtapagoaoglmegaaW.PrintMore PCl
set_option linter.unusedVariables false
set_option linter.unusedSimpArgs false
set_option maxRecDepth 100000
theorem R_C {w : World} {base : Nat} {ok : Nat → Prop} {v : Value} {xs : List S27} (h : Kd.R k27 27 w base ok v xs) :
    ∃ A c, v = .slice A xs.length c ∧ xs.length ≤ c ∧ ∀ W, Fr (fun _ => False) w W → Kd.C k27 W A xs.length xs := by
  rcases Row.of_R h with ⟨rfl, rfl⟩ | ⟨g, cap, rfl, hg, hm, hr⟩
  · exact ⟨none, 0, rfl, Nat.le_refl _, fun W k => ⟨rfl, by simp, fun h => absurd h (by simp)⟩⟩
  · exact ⟨_, cap, rfl, hr.len, fun W k => (hr.fr k (fun h => h)).toC hm⟩
set_option maxHeartbeats 4000000 in
theorem ceq_at {w : World} {A1 A2 : Option Addr} {c1 c2 : Nat} {L : List S27} (h1 : Kd.C k27 w A1 L.length L) (h2 : Kd.C k27 w A2 L.length L) :
    Calls Try.prog 27 #[.slice A1 L.length c1, .slice A2 L.length c2] w fun e w' => e = .returned (.bool true) ∧ Fr (fun _ => False) w w' := by
  have hlb := C27_nil h1
  have H1 := hid h1
  have H2 := hid h2
  clear h1 h2
  go_enter Try.func27, Try.ntmps27
  go_wp2_with fail
  go_loopw [5, 13] (fun v5 v13 wr => ∃ i : Nat, i ≤ L.length ∧ v13 = .int .i64 (i : Int) ∧ Fr (fun _ => False) w wr) (fun _ v13 _ => L.length - (intOf v13).toNat)
  case atStart => exact ⟨0, Nat.zero_le _, rfl, Fr.refl _ _⟩
  case round =>
    obtain ⟨wo, rfl⟩ : ∃ wo : World, wo = wr := ⟨_, rfl⟩
    obtain ⟨i, hi, rfl, hf⟩ := hrel
    by_cases hlt : i < L.length
    · obtain ⟨r1, off1, rfl, hr1, hat1⟩ := C27_open H1.out (by omega)
      obtain ⟨r2, off2, rfl, hr2, hat2⟩ := C27_open H2.out (by omega)
      obtain ⟨s, hs⟩ : ∃ s, L[i]? = some s := ⟨_, List.getElem?_eq_getElem hlt⟩
      obtain ⟨a0, a1, a2, a3, a4⟩ := (hat1 i s hs).fr hf (fun h => h)
      obtain ⟨b0, b1, b2, b3, b4⟩ := (hat2 i s hs).fr hf (fun h => h)
      have l1 : (i : Int) < (L.length : Int) := by omega
      clear hat1 hat2 hs
      go_wp2_with fail
      go_quiet (fail)
      go_wp2_with fail
      go_roundw
      case rel => exact ⟨i + 1, by omega, by go_num, hf.trans (by (repeat' (first | (with_reducible exact Fr.refl _ _) | (with_reducible assumption) | (with_reducible refine Fr.alloc ?_ _) | (with_reducible refine Fr.drew ?_) | (with_reducible refine Fr.drewN ?_ _) | (with_reducible refine Fr.setCell ?_ _ _ ?_) | (exact Or.inr rfl) | (left; simp; done) | (left; simp; omega) | (simp; done) | (simp; omega) | omega))) (fun _ _ h => h)⟩
      case measure => simp [intOf]; omega
    · obtain rfl : i = L.length := by omega
      clear hlt
      go_wp2_with fail
      go_ret
      exact ⟨rfl, hf⟩
end Go.Proofs.Ytapagoaoglmegaa
