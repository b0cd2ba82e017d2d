/- awake: the document's examples of the counter. -/
import Derived.Test.YtcaghpdmjggdbaaCountRead
namespace Go.Proofs.Ytcaghpdmjggdbaa
open Go.RowKit
set_option linter.unusedVariables false
set_option linter.unusedSimpArgs false
theorem m8 : (18446744073709551615 : Int) / 2 ^ ((64 : Int) - 8).toNat = 255 := by decide
theorem e1 : bits .and .u64 (IntKind.u64.wrap (255 - 250)) 255 = 5 := by decide
theorem e2 : bits .and .u64 (IntKind.u64.wrap (4 - 255)) 255 = 5 := by decide
theorem At.gone {w0 : World} {b : Nat} (h : w0.heap.size ≤ b) : ∀ i, i < w0.heap.size → At b i → False := fun i hi h' => by simp [At] at h'; omega
set_option maxHeartbeats 1000000 in
theorem awake_true (w : World) : Calls Try.prog 9 #[] w fun e w' => e = .returned (.bool true) ∧ Fr (fun _ => False) w w' := by
  go_enter Try.func9, Try.ntmps9
  go_wp2_with fail
  refine (new_ok 8 250 _ (by omega) (by omega) (by decide)).mono ?_
  rintro e w1 ⟨rfl, h1, k1⟩
  rw [m8] at h1
  go_wp2_with fail
  refine (read_ok (r := 255) h1 (by omega) (by omega) (by omega) (by decide) (by decide)).mono ?_
  rintro e w2 ⟨rfl, h2, k2⟩
  rw [e1] at h2 ⊢
  go_wp2_with fail
  refine (read_ok (r := 4) h2 (by omega) (by omega) (by omega) (by decide) (by decide)).mono ?_
  rintro e w3 ⟨rfl, h3, k3⟩
  rw [e2] at h3 ⊢
  go_wp2_with fail
  refine (read_arg (r := 256) h3 (by omega)).mono ?_
  rintro e w4 ⟨rfl, h4, k4⟩
  have hk : Fr (fun _ => False) w w4 := ((k1.trans k2 (At.gone (Nat.le_refl _))).trans k3 (At.gone (Nat.le_refl _))).trans k4 (At.gone (Nat.le_refl _))
  clear k1 k2 k3 k4 h1 h2 h3
  go_wp2_with (first
    | (go_at_call 8; refine (total_at h4).mono ?_; rintro e w' ⟨rfl, rfl⟩)
    | (go_at_call 10; refine (last_at h4).mono ?_; rintro e w' ⟨rfl, rfl⟩))
  go_ret
  exact ⟨rfl, hk⟩
end Go.Proofs.Ytcaghpdmjggdbaa
