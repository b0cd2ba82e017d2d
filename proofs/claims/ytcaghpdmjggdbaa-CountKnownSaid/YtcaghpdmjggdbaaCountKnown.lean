/- CountKnown: the document's examples; ends; none. -/
import Derived.Test.YtcaghpdmjggdbaaCountAwake
namespace Go.Proofs.Ytcaghpdmjggdbaa
open Go.RowKit
set_option linter.unusedVariables false
set_option linter.unusedSimpArgs false
theorem m64 : (18446744073709551615 : Int) / 2 ^ ((64 : Int) - 64).toNat = 18446744073709551615 := by decide
theorem e3 : bits .and .u64 (IntKind.u64.wrap (0 - 18446744073709551615)) 18446744073709551615 = 1 := by decide
theorem e4 : bits .and .u64 (IntKind.u64.wrap (0 - 0)) 18446744073709551615 = 0 := by decide
set_option maxHeartbeats 1000000 in
theorem countKnown_walk (w : World) : Calls Try.prog 5 #[] w fun e w' => e = .returned (.bool true) ∧ Fr (fun _ => False) w w' := by
  go_enter Try.func5, Try.ntmps5
  go_wp2_with fail
  refine (new_bad 7 0 _ (by omega)).mono ?_
  rintro e w' ⟨rfl, rfl⟩
  go_wp2_with fail
  refine (new_bad 65 0 _ (by omega)).mono ?_
  rintro e w' ⟨rfl, rfl⟩
  go_wp2_with fail
  refine (new_big 8 256 _ (by omega) (by omega) (by decide)).mono ?_
  rintro e w' ⟨rfl, rfl⟩
  go_wp2_with fail
  refine (new_ok 64 18446744073709551615 _ (by omega) (by omega) (by decide)).mono ?_
  rintro e w1 ⟨rfl, h1, k1⟩
  rw [m64] at h1
  go_wp2_with fail
  refine (read_ok (r := 0) h1 (by omega) (by omega) (by omega) (by decide) (by decide)).mono ?_
  rintro e w2 ⟨rfl, h2, k2⟩
  rw [e3] at h2 ⊢
  go_wp2_with fail
  refine (read_ok (r := 0) h2 (by omega) (by omega) (by omega) (by decide) (by decide)).mono ?_
  rintro e w3 ⟨rfl, h3, k3⟩
  rw [e4] at h3 ⊢
  have hk : Fr (fun _ => False) w w3 := (k1.trans k2 (At.gone (Nat.le_refl _))).trans k3 (At.gone (Nat.le_refl _))
  clear k1 k2 k3 h1 h2 h3
  go_wp2_with fail
  refine (read_nil _ _).mono ?_
  rintro e w4 ⟨rfl, k4⟩
  go_wp2_with fail
  refine (awake_true _).mono ?_
  rintro e w5 ⟨rfl, k5⟩
  have hk' : Fr (fun _ => False) w w5 := (hk.trans k4 (fun _ _ h => h)).trans k5 (fun _ _ h => h)
  clear hk k4 k5
  go_wp2_with (first
    | (go_at_call 8; refine total_nil.mono ?_; rintro e w' ⟨rfl, rfl⟩)
    | (go_at_call 10; refine last_nil.mono ?_; rintro e w' ⟨rfl, rfl⟩)
    | (go_at_call 11; refine full_nil.mono ?_; rintro e w' ⟨rfl, rfl⟩)
    | (go_at_call 12; refine copy_nil.mono ?_; rintro e w' ⟨rfl, rfl⟩))
  go_ret
  exact ⟨rfl, hk'⟩
end Go.Proofs.Ytcaghpdmjggdbaa
