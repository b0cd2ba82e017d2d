/- NonceKnown: the chapter's rows; ends; none. -/
import Derived.Test.YtmacilbafoejdaaNonceAlive
namespace Go.Proofs.Ytmacilbafoejdaa
open Go.RowKit
set_option linter.unusedVariables false
set_option linter.unusedSimpArgs false
theorem out_zero {w : World} {b : Nat} (h : Blk w b #[.int .u64 0, .int .i64 0, .int .u64 0, .int .u64 0, .int .u64 0, .int .u64 0, .int .u64 0, .bool false] 52) : Calls Try.prog 16 #[.pointer (some ⟨b, 0, none⟩)] w fun e w' => e = .returned (.tuple #[.int .u64 0, .int .i64 0, .bool false]) ∧ w = w' := by
  go_enter Try.func16, Try.ntmps16
  go_wp2_with fail
  refine (none_zero h).mono ?_
  rintro e w' ⟨rfl, rfl⟩
  go_wp2
  go_ret3
  exact ⟨rfl, rfl⟩
theorem drop_zero {w : World} {b : Nat} (h : Blk w b #[.int .u64 0, .int .i64 0, .int .u64 0, .int .u64 0, .int .u64 0, .int .u64 0, .int .u64 0, .bool false] 52) : Calls Try.prog 14 #[.pointer (some ⟨b, 0, none⟩), .int .i64 9, .int .i64 0] w fun e w' => e = .returned (.bool false) ∧ w = w' := by
  go_enter Try.func14, Try.ntmps14
  go_wp2_with fail
  refine (none_zero h).mono ?_
  rintro e w' ⟨rfl, rfl⟩
  go_wp2
  go_ret
  exact ⟨rfl, rfl⟩
theorem copy_zero {w : World} {b : Nat} (h : Blk w b #[.int .u64 0, .int .i64 0, .int .u64 0, .int .u64 0, .int .u64 0, .int .u64 0, .int .u64 0, .bool false] 52) : Calls Try.prog 10 #[.pointer (some ⟨b, 0, none⟩)] w fun e w' => e = .returned (.pointer none) ∧ w = w' := by
  go_enter Try.func10, Try.ntmps10
  go_wp2_with fail
  refine (none_zero h).mono ?_
  rintro e w' ⟨rfl, rfl⟩
  go_wp2
  go_ret
  exact ⟨rfl, rfl⟩
set_option maxRecDepth 100000 in
set_option maxHeartbeats 2000000 in
theorem nonceKnown_walk (w : World) : Calls Try.prog 6 #[] w fun e w' => e = .returned (.bool true) ∧ Fr (fun _ => False) w w' := by
  go_enter Try.func6, Try.ntmps6
  go_wp2_with fail
  refine take_nil.mono ?_
  rintro e w' ⟨rfl, rfl⟩
  go_wp2_with fail
  generalize hz : World.alloc w _ = wz
  have hZ : Blk wz w.heap.size #[.int .u64 0, .int .i64 0, .int .u64 0, .int .u64 0, .int .u64 0, .int .u64 0, .int .u64 0, .bool false] 52 := by subst hz; (repeat' (first | (with_reducible assumption) | (with_reducible apply Blk.drew) | (with_reducible apply Blk.drewN) | (with_reducible apply Blk.set) | (with_reducible apply Blk.other) | (exact Blk.new' _ _ _ (by first | rfl | (simp; done) | (simp; omega))) | (with_reducible apply Blk.alloc) | (with_reducible rfl) | (simp; done) | (simp; omega) | omega | rfl))
  have kz : Fr (fun _ => False) w wz := by subst hz; (repeat' (first | (with_reducible exact Fr.refl _ _) | (with_reducible assumption) | (with_reducible refine Fr.alloc ?_ _) | (with_reducible refine Fr.drew ?_) | (with_reducible refine Fr.drewN ?_ _) | (with_reducible refine Fr.setCell ?_ _ _ ?_) | (exact Or.inr rfl) | (left; simp; done) | (left; simp; omega) | (simp; done) | (simp; omega) | omega))
  clear hz
  refine (out_zero hZ).mono ?_
  rintro e w' ⟨rfl, rfl⟩
  go_wp2_with fail
  refine ask_nil.mono ?_
  rintro e w' ⟨rfl, rfl⟩
  go_wp2_with fail
  refine (drop_zero hZ).mono ?_
  rintro e w' ⟨rfl, rfl⟩
  go_wp2_with fail
  refine (copy_zero hZ).mono ?_
  rintro e w' ⟨rfl, rfl⟩
  go_wp2_with fail
  refine (new_at _).mono ?_
  rintro e w0 ⟨rfl, h0, k0⟩
  have hsz : w.heap.size ≤ wz.heap.size := kz.size
  have h0 : Bk w0 wz.heap.size ⟨0, 0, 0, 0, 0, 0, 0⟩ := h0
  have k0 : Fr (fun _ => False) w w0 := kz.trans k0 (fun _ _ h => h)
  clear hZ kz
  go_wp2_with fail
  refine (ask_at (n := 0) (raw := 1) h0).mono ?_
  rw [show BS.askE ⟨0, 0, 0, 0, 0, 0, 0⟩ 0 1 = 1 from by decide, show BS.askS ⟨0, 0, 0, 0, 0, 0, 0⟩ 0 1 = ⟨0, 0, 0, 0, 0, 0, 0⟩ from by decide]
  rintro e w1 ⟨rfl, h1, k1⟩
  go_wp2_with fail
  refine (ask_at (n := 1) (raw := (-1)) h1).mono ?_
  rw [show BS.askE ⟨0, 0, 0, 0, 0, 0, 0⟩ 1 (-1) = 1 from by decide, show BS.askS ⟨0, 0, 0, 0, 0, 0, 0⟩ 1 (-1) = ⟨0, 0, 0, 0, 0, 0, 0⟩ from by decide]
  rintro e w2 ⟨rfl, h2, k2⟩
  go_wp2_with fail
  refine (ask_at (n := 1) (raw := 4611686018427387905) h2).mono ?_
  rw [show BS.askE ⟨0, 0, 0, 0, 0, 0, 0⟩ 1 4611686018427387905 = 1 from by decide, show BS.askS ⟨0, 0, 0, 0, 0, 0, 0⟩ 1 4611686018427387905 = ⟨0, 0, 0, 0, 0, 0, 0⟩ from by decide]
  rintro e w3 ⟨rfl, h3, k3⟩
  go_wp2_with fail
  refine (take_at (n := 0) h3).mono ?_
  rw [show BS.takeV ⟨0, 0, 0, 0, 0, 0, 0⟩ 0 = 0 from by decide, show BS.known ⟨0, 0, 0, 0, 0, 0, 0⟩ 0 = 30 from by decide, show BS.takeS ⟨0, 0, 0, 0, 0, 0, 0⟩ 0 = ⟨0, 0, 0, 0, 0, 0, 0⟩ from by decide]
  rintro e w4 ⟨rfl, h4, k4⟩
  go_wp2_with fail
  refine (drop_at (raw := 4611686018427387904) (most := 0) h4 (by unfold BS.ok; decide) (by omega) (by omega)).mono ?_
  rw [show BS.dropB ⟨0, 0, 0, 0, 0, 0, 0⟩ 4611686018427387904 0 = false from by decide, show BS.dropS ⟨0, 0, 0, 0, 0, 0, 0⟩ 4611686018427387904 0 = ⟨0, 0, 0, 0, 0, 0, 0⟩ from by decide]
  rintro e w5 ⟨rfl, h5, k5⟩
  go_wp2_with fail
  refine (ask_at (n := 1) (raw := 4611686018427387904) h5).mono ?_
  rw [show BS.askE ⟨0, 0, 0, 0, 0, 0, 0⟩ 1 4611686018427387904 = 0 from by decide, show BS.askS ⟨0, 0, 0, 0, 0, 0, 0⟩ 1 4611686018427387904 = ⟨1, 4611686018427387904, 0, 0, 0, 0, 0⟩ from by decide]
  rintro e w6 ⟨rfl, h6, k6⟩
  go_wp2_with fail
  refine (drop_at (raw := 4611686018427387904) (most := 0) h6 (by unfold BS.ok; decide) (by omega) (by omega)).mono ?_
  rw [show BS.dropB ⟨1, 4611686018427387904, 0, 0, 0, 0, 0⟩ 4611686018427387904 0 = false from by decide, show BS.dropS ⟨1, 4611686018427387904, 0, 0, 0, 0, 0⟩ 4611686018427387904 0 = ⟨1, 4611686018427387904, 0, 0, 0, 0, 0⟩ from by decide]
  rintro e w7 ⟨rfl, h7, k7⟩
  go_wp2_with fail
  refine (drop_at (raw := (-5)) (most := 0) h7 (by unfold BS.ok; decide) (by omega) (by omega)).mono ?_
  rw [show BS.dropB ⟨1, 4611686018427387904, 0, 0, 0, 0, 0⟩ (-5) 0 = false from by decide, show BS.dropS ⟨1, 4611686018427387904, 0, 0, 0, 0, 0⟩ (-5) 0 = ⟨1, 4611686018427387904, 0, 0, 0, 0, 0⟩ from by decide]
  rintro e w8 ⟨rfl, h8, k8⟩
  go_wp2_with fail
  refine (drop_at (raw := 4611686018427387905) (most := (-1)) h8 (by unfold BS.ok; decide) (by omega) (by omega)).mono ?_
  rw [show BS.dropB ⟨1, 4611686018427387904, 0, 0, 0, 0, 0⟩ 4611686018427387905 (-1) = true from by decide, show BS.dropS ⟨1, 4611686018427387904, 0, 0, 0, 0, 0⟩ 4611686018427387905 (-1) = ⟨0, 0, 0, 1, 0, 0, 0⟩ from by decide]
  rintro e w9 ⟨rfl, h9, k9⟩
  have hk : Fr (fun _ => False) w w9 := (Fr.trans (Fr.trans (Fr.trans (Fr.trans (Fr.trans (Fr.trans (Fr.trans (Fr.trans (Fr.trans k0 k1 (At.gone hsz)) k2 (At.gone hsz)) k3 (At.gone hsz)) k4 (At.gone hsz)) k5 (At.gone hsz)) k6 (At.gone hsz)) k7 (At.gone hsz)) k8 (At.gone hsz)) k9 (At.gone hsz))
  clear k0 k1 k2 k3 k4 k5 k6 k7 k8 k9 h0 h1 h2 h3 h4 h5 h6 h7 h8 h9
  go_wp2_with fail
  refine (alive_true _).mono ?_
  rintro e w20 ⟨rfl, k20⟩
  have hk' : Fr (fun _ => False) w w20 := hk.trans k20 (fun _ _ h => h)
  clear hk k20
  go_wp2_with fail
  go_ret
  exact ⟨rfl, hk'⟩
end Go.Proofs.Ytmacilbafoejdaa
