/- alive: the chapter's rows of a book of nonces; NonceKnown: ends, none. -/
import Derived.Test.YtmacilbafoejdaaNonceCalls
namespace Go.Proofs.Ytmacilbafoejdaa
open Go.RowKit
set_option linter.unusedVariables false
set_option linter.unusedSimpArgs false
set_option maxRecDepth 100000 in
set_option maxHeartbeats 2000000 in
theorem alive_true (w : World) : Calls Try.prog 11 #[] w fun e w' => e = .returned (.bool true) ∧ Fr (fun _ => False) w w' := by
  go_enter Try.func11, Try.ntmps11
  go_wp2_with fail
  refine (new_at _).mono ?_
  rintro e w0 ⟨rfl, h0, k0⟩
  have hsz : w.heap.size ≤ w.heap.size := Nat.le_refl _
  have h0 : Bk w0 w.heap.size ⟨0, 0, 0, 0, 0, 0, 0⟩ := h0
  go_wp2_with fail
  refine (ask_at (n := 5) (raw := 100) h0).mono ?_
  rw [show BS.askE ⟨0, 0, 0, 0, 0, 0, 0⟩ 5 100 = 0 from by decide, show BS.askS ⟨0, 0, 0, 0, 0, 0, 0⟩ 5 100 = ⟨5, 100, 0, 0, 0, 0, 0⟩ from by decide]
  rintro e w1 ⟨rfl, h1, k1⟩
  go_wp2_with fail
  refine (take_at (n := 7) h1).mono ?_
  rw [show BS.takeV ⟨5, 100, 0, 0, 0, 0, 0⟩ 7 = 0 from by decide, show BS.known ⟨5, 100, 0, 0, 0, 0, 0⟩ 7 = 30 from by decide, show BS.takeS ⟨5, 100, 0, 0, 0, 0, 0⟩ 7 = ⟨5, 100, 0, 0, 0, 0, 0⟩ from by decide]
  rintro e w2 ⟨rfl, h2, k2⟩
  go_wp2_with fail
  refine (take_at (n := 5) h2).mono ?_
  rw [show BS.takeV ⟨5, 100, 0, 0, 0, 0, 0⟩ 5 = 100 from by decide, show BS.known ⟨5, 100, 0, 0, 0, 0, 0⟩ 5 = 0 from by decide, show BS.takeS ⟨5, 100, 0, 0, 0, 0, 0⟩ 5 = ⟨0, 0, 5, 0, 0, 0, 0⟩ from by decide]
  rintro e w3 ⟨rfl, h3, k3⟩
  go_wp2_with fail
  refine (take_at (n := 5) h3).mono ?_
  rw [show BS.takeV ⟨0, 0, 5, 0, 0, 0, 0⟩ 5 = 0 from by decide, show BS.known ⟨0, 0, 5, 0, 0, 0, 0⟩ 5 = 31 from by decide, show BS.takeS ⟨0, 0, 5, 0, 0, 0, 0⟩ 5 = ⟨0, 0, 5, 0, 0, 0, 0⟩ from by decide]
  rintro e w4 ⟨rfl, h4, k4⟩
  go_wp2_with fail
  refine (ask_at (n := 6) (raw := 200) h4).mono ?_
  rw [show BS.askE ⟨0, 0, 5, 0, 0, 0, 0⟩ 6 200 = 0 from by decide, show BS.askS ⟨0, 0, 5, 0, 0, 0, 0⟩ 6 200 = ⟨6, 200, 5, 0, 0, 0, 0⟩ from by decide]
  rintro e w5 ⟨rfl, h5, k5⟩
  go_wp2_with fail
  refine (ask_at (n := 8) (raw := 300) h5).mono ?_
  rw [show BS.askE ⟨6, 200, 5, 0, 0, 0, 0⟩ 8 300 = 0 from by decide, show BS.askS ⟨6, 200, 5, 0, 0, 0, 0⟩ 8 300 = ⟨8, 300, 5, 6, 0, 0, 0⟩ from by decide]
  rintro e w6 ⟨rfl, h6, k6⟩
  go_wp2_with fail
  refine (take_at (n := 6) h6).mono ?_
  rw [show BS.takeV ⟨8, 300, 5, 6, 0, 0, 0⟩ 6 = 0 from by decide, show BS.known ⟨8, 300, 5, 6, 0, 0, 0⟩ 6 = 32 from by decide, show BS.takeS ⟨8, 300, 5, 6, 0, 0, 0⟩ 6 = ⟨8, 300, 5, 6, 0, 0, 0⟩ from by decide]
  rintro e w7 ⟨rfl, h7, k7⟩
  go_wp2_with fail
  refine (ask_at (n := 6) (raw := 301) h7).mono ?_
  rw [show BS.askE ⟨8, 300, 5, 6, 0, 0, 0⟩ 6 301 = 9 from by decide, show BS.askS ⟨8, 300, 5, 6, 0, 0, 0⟩ 6 301 = ⟨8, 300, 5, 6, 0, 0, 0⟩ from by decide]
  rintro e w8 ⟨rfl, h8, k8⟩
  go_wp2_with fail
  refine (drop_at (raw := 400) (most := 100) h8 (by unfold BS.ok; decide) (by omega) (by omega)).mono ?_
  rw [show BS.dropB ⟨8, 300, 5, 6, 0, 0, 0⟩ 400 100 = false from by decide, show BS.dropS ⟨8, 300, 5, 6, 0, 0, 0⟩ 400 100 = ⟨8, 300, 5, 6, 0, 0, 0⟩ from by decide]
  rintro e w9 ⟨rfl, h9, k9⟩
  go_wp2_with fail
  refine (drop_at (raw := 401) (most := 100) h9 (by unfold BS.ok; decide) (by omega) (by omega)).mono ?_
  rw [show BS.dropB ⟨8, 300, 5, 6, 0, 0, 0⟩ 401 100 = true from by decide, show BS.dropS ⟨8, 300, 5, 6, 0, 0, 0⟩ 401 100 = ⟨0, 0, 5, 8, 6, 0, 0⟩ from by decide]
  rintro e w10 ⟨rfl, h10, k10⟩
  go_wp2_with fail
  refine (take_at (n := 8) h10).mono ?_
  rw [show BS.takeV ⟨0, 0, 5, 8, 6, 0, 0⟩ 8 = 0 from by decide, show BS.known ⟨0, 0, 5, 8, 6, 0, 0⟩ 8 = 32 from by decide, show BS.takeS ⟨0, 0, 5, 8, 6, 0, 0⟩ 8 = ⟨0, 0, 5, 8, 6, 0, 0⟩ from by decide]
  rintro e w11 ⟨rfl, h11, k11⟩
  have hk : Fr (fun _ => False) w w11 := (Fr.trans (Fr.trans (Fr.trans (Fr.trans (Fr.trans (Fr.trans (Fr.trans (Fr.trans (Fr.trans (Fr.trans (Fr.trans k0 k1 (At.gone hsz)) k2 (At.gone hsz)) k3 (At.gone hsz)) k4 (At.gone hsz)) k5 (At.gone hsz)) k6 (At.gone hsz)) k7 (At.gone hsz)) k8 (At.gone hsz)) k9 (At.gone hsz)) k10 (At.gone hsz)) k11 (At.gone hsz))
  clear k0 k1 k2 k3 k4 k5 k6 k7 k8 k9 k10 k11 h0 h1 h2 h3 h4 h5 h6 h7 h8 h9 h10 h11
  go_wp2_with fail
  go_ret
  exact ⟨rfl, hk⟩
end Go.Proofs.Ytmacilbafoejdaa
