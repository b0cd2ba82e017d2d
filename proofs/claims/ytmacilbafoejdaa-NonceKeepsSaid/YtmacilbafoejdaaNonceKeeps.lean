/- NonceKeeps: of requests that are given up the last four are known; one that is forgotten can be asked again. -/
import Derived.Test.YtmacilbafoejdaaNonceAlive
namespace Go.Proofs.Ytmacilbafoejdaa
open Go.RowKit
set_option linter.unusedVariables false
set_option linter.unusedSimpArgs false
/-- The book when so many have been asked, one after the other, from f on. -/
def Kb (f : Int) (c : Nat) : BS :=
  if c = 0 then BS.empty else ⟨f + c - 1, c - 1, 0, if 2 ≤ c then f + c - 2 else 0, if 3 ≤ c then f + c - 3 else 0, if 4 ≤ c then f + c - 4 else 0, if 5 ≤ c then f + c - 5 else 0⟩
theorem Kb_known (f : Int) (c : Nat) (n : Int) (hf : 1 ≤ f) (hn : 1 ≤ n) : (Kb f c).known n = if 1 ≤ c ∧ n = f + c - 1 then 0 else if (2 ≤ c ∧ n = f + c - 2) ∨ (3 ≤ c ∧ n = f + c - 3) ∨ (4 ≤ c ∧ n = f + c - 4) ∨ (5 ≤ c ∧ n = f + c - 5) then 32 else 30 := by
  unfold Kb
  by_cases h0 : c = 0
  · subst h0
    have e : BS.empty.known n = 30 := by unfold BS.known BS.has BS.empty; simp; omega
    rw [if_pos rfl, e, if_neg (by omega), if_neg (by omega)]
  · rw [if_neg h0]
    unfold BS.known BS.has
    simp only [Bool.or_eq_true, beq_iff_eq]
    rw [if_neg (show ¬ n = 0 by omega)]
    by_cases h1 : n = f + c - 1
    · rw [if_pos h1, if_pos ⟨by omega, h1⟩]
    · rw [if_neg h1, if_neg (show ¬ n = 0 by omega), if_neg (show ¬ (1 ≤ c ∧ n = f + c - 1) by omega)]
      congr 1
      apply propext
      constructor
      · rintro (((h | h) | h) | h) <;> split at h <;> omega
      · rintro (⟨a, b⟩ | ⟨a, b⟩ | ⟨a, b⟩ | ⟨a, b⟩)
        · exact .inl (.inl (.inl (by rw [if_pos a]; exact b)))
        · exact .inl (.inl (.inr (by rw [if_pos a]; exact b)))
        · exact .inl (.inr (by rw [if_pos a]; exact b))
        · exact .inr (by rw [if_pos a]; exact b)
theorem Kb_ask (f : Int) (c : Nat) (hf : 1 ≤ f) (hc : c ≤ 20) : (Kb f c).askE (f + c) c = 0 ∧ (Kb f c).askS (f + c) c = Kb f (c + 1) := by
  have hk : (Kb f c).known (f + c) = 30 := by rw [Kb_known f c _ hf (by omega), if_neg (by omega), if_neg (by omega)]
  have hb : ¬ BS.badAsk (f + c) c = true := by unfold BS.badAsk; simp; omega
  have e : (Kb f c).askE (f + c) c = 0 := by unfold BS.askE; rw [if_neg hb, if_pos hk]
  refine ⟨e, ?_⟩
  unfold BS.askS
  rw [e, if_pos rfl]
  unfold Kb BS.giveUp
  rw [if_neg (show ¬ c + 1 = 0 by omega)]
  by_cases h0 : c = 0
  · subst h0; simp [BS.empty]
  · rw [if_neg h0]
    simp only
    rw [if_neg (by omega)]
    simp only [BS.mk.injEq]
    refine ⟨by omega, by omega, trivial, ?_, ?_, ?_, ?_⟩
    · rw [if_pos (by omega)]; omega
    · by_cases h : 2 ≤ c
      · rw [if_pos h, if_pos (by omega)]; omega
      · rw [if_neg h, if_neg (by omega)]
    · by_cases h : 3 ≤ c
      · rw [if_pos h, if_pos (by omega)]; omega
      · rw [if_neg h, if_neg (by omega)]
    · by_cases h : 4 ≤ c
      · rw [if_pos h, if_pos (by omega)]; omega
      · rw [if_neg h, if_neg (by omega)]
theorem Kb_take (f : Int) (n i : Nat) (hf : 1 ≤ f) (hi : i < n) : (Kb f (n + 1)).known (f + i) = (if n ≤ i + 4 then 32 else 30) ∧ (Kb f (n + 1)).takeS (f + i) = Kb f (n + 1) := by
  have hk : (Kb f (n + 1)).known (f + i) = (if n ≤ i + 4 then 32 else 30) := by
    rw [Kb_known f _ _ hf (by omega), if_neg (by omega)]
    congr 1
    apply propext
    omega
  refine ⟨hk, ?_⟩
  unfold BS.takeS
  rw [hk, if_neg (by split <;> omega)]
theorem Kb_again (f : Int) (n : Nat) (hf : 1 ≤ f) : (Kb f (n + 1)).askE f 0 = if 4 < n then 0 else 9 := by
  have hb : ¬ BS.badAsk f 0 = true := by unfold BS.badAsk; simp; omega
  have hk : (Kb f (n + 1)).known f = if n = 0 then 0 else if n ≤ 4 then 32 else 30 := by
    rw [Kb_known f _ _ hf (by omega)]
    by_cases h0 : n = 0
    · rw [if_pos (show 1 ≤ n + 1 ∧ f = f + ((n + 1 : Nat) : Int) - 1 by omega), if_pos h0]
    · rw [if_neg (show ¬ (1 ≤ n + 1 ∧ f = f + ((n + 1 : Nat) : Int) - 1) by omega), if_neg h0]
      congr 1
      apply propext
      omega
  unfold BS.askE
  rw [if_neg hb, hk]
  by_cases h4 : 4 < n
  · rw [if_neg (show ¬ n = 0 by omega), if_neg (show ¬ n ≤ 4 by omega), if_pos h4]; rfl
  · rw [if_neg h4]
    by_cases h0 : n = 0
    · rw [if_pos h0]; rfl
    · rw [if_neg h0, if_pos (show n ≤ 4 by omega)]; rfl
theorem Kb_last (f : Int) (n : Nat) (hf : 1 ≤ f) : (Kb f (n + 1)).known (f + n) = 0 ∧ (Kb f (n + 1)).takeV (f + n) = n := by
  have hk : (Kb f (n + 1)).known (f + n) = 0 := by rw [Kb_known f _ _ hf (by omega), if_pos (by omega)]
  refine ⟨hk, ?_⟩
  unfold BS.takeV
  rw [if_pos hk]
  unfold Kb
  rw [if_neg (by omega)]
  simp

set_option maxRecDepth 100000 in
set_option maxHeartbeats 4000000 in
theorem nonceKeeps_walk (a0 a1 : Int) (w : World) (w0 : (Lit.int .u32 a0).wf = true) (w1 : (Lit.int .u8 a1).wf = true) :
    Calls Try.prog 3 #[.int .u32 a0, .int .u8 a1] w fun e w' => e = .returned (.bool true) ∧ Fr (fun _ => False) w w' := by
  have hb0 : 0 ≤ a0 ∧ a0 ≤ 4294967295 := by simp [Lit.wf, IntKind.min, IntKind.max, IntKind.bits, IntKind.signed] at w0; omega
  have hb1 : 0 ≤ a1 ∧ a1 ≤ 255 := by simp [Lit.wf, IntKind.min, IntKind.max, IntKind.bits, IntKind.signed] at w1; omega
  obtain ⟨h00, h01⟩ := hb0
  obtain ⟨h10, h11⟩ := hb1
  clear w0 w1
  go_enter Try.func3, Try.ntmps3
  go_wp2_with fail
  refine (new_at _).mono ?_
  rintro e w2 ⟨rfl, h0, k0⟩
  go_wp2_with fail
  have hm0 : 0 ≤ a1 % 13 := by omega
  have hm1 : a1 % 13 ≤ 12 := by omega
  have hf0 : 1 ≤ a0 + 1 := by omega
  have hf1 : a0 + 1 ≤ 4294967296 := by omega
  generalize a1 % 13 = m at *
  generalize a0 + 1 = f at *
  obtain ⟨n, rfl⟩ := Int.eq_ofNat_of_zero_le hm0
  have hn : n ≤ 12 := by omega
  clear hm0 hm1
  have hb : w.heap.size ≤ w.heap.size := Nat.le_refl _
  have h0' : Bk w2 w.heap.size (Kb f 0) := h0
  clear h0
  go_loopw [8] (fun v wr => ∃ i : Nat, i ≤ n + 1 ∧ v = .int .i64 i ∧ Bk wr w.heap.size (Kb f i) ∧ Fr (fun _ => False) w wr) (fun v _ => n + 1 - (intOf v).toNat)
  case atStart => exact ⟨0, by omega, rfl, h0', k0⟩
  case round =>
    clear h0' k0
    obtain ⟨i, hi, rfl, h, k⟩ := hrel
    by_cases hlt : i ≤ n
    · have hA := ask_at (n := f + i) (raw := i) h
      obtain ⟨e1, e2⟩ := Kb_ask f i hf0 (by omega)
      rw [e1, e2] at hA
      clear e1 e2
      go_wp2_with fail
      refine hA.mono ?_
      clear hA
      rintro e w3 ⟨rfl, h1, k1⟩
      have k2 : Fr (fun _ => False) w w3 := k.trans k1 (At.gone hb)
      clear k k1 h
      go_wp2_with fail
      go_roundw
      case rel => exact ⟨i + 1, by omega, by go_num, h1, k2⟩
      case measure => simp [intOf]; omega
    · have hin : i = n + 1 := by omega
      have Hin : Hid (i = n + 1) := hin
      clear hin
      go_wp2_with fail
      have hin := Hin.out
      subst hin
      clear Hin
      go_loopw [9] (fun v wr => ∃ i : Nat, i ≤ n ∧ v = .int .i64 i ∧ Bk wr w.heap.size (Kb f (n + 1)) ∧ Fr (fun _ => False) w wr) (fun v _ => n - (intOf v).toNat)
      case atStart => exact ⟨0, by omega, rfl, h, k⟩
      case round =>
        clear h k
        obtain ⟨i, hi, rfl, h, k⟩ := hrel
        by_cases hlt : i < n
        · have hA := take_at (n := f + i) h
          obtain ⟨e1, e2⟩ := Kb_take f n i hf0 hlt
          have e3 : (Kb f (n + 1)).takeV (f + i) = 0 := by unfold BS.takeV; rw [e1, if_neg (by split <;> omega)]
          by_cases h4 : n ≤ i + 4
          · rw [e1, e2, e3, if_pos h4] at hA
            clear e1 e2 e3
            go_wp2_with fail
            refine hA.mono ?_
            clear hA
            rintro e w3 ⟨rfl, h1, k1⟩
            have k2 : Fr (fun _ => False) w w3 := k.trans k1 (At.gone hb)
            clear k k1 h
            go_wp2_with fail
            go_roundw
            case rel => first | exact ⟨i + 1, by omega, by go_num, h1, k2⟩ | ((repeat apply Exists.intro); exact ⟨⟨i + 1, by omega, by go_num, h1, k2⟩, rfl⟩)
            case measure => simp [intOf]; omega
          · rw [e1, e2, e3, if_neg h4] at hA
            clear e1 e2 e3
            go_wp2_with fail
            refine hA.mono ?_
            clear hA
            rintro e w3 ⟨rfl, h1, k1⟩
            have k2 : Fr (fun _ => False) w w3 := k.trans k1 (At.gone hb)
            clear k k1 h
            go_wp2_with fail
            go_roundw
            case rel => first | exact ⟨i + 1, by omega, by go_num, h1, k2⟩ | ((repeat apply Exists.intro); exact ⟨⟨i + 1, by omega, by go_num, h1, k2⟩, rfl⟩)
            case measure => simp [intOf]; omega
        · by_cases h4 : 4 < n
          · go_wp2_with fail
            refine (copy_at h).mono ?_
            rintro e w4 ⟨rfl, g4, k4⟩
            have h5 : Bk w4 w.heap.size (Kb f (n + 1)) := h.fr k4 (fun h => h)
            have k5 : Fr (fun _ => False) w w4 := k.trans k4 (fun _ _ h => h)
            have hlt4 : w.heap.size < wr.heap.size := h.lt
            have hA := ask_at (n := f) (raw := 0) g4
            rw [Kb_again f n hf0, if_pos h4] at hA
            clear h k4
            go_wp2_with fail
            refine hA.mono ?_
            clear hA
            rintro e w6 ⟨rfl, h6, k6⟩
            have h7 : Bk w6 w.heap.size (Kb f (n + 1)) := h5.fr k6 (by simp [At]; omega)
            have k7 : Fr (fun _ => False) w w6 := k5.trans k6 (At.gone k.size)
            clear h6 k6 h5 k5 g4 k
            have hA := take_at (n := f + n) h7
            obtain ⟨e1, e2⟩ := Kb_last f n hf0
            rw [e1, e2] at hA
            clear e1 e2
            go_wp2_with fail
            refine hA.mono ?_
            clear hA
            rintro e w8 ⟨rfl, h8, k8⟩
            have k9 : Fr (fun _ => False) w w8 := k7.trans k8 (At.gone hb)
            clear h8 k8 k7 h7
            go_wp2_with fail
            refine (alive_true _).mono ?_
            rintro e w10 ⟨rfl, k10⟩
            have k11 : Fr (fun _ => False) w w10 := k9.trans k10 (fun _ _ h => h)
            clear k9 k10
            go_wp2
            go_ret
            exact ⟨rfl, k11⟩
          · go_wp2_with fail
            refine (copy_at h).mono ?_
            rintro e w4 ⟨rfl, g4, k4⟩
            have h5 : Bk w4 w.heap.size (Kb f (n + 1)) := h.fr k4 (fun h => h)
            have k5 : Fr (fun _ => False) w w4 := k.trans k4 (fun _ _ h => h)
            have hlt4 : w.heap.size < wr.heap.size := h.lt
            have hA := ask_at (n := f) (raw := 0) g4
            rw [Kb_again f n hf0, if_neg h4] at hA
            clear h k4
            go_wp2_with fail
            refine hA.mono ?_
            clear hA
            rintro e w6 ⟨rfl, h6, k6⟩
            have h7 : Bk w6 w.heap.size (Kb f (n + 1)) := h5.fr k6 (by simp [At]; omega)
            have k7 : Fr (fun _ => False) w w6 := k5.trans k6 (At.gone k.size)
            clear h6 k6 h5 k5 g4 k
            have hA := take_at (n := f + n) h7
            obtain ⟨e1, e2⟩ := Kb_last f n hf0
            rw [e1, e2] at hA
            clear e1 e2
            go_wp2_with fail
            refine hA.mono ?_
            clear hA
            rintro e w8 ⟨rfl, h8, k8⟩
            have k9 : Fr (fun _ => False) w w8 := k7.trans k8 (At.gone hb)
            clear h8 k8 k7 h7
            go_wp2_with fail
            refine (alive_true _).mono ?_
            rintro e w10 ⟨rfl, k10⟩
            have k11 : Fr (fun _ => False) w w10 := k9.trans k10 (fun _ _ h => h)
            clear k9 k10
            go_wp2
            go_ret
            exact ⟨rfl, k11⟩
end Go.Proofs.Ytmacilbafoejdaa
