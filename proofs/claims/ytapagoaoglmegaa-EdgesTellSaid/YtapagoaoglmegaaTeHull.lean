/- The document's Hull. -/
import Derived.Test.YtapagoaoglmegaaTeEnds
namespace Go.Proofs.Ytapagoaoglmegaa
open Go.RowKit Go.Proofs.YtapagoaoglmegaaW.PrintWords Go.Proofs.YtapagoaoglmegaaW.PrintLast Go.Proofs.YtapagoaoglmegaaW.PrintMore PCl
set_option linter.unusedVariables false
set_option linter.unusedSimpArgs false
set_option maxRecDepth 100000
def LoI (L : List S24) (k : Nat) (lo : Int) : Prop := (lo = -1 ∧ ∀ s ∈ L.take k, ¬ L.length < 2 * depE L s.f1) ∨ (0 ≤ lo ∧ (∃ s ∈ L.take k, s.f1 = lo) ∧ L.length < 2 * depE L lo ∧ ∀ s ∈ L.take k, L.length < 2 * depE L s.f1 → lo ≤ s.f1)
def HiI (L : List S24) (k : Nat) (hi : Int) : Prop := (hi = -1 ∧ ∀ s ∈ L.take k, ¬ L.length < 2 * depE L s.f2) ∨ (0 ≤ hi ∧ (∃ s ∈ L.take k, s.f2 = hi) ∧ L.length < 2 * depE L hi ∧ ∀ s ∈ L.take k, L.length < 2 * depE L s.f2 → s.f2 ≤ hi)
theorem tk_mem {L : List S24} {k : Nat} {s : S24} (h : L[k]? = some s) (x : S24) : x ∈ L.take (k + 1) ↔ x ∈ L.take k ∨ x = s := by
  rw [List.take_add_one, h, List.mem_append]; simp
theorem LoI.yes {L : List S24} {k : Nat} {lo : Int} (h : LoI L k lo) {s : S24} (hs : L[k]? = some s) (h0 : 0 ≤ s.f1) (hd : L.length < 2 * depE L s.f1) (hl : lo < 0 ∨ s.f1 < lo) : LoI L (k + 1) s.f1 := by
  refine .inr ⟨h0, ⟨s, (tk_mem hs s).2 (.inr rfl), rfl⟩, hd, fun x hx hdx => ?_⟩
  rcases (tk_mem hs x).1 hx with hx | rfl
  · rcases h with ⟨_, h⟩ | ⟨h1, _, _, h⟩
    · exact absurd hdx (h x hx)
    · have := h x hx hdx; omega
  · exact Int.le_refl _
theorem LoI.no {L : List S24} {k : Nat} {lo : Int} (h : LoI L k lo) {s : S24} (hs : L[k]? = some s) (hn : ¬ L.length < 2 * depE L s.f1 ∨ ¬ (lo < 0) ∧ ¬ (s.f1 < lo)) : LoI L (k + 1) lo := by
  rcases h with ⟨h1, h2⟩ | ⟨h1, ⟨y, hy, hy2⟩, h3, h4⟩
  · refine .inl ⟨h1, fun x hx => ?_⟩
    rcases (tk_mem hs x).1 hx with hx | rfl
    · exact h2 x hx
    · rcases hn with hn | hn
      · exact hn
      · omega
  · refine .inr ⟨h1, ⟨y, (tk_mem hs y).2 (.inl hy), hy2⟩, h3, fun x hx hdx => ?_⟩
    rcases (tk_mem hs x).1 hx with hx | rfl
    · exact h4 x hx hdx
    · rcases hn with hn | hn
      · exact absurd hdx hn
      · omega
theorem HiI.yes {L : List S24} {k : Nat} {hi : Int} (h : HiI L k hi) {s : S24} (hs : L[k]? = some s) (h0 : 0 ≤ s.f2) (hd : L.length < 2 * depE L s.f2) (hl : s.f2 > hi) : HiI L (k + 1) s.f2 := by
  refine .inr ⟨h0, ⟨s, (tk_mem hs s).2 (.inr rfl), rfl⟩, hd, fun x hx hdx => ?_⟩
  rcases (tk_mem hs x).1 hx with hx | rfl
  · rcases h with ⟨_, h⟩ | ⟨h1, _, _, h⟩
    · exact absurd hdx (h x hx)
    · have := h x hx hdx; omega
  · exact Int.le_refl _
theorem HiI.no {L : List S24} {k : Nat} {hi : Int} (h : HiI L k hi) {s : S24} (hs : L[k]? = some s) (h0 : 0 ≤ s.f2) (hn : ¬ L.length < 2 * depE L s.f2 ∨ ¬ (s.f2 > hi)) : HiI L (k + 1) hi := by
  rcases h with ⟨h1, h2⟩ | ⟨h1, ⟨y, hy, hy2⟩, h3, h4⟩
  · refine .inl ⟨h1, fun x hx => ?_⟩
    rcases (tk_mem hs x).1 hx with hx | rfl
    · exact h2 x hx
    · rcases hn with hn | hn
      · exact hn
      · omega
  · refine .inr ⟨h1, ⟨y, (tk_mem hs y).2 (.inl hy), hy2⟩, h3, fun x hx hdx => ?_⟩
    rcases (tk_mem hs x).1 hx with hx | rfl
    · exact h4 x hx hdx
    · rcases hn with hn | hn
      · exact absurd hdx hn
      · omega
theorem hull_end {L : List S24} (ho : okE L = true) {lo hi : Int} (hl : LoI L L.length lo) (hh : HiI L L.length hi) : (lo = -1 ∧ hullZ L = (0, 0, 33)) ∨ (0 ≤ lo ∧ 0 ≤ hi ∧ hullZ L = (lo, hi, 0)) := by
  unfold LoI at hl
  unfold HiI at hh
  rw [List.take_length] at hl hh
  rcases hull_cases ho with ⟨hN, hz⟩ | ⟨a, b, hI, hz⟩
  · left
    rcases hl with ⟨h1, _⟩ | ⟨_, _, h3, _⟩
    · exact ⟨h1, hz⟩
    · have := hN lo; omega
  · right
    obtain ⟨s, hs, hs1⟩ := hI.lo_mem
    obtain ⟨q, hq, hq1⟩ := hI.hi_mem
    have e1 : 0 ≤ lo ∧ lo = a := by
      rcases hl with ⟨_, h2⟩ | ⟨h1, _, h3, h4⟩
      · exact absurd (hs1 ▸ hI.lo_deep) (h2 s hs)
      · have := h4 s hs (hs1 ▸ hI.lo_deep)
        have := (hI.all lo h3).1
        exact ⟨h1, by omega⟩
    have e2 : 0 ≤ hi ∧ hi = b := by
      rcases hh with ⟨_, h2⟩ | ⟨h1, _, h3, h4⟩
      · exact absurd (hq1 ▸ hI.hi_deep) (h2 q hq)
      · have := h4 q hq (hq1 ▸ hI.hi_deep)
        have := (hI.all hi h3).2
        exact ⟨h1, by omega⟩
    exact ⟨e1.1, e2.1, by rw [hz, e1.2, e2.2]⟩
set_option maxHeartbeats 8000000 in
theorem rhull_at {w : World} {A : Option Addr} {cap : Nat} {L : List S24} (hC : Kd.C k24 w A L.length L) (hc : L.length ≤ cap) (hlen : L.length ≤ 100) :
    Calls Try.prog 43 #[.slice A L.length cap] w fun e w' => e = .returned (.tuple #[.int .i64 (hullZ L).1, .int .i64 (hullZ L).2.1, .int .i64 (hullZ L).2.2]) ∧ Fr (fun _ => False) w w' := by
  obtain ⟨H, hH⟩ : ∃ H, H = hullZ L := ⟨_, rfl⟩
  rw [← hH]
  have HB := hidE (fun h : ¬ okE L = true => hH.trans (hullZ_bad h))
  have HG := hidE (fun (h : okE L = true) (lo hi : Int) (h1 : LoI L L.length lo) (h2 : HiI L L.length hi) => show (lo = -1 ∧ H = (0, 0, 33)) ∨ (0 ≤ lo ∧ 0 ≤ hi ∧ H = (lo, hi, 0)) by rw [hH]; exact hull_end h h1 h2)
  have HC := hidE hC
  have HD : Hid (∀ (W : World) (p : Int), Fr (fun _ => False) w W → Calls Try.prog 47 #[.slice A L.length cap, .int .i64 p] W fun e w' => e = .returned (.int .i64 (depE L p : Nat)) ∧ Fr (fun _ => False) W w') := hidE (fun W p k => rdepth_at (Kd.C_below hC k.below) hc (by omega) p)
  have hdl := fun p => dep_le L p
  have HDL := hidE hdl
  clear hC hH hdl
  by_cases hn : 16 < L.length
  · obtain rfl : H = (0, 0, 1) := HB.out (fun h => by unfold okE at h; rw [Bool.and_eq_true, decide_eq_true_eq] at h; omega)
    have t1 : decide ((L.length : Int) > 16) = true := decide_eq_true (by omega)
    have t2 : (16 : Int) < (L.length : Int) := by omega
    clear HB HG HD
    go_enter Try.func43, Try.ntmps43
    go_wp2_with fail
    go_returns
    exact ⟨rfl, by (repeat' (first | (with_reducible exact Fr.refl _ _) | (with_reducible assumption) | (with_reducible refine Fr.alloc ?_ _) | (with_reducible refine Fr.drew ?_) | (with_reducible refine Fr.drewN ?_ _) | (with_reducible refine Fr.setCell ?_ _ _ ?_) | (exact Or.inr rfl) | (left; simp; done) | (left; simp; omega) | (simp; done) | (simp; omega) | omega))⟩
  · have t1 : decide ((L.length : Int) > 16) = false := decide_eq_false (by omega)
    have t2 : (L.length : Int) ≤ 16 := by omega
    go_enter Try.func43, Try.ntmps43
    go_wp2_with fail
    go_loopw [5] (fun v5 wr => ∃ k : Nat, k ≤ L.length ∧ v5 = .int .i64 (k : Int) ∧ Hid (∀ s ∈ L.take k, mayE s = true) ∧ Fr (fun _ => False) w wr) (fun v5 _ => L.length - (intOf v5).toNat)
    case atStart => exact ⟨0, Nat.zero_le _, rfl, hidE (by simp), Fr.refl _ _⟩
    case round =>
      obtain ⟨wo, rfl⟩ : ∃ wo : World, wo = wr := ⟨_, rfl⟩
      obtain ⟨k, hk, rfl, hall, hf⟩ := hrel
      by_cases hkl : k < L.length
      · obtain ⟨rb, off, rfl, hrb, hat⟩ := C24_open HC.out (by omega)
        obtain ⟨s, hs⟩ : ∃ s, L[k]? = some s := ⟨_, List.getElem?_eq_getElem hkl⟩
        obtain ⟨c0, c1, c2⟩ := (hat k s hs).fr hf (fun h => h)
        have l1 : (k : Int) < (L.length : Int) := by omega
        have HBad : Hid (mayE s = false → H = (0, 0, 1)) := hidE (fun h => HB.out (fun ho => by
          unfold okE at ho
          rw [Bool.and_eq_true] at ho
          have := List.all_eq_true.1 ho.2 s (List.mem_of_getElem? hs)
          rw [h] at this; cases this))
        have HNx : Hid (mayE s = true → ∀ x ∈ L.take (k + 1), mayE x = true) := hidE (fun h x hx => by
          rcases (tk_mem hs x).1 hx with hx | rfl
          · exact hall.out x hx
          · exact h)
        clear hat hs hall HB HG HD
        by_cases b1 : s.f1 < 0
        · obtain rfl : H = (0, 0, 1) := HBad.out (by unfold mayE; simp; intro h; omega)
          have u1 : decide (s.f1 < 0) = true := decide_eq_true b1
          clear HBad HNx
          go_wp2_with fail
          go_quiet (fail)
          go_wp2_with fail
          go_returns
          exact ⟨rfl, hf.trans (by (repeat' (first | (with_reducible exact Fr.refl _ _) | (with_reducible assumption) | (with_reducible refine Fr.alloc ?_ _) | (with_reducible refine Fr.drew ?_) | (with_reducible refine Fr.drewN ?_ _) | (with_reducible refine Fr.setCell ?_ _ _ ?_) | (exact Or.inr rfl) | (left; simp; done) | (left; simp; omega) | (simp; done) | (simp; omega) | omega))) (fun _ _ h => h)⟩
        · have u1 : decide (s.f1 < 0) = false := decide_eq_false b1
          by_cases b2 : s.f2 > 4611686018427387904
          · obtain rfl : H = (0, 0, 1) := HBad.out (by unfold mayE; simp; intro _ _; omega)
            have u2 : decide (s.f2 > 4611686018427387904) = true := decide_eq_true b2
            clear HBad HNx
            go_wp2_with fail
            go_quiet (fail)
            go_wp2_with fail
            go_returns
            exact ⟨rfl, hf.trans (by (repeat' (first | (with_reducible exact Fr.refl _ _) | (with_reducible assumption) | (with_reducible refine Fr.alloc ?_ _) | (with_reducible refine Fr.drew ?_) | (with_reducible refine Fr.drewN ?_ _) | (with_reducible refine Fr.setCell ?_ _ _ ?_) | (exact Or.inr rfl) | (left; simp; done) | (left; simp; omega) | (simp; done) | (simp; omega) | omega))) (fun _ _ h => h)⟩
          · have u2 : decide (s.f2 > 4611686018427387904) = false := decide_eq_false b2
            by_cases b3 : s.f1 > s.f2
            · obtain rfl : H = (0, 0, 1) := HBad.out (by unfold mayE; simp; intro _ _; omega)
              have u3 : decide (s.f1 > s.f2) = true := decide_eq_true b3
              clear HBad HNx
              go_wp2_with fail
              go_quiet (fail)
              go_wp2_with fail
              go_returns
              exact ⟨rfl, hf.trans (by (repeat' (first | (with_reducible exact Fr.refl _ _) | (with_reducible assumption) | (with_reducible refine Fr.alloc ?_ _) | (with_reducible refine Fr.drew ?_) | (with_reducible refine Fr.drewN ?_ _) | (with_reducible refine Fr.setCell ?_ _ _ ?_) | (exact Or.inr rfl) | (left; simp; done) | (left; simp; omega) | (simp; done) | (simp; omega) | omega))) (fun _ _ h => h)⟩
            · have u3 : decide (s.f1 > s.f2) = false := decide_eq_false b3
              have hnx := hidE (HNx.out (by unfold mayE; simp; omega))
              clear HBad HNx
              go_wp2_with fail
              go_quiet (fail)
              go_wp2_with fail
              go_roundw
              case rel => exact ⟨k + 1, by omega, by go_num, hnx, hf.trans (by (repeat' (first | (with_reducible exact Fr.refl _ _) | (with_reducible assumption) | (with_reducible refine Fr.alloc ?_ _) | (with_reducible refine Fr.drew ?_) | (with_reducible refine Fr.drewN ?_ _) | (with_reducible refine Fr.setCell ?_ _ _ ?_) | (exact Or.inr rfl) | (left; simp; done) | (left; simp; omega) | (simp; done) | (simp; omega) | omega))) (fun _ _ h => h)⟩
              case measure => simp [intOf]; omega
      · obtain rfl : k = L.length := by omega
        have hok : okE L = true := by
          unfold okE
          rw [Bool.and_eq_true, decide_eq_true_eq]
          exact ⟨by omega, List.all_eq_true.2 fun s hs => hall.out s (by rw [List.take_length]; exact hs)⟩
        have HOk := hidE hok
        clear hall hkl hok HB
        go_wp2_with fail
        go_loopw [6, 7, 8] (fun v6 v7 v8 wr => ∃ (k : Nat) (lo hi : Int), k ≤ L.length ∧ v6 = .int .i64 lo ∧ v7 = .int .i64 hi ∧ v8 = .int .i64 (k : Int) ∧ Hid (LoI L k lo) ∧ Hid (HiI L k hi) ∧ Fr (fun _ => False) w wr) (fun _ _ v8 _ => L.length - (intOf v8).toNat)
        case atStart => exact ⟨0, -1, -1, Nat.zero_le _, rfl, rfl, rfl, hidE (.inl ⟨rfl, by simp⟩), hidE (.inl ⟨rfl, by simp⟩), hf⟩
        case round =>
          obtain ⟨wq, rfl⟩ : ∃ wq : World, wq = wr := ⟨_, rfl⟩
          clear hf
          obtain ⟨k, lo, hi, hk, rfl, rfl, rfl, hlo, hhi, hf⟩ := hrel
          by_cases hkl : k < L.length
          · obtain ⟨rb, off, rfl, hrb, hat⟩ := C24_open HC.out (by omega)
            obtain ⟨s, hs⟩ : ∃ s, L[k]? = some s := ⟨_, List.getElem?_eq_getElem hkl⟩
            have hco := (hat k s hs).fr hf (fun h => h)
            obtain ⟨c0, c1, c2⟩ := id hco
            have l1 : (k : Int) < (L.length : Int) := by omega
            have h01 := ok_lohi HOk.out s (List.mem_of_getElem? hs)
            have z1 : 0 ≤ s.f1 := h01.1
            have z2 : 0 ≤ s.f2 := by omega
            have LY := hidE (fun a b => hlo.out.yes hs z1 a b)
            have LN := hidE (fun a => hlo.out.no hs a)
            have HY := hidE (fun a b => hhi.out.yes hs z2 a b)
            have HN := hidE (fun a => hhi.out.no hs z2 a)
            have HK1 := hidE (HD.out wq s.f1 hf)
            have HK2 := hidE (fun W k => HD.out W s.f2 k)
            obtain ⟨d1, hd1⟩ : ∃ d1, d1 = depE L s.f1 := ⟨_, rfl⟩
            obtain ⟨d2, hd2⟩ : ∃ d2, d2 = depE L s.f2 := ⟨_, rfl⟩
            have hb1 : d1 ≤ 16 := by rw [hd1]; exact Nat.le_trans (HDL.out _) (by omega)
            have hb2 : d2 ≤ 16 := by rw [hd2]; exact Nat.le_trans (HDL.out _) (by omega)
            rw [← hd1] at LY LN HK1
            rw [← hd2] at HY HN HK2
            have HCO := hidE hco
            clear hd1 hd2 hat hs HG hlo hhi h01 hco
            go_wp2_with fail
            refine HK1.out.mono ?_
            rintro e w2 ⟨rfl, k2⟩
            have f2 := hf.trans k2 (fun _ _ h => h)
            obtain ⟨g0, g1, g2⟩ := HCO.out.fr k2 (fun h => h)
            have HCO2 := hidE (HCO.out.fr k2 (fun h => h))
            clear HK1 c0 c1 c2 hf k2 HCO
            by_cases hD1 : L.length < 2 * d1
            · have t3 : decide (2 * (d1 : Int) > (L.length : Int)) = true := decide_eq_true (by omega)
              by_cases hl0 : lo < 0
              · have t4 : decide (lo < 0) = true := decide_eq_true hl0
                have HL := hidE (LY.out hD1 (.inl hl0))
                clear LY LN hl0
                go_wp2_with fail
                refine (HK2.out _ f2).mono ?_
                rintro e w3 ⟨rfl, k3⟩
                have f3 := f2.trans k3 (fun _ _ h => h)
                obtain ⟨i0, i1, i2⟩ := HCO2.out.fr k3 (fun h => h)
                clear HK2 g0 g1 g2 f2 k3 HCO2 hD1 t3
                by_cases hD2 : L.length < 2 * d2
                · have t6 : decide (2 * (d2 : Int) > (L.length : Int)) = true := decide_eq_true (by omega)
                  by_cases hh1 : s.f2 > hi
                  · have t7 : decide (s.f2 > hi) = true := decide_eq_true hh1
                    have HH := hidE (HY.out hD2 hh1)
                    clear HY HN hh1
                    go_wp2_with fail
                    go_roundw
                    case rel => exact ⟨k + 1, _, _, by omega, rfl, rfl, by go_num, HL, HH, f3⟩
                    case measure => simp [intOf]; omega
                  · have t7 : decide (s.f2 > hi) = false := decide_eq_false hh1
                    have HH := hidE (HN.out (.inr (by omega)))
                    clear HY HN hh1
                    go_wp2_with fail
                    go_roundw
                    case rel => exact ⟨k + 1, _, _, by omega, rfl, rfl, by go_num, HL, HH, f3⟩
                    case measure => simp [intOf]; omega
                · have t6 : decide (2 * (d2 : Int) > (L.length : Int)) = false := decide_eq_false (by omega)
                  have HH := hidE (HN.out (.inl hD2))
                  clear HY HN
                  go_wp2_with fail
                  go_roundw
                  case rel => exact ⟨k + 1, _, _, by omega, rfl, rfl, by go_num, HL, HH, f3⟩
                  case measure => simp [intOf]; omega
              · have t4 : decide (lo < 0) = false := decide_eq_false hl0
                by_cases hl1 : s.f1 < lo
                · have t5 : decide (s.f1 < lo) = true := decide_eq_true hl1
                  have HL := hidE (LY.out hD1 (.inr hl1))
                  clear LY LN hl0 hl1
                  go_wp2_with fail
                  refine (HK2.out _ f2).mono ?_
                  rintro e w3 ⟨rfl, k3⟩
                  have f3 := f2.trans k3 (fun _ _ h => h)
                  obtain ⟨i0, i1, i2⟩ := HCO2.out.fr k3 (fun h => h)
                  clear HK2 g0 g1 g2 f2 k3 HCO2 hD1 t3
                  by_cases hD2 : L.length < 2 * d2
                  · have t6 : decide (2 * (d2 : Int) > (L.length : Int)) = true := decide_eq_true (by omega)
                    by_cases hh1 : s.f2 > hi
                    · have t7 : decide (s.f2 > hi) = true := decide_eq_true hh1
                      have HH := hidE (HY.out hD2 hh1)
                      clear HY HN hh1
                      go_wp2_with fail
                      go_roundw
                      case rel => exact ⟨k + 1, _, _, by omega, rfl, rfl, by go_num, HL, HH, f3⟩
                      case measure => simp [intOf]; omega
                    · have t7 : decide (s.f2 > hi) = false := decide_eq_false hh1
                      have HH := hidE (HN.out (.inr (by omega)))
                      clear HY HN hh1
                      go_wp2_with fail
                      go_roundw
                      case rel => exact ⟨k + 1, _, _, by omega, rfl, rfl, by go_num, HL, HH, f3⟩
                      case measure => simp [intOf]; omega
                  · have t6 : decide (2 * (d2 : Int) > (L.length : Int)) = false := decide_eq_false (by omega)
                    have HH := hidE (HN.out (.inl hD2))
                    clear HY HN
                    go_wp2_with fail
                    go_roundw
                    case rel => exact ⟨k + 1, _, _, by omega, rfl, rfl, by go_num, HL, HH, f3⟩
                    case measure => simp [intOf]; omega
                · have t5 : decide (s.f1 < lo) = false := decide_eq_false hl1
                  have HL := hidE (LN.out (.inr ⟨by omega, by omega⟩))
                  clear LY LN hl0 hl1
                  go_wp2_with fail
                  refine (HK2.out _ f2).mono ?_
                  rintro e w3 ⟨rfl, k3⟩
                  have f3 := f2.trans k3 (fun _ _ h => h)
                  obtain ⟨i0, i1, i2⟩ := HCO2.out.fr k3 (fun h => h)
                  clear HK2 g0 g1 g2 f2 k3 HCO2 hD1 t3
                  by_cases hD2 : L.length < 2 * d2
                  · have t6 : decide (2 * (d2 : Int) > (L.length : Int)) = true := decide_eq_true (by omega)
                    by_cases hh1 : s.f2 > hi
                    · have t7 : decide (s.f2 > hi) = true := decide_eq_true hh1
                      have HH := hidE (HY.out hD2 hh1)
                      clear HY HN hh1
                      go_wp2_with fail
                      go_roundw
                      case rel => exact ⟨k + 1, _, _, by omega, rfl, rfl, by go_num, HL, HH, f3⟩
                      case measure => simp [intOf]; omega
                    · have t7 : decide (s.f2 > hi) = false := decide_eq_false hh1
                      have HH := hidE (HN.out (.inr (by omega)))
                      clear HY HN hh1
                      go_wp2_with fail
                      go_roundw
                      case rel => exact ⟨k + 1, _, _, by omega, rfl, rfl, by go_num, HL, HH, f3⟩
                      case measure => simp [intOf]; omega
                  · have t6 : decide (2 * (d2 : Int) > (L.length : Int)) = false := decide_eq_false (by omega)
                    have HH := hidE (HN.out (.inl hD2))
                    clear HY HN
                    go_wp2_with fail
                    go_roundw
                    case rel => exact ⟨k + 1, _, _, by omega, rfl, rfl, by go_num, HL, HH, f3⟩
                    case measure => simp [intOf]; omega
            · have t3 : decide (2 * (d1 : Int) > (L.length : Int)) = false := decide_eq_false (by omega)
              have HL := hidE (LN.out (.inl hD1))
              clear LY LN
              go_wp2_with fail
              refine (HK2.out _ f2).mono ?_
              rintro e w3 ⟨rfl, k3⟩
              have f3 := f2.trans k3 (fun _ _ h => h)
              obtain ⟨i0, i1, i2⟩ := HCO2.out.fr k3 (fun h => h)
              clear HK2 g0 g1 g2 f2 k3 HCO2 hD1 t3
              by_cases hD2 : L.length < 2 * d2
              · have t6 : decide (2 * (d2 : Int) > (L.length : Int)) = true := decide_eq_true (by omega)
                by_cases hh1 : s.f2 > hi
                · have t7 : decide (s.f2 > hi) = true := decide_eq_true hh1
                  have HH := hidE (HY.out hD2 hh1)
                  clear HY HN hh1
                  go_wp2_with fail
                  go_roundw
                  case rel => exact ⟨k + 1, _, _, by omega, rfl, rfl, by go_num, HL, HH, f3⟩
                  case measure => simp [intOf]; omega
                · have t7 : decide (s.f2 > hi) = false := decide_eq_false hh1
                  have HH := hidE (HN.out (.inr (by omega)))
                  clear HY HN hh1
                  go_wp2_with fail
                  go_roundw
                  case rel => exact ⟨k + 1, _, _, by omega, rfl, rfl, by go_num, HL, HH, f3⟩
                  case measure => simp [intOf]; omega
              · have t6 : decide (2 * (d2 : Int) > (L.length : Int)) = false := decide_eq_false (by omega)
                have HH := hidE (HN.out (.inl hD2))
                clear HY HN
                go_wp2_with fail
                go_roundw
                case rel => exact ⟨k + 1, _, _, by omega, rfl, rfl, by go_num, HL, HH, f3⟩
                case measure => simp [intOf]; omega
          · obtain rfl : k = L.length := by omega
            have hfin := HG.out HOk.out lo hi hlo.out hhi.out
            clear hkl hlo hhi HG HD HOk
            rcases hfin with ⟨rfl, rfl⟩ | ⟨z1, z2, rfl⟩
            · go_wp2_with fail
              go_returns
              exact ⟨rfl, hf⟩
            · have t3 : decide (lo < 0) = false := decide_eq_false (by omega)
              have t4 : decide (hi < 0) = false := decide_eq_false (by omega)
              go_wp2_with fail
              go_returns
              exact ⟨rfl, hf⟩
end Go.Proofs.Ytapagoaoglmegaa
