/- Right, and that the rows wake. -/
import Derived.Test.YtnphjhignhmhaaaMacWakes
namespace Go.Proofs.Ytnphjhignhmhaaa
open Go.RowKit
set_option linter.unusedVariables false
set_option linter.unusedSimpArgs false
set_option maxRecDepth 100000

theorem right_at {w : World} {k a b t : Int} {v : Value} {ls : List (List Int)} (hp : Parts w v ls) (hs : ls.flatten.length ≤ 4611686018427387904) :
    Calls Try.prog 11 #[.agg #[.int .u32 k, .int .u64 a, .int .u64 b], .int .u64 t, v] w fun e w' => e = .returned (.bool (tagOf a b ls.flatten == t)) ∧ Fr (fun _ => False) w w' := by
  go_enter Try.func11, Try.ntmps11
  go_wp2_with fail
  generalize hW : World.alloc w _ = W
  have k0 : Fr (fun _ => False) w W := by subst hW; (repeat' (first | (with_reducible exact Fr.refl _ _) | (with_reducible assumption) | (with_reducible refine Fr.alloc ?_ _) | (with_reducible refine Fr.drew ?_) | (with_reducible refine Fr.drewN ?_ _) | (with_reducible refine Fr.setCell ?_ _ _ ?_) | (exact Or.inr rfl) | (left; simp; done) | (left; simp; omega) | (simp; done) | (simp; omega) | omega))
  clear hW
  refine (tag_at (hp.fr k0 (fun _ _ h => h)) hs).mono ?_
  rintro e w1 ⟨rfl, k1⟩
  go_wp2
  go_ret
  exact ⟨rfl, k0.trans k1 (fun _ _ h => h)⟩

theorem wake1 : tagOf 506097522914230528 1084818905618843912 [] = 8246050544436514353 := by kernel_rfl
theorem wake2 : tagOf 506097522914230528 1084818905618843912 (count 15) = 11613035633349379557 := by kernel_rfl

/-- One part. -/
theorem Parts.one {w : World} {g : Nat} {v : Value} {l : List Int} (h : w.cell? ⟨g, 0, none⟩ = some v) (hg : g < w.heap.size) (hb : Byt w v l) : Parts w (.slice (some ⟨g, 0, none⟩) 1 1) [l] :=
  ⟨_, 1, rfl, by simp, by simp [maxLen], .inr ⟨g, 0, rfl, hg, fun i l' hi => by
    cases i with
    | zero => simp at hi; subst hi; exact ⟨v, h, hb⟩
    | succ i => simp at hi⟩⟩

theorem wakes_at (w : World) : Calls Try.prog 12 #[] w fun e w' => e = .returned (.bool true) ∧ Fr (fun _ => False) w w' := by
  go_enter Try.func12, Try.ntmps12
  go_wp2_with fail
  refine (known_at w).mono ?_
  rintro e w1 ⟨rfl, k1⟩
  go_wp2_with fail
  refine (tag_at (Parts.nil w1) (by simp)).mono ?_
  rintro e w2 ⟨rfl, k2⟩
  have k3 := k1.trans k2 (fun _ _ h => h)
  clear k1 k2
  have e1 := wake1
  go_wp2_with fail
  refine (known_at w2).mono ?_
  rintro e w4 ⟨rfl, k4⟩
  have k5 := k3.trans k4 (fun _ _ h => h)
  clear k3 k4
  go_wp2_with fail
  refine (counting_at 15 (by omega) w4).mono ?_
  rintro e w6 ⟨v, rfl, hv, k6⟩
  have k7 := k5.trans k6 (fun _ _ h => h)
  clear k5 k6
  have hv' := hv
  obtain ⟨A, cap, rfl, _⟩ := hv'
  go_wp2_with fail
  generalize hW : World.alloc w6 _ = W
  have k8 : Fr (fun _ => False) w6 W := by subst hW; (repeat' (first | (with_reducible exact Fr.refl _ _) | (with_reducible assumption) | (with_reducible refine Fr.alloc ?_ _) | (with_reducible refine Fr.drew ?_) | (with_reducible refine Fr.drewN ?_ _) | (with_reducible refine Fr.setCell ?_ _ _ ?_) | (exact Or.inr rfl) | (left; simp; done) | (left; simp; omega) | (simp; done) | (simp; omega) | omega))
  have hc : W.cell? ⟨w6.heap.size, 0, none⟩ = some (.slice A (count 15).length cap) := by subst hW; exact cell_new rfl
  have hs : w6.heap.size < W.heap.size := by subst hW; simp
  clear hW
  have hp := Parts.one hc hs (hv.fr k8 (fun _ _ h => h))
  refine (tag_at hp (by simp [count_length])).mono ?_
  rintro e w9 ⟨rfl, k9⟩
  have e2 := wake2
  simp only [List.flatten_cons, List.flatten_nil, List.append_nil]
  go_wp2
  go_ret
  exact ⟨rfl, (k7.trans k8 (fun _ _ h => h)).trans k9 (fun _ _ h => h)⟩
end Go.Proofs.Ytnphjhignhmhaaa
