/- Texts of mine, joined by shake.py: GClPrune2, ClPrunePlain, ClPermP, MnPure. -/
import Derived.Test.YtapagoaoglmegaaGreatMo11
section
namespace Go.Proofs.YtapagoaoglmegaaGreat
open Go.RowKit Go.Proofs.YtapagoaoglmegaaGreatW.PrintWords Go.Proofs.YtapagoaoglmegaaGreatW.PrintLast Go.Proofs.YtapagoaoglmegaaGreatW.PrintMore PCl
set_option linter.unusedVariables false
set_option linter.unusedSimpArgs false
set_option maxRecDepth 100000
def lenV : Value → Nat
 | .slice _ n _ => n
 | _ => 0
set_option maxHeartbeats 8000000 in
theorem prune_nil {w : World} {A : Option Addr} {cap : Nat} {l : List S27} {h : S25} (hC : Kd.C k27 w A l.length l) (hcap : l.length ≤ cap) (hwf : WhoWf l) (hm : mayB l = true) (hsp : SpOk h) (hn : l.length = 0) :
  Calls Tryz.prog 27 #[.slice A l.length cap, .agg #[.int .i64 h.f0, .int .i64 h.f1, .int .i64 h.f2]] w fun e w' => e = .returned (.tuple #[.slice none 0 0, .int .i64 33]) ∧ Fr (fun _ => False) w w' := by
 have HMay0 : ∀ W, Kd.C k27 W A l.length l → Calls Tryz.prog 24 #[.slice A l.length cap] W fun e w' => e = .returned (.bool (mayB l)) ∧ Fr (fun _ => False) W w' := fun W hC => may_at hC hcap hwf
 have HClo0 : ∀ W, Kd.C k27 W A l.length l → Calls Tryz.prog 16 #[.slice A l.length cap] W fun e w' => ∃ v0_ : Value, e = .returned v0_ ∧ Kd.R k27 27 w' W.heap.size (fun _ => True) v0_ l ∧ Below W.heap.size W w' := fun W hC => clone_at hC hcap (by omega)
 have HC0 := hC
 have hmf : ∀ (fn : Fn) (first cap : Array Value) (w : World), (Instr.makeFunc fn first cap).run Tryz.prog w = .ok (.func fn first cap) w := fun _ _ _ _ => rfl
 rw [hm] at HMay0
 have hl0 : l = [] := List.eq_nil_of_length_eq_zero hn
 rw [hn] at HC0 HMay0 HClo0 ⊢
 have HC := hid HC0
 have HMay := hid HMay0
 have HClo := hid HClo0
 have HSp := hid (mayYes hsp)
 have bl : decide ((0 : Int) > 0) = false := rfl
 clear HMay0 HClo0 HC0 hm hsp hC hcap hwf hn
 go_enter Tryz.func27, Tryz.ntmps27
 go_wp2_with fail
 generalize hW : World.alloc w _ = W
 have f0 : Fr (fun _ => False) w W := by subst hW; (repeat' (first | (with_reducible exact Fr.refl _ _) | (with_reducible assumption) | (with_reducible refine Fr.alloc ?_ _) | (with_reducible refine Fr.drew ?_) | (with_reducible refine Fr.drewN ?_ _) | (with_reducible refine Fr.setCell ?_ _ _ ?_) | (exact Or.inr rfl) | (left; simp; done) | (left; simp; omega) | (simp; done) | (simp; omega) | omega))
 have bB : Blk W w.heap.size #[.int .i64 h.f0, .int .i64 h.f1, .int .i64 h.f2] 25 := by subst hW; (repeat' (first | (with_reducible assumption) | (with_reducible apply Blk.drew) | (with_reducible apply Blk.drewN) | (with_reducible apply Blk.set) | (with_reducible apply Blk.other) | (exact Blk.new' _ _ _ (by first | rfl | (simp; done) | (simp; omega))) | (with_reducible apply Blk.alloc) | (with_reducible rfl) | (simp; done) | (simp; omega) | omega | rfl))
 clear hW
 have hC1 : Kd.C k27 W A 0 l := Kd.C_below HC.out f0.below
 have ms0 : w.heap.size < w.heap.size + 1 ∧ W.cell? ⟨w.heap.size, 0, none⟩ = some (.int .i64 h.f0) ∧ W.cell? ⟨w.heap.size, 1, none⟩ = some (.int .i64 h.f1) ∧ W.cell? ⟨w.heap.size, 2, none⟩ = some (.int .i64 h.f2) := ⟨by omega, (bB.cell 0).trans rfl, (bB.cell 1).trans rfl, (bB.cell 2).trans rfl⟩
 have ms1 : NoS W A l w.heap.size h W := ⟨ms0.2.1, ms0.2.2.1, ms0.2.2.2, by rw [hl0] at hC1 ⊢; exact hC1, Fr.refl _ _⟩
 have ms := NoS.fr ((Fr.refl _ _).drew) ms1
 have el : l.length = 0 := by rw [hl0]; rfl
 unfold NoS at ms
 rw [el] at ms
 generalize w.heap.size = B at *
 clear bB ms0 ms1 hC1
 have NF : ∀ {w1 w2 : World}, Fr (fun _ => False) w1 w2 → (w1.cell? ⟨B, 0, none⟩ = some (.int .i64 h.f0) ∧ w1.cell? ⟨B, 1, none⟩ = some (.int .i64 h.f1) ∧ w1.cell? ⟨B, 2, none⟩ = some (.int .i64 h.f2) ∧ Kd.C k27 w1 A 0 l ∧ Fr (fun _ => False) W w1) → (w2.cell? ⟨B, 0, none⟩ = some (.int .i64 h.f0) ∧ w2.cell? ⟨B, 1, none⟩ = some (.int .i64 h.f1) ∧ w2.cell? ⟨B, 2, none⟩ = some (.int .i64 h.f2) ∧ Kd.C k27 w2 A 0 l ∧ Fr (fun _ => False) W w2) := by
  intro w1 w2 f k
  have := NoS.fr (W := W) (A := A) (l := l) (hB := B) (h := h) f (by unfold NoS; rw [el]; exact k)
  unfold NoS at this
  rw [el] at this
  exact this
 clear el hl0
 refine wp_scope_straight ?_
 go_wp2_with fail
 refine start_ (n := 23) (S := fun w' => w'.cell? ⟨B, 0, none⟩ = some (.int .i64 h.f0) ∧ w'.cell? ⟨B, 1, none⟩ = some (.int .i64 h.f1) ∧ w'.cell? ⟨B, 2, none⟩ = some (.int .i64 h.f2) ∧ Kd.C k27 w' A 0 l ∧ Fr (fun _ => False) W w') (ds := []) #[oN,oN,oN,oN,oN,oN,oN,oN,oN,oN,oN,oN,oN,oN,oN,oN,oN,oN,oN,oN,oN,oN,oN] (by kernel_rfl) rfl rfl ⟨ms.1, ms.2.1, ms.2.2.1, ms.2.2.2.1, ms.2.2.2.2⟩ (fun hHeld => ?_)
 refine pure_ (i := 0) (N := some 9) (v := ?_) (a' := ?_) #[oY,oN,oN,oN,oN,oN,oN,oN,oN,oN,oN,oN,oN,oN,oN,oN,oN,oN,oN,oN,oN,oN,oN] rfl rfl (by kernel_rfl) (fun _ _ _ h => h) (Or.inl ⟨by rfl, ?_⟩) ?_ ?_
 rotate_left
 ·intro w'
  go_simp
  with_reducible rfl
 rotate_left
 ·simp only [Act.put, List.setIfInBounds_toArray, List.set_cons_zero, List.set_cons_succ, i64_w, i32_w]
  rfl
 refine one_ (i := 1) (N := some 10) #[oY,oY,oN,oN,oN,oN,oN,oN,oN,oN,oN,oN,oN,oN,oN,oN,oN,oN,oN,oN,oN,oN,oN] rfl rfl (by kernel_rfl) (by decide) (fun K hK => ?_)
 refine goes_ Tryz.func24 (by kernel_rfl) rfl #[.slice A 0 cap] (by rfl) rfl rfl (by simp only [List.map_toArray, List.map_cons, List.map_nil]; rfl) ?_
 refine (HMay.out _ hHeld.2.2.2.1).mono ?_
 rintro e w3 ⟨rfl, k3⟩
 refine ⟨_, rfl, ?_⟩
 have ms3 := NF k3 hHeld
 refine hK.out _ _ ⟨ms3.1, ms3.2.1, ms3.2.2.1, ms3.2.2.2.1, ms3.2.2.2.2⟩ (fun hHeld => ?_)
 clear hK K
 refine norm_ (a' := ?_) ?_ ?_
 rotate_left
 ·show Act.put _ (some 10) _ = _
  simp only [Act.put, List.setIfInBounds_toArray, List.set_cons_zero, List.set_cons_succ, i64_w, i32_w]
  rfl
 refine pure_ (i := 2) (N := some 11) (v := ?_) (a' := ?_) #[oY,oY,oY,oN,oN,oN,oN,oN,oN,oN,oN,oN,oN,oN,oN,oN,oN,oN,oN,oN,oN,oN,oN] rfl rfl (by kernel_rfl) (fun _ _ _ h => h) (Or.inl ⟨by rfl, ?_⟩) ?_ ?_
 rotate_left
 ·intro w'
  go_simp
  with_reducible rfl
 rotate_left
 ·simp only [Act.put, List.setIfInBounds_toArray, List.set_cons_zero, List.set_cons_succ, i64_w, i32_w]
  rfl
 refine pure_ (i := 3) (N := some 12) (v := ?_) (a' := ?_) #[oY,oY,oY,oY,oN,oN,oN,oN,oN,oN,oN,oN,oN,oN,oN,oN,oN,oN,oN,oN,oN,oN,oN] rfl rfl (by kernel_rfl) (fun _ _ _ h => h) (Or.inl ⟨by rfl, ?_⟩) ?_ ?_
 rotate_left
 ·intro w'
  go_simp
  with_reducible rfl
 rotate_left
 ·simp only [Act.put, List.setIfInBounds_toArray, List.set_cons_zero, List.set_cons_succ, i64_w, i32_w]
  rfl
 refine take_ (i := 4) (N := some 13) (v := ?_) (a' := ?_) #[oY,oY,oY,oY,oY,oN,oN,oN,oN,oN,oN,oN,oN,oN,oN,oN,oN,oN,oN,oN,oN,oN,oN] rfl rfl (by kernel_rfl) (fun _ _ _ h => h) (Or.inl ⟨by rfl, ?_⟩) hHeld ?_ ?_
 rotate_left
 ·rintro w' ⟨s0, s1, s2, s3, s4⟩
  go_simp
  with_reducible rfl
 rotate_left
 ·simp only [Act.put, List.setIfInBounds_toArray, List.set_cons_zero, List.set_cons_succ, i64_w, i32_w]
  rfl
 refine one_ (i := 5) (N := some 14) #[oY,oY,oY,oY,oY,oY,oN,oN,oN,oN,oN,oN,oN,oN,oN,oN,oN,oN,oN,oN,oN,oN,oN] rfl rfl (by kernel_rfl) (by decide) (fun K hK => ?_)
 refine goes_ Tryz.func35 (by kernel_rfl) rfl #[.agg #[.int .i64 h.f0, .int .i64 h.f1, .int .i64 h.f2]] (by rfl) rfl rfl (by simp only [List.map_toArray, List.map_cons, List.map_nil]; rfl) ?_
 refine (HSp.out _).mono ?_
 rintro e w4 ⟨rfl, k4⟩
 refine ⟨_, rfl, ?_⟩
 have ms4 := NF k4 hHeld
 refine hK.out _ _ ⟨ms4.1, ms4.2.1, ms4.2.2.1, ms4.2.2.2.1, ms4.2.2.2.2⟩ (fun hHeld => ?_)
 clear hK K
 refine norm_ (a' := ?_) ?_ ?_
 rotate_left
 ·show Act.put _ (some 14) _ = _
  simp only [Act.put, List.setIfInBounds_toArray, List.set_cons_zero, List.set_cons_succ, i64_w, i32_w]
  rfl
 refine pure_ (i := 6) (N := some 15) (v := ?_) (a' := ?_) #[oY,oY,oY,oY,oY,oY,oY,oN,oN,oN,oN,oN,oN,oN,oN,oN,oN,oN,oN,oN,oN,oN,oN] rfl rfl (by kernel_rfl) (fun _ _ _ h => h) (Or.inl ⟨by rfl, ?_⟩) ?_ ?_
 rotate_left
 ·intro w'
  go_simp
  with_reducible rfl
 rotate_left
 ·simp only [Act.put, List.setIfInBounds_toArray, List.set_cons_zero, List.set_cons_succ, i64_w, i32_w]
  rfl
 refine pure_ (i := 7) (N := some 16) (v := ?_) (a' := ?_) #[oY,oY,oY,oY,oY,oY,oY,oY,oN,oN,oN,oN,oN,oN,oN,oN,oN,oN,oN,oN,oN,oN,oN] rfl rfl (by kernel_rfl) (fun _ _ _ h => h) (Or.inl ⟨by rfl, ?_⟩) ?_ ?_
 rotate_left
 ·intro w'
  go_simp
  with_reducible rfl
 rotate_left
 ·simp only [Act.put, List.setIfInBounds_toArray, List.set_cons_zero, List.set_cons_succ, i64_w, i32_w]
  rfl
 refine pure_ (i := 8) (N := some 17) (v := ?_) (a' := ?_) #[oY,oY,oY,oY,oY,oY,oY,oY,oY,oN,oN,oN,oN,oN,oN,oN,oN,oN,oN,oN,oN,oN,oN] rfl rfl (by kernel_rfl) (fun _ _ _ h => h) (Or.inl ⟨by rfl, ?_⟩) ?_ ?_
 rotate_left
 ·intro w'
  go_simp
  with_reducible rfl
 rotate_left
 ·simp only [Act.put, List.setIfInBounds_toArray, List.set_cons_zero, List.set_cons_succ, i64_w, i32_w]
  rfl
 refine pure_ (i := 9) (N := some 18) (v := ?_) (a' := ?_) #[oY,oY,oY,oY,oY,oY,oY,oY,oY,oY,oN,oN,oN,oN,oN,oN,oN,oN,oN,oN,oN,oN,oN] rfl rfl (by kernel_rfl) (fun _ _ _ h => h) (Or.inl ⟨by rfl, ?_⟩) ?_ ?_
 rotate_left
 ·intro w'
  go_simp
  with_reducible rfl
 rotate_left
 ·simp only [Act.put, List.setIfInBounds_toArray, List.set_cons_zero, List.set_cons_succ, i64_w, i32_w]
  rfl
 refine pure_ (i := 10) (N := some 19) (v := ?_) (a' := ?_) #[oY,oY,oY,oY,oY,oY,oY,oY,oY,oY,oY,oN,oN,oN,oN,oN,oN,oN,oN,oN,oN,oN,oN] rfl rfl (by kernel_rfl) (fun _ _ _ h => h) (Or.inl ⟨by rfl, ?_⟩) ?_ ?_
 rotate_left
 ·intro w'
  go_simp
  with_reducible rfl
 rotate_left
 ·simp only [Act.put, List.setIfInBounds_toArray, List.set_cons_zero, List.set_cons_succ, i64_w, i32_w]
  rfl
 refine pure_ (i := 11) (N := some 20) (v := ?_) (a' := ?_) #[oY,oY,oY,oY,oY,oY,oY,oY,oY,oY,oY,oY,oN,oN,oN,oN,oN,oN,oN,oN,oN,oN,oN] rfl rfl (by kernel_rfl) (fun _ _ _ h => h) (Or.inl ⟨by rfl, ?_⟩) ?_ ?_
 rotate_left
 ·intro w'
  go_simp
  with_reducible rfl
 rotate_left
 ·simp only [Act.put, List.setIfInBounds_toArray, List.set_cons_zero, List.set_cons_succ, i64_w, i32_w]
  rfl
 refine pure_ (i := 12) (N := some 21) (v := ?_) (a' := ?_) #[oY,oY,oY,oY,oY,oY,oY,oY,oY,oY,oY,oY,oY,oN,oN,oN,oN,oN,oN,oN,oN,oN,oN] rfl rfl (by kernel_rfl) (fun _ _ _ h => h) (Or.inl ⟨by rfl, ?_⟩) ?_ ?_
 rotate_left
 ·intro w'
  go_simp
  with_reducible rfl
 rotate_left
 ·simp only [Act.put, List.setIfInBounds_toArray, List.set_cons_zero, List.set_cons_succ, i64_w, i32_w]
  rfl
 refine pure_ (i := 13) (N := some 22) (v := undef) (a' := ?_) #[oY,oY,oY,oY,oY,oY,oY,oY,oY,oY,oY,oY,oY,oY,oN,oN,oN,oN,oN,oN,oN,oN,oN] rfl rfl (by kernel_rfl) (fun _ _ _ h => h) (Or.inr ⟨by rfl, rfl⟩) ?_ ?_
 rotate_left
 ·simp only [Act.put, List.setIfInBounds_toArray, List.set_cons_zero, List.set_cons_succ, i64_w, i32_w]
  rfl
 refine pure_ (i := 14) (N := some 23) (v := undef) (a' := ?_) #[oY,oY,oY,oY,oY,oY,oY,oY,oY,oY,oY,oY,oY,oY,oY,oN,oN,oN,oN,oN,oN,oN,oN] rfl rfl (by kernel_rfl) (fun _ _ _ h => h) (Or.inr ⟨by rfl, rfl⟩) ?_ ?_
 rotate_left
 ·simp only [Act.put, List.setIfInBounds_toArray, List.set_cons_zero, List.set_cons_succ, i64_w, i32_w]
  rfl
 refine pure_ (i := 15) (N := some 24) (v := undef) (a' := ?_) #[oY,oY,oY,oY,oY,oY,oY,oY,oY,oY,oY,oY,oY,oY,oY,oY,oN,oN,oN,oN,oN,oN,oN] rfl rfl (by kernel_rfl) (fun _ _ _ h => h) (Or.inr ⟨by rfl, rfl⟩) ?_ ?_
 rotate_left
 ·simp only [Act.put, List.setIfInBounds_toArray, List.set_cons_zero, List.set_cons_succ, i64_w, i32_w]
  rfl
 refine pure_ (i := 16) (N := some 25) (v := undef) (a' := ?_) #[oY,oY,oY,oY,oY,oY,oY,oY,oY,oY,oY,oY,oY,oY,oY,oY,oY,oN,oN,oN,oN,oN,oN] rfl rfl (by kernel_rfl) (fun _ _ _ h => h) (Or.inr ⟨by rfl, rfl⟩) ?_ ?_
 rotate_left
 ·simp only [Act.put, List.setIfInBounds_toArray, List.set_cons_zero, List.set_cons_succ, i64_w, i32_w]
  rfl
 refine pure_ (i := 17) (N := some 26) (v := undef) (a' := ?_) #[oY,oY,oY,oY,oY,oY,oY,oY,oY,oY,oY,oY,oY,oY,oY,oY,oY,oY,oN,oN,oN,oN,oN] rfl rfl (by kernel_rfl) (fun _ _ _ h => h) (Or.inr ⟨by rfl, rfl⟩) ?_ ?_
 rotate_left
 ·simp only [Act.put, List.setIfInBounds_toArray, List.set_cons_zero, List.set_cons_succ, i64_w, i32_w]
  rfl
 refine pure_ (i := 18) (N := some 27) (v := undef) (a' := ?_) #[oY,oY,oY,oY,oY,oY,oY,oY,oY,oY,oY,oY,oY,oY,oY,oY,oY,oY,oY,oN,oN,oN,oN] rfl rfl (by kernel_rfl) (fun _ _ _ h => h) (Or.inr ⟨by rfl, rfl⟩) ?_ ?_
 rotate_left
 ·simp only [Act.put, List.setIfInBounds_toArray, List.set_cons_zero, List.set_cons_succ, i64_w, i32_w]
  rfl
 refine pure_ (i := 19) (N := some 28) (v := undef) (a' := ?_) #[oY,oY,oY,oY,oY,oY,oY,oY,oY,oY,oY,oY,oY,oY,oY,oY,oY,oY,oY,oY,oN,oN,oN] rfl rfl (by kernel_rfl) (fun _ _ _ h => h) (Or.inr ⟨by rfl, rfl⟩) ?_ ?_
 rotate_left
 ·simp only [Act.put, List.setIfInBounds_toArray, List.set_cons_zero, List.set_cons_succ, i64_w, i32_w]
  rfl
 refine pure_ (i := 20) (N := some 29) (v := undef) (a' := ?_) #[oY,oY,oY,oY,oY,oY,oY,oY,oY,oY,oY,oY,oY,oY,oY,oY,oY,oY,oY,oY,oY,oN,oN] rfl rfl (by kernel_rfl) (fun _ _ _ h => h) (Or.inr ⟨by rfl, rfl⟩) ?_ ?_
 rotate_left
 ·simp only [Act.put, List.setIfInBounds_toArray, List.set_cons_zero, List.set_cons_succ, i64_w, i32_w]
  rfl
 refine pure_ (i := 21) (N := some 30) (v := ?_) (a' := ?_) #[oY,oY,oY,oY,oY,oY,oY,oY,oY,oY,oY,oY,oY,oY,oY,oY,oY,oY,oY,oY,oY,oY,oN] rfl rfl (by kernel_rfl) (fun _ _ _ h => h) (Or.inl ⟨by rfl, ?_⟩) ?_ ?_
 rotate_left
 ·intro w'
  go_simp
  with_reducible rfl
 rotate_left
 ·simp only [Act.put, List.setIfInBounds_toArray, List.set_cons_zero, List.set_cons_succ, i64_w, i32_w]
  rfl
 refine pure_ (i := 22) (N := some 31) (v := ?_) (a' := ?_) #[oY,oY,oY,oY,oY,oY,oY,oY,oY,oY,oY,oY,oY,oY,oY,oY,oY,oY,oY,oY,oY,oY,oY] rfl rfl (by kernel_rfl) (fun _ _ _ h => h) (Or.inl ⟨by rfl, ?_⟩) ?_ ?_
 rotate_left
 ·intro w'
  go_simp
  with_reducible rfl
 rotate_left
 ·simp only [Act.put, List.setIfInBounds_toArray, List.set_cons_zero, List.set_cons_succ, i64_w, i32_w]
  rfl
 refine done_ (by kernel_rfl) ?_
 have hCE := hHeld.2.2.2.1
 have fE := hHeld.2.2.2.2
 clear hHeld ms ms3 ms4 k3 k4 NF
 go_wp2_with fail
 refine (HClo.out _ hCE).mono ?_
 rintro e w5 ⟨v5, rfl, hv5, k5⟩
 have f5 : Fr (fun _ => False) w w5 := (f0.trans fE (fun _ _ h => h)).trans (Fr.of_below k5 (Nat.le_refl _) (fun _ => False)) (fun _ _ h => h)
 have hv : ∃ a c, v5 = .slice a 0 c := by
  rcases Row.of_R hv5 with ⟨rfl, _⟩ | ⟨g, c, rfl, _⟩
  ·exact ⟨none, 0, rfl⟩
  ·have : l.length = 0 := HC.out.1
   rw [this]; exact ⟨_, _, rfl⟩
 obtain ⟨a5, c5, rfl⟩ := hv
 clear hv5 k5 HClo HMay HSp hCE fE f0
 go_wp2_with (simp only [hmf])
 refine (delF_nil a5 c5 _).mono ?_
 rintro e w6 ⟨rfl, k6⟩
 have f6 : Fr (fun _ => False) w w6 := f5.trans k6 (fun _ _ h => h)
 clear k6 f5
 go_wp2_with fail
 apply wp_label
 go_wp2_with fail
 go_loopw [6, 7, 8] (fun v6 _ _ wr => v6 = .slice a5 0 c5 ∧ Fr (fun _ => False) w wr) (fun _ _ _ _ => 0)
 case atStart => exact ⟨rfl, f6⟩
 case round =>
  obtain ⟨rfl, hf⟩ := hrel
  clear f6
  go_wp2_with fail
  (try simp only [Exit.noGoto, Exit.inBlock, Exit.then])
  go_ret2
  exact ⟨rfl, hf⟩
set_option maxHeartbeats 16000000 in
theorem prune_yes {w : World} {A : Option Addr} {cap : Nat} {l : List S27} {h : S25} (hC : Kd.C k27 w A l.length l) (hcap : l.length ≤ cap) (hwf : WhoWf l) (hm : mayB l = true) (hsp : SpOk h) (hn : 0 < l.length) (hx0 : (rd_T27 l 0).f1.f0 = h.f0) :
  Calls Tryz.prog 27 #[.slice A l.length cap, .agg #[.int .i64 h.f0, .int .i64 h.f1, .int .i64 h.f2]] w fun e w' => ∃ v0_ : Value, e = .returned (.tuple #[v0_, .int .i64 (if (leftZ l h).length = 0 then 33 else 0)]) ∧ Kd.R k27 27 w' w.heap.size (fun _ => True) v0_ (leftZ l h) ∧ Below w.heap.size w w' := by
 have hFl := (mayB_iff l).1 hm
 have hl16 := hFl.len
 have HMay0 : ∀ W, Kd.C k27 W A l.length l → Calls Tryz.prog 24 #[.slice A l.length cap] W fun e w' => e = .returned (.bool (mayB l)) ∧ Fr (fun _ => False) W w' := fun W hC => may_at hC hcap hwf
 have HClo0 : ∀ W, Kd.C k27 W A l.length l → Calls Tryz.prog 16 #[.slice A l.length cap] W fun e w' => ∃ v0_ : Value, e = .returned v0_ ∧ Kd.R k27 27 w' W.heap.size (fun _ => True) v0_ l ∧ Below W.heap.size W w' := fun W hC => clone_at hC hcap (by omega)
 have hmf : ∀ (fn : Fn) (first cap : Array Value) (w : World), (Instr.makeFunc fn first cap).run Tryz.prog w = .ok (.func fn first cap) w := fun _ _ _ _ => rfl
 rw [hm] at HMay0
 obtain ⟨r, off, rfl, hr, hcell⟩ := C27_open hC hn
 obtain ⟨c, hc⟩ : ∃ c, l[0]? = some c := ⟨l[0], List.getElem?_eq_getElem hn⟩
 rw [show (0 : Int) = ((0 : Nat) : Int) from rfl, rd_get hc] at hx0
 have hx := (hcell 0 c hc).2.1
 rw [Nat.zero_mul, Nat.add_zero, hx0] at hx
 have HC := hid hC
 have HMay := hid HMay0
 have HClo := hid HClo0
 have HSp := hid (mayYes hsp)
 have HF := hid hFl
 have Hsp := hid hsp
 have bl : decide ((l.length : Int) > 0) = true := decide_eq_true (by omega)
 have bl3 : decide (0 < l.length) = true := decide_eq_true hn
 have bl2 : decide ((0 : Int) < (l.length : Int)) = true := decide_eq_true (by omega)
 have bn : (h.f0 != h.f0) = false := by simp
 obtain ⟨LL, hLL⟩ : ∃ LL, LL = leftZ l h := ⟨_, rfl⟩
 rw [← hLL]
 have HLL := hid hLL
 clear HMay0 HClo0 hm hsp hC hcap hwf hFl hcell hc hx0 c hLL
 go_enter Tryz.func27, Tryz.ntmps27
 go_wp2_with fail
 generalize hW : World.alloc w _ = W
 have f0 : Fr (fun _ => False) w W := by subst hW; (repeat' (first | (with_reducible exact Fr.refl _ _) | (with_reducible assumption) | (with_reducible refine Fr.alloc ?_ _) | (with_reducible refine Fr.drew ?_) | (with_reducible refine Fr.drewN ?_ _) | (with_reducible refine Fr.setCell ?_ _ _ ?_) | (exact Or.inr rfl) | (left; simp; done) | (left; simp; omega) | (simp; done) | (simp; omega) | omega))
 have bB : Blk W w.heap.size #[.int .i64 h.f0, .int .i64 h.f1, .int .i64 h.f2] 25 := by subst hW; (repeat' (first | (with_reducible assumption) | (with_reducible apply Blk.drew) | (with_reducible apply Blk.drewN) | (with_reducible apply Blk.set) | (with_reducible apply Blk.other) | (exact Blk.new' _ _ _ (by first | rfl | (simp; done) | (simp; omega))) | (with_reducible apply Blk.alloc) | (with_reducible rfl) | (simp; done) | (simp; omega) | omega | rfl))
 clear hW
 have ms0 : PruS W (some ⟨r, off, none⟩) l r off w.heap.size h.f0 h W := ⟨(bB.cell 0).trans rfl, (bB.cell 1).trans rfl, (bB.cell 2).trans rfl, (f0.cell hr (fun h => h)).trans hx, Kd.C_below HC.out f0.below, Fr.refl _ _⟩
 have ms := PruS.fr ((Fr.refl _ _).drew) ms0
 have hBl := bB.lt
 obtain ⟨B, hB⟩ : ∃ B, B = w.heap.size := ⟨_, rfl⟩
 rw [← hB] at ms hBl ⊢
 have hBw : w.heap.size ≤ B := by omega
 clear bB ms0 hx hB
 refine wp_scope_straight ?_
 go_wp2_with fail
 refine start_ (n := 23) (S := fun w' => w'.cell? ⟨B, 0, none⟩ = some (.int .i64 h.f0) ∧ w'.cell? ⟨B, 1, none⟩ = some (.int .i64 h.f1) ∧ w'.cell? ⟨B, 2, none⟩ = some (.int .i64 h.f2) ∧ w'.cell? ⟨r, off + 1, none⟩ = some (.int .i64 h.f0) ∧ Kd.C k27 w' (some ⟨r, off, none⟩) l.length l ∧ Fr (fun _ => False) W w') (ds := []) #[oN,oN,oN,oN,oN,oN,oN,oN,oN,oN,oN,oN,oN,oN,oN,oN,oN,oN,oN,oN,oN,oN,oN] (by kernel_rfl) rfl rfl ⟨ms.1, ms.2.1, ms.2.2.1, ms.2.2.2.1, ms.2.2.2.2.1, ms.2.2.2.2.2⟩ (fun hHeld => ?_)
 refine pure_ (i := 0) (N := some 9) (v := ?_) (a' := ?_) #[oY,oN,oN,oN,oN,oN,oN,oN,oN,oN,oN,oN,oN,oN,oN,oN,oN,oN,oN,oN,oN,oN,oN] rfl rfl (by kernel_rfl) (fun _ _ _ h => h) (Or.inl ⟨by rfl, ?_⟩) ?_ ?_
 rotate_left
 ·intro w'
  go_simp
  with_reducible rfl
 rotate_left
 ·simp only [Act.put, List.setIfInBounds_toArray, List.set_cons_zero, List.set_cons_succ, i64_w, i32_w]
  rfl
 refine one_ (i := 1) (N := some 10) #[oY,oY,oN,oN,oN,oN,oN,oN,oN,oN,oN,oN,oN,oN,oN,oN,oN,oN,oN,oN,oN,oN,oN] rfl rfl (by kernel_rfl) (by decide) (fun K hK => ?_)
 refine goes_ Tryz.func24 (by kernel_rfl) rfl #[.slice (some ⟨r, off, none⟩) l.length cap] (by rfl) rfl rfl (by simp only [List.map_toArray, List.map_cons, List.map_nil]; rfl) ?_
 refine (HMay.out _ hHeld.2.2.2.2.1).mono ?_
 rintro e w3 ⟨rfl, k3⟩
 refine ⟨_, rfl, ?_⟩
 have ms3 := PruS.fr k3 hHeld
 refine hK.out _ _ ⟨ms3.1, ms3.2.1, ms3.2.2.1, ms3.2.2.2.1, ms3.2.2.2.2.1, ms3.2.2.2.2.2⟩ (fun hHeld => ?_)
 clear hK K
 refine norm_ (a' := ?_) ?_ ?_
 rotate_left
 ·show Act.put _ (some 10) _ = _
  simp only [Act.put, List.setIfInBounds_toArray, List.set_cons_zero, List.set_cons_succ, i64_w, i32_w]
  rfl
 refine pure_ (i := 2) (N := some 11) (v := ?_) (a' := ?_) #[oY,oY,oY,oN,oN,oN,oN,oN,oN,oN,oN,oN,oN,oN,oN,oN,oN,oN,oN,oN,oN,oN,oN] rfl rfl (by kernel_rfl) (fun _ _ _ h => h) (Or.inl ⟨by rfl, ?_⟩) ?_ ?_
 rotate_left
 ·intro w'
  go_simp
  with_reducible rfl
 rotate_left
 ·simp only [Act.put, List.setIfInBounds_toArray, List.set_cons_zero, List.set_cons_succ, i64_w, i32_w]
  rfl
 refine pure_ (i := 3) (N := some 12) (v := ?_) (a' := ?_) #[oY,oY,oY,oY,oN,oN,oN,oN,oN,oN,oN,oN,oN,oN,oN,oN,oN,oN,oN,oN,oN,oN,oN] rfl rfl (by kernel_rfl) (fun _ _ _ h => h) (Or.inl ⟨by rfl, ?_⟩) ?_ ?_
 rotate_left
 ·intro w'
  go_simp
  with_reducible rfl
 rotate_left
 ·simp only [Act.put, List.setIfInBounds_toArray, List.set_cons_zero, List.set_cons_succ, i64_w, i32_w]
  rfl
 refine take_ (i := 4) (N := some 13) (v := ?_) (a' := ?_) #[oY,oY,oY,oY,oY,oN,oN,oN,oN,oN,oN,oN,oN,oN,oN,oN,oN,oN,oN,oN,oN,oN,oN] rfl rfl (by kernel_rfl) (fun _ _ _ h => h) (Or.inl ⟨by rfl, ?_⟩) hHeld ?_ ?_
 rotate_left
 ·rintro w' ⟨s0, s1, s2, s3, s4, s5⟩
  go_simp
  with_reducible rfl
 rotate_left
 ·simp only [Act.put, List.setIfInBounds_toArray, List.set_cons_zero, List.set_cons_succ, i64_w, i32_w]
  rfl
 refine one_ (i := 5) (N := some 14) #[oY,oY,oY,oY,oY,oY,oN,oN,oN,oN,oN,oN,oN,oN,oN,oN,oN,oN,oN,oN,oN,oN,oN] rfl rfl (by kernel_rfl) (by decide) (fun K hK => ?_)
 refine goes_ Tryz.func35 (by kernel_rfl) rfl #[.agg #[.int .i64 h.f0, .int .i64 h.f1, .int .i64 h.f2]] (by rfl) rfl rfl (by simp only [List.map_toArray, List.map_cons, List.map_nil]; rfl) ?_
 refine (HSp.out _).mono ?_
 rintro e w4 ⟨rfl, k4⟩
 refine ⟨_, rfl, ?_⟩
 have ms4 := PruS.fr k4 hHeld
 refine hK.out _ _ ⟨ms4.1, ms4.2.1, ms4.2.2.1, ms4.2.2.2.1, ms4.2.2.2.2.1, ms4.2.2.2.2.2⟩ (fun hHeld => ?_)
 clear hK K
 refine norm_ (a' := ?_) ?_ ?_
 rotate_left
 ·show Act.put _ (some 14) _ = _
  simp only [Act.put, List.setIfInBounds_toArray, List.set_cons_zero, List.set_cons_succ, i64_w, i32_w]
  rfl
 refine pure_ (i := 6) (N := some 15) (v := ?_) (a' := ?_) #[oY,oY,oY,oY,oY,oY,oY,oN,oN,oN,oN,oN,oN,oN,oN,oN,oN,oN,oN,oN,oN,oN,oN] rfl rfl (by kernel_rfl) (fun _ _ _ h => h) (Or.inl ⟨by rfl, ?_⟩) ?_ ?_
 rotate_left
 ·intro w'
  go_simp
  with_reducible rfl
 rotate_left
 ·simp only [Act.put, List.setIfInBounds_toArray, List.set_cons_zero, List.set_cons_succ, i64_w, i32_w]
  rfl
 refine pure_ (i := 7) (N := some 16) (v := ?_) (a' := ?_) #[oY,oY,oY,oY,oY,oY,oY,oY,oN,oN,oN,oN,oN,oN,oN,oN,oN,oN,oN,oN,oN,oN,oN] rfl rfl (by kernel_rfl) (fun _ _ _ h => h) (Or.inl ⟨by rfl, ?_⟩) ?_ ?_
 rotate_left
 ·intro w'
  go_simp
  with_reducible rfl
 rotate_left
 ·simp only [Act.put, List.setIfInBounds_toArray, List.set_cons_zero, List.set_cons_succ, i64_w, i32_w]
  rfl
 refine pure_ (i := 8) (N := some 17) (v := ?_) (a' := ?_) #[oY,oY,oY,oY,oY,oY,oY,oY,oY,oN,oN,oN,oN,oN,oN,oN,oN,oN,oN,oN,oN,oN,oN] rfl rfl (by kernel_rfl) (fun _ _ _ h => h) (Or.inl ⟨by rfl, ?_⟩) ?_ ?_
 rotate_left
 ·intro w'
  go_simp
  with_reducible rfl
 rotate_left
 ·simp only [Act.put, List.setIfInBounds_toArray, List.set_cons_zero, List.set_cons_succ, i64_w, i32_w]
  rfl
 refine pure_ (i := 9) (N := some 18) (v := ?_) (a' := ?_) #[oY,oY,oY,oY,oY,oY,oY,oY,oY,oY,oN,oN,oN,oN,oN,oN,oN,oN,oN,oN,oN,oN,oN] rfl rfl (by kernel_rfl) (fun _ _ _ h => h) (Or.inl ⟨by rfl, ?_⟩) ?_ ?_
 rotate_left
 ·intro w'
  go_simp
  with_reducible rfl
 rotate_left
 ·simp only [Act.put, List.setIfInBounds_toArray, List.set_cons_zero, List.set_cons_succ, i64_w, i32_w]
  rfl
 refine pure_ (i := 10) (N := some 19) (v := ?_) (a' := ?_) #[oY,oY,oY,oY,oY,oY,oY,oY,oY,oY,oY,oN,oN,oN,oN,oN,oN,oN,oN,oN,oN,oN,oN] rfl rfl (by kernel_rfl) (fun _ _ _ h => h) (Or.inl ⟨by rfl, ?_⟩) ?_ ?_
 rotate_left
 ·intro w'
  go_simp
  with_reducible rfl
 rotate_left
 ·simp only [Act.put, List.setIfInBounds_toArray, List.set_cons_zero, List.set_cons_succ, i64_w, i32_w]
  rfl
 refine pure_ (i := 11) (N := some 20) (v := ?_) (a' := ?_) #[oY,oY,oY,oY,oY,oY,oY,oY,oY,oY,oY,oY,oN,oN,oN,oN,oN,oN,oN,oN,oN,oN,oN] rfl rfl (by kernel_rfl) (fun _ _ _ h => h) (Or.inl ⟨by rfl, ?_⟩) ?_ ?_
 rotate_left
 ·intro w'
  go_simp
  with_reducible rfl
 rotate_left
 ·simp only [Act.put, List.setIfInBounds_toArray, List.set_cons_zero, List.set_cons_succ, i64_w, i32_w]
  rfl
 refine pure_ (i := 12) (N := some 21) (v := ?_) (a' := ?_) #[oY,oY,oY,oY,oY,oY,oY,oY,oY,oY,oY,oY,oY,oN,oN,oN,oN,oN,oN,oN,oN,oN,oN] rfl rfl (by kernel_rfl) (fun _ _ _ h => h) (Or.inl ⟨by rfl, ?_⟩) ?_ ?_
 rotate_left
 ·intro w'
  go_simp
  with_reducible rfl
 rotate_left
 ·simp only [Act.put, List.setIfInBounds_toArray, List.set_cons_zero, List.set_cons_succ, i64_w, i32_w]
  rfl
 refine pure_ (i := 13) (N := some 22) (v := ?_) (a' := ?_) #[oY,oY,oY,oY,oY,oY,oY,oY,oY,oY,oY,oY,oY,oY,oN,oN,oN,oN,oN,oN,oN,oN,oN] rfl rfl (by kernel_rfl) (fun _ _ _ h => h) (Or.inl ⟨by rfl, ?_⟩) ?_ ?_
 rotate_left
 ·intro w'
  go_simp
  with_reducible rfl
 rotate_left
 ·simp only [Act.put, List.setIfInBounds_toArray, List.set_cons_zero, List.set_cons_succ, i64_w, i32_w]
  rfl
 refine pure_ (i := 14) (N := some 23) (v := ?_) (a' := ?_) #[oY,oY,oY,oY,oY,oY,oY,oY,oY,oY,oY,oY,oY,oY,oY,oN,oN,oN,oN,oN,oN,oN,oN] rfl rfl (by kernel_rfl) (fun _ _ _ h => h) (Or.inl ⟨by rfl, ?_⟩) ?_ ?_
 rotate_left
 ·intro w'
  go_simp
  with_reducible rfl
 rotate_left
 ·simp only [Act.put, List.setIfInBounds_toArray, List.set_cons_zero, List.set_cons_succ, i64_w, i32_w]
  rfl
 refine pure_ (i := 15) (N := some 24) (v := ?_) (a' := ?_) #[oY,oY,oY,oY,oY,oY,oY,oY,oY,oY,oY,oY,oY,oY,oY,oY,oN,oN,oN,oN,oN,oN,oN] rfl rfl (by kernel_rfl) (fun _ _ _ h => h) (Or.inl ⟨by rfl, ?_⟩) ?_ ?_
 rotate_left
 ·intro w'
  go_simp
  with_reducible rfl
 rotate_left
 ·simp only [Act.put, List.setIfInBounds_toArray, List.set_cons_zero, List.set_cons_succ, i64_w, i32_w]
  rfl
 refine pure_ (i := 16) (N := some 25) (v := ?_) (a' := ?_) #[oY,oY,oY,oY,oY,oY,oY,oY,oY,oY,oY,oY,oY,oY,oY,oY,oY,oN,oN,oN,oN,oN,oN] rfl rfl (by kernel_rfl) (fun _ _ _ h => h) (Or.inl ⟨by rfl, ?_⟩) ?_ ?_
 rotate_left
 ·intro w'
  go_simp
  with_reducible rfl
 rotate_left
 ·simp only [Act.put, List.setIfInBounds_toArray, List.set_cons_zero, List.set_cons_succ, i64_w, i32_w]
  rfl
 refine pure_ (i := 18) (N := some 27) (v := ?_) (a' := ?_) #[oY,oY,oY,oY,oY,oY,oY,oY,oY,oY,oY,oY,oY,oY,oY,oY,oY,oN,oY,oN,oN,oN,oN] rfl rfl (by kernel_rfl) (fun _ _ _ h => h) (Or.inl ⟨by rfl, ?_⟩) ?_ ?_
 rotate_left
 ·intro w'
  go_simp
  with_reducible rfl
 rotate_left
 ·simp only [Act.put, List.setIfInBounds_toArray, List.set_cons_zero, List.set_cons_succ, i64_w, i32_w]
  rfl
 refine take_ (i := 17) (N := some 26) (v := ?_) (a' := ?_) #[oY,oY,oY,oY,oY,oY,oY,oY,oY,oY,oY,oY,oY,oY,oY,oY,oY,oY,oY,oN,oN,oN,oN] rfl rfl (by kernel_rfl) (fun _ _ _ h => h) (Or.inl ⟨by rfl, ?_⟩) hHeld ?_ ?_
 rotate_left
 ·rintro w' ⟨s0, s1, s2, s3, s4, s5⟩
  go_simp
  with_reducible rfl
 rotate_left
 ·simp only [Act.put, List.setIfInBounds_toArray, List.set_cons_zero, List.set_cons_succ, i64_w, i32_w]
  rfl
 refine take_ (i := 19) (N := some 28) (v := ?_) (a' := ?_) #[oY,oY,oY,oY,oY,oY,oY,oY,oY,oY,oY,oY,oY,oY,oY,oY,oY,oY,oY,oY,oN,oN,oN] rfl rfl (by kernel_rfl) (fun _ _ _ h => h) (Or.inl ⟨by rfl, ?_⟩) hHeld ?_ ?_
 rotate_left
 ·rintro w' ⟨s0, s1, s2, s3, s4, s5⟩
  go_simp
  with_reducible rfl
 rotate_left
 ·simp only [Act.put, List.setIfInBounds_toArray, List.set_cons_zero, List.set_cons_succ, i64_w, i32_w]
  rfl
 refine pure_ (i := 20) (N := some 29) (v := ?_) (a' := ?_) #[oY,oY,oY,oY,oY,oY,oY,oY,oY,oY,oY,oY,oY,oY,oY,oY,oY,oY,oY,oY,oY,oN,oN] rfl rfl (by kernel_rfl) (fun _ _ _ h => h) (Or.inl ⟨by rfl, ?_⟩) ?_ ?_
 rotate_left
 ·intro w'
  go_simp
  with_reducible rfl
 rotate_left
 ·simp only [Act.put, List.setIfInBounds_toArray, List.set_cons_zero, List.set_cons_succ, i64_w, i32_w]
  rfl
 refine pure_ (i := 21) (N := some 30) (v := ?_) (a' := ?_) #[oY,oY,oY,oY,oY,oY,oY,oY,oY,oY,oY,oY,oY,oY,oY,oY,oY,oY,oY,oY,oY,oY,oN] rfl rfl (by kernel_rfl) (fun _ _ _ h => h) (Or.inl ⟨by rfl, ?_⟩) ?_ ?_
 rotate_left
 ·intro w'
  go_simp
  with_reducible rfl
 rotate_left
 ·simp only [Act.put, List.setIfInBounds_toArray, List.set_cons_zero, List.set_cons_succ, i64_w, i32_w]
  rfl
 refine pure_ (i := 22) (N := some 31) (v := ?_) (a' := ?_) #[oY,oY,oY,oY,oY,oY,oY,oY,oY,oY,oY,oY,oY,oY,oY,oY,oY,oY,oY,oY,oY,oY,oY] rfl rfl (by kernel_rfl) (fun _ _ _ h => h) (Or.inl ⟨by rfl, ?_⟩) ?_ ?_
 rotate_left
 ·intro w'
  go_simp
  with_reducible rfl
 rotate_left
 ·simp only [Act.put, List.setIfInBounds_toArray, List.set_cons_zero, List.set_cons_succ, i64_w, i32_w]
  rfl
 refine done_ (by kernel_rfl) ?_
 have hCE := hHeld.2.2.2.2.1
 have fE := hHeld.2.2.2.2.2
 have HA3 : Hid (At3 _ B 0 h) := hid ⟨hHeld.1, hHeld.2.1, hHeld.2.2.1⟩
 clear hHeld ms ms3 ms4 k3 k4
 go_wp2_with fail
 refine (HClo.out _ hCE).mono ?_
 rintro e w5 ⟨v5, rfl, hv5, k5⟩
 have k5' := Fr.of_below k5 (Nat.le_refl _) (fun _ => False)
 have HA5 := hid (HA3.out.fr k5' (fun h => h))
 have f5 : Fr (fun _ => False) w w5 := (f0.trans fE (fun _ _ h => h)).trans k5' (fun _ _ h => h)
 have hBw4 : B < w4.heap.size := fE.lt hBl
 obtain ⟨g, cp, rfl, hg, hcm, hRow⟩ : ∃ g cp, v5 = .slice (some ⟨g, 0, none⟩) l.length cp ∧ w4.heap.size ≤ g ∧ cp ≤ maxLen ∧ Row w5 g cp l := by
  rcases Row.of_R hv5 with ⟨_, hl⟩ | ⟨g, cp, rfl, hg, hcm, hRow⟩
  ·rw [hl] at hn; simp at hn
  ·exact ⟨g, cp, rfl, hg, hcm, hRow⟩
 have hgw : w.heap.size ≤ g := by have h1 := f0.size; have h2 := fE.size; omega
 have hBg : B ≠ g := by omega
 have HD := hid (@delF_at w5 g cp B l h hRow hcm (fun c hc => HF.out.span c hc) Hsp.out HA5.out hBg)
 clear hv5 k5 HClo HMay HSp hCE fE f0 k5' HA3 HA5 hRow hg hBw4 hBl
 go_wp2_with (simp only [hmf])
 refine HD.out.mono ?_
 rintro e w6 ⟨rfl, hR6, k6⟩
 have f6 : Fr (fun _ => False) w w6 := f5.trans k6 (fun i hi he => by omega)
 have HF6 : Hid (Fld (l.filter (keepB h)) ∧ leftZ l h = pruneGo (l.filter (keepB h)).length (l.filter (keepB h))) := hid ⟨HF.out.sub List.filter_sublist, rfl⟩
 have hl6 : (l.filter (keepB h)).length ≤ 16 := HF6.out.1.len
 rw [← HLL.out] at HF6
 clear HLL
 generalize l.filter (keepB h) = L0 at *
 have HR6 := hid hR6
 clear k6 f5 HD hR6 HF
 go_wp2_with fail
 apply wp_label
 go_wp2_with fail
 go_loopw [6, 7, 8] (fun v6 _ _ wr => ∃ L : List S27, v6 = .slice (some ⟨g, 0, none⟩) L.length cp ∧ Row wr g cp L ∧ Hid (Fld L ∧ LL = pruneGo L.length L) ∧ L.length ≤ 16 ∧ Fr (fun _ => False) w wr) (fun v6 _ _ _ => lenV v6)
 case atStart => exact ⟨L0, rfl, HR6.out, HF6, hl6, f6⟩
 case round =>
  clear HR6 HF6 hl6 f6
  obtain ⟨L, rfl, hR, HI, hl, hf⟩ := hrel
  have HR := hid hR
  have hlc := hR.len
  clear hR
  have hgl := HR.out.lt
  by_cases h3 : 3 < L.length
  rotate_left
  ·have b1 : decide ((L.length : Int) > 3) = false := decide_eq_false (by omega)
   have b2 : decide ((3 : Int) < (L.length : Int)) = false := decide_eq_false (by omega)
   have eL : LL = L := by rw [HI.out.2]; exact pruneGo_stop (fun h => h3 h.1)
   have EL := hid eL
   clear eL
   by_cases h0 : L.length = 0
   ·have b3 : ((L.length : Int) == 0) = true := by simp [h0]
    go_wp2_with fail
    (try simp only [Exit.noGoto, Exit.inBlock, Exit.then])
    go_ret2
    refine ⟨.slice none 0 0, ?_, ?_, hf.below⟩
    ·rw [EL.out, if_pos h0]; rfl
    ·rw [EL.out, List.eq_nil_of_length_eq_zero h0]; exact Kd.R_nil _ _ _ _ _
   ·have b3 : ((L.length : Int) == 0) = false := by rw [beq_eq_false_iff_ne]; omega
    go_wp2_with fail
    (try simp only [Exit.noGoto, Exit.inBlock, Exit.then])
    go_ret2
    refine ⟨.slice (some ⟨g, 0, none⟩) L.length cp, ?_, ?_, hf.below⟩
    ·rw [EL.out, if_neg h0]; rfl
    ·rw [EL.out]; exact HR.out.to_R hgw hcm
  have b1 : decide ((L.length : Int) > 3) = true := decide_eq_true (by omega)
  have b2 : decide ((3 : Int) < (L.length : Int)) = true := decide_eq_true (by omega)
  have hFL := HI.out.1
  have hmL := (mayB_iff L).2 hFL
  have hkw : worstZ L < L.length := worstZ_lt (by omega)
  have HW : ∀ W, Row W g cp L → Calls Tryz.prog 51 #[.slice (some ⟨g, 0, none⟩) L.length cp] W fun e w' => e = .returned (.int .i64 (worstZ L)) ∧ Fr (fun _ => False) W w' := fun W hR =>
   (cluster_worst.calls (L.length + 4) _ cp L _ W (hR.toC hcm) hlc (worst_f hmL (by omega) _ (Nat.le_refl _))).mono fun _ _ q => ⟨q.1, Fr.of_below q.2 (Nat.le_refl _) _⟩
  have HS : ∀ W, Row W g cp L → Calls Tryz.prog 55 #[.slice (some ⟨g, 0, none⟩) L.length cp, .int .i64 (worstZ L)] W fun e w' => e = .returned (.int .i64 (spreadZ L (worstZ L))) ∧ Fr (fun _ => False) W w' := fun W hR =>
   spread_at (hR.toC hcm) hlc hFL hkw
  have HX : Hid (LL = if ¬ spreadZ L (worstZ L) ≤ minJ L then pruneGo (L.eraseIdx (worstZ L)).length (L.eraseIdx (worstZ L)) else L) := hid (by
   rw [HI.out.2]
   obtain ⟨n, hn⟩ : ∃ n, L.length = n + 1 := ⟨L.length - 1, by omega⟩
   have he : (L.eraseIdx (worstZ L)).length = n := by rw [List.length_eraseIdx, if_pos hkw]; omega
   rw [he, hn, show ∀ L, pruneGo (n + 1) L = if 3 < L.length ∧ ¬ spreadZ L (worstZ L) ≤ minJ L then pruneGo n (L.eraseIdx (worstZ L)) else L from fun _ => rfl]
   by_cases hq : spreadZ L (worstZ L) ≤ minJ L
   ·rw [if_neg (fun h => h.2 hq), if_neg (fun h => h hq)]
   ·rw [if_pos ⟨h3, hq⟩, if_pos hq])
  have HFE : Hid (Fld (L.eraseIdx (worstZ L))) := hid (hFL.sub (List.eraseIdx_sublist _ _))
  have hEl : (L.eraseIdx (worstZ L)).length + 1 = L.length := by rw [List.length_eraseIdx, if_pos hkw]; omega
  obtain ⟨k, hk⟩ : ∃ k, k = worstZ L := ⟨_, rfl⟩
  rw [← hk] at hkw HW HS HX HFE hEl
  obtain ⟨sp, hsp⟩ : ∃ sp, sp = spreadZ L k := ⟨_, rfl⟩
  rw [← hsp] at HS HX
  have HHW := hid HW
  have HHS := hid HS
  clear HW HS hk hsp hFL hmL HI
  go_wp2_with fail
  refine (HHW.out _ HR.out).mono ?_
  rintro e w7 ⟨rfl, k7⟩
  have HR7 := hid (HR.out.fr k7 (fun h => h))
  have f7 : Fr (fun _ => False) w w7 := hf.trans k7 (fun _ _ h => h)
  clear HR hf k7 HHW
  go_wp2_with fail
  refine (min_at HR7.out hcm (by omega)).mono ?_
  rintro e w8 ⟨⟨m, hm1, hm2, rfl⟩, k8⟩
  rw [← minJ_eq hm1 hm2] at HX
  have HR8 := hid (HR7.out.fr k8 (fun h => h))
  have f8 : Fr (fun _ => False) w w8 := f7.trans k8 (fun _ _ h => h)
  have hfd : ∀ (a b c d e : Int) (w : World), (Instr.field 27 (.agg #[.int .i64 a, .int .i64 b, .int .i64 c, .int .i64 d, .int .i64 e]) 2).run Tryz.prog w = .ok (.int .i64 e) w := fun _ _ _ _ _ _ => by kernel_rfl
  clear HR7 f7 k8 hm1 hm2
  go_wp2_with (simp only [hfd])
  refine (HHS.out _ HR8.out).mono ?_
  rintro e w9 ⟨rfl, k9⟩
  have HR9 := hid (HR8.out.fr k9 (fun h => h))
  have f9 : Fr (fun _ => False) w w9 := f8.trans k9 (fun _ _ h => h)
  clear HR8 f8 k9 HHS
  by_cases hq : sp ≤ m.f2
  ·have b4 : decide (sp ≤ m.f2) = true := decide_eq_true hq
   have eL : LL = L := by
    have := HX.out
    split at this
    ·omega
    ·exact this
   have EL := hid eL
   have h0 : ¬ L.length = 0 := by omega
   have b3 : ((L.length : Int) == 0) = false := by rw [beq_eq_false_iff_ne]; omega
   clear eL HX
   go_wp2_with fail
   (try simp only [Exit.noGoto, Exit.inBlock, Exit.then])
   go_ret2
   refine ⟨.slice (some ⟨g, 0, none⟩) L.length cp, ?_, ?_, f9.below⟩
   ·rw [EL.out, if_neg h0]; rfl
   ·rw [EL.out]; exact HR9.out.to_R hgw hcm
  ·have b4 : decide (sp ≤ m.f2) = false := decide_eq_false hq
   have eL : LL = pruneGo (L.eraseIdx k).length (L.eraseIdx k) := by
    have := HX.out
    split at this
    ·exact this
    ·omega
   have EL := hid eL
   have HDel := hid (@delete_at w9 g cp k L HR9.out hcm hkw)
   clear eL HX
   go_wp2_with fail
   refine HDel.out.mono ?_
   rintro e w10 ⟨rfl, hR10, k10⟩
   have f10 : Fr (fun _ => False) w w10 := f9.trans k10 (fun i hi he => by omega)
   have HR10 := hid hR10
   clear HDel hR10 k10 f9 HR9
   go_wp2_with fail
   go_roundw
   case rel => exact ⟨L.eraseIdx k, rfl, HR10.out, hid ⟨HFE.out, EL.out⟩, by omega, f10⟩
   case measure => simp only [lenV]; omega
namespace PCl
def cluster_Prune.f (l0 : List S27) (a1_0 a1_1 a1_2 : Int) : Option (List S27 × Int) := if WhoWf l0 then some (pruneZ l0 ⟨a1_0, a1_1, a1_2⟩) else none
theorem cluster_Prune.calls (A0 : Option Addr) (c0 : Nat) (l0 : List S27) (a1_0 a1_1 a1_2 : Int) (r1 : List S27) (r2 : Int) (w : World) (hr0 : Kd.C k27 w A0 l0.length l0) (hc0 : l0.length ≤ c0) (h : cluster_Prune.f l0 a1_0 a1_1 a1_2 = some (r1, r2)) :
  Calls Tryz.prog 27 #[.slice A0 l0.length c0, .agg #[.int .i64 a1_0, .int .i64 a1_1, .int .i64 a1_2]] w fun e w' => ∃ v0_ : Value, e = .returned (.tuple #[v0_, .int .i64 r2]) ∧ Kd.R k27 27 w' w.heap.size (fun _ => True) v0_ r1 ∧ Below w.heap.size w w' := by
 unfold cluster_Prune.f at h
 split at h
 ·rename_i hw
  have hp := Option.some.inj h
  unfold pruneZ at hp
  by_cases ho : pruneOk l0 ⟨a1_0, a1_1, a1_2⟩ = true
  ·rw [if_pos ho] at hp
   have ho2 := ho
   unfold pruneOk at ho2
   simp only [Bool.and_eq_true, Bool.or_eq_true, decide_eq_true_eq, beq_iff_eq] at ho2
   obtain ⟨⟨hm, hs⟩, hor⟩ := ho2
   by_cases hn : l0.length = 0
   ·have e : leftZ l0 ⟨a1_0, a1_1, a1_2⟩ = [] := by rw [List.eq_nil_of_length_eq_zero hn]; rfl
    rw [e] at hp
    simp only [List.length_nil, if_true, Prod.mk.injEq] at hp
    obtain ⟨rfl, rfl⟩ := hp
    exact (prune_nil (h := ⟨a1_0, a1_1, a1_2⟩) hr0 hc0 hw hm hs hn).mono fun _ _ q => ⟨_, q.1, Kd.R_nil _ _ _ _ _, q.2.below⟩
   ·have hx := hor.resolve_left hn
    refine (prune_yes (h := ⟨a1_0, a1_1, a1_2⟩) hr0 hc0 hw hm hs (by omega) hx).mono fun e w' q => ?_
    obtain ⟨v, h1, h2, h3⟩ := q
    by_cases h0 : (leftZ l0 ⟨a1_0, a1_1, a1_2⟩).length = 0
    ·rw [if_pos h0] at hp h1
     simp only [Prod.mk.injEq] at hp
     obtain ⟨rfl, rfl⟩ := hp
     rw [List.eq_nil_of_length_eq_zero h0] at h2
     exact ⟨v, h1, h2, h3⟩
    ·rw [if_neg h0] at hp h1
     simp only [Prod.mk.injEq] at hp
     obtain ⟨rfl, rfl⟩ := hp
     exact ⟨v, h1, h2, h3⟩
  ·rw [if_neg ho] at hp
   simp only [Prod.mk.injEq] at hp
   obtain ⟨rfl, rfl⟩ := hp
   exact (prune_no (h := ⟨a1_0, a1_1, a1_2⟩) hr0 hc0 hw (by simpa using ho)).mono fun _ _ q => ⟨_, q.1, Kd.R_nil _ _ _ _ _, q.2.below⟩
 ·cases h
end PCl
end Go.Proofs.YtapagoaoglmegaaGreat
namespace Go.Proofs.YtapagoaoglmegaaGreat
open Go.RowKit Go.Proofs.YtapagoaoglmegaaGreatW.PrintWords Go.Proofs.YtapagoaoglmegaaGreatW.PrintLast Go.Proofs.YtapagoaoglmegaaGreatW.PrintMore PCl
set_option linter.unusedVariables false
structure Pruned (L y : List S27) : Prop where
  sub : y.Sublist L
  low : min L.length 3 ≤ y.length
  few : L.length ≤ 3 → y = L
  calm : 3 < y.length → spreadZ y (worstZ y) ≤ minJ y
theorem pruneGo_is : ∀ (n : Nat) (L : List S27), L.length ≤ n → Pruned L (pruneGo n L)
  | 0, L, h => by
    obtain rfl := List.eq_nil_of_length_eq_zero (Nat.le_zero.1 h)
    exact ⟨List.Sublist.refl _, by simp, fun _ => rfl, fun h => by simp [pruneGo] at h⟩
  | n + 1, L, h => by
    by_cases hc : 3 < L.length ∧ ¬ spreadZ L (worstZ L) ≤ minJ L
    · have hk : worstZ L < L.length := worstZ_lt (by omega)
      have he : (L.eraseIdx (worstZ L)).length + 1 = L.length := by rw [List.length_eraseIdx, if_pos hk]; omega
      have e : pruneGo (n + 1) L = pruneGo n (L.eraseIdx (worstZ L)) := by
        show (if 3 < L.length ∧ ¬ spreadZ L (worstZ L) ≤ minJ L then _ else _) = _
        rw [if_pos hc]
      obtain ⟨h1, h2, h3, h4⟩ := pruneGo_is n (L.eraseIdx (worstZ L)) (by omega)
      rw [e]
      exact ⟨h1.trans (List.eraseIdx_sublist _ _), by omega, fun h => by omega, h4⟩
    · rw [pruneGo_stop hc]
      exact ⟨List.Sublist.refl _, by omega, fun _ => rfl, fun h => by
        by_cases q : spreadZ L (worstZ L) ≤ minJ L
        · exact q
        · exact absurd ⟨h, q⟩ hc⟩
theorem WhoWf.sub {l l' : List S27} (h : WhoWf l) (hs : l'.Sublist l) : WhoWf l' := fun c hc => h c (hs.subset hc)
end Go.Proofs.YtapagoaoglmegaaGreat
namespace Go.Proofs.YtapagoaoglmegaaGreat
open PCl
set_option linter.unusedVariables false
set_option linter.unusedSimpArgs false
theorem pruneOk_iff (l : List S27) (h : S25) : pruneOk l h = true ↔ Fld l ∧ SpOk h ∧ ∀ c ∈ l, c.f1.f0 = h.f0 := by
  unfold pruneOk
  rw [Bool.and_eq_true, Bool.and_eq_true, mayB_iff, decide_eq_true_eq, Bool.or_eq_true, decide_eq_true_eq, beq_iff_eq]
  constructor
  · rintro ⟨⟨h1, h2⟩, h3⟩
    refine ⟨h1, h2, fun c hc => ?_⟩
    have hl := List.length_pos_of_mem hc
    rcases h3 with h3 | h3
    · omega
    · rw [← h3]; exact h1.at_ c hc _ (rd_mem (k := 0) hl)
  · rintro ⟨h1, h2, h3⟩
    refine ⟨⟨h1, h2⟩, ?_⟩
    by_cases h0 : l.length = 0
    · exact .inl h0
    · exact .inr (h3 _ (rd_mem (k := 0) (by omega)))
def brZ (s : S25) : Int := s.f2 - s.f1 + 1
def wideZ (l : List S25) : Int := l.foldl (fun m s => max m (brZ s)) 0
def wtZ (m : Int) (s : S25) : Int := min (m * 1024 / brZ s) 1048576
def clZ (x lo hi : Int) : Int := if x < lo then lo else if hi < x then hi else x
def mdZ (h s : S25) : Int := clZ (midZ s) h.f1 h.f2
def wtsZ (l : List S25) : List Int := l.map (wtZ (wideZ l))
def allZ (l : List S25) : Int := (wtsZ l).sum
def cdv (a b : Int) : Int := (a + (b - 1)) / b
def partZ (l : List S25) (h s : S25) : Int := (mdZ h s - h.f1) * wtZ (wideZ l) s / allZ l
def meanZ (l : List S25) (h : S25) : Int := h.f1 + (l.map (partZ l h)).sum
def jpartZ (l : List S25) (h : S25) (m : Int) (s : S25) : Int := cdv (dist (mdZ h s) m * wtZ (wideZ l) s) (allZ l)
def jitZ (l : List S25) (h : S25) : Int := (l.map (jpartZ l h (meanZ l h))).sum
theorem foldl_mx (f : S25 → Int) : ∀ (l : List S25) (a : Int), a ≤ l.foldl (fun m s => max m (f s)) a ∧ (∀ s ∈ l, f s ≤ l.foldl (fun m s => max m (f s)) a) ∧ (l.foldl (fun m s => max m (f s)) a = a ∨ ∃ s ∈ l, l.foldl (fun m s => max m (f s)) a = f s)
  | [], a => ⟨Int.le_refl _, (fun s h => by cases h), .inl rfl⟩
  | x :: l, a => by
    obtain ⟨h1, h2, h3⟩ := foldl_mx f l (max a (f x))
    rw [List.foldl_cons]
    refine ⟨by omega, fun s hs => ?_, ?_⟩
    · rcases List.mem_cons.1 hs with rfl | hs
      · omega
      · exact h2 s hs
    · rcases h3 with h3 | ⟨s, hs, h3⟩
      · rw [h3]
        by_cases hax : f x ≤ a
        · left; omega
        · right; exact ⟨x, List.mem_cons_self, by omega⟩
      · exact .inr ⟨s, List.mem_cons_of_mem _ hs, h3⟩
theorem br_pos {s : S25} (h : SpOk s) : 1 ≤ brZ s ∧ brZ s ≤ 4611686018427387905 := by
  unfold SpOk Tm MT at h; unfold brZ; omega
theorem wide_ge {l : List S25} {s : S25} (hs : s ∈ l) : brZ s ≤ wideZ l := (foldl_mx brZ l 0).2.1 s hs
theorem wide_le {l : List S25} (hl : ∀ s ∈ l, SpOk s) : 0 ≤ wideZ l ∧ wideZ l ≤ 4611686018427387905 := by
  obtain ⟨h1, _, h3⟩ := foldl_mx brZ l 0
  refine ⟨h1, ?_⟩
  rcases h3 with h3 | ⟨s, hs, h3⟩
  · unfold wideZ; omega
  · have := br_pos (hl s hs); unfold wideZ; omega
theorem wt_in {l : List S25} (hl : ∀ s ∈ l, SpOk s) {s : S25} (hs : s ∈ l) : 1024 ≤ wtZ (wideZ l) s ∧ wtZ (wideZ l) s ≤ 1048576 := by
  have h1 := br_pos (hl s hs)
  have h2 := wide_ge hs
  unfold wtZ
  have : 1024 ≤ wideZ l * 1024 / brZ s := by
    apply (Int.le_ediv_iff_mul_le (by omega)).2
    omega
  omega
theorem sum_ge (f : S25 → Int) : ∀ (l : List S25), (∀ s ∈ l, 0 ≤ f s) → 0 ≤ (l.map f).sum ∧ ∀ s ∈ l, f s ≤ (l.map f).sum
  | [], h => ⟨by simp, fun s h => by cases h⟩
  | x :: l, h => by
    obtain ⟨h1, h2⟩ := sum_ge f l (fun s hs => h s (List.mem_cons_of_mem _ hs))
    have hx := h x List.mem_cons_self
    simp only [List.map_cons, List.sum_cons]
    refine ⟨by omega, fun s hs => ?_⟩
    rcases List.mem_cons.1 hs with rfl | hs
    · omega
    · have := h2 s hs; omega
theorem all_in {l : List S25} (hl : ∀ s ∈ l, SpOk s) {s : S25} (hs : s ∈ l) : wtZ (wideZ l) s ≤ allZ l :=
  (sum_ge (wtZ (wideZ l)) l (fun s hs => by have := wt_in hl hs; omega)).2 s hs
theorem sum_up (B : Int) (f : S25 → Int) : ∀ (l : List S25), (∀ s ∈ l, f s ≤ B) → (l.map f).sum ≤ l.length * B
  | [], h => by simp
  | x :: l, h => by
    have h1 := sum_up B f l (fun s hs => h s (List.mem_cons_of_mem _ hs))
    have hx := h x List.mem_cons_self
    simp only [List.map_cons, List.sum_cons, List.length_cons]
    have e : ((l.length + 1 : Nat) : Int) * B = (l.length : Int) * B + B := by rw [Int.natCast_add, Int.add_mul]; simp
    rw [e]; omega
theorem all_bd {l : List S25} (hl : ∀ s ∈ l, SpOk s) (h0 : 0 < l.length) : 1024 ≤ allZ l ∧ allZ l ≤ l.length * 1048576 := by
  constructor
  · obtain ⟨s, hs⟩ : ∃ s, s ∈ l := ⟨l[0], List.getElem_mem h0⟩
    have := all_in hl hs
    have := wt_in hl hs
    omega
  · exact sum_up _ _ l (fun s hs => (wt_in hl hs).2)
theorem md_in {h : S25} (hh : SpOk h) (s : S25) : h.f1 ≤ mdZ h s ∧ mdZ h s ≤ h.f2 := by
  unfold SpOk Tm MT at hh; unfold mdZ clZ; split
  · omega
  · split <;> omega
theorem div_mono_le {a b n c : Int} (hn : 0 < n) (ha : 0 ≤ a) (hb : b ≤ n) (hb0 : 0 ≤ b) : 0 ≤ a * b / n ∧ a * b / n ≤ a := by
  refine ⟨Int.ediv_nonneg (Int.mul_nonneg ha hb0) (by omega), ?_⟩
  have h1 : a * b ≤ a * n := Int.mul_le_mul_of_nonneg_left hb ha
  have h2 : a * b / n ≤ a * n / n := Int.ediv_le_ediv hn h1
  rw [Int.mul_ediv_cancel _ (by omega)] at h2
  exact h2
theorem part_in {l : List S25} (hl : ∀ s ∈ l, SpOk s) {h : S25} (hh : SpOk h) {s : S25} (hs : s ∈ l) : 0 ≤ partZ l h s ∧ partZ l h s ≤ h.f2 - h.f1 := by
  have h0 : 0 < l.length := List.length_pos_of_mem hs
  have := all_bd hl h0
  have hm := md_in hh s
  have hw := wt_in hl hs
  have := div_mono_le (a := mdZ h s - h.f1) (b := wtZ (wideZ l) s) (n := allZ l) (c := 0) (by omega) (by omega) (all_in hl hs) (by omega)
  unfold partZ; omega
theorem sum_div (n : Int) (hn : 0 < n) (f : S25 → Int) : ∀ l : List S25, (l.map (fun s => f s / n)).sum ≤ (l.map f).sum / n
  | [] => by simp
  | x :: l => by
    have ih := sum_div n hn f l
    simp only [List.map_cons, List.sum_cons]
    have h1 := Int.ediv_mul_le (f x) (b := n) (by omega)
    have h2 := Int.ediv_mul_le ((l.map f).sum) (b := n) (by omega)
    have h3 : (f x / n + (l.map f).sum / n) * n ≤ f x + (l.map f).sum := by rw [Int.add_mul]; omega
    have h4 := (Int.le_ediv_iff_mul_le hn).2 h3
    omega
theorem sum_mul_le (c : Int) (x w : S25 → Int) : ∀ l : List S25, (∀ s ∈ l, x s ≤ c ∧ 0 ≤ w s) → (l.map (fun s => x s * w s)).sum ≤ c * (l.map w).sum
  | [], h => by simp
  | a :: l, h => by
    have ih := sum_mul_le c x w l (fun s hs => h s (List.mem_cons_of_mem _ hs))
    obtain ⟨h1, h2⟩ := h a List.mem_cons_self
    simp only [List.map_cons, List.sum_cons]
    rw [Int.mul_add]
    have := Int.mul_le_mul_of_nonneg_right h1 h2
    omega
theorem mean_in {l : List S25} (hl : ∀ s ∈ l, SpOk s) {h : S25} (hh : SpOk h) (h0 : 0 < l.length) : h.f1 ≤ meanZ l h ∧ meanZ l h ≤ h.f2 := by
  have hA := all_bd hl h0
  have h1 := (sum_ge (partZ l h) l (fun s hs => (part_in hl hh hs).1)).1
  have h2 := sum_div (allZ l) (by omega) (fun s => (mdZ h s - h.f1) * wtZ (wideZ l) s) l
  have h3 := sum_mul_le (h.f2 - h.f1) (fun s => mdZ h s - h.f1) (wtZ (wideZ l)) l (fun s hs => ⟨by have := md_in hh s; show mdZ h s - h.f1 ≤ _; omega, by have := wt_in hl hs; omega⟩)
  have h4 : (l.map (fun s => (mdZ h s - h.f1) * wtZ (wideZ l) s)).sum / allZ l ≤ h.f2 - h.f1 := by
    have e : (l.map (wtZ (wideZ l))).sum = allZ l := rfl
    rw [e] at h3
    have := Int.ediv_le_ediv (a := (l.map (fun s => (mdZ h s - h.f1) * wtZ (wideZ l) s)).sum) (c := allZ l) (by omega) h3
    rw [Int.mul_ediv_cancel _ (by omega)] at this
    exact this
  have h5 : (l.map (partZ l h)).sum ≤ h.f2 - h.f1 := Int.le_trans h2 h4
  unfold meanZ; omega
theorem cdv_in {a b n : Int} (hn : 0 < n) (ha : 0 ≤ a) (hb : b ≤ n) (hb0 : 0 ≤ b) : 0 ≤ cdv (a * b) n ∧ cdv (a * b) n ≤ a := by
  unfold cdv
  have h0 := Int.mul_nonneg ha hb0
  refine ⟨Int.ediv_nonneg (by omega) (by omega), ?_⟩
  have h1 : a * b ≤ a * n := Int.mul_le_mul_of_nonneg_left hb ha
  have h2 : (a * b + (n - 1)) / n < a + 1 := by
    apply (Int.ediv_lt_iff_lt_mul hn).2
    rw [Int.add_mul]; omega
  omega
theorem dist_in {h : S25} {a b : Int} (ha : h.f1 ≤ a ∧ a ≤ h.f2) (hb : h.f1 ≤ b ∧ b ≤ h.f2) : 0 ≤ dist a b ∧ dist a b ≤ h.f2 - h.f1 := by
  unfold dist; split <;> omega
theorem jpart_in {l : List S25} (hl : ∀ s ∈ l, SpOk s) {h : S25} (hh : SpOk h) {m : Int} (hm : h.f1 ≤ m ∧ m ≤ h.f2) {s : S25} (hs : s ∈ l) : 0 ≤ jpartZ l h m s ∧ jpartZ l h m s ≤ h.f2 - h.f1 := by
  have h0 : 0 < l.length := List.length_pos_of_mem hs
  have := all_bd hl h0
  have hd := dist_in (md_in hh s) hm
  have hw := wt_in hl hs
  have := cdv_in (a := dist (mdZ h s) m) (b := wtZ (wideZ l) s) (n := allZ l) (by omega) hd.1 (all_in hl hs) (by omega)
  unfold jpartZ; omega
end Go.Proofs.YtapagoaoglmegaaGreat
end
