/- The examples of the document: awake. -/
import Derived.Test.YtkcfhdnlmdndeaaHpMisc
import Derived.Test.YtkcfhdnlmdndeaaPHpx2
namespace Go.Proofs.Ytkcfhdnlmdndeaa
open Go.RowKit Go.Proofs.YtkcfhdnlmdndeaaW.PrintWords Go.Proofs.YtkcfhdnlmdndeaaW.PrintLast Go.Proofs.YtkcfhdnlmdndeaaW.PrintMore PHp
set_option linter.unusedVariables false
set_option linter.unusedSimpArgs false
set_option maxRecDepth 100000
theorem kU_mk (w : World) (p : Int) : (Kd.int .u64).K w p [.int .u64 p] := by rfl
/-- A block of whole numbers, as the print reads it. -/
theorem blk_C {w : World} {g : Nat} {cs : Array Value} {t : TypeId} {xs : List Int} (h : Blk w g cs t) (e : cs = (xs.map (fun x => Value.int .u64 x)).toArray) (hl : xs.length ≤ 9223372036854775807) : Kd.C (Kd.int .u64) w (some ⟨g, 0, none⟩) xs.length xs := by
  subst e
  refine ⟨rfl, hl, fun _ => ⟨_, rfl, fun j p hj => ⟨[.int .u64 p], rfl, kU_mk w p, fun i u hi => ?_⟩⟩⟩
  have hsz : (Kd.int .u64 : Kd Int).sz = 1 := rfl
  have hi0 : i = 0 := by have := (List.getElem?_eq_some_iff.1 hi).1; simpa using this
  subst hi0
  rw [add_none, hsz, Nat.zero_add, Nat.mul_one, Nat.add_zero]
  refine (h.cell j).trans ?_
  simp only [List.getElem?_toArray, List.getElem?_map, hj]
  simpa using hi
theorem are_at {w : World} {A : Option Addr} {c g : Nat} {L : List It} {cs : Array Value} {t : TypeId} {xs : List Int} {r : Bool} (hC : Kd.C k24 w A L.length L) (hc : L.length ≤ c) (hb : Blk w g cs t) (e : cs = (xs.map (fun x => Value.int .u64 x)).toArray) (hl : xs.length ≤ 9223372036854775807)
    (h : ephemerislaw13_are.f 10 L xs = some r) :
    Calls Try.prog 44 #[.slice A L.length c, .slice (some ⟨g, 0, none⟩) xs.length xs.length] w fun e w' => e = .returned (.bool r) ∧ Fr (fun _ => False) w w' :=
  (ephemerislaw13_are.calls 10 A c L (some ⟨g, 0, none⟩) xs.length xs r w hC hc (blk_C hb e hl) (Nat.le_refl _) h).mono fun _ _ q => ⟨q.1, Fr.of_below q.2 (Nat.le_refl _) _⟩
def ix (a b c : Int) : It := ⟨a, b, c⟩
theorem ok_of {x : It} (h : (Lit.wf (.int .u64 x.f0) && Lit.wf (.int .u64 x.f1) && Lit.wf (.int .i64 x.f2)) = true) : ItOk x := by
  simp only [Bool.and_eq_true] at h
  exact ⟨h.1.1, h.1.2, h.2⟩
/-- A heap that was made behind n blocks. -/
def Fz (n b m : Nat) (v : Value) : Prop := ∀ i, Ft b m v i → n ≤ i
theorem Fz.next {n b m : Nat} {v v' : Value} {w : World} (h : Fz n b m v) (hv : ∀ g, v'.ownBlock = some g → v.ownBlock = some g ∨ w.heap.size ≤ g) (hn : n ≤ w.heap.size) : Fz n b m v' := by
  rintro i (e | e | e)
  · exact h i (.inl e)
  · exact h i (.inr (.inl e))
  · rcases hv i e with e | e
    · exact h i (.inr (.inr e))
    · exact Nat.le_trans hn e
theorem Fr.fz {w0 w w' : World} {b m : Nat} {v : Value} (h : Fr (fun _ => False) w0 w) (z : Fz w0.heap.size b m v) (k : Fr (Ft b m v) w w') : Fr (fun _ => False) w0 w' :=
  h.trans k (fun i hi e => absurd (z i e) (by omega))
theorem Fz.made {n b m : Nat} (hb : n ≤ b) (hm : n ≤ m) : Fz n b m (.slice none 0 0) := by
  rintro i (e | e | e)
  · omega
  · omega
  · cases e
set_option maxHeartbeats 4000000 in
theorem awake_at (w : World) : Calls Try.prog 13 #[] w fun e w' => e = .returned (.bool true) ∧ Fr (fun _ => False) w w' := by
  go_enter Try.func13, Try.ntmps13
  go_wp2_with fail
  refine (new_at (size := 9) (by omega) (by omega)).mono ?_
  rintro e w1 ⟨b, m, rfl, h1, hb1, hm1, f1⟩
  have z1 : Fz w.heap.size b m (.slice none 0 0) := Fz.made hb1 hm1
  clear hb1 hm1
  go_wp2_with fail
  refine (push_at h1 (x := ⟨1, 0, 9⟩) (ok_of (by kernel_rfl))).mono ?_
  rintro e w2 ⟨rfl, v2, h2, q2, k2⟩
  rw [show pushL [] 9 ⟨1, 0, 9⟩ = [⟨1, 0, 9⟩] by kernel_rfl] at h2
  have z2 := z1.next q2 f1.size
  have f2 := f1.fz z1 k2
  clear h1 z1 f1 q2 k2
  go_wp2_with fail
  refine (push_at h2 (x := ⟨2, 0, 5⟩) (ok_of (by kernel_rfl))).mono ?_
  rintro e w3 ⟨rfl, v3, h3, q3, k3⟩
  rw [show pushL [⟨1, 0, 9⟩] 9 ⟨2, 0, 5⟩ = [⟨2, 0, 5⟩, ⟨1, 0, 9⟩] by kernel_rfl] at h3
  have z3 := z2.next q3 f2.size
  have f3 := f2.fz z2 k3
  clear h2 z2 f2 q3 k3
  go_wp2_with fail
  refine (push_at h3 (x := ⟨3, 0, 7⟩) (ok_of (by kernel_rfl))).mono ?_
  rintro e w4 ⟨rfl, v4, h4, q4, k4⟩
  rw [show pushL [⟨2, 0, 5⟩, ⟨1, 0, 9⟩] 9 ⟨3, 0, 7⟩ = [⟨2, 0, 5⟩, ⟨1, 0, 9⟩, ⟨3, 0, 7⟩] by kernel_rfl] at h4
  have z4 := z3.next q4 f3.size
  have f4 := f3.fz z3 k4
  clear h3 z3 f3 q4 k4
  go_wp2_with fail
  refine (row_at h4).mono ?_
  rintro e w5 ⟨A5, c5, rfl, hc5, C5, k5⟩
  have h5 := h4.fr0 k5
  have f5 := f4.trans k5 (fun _ _ h => h)
  go_wp2_with fail
  generalize hW : World.alloc w5 _ = W5
  have j5 : Fr (fun _ => False) w5 W5 := by subst hW; (repeat' (first | (with_reducible exact Fr.refl _ _) | (with_reducible assumption) | (with_reducible refine Fr.alloc ?_ _) | (with_reducible refine Fr.drew ?_) | (with_reducible refine Fr.drewN ?_ _) | (with_reducible refine Fr.setCell ?_ _ _ ?_) | (exact Or.inr rfl) | (left; simp; done) | (left; simp; omega) | (simp; done) | (simp; omega) | omega))
  have B5 : Blk W5 w5.heap.size #[.int .u64 2, .int .u64 1, .int .u64 3] 22 := by subst hW; (repeat' (first | (with_reducible assumption) | (with_reducible apply Blk.drew) | (with_reducible apply Blk.drewN) | (with_reducible apply Blk.set) | (with_reducible apply Blk.other) | (exact Blk.new' _ _ _ (by first | rfl | (simp; done) | (simp; omega))) | (with_reducible apply Blk.alloc) | (with_reducible rfl) | (simp; done) | (simp; omega) | omega | rfl))
  clear hW
  refine (are_at (xs := [2, 1, 3]) (r := true) (Kd.C_below C5 j5.below) hc5 B5 rfl (by decide) (by kernel_rfl)).mono ?_
  rintro e w6 ⟨rfl, k6⟩
  have h6 := (h5.fr0 j5).fr0 k6
  have f6 := (f5.trans j5 (fun _ _ h => h)).trans k6 (fun _ _ h => h)
  have z6 := z4
  clear h4 h5 f4 f5 z4 k5 k6 j5 B5 C5 hc5
  go_wp2_with fail
  refine (set_at h6 (x := ⟨1, 0, 4⟩) (ok_of (by kernel_rfl))).mono ?_
  rintro e w7 ⟨rfl, v7, h7, q7, k7⟩
  rw [show setL [⟨2, 0, 5⟩, ⟨1, 0, 9⟩, ⟨3, 0, 7⟩] ⟨1, 0, 4⟩ = [⟨1, 0, 4⟩, ⟨2, 0, 5⟩, ⟨3, 0, 7⟩] by kernel_rfl] at h7
  have z7 := z6.next q7 f6.size
  have f7 := f6.fz z6 k7
  clear h6 z6 f6 q7 k7
  go_wp2_with fail
  refine (row_at h7).mono ?_
  rintro e w8 ⟨A8, c8, rfl, hc8, C8, k8⟩
  have h8 := h7.fr0 k8
  have f8 := f7.trans k8 (fun _ _ h => h)
  go_wp2_with fail
  generalize hW : World.alloc w8 _ = W8
  have j8 : Fr (fun _ => False) w8 W8 := by subst hW; (repeat' (first | (with_reducible exact Fr.refl _ _) | (with_reducible assumption) | (with_reducible refine Fr.alloc ?_ _) | (with_reducible refine Fr.drew ?_) | (with_reducible refine Fr.drewN ?_ _) | (with_reducible refine Fr.setCell ?_ _ _ ?_) | (exact Or.inr rfl) | (left; simp; done) | (left; simp; omega) | (simp; done) | (simp; omega) | omega))
  have B8 : Blk W8 w8.heap.size #[.int .u64 1, .int .u64 2, .int .u64 3] 22 := by subst hW; (repeat' (first | (with_reducible assumption) | (with_reducible apply Blk.drew) | (with_reducible apply Blk.drewN) | (with_reducible apply Blk.set) | (with_reducible apply Blk.other) | (exact Blk.new' _ _ _ (by first | rfl | (simp; done) | (simp; omega))) | (with_reducible apply Blk.alloc) | (with_reducible rfl) | (simp; done) | (simp; omega) | omega | rfl))
  clear hW
  refine (are_at (xs := [1, 2, 3]) (r := true) (Kd.C_below C8 j8.below) hc8 B8 rfl (by decide) (by kernel_rfl)).mono ?_
  rintro e w9 ⟨rfl, k9⟩
  have h9 := (h8.fr0 j8).fr0 k9
  have f9 := (f8.trans j8 (fun _ _ h => h)).trans k9 (fun _ _ h => h)
  have z9 := z7
  clear h7 h8 f7 f8 z7 k8 k9 j8 B8 C8 hc8
  go_wp2_with fail
  refine (pop_at h9).mono ?_
  rintro e w10 ⟨rfl, v10, h10, q10, k10⟩
  rw [show popL [⟨1, 0, 4⟩, ⟨2, 0, 5⟩, ⟨3, 0, 7⟩] = [⟨2, 0, 5⟩, ⟨3, 0, 7⟩] by kernel_rfl] at h10
  rw [show popX [⟨1, 0, 4⟩, ⟨2, 0, 5⟩, ⟨3, 0, 7⟩] = ⟨1, 0, 4⟩ by kernel_rfl, show popE [⟨1, 0, 4⟩, ⟨2, 0, 5⟩, ⟨3, 0, 7⟩] = 0 by kernel_rfl]
  have z10 := z9.next q10 f9.size
  have f10 := f9.fz z9 k10
  clear h9 z9 f9 q10 k10
  go_wp2_with fail
  generalize hW : World.alloc w10 _ = W10
  have j10 : Fr (fun _ => False) w10 W10 := by subst hW; (repeat' (first | (with_reducible exact Fr.refl _ _) | (with_reducible assumption) | (with_reducible refine Fr.alloc ?_ _) | (with_reducible refine Fr.drew ?_) | (with_reducible refine Fr.drewN ?_ _) | (with_reducible refine Fr.setCell ?_ _ _ ?_) | (exact Or.inr rfl) | (left; simp; done) | (left; simp; omega) | (simp; done) | (simp; omega) | omega))
  have BX : Blk W10 w10.heap.size #[.int .u64 1, .int .u64 0, .int .i64 4] 24 := by subst hW; (repeat' (first | (with_reducible assumption) | (with_reducible apply Blk.drew) | (with_reducible apply Blk.drewN) | (with_reducible apply Blk.set) | (with_reducible apply Blk.other) | (exact Blk.new' _ _ _ (by first | rfl | (simp; done) | (simp; omega))) | (with_reducible apply Blk.alloc) | (with_reducible rfl) | (simp; done) | (simp; omega) | omega | rfl))
  clear hW
  refine (rem_at (h10.fr0 j10) (id := 8) (by kernel_rfl)).mono ?_
  rintro e w11 ⟨rfl, v11, h11, q11, k11⟩
  rw [show remL [⟨2, 0, 5⟩, ⟨3, 0, 7⟩] 8 = [⟨2, 0, 5⟩, ⟨3, 0, 7⟩] by kernel_rfl] at h11
  rw [show remX [⟨2, 0, 5⟩, ⟨3, 0, 7⟩] 8 = ⟨0, 0, 0⟩ by kernel_rfl, show remE [⟨2, 0, 5⟩, ⟨3, 0, 7⟩] 8 = 6 by kernel_rfl]
  replace BX := BX.fr k11 (fun e => by have := h10.lt _ e; omega)
  have z11 := z10.next q11 (f10.trans j10 (fun _ _ h => h)).size
  have f11 := (f10.trans j10 (fun _ _ h => h)).fz z10 k11
  clear h10 z10 f10 q11 k11 j10
  obtain ⟨x0, x1, x2, _⟩ := BX.c3
  have lx0 := BX.lt
  have lx := lt8 BX.lt
  go_wp2_with fail
  generalize hW : World.alloc w11 _ = W11
  have j11 : Fr (fun _ => False) w11 W11 := by subst hW; (repeat' (first | (with_reducible exact Fr.refl _ _) | (with_reducible assumption) | (with_reducible refine Fr.alloc ?_ _) | (with_reducible refine Fr.drew ?_) | (with_reducible refine Fr.drewN ?_ _) | (with_reducible refine Fr.setCell ?_ _ _ ?_) | (exact Or.inr rfl) | (left; simp; done) | (left; simp; omega) | (simp; done) | (simp; omega) | omega))
  clear hW x0 x1 x2 lx lx0
  have h0 := h11.fr0 j11
  have f0 := f11.trans j11 (fun _ _ h => h)
  refine (row_at h0).mono ?_
  rintro e w20 ⟨A20, c20, rfl, hc20, C20, k20⟩
  have h20 := h0.fr0 k20
  have f20 := f0.trans k20 (fun _ _ h => h)
  go_wp2_with fail
  generalize hW : World.alloc w20 _ = W20
  have j20 : Fr (fun _ => False) w20 W20 := by subst hW; (repeat' (first | (with_reducible exact Fr.refl _ _) | (with_reducible assumption) | (with_reducible refine Fr.alloc ?_ _) | (with_reducible refine Fr.drew ?_) | (with_reducible refine Fr.drewN ?_ _) | (with_reducible refine Fr.setCell ?_ _ _ ?_) | (exact Or.inr rfl) | (left; simp; done) | (left; simp; omega) | (simp; done) | (simp; omega) | omega))
  have B20 : Blk W20 w20.heap.size #[.int .u64 2, .int .u64 3] 22 := by subst hW; (repeat' (first | (with_reducible assumption) | (with_reducible apply Blk.drew) | (with_reducible apply Blk.drewN) | (with_reducible apply Blk.set) | (with_reducible apply Blk.other) | (exact Blk.new' _ _ _ (by first | rfl | (simp; done) | (simp; omega))) | (with_reducible apply Blk.alloc) | (with_reducible rfl) | (simp; done) | (simp; omega) | omega | rfl))
  clear hW
  refine (are_at (xs := [2, 3]) (r := true) (Kd.C_below C20 j20.below) hc20 B20 rfl (by decide) (by kernel_rfl)).mono ?_
  rintro e w21 ⟨rfl, k21⟩
  have h21 := (h20.fr0 j20).fr0 k21
  have f21 := (f20.trans j20 (fun _ _ h => h)).trans k21 (fun _ _ h => h)
  go_wp2_with fail
  refine (push_no h21 (x := ⟨3, 0, 0⟩) (ok_of (by kernel_rfl)) (by rw [show pushE [⟨2, 0, 5⟩, ⟨3, 0, 7⟩] 9 ⟨3, 0, 0⟩ = 9 by kernel_rfl]; decide)).mono ?_
  rintro e w22 ⟨rfl, k22⟩
  rw [show pushE [⟨2, 0, 5⟩, ⟨3, 0, 7⟩] 9 ⟨3, 0, 0⟩ = 9 by kernel_rfl]
  go_wp2
  go_ret
  exact ⟨rfl, f21.trans k22 (fun _ _ h => h)⟩
end Go.Proofs.Ytkcfhdnlmdndeaa
