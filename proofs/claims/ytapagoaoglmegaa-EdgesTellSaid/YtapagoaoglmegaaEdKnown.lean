/- EdgesKnown: the walk. -/
import Derived.Test.YtapagoaoglmegaaEdInside
import Derived.Test.YtapagoaoglmegaaEdOrdP
import Derived.WalkLawsBesides
namespace Go.Proofs.Ytapagoaoglmegaa
open Go.RowKit Go.Proofs.YtapagoaoglmegaaW.PrintWords Go.Proofs.YtapagoaoglmegaaW.PrintLast Go.Proofs.YtapagoaoglmegaaW.PrintMore PCl
set_option linter.unusedVariables false
set_option linter.unusedSimpArgs false
set_option maxRecDepth 100000
theorem hz_at {w : World} {A : Option Addr} {n c : Nat} {L : List S24} (hC : Kd.C k24 w A n L) (hn : n = L.length) (hc : n ≤ c) {a b e : Int} (h : hullZ L = (a, b, e)) :
    Calls Try.prog 39 #[.slice A n c] w fun x w' => x = .returned (.tuple #[.int .i64 a, .int .i64 b, .int .i64 e]) ∧ Fr (fun _ => False) w w' := by
  subst hn
  have := hull_at hC hc
  rwa [h] at this
theorem blk_at {w : World} {g : Nat} {cs : Array Value} {t : TypeId} (h : Blk w g cs t) (L : List S24) (hl : (flatS L).toArray = cs) : ∀ i s, L[i]? = some s → AtS w g (0 + i * 3) s := fun i s hi => by
  have key : ∀ j v, j < 3 → (encS s)[j]? = some v → w.cell? ⟨g, 0 + i * 3 + j, none⟩ = some v := by
    intro j v hj hv
    rw [h.cell, ← hl]
    have hf := flatS_get L i j s hi hj
    rw [hv] at hf
    simpa using hf
  exact ⟨key 0 _ (by omega) rfl, key 1 _ (by omega) rfl, key 2 _ (by omega) rfl⟩
theorem blk_C {w : World} {g : Nat} {cs : Array Value} {t : TypeId} (h : Blk w g cs t) (L : List S24) (hl : (flatS L).toArray = cs) (hs : L.length ≤ 100) : Kd.C k24 w (some ⟨g, 0, none⟩) L.length L := C24_of (by omega) (blk_at h L hl)
theorem EnV.cell {B : Nat} {w : World} {v : Value} {E : List (Nat × Bool)} (h : EnV B w v E) (h0 : 0 < E.length) : ∃ g cap, v = .slice (some ⟨g, 0, none⟩) E.length cap ∧ g < w.heap.size ∧ ∀ (i : Nat) r b, E[i]? = some (r, b) → w.cell? ⟨g, i, none⟩ = some (.complex .f64 (flE (r : Int)) (imE b)) := by
  rcases h with ⟨_, e⟩ | ⟨g, c, l, rfl, _, hm, hc⟩
  · rw [e] at h0; simp at h0
  · refine ⟨g, c, rfl, hc.2, fun i r b hi => ?_⟩
    rw [← hm, List.getElem?_map] at hi
    obtain ⟨x, hx, e⟩ := Option.map_eq_some_iff.1 hi
    have := hc.cell hx
    unfold encE at this
    injection e with e1 e2
    rw [e1, e2] at this
    exact this
theorem made_at {w : World} {g n : Nat} {t : TypeId} (h : Blk w g (Array.replicate (n * 3) (.int .i64 0)) t) : ∀ i s, (List.replicate n z24)[i]? = some s → AtS w g (0 + i * 3) s := fun i s hi => by
  have hil := (List.getElem?_eq_some_iff.1 hi).1
  simp at hil
  rw [List.getElem?_replicate, if_pos hil] at hi
  injection hi with hi
  subst hi
  have key : ∀ j, j < 3 → w.cell? ⟨g, 0 + i * 3 + j, none⟩ = some (.int .i64 0) := fun j hj => by
    rw [h.cell, Array.getElem?_replicate, if_pos (by omega)]
  exact ⟨key 0 (by omega), key 1 (by omega), key 2 (by omega)⟩
theorem srt2 : srtE [⟨0, 7, 9⟩, ⟨0, 9, 9⟩] = [7, 9, 9, 9] := by
  unfold srtE plE
  simp [List.mergeSort, List.merge, List.MergeSort.Internal.splitInTwo]
theorem pos2 : posE [⟨0, 7, 9⟩, ⟨0, 9, 9⟩] = [7, 9] := by
  unfold posE
  rw [srt2]
  kernel_rfl
theorem end2 : endE [⟨0, 7, 9⟩, ⟨0, 9, 9⟩] = [(0, true), (1, true), (1, false), (1, false)] := by
  unfold endE
  rw [pos2, show unE [7, 9] [⟨0, 7, 9⟩, ⟨0, 9, 9⟩] = [(0, true), (1, false), (1, true), (1, false)] by kernel_rfl]
  simp [List.mergeSort, List.merge, List.MergeSort.Internal.splitInTwo, leE]
set_option maxHeartbeats 16000000 in
theorem edgesKnown_walk (w : World) : Calls Try.prog 14 #[] w fun e w' => e = .returned (.bool true) ∧ Fr (fun _ => False) w w' := by
  obtain ⟨i0, hi0, hz0, hsz0, hby0⟩ : ∃ i0, Try.prog.info? 24 = some i0 ∧ i0.zero = some (.agg #[.int .i64 0, .int .i64 0, .int .i64 0]) ∧ i0.size = 3 ∧ i0.bytes = 24 := by
    obtain ⟨i0, h1, h2⟩ := Option.map_eq_some_iff.1 infoS
    simp only [Prod.mk.injEq] at h2
    exact ⟨i0, h1, h2.1, h2.2.1, h2.2.2⟩
  have o0 : FloatKind.f64.format.order 0 0 = some .eq := by kernel_rfl
  have o1 : FloatKind.f64.format.order 4607182418800017408 4607182418800017408 = some .eq := by kernel_rfl
  have o2 : FloatKind.f64.format.order 13830554455654793216 13830554455654793216 = some .eq := by kernel_rfl
  go_enter Try.func14, Try.ntmps14
  go_wp2_with fail
  refine (hz_at (L := []) ⟨rfl, by simp, fun h => absurd h (by simp)⟩ rfl (Nat.le_refl _) (show hullZ [] = (0, 0, 33) by kernel_rfl)).mono ?_
  rintro e w1 ⟨rfl, F1⟩
  go_wp2_with fail
  generalize hW : World.alloc w1 _ = v1
  have g1 : Fr (fun _ => False) w1 v1 := by subst hW; (repeat' (first | (with_reducible exact Fr.refl _ _) | (with_reducible assumption) | (with_reducible refine Fr.alloc ?_ _) | (with_reducible refine Fr.drew ?_) | (with_reducible refine Fr.drewN ?_ _) | (with_reducible refine Fr.setCell ?_ _ _ ?_) | (exact Or.inr rfl) | (left; simp; done) | (left; simp; omega) | (simp; done) | (simp; omega) | omega))
  have b1 : Blk v1 w1.heap.size #[.int .i64 0, .int .i64 2, .int .i64 1] 24 := by subst hW; (repeat' (first | (with_reducible assumption) | (with_reducible apply Blk.drew) | (with_reducible apply Blk.drewN) | (with_reducible apply Blk.set) | (with_reducible apply Blk.other) | (exact Blk.new' _ _ _ (by first | rfl | (simp; done) | (simp; omega))) | (with_reducible apply Blk.alloc) | (with_reducible rfl) | (simp; done) | (simp; omega) | omega | rfl))
  clear hW
  refine (hz_at (blk_C b1 [⟨0, 2, 1⟩] rfl (by decide)) rfl (Nat.le_refl _) (show hullZ [⟨0, 2, 1⟩] = (0, 0, 1) by kernel_rfl)).mono ?_
  rintro e w2 ⟨rfl, k2⟩
  have F2 := (F1.trans g1 (fun _ _ h => h)).trans k2 (fun _ _ h => h)
  clear F1 g1 b1
  go_wp2_with fail
  generalize hW : World.alloc w2 _ = v2
  have g2 : Fr (fun _ => False) w2 v2 := by subst hW; (repeat' (first | (with_reducible exact Fr.refl _ _) | (with_reducible assumption) | (with_reducible refine Fr.alloc ?_ _) | (with_reducible refine Fr.drew ?_) | (with_reducible refine Fr.drewN ?_ _) | (with_reducible refine Fr.setCell ?_ _ _ ?_) | (exact Or.inr rfl) | (left; simp; done) | (left; simp; omega) | (simp; done) | (simp; omega) | omega))
  have b2 : Blk v2 w2.heap.size #[.int .i64 0, .int .i64 (-1), .int .i64 1] 24 := by subst hW; (repeat' (first | (with_reducible assumption) | (with_reducible apply Blk.drew) | (with_reducible apply Blk.drewN) | (with_reducible apply Blk.set) | (with_reducible apply Blk.other) | (exact Blk.new' _ _ _ (by first | rfl | (simp; done) | (simp; omega))) | (with_reducible apply Blk.alloc) | (with_reducible rfl) | (simp; done) | (simp; omega) | omega | rfl))
  clear hW
  refine (hz_at (blk_C b2 [⟨0, (-1), 1⟩] rfl (by decide)) rfl (Nat.le_refl _) (show hullZ [⟨0, (-1), 1⟩] = (0, 0, 1) by kernel_rfl)).mono ?_
  rintro e w3 ⟨rfl, k3⟩
  have F3 := (F2.trans g2 (fun _ _ h => h)).trans k3 (fun _ _ h => h)
  clear F2 g2 b2
  go_wp2_with fail
  generalize hW : World.alloc w3 _ = v3
  have g3 : Fr (fun _ => False) w3 v3 := by subst hW; (repeat' (first | (with_reducible exact Fr.refl _ _) | (with_reducible assumption) | (with_reducible refine Fr.alloc ?_ _) | (with_reducible refine Fr.drew ?_) | (with_reducible refine Fr.drewN ?_ _) | (with_reducible refine Fr.setCell ?_ _ _ ?_) | (exact Or.inr rfl) | (left; simp; done) | (left; simp; omega) | (simp; done) | (simp; omega) | omega))
  have b3 : Blk v3 w3.heap.size #[.int .i64 0, .int .i64 0, .int .i64 4611686018427387905] 24 := by subst hW; (repeat' (first | (with_reducible assumption) | (with_reducible apply Blk.drew) | (with_reducible apply Blk.drewN) | (with_reducible apply Blk.set) | (with_reducible apply Blk.other) | (exact Blk.new' _ _ _ (by first | rfl | (simp; done) | (simp; omega))) | (with_reducible apply Blk.alloc) | (with_reducible rfl) | (simp; done) | (simp; omega) | omega | rfl))
  clear hW
  refine (hz_at (blk_C b3 [⟨0, 0, 4611686018427387905⟩] rfl (by decide)) rfl (Nat.le_refl _) (show hullZ [⟨0, 0, 4611686018427387905⟩] = (0, 0, 1) by kernel_rfl)).mono ?_
  rintro e w4 ⟨rfl, k4⟩
  have F4 := (F3.trans g3 (fun _ _ h => h)).trans k4 (fun _ _ h => h)
  clear F3 g3 b3
  have hmk := run_makeSlice (P := Try.prog) w4 63 24 i0 _ Try.underlying63 hi0 hz0 .i64 .i64 17 17 (by omega) (by omega) (by rw [hsz0]; decide) (by rw [hby0]; decide) (by omega)
  rw [hsz0] at hmk
  have hmc : madeCells (Value.agg #[.int .i64 0, .int .i64 0, .int .i64 0]).cells (Int.toNat 17 * 3) = Array.replicate (17 * 3) (.int .i64 0) := by kernel_rfl
  rw [hmc] at hmk
  clear hmc
  go_wp2_with (simp only [hmk])
  generalize hW : World.alloc w4 _ = v4
  have g4 : Fr (fun _ => False) w4 v4 := by subst hW; (repeat' (first | (with_reducible exact Fr.refl _ _) | (with_reducible assumption) | (with_reducible refine Fr.alloc ?_ _) | (with_reducible refine Fr.drew ?_) | (with_reducible refine Fr.drewN ?_ _) | (with_reducible refine Fr.setCell ?_ _ _ ?_) | (exact Or.inr rfl) | (left; simp; done) | (left; simp; omega) | (simp; done) | (simp; omega) | omega))
  have b4 : Blk v4 w4.heap.size (Array.replicate (17 * 3) (.int .i64 0)) 24 := by subst hW; exact Blk.new _ _ _
  clear hW hmk
  refine (hz_at (L := List.replicate 17 z24) (C24_of (by decide) (made_at b4)) rfl (Nat.le_refl _) (show hullZ (List.replicate 17 z24) = (0, 0, 1) by kernel_rfl)).mono ?_
  rintro e w5 ⟨rfl, k5⟩
  have F5 := (F4.trans g4 (fun _ _ h => h)).trans k5 (fun _ _ h => h)
  clear F4 g4 b4
  have hmk := run_makeSlice (P := Try.prog) w5 63 24 i0 _ Try.underlying63 hi0 hz0 .i64 .i64 16 16 (by omega) (by omega) (by rw [hsz0]; decide) (by rw [hby0]; decide) (by omega)
  rw [hsz0] at hmk
  have hmc : madeCells (Value.agg #[.int .i64 0, .int .i64 0, .int .i64 0]).cells (Int.toNat 16 * 3) = Array.replicate (16 * 3) (.int .i64 0) := by kernel_rfl
  rw [hmc] at hmk
  clear hmc
  go_wp2_with (simp only [hmk])
  generalize hW : World.alloc w5 _ = v5
  have g5 : Fr (fun _ => False) w5 v5 := by subst hW; (repeat' (first | (with_reducible exact Fr.refl _ _) | (with_reducible assumption) | (with_reducible refine Fr.alloc ?_ _) | (with_reducible refine Fr.drew ?_) | (with_reducible refine Fr.drewN ?_ _) | (with_reducible refine Fr.setCell ?_ _ _ ?_) | (exact Or.inr rfl) | (left; simp; done) | (left; simp; omega) | (simp; done) | (simp; omega) | omega))
  have b5 : Blk v5 w5.heap.size (Array.replicate (16 * 3) (.int .i64 0)) 24 := by subst hW; exact Blk.new _ _ _
  clear hW hmk
  refine (hz_at (L := List.replicate 16 z24) (C24_of (by decide) (made_at b5)) rfl (Nat.le_refl _) (show hullZ (List.replicate 16 z24) = (0, 0, 0) by kernel_rfl)).mono ?_
  rintro e w6 ⟨rfl, k6⟩
  have F6 := (F5.trans g5 (fun _ _ h => h)).trans k6 (fun _ _ h => h)
  clear F5 g5 b5
  go_wp2_with fail
  generalize hW : World.alloc w6 _ = v6
  have g6 : Fr (fun _ => False) w6 v6 := by subst hW; (repeat' (first | (with_reducible exact Fr.refl _ _) | (with_reducible assumption) | (with_reducible refine Fr.alloc ?_ _) | (with_reducible refine Fr.drew ?_) | (with_reducible refine Fr.drewN ?_ _) | (with_reducible refine Fr.setCell ?_ _ _ ?_) | (exact Or.inr rfl) | (left; simp; done) | (left; simp; omega) | (simp; done) | (simp; omega) | omega))
  have b6 : Blk v6 w6.heap.size #[.int .i64 0, .int .i64 5, .int .i64 4611686018427387904] 24 := by subst hW; (repeat' (first | (with_reducible assumption) | (with_reducible apply Blk.drew) | (with_reducible apply Blk.drewN) | (with_reducible apply Blk.set) | (with_reducible apply Blk.other) | (exact Blk.new' _ _ _ (by first | rfl | (simp; done) | (simp; omega))) | (with_reducible apply Blk.alloc) | (with_reducible rfl) | (simp; done) | (simp; omega) | omega | rfl))
  clear hW
  refine (hz_at (blk_C b6 [⟨0, 5, 4611686018427387904⟩] rfl (by decide)) rfl (Nat.le_refl _) (show hullZ [⟨0, 5, 4611686018427387904⟩] = (5, 4611686018427387904, 0) by kernel_rfl)).mono ?_
  rintro e w7 ⟨rfl, k7⟩
  have F7 := (F6.trans g6 (fun _ _ h => h)).trans k7 (fun _ _ h => h)
  clear F6 g6 b6
  go_wp2_with fail
  generalize hW : World.alloc w7 _ = v7
  have g7 : Fr (fun _ => False) w7 v7 := by subst hW; (repeat' (first | (with_reducible exact Fr.refl _ _) | (with_reducible assumption) | (with_reducible refine Fr.alloc ?_ _) | (with_reducible refine Fr.drew ?_) | (with_reducible refine Fr.drewN ?_ _) | (with_reducible refine Fr.setCell ?_ _ _ ?_) | (exact Or.inr rfl) | (left; simp; done) | (left; simp; omega) | (simp; done) | (simp; omega) | omega))
  have b7 : Blk v7 w7.heap.size #[.int .i64 0, .int .i64 4611686018427387903, .int .i64 4611686018427387904, .int .i64 0, .int .i64 4611686018427387902, .int .i64 4611686018427387903] 24 := by subst hW; (repeat' (first | (with_reducible assumption) | (with_reducible apply Blk.drew) | (with_reducible apply Blk.drewN) | (with_reducible apply Blk.set) | (with_reducible apply Blk.other) | (exact Blk.new' _ _ _ (by first | rfl | (simp; done) | (simp; omega))) | (with_reducible apply Blk.alloc) | (with_reducible rfl) | (simp; done) | (simp; omega) | omega | rfl))
  clear hW
  refine (hz_at (blk_C b7 [⟨0, 4611686018427387903, 4611686018427387904⟩, ⟨0, 4611686018427387902, 4611686018427387903⟩] rfl (by decide)) rfl (Nat.le_refl _) (show hullZ [⟨0, 4611686018427387903, 4611686018427387904⟩, ⟨0, 4611686018427387902, 4611686018427387903⟩] = (4611686018427387903, 4611686018427387903, 0) by kernel_rfl)).mono ?_
  rintro e w8 ⟨rfl, k8⟩
  have F8 := (F7.trans g7 (fun _ _ h => h)).trans k8 (fun _ _ h => h)
  clear F7 g7 b7
  go_wp2_with fail
  generalize hW : World.alloc w8 _ = v8
  have g8 : Fr (fun _ => False) w8 v8 := by subst hW; (repeat' (first | (with_reducible exact Fr.refl _ _) | (with_reducible assumption) | (with_reducible refine Fr.alloc ?_ _) | (with_reducible refine Fr.drew ?_) | (with_reducible refine Fr.drewN ?_ _) | (with_reducible refine Fr.setCell ?_ _ _ ?_) | (exact Or.inr rfl) | (left; simp; done) | (left; simp; omega) | (simp; done) | (simp; omega) | omega))
  have b8 : Blk v8 w8.heap.size #[.int .i64 0, .int .i64 7, .int .i64 9, .int .i64 0, .int .i64 9, .int .i64 9] 24 := by subst hW; (repeat' (first | (with_reducible assumption) | (with_reducible apply Blk.drew) | (with_reducible apply Blk.drewN) | (with_reducible apply Blk.set) | (with_reducible apply Blk.other) | (exact Blk.new' _ _ _ (by first | rfl | (simp; done) | (simp; omega))) | (with_reducible apply Blk.alloc) | (with_reducible rfl) | (simp; done) | (simp; omega) | omega | rfl))
  clear hW
  refine (ends_at (blk_C b8 [⟨0, 7, 9⟩, ⟨0, 9, 9⟩] rfl (by decide)) (Nat.le_refl _) (by decide)).mono ?_
  rintro e w9 ⟨ve, rfl, he, k9⟩
  have F9 := (F8.trans g8 (fun _ _ h => h)).trans k9 (fun _ _ h => h)
  rw [end2] at he
  obtain ⟨ge, ce, rfl, hge, hec⟩ := he.cell (by decide)
  have y0 := (hec 0 _ _ rfl).trans (show some (Value.complex .f64 (flE ((0 : Nat) : Int)) (imE true)) = some (.complex .f64 0 4607182418800017408) by kernel_rfl)
  have y1 := (hec 1 _ _ rfl).trans (show some (Value.complex .f64 (flE ((1 : Nat) : Int)) (imE true)) = some (.complex .f64 4607182418800017408 4607182418800017408) by kernel_rfl)
  have y2 := (hec 2 _ _ rfl).trans (show some (Value.complex .f64 (flE ((1 : Nat) : Int)) (imE false)) = some (.complex .f64 4607182418800017408 13830554455654793216) by kernel_rfl)
  have y3 := (hec 3 _ _ rfl).trans (show some (Value.complex .f64 (flE ((1 : Nat) : Int)) (imE false)) = some (.complex .f64 4607182418800017408 13830554455654793216) by kernel_rfl)
  clear F8 g8 b8 k9 he hec
  have YS := hidE (And.intro y0 (And.intro y1 (And.intro y2 y3)))
  have HG := hidE hge
  clear y0 y1 y2 y3 hge
  go_wp2_with fail
  generalize hW : World.alloc w9 _ = v9
  have g9 : Fr (fun _ => False) w9 v9 := by subst hW; (repeat' (first | (with_reducible exact Fr.refl _ _) | (with_reducible assumption) | (with_reducible refine Fr.alloc ?_ _) | (with_reducible refine Fr.drew ?_) | (with_reducible refine Fr.drewN ?_ _) | (with_reducible refine Fr.setCell ?_ _ _ ?_) | (exact Or.inr rfl) | (left; simp; done) | (left; simp; omega) | (simp; done) | (simp; omega) | omega))
  have b9 : Blk v9 w9.heap.size #[.int .i64 0, .int .i64 1, .int .i64 2, .int .i64 0, .int .i64 2, .int .i64 3, .int .i64 0, .int .i64 5, .int .i64 6, .int .i64 0, .int .i64 1, .int .i64 6, .int .i64 0, .int .i64 5, .int .i64 9] 24 := by subst hW; (repeat' (first | (with_reducible assumption) | (with_reducible apply Blk.drew) | (with_reducible apply Blk.drewN) | (with_reducible apply Blk.set) | (with_reducible apply Blk.other) | (exact Blk.new' _ _ _ (by first | rfl | (simp; done) | (simp; omega))) | (with_reducible apply Blk.alloc) | (with_reducible rfl) | (simp; done) | (simp; omega) | omega | rfl))
  clear hW
  refine (hz_at (blk_C b9 [⟨0, 1, 2⟩, ⟨0, 2, 3⟩, ⟨0, 5, 6⟩, ⟨0, 1, 6⟩, ⟨0, 5, 9⟩] rfl (by decide)) rfl (Nat.le_refl _) (show hullZ [⟨0, 1, 2⟩, ⟨0, 2, 3⟩, ⟨0, 5, 6⟩, ⟨0, 1, 6⟩, ⟨0, 5, 9⟩] = (2, 6, 0) by kernel_rfl)).mono ?_
  rintro e w10 ⟨rfl, k10⟩
  have fy := g9.trans k10 (fun _ _ h => h)
  have F10 := F9.trans fy (fun _ _ h => h)
  have y0 := (fy.cell (a := ⟨ge, 0, none⟩) HG.out (fun h => h)).trans YS.out.1
  have y1 := (fy.cell (a := ⟨ge, 1, none⟩) HG.out (fun h => h)).trans YS.out.2.1
  have y2 := (fy.cell (a := ⟨ge, 2, none⟩) HG.out (fun h => h)).trans YS.out.2.2.1
  have y3 := (fy.cell (a := ⟨ge, 3, none⟩) HG.out (fun h => h)).trans YS.out.2.2.2
  clear F9 g9 b9 k10 fy YS HG
  go_wp2_with fail
  refine (depth_at (L := []) ⟨rfl, by simp, fun h => absurd h (by simp)⟩ (Nat.le_refl _) (by decide) 5).mono ?_
  rintro e w11 ⟨rfl, k11⟩
  rw [show depE [] 5 = 0 from rfl]
  have F11 := F10.trans k11 (fun _ _ h => h)
  clear F10 k11 y0 y1 y2 y3
  go_wp2_with fail
  generalize hW : World.alloc w11 _ = v11
  have g11 : Fr (fun _ => False) w11 v11 := by subst hW; (repeat' (first | (with_reducible exact Fr.refl _ _) | (with_reducible assumption) | (with_reducible refine Fr.alloc ?_ _) | (with_reducible refine Fr.drew ?_) | (with_reducible refine Fr.drewN ?_ _) | (with_reducible refine Fr.setCell ?_ _ _ ?_) | (exact Or.inr rfl) | (left; simp; done) | (left; simp; omega) | (simp; done) | (simp; omega) | omega))
  have b11 : Blk v11 w11.heap.size #[.int .i64 0, .int .i64 1, .int .i64 3] 24 := by subst hW; (repeat' (first | (with_reducible assumption) | (with_reducible apply Blk.drew) | (with_reducible apply Blk.drewN) | (with_reducible apply Blk.set) | (with_reducible apply Blk.other) | (exact Blk.new' _ _ _ (by first | rfl | (simp; done) | (simp; omega))) | (with_reducible apply Blk.alloc) | (with_reducible rfl) | (simp; done) | (simp; omega) | omega | rfl))
  clear hW
  refine (inside_at (blk_C b11 [⟨0, 1, 3⟩] rfl (by decide)) (Nat.le_refl _) (by decide) 4 9).mono ?_
  rintro e w12 ⟨v12', rfl, he, k12⟩
  have F12 := (F11.trans g11 (fun _ _ h => h)).trans k12 (fun _ _ h => h)
  rw [show insZ [⟨0, 1, 3⟩] 4 9 = [] by kernel_rfl] at he
  obtain ⟨A12, c12, rfl⟩ : ∃ A c, v12' = .slice A 0 c := by
    rcases he with ⟨e, e2⟩ | ⟨g, c, e, _⟩
    · first | (exact ⟨none, 0, e⟩; done) | cases e2
    · exact ⟨_, c, e⟩
  clear F11 g11 b11 k12 he
  go_wp2_with fail
  generalize hW : World.alloc w12 _ = v12
  have g12 : Fr (fun _ => False) w12 v12 := by subst hW; (repeat' (first | (with_reducible exact Fr.refl _ _) | (with_reducible assumption) | (with_reducible refine Fr.alloc ?_ _) | (with_reducible refine Fr.drew ?_) | (with_reducible refine Fr.drewN ?_ _) | (with_reducible refine Fr.setCell ?_ _ _ ?_) | (exact Or.inr rfl) | (left; simp; done) | (left; simp; omega) | (simp; done) | (simp; omega) | omega))
  have b12 : Blk v12 w12.heap.size #[.int .i64 0, .int .i64 1, .int .i64 3] 24 := by subst hW; (repeat' (first | (with_reducible assumption) | (with_reducible apply Blk.drew) | (with_reducible apply Blk.drewN) | (with_reducible apply Blk.set) | (with_reducible apply Blk.other) | (exact Blk.new' _ _ _ (by first | rfl | (simp; done) | (simp; omega))) | (with_reducible apply Blk.alloc) | (with_reducible rfl) | (simp; done) | (simp; omega) | omega | rfl))
  clear hW
  refine (inside_at (blk_C b12 [⟨0, 1, 3⟩] rfl (by decide)) (Nat.le_refl _) (by decide) 3 9).mono ?_
  rintro e w13 ⟨v13', rfl, he, k13⟩
  have F13 := (F12.trans g12 (fun _ _ h => h)).trans k13 (fun _ _ h => h)
  rw [show insZ [⟨0, 1, 3⟩] 3 9 = [0] by kernel_rfl] at he
  obtain ⟨A13, c13, rfl⟩ : ∃ A c, v13' = .slice A 1 c := by
    rcases he with ⟨e, e2⟩ | ⟨g, c, e, _⟩
    · first | (exact ⟨none, 0, e⟩; done) | cases e2
    · exact ⟨_, c, e⟩
  clear F12 g12 b12 k13 he
  go_wp2_with fail
  refine (alive_at _).mono ?_
  rintro e w99 ⟨rfl, k99⟩
  go_wp2
  go_ret
  exact ⟨rfl, F13.trans k99 (fun _ _ h => h)⟩
end Go.Proofs.Ytapagoaoglmegaa
