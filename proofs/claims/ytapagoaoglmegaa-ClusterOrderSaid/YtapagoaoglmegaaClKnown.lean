/- ClusterKnown: the walk of the law. -/
import Derived.Test.YtapagoaoglmegaaClPrunePlain
import Derived.Test.YtapagoaoglmegaaClAwake
namespace Go.Proofs.Ytapagoaoglmegaa
open Go.RowKit Go.Proofs.YtapagoaoglmegaaW.PrintWords Go.Proofs.YtapagoaoglmegaaW.PrintLast Go.Proofs.YtapagoaoglmegaaW.PrintMore PCl
set_option linter.unusedVariables false
set_option linter.unusedSimpArgs false
set_option maxRecDepth 100000
def fourZ (j : Int) : List S27 := [⟨0, ⟨0, 0, 200⟩, j⟩, ⟨1, ⟨0, 2, 202⟩, j⟩, ⟨2, ⟨0, 4, 204⟩, j⟩, ⟨3, ⟨0, 100, 300⟩, j⟩]
def twoZ : List S27 := [⟨0, ⟨0, 0, 200⟩, 5⟩, ⟨0, ⟨0, 2, 202⟩, 5⟩]
def apartZ : List S27 := [⟨0, ⟨0, 0, 200⟩, 5⟩, ⟨1, ⟨0, 2, 202⟩, 5⟩, ⟨2, ⟨1, 4, 204⟩, 5⟩, ⟨3, ⟨0, 100, 300⟩, 5⟩]
theorem p1 : pruneZ twoZ ⟨0, 0, 300⟩ = ([], 1) := by kernel_rfl
theorem p2 : pruneZ apartZ ⟨0, 0, 300⟩ = ([], 1) := by kernel_rfl
theorem p3 : pruneZ (fourZ 5) ⟨1, 0, 300⟩ = ([], 1) := by kernel_rfl
theorem p4 : pruneZ (fourZ (-1)) ⟨0, 0, 300⟩ = ([], 1) := by kernel_rfl
theorem p5 : pruneZ [] ⟨0, 0, 300⟩ = ([], 33) := by kernel_rfl
theorem p6 : pruneZ (fourZ 5) ⟨0, 1000, 2000⟩ = ([], 33) := by kernel_rfl
theorem p7 : pruneZ (fourZ 5) ⟨0, 2, 1⟩ = ([], 1) := by kernel_rfl
theorem p8 : pruneZ [⟨3, ⟨0, 100, 300⟩, 5⟩] ⟨0, 0, 300⟩ = ([⟨3, ⟨0, 100, 300⟩, 5⟩], 0) := by kernel_rfl
theorem who_of {l : List S27} (h : l.all (fun c => (Lit.int .i64 c.f0).wf) = true) : WhoWf l := by
 intro c hc; exact List.all_eq_true.1 h c hc
theorem four5 : ephemerislaw23_four.f 10 5 = some (fourZ 5) := by kernel_rfl
theorem fourM : ephemerislaw23_four.f 10 (-1) = some (fourZ (-1)) := by kernel_rfl
theorem pr_at {W : World} {A : Option Addr} {n c : Nat} {l : List S27} {h : S24} {r : List S27} {e : Int} (hC : Kd.C k27 W A n l) (hn : n = l.length) (hc : n ≤ c) (hw : WhoWf l) (hp : pruneZ l h = (r, e)) :
  Calls Try.prog 16 #[.slice A n c, .agg #[.int .i64 h.f0, .int .i64 h.f1, .int .i64 h.f2]] W fun x w' => ∃ v, x = .returned (.tuple #[v, .int .i64 e]) ∧ Kd.R k27 27 w' W.heap.size (fun _ => True) v r ∧ Fr (fun _ => False) W w' := by
 subst hn
 refine (cluster_Prune.calls A c l h.f0 h.f1 h.f2 r e W hC hc (by rw [pruneZ_f hw, hp])).mono ?_
 rintro x w' ⟨v, rfl, h1, h2⟩
 exact ⟨v, rfl, h1, Fr.of_below h2 (Nat.le_refl _) _⟩
theorem four_at (j : Int) (h : ephemerislaw23_four.f 10 j = some (fourZ j)) (W : World) :
  Calls Try.prog 31 #[.int .i64 j] W fun x w' => ∃ g cap, x = .returned (.slice (some ⟨g, 0, none⟩) 4 cap) ∧ 4 ≤ cap ∧ cap ≤ maxLen ∧ W.heap.size ≤ g ∧ Row w' g cap (fourZ j) ∧ Fr (fun _ => False) W w' := by
 refine (ephemerislaw23_four.calls 10 j _ W h).mono ?_
 rintro x w' ⟨v, rfl, h1, h2⟩
 rcases Row.of_R h1 with ⟨_, e⟩ | ⟨g, cap, rfl, hg, hm, hr⟩
 ·cases e
 ·exact ⟨g, cap, rfl, hr.len, hm, hg, hr, Fr.of_below h2 (Nat.le_refl _) _⟩
theorem awk_at (W : World) : Calls Try.prog 26 #[] W fun e w' => e = .returned (.bool true) ∧ Fr (fun _ => False) W w' :=
 (ephemerislaw23_awake.calls 30 true W (awake_f 30 (by omega))).mono fun _ _ q => ⟨q.1, Fr.of_below q.2 (Nat.le_refl _) _⟩
/-- One cell of a candidate is laid. -/
theorem Row.set1 {w : World} {g cap : Nat} {L : List S27} (h : Row w g cap L) {i j : Nat} {c c' : S27} {v : Value} (hi : L[i]? = some c) (hj : j < 5) (he : encC c' = (encC c).set j v) : Row (w.setCell ⟨g, i * 5 + j, none⟩ v) g cap (L.set i c') := by
 obtain ⟨cur, hb, h1, h2, h3⟩ := h
 have hil := (List.getElem?_eq_some_iff.1 hi).1
 refine ⟨_, hb.set rfl, by simpa using h1, by simpa using h2, fun m d hm q u hq => ?_⟩
 have hq5 : q < 5 := by have := (List.getElem?_eq_some_iff.1 hq).1; simpa [encC] using this
 rw [List.getElem?_set] at hm
 rw [Array.getElem?_setIfInBounds]
 by_cases e : i = m
 ·subst e
  rw [if_pos rfl, if_pos hil] at hm
  obtain rfl := Option.some.inj hm
  rw [he, List.getElem?_set] at hq
  by_cases ej : j = q
  ·subst ej
   rw [if_pos rfl] at hq ⊢
   rw [if_pos (by simp [encC]; omega)] at hq
   rw [if_pos (by omega)]; exact hq
  ·rw [if_neg ej] at hq
   rw [if_neg (by omega)]
   exact h3 i c hi q u hq
 ·rw [if_neg e] at hm
  rw [if_neg (by omega)]
  exact h3 m d hm q u hq
/-- A row from a place on, as the print reads it. -/
theorem Row.dropC {w : World} {g cap i : Nat} {L : List S27} (h : Row w g cap L) (hm : cap ≤ maxLen) : Kd.C k27 w (some ⟨g, i * 5, none⟩) (L.drop i).length (L.drop i) := by
 refine ⟨rfl, by have := h.len; unfold maxLen at hm; simp; omega, fun _ => ⟨_, rfl, fun j p hj => ⟨encC p, rfl, k27_mk w p, fun q u hq => ?_⟩⟩⟩
 obtain ⟨cur, hb, h1, h2, h3⟩ := h
 rw [List.getElem?_drop] at hj
 rw [add_none]
 have hsz : (k27 : Kd S27).sz = 5 := rfl
 refine (hb.cell _).trans ?_
 have := h3 _ p hj q u hq
 rw [hsz]
 rw [show i * 5 + (j * 5 + q) = (i + j) * 5 + q by omega]; exact this
theorem bc3 {w : World} {b : Nat} {x y z : Value} {t : TypeId} (h : Blk w b #[x, y, z] t) : w.cell? ⟨b, 0, none⟩ = some x ∧ w.cell? ⟨b, 1, none⟩ = some y ∧ w.cell? ⟨b, 2, none⟩ = some z ∧ w.frozen? ⟨b, 0, none⟩ = false ∧ w.frozen? ⟨b, 1, none⟩ = false ∧ w.frozen? ⟨b, 2, none⟩ = false :=
 ⟨h.cell 0, h.cell 1, h.cell 2, h.free 0, h.free 1, h.free 2⟩
theorem sp_fr {w0 w w' : World} {b : Nat} {x y z : Value} (k : Fr (fun _ => False) w w') (h : (w.cell? ⟨b, 0, none⟩ = some x ∧ w.cell? ⟨b, 1, none⟩ = some y ∧ w.cell? ⟨b, 2, none⟩ = some z) ∧ Fr (fun _ => False) w0 w) : (w'.cell? ⟨b, 0, none⟩ = some x ∧ w'.cell? ⟨b, 1, none⟩ = some y ∧ w'.cell? ⟨b, 2, none⟩ = some z) ∧ Fr (fun _ => False) w0 w' := by
 obtain ⟨⟨a0, a1, a2⟩, f⟩ := h
 have key : ∀ {g i : Nat} {v : Value}, w.cell? ⟨g, i, none⟩ = some v → w'.cell? ⟨g, i, none⟩ = some v := fun h => (k.cell (World.block_lt_of_cell? w _ h) (fun h => h)).trans h
 exact ⟨⟨key a0, key a1, key a2⟩, f.trans k (fun _ _ h => h)⟩
theorem fr_below {w w' : World} (h : Fr (fun _ => False) w w') : Below w.heap.size w w' := h.below
theorem spr0 : cluster_Spread.f [⟨3, ⟨0, 100, 300⟩, 5⟩] 0 = some 0 := by
 unfold cluster_Spread.f cluster_May.f
 rw [if_pos (who_of rfl)]
 rfl
theorem spr1 : cluster_Spread.f [⟨3, ⟨0, 100, 300⟩, 5⟩] 1 = some 0 := by
 unfold cluster_Spread.f cluster_May.f
 rw [if_pos (who_of rfl)]
 rfl
theorem sprM : cluster_Spread.f [⟨3, ⟨0, 100, 300⟩, 5⟩] (-1) = some 0 := by
 unfold cluster_Spread.f cluster_May.f
 rw [if_pos (who_of rfl)]
 rfl
theorem may0 : cluster_May.f [] = some true := by
 unfold cluster_May.f
 rw [if_pos (who_of rfl)]
 rfl
theorem may17 : cluster_May.f (List.replicate 17 z27) = some false := by
 unfold cluster_May.f
 rw [if_pos (who_of rfl)]
 rfl
theorem worst0 : cluster_Worst.f 10 [] = some (0, false) := by
 unfold cluster_Worst.f cluster_May.f
 rw [if_pos (who_of rfl)]
 rfl
set_option maxHeartbeats 16000000 in
theorem clusterKnown_walk (w : World) : Calls Try.prog 7 #[] w fun e w' => e = .returned (.bool true) ∧ Fr (fun _ => False) w w' := by
 go_enter Try.func7, Try.ntmps7
 go_wp2_with fail
 generalize hW : World.alloc w _ = w1
 have f1 : Fr (fun _ => False) w w1 := by subst hW; (repeat' (first | (with_reducible exact Fr.refl _ _) | (with_reducible assumption) | (with_reducible refine Fr.alloc ?_ _) | (with_reducible refine Fr.drew ?_) | (with_reducible refine Fr.drewN ?_ _) | (with_reducible refine Fr.setCell ?_ _ _ ?_) | (exact Or.inr rfl) | (left; simp; done) | (left; simp; omega) | (simp; done) | (simp; omega) | omega))
 have BH : Blk w1 w.heap.size #[.int .i64 0, .int .i64 0, .int .i64 300] 24 := by subst hW; (repeat' (first | (with_reducible assumption) | (with_reducible apply Blk.drew) | (with_reducible apply Blk.drewN) | (with_reducible apply Blk.set) | (with_reducible apply Blk.other) | (exact Blk.new' _ _ _ (by first | rfl | (simp; done) | (simp; omega))) | (with_reducible apply Blk.alloc) | (with_reducible rfl) | (simp; done) | (simp; omega) | omega | rfl))
 clear hW
 have hw1 := BH.lt
 refine (four_at 5 four5 _).mono ?_
 rintro e w2 ⟨g, cap, rfl, hc4, hcm, hg, hr, k2⟩
 have f2 := f1.trans k2 (fun _ _ h => h)
 replace BH := BH.fr k2 (fun h => h)
 have gH : w.heap.size ≠ g := fun e => by omega
 have hwg : w.heap.size ≤ g := by omega
 have c5 := (hr.at5 (i := 1) rfl).1
 obtain ⟨_, _, q5⟩ := hr.there (o := 5) (by omega)
 have l2 : (2 : Int) ≤ (cap : Int) := by omega
 have l2n : 2 ≤ cap := by omega
 simp at c5
 clear f1 k2
 go_wp2_with fail
 generalize hW : World.setCell w2 _ _ = w3
 have f3 : Fr (fun i => i = g) w2 w3 := by subst hW; (repeat' (first | (with_reducible exact Fr.refl _ _) | (with_reducible assumption) | (with_reducible refine Fr.alloc ?_ _) | (with_reducible refine Fr.drew ?_) | (with_reducible refine Fr.drewN ?_ _) | (with_reducible refine Fr.setCell ?_ _ _ ?_) | (exact Or.inr rfl) | (left; simp; done) | (left; simp; omega) | (simp; done) | (simp; omega) | omega))
 have hr3 : Row w3 g cap twoZ := by subst hW; exact ((hr.take 2).set1 (i := 1) (j := 0) (c' := ⟨0, ⟨0, 2, 202⟩, 5⟩) rfl (by omega) rfl)
 clear hW c5 q5
 have F3 : Fr (fun _ => False) w w3 := f2.trans f3 (fun i hi e => by have e : i = g := e; omega)
 replace BH := BH.fr f3 gH
 clear f3 f2 hr
 refine (four_at 5 four5 _).mono ?_
 rintro e w4 ⟨g', cap', rfl, hc4', hcm', hg', hr', k4⟩
 have hb3 := BH.lt
 replace BH := BH.fr k4 (fun h => h)
 have hr4 := hr3.fr k4 (fun h => h)
 have F4 := F3.trans k4 (fun _ _ h => h)
 have ngg : g ≠ g' := fun e => by have := hr3.lt; omega
 have gH' : w.heap.size ≠ g' := fun e => by have := F3.size; have := BH.lt; omega
 have hwg' : w.heap.size ≤ g' := Nat.le_trans F3.size hg'
 have c11 := (hr'.at5 (i := 2) rfl).2.1
 obtain ⟨_, _, q11⟩ := hr'.there (o := 11) (by omega)
 simp at c11
 obtain ⟨x0, x1, x2, _⟩ := bc3 BH
 clear k4 F3 hr3
 go_wp2_with fail
 generalize hW : World.setCell w4 _ _ = w5
 have f5 : Fr (fun i => i = g') w4 w5 := by subst hW; (repeat' (first | (with_reducible exact Fr.refl _ _) | (with_reducible assumption) | (with_reducible refine Fr.alloc ?_ _) | (with_reducible refine Fr.drew ?_) | (with_reducible refine Fr.drewN ?_ _) | (with_reducible refine Fr.setCell ?_ _ _ ?_) | (exact Or.inr rfl) | (left; simp; done) | (left; simp; omega) | (simp; done) | (simp; omega) | omega))
 have hr5 : Row w5 g' cap' apartZ := by subst hW; exact (hr'.set1 (i := 2) (j := 1) (c' := ⟨2, ⟨1, 4, 204⟩, 5⟩) rfl (by omega) rfl)
 clear hW c11 q11
 have F5 : Fr (fun _ => False) w w5 := F4.trans f5 (fun i hi e => by have e : i = g' := e; omega)
 replace BH := BH.fr f5 gH'
 have hr5a := hr4.fr f5 ngg
 clear f5 F4 hr4 hr'
 refine (pr_at (h := ⟨0, 0, 300⟩) (n := 2) (hr5a.toC hcm) rfl l2n (who_of rfl) p1).mono ?_
 rintro e w6 ⟨v6, rfl, r6, k6⟩
 replace BH := BH.fr k6 (fun h => h)
 have F6 := F5.trans k6 (fun _ _ h => h)
 have hr6 := hr5.fr k6 (fun h => h)
 clear x0 x1 x2 r6 k6 F5 hr5 hr5a
 obtain ⟨x0, x1, x2, _⟩ := bc3 BH
 go_wp2_with fail
 refine (pr_at (h := ⟨0, 0, 300⟩) (n := 4) (hr6.toC hcm') rfl hc4' (who_of rfl) p2).mono ?_
 rintro e w7 ⟨v7, rfl, r7, k7⟩
 replace BH := BH.fr k7 (fun h => h)
 have F7 := F6.trans k7 (fun _ _ h => h)
 clear x0 x1 x2 r7 k7 F6 hr6
 go_wp2_with fail
 refine (four_at 5 four5 _).mono ?_
 rintro e w8 ⟨g8, cap8, rfl, hc8, hcm8, hg8, hr8, k8⟩
 replace BH := BH.fr k8 (fun h => h)
 have F8 := F7.trans k8 (fun _ _ h => h)
 clear k8 F7
 go_wp2_with fail
 refine (pr_at (h := ⟨1, 0, 300⟩) (n := 4) (hr8.toC hcm8) rfl hc8 (who_of rfl) p3).mono ?_
 rintro e w9 ⟨v9, rfl, r9, k9⟩
 replace BH := BH.fr k9 (fun h => h)
 have F9 := F8.trans k9 (fun _ _ h => h)
 obtain ⟨x0, x1, x2, _⟩ := bc3 BH
 clear k9 F8 r9 hr8
 go_wp2_with fail
 have ms9 : (w9.drew.cell? ⟨w.heap.size, 0, none⟩ = some (.int .i64 0) ∧ w9.drew.cell? ⟨w.heap.size, 1, none⟩ = some (.int .i64 0) ∧ w9.drew.cell? ⟨w.heap.size, 2, none⟩ = some (.int .i64 300)) ∧ Fr (fun _ => False) w w9.drew := ⟨⟨x0, x1, x2⟩, F9.trans (Fr.drew (Fr.refl _ _)) (fun _ _ h => h)⟩
 refine start_ (n := 8) (S := fun w' => (w'.cell? ⟨w.heap.size, 0, none⟩ = some (.int .i64 0) ∧ w'.cell? ⟨w.heap.size, 1, none⟩ = some (.int .i64 0) ∧ w'.cell? ⟨w.heap.size, 2, none⟩ = some (.int .i64 300)) ∧ Fr (fun _ => False) w w') (ds := []) #[oN,oN,oN,oN,oN,oN,oN,oN] (by kernel_rfl) rfl rfl ⟨ms9.1, ms9.2⟩ (fun hHeld => ?_)
 refine take_ (i := 1) (N := some 54) (v := ?_) (a' := ?_) #[oN,oY,oN,oN,oN,oN,oN,oN] rfl rfl (by kernel_rfl) (fun _ _ _ h => h) (Or.inl ⟨by rfl, ?_⟩) hHeld ?_ ?_
 rotate_left
 ·rintro w' ⟨s0, s1⟩
  go_simp
  with_reducible rfl
 rotate_left
 ·simp only [Act.put, List.setIfInBounds_toArray, List.set_cons_zero, List.set_cons_succ, i64_w, i32_w]
  rfl
 refine one_ (i := 0) (N := some 53) #[oY,oY,oN,oN,oN,oN,oN,oN] rfl rfl (by kernel_rfl) (by decide) (fun K hK => ?_)
 refine goes_ Try.func31 (by kernel_rfl) rfl #[.int .i64 (-1)] (by rfl) rfl rfl (by simp only [List.map_toArray, List.map_cons, List.map_nil]; rfl) ?_
 refine (four_at (-1) fourM _).mono ?_
 rintro e w10 ⟨g10, cap10, rfl, hc10, hcm10, hg10, hr10, k10⟩
 refine ⟨_, rfl, ?_⟩
 have ms10 := sp_fr k10 hHeld
 refine hK.out _ _ ⟨ms10.1, ms10.2⟩ (fun hHeld => ?_)
 clear hK K
 refine norm_ (a' := ?_) ?_ ?_
 rotate_left
 ·show Act.put _ (some 53) _ = _
  simp only [Act.put, List.setIfInBounds_toArray, List.set_cons_zero, List.set_cons_succ, i64_w, i32_w]
  rfl
 refine one_ (i := 2) (N := some 55) #[oY,oY,oY,oN,oN,oN,oN,oN] rfl rfl (by kernel_rfl) (by decide) (fun K hK => ?_)
 refine goes_ Try.func16 (by kernel_rfl) rfl #[.slice (some ⟨g10, 0, none⟩) 4 cap10, .agg #[.int .i64 0, .int .i64 0, .int .i64 300]] (by rfl) rfl rfl (by simp only [List.map_toArray, List.map_cons, List.map_nil]; rfl) ?_
 refine (pr_at (h := ⟨0, 0, 300⟩) (n := 4) (hr10.toC hcm10) rfl hc10 (who_of rfl) p4).mono ?_
 rintro e w11 ⟨v11, rfl, r11, k11⟩
 refine ⟨_, rfl, ?_⟩
 have ms11 := sp_fr k11 hHeld
 refine hK.out _ _ ⟨ms11.1, ms11.2⟩ (fun hHeld => ?_)
 clear hK K
 refine norm_ (a' := ?_) ?_ ?_
 rotate_left
 ·show Act.put _ (some 55) _ = _
  simp only [Act.put, List.setIfInBounds_toArray, List.set_cons_zero, List.set_cons_succ, i64_w, i32_w]
  rfl
 refine pure_ (i := 3) (N := some 52) (v := ?_) (a' := ?_) #[oY,oY,oY,oY,oN,oN,oN,oN] rfl rfl (by kernel_rfl) (fun _ _ _ h => h) (Or.inl ⟨by rfl, ?_⟩) ?_ ?_
 rotate_left
 ·intro w'
  go_simp
  with_reducible rfl
 rotate_left
 ·simp only [Act.put, List.setIfInBounds_toArray, List.set_cons_zero, List.set_cons_succ, i64_w, i32_w]
  rfl
 refine pure_ (i := 4) (N := some 56) (v := ?_) (a' := ?_) #[oY,oY,oY,oY,oY,oN,oN,oN] rfl rfl (by kernel_rfl) (fun _ _ _ h => h) (Or.inl ⟨by rfl, ?_⟩) ?_ ?_
 rotate_left
 ·intro w'
  go_simp
  with_reducible rfl
 rotate_left
 ·simp only [Act.put, List.setIfInBounds_toArray, List.set_cons_zero, List.set_cons_succ, i64_w, i32_w]
  rfl
 refine pure_ (i := 5) (N := some 57) (v := ?_) (a' := ?_) #[oY,oY,oY,oY,oY,oY,oN,oN] rfl rfl (by kernel_rfl) (fun _ _ _ h => h) (Or.inl ⟨by rfl, ?_⟩) ?_ ?_
 rotate_left
 ·intro w'
  go_simp
  with_reducible rfl
 rotate_left
 ·simp only [Act.put, List.setIfInBounds_toArray, List.set_cons_zero, List.set_cons_succ, i64_w, i32_w]
  rfl
 refine pure_ (i := 6) (N := some 10) (v := ?_) (a' := ?_) #[oY,oY,oY,oY,oY,oY,oY,oN] rfl rfl (by kernel_rfl) (fun _ _ _ h => h) (Or.inl ⟨by rfl, ?_⟩) ?_ ?_
 rotate_left
 ·intro w'
  go_simp
  with_reducible rfl
 rotate_left
 ·simp only [Act.put, List.setIfInBounds_toArray, List.set_cons_zero, List.set_cons_succ, i64_w, i32_w]
  rfl
 refine pure_ (i := 7) (N := some 11) (v := ?_) (a' := ?_) #[oY,oY,oY,oY,oY,oY,oY,oY] rfl rfl (by kernel_rfl) (fun _ _ _ h => h) (Or.inl ⟨by rfl, ?_⟩) ?_ ?_
 rotate_left
 ·intro w'
  go_simp
  with_reducible rfl
 rotate_left
 ·simp only [Act.put, List.setIfInBounds_toArray, List.set_cons_zero, List.set_cons_succ, i64_w, i32_w]
  rfl
 refine done_ (by kernel_rfl) ?_
 obtain ⟨⟨y0, y1, y2⟩, F11⟩ := hHeld
 clear ms11 ms10 ms9 x0 x1 x2 F9 BH
 go_wp2_with fail
 refine (pr_at (h := ⟨0, 0, 300⟩) (n := 0) (l := []) ⟨rfl, by simp, fun h => absurd h (by simp)⟩ rfl (by simp) (who_of rfl) p5).mono ?_
 rintro e w12 ⟨v12, rfl, r12, k12⟩
 have ms12 := sp_fr k12 ⟨⟨y0, y1, y2⟩, F11⟩
 clear y0 y1 y2 F11 r12 k12
 go_wp2_with fail
 refine (four_at 5 four5 _).mono ?_
 rintro e w13 ⟨g13, cap13, rfl, hc13, hcm13, hg13, hr13, k13⟩
 have ms13 := sp_fr k13 ms12
 clear ms12 k13
 go_wp2_with fail
 refine (pr_at (h := ⟨0, 1000, 2000⟩) (n := 4) (hr13.toC hcm13) rfl hc13 (who_of rfl) p6).mono ?_
 rintro e w14 ⟨v14, rfl, r14, k14⟩
 have ms14 := sp_fr k14 ms13
 clear ms13 k14 r14 hr13
 go_wp2_with fail
 refine (four_at 5 four5 _).mono ?_
 rintro e w15 ⟨g15, cap15, rfl, hc15, hcm15, hg15, hr15, k15⟩
 have ms15 := sp_fr k15 ms14
 clear ms14 k15
 go_wp2_with fail
 refine (pr_at (h := ⟨0, 2, 1⟩) (n := 4) (hr15.toC hcm15) rfl hc15 (who_of rfl) p7).mono ?_
 rintro e w16 ⟨v16, rfl, r16, k16⟩
 have ms16 := sp_fr k16 ms15
 clear ms15 k16 r16 hr15
 go_wp2_with fail
 refine (cluster_Worst.calls 10 none 0 [] 0 false _ ⟨rfl, by simp, fun h => absurd h (by simp)⟩ (by simp) worst0).mono ?_
 rintro e w17 ⟨rfl, k17⟩
 have ms17 := sp_fr (Fr.of_below k17 (Nat.le_refl _) _) ms16
 clear ms16 k17
 go_wp2_with fail
 refine (four_at 5 four5 _).mono ?_
 rintro e w18 ⟨g18, cap18, rfl, hc18, hcm18, hg18, hr18, k18⟩
 have ms18 := sp_fr k18 ms17
 clear ms17 k18
 have n3 : ¬ cap18 = 3 := by omega
 have n3' : cap18 - 3 ≠ 0 := by omega
 have n3i : (3 : Int) ≤ (4 : Int) := by omega
 have hC18 : Kd.C k27 w18 (some ⟨g18, 15, none⟩) 1 [⟨3, ⟨0, 100, 300⟩, 5⟩] := hr18.dropC (i := 3) hcm18
 obtain ⟨⟨x0, x1, x2⟩, _⟩ := id ms18
 go_wp2_with fail
 refine (pr_at (h := ⟨0, 0, 300⟩) (n := 1) hC18 rfl (by omega) (who_of rfl) p8).mono ?_
 rintro e w19 ⟨v19, rfl, r19, k19⟩
 obtain ⟨A19, c19, rfl⟩ := Kd.R_slice r19
 have hC19 := Kd.C_below hC18 (fr_below k19)
 have F19 := (sp_fr k19 ms18).2
 simp only [List.length_cons, List.length_nil]
 clear x0 x1 x2 ms18 r19 k19 hC18 hr18
 go_wp2_with fail
 refine (awk_at _).mono ?_
 rintro e w20 ⟨rfl, k20⟩
 have hC20 := Kd.C_below hC19 (fr_below k20)
 have F20 := F19.trans k20 (fun _ _ h => h)
 clear hC19 F19 k20
 go_wp2_with fail
 refine (cluster_Spread.calls _ _ [⟨3, ⟨0, 100, 300⟩, 5⟩] 0 0 _ hC20 (by show 1 ≤ _; omega) spr0).mono ?_
 rintro e w21 ⟨rfl, k21⟩
 have hC21 := Kd.C_below hC20 (fr_below (Fr.of_below k21 (Nat.le_refl _) _))
 have F21 := F20.trans (Fr.of_below k21 (Nat.le_refl _) (fun _ => False)) (fun _ _ h => h)
 clear hC20 F20 k21
 go_wp2_with fail
 refine (cluster_Spread.calls _ _ [⟨3, ⟨0, 100, 300⟩, 5⟩] 1 0 _ hC21 (by show 1 ≤ _; omega) spr1).mono ?_
 rintro e w22 ⟨rfl, k22⟩
 have hC22 := Kd.C_below hC21 (fr_below (Fr.of_below k22 (Nat.le_refl _) _))
 have F22 := F21.trans (Fr.of_below k22 (Nat.le_refl _) (fun _ => False)) (fun _ _ h => h)
 clear hC21 F21 k22
 go_wp2_with fail
 refine (cluster_Spread.calls _ _ [⟨3, ⟨0, 100, 300⟩, 5⟩] (-1) 0 _ hC22 (by show 1 ≤ _; omega) sprM).mono ?_
 rintro e w23 ⟨rfl, k23⟩
 have F23 := F22.trans (Fr.of_below k23 (Nat.le_refl _) (fun _ => False)) (fun _ _ h => h)
 clear hC22 F22 k23
 go_wp2_with fail
 refine (cluster_May.calls none 0 [] true _ ⟨rfl, by simp, fun h => absurd h (by simp)⟩ (by simp) may0).mono ?_
 rintro e w24 ⟨rfl, k24⟩
 have F24 := F23.trans (Fr.of_below k24 (Nat.le_refl _) (fun _ => False)) (fun _ _ h => h)
 clear F23 k24
 obtain ⟨i0, hi0, hz0, hsz0, hby0⟩ : ∃ i0, Try.prog.info? 27 = some i0 ∧ i0.zero = some (.agg #[.int .i64 0, .int .i64 0, .int .i64 0, .int .i64 0, .int .i64 0]) ∧ i0.size = 5 ∧ i0.bytes = 40 := by
  obtain ⟨i0, h1, h2⟩ := Option.map_eq_some_iff.1 info27
  simp only [Prod.mk.injEq] at h2
  exact ⟨i0, h1, h2.1, h2.2.1, h2.2.2⟩
 have hmk := run_makeSlice (P := Try.prog) w24 22 27 i0 _ Try.underlying22 hi0 hz0 .i64 .i64 17 17 (by omega) (by omega) (by rw [hsz0]; decide) (by rw [hby0]; decide) (by omega)
 rw [hsz0] at hmk
 have hmc : madeCells (Value.agg #[.int .i64 0, .int .i64 0, .int .i64 0, .int .i64 0, .int .i64 0]).cells (Int.toNat 17 * 5) = Array.replicate 85 (.int .i64 0) := by kernel_rfl
 rw [hmc] at hmk
 clear hmc
 go_wp2_with (simp only [hmk])
 generalize hW : World.alloc w24 _ = w25
 have f25 : Fr (fun _ => False) w24 w25 := by subst hW; (repeat' (first | (with_reducible exact Fr.refl _ _) | (with_reducible assumption) | (with_reducible refine Fr.alloc ?_ _) | (with_reducible refine Fr.drew ?_) | (with_reducible refine Fr.drewN ?_ _) | (with_reducible refine Fr.setCell ?_ _ _ ?_) | (exact Or.inr rfl) | (left; simp; done) | (left; simp; omega) | (simp; done) | (simp; omega) | omega))
 have b25 : Blk w25 w24.heap.size (Array.replicate 85 (.int .i64 0)) 27 := by subst hW; exact Blk.new _ _ _
 clear hW hmk
 have hr25 : Row w25 w24.heap.size 17 (List.replicate 17 z27) := by
  refine ⟨_, b25, by simp, by simp, fun i c hi j v hj => ?_⟩
  have hil := (List.getElem?_eq_some_iff.1 hi).1
  have hj5 : j < 5 := by have := (List.getElem?_eq_some_iff.1 hj).1; simpa [encC] using this
  simp at hil
  rw [List.getElem?_replicate, if_pos hil] at hi
  injection hi with hi
  subst hi
  rw [Array.getElem?_replicate, if_pos (by omega)]
  match j, hj5, hj with
  | 0, _, hj => exact hj
  | 1, _, hj => exact hj
  | 2, _, hj => exact hj
  | 3, _, hj => exact hj
  | 4, _, hj => exact hj
 refine (cluster_May.calls _ 17 (List.replicate 17 z27) false _ (hr25.toC (by unfold maxLen; omega)) (by decide) may17).mono ?_
 rintro e w26 ⟨rfl, k26⟩
 have F26 := (F24.trans f25 (fun _ _ h => h)).trans (Fr.of_below k26 (Nat.le_refl _) (fun _ => False)) (fun _ _ h => h)
 go_wp2
 go_ret
 exact ⟨rfl, F26⟩
end Go.Proofs.Ytapagoaoglmegaa
