/- The heap's Copy. -/
import Derived.Test.YtkcfhdnlmdndeaaRfPop
import Derived.Test.YtkcfhdnlmdndeaaHpMisc
import Derived.Shelf.SlMaps.Clone
import Derived.Shelf.SlGeneric
namespace Go.Proofs
open Go.Shelf
shelf_lay_g SlLaysW.n5 Slmc 5 at Try 51 as Ytkcfhdnlmdndeaa.mcl
end Go.Proofs
namespace Go.Proofs.Ytkcfhdnlmdndeaa
open Go.RowKit Go.Proofs.YtkcfhdnlmdndeaaW.PrintWords Go.Proofs.YtkcfhdnlmdndeaaW.PrintLast Go.Proofs.YtkcfhdnlmdndeaaW.PrintMore PHp
set_option linter.unusedVariables false
set_option linter.unusedSimpArgs false
set_option maxRecDepth 100000
theorem mclone_at {w : World} {b n : Nat} {f : Int → Option Value} (h : MF 22 .u64 w b n f) :
  Calls Try.prog 51 #[.map (some b)] w fun e w' => e = .returned (.map (some w.heap.size)) ∧ MF 22 .u64 w' w.heap.size n f ∧ Fr (fun _ => False) w w' := by
 obtain ⟨D, h1, h2, h3⟩ := h
 have hc := AnyW.maps_Clone_owns (H := Value) mcl 22 rv b n D w h1
 refine Calls.mono hc ?_
 rintro e w' ⟨rfl, k1, _, k2⟩
 exact ⟨rfl, ⟨D, k1, h2, h3⟩, Fr.of_below k2 (Nat.le_refl _) _⟩
set_option maxHeartbeats 2000000 in
theorem copy_at {w : World} {b m : Nat} {v : Value} {L : List It} {size : Int} (h : HP w b m v L size) :
  Calls Try.prog 28 #[.pointer (some ⟨b, 0, none⟩)] w fun e w' => ∃ c m' v', e = .returned (.pointer (some ⟨c, 0, none⟩)) ∧ HP w' c m' v' L size ∧ (∀ i, Ft c m' v' i → w.heap.size ≤ i) ∧ Fr (fun _ => False) w w' := by
 have H := hid h
 have hsm := h.small
 clear h
 go_enter Try.func28, Try.ntmps28
 go_wp2_with fail
 refine (none_blk H.out.blk).mono ?_
 rintro e w1 ⟨rfl, k1⟩
 have h1 := H.out.fr0 k1
 go_wp2_with fail
 have hC : Hid (∀ W, Fr (fun _ => False) w1 W → ∃ A cap, v = .slice A L.length cap ∧ L.length ≤ cap ∧ Kd.C k24 W A L.length L) := hid (fun W f => by
  have hw := h1.fr0 f
  rcases hw.form with ⟨rfl, rfl⟩ | ⟨g, cap, rfl, hp⟩
  ·exact ⟨none, 0, rfl, by simp, ⟨rfl, by simp, fun h => absurd h (by simp)⟩⟩
  ·exact ⟨_, cap, rfl, hp.row.len, hp.row.toC hp.cap⟩)
 obtain ⟨A, cap, hv, hlc, _⟩ := hC.out w1 (Fr.refl _ _)
 have HV := hid hv
 have hC2 : Hid (∀ W, Fr (fun _ => False) w1 W → Kd.C k24 W A L.length L) := hid (fun W f => by
  obtain ⟨A', c', e, _, hc⟩ := hC.out W f
  rw [hv] at e
  injection e with e1 e2 e3
  subst e1
  exact hc)
 have mk : ∀ W, Fr (fun _ => False) w1 W → W.cell? ⟨b, 0, none⟩ = some (.slice A L.length cap) ∧ W.cell? ⟨b, 1, none⟩ = some (.map (some m)) ∧ W.cell? ⟨b, 2, none⟩ = some (.int .i64 size) ∧ Fr (fun _ => False) w1 W := fun W f => by
  have hb := (h1.fr0 f).blk
  exact ⟨by rw [hb.cell 0, ← hv]; rfl, hb.cell 1, hb.cell 2, f⟩
 have MK := hid mk
 have msd := mk _ (Fr.drew (Fr.refl _ _))
 clear hv mk hC
 refine start_ (n := 17) (S := fun w' => w'.cell? ⟨b, 0, none⟩ = some (.slice A L.length cap) ∧ w'.cell? ⟨b, 1, none⟩ = some (.map (some m)) ∧ w'.cell? ⟨b, 2, none⟩ = some (.int .i64 size) ∧ Fr (fun _ => False) w1 w') (ds := []) #[oN,oN,oN,oN,oN,oN,oN,oN,oN,oN,oN,oN,oN,oN,oN,oN,oN] (by kernel_rfl) rfl rfl ⟨msd.1, msd.2.1, msd.2.2.1, msd.2.2.2⟩ (fun hHeld => ?_)
 refine pure_ (i := 0) (N := some 5) (v := ?_) (a' := ?_) #[oY,oN,oN,oN,oN,oN,oN,oN,oN,oN,oN,oN,oN,oN,oN,oN,oN] rfl rfl (by kernel_rfl) (fun _ _ _ h => h) (Or.inl ⟨by rfl, ?_⟩) ?_ ?_
 rotate_left
 ·intro w'
  go_simp
  with_reducible rfl
 rotate_left
 ·simp only [Act.put, List.setIfInBounds_toArray, List.set_cons_zero, List.set_cons_succ, i64_w, i32_w]
  rfl
 refine pure_ (i := 1) (N := some 6) (v := ?_) (a' := ?_) #[oY,oY,oN,oN,oN,oN,oN,oN,oN,oN,oN,oN,oN,oN,oN,oN,oN] rfl rfl (by kernel_rfl) (fun _ _ _ h => h) (Or.inl ⟨by rfl, ?_⟩) ?_ ?_
 rotate_left
 ·intro w'
  go_simp
  with_reducible rfl
 rotate_left
 ·simp only [Act.put, List.setIfInBounds_toArray, List.set_cons_zero, List.set_cons_succ, i64_w, i32_w]
  rfl
 refine pure_ (i := 2) (N := some 7) (v := ?_) (a' := ?_) #[oY,oY,oY,oN,oN,oN,oN,oN,oN,oN,oN,oN,oN,oN,oN,oN,oN] rfl rfl (by kernel_rfl) (fun _ _ _ h => h) (Or.inl ⟨by rfl, ?_⟩) ?_ ?_
 rotate_left
 ·intro w'
  go_simp
  with_reducible rfl
 rotate_left
 ·simp only [Act.put, List.setIfInBounds_toArray, List.set_cons_zero, List.set_cons_succ, i64_w, i32_w]
  rfl
 refine pure_ (i := 5) (N := some 10) (v := ?_) (a' := ?_) #[oY,oY,oY,oN,oN,oY,oN,oN,oN,oN,oN,oN,oN,oN,oN,oN,oN] rfl rfl (by kernel_rfl) (fun _ _ _ h => h) (Or.inl ⟨by rfl, ?_⟩) ?_ ?_
 rotate_left
 ·intro w'
  go_simp
  with_reducible rfl
 rotate_left
 ·simp only [Act.put, List.setIfInBounds_toArray, List.set_cons_zero, List.set_cons_succ, i64_w, i32_w]
  rfl
 refine pure_ (i := 6) (N := some 11) (v := ?_) (a' := ?_) #[oY,oY,oY,oN,oN,oY,oY,oN,oN,oN,oN,oN,oN,oN,oN,oN,oN] rfl rfl (by kernel_rfl) (fun _ _ _ h => h) (Or.inl ⟨by rfl, ?_⟩) ?_ ?_
 rotate_left
 ·intro w'
  go_simp
  with_reducible rfl
 rotate_left
 ·simp only [Act.put, List.setIfInBounds_toArray, List.set_cons_zero, List.set_cons_succ, i64_w, i32_w]
  rfl
 refine pure_ (i := 7) (N := some 12) (v := ?_) (a' := ?_) #[oY,oY,oY,oN,oN,oY,oY,oY,oN,oN,oN,oN,oN,oN,oN,oN,oN] rfl rfl (by kernel_rfl) (fun _ _ _ h => h) (Or.inl ⟨by rfl, ?_⟩) ?_ ?_
 rotate_left
 ·intro w'
  go_simp
  with_reducible rfl
 rotate_left
 ·simp only [Act.put, List.setIfInBounds_toArray, List.set_cons_zero, List.set_cons_succ, i64_w, i32_w]
  rfl
 refine pure_ (i := 10) (N := some 15) (v := ?_) (a' := ?_) #[oY,oY,oY,oN,oN,oY,oY,oY,oN,oN,oY,oN,oN,oN,oN,oN,oN] rfl rfl (by kernel_rfl) (fun _ _ _ h => h) (Or.inl ⟨by rfl, ?_⟩) ?_ ?_
 rotate_left
 ·intro w'
  go_simp
  with_reducible rfl
 rotate_left
 ·simp only [Act.put, List.setIfInBounds_toArray, List.set_cons_zero, List.set_cons_succ, i64_w, i32_w]
  rfl
 refine pure_ (i := 11) (N := some 16) (v := ?_) (a' := ?_) #[oY,oY,oY,oN,oN,oY,oY,oY,oN,oN,oY,oY,oN,oN,oN,oN,oN] rfl rfl (by kernel_rfl) (fun _ _ _ h => h) (Or.inl ⟨by rfl, ?_⟩) ?_ ?_
 rotate_left
 ·intro w'
  go_simp
  with_reducible rfl
 rotate_left
 ·simp only [Act.put, List.setIfInBounds_toArray, List.set_cons_zero, List.set_cons_succ, i64_w, i32_w]
  rfl
 refine pure_ (i := 12) (N := some 17) (v := ?_) (a' := ?_) #[oY,oY,oY,oN,oN,oY,oY,oY,oN,oN,oY,oY,oY,oN,oN,oN,oN] rfl rfl (by kernel_rfl) (fun _ _ _ h => h) (Or.inl ⟨by rfl, ?_⟩) ?_ ?_
 rotate_left
 ·intro w'
  go_simp
  with_reducible rfl
 rotate_left
 ·simp only [Act.put, List.setIfInBounds_toArray, List.set_cons_zero, List.set_cons_succ, i64_w, i32_w]
  rfl
 refine take_ (i := 3) (N := some 8) (v := ?_) (a' := ?_) #[oY,oY,oY,oY,oN,oY,oY,oY,oN,oN,oY,oY,oY,oN,oN,oN,oN] rfl rfl (by kernel_rfl) (fun _ _ _ h => h) (Or.inl ⟨by rfl, ?_⟩) hHeld ?_ ?_
 rotate_left
 ·rintro w' ⟨s0, s1, s2, s3⟩
  go_simp
  with_reducible rfl
 rotate_left
 ·simp only [Act.put, List.setIfInBounds_toArray, List.set_cons_zero, List.set_cons_succ, i64_w, i32_w]
  rfl
 refine take_ (i := 8) (N := some 13) (v := ?_) (a' := ?_) #[oY,oY,oY,oY,oN,oY,oY,oY,oY,oN,oY,oY,oY,oN,oN,oN,oN] rfl rfl (by kernel_rfl) (fun _ _ _ h => h) (Or.inl ⟨by rfl, ?_⟩) hHeld ?_ ?_
 rotate_left
 ·rintro w' ⟨s0, s1, s2, s3⟩
  go_simp
  with_reducible rfl
 rotate_left
 ·simp only [Act.put, List.setIfInBounds_toArray, List.set_cons_zero, List.set_cons_succ, i64_w, i32_w]
  rfl
 refine take_ (i := 13) (N := some 18) (v := ?_) (a' := ?_) #[oY,oY,oY,oY,oN,oY,oY,oY,oY,oN,oY,oY,oY,oY,oN,oN,oN] rfl rfl (by kernel_rfl) (fun _ _ _ h => h) (Or.inl ⟨by rfl, ?_⟩) hHeld ?_ ?_
 rotate_left
 ·rintro w' ⟨s0, s1, s2, s3⟩
  go_simp
  with_reducible rfl
 rotate_left
 ·simp only [Act.put, List.setIfInBounds_toArray, List.set_cons_zero, List.set_cons_succ, i64_w, i32_w]
  rfl
 refine one_ (i := 4) (N := some 9) #[oY,oY,oY,oY,oY,oY,oY,oY,oY,oN,oY,oY,oY,oY,oN,oN,oN] rfl rfl (by kernel_rfl) (by decide) (fun K hK => ?_)
 refine goes_ Try.func48 (by kernel_rfl) rfl #[.slice A L.length cap] (by rfl) rfl rfl (by simp only [List.map_toArray, List.map_cons, List.map_nil]; rfl) ?_
 refine (cloneI_at (hC2.out _ hHeld.2.2.2) hlc (by omega)).mono ?_
 rintro e w3 ⟨v3, rfl, r3, k3⟩
 have own3 : w3.ownsRow 0 24 3 v3 L.length (flat L) := by
  rcases Row.of_R r3 with ⟨rfl, rfl⟩ | ⟨g, cap, rfl, hg, hm, hr⟩
  ·exact World.ownsRow_nil _ _ _ _
  ·exact hr.owns hm
 have hbs3 : ∀ i, v3.ownBlock = some i → w1.heap.size ≤ i := by
  rcases Row.of_R r3 with ⟨rfl, rfl⟩ | ⟨g, cap, rfl, hg, hm, hr⟩
  ·intro i e; cases e
  ·intro i e; injection e with e; subst e; exact hg
 obtain ⟨A3, c3, hv3, _⟩ := R_open r3
 subst hv3
 refine ⟨_, rfl, ?_⟩
 have f3 : Fr (fun _ => False) w1 w3 := hHeld.2.2.2.trans (Fr.of_below k3 (Nat.le_refl _) _) (fun _ _ h => h)
 have ms3 := MK.out _ f3
 clear r3
 refine hK.out _ _ ⟨ms3.1, ms3.2.1, ms3.2.2.1, ms3.2.2.2⟩ (fun hHeld => ?_)
 clear hK K
 refine norm_ (a' := ?_) ?_ ?_
 rotate_left
 ·show Act.put _ (some 9) _ = _
  simp only [Act.put, List.setIfInBounds_toArray, List.set_cons_zero, List.set_cons_succ, i64_w, i32_w]
  rfl
 refine one_ (i := 9) (N := some 14) #[oY,oY,oY,oY,oY,oY,oY,oY,oY,oY,oY,oY,oY,oY,oN,oN,oN] rfl rfl (by kernel_rfl) (by decide) (fun K hK => ?_)
 refine goes_ Try.func51 (by kernel_rfl) rfl #[.map (some m)] (by rfl) rfl rfl (by simp only [List.map_toArray, List.map_cons, List.map_nil]; rfl) ?_
 refine (mclone_at (h1.fr0 f3).map).mono ?_
 rintro e w4 ⟨rfl, m4, k4⟩
 refine ⟨_, rfl, ?_⟩
 have f4 := f3.trans k4 (fun _ _ h => h)
 have ms4 := MK.out _ f4
 refine hK.out _ _ ⟨ms4.1, ms4.2.1, ms4.2.2.1, ms4.2.2.2⟩ (fun hHeld => ?_)
 clear hK K
 refine norm_ (a' := ?_) ?_ ?_
 rotate_left
 ·show Act.put _ (some 14) _ = _
  simp only [Act.put, List.setIfInBounds_toArray, List.set_cons_zero, List.set_cons_succ, i64_w, i32_w]
  rfl
 refine pure_ (i := 14) (N := some 19) (v := ?_) (a' := ?_) #[oY,oY,oY,oY,oY,oY,oY,oY,oY,oY,oY,oY,oY,oY,oY,oN,oN] rfl rfl (by kernel_rfl) (fun _ _ _ h => h) (Or.inl ⟨by rfl, ?_⟩) ?_ ?_
 rotate_left
 ·intro w'
  go_simp
  with_reducible rfl
 rotate_left
 ·simp only [Act.put, List.setIfInBounds_toArray, List.set_cons_zero, List.set_cons_succ, i64_w, i32_w]
  rfl
 refine one_ (i := 15) (N := some 20) #[oY,oY,oY,oY,oY,oY,oY,oY,oY,oY,oY,oY,oY,oY,oY,oY,oN] rfl rfl (by kernel_rfl) (by decide) (fun K hK => ?_)
 refine value_ (w1 := ?_) (v := ?_) (by rfl) rfl ?_ ?_
 rotate_left 2
 ·go_simp
  constructor
  ·rfl
  ·rfl
 generalize hW : World.alloc w4 _ = w5
 have f5 : Fr (fun _ => False) w4 w5 := by subst hW; (repeat' (first | (with_reducible exact Fr.refl _ _) | (with_reducible assumption) | (with_reducible refine Fr.alloc ?_ _) | (with_reducible refine Fr.drew ?_) | (with_reducible refine Fr.drewN ?_ _) | (with_reducible refine Fr.setCell ?_ _ _ ?_) | (exact Or.inr rfl) | (left; simp; done) | (left; simp; omega) | (simp; done) | (simp; omega) | omega))
 have b5 : Blk w5 w4.heap.size #[.slice A3 L.length c3, .map (some w3.heap.size), .int .i64 size] 94 := by subst hW; (repeat' (first | (with_reducible assumption) | (with_reducible apply Blk.drew) | (with_reducible apply Blk.drewN) | (with_reducible apply Blk.set) | (with_reducible apply Blk.other) | (exact Blk.new' _ _ _ (by first | rfl | (simp; done) | (simp; omega))) | (with_reducible apply Blk.alloc) | (with_reducible rfl) | (simp; done) | (simp; omega) | omega | rfl))
 clear hW
 have ms5 := MK.out _ (f4.trans f5 (fun _ _ h => h))
 refine hK.out _ _ ⟨ms5.1, ms5.2.1, ms5.2.2.1, ms5.2.2.2⟩ (fun hHeld => ?_)
 clear hK K
 refine norm_ (a' := ?_) ?_ ?_
 rotate_left
 ·show Act.put _ (some 20) _ = _
  simp only [Act.put, List.setIfInBounds_toArray, List.set_cons_zero, List.set_cons_succ, i64_w, i32_w]
  rfl
 refine pure_ (i := 16) (N := some 2) (v := ?_) (a' := ?_) #[oY,oY,oY,oY,oY,oY,oY,oY,oY,oY,oY,oY,oY,oY,oY,oY,oY] rfl rfl (by kernel_rfl) (fun _ _ _ h => h) (Or.inl ⟨by rfl, ?_⟩) ?_ ?_
 rotate_left
 ·intro w'
  go_simp
  with_reducible rfl
 rotate_left
 ·simp only [Act.put, List.setIfInBounds_toArray, List.set_cons_zero, List.set_cons_succ, i64_w, i32_w]
  rfl
 refine done_ (by kernel_rfl) ?_
 go_wp2
 go_ret
 have own5 := own_fr (own_fr own3 k4 (fun _ _ h => h)) f5 (fun _ _ h => h)
 have f45 := f4.trans f5 (fun _ _ h => h)
 have hm4 := m4.lt
 refine ⟨w4.heap.size, rfl, w3.heap.size, _, ⟨b5, own5, m4.fr f5 (fun h => h), by omega, H.out.uniq, H.out.ok, H.out.len, H.out.sz⟩, ?_, k1.trans f45 (fun _ _ h => h)⟩
 have s1 := k1.size
 have s3 := f3.size
 have s4 := f4.size
 rintro i (rfl | rfl | e)
 ·omega
 ·omega
 ·exact Nat.le_trans s1 (hbs3 i e)
end Go.Proofs.Ytkcfhdnlmdndeaa
