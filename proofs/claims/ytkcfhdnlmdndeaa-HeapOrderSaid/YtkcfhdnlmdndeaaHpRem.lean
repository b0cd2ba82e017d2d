/- Remove, where the item is there. -/
import Derived.Test.YtkcfhdnlmdndeaaHpSet
namespace Go.Proofs.Ytkcfhdnlmdndeaa
open Go.RowKit Go.Proofs.YtkcfhdnlmdndeaaW.PrintWords Go.Proofs.YtkcfhdnlmdndeaaW.PrintLast Go.Proofs.YtkcfhdnlmdndeaaW.PrintMore PHp
set_option linter.unusedVariables false
set_option linter.unusedSimpArgs false
set_option maxRecDepth 100000
def remE (L : List It) (id : Int) : Int := if (place L id).isSome = true then 0 else 6
def remX (L : List It) (id : Int) : It := match place L id with | some k => nth L k | none => ⟨0, 0, 0⟩
def remL (L : List It) (id : Int) : List It := match place L id with | some k => if k < L.length - 1 then settle (cutOut L k) k else cutOut L k | none => L
/-- What the removal reads first. -/
def ReS (W : World) (b g n cap k : Nat) (x : It) (w' : World) : Prop :=
 w'.cell? ⟨b, 0, none⟩ = some (.slice (some ⟨g, 0, none⟩) n cap) ∧ w'.cell? ⟨g, k * 3, none⟩ = some (.int .u64 x.f0) ∧ w'.cell? ⟨g, k * 3 + 1, none⟩ = some (.int .u64 x.f1) ∧ w'.cell? ⟨g, k * 3 + 2, none⟩ = some (.int .i64 x.f2) ∧ Fr (fun _ => False) W w'
theorem ReS.fr {W : World} {b g n cap k : Nat} {x : It} {w w' : World} (kf : Fr (fun _ => False) w w') (h : ReS W b g n cap k x w) : ReS W b g n cap k x w' := by
 obtain ⟨a0, a1, a2, a3, hf⟩ := h
 have key : ∀ {g i : Nat} {v : Value}, w.cell? ⟨g, i, none⟩ = some v → w'.cell? ⟨g, i, none⟩ = some v := fun h => (kf.cell (World.block_lt_of_cell? w _ h) (fun h => h)).trans h
 exact ⟨key a0, key a1, key a2, key a3, hf.trans kf (fun _ _ h => h)⟩
set_option maxHeartbeats 4000000 in
theorem rem_ok {w : World} {b g m cap : Nat} {L : List It} {size : Int} {id : Int} {k : Nat} (h : Hp w b g m cap L (place L) L.length size) (hid0 : (Lit.int .u64 id).wf = true) (hu : Uniq L) (hok : ∀ x ∈ L, ItOk x) (hl : L.length ≤ 1048576) (hpl : place L id = some k) {M : List It} (hM : M = if k < L.length - 1 then settle (cutOut L k) k else cutOut L k) {r : Nat} (hr : r = L.length - 1) :
  Calls Try.prog 19 #[.pointer (some ⟨b, 0, none⟩), .int .u64 id] w fun e w' => e = .returned (.tuple #[vI (nth L k), .int .i64 0]) ∧
   Hp w' b g m cap M (place M) r size ∧ Fr (fun i => i = b ∨ i = g ∨ i = m) w w' := by
 have H := hid h
 have HM := hid hM
 have HR := hid hr
 clear hM hr
 obtain ⟨hk, hid1, _⟩ := place_some hpl
 have hlk : (plF (place L) id).getD (.int .i64 0) = .int .i64 (k : Int) ∧ (plF (place L) id).isSome = true := by unfold plF; rw [hpl]; exact ⟨rfl, rfl⟩
 obtain ⟨x, hx⟩ : ∃ x, x = nth L k := ⟨_, rfl⟩
 have hxk : L[k]? = some x := by rw [hx]; exact nth_some hk
 rw [← hx]
 obtain ⟨y, hy⟩ : ∃ y, y = nth L (L.length - 1) := ⟨_, rfl⟩
 have hyk : L[L.length - 1]? = some y := by rw [hy]; exact nth_some (by omega)
 obtain ⟨n, hn⟩ : ∃ n, n = L.length := ⟨_, rfl⟩
 obtain ⟨q, hq⟩ : ∃ q, n = q + 1 := ⟨n - 1, by omega⟩
 have HX := hid hx
 have HY := hid hy
 have HXK := hid hxk
 have HYK := hid hyk
 have HID := hid hid1
 have HLK := hid hlk
 have HN := hid hn
 have HQ := hid hq
 have HU := hid hu
 have HOK := hid hok
 have hkn : k < n := by omega
 have hqn : q < n := by omega
 have hkq : k ≤ q := by omega
 have a1 : (k : Int) < (n : Int) := by omega
 have a2 : (q : Int) < (n : Int) := by omega
 have hq9 : q < 1048576 := by omega
 have e1' : wrap64 ((n : Int) - 1) = (q : Int) := wrapP hq (by omega)
 have e1 := (i64_w _).trans e1'
 have HPL := hid hpl
 have HKL := hid hk
 clear h hx hy hxk hyk hid1 hlk hn hq hu hok hpl hk hl
 go_enter Try.func19, Try.ntmps19
 go_wp2_with fail
 generalize hW : World.alloc w _ = W
 have f0 : Fr (fun _ => False) w W := by subst hW; (repeat' (first | (with_reducible exact Fr.refl _ _) | (with_reducible assumption) | (with_reducible refine Fr.alloc ?_ _) | (with_reducible refine Fr.drew ?_) | (with_reducible refine Fr.drewN ?_ _) | (with_reducible refine Fr.setCell ?_ _ _ ?_) | (exact Or.inr rfl) | (left; simp; done) | (left; simp; omega) | (simp; done) | (simp; omega) | omega))
 have bR : Blk W w.heap.size #[.int .u64 0, .int .u64 0, .int .i64 0] 24 := by subst hW; (repeat' (first | (with_reducible assumption) | (with_reducible apply Blk.drew) | (with_reducible apply Blk.drewN) | (with_reducible apply Blk.set) | (with_reducible apply Blk.other) | (exact Blk.new' _ _ _ (by first | rfl | (simp; done) | (simp; omega))) | (with_reducible apply Blk.alloc) | (with_reducible rfl) | (simp; done) | (simp; omega) | omega | rfl))
 clear hW
 refine (none_blk (H.out.fr0 f0).blk).mono ?_
 rintro e w1 ⟨rfl, k1⟩
 have F1 := f0.trans k1 (fun _ _ h => h)
 have h1 := H.out.fr0 F1
 have bR1 := bR.fr k1 (fun h => h)
 have b1 := h1.blk.cell 1
 have b0 := h1.blk.cell 0
 simp at b0 b1
 rw [← HN.out] at b0
 have hlk := h1.map.look_ok Try.underlying22 Try.underlying92 (zeroI _) hid0
 rw [HLK.out.1, HLK.out.2] at hlk
 obtain ⟨d0, d1, d2⟩ := h1.row.at3 HXK.out
 have ms0 : ReS w1 b g n cap k x w1 := ⟨b0, d0, d1, d2, Fr.refl _ _⟩
 clear k1 f0 bR b0 d0 d1 d2
 go_wp2_with (simp only [hlk])
 have msd := ms0.fr (Fr.drew (Fr.refl _ _))
 refine start_ (n := 16) (S := fun w' => w'.cell? ⟨b, 0, none⟩ = some (.slice (some ⟨g, 0, none⟩) n cap) ∧ w'.cell? ⟨g, k * 3, none⟩ = some (.int .u64 x.f0) ∧ w'.cell? ⟨g, k * 3 + 1, none⟩ = some (.int .u64 x.f1) ∧ w'.cell? ⟨g, k * 3 + 2, none⟩ = some (.int .i64 x.f2) ∧ Fr (fun _ => False) w1 w') (ds := []) #[oN,oN,oN,oN,oN,oN,oN,oN,oN,oN,oN,oN,oN,oN,oN,oN] (by kernel_rfl) rfl rfl ⟨msd.1, msd.2.1, msd.2.2.1, msd.2.2.2.1, msd.2.2.2.2⟩ (fun hHeld => ?_)
 refine pure_ (i := 0) (N := some 26) (v := ?_) (a' := ?_) #[oY,oN,oN,oN,oN,oN,oN,oN,oN,oN,oN,oN,oN,oN,oN,oN] rfl rfl (by kernel_rfl) (fun _ _ _ h => h) (Or.inl ⟨by rfl, ?_⟩) ?_ ?_
 rotate_left
 ·intro w'
  go_simp
  with_reducible rfl
 rotate_left
 ·simp only [Act.put, List.setIfInBounds_toArray, List.set_cons_zero, List.set_cons_succ, i64_w, i32_w]
  rfl
 refine pure_ (i := 1) (N := some 27) (v := ?_) (a' := ?_) #[oY,oY,oN,oN,oN,oN,oN,oN,oN,oN,oN,oN,oN,oN,oN,oN] rfl rfl (by kernel_rfl) (fun _ _ _ h => h) (Or.inl ⟨by rfl, ?_⟩) ?_ ?_
 rotate_left
 ·intro w'
  go_simp
  with_reducible rfl
 rotate_left
 ·simp only [Act.put, List.setIfInBounds_toArray, List.set_cons_zero, List.set_cons_succ, i64_w, i32_w]
  rfl
 refine pure_ (i := 2) (N := some 28) (v := ?_) (a' := ?_) #[oY,oY,oY,oN,oN,oN,oN,oN,oN,oN,oN,oN,oN,oN,oN,oN] rfl rfl (by kernel_rfl) (fun _ _ _ h => h) (Or.inl ⟨by rfl, ?_⟩) ?_ ?_
 rotate_left
 ·intro w'
  go_simp
  with_reducible rfl
 rotate_left
 ·simp only [Act.put, List.setIfInBounds_toArray, List.set_cons_zero, List.set_cons_succ, i64_w, i32_w]
  rfl
 refine pure_ (i := 4) (N := some 30) (v := ?_) (a' := ?_) #[oY,oY,oY,oN,oY,oN,oN,oN,oN,oN,oN,oN,oN,oN,oN,oN] rfl rfl (by kernel_rfl) (fun _ _ _ h => h) (Or.inl ⟨by rfl, ?_⟩) ?_ ?_
 rotate_left
 ·intro w'
  go_simp
  with_reducible rfl
 rotate_left
 ·simp only [Act.put, List.setIfInBounds_toArray, List.set_cons_zero, List.set_cons_succ, i64_w, i32_w]
  rfl
 refine pure_ (i := 7) (N := some 33) (v := ?_) (a' := ?_) #[oY,oY,oY,oN,oY,oN,oN,oY,oN,oN,oN,oN,oN,oN,oN,oN] rfl rfl (by kernel_rfl) (fun _ _ _ h => h) (Or.inl ⟨by rfl, ?_⟩) ?_ ?_
 rotate_left
 ·intro w'
  go_simp
  with_reducible rfl
 rotate_left
 ·simp only [Act.put, List.setIfInBounds_toArray, List.set_cons_zero, List.set_cons_succ, i64_w, i32_w]
  rfl
 refine pure_ (i := 8) (N := some 34) (v := ?_) (a' := ?_) #[oY,oY,oY,oN,oY,oN,oN,oY,oY,oN,oN,oN,oN,oN,oN,oN] rfl rfl (by kernel_rfl) (fun _ _ _ h => h) (Or.inl ⟨by rfl, ?_⟩) ?_ ?_
 rotate_left
 ·intro w'
  go_simp
  with_reducible rfl
 rotate_left
 ·simp only [Act.put, List.setIfInBounds_toArray, List.set_cons_zero, List.set_cons_succ, i64_w, i32_w]
  rfl
 refine pure_ (i := 9) (N := some 35) (v := ?_) (a' := ?_) #[oY,oY,oY,oN,oY,oN,oN,oY,oY,oY,oN,oN,oN,oN,oN,oN] rfl rfl (by kernel_rfl) (fun _ _ _ h => h) (Or.inl ⟨by rfl, ?_⟩) ?_ ?_
 rotate_left
 ·intro w'
  go_simp
  with_reducible rfl
 rotate_left
 ·simp only [Act.put, List.setIfInBounds_toArray, List.set_cons_zero, List.set_cons_succ, i64_w, i32_w]
  rfl
 refine take_ (i := 3) (N := some 29) (v := ?_) (a' := ?_) #[oY,oY,oY,oY,oY,oN,oN,oY,oY,oY,oN,oN,oN,oN,oN,oN] rfl rfl (by kernel_rfl) (fun _ _ _ h => h) (Or.inl ⟨by rfl, ?_⟩) hHeld ?_ ?_
 rotate_left
 ·rintro w' ⟨s0, s1, s2, s3, s4⟩
  go_simp
  with_reducible rfl
 rotate_left
 ·simp only [Act.put, List.setIfInBounds_toArray, List.set_cons_zero, List.set_cons_succ, i64_w, i32_w]
  rfl
 refine pure_ (i := 5) (N := some 31) (v := ?_) (a' := ?_) #[oY,oY,oY,oY,oY,oY,oN,oY,oY,oY,oN,oN,oN,oN,oN,oN] rfl rfl (by kernel_rfl) (fun _ _ _ h => h) (Or.inl ⟨by rfl, ?_⟩) ?_ ?_
 rotate_left
 ·intro w'
  go_simp
  with_reducible rfl
 rotate_left
 ·simp only [Act.put, List.setIfInBounds_toArray, List.set_cons_zero, List.set_cons_succ, i64_w, i32_w]
  rfl
 refine take_ (i := 6) (N := some 32) (v := ?_) (a' := ?_) #[oY,oY,oY,oY,oY,oY,oY,oY,oY,oY,oN,oN,oN,oN,oN,oN] rfl rfl (by kernel_rfl) (fun _ _ _ h => h) (Or.inl ⟨by rfl, ?_⟩) hHeld ?_ ?_
 rotate_left
 ·rintro w' ⟨s0, s1, s2, s3, s4⟩
  go_simp
  with_reducible rfl
 rotate_left
 ·simp only [Act.put, List.setIfInBounds_toArray, List.set_cons_zero, List.set_cons_succ, i64_w, i32_w]
  rfl
 refine take_ (i := 10) (N := some 36) (v := ?_) (a' := ?_) #[oY,oY,oY,oY,oY,oY,oY,oY,oY,oY,oY,oN,oN,oN,oN,oN] rfl rfl (by kernel_rfl) (fun _ _ _ h => h) (Or.inl ⟨by rfl, ?_⟩) hHeld ?_ ?_
 rotate_left
 ·rintro w' ⟨s0, s1, s2, s3, s4⟩
  go_simp
  with_reducible rfl
 rotate_left
 ·simp only [Act.put, List.setIfInBounds_toArray, List.set_cons_zero, List.set_cons_succ, i64_w, i32_w]
  rfl
 refine pure_ (i := 11) (N := some 37) (v := ?_) (a' := ?_) #[oY,oY,oY,oY,oY,oY,oY,oY,oY,oY,oY,oY,oN,oN,oN,oN] rfl rfl (by kernel_rfl) (fun _ _ _ h => h) (Or.inl ⟨by rfl, ?_⟩) ?_ ?_
 rotate_left
 ·intro w'
  go_simp
  with_reducible rfl
 rotate_left
 ·simp only [Act.put, List.setIfInBounds_toArray, List.set_cons_zero, List.set_cons_succ, i64_w, i32_w]
  rfl
 refine pure_ (i := 12) (N := some 38) (v := ?_) (a' := ?_) #[oY,oY,oY,oY,oY,oY,oY,oY,oY,oY,oY,oY,oY,oN,oN,oN] rfl rfl (by kernel_rfl) (fun _ _ _ h => h) (Or.inl ⟨by rfl, ?_⟩) ?_ ?_
 rotate_left
 ·intro w'
  go_simp
  with_reducible rfl
 rotate_left
 ·simp only [Act.put, List.setIfInBounds_toArray, List.set_cons_zero, List.set_cons_succ, i64_w, i32_w]
  rfl
 refine one_ (i := 13) (N := some 8) #[oY,oY,oY,oY,oY,oY,oY,oY,oY,oY,oY,oY,oY,oY,oN,oN] rfl rfl (by kernel_rfl) (by decide) (fun K hK => ?_)
 refine value_ (w1 := ?_) (v := ?_) (by rfl) rfl ?_ ?_
 rotate_left 2
 ·go_simp
  constructor
  ·rfl
  ·rfl
 generalize hW : World.drew (World.alloc w1 _) = w2
 have f2 : Fr (fun _ => False) w1 w2 := by subst hW; (repeat' (first | (with_reducible exact Fr.refl _ _) | (with_reducible assumption) | (with_reducible refine Fr.alloc ?_ _) | (with_reducible refine Fr.drew ?_) | (with_reducible refine Fr.drewN ?_ _) | (with_reducible refine Fr.setCell ?_ _ _ ?_) | (exact Or.inr rfl) | (left; simp; done) | (left; simp; omega) | (simp; done) | (simp; omega) | omega))
 have bG : Blk w2 w1.heap.size #[.int .u64 0, .int .u64 0, .int .i64 0] 24 := by subst hW; (repeat' (first | (with_reducible assumption) | (with_reducible apply Blk.drew) | (with_reducible apply Blk.drewN) | (with_reducible apply Blk.set) | (with_reducible apply Blk.other) | (exact Blk.new' _ _ _ (by first | rfl | (simp; done) | (simp; omega))) | (with_reducible apply Blk.alloc) | (with_reducible rfl) | (simp; done) | (simp; omega) | omega | rfl))
 clear hW
 have ms2 := ms0.fr f2
 refine hK.out _ _ ⟨ms2.1, ms2.2.1, ms2.2.2.1, ms2.2.2.2.1, ms2.2.2.2.2⟩ (fun hHeld => ?_)
 clear hK K
 refine norm_ (a' := ?_) ?_ ?_
 rotate_left
 ·show Act.put _ (some 8) _ = _
  simp only [Act.put, List.setIfInBounds_toArray, List.set_cons_zero, List.set_cons_succ, i64_w, i32_w]
  rfl
 refine one_ (i := 14) (N := none) #[oY,oY,oY,oY,oY,oY,oY,oY,oY,oY,oY,oY,oY,oY,oY,oN] rfl rfl (by kernel_rfl) (by decide) (fun K hK => ?_)
 obtain ⟨e00, e01, e02, e03, e04, e05⟩ := bG.c3
 refine skip_ (w1 := ?_) (by rfl) rfl ?_ ?_
 rotate_left
 ·go_simp
  rfl
 generalize hW : World.setCell (World.setCell (World.setCell w2 _ _) _ _) _ _ = w3
 have bG3 : Blk w3 w1.heap.size #[.int .u64 x.f0, .int .u64 x.f1, .int .i64 x.f2] 24 := by subst hW; exact bG.set3 _ _ _
 have f3 : Fr (fun _ => False) w1 w3 := by subst hW; (repeat' (first | (with_reducible exact Fr.refl _ _) | (with_reducible assumption) | (with_reducible refine Fr.alloc ?_ _) | (with_reducible refine Fr.drew ?_) | (with_reducible refine Fr.drewN ?_ _) | (with_reducible refine Fr.setCell ?_ _ _ ?_) | (exact Or.inr rfl) | (left; simp; done) | (left; simp; omega) | (simp; done) | (simp; omega) | omega))
 have ms3 := ms0.fr f3
 clear hW e00 e01 e02 e03 e04 e05
 refine hK.out _ _ ⟨ms3.1, ms3.2.1, ms3.2.2.1, ms3.2.2.2.1, ms3.2.2.2.2⟩ (fun hHeld => ?_)
 clear hK K
 refine pure_ (i := 15) (N := some 9) (v := ?_) (a' := ?_) #[oY,oY,oY,oY,oY,oY,oY,oY,oY,oY,oY,oY,oY,oY,oY,oY] rfl rfl (by kernel_rfl) (fun _ _ _ h => h) (Or.inl ⟨by rfl, ?_⟩) ?_ ?_
 rotate_left
 ·intro w'
  go_simp
  with_reducible rfl
 rotate_left
 ·simp only [Act.put, List.setIfInBounds_toArray, List.set_cons_zero, List.set_cons_succ, i64_w, i32_w]
  rfl
 refine done_ (by kernel_rfl) ?_
 clear hHeld ms3 ms2 msd bG ms0 f2
 have F3 := F1.trans f3 (fun _ _ h => h)
 have h3 := H.out.fr0 F3
 have bR3 := bR1.fr f3 (fun h => h)
 have hGl : w.heap.size < w1.heap.size := bR1.lt
 have b0 := h3.blk.cell 0
 have b1 := h3.blk.cell 1
 simp at b0 b1
 rw [← HN.out] at b0
 have yk : L[q]? = some y := by have := HYK.out; rwa [← HN.out, HQ.out] at this
 obtain ⟨d0, d1, d2⟩ := h3.row.at3 yk
 clear hlk h1 f3 bR1 yk
 have hbl := h3.blk.lt
 have hb8 := lt8 hbl
 have qb0 := h3.blk.free 0
 have hqc : q ≤ cap := by have := h3.row.len; have := HN.out; omega
 have hqc' : (q : Int) ≤ (cap : Int) := by omega
 go_wp2_with (at_builtin; fail)
 have mbl : m ≠ b := H.out.mb
 have gbl : g ≠ b := H.out.gb
 generalize hW : World.alloc (World.setCell w3 _ _) _ = w4
 have f4 : Fr (fun i => i = b) w3 w4 := by subst hW; (repeat' (first | (with_reducible exact Fr.refl _ _) | (with_reducible assumption) | (with_reducible refine Fr.alloc ?_ _) | (with_reducible refine Fr.drew ?_) | (with_reducible refine Fr.drewN ?_ _) | (with_reducible refine Fr.setCell ?_ _ _ ?_) | (exact Or.inr rfl) | (left; simp; done) | (left; simp; omega) | (simp; done) | (simp; omega) | omega))
 have bE : Blk w4 w3.heap.size #[.int .u64 y.f0, .int .u64 y.f1, .int .i64 y.f2] 24 := by subst hW; (repeat' (first | (with_reducible assumption) | (with_reducible apply Blk.drew) | (with_reducible apply Blk.drewN) | (with_reducible apply Blk.set) | (with_reducible apply Blk.other) | (exact Blk.new' _ _ _ (by first | rfl | (simp; done) | (simp; omega))) | (with_reducible apply Blk.alloc) | (with_reducible rfl) | (simp; done) | (simp; omega) | omega | rfl))
 have bb4 : Blk w4 b #[.slice (some ⟨g, 0, none⟩) q cap, .map (some m), .int .i64 size] 94 := by subst hW; exact (h3.blk.set rfl).alloc _
 clear hW
 have bR4 := bR3.fr f4 (fun e => by have := H.out.blk.lt; omega)
 have bG4 := bG3.fr f4 (fun e => by have := H.out.blk.lt; have := F1.size; omega)
 have hm4 := h3.map.fr f4 mbl
 have hr4 := h3.row.fr f4 gbl
 obtain ⟨w5, hdel, hm5, f5⟩ := hm4.drop Try.underlying22 Try.underlying92 hid0 0
 have es : (plF (place L) id).isSome = true := HLK.out.2
 rw [if_pos es, plF_del] at hm5
 simp only [hdel]
 have nmR : w.heap.size ≠ m := fun e => by have := H.out.map.lt; omega
 have nmG : w1.heap.size ≠ m := fun e => by have := H.out.map.lt; have := F1.size; omega
 have nmE : w3.heap.size ≠ m := fun e => by have := H.out.map.lt; have := F3.size; omega
 have bb5 := bb4.fr f5 (Ne.symm mbl)
 have bR5 := bR4.fr f5 nmR
 have bG5 := bG4.fr f5 nmG
 have bE5 := bE.fr f5 nmE
 have hr5 := hr4.fr f5 (Ne.symm (H.out.mg))
 have F5 : Fr (fun i => i = b ∨ i = g ∨ i = m) w w5 := ((F3.mono (T := fun i => i = b ∨ i = g ∨ i = m) (fun _ _ h => h.elim)).trans f4 (fun _ _ e => .inl e)).trans f5 (fun _ _ e => .inr (.inr e))
 have hrq : Row 24 w5 g cap (L.take q) := hr5.take q
 have hlq : (L.take q).length = q := by rw [List.length_take, ← HN.out]; omega
 have hp5 : Hp w5 b g m cap (L.take q) (del (place L) id) q size := ⟨by rw [hlq]; exact bb5, hrq, H.out.cap, by rw [← HN.out, HQ.out] at hm5; exact hm5, gbl, mbl, H.out.mg⟩
 clear hm5 hm4 hr4 hr5 hrq bb4 bR4 bG4 bE f4 f5 hdel es h3 bR3 bG3 b0 b1 d0 d1 d2 hb8 hbl qb0
 by_cases hkl : k < q
 ·have t1 : decide (k < q) = true := decide_eq_true hkl
  have t1' : decide ((k : Int) < (q : Int)) = true := decide_eq_true (by omega)
  obtain ⟨x0, x1, x2, _⟩ := bE5.c3
  go_wp2_with fail
  have hyi : (nth L q).f0 = y.f0 := by rw [HY.out, ← HN.out, HQ.out]; rfl
  have hyp : place L y.f0 = some q := by rw [← hyi]; exact place_is HU.out (by rw [← HN.out]; exact hqn)
  have hne : y.f0 ≠ id := fun e => by
   have := HPL.out
   rw [← e, hyp] at this
   injection this with this
   omega
  have hds : (del (place L) id y.f0).isSome = true := by unfold del; rw [if_neg hne, hyp]; rfl
  refine (lay_at hp5 (by rw [hlq]; exact hkl) y (HOK.out y (List.mem_of_getElem? HYK.out)) (by omega) (n' := q) (by rw [if_pos hds])).mono ?_
  rintro e w6 ⟨rfl, h6, f6⟩
  have hcl : (L.take q).set k y = cutOut L k := by unfold cutOut; rw [← HN.out, HQ.out, if_pos (by omega), HY.out, ← HN.out, HQ.out]; rfl
  have hcp : put (del (place L) id) y.f0 k = place (cutOut L k) := by
   have := place_cutOut HU.out HKL.out
   rw [← HN.out, HQ.out] at this
   rw [if_pos (by omega)] at this
   rw [HID.out] at this
   rw [← this, ← hyi]; rfl
  rw [hcl, hcp] at h6
  have hcu := uniq_cutOut HU.out HKL.out
  have hcn : (cutOut L k).length = q := by rw [cutOut_length, ← HN.out, HQ.out]; rfl
  have hco : ∀ z ∈ cutOut L k, ItOk z := by
   rw [← hcl]
   intro z hz
   rcases List.mem_or_eq_of_mem_set hz with h | h
   ·exact HOK.out z (List.mem_of_mem_take h)
   ·rw [h]; exact HOK.out y (List.mem_of_getElem? HYK.out)
  have HCU := hid hcu
  have HCN := hid hcn
  have HCO := hid hco
  have bR6 := bR5.fr f6 (fun e => by have := H.out.row.lt; rcases e with e | e <;> omega)
  have bG6 := bG5.fr f6 (fun e => by have := H.out.row.lt; have := H.out.map.lt; have := F1.size; rcases e with e | e <;> omega)
  clear hcl hcp hcu hcn hco x0 x1 x2
  go_wp2_with fail
  refine (settle_at h6 HCU.out HCO.out HCN.out.symm (by omega) (by rw [HCN.out]; exact hkl)).mono ?_
  rintro e W8 ⟨rfl, h8, f8⟩
  have RB := bR6.fr f8 (fun e => by have := H.out.row.lt; rcases e with e | e <;> omega)
  have GB := bG6.fr f8 (fun e => by have := H.out.row.lt; have := H.out.map.lt; have := F1.size; rcases e with e | e <;> omega)
  obtain ⟨x0, x1, x2, _⟩ := GB.c3
  obtain ⟨r0, r1, r2, q0, q1, q2⟩ := RB.c3
  go_wp2_with fail
  generalize hW : World.setCell (World.setCell _ _ _) _ _ = W9
  have b3 : Blk W9 w.heap.size #[.int .u64 x.f0, .int .u64 x.f1, .int .i64 x.f2] 24 := by subst hW; exact RB.set3 _ _ _
  have f9 : Fr (fun i => i = w.heap.size) W8 W9 := by subst hW; (repeat' (first | (with_reducible exact Fr.refl _ _) | (with_reducible assumption) | (with_reducible refine Fr.alloc ?_ _) | (with_reducible refine Fr.drew ?_) | (with_reducible refine Fr.drewN ?_ _) | (with_reducible refine Fr.setCell ?_ _ _ ?_) | (exact Or.inr rfl) | (left; simp; done) | (left; simp; omega) | (simp; done) | (simp; omega) | omega))
  clear hW
  refine bodyPost_ret (results_ct rfl _ _ _ 24 _ (0, 0) _ rfl b3 Try.underlying24 rfl (by kernel_rfl)) rfl ?_
  have e9 : M = settle (cutOut L k) k := by rw [HM.out, ← HN.out, HQ.out]; exact if_pos (by omega)
  have e8 : r = q := by rw [HR.out, ← HN.out, HQ.out]; rfl
  rw [e9, e8]
  have F8 := (F5.trans f6 (fun _ _ e => .inr e)).trans f8 (fun _ _ e => .inr e)
  refine ⟨rfl, h8.fr f9 ?_ ?_ ?_, F8.trans f9 (fun i hi e => by omega)⟩
  ·have := H.out.blk.lt; omega
  ·have := H.out.row.lt; omega
  ·have := H.out.map.lt; omega
 ·have t1 : decide (k < q) = false := decide_eq_false hkl
  have t1' : decide ((k : Int) < (q : Int)) = false := decide_eq_false (by omega)
  have RB := bR5
  generalize hW8 : w5 = W8 at *
  obtain ⟨x0, x1, x2, _⟩ := bG5.c3
  obtain ⟨r0, r1, r2, q0, q1, q2⟩ := RB.c3
  go_wp2_with fail
  generalize hW : World.setCell (World.setCell _ _ _) _ _ = W9
  have b3 : Blk W9 w.heap.size #[.int .u64 x.f0, .int .u64 x.f1, .int .i64 x.f2] 24 := by subst hW; exact RB.set3 _ _ _
  have f9 : Fr (fun i => i = w.heap.size) W8 W9 := by subst hW; (repeat' (first | (with_reducible exact Fr.refl _ _) | (with_reducible assumption) | (with_reducible refine Fr.alloc ?_ _) | (with_reducible refine Fr.drew ?_) | (with_reducible refine Fr.drewN ?_ _) | (with_reducible refine Fr.setCell ?_ _ _ ?_) | (exact Or.inr rfl) | (left; simp; done) | (left; simp; omega) | (simp; done) | (simp; omega) | omega))
  clear hW
  refine bodyPost_ret (results_ct rfl _ _ _ 24 _ (0, 0) _ rfl b3 Try.underlying24 rfl (by kernel_rfl)) rfl ?_
  have e9 : M = cutOut L k := by rw [HM.out, ← HN.out, HQ.out]; exact if_neg (by omega)
  have e8 : r = q := by rw [HR.out, ← HN.out, HQ.out]; rfl
  have hcl : L.take q = cutOut L k := by unfold cutOut; rw [← HN.out, HQ.out, if_neg (by omega)]; rfl
  have hcp : del (place L) id = place (cutOut L k) := by
   have := place_cutOut HU.out HKL.out
   rw [← HN.out, HQ.out] at this
   rw [if_neg (by omega), HID.out] at this
   exact this
  rw [e9, e8, ← hcp, ← hcl]
  refine ⟨rfl, hp5.fr f9 ?_ ?_ ?_, F5.trans f9 (fun i hi e => by omega)⟩
  ·have := H.out.blk.lt; omega
  ·have := H.out.row.lt; omega
  ·have := H.out.map.lt; omega
end Go.Proofs.Ytkcfhdnlmdndeaa
