/- settle: an item goes up, or down. -/
import Derived.Test.YtkcfhdnlmdndeaaHpChange
namespace Go.Proofs.Ytkcfhdnlmdndeaa
open Go.RowKit Go.Proofs.YtkcfhdnlmdndeaaW.PrintWords Go.Proofs.YtkcfhdnlmdndeaaW.PrintLast Go.Proofs.YtkcfhdnlmdndeaaW.PrintMore PHp
set_option linter.unusedVariables false
set_option linter.unusedSimpArgs false
set_option maxRecDepth 100000
theorem tdiv4 {a p : Nat} (h : p = a / 4) : Int.tdiv (a : Int) 4 = (p : Int) := by rw [Int.tdiv_eq_ediv_of_nonneg (by omega)]; omega
theorem ediv4 {a p : Nat} (h : p = a / 4) : (a : Int) / 4 = (p : Int) := by omega
theorem wrapN' {a : Nat} (h : a < 9223372036854775808) : wrap64 (a : Int) = (a : Int) := by unfold wrap64; omega
theorem wrapN {a : Nat} (h : a < 9223372036854775808) : IntKind.i64.wrap (a : Int) = (a : Int) := (i64_w _).trans (wrapN' h)
theorem wrapM {a j : Nat} (h : a = 4 * j) (hs : j < 1000000000) : wrap64 (4 * (j : Int)) = (a : Int) := by unfold wrap64; omega
theorem wrapA {a c : Nat} {d : Nat} (h : c = a + d) (hs : a + d < 9000000000) : wrap64 ((a : Int) + (d : Int)) = (c : Int) := by unfold wrap64; omega
theorem wrapP {j j1 : Nat} (h : j = j1 + 1) (hs : j1 < 1000000000) : wrap64 ((j : Int) - 1) = (j1 : Int) := by unfold wrap64; omega
theorem childM {j2 C c : Nat} (h : C = 4 * j2 + 1 + c) (h4 : c < 4) : 4 * j2 + 6 - (intOf (.int .i64 ((C + 1 : Nat) : Int))).toNat < 4 * j2 + 6 - (intOf (.int .i64 (C : Int))).toNat := by
 simp [intOf]; omega
/-- What the tests read. -/
def SeS (W : World) (b g cap n : Nat) (hB kB j i1 i2 : Nat) (x y : It) (w' : World) : Prop :=
 w'.cell? ⟨hB, 0, none⟩ = some (.pointer (some ⟨b, 0, none⟩)) ∧ w'.cell? ⟨kB, 0, none⟩ = some (.int .i64 (j : Int)) ∧ w'.cell? ⟨b, 0, none⟩ = some (.slice (some ⟨g, 0, none⟩) n cap) ∧
 w'.cell? ⟨g, i1 * 3, none⟩ = some (.int .u64 x.f0) ∧ w'.cell? ⟨g, i1 * 3 + 1, none⟩ = some (.int .u64 x.f1) ∧ w'.cell? ⟨g, i1 * 3 + 2, none⟩ = some (.int .i64 x.f2) ∧
 w'.cell? ⟨g, i2 * 3, none⟩ = some (.int .u64 y.f0) ∧ w'.cell? ⟨g, i2 * 3 + 1, none⟩ = some (.int .u64 y.f1) ∧ w'.cell? ⟨g, i2 * 3 + 2, none⟩ = some (.int .i64 y.f2) ∧ Fr (fun _ => False) W w'
theorem SeS.fr {W : World} {b g cap n : Nat} {hB kB j i1 i2 : Nat} {x y : It} {w w' : World} (kf : Fr (fun _ => False) w w') (h : SeS W b g cap n hB kB j i1 i2 x y w) : SeS W b g cap n hB kB j i1 i2 x y w' := by
 obtain ⟨a0, a1, a2, a3, a4, a5, a6, a7, a8, hf⟩ := h
 have key : ∀ {g i : Nat} {v : Value}, w.cell? ⟨g, i, none⟩ = some v → w'.cell? ⟨g, i, none⟩ = some v := fun h => (kf.cell (World.block_lt_of_cell? w _ h) (fun h => h)).trans h
 exact ⟨key a0, key a1, key a2, key a3, key a4, key a5, key a6, key a7, key a8, hf.trans kf (fun _ _ h => h)⟩
def jOf (w : World) (kB : Nat) : Nat := match w.cell? ⟨kB, 0, none⟩ with | some v => (intOf v).toNat | none => 0
theorem jOf_eq {w : World} {kB j : Nat} (h : Blk w kB #[.int .i64 (j : Int)] 3) : jOf w kB = j := by
 unfold jOf; rw [h.cell 0]; simp [intOf]
/-- A heap whose list is l, of n items, as it is while an item is settled. -/
structure Hs (w : World) (b g m cap n : Nat) (size : Int) (hB kB : Nat) (l : List It) (j : Nat) : Prop where
 hp : Hp w b g m cap l (place l) n size
 uniq : Uniq l
 ok : ∀ x ∈ l, ItOk x
 len : n = l.length
 hb : Blk w hB #[.pointer (some ⟨b, 0, none⟩)] 29
 kb : Blk w kB #[.int .i64 (j : Int)] 3
 lt : j < l.length
theorem Hs.fr0 {w w' : World} {b g m cap n : Nat} {size : Int} {hB kB : Nat} {l : List It} {j : Nat} (h : Hs w b g m cap n size hB kB l j) (k : Fr (fun _ => False) w w') : Hs w' b g m cap n size hB kB l j :=
 ⟨h.hp.fr0 k, h.uniq, h.ok, h.len, h.hb.fr k (fun h => h), h.kb.fr k (fun h => h), h.lt⟩
theorem Hs.reads {w : World} {b g m cap n : Nat} {size : Int} {hB kB : Nat} {l : List It} {j : Nat} (h : Hs w b g m cap n size hB kB l j) {i1 i2 : Nat} (h1 : i1 < l.length) (h2 : i2 < l.length) :
  SeS w b g cap n hB kB j i1 i2 (nth l i1) (nth l i2) w := by
 have a := h.hp.row.at3 (nth_some h1)
 have c := h.hp.row.at3 (nth_some h2)
 have d : w.cell? ⟨b, 0, none⟩ = some (.slice (some ⟨g, 0, none⟩) n cap) := by rw [h.len]; exact h.hp.blk.cell 0
 exact ⟨h.hb.cell 0, h.kb.cell 0, d, a.1, a.2.1, a.2.2, c.1, c.2.1, c.2.2, Fr.refl _ _⟩
theorem settle_cases {L l : List It} {k j : Nat} (h : up k L k = (l, j)) (hj : j ≤ k) : (j < k ∧ settle L k = l) ∨ (k ≤ j ∧ settle L k = down l.length l j) := by
 by_cases e : j = k
 ·subst e
  have hl : l = L := by have := up_same j L j (by rw [h]); rw [h] at this; exact this
  subst hl
  exact .inr ⟨Nat.le_refl _, by unfold settle; rw [h, if_pos rfl]⟩
 ·exact .inl ⟨by omega, by unfold settle; rw [h, if_neg e]⟩
/-- Two items change their places. -/
theorem chg_at {w : World} {b g m cap n : Nat} {size : Int} {hB kB : Nat} {l : List It} {j : Nat} (h : Hs w b g m cap n size hB kB l j) (hs : n < 1000000000) {q : Nat} (hq : q < l.length) :
  Calls Try.prog 62 #[.int .i64 (q : Int), .pointer (some ⟨hB, 0, none⟩), .pointer (some ⟨kB, 0, none⟩)] w fun e w' =>
   e = .returned (.tuple #[]) ∧ Hs w' b g m cap n size hB kB (swp l j q) q ∧ Fr (fun i => i = g ∨ i = m ∨ i = kB) w w' := by
 refine (change_at (hc := #[]) (kc := #[]) h.hp h.uniq rfl h.ok h.len hs h.hb h.kb h.lt hq).mono ?_
 rintro e w' ⟨rfl, h1, h2, h3⟩
 refine ⟨rfl, ⟨h1, uniq_swp h.uniq h.lt hq, fun x hx => h.ok x ((swp_perm h.lt hq).subset hx), by rw [swp_length]; exact h.len, h.hb.fr h3 ?_, h2, by rw [swp_length]; exact hq⟩, h3⟩
 rintro (e | e | e)
 ·exact (h.hp.row.ne h.hb (by decide)) e.symm
 ·exact h.hp.map.ne h.hb e.symm
 ·subst e; exact absurd (h.hb.one h.kb).2 (by decide)
set_option maxHeartbeats 2000000 in
theorem settle_at {w : World} {b g m cap n : Nat} {L : List It} {size : Int} (h : Hp w b g m cap L (place L) n size) (hu : Uniq L) (hok : ∀ x ∈ L, ItOk x) (hn : n = L.length) (hs : n < 1000000000)
  {k : Nat} (hk : k < L.length) :
  Calls Try.prog 47 #[.pointer (some ⟨b, 0, none⟩), .int .i64 (k : Int)] w fun e w' =>
   e = .returned (.tuple #[]) ∧ Hp w' b g m cap (settle L k) (place (settle L k)) n size ∧ Fr (fun j => j = g ∨ j = m) w w' := by
 go_enter Try.func47, Try.ntmps47
 go_wp2_with fail
 generalize hW : World.alloc (World.alloc w _) _ = W
 have f0 : Fr (fun _ => False) w W := by subst hW; (repeat' (first | (with_reducible exact Fr.refl _ _) | (with_reducible assumption) | (with_reducible refine Fr.alloc ?_ _) | (with_reducible refine Fr.drew ?_) | (with_reducible refine Fr.drewN ?_ _) | (with_reducible refine Fr.setCell ?_ _ _ ?_) | (exact Or.inr rfl) | (left; simp; done) | (left; simp; omega) | (simp; done) | (simp; omega) | omega))
 have bH : Blk W w.heap.size #[.pointer (some ⟨b, 0, none⟩)] 29 := by subst hW; (repeat' (first | (with_reducible assumption) | (with_reducible apply Blk.drew) | (with_reducible apply Blk.drewN) | (with_reducible apply Blk.set) | (with_reducible apply Blk.other) | (exact Blk.new' _ _ _ (by first | rfl | (simp; done) | (simp; omega))) | (with_reducible apply Blk.alloc) | (with_reducible rfl) | (simp; done) | (simp; omega) | omega | rfl))
 have bK : Blk W (w.heap.size + 1) #[.int .i64 (k : Int)] 3 := by subst hW; (repeat' (first | (with_reducible assumption) | (with_reducible apply Blk.drew) | (with_reducible apply Blk.drewN) | (with_reducible apply Blk.set) | (with_reducible apply Blk.other) | (exact Blk.new' _ _ _ (by first | rfl | (simp; done) | (simp; omega))) | (with_reducible apply Blk.alloc) | (with_reducible rfl) | (simp; done) | (simp; omega) | omega | rfl))
 clear hW
 have hs0 : Hs W b g m cap n size w.heap.size (w.heap.size + 1) L k := ⟨h.fr0 f0, hu, hok, hn, bH, bK, hk⟩
 have hgl := h.row.lt
 have hml := h.map.lt
 have HN := hid hn
 have hkn : k < n := by omega
 clear h bH bK hu hok hn hk
 generalize hBe : w.heap.size = hB at *
 generalize hKe : hB + 1 = kB at *
 have HKW : Hid (∀ i, i < w.heap.size → i ≠ kB) := hid (fun i hi e => by omega)
 have R0 : Hid (up k L k = up k L k) := hid rfl
 go_loopw [] (fun wr => ∃ (l : List It) (j : Nat), j ≤ k ∧ Hs wr b g m cap n size hB kB l j ∧ Hid (up k L k = up j l j) ∧ Fr (fun i => i = g ∨ i = m ∨ i = kB) W wr) (fun wr => jOf wr kB)
 case atStart => exact ⟨L, k, Nat.le_refl _, hs0, R0, Fr.refl _ _⟩
 case round =>
  clear hs0 R0
  obtain ⟨l, j, hjk, hh, hup, hf⟩ := hrel
  have hjl := hh.lt
  have hln := hh.len
  have HJ := hid hjl
  have hpl : (j - 1) / 4 < l.length := by omega
  have HH := hid hh
  have HR := hid (hh.reads hjl hpl)
  have hj0 := hh.kb.cell 0
  simp at hj0
  clear hh
  by_cases hj : 0 < j
  ·obtain ⟨j1, hj1⟩ : ∃ j1, j = j1 + 1 := ⟨j - 1, by omega⟩
   obtain ⟨p, hp⟩ : ∃ p, p = (j - 1) / 4 := ⟨_, rfl⟩
   rw [← hp] at HR hpl
   have hp2 : p = j1 / 4 := by omega
   have HP := hid hp
   have HJ1 := hid hj1
   have hjn : j < n := by omega
   have hpn : p < n := by omega
   have hs1 : j1 < 1000000000 := by omega
   have t0 : decide ((j : Int) > 0) = true := decide_eq_true (by omega)
   have a1 : (j : Int) < (n : Int) := by omega
   have a2 : (p : Int) < (n : Int) := by omega
   have HPL := hid hpl
   have HPK : Hid (p < j) := hid (by omega)
   have e0 : Int.tdiv (j1 : Int) 4 = (p : Int) := tdiv4 hp2
   have e2 : (j1 : Int) / 4 = (p : Int) := ediv4 hp2
   have e3 : IntKind.i64.wrap (p : Int) = (p : Int) := wrapN (by omega)
   have e4 : wrap64 (p : Int) = (p : Int) := wrapN' (by omega)
   have e5 : wrap64 ((j : Int) - 1) = (j1 : Int) := wrapP hj1 hs1
   have e1 : IntKind.i64.wrap ((j : Int) - 1) = (j1 : Int) := (i64_w _).trans e5
   clear hp hp2 hj1
   obtain ⟨av, hav⟩ : ∃ av, av = ahead (nth l j) (nth l p) := ⟨_, rfl⟩
   have HA : Hid (∀ W', Calls Try.prog 12 #[vI (nth l j), vI (nth l p)] W' fun e w' => e = .returned (.bool av) ∧ Fr (fun _ => False) W' w') := hid (fun W' => by rw [hav]; exact ahead_at _ _ _)
   have msd := HR.out.fr (Fr.drew (Fr.refl _ _))
   generalize nth l j = x at msd HA
   generalize nth l p = y at msd HA
   clear hln hjl hpl
   have HAV := hid hav
   clear HR hav
   go_wp2_with fail
   refine start_ (n := 21) (S := fun w' => w'.cell? ⟨hB, 0, none⟩ = some (.pointer (some ⟨b, 0, none⟩)) ∧ w'.cell? ⟨kB, 0, none⟩ = some (.int .i64 (j : Int)) ∧ w'.cell? ⟨b, 0, none⟩ = some (.slice (some ⟨g, 0, none⟩) n cap) ∧ w'.cell? ⟨g, j * 3, none⟩ = some (.int .u64 x.f0) ∧ w'.cell? ⟨g, j * 3 + 1, none⟩ = some (.int .u64 x.f1) ∧ w'.cell? ⟨g, j * 3 + 2, none⟩ = some (.int .i64 x.f2) ∧ w'.cell? ⟨g, p * 3, none⟩ = some (.int .u64 y.f0) ∧ w'.cell? ⟨g, p * 3 + 1, none⟩ = some (.int .u64 y.f1) ∧ w'.cell? ⟨g, p * 3 + 2, none⟩ = some (.int .i64 y.f2) ∧ Fr (fun _ => False) wr w') (ds := []) #[oN,oN,oN,oN,oN,oN,oN,oN,oN,oN,oN,oN,oN,oN,oN,oN,oN,oN,oN,oN,oN] (by kernel_rfl) rfl rfl ⟨msd.1, msd.2.1, msd.2.2.1, msd.2.2.2.1, msd.2.2.2.2.1, msd.2.2.2.2.2.1, msd.2.2.2.2.2.2.1, msd.2.2.2.2.2.2.2.1, msd.2.2.2.2.2.2.2.2.1, msd.2.2.2.2.2.2.2.2.2⟩ (fun hHeld => ?_)
   refine take_ (i := 0) (N := some 10) (v := ?_) (a' := ?_) #[oY,oN,oN,oN,oN,oN,oN,oN,oN,oN,oN,oN,oN,oN,oN,oN,oN,oN,oN,oN,oN] rfl rfl (by kernel_rfl) (fun _ _ _ h => h) (Or.inl ⟨by rfl, ?_⟩) hHeld ?_ ?_
   rotate_left
   ·rintro w' ⟨s0, s1, s2, s3, s4, s5, s6, s7, s8, s9⟩
    go_simp
    with_reducible rfl
   rotate_left
   ·simp only [Act.put, List.setIfInBounds_toArray, List.set_cons_zero, List.set_cons_succ, i64_w, i32_w]
    rfl
   refine pure_ (i := 1) (N := some 11) (v := ?_) (a' := ?_) #[oY,oY,oN,oN,oN,oN,oN,oN,oN,oN,oN,oN,oN,oN,oN,oN,oN,oN,oN,oN,oN] rfl rfl (by kernel_rfl) (fun _ _ _ h => h) (Or.inl ⟨by rfl, ?_⟩) ?_ ?_
   rotate_left
   ·intro w'
    go_simp
    with_reducible rfl
   rotate_left
   ·simp only [Act.put, List.setIfInBounds_toArray, List.set_cons_zero, List.set_cons_succ, i64_w, i32_w]
    rfl
   refine pure_ (i := 2) (N := some 12) (v := ?_) (a' := ?_) #[oY,oY,oY,oN,oN,oN,oN,oN,oN,oN,oN,oN,oN,oN,oN,oN,oN,oN,oN,oN,oN] rfl rfl (by kernel_rfl) (fun _ _ _ h => h) (Or.inl ⟨by rfl, ?_⟩) ?_ ?_
   rotate_left
   ·intro w'
    go_simp
    with_reducible rfl
   rotate_left
   ·simp only [Act.put, List.setIfInBounds_toArray, List.set_cons_zero, List.set_cons_succ, i64_w, i32_w]
    rfl
   refine take_ (i := 3) (N := some 13) (v := ?_) (a' := ?_) #[oY,oY,oY,oY,oN,oN,oN,oN,oN,oN,oN,oN,oN,oN,oN,oN,oN,oN,oN,oN,oN] rfl rfl (by kernel_rfl) (fun _ _ _ h => h) (Or.inl ⟨by rfl, ?_⟩) hHeld ?_ ?_
   rotate_left
   ·rintro w' ⟨s0, s1, s2, s3, s4, s5, s6, s7, s8, s9⟩
    go_simp
    with_reducible rfl
   rotate_left
   ·simp only [Act.put, List.setIfInBounds_toArray, List.set_cons_zero, List.set_cons_succ, i64_w, i32_w]
    rfl
   refine pure_ (i := 4) (N := some 14) (v := ?_) (a' := ?_) #[oY,oY,oY,oY,oY,oN,oN,oN,oN,oN,oN,oN,oN,oN,oN,oN,oN,oN,oN,oN,oN] rfl rfl (by kernel_rfl) (fun _ _ _ h => h) (Or.inl ⟨by rfl, ?_⟩) ?_ ?_
   rotate_left
   ·intro w'
    go_simp
    with_reducible rfl
   rotate_left
   ·simp only [Act.put, List.setIfInBounds_toArray, List.set_cons_zero, List.set_cons_succ, i64_w, i32_w]
    rfl
   refine pure_ (i := 5) (N := some 15) (v := ?_) (a' := ?_) #[oY,oY,oY,oY,oY,oY,oN,oN,oN,oN,oN,oN,oN,oN,oN,oN,oN,oN,oN,oN,oN] rfl rfl (by kernel_rfl) (fun _ _ _ h => h) (Or.inl ⟨by rfl, ?_⟩) ?_ ?_
   rotate_left
   ·intro w'
    go_simp
    with_reducible rfl
   rotate_left
   ·simp only [Act.put, List.setIfInBounds_toArray, List.set_cons_zero, List.set_cons_succ, i64_w, i32_w]
    rfl
   refine take_ (i := 6) (N := some 16) (v := ?_) (a' := ?_) #[oY,oY,oY,oY,oY,oY,oY,oN,oN,oN,oN,oN,oN,oN,oN,oN,oN,oN,oN,oN,oN] rfl rfl (by kernel_rfl) (fun _ _ _ h => h) (Or.inl ⟨by rfl, ?_⟩) hHeld ?_ ?_
   rotate_left
   ·rintro w' ⟨s0, s1, s2, s3, s4, s5, s6, s7, s8, s9⟩
    go_simp
    with_reducible rfl
   rotate_left
   ·simp only [Act.put, List.setIfInBounds_toArray, List.set_cons_zero, List.set_cons_succ, i64_w, i32_w]
    rfl
   refine take_ (i := 7) (N := some 17) (v := ?_) (a' := ?_) #[oY,oY,oY,oY,oY,oY,oY,oY,oN,oN,oN,oN,oN,oN,oN,oN,oN,oN,oN,oN,oN] rfl rfl (by kernel_rfl) (fun _ _ _ h => h) (Or.inl ⟨by rfl, ?_⟩) hHeld ?_ ?_
   rotate_left
   ·rintro w' ⟨s0, s1, s2, s3, s4, s5, s6, s7, s8, s9⟩
    go_simp
    with_reducible rfl
   rotate_left
   ·simp only [Act.put, List.setIfInBounds_toArray, List.set_cons_zero, List.set_cons_succ, i64_w, i32_w]
    rfl
   refine pure_ (i := 8) (N := some 18) (v := ?_) (a' := ?_) #[oY,oY,oY,oY,oY,oY,oY,oY,oY,oN,oN,oN,oN,oN,oN,oN,oN,oN,oN,oN,oN] rfl rfl (by kernel_rfl) (fun _ _ _ h => h) (Or.inl ⟨by rfl, ?_⟩) ?_ ?_
   rotate_left
   ·intro w'
    go_simp
    with_reducible rfl
   rotate_left
   ·simp only [Act.put, List.setIfInBounds_toArray, List.set_cons_zero, List.set_cons_succ, i64_w, i32_w]
    rfl
   refine take_ (i := 9) (N := some 19) (v := ?_) (a' := ?_) #[oY,oY,oY,oY,oY,oY,oY,oY,oY,oY,oN,oN,oN,oN,oN,oN,oN,oN,oN,oN,oN] rfl rfl (by kernel_rfl) (fun _ _ _ h => h) (Or.inl ⟨by rfl, ?_⟩) hHeld ?_ ?_
   rotate_left
   ·rintro w' ⟨s0, s1, s2, s3, s4, s5, s6, s7, s8, s9⟩
    go_simp
    with_reducible rfl
   rotate_left
   ·simp only [Act.put, List.setIfInBounds_toArray, List.set_cons_zero, List.set_cons_succ, i64_w, i32_w]
    rfl
   refine take_ (i := 10) (N := some 20) (v := ?_) (a' := ?_) #[oY,oY,oY,oY,oY,oY,oY,oY,oY,oY,oY,oN,oN,oN,oN,oN,oN,oN,oN,oN,oN] rfl rfl (by kernel_rfl) (fun _ _ _ h => h) (Or.inl ⟨by rfl, ?_⟩) hHeld ?_ ?_
   rotate_left
   ·rintro w' ⟨s0, s1, s2, s3, s4, s5, s6, s7, s8, s9⟩
    go_simp
    with_reducible rfl
   rotate_left
   ·simp only [Act.put, List.setIfInBounds_toArray, List.set_cons_zero, List.set_cons_succ, i64_w, i32_w]
    rfl
   refine pure_ (i := 11) (N := some 21) (v := ?_) (a' := ?_) #[oY,oY,oY,oY,oY,oY,oY,oY,oY,oY,oY,oY,oN,oN,oN,oN,oN,oN,oN,oN,oN] rfl rfl (by kernel_rfl) (fun _ _ _ h => h) (Or.inl ⟨by rfl, ?_⟩) ?_ ?_
   rotate_left
   ·intro w'
    go_simp
    with_reducible rfl
   rotate_left
   ·simp only [Act.put, List.setIfInBounds_toArray, List.set_cons_zero, List.set_cons_succ, i64_w, i32_w]
    rfl
   refine pure_ (i := 12) (N := some 22) (v := ?_) (a' := ?_) #[oY,oY,oY,oY,oY,oY,oY,oY,oY,oY,oY,oY,oY,oN,oN,oN,oN,oN,oN,oN,oN] rfl rfl (by kernel_rfl) (fun _ _ _ h => h) (Or.inl ⟨by rfl, ?_⟩) ?_ ?_
   rotate_left
   ·intro w'
    go_simp
    with_reducible rfl
   rotate_left
   ·simp only [Act.put, List.setIfInBounds_toArray, List.set_cons_zero, List.set_cons_succ, i64_w, i32_w]
    rfl
   refine take_ (i := 13) (N := some 23) (v := ?_) (a' := ?_) #[oY,oY,oY,oY,oY,oY,oY,oY,oY,oY,oY,oY,oY,oY,oN,oN,oN,oN,oN,oN,oN] rfl rfl (by kernel_rfl) (fun _ _ _ h => h) (Or.inl ⟨by rfl, ?_⟩) hHeld ?_ ?_
   rotate_left
   ·rintro w' ⟨s0, s1, s2, s3, s4, s5, s6, s7, s8, s9⟩
    go_simp
    with_reducible rfl
   rotate_left
   ·simp only [Act.put, List.setIfInBounds_toArray, List.set_cons_zero, List.set_cons_succ, i64_w, i32_w]
    rfl
   refine take_ (i := 14) (N := some 24) (v := ?_) (a' := ?_) #[oY,oY,oY,oY,oY,oY,oY,oY,oY,oY,oY,oY,oY,oY,oY,oN,oN,oN,oN,oN,oN] rfl rfl (by kernel_rfl) (fun _ _ _ h => h) (Or.inl ⟨by rfl, ?_⟩) hHeld ?_ ?_
   rotate_left
   ·rintro w' ⟨s0, s1, s2, s3, s4, s5, s6, s7, s8, s9⟩
    go_simp
    with_reducible rfl
   rotate_left
   ·simp only [Act.put, List.setIfInBounds_toArray, List.set_cons_zero, List.set_cons_succ, i64_w, i32_w]
    rfl
   refine pure_ (i := 15) (N := some 25) (v := ?_) (a' := ?_) #[oY,oY,oY,oY,oY,oY,oY,oY,oY,oY,oY,oY,oY,oY,oY,oY,oN,oN,oN,oN,oN] rfl rfl (by kernel_rfl) (fun _ _ _ h => h) (Or.inl ⟨by rfl, ?_⟩) ?_ ?_
   rotate_left
   ·intro w'
    go_simp
    with_reducible rfl
   rotate_left
   ·simp only [Act.put, List.setIfInBounds_toArray, List.set_cons_zero, List.set_cons_succ, i64_w, i32_w]
    rfl
   refine pure_ (i := 16) (N := some 26) (v := ?_) (a' := ?_) #[oY,oY,oY,oY,oY,oY,oY,oY,oY,oY,oY,oY,oY,oY,oY,oY,oY,oN,oN,oN,oN] rfl rfl (by kernel_rfl) (fun _ _ _ h => h) (Or.inl ⟨by rfl, ?_⟩) ?_ ?_
   rotate_left
   ·intro w'
    go_simp
    with_reducible rfl
   rotate_left
   ·simp only [Act.put, List.setIfInBounds_toArray, List.set_cons_zero, List.set_cons_succ, i64_w, i32_w]
    rfl
   refine pure_ (i := 17) (N := some 27) (v := ?_) (a' := ?_) #[oY,oY,oY,oY,oY,oY,oY,oY,oY,oY,oY,oY,oY,oY,oY,oY,oY,oY,oN,oN,oN] rfl rfl (by kernel_rfl) (fun _ _ _ h => h) (Or.inl ⟨by rfl, ?_⟩) ?_ ?_
   rotate_left
   ·intro w'
    go_simp
    with_reducible rfl
   rotate_left
   ·simp only [Act.put, List.setIfInBounds_toArray, List.set_cons_zero, List.set_cons_succ, i64_w, i32_w]
    rfl
   refine take_ (i := 18) (N := some 28) (v := ?_) (a' := ?_) #[oY,oY,oY,oY,oY,oY,oY,oY,oY,oY,oY,oY,oY,oY,oY,oY,oY,oY,oY,oN,oN] rfl rfl (by kernel_rfl) (fun _ _ _ h => h) (Or.inl ⟨by rfl, ?_⟩) hHeld ?_ ?_
   rotate_left
   ·rintro w' ⟨s0, s1, s2, s3, s4, s5, s6, s7, s8, s9⟩
    go_simp
    with_reducible rfl
   rotate_left
   ·simp only [Act.put, List.setIfInBounds_toArray, List.set_cons_zero, List.set_cons_succ, i64_w, i32_w]
    rfl
   refine one_ (i := 19) (N := some 29) #[oY,oY,oY,oY,oY,oY,oY,oY,oY,oY,oY,oY,oY,oY,oY,oY,oY,oY,oY,oY,oN] rfl rfl (by kernel_rfl) (by decide) (fun K hK => ?_)
   refine goes_ Try.func12 (by kernel_rfl) rfl #[vI x, vI y] (by rfl) rfl rfl (by simp only [List.map_toArray, List.map_cons, List.map_nil]; rfl) ?_
   refine (HA.out _).mono ?_
   rintro e w3 ⟨rfl, k3⟩
   refine ⟨_, rfl, ?_⟩
   have ms3 := SeS.fr k3 hHeld
   refine hK.out _ _ ⟨ms3.1, ms3.2.1, ms3.2.2.1, ms3.2.2.2.1, ms3.2.2.2.2.1, ms3.2.2.2.2.2.1, ms3.2.2.2.2.2.2.1, ms3.2.2.2.2.2.2.2.1, ms3.2.2.2.2.2.2.2.2.1, ms3.2.2.2.2.2.2.2.2.2⟩ (fun hHeld => ?_)
   clear hK K
   refine norm_ (a' := ?_) ?_ ?_
   rotate_left
   ·show Act.put _ (some 29) _ = _
    simp only [Act.put, List.setIfInBounds_toArray, List.set_cons_zero, List.set_cons_succ, i64_w, i32_w]
    rfl
   refine pure_ (i := 20) (N := some 30) (v := ?_) (a' := ?_) #[oY,oY,oY,oY,oY,oY,oY,oY,oY,oY,oY,oY,oY,oY,oY,oY,oY,oY,oY,oY,oY] rfl rfl (by kernel_rfl) (fun _ _ _ h => h) (Or.inl ⟨by rfl, ?_⟩) ?_ ?_
   rotate_left
   ·intro w'
    go_simp
    with_reducible rfl
   rotate_left
   ·simp only [Act.put, List.setIfInBounds_toArray, List.set_cons_zero, List.set_cons_succ, i64_w, i32_w]
    rfl
   refine done_ (by kernel_rfl) ?_
   have f3 := hHeld.2.2.2.2.2.2.2.2.2
   clear hHeld ms3 msd k3
   cases av with
   | true =>
    have h4 := HH.out.fr0 f3
    have g1 := h4.kb.cell 0
    simp at g1
    go_wp2_with fail
    refine (chg_at h4 hs HPL.out).mono ?_
    rintro e w8 ⟨rfl, h8, f8⟩
    clear e0 e1 e2 e3 e4 e5 g1 t0 a1 a2
    go_wp2_with fail
    go_roundw
    case rel => exact ⟨swp l j p, p, Nat.le_trans (Nat.le_of_lt HPK.out) hjk, h8, hid (by rw [hup.out, HP.out]; exact up_go hj (by rw [← HP.out]; exact HAV.out.symm)), (hf.trans f3 (fun _ _ h => h.elim)).trans f8 (fun _ _ h => h)⟩
    case measure => rw [jOf_eq h8.kb, jOf_eq HH.out.kb]; exact HPK.out
   | false =>
    have fE := f3
    have hupd : up k L k = (l, j) := by rw [hup.out]; exact up_stop (fun e => by have := HAV.out; rw [HP.out, e.2] at this; cases this)
    have HI := hid hupd
    have HJK := hid hjk
    clear hupd hj0 hjk
    go_wp2_with fail
    have R2 : Hid ((j < k ∧ settle L k = l) ∨ (k ≤ j ∧ settle L k = down l.length l j)) := hid (settle_cases HI.out HJK.out)
    go_loopw [] (fun wr2 => ∃ (l2 : List It) (j2 : Nat), Hs wr2 b g m cap n size hB kB l2 j2 ∧ Hid ((j2 < k ∧ settle L k = l2) ∨ (k ≤ j2 ∧ settle L k = down l2.length l2 j2)) ∧ Fr (fun i => i = g ∨ i = m ∨ i = kB) W wr2) (fun wr2 => n - jOf wr2 kB)
    case atStart => exact ⟨l, j, HH.out.fr0 fE, R2, hf.trans fE (fun _ _ h => h.elim)⟩
    case round =>
     clear R2 HI HH hf fE
     obtain ⟨l2, j2, hh2, hr2, hf2⟩ := hrel
     have hj2 := hh2.kb.cell 0
     simp at hj2
     have HH2 := hid hh2
     have hlt2 := hh2.lt
     have hlen2 := hh2.len
     have hj2n : j2 < 1000000000 := by omega
     clear hh2
     by_cases hkj : k ≤ j2
     ·have hst2 : settle L k = down l2.length l2 j2 := hr2.out.elim (fun e => absurd e.1 (by omega)) (fun e => e.2)
      have HS2 := hid hst2
      have HKJ := hid hkj
      have q0 : decide ((k : Int) ≤ (j2 : Int)) = true := decide_eq_true (by omega)
      have q0' : decide (k ≤ j2) = true := decide_eq_true hkj
      obtain ⟨J4, hJ4⟩ : ∃ J4, J4 = 4 * j2 := ⟨_, rfl⟩
      obtain ⟨J1, hJ1⟩ : ∃ J1, J1 = 4 * j2 + 1 := ⟨_, rfl⟩
      obtain ⟨Jm, hJm⟩ : ∃ Jm, Jm = 4 * j2 + 4 := ⟨_, rfl⟩
      have e1' : wrap64 (4 * (j2 : Int)) = (J4 : Int) := wrapM hJ4 hj2n
      have e2' : wrap64 ((J4 : Int) + 1) = (J1 : Int) := wrapA (d := 1) (by omega) (by omega)
      have e3' : wrap64 ((J4 : Int) + 4) = (Jm : Int) := wrapA (d := 4) (by omega) (by omega)
      have e1 := (i64_w _).trans e1'
      have e2 := (i64_w _).trans e2'
      have e3 := (i64_w _).trans e3'
      have HJ1 := hid hJ1
      have HJm := hid hJm
      clear hr2 hst2 hkj hJ4 hJ1 hJm
      go_wp2_with fail
      go_loopw [6, 7] (fun v6 v7 wr3 => ∃ c C : Nat, c ≤ 4 ∧ C = 4 * j2 + 1 + c ∧ v6 = .int .i64 ((bestTo l2 j2 c : Nat) : Int) ∧ v7 = .int .i64 (C : Int) ∧ Fr (fun _ => False) wr wr3) (fun _ v7 _ => 4 * j2 + 6 - (intOf v7).toNat)
      case atStart => exact ⟨0, J1, Nat.zero_le _, HJ1.out, rfl, rfl, Fr.refl _ _⟩
      case round =>
       obtain ⟨c, C, hc4, hC, rfl, rfl, hf3⟩ := hrel
       have hbl := bestTo_lt hlt2 c
       obtain ⟨B, hB0⟩ : ∃ B, B = bestTo l2 j2 c := ⟨_, rfl⟩
       rw [← hB0] at hbl ⊢
       have HB0 := hid hB0
       have HBL := hid hbl
       have HC := hid hC
       clear hB0
       by_cases hcc : c = 4
       ·subst hcc
        have t1 : decide ((C : Int) ≤ (Jm : Int)) = false := decide_eq_false (by have := HJm.out; omega)
        have t1' : decide (C ≤ Jm) = false := decide_eq_false (by have := HJm.out; omega)
        obtain ⟨c0, c1, c2, _⟩ := (HH2.out.fr0 hf3).reads (i1 := j2) (i2 := j2) hlt2 hlt2
        have f9 := hf3
        clear hC hbl hlt2 hlen2 hc4
        have hlB : B = bestTo l2 j2 4 := HB0.out
        have hBl := HBL.out
        by_cases hbe : B = j2
        ·have hst : settle L k = l2 := by rw [HS2.out]; exact down_stop HH2.out.lt (by rw [← hlB]; exact hbe)
         have q1 : ((B : Int) == (j2 : Int)) = true := by rw [beq_iff_eq, hbe]
         have g1 := (HH2.out.kb.fr f9 (fun h => h)).cell 0
         simp at g1
         clear hBl hlB
         go_wp2
         go_returns
         rw [hst]
         exact ⟨rfl, HH2.out.hp.fr0 f9, ((f0.mono (T := fun i => i = g ∨ i = m) (fun _ _ h => h.elim)).trans hf2 (fun i hi e => e.elim .inl (fun e => e.elim .inr (fun e => absurd e (HKW.out i hi))))).trans f9 (fun _ _ h => h.elim)⟩
        ·have q1 : ((B : Int) == (j2 : Int)) = false := by rw [beq_eq_false_iff_ne]; exact fun e => hbe (Int.ofNat.inj e)
         have g1 := (HH2.out.kb.fr f9 (fun h => h)).cell 0
         simp at g1
         have hge := bestTo_ge l2 j2 4
         rw [← hlB] at hge
         have HGE : Hid (j2 < B) := hid (by omega)
         have HLB := hid hlB
         have HBE := hid hbe
         clear hBl hlB hge hbe
         go_wp2_with fail
         refine (chg_at (HH2.out.fr0 f9) hs HBL.out).mono ?_
         rintro e w8 ⟨rfl, h8, f8⟩
         clear g1 q1
         go_wp2_with fail
         go_roundw
         case rel => exact ⟨swp l2 j2 B, B, h8, hid (.inr ⟨Nat.le_trans HKJ.out (Nat.le_of_lt HGE.out), by rw [HS2.out, HLB.out]; exact down_go HH2.out.lt (by rw [← HLB.out]; exact HBE.out)⟩), (hf2.trans f9 (fun _ _ h => h.elim)).trans f8 (fun _ _ h => h)⟩
         case measure => rw [jOf_eq h8.kb, jOf_eq HH2.out.kb]; exact Nat.sub_lt_sub_left (by rw [HH2.out.len]; exact HH2.out.lt) HGE.out
       ·have t1 : decide ((C : Int) ≤ (Jm : Int)) = true := decide_eq_true (by have := HJm.out; omega)
        have t1' : decide (C ≤ Jm) = true := decide_eq_true (by have := HJm.out; omega)
        have HCC : Hid (c < 4) := hid (by omega)
        by_cases hcl : C < l2.length
        ·have t2 : decide ((C : Int) < (n : Int)) = true := decide_eq_true (by omega)
         have hCn : C < n := by omega
         have hBn : B < n := by omega
         have a1 : (C : Int) < (n : Int) := by omega
         have a2 : (B : Int) < (n : Int) := by omega
         have a3' : wrap64 ((C : Int) + 1) = ((C + 1 : Nat) : Int) := wrapA (d := 1) (by omega) (by omega)
         have a3 := (i64_w _).trans a3'
         have t2' : decide (C < n) = true := decide_eq_true hCn
         have ms1 := ((HH2.out.fr0 hf3).reads (i1 := C) (i2 := B) hcl hbl)
         have msd := ms1.fr (Fr.drew (Fr.refl _ _))
         obtain ⟨c0, c1, c2, _⟩ := ms1
         have HCL := hid hcl
         obtain ⟨av, hav⟩ : ∃ av, av = ahead (nth l2 C) (nth l2 B) := ⟨_, rfl⟩
         have HA : Hid (∀ W', Calls Try.prog 12 #[vI (nth l2 C), vI (nth l2 B)] W' fun e w' => e = .returned (.bool av) ∧ Fr (fun _ => False) W' w') := hid (fun W' => by rw [hav]; exact ahead_at _ _ _)
         clear hC hbl hlt2 hlen2 hc4 hcl hcc
         generalize hx : nth l2 C = x at msd HA
         generalize hy : nth l2 B = y at msd HA
         rw [hx, hy] at hav
         have HX := hid hx
         have HY := hid hy
         have HAV := hid hav
         clear hav hx hy
         go_wp2_with fail
         refine start_ (n := 15) (S := fun w' => w'.cell? ⟨hB, 0, none⟩ = some (.pointer (some ⟨b, 0, none⟩)) ∧ w'.cell? ⟨kB, 0, none⟩ = some (.int .i64 (j2 : Int)) ∧ w'.cell? ⟨b, 0, none⟩ = some (.slice (some ⟨g, 0, none⟩) n cap) ∧ w'.cell? ⟨g, C * 3, none⟩ = some (.int .u64 x.f0) ∧ w'.cell? ⟨g, C * 3 + 1, none⟩ = some (.int .u64 x.f1) ∧ w'.cell? ⟨g, C * 3 + 2, none⟩ = some (.int .i64 x.f2) ∧ w'.cell? ⟨g, B * 3, none⟩ = some (.int .u64 y.f0) ∧ w'.cell? ⟨g, B * 3 + 1, none⟩ = some (.int .u64 y.f1) ∧ w'.cell? ⟨g, B * 3 + 2, none⟩ = some (.int .i64 y.f2) ∧ Fr (fun _ => False) wr w') (ds := []) #[oN,oN,oN,oN,oN,oN,oN,oN,oN,oN,oN,oN,oN,oN,oN] (by kernel_rfl) rfl rfl ⟨msd.1, msd.2.1, msd.2.2.1, msd.2.2.2.1, msd.2.2.2.2.1, msd.2.2.2.2.2.1, msd.2.2.2.2.2.2.1, msd.2.2.2.2.2.2.2.1, msd.2.2.2.2.2.2.2.2.1, msd.2.2.2.2.2.2.2.2.2⟩ (fun hHeld => ?_)
         refine pure_ (i := 4) (N := some 63) (v := ?_) (a' := ?_) #[oN,oN,oN,oN,oY,oN,oN,oN,oN,oN,oN,oN,oN,oN,oN] rfl rfl (by kernel_rfl) (fun _ _ _ h => h) (Or.inl ⟨by rfl, ?_⟩) ?_ ?_
         rotate_left
         ·intro w'
          go_simp
          with_reducible rfl
         rotate_left
         ·simp only [Act.put, List.setIfInBounds_toArray, List.set_cons_zero, List.set_cons_succ, i64_w, i32_w]
          rfl
         refine pure_ (i := 11) (N := some 70) (v := ?_) (a' := ?_) #[oN,oN,oN,oN,oY,oN,oN,oN,oN,oN,oN,oY,oN,oN,oN] rfl rfl (by kernel_rfl) (fun _ _ _ h => h) (Or.inl ⟨by rfl, ?_⟩) ?_ ?_
         rotate_left
         ·intro w'
          go_simp
          with_reducible rfl
         rotate_left
         ·simp only [Act.put, List.setIfInBounds_toArray, List.set_cons_zero, List.set_cons_succ, i64_w, i32_w]
          rfl
         refine take_ (i := 0) (N := some 59) (v := ?_) (a' := ?_) #[oY,oN,oN,oN,oY,oN,oN,oN,oN,oN,oN,oY,oN,oN,oN] rfl rfl (by kernel_rfl) (fun _ _ _ h => h) (Or.inl ⟨by rfl, ?_⟩) hHeld ?_ ?_
         rotate_left
         ·rintro w' ⟨s0, s1, s2, s3, s4, s5, s6, s7, s8, s9⟩
          go_simp
          with_reducible rfl
         rotate_left
         ·simp only [Act.put, List.setIfInBounds_toArray, List.set_cons_zero, List.set_cons_succ, i64_w, i32_w]
          rfl
         refine pure_ (i := 1) (N := some 60) (v := ?_) (a' := ?_) #[oY,oY,oN,oN,oY,oN,oN,oN,oN,oN,oN,oY,oN,oN,oN] rfl rfl (by kernel_rfl) (fun _ _ _ h => h) (Or.inl ⟨by rfl, ?_⟩) ?_ ?_
         rotate_left
         ·intro w'
          go_simp
          with_reducible rfl
         rotate_left
         ·simp only [Act.put, List.setIfInBounds_toArray, List.set_cons_zero, List.set_cons_succ, i64_w, i32_w]
          rfl
         refine pure_ (i := 2) (N := some 61) (v := ?_) (a' := ?_) #[oY,oY,oY,oN,oY,oN,oN,oN,oN,oN,oN,oY,oN,oN,oN] rfl rfl (by kernel_rfl) (fun _ _ _ h => h) (Or.inl ⟨by rfl, ?_⟩) ?_ ?_
         rotate_left
         ·intro w'
          go_simp
          with_reducible rfl
         rotate_left
         ·simp only [Act.put, List.setIfInBounds_toArray, List.set_cons_zero, List.set_cons_succ, i64_w, i32_w]
          rfl
         refine take_ (i := 3) (N := some 62) (v := ?_) (a' := ?_) #[oY,oY,oY,oY,oY,oN,oN,oN,oN,oN,oN,oY,oN,oN,oN] rfl rfl (by kernel_rfl) (fun _ _ _ h => h) (Or.inl ⟨by rfl, ?_⟩) hHeld ?_ ?_
         rotate_left
         ·rintro w' ⟨s0, s1, s2, s3, s4, s5, s6, s7, s8, s9⟩
          go_simp
          with_reducible rfl
         rotate_left
         ·simp only [Act.put, List.setIfInBounds_toArray, List.set_cons_zero, List.set_cons_succ, i64_w, i32_w]
          rfl
         refine pure_ (i := 5) (N := some 64) (v := ?_) (a' := ?_) #[oY,oY,oY,oY,oY,oY,oN,oN,oN,oN,oN,oY,oN,oN,oN] rfl rfl (by kernel_rfl) (fun _ _ _ h => h) (Or.inl ⟨by rfl, ?_⟩) ?_ ?_
         rotate_left
         ·intro w'
          go_simp
          with_reducible rfl
         rotate_left
         ·simp only [Act.put, List.setIfInBounds_toArray, List.set_cons_zero, List.set_cons_succ, i64_w, i32_w]
          rfl
         refine take_ (i := 6) (N := some 65) (v := ?_) (a' := ?_) #[oY,oY,oY,oY,oY,oY,oY,oN,oN,oN,oN,oY,oN,oN,oN] rfl rfl (by kernel_rfl) (fun _ _ _ h => h) (Or.inl ⟨by rfl, ?_⟩) hHeld ?_ ?_
         rotate_left
         ·rintro w' ⟨s0, s1, s2, s3, s4, s5, s6, s7, s8, s9⟩
          go_simp
          with_reducible rfl
         rotate_left
         ·simp only [Act.put, List.setIfInBounds_toArray, List.set_cons_zero, List.set_cons_succ, i64_w, i32_w]
          rfl
         refine take_ (i := 7) (N := some 66) (v := ?_) (a' := ?_) #[oY,oY,oY,oY,oY,oY,oY,oY,oN,oN,oN,oY,oN,oN,oN] rfl rfl (by kernel_rfl) (fun _ _ _ h => h) (Or.inl ⟨by rfl, ?_⟩) hHeld ?_ ?_
         rotate_left
         ·rintro w' ⟨s0, s1, s2, s3, s4, s5, s6, s7, s8, s9⟩
          go_simp
          with_reducible rfl
         rotate_left
         ·simp only [Act.put, List.setIfInBounds_toArray, List.set_cons_zero, List.set_cons_succ, i64_w, i32_w]
          rfl
         refine pure_ (i := 8) (N := some 67) (v := ?_) (a' := ?_) #[oY,oY,oY,oY,oY,oY,oY,oY,oY,oN,oN,oY,oN,oN,oN] rfl rfl (by kernel_rfl) (fun _ _ _ h => h) (Or.inl ⟨by rfl, ?_⟩) ?_ ?_
         rotate_left
         ·intro w'
          go_simp
          with_reducible rfl
         rotate_left
         ·simp only [Act.put, List.setIfInBounds_toArray, List.set_cons_zero, List.set_cons_succ, i64_w, i32_w]
          rfl
         refine pure_ (i := 9) (N := some 68) (v := ?_) (a' := ?_) #[oY,oY,oY,oY,oY,oY,oY,oY,oY,oY,oN,oY,oN,oN,oN] rfl rfl (by kernel_rfl) (fun _ _ _ h => h) (Or.inl ⟨by rfl, ?_⟩) ?_ ?_
         rotate_left
         ·intro w'
          go_simp
          with_reducible rfl
         rotate_left
         ·simp only [Act.put, List.setIfInBounds_toArray, List.set_cons_zero, List.set_cons_succ, i64_w, i32_w]
          rfl
         refine take_ (i := 10) (N := some 69) (v := ?_) (a' := ?_) #[oY,oY,oY,oY,oY,oY,oY,oY,oY,oY,oY,oY,oN,oN,oN] rfl rfl (by kernel_rfl) (fun _ _ _ h => h) (Or.inl ⟨by rfl, ?_⟩) hHeld ?_ ?_
         rotate_left
         ·rintro w' ⟨s0, s1, s2, s3, s4, s5, s6, s7, s8, s9⟩
          go_simp
          with_reducible rfl
         rotate_left
         ·simp only [Act.put, List.setIfInBounds_toArray, List.set_cons_zero, List.set_cons_succ, i64_w, i32_w]
          rfl
         refine pure_ (i := 12) (N := some 71) (v := ?_) (a' := ?_) #[oY,oY,oY,oY,oY,oY,oY,oY,oY,oY,oY,oY,oY,oN,oN] rfl rfl (by kernel_rfl) (fun _ _ _ h => h) (Or.inl ⟨by rfl, ?_⟩) ?_ ?_
         rotate_left
         ·intro w'
          go_simp
          with_reducible rfl
         rotate_left
         ·simp only [Act.put, List.setIfInBounds_toArray, List.set_cons_zero, List.set_cons_succ, i64_w, i32_w]
          rfl
         refine take_ (i := 13) (N := some 72) (v := ?_) (a' := ?_) #[oY,oY,oY,oY,oY,oY,oY,oY,oY,oY,oY,oY,oY,oY,oN] rfl rfl (by kernel_rfl) (fun _ _ _ h => h) (Or.inl ⟨by rfl, ?_⟩) hHeld ?_ ?_
         rotate_left
         ·rintro w' ⟨s0, s1, s2, s3, s4, s5, s6, s7, s8, s9⟩
          go_simp
          with_reducible rfl
         rotate_left
         ·simp only [Act.put, List.setIfInBounds_toArray, List.set_cons_zero, List.set_cons_succ, i64_w, i32_w]
          rfl
         refine one_ (i := 14) (N := some 73) #[oY,oY,oY,oY,oY,oY,oY,oY,oY,oY,oY,oY,oY,oY,oY] rfl rfl (by kernel_rfl) (by decide) (fun K hK => ?_)
         refine goes_ Try.func12 (by kernel_rfl) rfl #[vI x, vI y] (by rfl) rfl rfl (by simp only [List.map_toArray, List.map_cons, List.map_nil]; rfl) ?_
         refine (HA.out _).mono ?_
         rintro e w3 ⟨rfl, k3⟩
         refine ⟨_, rfl, ?_⟩
         have ms3 := SeS.fr k3 hHeld
         refine hK.out _ _ ⟨ms3.1, ms3.2.1, ms3.2.2.1, ms3.2.2.2.1, ms3.2.2.2.2.1, ms3.2.2.2.2.2.1, ms3.2.2.2.2.2.2.1, ms3.2.2.2.2.2.2.2.1, ms3.2.2.2.2.2.2.2.2.1, ms3.2.2.2.2.2.2.2.2.2⟩ (fun hHeld => ?_)
         clear hK K
         refine norm_ (a' := ?_) ?_ ?_
         rotate_left
         ·show Act.put _ (some 73) _ = _
          simp only [Act.put, List.setIfInBounds_toArray, List.set_cons_zero, List.set_cons_succ, i64_w, i32_w]
          rfl
         refine done_ (by kernel_rfl) ?_
         have f5 := hf3.trans hHeld.2.2.2.2.2.2.2.2.2 (fun _ _ h => h)
         clear hHeld msd ms3 k3 t1 t2 t1' t2' c0 c1 c2
         cases av with
         | true =>
          go_wp2_with fail
          go_roundw
          case rel => exact ⟨c + 1, C + 1, HCC.out, by rw [HC.out]; rfl, by rw [bestTo_go (by rw [← HC.out]; exact HCL.out), ← HC.out, ← HB0.out, HX.out, HY.out, ← HAV.out, if_pos rfl], by simp, f5⟩
          case measure => exact childM HC.out HCC.out
         | false =>
          go_wp2_with fail
          go_roundw
          case rel => exact ⟨c + 1, C + 1, HCC.out, by rw [HC.out]; rfl, by rw [bestTo_go (by rw [← HC.out]; exact HCL.out), ← HC.out, ← HB0.out, HX.out, HY.out, ← HAV.out, if_neg (by decide)], by simp, f5⟩
          case measure => exact childM HC.out HCC.out
        ·have t2 : decide ((C : Int) < (n : Int)) = false := decide_eq_false (by omega)
         have HCL : Hid (l2.length ≤ 4 * j2 + 1 + c) := hid (by omega)
         have t2' : decide (C < n) = false := decide_eq_false (by omega)
         obtain ⟨c0, c1, c2, _⟩ := (HH2.out.fr0 hf3).reads (i1 := j2) (i2 := j2) hlt2 hlt2
         have f9 := hf3
         clear hC hbl hlt2 hlen2 hc4 hcl hcc
         have hlB : B = bestTo l2 j2 4 := by rw [HB0.out]; have := bestTo_stop HCL.out (4 - c); rw [show c + (4 - c) = 4 by have := HCC.out; omega] at this; exact this.symm
         have hBl := HBL.out
         by_cases hbe : B = j2
         ·have hst : settle L k = l2 := by rw [HS2.out]; exact down_stop HH2.out.lt (by rw [← hlB]; exact hbe)
          have q1 : ((B : Int) == (j2 : Int)) = true := by rw [beq_iff_eq, hbe]
          have g1 := (HH2.out.kb.fr f9 (fun h => h)).cell 0
          simp at g1
          clear hBl hlB
          go_wp2
          go_returns
          rw [hst]
          exact ⟨rfl, HH2.out.hp.fr0 f9, ((f0.mono (T := fun i => i = g ∨ i = m) (fun _ _ h => h.elim)).trans hf2 (fun i hi e => e.elim .inl (fun e => e.elim .inr (fun e => absurd e (HKW.out i hi))))).trans f9 (fun _ _ h => h.elim)⟩
         ·have q1 : ((B : Int) == (j2 : Int)) = false := by rw [beq_eq_false_iff_ne]; exact fun e => hbe (Int.ofNat.inj e)
          have g1 := (HH2.out.kb.fr f9 (fun h => h)).cell 0
          simp at g1
          have hge := bestTo_ge l2 j2 4
          rw [← hlB] at hge
          have HGE : Hid (j2 < B) := hid (by omega)
          have HLB := hid hlB
          have HBE := hid hbe
          clear hBl hlB hge hbe
          go_wp2_with fail
          refine (chg_at (HH2.out.fr0 f9) hs HBL.out).mono ?_
          rintro e w8 ⟨rfl, h8, f8⟩
          clear g1 q1
          go_wp2_with fail
          go_roundw
          case rel => exact ⟨swp l2 j2 B, B, h8, hid (.inr ⟨Nat.le_trans HKJ.out (Nat.le_of_lt HGE.out), by rw [HS2.out, HLB.out]; exact down_go HH2.out.lt (by rw [← HLB.out]; exact HBE.out)⟩), (hf2.trans f9 (fun _ _ h => h.elim)).trans f8 (fun _ _ h => h)⟩
          case measure => rw [jOf_eq h8.kb, jOf_eq HH2.out.kb]; exact Nat.sub_lt_sub_left (by rw [HH2.out.len]; exact HH2.out.lt) HGE.out
     ·have hst2 : settle L k = l2 := hr2.out.elim (fun e => e.2) (fun e => absurd e.1 hkj)
      have q0 : decide ((k : Int) ≤ (j2 : Int)) = false := decide_eq_false (by omega)
      have q0' : decide (k ≤ j2) = false := decide_eq_false hkj
      have HS2 := hid hst2
      clear hst2 hlt2 hlen2 hr2
      go_wp2
      go_returns
      rw [HS2.out]
      exact ⟨rfl, HH2.out.hp, (f0.mono (T := fun i => i = g ∨ i = m) (fun _ _ h => h.elim)).trans hf2 (fun i hi e => e.elim .inl (fun e => e.elim .inr (fun e => absurd e (HKW.out i hi))))⟩
  ·obtain rfl : j = 0 := by omega
   have t0 : decide (((0 : Nat) : Int) > 0) = false := rfl
   have t0' : decide ((0 : Int) > 0) = false := rfl
   have msd := (HH.out.reads (i1 := 0) (i2 := 0) hjl hjl).fr (Fr.drew (Fr.refl _ _))
   clear HR
   generalize nth l 0 = x at msd
   clear hln hjl hpl
   go_wp2_with fail
   refine start_ (n := 21) (S := fun w' => w'.cell? ⟨hB, 0, none⟩ = some (.pointer (some ⟨b, 0, none⟩)) ∧ w'.cell? ⟨kB, 0, none⟩ = some (.int .i64 (0 : Int)) ∧ w'.cell? ⟨b, 0, none⟩ = some (.slice (some ⟨g, 0, none⟩) n cap) ∧ w'.cell? ⟨g, 0 * 3, none⟩ = some (.int .u64 x.f0) ∧ w'.cell? ⟨g, 0 * 3 + 1, none⟩ = some (.int .u64 x.f1) ∧ w'.cell? ⟨g, 0 * 3 + 2, none⟩ = some (.int .i64 x.f2) ∧ w'.cell? ⟨g, 0 * 3, none⟩ = some (.int .u64 x.f0) ∧ w'.cell? ⟨g, 0 * 3 + 1, none⟩ = some (.int .u64 x.f1) ∧ w'.cell? ⟨g, 0 * 3 + 2, none⟩ = some (.int .i64 x.f2) ∧ Fr (fun _ => False) wr w') (ds := []) #[oN,oN,oN,oN,oN,oN,oN,oN,oN,oN,oN,oN,oN,oN,oN,oN,oN,oN,oN,oN,oN] (by kernel_rfl) rfl rfl ⟨msd.1, msd.2.1, msd.2.2.1, msd.2.2.2.1, msd.2.2.2.2.1, msd.2.2.2.2.2.1, msd.2.2.2.2.2.2.1, msd.2.2.2.2.2.2.2.1, msd.2.2.2.2.2.2.2.2.1, msd.2.2.2.2.2.2.2.2.2⟩ (fun hHeld => ?_)
   refine take_ (i := 0) (N := some 10) (v := ?_) (a' := ?_) #[oY,oN,oN,oN,oN,oN,oN,oN,oN,oN,oN,oN,oN,oN,oN,oN,oN,oN,oN,oN,oN] rfl rfl (by kernel_rfl) (fun _ _ _ h => h) (Or.inl ⟨by rfl, ?_⟩) hHeld ?_ ?_
   rotate_left
   ·rintro w' ⟨s0, s1, s2, s3, s4, s5, s6, s7, s8, s9⟩
    go_simp
    with_reducible rfl
   rotate_left
   ·simp only [Act.put, List.setIfInBounds_toArray, List.set_cons_zero, List.set_cons_succ, i64_w, i32_w]
    rfl
   refine pure_ (i := 1) (N := some 11) (v := ?_) (a' := ?_) #[oY,oY,oN,oN,oN,oN,oN,oN,oN,oN,oN,oN,oN,oN,oN,oN,oN,oN,oN,oN,oN] rfl rfl (by kernel_rfl) (fun _ _ _ h => h) (Or.inl ⟨by rfl, ?_⟩) ?_ ?_
   rotate_left
   ·intro w'
    go_simp
    with_reducible rfl
   rotate_left
   ·simp only [Act.put, List.setIfInBounds_toArray, List.set_cons_zero, List.set_cons_succ, i64_w, i32_w]
    rfl
   refine pure_ (i := 2) (N := some 12) (v := ?_) (a' := ?_) #[oY,oY,oY,oN,oN,oN,oN,oN,oN,oN,oN,oN,oN,oN,oN,oN,oN,oN,oN,oN,oN] rfl rfl (by kernel_rfl) (fun _ _ _ h => h) (Or.inl ⟨by rfl, ?_⟩) ?_ ?_
   rotate_left
   ·intro w'
    go_simp
    with_reducible rfl
   rotate_left
   ·simp only [Act.put, List.setIfInBounds_toArray, List.set_cons_zero, List.set_cons_succ, i64_w, i32_w]
    rfl
   refine pure_ (i := 3) (N := some 13) (v := undef) (a' := ?_) #[oY,oY,oY,oY,oN,oN,oN,oN,oN,oN,oN,oN,oN,oN,oN,oN,oN,oN,oN,oN,oN] rfl rfl (by kernel_rfl) (fun _ _ _ h => h) (Or.inr ⟨by rfl, rfl⟩) ?_ ?_
   rotate_left
   ·simp only [Act.put, List.setIfInBounds_toArray, List.set_cons_zero, List.set_cons_succ, i64_w, i32_w]
    rfl
   refine pure_ (i := 4) (N := some 14) (v := undef) (a' := ?_) #[oY,oY,oY,oY,oY,oN,oN,oN,oN,oN,oN,oN,oN,oN,oN,oN,oN,oN,oN,oN,oN] rfl rfl (by kernel_rfl) (fun _ _ _ h => h) (Or.inr ⟨by rfl, rfl⟩) ?_ ?_
   rotate_left
   ·simp only [Act.put, List.setIfInBounds_toArray, List.set_cons_zero, List.set_cons_succ, i64_w, i32_w]
    rfl
   refine pure_ (i := 5) (N := some 15) (v := undef) (a' := ?_) #[oY,oY,oY,oY,oY,oY,oN,oN,oN,oN,oN,oN,oN,oN,oN,oN,oN,oN,oN,oN,oN] rfl rfl (by kernel_rfl) (fun _ _ _ h => h) (Or.inr ⟨by rfl, rfl⟩) ?_ ?_
   rotate_left
   ·simp only [Act.put, List.setIfInBounds_toArray, List.set_cons_zero, List.set_cons_succ, i64_w, i32_w]
    rfl
   refine pure_ (i := 6) (N := some 16) (v := undef) (a' := ?_) #[oY,oY,oY,oY,oY,oY,oY,oN,oN,oN,oN,oN,oN,oN,oN,oN,oN,oN,oN,oN,oN] rfl rfl (by kernel_rfl) (fun _ _ _ h => h) (Or.inr ⟨by rfl, rfl⟩) ?_ ?_
   rotate_left
   ·simp only [Act.put, List.setIfInBounds_toArray, List.set_cons_zero, List.set_cons_succ, i64_w, i32_w]
    rfl
   refine pure_ (i := 7) (N := some 17) (v := undef) (a' := ?_) #[oY,oY,oY,oY,oY,oY,oY,oY,oN,oN,oN,oN,oN,oN,oN,oN,oN,oN,oN,oN,oN] rfl rfl (by kernel_rfl) (fun _ _ _ h => h) (Or.inr ⟨by rfl, rfl⟩) ?_ ?_
   rotate_left
   ·simp only [Act.put, List.setIfInBounds_toArray, List.set_cons_zero, List.set_cons_succ, i64_w, i32_w]
    rfl
   refine pure_ (i := 8) (N := some 18) (v := undef) (a' := ?_) #[oY,oY,oY,oY,oY,oY,oY,oY,oY,oN,oN,oN,oN,oN,oN,oN,oN,oN,oN,oN,oN] rfl rfl (by kernel_rfl) (fun _ _ _ h => h) (Or.inr ⟨by rfl, rfl⟩) ?_ ?_
   rotate_left
   ·simp only [Act.put, List.setIfInBounds_toArray, List.set_cons_zero, List.set_cons_succ, i64_w, i32_w]
    rfl
   refine pure_ (i := 9) (N := some 19) (v := undef) (a' := ?_) #[oY,oY,oY,oY,oY,oY,oY,oY,oY,oY,oN,oN,oN,oN,oN,oN,oN,oN,oN,oN,oN] rfl rfl (by kernel_rfl) (fun _ _ _ h => h) (Or.inr ⟨by rfl, rfl⟩) ?_ ?_
   rotate_left
   ·simp only [Act.put, List.setIfInBounds_toArray, List.set_cons_zero, List.set_cons_succ, i64_w, i32_w]
    rfl
   refine pure_ (i := 10) (N := some 20) (v := undef) (a' := ?_) #[oY,oY,oY,oY,oY,oY,oY,oY,oY,oY,oY,oN,oN,oN,oN,oN,oN,oN,oN,oN,oN] rfl rfl (by kernel_rfl) (fun _ _ _ h => h) (Or.inr ⟨by rfl, rfl⟩) ?_ ?_
   rotate_left
   ·simp only [Act.put, List.setIfInBounds_toArray, List.set_cons_zero, List.set_cons_succ, i64_w, i32_w]
    rfl
   refine pure_ (i := 11) (N := some 21) (v := undef) (a' := ?_) #[oY,oY,oY,oY,oY,oY,oY,oY,oY,oY,oY,oY,oN,oN,oN,oN,oN,oN,oN,oN,oN] rfl rfl (by kernel_rfl) (fun _ _ _ h => h) (Or.inr ⟨by rfl, rfl⟩) ?_ ?_
   rotate_left
   ·simp only [Act.put, List.setIfInBounds_toArray, List.set_cons_zero, List.set_cons_succ, i64_w, i32_w]
    rfl
   refine pure_ (i := 12) (N := some 22) (v := undef) (a' := ?_) #[oY,oY,oY,oY,oY,oY,oY,oY,oY,oY,oY,oY,oY,oN,oN,oN,oN,oN,oN,oN,oN] rfl rfl (by kernel_rfl) (fun _ _ _ h => h) (Or.inr ⟨by rfl, rfl⟩) ?_ ?_
   rotate_left
   ·simp only [Act.put, List.setIfInBounds_toArray, List.set_cons_zero, List.set_cons_succ, i64_w, i32_w]
    rfl
   refine pure_ (i := 13) (N := some 23) (v := undef) (a' := ?_) #[oY,oY,oY,oY,oY,oY,oY,oY,oY,oY,oY,oY,oY,oY,oN,oN,oN,oN,oN,oN,oN] rfl rfl (by kernel_rfl) (fun _ _ _ h => h) (Or.inr ⟨by rfl, rfl⟩) ?_ ?_
   rotate_left
   ·simp only [Act.put, List.setIfInBounds_toArray, List.set_cons_zero, List.set_cons_succ, i64_w, i32_w]
    rfl
   refine pure_ (i := 14) (N := some 24) (v := undef) (a' := ?_) #[oY,oY,oY,oY,oY,oY,oY,oY,oY,oY,oY,oY,oY,oY,oY,oN,oN,oN,oN,oN,oN] rfl rfl (by kernel_rfl) (fun _ _ _ h => h) (Or.inr ⟨by rfl, rfl⟩) ?_ ?_
   rotate_left
   ·simp only [Act.put, List.setIfInBounds_toArray, List.set_cons_zero, List.set_cons_succ, i64_w, i32_w]
    rfl
   refine pure_ (i := 15) (N := some 25) (v := undef) (a' := ?_) #[oY,oY,oY,oY,oY,oY,oY,oY,oY,oY,oY,oY,oY,oY,oY,oY,oN,oN,oN,oN,oN] rfl rfl (by kernel_rfl) (fun _ _ _ h => h) (Or.inr ⟨by rfl, rfl⟩) ?_ ?_
   rotate_left
   ·simp only [Act.put, List.setIfInBounds_toArray, List.set_cons_zero, List.set_cons_succ, i64_w, i32_w]
    rfl
   refine pure_ (i := 16) (N := some 26) (v := undef) (a' := ?_) #[oY,oY,oY,oY,oY,oY,oY,oY,oY,oY,oY,oY,oY,oY,oY,oY,oY,oN,oN,oN,oN] rfl rfl (by kernel_rfl) (fun _ _ _ h => h) (Or.inr ⟨by rfl, rfl⟩) ?_ ?_
   rotate_left
   ·simp only [Act.put, List.setIfInBounds_toArray, List.set_cons_zero, List.set_cons_succ, i64_w, i32_w]
    rfl
   refine pure_ (i := 17) (N := some 27) (v := undef) (a' := ?_) #[oY,oY,oY,oY,oY,oY,oY,oY,oY,oY,oY,oY,oY,oY,oY,oY,oY,oY,oN,oN,oN] rfl rfl (by kernel_rfl) (fun _ _ _ h => h) (Or.inr ⟨by rfl, rfl⟩) ?_ ?_
   rotate_left
   ·simp only [Act.put, List.setIfInBounds_toArray, List.set_cons_zero, List.set_cons_succ, i64_w, i32_w]
    rfl
   refine pure_ (i := 18) (N := some 28) (v := undef) (a' := ?_) #[oY,oY,oY,oY,oY,oY,oY,oY,oY,oY,oY,oY,oY,oY,oY,oY,oY,oY,oY,oN,oN] rfl rfl (by kernel_rfl) (fun _ _ _ h => h) (Or.inr ⟨by rfl, rfl⟩) ?_ ?_
   rotate_left
   ·simp only [Act.put, List.setIfInBounds_toArray, List.set_cons_zero, List.set_cons_succ, i64_w, i32_w]
    rfl
   refine pure_ (i := 19) (N := some 29) (v := undef) (a' := ?_) #[oY,oY,oY,oY,oY,oY,oY,oY,oY,oY,oY,oY,oY,oY,oY,oY,oY,oY,oY,oY,oN] rfl rfl (by kernel_rfl) (fun _ _ _ h => h) (Or.inr ⟨by rfl, rfl⟩) ?_ ?_
   rotate_left
   ·simp only [Act.put, List.setIfInBounds_toArray, List.set_cons_zero, List.set_cons_succ, i64_w, i32_w]
    rfl
   refine pure_ (i := 20) (N := some 30) (v := ?_) (a' := ?_) #[oY,oY,oY,oY,oY,oY,oY,oY,oY,oY,oY,oY,oY,oY,oY,oY,oY,oY,oY,oY,oY] rfl rfl (by kernel_rfl) (fun _ _ _ h => h) (Or.inl ⟨by rfl, ?_⟩) ?_ ?_
   rotate_left
   ·intro w'
    go_simp
    with_reducible rfl
   rotate_left
   ·simp only [Act.put, List.setIfInBounds_toArray, List.set_cons_zero, List.set_cons_succ, i64_w, i32_w]
    rfl
   refine done_ (by kernel_rfl) ?_
   have fE := hHeld.2.2.2.2.2.2.2.2.2
   clear hHeld msd
   have hupd : up k L k = (l, 0) := by rw [hup.out]; exact up_stop (fun e => by omega)
   have HI := hid hupd
   have HJK := hid hjk
   clear hupd hj0 hjk
   go_wp2_with fail
   have R2 : Hid ((0 < k ∧ settle L k = l) ∨ (k ≤ 0 ∧ settle L k = down l.length l 0)) := hid (settle_cases HI.out HJK.out)
   go_loopw [] (fun wr2 => ∃ (l2 : List It) (j2 : Nat), Hs wr2 b g m cap n size hB kB l2 j2 ∧ Hid ((j2 < k ∧ settle L k = l2) ∨ (k ≤ j2 ∧ settle L k = down l2.length l2 j2)) ∧ Fr (fun i => i = g ∨ i = m ∨ i = kB) W wr2) (fun wr2 => n - jOf wr2 kB)
   case atStart => exact ⟨l, 0, HH.out.fr0 fE, R2, hf.trans fE (fun _ _ h => h.elim)⟩
   case round =>
    clear R2 HI HH hf fE
    obtain ⟨l2, j2, hh2, hr2, hf2⟩ := hrel
    have hj2 := hh2.kb.cell 0
    simp at hj2
    have HH2 := hid hh2
    have hlt2 := hh2.lt
    have hlen2 := hh2.len
    have hj2n : j2 < 1000000000 := by omega
    clear hh2
    by_cases hkj : k ≤ j2
    ·have hst2 : settle L k = down l2.length l2 j2 := hr2.out.elim (fun e => absurd e.1 (by omega)) (fun e => e.2)
     have HS2 := hid hst2
     have HKJ := hid hkj
     have q0 : decide ((k : Int) ≤ (j2 : Int)) = true := decide_eq_true (by omega)
     have q0' : decide (k ≤ j2) = true := decide_eq_true hkj
     obtain ⟨J4, hJ4⟩ : ∃ J4, J4 = 4 * j2 := ⟨_, rfl⟩
     obtain ⟨J1, hJ1⟩ : ∃ J1, J1 = 4 * j2 + 1 := ⟨_, rfl⟩
     obtain ⟨Jm, hJm⟩ : ∃ Jm, Jm = 4 * j2 + 4 := ⟨_, rfl⟩
     have e1' : wrap64 (4 * (j2 : Int)) = (J4 : Int) := wrapM hJ4 hj2n
     have e2' : wrap64 ((J4 : Int) + 1) = (J1 : Int) := wrapA (d := 1) (by omega) (by omega)
     have e3' : wrap64 ((J4 : Int) + 4) = (Jm : Int) := wrapA (d := 4) (by omega) (by omega)
     have e1 := (i64_w _).trans e1'
     have e2 := (i64_w _).trans e2'
     have e3 := (i64_w _).trans e3'
     have HJ1 := hid hJ1
     have HJm := hid hJm
     clear hr2 hst2 hkj hJ4 hJ1 hJm
     go_wp2_with fail
     go_loopw [6, 7] (fun v6 v7 wr3 => ∃ c C : Nat, c ≤ 4 ∧ C = 4 * j2 + 1 + c ∧ v6 = .int .i64 ((bestTo l2 j2 c : Nat) : Int) ∧ v7 = .int .i64 (C : Int) ∧ Fr (fun _ => False) wr wr3) (fun _ v7 _ => 4 * j2 + 6 - (intOf v7).toNat)
     case atStart => exact ⟨0, J1, Nat.zero_le _, HJ1.out, rfl, rfl, Fr.refl _ _⟩
     case round =>
      obtain ⟨c, C, hc4, hC, rfl, rfl, hf3⟩ := hrel
      have hbl := bestTo_lt hlt2 c
      obtain ⟨B, hB0⟩ : ∃ B, B = bestTo l2 j2 c := ⟨_, rfl⟩
      rw [← hB0] at hbl ⊢
      have HB0 := hid hB0
      have HBL := hid hbl
      have HC := hid hC
      clear hB0
      by_cases hcc : c = 4
      ·subst hcc
       have t1 : decide ((C : Int) ≤ (Jm : Int)) = false := decide_eq_false (by have := HJm.out; omega)
       have t1' : decide (C ≤ Jm) = false := decide_eq_false (by have := HJm.out; omega)
       obtain ⟨c0, c1, c2, _⟩ := (HH2.out.fr0 hf3).reads (i1 := j2) (i2 := j2) hlt2 hlt2
       have f9 := hf3
       clear hC hbl hlt2 hlen2 hc4
       have hlB : B = bestTo l2 j2 4 := HB0.out
       have hBl := HBL.out
       by_cases hbe : B = j2
       ·have hst : settle L k = l2 := by rw [HS2.out]; exact down_stop HH2.out.lt (by rw [← hlB]; exact hbe)
        have q1 : ((B : Int) == (j2 : Int)) = true := by rw [beq_iff_eq, hbe]
        have g1 := (HH2.out.kb.fr f9 (fun h => h)).cell 0
        simp at g1
        clear hBl hlB
        go_wp2
        go_returns
        rw [hst]
        exact ⟨rfl, HH2.out.hp.fr0 f9, ((f0.mono (T := fun i => i = g ∨ i = m) (fun _ _ h => h.elim)).trans hf2 (fun i hi e => e.elim .inl (fun e => e.elim .inr (fun e => absurd e (HKW.out i hi))))).trans f9 (fun _ _ h => h.elim)⟩
       ·have q1 : ((B : Int) == (j2 : Int)) = false := by rw [beq_eq_false_iff_ne]; exact fun e => hbe (Int.ofNat.inj e)
        have g1 := (HH2.out.kb.fr f9 (fun h => h)).cell 0
        simp at g1
        have hge := bestTo_ge l2 j2 4
        rw [← hlB] at hge
        have HGE : Hid (j2 < B) := hid (by omega)
        have HLB := hid hlB
        have HBE := hid hbe
        clear hBl hlB hge hbe
        go_wp2_with fail
        refine (chg_at (HH2.out.fr0 f9) hs HBL.out).mono ?_
        rintro e w8 ⟨rfl, h8, f8⟩
        clear g1 q1
        go_wp2_with fail
        go_roundw
        case rel => exact ⟨swp l2 j2 B, B, h8, hid (.inr ⟨Nat.le_trans HKJ.out (Nat.le_of_lt HGE.out), by rw [HS2.out, HLB.out]; exact down_go HH2.out.lt (by rw [← HLB.out]; exact HBE.out)⟩), (hf2.trans f9 (fun _ _ h => h.elim)).trans f8 (fun _ _ h => h)⟩
        case measure => rw [jOf_eq h8.kb, jOf_eq HH2.out.kb]; exact Nat.sub_lt_sub_left (by rw [HH2.out.len]; exact HH2.out.lt) HGE.out
      ·have t1 : decide ((C : Int) ≤ (Jm : Int)) = true := decide_eq_true (by have := HJm.out; omega)
       have t1' : decide (C ≤ Jm) = true := decide_eq_true (by have := HJm.out; omega)
       have HCC : Hid (c < 4) := hid (by omega)
       by_cases hcl : C < l2.length
       ·have t2 : decide ((C : Int) < (n : Int)) = true := decide_eq_true (by omega)
        have hCn : C < n := by omega
        have hBn : B < n := by omega
        have a1 : (C : Int) < (n : Int) := by omega
        have a2 : (B : Int) < (n : Int) := by omega
        have a3' : wrap64 ((C : Int) + 1) = ((C + 1 : Nat) : Int) := wrapA (d := 1) (by omega) (by omega)
        have a3 := (i64_w _).trans a3'
        have t2' : decide (C < n) = true := decide_eq_true hCn
        have ms1 := ((HH2.out.fr0 hf3).reads (i1 := C) (i2 := B) hcl hbl)
        have msd := ms1.fr (Fr.drew (Fr.refl _ _))
        obtain ⟨c0, c1, c2, _⟩ := ms1
        have HCL := hid hcl
        obtain ⟨av, hav⟩ : ∃ av, av = ahead (nth l2 C) (nth l2 B) := ⟨_, rfl⟩
        have HA : Hid (∀ W', Calls Try.prog 12 #[vI (nth l2 C), vI (nth l2 B)] W' fun e w' => e = .returned (.bool av) ∧ Fr (fun _ => False) W' w') := hid (fun W' => by rw [hav]; exact ahead_at _ _ _)
        clear hC hbl hlt2 hlen2 hc4 hcl hcc
        generalize hx : nth l2 C = x at msd HA
        generalize hy : nth l2 B = y at msd HA
        rw [hx, hy] at hav
        have HX := hid hx
        have HY := hid hy
        have HAV := hid hav
        clear hav hx hy
        go_wp2_with fail
        refine start_ (n := 15) (S := fun w' => w'.cell? ⟨hB, 0, none⟩ = some (.pointer (some ⟨b, 0, none⟩)) ∧ w'.cell? ⟨kB, 0, none⟩ = some (.int .i64 (j2 : Int)) ∧ w'.cell? ⟨b, 0, none⟩ = some (.slice (some ⟨g, 0, none⟩) n cap) ∧ w'.cell? ⟨g, C * 3, none⟩ = some (.int .u64 x.f0) ∧ w'.cell? ⟨g, C * 3 + 1, none⟩ = some (.int .u64 x.f1) ∧ w'.cell? ⟨g, C * 3 + 2, none⟩ = some (.int .i64 x.f2) ∧ w'.cell? ⟨g, B * 3, none⟩ = some (.int .u64 y.f0) ∧ w'.cell? ⟨g, B * 3 + 1, none⟩ = some (.int .u64 y.f1) ∧ w'.cell? ⟨g, B * 3 + 2, none⟩ = some (.int .i64 y.f2) ∧ Fr (fun _ => False) wr w') (ds := []) #[oN,oN,oN,oN,oN,oN,oN,oN,oN,oN,oN,oN,oN,oN,oN] (by kernel_rfl) rfl rfl ⟨msd.1, msd.2.1, msd.2.2.1, msd.2.2.2.1, msd.2.2.2.2.1, msd.2.2.2.2.2.1, msd.2.2.2.2.2.2.1, msd.2.2.2.2.2.2.2.1, msd.2.2.2.2.2.2.2.2.1, msd.2.2.2.2.2.2.2.2.2⟩ (fun hHeld => ?_)
        refine pure_ (i := 4) (N := some 63) (v := ?_) (a' := ?_) #[oN,oN,oN,oN,oY,oN,oN,oN,oN,oN,oN,oN,oN,oN,oN] rfl rfl (by kernel_rfl) (fun _ _ _ h => h) (Or.inl ⟨by rfl, ?_⟩) ?_ ?_
        rotate_left
        ·intro w'
         go_simp
         with_reducible rfl
        rotate_left
        ·simp only [Act.put, List.setIfInBounds_toArray, List.set_cons_zero, List.set_cons_succ, i64_w, i32_w]
         rfl
        refine pure_ (i := 11) (N := some 70) (v := ?_) (a' := ?_) #[oN,oN,oN,oN,oY,oN,oN,oN,oN,oN,oN,oY,oN,oN,oN] rfl rfl (by kernel_rfl) (fun _ _ _ h => h) (Or.inl ⟨by rfl, ?_⟩) ?_ ?_
        rotate_left
        ·intro w'
         go_simp
         with_reducible rfl
        rotate_left
        ·simp only [Act.put, List.setIfInBounds_toArray, List.set_cons_zero, List.set_cons_succ, i64_w, i32_w]
         rfl
        refine take_ (i := 0) (N := some 59) (v := ?_) (a' := ?_) #[oY,oN,oN,oN,oY,oN,oN,oN,oN,oN,oN,oY,oN,oN,oN] rfl rfl (by kernel_rfl) (fun _ _ _ h => h) (Or.inl ⟨by rfl, ?_⟩) hHeld ?_ ?_
        rotate_left
        ·rintro w' ⟨s0, s1, s2, s3, s4, s5, s6, s7, s8, s9⟩
         go_simp
         with_reducible rfl
        rotate_left
        ·simp only [Act.put, List.setIfInBounds_toArray, List.set_cons_zero, List.set_cons_succ, i64_w, i32_w]
         rfl
        refine pure_ (i := 1) (N := some 60) (v := ?_) (a' := ?_) #[oY,oY,oN,oN,oY,oN,oN,oN,oN,oN,oN,oY,oN,oN,oN] rfl rfl (by kernel_rfl) (fun _ _ _ h => h) (Or.inl ⟨by rfl, ?_⟩) ?_ ?_
        rotate_left
        ·intro w'
         go_simp
         with_reducible rfl
        rotate_left
        ·simp only [Act.put, List.setIfInBounds_toArray, List.set_cons_zero, List.set_cons_succ, i64_w, i32_w]
         rfl
        refine pure_ (i := 2) (N := some 61) (v := ?_) (a' := ?_) #[oY,oY,oY,oN,oY,oN,oN,oN,oN,oN,oN,oY,oN,oN,oN] rfl rfl (by kernel_rfl) (fun _ _ _ h => h) (Or.inl ⟨by rfl, ?_⟩) ?_ ?_
        rotate_left
        ·intro w'
         go_simp
         with_reducible rfl
        rotate_left
        ·simp only [Act.put, List.setIfInBounds_toArray, List.set_cons_zero, List.set_cons_succ, i64_w, i32_w]
         rfl
        refine take_ (i := 3) (N := some 62) (v := ?_) (a' := ?_) #[oY,oY,oY,oY,oY,oN,oN,oN,oN,oN,oN,oY,oN,oN,oN] rfl rfl (by kernel_rfl) (fun _ _ _ h => h) (Or.inl ⟨by rfl, ?_⟩) hHeld ?_ ?_
        rotate_left
        ·rintro w' ⟨s0, s1, s2, s3, s4, s5, s6, s7, s8, s9⟩
         go_simp
         with_reducible rfl
        rotate_left
        ·simp only [Act.put, List.setIfInBounds_toArray, List.set_cons_zero, List.set_cons_succ, i64_w, i32_w]
         rfl
        refine pure_ (i := 5) (N := some 64) (v := ?_) (a' := ?_) #[oY,oY,oY,oY,oY,oY,oN,oN,oN,oN,oN,oY,oN,oN,oN] rfl rfl (by kernel_rfl) (fun _ _ _ h => h) (Or.inl ⟨by rfl, ?_⟩) ?_ ?_
        rotate_left
        ·intro w'
         go_simp
         with_reducible rfl
        rotate_left
        ·simp only [Act.put, List.setIfInBounds_toArray, List.set_cons_zero, List.set_cons_succ, i64_w, i32_w]
         rfl
        refine take_ (i := 6) (N := some 65) (v := ?_) (a' := ?_) #[oY,oY,oY,oY,oY,oY,oY,oN,oN,oN,oN,oY,oN,oN,oN] rfl rfl (by kernel_rfl) (fun _ _ _ h => h) (Or.inl ⟨by rfl, ?_⟩) hHeld ?_ ?_
        rotate_left
        ·rintro w' ⟨s0, s1, s2, s3, s4, s5, s6, s7, s8, s9⟩
         go_simp
         with_reducible rfl
        rotate_left
        ·simp only [Act.put, List.setIfInBounds_toArray, List.set_cons_zero, List.set_cons_succ, i64_w, i32_w]
         rfl
        refine take_ (i := 7) (N := some 66) (v := ?_) (a' := ?_) #[oY,oY,oY,oY,oY,oY,oY,oY,oN,oN,oN,oY,oN,oN,oN] rfl rfl (by kernel_rfl) (fun _ _ _ h => h) (Or.inl ⟨by rfl, ?_⟩) hHeld ?_ ?_
        rotate_left
        ·rintro w' ⟨s0, s1, s2, s3, s4, s5, s6, s7, s8, s9⟩
         go_simp
         with_reducible rfl
        rotate_left
        ·simp only [Act.put, List.setIfInBounds_toArray, List.set_cons_zero, List.set_cons_succ, i64_w, i32_w]
         rfl
        refine pure_ (i := 8) (N := some 67) (v := ?_) (a' := ?_) #[oY,oY,oY,oY,oY,oY,oY,oY,oY,oN,oN,oY,oN,oN,oN] rfl rfl (by kernel_rfl) (fun _ _ _ h => h) (Or.inl ⟨by rfl, ?_⟩) ?_ ?_
        rotate_left
        ·intro w'
         go_simp
         with_reducible rfl
        rotate_left
        ·simp only [Act.put, List.setIfInBounds_toArray, List.set_cons_zero, List.set_cons_succ, i64_w, i32_w]
         rfl
        refine pure_ (i := 9) (N := some 68) (v := ?_) (a' := ?_) #[oY,oY,oY,oY,oY,oY,oY,oY,oY,oY,oN,oY,oN,oN,oN] rfl rfl (by kernel_rfl) (fun _ _ _ h => h) (Or.inl ⟨by rfl, ?_⟩) ?_ ?_
        rotate_left
        ·intro w'
         go_simp
         with_reducible rfl
        rotate_left
        ·simp only [Act.put, List.setIfInBounds_toArray, List.set_cons_zero, List.set_cons_succ, i64_w, i32_w]
         rfl
        refine take_ (i := 10) (N := some 69) (v := ?_) (a' := ?_) #[oY,oY,oY,oY,oY,oY,oY,oY,oY,oY,oY,oY,oN,oN,oN] rfl rfl (by kernel_rfl) (fun _ _ _ h => h) (Or.inl ⟨by rfl, ?_⟩) hHeld ?_ ?_
        rotate_left
        ·rintro w' ⟨s0, s1, s2, s3, s4, s5, s6, s7, s8, s9⟩
         go_simp
         with_reducible rfl
        rotate_left
        ·simp only [Act.put, List.setIfInBounds_toArray, List.set_cons_zero, List.set_cons_succ, i64_w, i32_w]
         rfl
        refine pure_ (i := 12) (N := some 71) (v := ?_) (a' := ?_) #[oY,oY,oY,oY,oY,oY,oY,oY,oY,oY,oY,oY,oY,oN,oN] rfl rfl (by kernel_rfl) (fun _ _ _ h => h) (Or.inl ⟨by rfl, ?_⟩) ?_ ?_
        rotate_left
        ·intro w'
         go_simp
         with_reducible rfl
        rotate_left
        ·simp only [Act.put, List.setIfInBounds_toArray, List.set_cons_zero, List.set_cons_succ, i64_w, i32_w]
         rfl
        refine take_ (i := 13) (N := some 72) (v := ?_) (a' := ?_) #[oY,oY,oY,oY,oY,oY,oY,oY,oY,oY,oY,oY,oY,oY,oN] rfl rfl (by kernel_rfl) (fun _ _ _ h => h) (Or.inl ⟨by rfl, ?_⟩) hHeld ?_ ?_
        rotate_left
        ·rintro w' ⟨s0, s1, s2, s3, s4, s5, s6, s7, s8, s9⟩
         go_simp
         with_reducible rfl
        rotate_left
        ·simp only [Act.put, List.setIfInBounds_toArray, List.set_cons_zero, List.set_cons_succ, i64_w, i32_w]
         rfl
        refine one_ (i := 14) (N := some 73) #[oY,oY,oY,oY,oY,oY,oY,oY,oY,oY,oY,oY,oY,oY,oY] rfl rfl (by kernel_rfl) (by decide) (fun K hK => ?_)
        refine goes_ Try.func12 (by kernel_rfl) rfl #[vI x, vI y] (by rfl) rfl rfl (by simp only [List.map_toArray, List.map_cons, List.map_nil]; rfl) ?_
        refine (HA.out _).mono ?_
        rintro e w3 ⟨rfl, k3⟩
        refine ⟨_, rfl, ?_⟩
        have ms3 := SeS.fr k3 hHeld
        refine hK.out _ _ ⟨ms3.1, ms3.2.1, ms3.2.2.1, ms3.2.2.2.1, ms3.2.2.2.2.1, ms3.2.2.2.2.2.1, ms3.2.2.2.2.2.2.1, ms3.2.2.2.2.2.2.2.1, ms3.2.2.2.2.2.2.2.2.1, ms3.2.2.2.2.2.2.2.2.2⟩ (fun hHeld => ?_)
        clear hK K
        refine norm_ (a' := ?_) ?_ ?_
        rotate_left
        ·show Act.put _ (some 73) _ = _
         simp only [Act.put, List.setIfInBounds_toArray, List.set_cons_zero, List.set_cons_succ, i64_w, i32_w]
         rfl
        refine done_ (by kernel_rfl) ?_
        have f5 := hf3.trans hHeld.2.2.2.2.2.2.2.2.2 (fun _ _ h => h)
        clear hHeld msd ms3 k3 t1 t2 t1' t2' c0 c1 c2
        cases av with
        | true =>
         go_wp2_with fail
         go_roundw
         case rel => exact ⟨c + 1, C + 1, HCC.out, by rw [HC.out]; rfl, by rw [bestTo_go (by rw [← HC.out]; exact HCL.out), ← HC.out, ← HB0.out, HX.out, HY.out, ← HAV.out, if_pos rfl], by simp, f5⟩
         case measure => exact childM HC.out HCC.out
        | false =>
         go_wp2_with fail
         go_roundw
         case rel => exact ⟨c + 1, C + 1, HCC.out, by rw [HC.out]; rfl, by rw [bestTo_go (by rw [← HC.out]; exact HCL.out), ← HC.out, ← HB0.out, HX.out, HY.out, ← HAV.out, if_neg (by decide)], by simp, f5⟩
         case measure => exact childM HC.out HCC.out
       ·have t2 : decide ((C : Int) < (n : Int)) = false := decide_eq_false (by omega)
        have HCL : Hid (l2.length ≤ 4 * j2 + 1 + c) := hid (by omega)
        have t2' : decide (C < n) = false := decide_eq_false (by omega)
        obtain ⟨c0, c1, c2, _⟩ := (HH2.out.fr0 hf3).reads (i1 := j2) (i2 := j2) hlt2 hlt2
        have f9 := hf3
        clear hC hbl hlt2 hlen2 hc4 hcl hcc
        have hlB : B = bestTo l2 j2 4 := by rw [HB0.out]; have := bestTo_stop HCL.out (4 - c); rw [show c + (4 - c) = 4 by have := HCC.out; omega] at this; exact this.symm
        have hBl := HBL.out
        by_cases hbe : B = j2
        ·have hst : settle L k = l2 := by rw [HS2.out]; exact down_stop HH2.out.lt (by rw [← hlB]; exact hbe)
         have q1 : ((B : Int) == (j2 : Int)) = true := by rw [beq_iff_eq, hbe]
         have g1 := (HH2.out.kb.fr f9 (fun h => h)).cell 0
         simp at g1
         clear hBl hlB
         go_wp2
         go_returns
         rw [hst]
         exact ⟨rfl, HH2.out.hp.fr0 f9, ((f0.mono (T := fun i => i = g ∨ i = m) (fun _ _ h => h.elim)).trans hf2 (fun i hi e => e.elim .inl (fun e => e.elim .inr (fun e => absurd e (HKW.out i hi))))).trans f9 (fun _ _ h => h.elim)⟩
        ·have q1 : ((B : Int) == (j2 : Int)) = false := by rw [beq_eq_false_iff_ne]; exact fun e => hbe (Int.ofNat.inj e)
         have g1 := (HH2.out.kb.fr f9 (fun h => h)).cell 0
         simp at g1
         have hge := bestTo_ge l2 j2 4
         rw [← hlB] at hge
         have HGE : Hid (j2 < B) := hid (by omega)
         have HLB := hid hlB
         have HBE := hid hbe
         clear hBl hlB hge hbe
         go_wp2_with fail
         refine (chg_at (HH2.out.fr0 f9) hs HBL.out).mono ?_
         rintro e w8 ⟨rfl, h8, f8⟩
         clear g1 q1
         go_wp2_with fail
         go_roundw
         case rel => exact ⟨swp l2 j2 B, B, h8, hid (.inr ⟨Nat.le_trans HKJ.out (Nat.le_of_lt HGE.out), by rw [HS2.out, HLB.out]; exact down_go HH2.out.lt (by rw [← HLB.out]; exact HBE.out)⟩), (hf2.trans f9 (fun _ _ h => h.elim)).trans f8 (fun _ _ h => h)⟩
         case measure => rw [jOf_eq h8.kb, jOf_eq HH2.out.kb]; exact Nat.sub_lt_sub_left (by rw [HH2.out.len]; exact HH2.out.lt) HGE.out
    ·have hst2 : settle L k = l2 := hr2.out.elim (fun e => e.2) (fun e => absurd e.1 hkj)
     have q0 : decide ((k : Int) ≤ (j2 : Int)) = false := decide_eq_false (by omega)
     have q0' : decide (k ≤ j2) = false := decide_eq_false hkj
     have HS2 := hid hst2
     clear hst2 hlt2 hlen2 hr2
     go_wp2
     go_returns
     rw [HS2.out]
     exact ⟨rfl, HH2.out.hp, (f0.mono (T := fun i => i = g ∨ i = m) (fun _ _ h => h.elim)).trans hf2 (fun i hi e => e.elim .inl (fun e => e.elim .inr (fun e => absurd e (HKW.out i hi))))⟩
end Go.Proofs.Ytkcfhdnlmdndeaa
