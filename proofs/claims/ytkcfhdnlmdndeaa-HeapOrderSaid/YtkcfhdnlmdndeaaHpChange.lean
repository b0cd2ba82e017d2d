/- The change of two items in the row (the closure of settle). -/
import Derived.Test.YtkcfhdnlmdndeaaHpOps
namespace Go.Proofs.Ytkcfhdnlmdndeaa
open Go.RowKit Go.Proofs.YtkcfhdnlmdndeaaW.PrintWords Go.Proofs.YtkcfhdnlmdndeaaW.PrintLast Go.Proofs.YtkcfhdnlmdndeaaW.PrintMore PHp
set_option linter.unusedVariables false
set_option linter.unusedSimpArgs false
set_option maxRecDepth 100000
/-- What the change reads. -/
def ChS (W : World) (b g m cap : Nat) (L : List It) (f : Int → Option Nat) (n : Nat) (size : Int) (hB kB k q : Nat) (x y : It) (w' : World) : Prop :=
 w'.cell? ⟨hB, 0, none⟩ = some (.pointer (some ⟨b, 0, none⟩)) ∧ w'.cell? ⟨kB, 0, none⟩ = some (.int .i64 (k : Int)) ∧ w'.cell? ⟨b, 0, none⟩ = some (.slice (some ⟨g, 0, none⟩) L.length cap) ∧
 w'.cell? ⟨g, k * 3, none⟩ = some (.int .u64 x.f0) ∧ w'.cell? ⟨g, k * 3 + 1, none⟩ = some (.int .u64 x.f1) ∧ w'.cell? ⟨g, k * 3 + 2, none⟩ = some (.int .i64 x.f2) ∧
 w'.cell? ⟨g, q * 3, none⟩ = some (.int .u64 y.f0) ∧ w'.cell? ⟨g, q * 3 + 1, none⟩ = some (.int .u64 y.f1) ∧ w'.cell? ⟨g, q * 3 + 2, none⟩ = some (.int .i64 y.f2) ∧ Fr (fun _ => False) W w'
theorem ChS.fr {W : World} {b g m cap : Nat} {L : List It} {f : Int → Option Nat} {n : Nat} {size : Int} {hB kB k q : Nat} {x y : It} {w w' : World} (kf : Fr (fun _ => False) w w') (h : ChS W b g m cap L f n size hB kB k q x y w) : ChS W b g m cap L f n size hB kB k q x y w' := by
 obtain ⟨a0, a1, a2, a3, a4, a5, a6, a7, a8, hf⟩ := h
 have key : ∀ {g i : Nat} {v : Value}, w.cell? ⟨g, i, none⟩ = some v → w'.cell? ⟨g, i, none⟩ = some v := fun h => (kf.cell (World.block_lt_of_cell? w _ h) (fun h => h)).trans h
 exact ⟨key a0, key a1, key a2, key a3, key a4, key a5, key a6, key a7, key a8, hf.trans kf (fun _ _ h => h)⟩
theorem change_at {w : World} {b g m cap n : Nat} {L : List It} {f : Int → Option Nat} {size : Int} (h : Hp w b g m cap L f n size) (hu : Uniq L) (hf : f = place L) (hok : ∀ x ∈ L, ItOk x) (hn : n = L.length) (hs : n < 1000000000)
  {hB kB k q : Nat} {hc kc : Array Value} (h1 : Blk w hB #[.pointer (some ⟨b, 0, none⟩)] 29) (h2 : Blk w kB #[.int .i64 (k : Int)] 3) (hk : k < L.length) (ht : q < L.length) :
  Calls Try.prog 62 #[.int .i64 (q : Int), .pointer (some ⟨hB, 0, none⟩), .pointer (some ⟨kB, 0, none⟩)] w fun e w' =>
   e = .returned (.tuple #[]) ∧ Hp w' b g m cap (swp L k q) (place (swp L k q)) n size ∧ Blk w' kB #[.int .i64 (q : Int)] 3 ∧ Fr (fun j => j = g ∨ j = m ∨ j = kB) w w' := by
 obtain ⟨x, hx⟩ : ∃ x, L[k]? = some x := ⟨_, List.getElem?_eq_getElem hk⟩
 obtain ⟨y, hy⟩ : ∃ y, L[q]? = some y := ⟨_, List.getElem?_eq_getElem ht⟩
 have ms0 : ChS w b g m cap L f n size hB kB k q x y w := ⟨h1.cell 0, h2.cell 0, h.blk.cell 0, (h.row.at3 hx).1, (h.row.at3 hx).2.1, (h.row.at3 hx).2.2, (h.row.at3 hy).1, (h.row.at3 hy).2.1, (h.row.at3 hy).2.2, Fr.refl _ _⟩
 have ms := ms0.fr (Fr.drew (Fr.refl _ _))
 have l1 : (k : Int) < (L.length : Int) := by omega
 have l2 : (q : Int) < (L.length : Int) := by omega
 go_enter Try.func62, Try.ntmps62
 go_wp2_with fail
 refine start_ (n := 18) (S := fun w' => w'.cell? ⟨hB, 0, none⟩ = some (.pointer (some ⟨b, 0, none⟩)) ∧ w'.cell? ⟨kB, 0, none⟩ = some (.int .i64 (k : Int)) ∧ w'.cell? ⟨b, 0, none⟩ = some (.slice (some ⟨g, 0, none⟩) L.length cap) ∧ w'.cell? ⟨g, k * 3, none⟩ = some (.int .u64 x.f0) ∧ w'.cell? ⟨g, k * 3 + 1, none⟩ = some (.int .u64 x.f1) ∧ w'.cell? ⟨g, k * 3 + 2, none⟩ = some (.int .i64 x.f2) ∧ w'.cell? ⟨g, q * 3, none⟩ = some (.int .u64 y.f0) ∧ w'.cell? ⟨g, q * 3 + 1, none⟩ = some (.int .u64 y.f1) ∧ w'.cell? ⟨g, q * 3 + 2, none⟩ = some (.int .i64 y.f2) ∧ Fr (fun _ => False) w w') (ds := []) #[oN,oN,oN,oN,oN,oN,oN,oN,oN,oN,oN,oN,oN,oN,oN,oN,oN,oN] (by kernel_rfl) rfl rfl ⟨ms.1, ms.2.1, ms.2.2.1, ms.2.2.2.1, ms.2.2.2.2.1, ms.2.2.2.2.2.1, ms.2.2.2.2.2.2.1, ms.2.2.2.2.2.2.2.1, ms.2.2.2.2.2.2.2.2.1, ms.2.2.2.2.2.2.2.2.2⟩ (fun hHeld => ?_)
 refine pure_ (i := 11) (N := some 17) (v := ?_) (a' := ?_) #[oN,oN,oN,oN,oN,oN,oN,oN,oN,oN,oN,oY,oN,oN,oN,oN,oN,oN] rfl rfl (by kernel_rfl) (fun _ _ _ h => h) (Or.inl ⟨by rfl, ?_⟩) ?_ ?_
 rotate_left
 ·intro w'
  go_simp
  with_reducible rfl
 rotate_left
 ·simp only [Act.put, List.setIfInBounds_toArray, List.set_cons_zero, List.set_cons_succ, i64_w, i32_w]
  rfl
 refine take_ (i := 0) (N := some 6) (v := ?_) (a' := ?_) #[oY,oN,oN,oN,oN,oN,oN,oN,oN,oN,oN,oY,oN,oN,oN,oN,oN,oN] rfl rfl (by kernel_rfl) (fun _ _ _ h => h) (Or.inl ⟨by rfl, ?_⟩) hHeld ?_ ?_
 rotate_left
 ·rintro w' ⟨s0, s1, s2, s3, s4, s5, s6, s7, s8, s9⟩
  go_simp
  with_reducible rfl
 rotate_left
 ·simp only [Act.put, List.setIfInBounds_toArray, List.set_cons_zero, List.set_cons_succ, i64_w, i32_w]
  rfl
 refine pure_ (i := 1) (N := some 7) (v := ?_) (a' := ?_) #[oY,oY,oN,oN,oN,oN,oN,oN,oN,oN,oN,oY,oN,oN,oN,oN,oN,oN] rfl rfl (by kernel_rfl) (fun _ _ _ h => h) (Or.inl ⟨by rfl, ?_⟩) ?_ ?_
 rotate_left
 ·intro w'
  go_simp
  with_reducible rfl
 rotate_left
 ·simp only [Act.put, List.setIfInBounds_toArray, List.set_cons_zero, List.set_cons_succ, i64_w, i32_w]
  rfl
 refine pure_ (i := 2) (N := some 8) (v := ?_) (a' := ?_) #[oY,oY,oY,oN,oN,oN,oN,oN,oN,oN,oN,oY,oN,oN,oN,oN,oN,oN] rfl rfl (by kernel_rfl) (fun _ _ _ h => h) (Or.inl ⟨by rfl, ?_⟩) ?_ ?_
 rotate_left
 ·intro w'
  go_simp
  with_reducible rfl
 rotate_left
 ·simp only [Act.put, List.setIfInBounds_toArray, List.set_cons_zero, List.set_cons_succ, i64_w, i32_w]
  rfl
 refine take_ (i := 3) (N := some 9) (v := ?_) (a' := ?_) #[oY,oY,oY,oY,oN,oN,oN,oN,oN,oN,oN,oY,oN,oN,oN,oN,oN,oN] rfl rfl (by kernel_rfl) (fun _ _ _ h => h) (Or.inl ⟨by rfl, ?_⟩) hHeld ?_ ?_
 rotate_left
 ·rintro w' ⟨s0, s1, s2, s3, s4, s5, s6, s7, s8, s9⟩
  go_simp
  with_reducible rfl
 rotate_left
 ·simp only [Act.put, List.setIfInBounds_toArray, List.set_cons_zero, List.set_cons_succ, i64_w, i32_w]
  rfl
 refine take_ (i := 4) (N := some 10) (v := ?_) (a' := ?_) #[oY,oY,oY,oY,oY,oN,oN,oN,oN,oN,oN,oY,oN,oN,oN,oN,oN,oN] rfl rfl (by kernel_rfl) (fun _ _ _ h => h) (Or.inl ⟨by rfl, ?_⟩) hHeld ?_ ?_
 rotate_left
 ·rintro w' ⟨s0, s1, s2, s3, s4, s5, s6, s7, s8, s9⟩
  go_simp
  with_reducible rfl
 rotate_left
 ·simp only [Act.put, List.setIfInBounds_toArray, List.set_cons_zero, List.set_cons_succ, i64_w, i32_w]
  rfl
 refine pure_ (i := 5) (N := some 11) (v := ?_) (a' := ?_) #[oY,oY,oY,oY,oY,oY,oN,oN,oN,oN,oN,oY,oN,oN,oN,oN,oN,oN] rfl rfl (by kernel_rfl) (fun _ _ _ h => h) (Or.inl ⟨by rfl, ?_⟩) ?_ ?_
 rotate_left
 ·intro w'
  go_simp
  with_reducible rfl
 rotate_left
 ·simp only [Act.put, List.setIfInBounds_toArray, List.set_cons_zero, List.set_cons_succ, i64_w, i32_w]
  rfl
 refine take_ (i := 6) (N := some 12) (v := ?_) (a' := ?_) #[oY,oY,oY,oY,oY,oY,oY,oN,oN,oN,oN,oY,oN,oN,oN,oN,oN,oN] rfl rfl (by kernel_rfl) (fun _ _ _ h => h) (Or.inl ⟨by rfl, ?_⟩) hHeld ?_ ?_
 rotate_left
 ·rintro w' ⟨s0, s1, s2, s3, s4, s5, s6, s7, s8, s9⟩
  go_simp
  with_reducible rfl
 rotate_left
 ·simp only [Act.put, List.setIfInBounds_toArray, List.set_cons_zero, List.set_cons_succ, i64_w, i32_w]
  rfl
 refine take_ (i := 7) (N := some 13) (v := ?_) (a' := ?_) #[oY,oY,oY,oY,oY,oY,oY,oY,oN,oN,oN,oY,oN,oN,oN,oN,oN,oN] rfl rfl (by kernel_rfl) (fun _ _ _ h => h) (Or.inl ⟨by rfl, ?_⟩) hHeld ?_ ?_
 rotate_left
 ·rintro w' ⟨s0, s1, s2, s3, s4, s5, s6, s7, s8, s9⟩
  go_simp
  with_reducible rfl
 rotate_left
 ·simp only [Act.put, List.setIfInBounds_toArray, List.set_cons_zero, List.set_cons_succ, i64_w, i32_w]
  rfl
 refine pure_ (i := 8) (N := some 14) (v := ?_) (a' := ?_) #[oY,oY,oY,oY,oY,oY,oY,oY,oY,oN,oN,oY,oN,oN,oN,oN,oN,oN] rfl rfl (by kernel_rfl) (fun _ _ _ h => h) (Or.inl ⟨by rfl, ?_⟩) ?_ ?_
 rotate_left
 ·intro w'
  go_simp
  with_reducible rfl
 rotate_left
 ·simp only [Act.put, List.setIfInBounds_toArray, List.set_cons_zero, List.set_cons_succ, i64_w, i32_w]
  rfl
 refine pure_ (i := 9) (N := some 15) (v := ?_) (a' := ?_) #[oY,oY,oY,oY,oY,oY,oY,oY,oY,oY,oN,oY,oN,oN,oN,oN,oN,oN] rfl rfl (by kernel_rfl) (fun _ _ _ h => h) (Or.inl ⟨by rfl, ?_⟩) ?_ ?_
 rotate_left
 ·intro w'
  go_simp
  with_reducible rfl
 rotate_left
 ·simp only [Act.put, List.setIfInBounds_toArray, List.set_cons_zero, List.set_cons_succ, i64_w, i32_w]
  rfl
 refine take_ (i := 10) (N := some 16) (v := ?_) (a' := ?_) #[oY,oY,oY,oY,oY,oY,oY,oY,oY,oY,oY,oY,oN,oN,oN,oN,oN,oN] rfl rfl (by kernel_rfl) (fun _ _ _ h => h) (Or.inl ⟨by rfl, ?_⟩) hHeld ?_ ?_
 rotate_left
 ·rintro w' ⟨s0, s1, s2, s3, s4, s5, s6, s7, s8, s9⟩
  go_simp
  with_reducible rfl
 rotate_left
 ·simp only [Act.put, List.setIfInBounds_toArray, List.set_cons_zero, List.set_cons_succ, i64_w, i32_w]
  rfl
 refine pure_ (i := 12) (N := some 18) (v := ?_) (a' := ?_) #[oY,oY,oY,oY,oY,oY,oY,oY,oY,oY,oY,oY,oY,oN,oN,oN,oN,oN] rfl rfl (by kernel_rfl) (fun _ _ _ h => h) (Or.inl ⟨by rfl, ?_⟩) ?_ ?_
 rotate_left
 ·intro w'
  go_simp
  with_reducible rfl
 rotate_left
 ·simp only [Act.put, List.setIfInBounds_toArray, List.set_cons_zero, List.set_cons_succ, i64_w, i32_w]
  rfl
 refine take_ (i := 13) (N := some 19) (v := ?_) (a' := ?_) #[oY,oY,oY,oY,oY,oY,oY,oY,oY,oY,oY,oY,oY,oY,oN,oN,oN,oN] rfl rfl (by kernel_rfl) (fun _ _ _ h => h) (Or.inl ⟨by rfl, ?_⟩) hHeld ?_ ?_
 rotate_left
 ·rintro w' ⟨s0, s1, s2, s3, s4, s5, s6, s7, s8, s9⟩
  go_simp
  with_reducible rfl
 rotate_left
 ·simp only [Act.put, List.setIfInBounds_toArray, List.set_cons_zero, List.set_cons_succ, i64_w, i32_w]
  rfl
 refine join_ (σ := Nat × Nat) 2 #[oY,oY,oY,oY,oY,oY,oY,oY,oY,oY,oY,oY,oY,oY,oY,oY,oN,oN] (fun s => [(4, .pointer (some ⟨s.1, 0, none⟩)), (5, .pointer (some ⟨s.2, 0, none⟩))]) (fun s w' => (w'.cell? ⟨hB, 0, none⟩ = some (.pointer (some ⟨b, 0, none⟩)) ∧ w'.cell? ⟨kB, 0, none⟩ = some (.int .i64 (k : Int)) ∧ w'.cell? ⟨b, 0, none⟩ = some (.slice (some ⟨g, 0, none⟩) L.length cap) ∧ w'.cell? ⟨g, k * 3, none⟩ = some (.int .u64 x.f0) ∧ w'.cell? ⟨g, k * 3 + 1, none⟩ = some (.int .u64 x.f1) ∧ w'.cell? ⟨g, k * 3 + 2, none⟩ = some (.int .i64 x.f2) ∧ w'.cell? ⟨g, q * 3, none⟩ = some (.int .u64 y.f0) ∧ w'.cell? ⟨g, q * 3 + 1, none⟩ = some (.int .u64 y.f1) ∧ w'.cell? ⟨g, q * 3 + 2, none⟩ = some (.int .i64 y.f2) ∧ Fr (fun _ => False) w w') ∧ Blk w' s.1 #[.int .u64 0, .int .u64 0, .int .i64 0] 24 ∧ Blk w' s.2 #[.int .u64 0, .int .u64 0, .int .i64 0] 24 ∧ w.heap.size ≤ s.1 ∧ w.heap.size ≤ s.2 ∧ s.1 ≠ s.2) ?_ ?_
 rotate_left
 ·intro hCont
  refine two_ (i := 14) (j := 15) (Ni := some 4) (Nj := some 5) #[oY,oY,oY,oY,oY,oY,oY,oY,oY,oY,oY,oY,oY,oY,oY,oN,oN,oN] #[oY,oY,oY,oY,oY,oY,oY,oY,oY,oY,oY,oY,oY,oY,oN,oY,oN,oN] rfl rfl rfl rfl (by kernel_rfl) (by decide) (by decide) (fun K hK => ?_) (fun K hK => ?_)
  ·skip
   refine value_ (w1 := ?_) (v := ?_) (by rfl) rfl ?_ ?_
   rotate_left 2
   ·go_simp
    constructor
    ·rfl
    ·rfl
   have hHeld' := ChS.fr (W := w) (b := b) (g := g) (m := m) (cap := cap) (L := L) (f := f) (n := n) (size := size) (hB := hB) (kB := kB) (k := k) (q := q) (x := x) (y := y) ((Fr.refl _ _).alloc (Obj.cells #[.int .u64 0, .int .u64 0, .int .i64 0] 24)) hHeld
   refine hK.out _ _ ⟨hHeld'.1, hHeld'.2.1, hHeld'.2.2.1, hHeld'.2.2.2.1, hHeld'.2.2.2.2.1, hHeld'.2.2.2.2.2.1, hHeld'.2.2.2.2.2.2.1, hHeld'.2.2.2.2.2.2.2.1, hHeld'.2.2.2.2.2.2.2.2.1, hHeld'.2.2.2.2.2.2.2.2.2⟩ (fun hHeld => ?_)
   clear hK K
   refine norm_ (a' := ?_) ?_ ?_
   rotate_left
   ·show Act.put _ (some 4) _ = _
    simp only [Act.put, List.setIfInBounds_toArray, List.set_cons_zero, List.set_cons_succ, i64_w, i32_w]
    rfl
   refine one_ (i := 15) (N := some 5) #[oY,oY,oY,oY,oY,oY,oY,oY,oY,oY,oY,oY,oY,oY,oY,oY,oN,oN] rfl rfl (by kernel_rfl) (by decide) (fun K hK => ?_)
   refine value_ (w1 := ?_) (v := ?_) (by rfl) rfl ?_ ?_
   rotate_left 2
   ·go_simp
    constructor
    ·rfl
    ·rfl
   have hHeld' := ChS.fr (W := w) (b := b) (g := g) (m := m) (cap := cap) (L := L) (f := f) (n := n) (size := size) (hB := hB) (kB := kB) (k := k) (q := q) (x := x) (y := y) ((Fr.refl _ _).alloc (Obj.cells #[.int .u64 0, .int .u64 0, .int .i64 0] 24)) hHeld
   refine hK.out _ _ ⟨hHeld'.1, hHeld'.2.1, hHeld'.2.2.1, hHeld'.2.2.2.1, hHeld'.2.2.2.2.1, hHeld'.2.2.2.2.2.1, hHeld'.2.2.2.2.2.2.1, hHeld'.2.2.2.2.2.2.2.1, hHeld'.2.2.2.2.2.2.2.2.1, hHeld'.2.2.2.2.2.2.2.2.2⟩ (fun hHeld => ?_)
   clear hK K
   refine norm_ (a' := ?_) ?_ ?_
   rotate_left
   ·show Act.put _ (some 5) _ = _
    simp only [Act.put, List.setIfInBounds_toArray, List.set_cons_zero, List.set_cons_succ, i64_w, i32_w]
    rfl
   exact norm_ (by simp only [putAll, Act.put, List.setIfInBounds_toArray, List.set_cons_zero, List.set_cons_succ]) (hCont (w.heap.size, w.heap.size + 1) _ ⟨hHeld, by (repeat' (first | (with_reducible assumption) | (with_reducible apply Blk.drew) | (with_reducible apply Blk.drewN) | (with_reducible apply Blk.set) | (with_reducible apply Blk.other) | (exact Blk.new' _ _ _ (by first | rfl | (simp; done) | (simp; omega))) | (with_reducible apply Blk.alloc) | rfl | (simp; done) | (simp; omega) | omega)), by (repeat' (first | (with_reducible assumption) | (with_reducible apply Blk.drew) | (with_reducible apply Blk.drewN) | (with_reducible apply Blk.set) | (with_reducible apply Blk.other) | (exact Blk.new' _ _ _ (by first | rfl | (simp; done) | (simp; omega))) | (with_reducible apply Blk.alloc) | rfl | (simp; done) | (simp; omega) | omega)), by (simp; try omega), by (simp; try omega), by (simp; try omega)⟩)
  ·skip
   refine value_ (w1 := ?_) (v := ?_) (by rfl) rfl ?_ ?_
   rotate_left 2
   ·go_simp
    constructor
    ·rfl
    ·rfl
   have hHeld' := ChS.fr (W := w) (b := b) (g := g) (m := m) (cap := cap) (L := L) (f := f) (n := n) (size := size) (hB := hB) (kB := kB) (k := k) (q := q) (x := x) (y := y) ((Fr.refl _ _).alloc (Obj.cells #[.int .u64 0, .int .u64 0, .int .i64 0] 24)) hHeld
   refine hK.out _ _ ⟨hHeld'.1, hHeld'.2.1, hHeld'.2.2.1, hHeld'.2.2.2.1, hHeld'.2.2.2.2.1, hHeld'.2.2.2.2.2.1, hHeld'.2.2.2.2.2.2.1, hHeld'.2.2.2.2.2.2.2.1, hHeld'.2.2.2.2.2.2.2.2.1, hHeld'.2.2.2.2.2.2.2.2.2⟩ (fun hHeld => ?_)
   clear hK K
   refine norm_ (a' := ?_) ?_ ?_
   rotate_left
   ·show Act.put _ (some 5) _ = _
    simp only [Act.put, List.setIfInBounds_toArray, List.set_cons_zero, List.set_cons_succ, i64_w, i32_w]
    rfl
   refine one_ (i := 14) (N := some 4) #[oY,oY,oY,oY,oY,oY,oY,oY,oY,oY,oY,oY,oY,oY,oY,oY,oN,oN] rfl rfl (by kernel_rfl) (by decide) (fun K hK => ?_)
   refine value_ (w1 := ?_) (v := ?_) (by rfl) rfl ?_ ?_
   rotate_left 2
   ·go_simp
    constructor
    ·rfl
    ·rfl
   have hHeld' := ChS.fr (W := w) (b := b) (g := g) (m := m) (cap := cap) (L := L) (f := f) (n := n) (size := size) (hB := hB) (kB := kB) (k := k) (q := q) (x := x) (y := y) ((Fr.refl _ _).alloc (Obj.cells #[.int .u64 0, .int .u64 0, .int .i64 0] 24)) hHeld
   refine hK.out _ _ ⟨hHeld'.1, hHeld'.2.1, hHeld'.2.2.1, hHeld'.2.2.2.1, hHeld'.2.2.2.2.1, hHeld'.2.2.2.2.2.1, hHeld'.2.2.2.2.2.2.1, hHeld'.2.2.2.2.2.2.2.1, hHeld'.2.2.2.2.2.2.2.2.1, hHeld'.2.2.2.2.2.2.2.2.2⟩ (fun hHeld => ?_)
   clear hK K
   refine norm_ (a' := ?_) ?_ ?_
   rotate_left
   ·show Act.put _ (some 4) _ = _
    simp only [Act.put, List.setIfInBounds_toArray, List.set_cons_zero, List.set_cons_succ, i64_w, i32_w]
    rfl
   exact norm_ (by simp only [putAll, Act.put, List.setIfInBounds_toArray, List.set_cons_zero, List.set_cons_succ]) (hCont (w.heap.size + 1, w.heap.size) _ ⟨hHeld, by (repeat' (first | (with_reducible assumption) | (with_reducible apply Blk.drew) | (with_reducible apply Blk.drewN) | (with_reducible apply Blk.set) | (with_reducible apply Blk.other) | (exact Blk.new' _ _ _ (by first | rfl | (simp; done) | (simp; omega))) | (with_reducible apply Blk.alloc) | rfl | (simp; done) | (simp; omega) | omega)), by (repeat' (first | (with_reducible assumption) | (with_reducible apply Blk.drew) | (with_reducible apply Blk.drewN) | (with_reducible apply Blk.set) | (with_reducible apply Blk.other) | (exact Blk.new' _ _ _ (by first | rfl | (simp; done) | (simp; omega))) | (with_reducible apply Blk.alloc) | rfl | (simp; done) | (simp; omega) | omega)), by (simp; try omega), by (simp; try omega), by (simp; try omega)⟩)
 rintro ⟨xB, yB⟩ w3 ⟨hHeld, bX, bY, hl0, hl1, hne01⟩
 simp only at bX bY hl0 hl1 hne01
 refine norm_ (a' := ?_) ?_ ?_
 rotate_left
 ·simp only [putAll, Act.put, List.setIfInBounds_toArray, List.set_cons_zero, List.set_cons_succ]
  rfl
 refine one_ (i := 16) (N := none) #[oY,oY,oY,oY,oY,oY,oY,oY,oY,oY,oY,oY,oY,oY,oY,oY,oY,oN] rfl rfl (by kernel_rfl) (by decide) (fun K hK => ?_)
 obtain ⟨e0, e1, e2, e3, e4, e5⟩ := bX.c3
 have hf3 := hHeld.2.2.2.2.2.2.2.2.2
 refine skip_ (w1 := ?_) (by rfl) rfl ?_ ?_
 rotate_left
 ·go_simp
  rfl
 generalize hW : World.setCell (World.setCell (World.setCell w3 _ _) _ _) _ _ = w4
 have bX4 : Blk w4 xB #[.int .u64 x.f0, .int .u64 x.f1, .int .i64 x.f2] 24 := by subst hW; exact bX.set3 _ _ _
 have bY4 : Blk w4 yB #[.int .u64 0, .int .u64 0, .int .i64 0] 24 := by subst hW; (repeat' (first | (with_reducible assumption) | (with_reducible apply Blk.drew) | (with_reducible apply Blk.drewN) | (with_reducible apply Blk.set) | (with_reducible apply Blk.other) | (exact Blk.new' _ _ _ (by first | rfl | (simp; done) | (simp; omega))) | (with_reducible apply Blk.alloc) | (with_reducible rfl) | (simp; done) | (simp; omega) | omega | rfl))
 have f4 : Fr (fun _ => False) w w4 := by subst hW; (repeat' (first | (with_reducible exact Fr.refl _ _) | (with_reducible assumption) | (with_reducible refine Fr.alloc ?_ _) | (with_reducible refine Fr.drew ?_) | (with_reducible refine Fr.drewN ?_ _) | (with_reducible refine Fr.setCell ?_ _ _ ?_) | (exact Or.inr rfl) | (left; simp; done) | (left; simp; omega) | (simp; done) | (simp; omega) | omega))
 have ms4 := ms0.fr f4
 clear hW e0 e1 e2 e3 e4 e5
 refine hK.out _ _ ⟨ms4.1, ms4.2.1, ms4.2.2.1, ms4.2.2.2.1, ms4.2.2.2.2.1, ms4.2.2.2.2.2.1, ms4.2.2.2.2.2.2.1, ms4.2.2.2.2.2.2.2.1, ms4.2.2.2.2.2.2.2.2.1, ms4.2.2.2.2.2.2.2.2.2⟩ (fun hHeld => ?_)
 clear hK K
 refine one_ (i := 17) (N := none) #[oY,oY,oY,oY,oY,oY,oY,oY,oY,oY,oY,oY,oY,oY,oY,oY,oY,oY] rfl rfl (by kernel_rfl) (by decide) (fun K hK => ?_)
 obtain ⟨e0, e1, e2, e3, e4, e5⟩ := bY4.c3
 refine skip_ (w1 := ?_) (by rfl) rfl ?_ ?_
 rotate_left
 ·go_simp
  rfl
 generalize hW : World.setCell (World.setCell (World.setCell w4 _ _) _ _) _ _ = w5
 have bX5 : Blk w5 xB #[.int .u64 x.f0, .int .u64 x.f1, .int .i64 x.f2] 24 := by subst hW; (repeat' (first | (with_reducible assumption) | (with_reducible apply Blk.drew) | (with_reducible apply Blk.drewN) | (with_reducible apply Blk.set) | (with_reducible apply Blk.other) | (exact Blk.new' _ _ _ (by first | rfl | (simp; done) | (simp; omega))) | (with_reducible apply Blk.alloc) | (with_reducible rfl) | (simp; done) | (simp; omega) | omega | rfl))
 have bY5 : Blk w5 yB #[.int .u64 y.f0, .int .u64 y.f1, .int .i64 y.f2] 24 := by subst hW; exact bY4.set3 _ _ _
 have f5 : Fr (fun _ => False) w w5 := by subst hW; (repeat' (first | (with_reducible exact Fr.refl _ _) | (with_reducible assumption) | (with_reducible refine Fr.alloc ?_ _) | (with_reducible refine Fr.drew ?_) | (with_reducible refine Fr.drewN ?_ _) | (with_reducible refine Fr.setCell ?_ _ _ ?_) | (exact Or.inr rfl) | (left; simp; done) | (left; simp; omega) | (simp; done) | (simp; omega) | omega))
 have ms5 := ms0.fr f5
 clear hW e0 e1 e2 e3 e4 e5
 refine hK.out _ _ ⟨ms5.1, ms5.2.1, ms5.2.2.1, ms5.2.2.2.1, ms5.2.2.2.2.1, ms5.2.2.2.2.2.1, ms5.2.2.2.2.2.2.1, ms5.2.2.2.2.2.2.2.1, ms5.2.2.2.2.2.2.2.2.1, ms5.2.2.2.2.2.2.2.2.2⟩ (fun hHeld => ?_)
 clear hK K
 refine done_ (by kernel_rfl) ?_
 clear hHeld ms5 ms4 ms ms0
 have hxe : nth L k = x := nth_of hx
 have hye : nth L q = y := nth_of hy
 have h5 := h.fr0 f5
 have g1 := (h1.fr f5 (fun h => h)).cell 0
 have g2 := (h2.fr f5 (fun h => h)).cell 0
 obtain ⟨e0, e1, e2, e3, e4, e5⟩ := bY5.c3
 simp at g1 g2
 go_wp2_with fail
 have hoy := hok y (List.mem_of_getElem? hy)
 have hox := hok x (List.mem_of_getElem? hx)
 have py : (f y.f0).isSome = true := by rw [hf, ← hye, place_is hu ht]; rfl
 refine (lay_at h5 hk y hoy hs (n' := n) (by rw [if_pos py])).mono ?_
 rintro e w6 ⟨rfl, h6, f6⟩
 have nbx : ¬ (xB = g ∨ xB = m) := by have := h.row.lt; have := h.map.lt; omega
 have nhB : ¬ (hB = g ∨ hB = m) := fun e => e.elim (fun e => (h.row.ne h1 (by decide)) e.symm) (fun e => h.map.ne h1 e.symm)
 have nkB : ¬ (kB = g ∨ kB = m) := fun e => e.elim (fun e => (h.row.ne h2 (by decide)) e.symm) (fun e => h.map.ne h2 e.symm)
 have nbk : b ≠ kB := fun e => by subst e; exact absurd (h.blk.one h2).2 (by decide)
 have bX6 := bX5.fr f6 nbx
 have g1 := ((h1.fr f5 (fun h => h)).fr f6 nhB).cell 0
 have g2 := ((h2.fr f5 (fun h => h)).fr f6 nkB).cell 0
 obtain ⟨e0, e1, e2, e3, e4, e5⟩ := bX6.c3
 simp at g1 g2
 go_wp2_with fail
 have px : (put f y.f0 k x.f0).isSome = true := by unfold put; split; rfl; rw [hf, ← hxe, place_is hu hk]; rfl
 refine (lay_at h6 (by simpa using ht) x hox hs (n' := n) (by rw [if_pos px])).mono ?_
 rintro e w7 ⟨rfl, h7, f7⟩
 have k7 := ((h2.fr f5 (fun h => h)).fr f6 nkB).fr f7 nkB
 have g2 := k7.cell 0
 have g3 := k7.free 0
 simp at g2
 go_wp2
 go_returns
 have e1 : (L.set k y).set q x = swp L k q := by unfold swp; rw [hxe, hye]
 have e2 : put (put f y.f0 k) x.f0 q = place (swp L k q) := by rw [hf, ← hxe, ← hye]; exact place_swp hu hk ht
 rw [e1, e2] at h7
 have f8 : Fr (fun j => j = kB) w7 (w7.setCell ⟨kB, 0, none⟩ (.int .i64 (q : Int))) := by (repeat' (first | (with_reducible exact Fr.refl _ _) | (with_reducible assumption) | (with_reducible refine Fr.alloc ?_ _) | (with_reducible refine Fr.drew ?_) | (with_reducible refine Fr.drewN ?_ _) | (with_reducible refine Fr.setCell ?_ _ _ ?_) | (exact Or.inr rfl) | (left; simp; done) | (left; simp; omega) | (simp; done) | (simp; omega) | omega))
 refine ⟨rfl, h7.fr f8 nbk (fun e => nkB (.inl e.symm)) (fun e => nkB (.inr e.symm)), k7.set rfl, ?_⟩
 exact (((f5.mono (T := fun j => j = g ∨ j = m ∨ j = kB) (fun _ _ h => h.elim)).trans f6 (fun _ _ h => by omega)).trans f7 (fun _ _ h => by omega)).trans f8 (fun _ _ h => by omega)
end Go.Proofs.Ytkcfhdnlmdndeaa
