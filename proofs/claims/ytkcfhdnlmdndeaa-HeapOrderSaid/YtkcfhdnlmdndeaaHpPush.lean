/- Push. -/
import Derived.Test.YtkcfhdnlmdndeaaHpOwn
namespace Go.Proofs.Ytkcfhdnlmdndeaa
open Go.RowKit Go.Proofs.YtkcfhdnlmdndeaaW.PrintWords Go.Proofs.YtkcfhdnlmdndeaaW.PrintLast Go.Proofs.YtkcfhdnlmdndeaaW.PrintMore PHp
set_option linter.unusedVariables false
set_option linter.unusedSimpArgs false
set_option maxRecDepth 100000
/-- A heap of items L, at most size; its struct is block b, its map block m, its row v. -/
structure HP (w : World) (b m : Nat) (v : Value) (L : List It) (size : Int) : Prop where
 blk : Blk w b #[v, .map (some m), .int .i64 size] 94
 row : w.ownsRow 0 24 3 v L.length (flat L)
 map : MF 22 .u64 w m L.length (plF (place L))
 mb : m ≠ b
 uniq : Uniq L
 ok : ∀ x ∈ L, ItOk x
 len : (L.length : Int) ≤ size
 sz : size ≤ 1048576
/-- What the look-up at a heap's call reads. -/
def LkS (W : World) (b m B : Nat) (id : Int) (r : Value) (w' : World) : Prop :=
 w'.cell? ⟨b, 1, none⟩ = some (.map (some m)) ∧ w'.cell? ⟨B, 0, none⟩ = some (.int .u64 id) ∧ (Instr.lookup 92 (.map (some m)) (.int .u64 id) true).run Try.prog w' = .ok r w' ∧ Fr (fun _ => False) W w'
/-- What a heap's calls may turn. -/
def Ft (b m : Nat) (v : Value) (i : Nat) : Prop := i = b ∨ i = m ∨ v.ownBlock = some i
section
variable {w w' : World} {b m : Nat} {v : Value} {L : List It} {size : Int}
theorem HP.form (h : HP w b m v L size) : (v = .slice none 0 0 ∧ L = []) ∨ ∃ g cap, v = .slice (some ⟨g, 0, none⟩) L.length cap ∧ Hp w b g m cap L (place L) L.length size := by
 rcases h.row.2 with ⟨rfl, e⟩ | ⟨g, cap, cur, rfl, _⟩
 ·exact .inl ⟨rfl, List.eq_nil_of_length_eq_zero e⟩
 ·obtain ⟨hr, hc⟩ := Row.of_owns h.row rfl
  exact .inr ⟨g, cap, rfl, h.blk, hr, hc, h.map, hr.ne h.blk (by decide), h.mb, h.map.ner hr⟩
theorem HP.of {g cap : Nat} (h : Hp w b g m cap L (place L) L.length size) (hu : Uniq L) (hok : ∀ x ∈ L, ItOk x) (hl : (L.length : Int) ≤ size) (hs : size ≤ 1048576) : HP w b m (.slice (some ⟨g, 0, none⟩) L.length cap) L size :=
 ⟨h.blk, h.row.owns h.cap, h.map, h.mb, hu, hok, hl, hs⟩
theorem own_fr {S : Nat → Prop} {e : TypeId} {n s : Nat} {xs : List Value} (h : w.ownsRow 0 e s v n xs) (k : Fr S w w') (hs : ∀ g, v.ownBlock = some g → ¬ S g) : w'.ownsRow 0 e s v n xs := by
 obtain ⟨h1, h2⟩ := h
 refine ⟨h1, ?_⟩
 rcases h2 with h2 | ⟨g, cap, cur, rfl, hg, hb, h3⟩
 ·exact .inl h2
 ·exact .inr ⟨g, cap, cur, rfl, hg, (k.block g (Array.getElem?_eq_some_iff.1 hb).1 (hs g rfl)).trans hb, h3⟩
theorem HP.fr {S : Nat → Prop} (h : HP w b m v L size) (k : Fr S w w') (hs : ∀ i, Ft b m v i → ¬ S i) : HP w' b m v L size :=
 ⟨h.blk.fr k (hs b (.inl rfl)), own_fr h.row k (fun g e => hs g (.inr (.inr e))), h.map.fr k (hs m (.inr (.inl rfl))), h.mb, h.uniq, h.ok, h.len, h.sz⟩
theorem HP.fr0 (h : HP w b m v L size) (k : Fr (fun _ => False) w w') : HP w' b m v L size := h.fr k (fun _ _ h => h)
theorem HP.small (h : HP w b m v L size) : L.length ≤ 1048576 := by have := h.len; have := h.sz; omega
theorem HP.lt (h : HP w b m v L size) : ∀ i, Ft b m v i → i < w.heap.size := by
 rintro i (rfl | rfl | e)
 ·exact h.blk.lt
 ·exact h.map.lt
 ·exact (h.row.lt i e).2
end
theorem none_blk {w : World} {b m : Nat} {v s : Value} {t : TypeId} (h : Blk w b #[v, .map (some m), s] t) :
  Calls Try.prog 45 #[.pointer (some ⟨b, 0, none⟩)] w fun e w' => e = .returned (.bool false) ∧ Fr (fun _ => False) w w' := by
 have b1 := h.cell 1
 simp at b1
 clear h
 go_enter Try.func45, Try.ntmps45
 go_wp2_with (simp only [eqM])
 go_ret
 exact ⟨rfl, by (repeat' (first | (with_reducible exact Fr.refl _ _) | (with_reducible assumption) | (with_reducible refine Fr.alloc ?_ _) | (with_reducible refine Fr.drew ?_) | (with_reducible refine Fr.drewN ?_ _) | (with_reducible refine Fr.setCell ?_ _ _ ?_) | (exact Or.inr rfl) | (left; simp; done) | (left; simp; omega) | (simp; done) | (simp; omega) | omega))⟩
theorem info24b : (Try.prog.info? 24).map (fun i => (i.zero, i.size, i.bytes)) = some (some (.agg #[.int .u64 0, .int .u64 0, .int .i64 0]), 3, 24) := by kernel_rfl
theorem uniq_iff (L : List It) : Uniq L ↔ (L.map (·.f0)).Nodup := by
 rw [List.nodup_iff_pairwise_ne, List.pairwise_iff_getElem]
 have e : ∀ j (hj : j < L.length), nth L j = L[j] := fun j hj => by unfold nth; rw [List.getElem?_eq_getElem hj]; rfl
 constructor
 ·intro h i j hi hj hij he
  simp at hi hj he
  have := h i j hi hj (by rw [e i hi, e j hj]; exact he)
  omega
 ·intro h i j hi hj he
  rw [e i hi, e j hj] at he
  rcases Nat.lt_trichotomy i j with hl | hl | hl
  ·exact (h i j (by simpa using hi) (by simpa using hj) hl (by simp only [List.getElem_map]; exact he)).elim
  ·exact hl
  ·exact (h j i (by simpa using hj) (by simpa using hi) hl (by simp only [List.getElem_map]; exact he.symm)).elim
theorem uniq_perm {L M : List It} (h : Uniq L) (p : M.Perm L) : Uniq M := (uniq_iff M).2 ((p.map _).nodup_iff.2 ((uniq_iff L).1 h))
def pushE (L : List It) (size : Int) (x : It) : Int := if (place L x.f0).isSome = true then 9 else if size ≤ L.length then 7 else 0
def pushL (L : List It) (size : Int) (x : It) : List It := if pushE L size x = 0 then settle (L ++ [x]) L.length else L
set_option maxHeartbeats 2000000 in
theorem push_ok {w : World} {b m : Nat} {v : Value} {L : List It} {size : Int} {x : It} (h : HP w b m v L size) (hx : ItOk x) (hp : place L x.f0 = none) (hl : (L.length : Int) < size) :
  Calls Try.prog 15 #[.pointer (some ⟨b, 0, none⟩), vI x] w fun e w' => e = .returned (.int .i64 0) ∧
   ∃ v', HP w' b m v' (settle (L ++ [x]) L.length) size ∧ (∀ g, v'.ownBlock = some g → v.ownBlock = some g ∨ w.heap.size ≤ g) ∧ Fr (Ft b m v) w w' := by
 have H := hid h
 have HPN := hid hp
 have hsm := h.small
 clear h hp
 go_enter Try.func15, Try.ntmps15
 go_wp2_with fail
 generalize hW : World.alloc w _ = W
 have f0 : Fr (fun _ => False) w W := by subst hW; (repeat' (first | (with_reducible exact Fr.refl _ _) | (with_reducible assumption) | (with_reducible refine Fr.alloc ?_ _) | (with_reducible refine Fr.drew ?_) | (with_reducible refine Fr.drewN ?_ _) | (with_reducible refine Fr.setCell ?_ _ _ ?_) | (exact Or.inr rfl) | (left; simp; done) | (left; simp; omega) | (simp; done) | (simp; omega) | omega))
 have bX : Blk W w.heap.size #[.int .u64 x.f0, .int .u64 x.f1, .int .i64 x.f2] 24 := by subst hW; (repeat' (first | (with_reducible assumption) | (with_reducible apply Blk.drew) | (with_reducible apply Blk.drewN) | (with_reducible apply Blk.set) | (with_reducible apply Blk.other) | (exact Blk.new' _ _ _ (by first | rfl | (simp; done) | (simp; omega))) | (with_reducible apply Blk.alloc) | (with_reducible rfl) | (simp; done) | (simp; omega) | omega | rfl))
 clear hW
 refine (none_blk (H.out.fr0 f0).blk).mono ?_
 rintro e w1 ⟨rfl, k1⟩
 have h1 := (H.out.fr0 f0).fr0 k1
 have bX1 := bX.fr k1 (fun h => h)
 have ep : (plF (place L) x.f0).getD (.int .i64 0) = .int .i64 0 := by unfold plF; rw [HPN.out]; rfl
 have es : (plF (place L) x.f0).isSome = false := by unfold plF; rw [HPN.out]; rfl
 have mk : ∀ w2, Fr (fun _ => False) w1 w2 → LkS w1 b m w.heap.size x.f0 (.tuple #[.int .i64 0, .bool false]) w2 := fun w2 f =>
  ⟨(h1.fr0 f).blk.cell 1, (bX1.fr f (fun h => h)).cell 0, by have := (h1.fr0 f).map.look_ok Try.underlying22 Try.underlying92 (zeroI _) hx.1; rw [ep, es] at this; exact this, f⟩
 have msd := mk _ (Fr.drew (Fr.refl _ _))
 go_wp2_with fail
 refine start_ (n := 12) (S := fun w' => w'.cell? ⟨b, 1, none⟩ = some (.map (some m)) ∧ w'.cell? ⟨w.heap.size, 0, none⟩ = some (.int .u64 x.f0) ∧ (Instr.lookup 92 (.map (some m)) (.int .u64 x.f0) true).run Try.prog w' = .ok (.tuple #[.int .i64 0, .bool false]) w' ∧ Fr (fun _ => False) w1 w') (ds := []) #[oN,oN,oN,oN,oN,oN,oN,oN,oN,oN,oN,oN] (by kernel_rfl) rfl rfl ⟨msd.1, msd.2.1, msd.2.2.1, msd.2.2.2⟩ (fun hHeld => ?_)
 refine pure_ (i := 0) (N := some 10) (v := ?_) (a' := ?_) #[oY,oN,oN,oN,oN,oN,oN,oN,oN,oN,oN,oN] rfl rfl (by kernel_rfl) (fun _ _ _ h => h) (Or.inl ⟨by rfl, ?_⟩) ?_ ?_
 rotate_left
 ·intro w'
  go_simp
  with_reducible rfl
 rotate_left
 ·simp only [Act.put, List.setIfInBounds_toArray, List.set_cons_zero, List.set_cons_succ, i64_w, i32_w]
  rfl
 refine pure_ (i := 1) (N := some 11) (v := ?_) (a' := ?_) #[oY,oY,oN,oN,oN,oN,oN,oN,oN,oN,oN,oN] rfl rfl (by kernel_rfl) (fun _ _ _ h => h) (Or.inl ⟨by rfl, ?_⟩) ?_ ?_
 rotate_left
 ·intro w'
  go_simp
  with_reducible rfl
 rotate_left
 ·simp only [Act.put, List.setIfInBounds_toArray, List.set_cons_zero, List.set_cons_succ, i64_w, i32_w]
  rfl
 refine pure_ (i := 2) (N := some 12) (v := ?_) (a' := ?_) #[oY,oY,oY,oN,oN,oN,oN,oN,oN,oN,oN,oN] rfl rfl (by kernel_rfl) (fun _ _ _ h => h) (Or.inl ⟨by rfl, ?_⟩) ?_ ?_
 rotate_left
 ·intro w'
  go_simp
  with_reducible rfl
 rotate_left
 ·simp only [Act.put, List.setIfInBounds_toArray, List.set_cons_zero, List.set_cons_succ, i64_w, i32_w]
  rfl
 refine pure_ (i := 4) (N := some 14) (v := ?_) (a' := ?_) #[oY,oY,oY,oN,oY,oN,oN,oN,oN,oN,oN,oN] rfl rfl (by kernel_rfl) (fun _ _ _ h => h) (Or.inl ⟨by rfl, ?_⟩) ?_ ?_
 rotate_left
 ·intro w'
  go_simp
  with_reducible rfl
 rotate_left
 ·simp only [Act.put, List.setIfInBounds_toArray, List.set_cons_zero, List.set_cons_succ, i64_w, i32_w]
  rfl
 refine take_ (i := 3) (N := some 13) (v := ?_) (a' := ?_) #[oY,oY,oY,oY,oY,oN,oN,oN,oN,oN,oN,oN] rfl rfl (by kernel_rfl) (fun _ _ _ h => h) (Or.inl ⟨by rfl, ?_⟩) hHeld ?_ ?_
 rotate_left
 ·rintro w' ⟨s0, s1, s2, s3⟩
  go_simp
  with_reducible rfl
 rotate_left
 ·simp only [Act.put, List.setIfInBounds_toArray, List.set_cons_zero, List.set_cons_succ, i64_w, i32_w]
  rfl
 refine take_ (i := 5) (N := some 15) (v := ?_) (a' := ?_) #[oY,oY,oY,oY,oY,oY,oN,oN,oN,oN,oN,oN] rfl rfl (by kernel_rfl) (fun _ _ _ h => h) (Or.inl ⟨by rfl, ?_⟩) hHeld ?_ ?_
 rotate_left
 ·rintro w' ⟨s0, s1, s2, s3⟩
  go_simp
  with_reducible rfl
 rotate_left
 ·simp only [Act.put, List.setIfInBounds_toArray, List.set_cons_zero, List.set_cons_succ, i64_w, i32_w]
  rfl
 refine take_ (i := 6) (N := some 16) (v := ?_) (a' := ?_) #[oY,oY,oY,oY,oY,oY,oY,oN,oN,oN,oN,oN] rfl rfl (by kernel_rfl) (fun _ _ _ h => h) (Or.inl ⟨by rfl, ?_⟩) hHeld ?_ ?_
 rotate_left
 ·rintro w' ⟨s0, s1, s2, s3⟩
  go_simp
  with_reducible rfl
 rotate_left
 ·simp only [Act.put, List.setIfInBounds_toArray, List.set_cons_zero, List.set_cons_succ, i64_w, i32_w]
  rfl
 refine pure_ (i := 7) (N := some 9) (v := ?_) (a' := ?_) #[oY,oY,oY,oY,oY,oY,oY,oY,oN,oN,oN,oN] rfl rfl (by kernel_rfl) (fun _ _ _ h => h) (Or.inl ⟨by rfl, ?_⟩) ?_ ?_
 rotate_left
 ·intro w'
  go_simp
  with_reducible rfl
 rotate_left
 ·simp only [Act.put, List.setIfInBounds_toArray, List.set_cons_zero, List.set_cons_succ, i64_w, i32_w]
  rfl
 refine pure_ (i := 8) (N := some 17) (v := ?_) (a' := ?_) #[oY,oY,oY,oY,oY,oY,oY,oY,oY,oN,oN,oN] rfl rfl (by kernel_rfl) (fun _ _ _ h => h) (Or.inl ⟨by rfl, ?_⟩) ?_ ?_
 rotate_left
 ·intro w'
  go_simp
  with_reducible rfl
 rotate_left
 ·simp only [Act.put, List.setIfInBounds_toArray, List.set_cons_zero, List.set_cons_succ, i64_w, i32_w]
  rfl
 refine pure_ (i := 9) (N := some 18) (v := ?_) (a' := ?_) #[oY,oY,oY,oY,oY,oY,oY,oY,oY,oY,oN,oN] rfl rfl (by kernel_rfl) (fun _ _ _ h => h) (Or.inl ⟨by rfl, ?_⟩) ?_ ?_
 rotate_left
 ·intro w'
  go_simp
  with_reducible rfl
 rotate_left
 ·simp only [Act.put, List.setIfInBounds_toArray, List.set_cons_zero, List.set_cons_succ, i64_w, i32_w]
  rfl
 refine pure_ (i := 10) (N := some 5) (v := ?_) (a' := ?_) #[oY,oY,oY,oY,oY,oY,oY,oY,oY,oY,oY,oN] rfl rfl (by kernel_rfl) (fun _ _ _ h => h) (Or.inl ⟨by rfl, ?_⟩) ?_ ?_
 rotate_left
 ·intro w'
  go_simp
  with_reducible rfl
 rotate_left
 ·simp only [Act.put, List.setIfInBounds_toArray, List.set_cons_zero, List.set_cons_succ, i64_w, i32_w]
  rfl
 refine pure_ (i := 11) (N := some 6) (v := ?_) (a' := ?_) #[oY,oY,oY,oY,oY,oY,oY,oY,oY,oY,oY,oY] rfl rfl (by kernel_rfl) (fun _ _ _ h => h) (Or.inl ⟨by rfl, ?_⟩) ?_ ?_
 rotate_left
 ·intro w'
  go_simp
  with_reducible rfl
 rotate_left
 ·simp only [Act.put, List.setIfInBounds_toArray, List.set_cons_zero, List.set_cons_succ, i64_w, i32_w]
  rfl
 refine done_ (by kernel_rfl) ?_
 have f2 := hHeld.2.2.2
 clear hHeld msd mk ep es
 have h2 := h1.fr0 f2
 have bX2 := bX1.fr f2 (fun h => h)
 generalize hw2 : World.drew w1 = w2 at *
 have b0 := h2.blk.cell 0
 have b2 := h2.blk.cell 2
 simp at b0 b2
 have hlen : ∃ n c a, v = .slice a n c ∧ n = L.length := by
  rcases h2.form with ⟨rfl, rfl⟩ | ⟨g, cap, rfl, _⟩
  ·exact ⟨0, 0, none, rfl, rfl⟩
  ·exact ⟨L.length, cap, _, rfl, rfl⟩
 obtain ⟨n, c, a, hv, hn⟩ := hlen
 have HN := hid hn
 have HV := hid hv
 rw [hv] at b0
 have t1 : decide (size ≤ (n : Int)) = false := decide_eq_false (by omega)
 clear hv hn
 go_wp2_with fail
 have ms6 : w2.drew.cell? ⟨b, 0, none⟩ = some (.slice a n c) ∧ w2.drew.cell? ⟨b, 2, none⟩ = some (.int .i64 size) ∧ Fr (fun _ => False) w2 w2.drew := ⟨b0, b2, Fr.drew (Fr.refl _ _)⟩
 refine start_ (n := 11) (S := fun w' => w'.cell? ⟨b, 0, none⟩ = some (.slice a n c) ∧ w'.cell? ⟨b, 2, none⟩ = some (.int .i64 size) ∧ Fr (fun _ => False) w2 w') (ds := []) #[oN,oN,oN,oN,oN,oN,oN,oN,oN,oN,oN] (by kernel_rfl) rfl rfl ⟨ms6.1, ms6.2.1, ms6.2.2⟩ (fun hHeld => ?_)
 refine pure_ (i := 0) (N := some 22) (v := ?_) (a' := ?_) #[oY,oN,oN,oN,oN,oN,oN,oN,oN,oN,oN] rfl rfl (by kernel_rfl) (fun _ _ _ h => h) (Or.inl ⟨by rfl, ?_⟩) ?_ ?_
 rotate_left
 ·intro w'
  go_simp
  with_reducible rfl
 rotate_left
 ·simp only [Act.put, List.setIfInBounds_toArray, List.set_cons_zero, List.set_cons_succ, i64_w, i32_w]
  rfl
 refine pure_ (i := 1) (N := some 23) (v := ?_) (a' := ?_) #[oY,oY,oN,oN,oN,oN,oN,oN,oN,oN,oN] rfl rfl (by kernel_rfl) (fun _ _ _ h => h) (Or.inl ⟨by rfl, ?_⟩) ?_ ?_
 rotate_left
 ·intro w'
  go_simp
  with_reducible rfl
 rotate_left
 ·simp only [Act.put, List.setIfInBounds_toArray, List.set_cons_zero, List.set_cons_succ, i64_w, i32_w]
  rfl
 refine pure_ (i := 2) (N := some 24) (v := ?_) (a' := ?_) #[oY,oY,oY,oN,oN,oN,oN,oN,oN,oN,oN] rfl rfl (by kernel_rfl) (fun _ _ _ h => h) (Or.inl ⟨by rfl, ?_⟩) ?_ ?_
 rotate_left
 ·intro w'
  go_simp
  with_reducible rfl
 rotate_left
 ·simp only [Act.put, List.setIfInBounds_toArray, List.set_cons_zero, List.set_cons_succ, i64_w, i32_w]
  rfl
 refine pure_ (i := 5) (N := some 27) (v := ?_) (a' := ?_) #[oY,oY,oY,oN,oN,oY,oN,oN,oN,oN,oN] rfl rfl (by kernel_rfl) (fun _ _ _ h => h) (Or.inl ⟨by rfl, ?_⟩) ?_ ?_
 rotate_left
 ·intro w'
  go_simp
  with_reducible rfl
 rotate_left
 ·simp only [Act.put, List.setIfInBounds_toArray, List.set_cons_zero, List.set_cons_succ, i64_w, i32_w]
  rfl
 refine pure_ (i := 6) (N := some 28) (v := ?_) (a' := ?_) #[oY,oY,oY,oN,oN,oY,oY,oN,oN,oN,oN] rfl rfl (by kernel_rfl) (fun _ _ _ h => h) (Or.inl ⟨by rfl, ?_⟩) ?_ ?_
 rotate_left
 ·intro w'
  go_simp
  with_reducible rfl
 rotate_left
 ·simp only [Act.put, List.setIfInBounds_toArray, List.set_cons_zero, List.set_cons_succ, i64_w, i32_w]
  rfl
 refine pure_ (i := 7) (N := some 29) (v := ?_) (a' := ?_) #[oY,oY,oY,oN,oN,oY,oY,oY,oN,oN,oN] rfl rfl (by kernel_rfl) (fun _ _ _ h => h) (Or.inl ⟨by rfl, ?_⟩) ?_ ?_
 rotate_left
 ·intro w'
  go_simp
  with_reducible rfl
 rotate_left
 ·simp only [Act.put, List.setIfInBounds_toArray, List.set_cons_zero, List.set_cons_succ, i64_w, i32_w]
  rfl
 refine take_ (i := 3) (N := some 25) (v := ?_) (a' := ?_) #[oY,oY,oY,oY,oN,oY,oY,oY,oN,oN,oN] rfl rfl (by kernel_rfl) (fun _ _ _ h => h) (Or.inl ⟨by rfl, ?_⟩) hHeld ?_ ?_
 rotate_left
 ·rintro w' ⟨s0, s1, s2⟩
  go_simp
  with_reducible rfl
 rotate_left
 ·simp only [Act.put, List.setIfInBounds_toArray, List.set_cons_zero, List.set_cons_succ, i64_w, i32_w]
  rfl
 refine pure_ (i := 4) (N := some 26) (v := ?_) (a' := ?_) #[oY,oY,oY,oY,oY,oY,oY,oY,oN,oN,oN] rfl rfl (by kernel_rfl) (fun _ _ _ h => h) (Or.inl ⟨by rfl, ?_⟩) ?_ ?_
 rotate_left
 ·intro w'
  go_simp
  with_reducible rfl
 rotate_left
 ·simp only [Act.put, List.setIfInBounds_toArray, List.set_cons_zero, List.set_cons_succ, i64_w, i32_w]
  rfl
 refine take_ (i := 8) (N := some 30) (v := ?_) (a' := ?_) #[oY,oY,oY,oY,oY,oY,oY,oY,oY,oN,oN] rfl rfl (by kernel_rfl) (fun _ _ _ h => h) (Or.inl ⟨by rfl, ?_⟩) hHeld ?_ ?_
 rotate_left
 ·rintro w' ⟨s0, s1, s2⟩
  go_simp
  with_reducible rfl
 rotate_left
 ·simp only [Act.put, List.setIfInBounds_toArray, List.set_cons_zero, List.set_cons_succ, i64_w, i32_w]
  rfl
 refine pure_ (i := 9) (N := some 31) (v := ?_) (a' := ?_) #[oY,oY,oY,oY,oY,oY,oY,oY,oY,oY,oN] rfl rfl (by kernel_rfl) (fun _ _ _ h => h) (Or.inl ⟨by rfl, ?_⟩) ?_ ?_
 rotate_left
 ·intro w'
  go_simp
  with_reducible rfl
 rotate_left
 ·simp only [Act.put, List.setIfInBounds_toArray, List.set_cons_zero, List.set_cons_succ, i64_w, i32_w]
  rfl
 refine pure_ (i := 10) (N := some 21) (v := ?_) (a' := ?_) #[oY,oY,oY,oY,oY,oY,oY,oY,oY,oY,oY] rfl rfl (by kernel_rfl) (fun _ _ _ h => h) (Or.inl ⟨by rfl, ?_⟩) ?_ ?_
 rotate_left
 ·intro w'
  go_simp
  with_reducible rfl
 rotate_left
 ·simp only [Act.put, List.setIfInBounds_toArray, List.set_cons_zero, List.set_cons_succ, i64_w, i32_w]
  rfl
 refine done_ (by kernel_rfl) ?_
 have f3 := hHeld.2.2
 clear hHeld ms6 t1
 have h3 := h2.fr0 f3
 have bX3 := bX2.fr f3 (fun h => h)
 have F3 : Fr (fun _ => False) w (World.drew w2) := (((f0.trans k1 (fun _ _ h => h)).trans f2 (fun _ _ h => h))).trans f3 (fun _ _ h => h)
 clear b0 b2 f2 f3 h2 bX2 bX1 h1 bX k1 f0
 generalize hw3 : World.drew w2 = w3 at *
 have b0 := h3.blk.cell 0
 rw [HV.out] at b0
 obtain ⟨x0, x1, x2, _⟩ := bX3.c3
 simp at b0
 go_wp2_with fail
 have ms8 : w3.drew.cell? ⟨b, 0, none⟩ = some (.slice a n c) ∧ w3.drew.cell? ⟨w.heap.size, 0, none⟩ = some (.int .u64 x.f0) ∧ w3.drew.cell? ⟨w.heap.size, 1, none⟩ = some (.int .u64 x.f1) ∧ w3.drew.cell? ⟨w.heap.size, 2, none⟩ = some (.int .i64 x.f2) := ⟨b0, x0, x1, x2⟩
 obtain ⟨i0, hi0, hz0, hsz0, hby0⟩ : ∃ i0, Try.prog.info? 24 = some i0 ∧ i0.zero = some (.agg #[.int .u64 0, .int .u64 0, .int .i64 0]) ∧ i0.size = 3 ∧ i0.bytes = 24 := by
  obtain ⟨i0, h1, h2⟩ := Option.map_eq_some_iff.1 info24b
  simp only [Prod.mk.injEq] at h2
  exact ⟨i0, h1, h2.1, h2.2.1, h2.2.2⟩
 refine start_ (n := 11) (S := fun w' => w'.cell? ⟨b, 0, none⟩ = some (.slice a n c) ∧ w'.cell? ⟨w.heap.size, 0, none⟩ = some (.int .u64 x.f0) ∧ w'.cell? ⟨w.heap.size, 1, none⟩ = some (.int .u64 x.f1) ∧ w'.cell? ⟨w.heap.size, 2, none⟩ = some (.int .i64 x.f2)) (ds := [10]) #[oN,oN,oN,oN,oN,oN,oN,oN,oN,oN,oN] (by kernel_rfl) rfl rfl ⟨ms8.1, ms8.2.1, ms8.2.2.1, ms8.2.2.2⟩ (fun hHeld => ?_)
 refine pure_ (i := 0) (N := some 32) (v := ?_) (a' := ?_) #[oY,oN,oN,oN,oN,oN,oN,oN,oN,oN,oN] rfl rfl (by kernel_rfl) (fun _ _ _ h => h) (Or.inl ⟨by rfl, ?_⟩) ?_ ?_
 rotate_left
 ·intro w'
  go_simp
  with_reducible rfl
 rotate_left
 ·simp only [Act.put, List.setIfInBounds_toArray, List.set_cons_zero, List.set_cons_succ, i64_w, i32_w]
  rfl
 refine pure_ (i := 1) (N := some 33) (v := ?_) (a' := ?_) #[oY,oY,oN,oN,oN,oN,oN,oN,oN,oN,oN] rfl rfl (by kernel_rfl) (fun _ _ _ h => h) (Or.inl ⟨by rfl, ?_⟩) ?_ ?_
 rotate_left
 ·intro w'
  go_simp
  with_reducible rfl
 rotate_left
 ·simp only [Act.put, List.setIfInBounds_toArray, List.set_cons_zero, List.set_cons_succ, i64_w, i32_w]
  rfl
 refine pure_ (i := 2) (N := some 34) (v := ?_) (a' := ?_) #[oY,oY,oY,oN,oN,oN,oN,oN,oN,oN,oN] rfl rfl (by kernel_rfl) (fun _ _ _ h => h) (Or.inl ⟨by rfl, ?_⟩) ?_ ?_
 rotate_left
 ·intro w'
  go_simp
  with_reducible rfl
 rotate_left
 ·simp only [Act.put, List.setIfInBounds_toArray, List.set_cons_zero, List.set_cons_succ, i64_w, i32_w]
  rfl
 refine pure_ (i := 3) (N := some 35) (v := ?_) (a' := ?_) #[oY,oY,oY,oY,oN,oN,oN,oN,oN,oN,oN] rfl rfl (by kernel_rfl) (fun _ _ _ h => h) (Or.inl ⟨by rfl, ?_⟩) ?_ ?_
 rotate_left
 ·intro w'
  go_simp
  with_reducible rfl
 rotate_left
 ·simp only [Act.put, List.setIfInBounds_toArray, List.set_cons_zero, List.set_cons_succ, i64_w, i32_w]
  rfl
 refine take_ (i := 4) (N := some 36) (v := ?_) (a' := ?_) #[oY,oY,oY,oY,oY,oN,oN,oN,oN,oN,oN] rfl rfl (by kernel_rfl) (fun _ _ _ h => h) (Or.inl ⟨by rfl, ?_⟩) hHeld ?_ ?_
 rotate_left
 ·rintro w' ⟨s0, s1, s2, s3⟩
  go_simp
  with_reducible rfl
 rotate_left
 ·simp only [Act.put, List.setIfInBounds_toArray, List.set_cons_zero, List.set_cons_succ, i64_w, i32_w]
  rfl
 refine take_ (i := 5) (N := some 37) (v := ?_) (a' := ?_) #[oY,oY,oY,oY,oY,oY,oN,oN,oN,oN,oN] rfl rfl (by kernel_rfl) (fun _ _ _ h => h) (Or.inl ⟨by rfl, ?_⟩) hHeld ?_ ?_
 rotate_left
 ·rintro w' ⟨s0, s1, s2, s3⟩
  go_simp
  with_reducible rfl
 rotate_left
 ·simp only [Act.put, List.setIfInBounds_toArray, List.set_cons_zero, List.set_cons_succ, i64_w, i32_w]
  rfl
 refine one_ (i := 6) (N := some 38) #[oY,oY,oY,oY,oY,oY,oY,oN,oN,oN,oN] rfl rfl (by kernel_rfl) (by decide) (fun K hK => ?_)
 refine value_ (w1 := ?_) (v := ?_) (by rfl) rfl ?_ ?_
 rotate_left 2
 ·go_simp
  constructor
  ·rfl
  ·rfl
 generalize hW : World.drew (World.alloc w3 _) = w4
 have f4 : Fr (fun _ => False) w3 w4 := by subst hW; (repeat' (first | (with_reducible exact Fr.refl _ _) | (with_reducible assumption) | (with_reducible refine Fr.alloc ?_ _) | (with_reducible refine Fr.drew ?_) | (with_reducible refine Fr.drewN ?_ _) | (with_reducible refine Fr.setCell ?_ _ _ ?_) | (exact Or.inr rfl) | (left; simp; done) | (left; simp; omega) | (simp; done) | (simp; omega) | omega))
 have bN : Blk w4 w3.heap.size #[.int .u64 x.f0, .int .u64 x.f1, .int .i64 x.f2] 24 := by subst hW; (repeat' (first | (with_reducible assumption) | (with_reducible apply Blk.drew) | (with_reducible apply Blk.drewN) | (with_reducible apply Blk.set) | (with_reducible apply Blk.other) | (exact Blk.new' _ _ _ (by first | rfl | (simp; done) | (simp; omega))) | (with_reducible apply Blk.alloc) | (with_reducible rfl) | (simp; done) | (simp; omega) | omega | rfl))
 clear hW
 have h4 := h3.fr0 f4
 have bX4 := bX3.fr f4 (fun h => h)
 have b0 := h4.blk.cell 0
 rw [HV.out] at b0
 obtain ⟨x0, x1, x2, _⟩ := bX4.c3
 simp at b0
 have ms4 : w4.cell? ⟨b, 0, none⟩ = some (.slice a n c) ∧ w4.cell? ⟨w.heap.size, 0, none⟩ = some (.int .u64 x.f0) ∧ w4.cell? ⟨w.heap.size, 1, none⟩ = some (.int .u64 x.f1) ∧ w4.cell? ⟨w.heap.size, 2, none⟩ = some (.int .i64 x.f2) := ⟨b0, x0, x1, x2⟩
 refine hK.out _ _ ⟨ms4.1, ms4.2.1, ms4.2.2.1, ms4.2.2.2⟩ (fun hHeld => ?_)
 clear hK K
 refine norm_ (a' := ?_) ?_ ?_
 rotate_left
 ·show Act.put _ (some 38) _ = _
  simp only [Act.put, List.setIfInBounds_toArray, List.set_cons_zero, List.set_cons_succ, i64_w, i32_w]
  rfl
 refine one_ (i := 7) (N := some 39) #[oY,oY,oY,oY,oY,oY,oY,oY,oN,oN,oN] rfl rfl (by kernel_rfl) (by decide) (fun K hK => ?_)
 refine step_append_lies _ rfl (.tmp 36) (.tmp 38) 44 rfl 0 24 i0 _ 3 24 Try.underlying44 hi0 hz0 hsz0 hby0 rfl (by decide) (.slice a n c) L.length (flat L) rfl (by rw [← HV.out]; exact h4.row) ⟨w3.heap.size, 0, none⟩ 1 1 (encI x) rfl rfl (World.news_of_block bN) (flat_one [x]) (by decide) (by unfold maxLen; omega) (by omega) (Nat.zero_le _) _ rfl ?_
 intro g2 cap2 w5 hown5 hg5 hat hlt
 have f5 := fr_grown hg5
 have hvb : ∀ i, (Value.slice a n c).ownBlock = some i → v.ownBlock = some i := fun i e => by rw [HV.out]; exact e
 have hb5 := h4.blk.fr f5 (fun e => by have := hvb _ e; rcases h4.form with ⟨e1, _⟩ | ⟨g9, c9, e1, hp9⟩ <;> (subst e1; first | (cases this; done) | (injection this with this; exact hp9.gb this)))
 have bX5 := bX4.fr f5 (fun e => absurd ((H.out.row.lt _ (hvb _ e)).2) (Nat.lt_irrefl _))
 have b0 := hb5.cell 0
 rw [HV.out] at b0
 have q0 := hb5.free 0
 obtain ⟨x0, x1, x2, _⟩ := bX5.c3
 simp at b0
 have ms5 : w5.cell? ⟨b, 0, none⟩ = some (.slice a n c) ∧ w5.cell? ⟨w.heap.size, 0, none⟩ = some (.int .u64 x.f0) ∧ w5.cell? ⟨w.heap.size, 1, none⟩ = some (.int .u64 x.f1) ∧ w5.cell? ⟨w.heap.size, 2, none⟩ = some (.int .i64 x.f2) := ⟨b0, x0, x1, x2⟩
 refine hK.out _ _ ⟨ms5.1, ms5.2.1, ms5.2.2.1, ms5.2.2.2⟩ (fun hHeld => ?_)
 clear hK K
 refine norm_ (a' := ?_) ?_ ?_
 rotate_left
 ·show Act.put _ (some 39) _ = _
  simp only [Act.put, List.setIfInBounds_toArray, List.set_cons_zero, List.set_cons_succ, i64_w, i32_w]
  rfl
 refine pure_ (i := 8) (N := some 40) (v := ?_) (a' := ?_) #[oY,oY,oY,oY,oY,oY,oY,oY,oY,oN,oN] rfl rfl (by kernel_rfl) (fun _ _ _ h => h) (Or.inl ⟨by rfl, ?_⟩) ?_ ?_
 rotate_left
 ·intro w'
  go_simp
  with_reducible rfl
 rotate_left
 ·simp only [Act.put, List.setIfInBounds_toArray, List.set_cons_zero, List.set_cons_succ, i64_w, i32_w]
  rfl
 refine pure_ (i := 9) (N := some 41) (v := ?_) (a' := ?_) #[oY,oY,oY,oY,oY,oY,oY,oY,oY,oY,oN] rfl rfl (by kernel_rfl) (fun _ _ _ h => h) (Or.inl ⟨by rfl, ?_⟩) ?_ ?_
 rotate_left
 ·intro w'
  go_simp
  with_reducible rfl
 rotate_left
 ·simp only [Act.put, List.setIfInBounds_toArray, List.set_cons_zero, List.set_cons_succ, i64_w, i32_w]
  rfl
 refine last_ (i := 10) (N := none) #[oY,oY,oY,oY,oY,oY,oY,oY,oY,oY,oY] rfl rfl (by kernel_rfl) (by decide) (fun K hK => ?_)
 refine skip_ (w1 := ?_) (by rfl) rfl ?_ ?_
 rotate_left
 ·go_simp
  rfl
 refine hK.out _ _ ?_
 clear hK K
 refine done_ (by kernel_rfl) ?_
 clear hHeld ms5 ms4 ms8 q0 x0 x1 x2 b0
 have hVa : Hid (∀ i, v.ownBlock = some i → (Value.slice a n c).ownBlock = some i) := hid (fun i e => by rw [← HV.out]; exact e)
 have hfl : flat L ++ encI x = flat (L ++ [x]) := by rw [flat_app]; rfl
 rw [hfl] at hown5
 have hlL : (L ++ [x]).length = L.length + 1 := by simp
 have hrow5 := Row.of_owns hown5 hlL.symm
 have hmap5 : MF 22 .u64 w5 m L.length (plF (place L)) := h4.map.fr f5 (fun e => by have := hvb _ e; rcases h4.form with ⟨e1, _⟩ | ⟨g9, c9, e1, hp9⟩ <;> (subst e1; first | (cases this; done) | (injection this with this; exact hp9.mg this.symm)))
 have bX6' : Blk w5 w.heap.size _ _ := bX5
 generalize hW : World.setCell w5 _ _ = w6
 have f6 : Fr (fun i => i = b) w5 w6 := by subst hW; (repeat' (first | (with_reducible exact Fr.refl _ _) | (with_reducible assumption) | (with_reducible refine Fr.alloc ?_ _) | (with_reducible refine Fr.drew ?_) | (with_reducible refine Fr.drewN ?_ _) | (with_reducible refine Fr.setCell ?_ _ _ ?_) | (exact Or.inr rfl) | (left; simp; done) | (left; simp; omega) | (simp; done) | (simp; omega) | omega))
 have hb6 : Blk w6 b #[.slice (some ⟨g2, 0, none⟩) (L.length + 1) cap2, .map (some m), .int .i64 size] 94 := by subst hW; exact hb5.set rfl
 clear hW
 have ngb : g2 ≠ b := hrow5.1.ne hb5 (by decide)
 have nmg : m ≠ g2 := hmap5.ner hrow5.1
 have nXb : w.heap.size ≠ b := fun e => by have := H.out.blk.lt; omega
 have hp6 : Hp w6 b g2 m cap2 (L ++ [x]) (place L) L.length size := ⟨by rw [hlL]; exact hb6, hrow5.1.fr f6 ngb, hrow5.2, hmap5.fr f6 H.out.mb, ngb, H.out.mb, nmg⟩
 have bX6 := bX5.fr f6 nXb
 have F6 : Fr (Ft b m v) w w6 := (((F3.mono (T := Ft b m v) (fun _ _ h => h.elim)).trans f4 (fun _ _ h => h.elim)).trans f5 (fun i hi e => .inr (.inr (hvb i e)))).trans f6 (fun _ _ e => .inl e)
 have hg2 : Hid (∀ i, some g2 = some i → v.ownBlock = some i ∨ w.heap.size ≤ i) := hid (fun i e => by
  injection e with e; subst e
  rcases hat with e | e
  ·exact .inl (hvb _ e)
  ·right; rw [e]; exact Nat.le_trans F3.size f4.size)
 clear hown5 hg5 hat hlt f5 hb5 bX5 hrow5 hmap5 f6 hb6 f4 bN h4 bX4 h3 bX3 F3 bX6' ngb nmg nXb hvb hVa
 have hb6 := hp6.blk
 rw [hlL] at hb6
 have b0 := hb6.cell 0
 obtain ⟨x0, x1, x2, _⟩ := bX6.c3
 have e1 : wrap64 (L.length : Int) = (L.length : Int) := wrapN' (by omega)
 have e2 := (i64_w _).trans e1
 simp at b0
 go_wp2_with fail
 have ms9 : w6.drew.cell? ⟨b, 0, none⟩ = some (.slice (some ⟨g2, 0, none⟩) (L.length + 1) cap2) ∧ w6.drew.cell? ⟨w.heap.size, 0, none⟩ = some (.int .u64 x.f0) ∧ w6.drew.cell? ⟨w.heap.size, 1, none⟩ = some (.int .u64 x.f1) ∧ w6.drew.cell? ⟨w.heap.size, 2, none⟩ = some (.int .i64 x.f2) ∧ Hp w6.drew b g2 m cap2 (L ++ [x]) (place L) L.length size := ⟨b0, x0, x1, x2, hp6.fr0 (Fr.drew (Fr.refl _ _))⟩
 have hlk : L.length < (L ++ [x]).length := by rw [hlL]; omega
 have hset : (L ++ [x]).set L.length x = L ++ [x] := by rw [List.set_append_right _ _ (Nat.le_refl _)]; simp
 have hput : put (place L) x.f0 L.length = place (L ++ [x]) := place_push H.out.uniq HPN.out
 have hnn : L.length + 1 = if (place L x.f0).isSome = true then L.length else L.length + 1 := by rw [HPN.out]; rfl
 have HL := hid hlL
 have HK := hid hlk
 have HS := hid hset
 have HPU := hid hput
 have HNN := hid hnn
 clear hlL hlk hset hput hnn
 refine start_ (n := 9) (S := fun w' => w'.cell? ⟨b, 0, none⟩ = some (.slice (some ⟨g2, 0, none⟩) (L.length + 1) cap2) ∧ w'.cell? ⟨w.heap.size, 0, none⟩ = some (.int .u64 x.f0) ∧ w'.cell? ⟨w.heap.size, 1, none⟩ = some (.int .u64 x.f1) ∧ w'.cell? ⟨w.heap.size, 2, none⟩ = some (.int .i64 x.f2) ∧ Hp w' b g2 m cap2 (L ++ [x]) (place L) L.length size) (ds := [8]) #[oN,oN,oN,oN,oN,oN,oN,oN,oN] (by kernel_rfl) rfl rfl ⟨ms9.1, ms9.2.1, ms9.2.2.1, ms9.2.2.2.1, ms9.2.2.2.2⟩ (fun hHeld => ?_)
 refine pure_ (i := 0) (N := some 42) (v := ?_) (a' := ?_) #[oY,oN,oN,oN,oN,oN,oN,oN,oN] rfl rfl (by kernel_rfl) (fun _ _ _ h => h) (Or.inl ⟨by rfl, ?_⟩) ?_ ?_
 rotate_left
 ·intro w'
  go_simp
  with_reducible rfl
 rotate_left
 ·simp only [Act.put, List.setIfInBounds_toArray, List.set_cons_zero, List.set_cons_succ, i64_w, i32_w]
  rfl
 refine pure_ (i := 1) (N := some 43) (v := ?_) (a' := ?_) #[oY,oY,oN,oN,oN,oN,oN,oN,oN] rfl rfl (by kernel_rfl) (fun _ _ _ h => h) (Or.inl ⟨by rfl, ?_⟩) ?_ ?_
 rotate_left
 ·intro w'
  go_simp
  with_reducible rfl
 rotate_left
 ·simp only [Act.put, List.setIfInBounds_toArray, List.set_cons_zero, List.set_cons_succ, i64_w, i32_w]
  rfl
 refine pure_ (i := 2) (N := some 44) (v := ?_) (a' := ?_) #[oY,oY,oY,oN,oN,oN,oN,oN,oN] rfl rfl (by kernel_rfl) (fun _ _ _ h => h) (Or.inl ⟨by rfl, ?_⟩) ?_ ?_
 rotate_left
 ·intro w'
  go_simp
  with_reducible rfl
 rotate_left
 ·simp only [Act.put, List.setIfInBounds_toArray, List.set_cons_zero, List.set_cons_succ, i64_w, i32_w]
  rfl
 refine pure_ (i := 3) (N := some 45) (v := ?_) (a' := ?_) #[oY,oY,oY,oY,oN,oN,oN,oN,oN] rfl rfl (by kernel_rfl) (fun _ _ _ h => h) (Or.inl ⟨by rfl, ?_⟩) ?_ ?_
 rotate_left
 ·intro w'
  go_simp
  with_reducible rfl
 rotate_left
 ·simp only [Act.put, List.setIfInBounds_toArray, List.set_cons_zero, List.set_cons_succ, i64_w, i32_w]
  rfl
 refine take_ (i := 4) (N := some 46) (v := ?_) (a' := ?_) #[oY,oY,oY,oY,oY,oN,oN,oN,oN] rfl rfl (by kernel_rfl) (fun _ _ _ h => h) (Or.inl ⟨by rfl, ?_⟩) hHeld ?_ ?_
 rotate_left
 ·rintro w' ⟨s0, s1, s2, s3, s4⟩
  go_simp
  with_reducible rfl
 rotate_left
 ·simp only [Act.put, List.setIfInBounds_toArray, List.set_cons_zero, List.set_cons_succ, i64_w, i32_w]
  rfl
 refine pure_ (i := 5) (N := some 47) (v := ?_) (a' := ?_) #[oY,oY,oY,oY,oY,oY,oN,oN,oN] rfl rfl (by kernel_rfl) (fun _ _ _ h => h) (Or.inl ⟨by rfl, ?_⟩) ?_ ?_
 rotate_left
 ·intro w'
  go_simp
  with_reducible rfl
 rotate_left
 ·simp only [Act.put, List.setIfInBounds_toArray, List.set_cons_zero, List.set_cons_succ, i64_w, i32_w]
  rfl
 refine pure_ (i := 6) (N := some 48) (v := ?_) (a' := ?_) #[oY,oY,oY,oY,oY,oY,oY,oN,oN] rfl rfl (by kernel_rfl) (fun _ _ _ h => h) (Or.inl ⟨by rfl, ?_⟩) ?_ ?_
 rotate_left
 ·intro w'
  go_simp
  with_reducible rfl
 rotate_left
 ·simp only [Act.put, List.setIfInBounds_toArray, List.set_cons_zero, List.set_cons_succ, i64_w, i32_w]
  rfl
 refine take_ (i := 7) (N := some 49) (v := ?_) (a' := ?_) #[oY,oY,oY,oY,oY,oY,oY,oY,oN] rfl rfl (by kernel_rfl) (fun _ _ _ h => h) (Or.inl ⟨by rfl, ?_⟩) hHeld ?_ ?_
 rotate_left
 ·rintro w' ⟨s0, s1, s2, s3, s4⟩
  go_simp
  with_reducible rfl
 rotate_left
 ·simp only [Act.put, List.setIfInBounds_toArray, List.set_cons_zero, List.set_cons_succ, i64_w, i32_w]
  rfl
 refine last_ (i := 8) (N := some 50) #[oY,oY,oY,oY,oY,oY,oY,oY,oY] rfl rfl (by kernel_rfl) (by decide) (fun K hK => ?_)
 refine goes_ Try.func46 (by kernel_rfl) rfl #[.pointer (some ⟨b, 0, none⟩), .int .i64 (L.length : Int), vI x] (by rfl) rfl rfl (by simp only [List.map_toArray, List.map_cons, List.map_nil]; rfl) ?_
 refine (lay_at hHeld.2.2.2.2 HK.out x hx (by omega) HNN.out).mono ?_
 rintro e w7 ⟨rfl, h7, f7⟩
 refine ⟨_, rfl, ?_⟩
 refine hK.out _ _ ?_
 clear hK K
 refine norm_ (a' := ?_) ?_ ?_
 rotate_left
 ·show Act.put _ (some 50) _ = _
  simp only [Act.put, List.setIfInBounds_toArray, List.set_cons_zero, List.set_cons_succ, i64_w, i32_w]
  rfl
 refine done_ (by kernel_rfl) ?_
 rw [HS.out, HPU.out] at h7
 have f7' : Fr (fun i => i = g2 ∨ i = m) w6 w7 := ((Fr.refl (fun i => i = g2 ∨ i = m) w6).drew).trans f7 (fun _ _ h => h)
 have hb7 := h7.blk
 rw [HL.out] at hb7
 have b0 := hb7.cell 0
 simp at b0
 clear hHeld ms9 f7 hp6 bX6 hb6 x0 x1 x2
 go_wp2_with fail
 have ms10 : w7.drew.cell? ⟨b, 0, none⟩ = some (.slice (some ⟨g2, 0, none⟩) (L.length + 1) cap2) ∧ Hp w7.drew b g2 m cap2 (L ++ [x]) (place (L ++ [x])) (L.length + 1) size := ⟨b0, h7.fr0 (Fr.drew (Fr.refl _ _))⟩
 have huu := uniq_push H.out.uniq HPN.out
 have hoo : ∀ y ∈ L ++ [x], ItOk y := fun y hy => by
  rcases List.mem_append.1 hy with h | h
  ·exact H.out.ok y h
  ·obtain rfl := List.mem_singleton.1 h; exact hx
 have HU := hid huu
 have HO := hid hoo
 clear huu hoo
 refine (settle_at h7 HU.out HO.out HL.out.symm (by omega) HK.out).mono ?_
 rintro e w8 ⟨rfl, h8, f8⟩
 clear ms10 b0
 have f8' := f8
 go_wp2
 go_ret
 have hsl := settle_length (L ++ [x]) L.length
 rw [HL.out] at hsl
 have hperm := settle_perm HK.out
 refine ⟨rfl, .slice (some ⟨g2, 0, none⟩) (settle (L ++ [x]) L.length).length cap2, HP.of (by rw [hsl]; exact h8) ?_ ?_ ?_ H.out.sz, hg2.out, ?_⟩
 ·exact uniq_perm HU.out hperm
 ·exact fun y hy => HO.out y (hperm.subset hy)
 ·rw [hsl]; omega
 ·have hs2 : ∀ i, i < w.heap.size → (i = g2 ∨ i = m) → Ft b m v i := fun i hi e => by
   rcases e with e | e
   ·rcases hg2.out g2 rfl with h | h
    ·exact .inr (.inr (by rw [e]; exact h))
    ·omega
   ·exact .inr (.inl e)
  exact (F6.trans f7' hs2).trans f8' hs2
end Go.Proofs.Ytkcfhdnlmdndeaa
