/- Timers: Add. -/
import Derived.Test.YtkcfhdnlmdndeaaTmNew
namespace Go.Proofs.Ytkcfhdnlmdndeaa
open Go.RowKit Go.Proofs.YtkcfhdnlmdndeaaW.PrintWords Go.Proofs.YtkcfhdnlmdndeaaW.PrintLast Go.Proofs.YtkcfhdnlmdndeaaW.PrintMore PHp
set_option linter.unusedVariables false
set_option linter.unusedSimpArgs false
set_option maxRecDepth 100000
theorem w64u {a : Int} (h : 0 ≤ a) (h1 : a < 1000000000) : IntKind.u64.wrap (a + 1) = a + 1 := by
 simp only [IntKind.wrap, IntKind.bits, IntKind.signed]; simp; omega
theorem FT.upd {x tm : Nat} {b m : Bool → Nat} {v : Bool → Value} {k : Bool} {v' : Value} {s : Nat} (hg : ∀ g, v'.ownBlock = some g → (v k).ownBlock = some g ∨ s ≤ g) {i : Nat} (h : FT x tm b m (upd v k v') i) : FT x tm b m v i ∨ s ≤ i := by
 rcases h with h | h | ⟨j, hj⟩
 ·exact .inl (.inl h)
 ·exact .inl (.inr (.inl h))
 ·by_cases e : j = k
  ·subst e
   rw [upd_same] at hj
   rcases hj with hj | hj | hj
   ·exact .inl (.inr (.inr ⟨j, .inl hj⟩))
   ·exact .inl (.inr (.inr ⟨j, .inr (.inl hj)⟩))
   ·rcases hg i hj with h | h
    ·exact .inl (.inr (.inr ⟨j, .inr (.inr h)⟩))
    ·exact .inr h
  ·rw [upd_ne _ _ e] at hj; exact .inl (.inr (.inr ⟨j, hj⟩))
set_option maxHeartbeats 4000000 in
theorem add_at {w : World} {x : Nat} {b : Bool → Nat} {F : Nat → Prop} {M : Bool → List It} {E : Bool → Int} {id seq : Int} (h : TS w x b F M E id seq) (k : Bool) {a e : Int} (ha : 0 ≤ a ∧ a ≤ MT) (he : e = E k)
  (hn : (M false).length + (M true).length < 256) (hi : id < 1000000000) (hs : seq < 1000000000) :
  Calls Try.prog 34 #[.pointer (some ⟨x, 0, none⟩), tV k a e] w fun r w' => r = .returned (.tuple #[.int .u64 (id + 1), .int .i64 0]) ∧
   ∃ F', TS w' x b F' (upd M k (⟨id + 1, seq + 1, a⟩ :: M k)) E (id + 1) (seq + 1) ∧ Fr F w w' ∧ ∀ i, F' i → F i ∨ w.heap.size ≤ i := by
 obtain ⟨m, v, L, tm, n, T, hr, ti, hp, ⟨hi0, hi1⟩, ⟨hs0, hs1⟩, hF⟩ := h
 have hle : (L false).length + (L true).length < 256 := by rw [(hp false).length_eq, (hp true).length_eq]; exact hn
 have hnn : n < 256 := by rw [ti.cnt]; exact hle
 have hnz : ¬ (256 : Int) ≤ (n : Int) := by omega
 have hnzn : ¬ 256 ≤ n := by omega
 have hmay : 0 ≤ e ∧ e ≤ MT := he ▸ ti.evs k
 have hno := ti.fresh (j := id + 1) (by omega)
 have hpl := ti.noPlace k (j := id + 1) (by omega)
 have hLk : ((L k).length : Int) < 256 := by have := hnn; have h4 := ti.cnt; cases k <;> omega
 have HR := hid hr
 have HTI := hid ti
 have HP_ := hid hp
 have HF := hid hF
 have HE := hid he
 have HA := hid ha
 have HM := hid hmay
 have HNO := hid hno
 have HPL := hid hpl
 have HLK := hid hLk
 have wid := wfU (i := id + 1) (by omega)
 have wsq := wfU (i := seq + 1) (by omega)
 have wat := wfI ha
 have HIT : Hid (ItOk ⟨id + 1, seq + 1, a⟩) := hid ⟨wid, wsq, wat⟩
 have WID := hid wid
 clear hr ti hp hF he ha hmay hno hpl hLk hle hn wid wsq wat
 go_enter Try.func34, Try.ntmps34
 go_wp2_with fail
 generalize hW : World.alloc w _ = W
 have f0 : Fr (fun _ => False) w W := by subst hW; (repeat' (first | (with_reducible exact Fr.refl _ _) | (with_reducible assumption) | (with_reducible refine Fr.alloc ?_ _) | (with_reducible refine Fr.drew ?_) | (with_reducible refine Fr.drewN ?_ _) | (with_reducible refine Fr.setCell ?_ _ _ ?_) | (exact Or.inr rfl) | (left; simp; done) | (left; simp; omega) | (simp; done) | (simp; omega) | omega))
 have bt : Blk W w.heap.size #[.bool k, .int .i64 a, .int .i64 e] 69 := by subst hW; (repeat' (first | (with_reducible assumption) | (with_reducible apply Blk.drew) | (with_reducible apply Blk.drewN) | (with_reducible apply Blk.set) | (with_reducible apply Blk.other) | (exact Blk.new' _ _ _ (by first | rfl | (simp; done) | (simp; omega))) | (with_reducible apply Blk.alloc) | (with_reducible rfl) | (simp; done) | (simp; omega) | omega | rfl))
 clear hW
 have hr0 := HR.out.fr0 f0
 have nF : ∀ i, FT x tm b m v i → i ≠ w.heap.size := fun i hi e => by have := HR.out.lt i hi; omega
 have NF := hid nF
 have HR0 := hid hr0
 clear hr0 nF
 refine (tnone_at HR0.out.blk).mono ?_
 rintro e' w' ⟨rfl, rfl⟩
 obtain ⟨t0, t1, t2, _⟩ := bt.c3
 have ht := bt.lt
 go_wp2_with fail
 refine (may_at _ HA.out).mono ?_
 rintro e' w' ⟨rfl, rfl⟩
 go_wp2_with fail
 refine (may_at _ HM.out).mono ?_
 rintro e' w' ⟨rfl, rfl⟩
 obtain ⟨c0, c1, c2, c3, c4⟩ := HR0.out.blk.c5
 have q3 := HR0.out.blk.free 3
 have q4 := HR0.out.blk.free 4
 have hm0 := HR0.out.mp
 have hx := HR0.out.blk.lt
 go_wp2_with (at_len; refine wpList_len_mf _ rfl _ 101 rfl 22 69 .u64 Try.underlying101 tm n (tmF T) rfl hm0 ?_)
 generalize hW : World.setCell (World.setCell W _ _) _ _ = W2
 have hr2 : TR W2 x b m v L tm n T (id + 1) (seq + 1) := by
  subst hW
  exact HR0.out.cells ((HR0.out.blk.set rfl).set rfl) (by (repeat' (first | (with_reducible exact Fr.refl _ _) | (with_reducible assumption) | (with_reducible refine Fr.alloc ?_ _) | (with_reducible refine Fr.drew ?_) | (with_reducible refine Fr.drewN ?_ _) | (with_reducible refine Fr.setCell ?_ _ _ ?_) | (exact Or.inr rfl) | (left; simp; done) | (left; simp; omega) | (simp; done) | (simp; omega) | omega)))
 have f2 : Fr (fun i => i = x) W W2 := by subst hW; (repeat' (first | (with_reducible exact Fr.refl _ _) | (with_reducible assumption) | (with_reducible refine Fr.alloc ?_ _) | (with_reducible refine Fr.drew ?_) | (with_reducible refine Fr.drewN ?_ _) | (with_reducible refine Fr.setCell ?_ _ _ ?_) | (exact Or.inr rfl) | (left; simp; done) | (left; simp; omega) | (simp; done) | (simp; omega) | omega))
 clear hW c0 c1 c2 c3 c4 q3 q4 hm0
 have bt2 := bt.fr f2 (fun e => NF.out x (.inl rfl) e.symm)
 obtain ⟨t0, t1, t2, _⟩ := bt2.c3
 obtain ⟨c0, c1, c2, c3, c4⟩ := hr2.blk.c5
 have hx2 := hr2.blk.lt
 have ht2 := bt2.lt
 have HR2 := hid hr2
 clear hr2
 go_still_tail 9, (by kernel_rfl)
 change wpList _ _ _ _ _ (World.drew W2)
 have hm3 : MF 22 .u64 W2.drew tm n (tmF T) := HR2.out.mp.drew
 have hnm : n < maxLen := by unfold maxLen; omega
 go_wp2_with (at_mapUpdate; refine wpList_store_mf _ rfl _ _ _ 101 rfl 22 69 .u64 Try.underlying22 Try.underlying101 tm n (tmF T) (id + 1) (tV k a e) rfl hm3 hnm rfl rfl WID.out ?_; intro w6 hm6 f6)
 have e1 : (tmF T (id + 1)).isSome = false := by unfold tmF; rw [HNO.out]; rfl
 rw [e1, tmF_put] at hm6
 have hm6 : MF 22 .u64 w6 tm (n + 1) (tmF (putT T (id + 1) (k, a, e))) := hm6
 have hr6 := (HR2.out.fr0 (Fr.drew (Fr.refl _ _))).map hm6 f6
 have bt6 := (bt2.fr (S := fun _ => False) (Fr.drew (Fr.refl _ _)) (fun h => h)).fr f6 (fun e => NF.out tm (.inr (.inl rfl)) e.symm)
 have hr6d := hr6.fr0 (Fr.drew (Fr.refl _ _))
 have ms : w6.drew.cell? ⟨x, 3, none⟩ = some (.int .u64 (id + 1)) ∧ w6.drew.cell? ⟨x, 4, none⟩ = some (.int .u64 (seq + 1)) ∧ w6.drew.cell? ⟨w.heap.size, 0, none⟩ = some (.bool k) ∧ w6.drew.cell? ⟨w.heap.size, 1, none⟩ = some (.int .i64 a) ∧
   TR w6.drew x b m v L tm (n + 1) (putT T (id + 1) (k, a, e)) (id + 1) (seq + 1) := ⟨hr6d.blk.cell 3, hr6d.blk.cell 4, bt6.drew.cell 0, bt6.drew.cell 1, hr6d⟩
 clear hm6 hm3 hr6 hr6d c0 c1 c2 c3 c4 t0 t1 t2 e1
 go_wp2_with fail
 refine start_ (n := 16) (S := fun w' => w'.cell? ⟨x, 3, none⟩ = some (.int .u64 (id + 1)) ∧ w'.cell? ⟨x, 4, none⟩ = some (.int .u64 (seq + 1)) ∧ w'.cell? ⟨w.heap.size, 0, none⟩ = some (.bool k) ∧ w'.cell? ⟨w.heap.size, 1, none⟩ = some (.int .i64 a) ∧ TR w' x b m v L tm (n + 1) (putT T (id + 1) (k, a, e)) (id + 1) (seq + 1)) (ds := [15]) #[oN,oN,oN,oN,oN,oN,oN,oN,oN,oN,oN,oN,oN,oN,oN,oN] (by kernel_rfl) rfl rfl ⟨ms.1, ms.2.1, ms.2.2.1, ms.2.2.2.1, ms.2.2.2.2⟩ (fun hHeld => ?_)
 refine pure_ (i := 0) (N := some 50) (v := ?_) (a' := ?_) #[oY,oN,oN,oN,oN,oN,oN,oN,oN,oN,oN,oN,oN,oN,oN,oN] rfl rfl (by kernel_rfl) (fun _ _ _ h => h) (Or.inl ⟨by rfl, ?_⟩) ?_ ?_
 rotate_left
 ·intro w'
  go_simp
  with_reducible rfl
 rotate_left
 ·simp only [Act.put, List.setIfInBounds_toArray, List.set_cons_zero, List.set_cons_succ, i64_w, i32_w]
  rfl
 refine pure_ (i := 1) (N := some 51) (v := ?_) (a' := ?_) #[oY,oY,oN,oN,oN,oN,oN,oN,oN,oN,oN,oN,oN,oN,oN,oN] rfl rfl (by kernel_rfl) (fun _ _ _ h => h) (Or.inl ⟨by rfl, ?_⟩) ?_ ?_
 rotate_left
 ·intro w'
  go_simp
  with_reducible rfl
 rotate_left
 ·simp only [Act.put, List.setIfInBounds_toArray, List.set_cons_zero, List.set_cons_succ, i64_w, i32_w]
  rfl
 refine pure_ (i := 4) (N := some 54) (v := ?_) (a' := ?_) #[oY,oY,oN,oN,oY,oN,oN,oN,oN,oN,oN,oN,oN,oN,oN,oN] rfl rfl (by kernel_rfl) (fun _ _ _ h => h) (Or.inl ⟨by rfl, ?_⟩) ?_ ?_
 rotate_left
 ·intro w'
  go_simp
  with_reducible rfl
 rotate_left
 ·simp only [Act.put, List.setIfInBounds_toArray, List.set_cons_zero, List.set_cons_succ, i64_w, i32_w]
  rfl
 refine pure_ (i := 5) (N := some 55) (v := ?_) (a' := ?_) #[oY,oY,oN,oN,oY,oY,oN,oN,oN,oN,oN,oN,oN,oN,oN,oN] rfl rfl (by kernel_rfl) (fun _ _ _ h => h) (Or.inl ⟨by rfl, ?_⟩) ?_ ?_
 rotate_left
 ·intro w'
  go_simp
  with_reducible rfl
 rotate_left
 ·simp only [Act.put, List.setIfInBounds_toArray, List.set_cons_zero, List.set_cons_succ, i64_w, i32_w]
  rfl
 refine pure_ (i := 6) (N := some 56) (v := ?_) (a' := ?_) #[oY,oY,oN,oN,oY,oY,oY,oN,oN,oN,oN,oN,oN,oN,oN,oN] rfl rfl (by kernel_rfl) (fun _ _ _ h => h) (Or.inl ⟨by rfl, ?_⟩) ?_ ?_
 rotate_left
 ·intro w'
  go_simp
  with_reducible rfl
 rotate_left
 ·simp only [Act.put, List.setIfInBounds_toArray, List.set_cons_zero, List.set_cons_succ, i64_w, i32_w]
  rfl
 refine pure_ (i := 8) (N := some 58) (v := ?_) (a' := ?_) #[oY,oY,oN,oN,oY,oY,oY,oN,oY,oN,oN,oN,oN,oN,oN,oN] rfl rfl (by kernel_rfl) (fun _ _ _ h => h) (Or.inl ⟨by rfl, ?_⟩) ?_ ?_
 rotate_left
 ·intro w'
  go_simp
  with_reducible rfl
 rotate_left
 ·simp only [Act.put, List.setIfInBounds_toArray, List.set_cons_zero, List.set_cons_succ, i64_w, i32_w]
  rfl
 refine pure_ (i := 9) (N := some 59) (v := ?_) (a' := ?_) #[oY,oY,oN,oN,oY,oY,oY,oN,oY,oY,oN,oN,oN,oN,oN,oN] rfl rfl (by kernel_rfl) (fun _ _ _ h => h) (Or.inl ⟨by rfl, ?_⟩) ?_ ?_
 rotate_left
 ·intro w'
  go_simp
  with_reducible rfl
 rotate_left
 ·simp only [Act.put, List.setIfInBounds_toArray, List.set_cons_zero, List.set_cons_succ, i64_w, i32_w]
  rfl
 refine pure_ (i := 10) (N := some 60) (v := ?_) (a' := ?_) #[oY,oY,oN,oN,oY,oY,oY,oN,oY,oY,oY,oN,oN,oN,oN,oN] rfl rfl (by kernel_rfl) (fun _ _ _ h => h) (Or.inl ⟨by rfl, ?_⟩) ?_ ?_
 rotate_left
 ·intro w'
  go_simp
  with_reducible rfl
 rotate_left
 ·simp only [Act.put, List.setIfInBounds_toArray, List.set_cons_zero, List.set_cons_succ, i64_w, i32_w]
  rfl
 refine pure_ (i := 12) (N := some 62) (v := ?_) (a' := ?_) #[oY,oY,oN,oN,oY,oY,oY,oN,oY,oY,oY,oN,oY,oN,oN,oN] rfl rfl (by kernel_rfl) (fun _ _ _ h => h) (Or.inl ⟨by rfl, ?_⟩) ?_ ?_
 rotate_left
 ·intro w'
  go_simp
  with_reducible rfl
 rotate_left
 ·simp only [Act.put, List.setIfInBounds_toArray, List.set_cons_zero, List.set_cons_succ, i64_w, i32_w]
  rfl
 refine take_ (i := 2) (N := some 52) (v := ?_) (a' := ?_) #[oY,oY,oY,oN,oY,oY,oY,oN,oY,oY,oY,oN,oY,oN,oN,oN] rfl rfl (by kernel_rfl) (fun _ _ _ h => h) (Or.inl ⟨by rfl, ?_⟩) hHeld ?_ ?_
 rotate_left
 ·rintro w' ⟨s0, s1, s2, s3, s4⟩
  go_simp
  with_reducible rfl
 rotate_left
 ·simp only [Act.put, List.setIfInBounds_toArray, List.set_cons_zero, List.set_cons_succ, i64_w, i32_w]
  rfl
 refine take_ (i := 7) (N := some 57) (v := ?_) (a' := ?_) #[oY,oY,oY,oN,oY,oY,oY,oY,oY,oY,oY,oN,oY,oN,oN,oN] rfl rfl (by kernel_rfl) (fun _ _ _ h => h) (Or.inl ⟨by rfl, ?_⟩) hHeld ?_ ?_
 rotate_left
 ·rintro w' ⟨s0, s1, s2, s3, s4⟩
  go_simp
  with_reducible rfl
 rotate_left
 ·simp only [Act.put, List.setIfInBounds_toArray, List.set_cons_zero, List.set_cons_succ, i64_w, i32_w]
  rfl
 refine take_ (i := 11) (N := some 61) (v := ?_) (a' := ?_) #[oY,oY,oY,oN,oY,oY,oY,oY,oY,oY,oY,oY,oY,oN,oN,oN] rfl rfl (by kernel_rfl) (fun _ _ _ h => h) (Or.inl ⟨by rfl, ?_⟩) hHeld ?_ ?_
 rotate_left
 ·rintro w' ⟨s0, s1, s2, s3, s4⟩
  go_simp
  with_reducible rfl
 rotate_left
 ·simp only [Act.put, List.setIfInBounds_toArray, List.set_cons_zero, List.set_cons_succ, i64_w, i32_w]
  rfl
 refine take_ (i := 13) (N := some 63) (v := ?_) (a' := ?_) #[oY,oY,oY,oN,oY,oY,oY,oY,oY,oY,oY,oY,oY,oY,oN,oN] rfl rfl (by kernel_rfl) (fun _ _ _ h => h) (Or.inl ⟨by rfl, ?_⟩) hHeld ?_ ?_
 rotate_left
 ·rintro w' ⟨s0, s1, s2, s3, s4⟩
  go_simp
  with_reducible rfl
 rotate_left
 ·simp only [Act.put, List.setIfInBounds_toArray, List.set_cons_zero, List.set_cons_succ, i64_w, i32_w]
  rfl
 refine pure_ (i := 14) (N := some 64) (v := ?_) (a' := ?_) #[oY,oY,oY,oN,oY,oY,oY,oY,oY,oY,oY,oY,oY,oY,oY,oN] rfl rfl (by kernel_rfl) (fun _ _ _ h => h) (Or.inl ⟨by rfl, ?_⟩) ?_ ?_
 rotate_left
 ·intro w'
  go_simp
  with_reducible rfl
 rotate_left
 ·simp only [Act.put, List.setIfInBounds_toArray, List.set_cons_zero, List.set_cons_succ, i64_w, i32_w]
  rfl
 refine one_ (i := 3) (N := some 53) #[oY,oY,oY,oY,oY,oY,oY,oY,oY,oY,oY,oY,oY,oY,oY,oN] rfl rfl (by kernel_rfl) (by decide) (fun K hK => ?_)
 refine goes_ Try.func54 (by kernel_rfl) rfl #[.pointer (some ⟨x, 0, none⟩), .bool k] (by rfl) rfl rfl (by simp only [List.map_toArray, List.map_cons, List.map_nil]; rfl) ?_
 refine (of_at k hHeld.2.2.2.2.blk).mono ?_
 rintro e' w7 ⟨rfl, rfl⟩
 refine ⟨_, rfl, ?_⟩
 refine hK.out _ _ ⟨hHeld.1, hHeld.2.1, hHeld.2.2.1, hHeld.2.2.2.1, hHeld.2.2.2.2⟩ (fun hHeld => ?_)
 clear hK K
 refine norm_ (a' := ?_) ?_ ?_
 rotate_left
 ·show Act.put _ (some 53) _ = _
  simp only [Act.put, List.setIfInBounds_toArray, List.set_cons_zero, List.set_cons_succ, i64_w, i32_w]
  rfl
 refine last_ (i := 15) (N := some 65) #[oY,oY,oY,oY,oY,oY,oY,oY,oY,oY,oY,oY,oY,oY,oY,oY] rfl rfl (by kernel_rfl) (by decide) (fun K hK => ?_)
 refine goes_ Try.func15 (by kernel_rfl) rfl #[.pointer (some ⟨b k, 0, none⟩), vI ⟨id + 1, seq + 1, a⟩] (by rfl) rfl rfl (by simp only [List.map_toArray, List.map_cons, List.map_nil]; rfl) ?_
 refine (push_at (hHeld.2.2.2.2.hp k) HIT.out).mono ?_
 rintro e' w8 ⟨rfl, v', hp8, hg8, f8⟩
 refine ⟨_, rfl, ?_⟩
 refine hK.out _ _ ?_
 clear hK K
 refine norm_ (a' := ?_) ?_ ?_
 rotate_left
 ·show Act.put _ (some 65) _ = _
  simp only [Act.put, List.setIfInBounds_toArray, List.set_cons_zero, List.set_cons_succ, i64_w, i32_w]
  rfl
 refine done_ (by kernel_rfl) ?_
 have hr8 := hHeld.2.2.2.2.heap k hp8 f8 hg8
 have c3 := hr8.blk.cell 3
 simp at c3
 have hsz : w.heap.size ≤ w6.drew.heap.size := by have h1 := f0.size; have h2 := f2.size; have h3 : W2.heap.size ≤ w6.heap.size := f6.size; show w.heap.size ≤ w6.heap.size; omega
 have HR8 := hid hr8
 clear hHeld ms hr8
 go_wp2
 go_ret2
 have hE : pushE (L k) 256 ⟨id + 1, seq + 1, a⟩ = 0 := by
  unfold pushE
  rw [if_neg (by rw [show place (L k) (⟨id + 1, seq + 1, a⟩ : It).f0 = place (L k) (id + 1) from rfl, HPL.out]; simp), if_neg (by have := HLK.out; omega)]
 have hpp := push_perm hE
 have hti := HTI.out.add k hpp (ok_pushL (HTI.out.ok k)) HA.out hi0
 rw [← HE.out] at hti
 refine ⟨rfl, FT x tm b m (upd v k v'), ⟨m, _, _, tm, n + 1, _, HR8.out, hti, upd_perm HP_.out k (hpp.trans ((HP_.out k).cons _)), ⟨by omega, by omega⟩, ⟨by omega, by omega⟩, fun i => Iff.rfl⟩, ?_, fun i hi => ?_⟩
 ·have g0 : Fr F w W := f0.mono (fun _ _ h => h.elim)
  have g2 : Fr F w W2 := g0.trans f2 (fun i _ e => (HF.out i).2 (.inl e))
  have g6 : Fr F w w6 := (g2.drew).trans f6 (fun i _ e => (HF.out i).2 (.inr (.inl e)))
  exact (g6.drew).trans f8 (fun i _ e => (HF.out i).2 (.inr (.inr ⟨k, e⟩)))
 ·rcases FT.upd hg8 hi with h | h
  ·exact .inl ((HF.out i).2 h)
  ·exact .inr (by omega)
end Go.Proofs.Ytkcfhdnlmdndeaa
