/- Timers: Reset, Cancel. -/
import Derived.Test.YtkcfhdnlmdndeaaTmAdd
namespace Go.Proofs.Ytkcfhdnlmdndeaa
open Go.RowKit Go.Proofs.YtkcfhdnlmdndeaaW.PrintWords Go.Proofs.YtkcfhdnlmdndeaaW.PrintLast Go.Proofs.YtkcfhdnlmdndeaaW.PrintMore PHp
set_option linter.unusedVariables false
set_option linter.unusedSimpArgs false
set_option maxRecDepth 100000
theorem place_of_perm {L R : List It} {y : It} (hu : Uniq L) (p : L.Perm (y :: R)) : ∃ j, place L y.f0 = some j ∧ nth L j = y ∧ j < L.length := by
  have hy : y ∈ L := p.mem_iff.2 (List.mem_cons_self ..)
  obtain ⟨j, hj, e⟩ := List.getElem_of_mem hy
  have e1 : nth L j = y := by unfold nth; rw [List.getElem?_eq_getElem hj, e]; rfl
  exact ⟨j, by rw [← e1]; exact place_is hu hj, e1, hj⟩
theorem setL_perm {L R : List It} {x y : It} (hu : Uniq L) (p : L.Perm (y :: R)) (e : x.f0 = y.f0) : (setL L x).Perm (x :: R) ∧ setE L x = 0 := by
  obtain ⟨j, h1, h2, h3⟩ := place_of_perm hu p
  rw [← e] at h1
  constructor
  · have hs : setL L x = settle (L.set j x) j := by unfold setL; rw [h1]
    rw [hs]
    refine (settle_perm (by simpa using h3)).trans ?_
    have h4 := set_perm h3 x
    rw [h2] at h4
    have h5 : (y :: L.set j x).Perm (y :: x :: R) := (h4.trans (p.cons x)).trans (List.Perm.swap _ _ _)
    exact h5.cons_inv
  · unfold setE; rw [h1]; rfl
theorem remL_rest {L R : List It} {y : It} (hu : Uniq L) (p : L.Perm (y :: R)) : (remL L y.f0).Perm R ∧ remE L y.f0 = 0 := by
  obtain ⟨j, h1, h2, h3⟩ := place_of_perm hu p
  constructor
  · have h4 := rem_perm h1
    rw [h2] at h4
    exact (h4.trans p).cons_inv
  · unfold remE; rw [h1]; rfl
section
variable {w : World} {x : Nat} {b : Bool → Nat} {F : Nat → Prop} {M : Bool → List It} {E : Bool → Int} {id seq : Int}
set_option maxHeartbeats 4000000 in
theorem reset_at (h : TS w x b F M E id seq) (k : Bool) {y : It} {R : List It} (p : (M k).Perm (y :: R)) {a e : Int} (ha : 0 ≤ a ∧ a ≤ MT) (he : e = E k) (hs : seq < 1000000000) :
    Calls Try.prog 37 #[.pointer (some ⟨x, 0, none⟩), .int .u64 y.f0, .int .i64 a, .int .i64 e] w fun r w' => r = .returned (.int .i64 0) ∧
      ∃ F', TS w' x b F' (upd M k (⟨y.f0, seq + 1, a⟩ :: R)) E id (seq + 1) ∧ Fr F w w' ∧ ∀ i, F' i → F i ∨ w.heap.size ≤ i := by
  obtain ⟨m, v, L, tm, n, T, hr, ti, hp, ⟨hi0, hi1⟩, ⟨hs0, hs1⟩, hF⟩ := h
  have pL := (hp k).trans p
  have hy : y ∈ L k := pL.mem_iff.2 (List.mem_cons_self ..)
  have hT := ti.t k y hy
  have hidy := ti.ids k y hy
  have hmay : 0 ≤ e ∧ e ≤ MT := he ▸ ti.evs k
  obtain ⟨sp, sE⟩ := setL_perm (x := ⟨y.f0, seq + 1, a⟩) (hr.hp k).uniq pL rfl
  have HTI2 := hid (ti.set k (hr.hp k).uniq pL (y' := ⟨y.f0, seq + 1, a⟩) sp rfl (ok_setL (ti.ok k)) ha)
  have HSE := hid sE
  have HSP := hid sp
  have HR := hid hr
  have HP_ := hid hp
  have HF := hid hF
  have HE := hid he
  have HA := hid ha
  have HM := hid hmay
  have HT := hid hT
  have hcnt := ti.cnt
  have hl0 := (hr.hp false).len
  have hl1 := (hr.hp true).len
  have hnm : n < maxLen := by unfold maxLen; omega
  have wid := wfU (i := y.f0) (by omega)
  have wsq := wfU (i := seq + 1) (by omega)
  have wat := wfI ha
  have HIT : Hid (ItOk ⟨y.f0, seq + 1, a⟩) := hid ⟨wid, wsq, wat⟩
  have WID := hid wid
  have hTi : (tmF T y.f0).isSome = true := by unfold tmF; rw [hT]; rfl
  have HTS := hid hTi
  clear hr ti hp hF he ha hmay hy hT hidy sp sE p pL wid wsq wat hl0 hl1 hcnt hTi
  obtain ⟨i, hiy⟩ : ∃ i, i = y.f0 := ⟨_, rfl⟩
  rw [← hiy] at HT HIT WID HTI2 HSE HSP HTS
  rw [← hiy]
  clear hiy
  generalize y.f2 = ya at HT
  go_enter Try.func37, Try.ntmps37
  go_wp2_with fail
  refine (tnone_at HR.out.blk).mono ?_
  rintro e' w' ⟨rfl, rfl⟩
  obtain ⟨c0, c1, c2, c3, c4⟩ := HR.out.blk.c5
  have hlk := HR.out.look_ok WID.out HT.out
  go_wp2_with (simp only [hlk])
  generalize hW : World.alloc w _ = W
  have f0 : Fr (fun _ => False) w W := by subst hW; (repeat' (first | (with_reducible exact Fr.refl _ _) | (with_reducible assumption) | (with_reducible refine Fr.alloc ?_ _) | (with_reducible refine Fr.drew ?_) | (with_reducible refine Fr.drewN ?_ _) | (with_reducible refine Fr.setCell ?_ _ _ ?_) | (exact Or.inr rfl) | (left; simp; done) | (left; simp; omega) | (simp; done) | (simp; omega) | omega))
  have bt : Blk W w.heap.size #[.bool k, .int .i64 ya, .int .i64 (E k)] 69 := by subst hW; (repeat' (first | (with_reducible assumption) | (with_reducible apply Blk.drew) | (with_reducible apply Blk.drewN) | (with_reducible apply Blk.set) | (with_reducible apply Blk.other) | (exact Blk.new' _ _ _ (by first | rfl | (simp; done) | (simp; omega))) | (with_reducible apply Blk.alloc) | (with_reducible rfl) | (simp; done) | (simp; omega) | omega | rfl))
  clear hW hlk c0 c1 c2 c3 c4
  have HR0 := hid (HR.out.fr0 f0)
  have nF : ∀ i, FT x tm b m v i → i ≠ w.heap.size := fun i hi e => by have := HR.out.lt i hi; omega
  have NF := hid nF
  clear nF
  refine (may_at _ HA.out).mono ?_
  rintro e' w' ⟨rfl, rfl⟩
  go_wp2_with fail
  refine (may_at _ HM.out).mono ?_
  rintro e' w' ⟨rfl, rfl⟩
  obtain ⟨c0, c1, c2, c3, c4⟩ := HR0.out.blk.c5
  have q4 := HR0.out.blk.free 4
  have hx := HR0.out.blk.lt
  have nx : x ≠ w.heap.size := NF.out x (.inl rfl)
  obtain ⟨t0, t1, t2, g0, g1, g2⟩ := bt.c3
  have ht := bt.lt
  go_wp2_with fail
  generalize hW : World.setCell (World.setCell (World.setCell W _ _) _ _) _ _ = W2
  have b1 : Blk (World.setCell W ⟨x, 4, none⟩ (.int .u64 (seq + 1))) x #[.pointer (some ⟨b false, 0, none⟩), .pointer (some ⟨b true, 0, none⟩), .map (some tm), .int .u64 id, .int .u64 (seq + 1)] 104 := HR0.out.blk.set rfl
  have hr1 : TR (World.setCell W ⟨x, 4, none⟩ (.int .u64 (seq + 1))) x b m v L tm n T id (seq + 1) := HR0.out.cells b1 (by (repeat' (first | (with_reducible exact Fr.refl _ _) | (with_reducible assumption) | (with_reducible refine Fr.alloc ?_ _) | (with_reducible refine Fr.drew ?_) | (with_reducible refine Fr.drewN ?_ _) | (with_reducible refine Fr.setCell ?_ _ _ ?_) | (exact Or.inr rfl) | (left; simp; done) | (left; simp; omega) | (simp; done) | (simp; omega) | omega)))
  have f1 : Fr (fun i => i = x) W (World.setCell W ⟨x, 4, none⟩ (.int .u64 (seq + 1))) := by (repeat' (first | (with_reducible exact Fr.refl _ _) | (with_reducible assumption) | (with_reducible refine Fr.alloc ?_ _) | (with_reducible refine Fr.drew ?_) | (with_reducible refine Fr.drewN ?_ _) | (with_reducible refine Fr.setCell ?_ _ _ ?_) | (exact Or.inr rfl) | (left; simp; done) | (left; simp; omega) | (simp; done) | (simp; omega) | omega))
  have f2 : Fr (fun i => i = w.heap.size) (World.setCell W ⟨x, 4, none⟩ (.int .u64 (seq + 1))) W2 := by subst hW; (repeat' (first | (with_reducible exact Fr.refl _ _) | (with_reducible assumption) | (with_reducible refine Fr.alloc ?_ _) | (with_reducible refine Fr.drew ?_) | (with_reducible refine Fr.drewN ?_ _) | (with_reducible refine Fr.setCell ?_ _ _ ?_) | (exact Or.inr rfl) | (left; simp; done) | (left; simp; omega) | (simp; done) | (simp; omega) | omega))
  have hr2 := hr1.fr f2 NF.out
  have bt2 : Blk W2 w.heap.size #[.bool k, .int .i64 a, .int .i64 e] 69 := by
    subst hW
    exact ((bt.other (p := ⟨x, 4, none⟩) nx).set rfl).set rfl
  have F2 : Fr (fun i => i = x ∨ i = w.heap.size) W W2 := (f1.mono (T := fun i => i = x ∨ i = w.heap.size) (fun _ _ h => .inl h)).trans f2 (fun _ _ h => .inr h)
  clear hW b1 hr1 f1 f2 c0 c1 c2 c3 c4 q4 t0 t1 t2 g0 g1 g2 bt
  obtain ⟨t0, t1, t2, _⟩ := bt2.c3
  obtain ⟨c0, c1, c2, c3, c4⟩ := hr2.blk.c5
  have hx2 := hr2.blk.lt
  have ht2 := bt2.lt
  have HR2 := hid hr2
  clear hr2
  go_still_tail 6, (by kernel_rfl)
  change wpList _ _ _ _ _ (World.drew W2)
  have hm3 : MF 22 .u64 W2.drew tm n (tmF T) := HR2.out.mp.drew
  go_wp2_with (at_mapUpdate; refine wpList_store_mf _ rfl _ _ _ 101 rfl 22 69 .u64 Try.underlying22 Try.underlying101 tm n (tmF T) i (tV k a e) rfl hm3 hnm rfl rfl WID.out ?_; intro w6 hm6 f6)
  rw [HTS.out, tmF_put] at hm6
  have hm6 : MF 22 .u64 w6 tm n (tmF (putT T i (k, a, e))) := hm6
  have hr6 := (HR2.out.fr0 (Fr.drew (Fr.refl _ _))).map hm6 f6
  have bt6 := (bt2.fr (S := fun _ => False) (Fr.drew (Fr.refl _ _)) (fun h => h)).fr f6 (fun e => NF.out tm (.inr (.inl rfl)) e.symm)
  have hr6d := hr6.fr0 (Fr.drew (Fr.refl _ _))
  have ms : w6.drew.cell? ⟨x, 4, none⟩ = some (.int .u64 (seq + 1)) ∧ w6.drew.cell? ⟨w.heap.size, 0, none⟩ = some (.bool k) ∧
      TR w6.drew x b m v L tm n (putT T i (k, a, e)) id (seq + 1) := ⟨hr6d.blk.cell 4, bt6.drew.cell 0, hr6d⟩
  clear hm6 hm3 hr6 hr6d c0 c1 c2 c3 c4 t0 t1 t2
  go_wp2_with fail
  refine start_ (n := 13) (S := fun w' => w'.cell? ⟨x, 4, none⟩ = some (.int .u64 (seq + 1)) ∧ w'.cell? ⟨w.heap.size, 0, none⟩ = some (.bool k) ∧ TR w' x b m v L tm n (putT T i (k, a, e)) id (seq + 1)) (ds := [11]) #[oN,oN,oN,oN,oN,oN,oN,oN,oN,oN,oN,oN,oN] (by kernel_rfl) rfl rfl ⟨ms.1, ms.2.1, ms.2.2⟩ (fun hHeld => ?_)
  refine pure_ (i := 0) (N := some 51) (v := ?_) (a' := ?_) #[oY,oN,oN,oN,oN,oN,oN,oN,oN,oN,oN,oN,oN] rfl rfl (by kernel_rfl) (fun _ _ _ h => h) (Or.inl ⟨by rfl, ?_⟩) ?_ ?_
  rotate_left
  · intro w'
    go_simp
    with_reducible rfl
  rotate_left
  · simp only [Act.put, List.setIfInBounds_toArray, List.set_cons_zero, List.set_cons_succ, i64_w, i32_w]
    rfl
  refine pure_ (i := 1) (N := some 52) (v := ?_) (a' := ?_) #[oY,oY,oN,oN,oN,oN,oN,oN,oN,oN,oN,oN,oN] rfl rfl (by kernel_rfl) (fun _ _ _ h => h) (Or.inl ⟨by rfl, ?_⟩) ?_ ?_
  rotate_left
  · intro w'
    go_simp
    with_reducible rfl
  rotate_left
  · simp only [Act.put, List.setIfInBounds_toArray, List.set_cons_zero, List.set_cons_succ, i64_w, i32_w]
    rfl
  refine pure_ (i := 4) (N := some 55) (v := ?_) (a' := ?_) #[oY,oY,oN,oN,oY,oN,oN,oN,oN,oN,oN,oN,oN] rfl rfl (by kernel_rfl) (fun _ _ _ h => h) (Or.inl ⟨by rfl, ?_⟩) ?_ ?_
  rotate_left
  · intro w'
    go_simp
    with_reducible rfl
  rotate_left
  · simp only [Act.put, List.setIfInBounds_toArray, List.set_cons_zero, List.set_cons_succ, i64_w, i32_w]
    rfl
  refine pure_ (i := 5) (N := some 56) (v := ?_) (a' := ?_) #[oY,oY,oN,oN,oY,oY,oN,oN,oN,oN,oN,oN,oN] rfl rfl (by kernel_rfl) (fun _ _ _ h => h) (Or.inl ⟨by rfl, ?_⟩) ?_ ?_
  rotate_left
  · intro w'
    go_simp
    with_reducible rfl
  rotate_left
  · simp only [Act.put, List.setIfInBounds_toArray, List.set_cons_zero, List.set_cons_succ, i64_w, i32_w]
    rfl
  refine pure_ (i := 6) (N := some 57) (v := ?_) (a' := ?_) #[oY,oY,oN,oN,oY,oY,oY,oN,oN,oN,oN,oN,oN] rfl rfl (by kernel_rfl) (fun _ _ _ h => h) (Or.inl ⟨by rfl, ?_⟩) ?_ ?_
  rotate_left
  · intro w'
    go_simp
    with_reducible rfl
  rotate_left
  · simp only [Act.put, List.setIfInBounds_toArray, List.set_cons_zero, List.set_cons_succ, i64_w, i32_w]
    rfl
  refine pure_ (i := 7) (N := some 58) (v := ?_) (a' := ?_) #[oY,oY,oN,oN,oY,oY,oY,oY,oN,oN,oN,oN,oN] rfl rfl (by kernel_rfl) (fun _ _ _ h => h) (Or.inl ⟨by rfl, ?_⟩) ?_ ?_
  rotate_left
  · intro w'
    go_simp
    with_reducible rfl
  rotate_left
  · simp only [Act.put, List.setIfInBounds_toArray, List.set_cons_zero, List.set_cons_succ, i64_w, i32_w]
    rfl
  refine pure_ (i := 9) (N := some 60) (v := ?_) (a' := ?_) #[oY,oY,oN,oN,oY,oY,oY,oY,oN,oY,oN,oN,oN] rfl rfl (by kernel_rfl) (fun _ _ _ h => h) (Or.inl ⟨by rfl, ?_⟩) ?_ ?_
  rotate_left
  · intro w'
    go_simp
    with_reducible rfl
  rotate_left
  · simp only [Act.put, List.setIfInBounds_toArray, List.set_cons_zero, List.set_cons_succ, i64_w, i32_w]
    rfl
  refine take_ (i := 2) (N := some 53) (v := ?_) (a' := ?_) #[oY,oY,oY,oN,oY,oY,oY,oY,oN,oY,oN,oN,oN] rfl rfl (by kernel_rfl) (fun _ _ _ h => h) (Or.inl ⟨by rfl, ?_⟩) hHeld ?_ ?_
  rotate_left
  · rintro w' ⟨s0, s1, s2⟩
    go_simp
    with_reducible rfl
  rotate_left
  · simp only [Act.put, List.setIfInBounds_toArray, List.set_cons_zero, List.set_cons_succ, i64_w, i32_w]
    rfl
  refine take_ (i := 8) (N := some 59) (v := ?_) (a' := ?_) #[oY,oY,oY,oN,oY,oY,oY,oY,oY,oY,oN,oN,oN] rfl rfl (by kernel_rfl) (fun _ _ _ h => h) (Or.inl ⟨by rfl, ?_⟩) hHeld ?_ ?_
  rotate_left
  · rintro w' ⟨s0, s1, s2⟩
    go_simp
    with_reducible rfl
  rotate_left
  · simp only [Act.put, List.setIfInBounds_toArray, List.set_cons_zero, List.set_cons_succ, i64_w, i32_w]
    rfl
  refine pure_ (i := 10) (N := some 61) (v := ?_) (a' := ?_) #[oY,oY,oY,oN,oY,oY,oY,oY,oY,oY,oY,oN,oN] rfl rfl (by kernel_rfl) (fun _ _ _ h => h) (Or.inl ⟨by rfl, ?_⟩) ?_ ?_
  rotate_left
  · intro w'
    go_simp
    with_reducible rfl
  rotate_left
  · simp only [Act.put, List.setIfInBounds_toArray, List.set_cons_zero, List.set_cons_succ, i64_w, i32_w]
    rfl
  refine one_ (i := 3) (N := some 54) #[oY,oY,oY,oY,oY,oY,oY,oY,oY,oY,oY,oN,oN] rfl rfl (by kernel_rfl) (by decide) (fun K hK => ?_)
  refine goes_ Try.func54 (by kernel_rfl) rfl #[.pointer (some ⟨x, 0, none⟩), .bool k] (by rfl) rfl rfl (by simp only [List.map_toArray, List.map_cons, List.map_nil]; rfl) ?_
  refine (of_at k hHeld.2.2.blk).mono ?_
  rintro e' w7 ⟨rfl, rfl⟩
  refine ⟨_, rfl, ?_⟩
  refine hK.out _ _ ⟨hHeld.1, hHeld.2.1, hHeld.2.2⟩ (fun hHeld => ?_)
  clear hK K
  refine norm_ (a' := ?_) ?_ ?_
  rotate_left
  · show Act.put _ (some 54) _ = _
    simp only [Act.put, List.setIfInBounds_toArray, List.set_cons_zero, List.set_cons_succ, i64_w, i32_w]
    rfl
  refine last_ (i := 11) (N := some 62) #[oY,oY,oY,oY,oY,oY,oY,oY,oY,oY,oY,oY,oN] rfl rfl (by kernel_rfl) (by decide) (fun K hK => ?_)
  refine goes_ Try.func18 (by kernel_rfl) rfl #[.pointer (some ⟨b k, 0, none⟩), vI ⟨i, seq + 1, a⟩] (by rfl) rfl rfl (by simp only [List.map_toArray, List.map_cons, List.map_nil]; rfl) ?_
  refine (set_at (hHeld.2.2.hp k) HIT.out).mono ?_
  rintro e' w8 ⟨rfl, v', hp8, hg8, f8⟩
  refine ⟨_, rfl, ?_⟩
  refine hK.out _ _ ?_
  clear hK K
  refine norm_ (a' := ?_) ?_ ?_
  rotate_left
  · show Act.put _ (some 62) _ = _
    simp only [Act.put, List.setIfInBounds_toArray, List.set_cons_zero, List.set_cons_succ, i64_w, i32_w]
    rfl
  refine pure_ (i := 12) (N := some 8) (v := ?_) (a' := ?_) #[oY,oY,oY,oY,oY,oY,oY,oY,oY,oY,oY,oY,oY] rfl rfl (by kernel_rfl) (fun _ _ _ h => h) (Or.inl ⟨by rfl, ?_⟩) ?_ ?_
  rotate_left
  · intro w'
    go_simp
    with_reducible rfl
  rotate_left
  · simp only [Act.put, List.setIfInBounds_toArray, List.set_cons_zero, List.set_cons_succ, i64_w, i32_w]
    rfl
  refine done_ (by kernel_rfl) ?_
  have hr8 := hHeld.2.2.heap k hp8 f8 hg8
  have hsz : w.heap.size ≤ w6.drew.heap.size := by have h1 := f0.size; have h2 := F2.size; have h3 : W2.heap.size ≤ w6.heap.size := f6.size; show w.heap.size ≤ w6.heap.size; omega
  have HR8 := hid hr8
  clear hHeld ms hr8
  go_wp2
  go_ret
  have hti := HTI2.out
  rw [← HE.out] at hti
  refine ⟨by rw [HSE.out]; rfl, FT x tm b m (upd v k v'), ⟨m, _, _, tm, n, _, HR8.out, hti, upd_perm HP_.out k HSP.out, ⟨by omega, by omega⟩, ⟨by omega, by omega⟩, fun i => Iff.rfl⟩, ?_, fun i hi => ?_⟩
  · have g0 : Fr F w W := f0.mono (fun _ _ h => h.elim)
    have g2 : Fr F w W2 := g0.trans F2 (fun i hi e => e.elim (fun e => (HF.out i).2 (.inl e)) (fun e => by omega))
    have g6 : Fr F w w6 := (g2.drew).trans f6 (fun i _ e => (HF.out i).2 (.inr (.inl e)))
    exact (g6.drew).trans f8 (fun i _ e => (HF.out i).2 (.inr (.inr ⟨k, e⟩)))
  · rcases FT.upd hg8 hi with h | h
    · exact .inl ((HF.out i).2 h)
    · exact .inr (by omega)
set_option maxHeartbeats 4000000 in
theorem cancel_at (h : TS w x b F M E id seq) (k : Bool) {y : It} {R : List It} (p : (M k).Perm (y :: R)) :
    Calls Try.prog 57 #[.pointer (some ⟨x, 0, none⟩), .int .u64 y.f0] w fun r w' => r = .returned (.int .i64 0) ∧
      ∃ F', TS w' x b F' (upd M k R) E id seq ∧ Fr F w w' ∧ ∀ i, F' i → F i ∨ w.heap.size ≤ i := by
  obtain ⟨m, v, L, tm, n, T, hr, ti, hp, ⟨hi0, hi1⟩, ⟨hs0, hs1⟩, hF⟩ := h
  have pL := (hp k).trans p
  have hy : y ∈ L k := pL.mem_iff.2 (List.mem_cons_self ..)
  have hT := ti.t k y hy
  have hidy := ti.ids k y hy
  obtain ⟨rp, rE⟩ := remL_rest (hr.hp k).uniq pL
  have HTI2 := hid (ti.del k (hr.hp k).uniq pL rp (ok_remL (ti.ok k)))
  have HRE := hid rE
  have HRP := hid rp
  have HR := hid hr
  have HP_ := hid hp
  have HF := hid hF
  have HT := hid hT
  have wid := wfU (i := y.f0) (by omega)
  have WID := hid wid
  have hTi : (tmF T y.f0).isSome = true := by unfold tmF; rw [hT]; rfl
  have HTS := hid hTi
  clear hr ti hp hF hy hT hidy rp rE p pL wid hTi
  obtain ⟨i, hiy⟩ : ∃ i, i = y.f0 := ⟨_, rfl⟩
  rw [← hiy] at HT WID HTI2 HRE HRP HTS
  rw [← hiy]
  clear hiy
  generalize y.f2 = ya at HT
  generalize hee : E k = ek at HT
  clear hee
  go_enter Try.func57, Try.ntmps57
  go_wp2_with fail
  refine (tnone_at HR.out.blk).mono ?_
  rintro e' w' ⟨rfl, rfl⟩
  obtain ⟨c0, c1, c2, c3, c4⟩ := HR.out.blk.c5
  have hlk := HR.out.look_ok WID.out HT.out
  have hx := HR.out.blk.lt
  go_wp2_with (first
    | (simp only [hlk])
    | (at_delete
       generalize hW : World.alloc w _ = W
       have f0 : Fr (fun _ => False) w W := by subst hW; (repeat' (first | (with_reducible exact Fr.refl _ _) | (with_reducible assumption) | (with_reducible refine Fr.alloc ?_ _) | (with_reducible refine Fr.drew ?_) | (with_reducible refine Fr.drewN ?_ _) | (with_reducible refine Fr.setCell ?_ _ _ ?_) | (exact Or.inr rfl) | (left; simp; done) | (left; simp; omega) | (simp; done) | (simp; omega) | omega))
       have bt : Blk W w.heap.size #[.bool k, .int .i64 ya, .int .i64 ek] 69 := by subst hW; (repeat' (first | (with_reducible assumption) | (with_reducible apply Blk.drew) | (with_reducible apply Blk.drewN) | (with_reducible apply Blk.set) | (with_reducible apply Blk.other) | (exact Blk.new' _ _ _ (by first | rfl | (simp; done) | (simp; omega))) | (with_reducible apply Blk.alloc) | (with_reducible rfl) | (simp; done) | (simp; omega) | omega | rfl))
       clear hW hlk c0 c1 c2 c3 c4
       have HR0 := hid (HR.out.fr0 f0)
       have hm0 := HR0.out.mp
       refine wpList_delete_mf _ rfl _ _ 101 22 rfl 69 .u64 Try.underlying22 Try.underlying101 tm n (tmF T) i rfl hm0 rfl WID.out ?_
       intro w2 hm2 f2
       rw [HTS.out, tmF_del] at hm2
       have hm2 : MF 22 .u64 w2 tm (n - 1) (tmF (delT T i)) := hm2
       have hr2 := HR0.out.map hm2 f2
       have ntm : w.heap.size ≠ tm := fun e => by have := HR.out.mp.lt; omega
       have bt2 := bt.fr f2 ntm
       obtain ⟨t0, t1, t2, _⟩ := bt2.c3
       have ht2 := bt2.lt
       have HR2 := hid hr2
       clear hm0 hm2 bt hr2))
  refine (of_at k HR2.out.blk).mono ?_
  rintro e' w' ⟨rfl, rfl⟩
  go_wp2_with fail
  refine (rem_at (HR2.out.hp k) WID.out).mono ?_
  rintro e' w8 ⟨rfl, v', hp8, hg8, f8⟩
  have hr8 := HR2.out.heap k hp8 f8 hg8
  rw [HRE.out]
  have hsz : w.heap.size ≤ w2.heap.size := by have h1 := f0.size; have h2 := f2.size; omega
  have HR8 := hid hr8
  clear hr8
  go_wp2_with fail
  generalize hW : World.alloc w8 _ = w9
  have f9 : Fr (fun _ => False) w8 w9 := by subst hW; (repeat' (first | (with_reducible exact Fr.refl _ _) | (with_reducible assumption) | (with_reducible refine Fr.alloc ?_ _) | (with_reducible refine Fr.drew ?_) | (with_reducible refine Fr.drewN ?_ _) | (with_reducible refine Fr.setCell ?_ _ _ ?_) | (exact Or.inr rfl) | (left; simp; done) | (left; simp; omega) | (simp; done) | (simp; omega) | omega))
  clear hW
  go_ret
  refine ⟨rfl, FT x tm b m (upd v k v'), ⟨m, _, _, tm, n - 1, _, HR8.out.fr0 f9, HTI2.out, upd_perm HP_.out k HRP.out, ⟨by omega, by omega⟩, ⟨by omega, by omega⟩, fun i => Iff.rfl⟩, ?_, fun i hi => ?_⟩
  · have g0 : Fr F w W := f0.mono (fun _ _ h => h.elim)
    have g2 : Fr F w w2 := g0.trans f2 (fun i _ e => (HF.out i).2 (.inr (.inl e)))
    exact (g2.trans f8 (fun i _ e => (HF.out i).2 (.inr (.inr ⟨k, e⟩)))).trans f9 (fun _ _ h => h.elim)
  · rcases FT.upd hg8 hi with h | h
    · exact .inl ((HF.out i).2 h)
    · exact .inr (by omega)
theorem cancel_no (h : TS w x b F M E id seq) {i : Int} (hi : (Lit.int .u64 i).wf = true) (hno : ∀ k y, y ∈ M k → y.f0 ≠ i) :
    Calls Try.prog 57 #[.pointer (some ⟨x, 0, none⟩), .int .u64 i] w fun r w' => r = .returned (.int .i64 6) ∧ Fr (fun _ => False) w w' := by
  obtain ⟨m, v, L, tm, n, T, hr, ti, hp, _, _, hF⟩ := h
  have hT : T i = none := by
    cases e : T i with
    | none => rfl
    | some r =>
      obtain ⟨k, y, hy, e1⟩ := ti.src i r e
      exact absurd e1 (hno k y ((hp k).subset hy))
  have HR := hid hr
  have HT := hid hT
  have hlk := HR.out.look_no hi hT
  obtain ⟨c0, c1, c2, c3, c4⟩ := hr.blk.c5
  clear hr ti hp hF hno hT
  go_enter Try.func57, Try.ntmps57
  go_wp2_with fail
  refine (tnone_at HR.out.blk).mono ?_
  rintro e' w' ⟨rfl, rfl⟩
  go_wp2_with (simp only [hlk])
  go_ret
  exact ⟨rfl, by (repeat' (first | (with_reducible exact Fr.refl _ _) | (with_reducible assumption) | (with_reducible refine Fr.alloc ?_ _) | (with_reducible refine Fr.drew ?_) | (with_reducible refine Fr.drewN ?_ _) | (with_reducible refine Fr.setCell ?_ _ _ ?_) | (exact Or.inr rfl) | (left; simp; done) | (left; simp; omega) | (simp; done) | (simp; omega) | omega))⟩
end
end Go.Proofs.Ytkcfhdnlmdndeaa
