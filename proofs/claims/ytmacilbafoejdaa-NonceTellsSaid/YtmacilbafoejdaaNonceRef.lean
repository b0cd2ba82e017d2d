/- The document's book of nonces in memory: its lists, and what its calls make of them. -/
import Derived.Test.YtmacilbafoejdaaNonceCalls
import Derived.Test.YtmacilbafoejdaaLists
namespace Go.Proofs.Ytmacilbafoejdaa
open Go.RowKit
set_option linter.unusedVariables false
set_option linter.unusedSimpArgs false

def nums (l : List Int) : List Value := l.map (Value.int .u64)
theorem nums_length (l : List Int) : (nums l).length = l.length := by simp [nums]
theorem nums_get (l : List Int) (i : Nat) (hi : i < l.length) : (nums l)[i]? = some (.int .u64 (l.getD i 0)) := by
  simp [nums, List.getElem?_eq_getElem hi, List.getD_eq_getElem?_getD]
/-- The document's book in block g. -/
def Rf (w : World) (g : Nat) (y : RS) : Prop :=
  ∃ v0 v1 v2, Blk w g #[v0, v1, v2, .int .i64 y.since] 36 ∧ Lst w 25 v0 (nums y.out) ∧ Lst w 25 v1 (nums y.ans) ∧ Lst w 25 v2 (nums y.stale)
section
variable {w : World} {g : Nat} {y : RS} {n raw most : Int}
theorem Rf.fr {w' : World} {S : Nat → Prop} (h : Rf w g y) (k : Fr S w w') (hg : ¬ S g) (hS : ∀ r cs, S r → ¬ Blk w r cs 25) : Rf w' g y := by
  obtain ⟨v0, v1, v2, hb, h0, h1, h2⟩ := h
  exact ⟨v0, v1, v2, hb.fr k hg, h0.fr k hS, h1.fr k hS, h2.fr k hS⟩
theorem Blk.ne {b : Nat} {cs : Array Value} {t u : TypeId} (h : Blk w b cs t) (hne : t ≠ u) : ∀ r cs', At b r → ¬ Blk w r cs' u := by
  rintro r cs' rfl k
  exact hne (h.one k).2

theorem has_at {v : Value} {l : List Int} (h : Lst w 25 v (nums l)) :
    Calls Try.prog 21 #[v, .int .u64 n] w fun e w' => e = .returned (.bool (l.contains n)) ∧ w = w' := by
  obtain ⟨A, cap, rfl, hlc, hcm⟩ := h.form
  rw [nums_length] at *
  unfold maxLen at hcm
  obtain ⟨bb, hbb⟩ : ∃ b, l.contains n = b := ⟨_, rfl⟩
  rw [hbb]
  have HB : Hid (l.contains n = bb) := hbb
  clear hbb
  go_enter Try.func21, Try.ntmps21
  go_wp2
  go_loop [5] (fun v => ∃ i : Nat, i ≤ l.length ∧ v = .int .i64 i ∧ Hid (∀ j, j < i → l.getD j 0 ≠ n)) (fun v => l.length - (intOf v).toNat)
  case atStart => exact ⟨0, by omega, rfl, fun j hj => by omega⟩
  case round =>
    obtain ⟨i, hi, rfl, hno⟩ := hrel
    by_cases hlt : i < l.length
    · obtain ⟨r, off, rfl, hc, _⟩ := h.get (nums_get l i hlt)
      by_cases he : l.getD i 0 = n
      · have hb : (l.getD i 0 == n) = true := by simp only [beq_iff_eq]; exact he
        have hin : l.contains n = true := by
          rw [List.contains_iff_mem, ← he, List.getD_eq_getElem?_getD, List.getElem?_eq_getElem hlt]
          exact List.getElem_mem hlt
        obtain rfl : bb = true := by rw [← HB.out]; exact hin
        clear he hin h HB
        generalize l.getD i 0 = u at *
        go_wp2
        go_ret
        exact ⟨rfl, rfl⟩
      · have hb : (l.getD i 0 == n) = false := by simp only [beq_eq_false_iff_ne]; exact he
        have hno' : Hid (∀ j, j < i + 1 → l.getD j 0 ≠ n) := fun j hj => by
          rcases Nat.lt_succ_iff_lt_or_eq.1 hj with h' | h'
          · exact hno j h'
          · rw [h']; exact he
        clear he h hno
        generalize hu : l.getD i 0 = u at hc hb
        clear hu
        go_wp2
        go_round
        case rel => exact ⟨i + 1, by omega, by go_num, hno'⟩
        case measure => simp [intOf]; omega
    · obtain rfl : bb = false := by
        rw [← HB.out]
        have : ¬ l.contains n = true := by
          rw [List.contains_iff_mem]
          intro hm
          obtain ⟨j, hj, e⟩ := List.getElem_of_mem hm
          refine hno j (by omega) ?_
          rw [List.getD_eq_getElem?_getD, List.getElem?_eq_getElem hj]
          exact e
        exact Bool.not_eq_true _ ▸ this
      clear h hno HB
      go_wp2
      go_ret
      exact ⟨rfl, rfl⟩

def slen : Value → Nat | .slice _ n _ => n | _ => 0
theorem last4_drop (l : List Int) (h : 4 < l.length) : RS.last4 (l.drop 1) = RS.last4 l := by
  unfold RS.last4
  rw [List.drop_drop, List.length_drop]
  congr 1
  omega
theorem last4_id (l : List Int) (h : l.length ≤ 4) : RS.last4 l = l := by
  unfold RS.last4
  rw [show l.length - 4 = 0 from by omega]
  rfl
theorem nums_one (l : List Int) : ∀ u ∈ nums l, u.oneCell' = true := by
  intro u hu
  simp only [nums, List.mem_map] at hu
  obtain ⟨x, _, rfl⟩ := hu
  rfl
theorem nums_append (a b : List Int) : nums a ++ nums b = nums (a ++ b) := by simp [nums]
theorem nums_drop (l : List Int) (k : Nat) : (nums l).drop k = nums (l.drop k) := by simp [nums, List.map_drop]
theorem infoU64 : (Try.prog.info? 25).map (fun i => (i.zero, i.size, i.bytes)) = some (some (.int .u64 0), 1, 8) := by kernel_rfl

set_option maxHeartbeats 1000000 in
theorem up_at (h : Rf w g y) (hl : y.stale.length ≤ 4) (ho : y.out.length ≤ 1) :
    Calls Try.prog 22 #[.pointer (some ⟨g, 0, none⟩)] w fun e w' => e = .returned (.tuple #[]) ∧ Rf w' g y.up ∧ Fr (At g) w w' := by
  obtain ⟨v0, v1, v2, hb, h0, h1, h2⟩ := h
  have c0 := hb.cell 0
  have c2 := hb.cell 2
  have hlt := hb.lt
  simp at c0 c2
  have hwb : w.heap.size ≤ w.heap.size := Nat.le_refl _
  go_enter Try.func22, Try.ntmps22
  go_wp2_with (first
    | (at_builtin
       refine wpList_append_lst rfl _ _ 34 rfl w.heap.size 25 (.int .u64 0) 8 Try.underlying34 infoU64 rfl (.slice none 0 0) v2 [] (nums y.stale) rfl rfl ⟨by simp, .inl ⟨rfl, rfl⟩⟩ h2 (nums_one _) (by rw [nums_length]; simp [maxLen]; omega) (by rw [nums_length]; simp; omega) hwb ?_
       intro va w1 o1 g1 _
       have k1 : Fr (fun _ => False) w w1 := (Fr.refl _ _).grown g1 (fun k hk => by simp [Value.ownBlock] at hk)
       rw [List.nil_append] at o1
       have hb1 := hb.fr k1 (fun h => h)
       have h01 := h0.fr k1 (fun _ _ h => h.elim)
       have s1 := k1.size
       have c0 := hb1.cell 0
       simp at c0
       clear g1 hb h0 h2 c2)
    | (at_builtin
       refine wpList_append_lst rfl _ _ 34 rfl w.heap.size 25 (.int .u64 0) 8 Try.underlying34 infoU64 rfl va v0 (nums y.stale) (nums y.out) rfl rfl o1 h01 (nums_one _) (by rw [nums_length, nums_length]; simp [maxLen]; omega) (by rw [nums_length, nums_length]; omega) s1 ?_
       intro vb w2 o2 g2 _
       have k2 : Fr (fun _ => False) w w2 := k1.grown g2 (fun k hk => by
         rcases o1.2 with ⟨rfl, _⟩ | ⟨g', _, _, rfl, hg', _⟩
         · simp [Value.ownBlock] at hk
         · simp [Value.ownBlock] at hk; omega)
       rw [nums_append] at o2
       have hb2 : Blk w2 g #[v0, v1, v2, .int .i64 y.since] 36 := by
         refine (Array.getElem?_eq_some_iff.2 ?_ : _)
         exact Array.getElem?_eq_some_iff.1 ((k2.block g hlt (fun h => h)).trans ((k1.block g hlt (fun h => h)).symm.trans hb1))
       have l2 := Lst.of_own o2
       clear g2 o1 o2 h01 c0))
  go_loop [2] (fun v => ∃ l' : List Int, Lst w2 25 v (nums l') ∧ Hid (RS.last4 l' = RS.last4 (y.stale ++ y.out)) ∧ l'.length ≤ 5) (fun v => slen v)
  case atStart => exact ⟨y.stale ++ y.out, l2, rfl, by simp; omega⟩
  case round =>
    clear l2
    obtain ⟨l', L, HL, h5⟩ := hrel
    obtain ⟨A, cap, rfl, hlc, hcm⟩ := L.form
    rw [nums_length] at *
    unfold maxLen at hcm
    by_cases h4 : 4 < l'.length
    · obtain ⟨r, off, rfl, _, _⟩ := L.get (nums_get l' 0 (by omega))
      have L' := L.drop (k := 1) (by rw [nums_length]; omega)
      rw [nums_drop] at L'
      clear L
      go_wp2
      go_round
      case rel => exact ⟨l'.drop 1, L', by unfold Hid; rw [last4_drop l' h4]; exact HL, by simp; omega⟩
      case measure => simp [slen]; omega
    · have e4 : l' = RS.last4 (y.stale ++ y.out) := by rw [← HL.out, last4_id l' (by omega)]
      have HE := Hid.out (p := Hid (l' = RS.last4 (y.stale ++ y.out))) e4
      clear e4 HL
      have c0 := hb2.cell 0
      have c2 := hb2.cell 2
      have f0 := hb2.free 0
      have f2 := hb2.free 2
      simp at c0 c2
      go_wp2
      go_end0
      have k3 : Fr (At g) w w2 := k2.mono (fun _ _ h => h.elim)
      generalize hw3 : World.setCell (World.setCell w2 _ _) _ _ = w3
      have kf : Fr (At g) w2 w3 := by subst hw3; (repeat' (first | (with_reducible exact Fr.refl _ _) | (with_reducible assumption) | (with_reducible refine Fr.alloc ?_ _) | (with_reducible refine Fr.drew ?_) | (with_reducible refine Fr.drewN ?_ _) | (with_reducible refine Fr.setCell ?_ _ _ ?_) | (exact Or.inr rfl) | (left; simp; done) | (left; simp; omega) | (simp; done) | (simp; omega) | omega))
      have b3 : Blk w3 g #[.slice none 0 0, v1, .slice A l'.length cap, .int .i64 y.since] 36 := by subst hw3; (repeat' (first | (with_reducible assumption) | (with_reducible apply Blk.drew) | (with_reducible apply Blk.drewN) | (with_reducible apply Blk.set) | (with_reducible apply Blk.other) | (exact Blk.new' _ _ _ (by first | rfl | (simp; done) | (simp; omega))) | (with_reducible apply Blk.alloc) | (with_reducible rfl) | (simp; done) | (simp; omega) | omega | rfl))
      clear hw3
      have hN := hb2.ne (show 36 ≠ 25 by decide)
      refine ⟨rfl, ⟨.slice none 0 0, v1, .slice A l'.length cap, b3, Lst.nil _ _, (h1.fr k2 (fun _ _ h => h.elim)).fr kf hN, ?_⟩, k3.trans kf (fun _ _ h => h)⟩
      have := L.fr kf hN
      rw [HE.out] at this ⊢
      exact this

set_option maxHeartbeats 1000000 in
theorem rask_at (h : Rf w g y) (hl : y.stale.length ≤ 4) (ho : y.out.length ≤ 1) :
    Calls Try.prog 12 #[.pointer (some ⟨g, 0, none⟩), .int .u64 n, .int .i64 raw] w fun e w' => e = .returned (.int .i64 (y.askE n raw)) ∧ Rf w' g (y.askS n raw) ∧ Fr (At g) w w' := by
  by_cases hbad : BS.badAsk n raw = true
  · have e1 : y.askE n raw = 1 := by unfold RS.askE; rw [if_pos hbad]
    have e2 : y.askS n raw = y := by unfold RS.askS; rw [e1]; rfl
    rw [e1, e2]
    clear e1 e2
    unfold BS.badAsk at hbad
    by_cases h0 : n = 0
    · subst h0
      clear hbad
      go_enter Try.func12, Try.ntmps12
      go_wp2
      go_ret
      exact ⟨rfl, h, Fr.refl _ _⟩
    · have e0 : (n == 0) = false := by simp [h0]
      by_cases h1 : raw < 0
      · clear hbad h0
        go_enter Try.func12, Try.ntmps12
        go_wp2
        go_ret
        exact ⟨rfl, h, Fr.refl _ _⟩
      · have h2 : 4611686018427387904 < raw := by simp [e0] at hbad; omega
        have d1 : decide (raw < 0) = false := by simp; omega
        have d2 : decide (4611686018427387904 < raw) = true := by simp; omega
        clear hbad h0 h1 h2
        go_enter Try.func12, Try.ntmps12
        go_wp2
        go_ret
        exact ⟨rfl, h, Fr.refl _ _⟩
  · have e0 : (n == 0) = false := by simp [BS.badAsk] at hbad ⊢; exact hbad.1.1
    have d1 : decide (raw < 0) = false := by simp [BS.badAsk] at hbad ⊢; omega
    have d2 : decide (4611686018427387904 < raw) = false := by simp [BS.badAsk] at hbad ⊢; omega
    have hE : y.askE n raw = if (y.out.contains n || y.ans.contains n || y.stale.contains n) = true then 9 else 0 := by unfold RS.askE; rw [if_neg hbad]
    have hS : y.askS n raw = if y.askE n raw = 0 then { y.up with out := [n], since := raw } else y := rfl
    rw [hS, hE]
    clear hbad hE hS
    obtain ⟨v0, v1, v2, hb, h0, h1, h2⟩ := id h
    have c0 := hb.cell 0
    have c1 := hb.cell 1
    have c2 := hb.cell 2
    have c3 := hb.cell 3
    have f0 := hb.free 0
    have f1 := hb.free 1
    have hlt := hb.lt
    simp at c0 c1 c2 c3
    have H0 := has_at (n := n) h0
    have H1 := has_at (n := n) h1
    have H2 := has_at (n := n) h2
    generalize y.out.contains n = b0 at *
    generalize y.ans.contains n = b1 at *
    generalize y.stale.contains n = b2 at *
    cases b0 with
    | true =>
      simp only [Bool.true_or, if_true]
      rw [if_neg (show ¬ (9 : Int) = 0 by decide)]
      go_enter Try.func12, Try.ntmps12
      go_wp2_with fail
      refine H0.mono ?_
      rintro e w' ⟨rfl, rfl⟩
      go_wp2
      go_ret
      exact ⟨rfl, h, Fr.refl _ _⟩
    | false =>
      cases b1 with
      | true =>
        simp only [Bool.true_or, Bool.or_true, if_true]
        rw [if_neg (show ¬ (9 : Int) = 0 by decide)]
        go_enter Try.func12, Try.ntmps12
        go_wp2_with fail
        refine H0.mono ?_
        rintro e w' ⟨rfl, rfl⟩
        go_wp2_with fail
        refine H1.mono ?_
        rintro e w' ⟨rfl, rfl⟩
        go_wp2
        go_ret
        exact ⟨rfl, h, Fr.refl _ _⟩
      | false =>
        cases b2 with
        | true =>
          simp only [Bool.or_true, if_true]
          rw [if_neg (show ¬ (9 : Int) = 0 by decide)]
          go_enter Try.func12, Try.ntmps12
          go_wp2_with fail
          refine H0.mono ?_
          rintro e w' ⟨rfl, rfl⟩
          go_wp2_with fail
          refine H1.mono ?_
          rintro e w' ⟨rfl, rfl⟩
          go_wp2_with fail
          refine H2.mono ?_
          rintro e w' ⟨rfl, rfl⟩
          go_wp2
          go_ret
          exact ⟨rfl, h, Fr.refl _ _⟩
        | false =>
          simp only [Bool.or_false, Bool.false_eq_true, if_false, if_true]
          go_enter Try.func12, Try.ntmps12
          go_wp2_with fail
          refine H0.mono ?_
          rintro e w' ⟨rfl, rfl⟩
          go_wp2_with fail
          refine H1.mono ?_
          rintro e w' ⟨rfl, rfl⟩
          go_wp2_with fail
          refine H2.mono ?_
          rintro e w' ⟨rfl, rfl⟩
          go_wp2_with fail
          clear H0 H1 H2 c0 c1 c2 c3 f0 f1 hb h0 h1 h2
          refine (up_at h hl ho).mono ?_
          rintro e w1 ⟨rfl, hu, k1⟩
          obtain ⟨v0, v1, v2, hb, h0, h1, h2⟩ := hu
          have hlt1 := hb.lt
          have hlt1' : g < w1.heap.size + 1 := by omega
          have c0 := hb.cell 0
          have c3 := hb.cell 3
          have f0 := hb.free 0
          have f3 := hb.free 3
          simp at c0 c3
          go_wp2
          go_ret
          have hN := hb.ne (show 36 ≠ 25 by decide)
          generalize hw3 : World.alloc (World.setCell (World.setCell w1 _ _) _ _) _ = w3
          have kf : Fr (At g) w1 w3 := by subst hw3; (repeat' (first | (with_reducible exact Fr.refl _ _) | (with_reducible assumption) | (with_reducible refine Fr.alloc ?_ _) | (with_reducible refine Fr.drew ?_) | (with_reducible refine Fr.drewN ?_ _) | (with_reducible refine Fr.setCell ?_ _ _ ?_) | (exact Or.inr rfl) | (left; simp; done) | (left; simp; omega) | (simp; done) | (simp; omega) | omega))
          have b3 : Blk w3 g #[.slice (some ⟨w1.heap.size, 0, none⟩) 1 1, v1, v2, .int .i64 raw] 36 := by subst hw3; (repeat' (first | (with_reducible assumption) | (with_reducible apply Blk.drew) | (with_reducible apply Blk.drewN) | (with_reducible apply Blk.set) | (with_reducible apply Blk.other) | (exact Blk.new' _ _ _ (by first | rfl | (simp; done) | (simp; omega))) | (with_reducible apply Blk.alloc) | (with_reducible rfl) | (simp; done) | (simp; omega) | omega | rfl))
          have bn : Blk w3 w1.heap.size #[.int .u64 n] 25 := by subst hw3; (repeat' (first | (with_reducible assumption) | (with_reducible apply Blk.drew) | (with_reducible apply Blk.drewN) | (with_reducible apply Blk.set) | (with_reducible apply Blk.other) | (exact Blk.new' _ _ _ (by first | rfl | (simp; done) | (simp; omega))) | (with_reducible apply Blk.alloc) | (with_reducible rfl) | (simp; done) | (simp; omega) | omega | rfl))
          clear hw3
          refine ⟨rfl, ⟨_, v1, v2, b3, ⟨_, 1, rfl, by simp [nums], by simp [maxLen], .inr ⟨w1.heap.size, 0, _, rfl, bn, fun i u hi => ?_⟩⟩, h1.fr kf hN, h2.fr kf hN⟩, k1.trans kf (fun _ _ h => h)⟩
          cases i with
          | zero => simpa [nums] using hi
          | succ i => simp [nums] at hi

set_option maxHeartbeats 1000000 in
theorem rtake_at (h : Rf w g y) :
    Calls Try.prog 13 #[.pointer (some ⟨g, 0, none⟩), .int .u64 n] w fun e w' => e = .returned (.tuple #[.int .i64 (y.takeV n), .int .i64 (y.takeE n)]) ∧ Rf w' g (y.takeS n) ∧ Fr (At g) w w' := by
  have hE : y.takeE n = if y.out.contains n = true then 0 else if y.ans.contains n = true then 31 else if y.stale.contains n = true then 32 else 30 := rfl
  have hV : y.takeV n = if y.out.contains n = true then y.since else 0 := rfl
  have hS : y.takeS n = if y.out.contains n = true then { y with out := [], ans := [n] } else y := rfl
  rw [hE, hV, hS]
  clear hE hV hS
  obtain ⟨v0, v1, v2, hb, h0, h1, h2⟩ := id h
  have c0 := hb.cell 0
  have c1 := hb.cell 1
  have c2 := hb.cell 2
  have c3 := hb.cell 3
  have f0 := hb.free 0
  have f1 := hb.free 1
  have hlt := hb.lt
  simp at c0 c1 c2 c3
  have H0 := has_at (n := n) h0
  have H1 := has_at (n := n) h1
  have H2 := has_at (n := n) h2
  generalize y.out.contains n = b0 at *
  generalize y.ans.contains n = b1 at *
  generalize y.stale.contains n = b2 at *
  cases b0 with
  | true =>
    simp only [if_true]
    have hlt' : g < w.heap.size + 1 := by omega
    go_enter Try.func13, Try.ntmps13
    go_wp2_with fail
    refine H0.mono ?_
    rintro e w' ⟨rfl, rfl⟩
    go_wp2
    go_ret2
    have hN := hb.ne (show 36 ≠ 25 by decide)
    generalize hw3 : World.alloc (World.setCell (World.setCell w _ _) _ _) _ = w3
    have kf : Fr (At g) w w3 := by subst hw3; (repeat' (first | (with_reducible exact Fr.refl _ _) | (with_reducible assumption) | (with_reducible refine Fr.alloc ?_ _) | (with_reducible refine Fr.drew ?_) | (with_reducible refine Fr.drewN ?_ _) | (with_reducible refine Fr.setCell ?_ _ _ ?_) | (exact Or.inr rfl) | (left; simp; done) | (left; simp; omega) | (simp; done) | (simp; omega) | omega))
    have b3 : Blk w3 g #[.slice none 0 0, .slice (some ⟨w.heap.size, 0, none⟩) 1 1, v2, .int .i64 y.since] 36 := by subst hw3; (repeat' (first | (with_reducible assumption) | (with_reducible apply Blk.drew) | (with_reducible apply Blk.drewN) | (with_reducible apply Blk.set) | (with_reducible apply Blk.other) | (exact Blk.new' _ _ _ (by first | rfl | (simp; done) | (simp; omega))) | (with_reducible apply Blk.alloc) | (with_reducible rfl) | (simp; done) | (simp; omega) | omega | rfl))
    have bn : Blk w3 w.heap.size #[.int .u64 n] 25 := by subst hw3; (repeat' (first | (with_reducible assumption) | (with_reducible apply Blk.drew) | (with_reducible apply Blk.drewN) | (with_reducible apply Blk.set) | (with_reducible apply Blk.other) | (exact Blk.new' _ _ _ (by first | rfl | (simp; done) | (simp; omega))) | (with_reducible apply Blk.alloc) | (with_reducible rfl) | (simp; done) | (simp; omega) | omega | rfl))
    clear hw3
    refine ⟨rfl, ⟨_, _, v2, b3, Lst.nil _ _, ⟨_, 1, rfl, by simp [nums], by simp [maxLen], .inr ⟨w.heap.size, 0, _, rfl, bn, fun i u hi => ?_⟩⟩, h2.fr kf hN⟩, kf⟩
    cases i with
    | zero => simpa [nums] using hi
    | succ i => simp [nums] at hi
  | false =>
    simp only [Bool.false_eq_true, if_false]
    cases b1 with
    | true =>
      simp only [if_true]
      go_enter Try.func13, Try.ntmps13
      go_wp2_with fail
      refine H0.mono ?_
      rintro e w' ⟨rfl, rfl⟩
      go_wp2_with fail
      refine H1.mono ?_
      rintro e w' ⟨rfl, rfl⟩
      go_wp2
      go_ret2
      exact ⟨rfl, h, Fr.refl _ _⟩
    | false =>
      simp only [Bool.false_eq_true, if_false]
      cases b2 with
      | true =>
        simp only [if_true]
        go_enter Try.func13, Try.ntmps13
        go_wp2_with fail
        refine H0.mono ?_
        rintro e w' ⟨rfl, rfl⟩
        go_wp2_with fail
        refine H1.mono ?_
        rintro e w' ⟨rfl, rfl⟩
        go_wp2_with fail
        refine H2.mono ?_
        rintro e w' ⟨rfl, rfl⟩
        go_wp2
        go_ret2
        exact ⟨rfl, h, Fr.refl _ _⟩
      | false =>
        simp only [Bool.false_eq_true, if_false]
        go_enter Try.func13, Try.ntmps13
        go_wp2_with fail
        refine H0.mono ?_
        rintro e w' ⟨rfl, rfl⟩
        go_wp2_with fail
        refine H1.mono ?_
        rintro e w' ⟨rfl, rfl⟩
        go_wp2_with fail
        refine H2.mono ?_
        rintro e w' ⟨rfl, rfl⟩
        go_wp2
        go_ret2
        exact ⟨rfl, h, Fr.refl _ _⟩

set_option maxHeartbeats 1000000 in
theorem rdrop_at (h : Rf w g y) (hl : y.stale.length ≤ 4) (ho : y.out.length ≤ 1) (hs : y.out = [] ∨ (0 ≤ y.since ∧ y.since ≤ 4611686018427387904)) (hr : -9223372036854775808 ≤ raw ∧ raw ≤ 9223372036854775807) :
    Calls Try.prog 15 #[.pointer (some ⟨g, 0, none⟩), .int .i64 raw, .int .i64 most] w fun e w' => e = .returned (.bool (y.dropB raw most)) ∧ Rf w' g (y.dropS raw most) ∧ Fr (At g) w w' := by
  obtain ⟨hr0, hr1⟩ := hr
  have hS : y.dropS raw most = if y.dropB raw most = true then y.up else y := rfl
  obtain ⟨v0, v1, v2, hb, h0, h1, h2⟩ := id h
  have c0 := hb.cell 0
  have c3 := hb.cell 3
  simp at c0 c3
  obtain ⟨A, cap, rfl, _, _⟩ := h0.form
  rw [nums_length] at c0
  clear h0 h1 h2 hb
  by_cases hn : y.out = []
  · have e : y.dropB raw most = false := by unfold RS.dropB; simp [hn]
    rw [hS, e, if_neg (by simp)]
    rw [hn] at c0
    clear hS e hs hn
    go_enter Try.func15, Try.ntmps15
    go_wp2
    go_ret
    exact ⟨rfl, h, Fr.refl _ _⟩
  · obtain ⟨hs0, hs1⟩ := hs.resolve_left hn
    have hne : y.out.isEmpty = false := by cases hq : y.out with | nil => exact absurd hq hn | cons a l => rfl
    have hlen : ((y.out.length : Int) == 0) = false := by
      cases hq : y.out with
      | nil => exact absurd hq hn
      | cons a l => simp; omega
    by_cases hle : raw ≤ y.since
    · have e : y.dropB raw most = false := by unfold RS.dropB; simp [hle]
      rw [hS, e, if_neg (by simp)]
      clear hS e hs hn hne
      go_enter Try.func15, Try.ntmps15
      go_wp2
      go_ret
      exact ⟨rfl, h, Fr.refl _ _⟩
    · have hlt : y.since < raw := by omega
      have hle' : decide (raw ≤ y.since) = false := decide_eq_false hle
      by_cases hm : 0 < most
      · have hm' : decide (0 < most) = true := decide_eq_true hm
        by_cases hd : raw - y.since ≤ most
        · have e : y.dropB raw most = false := by unfold RS.dropB; simp [hm, hd]
          rw [hS, e, if_neg (by simp)]
          have hd' : decide (raw - y.since ≤ most) = true := decide_eq_true hd
          clear hS e hs hn hne hle
          go_enter Try.func15, Try.ntmps15
          go_wp2
          go_ret
          exact ⟨rfl, h, Fr.refl _ _⟩
        · have e : y.dropB raw most = true := by unfold RS.dropB; rw [hne]; simp [hle', hd]
          rw [hS, e, if_pos rfl]
          have hd' : decide (raw - y.since ≤ most) = false := decide_eq_false hd
          clear hS e hs hn hne hle
          go_enter Try.func15, Try.ntmps15
          go_wp2_with fail
          refine (up_at h hl ho).mono ?_
          rintro e w1 ⟨rfl, hu, k1⟩
          go_wp2
          go_ret
          exact ⟨rfl, hu, k1⟩
      · have e : y.dropB raw most = true := by unfold RS.dropB; rw [hne]; simp [hle', hm]
        rw [hS, e, if_pos rfl]
        have hm' : decide (0 < most) = false := decide_eq_false hm
        clear hS e hs hn hne hle
        go_enter Try.func15, Try.ntmps15
        go_wp2_with fail
        refine (up_at h hl ho).mono ?_
        rintro e w1 ⟨rfl, hu, k1⟩
        go_wp2
        go_ret
        exact ⟨rfl, hu, k1⟩
end
end Go.Proofs.Ytmacilbafoejdaa
