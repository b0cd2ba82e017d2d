/- Timers: all that is due of a kind fires, one by one, in order; rows of what fired. -/
import Derived.Test.YtkcfhdnlmdndeaaTmFire1
import Derived.Test.YtkcfhdnlmdndeaaLists
namespace Go.Proofs.Ytkcfhdnlmdndeaa
open Go.RowKit Go.Proofs.YtkcfhdnlmdndeaaW.PrintWords Go.Proofs.YtkcfhdnlmdndeaaW.PrintLast Go.Proofs.YtkcfhdnlmdndeaaW.PrintMore PHp
set_option linter.unusedVariables false
set_option linter.unusedSimpArgs false
set_option maxRecDepth 100000
theorem nxt_gt {e now : Int} {y z : It} (h : z ∈ nxt e now y) (he : 0 ≤ e) (hy : y.f2 ≤ now) : now < z.f2 := by
  unfold nxt at h
  split at h
  · cases h
  · rename_i hc
    have hz : z = ⟨y.f0, y.f1, y.f2 + (mss e now y + 1) * e⟩ := by simpa using h
    have hpos : 0 < e := by omega
    rw [hz]
    show now < y.f2 + (mss e now y + 1) * e
    have hm : mss e now y = (now - y.f2) / e := by unfold mss; rw [if_pos hpos]
    rw [hm]
    have h1 := Int.lt_ediv_add_one_mul_self (now - y.f2) hpos
    omega
/-- What fires as number p, or nothing. -/
def fq (k : Bool) (e now : Int) (D : List It) (p : Nat) : Fd := match D[p]? with | some y => fd k e now y | none => (0, false, 0, 0, 0, 0)
/-- The items behind q firings. -/
def Nq (e now : Int) (D R : List It) (q : Nat) : List It := (D.take q).flatMap (nxt e now) ++ (D.drop q ++ R)
theorem Nq_zero (e now : Int) (D R : List It) : Nq e now D R 0 = D ++ R := by simp [Nq]
theorem Nq_end {e now : Int} {D R : List It} {q : Nat} (h : D.length ≤ q) : Nq e now D R q = D.flatMap (nxt e now) ++ R := by
  unfold Nq; rw [List.take_of_length_le h, List.drop_eq_nil_of_le h]; rfl
theorem Nq_step {e now : Int} {D R : List It} {q : Nat} {y : It} (h : D[q]? = some y) :
    (Nq e now D R q).Perm (y :: ((D.take q).flatMap (nxt e now) ++ (D.drop (q + 1) ++ R))) ∧
    (nxt e now y ++ ((D.take q).flatMap (nxt e now) ++ (D.drop (q + 1) ++ R))).Perm (Nq e now D R (q + 1)) := by
  have hd : D.drop q = y :: D.drop (q + 1) := by
    have hq := (List.getElem?_eq_some_iff.1 h)
    obtain ⟨hl, e⟩ := hq
    rw [List.drop_eq_getElem_cons hl, e]
  have ht : D.take (q + 1) = D.take q ++ [y] := by rw [List.take_add_one, h]; rfl
  constructor
  · unfold Nq
    rw [hd, List.cons_append]
    exact List.perm_middle
  · unfold Nq
    rw [ht, List.flatMap_append]
    have : List.flatMap (nxt e now) [y] = nxt e now y := by simp
    rw [this, ← List.append_assoc]
    exact List.perm_append_comm.append_right _
section
variable {w : World} {x : Nat} {b : Bool → Nat} {F : Nat → Prop} {M : Bool → List It} {E : Bool → Int} {id seq : Int}
theorem fire_q {k : Bool} {now : Int} {D R : List It} {q : Nat} (h : TS w x b F (upd M k (Nq (E k) now D R q)) E id seq) (hs : D.Pairwise itLt) (hd : ∀ y ∈ D, y.f2 ≤ now) (hr : ∀ z ∈ R, now < z.f2) (hnow : now ≤ MT) (he : 0 ≤ E k) :
    Calls Try.prog 55 #[.pointer (some ⟨x, 0, none⟩), .pointer (some ⟨b k, 0, none⟩), .int .i64 now] w fun r w' => r = .returned (.tuple #[vF (fq k (E k) now D q), .bool (decide (q < D.length))]) ∧
      ∃ F', TS w' x b F' (upd M k (Nq (E k) now D R (q + 1))) E id seq ∧ Fr F w w' ∧ ∀ i, F' i → F i ∨ w.heap.size ≤ i := by
  by_cases hq : q < D.length
  · have hy : D[q]? = some D[q] := List.getElem?_eq_getElem hq
    obtain ⟨y, e⟩ : ∃ y, y = D[q] := ⟨_, rfl⟩
    rw [← e] at hy
    clear e
    obtain ⟨p1, p2⟩ := Nq_step (e := E k) (now := now) (R := R) hy
    have hyd : y ∈ D := List.mem_of_getElem? hy
    have hf : fq k (E k) now D q = fd k (E k) now y := by unfold fq; rw [hy]
    rw [hf, decide_eq_true hq]
    have hmin : ∀ z ∈ (D.take q).flatMap (nxt (E k) now) ++ (D.drop (q + 1) ++ R), itLt y z := by
      intro z hz
      have hyn := hd y hyd
      rcases List.mem_append.1 hz with hz | hz
      · obtain ⟨a, ha, hz⟩ := List.mem_flatMap.1 hz
        have := nxt_gt hz he (hd a (List.mem_of_mem_take ha))
        unfold itLt; omega
      · rcases List.mem_append.1 hz with hz | hz
        · obtain ⟨j, hj, rfl⟩ := List.getElem_of_mem hz
          rw [List.getElem_drop]
          have hjl : q + 1 + j < D.length := by rw [List.length_drop] at hj; omega
          have := List.pairwise_iff_getElem.1 hs q (q + 1 + j) hq hjl (by omega)
          have e2 : D[q] = y := by
            have := List.getElem?_eq_getElem hq
            rw [hy] at this
            exact (Option.some.inj this).symm
          rwa [e2] at this
        · have := hr z hz
          unfold itLt; omega
    refine (fire_yes h k (by rw [upd_same]; exact p1) hmin (hd y hyd) hnow).mono ?_
    rintro r w' ⟨rfl, F', ts, f, hF⟩
    refine ⟨rfl, F', ts.perm (fun j => ?_), f, hF⟩
    by_cases e : j = k
    · subst e; rw [upd_same, upd_same]; exact p2
    · rw [upd_ne _ _ e, upd_ne _ _ e, upd_ne _ _ e]
  · have hle : D.length ≤ q := by omega
    have hf : fq k (E k) now D q = (0, false, 0, 0, 0, 0) := by unfold fq; rw [List.getElem?_eq_none hle]
    rw [hf, decide_eq_false hq, Nq_end (show D.length ≤ q + 1 by omega)]
    rw [Nq_end hle] at h
    refine (fire_no h k (now := now) (fun z hz => ?_)).mono ?_
    · rw [upd_same] at hz
      rcases List.mem_append.1 hz with hz | hz
      · obtain ⟨a, ha, hz⟩ := List.mem_flatMap.1 hz
        exact nxt_gt hz he (hd a ha)
      · exact hr z hz
    · rintro r w' ⟨rfl, f⟩
      exact ⟨rfl, F, h.fr0 f, f.mono (fun _ _ h => h.elim), fun i hi => .inl hi⟩
end

def flat6 (l : List Fd) : List Value := l.flatMap enc6
theorem flat6_len : ∀ l : List Fd, (flat6 l).length = l.length * 6
  | [] => rfl
  | c :: l => by have := flat6_len l; unfold flat6 at *; simp [enc6] at *; omega
theorem flat6_app (l m : List Fd) : flat6 (l ++ m) = flat6 l ++ flat6 m := by simp [flat6]
theorem flat6_get : ∀ (L : List Fd) (i j : Nat) (c : Fd), L[i]? = some c → j < 6 → (flat6 L)[i * 6 + j]? = (enc6 c)[j]?
  | [], i, j, c, h, _ => by simp at h
  | d :: l, 0, j, c, h, hj => by
    simp at h; subst h
    show (enc6 d ++ flat6 l)[0 * 6 + j]? = _
    rw [Nat.zero_mul, Nat.zero_add, List.getElem?_append_left (by simpa [enc6] using hj)]
  | d :: l, i + 1, j, c, h, hj => by
    have := flat6_get l i j c (by simpa using h) hj
    show (enc6 d ++ flat6 l)[(i + 1) * 6 + j]? = _
    rw [List.getElem?_append_right (by simp [enc6]; omega)]
    rw [← this]; congr 1; simp [enc6]; omega
theorem enc6_one (f : Fd) : ∀ u ∈ enc6 f, u.oneCell' = true := by
  intro u hu; simp [enc6] at hu; rcases hu with rfl | rfl | rfl | rfl | rfl | rfl <;> rfl
/-- What fired lies at a slice's address. -/
def Fds (w : World) (A : Option Addr) (l : List Fd) : Prop := ∀ i f, l[i]? = some f → ∃ g, A = some ⟨g, 0, none⟩ ∧ g < w.heap.size ∧ ∀ j u, (enc6 f)[j]? = some u → w.cell? ⟨g, i * 6 + j, none⟩ = some u
theorem Fds.fr {S : Nat → Prop} {w w' : World} {A : Option Addr} {l : List Fd} (h : Fds w A l) (k : Fr S w w') (hs : ∀ g, A = some ⟨g, 0, none⟩ → ¬ S g) : Fds w' A l := by
  intro i f hi
  obtain ⟨g, e, hg, hc⟩ := h i f hi
  exact ⟨g, e, k.lt hg, fun j u hj => (k.cell (a := ⟨g, i * 6 + j, none⟩) hg (hs g e)).trans (hc j u hj)⟩
theorem own_fds {w : World} {base n : Nat} {v : Value} {l : List Fd} (h : w.ownsRow base 77 6 v n (flat6 l)) (hn : n = l.length) :
    ∃ A cap, v = .slice A n cap ∧ n ≤ cap ∧ cap ≤ maxLen ∧ Fds w A l ∧ ∀ g, A = some ⟨g, 0, none⟩ → base ≤ g ∧ v.ownBlock = some g := by
  rcases h.2 with ⟨rfl, h1⟩ | ⟨g, cap', cur, rfl, hg, hb, hnc, hcm, hsz, htk⟩
  · subst h1
    have : l = [] := List.eq_nil_of_length_eq_zero hn.symm
    subst this
    exact ⟨none, 0, rfl, by simp, by simp, fun i f hi => by simp at hi, fun _ e => by cases e⟩
  · have hb' : Blk w g cur 77 := hb
    refine ⟨some ⟨g, 0, none⟩, cap', rfl, hnc, hcm, fun i f hi => ⟨g, rfl, hb'.lt, fun j u hj => ?_⟩, fun g' e => ?_⟩
    · have hil := (List.getElem?_eq_some_iff.1 hi).1
      have hj6 : j < 6 := by have := (List.getElem?_eq_some_iff.1 hj).1; simpa [enc6] using this
      rw [hb'.cell]
      have hf := flat6_get l i j f hi hj6
      rw [hj, ← htk, List.getElem?_take_of_lt (by omega)] at hf
      simpa using hf
    · injection e with e
      injection e with e1 e2
      subst e1
      exact ⟨hg, rfl⟩
theorem info6 : (Try.prog.info? 77).map (fun i => (i.zero, i.size, i.bytes)) = some (some vF0, 6, 48) := by kernel_rfl
theorem own6_fr {S : Nat → Prop} {w w' : World} {base : Nat} {v : Value} {n : Nat} {xs : List Value} (h : w.ownsRow base 77 6 v n xs) (k : Fr S w w') (hs : ∀ g, v.ownBlock = some g → ¬ S g) : w'.ownsRow base 77 6 v n xs := by
  obtain ⟨hl, h⟩ := h
  refine ⟨hl, ?_⟩
  rcases h with h | ⟨g, cap, cur, rfl, hg, hh, r⟩
  · exact .inl h
  · exact .inr ⟨g, cap, cur, rfl, hg, (k.block g (Array.getElem?_eq_some_iff.1 hh).1 (hs g (by simp [Value.ownBlock]))).trans hh, r⟩
theorem own6_lt {w : World} {base : Nat} {v : Value} {n : Nat} {xs : List Value} (h : w.ownsRow base 77 6 v n xs) : ∀ g, v.ownBlock = some g → base ≤ g ∧ g < w.heap.size := by
  intro g e
  rcases h.2 with ⟨rfl, _⟩ | ⟨g', cap, cur, rfl, hg, hh, r⟩
  · simp [Value.ownBlock] at e
  · have e : g' = g := by simpa [Value.ownBlock] using e
    subst e
    exact ⟨hg, (Array.getElem?_eq_some_iff.1 hh).1⟩
section
variable {ops : Array Oper} {rest : List Oper} {o : Oper} {a : Act} {Q : Exit → Act → World → Prop} {w : World}
/-- append(v, f) of what fired, f in a block of its own. -/
theorem wpList_append_fd (hgd : o.guard = none) (s x : Operand)
    (ho : o.op = .call { callee := .builtin .append, args := #[s, x], argTypes := #[74, 74] }) (base g : Nat) (v : Value) (L : List Fd) (f : Fd)
    (hs : a.eval s = v) (hx : a.eval x = .slice (some ⟨g, 0, none⟩) 1 1) (hown : w.ownsRow base 77 6 v L.length (flat6 L)) (hb : Blk w g (enc6 f).toArray 77) (hl : L.length ≤ 1048576) (hbase : base ≤ w.heap.size)
    (h : ∀ v' w', w'.ownsRow base 77 6 v' (L ++ [f]).length (flat6 (L ++ [f])) → w.grownBy w' v.ownBlock → (v'.ownBlock = v.ownBlock ∨ v'.ownBlock = some w.heap.size) → wpList Try.prog ops Q rest (a.put o.dst v') w') :
    wpList Try.prog ops Q (o :: rest) a w := by
  obtain ⟨i0, hi, hzz⟩ := Option.map_eq_some_iff.1 info6
  simp only [Prod.mk.injEq] at hzz
  obtain ⟨hz0, hz1, hz2⟩ := hzz
  have hadd : ∀ k, (⟨g, 0, none⟩ : Addr).add k = ⟨g, 0 + k, none⟩ := by intro k; unfold Addr.add; split <;> simp_all
  refine wpList_append_own_at (P := Try.prog) (w := w) hgd s x 74 ho base 77 i0 _ 6 48 Try.underlying74 hi hz0 hz1 hz2 rfl (by decide) v L.length (flat6 L) hs hown ⟨g, 0, none⟩ 1 1 (enc6 f) hx rfl ?_ (enc6_one f) (by unfold maxLen; omega) (by omega) hbase ?_
  · intro j u hj
    rw [hadd, hb.cell, Nat.zero_add]
    simpa using hj
  · intro v' w' h2 h3 _ h5
    exact h v' w' (by rw [List.length_append, flat6_app]; simpa [flat6] using h2) h3 h5
end
end Go.Proofs.Ytkcfhdnlmdndeaa
