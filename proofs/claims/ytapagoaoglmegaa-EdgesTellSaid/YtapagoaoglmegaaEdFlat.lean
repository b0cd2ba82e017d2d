/- Rows of spans of the call's own; append. -/
import Derived.Test.YtapagoaoglmegaaEdEnds
import Derived.Test.YtapagoaoglmegaaEdOpen
import Derived.Deep.AppendLies
import Derived.Maps.AppendAt
namespace Go.Proofs.Ytapagoaoglmegaa
open Go.RowKit Go.Proofs.YtapagoaoglmegaaW.PrintWords Go.Proofs.YtapagoaoglmegaaW.PrintLast Go.Proofs.YtapagoaoglmegaaW.PrintMore PCl
set_option linter.unusedVariables false
set_option linter.unusedSimpArgs false
set_option maxRecDepth 100000
/-- Block g is a row of type t, of room for cap items, of which the first are L. -/
def RowS (t : TypeId) (w : World) (g cap : Nat) (L : List S24) : Prop :=
  ∃ cur : Array Value, Blk w g cur t ∧ cur.size = cap * 3 ∧ L.length ≤ cap ∧ ∀ i c, L[i]? = some c → ∀ j v, (encS c)[j]? = some v → cur[i * 3 + j]? = some v
section
variable {t : TypeId} {w w' : World} {g cap : Nat} {L : List S24}
theorem RowS.lt (h : RowS t w g cap L) : g < w.heap.size := by obtain ⟨cur, hb, _⟩ := h; exact hb.lt
theorem RowS.len (h : RowS t w g cap L) : L.length ≤ cap := by obtain ⟨cur, _, _, h, _⟩ := h; exact h
theorem RowS.fr {S : Nat → Prop} (h : RowS t w g cap L) (k : Fr S w w') (hs : ¬ S g) : RowS t w' g cap L := by
  obtain ⟨cur, hb, h1, h2, h3⟩ := h
  exact ⟨cur, hb.fr k hs, h1, h2, h3⟩
theorem RowS.drew (h : RowS t w g cap L) : RowS t w.drew g cap L := h
theorem RowS.ne {b : Nat} {cs : Array Value} {u : TypeId} (h : RowS t w g cap L) (k : Blk w b cs u) (e : t ≠ u) : g ≠ b := by
  rintro rfl
  obtain ⟨cur, hb, _⟩ := h
  exact e (hb.one k).2
theorem RowS.at3 (h : RowS t w g cap L) {i : Nat} {c : S24} (hi : L[i]? = some c) : AtS w g (i * 3) c := by
  obtain ⟨cur, hb, h1, h2, h3⟩ := h
  have k := h3 i c hi
  exact ⟨(hb.cell _).trans (k 0 _ rfl), (hb.cell _).trans (k 1 _ rfl), (hb.cell _).trans (k 2 _ rfl)⟩
theorem RowS.free (h : RowS t w g cap L) (o : Nat) : w.frozen? ⟨g, o, none⟩ = false := by
  obtain ⟨cur, hb, _⟩ := h; exact hb.free o
theorem RowS.there (h : RowS t w g cap L) {o : Nat} (ho : o < cap * 3) : ∃ v, w.cell? ⟨g, o, none⟩ = some v ∧ w.frozen? ⟨g, o, none⟩ = false := by
  obtain ⟨cur, hb, h1, h2, h3⟩ := h
  exact ⟨cur[o]'(by omega), by rw [hb.cell, Array.getElem?_eq_getElem (by omega)], hb.free o⟩
theorem RowS.take (h : RowS t w g cap L) (n : Nat) : RowS t w g cap (L.take n) := by
  obtain ⟨cur, hb, h1, h2, h3⟩ := h
  refine ⟨cur, hb, h1, by simp; omega, fun i c hi => h3 i c ?_⟩
  rw [List.getElem?_take] at hi
  split at hi
  · exact hi
  · cases hi
/-- An item is laid in a place. -/
theorem RowS.set3 (h : RowS t w g cap L) {i : Nat} (hi : i < L.length) (c : S24) :
    RowS t (((w.setCell ⟨g, i * 3, none⟩ (.int .i64 c.f0)).setCell ⟨g, i * 3 + 1, none⟩ (.int .i64 c.f1)).setCell ⟨g, i * 3 + 2, none⟩ (.int .i64 c.f2)) g cap (L.set i c) := by
  obtain ⟨cur, hb, h1, h2, h3⟩ := h
  refine ⟨_, (((hb.set rfl).set rfl).set rfl), by simpa using h1, by simpa using h2, fun m d hm j v hj => ?_⟩
  have hlt : i * 3 + 2 < cur.size := by omega
  have hj5 : j < 3 := by have := (List.getElem?_eq_some_iff.1 hj).1; simpa [encS] using this
  rw [List.getElem?_set] at hm
  by_cases e : i = m
  · subst e
    rw [if_pos rfl, if_pos hi] at hm
    obtain rfl := Option.some.inj hm
    simp only [Array.getElem?_setIfInBounds, Array.size_setIfInBounds]
    match j, hj5, hj with
    | 0, _, hj => simp [encS] at hj ⊢; exact ⟨by omega, hj⟩
    | 1, _, hj => simp [encS] at hj ⊢; exact ⟨by omega, hj⟩
    | 2, _, hj => simp [encS] at hj ⊢; exact ⟨by omega, hj⟩
  · rw [if_neg e] at hm
    have := h3 m d hm j v hj
    have ne : ∀ q, q < 3 → i * 3 + q ≠ m * 3 + j := by intro q hq; omega
    have n0 : i * 3 ≠ m * 3 + j := by omega
    simp only [Array.getElem?_setIfInBounds]
    rw [if_neg (ne 2 (by omega)), if_neg (ne 1 (by omega)), if_neg n0]
    exact this
end
theorem k24_enc (w : World) (x : S24) : k24.K w x (encS x) := k24_mk w x
theorem RowS.toC {t : TypeId} {w : World} {g cap : Nat} {L : List S24} (h : RowS t w g cap L) (hm : cap ≤ maxLen) : Kd.C k24 w (some ⟨g, 0, none⟩) L.length L := by
  refine ⟨rfl, by have := h.len; unfold maxLen at hm; omega, fun _ => ⟨_, rfl, fun j p hj => ⟨encS p, rfl, k24_mk w p, fun i u hi => ?_⟩⟩⟩
  obtain ⟨cur, hb, h1, h2, h3⟩ := h
  rw [addE, Nat.zero_add]
  exact (hb.cell _).trans (h3 j p hj i u hi)
/-- A slice of the call's own, as the print tells it. -/
theorem RowS.of_R {w : World} {base : Nat} {ok : Nat → Prop} {v : Value} {xs : List S24} (h : Kd.R k24 24 w base ok v xs) :
    (v = .slice none 0 0 ∧ xs = []) ∨ ∃ g cap, v = .slice (some ⟨g, 0, none⟩) xs.length cap ∧ base ≤ g ∧ cap ≤ maxLen ∧ RowS 24 w g cap xs := by
  obtain ⟨h0, inner, ⟨hl, ho⟩, hr⟩ := h
  rcases ho with ⟨rfl, hn⟩ | ⟨g, cap, cur, rfl, hg, hh, hnc, hcm, hsz, hin⟩
  · exact .inl ⟨rfl, List.eq_nil_of_length_eq_zero hn⟩
  · refine .inr ⟨g, cap, rfl, hg, hcm, cur, hh, hsz, hnc, fun i c hi j v hj => ?_⟩
    have hk := hr.2 i c hi
    have he := k24_openM hk
    have hil := (List.getElem?_eq_some_iff.1 hi).1
    have hj5 : j < 3 := by have := (List.getElem?_eq_some_iff.1 hj).1; simpa [encS] using this
    have hsz5 : (k24 : Kd S24).sz = 3 := rfl
    rw [hsz5] at he hin
    have e1 : (List.take 3 (List.drop (i * 3) inner))[j]? = some v := by rw [he]; exact hj
    rw [List.getElem?_take_of_lt hj5, List.getElem?_drop, ← hin, List.getElem?_take_of_lt (by omega)] at e1
    simpa using e1
theorem RowS.to_R {w : World} {g cap : Nat} {L : List S24} (h : RowS 24 w g cap L) {base : Nat} (hb : base ≤ g) (hm : cap ≤ maxLen) : Kd.R k24 24 w base (fun _ => True) (.slice (some ⟨g, 0, none⟩) L.length cap) L := by
  obtain ⟨cur, hblk, h1, h2, h3⟩ := h
  refine ⟨fun _ _ => trivial, cur.toList.take (L.length * 3), ⟨?_, .inr ⟨g, cap, cur, rfl, hb, hblk, h2, hm, h1, rfl⟩⟩, ?_, fun j p hj => ?_⟩
  · have : (k24 : Kd S24).sz = 3 := rfl
    rw [this, List.length_take]; simp; omega
  · have : (k24 : Kd S24).sz = 3 := rfl
    rw [this, List.length_take]; simp; omega
  · have hsz5 : (k24 : Kd S24).sz = 3 := rfl
    rw [hsz5]
    have hjl := (List.getElem?_eq_some_iff.1 hj).1
    have e : List.take 3 (List.drop (j * 3) (List.take (L.length * 3) cur.toList)) = encS p := by
      apply List.ext_getElem?
      intro i
      by_cases hi : i < 3
      · rw [List.getElem?_take_of_lt hi, List.getElem?_drop, List.getElem?_take_of_lt (by omega)]
        obtain ⟨v, hv⟩ : ∃ v, (encS p)[i]? = some v := ⟨(encS p)[i]'(by simpa [encS] using hi), List.getElem?_eq_getElem _⟩
        rw [hv]
        simpa using h3 j p hj i v hv
      · rw [List.getElem?_eq_none (by simp; omega), List.getElem?_eq_none (by simp [encS]; omega)]
    rw [e]
    exact k24_mkM w base _ p
def flatS : List S24 → List Value
  | [] => []
  | c :: l => encS c ++ flatS l
theorem flatS_len : ∀ L : List S24, (flatS L).length = L.length * 3
  | [] => rfl
  | c :: l => by simp [flatS, encS, flatS_len l]; omega
theorem flatS_app : ∀ (L M : List S24), flatS (L ++ M) = flatS L ++ flatS M
  | [], M => rfl
  | c :: l, M => by simp [flatS, flatS_app l M]
theorem flatS_get : ∀ (L : List S24) (i j : Nat) (c : S24), L[i]? = some c → j < 3 → (flatS L)[i * 3 + j]? = (encS c)[j]?
  | [], i, j, c, h, _ => by simp at h
  | d :: l, 0, j, c, h, hj => by
    simp at h; subst h
    rw [flatS, Nat.zero_mul, Nat.zero_add, List.getElem?_append_left (by simpa [encS] using hj)]
  | d :: l, i + 1, j, c, h, hj => by
    have := flatS_get l i j c (by simpa using h) hj
    rw [flatS, List.getElem?_append_right (by simp [encS]; omega)]
    rw [← this]; congr 1; simp [encS]; omega
theorem flatS_one : ∀ (L : List S24), ∀ u ∈ flatS L, u.oneCell' = true
  | [], u, h => by cases h
  | c :: l, u, h => by
    rw [flatS] at h
    rcases List.mem_append.1 h with h | h
    · simp [encS] at h; rcases h with rfl | rfl | rfl <;> rfl
    · exact flatS_one l u h
theorem RowS.owns {t : TypeId} {w : World} {g cap : Nat} {L : List S24} (h : RowS t w g cap L) (hm : cap ≤ maxLen) : w.ownsRow 0 t 3 (.slice (some ⟨g, 0, none⟩) L.length cap) L.length (flatS L) := by
  obtain ⟨cur, hb, h1, h2, h3⟩ := h
  refine ⟨flatS_len L, .inr ⟨g, cap, cur, rfl, Nat.zero_le _, hb, h2, hm, h1, ?_⟩⟩
  apply List.ext_getElem?
  intro q
  by_cases hq : q < L.length * 3
  · rw [List.getElem?_take_of_lt hq]
    obtain ⟨c, hc⟩ : ∃ c, L[q / 3]? = some c := ⟨_, List.getElem?_eq_getElem (by omega)⟩
    have e : q = q / 3 * 3 + q % 3 := by omega
    have hf := flatS_get L (q / 3) (q % 3) c hc (by omega)
    rw [← e] at hf
    rw [hf]
    have hlt : q % 3 < (encS c).length := by simp [encS]; omega
    have := h3 (q / 3) c hc (q % 3) _ (List.getElem?_eq_getElem hlt)
    rw [← e] at this
    rw [List.getElem?_eq_getElem hlt]
    simpa using this
  · rw [List.getElem?_eq_none (by simp; omega), List.getElem?_eq_none (by rw [flatS_len]; omega)]
theorem RowS.of_owns {t : TypeId} {w : World} {g cap n : Nat} {L : List S24} (h : w.ownsRow 0 t 3 (.slice (some ⟨g, 0, none⟩) n cap) n (flatS L)) (hn : n = L.length) : RowS t w g cap L ∧ cap ≤ maxLen := by
  subst hn
  rcases h.2 with ⟨e, _⟩ | ⟨g', cap', cur, e, _, hb, hnc, hcm, hsz, htk⟩
  · cases e
  · injection e with e1 e2 e3
    injection e1 with e1
    injection e1 with e1
    subst e1 e3
    refine ⟨⟨cur, hb, hsz, hnc, fun i c hi j v hj => ?_⟩, hcm⟩
    have hj3 : j < 3 := by have := (List.getElem?_eq_some_iff.1 hj).1; simpa [encS] using this
    have hil := (List.getElem?_eq_some_iff.1 hi).1
    have hf := flatS_get L i j c hi hj3
    rw [← htk, List.getElem?_take_of_lt (by omega), hj] at hf
    simpa using hf
theorem Blk.c3 {w : World} {b : Nat} {x y z : Value} {t : TypeId} (h : Blk w b #[x, y, z] t) : w.cell? ⟨b, 0, none⟩ = some x ∧ w.cell? ⟨b, 1, none⟩ = some y ∧ w.cell? ⟨b, 2, none⟩ = some z ∧ w.frozen? ⟨b, 0, none⟩ = false ∧ w.frozen? ⟨b, 1, none⟩ = false ∧ w.frozen? ⟨b, 2, none⟩ = false :=
  ⟨h.cell 0, h.cell 1, h.cell 2, h.free 0, h.free 1, h.free 2⟩
theorem Blk.set3 {w : World} {b : Nat} {x y z : Value} {t : TypeId} (h : Blk w b #[x, y, z] t) (x' y' z' : Value) : Blk (((w.setCell ⟨b, 0, none⟩ x').setCell ⟨b, 1, none⟩ y').setCell ⟨b, 2, none⟩ z') b #[x', y', z'] t :=
  ((h.set rfl).set rfl).set rfl
theorem infoS : (Try.prog.info? 24).map (fun i => (i.zero, i.size, i.bytes)) = some (some (.agg #[.int .i64 0, .int .i64 0, .int .i64 0]), 3, 24) := by kernel_rfl
/-- A slice of the call's own (or nil): what it is, and that it reads as L. -/
def OwS (base : Nat) (w : World) (v : Value) (L : List S24) : Prop := w.ownsRow base 24 3 v L.length (flatS L)
theorem OwS.nil (base : Nat) (w : World) : OwS base w (.slice none 0 0) [] := ⟨rfl, .inl ⟨rfl, rfl⟩⟩
theorem OwS.fr {S : Nat → Prop} {base : Nat} {w w' : World} {v : Value} {L : List S24} (h : OwS base w v L) (k : Fr S w w') (hs : ∀ g, v.ownBlock = some g → ¬ S g) : OwS base w' v L := own_fr0 h k hs
theorem OwS.form {base : Nat} {w : World} {v : Value} {L : List S24} (h : OwS base w v L) :
    (v = .slice none 0 0 ∧ L = []) ∨ ∃ g cap, v = .slice (some ⟨g, 0, none⟩) L.length cap ∧ base ≤ g ∧ cap ≤ maxLen ∧ RowS 24 w g cap L := by
  rcases h.2 with ⟨rfl, e⟩ | ⟨g, cap, cur, rfl, hg, hb, hc, hm, hs, ht⟩
  · exact .inl ⟨rfl, List.eq_nil_of_length_eq_zero e⟩
  · exact .inr ⟨g, cap, rfl, hg, hm, (RowS.of_owns (n := L.length) ⟨h.1, .inr ⟨g, cap, cur, rfl, Nat.zero_le _, hb, hc, hm, hs, ht⟩⟩ rfl).1⟩
theorem OwS.C {base : Nat} {w : World} {v : Value} {L : List S24} (h : OwS base w v L) : ∃ A cap, v = .slice A L.length cap ∧ L.length ≤ cap ∧ Kd.C k24 w A L.length L := by
  rcases h.form with ⟨rfl, rfl⟩ | ⟨g, cap, rfl, _, hm, hr⟩
  · exact ⟨none, 0, rfl, Nat.le_refl _, ⟨rfl, by simp, fun h => absurd h (by simp)⟩⟩
  · exact ⟨_, cap, rfl, hr.len, hr.toC hm⟩
theorem OwS.R {base : Nat} {w : World} {v : Value} {L : List S24} (h : OwS base w v L) : Kd.R k24 24 w base (fun _ => True) v L := by
  rcases h.form with ⟨rfl, rfl⟩ | ⟨g, cap, rfl, hg, hm, hr⟩
  · exact Kd.R_nil _ _ _ _ _
  · exact hr.to_R hg hm
section
variable {ops : Array Oper} {rest : List Oper} {o : Oper} {a : Act} {Q : Exit → Act → World → Prop} {w : World}
/-- append(v, x...) of spans, v a row of the call's own; x not empty. -/
theorem wpList_append_sp (hgd : o.guard = none) (s x : Operand)
    (ho : o.op = .call { callee := .builtin .append, args := #[s, x], argTypes := #[63, 63] }) (base : Nat) (v : Value) (L M : List S24) (b off m cap : Nat)
    (hs : a.eval s = v) (hx : a.eval x = .slice (some ⟨b, off, none⟩) m cap) (hown : OwS base w v L) (hk : ∀ i k, M[i]? = some k → AtS w b (off + i * 3) k) (hm : m = M.length) (h0 : 0 < M.length) (hl : L.length + M.length ≤ 1048576) (hbase : base ≤ w.heap.size)
    (h : ∀ v' w', OwS base w' v' (L ++ M) → w.grownBy w' v.ownBlock → (v'.ownBlock = v.ownBlock ∨ v'.ownBlock = some w.heap.size) → wpList Try.prog ops Q rest (a.put o.dst v') w') :
    wpList Try.prog ops Q (o :: rest) a w := by
  subst hm
  obtain ⟨i0, hi, hzz⟩ := Option.map_eq_some_iff.1 infoS
  simp only [Prod.mk.injEq] at hzz
  obtain ⟨hz0, hz1, hz2⟩ := hzz
  have hadd : ∀ k, (⟨b, off, none⟩ : Addr).add k = ⟨b, off + k, none⟩ := by intro k; unfold Addr.add; split <;> simp_all
  refine wpList_append_own_at (P := Try.prog) (w := w) hgd s x 63 ho base 24 i0 _ 3 24 Try.underlying63 hi hz0 hz1 hz2 rfl (by decide) v L.length (flatS L) hs hown ⟨b, off, none⟩ M.length cap (flatS M) hx (flatS_len M) ?_ (flatS_one M) (by unfold maxLen; omega) (by omega) hbase ?_
  · intro j u hj
    rw [hadd]
    have hjl : j < M.length * 3 := by have := (List.getElem?_eq_some_iff.1 hj).1; rwa [flatS_len] at this
    obtain ⟨c, hc⟩ : ∃ c, M[j / 3]? = some c := ⟨_, List.getElem?_eq_getElem (by omega)⟩
    have e : j = j / 3 * 3 + j % 3 := by omega
    have hf := flatS_get M (j / 3) (j % 3) c hc (by omega)
    rw [← e, hj] at hf
    obtain ⟨a0, a1, a2⟩ := hk _ c hc
    have hr : j % 3 = 0 ∨ j % 3 = 1 ∨ j % 3 = 2 := by omega
    rw [show off + j = off + j / 3 * 3 + j % 3 by omega]
    rcases hr with r | r | r <;> rw [r] at hf ⊢ <;> simp [encS] at hf <;> subst hf <;> assumption
  · intro v' w' h2 h3 _ h5
    exact h v' w' (by unfold OwS; rw [List.length_append, flatS_app]; exact h2) h3 h5
end
end Go.Proofs.Ytapagoaoglmegaa
