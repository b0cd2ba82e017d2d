/- A row of candidates of the call's own. -/
import Derived.Test.YtapagoaoglmegaaClMem
namespace Go.Proofs.Ytapagoaoglmegaa
open Go.RowKit Go.Proofs.YtapagoaoglmegaaW.PrintWords Go.Proofs.YtapagoaoglmegaaW.PrintLast Go.Proofs.YtapagoaoglmegaaW.PrintMore PCl
set_option linter.unusedVariables false
set_option linter.unusedSimpArgs false

/-- Block g is a row of room for cap candidates, of which the first are L. -/
def Row (w : World) (g cap : Nat) (L : List S27) : Prop :=
  ∃ cur : Array Value, Blk w g cur 27 ∧ cur.size = cap * 5 ∧ L.length ≤ cap ∧ ∀ i c, L[i]? = some c → ∀ j v, (encC c)[j]? = some v → cur[i * 5 + j]? = some v
section
variable {w w' : World} {g cap : Nat} {L : List S27}
theorem Row.lt (h : Row w g cap L) : g < w.heap.size := by obtain ⟨cur, hb, _⟩ := h; exact hb.lt
theorem Row.len (h : Row w g cap L) : L.length ≤ cap := by obtain ⟨cur, _, _, h, _⟩ := h; exact h
theorem Row.fr {S : Nat → Prop} (h : Row w g cap L) (k : Fr S w w') (hs : ¬ S g) : Row w' g cap L := by
  obtain ⟨cur, hb, h1, h2, h3⟩ := h
  exact ⟨cur, hb.fr k hs, h1, h2, h3⟩
theorem Row.drew (h : Row w g cap L) : Row w.drew g cap L := h
theorem Row.at5 (h : Row w g cap L) {i : Nat} {c : S27} (hi : L[i]? = some c) : At5 w g (i * 5) c := by
  obtain ⟨cur, hb, h1, h2, h3⟩ := h
  have k := h3 i c hi
  exact ⟨(hb.cell _).trans (k 0 _ rfl), (hb.cell _).trans (k 1 _ rfl), (hb.cell _).trans (k 2 _ rfl), (hb.cell _).trans (k 3 _ rfl), (hb.cell _).trans (k 4 _ rfl)⟩
theorem Row.there (h : Row w g cap L) {o : Nat} (ho : o < cap * 5) : ∃ v, w.cell? ⟨g, o, none⟩ = some v ∧ w.frozen? ⟨g, o, none⟩ = false := by
  obtain ⟨cur, hb, h1, h2, h3⟩ := h
  exact ⟨cur[o]'(by omega), by rw [hb.cell, Array.getElem?_eq_getElem (by omega)], hb.free o⟩
theorem Row.take (h : Row w g cap L) (n : Nat) : Row w g cap (L.take n) := by
  obtain ⟨cur, hb, h1, h2, h3⟩ := h
  refine ⟨cur, hb, h1, by simp; omega, fun i c hi => h3 i c ?_⟩
  rw [List.getElem?_take] at hi
  split at hi
  · exact hi
  · cases hi
theorem enc_len (c : S27) : (encC c).length = 5 := rfl
/-- A candidate is laid in a place. -/
theorem Row.set5 (h : Row w g cap L) {i : Nat} (hi : i < L.length) (c : S27) :
    Row (((((w.setCell ⟨g, i * 5, none⟩ (.int .i64 c.f0)).setCell ⟨g, i * 5 + 1, none⟩ (.int .i64 c.f1.f0)).setCell ⟨g, i * 5 + 2, none⟩ (.int .i64 c.f1.f1)).setCell ⟨g, i * 5 + 3, none⟩ (.int .i64 c.f1.f2)).setCell ⟨g, i * 5 + 4, none⟩ (.int .i64 c.f2)) g cap (L.set i c) := by
  obtain ⟨cur, hb, h1, h2, h3⟩ := h
  refine ⟨_, (((((hb.set rfl).set rfl).set rfl).set rfl).set rfl), by simpa using h1, by simpa using h2, fun m d hm j v hj => ?_⟩
  have hlt : i * 5 + 4 < cur.size := by omega
  have hj5 : j < 5 := by have := (List.getElem?_eq_some_iff.1 hj).1; simpa [encC] using this
  rw [List.getElem?_set] at hm
  by_cases e : i = m
  · subst e
    rw [if_pos rfl, if_pos hi] at hm
    obtain rfl := Option.some.inj hm
    simp only [Array.getElem?_setIfInBounds, Array.size_setIfInBounds]
    match j, hj5, hj with
    | 0, _, hj => simp [encC] at hj ⊢; exact ⟨by omega, hj⟩
    | 1, _, hj => simp [encC] at hj ⊢; exact ⟨by omega, hj⟩
    | 2, _, hj => simp [encC] at hj ⊢; exact ⟨by omega, hj⟩
    | 3, _, hj => simp [encC] at hj ⊢; exact ⟨by omega, hj⟩
    | 4, _, hj => simp [encC] at hj ⊢; exact ⟨by omega, hj⟩
  · rw [if_neg e] at hm
    have := h3 m d hm j v hj
    have ne : ∀ q, q < 5 → i * 5 + q ≠ m * 5 + j := by intro q hq; omega
    have n0 : i * 5 ≠ m * 5 + j := by omega
    simp only [Array.getElem?_setIfInBounds]
    rw [if_neg (ne 4 (by omega)), if_neg (ne 3 (by omega)), if_neg (ne 2 (by omega)), if_neg (ne 1 (by omega)), if_neg n0]
    exact this
theorem Row.toC (h : Row w g cap L) (hm : cap ≤ maxLen) : Kd.C k27 w (some ⟨g, 0, none⟩) L.length L := by
  refine ⟨rfl, by have := h.len; unfold maxLen at hm; omega, fun _ => ⟨_, rfl, fun j p hj => ⟨encC p, rfl, k27_mk w p, fun i u hi => ?_⟩⟩⟩
  obtain ⟨cur, hb, h1, h2, h3⟩ := h
  rw [add_none, Nat.zero_add]
  exact (hb.cell _).trans (h3 j p hj i u hi)
/-- A slice of the call's own, as the print tells it. -/
theorem Row.of_R {base : Nat} {ok : Nat → Prop} {v : Value} {xs : List S27} (h : Kd.R k27 27 w base ok v xs) :
    (v = .slice none 0 0 ∧ xs = []) ∨ ∃ g cap, v = .slice (some ⟨g, 0, none⟩) xs.length cap ∧ base ≤ g ∧ cap ≤ maxLen ∧ Row w g cap xs := by
  obtain ⟨h0, inner, ⟨hl, ho⟩, hr⟩ := h
  rcases ho with ⟨rfl, hn⟩ | ⟨g, cap, cur, rfl, hg, hh, hnc, hcm, hsz, hin⟩
  · exact .inl ⟨rfl, List.eq_nil_of_length_eq_zero hn⟩
  · refine .inr ⟨g, cap, rfl, hg, hcm, cur, hh, hsz, hnc, fun i c hi j v hj => ?_⟩
    have hk := hr.2 i c hi
    have he := k27_openM hk
    have hil := (List.getElem?_eq_some_iff.1 hi).1
    have hj5 : j < 5 := by have := (List.getElem?_eq_some_iff.1 hj).1; simpa [encC] using this
    have hsz5 : (k27 : Kd S27).sz = 5 := rfl
    rw [hsz5] at he hin
    have e1 : (List.take 5 (List.drop (i * 5) inner))[j]? = some v := by rw [he]; exact hj
    rw [List.getElem?_take_of_lt hj5, List.getElem?_drop, ← hin, List.getElem?_take_of_lt (by omega)] at e1
    simpa using e1
theorem Row.to_R (h : Row w g cap L) {base : Nat} (hb : base ≤ g) (hm : cap ≤ maxLen) : Kd.R k27 27 w base (fun _ => True) (.slice (some ⟨g, 0, none⟩) L.length cap) L := by
  obtain ⟨cur, hblk, h1, h2, h3⟩ := h
  refine ⟨fun _ _ => trivial, cur.toList.take (L.length * 5), ⟨?_, .inr ⟨g, cap, cur, rfl, hb, hblk, h2, hm, h1, rfl⟩⟩, ?_, fun j p hj => ?_⟩
  · have : (k27 : Kd S27).sz = 5 := rfl
    rw [this, List.length_take]; simp; omega
  · have : (k27 : Kd S27).sz = 5 := rfl
    rw [this, List.length_take]; simp; omega
  · have hsz5 : (k27 : Kd S27).sz = 5 := rfl
    rw [hsz5]
    have hjl := (List.getElem?_eq_some_iff.1 hj).1
    have e : List.take 5 (List.drop (j * 5) (List.take (L.length * 5) cur.toList)) = encC p := by
      apply List.ext_getElem?
      intro i
      by_cases hi : i < 5
      · rw [List.getElem?_take_of_lt hi, List.getElem?_drop, List.getElem?_take_of_lt (by omega)]
        obtain ⟨v, hv⟩ : ∃ v, (encC p)[i]? = some v := ⟨(encC p)[i]'(by simpa [encC] using hi), List.getElem?_eq_getElem _⟩
        rw [hv]
        simpa using h3 j p hj i v hv
      · rw [List.getElem?_eq_none (by simp; omega), List.getElem?_eq_none (by simp [encC]; omega)]
    rw [e]
    exact k27_mkM w base _ p
end
end Go.Proofs.Ytapagoaoglmegaa
