/- What the laws on edges share: the chapter's rows; rows of the call's own; spans within a stretch. -/
import Derived.Test.YtapagoaoglmegaaGEdFit
import Derived.Test.YtapagoaoglmegaaPClx43
namespace Go.Proofs.Ytapagoaoglmegaa
open Go.RowKit Go.Proofs.YtapagoaoglmegaaW.PrintWords Go.Proofs.YtapagoaoglmegaaW.PrintLast Go.Proofs.YtapagoaoglmegaaW.PrintMore PCl
set_option linter.unusedVariables false
set_option linter.unusedSimpArgs false
set_option maxRecDepth 100000
theorem alive_f : ephemerislaw22_alive.f = some true := by kernel_rfl
theorem alive_at (W : World) : Calls Try.prog 38 #[] W fun e w' => e = .returned (.bool true) ∧ Fr (fun _ => False) W w' :=
  (ephemerislaw22_alive.calls true W alive_f).mono fun _ _ q => ⟨q.1, Fr.of_below q.2 (Nat.le_refl _) _⟩
/-- A slice of the call's own (or nil), as it lies. -/
def SlS (base : Nat) (w : World) (v : Value) (L : List S24) : Prop :=
  (v = .slice none 0 0 ∧ L = []) ∨ ∃ g cap, v = .slice (some ⟨g, 0, none⟩) L.length cap ∧ base ≤ g ∧ cap ≤ maxLen ∧ RowS 24 w g cap L
theorem SlS.fr {base : Nat} {w w' : World} {v : Value} {L : List S24} (h : SlS base w v L) (k : Fr (fun _ => False) w w') : SlS base w' v L := by
  rcases h with h | ⟨g, c, h1, h2, h3, h4⟩
  · exact .inl h
  · exact .inr ⟨g, c, h1, h2, h3, h4.fr k (fun h => h)⟩
theorem SlS.C {base : Nat} {w : World} {v : Value} {L : List S24} (h : SlS base w v L) : ∃ A cap, v = .slice A L.length cap ∧ L.length ≤ cap ∧ Kd.C k24 w A L.length L := by
  rcases h with ⟨rfl, rfl⟩ | ⟨g, cap, rfl, _, hm, hr⟩
  · exact ⟨none, 0, rfl, Nat.le_refl _, ⟨rfl, by simp, fun h => absurd h (by simp)⟩⟩
  · exact ⟨_, cap, rfl, hr.len, hr.toC hm⟩
theorem SlS.get {base : Nat} {w : World} {v : Value} {L : List S24} (h : SlS base w v L) {i : Nat} (hi : i < L.length) : ∃ g cap, v = .slice (some ⟨g, 0, none⟩) L.length cap ∧ base ≤ g ∧ cap ≤ maxLen ∧ RowS 24 w g cap L := by
  rcases h with ⟨_, rfl⟩ | h
  · simp at hi
  · exact h
theorem mx_if (a b : Int) : (if a < b then b else a) = mx a b := rfl
theorem mn_if (a b : Int) : (if b < a then b else a) = mn a b := rfl
theorem mx_le (a b : Int) : a ≤ mx a b ∧ b ≤ mx a b ∧ (mx a b = a ∨ mx a b = b) := by unfold mx; split <;> omega
theorem mn_le (a b : Int) : mn a b ≤ a ∧ mn a b ≤ b ∧ (mn a b = a ∨ mn a b = b) := by unfold mn; split <;> omega
/-- A span is laid in a place: its two ends. -/
theorem RowS.set2 {t : TypeId} {w : World} {g cap : Nat} {L : List S24} (h : RowS t w g cap L) {i : Nat} {s : S24} (hi : L[i]? = some s) (x y : Int) :
    RowS t ((w.setCell ⟨g, i * 3 + 1, none⟩ (.int .i64 x)).setCell ⟨g, i * 3 + 2, none⟩ (.int .i64 y)) g cap (L.set i ⟨s.f0, x, y⟩) := by
  obtain ⟨cur, hb, h1, h2, h3⟩ := h
  have hil := (List.getElem?_eq_some_iff.1 hi).1
  refine ⟨_, ((hb.set rfl).set rfl), by simpa using h1, by simpa using h2, fun m d hm j v hj => ?_⟩
  have hlt : i * 3 + 2 < cur.size := by omega
  have hj5 : j < 3 := by have := (List.getElem?_eq_some_iff.1 hj).1; simpa [encS] using this
  rw [List.getElem?_set] at hm
  by_cases e : i = m
  · subst e
    rw [if_pos rfl, if_pos hil] at hm
    obtain rfl := Option.some.inj hm
    simp only [Array.getElem?_setIfInBounds, Array.size_setIfInBounds]
    match j, hj5, hj with
    | 0, _, hj =>
      have := h3 i s hi 0 _ rfl
      simp [encS] at hj ⊢
      rw [← hj]; simpa using this
    | 1, _, hj => simp [encS] at hj ⊢; exact ⟨by omega, hj⟩
    | 2, _, hj => simp [encS] at hj ⊢; exact ⟨by omega, hj⟩
  · rw [if_neg e] at hm
    have := h3 m d hm j v hj
    have ne : ∀ q, q < 3 → i * 3 + q ≠ m * 3 + j := by intro q hq; omega
    simp only [Array.getElem?_setIfInBounds]
    rw [if_neg (ne 2 (by omega)), if_neg (ne 1 (by omega))]
    exact this
/-- Of two that each hold of many, one of all has both. -/
theorem both_ex {α : Type} (p q : α → Bool) : ∀ L : List α, L.length < L.countP p + L.countP q → ∃ s ∈ L, p s = true ∧ q s = true
  | [], h => by simp at h
  | a :: t, h => by
    rw [List.countP_cons, List.countP_cons, List.length_cons] at h
    by_cases c : p a = true ∧ q a = true
    · exact ⟨a, List.mem_cons_self, c⟩
    · have : (if p a = true then 1 else 0) + (if q a = true then 1 else 0) ≤ 1 := by
        by_cases h1 : p a = true <;> by_cases h2 : q a = true <;> simp [h1, h2] at c ⊢
      obtain ⟨s, hs, h3⟩ := both_ex p q t (by omega)
      exact ⟨s, List.mem_cons_of_mem _ hs, h3⟩
end Go.Proofs.Ytapagoaoglmegaa
