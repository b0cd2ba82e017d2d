/- A row as what the call owns: for append. -/
import Derived.Test.YtkcfhdnlmdndeaaHpSettle
import Derived.Deep.AppendLies
namespace Go.Proofs.Ytkcfhdnlmdndeaa
open Go.RowKit Go.Proofs.YtkcfhdnlmdndeaaW.PrintWords Go.Proofs.YtkcfhdnlmdndeaaW.PrintLast Go.Proofs.YtkcfhdnlmdndeaaW.PrintMore PHp
set_option linter.unusedVariables false
set_option linter.unusedSimpArgs false
set_option maxRecDepth 100000
def flat : List It → List Value
  | [] => []
  | c :: l => encI c ++ flat l
theorem flat_len : ∀ L : List It, (flat L).length = L.length * 3
  | [] => rfl
  | c :: l => by simp [flat, encI, flat_len l]; omega
theorem flat_app : ∀ (L M : List It), flat (L ++ M) = flat L ++ flat M
  | [], M => rfl
  | c :: l, M => by simp [flat, flat_app l M]
theorem flat_get : ∀ (L : List It) (i j : Nat) (c : It), L[i]? = some c → j < 3 → (flat L)[i * 3 + j]? = (encI c)[j]?
  | [], i, j, c, h, _ => by simp at h
  | d :: l, 0, j, c, h, hj => by
    simp at h; subst h
    rw [flat, Nat.zero_mul, Nat.zero_add, List.getElem?_append_left (by simpa [encI] using hj)]
  | d :: l, i + 1, j, c, h, hj => by
    have := flat_get l i j c (by simpa using h) hj
    rw [flat, List.getElem?_append_right (by simp [encI]; omega)]
    rw [← this]; congr 1; simp [encI]; omega
theorem flat_one : ∀ (L : List It), ∀ u ∈ flat L, u.oneCell' = true
  | [], u, h => by cases h
  | c :: l, u, h => by
    rw [flat] at h
    rcases List.mem_append.1 h with h | h
    · simp [encI] at h; rcases h with rfl | rfl | rfl <;> rfl
    · exact flat_one l u h
theorem Row.owns {t : TypeId} {w : World} {g cap : Nat} {L : List It} (h : Row t w g cap L) (hm : cap ≤ maxLen) : w.ownsRow 0 t 3 (.slice (some ⟨g, 0, none⟩) L.length cap) L.length (flat L) := by
  obtain ⟨cur, hb, h1, h2, h3⟩ := h
  refine ⟨flat_len L, .inr ⟨g, cap, cur, rfl, Nat.zero_le _, hb, h2, hm, h1, ?_⟩⟩
  apply List.ext_getElem?
  intro q
  by_cases hq : q < L.length * 3
  · rw [List.getElem?_take_of_lt hq]
    obtain ⟨c, hc⟩ : ∃ c, L[q / 3]? = some c := ⟨_, List.getElem?_eq_getElem (by omega)⟩
    have e : q = q / 3 * 3 + q % 3 := by omega
    have hf := flat_get L (q / 3) (q % 3) c hc (by omega)
    rw [← e] at hf
    rw [hf]
    have hlt : q % 3 < (encI c).length := by simp [encI]; omega
    have := h3 (q / 3) c hc (q % 3) _ (List.getElem?_eq_getElem hlt)
    rw [← e] at this
    rw [List.getElem?_eq_getElem hlt]
    simpa using this
  · rw [List.getElem?_eq_none (by simp; omega), List.getElem?_eq_none (by rw [flat_len]; omega)]
theorem Row.of_owns {t : TypeId} {w : World} {g cap n : Nat} {L : List It} (h : w.ownsRow 0 t 3 (.slice (some ⟨g, 0, none⟩) n cap) n (flat L)) (hn : n = L.length) : Row t w g cap L ∧ cap ≤ maxLen := by
  subst hn
  rcases h.2 with ⟨e, _⟩ | ⟨g', cap', cur, e, _, hb, hnc, hcm, hsz, htk⟩
  · cases e
  · injection e with e1 e2 e3
    injection e1 with e1
    injection e1 with e1
    subst e1 e3
    refine ⟨⟨cur, hb, hsz, hnc, fun i c hi j v hj => ?_⟩, hcm⟩
    have hj3 : j < 3 := by have := (List.getElem?_eq_some_iff.1 hj).1; simpa [encI] using this
    have hil := (List.getElem?_eq_some_iff.1 hi).1
    have hf := flat_get L i j c hi hj3
    rw [← htk, List.getElem?_take_of_lt (by omega), hj] at hf
    simpa using hf
theorem fr_grown {w w' : World} {o : Option Nat} (h : w.grownBy w' o) : Fr (fun i => o = some i) w w' :=
  ⟨h.os, h.tape, h.output, h.size, fun k hk hn => h.block k hk (fun e => hn e.symm)⟩
end Go.Proofs.Ytkcfhdnlmdndeaa
