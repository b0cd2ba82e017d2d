/- Spans and bools that were handed in. -/
import Derived.Test.YtapagoaoglmegaaEdMem
import Derived.Test.YtapagoaoglmegaaOpen
namespace Go.Proofs.Ytapagoaoglmegaa
open Go.RowKit Go.Proofs.YtapagoaoglmegaaW.PrintWords Go.Proofs.YtapagoaoglmegaaW.PrintLast Go.Proofs.YtapagoaoglmegaaW.PrintMore PCl
set_option linter.unusedVariables false
set_option linter.unusedSimpArgs false
def SpWf (s : S24) : Prop := (Lit.int .i64 s.f0).wf = true ∧ (Lit.int .i64 s.f1).wf = true ∧ (Lit.int .i64 s.f2).wf = true
theorem span_open {w : World} {A : Option Addr} {len cap : Nat} (h : RdS [.i .i64, .i .i64, .i .i64] w A len cap) :
    ∃ l : List S24, l.length = len ∧ len ≤ cap ∧ Kd.C k24 w A l.length l ∧ ∀ s ∈ l, SpWf s := by
  have hle := RdS.len_le h
  rcases h with ⟨rfl, hc, _⟩ | ⟨b, off, rfl, hlc, hcm, hb, R, hR⟩
  · exact ⟨[], rfl, hc, ⟨rfl, by simp, fun h => absurd h (by simp)⟩, fun n hn => by cases hn⟩
  · have hN : ∀ i, ∃ n : S24, i < len → R i = [.int .i64 n.f0, .int .i64 n.f1, .int .i64 n.f2] ∧ SpWf n := by
      intro i
      by_cases hi : i < len
      · obtain ⟨ho, _⟩ := hR i hi
        obtain ⟨v0, r0, e0, h0, ho⟩ := okAll.cons ho
        obtain ⟨v1, r1, e1, h1, ho⟩ := okAll.cons ho
        obtain ⟨v2, r2, e2, h2, ho⟩ := okAll.cons ho
        have e3 := okAll.none ho
        obtain ⟨a, rfl, ha⟩ := h0
        obtain ⟨c, rfl, hc⟩ := h1
        obtain ⟨d, rfl, hd⟩ := h2
        exact ⟨⟨a, c, d⟩, fun _ => ⟨by rw [e0, e1, e2, e3], ha, hc, hd⟩⟩
      · exact ⟨z24, fun h => absurd h hi⟩
    obtain ⟨N, hN⟩ := Classical.axiomOfChoice hN
    have hg : ∀ (j : Nat) p, ((List.range len).map N)[j]? = some p → j < len ∧ p = N j := by
      intro j p hj
      have hjl := (List.getElem?_eq_some_iff.1 hj).1
      simp at hjl
      rw [List.getElem?_map, List.getElem?_range hjl] at hj
      exact ⟨hjl, by simpa using hj.symm⟩
    refine ⟨(List.range len).map N, by simp, hlc, ⟨rfl, by simpa using hle, fun _ => ⟨_, rfl, fun j p hj => ?_⟩⟩, fun n hn => ?_⟩
    · obtain ⟨hjl, rfl⟩ := hg j p hj
      obtain ⟨hr, _⟩ := hN j hjl
      refine ⟨_, rfl, k24_mk w (N j), fun i u hi => ?_⟩
      have := (hR j hjl).2 i u (by rw [hr]; exact hi)
      rw [addE, show off + (j * (k24 : Kd S24).sz + i) = off + j * 3 + i from (by show off + (j * 3 + i) = _; omega)]
      exact this
    · obtain ⟨j, hj⟩ := List.mem_iff_getElem?.1 hn
      obtain ⟨hjl, rfl⟩ := hg j n hj
      exact (hN j hjl).2
theorem bool_open {w : World} {A : Option Addr} {len cap : Nat} (h : RdS [.b] w A len cap) :
    ∃ l : List Bool, l.length = len ∧ len ≤ cap ∧ Kd.C Kd.bool w A l.length l := by
  have hle := RdS.len_le h
  rcases h with ⟨rfl, hc, _⟩ | ⟨b, off, rfl, hlc, hcm, hb, R, hR⟩
  · exact ⟨[], rfl, hc, ⟨rfl, by simp, fun h => absurd h (by simp)⟩⟩
  · have hN : ∀ i, ∃ n : Bool, i < len → R i = [.bool n] := by
      intro i
      by_cases hi : i < len
      · obtain ⟨ho, _⟩ := hR i hi
        obtain ⟨v0, r0, e0, h0, ho⟩ := okAll.cons ho
        have e3 := okAll.none ho
        obtain ⟨a, rfl⟩ := h0
        exact ⟨a, fun _ => by rw [e0, e3]⟩
      · exact ⟨true, fun h => absurd h hi⟩
    obtain ⟨N, hN⟩ := Classical.axiomOfChoice hN
    refine ⟨(List.range len).map N, by simp, hlc, ⟨rfl, by simpa using hle, fun _ => ⟨_, rfl, fun j p hj => ?_⟩⟩⟩
    have hjl := (List.getElem?_eq_some_iff.1 hj).1
    simp at hjl
    rw [List.getElem?_map, List.getElem?_range hjl] at hj
    have hp : N j = p := by simpa using hj
    subst hp
    refine ⟨[.bool (N j)], rfl, rfl, fun i u hi => ?_⟩
    have := (hR j hjl).2 i u (by rw [hN j hjl]; exact hi)
    rw [addE, show off + (j * (Kd.bool : Kd Bool).sz + i) = off + j * 1 + i from (by show off + (j * 1 + i) = _; omega)]
    exact this
end Go.Proofs.Ytapagoaoglmegaa
