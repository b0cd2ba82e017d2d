/- What is handed in to the laws of a field: as a list. -/
import Derived.Test.YtapagoaoglmegaaOpen
import Derived.Test.YtapagoaoglmegaaClField
import Derived.Test.YtapagoaoglmegaaClMem
namespace Go.Proofs.Ytapagoaoglmegaa
open Go.RowKit Go.Proofs.YtapagoaoglmegaaW.PrintWords Go.Proofs.YtapagoaoglmegaaW.PrintLast Go.Proofs.YtapagoaoglmegaaW.PrintMore PCl
set_option linter.unusedVariables false

theorem near_open {w : World} {A : Option Addr} {len cap : Nat} (h : RdS [.i .u32, .i .u16, .i .u16] w A len cap) :
    ∃ l : List S102, l.length = len ∧ len ≤ cap ∧ Kd.C k102 w A l.length l ∧ ∀ n ∈ l, NearOk n := by
  have hle := RdS.len_le h
  rcases h with ⟨rfl, hc, _⟩ | ⟨b, off, rfl, hlc, hcm, hb, R, hR⟩
  · exact ⟨[], rfl, hc, ⟨rfl, by simp, fun h => absurd h (by simp)⟩, fun n hn => by cases hn⟩
  · have hN : ∀ i, ∃ n : S102, i < len → R i = [.int .u32 n.f0, .int .u16 n.f1, .int .u16 n.f2] ∧ NearOk n := by
      intro i
      by_cases hi : i < len
      · obtain ⟨ho, _⟩ := hR i hi
        obtain ⟨v0, r0, e0, h0, ho⟩ := okAll.cons ho
        obtain ⟨v1, r1, e1, h1, ho⟩ := okAll.cons ho
        obtain ⟨v2, r2, e2, h2, ho⟩ := okAll.cons ho
        have e3 := okAll.none ho
        obtain ⟨a, rfl, ha⟩ := h0
        obtain ⟨c, rfl, hc⟩ := h1
        obtain ⟨d, rfl, hd⟩ := h2
        refine ⟨⟨a, c, d⟩, fun _ => ⟨by rw [e0, e1, e2, e3], ?_⟩⟩
        have q0 : (0 : Int) ≤ a ∧ a ≤ 4294967295 := by have := ha; simp [Lit.wf] at this; exact this
        have q1 : (0 : Int) ≤ c ∧ c ≤ 65535 := by have := hc; simp [Lit.wf] at this; exact this
        have q2 : (0 : Int) ≤ d ∧ d ≤ 65535 := by have := hd; simp [Lit.wf] at this; exact this
        unfold NearOk; simp only; omega
      · exact ⟨z102, fun h => absurd h hi⟩
    obtain ⟨N, hN⟩ := Classical.axiomOfChoice hN
    have hg : ∀ j p, ((List.range len).map N)[j]? = some p → j < len ∧ p = N j := by
      intro j p hj
      have hjl := (List.getElem?_eq_some_iff.1 hj).1
      simp at hjl
      rw [List.getElem?_map, List.getElem?_range hjl] at hj
      exact ⟨hjl, by simpa using hj.symm⟩
    refine ⟨(List.range len).map N, by simp, hlc, ⟨rfl, by simpa using hle, fun _ => ⟨_, rfl, fun j p hj => ?_⟩⟩, fun n hn => ?_⟩
    · obtain ⟨hjl, rfl⟩ := hg j p hj
      obtain ⟨hr, _⟩ := hN j hjl
      refine ⟨_, rfl, k102_mk w (N j), fun i u hi => ?_⟩
      have := (hR j hjl).2 i u (by rw [hr]; exact hi)
      rw [add_none, show off + (j * (k102 : Kd S102).sz + i) = off + j * 3 + i from (by show off + (j * 3 + i) = _; omega)]
      exact this
    · obtain ⟨j, hj⟩ := List.mem_iff_getElem?.1 hn
      obtain ⟨hjl, rfl⟩ := hg j n hj
      exact (hN j hjl).2
end Go.Proofs.Ytapagoaoglmegaa
