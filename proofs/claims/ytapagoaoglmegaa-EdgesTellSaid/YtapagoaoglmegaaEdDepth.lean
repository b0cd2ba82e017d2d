/- edges.Depth; ends among spans. -/
import Derived.Test.YtapagoaoglmegaaEdWithin
import Derived.Test.YtapagoaoglmegaaPClx44
namespace Go.Proofs.Ytapagoaoglmegaa
open Go.RowKit Go.Proofs.YtapagoaoglmegaaW.PrintWords Go.Proofs.YtapagoaoglmegaaW.PrintLast Go.Proofs.YtapagoaoglmegaaW.PrintMore PCl
set_option linter.unusedVariables false
set_option linter.unusedSimpArgs false
set_option maxRecDepth 100000
theorem w64 {x : Int} (h1 : -1000 ≤ x) (h2 : x ≤ 1000) : wrap64 x = x := IntWalk.wrap64_in x ⟨by omega, by omega⟩
theorem drop_countP {α : Type} (p : α → Bool) {L : List α} {i : Nat} {s : α} (h : L[i]? = some s) : (L.drop i).countP p = (L.drop (i + 1)).countP p + if p s = true then 1 else 0 := by
  obtain ⟨hl, rfl⟩ := List.getElem?_eq_some_iff.1 h
  rw [List.drop_eq_getElem_cons hl, List.countP_cons]
theorem depth_l {L : List S24} (hL : L.length ≤ 100) (p : Int) : ∀ (d i c : Nat), i + d = L.length → c ≤ i → edges_Depth.l0 (d + 1) p (c : Int) L (L.length : Int) (i : Int) = some ((c + (L.drop i).countP (fun s => decide (s.f1 ≤ p) && decide (p ≤ s.f2)) : Nat) : Int)
  | 0, i, c, h, hc => by
    show (if (i : Int) < (L.length : Int) then _ else _) = _
    rw [if_neg (by omega), List.drop_eq_nil_of_le (by omega)]; rfl
  | d + 1, i, c, h, hc => by
    obtain ⟨s, hs⟩ : ∃ s, L[i]? = some s := ⟨_, List.getElem?_eq_getElem (by omega)⟩
    show (if (i : Int) < (L.length : Int) then _ else _) = _
    rw [if_pos (by omega), if_pos (by omega), if_pos (by omega), rdE hs, drop_countP _ hs, w64 (x := (i : Int) + 1) (by omega) (by omega), w64 (x := (c : Int) + 1) (by omega) (by omega)]
    have e1 : ((i : Int) + 1) = ((i + 1 : Nat) : Int) := by omega
    have e2 : ((c : Int) + 1) = ((c + 1 : Nat) : Int) := by omega
    rw [e1, e2]
    by_cases h1 : s.f1 ≤ p
    · rw [if_pos h1]
      by_cases h2 : p ≤ s.f2
      · rw [if_pos h2, depth_l hL p d (i + 1) (c + 1) (by omega) (by omega)]
        simp [h1, h2]; omega
      · rw [if_neg h2, depth_l hL p d (i + 1) c (by omega) (by omega)]
        simp [h1, h2]
    · rw [if_neg h1, depth_l hL p d (i + 1) c (by omega) (by omega)]
      simp [h1]
theorem depth_f {L : List S24} (hL : L.length ≤ 100) (p : Int) : edges_Depth.f (L.length + 1) L p = some (depE L p : Int) := by
  have := depth_l hL p L.length 0 0 (by omega) (by omega)
  unfold edges_Depth.f depE
  simpa using this
theorem depth_at {w : World} {A : Option Addr} {cap : Nat} {L : List S24} (hC : Kd.C k24 w A L.length L) (hc : L.length ≤ cap) (hL : L.length ≤ 100) (p : Int) :
    Calls Try.prog 40 #[.slice A L.length cap, .int .i64 p] w fun e w' => e = .returned (.int .i64 (depE L p : Nat)) ∧ Fr (fun _ => False) w w' :=
  (edges_Depth.calls (L.length + 1) A cap L p _ w hC hc (depth_f hL p)).mono fun _ _ q => ⟨q.1, Fr.of_below q.2 (Nat.le_refl _) _⟩
theorem dep_le (L : List S24) (p : Int) : depE L p ≤ L.length := List.countP_le_length
theorem okR_stretch {L : List S24} (h : okR L) {i : Nat} {s : S24} (hs : L[i]? = some s) {p : Int} (hp : 0 ≤ p ∧ p ≤ 4611686018427387903) : okR (L.set i ⟨s.f0, mn s.f1 p, mx s.f2 p⟩) := by
  have h1 := h s (List.mem_of_getElem? hs)
  have a := mn_le s.f1 p
  have b := mx_le s.f2 p
  exact okR_set h ⟨by simp only; omega, by simp only; omega, by simp only; omega⟩
theorem any_snoc {α : Type} (p : α → Bool) {L : List α} {i : Nat} {s : α} (h : L[i]? = some s) : (L.take (i + 1)).any p = ((L.take i).any p || p s) := by
  rw [List.take_add_one, h, List.any_append]
  simp
end Go.Proofs.Ytapagoaoglmegaa
