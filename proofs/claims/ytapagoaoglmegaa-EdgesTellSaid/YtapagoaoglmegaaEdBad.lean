/- Whether one of a row of spans may not be. -/
import Derived.Test.YtapagoaoglmegaaEdMem
namespace Go.Proofs.Ytapagoaoglmegaa
open Go.RowKit Go.Proofs.YtapagoaoglmegaaW.PrintWords Go.Proofs.YtapagoaoglmegaaW.PrintLast Go.Proofs.YtapagoaoglmegaaW.PrintMore PCl
set_option linter.unusedVariables false
set_option linter.unusedSimpArgs false
set_option maxRecDepth 100000
instance inhS : Inhabited S24 := ⟨z24⟩
theorem ix_none (A : Option Addr) (cap : Nat) (w : World) : Calls Try.prog 101 #[.slice A 0 cap, .func (.func 70) #[] #[]] w fun e w' => e = .returned (.int .i64 (-1)) ∧ Fr (fun _ => False) w w' := by
  go_enter Try.func101, Try.ntmps101
  go_wp2
  refine wp_loop_rounds 1 ?_
  rw [rounds_succ]
  go_wp2
  go_ret
  exact ⟨rfl, by (repeat' (first | (with_reducible exact Fr.refl _ _) | (with_reducible assumption) | (with_reducible refine Fr.alloc ?_ _) | (with_reducible refine Fr.drew ?_) | (with_reducible refine Fr.drewN ?_ _) | (with_reducible refine Fr.setCell ?_ _ _ ?_) | (exact Or.inr rfl) | (left; simp; done) | (left; simp; omega) | (simp; done) | (simp; omega) | omega))⟩
theorem bad_none (A : Option Addr) (cap : Nat) (w : World) : Calls Try.prog 69 #[.slice A 0 cap, .func (.func 70) #[] #[]] w fun e w' => e = .returned (.bool false) ∧ Fr (fun _ => False) w w' := by
  go_enter Try.func69, Try.ntmps69
  go_wp2_with fail
  refine (ix_none A cap _).mono ?_
  rintro e w1 ⟨rfl, k1⟩
  go_wp2
  go_ret
  exact ⟨rfl, k1⟩
theorem bad_any {w : World} {A : Option Addr} {cap : Nat} {L : List S24} (hC : Kd.C k24 w A L.length L) (hc : L.length ≤ cap) :
    Calls Try.prog 69 #[.slice A L.length cap, .func (.func 70) #[] #[]] w fun e w' => e = .returned (.bool (L.any fun s => !mayE s)) ∧ Fr (fun _ => False) w w' := by
  by_cases hn : 0 < L.length
  · obtain ⟨r, off, rfl, hr, hat⟩ := C24_open hC hn
    have hp : Go.Proofs.PredBelow Try.prog 70 #[] (fun s => .agg (encS s).toArray) (fun s => !mayE s) w := fun W s hb => (bad_at s W).mono fun e w' h => ⟨h.1, hb.trans (h.2.below.mono hb.size)⟩
    have hcell : ∀ j, j < L.length → ∀ i v, (encS L[j]!)[i]? = some v → w.cell? ⟨r, off + j * 3 + i, none⟩ = some v := fun j hj i v hv => by
      have h1 : L[j]? = some L[j]! := by rw [getElem!_pos _ j hj]; exact List.getElem?_eq_getElem hj
      obtain ⟨a0, a1, a2⟩ := hat j _ h1
      match i, hv with
      | 0, hv => have hv := Option.some.inj hv; subst hv; exact a0
      | 1, hv => have hv := Option.some.inj hv; subst hv; exact a1
      | 2, hv => have hv := Option.some.inj hv; subst hv; exact a2
      | i + 3, hv => simp [encS] at hv
    have := AnyQ.slices_ContainsFunc Ytapagoaoglmegaa.ctf 3 Try.isAgg24 Try.sizeOf24 encS (fun _ => rfl) (fun s => !mayE s) 70 #[] (enters_of Try.func70 (by kernel_rfl) rfl) r off L.length cap L w hp (Nat.le_refl _) (C24_len hC) hr hcell
    rw [List.take_length] at this
    exact this.mono fun e w' h => ⟨h.1, Fr.of_below h.2 (Nat.le_refl _) _⟩
  · have h0 : L = [] := List.eq_nil_of_length_eq_zero (by omega)
    subst h0
    exact bad_none A cap w
end Go.Proofs.Ytapagoaoglmegaa
