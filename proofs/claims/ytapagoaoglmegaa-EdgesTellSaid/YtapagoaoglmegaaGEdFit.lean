/- fit, as the printed texts name it. -/
import Derived.Test.YtapagoaoglmegaaEdFit
import Derived.Test.YtapagoaoglmegaaEdHull
namespace Go.Proofs.Ytapagoaoglmegaa
open Go.RowKit Go.Proofs.YtapagoaoglmegaaW.PrintWords Go.Proofs.YtapagoaoglmegaaW.PrintLast Go.Proofs.YtapagoaoglmegaaW.PrintMore PCl
namespace PCl
def edges_Hull.f (l0 : List S24) : Option (Int × Int × Int) := some (hullZ l0)
theorem edges_Hull.calls (A0 : Option Addr) (c0 : Nat) (l0 : List S24) (r1 r2 r3 : Int) (w : World) (hr0 : Kd.C k24 w A0 l0.length l0) (hc0 : l0.length ≤ c0) (h : edges_Hull.f l0 = some (r1, r2, r3)) :
    Calls Try.prog 39 #[.slice A0 l0.length c0] w fun e w' => e = .returned (.tuple #[.int .i64 r1, .int .i64 r2, .int .i64 r3]) ∧ Below w.heap.size w w' := by
  have h := Option.some.inj h
  have := hull_at hr0 hc0
  rw [h] at this
  exact this.mono fun _ _ q => ⟨q.1, q.2.below⟩
def ephemerislaw22_fit.f (l0 : List S24) : Option (List S24) := some (fitZ l0)
theorem ephemerislaw22_fit.calls (A0 : Option Addr) (c0 : Nat) (l0 : List S24) (r : List S24) (w : World) (hr0 : Kd.C k24 w A0 l0.length l0) (hc0 : l0.length ≤ c0) (h : ephemerislaw22_fit.f l0 = some r) :
    Calls Try.prog 37 #[.slice A0 l0.length c0] w fun e w' => ∃ v0_ : Value, e = .returned v0_ ∧ Kd.R k24 24 w' w.heap.size (fun _ => True) v0_ r ∧ Below w.heap.size w w' := by
  obtain rfl := Option.some.inj h
  exact (fit_at hr0 hc0).mono fun _ _ ⟨v, h1, h2, h3⟩ => ⟨v, h1, h2.R, h3.below⟩
end PCl
end Go.Proofs.Ytapagoaoglmegaa
