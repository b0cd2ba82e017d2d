/- ClusterSpreads: the law's walk for its row. -/
import Derived.Test.YtapagoaoglmegaaClNear
import Derived.Test.YtapagoaoglmegaaClSpreads
namespace Go.Proofs.Ytapagoaoglmegaa
open Go.RowKit Go.Proofs.YtapagoaoglmegaaW.PrintWords PCl
theorem clusterSpreads_walk (A : Option Addr) (len cap : Nat) (w : World) (h : RdS [.i .u32, .i .u16, .i .u16] w A len cap) :
    Calls Try.prog 5 #[.slice A len cap] w fun e w' => e = .returned (.bool true) ∧ Fr (fun _ => False) w w' := by
  obtain ⟨l, rfl, hc, hC, hN⟩ := near_open h
  exact (ephemerislaw23_ClusterSpreads.calls 400 A cap l true w hC hc (clusterSpreads_f hN hC.2.1)).mono fun _ _ q => ⟨q.1, Fr.of_below q.2 (Nat.le_refl _) _⟩
end Go.Proofs.Ytapagoaoglmegaa
