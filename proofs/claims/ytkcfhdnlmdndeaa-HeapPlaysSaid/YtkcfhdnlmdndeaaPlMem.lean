/- The heap and the document's heap side by side. -/
import Derived.Test.YtkcfhdnlmdndeaaRfSame
import Derived.Test.YtkcfhdnlmdndeaaHpAwake
namespace Go.Proofs.Ytkcfhdnlmdndeaa
open Go.RowKit Go.Proofs.YtkcfhdnlmdndeaaW.PrintWords Go.Proofs.YtkcfhdnlmdndeaaW.PrintLast Go.Proofs.YtkcfhdnlmdndeaaW.PrintMore PHp
set_option linter.unusedVariables false
structure PS (n0 : Nat) (w : World) (b m : Nat) (v : Value) (L : List It) (g : Nat) (u : Value) (M : List It) (size : Int) : Prop where
  hp : HP w b m v L size
  rh : RH w g u M size
  zh : Fz n0 b m v
  zr : ∀ i, Rt g u i → n0 ≤ i
  dj : ∀ i, Ft b m v i → ¬ Rt g u i
section
variable {n0 : Nat} {w w' : World} {b m g : Nat} {v u : Value} {L M L' M' : List It} {size : Int}
theorem PS.fr {S : Nat → Prop} (h : PS n0 w b m v L g u M size) (k : Fr S w w') (h1 : ∀ i, Ft b m v i → ¬ S i) (h2 : ∀ i, Rt g u i → ¬ S i) : PS n0 w' b m v L g u M size :=
  ⟨h.hp.fr k h1, h.rh.fr k h2, h.zh, h.zr, h.dj⟩
theorem PS.fr0 (h : PS n0 w b m v L g u M size) (k : Fr (fun _ => False) w w') : PS n0 w' b m v L g u M size := h.fr k (fun _ _ h => h) (fun _ _ h => h)
theorem PS.heap {v' : Value} (h : PS n0 w b m v L g u M size) (hn : n0 ≤ w.heap.size) (h' : HP w' b m v' L' size) (hv : ∀ i, v'.ownBlock = some i → v.ownBlock = some i ∨ w.heap.size ≤ i) (k : Fr (Ft b m v) w w') : PS n0 w' b m v' L' g u M size :=
  ⟨h', h.rh.fr k (fun i hi hj => h.dj i hj hi), h.zh.next hv hn, h.zr, fun i hi hj => by
    rcases hi with e | e | e
    · exact h.dj i (.inl e) hj
    · exact h.dj i (.inr (.inl e)) hj
    · rcases hv i e with e | e
      · exact h.dj i (.inr (.inr e)) hj
      · have := h.rh.lt i hj; omega⟩
theorem PS.ref {u' : Value} (h : PS n0 w b m v L g u M size) (hn : n0 ≤ w.heap.size) (h' : RH w' g u' M' size) (hv : ∀ i, u'.ownBlock = some i → u.ownBlock = some i ∨ w.heap.size ≤ i) (k : Fr (Rt g u) w w') : PS n0 w' b m v L g u' M' size :=
  ⟨h.hp.fr k h.dj, h', h.zh, fun i hi => by
    rcases hi with e | e
    · exact h.zr i (.inl e)
    · rcases hv i e with e | e
      · exact h.zr i (.inr e)
      · omega, fun i hi hj => by
    rcases hj with e | e
    · exact h.dj i hi (.inl e)
    · rcases hv i e with e | e
      · exact h.dj i hi (.inr e)
      · have := h.hp.lt i hi; omega⟩
/-- A heap that was left behind. -/
structure OH (n0 : Nat) (w : World) (b m : Nat) (v : Value) (L : List It) (size : Int) (T : Nat → Prop) : Prop where
  hp : HP w b m v L size
  z : Fz n0 b m v
  dj : ∀ i, Ft b m v i → ¬ T i
theorem PS.copy {c m' : Nat} {v' : Value} (h : PS n0 w b m v L g u M size) (hn : n0 ≤ w.heap.size) (h' : HP w' c m' v' L size) (hv : ∀ i, Ft c m' v' i → w.heap.size ≤ i) (k : Fr (fun _ => False) w w') :
    PS n0 w' c m' v' L g u M size ∧ OH n0 w' b m v L size (fun i => Ft c m' v' i ∨ Rt g u i) :=
  ⟨⟨h', h.rh.fr0 k, fun i hi => Nat.le_trans hn (hv i hi), h.zr, fun i hi hj => by have := hv i hi; have := h.rh.lt i hj; omega⟩,
   ⟨h.hp.fr0 k, h.zh, fun i hi hj => by
    rcases hj with e | e
    · have := hv i e; have := h.hp.lt i hi; omega
    · exact h.dj i hi e⟩⟩
theorem OH.fr0 {T : Nat → Prop} (h : OH n0 w b m v L size T) (k : Fr (fun _ => False) w w') : OH n0 w' b m v L size T := ⟨h.hp.fr0 k, h.z, h.dj⟩
theorem OH.next {T : Nat → Prop} {v' : Value} (h : OH n0 w b m v L size T) (hn : n0 ≤ w.heap.size) (hT : ∀ i, T i → i < w.heap.size) (h' : HP w' b m v' L' size) (hv : ∀ i, v'.ownBlock = some i → v.ownBlock = some i ∨ w.heap.size ≤ i) : OH n0 w' b m v' L' size T :=
  ⟨h', h.z.next hv hn, fun i hi hj => by
    rcases hi with e | e | e
    · exact h.dj i (.inl e) hj
    · exact h.dj i (.inr (.inl e)) hj
    · rcases hv i e with e | e
      · exact h.dj i (.inr (.inr e)) hj
      · have := hT i hj; omega⟩
theorem PS.old {c m' : Nat} {v' : Value} {K : List It} (h : PS n0 w b m v L g u M size) (o : OH n0 w c m' v' K size (fun i => Ft b m v i ∨ Rt g u i)) (k : Fr (Ft c m' v') w w') : PS n0 w' b m v L g u M size :=
  h.fr k (fun i hi hj => o.dj i hj (.inl hi)) (fun i hi hj => o.dj i hj (.inr hi))
theorem PS.lts (h : PS n0 w b m v L g u M size) : ∀ i, Ft b m v i ∨ Rt g u i → i < w.heap.size := fun i hi => hi.elim (h.hp.lt i) (h.rh.lt i)
end
end Go.Proofs.Ytkcfhdnlmdndeaa
