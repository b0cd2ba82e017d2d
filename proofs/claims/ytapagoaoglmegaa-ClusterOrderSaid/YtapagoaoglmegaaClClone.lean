/- slices.Clone over candidates. -/
import Derived.Test.YtapagoaoglmegaaClDel
namespace Go.Proofs.Ytapagoaoglmegaa
open Go.RowKit Go.Proofs.YtapagoaoglmegaaW.PrintWords Go.Proofs.YtapagoaoglmegaaW.PrintLast Go.Proofs.YtapagoaoglmegaaW.PrintMore PCl
set_option linter.unusedVariables false
set_option linter.unusedSimpArgs false
set_option maxRecDepth 100000

theorem app27 {ops : Array Oper} {rest : List Oper} {o : Oper} {a : Act} {Q : Exit → Act → World → Prop} {w w1 : World} {v1 : Value} {ad : Addr} {cap : Nat} {l : List S27} (hgd : o.guard = none) (s x : Operand)
    (ho : o.op = .call { callee := .builtin .append, args := #[s, x], argTypes := #[22, 22] })
    (hs : a.eval s = v1) (hx : a.eval x = .slice (some ad) l.length cap) (ho1 : Kd.R k27 27 w1 w.heap.size (fun _ => True) v1 []) (hb1 : Below w.heap.size w w1) (hC : Kd.C k27 w (some ad) l.length l) (hl : l.length ≤ 1000000)
    (h : ∀ v2 w2, Kd.R k27 27 w2 w.heap.size (fun _ => True) v2 l → Below w.heap.size w w2 → wpList Try.prog ops Q rest (a.put o.dst v2) w2) : wpList Try.prog ops Q (o :: rest) a w1 := by
  refine Kd.R_append_rows k27 (Rr := k27.K w) (w0 := w) w.heap.size hgd s x 22 27 (.agg #[.int .i64 0, .int .i64 0, .int .i64 0, .int .i64 0, .int .i64 0]) 40 ho Try.underlying22 info27 rfl (by decide) (by omega) v1 [] l (some ad) l.length cap (fun _ => True) (fun _ => False) hs hx ho1 ?_ (fun _ _ h => (k27_open h) ▸ k27_mkM _ _ _ _) (fun _ h => h.elim) (fun _ _ => trivial) hb1 hb1.size (by simp; omega) ?_
  · exact Kd.C_below hC hb1
  · intro v2 w2 r b _ _
    exact h v2 w2 r b

set_option maxHeartbeats 8000000 in
theorem clone_at {w : World} {A : Option Addr} {cap : Nat} {l : List S27} (hC : Kd.C k27 w A l.length l) (hcap : l.length ≤ cap) (hs : l.length ≤ 1000000) :
    Calls Try.prog 15 #[.slice A l.length cap] w fun e w' => ∃ v0_ : Value, e = .returned v0_ ∧ Kd.R k27 27 w' w.heap.size (fun _ => True) v0_ l ∧ Below w.heap.size w w' := by
  have HC := hid hC
  have hnil := hC.2.2
  clear hC
  cases A with
  | none =>
    have h0 : l = [] := by
      rcases Nat.eq_zero_or_pos l.length with h | h
      · exact List.eq_nil_of_length_eq_zero h
      · obtain ⟨ad, e, _⟩ := hnil h; cases e
    subst h0
    have hq : ∀ c' : Nat, (binOp .eql 22 (.slice none 0 cap) (.slice none 0 c')).run Try.prog w = .ok (.bool true) w := fun c' => Lib.run_eql_slice_nil w _ _ none 0 cap 0 c' Try.underlying22
    clear hnil
    go_enter Try.func15, Try.ntmps15
    go_wp2_with (simp only [hq])
    go_ret
    exact ⟨_, rfl, Kd.R_nil _ _ _ _ _, Below.refl _ _⟩
  | some ad =>
    have hq : ∀ c' : Nat, (binOp .eql 22 (.slice (some ad) l.length cap) (.slice none 0 c')).run Try.prog w = .ok (.bool false) w := fun c' => Lib.run_eql_slice_nil w _ _ (some ad) l.length cap 0 c' Try.underlying22
    clear hnil
    have HB := hid (Below.refl w.heap.size w)
    go_enter Try.func15, Try.ntmps15
    go_wp2_with (first | (simp only [hq]) | ((with_reducible refine gate_dst (N := 5) rfl ?_); refine Kd.R_lit k27 w.heap.size 27 ?hg (N := 5) ?hd (xs := ([] : List S27)) (inner := []) (ok := fun _ => True) (okp := fun _ => True) ?hr ?hp (fun _ hk => hk) trivial HB.out (Nat.le_refl _) (by simp) ?_; (case hd => rfl); (case hg => rfl); (case hr => first | (go_simp; done) | (go_simp; rfl)); (case hp => exact Reps.none _ _); intro v1 w1 ho1 hb1 hg1 hn1) | ((with_reducible refine gate_builtin (b := .append) (xs := #[.tmp 5, .tmp 6]) rfl ?_); at_builtin; refine app27 rfl (.tmp 5) (.tmp 6) rfl rfl rfl ho1 hb1 HC.out hs ?_; intro v2 w2 ho2 hb2))
    go_ret
    exact ⟨_, rfl, ho2, hb2⟩
namespace PCl
def cluster_Cand_15.f (l0 : List S27) : Option (List S27) := if l0.length ≤ 1000000 then some l0 else none
theorem cluster_Cand_15.calls (A0 : Option Addr) (c0 : Nat) (l0 : List S27) (r : List S27) (w : World) (hr0 : Kd.C k27 w A0 l0.length l0) (hc0 : l0.length ≤ c0) (h : cluster_Cand_15.f l0 = some r) :
    Calls Try.prog 15 #[.slice A0 l0.length c0] w fun e w' => ∃ v0_ : Value, e = .returned v0_ ∧ Kd.R k27 27 w' w.heap.size (fun _ => True) v0_ r ∧ Below w.heap.size w w' := by
  unfold cluster_Cand_15.f at h
  split at h
  · obtain rfl := Option.some.inj h
    exact clone_at hr0 hc0 (by assumption)
  · cases h
end PCl
end Go.Proofs.Ytapagoaoglmegaa
