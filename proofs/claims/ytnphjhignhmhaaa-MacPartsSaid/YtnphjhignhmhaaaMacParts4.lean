/- MacParts: a nil row, and the whole. -/
import Derived.Test.YtnphjhignhmhaaaMacParts2
import Derived.Test.YtnphjhignhmhaaaMacParts3
namespace Go.Proofs.Ytnphjhignhmhaaa
open Go.RowKit
set_option linter.unusedVariables false
set_option linter.unusedSimpArgs false
set_option maxRecDepth 100000

theorem mp_none {W1 : World} {g0 : Nat} {k a b : Int} {cap : Nat} {w w' : World} (f : Fr (fun _ => False) w w') (h : w.cell? ⟨g0, 0, none⟩ = some (.int .u32 k) ∧ w.cell? ⟨g0, 1, none⟩ = some (.int .u64 a) ∧ w.cell? ⟨g0, 2, none⟩ = some (.int .u64 b) ∧
      Byt w (.slice none 0 cap) [] ∧ Byt w (.slice none 0 cap) [] ∧ Byt w (.slice none 0 cap) [] ∧ Byt w (.slice none 0 cap) [] ∧ Byt w (.slice none 0 cap) [] ∧ Byt w (.slice none 0 cap) [] ∧ Byt w (.slice none 0 0) [] ∧ Parts w (.slice none 0 0) [] ∧ Fr (fun _ => False) W1 w) :
    w'.cell? ⟨g0, 0, none⟩ = some (.int .u32 k) ∧ w'.cell? ⟨g0, 1, none⟩ = some (.int .u64 a) ∧ w'.cell? ⟨g0, 2, none⟩ = some (.int .u64 b) ∧
      Byt w' (.slice none 0 cap) [] ∧ Byt w' (.slice none 0 cap) [] ∧ Byt w' (.slice none 0 cap) [] ∧ Byt w' (.slice none 0 cap) [] ∧ Byt w' (.slice none 0 cap) [] ∧ Byt w' (.slice none 0 cap) [] ∧ Byt w' (.slice none 0 0) [] ∧ Parts w' (.slice none 0 0) [] ∧ Fr (fun _ => False) W1 w' :=
  MP.fr (l := []) (le := []) (x := 0) (y := 0) f h

set_option maxHeartbeats 4000000 in
theorem parts_none (k a b : Int) (cap : Nat) (at_ behind : Int) (w : World) (hcm : cap ≤ maxLen) (hat0 : 0 ≤ at_) (hbe0 : 0 ≤ behind) (hat1 : at_ ≤ 65535) (hbe1 : behind ≤ 65535) :
    Calls Try.prog 4 #[.agg #[.int .u32 k, .int .u64 a, .int .u64 b], .slice none 0 cap, .int .u16 at_, .int .u16 behind] w fun e w' => e = .returned (.bool true) ∧ Fr (fun _ => False) w w' := by
  have hb : ∀ w : World, Byt w (.slice none 0 cap) [] := fun w => ⟨none, cap, rfl, by simp, hcm, by simp, .inl rfl⟩
  have hx : at_ % 1 = 0 := Int.emod_one _
  have hy : behind % 1 = 0 := Int.emod_one _
  unfold maxLen at hcm
  go_enter Try.func4, Try.ntmps4
  go_wp2_with fail
  generalize hW : World.alloc (World.alloc w _) _ = W
  have f0 : Fr (fun _ => False) w W := by subst hW; (repeat' (first | (with_reducible exact Fr.refl _ _) | (with_reducible assumption) | (with_reducible refine Fr.alloc ?_ _) | (with_reducible refine Fr.drew ?_) | (with_reducible refine Fr.drewN ?_ _) | (with_reducible refine Fr.setCell ?_ _ _ ?_) | (exact Or.inr rfl) | (left; simp; done) | (left; simp; omega) | (simp; done) | (simp; omega) | omega))
  have b0 : Blk W w.heap.size #[.int .u32 k, .int .u64 a, .int .u64 b] 25 := by subst hW; (repeat' (first | (with_reducible assumption) | (with_reducible apply Blk.drew) | (with_reducible apply Blk.drewN) | (with_reducible apply Blk.set) | (with_reducible apply Blk.other) | (exact Blk.new' _ _ _ (by first | rfl | (simp; done) | (simp; omega))) | (with_reducible apply Blk.alloc) | (with_reducible rfl) | (simp; done) | (simp; omega) | omega | rfl))
  have b1 : Blk W (w.heap.size + 1) #[.slice none 0 cap] 28 := by subst hW; (repeat' (first | (with_reducible assumption) | (with_reducible apply Blk.drew) | (with_reducible apply Blk.drewN) | (with_reducible apply Blk.set) | (with_reducible apply Blk.other) | (exact Blk.new' _ _ _ (by first | rfl | (simp; done) | (simp; omega))) | (with_reducible apply Blk.alloc) | (with_reducible rfl) | (simp; done) | (simp; omega) | omega | rfl))
  clear hW
  obtain ⟨T, hT⟩ : ∃ T, T = tagOf a b [] := ⟨_, rfl⟩
  have HT := hid hT
  clear hT
  have hp1 : Parts W (.slice (some ⟨w.heap.size + 1, 0, none⟩) 1 1) [[]] := Parts.one (v := .slice none 0 cap) (b1.cell 0) b1.lt (hb _)
  refine (tag_is (T := T) hp1 (by simp [HT.out]) (by simp)).mono ?_
  rintro e W1 ⟨rfl, k1⟩
  have f1 := f0.trans k1 (fun _ _ h => h)
  have b2 := b0.fr k1 (fun h => h)
  clear f0 k1 b0 b1 hp1
  go_wp2_with fail
  refine wp_loop_rounds 1 ?_
  rw [rounds_succ]
  have mp : MP W1 w.heap.size k a b (.slice none 0 cap) (.slice none 0 cap) (.slice none 0 cap) (.slice none 0 cap) (.slice none 0 cap) (.slice none 0 cap) (.slice none 0 0) [] [] 0 0 W1 := ⟨b2.cell 0, b2.cell 1, b2.cell 2, hb _, hb _, hb _, hb _, hb _, hb _, Byt.nil _, Parts.nil _, Fr.refl _ _⟩
  have mpd := mp.fr ((Fr.refl _ _).drew)
  obtain ⟨T1, hT1⟩ : ∃ T1, IntKind.u64.wrap (T + 1) = T1 := ⟨_, rfl⟩
  clear mp b2 hb hx hy hat0 hbe0 hat1 hbe1
  generalize w.heap.size = g0 at *
  go_wp2_with fail
  go_region_held3 (fun w' => w'.cell? ⟨g0, 0, none⟩ = some (.int .u32 k) ∧ w'.cell? ⟨g0, 1, none⟩ = some (.int .u64 a) ∧ w'.cell? ⟨g0, 2, none⟩ = some (.int .u64 b) ∧
      Byt w' (.slice none 0 cap) [] ∧ Byt w' (.slice none 0 cap) [] ∧ Byt w' (.slice none 0 cap) [] ∧ Byt w' (.slice none 0 cap) [] ∧ Byt w' (.slice none 0 cap) [] ∧ Byt w' (.slice none 0 cap) [] ∧ Byt w' (.slice none 0 0) [] ∧ Parts w' (.slice none 0 0) [] ∧ Fr (fun _ => False) W1 w')
    (first | exact mpd | assumption | exact mp_none ((Fr.refl _ _).alloc _) (by assumption) | exact mp_none (by assumption) (by assumption))
    (first
      | (go_at_call 10; refine (tag_is (T := T) (ls := [[], []]) ?_ ?_ ?_).mono ?_; (focus ((try dsimp only at *); go_split_ands; refine Parts.two (u := .slice none 0 cap) (v := .slice none 0 cap) ?_ ?_ ?_ ?_ ?_; (focus (first | (refine (cell_new ?_).trans rfl; (first | rfl | (simp; done))) | (refine (World.cell?_alloc_lt _ _ _ ?_).trans ?_; (focus (first | (simp; done) | (simp; omega))); (refine (cell_new ?_).trans rfl; (first | rfl | (simp; done)))) | (refine (Fr.cell k1 ?_ (fun h => h)).trans ?_; (focus (first | (simp; done) | (simp; omega))); (refine (cell_new ?_).trans rfl; (first | rfl | (simp; done)))) | (refine (Fr.cell k1 ?_ (fun h => h)).trans ((World.cell?_alloc_lt _ _ _ ?_).trans ?_); (focus (first | (simp; done) | (simp; omega))); (focus (first | (simp; done) | (simp; omega))); (refine (cell_new ?_).trans rfl; (first | rfl | (simp; done)))))); (focus (first | (refine (cell_new ?_).trans rfl; (first | rfl | (simp; done))) | (refine (World.cell?_alloc_lt _ _ _ ?_).trans ?_; (focus (first | (simp; done) | (simp; omega))); (refine (cell_new ?_).trans rfl; (first | rfl | (simp; done)))) | (refine (Fr.cell k1 ?_ (fun h => h)).trans ?_; (focus (first | (simp; done) | (simp; omega))); (refine (cell_new ?_).trans rfl; (first | rfl | (simp; done)))) | (refine (Fr.cell k1 ?_ (fun h => h)).trans ((World.cell?_alloc_lt _ _ _ ?_).trans ?_); (focus (first | (simp; done) | (simp; omega))); (focus (first | (simp; done) | (simp; omega))); (refine (cell_new ?_).trans rfl; (first | rfl | (simp; done)))))); (focus (first | (simp; done) | (simp; omega) | (refine Fr.lt k1 ?_; (first | (simp; done) | (simp; omega))))); (focus assumption); (focus assumption))); (focus (exact HT.out)); (focus (exact Nat.zero_le _)); rintro e w1 ⟨rfl, k1⟩)
      | (go_at_call 10; refine (tag_is (T := T) (ls := [[], [], [], [], []]) ?_ ?_ ?_).mono ?_; (focus ((try dsimp only at *); go_split_ands; refine Parts.five (u0 := .slice none 0 0) (u1 := .slice none 0 cap) (u2 := .slice none 0 cap) (u3 := .slice none 0 0) (u4 := .slice none 0 cap) ?_ ?_ ?_ ?_ ?_ ?_ ?_ ?_ ?_ ?_ ?_; (focus (first | (refine (cell_new ?_).trans rfl; (first | rfl | (simp; done))) | (refine (World.cell?_alloc_lt _ _ _ ?_).trans ?_; (focus (first | (simp; done) | (simp; omega))); (refine (cell_new ?_).trans rfl; (first | rfl | (simp; done)))) | (refine (Fr.cell k1 ?_ (fun h => h)).trans ?_; (focus (first | (simp; done) | (simp; omega))); (refine (cell_new ?_).trans rfl; (first | rfl | (simp; done)))) | (refine (Fr.cell k1 ?_ (fun h => h)).trans ((World.cell?_alloc_lt _ _ _ ?_).trans ?_); (focus (first | (simp; done) | (simp; omega))); (focus (first | (simp; done) | (simp; omega))); (refine (cell_new ?_).trans rfl; (first | rfl | (simp; done)))))); (focus (first | (refine (cell_new ?_).trans rfl; (first | rfl | (simp; done))) | (refine (World.cell?_alloc_lt _ _ _ ?_).trans ?_; (focus (first | (simp; done) | (simp; omega))); (refine (cell_new ?_).trans rfl; (first | rfl | (simp; done)))) | (refine (Fr.cell k1 ?_ (fun h => h)).trans ?_; (focus (first | (simp; done) | (simp; omega))); (refine (cell_new ?_).trans rfl; (first | rfl | (simp; done)))) | (refine (Fr.cell k1 ?_ (fun h => h)).trans ((World.cell?_alloc_lt _ _ _ ?_).trans ?_); (focus (first | (simp; done) | (simp; omega))); (focus (first | (simp; done) | (simp; omega))); (refine (cell_new ?_).trans rfl; (first | rfl | (simp; done)))))); (focus (first | (refine (cell_new ?_).trans rfl; (first | rfl | (simp; done))) | (refine (World.cell?_alloc_lt _ _ _ ?_).trans ?_; (focus (first | (simp; done) | (simp; omega))); (refine (cell_new ?_).trans rfl; (first | rfl | (simp; done)))) | (refine (Fr.cell k1 ?_ (fun h => h)).trans ?_; (focus (first | (simp; done) | (simp; omega))); (refine (cell_new ?_).trans rfl; (first | rfl | (simp; done)))) | (refine (Fr.cell k1 ?_ (fun h => h)).trans ((World.cell?_alloc_lt _ _ _ ?_).trans ?_); (focus (first | (simp; done) | (simp; omega))); (focus (first | (simp; done) | (simp; omega))); (refine (cell_new ?_).trans rfl; (first | rfl | (simp; done)))))); (focus (first | (refine (cell_new ?_).trans rfl; (first | rfl | (simp; done))) | (refine (World.cell?_alloc_lt _ _ _ ?_).trans ?_; (focus (first | (simp; done) | (simp; omega))); (refine (cell_new ?_).trans rfl; (first | rfl | (simp; done)))) | (refine (Fr.cell k1 ?_ (fun h => h)).trans ?_; (focus (first | (simp; done) | (simp; omega))); (refine (cell_new ?_).trans rfl; (first | rfl | (simp; done)))) | (refine (Fr.cell k1 ?_ (fun h => h)).trans ((World.cell?_alloc_lt _ _ _ ?_).trans ?_); (focus (first | (simp; done) | (simp; omega))); (focus (first | (simp; done) | (simp; omega))); (refine (cell_new ?_).trans rfl; (first | rfl | (simp; done)))))); (focus (first | (refine (cell_new ?_).trans rfl; (first | rfl | (simp; done))) | (refine (World.cell?_alloc_lt _ _ _ ?_).trans ?_; (focus (first | (simp; done) | (simp; omega))); (refine (cell_new ?_).trans rfl; (first | rfl | (simp; done)))) | (refine (Fr.cell k1 ?_ (fun h => h)).trans ?_; (focus (first | (simp; done) | (simp; omega))); (refine (cell_new ?_).trans rfl; (first | rfl | (simp; done)))) | (refine (Fr.cell k1 ?_ (fun h => h)).trans ((World.cell?_alloc_lt _ _ _ ?_).trans ?_); (focus (first | (simp; done) | (simp; omega))); (focus (first | (simp; done) | (simp; omega))); (refine (cell_new ?_).trans rfl; (first | rfl | (simp; done)))))); (focus (first | (simp; done) | (simp; omega) | (refine Fr.lt k1 ?_; (first | (simp; done) | (simp; omega))))); (focus assumption); (focus assumption); (focus assumption); (focus assumption); (focus assumption))); (focus (exact HT.out)); (focus (exact Nat.zero_le _)); rintro e w1 ⟨rfl, k1⟩)
      | (go_at_call 10; refine (tag_is (T := T) (ls := []) ?_ ?_ ?_).mono ?_; (focus ((try dsimp only at *); go_split_ands; assumption)); (focus (exact HT.out)); (focus (exact Nat.zero_le _)); rintro e w1 ⟨rfl, k1⟩)
      | (go_at_call 11; (with_reducible refine (right_is (T := T) (ls := [[], []]) ?_ ?_ ?_).mono ?_); (focus ((try dsimp only at *); go_split_ands; refine Parts.two (u := .slice none 0 cap) (v := .slice none 0 cap) ?_ ?_ ?_ ?_ ?_; (focus (first | (refine (cell_new ?_).trans rfl; (first | rfl | (simp; done))) | (refine (World.cell?_alloc_lt _ _ _ ?_).trans ?_; (focus (first | (simp; done) | (simp; omega))); (refine (cell_new ?_).trans rfl; (first | rfl | (simp; done)))) | (refine (Fr.cell k1 ?_ (fun h => h)).trans ?_; (focus (first | (simp; done) | (simp; omega))); (refine (cell_new ?_).trans rfl; (first | rfl | (simp; done)))) | (refine (Fr.cell k1 ?_ (fun h => h)).trans ((World.cell?_alloc_lt _ _ _ ?_).trans ?_); (focus (first | (simp; done) | (simp; omega))); (focus (first | (simp; done) | (simp; omega))); (refine (cell_new ?_).trans rfl; (first | rfl | (simp; done)))))); (focus (first | (refine (cell_new ?_).trans rfl; (first | rfl | (simp; done))) | (refine (World.cell?_alloc_lt _ _ _ ?_).trans ?_; (focus (first | (simp; done) | (simp; omega))); (refine (cell_new ?_).trans rfl; (first | rfl | (simp; done)))) | (refine (Fr.cell k1 ?_ (fun h => h)).trans ?_; (focus (first | (simp; done) | (simp; omega))); (refine (cell_new ?_).trans rfl; (first | rfl | (simp; done)))) | (refine (Fr.cell k1 ?_ (fun h => h)).trans ((World.cell?_alloc_lt _ _ _ ?_).trans ?_); (focus (first | (simp; done) | (simp; omega))); (focus (first | (simp; done) | (simp; omega))); (refine (cell_new ?_).trans rfl; (first | rfl | (simp; done)))))); (focus (first | (simp; done) | (simp; omega) | (refine Fr.lt k1 ?_; (first | (simp; done) | (simp; omega))))); (focus assumption); (focus assumption))); (focus (exact HT.out)); (focus (exact Nat.zero_le _)); rintro e w1 ⟨rfl, k1⟩)
      | (go_at_call 11; (with_reducible refine (right_no (T := T) (ls := [[]]) hT1 ?_ ?_ ?_).mono ?_); (focus ((try dsimp only at *); go_split_ands; refine Parts.one (v := .slice none 0 cap) ?_ ?_ ?_; (focus (first | (refine (cell_new ?_).trans rfl; (first | rfl | (simp; done))) | (refine (World.cell?_alloc_lt _ _ _ ?_).trans ?_; (focus (first | (simp; done) | (simp; omega))); (refine (cell_new ?_).trans rfl; (first | rfl | (simp; done)))) | (refine (Fr.cell k1 ?_ (fun h => h)).trans ?_; (focus (first | (simp; done) | (simp; omega))); (refine (cell_new ?_).trans rfl; (first | rfl | (simp; done)))) | (refine (Fr.cell k1 ?_ (fun h => h)).trans ((World.cell?_alloc_lt _ _ _ ?_).trans ?_); (focus (first | (simp; done) | (simp; omega))); (focus (first | (simp; done) | (simp; omega))); (refine (cell_new ?_).trans rfl; (first | rfl | (simp; done)))))); (focus (first | (simp; done) | (simp; omega) | (refine Fr.lt k1 ?_; (first | (simp; done) | (simp; omega))))); (focus assumption))); (focus (exact HT.out)); (focus (exact Nat.zero_le _)); rintro e w1 ⟨rfl, k1⟩)
      | (go_at_call 12; refine (wakes_at _).mono ?_; rintro e w1 ⟨rfl, k1⟩))
  all_goals go_wp2
  all_goals go_ret
  all_goals (refine ⟨rfl, f1.trans ?_ (fun _ _ h => h)⟩; go_split_ands; assumption)

theorem macParts_walk (c0 : List Value) (A : Option Addr) (len cap : Nat) (at_ behind : Int) (w : World) (h0 : okAll [.i .u32, .i .u64, .i .u64] c0) (h1 : RdS [.i .u8] w A len cap) (w2 : (Lit.int .u16 at_).wf = true) (w3 : (Lit.int .u16 behind).wf = true) :
    Calls Try.prog 4 #[.agg c0.toArray, .slice A len cap, .int .u16 at_, .int .u16 behind] w fun e w' => e = .returned (.bool true) ∧ Fr (fun _ => False) w w' := by
  obtain ⟨k, a, b, rfl⟩ := key_of h0
  obtain ⟨l, hl, hb⟩ := Byt.of_rds h1
  have ha : 0 ≤ at_ ∧ at_ ≤ 65535 := by simp [Lit.wf, IntKind.min, IntKind.max, IntKind.bits, IntKind.signed] at w2; omega
  have hbe : 0 ≤ behind ∧ behind ≤ 65535 := by simp [Lit.wf, IntKind.min, IntKind.max, IntKind.bits, IntKind.signed] at w3; omega
  have hcm : len ≤ cap ∧ cap ≤ maxLen := by
    rcases h1 with ⟨_, h1, h2⟩ | ⟨_, _, _, h1, h2, _⟩ <;> exact ⟨h1, h2⟩
  have hc9 : cap ≤ 9223372036854775807 := by have := hcm.2; unfold maxLen at this; omega
  match A with
  | none =>
    have h0 : len = 0 := by
      rcases h1 with ⟨h, _⟩ | ⟨_, _, h, _⟩
      · exact h
      · cases h
    subst h0
    exact parts_none k a b cap at_ behind w hcm.2 ha.1 hbe.1 ha.2 hbe.2
  | some ad =>
    by_cases h : len ≤ 200
    · exact parts_le k a b ad len cap at_ behind w l hl hb h hcm.1 hc9 ha.1 hbe.1 ha.2 hbe.2
    · exact parts_gt k a b ad len cap at_ behind w (l.take 200) (by simp; omega) (hb.pre 200 (by omega)) (by omega) hcm.1 hc9 ha.1 hbe.1 ha.2 hbe.2
end Go.Proofs.Ytnphjhignhmhaaa
