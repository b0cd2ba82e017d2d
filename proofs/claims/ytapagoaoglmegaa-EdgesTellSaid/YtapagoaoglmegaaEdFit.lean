/- Spans brought into bounds. -/
import Derived.Test.YtapagoaoglmegaaEdFlat
import Derived.Laws.BitsLemmas
namespace Go.Proofs.Ytapagoaoglmegaa
open Go.RowKit Go.Proofs.YtapagoaoglmegaaW.PrintWords Go.Proofs.YtapagoaoglmegaaW.PrintLast Go.Proofs.YtapagoaoglmegaaW.PrintMore PCl
set_option linter.unusedVariables false
set_option linter.unusedSimpArgs false
set_option maxRecDepth 100000
def mskE (x : Int) : Int := bits .and .i64 x 4611686018427387903
theorem mskE_bd (x : Int) : 0 ≤ mskE x ∧ mskE x ≤ 4611686018427387903 := by
  have h : ((BitVec.ofInt 64 x) &&& (BitVec.ofInt 64 4611686018427387903)).toNat ≤ 4611686018427387903 := by
    rw [BitVec.toNat_and]
    exact Nat.le_trans Nat.and_le_right (by decide)
  have e : mskE x = IntKind.i64.wrap (((BitVec.ofInt 64 x) &&& (BitVec.ofInt 64 4611686018427387903)).toNat : Int) := rfl
  rw [e, IntKind.wrap_i64]
  omega
def fitS (s : S24) : S24 := if mskE s.f1 > mskE s.f2 then ⟨s.f0, mskE s.f2, mskE s.f1⟩ else ⟨s.f0, mskE s.f1, mskE s.f2⟩
def fitZ (l : List S24) : List S24 := (l.take 16).map fitS
theorem fitS_ok (s : S24) : 0 ≤ (fitS s).f1 ∧ (fitS s).f1 ≤ (fitS s).f2 ∧ (fitS s).f2 ≤ 4611686018427387903 := by
  have h1 := mskE_bd s.f1
  have h2 := mskE_bd s.f2
  unfold fitS
  split <;> simp only <;> omega
theorem fitZ_len (l : List S24) : (fitZ l).length ≤ 16 := by unfold fitZ; simp; omega
theorem fitZ_ok (l : List S24) : ∀ s ∈ fitZ l, 0 ≤ s.f1 ∧ s.f1 ≤ s.f2 ∧ s.f2 ≤ 4611686018427387903 := fun s hs => by
  obtain ⟨t, _, rfl⟩ := List.mem_map.1 hs
  exact fitS_ok t
theorem okE_of {L : List S24} (hl : L.length ≤ 16) (h : ∀ s ∈ L, 0 ≤ s.f1 ∧ s.f1 ≤ s.f2 ∧ s.f2 ≤ 4611686018427387904) : okE L = true := by
  unfold okE
  rw [Bool.and_eq_true]
  refine ⟨by simpa using hl, List.all_eq_true.2 fun s hs => ?_⟩
  have := h s hs
  unfold mayE
  simp; omega
theorem fit_snoc {l : List S24} {k : Nat} {s : S24} (h : l[k]? = some s) : (l.take (k + 1)).map fitS = (l.take k).map fitS ++ [fitS s] := by
  rw [List.take_add_one, h, List.map_append]; rfl
set_option maxHeartbeats 4000000 in
theorem fit_at {w : World} {A : Option Addr} {cap : Nat} {l : List S24} (hC : Kd.C k24 w A l.length l) (hc : l.length ≤ cap) :
    Calls Try.prog 37 #[.slice A l.length cap] w fun e w' => ∃ v, e = .returned v ∧ OwS w.heap.size w' v (fitZ l) ∧ Fr (fun _ => False) w w' := by
  have hlb := C24_len hC
  have HC := hidE hC
  clear hC
  obtain ⟨Z, hZ⟩ : ∃ Z, Z = fitZ l := ⟨_, rfl⟩
  rw [← hZ]
  have HZ := hidE hZ
  clear hZ
  go_enter Try.func37, Try.ntmps37
  go_wp2
  go_loopw [3, 4] (fun v i wr => ∃ k : Nat, k ≤ l.length ∧ k ≤ 16 ∧ i = .int .i64 (k : Int) ∧ OwS w.heap.size wr v ((l.take k).map fitS) ∧ Fr (fun _ => False) w wr) (fun _ i _ => l.length - (intOf i).toNat)
  case atStart => exact ⟨0, Nat.zero_le _, Nat.zero_le _, rfl, by simpa using OwS.nil _ _, Fr.refl _ _⟩
  case round =>
    obtain ⟨k, hk, hk16, rfl, hown, hf⟩ := hrel
    have HO := hidE hown
    clear hown
    by_cases hlt : k < l.length ∧ k < 16
    · obtain ⟨hlt, h16⟩ := hlt
      obtain ⟨r, off, rfl, hr, hat⟩ := C24_open HC.out (by omega)
      obtain ⟨s, hs⟩ : ∃ s, l[k]? = some s := ⟨_, List.getElem?_eq_getElem hlt⟩
      obtain ⟨c0, c1, c2⟩ := (hat k s hs).fr hf (fun h => h)
      have HS := hidE hs
      have l1 : (k : Int) < (l.length : Int) := by omega
      have l2 : (k : Int) < 16 := by omega
      have t1 : decide ((k : Int) < (l.length : Int)) = true := decide_eq_true l1
      have t2 : decide ((k : Int) < 16) = true := decide_eq_true l2
      clear hat hs
      go_upto_region 6 with fail
      generalize hW : World.alloc wr _ = W1
      have f1 : Fr (fun _ => False) wr W1 := by subst hW; (repeat' (first | (with_reducible exact Fr.refl _ _) | (with_reducible assumption) | (with_reducible refine Fr.alloc ?_ _) | (with_reducible refine Fr.drew ?_) | (with_reducible refine Fr.drewN ?_ _) | (with_reducible refine Fr.setCell ?_ _ _ ?_) | (exact Or.inr rfl) | (left; simp; done) | (left; simp; omega) | (simp; done) | (simp; omega) | omega))
      have o1 : OwS w.heap.size W1 u3 ((l.take k).map fitS) := HO.out.fr f1 (fun _ _ h => h)
      have bB : Blk W1 wr.heap.size #[.int .i64 s.f0, .int .i64 s.f1, .int .i64 s.f2] 24 := by subst hW; (repeat' (first | (with_reducible assumption) | (with_reducible apply Blk.drew) | (with_reducible apply Blk.drewN) | (with_reducible apply Blk.set) | (with_reducible apply Blk.other) | (exact Blk.new' _ _ _ (by first | rfl | (simp; done) | (simp; omega))) | (with_reducible apply Blk.alloc) | (with_reducible rfl) | (simp; done) | (simp; omega) | omega | rfl))
      have fB : ∀ j, u3.ownBlock = some j → j ≠ wr.heap.size := fun j hj => by have := (HO.out.lt j hj).2; omega
      clear hW c0 c1 c2 HO
      obtain ⟨b0, b1, b2, g0, g1, g2⟩ := bB.c3
      have hBl := bB.lt
      have hB8 := lt8 hBl
      obtain ⟨m1, hm1⟩ : ∃ m1, m1 = mskE s.f1 := ⟨_, rfl⟩
      obtain ⟨m2, hm2⟩ : ∃ m2, m2 = mskE s.f2 := ⟨_, rfl⟩
      have e1 : bits .and .i64 s.f1 4611686018427387903 = m1 := hm1.symm
      have e2 : bits .and .i64 s.f2 4611686018427387903 = m2 := hm2.symm
      have HM1 := hidE hm1
      have HM2 := hidE hm2
      clear hm1 hm2
      obtain ⟨B, hB⟩ : ∃ B, B = wr.heap.size := ⟨_, rfl⟩
      have hwB : w.heap.size ≤ B := by have := hf.size; omega
      rw [← hB] at bB b0 b1 b2 g0 g1 g2 fB hBl hB8 ⊢
      clear hB
      go_upto_region 7 with fail
      generalize hW : World.setCell (World.setCell W1 _ _) _ _ = W2
      have f2 : Fr (fun i => i = B) W1 W2 := by subst hW; (repeat' (first | (with_reducible exact Fr.refl _ _) | (with_reducible assumption) | (with_reducible refine Fr.alloc ?_ _) | (with_reducible refine Fr.drew ?_) | (with_reducible refine Fr.drewN ?_ _) | (with_reducible refine Fr.setCell ?_ _ _ ?_) | (exact Or.inr rfl) | (left; simp; done) | (left; simp; omega) | (simp; done) | (simp; omega) | omega))
      have bB2 : Blk W2 B #[.int .i64 s.f0, .int .i64 m1, .int .i64 m2] 24 := by subst hW; exact (bB.set rfl).set rfl
      clear hW b0 b1 b2 g0 g1 g2 e1 e2 hBl hB8
      have o2 := o1.fr f2 (fun j hj e => fB j hj e)
      have F2 : Fr (fun _ => False) w W2 := (hf.trans f1 (fun _ _ h => h)).trans f2 (fun i hi e => by omega)
      obtain ⟨b0, b1, b2, g0, g1, g2⟩ := bB2.c3
      have hBl := bB2.lt
      have hB8 := lt8 hBl
      clear o1 f2 f1 bB
      by_cases hgt : m1 > m2
      · have tg : decide (m1 > m2) = true := decide_eq_true hgt
        have hfs : fitS s = ⟨s.f0, m2, m1⟩ := by unfold fitS; rw [← HM1.out, ← HM2.out, if_pos hgt]
        have HFS := hidE hfs
        clear hfs
        go_upto_region 9 with fail
        generalize hW : World.setCell (World.setCell W2 _ _) _ _ = W3
        have f3 : Fr (fun i => i = B) W2 W3 := by subst hW; (repeat' (first | (with_reducible exact Fr.refl _ _) | (with_reducible assumption) | (with_reducible refine Fr.alloc ?_ _) | (with_reducible refine Fr.drew ?_) | (with_reducible refine Fr.drewN ?_ _) | (with_reducible refine Fr.setCell ?_ _ _ ?_) | (exact Or.inr rfl) | (left; simp; done) | (left; simp; omega) | (simp; done) | (simp; omega) | omega))
        have bB3 : Blk W3 B #[.int .i64 s.f0, .int .i64 m2, .int .i64 m1] 24 := by subst hW; exact (bB2.set rfl).set rfl
        clear hW b0 b1 b2 g0 g1 g2 hBl hB8
        have o3 := o2.fr f3 (fun j hj e => fB j hj e)
        have F3 : Fr (fun _ => False) w W3 := F2.trans f3 (fun i hi e => by omega)
        obtain ⟨b0, b1, b2, g0, g1, g2⟩ := bB3.c3
        have hBl := bB3.lt
        have hB8 := lt8 hBl
        have lN : ∀ i k', [(⟨s.f0, m2, m1⟩ : S24)][i]? = some k' → AtS (W3.alloc (.cells #[.int .i64 s.f0, .int .i64 m2, .int .i64 m1] 24)) W3.heap.size (0 + i * 3) k' := fun i k' hi => by
          have bN : Blk (W3.alloc (.cells #[.int .i64 s.f0, .int .i64 m2, .int .i64 m1] 24)) W3.heap.size #[.int .i64 s.f0, .int .i64 m2, .int .i64 m1] 24 := Blk.new _ _ _
          cases i with
          | zero => simp at hi; subst hi; exact ⟨bN.cell 0, bN.cell 1, bN.cell 2⟩
          | succ i => simp at hi
        have o4 := o3.fr ((Fr.refl (fun _ => False) W3).alloc (.cells #[.int .i64 s.f0, .int .i64 m2, .int .i64 m1] 24)) (fun _ _ h => h)
        have s4 : w.heap.size ≤ (W3.alloc (.cells #[.int .i64 s.f0, .int .i64 m2, .int .i64 m1] 24)).heap.size := by have := F3.size; simp; omega
        have hln : ((l.take k).map fitS).length ≤ 16 := by simp; omega
        go_wp2_with (at_builtin; refine wpList_append_sp rfl _ _ rfl w.heap.size _ ((l.take k).map fitS) [(⟨s.f0, m2, m1⟩ : S24)] _ 0 1 1 rfl rfl o4 lN rfl (Nat.zero_lt_succ 0) (by simp only [List.length_cons, List.length_nil]; omega) s4 ?_)
        intro v' w5 o5 g5 b5
        have f5 : Fr (fun _ => False) w w5 := Fr.grown (F3.alloc _) g5 (fun j hj => .inl (o4.lt j hj).1)
        clear lN o4 s4 g5 b5 b0 b1 b2 g0 g1 g2
        go_wp2
        go_roundw
        case rel => exact ⟨k + 1, by omega, by omega, by go_num, by rw [fit_snoc HS.out, HFS.out, List.map_take]; exact o5, f5⟩
        case measure => simp [intOf]; omega
      · have tg : decide (m1 > m2) = false := decide_eq_false hgt
        have hfs : fitS s = ⟨s.f0, m1, m2⟩ := by unfold fitS; rw [← HM1.out, ← HM2.out, if_neg hgt]
        have HFS := hidE hfs
        clear hfs
        go_upto_region 9 with fail
        have lN : ∀ i k', [(⟨s.f0, m1, m2⟩ : S24)][i]? = some k' → AtS (W2.alloc (.cells #[.int .i64 s.f0, .int .i64 m1, .int .i64 m2] 24)) W2.heap.size (0 + i * 3) k' := fun i k' hi => by
          have bN : Blk (W2.alloc (.cells #[.int .i64 s.f0, .int .i64 m1, .int .i64 m2] 24)) W2.heap.size #[.int .i64 s.f0, .int .i64 m1, .int .i64 m2] 24 := Blk.new _ _ _
          cases i with
          | zero => simp at hi; subst hi; exact ⟨bN.cell 0, bN.cell 1, bN.cell 2⟩
          | succ i => simp at hi
        have o4 := o2.fr ((Fr.refl (fun _ => False) W2).alloc (.cells #[.int .i64 s.f0, .int .i64 m1, .int .i64 m2] 24)) (fun _ _ h => h)
        have s4 : w.heap.size ≤ (W2.alloc (.cells #[.int .i64 s.f0, .int .i64 m1, .int .i64 m2] 24)).heap.size := by have := F2.size; simp; omega
        have hln : ((l.take k).map fitS).length ≤ 16 := by simp; omega
        go_wp2_with (at_builtin; refine wpList_append_sp rfl _ _ rfl w.heap.size _ ((l.take k).map fitS) [(⟨s.f0, m1, m2⟩ : S24)] _ 0 1 1 rfl rfl o4 lN rfl (Nat.zero_lt_succ 0) (by simp only [List.length_cons, List.length_nil]; omega) s4 ?_)
        intro v' w5 o5 g5 b5
        have f5 : Fr (fun _ => False) w w5 := Fr.grown (F2.alloc _) g5 (fun j hj => .inl (o4.lt j hj).1)
        clear lN o4 s4 g5 b5 b0 b1 b2 g0 g1 g2
        go_wp2
        go_roundw
        case rel => exact ⟨k + 1, by omega, by omega, by go_num, by rw [fit_snoc HS.out, HFS.out, List.map_take]; exact o5, f5⟩
        case measure => simp [intOf]; omega
    · have hz : (l.take k).map fitS = Z := by
        rw [HZ.out]; unfold fitZ
        by_cases h16 : k = 16
        · rw [h16]
        · rw [List.take_of_length_le (by omega), List.take_of_length_le (by omega)]
      have ho := HO.out
      rw [hz] at ho
      have HO2 := hidE ho
      by_cases hlt2 : k < l.length
      · have h16 : ¬ k < 16 := fun e => hlt ⟨hlt2, e⟩
        have t1 : decide ((k : Int) < (l.length : Int)) = true := decide_eq_true (by omega)
        have t2 : decide ((k : Int) < 16) = false := decide_eq_false (by omega)
        have t3 : (k : Int) < (l.length : Int) := by omega
        have t4 : ¬ (k : Int) < 16 := by omega
        clear ho hz hlt HO
        go_wp2
        go_ret
        exact ⟨_, rfl, HO2.out, hf⟩
      · have t1 : decide ((k : Int) < (l.length : Int)) = false := decide_eq_false (by omega)
        clear ho hz hlt HO
        go_wp2
        go_ret
        exact ⟨_, rfl, HO2.out, hf⟩
end Go.Proofs.Ytapagoaoglmegaa
