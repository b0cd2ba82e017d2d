/- The law's rank: how many other places of ends are below a place. -/
import Derived.Test.YtapagoaoglmegaaEdDepth
import Derived.Test.YtapagoaoglmegaaMapF
namespace Go.Proofs.Ytapagoaoglmegaa
open Go.RowKit Go.Proofs.YtapagoaoglmegaaW.PrintWords Go.Proofs.YtapagoaoglmegaaW.PrintLast Go.Proofs.YtapagoaoglmegaaW.PrintMore PCl
set_option linter.unusedVariables false
set_option linter.unusedSimpArgs false
set_option maxRecDepth 100000
/-- A place is kept, once. -/
def addE1 (S : List Int) (x : Int) : List Int := if x ∈ S then S else x :: S
def addLt (p : Int) (S : List Int) (x : Int) : List Int := if x < p then addE1 S x else S
def seenE (p : Int) (L : List S24) : List Int := L.foldl (fun S s => addLt p (addLt p S s.f1) s.f2) []
def setF (S : List Int) : Int → Option Value := fun k => if k ∈ S then some (.int .i64 1) else none
theorem setF_add (S : List Int) (x : Int) : putF (setF S) x (.int .i64 1) = setF (addE1 S x) := by
  funext k
  unfold putF setF addE1
  by_cases e : k = x
  · subst e
    by_cases h : k ∈ S <;> simp [h]
  · by_cases h : x ∈ S
    · simp [e, h]
    · simp [e, h]
theorem setF_some (S : List Int) (x : Int) : (setF S x).isSome = decide (x ∈ S) := by
  unfold setF; split <;> simp_all
theorem add_len (S : List Int) (x : Int) : (addE1 S x).length = if (setF S x).isSome = true then S.length else S.length + 1 := by
  rw [setF_some]
  unfold addE1
  by_cases h : x ∈ S <;> simp [h]
theorem addE1_ok {S : List Int} (h : S.Nodup) (x : Int) : (addE1 S x).Nodup ∧ ∀ y, y ∈ addE1 S x ↔ y ∈ S ∨ y = x := by
  unfold addE1
  by_cases c : x ∈ S
  · rw [if_pos c]
    exact ⟨h, fun y => ⟨.inl, fun q => q.elim id (fun e => e ▸ c)⟩⟩
  · rw [if_neg c]
    exact ⟨List.nodup_cons.2 ⟨c, h⟩, fun y => by rw [List.mem_cons]; exact Or.comm⟩
theorem addLt_ok {S : List Int} (h : S.Nodup) (p x : Int) : (addLt p S x).Nodup ∧ ∀ y, y ∈ addLt p S x ↔ y ∈ S ∨ (y = x ∧ x < p) := by
  unfold addLt
  by_cases c : x < p
  · rw [if_pos c]
    obtain ⟨h1, h2⟩ := addE1_ok h x
    exact ⟨h1, fun y => by rw [h2]; simp [c]⟩
  · rw [if_neg c]
    exact ⟨h, fun y => by simp [c]⟩
theorem seen_go (p : Int) : ∀ (L : List S24) (S : List Int), S.Nodup → (L.foldl (fun S s => addLt p (addLt p S s.f1) s.f2) S).Nodup ∧ ∀ y, y ∈ L.foldl (fun S s => addLt p (addLt p S s.f1) s.f2) S ↔ y ∈ S ∨ (y ∈ plE L ∧ y < p)
  | [], S, h => ⟨h, fun y => by simp [plE]⟩
  | s :: L, S, h => by
    obtain ⟨a1, a2⟩ := addLt_ok h p s.f1
    obtain ⟨b1, b2⟩ := addLt_ok a1 p s.f2
    obtain ⟨c1, c2⟩ := seen_go p L _ b1
    refine ⟨c1, fun y => ?_⟩
    rw [List.foldl_cons, c2, b2, a2]
    unfold plE
    rw [List.flatMap_cons]
    simp only [List.mem_append, List.mem_cons, List.not_mem_nil, or_false]
    constructor
    · rintro (((h | ⟨h1, h2⟩) | ⟨h1, h2⟩) | ⟨h1, h2⟩)
      · exact .inl h
      · exact .inr ⟨.inl (.inl h1), by omega⟩
      · exact .inr ⟨.inl (.inr h1), by omega⟩
      · exact .inr ⟨.inr h1, h2⟩
    · rintro (h | ⟨(h1 | h1) | h1, h2⟩)
      · exact .inl (.inl (.inl h))
      · exact .inl (.inl (.inr ⟨h1, by omega⟩))
      · exact .inl (.inr ⟨h1, by omega⟩)
      · exact .inr ⟨h1, h2⟩
theorem pos_mem (L : List S24) (y : Int) : y ∈ posE L ↔ y ∈ plE L := by
  constructor
  · intro h
    unfold posE Lib.compact Lib.compactUpTo at h
    obtain ⟨j, hj, rfl⟩ := List.mem_map.1 h
    have hjl := List.mem_range.1 (List.mem_filter.1 hj).1
    rw [← (srt_perm L).mem_iff, getElem!_pos _ j (by simpa using hjl)]
    simp
  · intro h
    obtain ⟨s, hs, e⟩ := List.mem_flatMap.1 h
    obtain ⟨h1, h2⟩ := (pos_ok L).2.1 s hs
    simp at e
    rcases e with e | e <;> subst e <;> assumption
theorem seen_len (p : Int) (L : List S24) : (seenE p L).length = rkE (posE L) p := by
  obtain ⟨h1, h2⟩ := seen_go p L [] List.nodup_nil
  unfold rkE
  rw [List.countP_eq_length_filter]
  have hn : (posE L).Nodup := ((pos_ok L).1).imp (fun h => by omega)
  have : (seenE p L).Perm ((posE L).filter (fun y => decide (y < p))) := by
    refine (List.perm_ext_iff_of_nodup h1 (hn.filter _)).2 fun y => ?_
    rw [h2, List.mem_filter, pos_mem]
    simp
  exact this.length_eq
theorem seen_snoc {L : List S24} {k : Nat} {s : S24} (h : L[k]? = some s) (p : Int) : seenE p (L.take (k + 1)) = addLt p (addLt p (seenE p (L.take k)) s.f1) s.f2 := by
  unfold seenE
  rw [List.take_add_one, h, List.foldl_append]; rfl
theorem addLt_len (p : Int) (S : List Int) (x : Int) : (addLt p S x).length ≤ S.length + 1 := by
  unfold addLt addE1
  split
  · split <;> simp
  · omega
theorem seen_bd (p : Int) (L : List S24) : ∀ k, k ≤ L.length → (seenE p (L.take k)).length ≤ 2 * k
  | 0, _ => by simp [seenE]
  | k + 1, h => by
    obtain ⟨s, hs⟩ : ∃ s, L[k]? = some s := ⟨_, List.getElem?_eq_getElem (by omega)⟩
    rw [seen_snoc hs]
    have := seen_bd p L k (by omega)
    have a := addLt_len p (seenE p (L.take k)) s.f1
    have b := addLt_len p (addLt p (seenE p (L.take k)) s.f1) s.f2
    omega
theorem wpList_store_set {w : World} {ops : Array Oper} {rest : List Oper} {o : Oper} {a : Act} {Q : Exit → Act → World → Prop} (hg : o.guard = none) (m x v : Operand) (hop : o.op = Op.mapUpdate 116 m x v)
    (b : Nat) (S : List Int) (k : Int) (hm : a.eval m = .map (some b)) (h : MF 2 .i64 w b S.length (setF S)) (hn : S.length < maxLen) (hx : a.eval x = .int .i64 k) (hv : a.eval v = .int .i64 1) (hw : (Lit.int .i64 k).wf = true)
    (hK : ∀ w', MF 2 .i64 w' b (addE1 S k).length (setF (addE1 S k)) → Fr (fun i => i = b) w w' → wpList Try.prog ops Q rest (a.put o.dst undef) w') : wpList Try.prog ops Q (o :: rest) a w :=
  wpList_store_mf w hg m x v 116 hop 2 3 .i64 Try.underlying2 Try.underlying116 b S.length (setF S) k (.int .i64 1) hm h hn hx hv hw (fun w' h1 h2 => hK w' (by rw [← setF_add, add_len]; exact h1) h2)
set_option maxHeartbeats 4000000 in
theorem rank_at {w : World} {A : Option Addr} {cap : Nat} {L : List S24} (hC : Kd.C k24 w A L.length L) (hc : L.length ≤ cap) (hn : L.length ≤ 100) (hL : okR L) (p : Int) :
    Calls Try.prog 42 #[.slice A L.length cap, .int .i64 p] w fun e w' => e = .returned (.int .i64 (rkE (posE L) p : Nat)) ∧ Fr (fun _ => False) w w' := by
  have HC := hidE hC
  have HL := hidE hL
  obtain ⟨R, hR⟩ : ∃ R, R = rkE (posE L) p := ⟨_, rfl⟩
  rw [← hR]
  have HR := hidE hR
  clear hC hL hR
  have hmm := @run_makeMap Try.prog
  go_enter Try.func42, Try.ntmps42
  go_wp2_with fail
  generalize hW : World.alloc w _ = w1
  have f1 : Fr (fun _ => False) w w1 := by subst hW; (repeat' (first | (with_reducible exact Fr.refl _ _) | (with_reducible assumption) | (with_reducible refine Fr.alloc ?_ _) | (with_reducible refine Fr.drew ?_) | (with_reducible refine Fr.drewN ?_ _) | (with_reducible refine Fr.setCell ?_ _ _ ?_) | (exact Or.inr rfl) | (left; simp; done) | (left; simp; omega) | (simp; done) | (simp; omega) | omega))
  have m1 : MF 2 .i64 w1 w.heap.size ([] : List Int).length (setF []) := by subst hW; exact (MF.made w rfl).congr (fun k _ => by simp [setF])
  clear hW hmm
  obtain ⟨m, hm⟩ : ∃ m, m = w.heap.size := ⟨_, rfl⟩
  rw [← hm] at m1 ⊢
  have hmw : w.heap.size ≤ m := by omega
  clear hm
  go_loopw [6] (fun v6 wr => ∃ k : Nat, k ≤ L.length ∧ v6 = .int .i64 (k : Int) ∧ MF 2 .i64 wr m (seenE p (L.take k)).length (setF (seenE p (L.take k))) ∧ Fr (fun _ => False) w wr) (fun v6 _ => L.length - (intOf v6).toNat)
  case atStart => exact ⟨0, Nat.zero_le _, rfl, m1, f1⟩
  case round =>
    clear m1 f1
    obtain ⟨k, hk, rfl, hM, hf⟩ := hrel
    have HM := hidE hM
    clear hM
    by_cases hlt : k < L.length
    · obtain ⟨r, off, rfl, hr, hat⟩ := C24_open HC.out (by omega)
      obtain ⟨s, hs⟩ : ∃ s, L[k]? = some s := ⟨_, List.getElem?_eq_getElem hlt⟩
      obtain ⟨c0, c1, c2⟩ := (hat k s hs).fr hf (fun h => h)
      have hso := HL.out s (List.mem_of_getElem? hs)
      have wf1 : (Lit.int .i64 s.f1).wf = true := WalkArith.wf_i64 (by omega)
      have wf2 : (Lit.int .i64 s.f2).wf = true := WalkArith.wf_i64 (by omega)
      have HS := hidE (seen_snoc hs p)
      have hbd := seen_bd p L k hk
      have hrm : r < w.heap.size := hr
      generalize seenE p (L.take k) = S at *
      have l1 : (k : Int) < (L.length : Int) := by omega
      have H0 := hidE (hat k s hs)
      clear hat hso hs
      by_cases c1 : s.f1 < p
      · by_cases c2 : s.f2 < p
        · have x1 : decide (s.f1 < p) = true := decide_eq_true c1
          have x2 : decide (s.f2 < p) = true := decide_eq_true c2
          have HE : Hid (seenE p (L.take (k + 1)) = addE1 (addE1 S s.f1) s.f2) := hidE (by rw [HS.out]; unfold addLt; rw [if_pos c1, if_pos c2])
          clear c1 c2 HS
          go_wp2_with (at_mapUpdate; refine wpList_store_set rfl _ _ _ rfl m (S) s.f1 rfl HM.out (by unfold maxLen; omega) rfl rfl wf1 ?_)
          intro wa hma fa
          have fA := hf.trans fa (fun j hj e => by omega)
          have hLa : (addE1 S s.f1).length ≤ 1000 := by have := add_len S s.f1; split at this <;> omega
          clear c0 c1 c2 fa
          obtain ⟨c0, c1, c2⟩ := H0.out.fr fA (fun h => h)
          go_wp2_with (at_mapUpdate; refine wpList_store_set rfl _ _ _ rfl m (addE1 S s.f1) s.f2 rfl hma (by unfold maxLen; omega) rfl rfl wf2 ?_)
          intro wb hmb fb
          have fB := fA.trans fb (fun j hj e => by omega)
          have HMN := hidE hmb
          clear hmb
          go_wp2
          go_roundw
          case rel => exact ⟨k + 1, by omega, by go_num, by rw [HE.out]; exact HMN.out, fB⟩
          case measure => simp [intOf]; omega
        · have x1 : decide (s.f1 < p) = true := decide_eq_true c1
          have x2 : decide (s.f2 < p) = false := decide_eq_false c2
          have HE : Hid (seenE p (L.take (k + 1)) = addE1 S s.f1) := hidE (by rw [HS.out]; unfold addLt; rw [if_pos c1, if_neg c2])
          clear c1 c2 HS
          go_wp2_with (at_mapUpdate; refine wpList_store_set rfl _ _ _ rfl m (S) s.f1 rfl HM.out (by unfold maxLen; omega) rfl rfl wf1 ?_)
          intro wa hma fa
          have fA := hf.trans fa (fun j hj e => by omega)
          have hLa : (addE1 S s.f1).length ≤ 1000 := by have := add_len S s.f1; split at this <;> omega
          clear c0 c1 c2 fa
          obtain ⟨c0, c1, c2⟩ := H0.out.fr fA (fun h => h)
          have HMN := hidE hma
          clear hma
          go_wp2
          go_roundw
          case rel => exact ⟨k + 1, by omega, by go_num, by rw [HE.out]; exact HMN.out, fA⟩
          case measure => simp [intOf]; omega
      · by_cases c2 : s.f2 < p
        · have x1 : decide (s.f1 < p) = false := decide_eq_false c1
          have x2 : decide (s.f2 < p) = true := decide_eq_true c2
          have HE : Hid (seenE p (L.take (k + 1)) = addE1 S s.f2) := hidE (by rw [HS.out]; unfold addLt; rw [if_neg c1, if_pos c2])
          clear c1 c2 HS
          go_wp2_with (at_mapUpdate; refine wpList_store_set rfl _ _ _ rfl m (S) s.f2 rfl HM.out (by unfold maxLen; omega) rfl rfl wf2 ?_)
          intro wb hmb fb
          have fB := hf.trans fb (fun j hj e => by omega)
          have HMN := hidE hmb
          clear hmb
          go_wp2
          go_roundw
          case rel => exact ⟨k + 1, by omega, by go_num, by rw [HE.out]; exact HMN.out, fB⟩
          case measure => simp [intOf]; omega
        · have x1 : decide (s.f1 < p) = false := decide_eq_false c1
          have x2 : decide (s.f2 < p) = false := decide_eq_false c2
          have HE : Hid (seenE p (L.take (k + 1)) = S) := hidE (by rw [HS.out]; unfold addLt; rw [if_neg c1, if_neg c2])
          clear c1 c2 HS
          have HMN := HM
          go_wp2
          go_roundw
          case rel => exact ⟨k + 1, by omega, by go_num, by rw [HE.out]; exact HMN.out, hf⟩
          case measure => simp [intOf]; omega
    · obtain rfl : k = L.length := by omega
      clear hlt
      have hM := HM.out
      rw [List.take_length, seen_len, ← HR.out] at hM
      have hlk : ∀ ty, (Builtin.len_ #[116] ty #[.map (some m)]).run Try.prog wr = .ok (.int .i64 R) wr := fun ty => hM.len Try.underlying116 ty
      clear hM HM
      go_wp2_with (simp only [hlk])
      go_ret
      exact ⟨rfl, hf⟩
end Go.Proofs.Ytapagoaoglmegaa
