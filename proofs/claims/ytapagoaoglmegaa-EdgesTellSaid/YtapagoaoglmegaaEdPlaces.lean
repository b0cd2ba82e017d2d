/- The places of ends, rising, each once; an end. -/
import Derived.Test.YtapagoaoglmegaaEdCmp
import Derived.StillTailTactics
import Derived.IntWalk
namespace Go.Proofs.Ytapagoaoglmegaa
open Go.RowKit Go.Proofs.YtapagoaoglmegaaW.PrintWords Go.Proofs.YtapagoaoglmegaaW.PrintLast Go.Proofs.YtapagoaoglmegaaW.PrintMore PCl
set_option linter.unusedVariables false
set_option linter.unusedSimpArgs false
set_option maxRecDepth 100000
theorem plE_snoc {L : List S24} {k : Nat} {s : S24} (h : L[k]? = some s) : plE (L.take (k + 1)) = plE (L.take k) ++ [s.f1, s.f2] := by
  unfold plE
  rw [List.take_add_one, h, List.flatMap_append]; rfl
theorem plE_len (L : List S24) : (plE L).length = 2 * L.length := by
  unfold plE
  induction L with
  | nil => rfl
  | cons s L ih => rw [List.flatMap_cons]; simp at ih ⊢; omega
theorem info64 : (Try.prog.info? 2).map (fun i => (i.zero, i.size, i.bytes)) = some (some (.int .i64 0), 1, 8) := by kernel_rfl
/-- A slice of the call's own (or nil) that reads as P. -/
def PlV (B : Nat) (w : World) (v : Value) (P : List Int) : Prop := (v = .slice none 0 0 ∧ P = []) ∨ ∃ g cap, v = .slice (some ⟨g, 0, none⟩) P.length cap ∧ B ≤ g ∧ CsE (Value.int .i64) w g P
set_option maxHeartbeats 4000000 in
theorem places_at {w : World} {A : Option Addr} {cap : Nat} {L : List S24} (hC : Kd.C k24 w A L.length L) (hc : L.length ≤ cap) (hn : L.length ≤ 1000) :
    Calls Try.prog 72 #[.slice A L.length cap] w fun e w' => ∃ v, e = .returned v ∧ PlV w.heap.size w' v (posE L) ∧ Fr (fun _ => False) w w' := by
  have HC := hidE hC
  clear hC
  obtain ⟨P, hP⟩ : ∃ P, P = posE L := ⟨_, rfl⟩
  rw [← hP]
  have HP := hidE hP
  clear hP
  go_enter Try.func72, Try.ntmps72
  go_wp2
  go_loopw [3, 8] (fun v i wr => ∃ k : Nat, k ≤ L.length ∧ i = .int .i64 (k : Int) ∧ wr.ownsRow w.heap.size 2 1 v ((plE (L.take k)).map (Value.int .i64)).length ((plE (L.take k)).map (Value.int .i64)) ∧ Fr (fun _ => False) w wr) (fun _ i _ => L.length - (intOf i).toNat)
  case atStart => exact ⟨0, Nat.zero_le _, rfl, by simpa [plE] using World.ownsRow_nil _ _ _ _, Fr.refl _ _⟩
  case round =>
    obtain ⟨k, hk, rfl, hown, hf⟩ := hrel
    have HO := hidE hown
    clear hown
    by_cases hlt : k < L.length
    · obtain ⟨r, off, rfl, hr, hat⟩ := C24_open HC.out (by omega)
      obtain ⟨s, hs⟩ : ∃ s, L[k]? = some s := ⟨_, List.getElem?_eq_getElem hlt⟩
      obtain ⟨c0, c1, c2⟩ := (hat k s hs).fr hf (fun h => h)
      have HS := hidE hs
      have l1 : (k : Int) < (L.length : Int) := by omega
      clear hat hs
      go_upto_region 5 with fail
      generalize hW : World.alloc wr _ = W1
      have f1 : Fr (fun _ => False) wr W1 := by subst hW; (repeat' (first | (with_reducible exact Fr.refl _ _) | (with_reducible assumption) | (with_reducible refine Fr.alloc ?_ _) | (with_reducible refine Fr.drew ?_) | (with_reducible refine Fr.drewN ?_ _) | (with_reducible refine Fr.setCell ?_ _ _ ?_) | (exact Or.inr rfl) | (left; simp; done) | (left; simp; omega) | (simp; done) | (simp; omega) | omega))
      have o1 : W1.ownsRow w.heap.size 2 1 u3 ((plE (L.take k)).map (Value.int .i64)).length ((plE (L.take k)).map (Value.int .i64)) := by subst hW; exact HO.out.alloc _
      have bB : Blk W1 wr.heap.size #[.int .i64 s.f0, .int .i64 s.f1, .int .i64 s.f2] 24 := by subst hW; (repeat' (first | (with_reducible assumption) | (with_reducible apply Blk.drew) | (with_reducible apply Blk.drewN) | (with_reducible apply Blk.set) | (with_reducible apply Blk.other) | (exact Blk.new' _ _ _ (by first | rfl | (simp; done) | (simp; omega))) | (with_reducible apply Blk.alloc) | (with_reducible rfl) | (simp; done) | (simp; omega) | omega | rfl))
      clear hW c0 c1 c2
      have b1 := bB.cell 1
      have b2 := bB.cell 2
      simp at b1 b2
      have hsz : w.heap.size ≤ W1.heap.size := (hf.trans f1 (fun _ _ h => h)).size
      have hlen : (plE (L.take k)).length ≤ 2000 := by rw [plE_len, List.length_take]; omega
      have lN : Lst (W1.alloc (.cells #[.int .i64 s.f1, .int .i64 s.f2] 2)) 2 (.slice (some ⟨W1.heap.size, 0, none⟩) 2 2) [.int .i64 s.f1, .int .i64 s.f2] := Lst.new W1 2 [.int .i64 s.f1, .int .i64 s.f2] (by simp) (by simp [maxLen])
      have o2 := o1.alloc (.cells #[.int .i64 s.f1, .int .i64 s.f2] 2)
      have s2 : w.heap.size ≤ (W1.alloc (.cells #[.int .i64 s.f1, .int .i64 s.f2] 2)).heap.size := by simp; omega
      clear o1 HO
      go_wp2_with (at_builtin; refine wpList_append_lst rfl _ _ 103 rfl w.heap.size 2 (.int .i64 0) 8 Try.underlying103 info64 rfl _ _ _ [.int .i64 s.f1, .int .i64 s.f2] rfl rfl o2 lN (by simp [Value.oneCell']) (by simp [maxLen]; omega) (by simp; omega) s2 ?_)
      intro v' w3 o3 g3 b3
      have f3 : Fr (fun _ => False) w w3 := Fr.grown ((hf.trans f1 (fun _ _ h => h)).alloc _) g3 (fun j hj => .inl (o2.lt j hj).1)
      clear o2 lN s2
      go_wp2
      go_roundw
      case rel => exact ⟨k + 1, by omega, by go_num, by rw [plE_snoc HS.out, List.map_append]; simpa using o3, f3⟩
      case measure => simp [intOf]; omega
    · obtain rfl : k = L.length := by omega
      clear hlt
      have ho := HO.out
      rw [List.take_length, List.length_map] at ho
      have h2 := plE_len L
      rcases own_cs ho with ⟨hv, h0⟩ | ⟨g, cp, hv, h3, h4, h5, h6⟩
      · have e0 : P = [] := by rw [HP.out]; unfold posE srtE; rw [h0]; simp [Lib.compact, Lib.compactUpTo]
        subst hv e0
        clear ho h0 h2 HO
        go_wp2_with fail
        refine (sort_no none 0 _).mono ?_
        rintro e w1 ⟨rfl, rfl⟩
        go_wp2_with fail
        refine (compact_no none 0 _).mono ?_
        rintro e w1 ⟨rfl, rfl⟩
        go_wp2
        go_ret
        exact ⟨_, rfl, .inl ⟨rfl, rfl⟩, hf⟩
      · subst hv
        have hf0 := hf.size
        have hs := srt_perm L
        have hsl : (srtE L).length = (plE L).length := hs.length_eq
        obtain ⟨n, hn0⟩ : ∃ n, n = (plE L).length := ⟨_, rfl⟩
        have HN := hidE hn0
        have hPl : P = Lib.compact (srtE L) := HP.out
        have S1 := hidE (fun (W : World) (h : CsE (Value.int .i64) W g (plE L)) => sort_at (cap := cp) h (by omega))
        have S2 := hidE (fun (W : World) (h : CsE (Value.int .i64) W g (srtE L)) => compact_at (cap := cp) h (by omega) (by omega))
        rw [← hPl] at S2
        clear hPl
        rw [← hn0]
        clear ho hs h2 hn0 HO
        go_wp2_with fail
        rw [HN.out]
        refine (S1.out _ h6).mono ?_
        rintro e w1 ⟨rfl, h7, k7⟩
        rw [← HN.out]
        go_wp2_with fail
        have S3 := S2.out w1 h7
        rw [hsl, ← HN.out] at S3
        refine S3.mono ?_
        rintro e w2 ⟨rfl, h8, k8⟩
        clear S3
        go_wp2
        go_ret
        refine ⟨_, rfl, .inr ⟨g, cp, rfl, by omega, h8⟩, (hf.trans k7 (fun i h e => ?_)).trans k8 (fun i h e => ?_)⟩
        · omega
        · omega
end Go.Proofs.Ytapagoaoglmegaa
