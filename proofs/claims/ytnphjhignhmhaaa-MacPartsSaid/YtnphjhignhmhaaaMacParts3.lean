/- MacParts: the walk. (Written by parts_gen.py.) -/
import Derived.Test.YtnphjhignhmhaaaMacParts
namespace Go.Proofs.Ytnphjhignhmhaaa
open Go.RowKit
set_option linter.unusedVariables false
set_option linter.unusedSimpArgs false
set_option maxRecDepth 100000

set_option maxHeartbeats 4000000 in
theorem parts_gt (k a b : Int) (ad : Addr) (len cap : Nat) (at_ behind : Int) (w : World) (l : List Int) (hl : l.length = 200) (hb : Byt w (.slice (some ad) 200 cap) l) (hlen : 200 < len) (hcap : len ≤ cap) (hcm : cap ≤ 9223372036854775807)
    (hat0 : 0 ≤ at_) (hbe0 : 0 ≤ behind) (hat1 : at_ ≤ 65535) (hbe1 : behind ≤ 65535) :
    Calls Try.prog 4 #[.agg #[.int .u32 k, .int .u64 a, .int .u64 b], .slice (some ad) len cap, .int .u16 at_, .int .u16 behind] w fun e w' => e = .returned (.bool true) ∧ Fr (fun _ => False) w w' := by
  have hx0 : 0 ≤ at_ % 201 := by first | exact Int.emod_nonneg _ (by omega) | omega
  have hx1 : at_ % 201 < 201 := by first | exact Int.emod_lt_of_pos _ (by omega) | omega
  have hy0 : 0 ≤ behind % (201 - at_ % 201) := Int.emod_nonneg _ (by omega)
  have hy1 : behind % (201 - at_ % 201) < 201 - at_ % 201 := Int.emod_lt_of_pos _ (by omega)
  have Hb := hid hb
  have Hl := hid hl
  clear hb hl
  go_enter Try.func4, Try.ntmps4
  go_wp2_with fail
  generalize hW : World.alloc (World.alloc w _) _ = W
  have f0 : Fr (fun _ => False) w W := by subst hW; (repeat' (first | (with_reducible exact Fr.refl _ _) | (with_reducible assumption) | (with_reducible refine Fr.alloc ?_ _) | (with_reducible refine Fr.drew ?_) | (with_reducible refine Fr.drewN ?_ _) | (with_reducible refine Fr.setCell ?_ _ _ ?_) | (exact Or.inr rfl) | (left; simp; done) | (left; simp; omega) | (simp; done) | (simp; omega) | omega))
  have b0 : Blk W w.heap.size #[.int .u32 k, .int .u64 a, .int .u64 b] 25 := by subst hW; (repeat' (first | (with_reducible assumption) | (with_reducible apply Blk.drew) | (with_reducible apply Blk.drewN) | (with_reducible apply Blk.set) | (with_reducible apply Blk.other) | (exact Blk.new' _ _ _ (by first | rfl | (simp; done) | (simp; omega))) | (with_reducible apply Blk.alloc) | (with_reducible rfl) | (simp; done) | (simp; omega) | omega | rfl))
  have b1 : Blk W (w.heap.size + 1) #[.slice (some ad) 200 cap] 28 := by subst hW; (repeat' (first | (with_reducible assumption) | (with_reducible apply Blk.drew) | (with_reducible apply Blk.drewN) | (with_reducible apply Blk.set) | (with_reducible apply Blk.other) | (exact Blk.new' _ _ _ (by first | rfl | (simp; done) | (simp; omega))) | (with_reducible apply Blk.alloc) | (with_reducible rfl) | (simp; done) | (simp; omega) | omega | rfl))
  clear hW
  have l0 := b0.lt
  obtain ⟨T, hT⟩ : ∃ T, T = tagOf a b l := ⟨_, rfl⟩
  have HT := hid hT
  clear hT
  have hp1 : Parts W (.slice (some ⟨w.heap.size + 1, 0, none⟩) 1 1) [l] := Parts.one (v := .slice (some ad) 200 cap) (b1.cell 0) b1.lt (Hb.out.fr f0 (fun _ _ h => h))
  refine (tag_is (T := T) hp1 (by simp [HT.out]) (by simp [Hl.out] <;> omega)).mono ?_
  rintro e W1 ⟨rfl, k1⟩
  have f1 := f0.trans k1 (fun _ _ h => h)
  have b2 := b0.fr k1 (fun h => h)
  clear f0 k1 b0 b1 l0 hp1
  generalize at_ % 201 = X at *
  generalize behind % (201 - X) = B at *
  obtain ⟨x, rfl⟩ := Int.eq_ofNat_of_zero_le hx0
  obtain ⟨y, hy⟩ := Int.eq_ofNat_of_zero_le (show 0 ≤ (x : Int) + B by omega)
  simp only [hy]
  have hxy : x ≤ y := by omega
  have hyn : y ≤ 200 := by omega
  clear hx0 hx1 hy0 hy1 hy hat0 hbe0 hat1 hbe1
  go_wp2_with fail
  have HbW := hid (Hb.out.fr f1 (fun _ _ h => h))
  go_loopw [12, 13] (fun vs vi wr => ∃ (i : Nat) (vals : List Value), i ≤ 200 ∧ vi = .int .i64 i ∧ wr.ownsRow W1.heap.size 28 1 vs vals.length vals ∧ Alls W1 vals (eachL l i) ∧ Fr (fun _ => False) W1 wr) (fun _ vi _ => 200 - (intOf vi).toNat)
  case atStart => exact ⟨0, [], by omega, rfl, World.ownsRow_nil W1 _ _ _, Alls.nil _, Fr.refl _ _⟩
  case round =>
    obtain ⟨i, vals, hi, rfl, ho, ha, hf⟩ := hrel
    by_cases hlt : i < 200
    · have hvl := ha.1
      rw [eachL_length (by rw [Hl.out]; exact hi)] at hvl
      obtain ⟨c, hc⟩ : ∃ c, l[i]? = some c := ⟨l[i]'(by rw [Hl.out]; exact hlt), List.getElem?_eq_getElem _⟩
      have hby := Byt.one_of HbW.out hc
      have Hby := hid hby
      have Hc := hid hc
      clear hby hc
      go_wp2_with (first
        | (at_builtin
           generalize hW : World.alloc wr _ = W
           have o1 : W.ownsRow W1.heap.size 28 1 u12 vals.length vals := own_fr ho (by subst hW; (repeat' (first | (with_reducible exact Fr.refl _ _) | (with_reducible assumption) | (with_reducible refine Fr.alloc ?_ _) | (with_reducible refine Fr.drew ?_) | (with_reducible refine Fr.drewN ?_ _) | (with_reducible refine Fr.setCell ?_ _ _ ?_) | (exact Or.inr rfl) | (left; simp; done) | (left; simp; omega) | (simp; done) | (simp; omega) | omega)))
           have f2 : Fr (fun _ => False) W1 W := by subst hW; (repeat' (first | (with_reducible exact Fr.refl _ _) | (with_reducible assumption) | (with_reducible refine Fr.alloc ?_ _) | (with_reducible refine Fr.drew ?_) | (with_reducible refine Fr.drewN ?_ _) | (with_reducible refine Fr.setCell ?_ _ _ ?_) | (exact Or.inr rfl) | (left; simp; done) | (left; simp; omega) | (simp; done) | (simp; omega) | omega))
           have l1 : Lst W 28 (.slice (some ⟨wr.heap.size, 0, none⟩) 2 2) [(.slice (some (ad.add i)) 1 (cap - i)), .slice none 0 0] := by subst hW; exact Lst.new wr 28 [(.slice (some (ad.add i)) 1 (cap - i)), .slice none 0 0] (by simp) (by simp [maxLen])
           have s1 := f2.size
           clear hW ho hf
           refine wpList_append_lst rfl _ _ 26 rfl W1.heap.size 28 (.slice none 0 0) 24 Try.underlying26 infoBytes rfl u12 _ vals [(.slice (some (ad.add i)) 1 (cap - i)), .slice none 0 0] rfl rfl o1 l1 (by simp [Value.oneCell']) (by simp [maxLen]; omega) (by simp; omega) s1 ?_
           intro va w2 o2 g2 _
           have f3 : Fr (fun _ => False) W1 w2 := f2.grown g2 (fun k hk => by
             rcases o1.2 with ⟨rfl, _⟩ | ⟨g', _, _, rfl, hg', _⟩
             · simp [Value.ownBlock] at hk
             · simp [Value.ownBlock] at hk; omega)
           clear g2 o1 f2 l1 s1))
      have ha2 : Alls W1 (vals ++ [(.slice (some (ad.add i)) 1 (cap - i)), .slice none 0 0]) (eachL l (i + 1)) := by
        rw [eachL_succ Hc.out]
        exact ha.snoc2 Hby.out (Byt.nil _)
      go_roundw
      case rel => exact ⟨i + 1, _, by omega, by go_num, o2, ha2, f3⟩
      case measure => simp [intOf]; omega
    · have hin : 200 = i := by omega
      subst hin
      have hbk := b2.fr hf (fun h => h)
      have hpa : Parts wr u12 (eachL l 200) := Parts.of_alls (Lst.of_own ho) ha hf
      obtain ⟨le, hle⟩ : ∃ le, le = eachL l 200 := ⟨_, rfl⟩
      rw [← hle] at hpa
      have hw := HbW.out.fr hf (fun _ _ h => h)
      have h1x := ByteDropI hw x (by omega)
      have h2x := hw.subI x (y - x) (by omega)
      have h1y := ByteDropI hw y (by omega)
      obtain ⟨Ax, hAx⟩ : ∃ Ax, (if cap = x then some ad else some (ad.add x)) = Ax := ⟨_, rfl⟩
      obtain ⟨Ay, hAy⟩ : ∃ Ay, (if cap = y then some ad else some (ad.add y)) = Ay := ⟨_, rfl⟩
      rw [hAx] at h1x h2x
      rw [hAy] at h1y
      have mp : MP W1 w.heap.size k a b (.slice (some ad) x cap) (.slice Ax (200 - x) (cap - x)) (.slice Ax (y - x) (cap - x)) (.slice Ay (200 - y) (cap - y)) (.slice (some ad) y cap) (.slice (some ad) 200 cap) u12 l le x y wr := ⟨hbk.cell 0, hbk.cell 1, hbk.cell 2, hw.pre x (by omega), h1x, h2x, h1y, hw.pre y (by omega), hw, Byt.nil _, hpa, hf⟩
      have mpd := mp.fr ((Fr.refl _ _).drew)
      have E5 := hid (parts5 (l := l) hxy)
      have E2x := hid (parts2 (l := l) (x := x))
      have E2y := hid (parts2 (l := l) (x := y))
      have EE := hid (show le.flatten = l by rw [hle, eachL_flat, List.take_of_length_le (by rw [Hl.out]; omega)])
      have E1 := hid (show [l].flatten = l by simp)
      have HS := hid (show l.length ≤ 4611686018427387904 by rw [Hl.out]; omega)
      obtain ⟨A', cap', hva, hc1, hc2, _⟩ := hpa
      subst hva
      generalize le.length = nle at *
      clear hle h1x h2x h1y hbk hw ho ha hc1 hc2 hi hlt b2 mp hf HbW
      generalize w.heap.size = g0 at *
      have i1 : (0 : Int) ≤ (x : Int) := by omega
      have i2 : (x : Int) ≤ (cap : Int) := by omega
      have i3 : (x : Int) ≤ (200 : Int) := by omega
      have i4 : (x : Int) ≤ (y : Int) := by omega
      have i5 : (y : Int) ≤ (cap : Int) := by omega
      have i6 : (y : Int) ≤ (200 : Int) := by omega
      have i7 : (0 : Int) ≤ (y : Int) := by omega
      have i8 : x ≤ 200 := by omega
      have i9 : x ≤ cap := by omega
      have i10 : y ≤ cap := by omega
      have i11 : 200 ≤ cap := by omega
      have i12 : (200 : Int) ≤ (cap : Int) := by omega
      obtain ⟨T1, hT1⟩ : ∃ T1, IntKind.u64.wrap (T + 1) = T1 := ⟨_, rfl⟩
      go_wp2_with fail
      go_region_held3 (fun w' => w'.cell? ⟨g0, 0, none⟩ = some (.int .u32 k) ∧ w'.cell? ⟨g0, 1, none⟩ = some (.int .u64 a) ∧ w'.cell? ⟨g0, 2, none⟩ = some (.int .u64 b) ∧
          Byt w' (.slice (some ad) x cap) (l.take x) ∧ Byt w' (.slice Ax (200 - x) (cap - x)) (l.drop x) ∧ Byt w' (.slice Ax (y - x) (cap - x)) ((l.drop x).take (y - x)) ∧ Byt w' (.slice Ay (200 - y) (cap - y)) (l.drop y) ∧ Byt w' (.slice (some ad) y cap) (l.take y) ∧ Byt w' (.slice (some ad) 200 cap) l ∧ Byt w' (.slice none 0 0) [] ∧ Parts w' (.slice A' nle cap') le ∧ Fr (fun _ => False) W1 w')
        (first | exact mpd | assumption | exact MP.fr ((Fr.refl _ _).alloc _) (by assumption) | exact MP.fr (by assumption) (by assumption))
        (first
          | (go_at_call 10; refine (tag_is (T := T) (ls := [l.take x, l.drop x]) ?_ ?_ ?_).mono ?_; (focus ((try dsimp only at *); go_split_ands; refine Parts.two (u := (.slice (some ad) x cap)) (v := (.slice Ax (200 - x) (cap - x))) ?_ ?_ ?_ ?_ ?_; (focus (first | (refine (cell_new ?_).trans rfl; (first | rfl | (simp; done))) | (refine (World.cell?_alloc_lt _ _ _ ?_).trans ?_; (focus (first | (simp; done) | (simp; omega))); (refine (cell_new ?_).trans rfl; (first | rfl | (simp; done)))) | (refine (Fr.cell k1 ?_ (fun h => h)).trans ?_; (focus (first | (simp; done) | (simp; omega))); (refine (cell_new ?_).trans rfl; (first | rfl | (simp; done)))) | (refine (Fr.cell k1 ?_ (fun h => h)).trans ((World.cell?_alloc_lt _ _ _ ?_).trans ?_); (focus (first | (simp; done) | (simp; omega))); (focus (first | (simp; done) | (simp; omega))); (refine (cell_new ?_).trans rfl; (first | rfl | (simp; done)))))); (focus (first | (refine (cell_new ?_).trans rfl; (first | rfl | (simp; done))) | (refine (World.cell?_alloc_lt _ _ _ ?_).trans ?_; (focus (first | (simp; done) | (simp; omega))); (refine (cell_new ?_).trans rfl; (first | rfl | (simp; done)))) | (refine (Fr.cell k1 ?_ (fun h => h)).trans ?_; (focus (first | (simp; done) | (simp; omega))); (refine (cell_new ?_).trans rfl; (first | rfl | (simp; done)))) | (refine (Fr.cell k1 ?_ (fun h => h)).trans ((World.cell?_alloc_lt _ _ _ ?_).trans ?_); (focus (first | (simp; done) | (simp; omega))); (focus (first | (simp; done) | (simp; omega))); (refine (cell_new ?_).trans rfl; (first | rfl | (simp; done)))))); (focus (first | (simp; done) | (simp; omega) | (refine Fr.lt k1 ?_; (first | (simp; done) | (simp; omega))))); (focus assumption); (focus assumption))); (focus (rw [E2x.out]; exact HT.out)); (focus (rw [E2x.out]; exact HS.out)); rintro e w1 ⟨rfl, k1⟩)
          | (go_at_call 10; refine (tag_is (T := T) (ls := [[], l.take x, (l.drop x).take (y - x), [], l.drop y]) ?_ ?_ ?_).mono ?_; (focus ((try dsimp only at *); go_split_ands; refine Parts.five (u0 := .slice none 0 0) (u1 := (.slice (some ad) x cap)) (u2 := (.slice Ax (y - x) (cap - x))) (u3 := .slice none 0 0) (u4 := (.slice Ay (200 - y) (cap - y))) ?_ ?_ ?_ ?_ ?_ ?_ ?_ ?_ ?_ ?_ ?_; (focus (first | (refine (cell_new ?_).trans rfl; (first | rfl | (simp; done))) | (refine (World.cell?_alloc_lt _ _ _ ?_).trans ?_; (focus (first | (simp; done) | (simp; omega))); (refine (cell_new ?_).trans rfl; (first | rfl | (simp; done)))) | (refine (Fr.cell k1 ?_ (fun h => h)).trans ?_; (focus (first | (simp; done) | (simp; omega))); (refine (cell_new ?_).trans rfl; (first | rfl | (simp; done)))) | (refine (Fr.cell k1 ?_ (fun h => h)).trans ((World.cell?_alloc_lt _ _ _ ?_).trans ?_); (focus (first | (simp; done) | (simp; omega))); (focus (first | (simp; done) | (simp; omega))); (refine (cell_new ?_).trans rfl; (first | rfl | (simp; done)))))); (focus (first | (refine (cell_new ?_).trans rfl; (first | rfl | (simp; done))) | (refine (World.cell?_alloc_lt _ _ _ ?_).trans ?_; (focus (first | (simp; done) | (simp; omega))); (refine (cell_new ?_).trans rfl; (first | rfl | (simp; done)))) | (refine (Fr.cell k1 ?_ (fun h => h)).trans ?_; (focus (first | (simp; done) | (simp; omega))); (refine (cell_new ?_).trans rfl; (first | rfl | (simp; done)))) | (refine (Fr.cell k1 ?_ (fun h => h)).trans ((World.cell?_alloc_lt _ _ _ ?_).trans ?_); (focus (first | (simp; done) | (simp; omega))); (focus (first | (simp; done) | (simp; omega))); (refine (cell_new ?_).trans rfl; (first | rfl | (simp; done)))))); (focus (first | (refine (cell_new ?_).trans rfl; (first | rfl | (simp; done))) | (refine (World.cell?_alloc_lt _ _ _ ?_).trans ?_; (focus (first | (simp; done) | (simp; omega))); (refine (cell_new ?_).trans rfl; (first | rfl | (simp; done)))) | (refine (Fr.cell k1 ?_ (fun h => h)).trans ?_; (focus (first | (simp; done) | (simp; omega))); (refine (cell_new ?_).trans rfl; (first | rfl | (simp; done)))) | (refine (Fr.cell k1 ?_ (fun h => h)).trans ((World.cell?_alloc_lt _ _ _ ?_).trans ?_); (focus (first | (simp; done) | (simp; omega))); (focus (first | (simp; done) | (simp; omega))); (refine (cell_new ?_).trans rfl; (first | rfl | (simp; done)))))); (focus (first | (refine (cell_new ?_).trans rfl; (first | rfl | (simp; done))) | (refine (World.cell?_alloc_lt _ _ _ ?_).trans ?_; (focus (first | (simp; done) | (simp; omega))); (refine (cell_new ?_).trans rfl; (first | rfl | (simp; done)))) | (refine (Fr.cell k1 ?_ (fun h => h)).trans ?_; (focus (first | (simp; done) | (simp; omega))); (refine (cell_new ?_).trans rfl; (first | rfl | (simp; done)))) | (refine (Fr.cell k1 ?_ (fun h => h)).trans ((World.cell?_alloc_lt _ _ _ ?_).trans ?_); (focus (first | (simp; done) | (simp; omega))); (focus (first | (simp; done) | (simp; omega))); (refine (cell_new ?_).trans rfl; (first | rfl | (simp; done)))))); (focus (first | (refine (cell_new ?_).trans rfl; (first | rfl | (simp; done))) | (refine (World.cell?_alloc_lt _ _ _ ?_).trans ?_; (focus (first | (simp; done) | (simp; omega))); (refine (cell_new ?_).trans rfl; (first | rfl | (simp; done)))) | (refine (Fr.cell k1 ?_ (fun h => h)).trans ?_; (focus (first | (simp; done) | (simp; omega))); (refine (cell_new ?_).trans rfl; (first | rfl | (simp; done)))) | (refine (Fr.cell k1 ?_ (fun h => h)).trans ((World.cell?_alloc_lt _ _ _ ?_).trans ?_); (focus (first | (simp; done) | (simp; omega))); (focus (first | (simp; done) | (simp; omega))); (refine (cell_new ?_).trans rfl; (first | rfl | (simp; done)))))); (focus (first | (simp; done) | (simp; omega) | (refine Fr.lt k1 ?_; (first | (simp; done) | (simp; omega))))); (focus assumption); (focus assumption); (focus assumption); (focus assumption); (focus assumption))); (focus (rw [E5.out]; exact HT.out)); (focus (rw [E5.out]; exact HS.out)); rintro e w1 ⟨rfl, k1⟩)
          | (go_at_call 10; refine (tag_is (T := T) (ls := le) ?_ ?_ ?_).mono ?_; (focus ((try dsimp only at *); go_split_ands; assumption)); (focus (rw [EE.out]; exact HT.out)); (focus (rw [EE.out]; exact HS.out)); rintro e w1 ⟨rfl, k1⟩)
          | (go_at_call 11; with_reducible refine (right_is (T := T) (ls := [l.take y, l.drop y]) ?_ ?_ ?_).mono ?_; (focus ((try dsimp only at *); go_split_ands; refine Parts.two (u := (.slice (some ad) y cap)) (v := (.slice Ay (200 - y) (cap - y))) ?_ ?_ ?_ ?_ ?_; (focus (first | (refine (cell_new ?_).trans rfl; (first | rfl | (simp; done))) | (refine (World.cell?_alloc_lt _ _ _ ?_).trans ?_; (focus (first | (simp; done) | (simp; omega))); (refine (cell_new ?_).trans rfl; (first | rfl | (simp; done)))) | (refine (Fr.cell k1 ?_ (fun h => h)).trans ?_; (focus (first | (simp; done) | (simp; omega))); (refine (cell_new ?_).trans rfl; (first | rfl | (simp; done)))) | (refine (Fr.cell k1 ?_ (fun h => h)).trans ((World.cell?_alloc_lt _ _ _ ?_).trans ?_); (focus (first | (simp; done) | (simp; omega))); (focus (first | (simp; done) | (simp; omega))); (refine (cell_new ?_).trans rfl; (first | rfl | (simp; done)))))); (focus (first | (refine (cell_new ?_).trans rfl; (first | rfl | (simp; done))) | (refine (World.cell?_alloc_lt _ _ _ ?_).trans ?_; (focus (first | (simp; done) | (simp; omega))); (refine (cell_new ?_).trans rfl; (first | rfl | (simp; done)))) | (refine (Fr.cell k1 ?_ (fun h => h)).trans ?_; (focus (first | (simp; done) | (simp; omega))); (refine (cell_new ?_).trans rfl; (first | rfl | (simp; done)))) | (refine (Fr.cell k1 ?_ (fun h => h)).trans ((World.cell?_alloc_lt _ _ _ ?_).trans ?_); (focus (first | (simp; done) | (simp; omega))); (focus (first | (simp; done) | (simp; omega))); (refine (cell_new ?_).trans rfl; (first | rfl | (simp; done)))))); (focus (first | (simp; done) | (simp; omega) | (refine Fr.lt k1 ?_; (first | (simp; done) | (simp; omega))))); (focus assumption); (focus assumption))); (focus (rw [E2y.out]; exact HT.out)); (focus (rw [E2y.out]; exact HS.out)); rintro e w1 ⟨rfl, k1⟩)
          | (go_at_call 11; with_reducible refine (right_no (T := T) (ls := [l]) hT1 ?_ ?_ ?_).mono ?_; (focus ((try dsimp only at *); go_split_ands; refine Parts.one (v := (.slice (some ad) 200 cap)) ?_ ?_ ?_; (focus (first | (refine (cell_new ?_).trans rfl; (first | rfl | (simp; done))) | (refine (World.cell?_alloc_lt _ _ _ ?_).trans ?_; (focus (first | (simp; done) | (simp; omega))); (refine (cell_new ?_).trans rfl; (first | rfl | (simp; done)))) | (refine (Fr.cell k1 ?_ (fun h => h)).trans ?_; (focus (first | (simp; done) | (simp; omega))); (refine (cell_new ?_).trans rfl; (first | rfl | (simp; done)))) | (refine (Fr.cell k1 ?_ (fun h => h)).trans ((World.cell?_alloc_lt _ _ _ ?_).trans ?_); (focus (first | (simp; done) | (simp; omega))); (focus (first | (simp; done) | (simp; omega))); (refine (cell_new ?_).trans rfl; (first | rfl | (simp; done)))))); (focus (first | (simp; done) | (simp; omega) | (refine Fr.lt k1 ?_; (first | (simp; done) | (simp; omega))))); (focus assumption))); (focus (rw [E1.out]; exact HT.out)); (focus (rw [E1.out]; exact HS.out)); rintro e w1 ⟨rfl, k1⟩)
          | (go_at_call 12; refine (wakes_at _).mono ?_; rintro e w1 ⟨rfl, k1⟩))
      all_goals go_wp2
      all_goals go_ret
      all_goals (refine ⟨rfl, f1.trans ?_ (fun _ _ h => h)⟩; go_split_ands; assumption)
end Go.Proofs.Ytnphjhignhmhaaa
