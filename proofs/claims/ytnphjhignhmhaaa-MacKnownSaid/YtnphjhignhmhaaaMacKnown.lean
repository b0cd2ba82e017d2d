/- MacKnown: the walk of the law. -/
import Derived.Test.YtnphjhignhmhaaaMacFind
import Derived.Test.YtnphjhignhmhaaaMacWords
namespace Go.Proofs.Ytnphjhignhmhaaa
open Go.RowKit Go.Proofs.YtnphjhignhmhaaaW.PrintWords Go.Proofs.YtnphjhignhmhaaaW.PrintLast Go.Proofs.YtnphjhignhmhaaaW.PrintMore
set_option linter.unusedVariables false
set_option linter.unusedSimpArgs false
set_option maxRecDepth 100000
def K16 (n : Nat) : List K3 := (List.range n).map fun (i : Nat) => ((i : Int) + 1, (i : Int) + 1, 0)
theorem K16_succ (n : Nat) : K16 (n + 1) = K16 n ++ [((n : Int) + 1, (n : Int) + 1, 0)] := by unfold K16; rw [List.range_succ]; simp
theorem K16_length (n : Nat) : (K16 n).length = n := by simp [K16]
theorem K16_ok {n : Nat} (hn : n ≤ 200) : ∀ k ∈ K16 n, KOk k := by
  intro k hk
  obtain ⟨i, hi, rfl⟩ := List.mem_map.1 hk
  have := List.mem_range.1 hi
  unfold KOk
  simp [Lit.wf, IntKind.min, IntKind.max, IntKind.bits, IntKind.signed]
  omega
def K17 : List K3 := K16 16 ++ [(99, 0, 0)]
def KTwice : List K3 := [(1, 0, 0), (2, 0, 0), (1, 0, 0)]
def KZero : List K3 := [(1, 0, 0), (1, 0, 0), (0, 0, 0)]
theorem okTwice : ∀ k ∈ KTwice, KOk k := by intro k hk; simp [KTwice] at hk; rcases hk with rfl | rfl | rfl <;> rfl
theorem okZero : ∀ k ∈ KZero, KOk k := by intro k hk; simp [KZero] at hk; rcases hk with rfl | rfl | rfl <;> rfl
theorem e16 : newE (K16 16) = 0 := by decide
theorem e17 : newE K17 = 7 := by decide
theorem eTwice : newE KTwice = 9 := by decide
theorem eZero : newE KZero = 1 := by decide
theorem eNil : newE [] = 0 := by decide
theorem f16 : fz (K16 16) 16 = (16, 16, 0) ∧ (fnd (K16 16) 16).isSome = true := by decide
theorem f17 : fz (K16 16) 17 = (0, 0, 0) ∧ (fnd (K16 16) 17).isSome = false := by decide
theorem Ks.blk {w : World} {b : Nat} {l : List K3} (h : Blk w b (flat3 l).toArray 25) (hk : ∀ k ∈ l, KOk k) : Ks w (some ⟨b, 0, none⟩) l := by
  refine ⟨hk, fun _ => ⟨b, 0, rfl, h.lt, fun i k hi => ?_⟩⟩
  have key : ∀ j v, j < 3 → (enc3 k)[j]? = some v → w.cell? ⟨b, 0 + i * 3 + j, none⟩ = some v := by
    intro j v hj hv
    rw [h.cell]
    have hf := flat3_get l i j k hi hj
    rw [hv] at hf
    simpa using hf
  exact ⟨key 0 _ (by omega) rfl, key 1 _ (by omega) rfl, key 2 _ (by omega) rfl⟩
theorem Byt.drop {w : World} {g off n cap : Nat} {l : List Int} (h : Byt w (.slice (some ⟨g, off, none⟩) n cap) l) (k : Nat) (hk : k ≤ n) : Byt w (.slice (some ⟨g, off + k, none⟩) (n - k) (cap - k)) (l.drop k) := by
  obtain ⟨A, c, hv, h1, h2, h3, h4⟩ := h
  injection hv with e1 e2 e3
  subst e1 e2 e3
  refine ⟨_, _, by rw [List.length_drop], by rw [List.length_drop]; omega, by omega, fun c hc => h3 c (List.mem_of_mem_drop hc), ?_⟩
  rcases h4 with h4 | ⟨r, o, hA, hr, hc⟩
  · left; rw [h4]; simp
  · injection hA with hA
    injection hA with e1 e2
    subst e1 e2
    refine .inr ⟨g, off + k, rfl, hr, fun i c hi => ?_⟩
    rw [List.getElem?_drop] at hi
    have := hc (k + i) c hi
    rwa [← Nat.add_assoc] at this
theorem Byt.open' {w : World} {v : Value} {l : List Int} (h : Byt w v l) (h0 : l ≠ []) : ∃ r off cap, v = .slice (some ⟨r, off, none⟩) l.length cap ∧ l.length ≤ cap ∧ cap ≤ maxLen := by
  obtain ⟨A, c, hv, h1, h2, h3, h4⟩ := h
  rcases h4 with h4 | ⟨r, o, rfl, hr, hc⟩
  · exact absurd h4 h0
  · exact ⟨r, o, c, hv, h1, h2⟩
theorem newR_ok {w w' : World} {l : List K3} {e : Ending} (h : NewR w l e w') (h0 : newE l = 0) : Fr (fun _ => False) w w' ∧ ∃ g m, e = .returned (.tuple #[.pointer (some ⟨g, 0, none⟩), .int .i64 0]) ∧ Tb w' g m l.length l ∧ w.heap.size ≤ g ∧ w.heap.size ≤ m := by
  obtain ⟨h1, ⟨h2, _⟩ | ⟨_, h3⟩⟩ := h
  · exact absurd h0 h2
  · exact ⟨h1, h3⟩
theorem newR_no {w w' : World} {l : List K3} {e : Ending} {c : Int} (h : NewR w l e w') (h0 : newE l = c) (hc : c ≠ 0) : Fr (fun _ => False) w w' ∧ e = .returned (.tuple #[.pointer none, .int .i64 c]) := by
  obtain ⟨h1, ⟨_, h2⟩ | ⟨h3, _⟩⟩ := h
  · exact ⟨h1, by rw [h2, h0]⟩
  · exact absurd (h0.symm.trans h3) hc
theorem wakeTwo : tagOf 506097522914230528 1084818905618843912 [count 7, (count 15).drop 7].flatten = 11613035633349379557 := by kernel_rfl

set_option maxHeartbeats 8000000 in
theorem macKnown_walk (w : World) : Calls Try.prog 7 #[] w fun e w' => e = .returned (.bool true) ∧ Fr (fun _ => False) w w' := by
  go_enter Try.func7, Try.ntmps7
  go_wp2_with fail
  refine (find_nil 1 _).mono ?_
  rintro e w1 ⟨rfl, k1⟩
  go_wp2_with fail
  generalize hW : World.alloc w1 _ = W
  have f1 : Fr (fun _ => False) w W := by subst hW; (repeat' (first | (with_reducible exact Fr.refl _ _) | (with_reducible assumption) | (with_reducible refine Fr.alloc ?_ _) | (with_reducible refine Fr.drew ?_) | (with_reducible refine Fr.drewN ?_ _) | (with_reducible refine Fr.setCell ?_ _ _ ?_) | (exact Or.inr rfl) | (left; simp; done) | (left; simp; omega) | (simp; done) | (simp; omega) | omega))
  clear hW k1
  go_loopw [4, 5] (fun vl vi wr => ∃ i : Nat, i ≤ 16 ∧ vi = .int .u32 ((i : Int) + 1) ∧ wr.ownsRow w.heap.size 25 3 vl (K16 i).length (flat3 (K16 i)) ∧ Fr (fun _ => False) w wr) (fun _ vi _ => 17 - (intOf vi).toNat)
  case atStart => exact ⟨0, by omega, rfl, own3_nil _ _, f1⟩
  case round =>
    obtain ⟨i, hi, rfl, ho, hf⟩ := hrel
    by_cases hlt : i < 16
    · have t0 : (i : Int) + 1 ≤ 16 := by omega
      have hs := hf.size
      go_wp2_with (first
        | (at_builtin
           generalize hW : World.alloc wr _ = W2
           have f2 : Fr (fun _ => False) wr W2 := by subst hW; (repeat' (first | (with_reducible exact Fr.refl _ _) | (with_reducible assumption) | (with_reducible refine Fr.alloc ?_ _) | (with_reducible refine Fr.drew ?_) | (with_reducible refine Fr.drewN ?_ _) | (with_reducible refine Fr.setCell ?_ _ _ ?_) | (exact Or.inr rfl) | (left; simp; done) | (left; simp; omega) | (simp; done) | (simp; omega) | omega))
           have b2 : Blk W2 wr.heap.size #[.int .u32 ((i : Int) + 1), .int .u64 ((i : Int) + 1), .int .u64 0] 25 := by subst hW; (repeat' (first | (with_reducible assumption) | (with_reducible apply Blk.drew) | (with_reducible apply Blk.drewN) | (with_reducible apply Blk.set) | (with_reducible apply Blk.other) | (exact Blk.new' _ _ _ (by first | rfl | (simp; done) | (simp; omega))) | (with_reducible apply Blk.alloc) | (with_reducible rfl) | (simp; done) | (simp; omega) | omega | rfl))
           have k2 : Ks W2 (some ⟨wr.heap.size, 0, none⟩) [((i : Int) + 1, (i : Int) + 1, 0)] := Ks.blk b2 (fun k hk => K16_ok (n := i + 1) (by omega) k (by rw [K16_succ]; exact List.mem_append_right _ hk))
           have o2 := own3_fr ho f2 (fun _ _ h => h)
           have s2 := f2.size
           clear hW
           refine wpList_append_ks rfl _ _ rfl w.heap.size u4 (K16 i) [((i : Int) + 1, (i : Int) + 1, 0)] _ 1 1 rfl rfl o2 k2 rfl (by rw [K16_length]; simp; omega) (by omega) ?_
           intro v' w3 o3 g3 _
           rw [← K16_succ] at o3
           have f3 : Fr (fun _ => False) w w3 := (hf.trans f2 (fun _ _ h => h)).grown g3 (fun k hk => by
             rcases o2.2 with ⟨rfl, _⟩ | ⟨g', _, _, rfl, hg', _⟩
             · simp [Value.ownBlock] at hk
             · simp [Value.ownBlock] at hk; omega)
           clear k2 o2 g3 b2 f2 ho))
      go_roundw
      case rel => exact ⟨i + 1, by omega, by go_num, o3, f3⟩
      case measure => simp [intOf]; omega
    · obtain rfl : i = 16 := by omega
      clear hi hlt
      rw [K16_length] at ho
      obtain ⟨A, cap, rfl, hnc, hcm, hk, hbk, hA⟩ := own_ks ho (K16_length 16).symm (K16_ok (by omega))
      have HO := hid ho
      have HA := hid hA
      clear ho hbk hA
      go_wp2_with fail
      refine (new_at hk (K16_length 16).symm (by rw [K16_length]; omega)).mono ?_
      intro e w2 hN
      obtain ⟨f2, g, m, rfl, ht, hg, hm⟩ := newR_ok hN e16
      have o2 := own3_fr HO.out f2 (fun _ _ h => h)
      rw [K16_length] at ht
      have F2 := hf.trans f2 (fun _ _ h => h)
      have HT := hid ht
      clear hN hk ht
      go_wp2_with (first
        | (at_builtin
           generalize hW : World.alloc w2 _ = W3
           have f3 : Fr (fun _ => False) w2 W3 := by subst hW; (repeat' (first | (with_reducible exact Fr.refl _ _) | (with_reducible assumption) | (with_reducible refine Fr.alloc ?_ _) | (with_reducible refine Fr.drew ?_) | (with_reducible refine Fr.drewN ?_ _) | (with_reducible refine Fr.setCell ?_ _ _ ?_) | (exact Or.inr rfl) | (left; simp; done) | (left; simp; omega) | (simp; done) | (simp; omega) | omega))
           have b3 : Blk W3 w2.heap.size #[.int .u32 99, .int .u64 0, .int .u64 0] 25 := by subst hW; (repeat' (first | (with_reducible assumption) | (with_reducible apply Blk.drew) | (with_reducible apply Blk.drewN) | (with_reducible apply Blk.set) | (with_reducible apply Blk.other) | (exact Blk.new' _ _ _ (by first | rfl | (simp; done) | (simp; omega))) | (with_reducible apply Blk.alloc) | (with_reducible rfl) | (simp; done) | (simp; omega) | omega | rfl))
           have k3 : Ks W3 (some ⟨w2.heap.size, 0, none⟩) [(99, 0, 0)] := Ks.blk b3 (fun k hk => by simp at hk; subst hk; rfl)
           have o3 := own3_fr o2 f3 (fun _ _ h => h)
           have s3 := (F2.trans f3 (fun _ _ h => h)).size
           clear hW
           refine wpList_append_ks rfl _ _ rfl w.heap.size (.slice A 16 cap) (K16 16) [(99, 0, 0)] _ 1 1 rfl rfl (by rw [K16_length]; exact o3) k3 rfl (by rw [K16_length]; simp) (by omega) ?_
           intro v4 w4 o4 g4 _
           have f4 := (F2.trans f3 (fun _ _ h => h)).grown (S := fun _ => False) g4 (fun k hk => by
             rcases o3.2 with ⟨e, _⟩ | ⟨g', _, _, e, hg', _⟩
             · rw [e] at hk; simp [Value.ownBlock] at hk
             · rw [e] at hk; simp [Value.ownBlock] at hk; omega)
           have t4 : Tb w4 g m 16 (K16 16) := by
             have h3 := HT.out.fr0 f3
             have no : ∀ q, wr.heap.size ≤ q → (Value.slice A 16 cap).ownBlock ≠ some q := fun q hq e => by
               rcases o3.2 with ⟨e1, _⟩ | ⟨g', _, _, e1, hg', _⟩
               · rw [e1] at e; simp [Value.ownBlock] at e
               · rw [e1] at e; simp [Value.ownBlock] at e; injection e1 with e1; have := (HA.out g' 0 e1).2; omega
             exact h3.fr (S := fun i => (Value.slice A 16 cap).ownBlock = some i) ⟨g4.os, g4.tape, g4.output, g4.size, fun k hk hn => g4.block k hk (fun e => hn e.symm)⟩ (no g hg) (no m hm)
           clear k3 o3 g4 b3 f3 o2))
      obtain ⟨A4, cap4, rfl, _, _, hk4, _, _⟩ := own_ks (l := K17) o4 rfl (by
        intro k hk
        rcases List.mem_append.1 hk with h | h
        · exact K16_ok (by omega) k h
        · simp at h; subst h; rfl)
      have HT4 := hid t4
      clear t4 HT o4
      refine (new_at hk4 rfl (by rw [show K17.length = 17 from rfl]; omega)).mono ?_
      intro e w5 hN
      obtain ⟨f5, rfl⟩ := newR_no hN e17 (by decide)
      have F5 := f4.trans f5 (fun _ _ h => h)
      have HT5 := hid (HT4.out.fr0 f5)
      clear hN hk4 HT4 f4 f5
      go_wp2_with fail
      generalize hW : World.alloc w5 _ = W6
      have f6 : Fr (fun _ => False) w5 W6 := by subst hW; (repeat' (first | (with_reducible exact Fr.refl _ _) | (with_reducible assumption) | (with_reducible refine Fr.alloc ?_ _) | (with_reducible refine Fr.drew ?_) | (with_reducible refine Fr.drewN ?_ _) | (with_reducible refine Fr.setCell ?_ _ _ ?_) | (exact Or.inr rfl) | (left; simp; done) | (left; simp; omega) | (simp; done) | (simp; omega) | omega))
      have b6 : Blk W6 w5.heap.size (flat3 KTwice).toArray 25 := by subst hW; exact Blk.new' _ _ _ rfl
      clear hW
      refine (new_at (Ks.blk b6 okTwice) rfl (by decide)).mono ?_
      intro e w7 hN
      obtain ⟨f7, rfl⟩ := newR_no hN eTwice (by decide)
      have F7 := (F5.trans f6 (fun _ _ h => h)).trans f7 (fun _ _ h => h)
      have HT7 := hid ((HT5.out.fr0 f6).fr0 f7)
      clear hN F5 f6 f7 HT5 b6
      go_wp2_with fail
      generalize hW : World.alloc w7 _ = W8
      have f8 : Fr (fun _ => False) w7 W8 := by subst hW; (repeat' (first | (with_reducible exact Fr.refl _ _) | (with_reducible assumption) | (with_reducible refine Fr.alloc ?_ _) | (with_reducible refine Fr.drew ?_) | (with_reducible refine Fr.drewN ?_ _) | (with_reducible refine Fr.setCell ?_ _ _ ?_) | (exact Or.inr rfl) | (left; simp; done) | (left; simp; omega) | (simp; done) | (simp; omega) | omega))
      have b8 : Blk W8 w7.heap.size (flat3 KZero).toArray 25 := by subst hW; exact Blk.new' _ _ _ rfl
      clear hW
      refine (new_at (Ks.blk b8 okZero) rfl (by decide)).mono ?_
      intro e w9 hN
      obtain ⟨f9, rfl⟩ := newR_no hN eZero (by decide)
      have F9 := (F7.trans f8 (fun _ _ h => h)).trans f9 (fun _ _ h => h)
      have HT9 := hid ((HT7.out.fr0 f8).fr0 f9)
      clear hN F7 f8 f9 HT7 b8
      go_wp2_with fail
      refine (new_at (Ks.nil _ _) rfl (by decide)).mono ?_
      intro e w10 hN
      obtain ⟨f10, gu, mu, rfl, htu, _, _⟩ := newR_ok hN eNil
      have F10 := F9.trans f10 (fun _ _ h => h)
      have HT10 := hid (HT9.out.fr0 f10)
      have HU10 := hid htu
      clear hN F9 f10 HT9 htu
      go_wp2_with fail
      refine (find_at HT10.out (id := 16) (by decide)).mono ?_
      rw [f16.1, f16.2]
      unfold kv
      rintro e w11 ⟨rfl, f11⟩
      have F11 := F10.trans f11 (fun _ _ h => h)
      have HT11 := hid (HT10.out.fr0 f11)
      have HU11 := hid (HU10.out.fr0 f11)
      clear F10 f11 HT10 HU10
      go_wp2_with fail
      generalize hW : World.alloc w11 _ = W12
      have f12 : Fr (fun _ => False) w11 W12 := by subst hW; (repeat' (first | (with_reducible exact Fr.refl _ _) | (with_reducible assumption) | (with_reducible refine Fr.alloc ?_ _) | (with_reducible refine Fr.drew ?_) | (with_reducible refine Fr.drewN ?_ _) | (with_reducible refine Fr.setCell ?_ _ _ ?_) | (exact Or.inr rfl) | (left; simp; done) | (left; simp; omega) | (simp; done) | (simp; omega) | omega))
      have b12 : Blk W12 w11.heap.size #[.int .u32 16, .int .u64 16, .int .u64 0] 25 := by subst hW; (repeat' (first | (with_reducible assumption) | (with_reducible apply Blk.drew) | (with_reducible apply Blk.drewN) | (with_reducible apply Blk.set) | (with_reducible apply Blk.other) | (exact Blk.new' _ _ _ (by first | rfl | (simp; done) | (simp; omega))) | (with_reducible apply Blk.alloc) | (with_reducible rfl) | (simp; done) | (simp; omega) | omega | rfl))
      have HT12 := hid (HT11.out.fr0 f12)
      have HU12 := hid (HU11.out.fr0 f12)
      have F12 := F11.trans f12 (fun _ _ h => h)
      clear hW f12 HT11 HU11 F11
      refine (find_at HT12.out (id := 17) (by decide)).mono ?_
      rw [f17.1, f17.2]
      unfold kv
      rintro e w13 ⟨rfl, f13⟩
      have F13 := F12.trans f13 (fun _ _ h => h)
      have HT13 := hid (HT12.out.fr0 f13)
      have HU13 := hid (HU12.out.fr0 f13)
      have b13 := b12.fr f13 (fun h => h)
      have c13 := b13.cell 1
      have l13 := b13.lt
      simp at c13
      clear F12 f13 HT12 HU12 b12 b13
      have tA : ∀ W : World, Fr (fun _ => False) w13 W → Tb W g m 16 (K16 16) := fun W f => HT13.out.fr0 f
      have uA : ∀ W : World, Fr (fun _ => False) w13 W → Tb W gu mu 0 [] := fun W f => HU13.out.fr0 f
      have TA := hid tA
      have UA := hid uA
      clear tA uA HT13 HU13
      go_wp2_with fail
      generalize hW : World.alloc w13 _ = W14
      have f14 : Fr (fun _ => False) w13 W14 := by subst hW; (repeat' (first | (with_reducible exact Fr.refl _ _) | (with_reducible assumption) | (with_reducible refine Fr.alloc ?_ _) | (with_reducible refine Fr.drew ?_) | (with_reducible refine Fr.drewN ?_ _) | (with_reducible refine Fr.setCell ?_ _ _ ?_) | (exact Or.inr rfl) | (left; simp; done) | (left; simp; omega) | (simp; done) | (simp; omega) | omega))
      clear hW
      have F14 := F13.trans f14 (fun _ _ h => h)
      have tb := TA.out _ f14
      have ub := UA.out _ f14
      have e13 : W14.cell? ⟨w11.heap.size, 1, none⟩ = some (.int .u64 16) := (f14.cell (a := ⟨w11.heap.size, 1, none⟩) l13 (fun h => h)).trans c13
      have TB := hid tb
      have UB := hid ub
      clear tb ub TA UA f14 F13 c13
      refine (len_nil _).mono ?_
      rintro e w' ⟨rfl, rfl⟩
      go_wp2_with fail
      refine (len_at TB.out).mono ?_
      rintro e w' ⟨rfl, rfl⟩
      go_wp2_with fail
      refine (len_at UB.out).mono ?_
      rintro e w' ⟨rfl, rfl⟩
      clear TB UB
      go_wp2_with fail
      refine (known_at _).mono ?_
      rintro e w15 ⟨rfl, k15⟩
      have F15 := F14.trans k15 (fun _ _ h => h)
      clear F14 k15 e13
      go_wp2_with fail
      refine (counting_at 7 (by omega) w15).mono ?_
      rintro e w16 ⟨v7, rfl, b7, k16⟩
      obtain ⟨r7, o7, c7, rfl, hc7, hcm7⟩ := b7.open' (by decide)
      rw [count_length] at hc7 b7
      rw [count_length]
      have F16 := F15.trans k16 (fun _ _ h => h)
      clear F15 k16
      go_wp2_with fail
      refine (counting_at 15 (by omega) w16).mono ?_
      rintro e w17 ⟨v15, rfl, b15, k17⟩
      have F17 := F16.trans k17 (fun _ _ h => h)
      have b7 := b7.fr k17 (fun _ _ h => h)
      obtain ⟨r15, o15, c15, rfl, hc15, hcm15⟩ := b15.open' (by decide)
      rw [count_length] at hc15 b15
      have b15 := b15.drop 7 (by omega)
      clear F16 k17
      have t15 : ¬ c15 = 7 := by omega
      have t15' : (c15 == 7) = false := by rw [beq_eq_false_iff_ne]; omega
      have t15i : (15 : Int) ≤ (c15 : Int) := by omega
      rw [count_length]
      go_wp2_with fail
      generalize hW : World.alloc w17 _ = W18
      have f18 : Fr (fun _ => False) w17 W18 := by subst hW; (repeat' (first | (with_reducible exact Fr.refl _ _) | (with_reducible assumption) | (with_reducible refine Fr.alloc ?_ _) | (with_reducible refine Fr.drew ?_) | (with_reducible refine Fr.drewN ?_ _) | (with_reducible refine Fr.setCell ?_ _ _ ?_) | (exact Or.inr rfl) | (left; simp; done) | (left; simp; omega) | (simp; done) | (simp; omega) | omega))
      have b18 : Blk W18 w17.heap.size #[.slice (some ⟨r7, o7, none⟩) 7 c7, .slice (some ⟨r15, o15 + 7, none⟩) 8 (c15 - 7)] 28 := by subst hW; (repeat' (first | (with_reducible assumption) | (with_reducible apply Blk.drew) | (with_reducible apply Blk.drewN) | (with_reducible apply Blk.set) | (with_reducible apply Blk.other) | (exact Blk.new' _ _ _ (by first | rfl | (simp; done) | (simp; omega))) | (with_reducible apply Blk.alloc) | (with_reducible rfl) | (simp; done) | (simp; omega) | omega | rfl))
      clear hW
      have hp := Parts.two (b18.cell 0) (b18.cell 1) b18.lt (b7.fr f18 (fun _ _ h => h)) (b15.fr f18 (fun _ _ h => h))
      have F18 := F17.trans f18 (fun _ _ h => h)
      clear b18 f18 F17 b7 b15
      refine (tag_is (T := 11613035633349379557) hp wakeTwo.symm (by decide)).mono ?_
      rintro e w19 ⟨rfl, k19⟩
      have F19 := F18.trans k19 (fun _ _ h => h)
      clear hp F18 k19
      go_wp2_with fail
      refine (wakes_at w19).mono ?_
      rintro e w20 ⟨rfl, k20⟩
      go_wp2
      go_ret
      exact ⟨rfl, F19.trans k20 (fun _ _ h => h)⟩
end Go.Proofs.Ytnphjhignhmhaaa
