/- MacTables: tables of any keys find what the document's find. -/
import Derived.Test.YtnphjhignhmhaaaMacFind
import Derived.Test.YtnphjhignhmhaaaMacWakes2
import Derived.Deep.DeepCutAuto
namespace Go.Proofs.Ytnphjhignhmhaaa
open Go.RowKit Go.Proofs.YtnphjhignhmhaaaW.PrintWords Go.Proofs.YtnphjhignhmhaaaW.PrintLast Go.Proofs.YtnphjhignhmhaaaW.PrintMore
set_option linter.unusedVariables false
set_option linter.unusedSimpArgs false
set_option maxRecDepth 100000
def u32s (l : List Int) : List Value := l.map (.int .u32)
theorem u32s_length (l : List Int) : (u32s l).length = l.length := by simp [u32s]
theorem u32s_one (l : List Int) : ∀ u ∈ u32s l, u.oneCell' = true := by
  intro u hu
  obtain ⟨n, _, rfl⟩ := List.mem_map.1 hu
  rfl
theorem infoU32 : (Try.prog.info? 22).map (fun i => (i.zero, i.size, i.bytes)) = some (some (.int .u32 0), 1, 4) := by kernel_rfl
theorem own1_fr {S : Nat → Prop} {w w' : World} {base : Nat} {e : TypeId} {v : Value} {n : Nat} {xs : List Value} (h : w.ownsRow base e 1 v n xs) (k : Fr S w w') (hs : ∀ g, v.ownBlock = some g → ¬ S g) : w'.ownsRow base e 1 v n xs := by
  obtain ⟨hl, h⟩ := h
  refine ⟨hl, ?_⟩
  rcases h with h | ⟨g, cap, cur, rfl, hg, hh, r⟩
  · exact .inl h
  · exact .inr ⟨g, cap, cur, rfl, hg, (k.block g (Array.getElem?_eq_some_iff.1 hh).1 (hs g (by simp [Value.ownBlock]))).trans hh, r⟩
theorem own_new {w : World} {base b : Nat} {e : TypeId} {l : List Value} (h : Blk w b l.toArray e) (hb : base ≤ b) (hm : l.length ≤ maxLen) : w.ownsRow base e 1 (.slice (some ⟨b, 0, none⟩) l.length l.length) l.length l :=
  ⟨by simp, .inr ⟨b, l.length, l.toArray, rfl, hb, h, Nat.le_refl _, hm, by simp, by simp⟩⟩
def idsOf (id : Int) (l : List K3) : List Int := [id, 0, 7, 4294967295] ++ l.map (·.1)
theorem idsOf_length (id : Int) (l : List K3) : (idsOf id l).length = 4 + l.length := by simp [idsOf]; omega
theorem idsOf_wf {id : Int} {l : List K3} (h : (Lit.int .u32 id).wf = true) (hl : ∀ k ∈ l, KOk k) : ∀ x ∈ idsOf id l, (Lit.int .u32 x).wf = true := by
  intro x hx
  unfold idsOf at hx
  rcases List.mem_append.1 hx with hx | hx
  · simp at hx
    rcases hx with rfl | rfl | rfl | rfl
    · exact h
    · decide
    · decide
    · decide
  · obtain ⟨k, hk, rfl⟩ := List.mem_map.1 hx
    exact hl k hk
theorem idsOf_snoc {id : Int} {l : List K3} {i : Nat} {k : K3} (h : l[i]? = some k) : idsOf id (l.take (i + 1)) = idsOf id (l.take i) ++ [k.1] := by
  unfold idsOf; rw [take_snoc h]; simp
/-- The block of a slice's address. -/
def AtA (A : Option Addr) (i : Nat) : Prop := ∃ o, A = some ⟨i, o, none⟩
def Mine (w : World) (A : Option Addr) (n : Nat) : Prop := 0 < n → ∃ b cs, A = some ⟨b, 0, none⟩ ∧ Blk w b cs 25 ∧ n * 3 ≤ cs.size

theorem lst_blk {w : World} {b : Nat} {e : TypeId} {l : List Value} (h : Blk w b l.toArray e) (hm : l.length ≤ maxLen) : Lst w e (.slice (some ⟨b, 0, none⟩) l.length l.length) l :=
  ⟨_, _, rfl, Nat.le_refl _, hm, .inr ⟨b, 0, l.toArray, rfl, h, fun i u hi => by simpa using hi⟩⟩
theorem idsOf_zero (id : Int) (l : List K3) : u32s [id, 0, 7] ++ u32s [4294967295] = u32s (idsOf id (l.take 0)) := by simp [u32s, idsOf]
theorem u32s_snoc (l : List Int) (x : Int) : u32s l ++ [.int .u32 x] = u32s (l ++ [x]) := by simp [u32s]
theorem newR_bad {w w' : World} {l : List K3} {e : Ending} (h : NewR w l e w') (h0 : newE l ≠ 0) : Fr (fun _ => False) w w' ∧ e = .returned (.tuple #[.pointer none, .int .i64 (newE l)]) := by
  obtain ⟨h1, ⟨_, h2⟩ | ⟨h3, _⟩⟩ := h
  · exact ⟨h1, h2⟩
  · exact absurd h3 h0
theorem newR_good {w w' : World} {l : List K3} {e : Ending} (h : NewR w l e w') (h0 : newE l = 0) : Fr (fun _ => False) w w' ∧ ∃ g m, e = .returned (.tuple #[.pointer (some ⟨g, 0, none⟩), .int .i64 0]) ∧ Tb w' g m l.length l ∧ w.heap.size ≤ g ∧ w.heap.size ≤ m := by
  obtain ⟨h1, ⟨h2, _⟩ | ⟨_, h3⟩⟩ := h
  · exact absurd h0 h2
  · exact ⟨h1, h3⟩
theorem rnewR_bad {w w' : World} {l : List K3} {e : Ending} (h : RNewR w l e w') (h0 : newE l ≠ 0) : Fr (fun _ => False) w w' ∧ e = .returned (.tuple #[.pointer none, .int .i64 (newE l)]) := by
  obtain ⟨h1, ⟨_, h2⟩ | ⟨h3, _⟩⟩ := h
  · exact ⟨h1, h2⟩
  · exact absurd h3 h0
theorem rnewR_good {w w' : World} {l : List K3} {e : Ending} (h : RNewR w l e w') (h0 : newE l = 0) : Fr (fun _ => False) w w' ∧ ∃ g A cap, e = .returned (.tuple #[.pointer (some ⟨g, 0, none⟩), .int .i64 0]) ∧ Rt w' g A cap l ∧ w.heap.size ≤ g ∧ ∀ b o, A = some ⟨b, o, none⟩ → w.heap.size ≤ b := by
  obtain ⟨h1, ⟨h2, _⟩ | ⟨_, h3⟩⟩ := h
  · exact absurd h0 h2
  · exact ⟨h1, h3⟩

set_option maxHeartbeats 8000000 in
theorem tables_walk {w : World} {A : Option Addr} {len cap n : Nat} {l : List K3} {id : Int} (hk : Ks w A l) (hl : l.length = n) (hn : n = min len 20) (hlc : len ≤ cap) (hcm : cap ≤ maxLen) (hid1 : (Lit.int .u32 id).wf = true) :
    Calls Try.prog 6 #[.slice A len cap, .int .u32 id] w fun e w' => e = .returned (.bool true) ∧ Fr (fun _ => False) w w' := by
  unfold maxLen at hcm
  have HK := hid hk
  have HW := hid hid1
  have n20 : n ≤ 20 := by omega
  have HL := hid hl
  clear hk hid1 hl
  have HN := hid hn
  have hN : min (len : Int) 20 = (n : Int) := by omega
  have nc : n ≤ cap := by omega
  clear hn
  go_enter Try.func6, Try.ntmps6
  go_upto_region 1 with fail
  go_cut [0] (fun s0 wx => s0 = .slice A n cap ∧ w = wx)
  case first =>
    go_wp2_with fail
    all_goals (go_meet; refine ⟨?_, rfl⟩; have := HN.out; congr 1; omega)
  case rest =>
    obtain ⟨rfl, rfl⟩ := hcut
    clear hN HN hlc
    go_wp2_with (first
      | (at_builtin
         refine wpList_append_ks rfl _ _ rfl w.heap.size (.slice none 0 0) [] l A n cap rfl rfl (own3_nil _ _) HK.out HL.out.symm (by have := HL.out; simp; omega) (Nat.le_refl _) ?_
         intro v' w1 o1 g1 _
         have f1 : Fr (fun _ => False) w w1 := (Fr.refl _ _).grown g1 (fun k hk => by simp [Value.ownBlock] at hk)
         obtain ⟨A1, cap1, rfl, hnc1, hcm1, k1, hb1, hA1⟩ := own_ks (n := n) (l := l) (by simpa [HL.out] using o1) HL.out.symm HK.out.1
         have MN : Hid (Mine w1 A1 n) := hid (fun h0 => by obtain ⟨b, cs, e1, e2, e3⟩ := hb1 h0; exact ⟨b, cs, e1, e2, by omega⟩)
         have HA1 := hid hA1
         clear g1 o1 hb1 hA1))
    refine (new_at k1 HL.out.symm (by have := HL.out; omega)).mono ?_
    intro e w2 hN2
    by_cases hE : newE l = 0
    · obtain ⟨f2, g, m, rfl, ht2, hg2, hm2⟩ := newR_good hN2 hE
      have HT2 := hid ht2
      have HE := hid hE
      have HMN2 : Hid (Mine w2 A1 n) := hid (fun h0 => by obtain ⟨b, cs, e1, e2, e3⟩ := MN.out h0; exact ⟨b, cs, e1, e2.fr f2 (fun h => h), e3⟩)
      have F2 := f1.trans f2 (fun _ _ h => h)
      clear hN2 ht2 k1 hE
      go_wp2_with fail
      refine (rnew_at (HK.out.fr0 F2) HL.out.symm (by have := HL.out; omega)).mono ?_
      intro e w3 hN3
      obtain ⟨f3, rg, RA, rcap, rfl, ht3, hg3, hRA⟩ := rnewR_good hN3 HE.out
      have HR3 := hid ht3
      have HT3 := hid (HT2.out.fr0 f3)
      have HMN3 : Hid (Mine w3 A1 n) := hid (fun h0 => by obtain ⟨b, cs, e1, e2, e3⟩ := HMN2.out h0; exact ⟨b, cs, e1, e2.fr f3 (fun h => h), e3⟩)
      have F3 := F2.trans f3 (fun _ _ h => h)
      have HRA := hid hRA
      have hs12 := f2.size
      have hs23 := f3.size
      have hs01 := f1.size
      clear hN3 ht3 hRA HMN2 HT2 F2 f1 f2 f3
      go_wp2_with fail
      go_loopw [10] (fun vi wr => ∃ i : Nat, i ≤ n ∧ vi = .int .i64 i ∧ Hid (Mine wr A1 n) ∧ Fr (AtA A1) w3 wr) (fun vi _ => n - (intOf vi).toNat)
      case atStart => exact ⟨0, by omega, rfl, HMN3, Fr.refl _ _⟩
      case round =>
        obtain ⟨i, hi, rfl, hmn, hf⟩ := hrel
        by_cases hlt : i < n
        · obtain ⟨b, cs, rfl, hb, hsz⟩ := hmn.out (by omega)
          obtain ⟨v0, hv0⟩ : ∃ v, cs[i * 3]? = some v := ⟨_, Array.getElem?_eq_getElem (by omega)⟩
          obtain ⟨v1, hv1⟩ : ∃ v, cs[i * 3 + 1]? = some v := ⟨_, Array.getElem?_eq_getElem (by omega)⟩
          have c0 := (hb.cell (i * 3)).trans hv0
          have c1 := (hb.cell (i * 3 + 1)).trans hv1
          have q0 := hb.free (i * 3)
          have q1 := hb.free (i * 3 + 1)
          have li : (i : Int) < (n : Int) := by omega
          clear hv0 hv1
          go_wp2
          go_roundw
          case rel => exact ⟨i + 1, by omega, by go_num, hid (fun _ => ⟨b, _, rfl, (hb.set rfl).set rfl, by simpa using hsz⟩), (hf.setCell _ _ (.inr ⟨0, rfl⟩)).setCell _ _ (.inr ⟨0, rfl⟩)⟩
          case measure => simp [intOf]; omega
        · obtain rfl : i = n := by omega
          clear hi hlt hmn HMN3
          obtain ⟨w4, rfl⟩ : ∃ w4 : World, w4 = wr := ⟨_, rfl⟩
          have nA : ∀ q, w1.heap.size ≤ q → ¬ AtA A1 q := fun q hq ⟨o, e⟩ => by have := (HA1.out q o e).2; omega
          have HT4 := hid (HT3.out.fr hf (nA g hg2) (nA m hm2))
          have HR4 := hid (HR3.out.fr hf (nA rg (by omega)) (fun b o e => nA b (by have := HRA.out b o e; omega)))
          have F4 : Fr (fun _ => False) w w4 := F3.trans hf (fun q hq ⟨o, e⟩ => by have := (HA1.out q o e).1; omega)
          have HK4 := hid (HK.out.fr0 F4)
          have HF4 := hid F4
          clear HT3 HR3 F3 hf nA
          go_wp2_with (first
            | (at_builtin
               generalize hW : World.alloc (World.alloc w4 _) _ = W5
               have f5 : Fr (fun _ => False) w4 W5 := by subst hW; (repeat' (first | (with_reducible exact Fr.refl _ _) | (with_reducible assumption) | (with_reducible refine Fr.alloc ?_ _) | (with_reducible refine Fr.drew ?_) | (with_reducible refine Fr.drewN ?_ _) | (with_reducible refine Fr.setCell ?_ _ _ ?_) | (exact Or.inr rfl) | (left; simp; done) | (left; simp; omega) | (simp; done) | (simp; omega) | omega))
               have bI : Blk W5 w4.heap.size (u32s [id, 0, 7]).toArray 22 := by subst hW; exact (Blk.new' _ _ _ rfl).alloc _
               have bJ : Blk W5 (w4.heap.size + 1) (u32s [4294967295]).toArray 22 := by subst hW; exact Blk.new' _ _ _ (by simp)
               clear hW
               have oI : W5.ownsRow w4.heap.size 22 1 (.slice (some ⟨w4.heap.size, 0, none⟩) 3 3) 3 (u32s [id, 0, 7]) := own_new bI (Nat.le_refl _) (by simp [u32s, maxLen])
               have lJ : Lst W5 22 (.slice (some ⟨w4.heap.size + 1, 0, none⟩) 1 1) (u32s [4294967295]) := lst_blk bJ (by simp [u32s, maxLen])
               have s5 := f5.size
               refine wpList_append_lst rfl _ _ 46 rfl w4.heap.size 22 (.int .u32 0) 4 Try.underlying46 infoU32 rfl _ _ (u32s [id, 0, 7]) (u32s [4294967295]) rfl rfl oI lJ (u32s_one _) (by simp [u32s, maxLen]) (by simp [u32s]) s5 ?_
               intro va w6 o6 g6 _
               have f6 : Fr (fun _ => False) w4 w6 := f5.grown g6 (fun k hk => Or.inl (Nat.le_of_eq (Option.some.inj hk)))
               rw [idsOf_zero id l, u32s_length, idsOf_length, List.take_zero] at o6
               have o6 : w6.ownsRow w4.heap.size 22 1 va 4 (u32s (idsOf id [])) := o6
               clear g6 oI lJ bI bJ s5))
          have O6 := hid o6
          clear o6
          go_loopw [11, 12] (fun va vi wr => ∃ i2 : Nat, i2 ≤ i ∧ vi = .int .i64 i2 ∧ wr.ownsRow w4.heap.size 22 1 va (4 + i2) (u32s (idsOf id (l.take i2))) ∧ Fr (fun _ => False) w4 wr) (fun _ vi _ => i - (intOf vi).toNat)
          case atStart => exact ⟨0, by omega, rfl, by rw [List.take_zero]; exact O6.out, f6⟩
          case round =>
            clear O6
            obtain ⟨i2, hi2, rfl, ho, hf⟩ := hrel
            by_cases hlt : i2 < i
            · obtain ⟨⟨x, a, c⟩, hki⟩ : ∃ k, l[i2]? = some k := ⟨_, List.getElem?_eq_getElem (by have := HL.out; omega)⟩
              obtain ⟨b, off, rfl, hb, hc⟩ := (HK4.out.fr0 hf).2 (by have := HL.out; omega)
              obtain ⟨d0, _, _⟩ := hc i2 _ hki
              have HI := hid hki
              have li : (i2 : Int) < (i : Int) := by omega
              have hs := hf.size
              simp only at d0
              clear hc hki
              go_wp2_with (first
                | (at_builtin
                   generalize hW : World.alloc wr _ = W7
                   have o7 : W7.ownsRow w4.heap.size 22 1 u11 (4 + i2) (u32s (idsOf id (l.take i2))) := own1_fr (S := fun _ => False) ho (by subst hW; (repeat' (first | (with_reducible exact Fr.refl _ _) | (with_reducible assumption) | (with_reducible refine Fr.alloc ?_ _) | (with_reducible refine Fr.drew ?_) | (with_reducible refine Fr.drewN ?_ _) | (with_reducible refine Fr.setCell ?_ _ _ ?_) | (exact Or.inr rfl) | (left; simp; done) | (left; simp; omega) | (simp; done) | (simp; omega) | omega))) (fun _ _ h => h)
                   have f7 : Fr (fun _ => False) w4 W7 := by subst hW; (repeat' (first | (with_reducible exact Fr.refl _ _) | (with_reducible assumption) | (with_reducible refine Fr.alloc ?_ _) | (with_reducible refine Fr.drew ?_) | (with_reducible refine Fr.drewN ?_ _) | (with_reducible refine Fr.setCell ?_ _ _ ?_) | (exact Or.inr rfl) | (left; simp; done) | (left; simp; omega) | (simp; done) | (simp; omega) | omega))
                   have l7 : Lst W7 22 (.slice (some ⟨wr.heap.size, 0, none⟩) 1 1) [.int .u32 x] := by subst hW; exact Lst.new wr 22 [.int .u32 x] (by simp) (by simp [maxLen])
                   have s7 := f7.size
                   have hlen7 : (u32s (idsOf id (l.take i2))).length = 4 + i2 := by rw [u32s_length, idsOf_length, List.length_take]; have := HL.out; omega
                   clear hW ho hs d0
                   refine wpList_append_lst rfl _ _ 46 rfl w4.heap.size 22 (.int .u32 0) 4 Try.underlying46 infoU32 rfl u11 _ (u32s (idsOf id (l.take i2))) [.int .u32 x] rfl rfl (by rw [hlen7]; exact o7) l7 (by simp [Value.oneCell']) (by rw [hlen7]; simp [maxLen]; omega) (by rw [hlen7]; simp; omega) s7 ?_
                   intro va w8 o8 g8 _
                   have f8 : Fr (fun _ => False) w4 w8 := f7.grown g8 (fun k hk => by
                     rcases o7.2 with ⟨rfl, _⟩ | ⟨g', _, _, rfl, hg', _⟩
                     · simp [Value.ownBlock] at hk
                     · simp [Value.ownBlock] at hk; omega)
                   rw [List.length_append, hlen7, u32s_snoc, ← idsOf_snoc HI.out] at o8
                   have o8 : w8.ownsRow w4.heap.size 22 1 va (4 + (i2 + 1)) (u32s (idsOf id (l.take (i2 + 1)))) := o8
                   clear g8 o7 f7 l7 s7 hlen7))
              go_roundw
              case rel => exact ⟨i2 + 1, by omega, by go_num, o8, f8⟩
              case measure => simp [intOf]; omega
            · obtain rfl : i2 = i := by omega
              clear hi2 hlt
              rw [show l.take i2 = l from List.take_of_length_le (by have := HL.out; omega)] at ho
              have hL := Lst.of_own ho
              obtain ⟨IA, icap, rfl, hic, _⟩ := hL.form
              have hlen : (u32s (idsOf id l)).length = 4 + i2 := by rw [u32s_length, idsOf_length, HL.out]
              rw [hlen] at hic hL
              rw [hlen]
              have HLs := hid hL
              have HT5 := hid (HT4.out.fr0 hf)
              have HR5 := hid (HR4.out.fr0 hf)
              have F5 := HF4.out.trans hf (fun _ _ h => h)
              have HLN := hid hlen
              clear hlen hL ho HT4 HR4 HK4
              obtain ⟨w5, rfl⟩ : ∃ w5 : World, w5 = wr := ⟨_, rfl⟩
              go_wp2_with fail
              go_loopw [13] (fun vi wr => ∃ j : Nat, j ≤ 4 + i2 ∧ vi = .int .i64 j ∧ Fr (fun _ => False) w5 wr) (fun vi _ => 4 + i2 - (intOf vi).toNat)
              case atStart => exact ⟨0, by omega, rfl, Fr.refl _ _⟩
              case round =>
                obtain ⟨j, hj, rfl, hf⟩ := hrel
                by_cases hlt : j < 4 + i2
                · obtain ⟨y, hy⟩ : ∃ y, (idsOf id l)[j]? = some y := ⟨_, List.getElem?_eq_getElem (by have := HLN.out; rw [u32s_length] at this; omega)⟩
                  obtain ⟨r, off, rfl, hc, hr⟩ := HLs.out.get (i := j) (u := .int .u32 y) (by simp [u32s, hy])
                  have wy : (Lit.int .u32 y).wf = true := idsOf_wf HW.out HK.out.1 y (List.mem_of_getElem? hy)
                  have WY := hid wy
                  have hc2 := (hf.cell (a := ⟨r, off + j, none⟩) hr (fun h => h)).trans hc
                  have hrl := hf.lt hr
                  have lj : (j : Int) < 4 + (i2 : Int) := by omega
                  obtain ⟨⟨z1, z2, z3⟩, hz⟩ : ∃ z, z = fz l y := ⟨_, rfl⟩
                  obtain ⟨t, htt⟩ : ∃ t, t = (fnd l y).isSome := ⟨_, rfl⟩
                  have hF : ∀ w', Fr (fun _ => False) w5 w' → Calls Try.prog 15 #[.pointer (some ⟨g, 0, none⟩), .int .u32 y] w' fun e w'' => e = .returned (.tuple #[.agg #[.int .u32 z1, .int .u64 z2, .int .u64 z3], .bool t]) ∧ Fr (fun _ => False) w' w'' := fun w' f => by
                    have := find_at (HT5.out.fr0 f) WY.out
                    rw [← hz, ← htt] at this
                    exact this
                  have hG : ∀ w', Fr (fun _ => False) w5 w' → Calls Try.prog 16 #[.pointer (some ⟨rg, 0, none⟩), .int .u32 y] w' fun e w'' => e = .returned (.tuple #[.agg #[.int .u32 z1, .int .u64 z2, .int .u64 z3], .bool t]) ∧ Fr (fun _ => False) w' w'' := fun w' f => by
                    have := rfind_at (HR5.out.fr0 f) (id := y) (by have := HL.out; omega)
                    rw [← hz, ← htt] at this
                    exact this
                  have HF := hid hF
                  have HG := hid hG
                  clear hy wy hc hz htt hF hG
                  go_wp2_with fail
                  refine (HF.out wr hf).mono ?_
                  rintro e w6 ⟨rfl, k6⟩
                  have f6 := hf.trans k6 (fun _ _ h => h)
                  have hc3 := (k6.cell (a := ⟨r, off + j, none⟩) hrl (fun h => h)).trans hc2
                  have hrl6 := k6.lt hrl
                  clear hc2 k6
                  go_wp2_with fail
                  generalize hW : World.alloc w6 _ = W7
                  have f67 : Fr (fun _ => False) w6 W7 := by subst hW; (repeat' (first | (with_reducible exact Fr.refl _ _) | (with_reducible assumption) | (with_reducible refine Fr.alloc ?_ _) | (with_reducible refine Fr.drew ?_) | (with_reducible refine Fr.drewN ?_ _) | (with_reducible refine Fr.setCell ?_ _ _ ?_) | (exact Or.inr rfl) | (left; simp; done) | (left; simp; omega) | (simp; done) | (simp; omega) | omega))
                  have b7 : Blk W7 w6.heap.size #[.int .u32 z1, .int .u64 z2, .int .u64 z3] 25 := by subst hW; (repeat' (first | (with_reducible assumption) | (with_reducible apply Blk.drew) | (with_reducible apply Blk.drewN) | (with_reducible apply Blk.set) | (with_reducible apply Blk.other) | (exact Blk.new' _ _ _ (by first | rfl | (simp; done) | (simp; omega))) | (with_reducible apply Blk.alloc) | (with_reducible rfl) | (simp; done) | (simp; omega) | omega | rfl))
                  clear hW hc3
                  have f7 := f6.trans f67 (fun _ _ h => h)
                  refine (HG.out W7 f7).mono ?_
                  rintro e w8 ⟨rfl, k8⟩
                  have f8 := f7.trans k8 (fun _ _ h => h)
                  have b8 := b7.fr k8 (fun h => h)
                  obtain ⟨x0, x1, x2, _⟩ := b8.c3
                  have hl8 := b8.lt
                  clear b7 f67 f7 k8
                  go_wp2_with fail
                  go_roundw
                  case rel => exact ⟨j + 1, by omega, by go_num, by (repeat' (first | (with_reducible exact Fr.refl _ _) | (with_reducible assumption) | (with_reducible refine Fr.alloc ?_ _) | (with_reducible refine Fr.drew ?_) | (with_reducible refine Fr.drewN ?_ _) | (with_reducible refine Fr.setCell ?_ _ _ ?_) | (exact Or.inr rfl) | (left; simp; done) | (left; simp; omega) | (simp; done) | (simp; omega) | omega))⟩
                  case measure => simp [intOf]; omega
                · obtain rfl : j = 4 + i2 := by omega
                  have HT6 := hid (HT5.out.fr0 hf)
                  rw [HL.out] at HT6
                  have F6 := F5.trans hf (fun _ _ h => h)
                  clear hj hlt
                  go_wp2_with fail
                  refine (len_at HT6.out).mono ?_
                  rintro e w' ⟨rfl, rfl⟩
                  go_wp2_with fail
                  refine (wakes_at _).mono ?_
                  rintro e w9 ⟨rfl, k9⟩
                  go_wp2
                  go_ret
                  exact ⟨rfl, F6.trans k9 (fun _ _ h => h)⟩
    · obtain ⟨f2, rfl⟩ := newR_bad hN2 hE
      have F2 := f1.trans f2 (fun _ _ h => h)
      have HE := hid hE
      have HKF := hid (HK.out.fr0 F2)
      obtain ⟨E, hEE⟩ : ∃ E, E = newE l := ⟨_, rfl⟩
      have HEE := hid hEE
      rw [← hEE]
      have e0 : (E == 0) = false := by rw [beq_eq_false_iff_ne, hEE]; exact hE
      have e1 : (E != 0) = true := by simp [bne, e0]
      clear hN2 k1 hE hEE
      go_wp2_with fail
      refine (rnew_at HKF.out HL.out.symm (by have := HL.out; omega)).mono ?_
      intro e w3 hN3
      obtain ⟨f3, rfl⟩ := rnewR_bad hN3 HE.out
      rw [← HEE.out]
      have F3 := F2.trans f3 (fun _ _ h => h)
      clear hN3
      go_wp2_with fail
      refine (wakes_at _).mono ?_
      rintro e w9 ⟨rfl, k9⟩
      go_wp2
      go_ret
      exact ⟨rfl, F3.trans k9 (fun _ _ h => h)⟩
theorem macTables_walk (A : Option Addr) (len cap : Nat) (id : Int) (w : World) (h0 : RdS [.i .u32, .i .u64, .i .u64] w A len cap) (w1 : (Lit.int .u32 id).wf = true) :
    Calls Try.prog 6 #[.slice A len cap, .int .u32 id] w fun e w' => e = .returned (.bool true) ∧ Fr (fun _ => False) w w' := by
  obtain ⟨hlc, hcm, l0, hl0, hk0⟩ := ks_of h0
  exact tables_walk (n := min len 20) (hk0.take (min len 20)) (by rw [List.length_take, hl0]; omega) rfl hlc hcm w1
end Go.Proofs.Ytnphjhignhmhaaa
