/- A table of keys: what it finds, how many it has; and the document's table. -/
import Derived.Test.YtnphjhignhmhaaaMacNew
namespace Go.Proofs.Ytnphjhignhmhaaa
open Go.RowKit Go.Proofs.YtnphjhignhmhaaaW.PrintWords Go.Proofs.YtnphjhignhmhaaaW.PrintLast Go.Proofs.YtnphjhignhmhaaaW.PrintMore
set_option linter.unusedVariables false
set_option linter.unusedSimpArgs false
set_option maxRecDepth 100000
theorem Blk.set3 {w : World} {b : Nat} {x y z : Value} {t : TypeId} (h : Blk w b #[x, y, z] t) (x' y' z' : Value) : Blk (((w.setCell ⟨b, 0, none⟩ x').setCell ⟨b, 1, none⟩ y').setCell ⟨b, 2, none⟩ z') b #[x', y', z'] t :=
  ((h.set rfl).set rfl).set rfl

theorem find_at {w : World} {g m n : Nat} {l : List K3} {id : Int} (h : Tb w g m n l) (hi : (Lit.int .u32 id).wf = true) :
    Calls Try.prog 15 #[.pointer (some ⟨g, 0, none⟩), .int .u32 id] w fun e w' => e = .returned (.tuple #[kv (fz l id), .bool (fnd l id).isSome]) ∧ Fr (fun _ => False) w w' := by
  obtain ⟨⟨z1, z2, z3⟩, hz⟩ : ∃ z, z = fz l id := ⟨_, rfl⟩
  obtain ⟨t, ht⟩ : ∃ t, t = (fnd l id).isSome := ⟨_, rfl⟩
  have hlk : ∀ w', Fr (fun _ => False) w w' → (Instr.lookup 64 (.map (some m)) (.int .u32 id) true).run Try.prog w' = .ok (.tuple #[.agg #[.int .u32 z1, .int .u64 z2, .int .u64 z3], .bool t]) w' := fun w' k => by
    rw [(h.fr0 k).look hi, ← hz, ← ht]; rfl
  rw [← hz, ← ht]
  have HL := hid hlk
  have b0 := h.blk.cell 0
  have hg := h.blk.lt
  have H := hid h
  simp at b0
  clear hz ht hlk hi h
  unfold kv
  go_enter Try.func15, Try.ntmps15
  have hl2 := HL.out (w.alloc (.cells #[.int .u32 0, .int .u64 0, .int .u64 0] 25)) (by (repeat' (first | (with_reducible exact Fr.refl _ _) | (with_reducible assumption) | (with_reducible refine Fr.alloc ?_ _) | (with_reducible refine Fr.drew ?_) | (with_reducible refine Fr.drewN ?_ _) | (with_reducible refine Fr.setCell ?_ _ _ ?_) | (exact Or.inr rfl) | (left; simp; done) | (left; simp; omega) | (simp; done) | (simp; omega) | omega)))
  go_wp2_with (simp only [hl2])
  generalize hW : World.alloc (World.alloc w _) _ = W
  have b3 : Blk W w.heap.size #[.int .u32 z1, .int .u64 z2, .int .u64 z3] 25 := by subst hW; (repeat' (first | (with_reducible assumption) | (with_reducible apply Blk.drew) | (with_reducible apply Blk.drewN) | (with_reducible apply Blk.set) | (with_reducible apply Blk.other) | (exact Blk.new' _ _ _ (by first | rfl | (simp; done) | (simp; omega))) | (with_reducible apply Blk.alloc) | (with_reducible rfl) | (simp; done) | (simp; omega) | omega | rfl))
  have f3 : Fr (fun _ => False) w W := by subst hW; (repeat' (first | (with_reducible exact Fr.refl _ _) | (with_reducible assumption) | (with_reducible refine Fr.alloc ?_ _) | (with_reducible refine Fr.drew ?_) | (with_reducible refine Fr.drewN ?_ _) | (with_reducible refine Fr.setCell ?_ _ _ ?_) | (exact Or.inr rfl) | (left; simp; done) | (left; simp; omega) | (simp; done) | (simp; omega) | omega))
  refine bodyPost_ret (results_ct rfl _ _ _ 25 _ (0, 0) _ rfl b3 Try.underlying25 rfl (by kernel_rfl)) rfl ?_
  exact ⟨rfl, f3⟩
theorem find_nil (id : Int) (w : World) :
    Calls Try.prog 15 #[.pointer none, .int .u32 id] w fun e w' => e = .returned (.tuple #[.agg #[.int .u32 0, .int .u64 0, .int .u64 0], .bool false]) ∧ Fr (fun _ => False) w w' := by
  go_enter Try.func15, Try.ntmps15
  go_wp2_with fail
  generalize hW : World.alloc w _ = W
  have b3 : Blk W w.heap.size #[.int .u32 0, .int .u64 0, .int .u64 0] 25 := by subst hW; (repeat' (first | (with_reducible assumption) | (with_reducible apply Blk.drew) | (with_reducible apply Blk.drewN) | (with_reducible apply Blk.set) | (with_reducible apply Blk.other) | (exact Blk.new' _ _ _ (by first | rfl | (simp; done) | (simp; omega))) | (with_reducible apply Blk.alloc) | (with_reducible rfl) | (simp; done) | (simp; omega) | omega | rfl))
  have f3 : Fr (fun _ => False) w W := by subst hW; (repeat' (first | (with_reducible exact Fr.refl _ _) | (with_reducible assumption) | (with_reducible refine Fr.alloc ?_ _) | (with_reducible refine Fr.drew ?_) | (with_reducible refine Fr.drewN ?_ _) | (with_reducible refine Fr.setCell ?_ _ _ ?_) | (exact Or.inr rfl) | (left; simp; done) | (left; simp; omega) | (simp; done) | (simp; omega) | omega))
  refine bodyPost_ret (results_ct rfl _ _ _ 25 _ (0, 0) _ rfl b3 Try.underlying25 rfl (by kernel_rfl)) rfl ?_
  exact ⟨rfl, f3⟩
theorem len_at {w : World} {g m n : Nat} {l : List K3} (h : Tb w g m n l) :
    Calls Try.prog 17 #[.pointer (some ⟨g, 0, none⟩)] w fun e w' => e = .returned (.int .i64 n) ∧ w = w' := by
  have b0 := h.blk.cell 0
  have hm := h.map
  simp at b0
  clear h
  go_enter Try.func17, Try.ntmps17
  go_wp2_with (at_len; refine wpList_len_mf _ rfl _ 64 rfl 22 25 .u32 Try.underlying64 m n (keysF l) rfl hm ?_)
  go_ret
  exact ⟨rfl, rfl⟩
theorem len_nil (w : World) : Calls Try.prog 17 #[.pointer none] w fun e w' => e = .returned (.int .i64 0) ∧ w = w' := by
  go_enter Try.func17, Try.ntmps17
  go_wp2
  go_ret
  exact ⟨rfl, rfl⟩

/-- The document's table. -/
structure Rt (w : World) (g : Nat) (A : Option Addr) (cap : Nat) (l : List K3) : Prop where
  blk : Blk w g #[.slice A l.length cap] 68
  ks : Ks w A l

theorem Rt.fr {S : Nat → Prop} {w w' : World} {g cap : Nat} {A : Option Addr} {l : List K3} (h : Rt w g A cap l) (k : Fr S w w') (hg : ¬ S g) (hA : ∀ b o, A = some ⟨b, o, none⟩ → ¬ S b) : Rt w' g A cap l := ⟨h.blk.fr k hg, h.ks.fr k hA⟩
theorem Rt.fr0 {w w' : World} {g cap : Nat} {A : Option Addr} {l : List K3} (h : Rt w g A cap l) (k : Fr (fun _ => False) w w') : Rt w' g A cap l := h.fr k (fun h => h) (fun _ _ _ h => h)
theorem rfind_at {w : World} {g cap : Nat} {A : Option Addr} {l : List K3} {id : Int} (h : Rt w g A cap l) (hl : l.length ≤ 1000000) :
    Calls Try.prog 16 #[.pointer (some ⟨g, 0, none⟩), .int .u32 id] w fun e w' => e = .returned (.tuple #[kv (fz l id), .bool (fnd l id).isSome]) ∧ Fr (fun _ => False) w w' := by
  obtain ⟨hb, hk⟩ := h
  have HK := hid hk
  have HB := hid hb
  have hgl := hb.lt
  have hl2 : l.length ≤ 9223372036854775807 := by omega
  obtain ⟨rv, hrv⟩ : ∃ rv, rv = Value.tuple #[kv (fz l id), .bool (fnd l id).isSome] := ⟨_, rfl⟩
  rw [← hrv]
  have HR := hid hrv
  clear hk hb hrv
  go_enter Try.func16, Try.ntmps16
  go_wp2_with fail
  generalize hW : World.alloc w _ = W
  have bR : Blk W w.heap.size #[.int .u32 0, .int .u64 0, .int .u64 0] 25 := by subst hW; (repeat' (first | (with_reducible assumption) | (with_reducible apply Blk.drew) | (with_reducible apply Blk.drewN) | (with_reducible apply Blk.set) | (with_reducible apply Blk.other) | (exact Blk.new' _ _ _ (by first | rfl | (simp; done) | (simp; omega))) | (with_reducible apply Blk.alloc) | (with_reducible rfl) | (simp; done) | (simp; omega) | omega | rfl))
  have f3 : Fr (fun _ => False) w W := by subst hW; (repeat' (first | (with_reducible exact Fr.refl _ _) | (with_reducible assumption) | (with_reducible refine Fr.alloc ?_ _) | (with_reducible refine Fr.drew ?_) | (with_reducible refine Fr.drewN ?_ _) | (with_reducible refine Fr.setCell ?_ _ _ ?_) | (exact Or.inr rfl) | (left; simp; done) | (left; simp; omega) | (simp; done) | (simp; omega) | omega))
  clear hW
  have hng : w.heap.size ≠ g := by omega
  have hb0 := (HB.out.fr f3 (fun h => h)).cell 0
  obtain ⟨r0, r1, r2, q0, q1, q2⟩ := bR.c3
  simp at hb0
  go_loop [6] (fun vi => ∃ i : Nat, i ≤ l.length ∧ vi = .int .i64 i ∧ Hid (fnd (l.take i) id = none)) (fun vi => l.length - (intOf vi).toNat)
  case atStart => exact ⟨0, by omega, rfl, rfl⟩
  case round =>
    obtain ⟨i, hi, rfl, hz⟩ := hrel
    by_cases hlt : i < l.length
    · obtain ⟨⟨x, a, c⟩, hki⟩ : ∃ k, l[i]? = some k := ⟨_, List.getElem?_eq_getElem hlt⟩
      obtain ⟨b, off, rfl, hb, hc⟩ := (HK.out.fr0 f3).2 (by omega)
      obtain ⟨d0, d1, d2⟩ := hc i _ hki
      have HI := hid hki
      have li : (i : Int) < (l.length : Int) := by omega
      simp only at d0 d1 d2
      clear hc hki
      have hsn : fnd (l.take (i + 1)) id = if x = id then some (x, a, c) else none := by
        rw [take_snoc HI.out, fnd_snoc, hz.out]; simp
      by_cases he : x = id
      · have hb' : (x == id) = true := by simp only [beq_iff_eq]; exact he
        have hfd : fnd l id = some (x, a, c) := by
          rw [if_pos he] at hsn
          have := List.take_append_drop (i + 1) l
          rw [← this]
          unfold fnd at hsn ⊢
          rw [List.find?_append, hsn]; rfl
        have HF : Hid (rv = .tuple #[.agg #[.int .u32 x, .int .u64 a, .int .u64 c], .bool true]) := by
          refine hid ?_
          rw [HR.out]; unfold fz; rw [hfd]; rfl
        clear he hsn hfd hz
        go_wp2_with fail
        generalize hW : World.setCell (World.setCell _ _ _) _ _ = W3
        have b3 : Blk W3 w.heap.size #[.int .u32 x, .int .u64 a, .int .u64 c] 25 := by subst hW; exact bR.set3 _ _ _
        have f4 : Fr (fun _ => False) w W3 := by subst hW; (repeat' (first | (with_reducible exact Fr.refl _ _) | (with_reducible assumption) | (with_reducible refine Fr.alloc ?_ _) | (with_reducible refine Fr.drew ?_) | (with_reducible refine Fr.drewN ?_ _) | (with_reducible refine Fr.setCell ?_ _ _ ?_) | (exact Or.inr rfl) | (left; simp; done) | (left; simp; omega) | (simp; done) | (simp; omega) | omega))
        refine bodyPost_ret (results_ct rfl _ _ _ 25 _ (0, 0) _ rfl b3 Try.underlying25 rfl (by kernel_rfl)) rfl ?_
        exact ⟨by rw [HF.out]; first | done | rfl, f4⟩
      · have hb' : (x == id) = false := by rw [beq_eq_false_iff_ne]; exact he
        rw [if_neg he] at hsn
        have hz' := hid hsn
        clear he hsn
        go_wp2
        go_round
        case rel => exact ⟨i + 1, by omega, by go_num, hz'⟩
        case measure => simp [intOf]; omega
    · obtain rfl : i = l.length := by omega
      have hfd := hz.out
      rw [List.take_length] at hfd
      have HF : Hid (rv = .tuple #[.agg #[.int .u32 0, .int .u64 0, .int .u64 0], .bool false]) := by
        refine hid ?_
        rw [HR.out]; unfold fz; rw [hfd]; rfl
      clear hfd hz
      go_wp2_with fail
      generalize hW : World.setCell (World.setCell _ _ _) _ _ = W3
      have b3 : Blk W3 w.heap.size #[.int .u32 0, .int .u64 0, .int .u64 0] 25 := by subst hW; exact bR.set3 _ _ _
      have f4 : Fr (fun _ => False) w W3 := by subst hW; (repeat' (first | (with_reducible exact Fr.refl _ _) | (with_reducible assumption) | (with_reducible refine Fr.alloc ?_ _) | (with_reducible refine Fr.drew ?_) | (with_reducible refine Fr.drewN ?_ _) | (with_reducible refine Fr.setCell ?_ _ _ ?_) | (exact Or.inr rfl) | (left; simp; done) | (left; simp; omega) | (simp; done) | (simp; omega) | omega))
      refine bodyPost_ret (results_ct rfl _ _ _ 25 _ (0, 0) _ rfl b3 Try.underlying25 rfl (by kernel_rfl)) rfl ?_
      exact ⟨by rw [HF.out]; first | done | rfl, f4⟩
/-- What the document's New answers. -/
def RNewR (w : World) (l : List K3) (e : Ending) (w' : World) : Prop := Fr (fun _ => False) w w' ∧
  ((newE l ≠ 0 ∧ e = .returned (.tuple #[.pointer none, .int .i64 (newE l)])) ∨
   (newE l = 0 ∧ ∃ g A cap, e = .returned (.tuple #[.pointer (some ⟨g, 0, none⟩), .int .i64 0]) ∧ Rt w' g A cap l ∧ w.heap.size ≤ g ∧ ∀ b o, A = some ⟨b, o, none⟩ → w.heap.size ≤ b))
set_option maxHeartbeats 1000000 in
theorem rnew_at {w : World} {A : Option Addr} {n cap : Nat} {l : List K3} (hk : Ks w A l) (hn : n = l.length) (hl : l.length ≤ 1000000) :
    Calls Try.prog 14 #[.slice A n cap] w (RNewR w l) := by
  subst hn
  have HK := hid hk
  clear hk
  have hl2 : l.length ≤ 9223372036854775807 := by omega
  go_enter Try.func14, Try.ntmps14
  go_wp2_with fail
  go_loop [4] (fun vi => ∃ i : Nat, i ≤ l.length ∧ vi = .int .i64 i ∧ Hid (Nz l i)) (fun vi => l.length - (intOf vi).toNat)
  case atStart => exact ⟨0, by omega, rfl, fun j k hj => by omega⟩
  case round =>
    obtain ⟨i, hi, rfl, hz⟩ := hrel
    by_cases hlt : i < l.length
    · obtain ⟨⟨x, a, c⟩, hki⟩ : ∃ k, l[i]? = some k := ⟨_, List.getElem?_eq_getElem hlt⟩
      obtain ⟨b, off, rfl, hb, hc⟩ := HK.out.2 (by omega)
      obtain ⟨d0, _, _⟩ := hc i _ hki
      have HI := hid hki
      have li : (i : Int) < (l.length : Int) := by omega
      simp only at d0
      clear hc hki
      by_cases h0 : x = 0
      · subst h0
        have e1 := newE_arg HI.out rfl
        have E1 := hid e1
        clear e1
        go_wp2
        go_ret2
        exact ⟨Fr.refl _ _, .inl ⟨by rw [E1.out]; decide, by rw [E1.out]; first | done | rfl⟩⟩
      · have hx : (x == 0) = false := by rw [beq_eq_false_iff_ne]; exact h0
        have hz' : Hid (Nz l (i + 1)) := fun j k hj hk => by
          by_cases e : j = i
          · subst e
            have := HI.out
            rw [this] at hk
            obtain rfl := Option.some.inj hk
            exact h0
          · exact hz.out j k (by omega) hk
        clear h0
        go_wp2
        go_round
        case rel => exact ⟨i + 1, by omega, by go_num, hz'⟩
        case measure => simp [intOf]; omega
    · obtain rfl : i = l.length := by omega
      clear hi hlt
      go_wp2_with fail
      go_loopw [5] (fun vi wr => ∃ i : Nat, i ≤ l.length ∧ vi = .int .i64 i ∧ Hid (Nd l i) ∧ Fr (fun _ => False) w wr) (fun vi _ => l.length - (intOf vi).toNat)
      case atStart => exact ⟨0, by omega, rfl, Nd.zero l, Fr.refl _ _⟩
      case round =>
        obtain ⟨i, hi, rfl, hd, hf⟩ := hrel
        obtain ⟨wo, rfl⟩ : ∃ wo : World, wo = wr := ⟨_, rfl⟩
        by_cases hlt : i < l.length
        · obtain ⟨⟨x, a, c⟩, hki⟩ : ∃ k, l[i]? = some k := ⟨_, List.getElem?_eq_getElem hlt⟩
          have HI := hid hki
          clear hki
          go_wp2_with fail
          go_loopw [6] (fun vk wr2 => ∃ k : Nat, k ≤ i ∧ vk = .int .i64 k ∧ Hid (∀ j q, j < k → l[j]? = some q → q.1 ≠ x) ∧ Fr (fun _ => False) w wr2) (fun vk _ => i - (intOf vk).toNat)
          case atStart => exact ⟨0, by omega, rfl, fun j q hj => by omega, hf⟩
          case round =>
            obtain ⟨k, hk, rfl, hno, hf2⟩ := hrel
            by_cases hkl : k < i
            · obtain ⟨⟨x', a', c'⟩, hkk⟩ : ∃ q, l[k]? = some q := ⟨_, List.getElem?_eq_getElem (by omega)⟩
              obtain ⟨b, off, rfl, hb, hc⟩ := (HK.out.fr0 hf2).2 (by omega)
              obtain ⟨d0, _, _⟩ := hc i _ HI.out
              obtain ⟨c0, _, _⟩ := hc k _ hkk
              have HKK := hid hkk
              have li : (i : Int) < (l.length : Int) := by omega
              have lk : (k : Int) < (l.length : Int) := by omega
              have lki : (k : Int) < (i : Int) := by omega
              simp only at d0 c0
              clear hc hkk
              by_cases he : x' = x
              · have hb' : (x' == x) = true := by simp only [beq_iff_eq]; exact he
                have hs : ∃ q, fnd (l.take i) x = some q := by
                  cases hq : fnd (l.take i) x with
                  | some q => exact ⟨q, rfl⟩
                  | none =>
                    have hmem : (x', a', c') ∈ l.take i := List.mem_of_getElem? (i := k) (by rw [List.getElem?_take_of_lt hkl]; exact HKK.out)
                    exact absurd he (fnd_none hq _ hmem)
                obtain ⟨q, hq⟩ := hs
                have E9 := hid (newE_there hz.out (Nd.no HI.out hq))
                clear he hq
                go_wp2_with fail
                go_quiet (fail)
                go_wp2
                go_ret2
                exact ⟨by (repeat' (first | (with_reducible exact Fr.refl _ _) | (with_reducible assumption) | (with_reducible refine Fr.alloc ?_ _) | (with_reducible refine Fr.drew ?_) | (with_reducible refine Fr.drewN ?_ _) | (with_reducible refine Fr.setCell ?_ _ _ ?_) | (exact Or.inr rfl) | (left; simp; done) | (left; simp; omega) | (simp; done) | (simp; omega) | omega)), .inl ⟨by rw [E9.out]; decide, by rw [E9.out]; first | done | rfl⟩⟩
              · have hb' : (x' == x) = false := by rw [beq_eq_false_iff_ne]; exact he
                have hno' : Hid (∀ j q, j < k + 1 → l[j]? = some q → q.1 ≠ x) := fun j q hj hq => by
                  by_cases e : j = k
                  · subst e
                    have := HKK.out
                    rw [this] at hq
                    obtain rfl := Option.some.inj hq
                    exact he
                  · exact hno.out j q (by omega) hq
                clear he
                go_wp2_with fail
                go_quiet (fail)
                go_wp2
                go_roundw
                case rel => exact ⟨k + 1, by omega, by go_num, hno', by (repeat' (first | (with_reducible exact Fr.refl _ _) | (with_reducible assumption) | (with_reducible refine Fr.alloc ?_ _) | (with_reducible refine Fr.drew ?_) | (with_reducible refine Fr.drewN ?_ _) | (with_reducible refine Fr.setCell ?_ _ _ ?_) | (exact Or.inr rfl) | (left; simp; done) | (left; simp; omega) | (simp; done) | (simp; omega) | omega))⟩
                case measure => simp [intOf]; omega
            · obtain rfl : k = i := by omega
              have hd' : Hid (Nd l (k + 1)) := hd.out.succ HI.out (by
                cases hq : fnd (l.take k) x with
                | none => rfl
                | some q =>
                  exfalso
                  obtain ⟨h1, h2⟩ := fnd_some hq
                  obtain ⟨j, hj, rfl⟩ := List.getElem_of_mem h1
                  have hjk : j < k := by rw [List.length_take] at hj; omega
                  exact hno.out j _ hjk (by rw [← List.getElem?_take_of_lt hjk]; exact List.getElem?_eq_getElem hj) h2)
              go_wp2
              go_roundw
              case rel => exact ⟨k + 1, by omega, by go_num, hd', hf2⟩
              case measure => simp [intOf]; omega
        · obtain rfl : i = l.length := by omega
          clear hi hlt
          have HN := hid hd.out.all
          by_cases h16 : 16 < l.length
          · have E7 := hid (newE_full hz.out HN.out h16)
            have t16 : (16 : Int) < (l.length : Int) := by omega
            go_wp2
            go_ret2
            exact ⟨hf, .inl ⟨by rw [E7.out]; decide, by rw [E7.out]; first | done | rfl⟩⟩
          · have E0 := hid (newE_ok hz.out HN.out h16)
            have t16 : ¬ (16 : Int) < (l.length : Int) := by omega
            have l16 : l.length ≤ 1048576 := by omega
            go_wp2_with (first
              | (at_builtin
                 generalize hW : World.alloc wo _ = W
                 have f1 : Fr (fun _ => False) w W := by subst hW; (repeat' (first | (with_reducible exact Fr.refl _ _) | (with_reducible assumption) | (with_reducible refine Fr.alloc ?_ _) | (with_reducible refine Fr.drew ?_) | (with_reducible refine Fr.drewN ?_ _) | (with_reducible refine Fr.setCell ?_ _ _ ?_) | (exact Or.inr rfl) | (left; simp; done) | (left; simp; omega) | (simp; done) | (simp; omega) | omega))
                 have bT : Blk W wo.heap.size #[.slice none 0 0] 68 := by subst hW; (repeat' (first | (with_reducible assumption) | (with_reducible apply Blk.drew) | (with_reducible apply Blk.drewN) | (with_reducible apply Blk.set) | (with_reducible apply Blk.other) | (exact Blk.new' _ _ _ (by first | rfl | (simp; done) | (simp; omega))) | (with_reducible apply Blk.alloc) | (with_reducible rfl) | (simp; done) | (simp; omega) | omega | rfl))
                 have k1 : Ks W A l := HK.out.fr0 f1
                 have hsW : wo.heap.size < W.heap.size := by subst hW; simp
                 clear hW
                 refine wpList_append_ks rfl _ _ rfl W.heap.size (.slice none 0 0) [] l A l.length cap rfl rfl (own3_nil _ _) k1 rfl (by simp; omega) (Nat.le_refl _) ?_
                 intro v' w2 o2 g2 _
                 have f2 : Fr (fun _ => False) W w2 := (Fr.refl _ _).grown g2 (fun k hk => by simp [Value.ownBlock] at hk)
                 obtain ⟨A', cap', rfl, _, _, k2, _, hA⟩ := own_ks (l := l) (by simpa using o2) (by simp) HK.out.1
                 have bT2 := bT.fr f2 (fun h => h)
                 have t0 := bT2.cell 0
                 have t1 := bT2.free 0
                 simp at t0
                 clear k1 bT o2 g2))
            go_ret2
            exact ⟨by have := f1.trans f2 (fun _ _ h => h); exact (this.setCell _ _ (.inl hf.size)), .inr ⟨E0.out, _, _, _, rfl, ⟨bT2.set rfl, k2.fr (S := fun i => i = wo.heap.size) ((Fr.refl _ _).setCell _ _ (.inr rfl)) (fun b off e h => by have := (hA b off e).1; have h : b = wo.heap.size := h; omega)⟩, hf.size, fun b o e => by have := (hA b o e).1; have := hf.size; omega⟩⟩
end Go.Proofs.Ytnphjhignhmhaaa
