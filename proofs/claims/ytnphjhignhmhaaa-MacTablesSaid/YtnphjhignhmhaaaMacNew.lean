/- mac.New: a table of keys, or why there is none. -/
import Derived.Test.YtnphjhignhmhaaaMacKeys
import Derived.Test.YtnphjhignhmhaaaWWords
import Derived.Test.YtnphjhignhmhaaaWLast
import Derived.Test.YtnphjhignhmhaaaWMore
import Derived.Deep.RegionHeld3
namespace Go.Proofs.Ytnphjhignhmhaaa
open Go.RowKit Go.Proofs.YtnphjhignhmhaaaW.PrintWords Go.Proofs.YtnphjhignhmhaaaW.PrintLast Go.Proofs.YtnphjhignhmhaaaW.PrintMore
set_option linter.unusedVariables false
set_option linter.unusedSimpArgs false
set_option maxRecDepth 100000
@[reducible] def oY : Bool := true
@[reducible] def oN : Bool := false
theorem Blk.c3 {w : World} {b : Nat} {x y z : Value} {t : TypeId} (h : Blk w b #[x, y, z] t) : w.cell? ⟨b, 0, none⟩ = some x ∧ w.cell? ⟨b, 1, none⟩ = some y ∧ w.cell? ⟨b, 2, none⟩ = some z ∧ w.frozen? ⟨b, 0, none⟩ = false ∧ w.frozen? ⟨b, 1, none⟩ = false ∧ w.frozen? ⟨b, 2, none⟩ = false :=
  ⟨h.cell 0, h.cell 1, h.cell 2, h.free 0, h.free 1, h.free 2⟩
theorem zeroKey (w : World) : (zeroValue 25).run Try.prog w = .ok (.agg #[.int .u32 0, .int .u64 0, .int .u64 0]) w := by kernel_rfl
/-- A table: its block and its map. -/
structure Tb (w : World) (g m n : Nat) (l : List K3) : Prop where
  blk : Blk w g #[.map (some m)] 66
  map : MF 22 .u32 w m n (keysF l)
theorem Tb.fr {S : Nat → Prop} {w w' : World} {g m n : Nat} {l : List K3} (h : Tb w g m n l) (k : Fr S w w') (hg : ¬ S g) (hm : ¬ S m) : Tb w' g m n l := ⟨h.blk.fr k hg, h.map.fr k hm⟩
theorem Tb.fr0 {w w' : World} {g m n : Nat} {l : List K3} (h : Tb w g m n l) (k : Fr (fun _ => False) w w') : Tb w' g m n l := h.fr k (fun h => h) (fun h => h)
theorem Tb.look {w : World} {g m n : Nat} {l : List K3} (h : Tb w g m n l) {id : Int} (hi : (Lit.int .u32 id).wf = true) :
    (Instr.lookup 64 (.map (some m)) (.int .u32 id) true).run Try.prog w = .ok (.tuple #[kv (fz l id), .bool (fnd l id).isSome]) w := by
  have := h.map.look_ok Try.underlying22 Try.underlying64 (zeroKey _) hi
  rw [this, keysF_getD, keysF_some]
/-- What New answers. -/
def NewR (w : World) (l : List K3) (e : Ending) (w' : World) : Prop := Fr (fun _ => False) w w' ∧
  ((newE l ≠ 0 ∧ e = .returned (.tuple #[.pointer none, .int .i64 (newE l)])) ∨
   (newE l = 0 ∧ ∃ g m, e = .returned (.tuple #[.pointer (some ⟨g, 0, none⟩), .int .i64 0]) ∧ Tb w' g m l.length l ∧ w.heap.size ≤ g ∧ w.heap.size ≤ m))
/-- What the look-up reads. -/
def LkK (W : World) (g m b : Nat) (id : Int) (r : Value) (w' : World) : Prop :=
  w'.cell? ⟨g, 0, none⟩ = some (.map (some m)) ∧ w'.cell? ⟨b, 0, none⟩ = some (.int .u32 id) ∧ (Instr.lookup 64 (.map (some m)) (.int .u32 id) true).run Try.prog w' = .ok r w' ∧ Fr (fun _ => False) W w'

set_option maxHeartbeats 1000000 in
theorem new_at {w : World} {A : Option Addr} {n cap : Nat} {l : List K3} (hk : Ks w A l) (hn : n = l.length) (hl : l.length ≤ 1000000) :
    Calls Try.prog 13 #[.slice A n cap] w (NewR w l) := by
  subst hn
  have HK := hid hk
  clear hk
  have hl2 : l.length ≤ 9223372036854775807 := by omega
  have hmm := @run_makeMap Try.prog
  go_enter Try.func13, Try.ntmps13
  go_wp2_with fail
  generalize hW : World.alloc (World.alloc w _) _ = W
  have f0 : Fr (fun _ => False) w W := by subst hW; (repeat' (first | (with_reducible exact Fr.refl _ _) | (with_reducible assumption) | (with_reducible refine Fr.alloc ?_ _) | (with_reducible refine Fr.drew ?_) | (with_reducible refine Fr.drewN ?_ _) | (with_reducible refine Fr.setCell ?_ _ _ ?_) | (exact Or.inr rfl) | (left; simp; done) | (left; simp; omega) | (simp; done) | (simp; omega) | omega))
  have bT : Blk W (w.heap.size + 1) #[.map (some w.heap.size)] 66 := by subst hW; (repeat' (first | (with_reducible assumption) | (with_reducible apply Blk.drew) | (with_reducible apply Blk.drewN) | (with_reducible apply Blk.set) | (with_reducible apply Blk.other) | (exact Blk.new' _ _ _ (by first | rfl | (simp; done) | (simp; omega))) | (with_reducible apply Blk.alloc) | (with_reducible rfl) | (simp; done) | (simp; omega) | omega | rfl))
  have mT : MF 22 .u32 W w.heap.size 0 (keysF []) := by
    subst hW
    exact (MF.made w rfl).fr (S := fun _ => False) ((Fr.refl _ _).alloc _) (fun h => h)
  have F0 := hid f0
  have BT := hid bT
  have MT := hid mT
  clear hW f0 bT mT
  go_loopw [16] (fun vi wr => ∃ i : Nat, i ≤ l.length ∧ vi = .int .i64 i ∧ Hid (Nz l i) ∧ Fr (fun _ => False) W wr) (fun vi _ => l.length - (intOf vi).toNat)
  case atStart => exact ⟨0, by omega, rfl, fun j k hj => by omega, Fr.refl _ _⟩
  case round =>
    obtain ⟨i, hi, rfl, hz, hf⟩ := hrel
    by_cases hlt : i < l.length
    · obtain ⟨⟨x, a, c⟩, hki⟩ : ∃ k, l[i]? = some k := ⟨_, List.getElem?_eq_getElem hlt⟩
      obtain ⟨b, off, rfl, hb, hc⟩ := (HK.out.fr0 (F0.out.trans hf (fun _ _ h => h))).2 (by omega)
      obtain ⟨d0, d1, d2⟩ := hc i _ hki
      have HI := hid hki
      have li : (i : Int) < (l.length : Int) := by omega
      simp only at d0 d1 d2
      clear hc hki
      by_cases h0 : x = 0
      · subst h0
        have e1 := newE_arg HI.out rfl
        have E1 := hid e1
        clear e1
        go_wp2
        go_ret2
        exact ⟨by have ff := F0.out.trans hf (fun _ _ h => h); (repeat' (first | (with_reducible exact Fr.refl _ _) | (with_reducible assumption) | (with_reducible refine Fr.alloc ?_ _) | (with_reducible refine Fr.drew ?_) | (with_reducible refine Fr.drewN ?_ _) | (with_reducible refine Fr.setCell ?_ _ _ ?_) | (exact Or.inr rfl) | (left; simp; done) | (left; simp; omega) | (simp; done) | (simp; omega) | omega)), .inl ⟨by rw [E1.out]; decide, by rw [E1.out]; first | done | rfl⟩⟩
      · have hx : (x == 0) = false := by rw [beq_eq_false_iff_ne]; exact h0
        have hz' : Hid (Nz l (i + 1)) := fun j k hj hk => by
          by_cases e : j = i
          · subst e
            have := HI.out
            rw [this] at hk
            obtain rfl := Option.some.inj hk
            exact h0
          · exact hz.out j k (by omega) hk
        clear h0
        go_wp2
        go_roundw
        case rel => exact ⟨i + 1, by omega, by go_num, hz', by (repeat' (first | (with_reducible exact Fr.refl _ _) | (with_reducible assumption) | (with_reducible refine Fr.alloc ?_ _) | (with_reducible refine Fr.drew ?_) | (with_reducible refine Fr.drewN ?_ _) | (with_reducible refine Fr.setCell ?_ _ _ ?_) | (exact Or.inr rfl) | (left; simp; done) | (left; simp; omega) | (simp; done) | (simp; omega) | omega))⟩
        case measure => simp [intOf]; omega
    · obtain rfl : i = l.length := by omega
      clear hi hlt
      obtain ⟨wo, rfl⟩ : ∃ wo : World, wo = wr := ⟨_, rfl⟩
      go_wp2_with fail
      go_loopw [26] (fun vi wr => ∃ i : Nat, i ≤ l.length ∧ vi = .int .i64 i ∧ Hid (Nd l i) ∧ MF 22 .u32 wr w.heap.size i (keysF (l.take i)) ∧ Fr (fun j => j = w.heap.size) W wr) (fun vi _ => l.length - (intOf vi).toNat)
      case atStart => exact ⟨0, by omega, rfl, Nd.zero l, by rw [List.take_zero]; exact MT.out.fr hf (fun h => h), hf.mono (fun _ _ h => h.elim)⟩
      case round =>
        obtain ⟨i, hi, rfl, hd, hm, hf2⟩ := hrel
        have F1 : Fr (fun _ => False) w wr := F0.out.trans hf2 (fun i hi e => by omega)
        have hT := BT.out.fr hf2 (fun e => by omega)
        by_cases hlt : i < l.length
        · obtain ⟨⟨x, a, c⟩, hki⟩ : ∃ k, l[i]? = some k := ⟨_, List.getElem?_eq_getElem hlt⟩
          obtain ⟨b, off, rfl, hb, hc⟩ := (HK.out.fr0 F1).2 (by omega)
          obtain ⟨d0, d1, d2⟩ := hc i _ hki
          have hwf : (Lit.int .u32 x).wf = true := HK.out.1 _ (List.mem_of_getElem? hki)
          have HI := hid hki
          have HWF := hid hwf
          have li : (i : Int) < (l.length : Int) := by omega
          have hgs := hT.lt
          have T1 : Tb wr (w.heap.size + 1) w.heap.size i (l.take i) := ⟨hT, hm⟩
          have hms := hm.lt
          simp only at d0 d1 d2
          clear hc hki hwf hT hm
          go_wp2_with fail
          generalize hW : World.alloc wr _ = W2
          have f2 : Fr (fun _ => False) wr W2 := by subst hW; (repeat' (first | (with_reducible exact Fr.refl _ _) | (with_reducible assumption) | (with_reducible refine Fr.alloc ?_ _) | (with_reducible refine Fr.drew ?_) | (with_reducible refine Fr.drewN ?_ _) | (with_reducible refine Fr.setCell ?_ _ _ ?_) | (exact Or.inr rfl) | (left; simp; done) | (left; simp; omega) | (simp; done) | (simp; omega) | omega))
          have bX : Blk W2 wr.heap.size #[.int .u32 x, .int .u64 a, .int .u64 c] 25 := by subst hW; (repeat' (first | (with_reducible assumption) | (with_reducible apply Blk.drew) | (with_reducible apply Blk.drewN) | (with_reducible apply Blk.set) | (with_reducible apply Blk.other) | (exact Blk.new' _ _ _ (by first | rfl | (simp; done) | (simp; omega))) | (with_reducible apply Blk.alloc) | (with_reducible rfl) | (simp; done) | (simp; omega) | omega | rfl))
          clear hW d0 d1 d2
          have T2 := T1.fr0 f2
          cases hfd : fnd (l.take i) x with
          | some q =>
            obtain ⟨z1, z2, z3⟩ := q
            have E9 := hid (newE_there hz.out (Nd.no HI.out hfd))
            have mk : ∀ w3, Fr (fun _ => False) W2 w3 → LkK W2 (w.heap.size + 1) w.heap.size wr.heap.size x (.tuple #[.agg #[.int .u32 z1, .int .u64 z2, .int .u64 z3], .bool true]) w3 := fun w3 f =>
              ⟨(T2.fr0 f).blk.cell 0, (bX.fr f (fun h => h)).cell 0, by have := (T2.fr0 f).look HWF.out; unfold fz at this; rw [hfd] at this; exact this, f⟩
            have msd := mk _ (Fr.drew (Fr.refl _ _))
            have MK := hid mk
            clear mk hfd
            go_wp2_with fail
            refine start_ (n := 13) (S := fun w' => w'.cell? ⟨w.heap.size + 1, 0, none⟩ = some (.map (some w.heap.size)) ∧ w'.cell? ⟨wr.heap.size, 0, none⟩ = some (.int .u32 x) ∧ (Instr.lookup 64 (.map (some w.heap.size)) (.int .u32 x) true).run Try.prog w' = .ok (.tuple #[.agg #[.int .u32 z1, .int .u64 z2, .int .u64 z3], .bool true]) w' ∧ Fr (fun _ => False) W2 w') (ds := []) #[oN,oN,oN,oN,oN,oN,oN,oN,oN,oN,oN,oN,oN] (by kernel_rfl) rfl rfl ⟨msd.1, msd.2.1, msd.2.2.1, msd.2.2.2⟩ (fun hHeld => ?_)
            refine pure_ (i := 0) (N := some 31) (v := ?_) (a' := ?_) #[oY,oN,oN,oN,oN,oN,oN,oN,oN,oN,oN,oN,oN] rfl rfl (by kernel_rfl) (fun _ _ _ h => h) (Or.inl ⟨by rfl, ?_⟩) ?_ ?_
            rotate_left
            · intro w'
              go_simp
              with_reducible rfl
            rotate_left
            · simp only [Act.put, List.setIfInBounds_toArray, List.set_cons_zero, List.set_cons_succ, i64_w, i32_w]
              rfl
            refine pure_ (i := 1) (N := some 32) (v := ?_) (a' := ?_) #[oY,oY,oN,oN,oN,oN,oN,oN,oN,oN,oN,oN,oN] rfl rfl (by kernel_rfl) (fun _ _ _ h => h) (Or.inl ⟨by rfl, ?_⟩) ?_ ?_
            rotate_left
            · intro w'
              go_simp
              with_reducible rfl
            rotate_left
            · simp only [Act.put, List.setIfInBounds_toArray, List.set_cons_zero, List.set_cons_succ, i64_w, i32_w]
              rfl
            refine pure_ (i := 2) (N := some 33) (v := ?_) (a' := ?_) #[oY,oY,oY,oN,oN,oN,oN,oN,oN,oN,oN,oN,oN] rfl rfl (by kernel_rfl) (fun _ _ _ h => h) (Or.inl ⟨by rfl, ?_⟩) ?_ ?_
            rotate_left
            · intro w'
              go_simp
              with_reducible rfl
            rotate_left
            · simp only [Act.put, List.setIfInBounds_toArray, List.set_cons_zero, List.set_cons_succ, i64_w, i32_w]
              rfl
            refine pure_ (i := 4) (N := some 35) (v := ?_) (a' := ?_) #[oY,oY,oY,oN,oY,oN,oN,oN,oN,oN,oN,oN,oN] rfl rfl (by kernel_rfl) (fun _ _ _ h => h) (Or.inl ⟨by rfl, ?_⟩) ?_ ?_
            rotate_left
            · intro w'
              go_simp
              with_reducible rfl
            rotate_left
            · simp only [Act.put, List.setIfInBounds_toArray, List.set_cons_zero, List.set_cons_succ, i64_w, i32_w]
              rfl
            refine take_ (i := 3) (N := some 34) (v := ?_) (a' := ?_) #[oY,oY,oY,oY,oY,oN,oN,oN,oN,oN,oN,oN,oN] rfl rfl (by kernel_rfl) (fun _ _ _ h => h) (Or.inl ⟨by rfl, ?_⟩) hHeld ?_ ?_
            rotate_left
            · rintro w' ⟨s0, s1, s2, s3⟩
              go_simp
              with_reducible rfl
            rotate_left
            · simp only [Act.put, List.setIfInBounds_toArray, List.set_cons_zero, List.set_cons_succ, i64_w, i32_w]
              rfl
            refine take_ (i := 5) (N := some 36) (v := ?_) (a' := ?_) #[oY,oY,oY,oY,oY,oY,oN,oN,oN,oN,oN,oN,oN] rfl rfl (by kernel_rfl) (fun _ _ _ h => h) (Or.inl ⟨by rfl, ?_⟩) hHeld ?_ ?_
            rotate_left
            · rintro w' ⟨s0, s1, s2, s3⟩
              go_simp
              with_reducible rfl
            rotate_left
            · simp only [Act.put, List.setIfInBounds_toArray, List.set_cons_zero, List.set_cons_succ, i64_w, i32_w]
              rfl
            refine take_ (i := 6) (N := some 37) (v := ?_) (a' := ?_) #[oY,oY,oY,oY,oY,oY,oY,oN,oN,oN,oN,oN,oN] rfl rfl (by kernel_rfl) (fun _ _ _ h => h) (Or.inl ⟨by rfl, ?_⟩) hHeld ?_ ?_
            rotate_left
            · rintro w' ⟨s0, s1, s2, s3⟩
              go_simp
              with_reducible rfl
            rotate_left
            · simp only [Act.put, List.setIfInBounds_toArray, List.set_cons_zero, List.set_cons_succ, i64_w, i32_w]
              rfl
            refine pure_ (i := 7) (N := some 30) (v := ?_) (a' := ?_) #[oY,oY,oY,oY,oY,oY,oY,oY,oN,oN,oN,oN,oN] rfl rfl (by kernel_rfl) (fun _ _ _ h => h) (Or.inl ⟨by rfl, ?_⟩) ?_ ?_
            rotate_left
            · intro w'
              go_simp
              with_reducible rfl
            rotate_left
            · simp only [Act.put, List.setIfInBounds_toArray, List.set_cons_zero, List.set_cons_succ, i64_w, i32_w]
              rfl
            refine pure_ (i := 8) (N := some 38) (v := ?_) (a' := ?_) #[oY,oY,oY,oY,oY,oY,oY,oY,oY,oN,oN,oN,oN] rfl rfl (by kernel_rfl) (fun _ _ _ h => h) (Or.inl ⟨by rfl, ?_⟩) ?_ ?_
            rotate_left
            · intro w'
              go_simp
              with_reducible rfl
            rotate_left
            · simp only [Act.put, List.setIfInBounds_toArray, List.set_cons_zero, List.set_cons_succ, i64_w, i32_w]
              rfl
            refine pure_ (i := 9) (N := some 39) (v := ?_) (a' := ?_) #[oY,oY,oY,oY,oY,oY,oY,oY,oY,oY,oN,oN,oN] rfl rfl (by kernel_rfl) (fun _ _ _ h => h) (Or.inl ⟨by rfl, ?_⟩) ?_ ?_
            rotate_left
            · intro w'
              go_simp
              with_reducible rfl
            rotate_left
            · simp only [Act.put, List.setIfInBounds_toArray, List.set_cons_zero, List.set_cons_succ, i64_w, i32_w]
              rfl
            refine one_ (i := 10) (N := some 9) #[oY,oY,oY,oY,oY,oY,oY,oY,oY,oY,oY,oN,oN] rfl rfl (by kernel_rfl) (by decide) (fun K hK => ?_)
            refine value_ (w1 := ?_) (v := ?_) (by rfl) rfl ?_ ?_
            rotate_left 2
            · go_simp
              constructor
              · rfl
              · rfl
            generalize hW : World.drew (World.alloc W2 _) = w3
            have bY : Blk w3 W2.heap.size #[.int .u32 0, .int .u64 0, .int .u64 0] 25 := by subst hW; (repeat' (first | (with_reducible assumption) | (with_reducible apply Blk.drew) | (with_reducible apply Blk.drewN) | (with_reducible apply Blk.set) | (with_reducible apply Blk.other) | (exact Blk.new' _ _ _ (by first | rfl | (simp; done) | (simp; omega))) | (with_reducible apply Blk.alloc) | (with_reducible rfl) | (simp; done) | (simp; omega) | omega | rfl))
            have f3 : Fr (fun _ => False) W2 w3 := by subst hW; (repeat' (first | (with_reducible exact Fr.refl _ _) | (with_reducible assumption) | (with_reducible refine Fr.alloc ?_ _) | (with_reducible refine Fr.drew ?_) | (with_reducible refine Fr.drewN ?_ _) | (with_reducible refine Fr.setCell ?_ _ _ ?_) | (exact Or.inr rfl) | (left; simp; done) | (left; simp; omega) | (simp; done) | (simp; omega) | omega))
            have ms3 := MK.out _ f3
            clear hW
            refine hK.out _ _ ⟨ms3.1, ms3.2.1, ms3.2.2.1, ms3.2.2.2⟩ (fun hHeld => ?_)
            clear hK K
            refine norm_ (a' := ?_) ?_ ?_
            rotate_left
            · show Act.put _ (some 9) _ = _
              simp only [Act.put, List.setIfInBounds_toArray, List.set_cons_zero, List.set_cons_succ, i64_w, i32_w]
              rfl
            refine one_ (i := 11) (N := none) #[oY,oY,oY,oY,oY,oY,oY,oY,oY,oY,oY,oY,oN] rfl rfl (by kernel_rfl) (by decide) (fun K hK => ?_)
            obtain ⟨e0, e1, e2, e3, e4, e5⟩ := bY.c3
            refine skip_ (w1 := ?_) (by rfl) rfl ?_ ?_
            rotate_left
            · go_simp
              rfl
            generalize hW : World.setCell (World.setCell (World.setCell w3 _ _) _ _) _ _ = w4
            have f4 : Fr (fun _ => False) W2 w4 := by subst hW; (repeat' (first | (with_reducible exact Fr.refl _ _) | (with_reducible assumption) | (with_reducible refine Fr.alloc ?_ _) | (with_reducible refine Fr.drew ?_) | (with_reducible refine Fr.drewN ?_ _) | (with_reducible refine Fr.setCell ?_ _ _ ?_) | (exact Or.inr rfl) | (left; simp; done) | (left; simp; omega) | (simp; done) | (simp; omega) | omega))
            have ms4 := MK.out _ f4
            clear hW e0 e1 e2 e3 e4 e5
            refine hK.out _ _ ⟨ms4.1, ms4.2.1, ms4.2.2.1, ms4.2.2.2⟩ (fun hHeld => ?_)
            clear hK K
            refine pure_ (i := 12) (N := some 10) (v := ?_) (a' := ?_) #[oY,oY,oY,oY,oY,oY,oY,oY,oY,oY,oY,oY,oY] rfl rfl (by kernel_rfl) (fun _ _ _ h => h) (Or.inl ⟨by rfl, ?_⟩) ?_ ?_
            rotate_left
            · intro w'
              go_simp
              with_reducible rfl
            rotate_left
            · simp only [Act.put, List.setIfInBounds_toArray, List.set_cons_zero, List.set_cons_succ, i64_w, i32_w]
              rfl
            refine done_ (by kernel_rfl) ?_
            clear hHeld ms4 msd
            go_wp2
            go_ret2
            exact ⟨(F1.trans f2 (fun _ _ h => h)).trans f4 (fun _ _ h => h), .inl ⟨by rw [E9.out]; decide, by rw [E9.out]; first | done | rfl⟩⟩
          | none =>
            have FD := hid hfd
            have mk : ∀ w3, Fr (fun _ => False) W2 w3 → LkK W2 (w.heap.size + 1) w.heap.size wr.heap.size x (.tuple #[.agg #[.int .u32 0, .int .u64 0, .int .u64 0], .bool false]) w3 := fun w3 f =>
              ⟨(T2.fr0 f).blk.cell 0, (bX.fr f (fun h => h)).cell 0, by have := (T2.fr0 f).look HWF.out; unfold fz at this; rw [hfd] at this; exact this, f⟩
            have msd := mk _ (Fr.drew (Fr.refl _ _))
            have MK := hid mk
            clear mk hfd
            go_wp2_with fail
            refine start_ (n := 13) (S := fun w' => w'.cell? ⟨w.heap.size + 1, 0, none⟩ = some (.map (some w.heap.size)) ∧ w'.cell? ⟨wr.heap.size, 0, none⟩ = some (.int .u32 x) ∧ (Instr.lookup 64 (.map (some w.heap.size)) (.int .u32 x) true).run Try.prog w' = .ok (.tuple #[.agg #[.int .u32 0, .int .u64 0, .int .u64 0], .bool false]) w' ∧ Fr (fun _ => False) W2 w') (ds := []) #[oN,oN,oN,oN,oN,oN,oN,oN,oN,oN,oN,oN,oN] (by kernel_rfl) rfl rfl ⟨msd.1, msd.2.1, msd.2.2.1, msd.2.2.2⟩ (fun hHeld => ?_)
            refine pure_ (i := 0) (N := some 31) (v := ?_) (a' := ?_) #[oY,oN,oN,oN,oN,oN,oN,oN,oN,oN,oN,oN,oN] rfl rfl (by kernel_rfl) (fun _ _ _ h => h) (Or.inl ⟨by rfl, ?_⟩) ?_ ?_
            rotate_left
            · intro w'
              go_simp
              with_reducible rfl
            rotate_left
            · simp only [Act.put, List.setIfInBounds_toArray, List.set_cons_zero, List.set_cons_succ, i64_w, i32_w]
              rfl
            refine pure_ (i := 1) (N := some 32) (v := ?_) (a' := ?_) #[oY,oY,oN,oN,oN,oN,oN,oN,oN,oN,oN,oN,oN] rfl rfl (by kernel_rfl) (fun _ _ _ h => h) (Or.inl ⟨by rfl, ?_⟩) ?_ ?_
            rotate_left
            · intro w'
              go_simp
              with_reducible rfl
            rotate_left
            · simp only [Act.put, List.setIfInBounds_toArray, List.set_cons_zero, List.set_cons_succ, i64_w, i32_w]
              rfl
            refine pure_ (i := 2) (N := some 33) (v := ?_) (a' := ?_) #[oY,oY,oY,oN,oN,oN,oN,oN,oN,oN,oN,oN,oN] rfl rfl (by kernel_rfl) (fun _ _ _ h => h) (Or.inl ⟨by rfl, ?_⟩) ?_ ?_
            rotate_left
            · intro w'
              go_simp
              with_reducible rfl
            rotate_left
            · simp only [Act.put, List.setIfInBounds_toArray, List.set_cons_zero, List.set_cons_succ, i64_w, i32_w]
              rfl
            refine pure_ (i := 4) (N := some 35) (v := ?_) (a' := ?_) #[oY,oY,oY,oN,oY,oN,oN,oN,oN,oN,oN,oN,oN] rfl rfl (by kernel_rfl) (fun _ _ _ h => h) (Or.inl ⟨by rfl, ?_⟩) ?_ ?_
            rotate_left
            · intro w'
              go_simp
              with_reducible rfl
            rotate_left
            · simp only [Act.put, List.setIfInBounds_toArray, List.set_cons_zero, List.set_cons_succ, i64_w, i32_w]
              rfl
            refine take_ (i := 3) (N := some 34) (v := ?_) (a' := ?_) #[oY,oY,oY,oY,oY,oN,oN,oN,oN,oN,oN,oN,oN] rfl rfl (by kernel_rfl) (fun _ _ _ h => h) (Or.inl ⟨by rfl, ?_⟩) hHeld ?_ ?_
            rotate_left
            · rintro w' ⟨s0, s1, s2, s3⟩
              go_simp
              with_reducible rfl
            rotate_left
            · simp only [Act.put, List.setIfInBounds_toArray, List.set_cons_zero, List.set_cons_succ, i64_w, i32_w]
              rfl
            refine take_ (i := 5) (N := some 36) (v := ?_) (a' := ?_) #[oY,oY,oY,oY,oY,oY,oN,oN,oN,oN,oN,oN,oN] rfl rfl (by kernel_rfl) (fun _ _ _ h => h) (Or.inl ⟨by rfl, ?_⟩) hHeld ?_ ?_
            rotate_left
            · rintro w' ⟨s0, s1, s2, s3⟩
              go_simp
              with_reducible rfl
            rotate_left
            · simp only [Act.put, List.setIfInBounds_toArray, List.set_cons_zero, List.set_cons_succ, i64_w, i32_w]
              rfl
            refine take_ (i := 6) (N := some 37) (v := ?_) (a' := ?_) #[oY,oY,oY,oY,oY,oY,oY,oN,oN,oN,oN,oN,oN] rfl rfl (by kernel_rfl) (fun _ _ _ h => h) (Or.inl ⟨by rfl, ?_⟩) hHeld ?_ ?_
            rotate_left
            · rintro w' ⟨s0, s1, s2, s3⟩
              go_simp
              with_reducible rfl
            rotate_left
            · simp only [Act.put, List.setIfInBounds_toArray, List.set_cons_zero, List.set_cons_succ, i64_w, i32_w]
              rfl
            refine pure_ (i := 7) (N := some 30) (v := ?_) (a' := ?_) #[oY,oY,oY,oY,oY,oY,oY,oY,oN,oN,oN,oN,oN] rfl rfl (by kernel_rfl) (fun _ _ _ h => h) (Or.inl ⟨by rfl, ?_⟩) ?_ ?_
            rotate_left
            · intro w'
              go_simp
              with_reducible rfl
            rotate_left
            · simp only [Act.put, List.setIfInBounds_toArray, List.set_cons_zero, List.set_cons_succ, i64_w, i32_w]
              rfl
            refine pure_ (i := 8) (N := some 38) (v := ?_) (a' := ?_) #[oY,oY,oY,oY,oY,oY,oY,oY,oY,oN,oN,oN,oN] rfl rfl (by kernel_rfl) (fun _ _ _ h => h) (Or.inl ⟨by rfl, ?_⟩) ?_ ?_
            rotate_left
            · intro w'
              go_simp
              with_reducible rfl
            rotate_left
            · simp only [Act.put, List.setIfInBounds_toArray, List.set_cons_zero, List.set_cons_succ, i64_w, i32_w]
              rfl
            refine pure_ (i := 9) (N := some 39) (v := ?_) (a' := ?_) #[oY,oY,oY,oY,oY,oY,oY,oY,oY,oY,oN,oN,oN] rfl rfl (by kernel_rfl) (fun _ _ _ h => h) (Or.inl ⟨by rfl, ?_⟩) ?_ ?_
            rotate_left
            · intro w'
              go_simp
              with_reducible rfl
            rotate_left
            · simp only [Act.put, List.setIfInBounds_toArray, List.set_cons_zero, List.set_cons_succ, i64_w, i32_w]
              rfl
            refine one_ (i := 10) (N := some 9) #[oY,oY,oY,oY,oY,oY,oY,oY,oY,oY,oY,oN,oN] rfl rfl (by kernel_rfl) (by decide) (fun K hK => ?_)
            refine value_ (w1 := ?_) (v := ?_) (by rfl) rfl ?_ ?_
            rotate_left 2
            · go_simp
              constructor
              · rfl
              · rfl
            generalize hW : World.drew (World.alloc W2 _) = w3
            have bY : Blk w3 W2.heap.size #[.int .u32 0, .int .u64 0, .int .u64 0] 25 := by subst hW; (repeat' (first | (with_reducible assumption) | (with_reducible apply Blk.drew) | (with_reducible apply Blk.drewN) | (with_reducible apply Blk.set) | (with_reducible apply Blk.other) | (exact Blk.new' _ _ _ (by first | rfl | (simp; done) | (simp; omega))) | (with_reducible apply Blk.alloc) | (with_reducible rfl) | (simp; done) | (simp; omega) | omega | rfl))
            have f3 : Fr (fun _ => False) W2 w3 := by subst hW; (repeat' (first | (with_reducible exact Fr.refl _ _) | (with_reducible assumption) | (with_reducible refine Fr.alloc ?_ _) | (with_reducible refine Fr.drew ?_) | (with_reducible refine Fr.drewN ?_ _) | (with_reducible refine Fr.setCell ?_ _ _ ?_) | (exact Or.inr rfl) | (left; simp; done) | (left; simp; omega) | (simp; done) | (simp; omega) | omega))
            have ms3 := MK.out _ f3
            clear hW
            refine hK.out _ _ ⟨ms3.1, ms3.2.1, ms3.2.2.1, ms3.2.2.2⟩ (fun hHeld => ?_)
            clear hK K
            refine norm_ (a' := ?_) ?_ ?_
            rotate_left
            · show Act.put _ (some 9) _ = _
              simp only [Act.put, List.setIfInBounds_toArray, List.set_cons_zero, List.set_cons_succ, i64_w, i32_w]
              rfl
            refine one_ (i := 11) (N := none) #[oY,oY,oY,oY,oY,oY,oY,oY,oY,oY,oY,oY,oN] rfl rfl (by kernel_rfl) (by decide) (fun K hK => ?_)
            obtain ⟨e0, e1, e2, e3, e4, e5⟩ := bY.c3
            refine skip_ (w1 := ?_) (by rfl) rfl ?_ ?_
            rotate_left
            · go_simp
              rfl
            generalize hW : World.setCell (World.setCell (World.setCell w3 _ _) _ _) _ _ = w4
            have f4 : Fr (fun _ => False) W2 w4 := by subst hW; (repeat' (first | (with_reducible exact Fr.refl _ _) | (with_reducible assumption) | (with_reducible refine Fr.alloc ?_ _) | (with_reducible refine Fr.drew ?_) | (with_reducible refine Fr.drewN ?_ _) | (with_reducible refine Fr.setCell ?_ _ _ ?_) | (exact Or.inr rfl) | (left; simp; done) | (left; simp; omega) | (simp; done) | (simp; omega) | omega))
            have ms4 := MK.out _ f4
            clear hW e0 e1 e2 e3 e4 e5
            refine hK.out _ _ ⟨ms4.1, ms4.2.1, ms4.2.2.1, ms4.2.2.2⟩ (fun hHeld => ?_)
            clear hK K
            refine pure_ (i := 12) (N := some 10) (v := ?_) (a' := ?_) #[oY,oY,oY,oY,oY,oY,oY,oY,oY,oY,oY,oY,oY] rfl rfl (by kernel_rfl) (fun _ _ _ h => h) (Or.inl ⟨by rfl, ?_⟩) ?_ ?_
            rotate_left
            · intro w'
              go_simp
              with_reducible rfl
            rotate_left
            · simp only [Act.put, List.setIfInBounds_toArray, List.set_cons_zero, List.set_cons_succ, i64_w, i32_w]
              rfl
            refine done_ (by kernel_rfl) ?_
            clear hHeld ms4 msd
            have T4 := T2.fr0 f4
            obtain ⟨x0, x1, x2, _⟩ := (bX.fr f4 (fun h => h)).c3
            have b0 := T4.blk.cell 0
            simp at b0
            go_wp2_with fail
            go_still_tail 7, (by kernel_rfl)
            change wpList _ _ _ _ _ (World.drew w4)
            have hm5 : MF 22 .u32 w4.drew w.heap.size i (keysF (l.take i)) := T4.map.drew
            have il : i < maxLen := by unfold maxLen; omega
            go_wp2_with (at_mapUpdate; refine wpList_store_mf _ rfl _ _ _ 64 rfl 22 25 .u32 Try.underlying22 Try.underlying64 w.heap.size i (keysF (l.take i)) x (.agg #[.int .u32 x, .int .u64 a, .int .u64 c]) rfl hm5 il rfl rfl HWF.out ?_; intro w6 hm6 f6)
            have fin : MF 22 .u32 w6 w.heap.size (i + 1) (keysF (l.take (i + 1))) := by
              rw [keysF_some, FD.out] at hm6
              rw [take_snoc HI.out, ← keysF_put (k := (x, a, c)) FD.out]
              exact hm6
            have hd' : Hid (Nd l (i + 1)) := hd.out.succ HI.out FD.out
            have f7 : Fr (fun j => j = w.heap.size) W w6 := (hf2.trans ((f2.trans f4 (fun _ _ h => h)).drew) (fun _ _ h => h.elim)).trans f6 (fun _ _ h => h)
            clear hm6 hm5 f6 T4 T2 T1 b0 x0 x1 x2 bX bY
            go_roundw
            case rel => exact ⟨i + 1, by omega, by go_num, hd', fin, f7⟩
            case measure => simp [intOf]; omega
        · obtain rfl : i = l.length := by omega
          clear hi hlt
          rw [List.take_length] at hm
          have HM := hid hm
          have HN := hid hd.out.all
          clear hm
          by_cases h16 : 16 < l.length
          · have E7 := hid (newE_full hz.out HN.out h16)
            have t16 : (16 : Int) < (l.length : Int) := by omega
            go_wp2
            go_ret2
            exact ⟨F1, .inl ⟨by rw [E7.out]; decide, by rw [E7.out]; first | done | rfl⟩⟩
          · have E0 := hid (newE_ok hz.out HN.out h16)
            have t16 : ¬ (16 : Int) < (l.length : Int) := by omega
            go_wp2
            go_ret2
            exact ⟨F1, .inr ⟨E0.out, _, _, rfl, ⟨hT, HM.out⟩, by omega, by omega⟩⟩
end Go.Proofs.Ytnphjhignhmhaaa
