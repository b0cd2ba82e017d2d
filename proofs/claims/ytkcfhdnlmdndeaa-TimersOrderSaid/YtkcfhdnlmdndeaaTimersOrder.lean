/- TimersOrder: the walk of the law. -/
import Derived.Test.YtkcfhdnlmdndeaaTmOrd
import Derived.Test.YtkcfhdnlmdndeaaOpen
import Derived.Deep.DeepCutAuto
namespace Go.Proofs.Ytkcfhdnlmdndeaa
open Go.RowKit Go.Proofs.YtkcfhdnlmdndeaaW.PrintWords Go.Proofs.YtkcfhdnlmdndeaaW.PrintLast Go.Proofs.YtkcfhdnlmdndeaaW.PrintMore PHp
set_option linter.unusedVariables false
set_option linter.unusedSimpArgs false
set_option maxRecDepth 100000
theorem u16w {n : Int} (h : (Lit.int .u16 n).wf = true) : 0 ≤ n ∧ n ≤ 65535 := by
  simp [Lit.wf, IntKind.min, IntKind.max, IntKind.bits, IntKind.signed] at h; omega
theorem wf16 {n : Int} (h : 0 ≤ n ∧ n ≤ 65535) : (Lit.int .u16 n).wf = true := by
  simp [Lit.wf, IntKind.min, IntKind.max, IntKind.bits, IntKind.signed]; omega
def seenF (al : List Int) : Int → Option Value := fun v => if al.contains v = true then some (.int .i64 1) else none
theorem seenF_nil : seenF [] = fun _ => none := by funext v; rfl
theorem seenF_put {al : List Int} {v : Int} : putF (seenF al) v (.int .i64 1) = seenF (al ++ [v]) := by
  funext k
  unfold putF seenF
  by_cases h : k = v
  · subst h; simp
  · rw [if_neg h]
    have : (al ++ [v]).contains k = al.contains k := by simp [h]
    rw [this]
def u16s (l : List Int) : List Value := l.map (.int .u16)
theorem u16s_length (l : List Int) : (u16s l).length = l.length := by simp [u16s]
theorem u16s_snoc (l : List Int) (x : Int) : u16s l ++ [.int .u16 x] = u16s (l ++ [x]) := by simp [u16s]
theorem infoU16 : (Try.prog.info? 66).map (fun i => (i.zero, i.size, i.bytes)) = some (some (.int .u16 0), 1, 2) := by kernel_rfl
theorem own1_fr {S : Nat → Prop} {w w' : World} {base : Nat} {e : TypeId} {v : Value} {n : Nat} {xs : List Value} (h : w.ownsRow base e 1 v n xs) (k : Fr S w w') (hs : ∀ g, v.ownBlock = some g → ¬ S g) : w'.ownsRow base e 1 v n xs := by
  obtain ⟨hl, h⟩ := h
  refine ⟨hl, ?_⟩
  rcases h with h | ⟨g, cap, cur, rfl, hg, hh, r⟩
  · exact .inl h
  · exact .inr ⟨g, cap, cur, rfl, hg, (k.block g (Array.getElem?_eq_some_iff.1 hh).1 (hs g (by simp [Value.ownBlock]))).trans hh, r⟩
theorem own1_lt {w : World} {base : Nat} {e : TypeId} {v : Value} {n : Nat} {xs : List Value} (h : w.ownsRow base e 1 v n xs) : ∀ g, v.ownBlock = some g → base ≤ g ∧ g < w.heap.size := by
  intro g e
  rcases h.2 with ⟨rfl, _⟩ | ⟨g', cap, cur, rfl, hg, hh, r⟩
  · simp [Value.ownBlock] at e
  · have e : g' = g := by simpa [Value.ownBlock] using e
    subst e
    exact ⟨hg, (Array.getElem?_eq_some_iff.1 hh).1⟩
theorem own1_get {w : World} {base : Nat} {e : TypeId} {v : Value} {n : Nat} {xs : List Value} (h : w.ownsRow base e 1 v n xs) (h0 : 0 < n) : ∃ g cap, v = .slice (some ⟨g, 0, none⟩) n cap ∧ n ≤ cap ∧ cap ≤ maxLen ∧ v.ownBlock = some g ∧ g < w.heap.size ∧ ∀ i u, xs[i]? = some u → w.cell? ⟨g, i, none⟩ = some u := by
  rcases h.2 with ⟨rfl, e⟩ | ⟨g', cap, cur, rfl, hg, hh, hnc, hcm, hsz, htk⟩
  · omega
  · have hb : Blk w g' cur e := hh
    refine ⟨g', cap, rfl, hnc, hcm, rfl, hb.lt, fun i u hi => ?_⟩
    have hil := (List.getElem?_eq_some_iff.1 hi).1
    rw [hb.cell]
    rw [← htk, List.getElem?_take_of_lt (by have := h.1; omega)] at hi
    simpa using hi
theorem gone0 (l : List It) (now : Int) : l.flatMap (nxt 0 now) = [] := by
  induction l with
  | nil => rfl
  | cons y l ih =>
    rw [List.flatMap_cons, ih]
    unfold nxt
    rw [if_pos (Or.inl rfl)]; rfl
/-- The instants so far. -/
def AL (al : List Int) : Prop := al.Nodup ∧ (∀ v ∈ al, 0 ≤ v ∧ v ≤ 65535) ∧ al.length ≤ 40
/-- Ahead of a round: what has been added. -/
def OS (w2 : World) (x y : Nat) (b0 c0 : Bool → Nat) (Gx Gy : Nat → Prop) (al : List Int) (i : Nat) (wr : World) : Prop :=
  ∃ (Fx Fy : Nat → Prop) (X Y : List It) (sq : Int), TS wr x b0 Fx (MK X) (fun _ => 0) i i ∧ TS wr y c0 Fy (MK Y) (fun _ => 0) i sq ∧ (0 ≤ sq ∧ sq ≤ 3 * i) ∧ X.length = i ∧ Y.length = i ∧ X.map (·.f2) = al.take i ∧ Y.map (·.f2) = al.reverse.take i ∧
    Fr (fun j => Gx j ∨ Gy j) w2 wr ∧ (∀ j, Fx j → Gx j ∨ w2.heap.size ≤ j) ∧ (∀ j, Fy j → Gy j ∨ w2.heap.size ≤ j) ∧ ∀ j, Fx j → ¬ Fy j
/-- Ahead of a setting: y's new timer. -/
def KS (w2 w5 : World) (x y : Nat) (b0 c0 : Bool → Nat) (Gx Gy Fx Fy : Nat → Prop) (X Y : List It) (kb : Bool) (bk : Int) (i : Nat) (sq : Int) (wr : World) (vk : Value) : Prop :=
  ∃ (Fy' : Nat → Prop) (s t : Int), TS wr x b0 Fx (MK X) (fun _ => 0) (i + 1) (i + 1) ∧ TS wr y c0 Fy' (upd (MK Y) kb (⟨(i : Int) + 1, s, t⟩ :: MK Y kb)) (fun _ => 0) (i + 1) s ∧ Fr (fun j => Gx j ∨ Gy j) w2 wr ∧ (∀ j, Fy' j → Gy j ∨ w2.heap.size ≤ j) ∧ (∀ j, Fx j → ¬ Fy' j) ∧
    ((vk = .int .i64 0 ∧ s = sq + 1 ∧ t = 70000) ∨ (vk = .int .i64 1 ∧ s = sq + 2 ∧ t = bk) ∨ (vk = .int .i64 2 ∧ (sq ≤ s ∧ s ≤ sq + 3) ∧ t = bk))
set_option maxHeartbeats 16000000 in
theorem order_walk (A B : Option Addr) (len cap len2 cap2 : Nat) (w : World) (hs : RdS [.i .u16] w A len cap) (hg : RdS [.b] w B len2 cap2) :
    Calls Try.prog 10 #[.slice A len cap, .slice B len2 cap2] w fun e w' => e = .returned (.bool true) ∧ Fr (fun _ => False) w w' := by
  have HS := hid hs
  have HG := hid hg
  have hlen := hs.len_le
  have hlen2 := hg.len_le
  clear hs hg
  have hmm := @run_makeMap Try.prog
  go_enter Try.func10, Try.ntmps10
  go_wp2_with fail
  refine (tnew_at w).mono ?_
  rintro e w1 ⟨x, b0, Gx, rfl, tx1, f1, hGx⟩
  have hx1 := tx1.lt
  have HX1 := hid tx1
  clear tx1
  go_wp2_with fail
  refine (tnew_at w1).mono ?_
  rintro e w2 ⟨y, c0, Gy, rfl, ty2, f2, hGy⟩
  have HTX := hid (HX1.out.fr0 f2)
  have HTY := hid ty2
  have HGX := hid (fun j (h : Gx j) => (⟨hGx j h, hx1 j h⟩ : w.heap.size ≤ j ∧ j < w1.heap.size))
  have HGY := hid hGy
  have hyl := ty2.lt
  have HYL := hid hyl
  clear hyl
  have ff2 := f1.trans f2 (fun _ _ h => h)
  have hs12 := f2.size
  have hs01 := f1.size
  clear ty2 hx1 HX1 f1 f2 hGx hGy
  go_wp2_with fail
  generalize hW : World.alloc w2 _ = W
  have f3 : Fr (fun _ => False) w2 W := by subst hW; (repeat' (first | (with_reducible exact Fr.refl _ _) | (with_reducible assumption) | (with_reducible refine Fr.alloc ?_ _) | (with_reducible refine Fr.drew ?_) | (with_reducible refine Fr.drewN ?_ _) | (with_reducible refine Fr.setCell ?_ _ _ ?_) | (exact Or.inr rfl) | (left; simp; done) | (left; simp; omega) | (simp; done) | (simp; omega) | omega))
  have mT : MF 66 .u16 W w2.heap.size 0 (seenF []) := by subst hW; rw [seenF_nil]; exact MF.made w2 rfl
  have hszW : W.heap.size = w2.heap.size + 1 := by subst hW; simp
  have ffW := ff2.trans f3 (fun _ _ h => h)
  have HTX := hid (HTX.out.fr0 f3)
  have HTY := hid (HTY.out.fr0 f3)
  clear hW f3 ff2
  go_loopw [8, 9] (fun va vi wr => ∃ (i : Nat) (al : List Int), i ≤ 40 ∧ i ≤ len ∧ vi = .int .i64 i ∧ wr.ownsRow W.heap.size 66 1 va al.length (u16s al) ∧ Hid (AL al) ∧ al.length ≤ i ∧ MF 66 .u16 wr w2.heap.size al.length (seenF al) ∧ Fr (fun j => j = w2.heap.size) W wr) (fun _ vi _ => 40 - (intOf vi).toNat)
  case atStart => exact ⟨0, [], by omega, by omega, rfl, World.ownsRow_nil _ _ _ _, hid ⟨List.nodup_nil, by simp, by simp⟩, by simp, mT, Fr.refl _ _⟩
  case round =>
    clear mT
    obtain ⟨i, al, hi40, hil, rfl, ho, hal, hli, hm, hf⟩ := hrel
    have hin : (i : Int) ≤ 40 := by omega
    have hob := hid (own1_lt ho)
    by_cases hlt : i < len ∧ i < 40
    · obtain ⟨hl1, hl2⟩ := hlt
      obtain ⟨sb, so, v, rfl, hsc, hsw, hsb⟩ := HS.out.num hl1
      obtain ⟨v0, v1⟩ := u16w hsw
      have HWV := hid hsw
      have hsc3 := ((ffW.trans hf (fun j hj e => by omega) : Fr (fun _ => False) w wr).cell (a := ⟨sb, so + i, none⟩) hsb (fun h => h)).trans hsc
      have lsb := (ffW.trans hf (fun j hj e => by omega) : Fr (fun _ => False) w wr).lt hsb
      have li1 : (i : Int) < (len : Int) := by omega
      have li2 : (i : Int) < 40 := by omega
      have hlk := hm.look (z := .int .i64 0) Try.underlying66 Try.underlying82 (zeroI _) hsw
      clear hsc hsw
      by_cases hc : al.contains v = true
      · have hlk2 : (Instr.lookup 82 (.map (some w2.heap.size)) (.int .u16 v) false).run Try.prog wr = .ok (.int .i64 1) wr := by rw [hlk]; unfold seenF; rw [if_pos hc]; rfl
        clear hlk hc
        go_wp2_with (simp only [hlk2])
        go_roundw
        case rel => exact ⟨i + 1, al, by omega, by omega, by go_num, ho, hal, by omega, hm, hf⟩
        case measure => simp [intOf]; omega
      · have hlk2 : (Instr.lookup 82 (.map (some w2.heap.size)) (.int .u16 v) false).run Try.prog wr = .ok (.int .i64 0) wr := by rw [hlk]; unfold seenF; rw [if_neg hc]; rfl
        have hAL : Hid (AL (al ++ [v])) := hid (by
          obtain ⟨h1, h2, h3⟩ := hal.out
          refine ⟨?_, fun u hu => ?_, by simp; omega⟩
          · rw [List.nodup_append]
            refine ⟨h1, by simp, fun a ha c hc' => ?_⟩
            simp at hc'
            subst hc'
            intro e
            subst e
            exact hc (by simpa using ha)
          · rcases List.mem_append.1 hu with h | h
            · exact h2 u h
            · simp at h; subst h; exact ⟨v0, v1⟩)
        have hnn : (if (seenF al v).isSome = true then al.length else al.length + 1) = al.length + 1 := by unfold seenF; rw [if_neg hc]; rfl
        have HNN := hid hnn
        have hal40 : al.length ≤ 40 := hal.out.2.2
        have hlm : al.length < maxLen := by unfold maxLen; omega
        clear hlk hc hnn
        go_wp2_with (first
          | (simp only [hlk2])
          | (at_mapUpdate
             refine wpList_store_mf _ rfl _ _ _ 82 rfl 66 3 .u16 Try.underlying66 Try.underlying82 w2.heap.size al.length (seenF al) v (.int .i64 1) rfl hm hlm rfl rfl HWV.out ?_
             intro w4 hm4 f4
             rw [HNN.out, seenF_put] at hm4
             have ho4 := own1_fr ho f4 (fun g e h => by have := (hob.out g e).1; omega)
             have hsc4 := (f4.cell (a := ⟨sb, so + i, none⟩) lsb (fun h => by have h : sb = w2.heap.size := h; omega)).trans hsc3
             have lsb4 := f4.lt lsb
             have hf4 : Fr (fun j => j = w2.heap.size) W w4 := hf.trans f4 (fun _ _ h => h)
             clear hlk2 hsc3 lsb ho hm f4 hf)
          | (at_builtin
             generalize hW : World.alloc w4 _ = W7
             have f7 : Fr (fun _ => False) w4 W7 := by subst hW; (repeat' (first | (with_reducible exact Fr.refl _ _) | (with_reducible assumption) | (with_reducible refine Fr.alloc ?_ _) | (with_reducible refine Fr.drew ?_) | (with_reducible refine Fr.drewN ?_ _) | (with_reducible refine Fr.setCell ?_ _ _ ?_) | (exact Or.inr rfl) | (left; simp; done) | (left; simp; omega) | (simp; done) | (simp; omega) | omega))
             have l7 : Lst W7 66 (.slice (some ⟨w4.heap.size, 0, none⟩) 1 1) [.int .u16 v] := by subst hW; exact Lst.new w4 66 [.int .u16 v] (by simp) (by simp [maxLen])
             have o7 := own1_fr ho4 f7 (fun _ _ h => h)
             have m7 := hm4.fr f7 (fun h => h)
             have hf7 : Fr (fun j => j = w2.heap.size) W W7 := hf4.trans f7 (fun _ _ h => h.elim)
             have s7 := hf7.size
             rw [← u16s_length al] at o7
             clear hW
             refine wpList_append_lst rfl _ _ 67 rfl W.heap.size 66 (.int .u16 0) 2 Try.underlying67 infoU16 rfl u8 _ (u16s al) [.int .u16 v] rfl rfl o7 l7 (by simp [Value.oneCell']) (by rw [u16s_length]; simp [maxLen]; omega) (by rw [u16s_length]; simp; omega) s7 ?_
             intro va w8 o8 g8 _
             have f8 : Fr (fun i => u8.ownBlock = some i) W7 w8 := ⟨g8.os, g8.tape, g8.output, g8.size, fun k hk hn => g8.block k hk (fun e => hn e.symm)⟩
             have m8 := m7.fr f8 (fun e => by have := (hob.out _ e).1; omega)
             have hf8 : Fr (fun j => j = w2.heap.size) W w8 := hf7.trans f8 (fun j hj e => by have := (hob.out j e).1; omega)
             rw [u16s_snoc, u16s_length] at o8
             clear g8 f7 l7 o7 m7 hf7 s7 f8))
        go_roundw
        case rel => exact ⟨i + 1, al ++ [v], by omega, by omega, by go_num, o8, hAL, by simp; omega, by simpa using m8, hf8⟩
        case measure => simp [intOf]; omega
    · rcases (show (i < len ∧ ¬ i < 40) ∨ ¬ i < len by omega) with ⟨hl, h40⟩ | hl
      all_goals
        (try have tl : (i : Int) < (len : Int) := by omega)
        (try have tl' : ¬ (i : Int) < (len : Int) := by omega)
        (try have t40 : ¬ (i : Int) < 40 := by omega)
        obtain ⟨w5, rfl⟩ : ∃ w5 : World, w5 = wr := ⟨_, rfl⟩
        obtain ⟨n, hnl⟩ : ∃ n, n = al.length := ⟨_, rfl⟩
        have HNL := hid hnl
        have hn40 : n ≤ 40 := by rw [hnl]; exact hal.out.2.2
        have hform : ∃ A' cap', u8 = .slice A' n cap' ∧ n ≤ cap' := by
          rcases ho.2 with ⟨rfl, e⟩ | ⟨g, cap', cur, rfl, _, _, hc, _⟩
          · exact ⟨none, 0, by rw [hnl, e], by omega⟩
          · exact ⟨_, cap', by rw [hnl], by omega⟩
        obtain ⟨A', cap', rfl, hcap'⟩ := hform
        rw [← hnl] at ho
        have HO := hid ho
        have nGY : ¬ Gy w2.heap.size := fun h => by have := HYL.out _ h; omega
        have hTX5 := HTX.out.fr hf (fun j hj e => by have := (HGX.out j hj).2; have e : j = w2.heap.size := e; omega)
        have hTY5 := HTY.out.fr hf (fun j hj e => nGY (e ▸ hj))
        have hs5 := hf.size
        have hf5 := ffW.trans hf (fun j hj e => by have e : j = w2.heap.size := e; omega)
        have hGG : Hid (∀ j, Gx j ∨ Gy j → w.heap.size ≤ j ∧ j < w5.heap.size ∧ j ≠ w2.heap.size ∧ j < w2.heap.size) := hid (fun j h => by
          rcases h with h | h
          · have := HGX.out j h; omega
          · have := HGY.out j h; have := HYL.out j h; omega)
        have hOS : Hid (OS w5 x y b0 c0 Gx Gy al 0 w5) := hid ⟨Gx, Gy, [], [], 0, hTX5.perm (fun j => List.Perm.refl _), hTY5.perm (fun j => List.Perm.refl _), by omega, rfl, rfl, by simp, by simp, Fr.refl _ _, fun j h => .inl h, fun j h => .inl h, fun j hx hy => by have := (HGX.out j hx).2; have := HGY.out j hy; omega⟩
        clear hTX5 hTY5 ho hm hf HTX HTY hnl nGY
        go_wp2_with fail
        go_loopw [10] (fun vi wr => ∃ i : Nat, i ≤ n ∧ vi = .int .i64 i ∧ Hid (OS w5 x y b0 c0 Gx Gy al i wr)) (fun vi _ => n - (intOf vi).toNat)
        case atStart => exact ⟨0, by omega, rfl, hOS⟩
        case round =>
          clear hOS
          obtain ⟨i, hi, rfl, hj⟩ := hrel
          obtain ⟨Fx, Fy, X, Y, sq, tx, ty, ⟨q0, q1⟩, lX, lY, mX, mY, hf, hFx, hFy, hxy⟩ := hj.out
          have HTXi := hid tx
          have HTYi := hid ty
          have HFX := hid hFx
          have HFY := hid hFy
          have HXY := hid hxy
          have HLX := hid lX
          have HLY := hid lY
          have HMX := hid mX
          have HMY := hid mY
          clear hj tx ty lX lY mX mY hFx hFy hxy
          by_cases hlt : i < n
          · obtain ⟨g, cp, hA, _, hcm, hgo, hgl, hcl⟩ := own1_get HO.out (by omega)
            injection hA with e1 _ e3
            subst e1 e3
            obtain ⟨v, hv⟩ : ∃ v, al[i]? = some v := ⟨_, List.getElem?_eq_getElem (by have := HNL.out; omega)⟩
            obtain ⟨bk, hbk⟩ : ∃ v, al[n - 1 - i]? = some v := ⟨_, List.getElem?_eq_getElem (by have := HNL.out; omega)⟩
            have cv := hcl i (.int .u16 v) (by simp [u16s, hv])
            have cb := hcl (n - 1 - i) (.int .u16 bk) (by simp [u16s, hbk])
            have ng : ¬ (Gx g ∨ Gy g) := fun h => by have h1 := hGG.out g h; have h2 := (hob.out g hgo).1; omega
            have cv5 := (hf.cell (a := ⟨g, i, none⟩) hgl ng).trans cv
            have cb5 := (hf.cell (a := ⟨g, n - 1 - i, none⟩) hgl ng).trans cb
            have hgr := hf.lt hgl
            obtain ⟨v0, v1⟩ := hal.out.2.1 v (List.mem_of_getElem? hv)
            obtain ⟨bk0, bk1⟩ := hal.out.2.1 bk (List.mem_of_getElem? hbk)
            have HV := hid hv
            have HB := hid hbk
            have li : (i : Int) < (n : Int) := by omega
            have l0 : 0 ≤ (n : Int) - 1 - (i : Int) := by omega
            have l1 : (n : Int) - 1 - (i : Int) < (n : Int) := by omega
            clear cv cb hcl hv hbk
            go_wp2_with fail
            have ms : wr.drew.cell? ⟨g, i, none⟩ = some (.int .u16 v) ∧ TS wr.drew x b0 Fx (MK X) (fun _ => 0) i i := ⟨cv5, HTXi.out.fr0 (Fr.drew (Fr.refl _ _))⟩
            have htm : Int.tmod v 2 = v % 2 := Int.tmod_eq_emod_of_nonneg v0
            have hw1 : IntKind.u16.wrap (v % 2) = v % 2 := by simp only [IntKind.wrap, IntKind.bits, IntKind.signed]; simp; omega
            have hw2 : IntKind.i64.wrap v = v := by simp only [IntKind.wrap, IntKind.bits, IntKind.signed]; simp; omega
            refine start_ (n := 19) (S := fun w' => w'.cell? ⟨g, i, none⟩ = some (.int .u16 v) ∧ TS w' x b0 Fx (MK X) (fun _ => 0) i i) (ds := [13]) #[oN,oN,oN,oN,oN,oN,oN,oN,oN,oN,oN,oN,oN,oN,oN,oN,oN,oN,oN] (by kernel_rfl) rfl rfl ⟨ms.1, ms.2⟩ (fun hHeld => ?_)
            refine pure_ (i := 0) (N := some 73) (v := ?_) (a' := ?_) #[oY,oN,oN,oN,oN,oN,oN,oN,oN,oN,oN,oN,oN,oN,oN,oN,oN,oN,oN] rfl rfl (by kernel_rfl) (fun _ _ _ h => h) (Or.inl ⟨by rfl, ?_⟩) ?_ ?_
            rotate_left
            · intro w'
              go_simp
              with_reducible rfl
            rotate_left
            · simp only [Act.put, List.setIfInBounds_toArray, List.set_cons_zero, List.set_cons_succ, i64_w, i32_w]
              rfl
            refine pure_ (i := 1) (N := some 74) (v := ?_) (a' := ?_) #[oY,oY,oN,oN,oN,oN,oN,oN,oN,oN,oN,oN,oN,oN,oN,oN,oN,oN,oN] rfl rfl (by kernel_rfl) (fun _ _ _ h => h) (Or.inl ⟨by rfl, ?_⟩) ?_ ?_
            rotate_left
            · intro w'
              go_simp
              with_reducible rfl
            rotate_left
            · simp only [Act.put, List.setIfInBounds_toArray, List.set_cons_zero, List.set_cons_succ, i64_w, i32_w]
              rfl
            refine pure_ (i := 2) (N := some 75) (v := ?_) (a' := ?_) #[oY,oY,oY,oN,oN,oN,oN,oN,oN,oN,oN,oN,oN,oN,oN,oN,oN,oN,oN] rfl rfl (by kernel_rfl) (fun _ _ _ h => h) (Or.inl ⟨by rfl, ?_⟩) ?_ ?_
            rotate_left
            · intro w'
              go_simp
              with_reducible rfl
            rotate_left
            · simp only [Act.put, List.setIfInBounds_toArray, List.set_cons_zero, List.set_cons_succ, i64_w, i32_w]
              rfl
            refine pure_ (i := 3) (N := some 76) (v := ?_) (a' := ?_) #[oY,oY,oY,oY,oN,oN,oN,oN,oN,oN,oN,oN,oN,oN,oN,oN,oN,oN,oN] rfl rfl (by kernel_rfl) (fun _ _ _ h => h) (Or.inl ⟨by rfl, ?_⟩) ?_ ?_
            rotate_left
            · intro w'
              go_simp
              with_reducible rfl
            rotate_left
            · simp only [Act.put, List.setIfInBounds_toArray, List.set_cons_zero, List.set_cons_succ, i64_w, i32_w]
              rfl
            refine pure_ (i := 7) (N := some 80) (v := ?_) (a' := ?_) #[oY,oY,oY,oY,oN,oN,oN,oY,oN,oN,oN,oN,oN,oN,oN,oN,oN,oN,oN] rfl rfl (by kernel_rfl) (fun _ _ _ h => h) (Or.inl ⟨by rfl, ?_⟩) ?_ ?_
            rotate_left
            · intro w'
              go_simp
              with_reducible rfl
            rotate_left
            · simp only [Act.put, List.setIfInBounds_toArray, List.set_cons_zero, List.set_cons_succ, i64_w, i32_w]
              rfl
            refine pure_ (i := 8) (N := some 81) (v := ?_) (a' := ?_) #[oY,oY,oY,oY,oN,oN,oN,oY,oY,oN,oN,oN,oN,oN,oN,oN,oN,oN,oN] rfl rfl (by kernel_rfl) (fun _ _ _ h => h) (Or.inl ⟨by rfl, ?_⟩) ?_ ?_
            rotate_left
            · intro w'
              go_simp
              with_reducible rfl
            rotate_left
            · simp only [Act.put, List.setIfInBounds_toArray, List.set_cons_zero, List.set_cons_succ, i64_w, i32_w]
              rfl
            refine pure_ (i := 9) (N := some 82) (v := ?_) (a' := ?_) #[oY,oY,oY,oY,oN,oN,oN,oY,oY,oY,oN,oN,oN,oN,oN,oN,oN,oN,oN] rfl rfl (by kernel_rfl) (fun _ _ _ h => h) (Or.inl ⟨by rfl, ?_⟩) ?_ ?_
            rotate_left
            · intro w'
              go_simp
              with_reducible rfl
            rotate_left
            · simp only [Act.put, List.setIfInBounds_toArray, List.set_cons_zero, List.set_cons_succ, i64_w, i32_w]
              rfl
            refine take_ (i := 4) (N := some 77) (v := ?_) (a' := ?_) #[oY,oY,oY,oY,oY,oN,oN,oY,oY,oY,oN,oN,oN,oN,oN,oN,oN,oN,oN] rfl rfl (by kernel_rfl) (fun _ _ _ h => h) (Or.inl ⟨by rfl, ?_⟩) hHeld ?_ ?_
            rotate_left
            · rintro w' ⟨s0, s1⟩
              go_simp
              with_reducible rfl
            rotate_left
            · simp only [Act.put, List.setIfInBounds_toArray, List.set_cons_zero, List.set_cons_succ, i64_w, i32_w]
              rfl
            refine pure_ (i := 5) (N := some 78) (v := ?_) (a' := ?_) #[oY,oY,oY,oY,oY,oY,oN,oY,oY,oY,oN,oN,oN,oN,oN,oN,oN,oN,oN] rfl rfl (by kernel_rfl) (fun _ _ _ h => h) (Or.inl ⟨by rfl, ?_⟩) ?_ ?_
            rotate_left
            · intro w'
              go_simp
              with_reducible rfl
            rotate_left
            · simp only [Act.put, List.setIfInBounds_toArray, List.set_cons_zero, List.set_cons_succ, i64_w, i32_w]
              rfl
            refine pure_ (i := 6) (N := some 79) (v := ?_) (a' := ?_) #[oY,oY,oY,oY,oY,oY,oY,oY,oY,oY,oN,oN,oN,oN,oN,oN,oN,oN,oN] rfl rfl (by kernel_rfl) (fun _ _ _ h => h) (Or.inl ⟨by rfl, ?_⟩) ?_ ?_
            rotate_left
            · intro w'
              go_simp
              with_reducible rfl
            rotate_left
            · simp only [Act.put, List.setIfInBounds_toArray, List.set_cons_zero, List.set_cons_succ, i64_w, i32_w]
              rfl
            refine take_ (i := 10) (N := some 83) (v := ?_) (a' := ?_) #[oY,oY,oY,oY,oY,oY,oY,oY,oY,oY,oY,oN,oN,oN,oN,oN,oN,oN,oN] rfl rfl (by kernel_rfl) (fun _ _ _ h => h) (Or.inl ⟨by rfl, ?_⟩) hHeld ?_ ?_
            rotate_left
            · rintro w' ⟨s0, s1⟩
              go_simp
              with_reducible rfl
            rotate_left
            · simp only [Act.put, List.setIfInBounds_toArray, List.set_cons_zero, List.set_cons_succ, i64_w, i32_w]
              rfl
            refine pure_ (i := 11) (N := some 84) (v := ?_) (a' := ?_) #[oY,oY,oY,oY,oY,oY,oY,oY,oY,oY,oY,oY,oN,oN,oN,oN,oN,oN,oN] rfl rfl (by kernel_rfl) (fun _ _ _ h => h) (Or.inl ⟨by rfl, ?_⟩) ?_ ?_
            rotate_left
            · intro w'
              go_simp
              with_reducible rfl
            rotate_left
            · simp only [Act.put, List.setIfInBounds_toArray, List.set_cons_zero, List.set_cons_succ, i64_w, i32_w]
              rfl
            refine pure_ (i := 12) (N := some 85) (v := ?_) (a' := ?_) #[oY,oY,oY,oY,oY,oY,oY,oY,oY,oY,oY,oY,oY,oN,oN,oN,oN,oN,oN] rfl rfl (by kernel_rfl) (fun _ _ _ h => h) (Or.inl ⟨by rfl, ?_⟩) ?_ ?_
            rotate_left
            · intro w'
              go_simp
              with_reducible rfl
            rotate_left
            · simp only [Act.put, List.setIfInBounds_toArray, List.set_cons_zero, List.set_cons_succ, i64_w, i32_w]
              rfl
            refine last_ (i := 13) (N := some 86) #[oY,oY,oY,oY,oY,oY,oY,oY,oY,oY,oY,oY,oY,oY,oN,oN,oN,oN,oN] rfl rfl (by kernel_rfl) (by decide) (fun K hK => ?_)
            refine goes_ Try.func34 (by kernel_rfl) rfl #[.pointer (some ⟨x, 0, none⟩), tV (v % 2 == 1) v 0] (by rfl) rfl rfl (by simp only [List.map_toArray, List.map_cons, List.map_nil]; rfl) ?_
            refine (add_at hHeld.2 (par v) (a := v) (e := 0) (by unfold MT; omega) rfl (by rw [MK_len, HLX.out]; omega) (by omega) (by omega)).mono ?_
            rintro e w6 ⟨rfl, Fx6, tx6, f6, hFx6⟩
            refine ⟨_, rfl, ?_⟩
            refine hK.out _ _ ?_
            clear hK K
            refine norm_ (a' := ?_) ?_ ?_
            rotate_left
            · show Act.put _ (some 86) _ = _
              simp only [Act.put, List.setIfInBounds_toArray, List.set_cons_zero, List.set_cons_succ, i64_w, i32_w]
              rfl
            refine pure_ (i := 14) (N := some 72) (v := ?_) (a' := ?_) #[oY,oY,oY,oY,oY,oY,oY,oY,oY,oY,oY,oY,oY,oY,oY,oN,oN,oN,oN] rfl rfl (by kernel_rfl) (fun _ _ _ h => h) (Or.inl ⟨by rfl, ?_⟩) ?_ ?_
            rotate_left
            · intro w'
              go_simp
              with_reducible rfl
            rotate_left
            · simp only [Act.put, List.setIfInBounds_toArray, List.set_cons_zero, List.set_cons_succ, i64_w, i32_w]
              rfl
            refine pure_ (i := 15) (N := some 87) (v := ?_) (a' := ?_) #[oY,oY,oY,oY,oY,oY,oY,oY,oY,oY,oY,oY,oY,oY,oY,oY,oN,oN,oN] rfl rfl (by kernel_rfl) (fun _ _ _ h => h) (Or.inl ⟨by rfl, ?_⟩) ?_ ?_
            rotate_left
            · intro w'
              go_simp
              with_reducible rfl
            rotate_left
            · simp only [Act.put, List.setIfInBounds_toArray, List.set_cons_zero, List.set_cons_succ, i64_w, i32_w]
              rfl
            refine pure_ (i := 16) (N := some 88) (v := ?_) (a' := ?_) #[oY,oY,oY,oY,oY,oY,oY,oY,oY,oY,oY,oY,oY,oY,oY,oY,oY,oN,oN] rfl rfl (by kernel_rfl) (fun _ _ _ h => h) (Or.inl ⟨by rfl, ?_⟩) ?_ ?_
            rotate_left
            · intro w'
              go_simp
              with_reducible rfl
            rotate_left
            · simp only [Act.put, List.setIfInBounds_toArray, List.set_cons_zero, List.set_cons_succ, i64_w, i32_w]
              rfl
            refine pure_ (i := 17) (N := some 12) (v := ?_) (a' := ?_) #[oY,oY,oY,oY,oY,oY,oY,oY,oY,oY,oY,oY,oY,oY,oY,oY,oY,oY,oN] rfl rfl (by kernel_rfl) (fun _ _ _ h => h) (Or.inl ⟨by rfl, ?_⟩) ?_ ?_
            rotate_left
            · intro w'
              go_simp
              with_reducible rfl
            rotate_left
            · simp only [Act.put, List.setIfInBounds_toArray, List.set_cons_zero, List.set_cons_succ, i64_w, i32_w]
              rfl
            refine pure_ (i := 18) (N := some 13) (v := ?_) (a' := ?_) #[oY,oY,oY,oY,oY,oY,oY,oY,oY,oY,oY,oY,oY,oY,oY,oY,oY,oY,oY] rfl rfl (by kernel_rfl) (fun _ _ _ h => h) (Or.inl ⟨by rfl, ?_⟩) ?_ ?_
            rotate_left
            · intro w'
              go_simp
              with_reducible rfl
            rotate_left
            · simp only [Act.put, List.setIfInBounds_toArray, List.set_cons_zero, List.set_cons_succ, i64_w, i32_w]
              rfl
            refine done_ (by kernel_rfl) ?_
            have hszr := hf.size
            have hTX6 := tx6.perm (MK_snoc X ⟨(i : Int) + 1, (i : Int) + 1, v⟩ rfl)
            have f6' : Fr Fx wr w6 := ((Fr.refl Fx wr).drew).trans f6 (fun _ _ h => h)
            have hFx6' : ∀ j, Fx6 j → Fx j ∨ wr.heap.size ≤ j := hFx6
            have hXYl := HTYi.out.lt
            have hTY6 := HTYi.out.fr f6' (fun j hj h => HXY.out j h hj)
            have hXY6 : ∀ j, Fx6 j → ¬ Fy j := fun j hx hy => by
              rcases hFx6' j hx with h | h
              · exact HXY.out j h hy
              · have := hXYl j hy; omega
            have hFX6 : ∀ j, Fx6 j → Gx j ∨ w5.heap.size ≤ j := fun j hx => by
              rcases hFx6' j hx with h | h
              · exact HFX.out j h
              · exact .inr (by omega)
            have hf6 : Fr (fun j => Gx j ∨ Gy j) w5 w6 := hf.trans f6' (fun j hj h => by
              rcases HFX.out j h with h | h
              · exact .inl h
              · omega)
            have HTX6 := hid hTX6
            have HTY6 := hid hTY6
            have HXY6 := hid hXY6
            have HFX6 := hid hFX6
            have hs6 := f6'.size
            clear htm hw1 hw2 hHeld ms tx6 f6 f6' hFx6 hFx6' hTX6 hTY6 hXY6 hFX6 hXYl HTXi HTYi cv5 cb5 HFX HXY
            go_wp2_with fail
            refine (add_at HTY6.out (par bk) (a := 70000) (e := 0) (by unfold MT; omega) rfl (by rw [MK_len, HLY.out]; omega) (by omega) (by omega)).mono ?_
            rintro e w7 ⟨rfl, Fy7, ty7, f7, hFy7⟩
            have hxl6 := HTX6.out.lt
            have hKS : Hid (KS w5 w5 x y b0 c0 Gx Gy Fx6 Fy (X ++ [⟨(i : Int) + 1, (i : Int) + 1, v⟩]) Y (par bk) bk i sq w7 (.int .i64 0)) := hid ⟨Fy7, sq + 1, 70000, HTX6.out.fr f7 (fun j hj h => HXY6.out j hj h), ty7, hf6.trans f7 (fun j hj h => by
                rcases HFY.out j h with h | h
                · exact .inr h
                · omega), (fun j hj => by
                rcases hFy7 j hj with h | h
                · exact HFY.out j h
                · exact .inr (by omega)), (fun j hx hy => by
                rcases hFy7 j hy with h | h
                · exact HXY6.out j hx h
                · have := hxl6 j hx; omega), .inl ⟨rfl, rfl, rfl⟩⟩
            clear ty7 f7 hFy7 hxl6 HTX6 HTY6 HXY6 hf6
            go_wp2_with fail
            go_loopw [16] (fun vk wr => Hid (KS w5 w5 x y b0 c0 Gx Gy Fx6 Fy (X ++ [⟨(i : Int) + 1, (i : Int) + 1, v⟩]) Y (par bk) bk i sq wr vk)) (fun vk _ => 2 - (intOf vk).toNat)
            case atStart => exact hKS
            case round =>
              clear hKS
              obtain ⟨w8, rfl⟩ : ∃ w8 : World, w8 = wr := ⟨_, rfl⟩
              obtain ⟨Fy8, s, t, tx8, ty8, hf8, hFy8, hxy8, hd⟩ := hrel.out
              clear hrel
              have HTX8 := hid tx8
              have HTY8 := hid ty8
              have HFY8 := hid hFy8
              have HXY8 := hid hxy8
              have hs8 := hf8.size
              clear tx8 ty8 hFy8 hxy8
              rcases hd with ⟨rfl, hs, ht⟩ | ⟨rfl, hs, ht⟩ | ⟨rfl, hs, ht⟩
              · have hsb : s < 1000000000 := by omega
                have HS8 := hid hs
                have HT8 := hid ht
                clear hs ht
                go_wp2_with fail
                refine (reset_at HTY8.out (par bk) (y := ⟨(i : Int) + 1, s, t⟩) (R := MK Y (par bk)) (by rw [upd_same]) (a := bk) (e := 0) (by unfold MT; omega) rfl hsb).mono ?_
                rintro e w9 ⟨rfl, Fy9, ty9, f9, hFy9⟩
                have hxl8 := HTX8.out.lt
                have hKS9 : Hid (KS w5 w5 x y b0 c0 Gx Gy Fx6 Fy (X ++ [⟨(i : Int) + 1, (i : Int) + 1, v⟩]) Y (par bk) bk i sq w9 (.int .i64 1)) := hid ⟨Fy9, s + 1, bk, HTX8.out.fr f9 (fun j hj h => HXY8.out j hj h), ty9.perm (fun j => by
                    by_cases e : j = par bk
                    · subst e; rw [upd_same, upd_same]
                    · rw [upd_ne _ _ e, upd_ne _ _ e, upd_ne _ _ e]), hf8.trans f9 (fun j hj h => by
                    rcases HFY8.out j h with h | h
                    · exact .inr h
                    · omega), (fun j hj => by
                    rcases hFy9 j hj with h | h
                    · exact HFY8.out j h
                    · exact .inr (by omega)), (fun j hx hy => by
                    rcases hFy9 j hy with h | h
                    · exact HXY8.out j hx h
                    · have := hxl8 j hx; omega), .inr (.inl ⟨rfl, by have := HS8.out; omega, rfl⟩)⟩
                clear ty9 f9 hFy9 hxl8 HTX8 HTY8 HXY8 HFY8 hf8
                go_wp2
                go_roundw
                case rel => exact hKS9
                case measure => simp [intOf]
              · by_cases hl2 : i < len2
                · obtain ⟨bb, bo, zs, rfl, hok, hbc, hbl⟩ := HG.out.at hl2
                  obtain ⟨z, zr, rfl, ⟨zv, rfl⟩, _⟩ := okAll.cons hok
                  have hbc0 : w.cell? ⟨bb, bo + i, none⟩ = some (.bool zv) := by simpa using hbc 0 _ rfl
                  have hbc5 := (hf5.cell (a := ⟨bb, bo + i, none⟩) hbl (fun h => h)).trans hbc0
                  have hbl5 := hf5.lt hbl
                  have hbc8 := (hf8.cell (a := ⟨bb, bo + i, none⟩) hbl5 (fun h => by have := (hGG.out bb h).1; omega)).trans hbc5
                  have hbl8 := hf8.lt hbl5
                  have lb : (i : Int) < (len2 : Int) := by omega
                  clear hbc hbc0 hbc5 hok
                  cases zv
                  · have hKS9 : Hid (KS w5 w5 x y b0 c0 Gx Gy Fx6 Fy (X ++ [⟨(i : Int) + 1, (i : Int) + 1, v⟩]) Y (par bk) bk i sq w8 (.int .i64 2)) := hid ⟨Fy8, s, t, HTX8.out, HTY8.out, hf8, HFY8.out, HXY8.out, .inr (.inr ⟨rfl, by omega, ht⟩)⟩
                    clear hs ht HTX8 HTY8 HXY8 HFY8 hf8
                    go_wp2
                    go_roundw
                    case rel => exact hKS9
                    case measure => simp [intOf]
                  · have hsb : s < 1000000000 := by omega
                    have HS8 := hid hs
                    have HT8 := hid ht
                    clear hs ht
                    go_wp2_with fail
                    refine (reset_at HTY8.out (par bk) (y := ⟨(i : Int) + 1, s, t⟩) (R := MK Y (par bk)) (by rw [upd_same]) (a := bk) (e := 0) (by unfold MT; omega) rfl hsb).mono ?_
                    rintro e w9 ⟨rfl, Fy9, ty9, f9, hFy9⟩
                    have hxl8 := HTX8.out.lt
                    have hKS9 : Hid (KS w5 w5 x y b0 c0 Gx Gy Fx6 Fy (X ++ [⟨(i : Int) + 1, (i : Int) + 1, v⟩]) Y (par bk) bk i sq w9 (.int .i64 2)) := hid ⟨Fy9, s + 1, bk, HTX8.out.fr f9 (fun j hj h => HXY8.out j hj h), ty9.perm (fun j => by
                        by_cases e : j = par bk
                        · subst e; rw [upd_same, upd_same]
                        · rw [upd_ne _ _ e, upd_ne _ _ e, upd_ne _ _ e]), hf8.trans f9 (fun j hj h => by
                        rcases HFY8.out j h with h | h
                        · exact .inr h
                        · omega), (fun j hj => by
                        rcases hFy9 j hj with h | h
                        · exact HFY8.out j h
                        · exact .inr (by omega)), (fun j hx hy => by
                        rcases hFy9 j hy with h | h
                        · exact HXY8.out j hx h
                        · have := hxl8 j hx; omega), .inr (.inr ⟨rfl, by have := HS8.out; omega, rfl⟩)⟩
                    clear ty9 f9 hFy9 hxl8 HTX8 HTY8 HXY8 HFY8 hf8
                    go_wp2
                    go_roundw
                    case rel => exact hKS9
                    case measure => simp [intOf]
                · have lb : ¬ (i : Int) < (len2 : Int) := by omega
                  have hKS9 : Hid (KS w5 w5 x y b0 c0 Gx Gy Fx6 Fy (X ++ [⟨(i : Int) + 1, (i : Int) + 1, v⟩]) Y (par bk) bk i sq w8 (.int .i64 2)) := hid ⟨Fy8, s, t, HTX8.out, HTY8.out, hf8, HFY8.out, HXY8.out, .inr (.inr ⟨rfl, by omega, ht⟩)⟩
                  clear hs ht HTX8 HTY8 HXY8 HFY8 hf8
                  go_wp2
                  go_roundw
                  case rel => exact hKS9
                  case measure => simp [intOf]
              · subst ht
                have hOS : Hid (OS w5 x y b0 c0 Gx Gy al (i + 1) w8) := hid ⟨Fx6, Fy8, X ++ [⟨(i : Int) + 1, (i : Int) + 1, v⟩], Y ++ [⟨(i : Int) + 1, s, t⟩], s, by
                    have e : ((i + 1 : Nat) : Int) = (i : Int) + 1 := by omega
                    rw [e]; exact HTX8.out, by
                    have e : ((i + 1 : Nat) : Int) = (i : Int) + 1 := by omega
                    rw [e]; exact HTY8.out.perm (MK_snoc Y ⟨(i : Int) + 1, s, t⟩ rfl), by omega, by simp [HLX.out], by simp [HLY.out], by
                    rw [List.map_append, HMX.out, List.take_add_one, HV.out]; rfl, by
                    rw [List.map_append, HMY.out, List.take_add_one, List.getElem?_reverse (by have := HNL.out; omega), ← HNL.out, HB.out]; rfl, hf8, HFX6.out, HFY8.out, HXY8.out⟩
                clear HTX8 HTY8 HXY8 HFY8 hf8 hs
                go_wp2
                go_roundw
                case rel => exact ⟨i + 1, by omega, by go_num, hOS⟩
                case measure => simp [intOf]; omega
          · obtain rfl : i = n := by omega
            clear hi hlt
            have mX : X.map (·.f2) = al := by rw [HMX.out, List.take_of_length_le (by have := HNL.out; omega)]
            have mY : (Y.map (·.f2)).Perm al := by rw [HMY.out, List.take_of_length_le (by rw [List.length_reverse]; have := HNL.out; omega)]; exact List.reverse_perm _
            obtain ⟨DX, DY, pX, pY, sX, sY, hDD⟩ := order_ex mX mY hal.out.1
            have dX : ∀ k, ∀ z ∈ DX k, z.f2 ≤ 65535 := fun k z hz => by
              have h1 := MK_mem ((pX k).symm.subset hz)
              have h2 : z.f2 ∈ al := by rw [← mX]; exact List.mem_map.2 ⟨z, h1, rfl⟩
              exact (hal.out.2.1 _ h2).2
            have dY : ∀ k, ∀ z ∈ DY k, z.f2 ≤ 65535 := fun k z hz => by
              have h1 := MK_mem ((pY k).symm.subset hz)
              have h2 : z.f2 ∈ al := mY.subset (List.mem_map.2 ⟨z, h1, rfl⟩)
              exact (hal.out.2.1 _ h2).2
            have lDX : (DX false).length + (DX true).length = i := by rw [← (pX false).length_eq, ← (pX true).length_eq, MK_len, HLX.out]
            have lDY : (DY false).length + (DY true).length = i := by rw [← (pY false).length_eq, ← (pY true).length_eq, MK_len, HLY.out]
            have HPX := hid pX
            have HPY := hid pY
            have HSX := hid sX
            have HSY := hid sY
            have HDX := hid dX
            have HDY := hid dY
            have HDD := hid hDD
            have HLDX := hid lDX
            have HLDY := hid lDY
            clear mX mY pX pY sX sY dX dY hDD lDX lDY
            have hszr := hf.size
            go_wp2_with fail
            refine (fire_at HTXi.out DX (fun _ => []) (fun _ => 65535) (by unfold MT; omega) (by unfold MT; omega) (fun k => by simpa using HPX.out k) HSX.out HDX.out (fun k z hz => by cases hz)).mono ?_
            rintro r w6 ⟨Aa, na, ca, rfl, hna, hca, hcma, hfa, ⟨Fx6, tx6, hFx6, hAa⟩, f6⟩
            rw [HLDX.out] at hna
            subst hna
            have hyl := HTYi.out.lt
            have HTY6 := hid (HTYi.out.fr f6 (fun j hj h => HXY.out j h hj))
            have HTX6 := hid tx6
            have HFA := hid hfa
            have nAa : ∀ g, Aa = some ⟨g, 0, none⟩ → ¬ Fy g := fun g e h => by have h1 := (hAa g e).1; have h2 := hyl g h; omega
            have hXY6 : Hid (∀ j, Fx6 j → ¬ Fy j) := hid (fun j hx hy => by
              rcases hFx6 j hx with h | h
              · exact HXY.out j h hy
              · have := hyl j hy; omega)
            have hf6 : Fr (fun j => Gx j ∨ Gy j) w5 w6 := hf.trans f6 (fun j hj h => by
              rcases HFX.out j h with h | h
              · exact .inl h
              · omega)
            have NAA := hid nAa
            clear tx6 hFx6 hAa f6 hfa nAa hyl HTXi HTYi HXY HFX hf
            go_wp2_with fail
            refine (fire_at HTY6.out DY (fun _ => []) (fun _ => 65535) (by unfold MT; omega) (by unfold MT; omega) (fun k => by simpa using HPY.out k) HSY.out HDY.out (fun k z hz => by cases hz)).mono ?_
            rintro r w7 ⟨Ab, nb, cb, rfl, hnb, hcb, hcmb, hfb, ⟨Fy7, ty7, hFy7, hAb⟩, f7⟩
            rw [HLDY.out] at hnb
            subst hnb
            have HTX7 := hid (HTX6.out.fr f7 (fun j hj h => hXY6.out j hj h))
            have HTY7 := hid ty7
            have HFA7 := hid (HFA.out.fr f7 (fun g e h => NAA.out g e h))
            have HFB7 := hid hfb
            have hf7 : Fr (fun j => Gx j ∨ Gy j) w5 w7 := hf6.trans f7 (fun j hj h => by
              rcases HFY.out j h with h | h
              · exact .inr h
              · omega)
            have fw7 : Fr (fun _ => False) w w7 := hf5.trans hf7 (fun j hj h => by have := hGG.out j h; omega)
            have zero : ∀ D : Bool → List It, ((Nend D (fun _ => []) (fun _ => 0) (fun _ => 65535) false).length + (Nend D (fun _ => []) (fun _ => 0) (fun _ => 65535) true).length) = 0 := fun D => by
              unfold Nend; rw [gone0, gone0]; rfl
            have ZERO := hid zero
            clear ty7 hFy7 hAb f7 hfb hf6 hf7 HTX6 HTY6 HFA hXY6 NAA zero
            go_wp2_with fail
            refine (tlen_at HTX7.out).mono ?_
            rw [ZERO.out]
            rintro e w' ⟨rfl, rfl⟩
            go_wp2_with fail
            refine (tlen_at HTY7.out).mono ?_
            rw [ZERO.out]
            rintro e w' ⟨rfl, rfl⟩
            clear HTX7 HTY7
            have lenX : (fds DX (fun _ => 0) (fun _ => 65535) false ++ fds DX (fun _ => 0) (fun _ => 65535) true).length = nb := by rw [List.length_append]; unfold fds; rw [List.length_map, List.length_map]; exact HLDX.out
            have hsame := fds_same (E := fun _ => 0) (nw := fun _ => 65535) HDD.out
            generalize fds DX (fun _ => 0) (fun _ => 65535) false ++ fds DX (fun _ => 0) (fun _ => 65535) true = LX at HFA7 lenX hsame
            generalize fds DY (fun _ => 0) (fun _ => 65535) false ++ fds DY (fun _ => 0) (fun _ => 65535) true = LY at HFB7 hsame
            have HLEN := hid lenX
            have HSAME := hid hsame
            clear lenX hsame
            go_wp2_with fail
            go_loopw [19] (fun vi wr => ∃ j : Nat, j ≤ nb ∧ vi = .int .i64 j ∧ Fr (fun _ => False) w7 wr) (fun vi _ => nb - (intOf vi).toNat)
            case atStart => exact ⟨0, by omega, rfl, Fr.refl _ _⟩
            case round =>
              obtain ⟨j, hj, rfl, hf8⟩ := hrel
              by_cases hlt : j < nb
              · obtain ⟨⟨i1, k, t, e, l, q⟩, hx⟩ : ∃ f, LX[j]? = some f := ⟨_, List.getElem?_eq_getElem (by have := HLEN.out; omega)⟩
                obtain ⟨⟨i2, k2, t2, e2, l2, q2⟩, hy, hxy⟩ : ∃ f, LY[j]? = some f ∧ f.2 = (k, t, e, l, q) := by
                  have h1 := congrArg (fun l => l[j]?) HSAME.out
                  simp only [List.getElem?_map, hx, Option.map_some] at h1
                  cases hy : LY[j]? with
                  | none => rw [hy] at h1; cases h1
                  | some f => rw [hy] at h1; exact ⟨f, rfl, (Option.some.inj h1).symm⟩
                simp only [Prod.mk.injEq] at hxy
                obtain ⟨rfl, rfl, rfl, rfl, rfl⟩ := hxy
                obtain ⟨ga, rfl, hga, u0, u1, u2, u3, u4', u5⟩ := (HFA7.out.fr hf8 (fun _ _ h => h)).at hx
                obtain ⟨gb, rfl, hgb, v0, v1, v2, v3, v4, v5⟩ := (HFB7.out.fr hf8 (fun _ _ h => h)).at hy
                simp only at u1 u2 u3 u4' v1 v2 v3 v4
                have lj : (j : Int) < (nb : Int) := by omega
                clear u0 u5 v0 v5 hx hy
                go_wp2_with fail
                go_quiet (fail)
                go_wp2
                go_roundw
                case rel => exact ⟨j + 1, by omega, by go_num, by (repeat' (first | (with_reducible exact Fr.refl _ _) | (with_reducible assumption) | (with_reducible refine Fr.alloc ?_ _) | (with_reducible refine Fr.drew ?_) | (with_reducible refine Fr.drewN ?_ _) | (with_reducible refine Fr.setCell ?_ _ _ ?_) | (exact Or.inr rfl) | (left; simp; done) | (left; simp; omega) | (simp; done) | (simp; omega) | omega))⟩
                case measure => simp [intOf]; omega
              · obtain rfl : j = nb := by omega
                go_wp2_with fail
                refine (alive_at _).mono ?_
                rintro e w9 ⟨rfl, k9⟩
                go_wp2
                go_ret
                exact ⟨rfl, (fw7.trans hf8 (fun _ _ h => h)).trans k9 (fun _ _ h => h)⟩
theorem timersOrder_walk (A : Option Addr) (len cap : Nat) (B : Option Addr) (len2 cap2 : Nat) (w : World) (hs : RdS [.i .u16] w A len cap) (hg : RdS [.b] w B len2 cap2) :
    Calls Try.prog 10 #[.slice A len cap, .slice B len2 cap2] w fun e w' => e = .returned (.bool true) ∧ Fr (fun _ => False) w w' :=
  order_walk A B len cap len2 cap2 w hs hg
end Go.Proofs.Ytkcfhdnlmdndeaa
