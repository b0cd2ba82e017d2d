/- TimersSeq: the walk of the law. -/
import Derived.Test.YtkcfhdnlmdndeaaTmSeq
import Derived.Test.YtkcfhdnlmdndeaaTmAdd2
namespace Go.Proofs.Ytkcfhdnlmdndeaa
open Go.RowKit Go.Proofs.YtkcfhdnlmdndeaaW.PrintWords Go.Proofs.YtkcfhdnlmdndeaaW.PrintLast Go.Proofs.YtkcfhdnlmdndeaaW.PrintMore PHp
set_option linter.unusedVariables false
set_option linter.unusedSimpArgs false
set_option maxRecDepth 100000
theorem u8b {n : Int} (h : (Lit.int .u8 n).wf = true) : 0 ≤ n ∧ n ≤ 255 := by
  simp [Lit.wf, IntKind.min, IntKind.max, IntKind.bits, IntKind.signed] at h; omega
def atOf (k i : Nat) : Int := if i < k then (i : Int) else (i : Int) + 1
def only (k : Bool) (l : List It) : Bool → List It := upd (fun _ => []) k l
theorem only_len (k : Bool) (l : List It) : (only k l false).length + (only k l true).length = l.length := by cases k <;> simp [only, upd]
theorem fds_only (k : Bool) (L : List It) (E nw : Bool → Int) : fds (only k L) E nw false ++ fds (only k L) E nw true = L.map (fd k (E k) (nw k)) := by
  cases k <;> simp [fds, only, upd]
theorem fire_only {w : World} {x : Nat} {b : Bool → Nat} {F : Nat → Prop} {E : Bool → Int} {id seq now : Int} {k : Bool} {L : List It} (h : TS w x b F (only k L) E id seq) (hnow : now ≤ MT) (hs : L.Pairwise itLt) (hd : ∀ y ∈ L, y.f2 = now) :
    Calls Try.prog 35 #[.pointer (some ⟨x, 0, none⟩), .int .i64 now, .int .i64 now] w fun r w' => ∃ A cap, r = .returned (.slice A L.length cap) ∧ L.length ≤ cap ∧ cap ≤ maxLen ∧ Fds w' A (L.map (fd k (E k) now)) ∧
      (∃ F', TS w' x b F' (only k (L.flatMap (nxt (E k) now))) E id seq ∧ (∀ i, F' i → F i ∨ w.heap.size ≤ i)) ∧ Fr F w w' := by
  refine (fire_at h (only k L) (fun _ => []) (fun _ => now) (by omega) (by omega) (fun j => by simp) (fun j => ?_) (fun j y hy => ?_) (fun j z hz => by cases hz)).mono ?_
  · unfold only
    by_cases e : j = k
    · subst e; rw [upd_same]; exact hs
    · rw [upd_ne _ _ e]; exact List.Pairwise.nil
  · unfold only at hy
    by_cases e : j = k
    · subst e; rw [upd_same] at hy; rw [hd y hy]; exact Int.le_refl _
    · rw [upd_ne _ _ e] at hy; cases hy
  · rintro r w' ⟨A, n, cap, rfl, hn, hnc, hcm, hfd, ⟨F', ts, hF, hA⟩, f⟩
    rw [only_len] at hn
    subst hn
    rw [fds_only] at hfd
    refine ⟨A, cap, rfl, hnc, hcm, hfd, ⟨F', ts.perm (fun j => ?_), hF⟩, f⟩
    unfold Nend only
    by_cases e : j = k
    · subst e; rw [upd_same, upd_same]; simp
    · rw [upd_ne _ _ e, upd_ne _ _ e]; simp
theorem len_nxts (e now : Int) : ∀ l : List It, (l.flatMap (nxt e now)).length ≤ l.length
  | [] => Nat.le_refl _
  | y :: l => by
    rw [List.flatMap_cons, List.length_append, List.length_cons]
    have h1 := len_nxts e now l
    have h2 : (nxt e now y).length ≤ 1 := by unfold nxt; split <;> simp
    omega
/-- The timers ahead of a round of firing. -/
def SR (w : World) (x : Nat) (b : Bool → Nat) (E : Bool → Int) (k again : Bool) (n kk : Nat) (wr : World) (vr : Value) : Prop :=
  ∃ (F' : Nat → Prop) (L : List It), TS wr x b F' (only k L) E n (n + 1) ∧ Fr (fun _ => False) w wr ∧ (∀ j, F' j → w.heap.size ≤ j) ∧ L.length ≤ n ∧
    ((vr = .int .i64 0 ∧ L = ord n kk 50) ∨ (vr = .int .i64 1 ∧ L = (bif again then ord n kk 57 else [])) ∨ vr = .int .i64 2)
theorem TS.gone' {w0 w w' : World} {F : Nat → Prop} (h : Fr (fun _ => False) w0 w) (f : Fr F w w') (hF : ∀ i, F i → w0.heap.size ≤ i) : Fr (fun _ => False) w0 w' := h.trans f (fun i hi e => by have := hF i e; omega)
theorem TS.grow' {w0 w : World} {F F' : Nat → Prop} (hs : w0.heap.size ≤ w.heap.size) (hF : ∀ i, F i → w0.heap.size ≤ i) (hF' : ∀ i, F' i → F i ∨ w.heap.size ≤ i) : ∀ i, F' i → w0.heap.size ≤ i := fun i hi => by
  rcases hF' i hi with h | h
  · exact hF i h
  · omega
set_option maxHeartbeats 16000000 in
theorem seq_walk (a0 a1 : Int) (a2 again : Bool) (w : World) (b0 : 0 ≤ a0 ∧ a0 ≤ 255) (b1 : 0 ≤ a1 ∧ a1 ≤ 255) (n kk : Nat) (hn : (2 + a0 % 29) = (n : Int)) (hkk : 1 + a1 % (n : Int) = (kk : Int)) (k1 : 1 ≤ kk) (k2 : kk ≤ n) (n2 : 2 ≤ n) (n30 : n ≤ 30) :
    Calls Try.prog 9 #[.int .u8 a0, .int .u8 a1, .bool a2, .bool again] w fun e w' => e = .returned (.bool true) ∧ Fr (fun _ => False) w w' := by
  obtain ⟨b00, b01⟩ := b0
  obtain ⟨b10, b11⟩ := b1
  have HN := hid hn
  have HKK := hid hkk
  clear hn hkk
  obtain ⟨ev, hev⟩ : ∃ ev : Int, ev = bif again then 7 else 0 := ⟨_, rfl⟩
  have HEV := hid hev
  clear hev
  go_enter Try.func9, Try.ntmps9
  go_wp2_with fail
  rw [HN.out]
  refine (tnew_at w).mono ?_
  rintro e w1 ⟨x, b, F1, rfl, ts1, f1, hF1⟩
  have hev0 : 0 ≤ ev ∧ ev ≤ 7 := by have := HEV.out; cases again <;> simp at this <;> omega
  have ts1' := ts1.every (k := a2) (e := ev) rfl (by unfold MT; omega)
  have TS1 : Hid (TS w1 x b F1 (only a2 (rl 0)) (upd (fun _ => 0) a2 ev) ((0 : Nat) : Int) ((0 : Nat) : Int)) := hid (ts1'.perm (fun j => by unfold only rl; cases a2 <;> cases j <;> simp [upd]))
  have HF1 := hid hF1
  clear ts1 ts1' hF1
  have hE : (upd (fun _ => (0 : Int)) a2 ev) a2 = ev := upd_same _ _ _
  have HE := hid hE
  clear hE
  generalize (upd (fun _ => (0 : Int)) a2 ev) = E at TS1 HE
  go_upto_if 28 with fail
  go_cut [11] (fun s wx => s = .int .i64 ev ∧ w1 = wx)
  case first =>
    cases again
    · have he := HEV.out
      simp at he
      subst he
      go_wp2_with fail
      all_goals (go_meet; exact ⟨rfl, rfl⟩)
    · have he := HEV.out
      simp at he
      subst he
      go_wp2_with fail
      all_goals (go_meet; exact ⟨rfl, rfl⟩)
  case rest =>
    obtain ⟨rfl, rfl⟩ := hcut
    obtain ⟨he0, he1⟩ := hev0
    go_wp2_with fail
    go_loopw [12] (fun vi wr => ∃ (i : Nat) (F' : Nat → Prop), i ≤ n ∧ vi = .int .i64 i ∧ Hid (TS wr x b F' (only a2 (rl i)) E (i : Int) (i : Int)) ∧ Fr (fun _ => False) w wr ∧ Hid (∀ j, F' j → w.heap.size ≤ j)) (fun vi _ => n - (intOf vi).toNat)
    case atStart => exact ⟨0, F1, by omega, rfl, TS1, f1, HF1⟩
    case round =>
      clear TS1 HF1 f1
      obtain ⟨i, F2, hi, rfl, TS2, hf, HF2⟩ := hrel
      by_cases hlt : i < n
      · have li : (i : Int) < (n : Int) := by omega
        go_wp2_with fail
        refine (add_at TS2.out a2 (a := 50) (e := ev) (by unfold MT; omega) HE.out.symm (by rw [only_len, rl_len]; omega) (by omega) (by omega)).mono ?_
        rintro e w3 ⟨rfl, F3, ts3, f3, hF3⟩
        have hsz := hf.size
        have TS3 : Hid (TS w3 x b F3 (only a2 (rl (i + 1))) E ((i + 1 : Nat) : Int) ((i + 1 : Nat) : Int)) := hid (by
          have e1 : ((i + 1 : Nat) : Int) = (i : Int) + 1 := by omega
          rw [e1]
          refine ts3.perm (fun j => ?_)
          rw [rl_succ]
          unfold only
          by_cases e : j = a2
          · subst e
            rw [upd_same, upd_same, upd_same]
            exact (List.perm_append_singleton _ _).symm
          · rw [upd_ne _ _ e, upd_ne _ _ e, upd_ne _ _ e])
        have HF3 := hid (TS.grow' hsz HF2.out hF3)
        have hf3 := TS.gone' hf f3 HF2.out
        clear ts3 hF3 f3 TS2 HF2 hf
        go_wp2
        go_roundw
        case rel => exact ⟨i + 1, F3, by omega, by go_num, TS3, hf3, HF3⟩
        case measure => simp [intOf]; omega
      · obtain rfl : i = n := by omega
        clear hi hlt
        have m0 : 0 ≤ a1 % (i : Int) := Int.emod_nonneg _ (by omega)
        have m1 : a1 % (i : Int) < i := Int.emod_lt_of_pos _ (by omega)
        go_wp2_with fail
        rw [HKK.out]
        refine (reset_at TS2.out a2 (y := ⟨(kk : Int), (kk : Int), 50⟩) (R := rlBut i kk) (by unfold only; rw [upd_same]; exact rl_split k1 k2) (a := 50) (e := ev) (by unfold MT; omega) HE.out.symm (by omega)).mono ?_
        rintro e w3 ⟨rfl, F3, ts3, f3, hF3⟩
        have hsz := hf.size
        have HF3 := TS.grow' hsz HF2.out hF3
        have hf3 := TS.gone' hf f3 HF2.out
        have HSR : Hid (SR w x b E a2 again i kk w3 (.int .i64 0)) := hid ⟨F3, ord i kk 50, ts3.perm (fun j => by
          unfold only
          by_cases e : j = a2
          · subst e
            rw [upd_same, upd_same]
            exact ord_start
          · rw [upd_ne _ _ e, upd_ne _ _ e, upd_ne _ _ e]), hf3, HF3, by rw [ord_len k1 k2]; exact Nat.le_refl _, .inl ⟨rfl, rfl⟩⟩
        clear ts3 hF3 f3 TS2 HF2 hf HF3 hf3 m0 m1
        go_wp2_with fail
        go_loopw [16] (fun vr wr => Hid (SR w x b E a2 again i kk wr vr)) (fun vr _ => 2 - (intOf vr).toNat)
        case atStart => exact HSR
        case round =>
          clear HSR
          obtain ⟨F4, L, ts, hf, hF4, hLl, hd⟩ := hrel.out
          clear hrel
          have HF4 := hid hF4
          have TS4 := hid ts
          have hsz := hf.size
          clear hF4 ts
          rcases hd with ⟨rfl, hL⟩ | ⟨rfl, hL⟩ | rfl
          · subst hL
            cases again
            · go_wp2_with fail
              refine (fire_only TS4.out (now := 50) (by unfold MT; omega) (ord_sorted k1 k2 50) ord_mem).mono ?_
              rintro r w5 ⟨A, cap, rfl, hnc, hcm, hfd, ⟨F5, ts5, hF5⟩, f5⟩
              have HF5 := TS.grow' hsz HF4.out hF5
              have hf5 := TS.gone' hf f5 HF4.out
              have hlL : (ord i kk 50).length = i := ord_len k1 k2 _
              rw [hlL] at hnc ⊢
              have NSR : Hid (SR w x b E a2 false i kk w5 (.int .i64 1)) := hid ⟨F5, _, ts5, hf5, HF5, by rw [show (ord i kk 50).flatMap (nxt (E a2) 50) = [] from by rw [HE.out]; have := HEV.out; simp at this; rw [this]; exact ord_gone _ _]; exact Nat.zero_le _, .inr (.inl ⟨rfl, by rw [HE.out]; have := HEV.out; simp at this; rw [this]; exact ord_gone _ _⟩)⟩
              have HFD := hid hfd
              clear ts5 hF5 f5 TS4 HF4 hf hfd HF5 hlL
              go_wp2_with fail
              go_loop [18, 19] (fun va vj => ∃ (j : Nat) (t : Int), j ≤ i ∧ vj = .int .i64 j ∧ va = .int .u64 t ∧ (0 ≤ t ∧ t ≤ 100) ∧ Hid (t = atOf kk j)) (fun _ vj => i - (intOf vj).toNat)
              case atStart => exact ⟨0, 0, by omega, rfl, rfl, by omega, hid (by unfold atOf; rw [if_pos (by omega)]; rfl)⟩
              case round =>
                obtain ⟨j, t, hj, rfl, rfl, ⟨t0, t1⟩, ht⟩ := hrel
                by_cases hlt : j < i
                · have lj : (j : Int) < (i : Int) := by omega
                  have tb : t ≤ (j : Int) + 1 := by have h := ht.out; unfold atOf at h; split at h <;> omega
                  obtain ⟨g, rfl, hg, u0, hrest⟩ := HFD.out.at (i := j) (f := fd a2 (E a2) 50 ⟨wantOf i kk j, if j + 1 = i then (i : Int) + 1 else wantOf i kk j, 50⟩) (by rw [List.getElem?_map, ord_get k1 k2 hlt]; rfl)
                  clear hrest
                  replace u0 : w5.cell? ⟨g, j * 6, none⟩ = some (.int .u64 (wantOf i kk j)) := u0
                  obtain ⟨q, hq⟩ : ∃ q, q = wantOf i kk j := ⟨_, rfl⟩
                  rw [← hq] at u0
                  have HQ := hid hq
                  clear hq
                  by_cases c1 : t + 1 = (kk : Int)
                  · have c1b : (t + 1 == (kk : Int)) = true := by rw [beq_iff_eq]; exact c1
                    by_cases c2 : (j : Int) = (i : Int) - 1
                    · have c2b : ((j : Int) == (i : Int) - 1) = true := by rw [beq_iff_eq]; exact c2
                      have hne : (q != (kk : Int)) = false := by have h1 := HQ.out; unfold wantOf at h1; rw [if_pos (by omega)] at h1; rw [h1]; simp
                      have HT : Hid (t + 1 + 1 = atOf kk (j + 1)) := hid (by have h1 := ht.out; unfold atOf at h1 ⊢; split at h1 <;> split <;> omega)
                      clear c1 c2 ht
                      go_wp2
                      go_round
                      case rel => exact ⟨j + 1, t + 1 + 1, by omega, by go_num, by first | rfl | go_num, by omega, HT⟩
                      case measure => simp [intOf]; omega
                    · have c2b : ((j : Int) == (i : Int) - 1) = false := by rw [beq_eq_false_iff_ne]; exact c2
                      have e1 : q = t + 1 + 1 := by have h1 := HQ.out; have h2 := ht.out; unfold wantOf at h1; unfold atOf at h2; split at h1 <;> (try split at h1) <;> split at h2 <;> omega
                      have hne : (q != t + 1 + 1) = false := by rw [e1]; simp
                      have hne2 : (q != t + 2) = false := by rw [e1]; simp; omega
                      have HT : Hid (t + 1 + 1 = atOf kk (j + 1)) := hid (by have h1 := ht.out; unfold atOf at h1 ⊢; split at h1 <;> split <;> omega)
                      clear c1 c2 ht e1
                      go_wp2
                      go_round
                      case rel => exact ⟨j + 1, t + 1 + 1, by omega, by go_num, by first | rfl | go_num, by omega, HT⟩
                      case measure => simp [intOf]; omega
                  · have c1b : (t + 1 == (kk : Int)) = false := by rw [beq_eq_false_iff_ne]; exact c1
                    by_cases c2 : (j : Int) = (i : Int) - 1
                    · have c2b : ((j : Int) == (i : Int) - 1) = true := by rw [beq_iff_eq]; exact c2
                      have hne : (q != (kk : Int)) = false := by have h1 := HQ.out; unfold wantOf at h1; rw [if_pos (by omega)] at h1; rw [h1]; simp
                      have HT : Hid (t + 1 = atOf kk (j + 1)) := hid (by have h1 := ht.out; unfold atOf at h1 ⊢; split at h1 <;> split <;> omega)
                      clear c1 c2 ht
                      go_wp2
                      go_round
                      case rel => exact ⟨j + 1, t + 1, by omega, by go_num, rfl, by omega, HT⟩
                      case measure => simp [intOf]; omega
                    · have c2b : ((j : Int) == (i : Int) - 1) = false := by rw [beq_eq_false_iff_ne]; exact c2
                      have e1 : q = t + 1 := by have h1 := HQ.out; have h2 := ht.out; unfold wantOf at h1; unfold atOf at h2; split at h1 <;> (try split at h1) <;> split at h2 <;> omega
                      have hne : (q != t + 1) = false := by rw [e1]; simp
                      have HT : Hid (t + 1 = atOf kk (j + 1)) := hid (by have h1 := ht.out; unfold atOf at h1 ⊢; split at h1 <;> split <;> omega)
                      clear c1 c2 ht e1
                      go_wp2
                      go_round
                      case rel => exact ⟨j + 1, t + 1, by omega, by go_num, rfl, by omega, HT⟩
                      case measure => simp [intOf]; omega
                · obtain rfl : j = i := by omega
                  clear hj hlt
                  go_wp2
                  go_roundw
                  case rel => exact NSR
                  case measure => simp [intOf]
            · go_wp2_with fail
              refine (fire_only TS4.out (now := 50) (by unfold MT; omega) (ord_sorted k1 k2 50) ord_mem).mono ?_
              rintro r w5 ⟨A, cap, rfl, hnc, hcm, hfd, ⟨F5, ts5, hF5⟩, f5⟩
              have HF5 := TS.grow' hsz HF4.out hF5
              have hf5 := TS.gone' hf f5 HF4.out
              have hlL : (ord i kk 50).length = i := ord_len k1 k2 _
              rw [hlL] at hnc ⊢
              have NSR : Hid (SR w x b E a2 true i kk w5 (.int .i64 1)) := hid ⟨F5, _, ts5, hf5, HF5, by rw [show (ord i kk 50).flatMap (nxt (E a2) 50) = ord i kk 57 from by rw [HE.out]; have := HEV.out; simp at this; rw [this]; exact ord_fires i kk]; rw [ord_len k1 k2]; exact Nat.le_refl _, .inr (.inl ⟨rfl, by rw [HE.out]; have := HEV.out; simp at this; rw [this]; exact ord_fires i kk⟩)⟩
              have HFD := hid hfd
              clear ts5 hF5 f5 TS4 HF4 hf hfd HF5 hlL
              go_wp2_with fail
              go_loop [18, 19] (fun va vj => ∃ (j : Nat) (t : Int), j ≤ i ∧ vj = .int .i64 j ∧ va = .int .u64 t ∧ (0 ≤ t ∧ t ≤ 100) ∧ Hid (t = atOf kk j)) (fun _ vj => i - (intOf vj).toNat)
              case atStart => exact ⟨0, 0, by omega, rfl, rfl, by omega, hid (by unfold atOf; rw [if_pos (by omega)]; rfl)⟩
              case round =>
                obtain ⟨j, t, hj, rfl, rfl, ⟨t0, t1⟩, ht⟩ := hrel
                by_cases hlt : j < i
                · have lj : (j : Int) < (i : Int) := by omega
                  have tb : t ≤ (j : Int) + 1 := by have h := ht.out; unfold atOf at h; split at h <;> omega
                  obtain ⟨g, rfl, hg, u0, hrest⟩ := HFD.out.at (i := j) (f := fd a2 (E a2) 50 ⟨wantOf i kk j, if j + 1 = i then (i : Int) + 1 else wantOf i kk j, 50⟩) (by rw [List.getElem?_map, ord_get k1 k2 hlt]; rfl)
                  clear hrest
                  replace u0 : w5.cell? ⟨g, j * 6, none⟩ = some (.int .u64 (wantOf i kk j)) := u0
                  obtain ⟨q, hq⟩ : ∃ q, q = wantOf i kk j := ⟨_, rfl⟩
                  rw [← hq] at u0
                  have HQ := hid hq
                  clear hq
                  by_cases c1 : t + 1 = (kk : Int)
                  · have c1b : (t + 1 == (kk : Int)) = true := by rw [beq_iff_eq]; exact c1
                    by_cases c2 : (j : Int) = (i : Int) - 1
                    · have c2b : ((j : Int) == (i : Int) - 1) = true := by rw [beq_iff_eq]; exact c2
                      have hne : (q != (kk : Int)) = false := by have h1 := HQ.out; unfold wantOf at h1; rw [if_pos (by omega)] at h1; rw [h1]; simp
                      have HT : Hid (t + 1 + 1 = atOf kk (j + 1)) := hid (by have h1 := ht.out; unfold atOf at h1 ⊢; split at h1 <;> split <;> omega)
                      clear c1 c2 ht
                      go_wp2
                      go_round
                      case rel => exact ⟨j + 1, t + 1 + 1, by omega, by go_num, by first | rfl | go_num, by omega, HT⟩
                      case measure => simp [intOf]; omega
                    · have c2b : ((j : Int) == (i : Int) - 1) = false := by rw [beq_eq_false_iff_ne]; exact c2
                      have e1 : q = t + 1 + 1 := by have h1 := HQ.out; have h2 := ht.out; unfold wantOf at h1; unfold atOf at h2; split at h1 <;> (try split at h1) <;> split at h2 <;> omega
                      have hne : (q != t + 1 + 1) = false := by rw [e1]; simp
                      have hne2 : (q != t + 2) = false := by rw [e1]; simp; omega
                      have HT : Hid (t + 1 + 1 = atOf kk (j + 1)) := hid (by have h1 := ht.out; unfold atOf at h1 ⊢; split at h1 <;> split <;> omega)
                      clear c1 c2 ht e1
                      go_wp2
                      go_round
                      case rel => exact ⟨j + 1, t + 1 + 1, by omega, by go_num, by first | rfl | go_num, by omega, HT⟩
                      case measure => simp [intOf]; omega
                  · have c1b : (t + 1 == (kk : Int)) = false := by rw [beq_eq_false_iff_ne]; exact c1
                    by_cases c2 : (j : Int) = (i : Int) - 1
                    · have c2b : ((j : Int) == (i : Int) - 1) = true := by rw [beq_iff_eq]; exact c2
                      have hne : (q != (kk : Int)) = false := by have h1 := HQ.out; unfold wantOf at h1; rw [if_pos (by omega)] at h1; rw [h1]; simp
                      have HT : Hid (t + 1 = atOf kk (j + 1)) := hid (by have h1 := ht.out; unfold atOf at h1 ⊢; split at h1 <;> split <;> omega)
                      clear c1 c2 ht
                      go_wp2
                      go_round
                      case rel => exact ⟨j + 1, t + 1, by omega, by go_num, rfl, by omega, HT⟩
                      case measure => simp [intOf]; omega
                    · have c2b : ((j : Int) == (i : Int) - 1) = false := by rw [beq_eq_false_iff_ne]; exact c2
                      have e1 : q = t + 1 := by have h1 := HQ.out; have h2 := ht.out; unfold wantOf at h1; unfold atOf at h2; split at h1 <;> (try split at h1) <;> split at h2 <;> omega
                      have hne : (q != t + 1) = false := by rw [e1]; simp
                      have HT : Hid (t + 1 = atOf kk (j + 1)) := hid (by have h1 := ht.out; unfold atOf at h1 ⊢; split at h1 <;> split <;> omega)
                      clear c1 c2 ht e1
                      go_wp2
                      go_round
                      case rel => exact ⟨j + 1, t + 1, by omega, by go_num, rfl, by omega, HT⟩
                      case measure => simp [intOf]; omega
                · obtain rfl : j = i := by omega
                  clear hj hlt
                  go_wp2
                  go_roundw
                  case rel => exact NSR
                  case measure => simp [intOf]
          · cases again
            · simp only [cond_false] at hL
              subst hL
              go_wp2_with fail
              refine (fire_only TS4.out (now := 57) (by unfold MT; omega) List.Pairwise.nil (fun y hy => by cases hy)).mono ?_
              rintro r w5 ⟨A, cap, rfl, hnc, hcm, hfd, ⟨F5, ts5, hF5⟩, f5⟩
              have HF5 := TS.grow' hsz HF4.out hF5
              have hf5 := TS.gone' hf f5 HF4.out
              have NSR : Hid (SR w x b E a2 false i kk w5 (.int .i64 2)) := hid ⟨F5, _, ts5, hf5, HF5, by rw [List.flatMap_nil]; exact Nat.zero_le _, .inr (.inr rfl)⟩
              clear ts5 hF5 f5 TS4 HF4 hf hfd HF5
              simp only [List.length_nil] at hnc ⊢
              go_wp2_with fail
              go_loop [18, 19] (fun va vj => vj = .int .i64 0) (fun _ _ => 0)
              case atStart => rfl
              case round =>
                obtain rfl := hrel
                go_wp2
                go_roundw
                case rel => exact NSR
                case measure => simp [intOf]
            · simp only [cond_true] at hL
              subst hL
              go_wp2_with fail
              refine (fire_only TS4.out (now := 57) (by unfold MT; omega) (ord_sorted k1 k2 57) ord_mem).mono ?_
              rintro r w5 ⟨A, cap, rfl, hnc, hcm, hfd, ⟨F5, ts5, hF5⟩, f5⟩
              have HF5 := TS.grow' hsz HF4.out hF5
              have hf5 := TS.gone' hf f5 HF4.out
              have hlL : (ord i kk 57).length = i := ord_len k1 k2 _
              rw [hlL] at hnc ⊢
              have NSR : Hid (SR w x b E a2 true i kk w5 (.int .i64 2)) := hid ⟨F5, _, ts5, hf5, HF5, by have := len_nxts (E a2) 57 (ord i kk 57); rw [hlL] at this; exact this, .inr (.inr rfl)⟩
              have HFD := hid hfd
              clear ts5 hF5 f5 TS4 HF4 hf hfd HF5 hlL
              go_wp2_with fail
              go_loop [18, 19] (fun va vj => ∃ (j : Nat) (t : Int), j ≤ i ∧ vj = .int .i64 j ∧ va = .int .u64 t ∧ (0 ≤ t ∧ t ≤ 100) ∧ Hid (t = atOf kk j)) (fun _ vj => i - (intOf vj).toNat)
              case atStart => exact ⟨0, 0, by omega, rfl, rfl, by omega, hid (by unfold atOf; rw [if_pos (by omega)]; rfl)⟩
              case round =>
                obtain ⟨j, t, hj, rfl, rfl, ⟨t0, t1⟩, ht⟩ := hrel
                by_cases hlt : j < i
                · have lj : (j : Int) < (i : Int) := by omega
                  have tb : t ≤ (j : Int) + 1 := by have h := ht.out; unfold atOf at h; split at h <;> omega
                  obtain ⟨g, rfl, hg, u0, hrest⟩ := HFD.out.at (i := j) (f := fd a2 (E a2) 57 ⟨wantOf i kk j, if j + 1 = i then (i : Int) + 1 else wantOf i kk j, 57⟩) (by rw [List.getElem?_map, ord_get k1 k2 hlt]; rfl)
                  clear hrest
                  replace u0 : w5.cell? ⟨g, j * 6, none⟩ = some (.int .u64 (wantOf i kk j)) := u0
                  obtain ⟨q, hq⟩ : ∃ q, q = wantOf i kk j := ⟨_, rfl⟩
                  rw [← hq] at u0
                  have HQ := hid hq
                  clear hq
                  by_cases c1 : t + 1 = (kk : Int)
                  · have c1b : (t + 1 == (kk : Int)) = true := by rw [beq_iff_eq]; exact c1
                    by_cases c2 : (j : Int) = (i : Int) - 1
                    · have c2b : ((j : Int) == (i : Int) - 1) = true := by rw [beq_iff_eq]; exact c2
                      have hne : (q != (kk : Int)) = false := by have h1 := HQ.out; unfold wantOf at h1; rw [if_pos (by omega)] at h1; rw [h1]; simp
                      have HT : Hid (t + 1 + 1 = atOf kk (j + 1)) := hid (by have h1 := ht.out; unfold atOf at h1 ⊢; split at h1 <;> split <;> omega)
                      clear c1 c2 ht
                      go_wp2
                      go_round
                      case rel => exact ⟨j + 1, t + 1 + 1, by omega, by go_num, by first | rfl | go_num, by omega, HT⟩
                      case measure => simp [intOf]; omega
                    · have c2b : ((j : Int) == (i : Int) - 1) = false := by rw [beq_eq_false_iff_ne]; exact c2
                      have e1 : q = t + 1 + 1 := by have h1 := HQ.out; have h2 := ht.out; unfold wantOf at h1; unfold atOf at h2; split at h1 <;> (try split at h1) <;> split at h2 <;> omega
                      have hne : (q != t + 1 + 1) = false := by rw [e1]; simp
                      have hne2 : (q != t + 2) = false := by rw [e1]; simp; omega
                      have HT : Hid (t + 1 + 1 = atOf kk (j + 1)) := hid (by have h1 := ht.out; unfold atOf at h1 ⊢; split at h1 <;> split <;> omega)
                      clear c1 c2 ht e1
                      go_wp2
                      go_round
                      case rel => exact ⟨j + 1, t + 1 + 1, by omega, by go_num, by first | rfl | go_num, by omega, HT⟩
                      case measure => simp [intOf]; omega
                  · have c1b : (t + 1 == (kk : Int)) = false := by rw [beq_eq_false_iff_ne]; exact c1
                    by_cases c2 : (j : Int) = (i : Int) - 1
                    · have c2b : ((j : Int) == (i : Int) - 1) = true := by rw [beq_iff_eq]; exact c2
                      have hne : (q != (kk : Int)) = false := by have h1 := HQ.out; unfold wantOf at h1; rw [if_pos (by omega)] at h1; rw [h1]; simp
                      have HT : Hid (t + 1 = atOf kk (j + 1)) := hid (by have h1 := ht.out; unfold atOf at h1 ⊢; split at h1 <;> split <;> omega)
                      clear c1 c2 ht
                      go_wp2
                      go_round
                      case rel => exact ⟨j + 1, t + 1, by omega, by go_num, rfl, by omega, HT⟩
                      case measure => simp [intOf]; omega
                    · have c2b : ((j : Int) == (i : Int) - 1) = false := by rw [beq_eq_false_iff_ne]; exact c2
                      have e1 : q = t + 1 := by have h1 := HQ.out; have h2 := ht.out; unfold wantOf at h1; unfold atOf at h2; split at h1 <;> (try split at h1) <;> split at h2 <;> omega
                      have hne : (q != t + 1) = false := by rw [e1]; simp
                      have HT : Hid (t + 1 = atOf kk (j + 1)) := hid (by have h1 := ht.out; unfold atOf at h1 ⊢; split at h1 <;> split <;> omega)
                      clear c1 c2 ht e1
                      go_wp2
                      go_round
                      case rel => exact ⟨j + 1, t + 1, by omega, by go_num, rfl, by omega, HT⟩
                      case measure => simp [intOf]; omega
                · obtain rfl : j = i := by omega
                  clear hj hlt
                  go_wp2
                  go_roundw
                  case rel => exact NSR
                  case measure => simp [intOf]
          · go_wp2_with fail
            refine (add_any TS4.out false (a := 0) (e := 0) (by unfold MT; omega) (by unfold MT; omega) (by rw [only_len]; omega) (by omega) (by omega)).mono ?_
            rintro e w5 ⟨rfl, f5⟩
            have hf5 := TS.gone' hf f5 HF4.out
            clear TS4 HF4 f5
            go_wp2_with fail
            refine (alive_at _).mono ?_
            rintro e w9 ⟨rfl, k9⟩
            go_wp2
            go_ret
            exact ⟨rfl, hf5.trans k9 (fun _ _ h => h)⟩
theorem timersSeq_walk (a0 a1 : Int) (a2 a3 : Bool) (w : World) (w0 : (Lit.int .u8 a0).wf = true) (w1 : (Lit.int .u8 a1).wf = true) :
    Calls Try.prog 9 #[.int .u8 a0, .int .u8 a1, .bool a2, .bool a3] w fun e w' => e = .returned (.bool true) ∧ Fr (fun _ => False) w w' := by
  have b0 := u8b w0
  have b1 := u8b w1
  have h1 := Int.emod_nonneg a1 (b := (((2 + a0 % 29).toNat : Nat) : Int)) (by omega)
  have h2 := Int.emod_lt_of_pos a1 (b := (((2 + a0 % 29).toNat : Nat) : Int)) (by omega)
  exact seq_walk a0 a1 a2 a3 w b0 b1 (2 + a0 % 29).toNat (1 + a1 % (((2 + a0 % 29).toNat : Nat) : Int)).toNat (by omega) (by omega) (by omega) (by omega) (by omega) (by omega)
end Go.Proofs.Ytkcfhdnlmdndeaa
