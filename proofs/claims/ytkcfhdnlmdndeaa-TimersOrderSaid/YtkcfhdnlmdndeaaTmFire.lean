/- Timers: Fire. -/
import Derived.Test.YtkcfhdnlmdndeaaTmFire2
namespace Go.Proofs.Ytkcfhdnlmdndeaa
open Go.RowKit Go.Proofs.YtkcfhdnlmdndeaaW.PrintWords Go.Proofs.YtkcfhdnlmdndeaaW.PrintLast Go.Proofs.YtkcfhdnlmdndeaaW.PrintMore PHp
set_option linter.unusedVariables false
set_option linter.unusedSimpArgs false
set_option maxRecDepth 100000
section
variable {w : World} {x : Nat} {b : Bool → Nat} {F : Nat → Prop} {M : Bool → List It} {E : Bool → Int} {id seq : Int}
theorem TS.blk (h : TS w x b F M E id seq) : F x ∧ ∃ tm, Blk w x #[.pointer (some ⟨b false, 0, none⟩), .pointer (some ⟨b true, 0, none⟩), .map (some tm), .int .u64 id, .int .u64 seq] 104 := by
  obtain ⟨m, v, L, tm, n, T, hr, _, _, _, _, hF⟩ := h
  exact ⟨(hF x).2 (.inl rfl), tm, hr.blk⟩
theorem TS.evs (h : TS w x b F M E id seq) (k : Bool) : 0 ≤ E k ∧ E k ≤ MT := by
  obtain ⟨m, v, L, tm, n, T, hr, ti, _⟩ := h
  exact ti.evs k
theorem TS.len (h : TS w x b F M E id seq) (k : Bool) : (M k).length ≤ 256 := by
  obtain ⟨m, v, L, tm, n, T, hr, ti, hp, _⟩ := h
  have := (hr.hp k).len
  rw [← (hp k).length_eq]; omega
end
def fds (D : Bool → List It) (E nw : Bool → Int) (k : Bool) : List Fd := (D k).map (fd k (E k) (nw k))
def Nend (D R : Bool → List It) (E nw : Bool → Int) (k : Bool) : List It := (D k).flatMap (nxt (E k) (nw k)) ++ R k
def M0 (D R : Bool → List It) : Bool → List It := fun k => D k ++ R k
def M1 (D R : Bool → List It) (E nw : Bool → Int) : Bool → List It := upd (M0 D R) false (Nend D R E nw false)
/-- Ahead of a kind: what has fired, what is left. -/
def OF (w : World) (x : Nat) (b : Bool → Nat) (F : Nat → Prop) (D R : Bool → List It) (E nw : Bool → Int) (id seq : Int) (wr : World) (vl vj : Value) : Prop :=
  ∃ (F' : Nat → Prop) (M' : Bool → List It) (dn : List Fd), TS wr x b F' M' E id seq ∧ Fr F w wr ∧ (∀ i, F' i → F i ∨ w.heap.size ≤ i) ∧ wr.ownsRow w.heap.size 77 6 vl dn.length (flat6 dn) ∧ (∀ g, vl.ownBlock = some g → ¬ F' g) ∧
    ((vj = .int .i64 0 ∧ dn = [] ∧ M' = M0 D R) ∨ (vj = .int .i64 1 ∧ dn = fds D E nw false ∧ M' = M1 D R E nw) ∨ (vj = .int .i64 2 ∧ dn = fds D E nw false ++ fds D E nw true ∧ M' = upd (M1 D R E nw) true (Nend D R E nw true)))
/-- Within a kind. -/
def IF (w : World) (x : Nat) (b : Bool → Nat) (F : Nat → Prop) (D R : Bool → List It) (E nw : Bool → Int) (id seq : Int) (k : Bool) (dn : List Fd) (M' : Bool → List It) (wr : World) (vl v10 v11 : Value) : Prop :=
  ∃ (F' : Nat → Prop) (p g : Nat), p ≤ (D k).length ∧ TS wr x b F' (upd M' k (Nq (E k) (nw k) (D k) (R k) (p + 1))) E id seq ∧ Fr F w wr ∧ (∀ i, F' i → F i ∨ w.heap.size ≤ i) ∧
    wr.ownsRow w.heap.size 77 6 vl (dn.length + p) (flat6 (dn ++ (fds D E nw k).take p)) ∧ (∀ g', vl.ownBlock = some g' → ¬ F' g' ∧ g' ≠ g) ∧ v10 = .pointer (some ⟨g, 0, none⟩) ∧ Blk wr g (enc6 (fq k (E k) (nw k) (D k) p)).toArray 77 ∧ ¬ F' g ∧ w.heap.size ≤ g ∧
    v11 = .bool (decide (p < (D k).length))
def slen : Value → Nat | .slice _ n _ => n | _ => 0
theorem own6_slen {w : World} {base : Nat} {v : Value} {n : Nat} {xs : List Value} (h : w.ownsRow base 77 6 v n xs) : slen v = n := by
  rcases h.2 with ⟨rfl, e⟩ | ⟨g, cap, cur, rfl, _⟩
  · rw [e]; rfl
  · rfl
theorem take_fds {D : Bool → List It} {E nw : Bool → Int} {k : Bool} {p : Nat} (h : p < (D k).length) (dn : List Fd) : (dn ++ (fds D E nw k).take p) ++ [fq k (E k) (nw k) (D k) p] = dn ++ (fds D E nw k).take (p + 1) := by
  have e : (fds D E nw k)[p]? = some (fq k (E k) (nw k) (D k) p) := by
    unfold fds fq; rw [List.getElem?_map, List.getElem?_eq_getElem h]; rfl
  rw [List.append_assoc, List.take_add_one, e]; rfl
theorem len_fds {D : Bool → List It} {E nw : Bool → Int} {k : Bool} {p : Nat} (h : p ≤ (D k).length) (dn : List Fd) : (dn ++ (fds D E nw k).take p).length = dn.length + p := by
  rw [List.length_append, List.length_take]; unfold fds; rw [List.length_map]; omega
set_option maxHeartbeats 16000000 in
theorem fire_at {w : World} {x : Nat} {b : Bool → Nat} {F : Nat → Prop} {M : Bool → List It} {E : Bool → Int} {id seq mono wall : Int} (h : TS w x b F M E id seq) (D R : Bool → List It) (nw : Bool → Int) (hn0 : nw false = min mono MT) (hn1 : nw true = min wall MT)
    (hp : ∀ k, (M k).Perm (D k ++ R k)) (hs : ∀ k, (D k).Pairwise itLt) (hd : ∀ k, ∀ y ∈ D k, y.f2 ≤ nw k) (hr : ∀ k, ∀ z ∈ R k, nw k < z.f2) :
    Calls Try.prog 35 #[.pointer (some ⟨x, 0, none⟩), .int .i64 mono, .int .i64 wall] w fun r w' => ∃ A n cap, r = .returned (.slice A n cap) ∧ n = (D false).length + (D true).length ∧ n ≤ cap ∧ cap ≤ maxLen ∧ Fds w' A (fds D E nw false ++ fds D E nw true) ∧
      (∃ F', TS w' x b F' (Nend D R E nw) E id seq ∧ (∀ i, F' i → F i ∨ w.heap.size ≤ i) ∧ ∀ g, A = some ⟨g, 0, none⟩ → w.heap.size ≤ g ∧ ¬ F' g) ∧ Fr F w w' := by
  have hl0 := h.len false
  have hl1 := h.len true
  have hD0 : (D false).length ≤ 256 := by have := (hp false).length_eq; rw [List.length_append] at this; omega
  have hD1 : (D true).length ≤ 256 := by have := (hp true).length_eq; rw [List.length_append] at this; omega
  have HS := hid hs
  have HD := hid hd
  have HR := hid hr
  have hnw : ∀ k, nw k ≤ MT := fun k => by cases k; rw [hn0]; omega; rw [hn1]; omega
  have HNW := hid hnw
  have H0 := hid (h.perm hp)
  have HE := hid (h.evs)
  clear hs hd hr hp h hl0 hl1 hnw
  obtain ⟨n0, hn0'⟩ : ∃ n, n = nw false := ⟨_, rfl⟩
  obtain ⟨n1, hn1'⟩ : ∃ n, n = nw true := ⟨_, rfl⟩
  have e0 : min mono 4611686018427387904 = n0 := by rw [hn0', hn0]; rfl
  have e1 : min wall 4611686018427387904 = n1 := by rw [hn1', hn1]; rfl
  have HN0 := hid hn0'
  have HN1 := hid hn1'
  have HE0 := hid e0
  have HE1 := hid e1
  clear hn0 hn1 hn0' hn1' e0 e1
  obtain ⟨_, tm, hblk⟩ := H0.out.blk
  have HB := hid hblk
  clear hblk
  go_enter Try.func35, Try.ntmps35
  go_wp2_with fail
  refine (tnone_at HB.out).mono ?_
  rintro e w' ⟨rfl, rfl⟩
  go_upto_region 4 with fail
  go_cut [18, 19] (fun s18 s19 wx => s18 = .agg #[.int .i64 n0, .int .i64 n1] ∧ s19 = .int .i64 0 ∧ w = wx)
  case first =>
    go_wp2_with fail
    all_goals (go_meet; refine ⟨?_, rfl, rfl⟩; have := HE0.out; have := HE1.out; simp; omega)
  case rest =>
    obtain ⟨rfl, rfl, rfl⟩ := hcut
    have hix0 : ∀ w, (Instr.index 107 (.agg #[.int .i64 n0, .int .i64 n1]) (.int .i64 0)).run Try.prog w = .ok (.int .i64 n0) w := fun _ => by kernel_rfl
    have hix1 : ∀ w, (Instr.index 107 (.agg #[.int .i64 n0, .int .i64 n1]) (.int .i64 1)).run Try.prog w = .ok (.int .i64 n1) w := fun _ => by kernel_rfl
    have HOF : Hid (OF w x b F D R E nw id seq w (.slice none 0 0) (.int .i64 0)) := hid ⟨F, M0 D R, [], H0.out, Fr.refl _ _, fun i hi => .inl hi, ⟨rfl, .inl ⟨rfl, rfl⟩⟩, fun g e => (by cases e), .inl ⟨rfl, rfl, rfl⟩⟩
    clear H0 HB
    go_wp2_with fail
    go_loopw [7, 19] (fun vl vj wr => Hid (OF w x b F D R E nw id seq wr vl vj)) (fun _ vj _ => 2 - (intOf vj).toNat)
    case atStart => exact HOF
    case round =>
      clear HOF
      obtain ⟨wo, rfl⟩ : ∃ wo : World, wo = wr := ⟨_, rfl⟩
      obtain ⟨vl, rfl⟩ : ∃ v : Value, v = u7 := ⟨_, rfl⟩
      obtain ⟨F', M', dn, ts, hf, hF', ho, hno, hd⟩ := hrel.out
      rcases hd with ⟨rfl, hdn, hM⟩ | ⟨rfl, hdn, hM⟩ | ⟨rfl, hdn, hM⟩
      · clear hrel
        have hs0 := hf.size
        have hM0 : M' = upd M' false (Nq (E false) (nw false) (D false) (R false) 0) := by rw [Nq_zero, hM]; funext j; cases j <;> rfl
        rw [hM0] at ts
        have hdl : dn.length ≤ 256 := by rw [hdn]; simp [fds]; try omega
        obtain ⟨hFx, tm, hb⟩ := ts.blk
        obtain ⟨c0, c1, _⟩ := hb.c5
        have HM0 := hid hM0
        have HM := hid hM
        have HDN := hid hdn
        have TS0 := hid ts
        clear hM0 hM hdn ts hb
        go_wp2_with (first | (simp only [hix0]))
        refine (fire_q (k := false) (now := n0) (D := D false) (R := R false) (q := 0) (by rw [HN0.out]; exact TS0.out) (HS.out false) (by rw [HN0.out]; exact HD.out false) (by rw [HN0.out]; exact HR.out false) (by rw [HN0.out]; exact HNW.out false) (HE.out false).1).mono ?_
        rintro r w1 ⟨rfl, F1, ts1, f1, hF1⟩
        obtain ⟨⟨a1, a2, a3, a4, a5, a6⟩, hfq⟩ : ∃ f, f = fq false (E false) n0 (D false) 0 := ⟨_, rfl⟩
        rw [← hfq]
        have HFQ0 := hid hfq
        clear hfq
        have ho1 := own6_fr ho f1 hno
        have hno1 : ∀ g, vl.ownBlock = some g → ¬ F1 g := fun g e hg => by
          rcases hF1 g hg with h | h
          · exact hno g e h
          · have := (own6_lt ho g e).2; omega
        have hsz1 := f1.size
        clear ho hno c0 c1
        go_wp2_with fail
        generalize hW : World.alloc w1 _ = W2
        have f12 : Fr (fun _ => False) w1 W2 := by subst hW; (repeat' (first | (with_reducible exact Fr.refl _ _) | (with_reducible assumption) | (with_reducible refine Fr.alloc ?_ _) | (with_reducible refine Fr.drew ?_) | (with_reducible refine Fr.drewN ?_ _) | (with_reducible refine Fr.setCell ?_ _ _ ?_) | (exact Or.inr rfl) | (left; simp; done) | (left; simp; omega) | (simp; done) | (simp; omega) | omega))
        have bG : Blk W2 w1.heap.size (enc6 (a1, a2, a3, a4, a5, a6)).toArray 77 := by subst hW; exact Blk.new' _ _ _ rfl
        clear hW
        have HIF : Hid (IF w x b F D R E nw id seq false dn M' W2 vl (.pointer (some ⟨w1.heap.size, 0, none⟩)) (.bool (decide (0 < (D false).length)))) := hid (by
          refine ⟨F1, 0, w1.heap.size, Nat.zero_le _, ?_, ?_, fun i hi => ?_, ?_, fun g e => ⟨hno1 g e, ?_⟩, rfl, ?_, fun hg => ?_, by omega, rfl⟩
          · rw [HN0.out] at ts1; rw [HM0.out]; refine (ts1.fr0 f12).perm (fun j => ?_)
            cases j <;> simp [upd]
          · exact (hf.trans f1 (fun i hi hg => (hF' i hg).elim (fun h => h) (fun h => by omega))).trans f12 (fun _ _ h => h.elim)
          · rcases hF1 i hi with h | h
            · exact hF' i h
            · exact .inr (by omega)
          · rw [List.take_zero, List.append_nil, Nat.add_zero]; exact own6_fr ho1 f12 (fun _ _ h => h)
          · have := (own6_lt ho1 g e).2; omega
          · rw [← HN0.out, ← HFQ0.out]; exact bG
          · have := ts1.lt _ hg; omega)
        clear ts1 f1 hF1 ho1 hno1 f12 bG hF' hf TS0 hFx HFQ0
        go_loopw [7, 10, 11] (fun vl v10 v11 wr => Hid (IF w x b F D R E nw id seq false dn M' wr vl v10 v11)) (fun vl _ _ _ => dn.length + (D false).length - slen vl)
        case atStart => exact HIF
        case round =>
          clear HIF
          obtain ⟨F2, p, g, hpl, ts, hf, hF2, ho, hno, rfl, bG, hg, hgw, hv11⟩ := hrel.out
          clear hrel
          by_cases hp : p < (D false).length
          · rw [decide_eq_true hp] at hv11
            subst hv11
            have hsl := own6_slen ho
            obtain ⟨⟨a1, a2, a3, a4, a5, a6⟩, hfq⟩ : ∃ f, f = fq false (E false) (nw false) (D false) p := ⟨_, rfl⟩
            rw [← hfq] at bG
            have bG' : Blk wr g #[.int .u64 a1, .bool a2, .int .i64 a3, .int .i64 a4, .int .i64 a5, .int .i64 a6] 77 := bG
            obtain ⟨d0, d1, d2, d3, d4, d5⟩ := bG'.c6
            have lG := bG.lt
            have HFQ := hid hfq
            have TS1 := hid ts
            have hszr := hf.size
            clear hfq bG' ts
            go_wp2_with (first
              | (at_builtin
                 generalize hW : World.alloc wr _ = W3
                 have f3 : Fr (fun _ => False) wr W3 := by subst hW; (repeat' (first | (with_reducible exact Fr.refl _ _) | (with_reducible assumption) | (with_reducible refine Fr.alloc ?_ _) | (with_reducible refine Fr.drew ?_) | (with_reducible refine Fr.drewN ?_ _) | (with_reducible refine Fr.setCell ?_ _ _ ?_) | (exact Or.inr rfl) | (left; simp; done) | (left; simp; omega) | (simp; done) | (simp; omega) | omega))
                 have b3 : Blk W3 wr.heap.size (enc6 (a1, a2, a3, a4, a5, a6)).toArray 77 := by subst hW; exact Blk.new' _ _ _ rfl
                 have s3 : wr.heap.size < W3.heap.size := by subst hW; simp
                 clear hW
                 have o3 := own6_fr ho f3 (fun _ _ h => h)
                 have ob := own6_lt ho
                 rw [← len_fds (D := D) (E := E) (nw := nw) (k := false) hpl dn] at o3
                 refine wpList_append_fd rfl _ _ rfl w.heap.size wr.heap.size u7 (dn ++ (fds D E nw false).take p) (a1, a2, a3, a4, a5, a6) rfl rfl o3 b3 (by rw [len_fds hpl]; omega) (by omega) ?_
                 intro v4 w4 o4 g4 hv4
                 rw [HFQ.out, take_fds hp, len_fds (by omega)] at o4
                 have f34 : Fr (fun i => u7.ownBlock = some i) W3 w4 := ⟨g4.os, g4.tape, g4.output, g4.size, fun k hk hn => g4.block k hk (fun e => hn e.symm)⟩
                 have ts4 := (TS1.out.fr0 f3).fr f34 (fun i hi e => (hno i e).1 hi)
                 have bG4 := (bG.fr f3 (fun h => h)).fr f34 (fun e => (hno g e).2 rfl)
                 have fw4 : Fr F w w4 := (hf.trans f3 (fun _ _ h => h.elim)).trans f34 (fun i hi e => by have := (ob i e).1; omega)
                 have hno4 : ∀ g', v4.ownBlock = some g' → ¬ F2 g' := fun g' e hg' => by
                   rcases hv4 with h | h
                   · exact (hno g' (h ▸ e)).1 hg'
                   · rw [h] at e; have e := Option.some.inj e; have := TS1.out.lt g' hg'; omega
                 have hs4 := f34.size
                 clear f3 f34 o3 b3 d0 d1 d2 d3 d4 d5 bG ho g4 hv4 ob
                 have bG4' : Blk w4 g #[.int .u64 a1, .bool a2, .int .i64 a3, .int .i64 a4, .int .i64 a5, .int .i64 a6] 77 := bG4
                 obtain ⟨d0, d1, d2, d3, d4, d5⟩ := bG4'.c6
                 have lG4 := bG4.lt
                 obtain ⟨hFx, tm, hb⟩ := ts4.blk
                 obtain ⟨c0, c1, _⟩ := hb.c5
                 have hxl := hb.lt
                 have TS4 := hid ts4
                 clear ts4 bG4' hb))
            generalize hW : World.alloc w4 _ = W5
            have f45 : Fr (fun _ => False) w4 W5 := by subst hW; (repeat' (first | (with_reducible exact Fr.refl _ _) | (with_reducible assumption) | (with_reducible refine Fr.alloc ?_ _) | (with_reducible refine Fr.drew ?_) | (with_reducible refine Fr.drewN ?_ _) | (with_reducible refine Fr.setCell ?_ _ _ ?_) | (exact Or.inr rfl) | (left; simp; done) | (left; simp; omega) | (simp; done) | (simp; omega) | omega))
            have b5 : Blk W5 w4.heap.size (enc6 (a1, a2, a3, a4, a5, a6)).toArray 77 := by subst hW; exact Blk.new' _ _ _ rfl
            have hs5 : W5.heap.size = w4.heap.size + 1 := by subst hW; simp
            clear hW d0 d1 d2 d3 d4 d5 c0 c1
            have TS5 := hid (TS4.out.fr0 f45)
            refine (fire_q (k := false) (now := n0) (D := D false) (R := R false) (q := p + 1) (by rw [HN0.out]; exact TS5.out) (HS.out false) (by rw [HN0.out]; exact HD.out false) (by rw [HN0.out]; exact HR.out false) (by rw [HN0.out]; exact HNW.out false) (HE.out false).1).mono ?_
            rintro r w6 ⟨rfl, F6, ts6, f6, hF6⟩
            rw [HN0.out] at ts6
            obtain ⟨⟨z1, z2, z3, z4, z5, z6⟩, hfz⟩ : ∃ f, f = fq false (E false) n0 (D false) (p + 1) := ⟨_, rfl⟩
            rw [← hfz]
            have nF6 : ¬ F2 w4.heap.size := fun h => by have := TS4.out.lt _ h; omega
            have b6 := b5.fr f6 nF6
            have b6' : Blk w6 w4.heap.size #[.int .u64 a1, .bool a2, .int .i64 a3, .int .i64 a4, .int .i64 a5, .int .i64 a6] 77 := b6
            obtain ⟨d0, d1, d2, d3, d4, d5⟩ := b6'.c6
            obtain ⟨q0, q1, q2, q3, q4, q5⟩ := b6'.q6
            have l6 := b6.lt
            have o6 := own6_fr (own6_fr o4 f45 (fun _ _ h => h)) f6 hno4
            have hs6 := f6.size
            have HZ := hid hfz
            clear hfz b5 b6
            go_wp2_with fail
            generalize hW : World.setCell _ _ _ = W7
            have b7 : Blk W7 w4.heap.size (enc6 (z1, z2, z3, z4, z5, z6)).toArray 77 := by subst hW; exact ((((((b6'.set rfl).set rfl).set rfl).set rfl).set rfl).set rfl)
            have f67 : Fr (fun i => i = w4.heap.size) w6 W7 := by subst hW; (repeat' (first | (with_reducible exact Fr.refl _ _) | (with_reducible assumption) | (with_reducible refine Fr.alloc ?_ _) | (with_reducible refine Fr.drew ?_) | (with_reducible refine Fr.drewN ?_ _) | (with_reducible refine Fr.setCell ?_ _ _ ?_) | (exact Or.inr rfl) | (left; simp; done) | (left; simp; omega) | (simp; done) | (simp; omega) | omega))
            have hno6 : ∀ g', v4.ownBlock = some g' → ¬ F6 g' ∧ g' ≠ w4.heap.size := fun g' e => by
              have h4 := (own6_lt o4 g' e).2
              refine ⟨fun h => ?_, by omega⟩
              rcases hF6 g' h with h | h
              · exact hno4 g' e h
              · omega
            have nF6' : ¬ F6 w4.heap.size := fun h => by
              rcases hF6 _ h with h | h
              · exact nF6 h
              · omega
            have HIF2 : Hid (IF w x b F D R E nw id seq false dn M' W7 v4 (.pointer (some ⟨w4.heap.size, 0, none⟩)) (.bool (decide (p + 1 < (D false).length)))) := hid (by
              refine ⟨F6, p + 1, w4.heap.size, by omega, ts6.fr f67 (fun i hi e => nF6' (e ▸ hi)), ?_, fun i hi => ?_, ?_, hno6, rfl, ?_, nF6', by omega, rfl⟩
              · exact ((fw4.trans f45 (fun _ _ h => h.elim)).trans f6 (fun i hi h => (hF2 i h).elim (fun h => h) (fun h => by omega))).trans f67 (fun i hi e => by have e : i = w4.heap.size := e; omega)
              · rcases hF6 i hi with h | h
                · exact hF2 i h
                · exact .inr (by omega)
              · exact own6_fr o6 f67 (fun g' e h => (hno6 g' e).2 h)
              · rw [← HN0.out, ← HZ.out]; exact b7)
            have hsl4 := own6_slen o4
            clear hW b7 f67 o6 d0 d1 d2 d3 d4 d5 q0 q1 q2 q3 q4 q5
            go_roundw
            case rel => exact HIF2
            case measure =>
              show dn.length + (D false).length - slen v4 < dn.length + (D false).length - slen u7
              rw [hsl4, hsl]; omega
          · rw [decide_eq_false hp] at hv11
            subst hv11
            obtain rfl : p = (D false).length := by omega
            have HOF : Hid (OF w x b F D R E nw id seq wr u7 (.int .i64 1)) := hid (by
              refine ⟨F2, _, _, ts, hf, hF2, by rw [len_fds (Nat.le_refl _) dn]; exact ho, fun g' e => (hno g' e).1, .inr (.inl ⟨rfl, ?_, ?_⟩)⟩
              · rw [HDN.out, List.take_of_length_le (by simp [fds])]; rfl
              · rw [HM.out]; rw [Nq_end (by omega)]; rfl)
            clear ts ho bG
            go_wp2
            go_roundw
            case rel => exact HOF
            case measure => simp [intOf]
      · clear hrel
        have hs0 := hf.size
        have hM0 : M' = upd M' true (Nq (E true) (nw true) (D true) (R true) 0) := by rw [Nq_zero, hM]; funext j; cases j <;> rfl
        rw [hM0] at ts
        have hdl : dn.length ≤ 256 := by rw [hdn]; simp [fds]; try omega
        obtain ⟨hFx, tm, hb⟩ := ts.blk
        obtain ⟨c0, c1, _⟩ := hb.c5
        have HM0 := hid hM0
        have HM := hid hM
        have HDN := hid hdn
        have TS0 := hid ts
        clear hM0 hM hdn ts hb
        go_wp2_with (first | (simp only [hix1]))
        refine (fire_q (k := true) (now := n1) (D := D true) (R := R true) (q := 0) (by rw [HN1.out]; exact TS0.out) (HS.out true) (by rw [HN1.out]; exact HD.out true) (by rw [HN1.out]; exact HR.out true) (by rw [HN1.out]; exact HNW.out true) (HE.out true).1).mono ?_
        rintro r w1 ⟨rfl, F1, ts1, f1, hF1⟩
        obtain ⟨⟨a1, a2, a3, a4, a5, a6⟩, hfq⟩ : ∃ f, f = fq true (E true) n1 (D true) 0 := ⟨_, rfl⟩
        rw [← hfq]
        have HFQ0 := hid hfq
        clear hfq
        have ho1 := own6_fr ho f1 hno
        have hno1 : ∀ g, vl.ownBlock = some g → ¬ F1 g := fun g e hg => by
          rcases hF1 g hg with h | h
          · exact hno g e h
          · have := (own6_lt ho g e).2; omega
        have hsz1 := f1.size
        clear ho hno c0 c1
        go_wp2_with fail
        generalize hW : World.alloc w1 _ = W2
        have f12 : Fr (fun _ => False) w1 W2 := by subst hW; (repeat' (first | (with_reducible exact Fr.refl _ _) | (with_reducible assumption) | (with_reducible refine Fr.alloc ?_ _) | (with_reducible refine Fr.drew ?_) | (with_reducible refine Fr.drewN ?_ _) | (with_reducible refine Fr.setCell ?_ _ _ ?_) | (exact Or.inr rfl) | (left; simp; done) | (left; simp; omega) | (simp; done) | (simp; omega) | omega))
        have bG : Blk W2 w1.heap.size (enc6 (a1, a2, a3, a4, a5, a6)).toArray 77 := by subst hW; exact Blk.new' _ _ _ rfl
        clear hW
        have HIF : Hid (IF w x b F D R E nw id seq true dn M' W2 vl (.pointer (some ⟨w1.heap.size, 0, none⟩)) (.bool (decide (0 < (D true).length)))) := hid (by
          refine ⟨F1, 0, w1.heap.size, Nat.zero_le _, ?_, ?_, fun i hi => ?_, ?_, fun g e => ⟨hno1 g e, ?_⟩, rfl, ?_, fun hg => ?_, by omega, rfl⟩
          · rw [HN1.out] at ts1; rw [HM0.out]; refine (ts1.fr0 f12).perm (fun j => ?_)
            cases j <;> simp [upd]
          · exact (hf.trans f1 (fun i hi hg => (hF' i hg).elim (fun h => h) (fun h => by omega))).trans f12 (fun _ _ h => h.elim)
          · rcases hF1 i hi with h | h
            · exact hF' i h
            · exact .inr (by omega)
          · rw [List.take_zero, List.append_nil, Nat.add_zero]; exact own6_fr ho1 f12 (fun _ _ h => h)
          · have := (own6_lt ho1 g e).2; omega
          · rw [← HN1.out, ← HFQ0.out]; exact bG
          · have := ts1.lt _ hg; omega)
        clear ts1 f1 hF1 ho1 hno1 f12 bG hF' hf TS0 hFx HFQ0
        go_loopw [7, 10, 11] (fun vl v10 v11 wr => Hid (IF w x b F D R E nw id seq true dn M' wr vl v10 v11)) (fun vl _ _ _ => dn.length + (D true).length - slen vl)
        case atStart => exact HIF
        case round =>
          clear HIF
          obtain ⟨F2, p, g, hpl, ts, hf, hF2, ho, hno, rfl, bG, hg, hgw, hv11⟩ := hrel.out
          clear hrel
          by_cases hp : p < (D true).length
          · rw [decide_eq_true hp] at hv11
            subst hv11
            have hsl := own6_slen ho
            obtain ⟨⟨a1, a2, a3, a4, a5, a6⟩, hfq⟩ : ∃ f, f = fq true (E true) (nw true) (D true) p := ⟨_, rfl⟩
            rw [← hfq] at bG
            have bG' : Blk wr g #[.int .u64 a1, .bool a2, .int .i64 a3, .int .i64 a4, .int .i64 a5, .int .i64 a6] 77 := bG
            obtain ⟨d0, d1, d2, d3, d4, d5⟩ := bG'.c6
            have lG := bG.lt
            have HFQ := hid hfq
            have TS1 := hid ts
            have hszr := hf.size
            clear hfq bG' ts
            go_wp2_with (first
              | (at_builtin
                 generalize hW : World.alloc wr _ = W3
                 have f3 : Fr (fun _ => False) wr W3 := by subst hW; (repeat' (first | (with_reducible exact Fr.refl _ _) | (with_reducible assumption) | (with_reducible refine Fr.alloc ?_ _) | (with_reducible refine Fr.drew ?_) | (with_reducible refine Fr.drewN ?_ _) | (with_reducible refine Fr.setCell ?_ _ _ ?_) | (exact Or.inr rfl) | (left; simp; done) | (left; simp; omega) | (simp; done) | (simp; omega) | omega))
                 have b3 : Blk W3 wr.heap.size (enc6 (a1, a2, a3, a4, a5, a6)).toArray 77 := by subst hW; exact Blk.new' _ _ _ rfl
                 have s3 : wr.heap.size < W3.heap.size := by subst hW; simp
                 clear hW
                 have o3 := own6_fr ho f3 (fun _ _ h => h)
                 have ob := own6_lt ho
                 rw [← len_fds (D := D) (E := E) (nw := nw) (k := true) hpl dn] at o3
                 refine wpList_append_fd rfl _ _ rfl w.heap.size wr.heap.size u7 (dn ++ (fds D E nw true).take p) (a1, a2, a3, a4, a5, a6) rfl rfl o3 b3 (by rw [len_fds hpl]; omega) (by omega) ?_
                 intro v4 w4 o4 g4 hv4
                 rw [HFQ.out, take_fds hp, len_fds (by omega)] at o4
                 have f34 : Fr (fun i => u7.ownBlock = some i) W3 w4 := ⟨g4.os, g4.tape, g4.output, g4.size, fun k hk hn => g4.block k hk (fun e => hn e.symm)⟩
                 have ts4 := (TS1.out.fr0 f3).fr f34 (fun i hi e => (hno i e).1 hi)
                 have bG4 := (bG.fr f3 (fun h => h)).fr f34 (fun e => (hno g e).2 rfl)
                 have fw4 : Fr F w w4 := (hf.trans f3 (fun _ _ h => h.elim)).trans f34 (fun i hi e => by have := (ob i e).1; omega)
                 have hno4 : ∀ g', v4.ownBlock = some g' → ¬ F2 g' := fun g' e hg' => by
                   rcases hv4 with h | h
                   · exact (hno g' (h ▸ e)).1 hg'
                   · rw [h] at e; have e := Option.some.inj e; have := TS1.out.lt g' hg'; omega
                 have hs4 := f34.size
                 clear f3 f34 o3 b3 d0 d1 d2 d3 d4 d5 bG ho g4 hv4 ob
                 have bG4' : Blk w4 g #[.int .u64 a1, .bool a2, .int .i64 a3, .int .i64 a4, .int .i64 a5, .int .i64 a6] 77 := bG4
                 obtain ⟨d0, d1, d2, d3, d4, d5⟩ := bG4'.c6
                 have lG4 := bG4.lt
                 obtain ⟨hFx, tm, hb⟩ := ts4.blk
                 obtain ⟨c0, c1, _⟩ := hb.c5
                 have hxl := hb.lt
                 have TS4 := hid ts4
                 clear ts4 bG4' hb))
            generalize hW : World.alloc w4 _ = W5
            have f45 : Fr (fun _ => False) w4 W5 := by subst hW; (repeat' (first | (with_reducible exact Fr.refl _ _) | (with_reducible assumption) | (with_reducible refine Fr.alloc ?_ _) | (with_reducible refine Fr.drew ?_) | (with_reducible refine Fr.drewN ?_ _) | (with_reducible refine Fr.setCell ?_ _ _ ?_) | (exact Or.inr rfl) | (left; simp; done) | (left; simp; omega) | (simp; done) | (simp; omega) | omega))
            have b5 : Blk W5 w4.heap.size (enc6 (a1, a2, a3, a4, a5, a6)).toArray 77 := by subst hW; exact Blk.new' _ _ _ rfl
            have hs5 : W5.heap.size = w4.heap.size + 1 := by subst hW; simp
            clear hW d0 d1 d2 d3 d4 d5 c0 c1
            have TS5 := hid (TS4.out.fr0 f45)
            refine (fire_q (k := true) (now := n1) (D := D true) (R := R true) (q := p + 1) (by rw [HN1.out]; exact TS5.out) (HS.out true) (by rw [HN1.out]; exact HD.out true) (by rw [HN1.out]; exact HR.out true) (by rw [HN1.out]; exact HNW.out true) (HE.out true).1).mono ?_
            rintro r w6 ⟨rfl, F6, ts6, f6, hF6⟩
            rw [HN1.out] at ts6
            obtain ⟨⟨z1, z2, z3, z4, z5, z6⟩, hfz⟩ : ∃ f, f = fq true (E true) n1 (D true) (p + 1) := ⟨_, rfl⟩
            rw [← hfz]
            have nF6 : ¬ F2 w4.heap.size := fun h => by have := TS4.out.lt _ h; omega
            have b6 := b5.fr f6 nF6
            have b6' : Blk w6 w4.heap.size #[.int .u64 a1, .bool a2, .int .i64 a3, .int .i64 a4, .int .i64 a5, .int .i64 a6] 77 := b6
            obtain ⟨d0, d1, d2, d3, d4, d5⟩ := b6'.c6
            obtain ⟨q0, q1, q2, q3, q4, q5⟩ := b6'.q6
            have l6 := b6.lt
            have o6 := own6_fr (own6_fr o4 f45 (fun _ _ h => h)) f6 hno4
            have hs6 := f6.size
            have HZ := hid hfz
            clear hfz b5 b6
            go_wp2_with fail
            generalize hW : World.setCell _ _ _ = W7
            have b7 : Blk W7 w4.heap.size (enc6 (z1, z2, z3, z4, z5, z6)).toArray 77 := by subst hW; exact ((((((b6'.set rfl).set rfl).set rfl).set rfl).set rfl).set rfl)
            have f67 : Fr (fun i => i = w4.heap.size) w6 W7 := by subst hW; (repeat' (first | (with_reducible exact Fr.refl _ _) | (with_reducible assumption) | (with_reducible refine Fr.alloc ?_ _) | (with_reducible refine Fr.drew ?_) | (with_reducible refine Fr.drewN ?_ _) | (with_reducible refine Fr.setCell ?_ _ _ ?_) | (exact Or.inr rfl) | (left; simp; done) | (left; simp; omega) | (simp; done) | (simp; omega) | omega))
            have hno6 : ∀ g', v4.ownBlock = some g' → ¬ F6 g' ∧ g' ≠ w4.heap.size := fun g' e => by
              have h4 := (own6_lt o4 g' e).2
              refine ⟨fun h => ?_, by omega⟩
              rcases hF6 g' h with h | h
              · exact hno4 g' e h
              · omega
            have nF6' : ¬ F6 w4.heap.size := fun h => by
              rcases hF6 _ h with h | h
              · exact nF6 h
              · omega
            have HIF2 : Hid (IF w x b F D R E nw id seq true dn M' W7 v4 (.pointer (some ⟨w4.heap.size, 0, none⟩)) (.bool (decide (p + 1 < (D true).length)))) := hid (by
              refine ⟨F6, p + 1, w4.heap.size, by omega, ts6.fr f67 (fun i hi e => nF6' (e ▸ hi)), ?_, fun i hi => ?_, ?_, hno6, rfl, ?_, nF6', by omega, rfl⟩
              · exact ((fw4.trans f45 (fun _ _ h => h.elim)).trans f6 (fun i hi h => (hF2 i h).elim (fun h => h) (fun h => by omega))).trans f67 (fun i hi e => by have e : i = w4.heap.size := e; omega)
              · rcases hF6 i hi with h | h
                · exact hF2 i h
                · exact .inr (by omega)
              · exact own6_fr o6 f67 (fun g' e h => (hno6 g' e).2 h)
              · rw [← HN1.out, ← HZ.out]; exact b7)
            have hsl4 := own6_slen o4
            clear hW b7 f67 o6 d0 d1 d2 d3 d4 d5 q0 q1 q2 q3 q4 q5
            go_roundw
            case rel => exact HIF2
            case measure =>
              show dn.length + (D true).length - slen v4 < dn.length + (D true).length - slen u7
              rw [hsl4, hsl]; omega
          · rw [decide_eq_false hp] at hv11
            subst hv11
            obtain rfl : p = (D true).length := by omega
            have HOF : Hid (OF w x b F D R E nw id seq wr u7 (.int .i64 2)) := hid (by
              refine ⟨F2, _, _, ts, hf, hF2, by rw [len_fds (Nat.le_refl _) dn]; exact ho, fun g' e => (hno g' e).1, .inr (.inr ⟨rfl, ?_, ?_⟩)⟩
              · rw [HDN.out, List.take_of_length_le (by simp [fds])]
              · rw [HM.out]; rw [Nq_end (by omega)]; rfl)
            clear ts ho bG
            go_wp2
            go_roundw
            case rel => exact HOF
            case measure => simp [intOf]
      · clear hrel
        obtain ⟨A, cap, rfl, hc, hcm, hfd, hg⟩ := own_fds ho rfl
        have hlen : dn.length = (D false).length + (D true).length := by rw [hdn]; simp [fds]
        have HM := hid hM
        have HDN := hid hdn
        have TS2 := hid ts
        have HFD := hid hfd
        have HG := hid hg
        have HLEN := hid hlen
        clear hM hdn ts hfd hg hlen ho
        go_wp2
        go_ret
        refine ⟨A, _, cap, rfl, HLEN.out, hc, hcm, by rw [← HDN.out]; exact HFD.out, ⟨F', TS2.out.perm (fun j => ?_), hF', fun g e => ⟨(HG.out g e).1, hno g (HG.out g e).2⟩⟩, hf⟩
        rw [HM.out]
        cases j <;> simp [upd, M1]
end Go.Proofs.Ytkcfhdnlmdndeaa
