/- The walk of 'BeltTrue'. -/
import Derived.Test.YtcbimfaneinpkaaSame1
import Derived.Test.YtcbimfaneinpkaaTrueLaws
import Derived.Test.YtcbimfaneinpkaaSplit
import Derived.Test.YtcbimfaneinpkaaBytes
import Derived.Test.YtcbimfaneinpkaaBytes16
import Derived.Test.YtcbimfaneinpkaaAlive
import Derived.Test.YtcbimfaneinpkaaMatchWalks
set_option linter.unusedVariables false
set_option linter.unusedSimpArgs false
namespace Go.Proofs.Ytcbimfaneinpkaa
open Go.RowKit Go.Sort

theorem ints_at_get {w : World} {base n g cp k : Nat} {l : List Int} (h : w.ownsRow base 3 1 (.slice (some ⟨g, 0, none⟩) n cp) n (ints l)) (hk : k < l.length) : w.cell? ⟨g, k, none⟩ = some (.int .i64 (l.getD k 0)) := by
  have := sl_cell (SlAt.of_owns h) k (ints_get hk)
  rwa [Nat.zero_add] at this
theorem owns_lit_at (w : World) (k : Nat) (hk : k = w.heap.size) (l : List Int) (n base : Nat) (hb : base ≤ k) (hm : n ≤ maxLen) (hn : l.length = n) : (w.alloc (.cells (ints l).toArray 3)).ownsRow base 3 1 (.slice (some ⟨k, 0, none⟩) n n) n (ints l) := by
  subst hk
  exact owns_lit w (ints l) 3 n 1 base hb hm (by rw [ints_length]; omega)
theorem runs_bd {s : Int} {l : List Int} (h : ∀ j, j < l.length → 0 ≤ l.getD j 0 ∧ l.getD j 0 ≤ 255) : ∀ k, k ≤ l.length → s ≤ runs s l k ∧ runs s l k ≤ s + 255 * k := by
  intro k
  induction k with
  | zero => intro _; simp [runs_zero]
  | succ k ih =>
    intro hk
    have := ih (by omega)
    have := h k (by omega)
    rw [runs_succ (by omega)]
    omega
theorem lit_two (w : World) (u z : Value) : ((w.alloc (.cells #[u] 37)).alloc (.cells #[z] 37)).cell? ⟨w.heap.size, 0, none⟩ = some u ∧ ((w.alloc (.cells #[u] 37)).alloc (.cells #[z] 37)).cell? ⟨w.heap.size + 1, 0, none⟩ = some z := by
  have h1 := sl_cell (SlAt.of_owns (owns_ext (owns_litk w w.heap.size rfl [u] 37 1 1 rfl (by unfold maxLen; omega)) ((Ext.refl _).alloc (.cells #[z] 37)))) 0 rfl
  have h2 := sl_cell (SlAt.of_owns (owns_litk (w.alloc (.cells #[u] 37)) (w.heap.size + 1) (by simp) [z] 37 1 1 rfl (by unfold maxLen; omega))) 0 rfl
  exact ⟨h1, h2⟩
theorem bit_test (sn k : Nat) : (((sn : Int) / 2 ^ k).tmod 2 == 1) = seenBit sn k := by
  unfold seenBit
  rw [Nat.shiftRight_eq_div_pow]
  have e : (sn : Int) / 2 ^ k = ((sn / 2 ^ k : Nat) : Int) := by simp
  rw [e]
  generalize sn / 2 ^ k = d
  rw [Int.tmod_eq_emod_of_nonneg (Int.natCast_nonneg d), Bool.eq_iff_iff]
  simp
  omega
theorem ints_append (l m : List Int) : ints (l ++ m) = ints l ++ ints m := by simp [ints]
set_option maxRecDepth 100000 in
set_option maxHeartbeats 16000000 in
theorem w12 (b : Belt) (v1 : Value) (gs : List Nat) (v2 : Value) (ns : List Nat) (v3 : Value) (ms : List Nat) (sn fr ot : Nat) (w : World) (h1 : WordsAt w v1 gs) (m1 : gs.length ≤ maxLen) (x1 : ∀ x ∈ gs, x < 65536)
    (h2 : BytesAt w v2 ns) (m2 : ns.length ≤ maxLen) (x2 : ∀ x ∈ ns, x < 256) (h3 : BytesAt w v3 ms) (m3 : ms.length ≤ maxLen) (x3 : ∀ x ∈ ms, x < 256) (hs : sn < 65536) (hfr : fr < 65536) (hot : ot < 65536) :
    Calls Try.prog 12 #[.agg #[.int .i64 b.step, .int .i64 b.slip, .int .i64 b.gate, .int .i64 b.length], v1, v2, v3, .int .u16 (sn : Int), .int .u16 (fr : Int), .int .u16 (ot : Int)] w fun e w' => e = .returned (.bool true) ∧ Ext w w' := by
  have hmx : maxLen = 9223372036854775807 := rfl
  rw [hmx] at m1 m2 m3
  obtain ⟨a1, c1, rfl, -, hc1⟩ := h1.form
  obtain ⟨a2, c2, rfl, -, hc2⟩ := h2.form
  obtain ⟨a3, c3, rfl, -, hc3⟩ := h3.form
  have HC1 := Lib.hid hc1
  have HC2 := Lib.hid hc2
  have HC3 := Lib.hid hc3
  have X1 := Lib.hid x1
  have X2 := Lib.hid x2
  have X3 := Lib.hid x3
  clear hc1 hc2 hc3 h1 h2 h3 x1 x2 x3 hmx
  have KA := Lib.hid c_alive
  have K44 := Lib.hid (fun w' => w44 b w')
  by_cases hok : b.ok
  case neg =>
    have hcb : decide b.ok = false := decide_eq_false hok
    clear hok
    go_enter Try.func12, Try.ntmps12
    go_wp2_with (first | (have _q := h1; go_at_call 44; (with_reducible refine (K44.out _).mono ?_); rintro E w2 ⟨rfl, h2⟩; have E2 := Lib.hid (h1.trans h2)) | (go_at_call 43; (with_reducible refine (KA.out _).mono ?_); rintro E w1 ⟨rfl, h1⟩; have hB1 := Lib.hid (h1.blk (blk_at w _ rfl)); obtain ⟨⟨c0, c3, c4, c5⟩, f0, f3, f4, f5⟩ := run_4 hB1.out; have z1 : w.heap.size < w1.heap.size := World.block_lt_of_cell? _ _ c0))
    go_ret
    exact ⟨rfl, ((Ext.refl _).alloc _).trans E2.out⟩
  have hcb : decide b.ok = true := decide_eq_true hok
  by_cases h9 : gs.length ≤ 9
  case neg =>
    have t1 : decide ((9 : Int) < (gs.length : Int)) = true := decide_eq_true (by omega)
    have HO := Lib.hid hok
    clear hok
    go_enter Try.func12, Try.ntmps12
    go_wp2_with (first | (have _q := h1; go_at_call 44; (with_reducible refine (K44.out _).mono ?_); rintro E w2 ⟨rfl, h2⟩; have E2 := Lib.hid (h1.trans h2)) | (go_at_call 43; (with_reducible refine (KA.out _).mono ?_); rintro E w1 ⟨rfl, h1⟩; have hB1 := Lib.hid (h1.blk (blk_at w _ rfl)); obtain ⟨⟨c0, c3, c4, c5⟩, f0, f3, f4, f5⟩ := run_4 hB1.out; have z1 : w.heap.size < w1.heap.size := World.block_lt_of_cell? _ _ c0))
    go_ret
    exact ⟨rfl, ((Ext.refl _).alloc _).trans E2.out⟩
  have t1 : decide ((9 : Int) < (gs.length : Int)) = false := decide_eq_false (by omega)
  by_cases hn : ns.length = gs.length
  case neg =>
    have t2 : ((ns.length : Int) != (gs.length : Int)) = true := by simp; omega
    have HO := Lib.hid hok
    clear hok
    go_enter Try.func12, Try.ntmps12
    go_wp2_with (first | (have _q := h1; go_at_call 44; (with_reducible refine (K44.out _).mono ?_); rintro E w2 ⟨rfl, h2⟩; have E2 := Lib.hid (h1.trans h2)) | (go_at_call 43; (with_reducible refine (KA.out _).mono ?_); rintro E w1 ⟨rfl, h1⟩; have hB1 := Lib.hid (h1.blk (blk_at w _ rfl)); obtain ⟨⟨c0, c3, c4, c5⟩, f0, f3, f4, f5⟩ := run_4 hB1.out; have z1 : w.heap.size < w1.heap.size := World.block_lt_of_cell? _ _ c0))
    go_ret
    exact ⟨rfl, ((Ext.refl _).alloc _).trans E2.out⟩
  have t2 : ((ns.length : Int) != (gs.length : Int)) = false := by simp [hn]
  by_cases hm : ms.length = gs.length
  case neg =>
    have t3 : ((ms.length : Int) != (gs.length : Int)) = true := by simp; omega
    have HO := Lib.hid hok
    have HN := Lib.hid hn
    clear hok hn
    go_enter Try.func12, Try.ntmps12
    go_wp2_with (first | (have _q := h1; go_at_call 44; (with_reducible refine (K44.out _).mono ?_); rintro E w2 ⟨rfl, h2⟩; have E2 := Lib.hid (h1.trans h2)) | (go_at_call 43; (with_reducible refine (KA.out _).mono ?_); rintro E w1 ⟨rfl, h1⟩; have hB1 := Lib.hid (h1.blk (blk_at w _ rfl)); obtain ⟨⟨c0, c3, c4, c5⟩, f0, f3, f4, f5⟩ := run_4 hB1.out; have z1 : w.heap.size < w1.heap.size := World.block_lt_of_cell? _ _ c0))
    go_ret
    exact ⟨rfl, ((Ext.refl _).alloc _).trans E2.out⟩
  have t3 : ((ms.length : Int) != (gs.length : Int)) = false := by simp [hm]
  have hb9 := hok
  obtain ⟨p1, p2, p3, p4, -⟩ := hb9
  have HO := Lib.hid hok
  have HN := Lib.hid hn
  have HM := Lib.hid hm
  have q1 : ns.length ≤ gs.length := by omega
  have q2 : ms.length ≤ gs.length := by omega
  have q3 : gs.length ≤ ns.length := by omega
  have q4 : gs.length ≤ ms.length := by omega
  clear hok hn hm
  obtain ⟨i0, hi, hz0, hz1, hz2⟩ := info_parts info3
  go_enter Try.func12, Try.ntmps12
  go_wp2_with (first | (have _q := h1; go_at_call 44; (with_reducible refine (K44.out _).mono ?_); rintro E w2 ⟨rfl, h2⟩; have E2 := Lib.hid (h1.trans h2)) | (go_at_call 43; (with_reducible refine (KA.out _).mono ?_); rintro E w1 ⟨rfl, h1⟩; have hB1 := Lib.hid (h1.blk (blk_at w _ rfl)); obtain ⟨⟨c0, c3, c4, c5⟩, f0, f3, f4, f5⟩ := run_4 hB1.out; have z1 : w.heap.size < w1.heap.size := World.block_lt_of_cell? _ _ c0))
  have zE := E2.out.size
  rw [size_one] at zE
  have HB : ∀ wr, Ext (w.alloc (.cells #[.int .i64 b.step, .int .i64 b.slip, .int .i64 b.gate, .int .i64 b.length] 23)) wr → (w.heap.size < wr.heap.size ∧ wr.cell? ⟨w.heap.size, 0, none⟩ = some (.int .i64 b.step)) ∧ wr.cell? ⟨w.heap.size, 1, none⟩ = some (.int .i64 b.slip) ∧ wr.cell? ⟨w.heap.size, 2, none⟩ = some (.int .i64 b.gate) ∧ wr.cell? ⟨w.heap.size, 3, none⟩ = some (.int .i64 b.length) := by
    intro wr h
    obtain ⟨⟨d0, d1, d2, d3⟩, -⟩ := run_4 (h.blk (blk_at w _ rfl))
    exact ⟨⟨World.block_lt_of_cell? _ _ d0, d0⟩, d1, d2, d3⟩
  have HBC := Lib.hid HB
  clear HB c0 c3 c4 c5 f0 f3 f4 f5 hB1
  go_loopw [16, 17, 65] (fun y n i wr => ∃ k : Nat, k ≤ gs.length ∧ i = .int .i64 (k : Int) ∧ Ext (w.alloc (.cells #[.int .i64 b.step, .int .i64 b.slip, .int .i64 b.gate, .int .i64 b.length] 23)) wr ∧ Hid (wr.ownsRow (w.heap.size + 1) 3 1 y (k + 1) (ints (runsL fr (idx ns) k))) ∧ Hid (wr.ownsRow (w.heap.size + 1) 3 1 n (k + 1) (ints (runsL ot (idx ms) k))) ∧ Hid (Apart2 y n) ∧ Hid (∀ j, j < k → gapOk b ((idx gs).getD j 0) ((idx ns).getD j 0) ((idx ms).getD j 0))) (fun _ _ i _ => gs.length - (intOf i).toNat)
  case atStart =>
    refine ⟨0, by omega, rfl, (E2.out.alloc _).alloc _, Lib.hid ?_, Lib.hid ?_, Lib.hid ?_, Lib.hid (fun j hj => by omega)⟩
    · exact owns_ext (owns_lit_at w2 _ rfl [(fr : Int)] 1 (w.heap.size + 1) (by omega) (by unfold maxLen; omega) rfl) ((Ext.refl _).alloc _)
    · exact owns_lit_at (w2.alloc _) _ (by simp) [(ot : Int)] 1 (w.heap.size + 1) (by omega) (by unfold maxLen; omega) rfl
    · intro g h1 h2
      simp [Value.ownBlock] at h1 h2
      omega
  case round =>
    obtain ⟨k, hk, rfl, hE, hF, hG, hA, hgo⟩ := hrel
    obtain ⟨⟨zb, b0⟩, b1, b2, b3⟩ := HBC.out wr hE
    by_cases hkl : k < gs.length
    · obtain ⟨e1, o1, rfl, d1⟩ := HC1.out k hkl
      obtain ⟨e2, o2, rfl, d2⟩ := HC2.out k (by omega)
      obtain ⟨e3, o3, rfl, d3⟩ := HC3.out k (by omega)
      have hEw : Ext w wr := ((Ext.refl _).alloc _).trans hE
      have d1 := hEw.get d1
      have d2 := hEw.get d2
      have d3 := hEw.get d3
      have y1 := World.block_lt_of_cell? _ _ d1
      have y2 := World.block_lt_of_cell? _ _ d2
      have y3 := World.block_lt_of_cell? _ _ d3
      simp only at y1 y2 y3
      have g1 : gs.getD k 0 < 65536 := X1.out _ (by rw [List.getD_eq_getElem?_getD, List.getElem?_eq_getElem hkl]; exact List.getElem_mem hkl)
      have g2 : ns.getD k 0 < 256 := X2.out _ (by rw [List.getD_eq_getElem?_getD, List.getElem?_eq_getElem (show k < ns.length by omega)]; exact List.getElem_mem _)
      have g3 : ms.getD k 0 < 256 := X3.out _ (by rw [List.getD_eq_getElem?_getD, List.getElem?_eq_getElem (show k < ms.length by omega)]; exact List.getElem_mem _)
      obtain ⟨fg, fc, rfl, hfg, hfc⟩ := owns_some hF.out (by omega)
      obtain ⟨gg, gc, rfl, hgg, hgc⟩ := owns_some hG.out (by omega)
      have cf := ints_at_get hF.out (k := k) (by rw [runsL_length]; omega)
      have cg := ints_at_get hG.out (k := k) (by rw [runsL_length]; omega)
      rw [runsL_get (Nat.le_refl _)] at cf cg
      have yf := World.block_lt_of_cell? _ _ cf
      have yg := World.block_lt_of_cell? _ _ cg
      simp only at yf yg
      have r1 := runsL_succ (s := (fr : Int)) (l := idx ns) (k := k) (by rw [idx_length]; omega)
      have r2 := runsL_succ (s := (ot : Int)) (l := idx ms) (k := k) (by rw [idx_length]; omega)
      have rb1 := runs_bd (s := (fr : Int)) (l := idx ns) (fun j hj => by
        rw [idx_length] at hj
        rw [idx_get]
        have : ns.getD j 0 < 256 := X2.out _ (by rw [List.getD_eq_getElem?_getD, List.getElem?_eq_getElem hj]; exact List.getElem_mem _)
        omega) k (by rw [idx_length]; omega)
      have rb2 := runs_bd (s := (ot : Int)) (l := idx ms) (fun j hj => by
        rw [idx_length] at hj
        rw [idx_get]
        have : ms.getD j 0 < 256 := X3.out _ (by rw [List.getD_eq_getElem?_getD, List.getElem?_eq_getElem hj]; exact List.getElem_mem _)
        omega) k (by rw [idx_length]; omega)
      have hgs := idx_get gs k
      have hns := idx_get ns k
      have hms := idx_get ms k
      rw [hns] at r1
      rw [hms] at r2
      obtain ⟨p, hp⟩ : ∃ p, gs.getD k 0 = p := ⟨_, rfl⟩
      obtain ⟨n, hnn⟩ : ∃ n, ns.getD k 0 = n := ⟨_, rfl⟩
      obtain ⟨m, hmm⟩ : ∃ m, ms.getD k 0 = m := ⟨_, rfl⟩
      rw [hp] at d1 g1 hgs
      rw [hnn] at d2 g2 hns r1
      rw [hmm] at d3 g3 hms r2
      obtain ⟨fk, hfk⟩ : ∃ fk, runs (fr : Int) (idx ns) k = fk := ⟨_, rfl⟩
      obtain ⟨gk, hgk⟩ : ∃ gk, runs (ot : Int) (idx ms) k = gk := ⟨_, rfl⟩
      rw [hfk] at cf r1 rb1
      rw [hgk] at cg r2 rb2
      have RR := Lib.hid (And.intro r1 r2)
      have IDX := Lib.hid (And.intro hgs (And.intro hns hms))
      have HFK := Lib.hid (And.intro hfk hgk)
      have hne : fg ≠ gg := fun e => hA.out fg rfl (by rw [e]; rfl)
      clear r1 r2 hgs hns hms hp hnn hmm hfk hgk
      obtain ⟨rb11, rb12⟩ := rb1
      obtain ⟨rb21, rb22⟩ := rb2
      have ki1 : (k : Int) < (gs.length : Int) := by omega
      have ki2 : (k : Int) < (ns.length : Int) := by omega
      have ki3 : (k : Int) < (ms.length : Int) := by omega
      have kj : (k : Int) < (k : Int) + 1 := by omega
      have ln1 := mul_bd (n := (n : Int)) (k := b.step - b.slip) (m := b.step + b.slip) (by omega) (by omega) (by omega) (by omega) (by omega)
      have ln2 := mul_bd (n := (n : Int)) (k := b.step + b.slip) (m := b.step + b.slip) (by omega) (by omega) (by omega) (by omega) (by omega)
      have ln3 := mul_bd (n := (m : Int)) (k := b.step - b.slip) (m := b.step + b.slip) (by omega) (by omega) (by omega) (by omega) (by omega)
      have ln4 := mul_bd (n := (m : Int)) (k := b.step + b.slip) (m := b.step + b.slip) (by omega) (by omega) (by omega) (by omega) (by omega)
      obtain ⟨ln11, ln12⟩ := ln1
      obtain ⟨ln21, ln22⟩ := ln2
      obtain ⟨ln31, ln32⟩ := ln3
      obtain ⟨ln41, ln42⟩ := ln4
      by_cases hgap : gapOk b (p : Int) (n : Int) (m : Int)
      case neg =>
        unfold gapOk least most at hgap
        go_wp2_with fail
        go_quiet (fail)
        go_wp2_with fail
        all_goals first
          | (go_ret; exact ⟨rfl, ((Ext.refl _).alloc _).trans (hE.drewN _)⟩)
          | (exfalso; omega)
      have hgp := hgap
      unfold gapOk least most at hgp
      obtain ⟨⟨k1, -⟩, ⟨k2, -⟩, ⟨k3, k4⟩, k5, k6⟩ := hgp
      have f1 : decide ((n : Int) < 1) = false := decide_eq_false (by omega)
      have f2 : decide ((m : Int) < 1) = false := decide_eq_false (by omega)
      have f3 : decide ((p : Int) < (n : Int) * (b.step - b.slip)) = false := decide_eq_false (by omega)
      have f4 : decide ((n : Int) * (b.step + b.slip) < (p : Int)) = false := decide_eq_false (by omega)
      have f5 : decide ((p : Int) < (m : Int) * (b.step - b.slip)) = false := decide_eq_false (by omega)
      have f6 : decide ((m : Int) * (b.step + b.slip) < (p : Int)) = false := decide_eq_false (by omega)
      have HGP := Lib.hid hgap
      clear hgap
      have eS := hE.size
      rw [size_one] at eS
      go_wp2_with fail
      go_quiet (fail)
      go_wp2_with (first | (have _q := E1; at_builtin; refine wpList_append_at rfl _ _ 37 rfl (w.heap.size + 1) 3 i0 (.int .i64 0) 1 8 Try.underlying37 hi hz0 hz1 hz2 rfl (by omega) (.slice (some ⟨gg, 0, none⟩) (k + 1) gc) (k + 1) (ints (runsL ot (idx ms) k)) rfl (owns_ext OG1.out ((Ext.refl _).alloc _)) _ 1 (ints [gk + m]) rfl (SlAt.lit wf (ints [gk + m]) 3 1 rfl) (ints_oneCell' _) (by unfold maxLen; omega) (by omega) (by simp; omega) ?_; intro vb wg ho2 hg2 hat2) | (at_builtin; refine wpList_append_at rfl _ _ 37 rfl (w.heap.size + 1) 3 i0 (.int .i64 0) 1 8 Try.underlying37 hi hz0 hz1 hz2 rfl (by omega) (.slice (some ⟨fg, 0, none⟩) (k + 1) fc) (k + 1) (ints (runsL fr (idx ns) k)) rfl (owns_ext hF.out (((Ext.refl wr).drewN nq).alloc _)) _ 1 (ints [fk + n]) rfl (SlAt.lit (wr.drewN nq) (ints [fk + n]) 3 1 rfl) (ints_oneCell' _) (by unfold maxLen; omega) (by omega) (by simp; omega) ?_; intro va wf ho hg hat; have E1 := Lib.hid (((hE.drewN nq).alloc _).grown hg (fun g hx => by have := (owns_block hF.out g hx).1; rw [size_one]; exact this)); have OG1 := Lib.hid (owns_at (owns_ext hG.out (((Ext.refl wr).drewN nq).alloc (.cells (ints [fk + n]).toArray 3))) fun g hx => hg.block g (by have := (owns_block hG.out g hx).2; simp; omega) (fun e => hA.out g e.symm hx)); have cg1 := ints_at_get OG1.out (k := k) (by rw [runsL_length]; omega); rw [runsL_get (Nat.le_refl _), HFK.out.2] at cg1; have yg1 := World.block_lt_of_cell? _ _ cg1; simp only at yg1; have eS1 := E1.out.size; rw [size_one] at eS1))
      go_roundw
      case rel =>
        have hbF := owns_block ho
        have hb1 : ∀ g, va.ownBlock = some g → g ≠ gg := by
          intro g hx e
          subst e
          rcases hat with hat | hat
          · rw [hat] at hx; injection hx with hx; exact hne hx
          · rw [hat] at hx; injection hx with hx; simp at hx; omega
        refine ⟨k + 1, by omega, by go_num, (E1.out.alloc _).grown hg2 (fun g hx => by have := (owns_block OG1.out g hx).1; rw [size_one]; exact this), Lib.hid ?_, Lib.hid ?_, Lib.hid ?_, Lib.hid ?_⟩
        · rw [RR.out.1, ints_append]
          refine owns_at (owns_ext ho ((Ext.refl _).alloc _)) fun g hx => hg2.block g (by have := (hbF g hx).2; simp; omega) (fun e => hb1 g hx (by first | exact (Option.some.inj e).symm | (simp [Value.ownBlock] at e; omega)))
        · rw [RR.out.2, ints_append]
          exact ho2
        · intro g hx hy
          rcases hat2 with hat2 | hat2
          · rw [hat2] at hy; injection hy with hy; exact hb1 g hx hy.symm
          · rw [hat2] at hy; injection hy with hy; have := (hbF g hx).2; simp at hy; omega
        · intro j hj
          rcases Nat.lt_or_ge j k with h | h
          · exact hgo.out j h
          · obtain rfl : j = k := by omega
            rw [IDX.out.1, IDX.out.2.1, IDX.out.2.2]
            exact HGP.out
      case measure => simp [intOf]; omega
    · obtain rfl : k = gs.length := by omega
      obtain ⟨fg, fc, rfl, hfg, hfc⟩ := owns_some hF.out (by omega)
      obtain ⟨gg, gc, rfl, hgg, hgc⟩ := owns_some hG.out (by omega)
      obtain ⟨L1, hL1⟩ : ∃ L1, runsL (fr : Int) (idx ns) gs.length = L1 := ⟨_, rfl⟩
      obtain ⟨L2, hL2⟩ : ∃ L2, runsL (ot : Int) (idx ms) gs.length = L2 := ⟨_, rfl⟩
      have hl1 : L1.length = gs.length + 1 := by rw [← hL1, runsL_length]
      have hl2 : L2.length = gs.length + 1 := by rw [← hL2, runsL_length]
      have hF1 := hF.out
      have hG1 := hG.out
      rw [hL1] at hF1
      rw [hL2] at hG1
      obtain ⟨N, hN⟩ : ∃ N, gs.length + 1 = N := ⟨_, rfl⟩
      have hin : (matched b L1 ((wants sn N).map fun i => L2.getD i 0)).2 = 0 ∧ wants sn N ∈ (matched b L1 ((wants sn N).map fun i => L2.getD i 0)).1 := by
        have := true_in HO.out (gs := idx gs) (ns := idx ns) (ms := idx ms) (by rw [idx_length, idx_length]; exact HN.out) (by rw [idx_length, idx_length]; exact HM.out) (by rw [idx_length]; exact h9) (fun k hk => hgo.out k (by rw [idx_length] at hk; exact hk)) (s := fr) (o := ot) (by omega) (by omega) (by omega) (by omega) sn
        rw [idx_length, hL1, hL2, hN] at this
        exact this
      have HIN := Lib.hid hin
      have hN1 : N ≤ 10 := by omega
      rw [hN] at hF1 hG1 hl1 hl2 hfc hgc ⊢
      have HF := Lib.hid hF1
      have HG := Lib.hid hG1
      have HL := Lib.hid (And.intro hl1 hl2)
      obtain ⟨B2, hB2⟩ : ∃ B2, wr.heap.size = B2 := ⟨_, rfl⟩
      have HB2 := Lib.hid hB2
      clear hF1 hG1 hF hG hA hgo hL1 hL2 hin hl1 hl2 hN hk hkl hB2
      go_wp2
      go_loopw [22, 23, 155] (fun y z i wq => ∃ k : Nat, k ≤ N ∧ i = .int .i64 (k : Int) ∧ Ext wr wq ∧ Hid (wq.ownsRow B2 3 1 y (wants sn k).length (ints ((wants sn k).map fun i => L2.getD i 0))) ∧ Hid (wq.ownsRow B2 3 1 z (wants sn k).length (ints (idx (wants sn k)))) ∧ Hid (Apart2 y z)) (fun _ _ i _ => N - (intOf i).toNat)
      case atStart => exact ⟨0, by omega, rfl, Ext.refl _, Lib.hid ⟨rfl, .inl ⟨rfl, rfl⟩⟩, Lib.hid ⟨rfl, .inl ⟨rfl, rfl⟩⟩, Lib.hid (fun g h => by cases h)⟩
      case round =>
        obtain ⟨k, hk, rfl, hE2, hY, hZ, hA⟩ := hrel
        by_cases hkl : k < N
        · have ht := bit_test sn k
          have hws := wants_succ sn k
          have hwl := wants_len sn k
          have hgc9 := ints_at_get (owns_ext HG.out hE2) (k := k) (by rw [HL.out.2]; exact hkl)
          obtain ⟨x, hx⟩ : ∃ x, L2.getD k 0 = x := ⟨_, rfl⟩
          rw [hx] at hgc9
          have yg := World.block_lt_of_cell? _ _ hgc9
          simp only at yg
          have HX := Lib.hid hx
          obtain ⟨W, hW⟩ : ∃ W, wants sn k = W := ⟨_, rfl⟩
          have hOY := Lib.hid (show wr.ownsRow B2 3 1 u22 W.length (ints (W.map fun i => L2.getD i 0)) by rw [← hW]; exact hY.out)
          have hOZ := Lib.hid (show wr.ownsRow B2 3 1 u23 W.length (ints (idx W)) by rw [← hW]; exact hZ.out)
          rw [hW] at hws hwl
          have HWS := Lib.hid hws
          have eS := hE2.size
          rw [HB2.out] at eS
          have ki : (k : Int) < (N : Int) := by omega
          obtain ⟨q, hq⟩ : ∃ q, seenBit sn k = q := ⟨_, rfl⟩
          rw [hq] at ht hws
          have HWT := Lib.hid hws
          have HW := Lib.hid hW
          clear hq hws hW hx hY hZ HWS
          cases q
          · go_wp2_with fail
            go_roundw
            case rel =>
              refine ⟨k + 1, by omega, by go_num, hE2, Lib.hid ?_, Lib.hid ?_, hA⟩
              · rw [HWT.out]; simpa using hOY.out
              · rw [HWT.out]; simpa using hOZ.out
            case measure => simp [intOf]; omega
          · go_wp2_with (first | (have _q := EF; at_builtin; refine wpList_append_at rfl _ _ 37 rfl B2 3 i0 (.int .i64 0) 1 8 Try.underlying37 hi hz0 hz1 hz2 rfl (by omega) u23 W.length (ints (idx W)) rfl (owns_ext OZ1.out ((Ext.refl wf).alloc _)) _ 1 (ints [(k : Int)]) rfl (SlAt.lit wf (ints [(k : Int)]) 3 1 rfl) (ints_oneCell' _) (by unfold maxLen; omega) (by omega) (by simp; omega) ?_; intro vb wg ho2 hg2 hat2) | (at_builtin; refine wpList_append_at rfl _ _ 37 rfl B2 3 i0 (.int .i64 0) 1 8 Try.underlying37 hi hz0 hz1 hz2 rfl (by omega) u22 W.length (ints (W.map fun i => L2.getD i 0)) rfl (owns_ext hOY.out ((Ext.refl wr).alloc _)) _ 1 (ints [x]) rfl (SlAt.lit wr (ints [x]) 3 1 rfl) (ints_oneCell' _) (by unfold maxLen; omega) (by omega) (by simp; omega) ?_; intro va wf ho hg hat; have EF := Lib.hid ((hE2.alloc _).grown hg (fun g hx => by have := (owns_block hOY.out g hx).1; rw [HB2.out]; exact this)); have OZ1 := Lib.hid (owns_at (owns_ext hOZ.out ((Ext.refl wr).alloc (.cells (ints [x]).toArray 3))) fun g hx => hg.block g (by have := (owns_block hOZ.out g hx).2; simp; omega) (fun e => hA.out g e.symm hx)); have eS1 := EF.out.size; rw [HB2.out] at eS1))
            go_roundw
            case rel =>
              have hbF := owns_block ho
              have hb1 : ∀ g, va.ownBlock = some g → u23.ownBlock ≠ some g := by
                intro g hx e
                rcases hat with hat | hat
                · rw [hat] at hx; exact hA.out g hx e
                · rw [hat] at hx; injection hx with hx; have := (owns_block hOZ.out g e).2; simp at hx; omega
              refine ⟨k + 1, by omega, by go_num, (EF.out.alloc _).grown hg2 (fun g hx => by have := (owns_block OZ1.out g hx).1; rw [HB2.out]; exact this), Lib.hid ?_, Lib.hid ?_, Lib.hid ?_⟩
              · rw [HWT.out]
                simp only [if_true, List.length_append, List.length_singleton, List.map_append, List.map_cons, List.map_nil, HX.out, ints_append]
                exact owns_at (owns_ext ho ((Ext.refl _).alloc _)) fun g hx => hg2.block g (by have := (hbF g hx).2; simp; omega) (fun e => hb1 g hx e.symm)
              · rw [HWT.out]
                simp only [if_true, List.length_append, List.length_singleton]
                rw [show idx (W ++ [k]) = idx W ++ [(k : Int)] by simp [idx], ints_append]
                exact ho2
              · intro g hx hy
                rcases hat2 with hat2 | hat2
                · rw [hat2] at hy; exact hb1 g hx hy
                · rw [hat2] at hy; injection hy with hy; have := (hbF g hx).2; simp at hy; omega
            case measure => simp [intOf]; omega
        · obtain rfl : k = N := by omega
          have hwl := wants_len sn k
          obtain ⟨W, hW⟩ : ∃ W, wants sn k = W := ⟨_, rfl⟩
          have hOY := show wr.ownsRow B2 3 1 u22 W.length (ints (W.map fun i => L2.getD i 0)) by rw [← hW]; exact hY.out
          have hOZ := show wr.ownsRow B2 3 1 u23 W.length (ints (idx W)) by rw [← hW]; exact hZ.out
          have hin := HIN.out
          rw [hW] at hin hwl
          obtain ⟨R, e, hr⟩ : ∃ R e, matched b L1 (W.map fun i => L2.getD i 0) = (R, e) := ⟨_, _, rfl⟩
          have hlen := matched_len b L1 (W.map fun i => L2.getD i 0)
          rw [hr] at hin hlen
          obtain ⟨he, hin⟩ := hin
          simp only at he hin hlen
          subst he
          have hrow := matched_rows hr
          have K25 := Lib.hid (fun w' v2 h1 h2 => w25 b L1 (W.map fun i => L2.getD i 0) (.slice (some ⟨fg, 0, none⟩) k fc) v2 w' h1 h2 (by rw [HL.out.1]; omega) (by rw [List.length_map]; omega))
          rw [hr] at K25
          have hE3 := hE.trans hE2
          obtain ⟨⟨zb, b0⟩, b1, b2, b3⟩ := HBC.out wr hE3
          have HIF := Lib.hid (show IntsAt wr (.slice (some ⟨fg, 0, none⟩) k fc) L1 by unfold IntsAt; rw [HL.out.1]; exact SlAt.of_owns (owns_ext HF.out hE2))
          have HIY := Lib.hid (show IntsAt wr u22 (W.map fun i => L2.getD i 0) by unfold IntsAt; rw [List.length_map]; exact SlAt.of_owns hOY)
          have HIZ := Lib.hid (show IntsAt wr u23 (idx W) by unfold IntsAt; rw [idx_length]; exact SlAt.of_owns hOZ)
          obtain ⟨-, za, zc, hz9, -⟩ := HIZ.out
          subst hz9
          have HRW := Lib.hid hrow
          have HIN2 := Lib.hid hin
          clear hOY hOZ hY hZ hA hW hr hrow hin hkl hk
          go_wp2_with (first | (go_at_call 25; (with_reducible refine (K25.out _ _ HIF.out HIY.out).mono ?_); rintro E w4 ⟨v4, vs4, rfl, o4, ls4, h4⟩; obtain ⟨-, sa, sc, hv4, -⟩ := SlAt.of_owns o4; subst hv4; have O4 := Lib.hid (SlAt.of_owns o4); have LS := Lib.hid ls4; clear o4 ls4))
          have hE4 := Lib.hid (hE3.trans h4)
          have HZ4 := Lib.hid (IntsAt.ext HIZ.out h4)
          clear HIZ HIY HIF K25 HBC hE hE2 hE3 h4
          go_loopw [186] (fun i wq => ∃ j : Nat, j ≤ R.length ∧ i = .int .i64 (j : Int) ∧ Ext w4 wq ∧ Hid (∀ t, t < j → R.getD t [] ≠ W)) (fun i _ => R.length - (intOf i).toNat)
          case atStart => exact ⟨0, by omega, rfl, Ext.refl _, Lib.hid (fun t ht => by omega)⟩
          case round =>
            obtain ⟨j, hj, rfl, hE5, hP⟩ := hrel
            by_cases hjl : j < R.length
            · have y1 := LS.out.2 j hjl
              have z1 : vs4[j]? = some (vs4.getD j undef) := by rw [List.getD_eq_getElem?_getD, List.getElem?_eq_getElem (by rw [LS.out.1]; exact hjl)]; rfl
              obtain ⟨-, ra, rc, hra, -, -, -, hrc⟩ := O4.out
              obtain ⟨rb, ro, hrb, d1⟩ := hrc j _ z1
              injection hra with hra1 hra2 hra3
              subst hra1
              subst hra3
              subst hrb
              clear hra2
              have hx1 : IntsAt wr (vs4.getD j undef) (idx (R.getD j [])) := IntsAt.ext y1.at_ hE5
              have hx2 := IntsAt.ext HZ4.out hE5
              have hxl := HRW.out.1 j hjl
              have hne9 : ∀ t, t < j → R.getD t [] ≠ W := hP.out
              obtain ⟨X, hX⟩ : ∃ X, R.getD j [] = X := ⟨_, rfl⟩
              obtain ⟨u, hu⟩ : ∃ u, vs4.getD j undef = u := ⟨_, rfl⟩
              rw [hX] at hx1 hxl
              rw [hu] at hx1 d1
              have d1 := hE5.get d1
              have yr := World.block_lt_of_cell? _ _ d1
              simp only at yr
              obtain ⟨q, hq⟩ : ∃ q : Bool, decide (X = W) = q := ⟨_, rfl⟩
              have HQ := Lib.hid (And.intro hX hq)
              obtain ⟨-, ua, uc, hua, -⟩ := id hx1
              subst hua
              have lt := lit_two wr (.slice ua (idx X).length uc) (.slice za (idx W).length zc)
              have k27 := w27b X W wr.heap.size 0 1 (wr.heap.size + 1) 0 1 _ _ _ lt.1 lt.2 (IntsAt.ext hx1 (((Ext.refl _).alloc _).alloc _)) (IntsAt.ext hx2 (((Ext.refl _).alloc _).alloc _)) (by rw [hxl.1, List.length_map]; omega) (by omega)
              rw [hq] at k27
              have K27 := Lib.hid k27
              have ji : (j : Int) < (R.length : Int) := by omega
              clear k27 hq hX hu lt hx1 hx2 hxl y1 z1
              cases q
              · go_wp2_with (first | (go_at_call 27; (with_reducible refine K27.out.mono ?_); rintro E w5 ⟨rfl, h5⟩))
                go_roundw
                case rel =>
                  refine ⟨j + 1, by omega, by go_num, ((hE5.alloc _).alloc _).trans h5, Lib.hid fun t ht => ?_⟩
                  rcases Nat.lt_or_ge t j with h | h
                  · exact hne9 t h
                  · obtain rfl : t = j := by omega
                    rw [HQ.out.1]
                    exact of_decide_eq_false HQ.out.2
                case measure => simp [intOf]; omega
              · go_wp2_with (first | (go_at_call 27; (with_reducible refine K27.out.mono ?_); rintro E w5 ⟨rfl, h5⟩))
                go_ret
                exact ⟨rfl, ((Ext.refl _).alloc _).trans (hE4.out.trans (((hE5.alloc _).alloc _).trans h5))⟩
            · exfalso
              obtain ⟨t, ht, e⟩ := List.getElem_of_mem HIN2.out
              refine hP.out t (by omega) ?_
              rw [List.getD_eq_getElem?_getD, List.getElem?_eq_getElem ht]
              exact e
end Go.Proofs.Ytcbimfaneinpkaa
