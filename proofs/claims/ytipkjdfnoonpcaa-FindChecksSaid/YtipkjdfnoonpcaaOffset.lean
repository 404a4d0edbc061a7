/- Offsets: the program's walk. -/
import Derived.Test.YtipkjdfnoonpcaaTpl
set_option linter.unusedVariables false
set_option linter.unusedSimpArgs false
namespace Go.Proofs.Ytipkjdfnoonpcaa
open Go.RowKit Go.Sort

set_option maxRecDepth 100000 in
set_option maxHeartbeats 16000000 in
theorem c58 (t : Tpl) (v : Value) (turn scale i j : Int) (w : World) (ht : (1 ≤ t.w ∧ t.w ≤ 8) ∧ 1 ≤ t.h ∧ t.h ≤ 8) (hv : IntsAt w v t.pix) (hp : Posed turn scale) (hi : 0 ≤ i ∧ i ≤ t.w - 1) (hj : 0 ≤ j ∧ j ≤ t.h - 1) :
    Calls Try.prog 58 #[tplVal t v, .int .i64 turn, .int .i64 scale, .int .i64 i, .int .i64 j] w fun e w' => e = .returned (.tuple #[.int .i64 (offX t turn scale i j), .int .i64 (offY t turn scale i j)]) ∧ Ext w w' := by
  obtain ⟨ao, cap, rfl, -, -⟩ := hv.form
  obtain ⟨⟨t1, t2⟩, t3, t4⟩ := ht
  obtain ⟨⟨p1, p2⟩, hsc⟩ := hp
  obtain ⟨i1, i2⟩ := hi
  obtain ⟨j1, j2⟩ := hj
  unfold tplVal
  clear hv
  have h3 : turn % 3 = 0 ∨ turn % 3 = 1 ∨ turn % 3 = 2 := by omega
  rcases h3 with hr0 | hr0 | hr0
  · have hr : turn % 3 = 0 := hr0
    have hbase : dirBase (turn % 3) = (5, 0) := by rw [hr]; rfl
    have HB := Lib.hid hbase
    clear hbase
    have ix : ∀ w, (Instr.index 137 (.agg #[.int .i64 5, .int .i64 0, .int .i64 4, .int .i64 3, .int .i64 3, .int .i64 4]) (.int .i64 0)).run Try.prog w = .ok (.agg #[.int .i64 5, .int .i64 0]) w := fun _ => by kernel_rfl
    clear hr0
    go_enter Try.func58, Try.ntmps58
    go_wp2
    clear ix hr
    go_loopw [24] (fun iv wr => ∃ (n : Nat) (a b : Int), (n : Int) ≤ turn / 3 ∧ iv = .int .i64 (n : Int) ∧ (-5 ≤ a ∧ a ≤ 5) ∧ (-5 ≤ b ∧ b ≤ 5) ∧ Hid (Ext w wr) ∧ Hid (At wr [(w.heap.size + 1, Obj.cells #[.int .i64 (a), .int .i64 (b)] 136), (w.heap.size, Obj.cells #[.int .i64 t.w, .int .i64 t.h, .slice ao t.pix.length cap] 43)]) ∧ Hid (rot n (5, 0) = (a, b))) (fun iv _ => (turn / 3 - intOf iv).toNat)
    case atStart => exact ⟨0, 5, 0, by omega, rfl, by omega, by omega, Lib.hid (by repeat (first | exact Ext.refl _ | assumption | refine Ext.alloc ?_ _ | refine Ext.drewN ?_ _ | refine ext_grow ?_ _ _ | refine Ext.trans ?_ (by assumption))), Lib.hid ⟨(by repeat (first | (refine blk_at _ _ ?_; (first | rfl | (simp only [size_one]; done))) | refine (blk_past _ _ (by simp only [size_one]; omega)).trans ?_)), (by repeat (first | (refine blk_at _ _ ?_; (first | rfl | (simp only [size_one]; done))) | refine (blk_past _ _ (by simp only [size_one]; omega)).trans ?_)), trivial⟩, Lib.hid rfl⟩
    case round =>
      obtain ⟨n, a, b, hn, rfl, ⟨a1, a2⟩, ⟨b1, b2⟩, hE, hA, hR⟩ := hrel
      obtain ⟨⟨x00, x01⟩, xf00, xf01⟩ := run_2 (At.at hA.out 0 rfl)
      obtain ⟨⟨x10, x11, x12⟩, xf10, xf11, xf12⟩ := run_3 (At.at hA.out 1 rfl)
      have xz0 := At.lt hA.out 0 rfl
      have xy0 := Nat.lt_succ_of_lt xz0
      have xx0 := Nat.lt_succ_of_lt xy0
      have xz1 := At.lt hA.out 1 rfl
      have xy1 := Nat.lt_succ_of_lt xz1
      have xx1 := Nat.lt_succ_of_lt xy1
      by_cases hlt : (n : Int) < turn / 3
      · go_wp2
        go_roundw
        case rel => exact ⟨n + 1, -b, a, by omega, by go_num, by omega, by omega, Lib.hid ((hE.out.setCell (p := ⟨w.heap.size + 1, 0, none⟩) (show w.heap.size ≤ w.heap.size + 1 by omega) _).setCell (p := ⟨w.heap.size + 1, 1, none⟩) (show w.heap.size ≤ w.heap.size + 1 by omega) _), Lib.hid (show At _ [(w.heap.size + 1, Obj.cells #[.int .i64 (-b), .int .i64 (a)] 136), (w.heap.size, Obj.cells #[.int .i64 t.w, .int .i64 t.h, .slice ao t.pix.length cap] 43)] from ⟨(store_2 (At.at hA.out 0 rfl)).1, At.other (store_2 (At.at hA.out 0 rfl)).2.1 (by simp) (At.erase hA.out 0)⟩), Lib.hid (by rw [rot, hR.out])⟩
        case measure => simp [intOf]; omega
      · have hq : (turn / 3).toNat = n := by omega
        have hdir : dirOf turn = (a, b) := by unfold dirOf; rw [hq, HB.out]; exact hR.out
        have HD := Lib.hid hdir
        clear hdir hq
        obtain ⟨u, hu⟩ : ∃ u, 2 * i - t.w + 1 = u := ⟨_, rfl⟩
        obtain ⟨z, hz⟩ : ∃ z, 2 * j - t.h + 1 = z := ⟨_, rfl⟩
        have hu1 : -8 ≤ u ∧ u ≤ 8 := by omega
        have hz1 : -8 ≤ z ∧ z ≤ 8 := by omega
        obtain ⟨⟨m1, m2⟩, ⟨m3, m4⟩, ⟨m5, m6⟩, -, -⟩ := off_bd (a := a) (b := b) (u := u) (v := z) ⟨a1, a2⟩ ⟨b1, b2⟩ hu1 hz1 hsc
        obtain ⟨⟨m7, m8⟩, ⟨m9, m10⟩, -, ⟨m11, m12⟩⟩ := off_bd (a := b) (b := a) (u := u) (v := z) ⟨b1, b2⟩ ⟨a1, a2⟩ hu1 hz1 hsc
        have hX : offX t turn scale i j = (scale * (a * u - b * z) + 10) / 20 := by unfold offX; rw [HD.out, hu, hz]
        have hY : offY t turn scale i j = (scale * (b * u + a * z) + 10) / 20 := by unfold offY; rw [HD.out, hu, hz]
        obtain ⟨P1, hp1⟩ : ∃ x, a * u = x := ⟨_, rfl⟩
        obtain ⟨P2, hp2⟩ : ∃ x, b * z = x := ⟨_, rfl⟩
        obtain ⟨P3, hp3⟩ : ∃ x, scale * (P1 - P2) = x := ⟨_, rfl⟩
        obtain ⟨P4, hp4⟩ : ∃ x, b * u = x := ⟨_, rfl⟩
        obtain ⟨P5, hp5⟩ : ∃ x, a * z = x := ⟨_, rfl⟩
        obtain ⟨P6, hp6⟩ : ∃ x, scale * (P4 + P5) = x := ⟨_, rfl⟩
        rw [hp1, hp2, hp3] at hX m5 m6
        rw [hp4, hp5, hp6] at hY m11 m12
        rw [hp1] at m1 m2
        rw [hp2] at m3 m4
        rw [hp4] at m7 m8
        rw [hp5] at m9 m10
        have K1 := Lib.hid (fun w => c95 (P3 + 10) w (by omega) (by omega))
        have K2 := Lib.hid (fun w => c95 (P6 + 10) w (by omega) (by omega))
        rw [← hX] at K1
        rw [← hY] at K2
        have wa : IntKind.i64.wrap (2 * i) = 2 * i := IntWalk.i64_in _ (by omega)
        have wb : IntKind.i64.wrap (2 * i - t.w) = 2 * i - t.w := IntWalk.i64_in _ (by omega)
        have wc : IntKind.i64.wrap (2 * i - t.w + 1) = u := by rw [hu]; exact IntWalk.i64_in _ (by omega)
        have wd : IntKind.i64.wrap (2 * j) = 2 * j := IntWalk.i64_in _ (by omega)
        have we : IntKind.i64.wrap (2 * j - t.h) = 2 * j - t.h := IntWalk.i64_in _ (by omega)
        have wf : IntKind.i64.wrap (2 * j - t.h + 1) = z := by rw [hz]; exact IntWalk.i64_in _ (by omega)
        have wg : IntKind.i64.wrap (a * u) = P1 := by rw [hp1]; exact IntWalk.i64_in _ (by omega)
        have wh : IntKind.i64.wrap (b * z) = P2 := by rw [hp2]; exact IntWalk.i64_in _ (by omega)
        have wi : IntKind.i64.wrap (P1 - P2) = P1 - P2 := IntWalk.i64_in _ (by omega)
        have wj : IntKind.i64.wrap (scale * (P1 - P2)) = P3 := by rw [hp3]; exact IntWalk.i64_in _ (by omega)
        have wk : IntKind.i64.wrap (P3 + 10) = P3 + 10 := IntWalk.i64_in _ (by omega)
        have wl : IntKind.i64.wrap (b * u) = P4 := by rw [hp4]; exact IntWalk.i64_in _ (by omega)
        have wm : IntKind.i64.wrap (a * z) = P5 := by rw [hp5]; exact IntWalk.i64_in _ (by omega)
        have wn : IntKind.i64.wrap (P4 + P5) = P4 + P5 := IntWalk.i64_in _ (by omega)
        have wo : IntKind.i64.wrap (scale * (P4 + P5)) = P6 := by rw [hp6]; exact IntWalk.i64_in _ (by omega)
        have wp : IntKind.i64.wrap (P6 + 10) = P6 + 10 := IntWalk.i64_in _ (by omega)
        obtain ⟨OX, hox⟩ : ∃ x, offX t turn scale i j = x := ⟨_, rfl⟩
        obtain ⟨OY, hoy⟩ : ∃ x, offY t turn scale i j = x := ⟨_, rfl⟩
        rw [hox] at K1
        rw [hoy] at K2
        have HO := Lib.hid (And.intro hox hoy)
        clear hX hY hu hz hu1 hz1 hp1 hp2 hp3 hp4 hp5 hp6 hox hoy
        go_wp2
        go_quiet (fail)
        have hb6 : Ext wr (wr.drewN nq) := (Ext.refl _).drewN nq
        generalize hw6 : wr.drewN nq = w6 at hb6 ⊢
        clear hw6
        have A6 := Lib.hid (show At w6 [(w.heap.size + 1, Obj.cells #[.int .i64 (a), .int .i64 (b)] 136), (w.heap.size, Obj.cells #[.int .i64 t.w, .int .i64 t.h, .slice ao t.pix.length cap] 43)] from At.ext hb6 hA.out)
        obtain ⟨⟨y00, y01⟩, -⟩ := run_2 (At.at A6.out 0 rfl)
        obtain ⟨⟨y10, y11, y12⟩, -⟩ := run_3 (At.at A6.out 1 rfl)
        have yz0 := At.lt A6.out 0 rfl
        have yy0 := Nat.lt_succ_of_lt yz0
        have yx0 := Nat.lt_succ_of_lt yy0
        have yz1 := At.lt A6.out 1 rfl
        have yy1 := Nat.lt_succ_of_lt yz1
        have yx1 := Nat.lt_succ_of_lt yy1
        go_wp2
        refine wp_region_quiet_below (by kernel_rfl) (by kernel_rfl) ?_
        repeat (go_big_quiet_step ((first | (go_at_call 95; with_reducible exact Calls.ext_of (K1.out _)) | (go_at_call 95; with_reducible exact Calls.ext_of (K2.out _)))))
        refine wpQuiet_nil ?_
        intro w7 hw'
        obtain ⟨pq, hw''⟩ := hw'
        have hb7 := ext_of_regrown hw''
        clear hw'' pq
        go_wp2
        go_ret2
        exact ⟨by rw [HO.out.1, HO.out.2]; rfl, hE.out.trans (hb6.trans hb7)⟩
  · have hr : turn % 3 = 1 := hr0
    have hbase : dirBase (turn % 3) = (4, 3) := by rw [hr]; rfl
    have HB := Lib.hid hbase
    clear hbase
    have ix : ∀ w, (Instr.index 137 (.agg #[.int .i64 5, .int .i64 0, .int .i64 4, .int .i64 3, .int .i64 3, .int .i64 4]) (.int .i64 1)).run Try.prog w = .ok (.agg #[.int .i64 4, .int .i64 3]) w := fun _ => by kernel_rfl
    clear hr0
    go_enter Try.func58, Try.ntmps58
    go_wp2
    clear ix hr
    go_loopw [24] (fun iv wr => ∃ (n : Nat) (a b : Int), (n : Int) ≤ turn / 3 ∧ iv = .int .i64 (n : Int) ∧ (-5 ≤ a ∧ a ≤ 5) ∧ (-5 ≤ b ∧ b ≤ 5) ∧ Hid (Ext w wr) ∧ Hid (At wr [(w.heap.size + 1, Obj.cells #[.int .i64 (a), .int .i64 (b)] 136), (w.heap.size, Obj.cells #[.int .i64 t.w, .int .i64 t.h, .slice ao t.pix.length cap] 43)]) ∧ Hid (rot n (4, 3) = (a, b))) (fun iv _ => (turn / 3 - intOf iv).toNat)
    case atStart => exact ⟨0, 4, 3, by omega, rfl, by omega, by omega, Lib.hid (by repeat (first | exact Ext.refl _ | assumption | refine Ext.alloc ?_ _ | refine Ext.drewN ?_ _ | refine ext_grow ?_ _ _ | refine Ext.trans ?_ (by assumption))), Lib.hid ⟨(by repeat (first | (refine blk_at _ _ ?_; (first | rfl | (simp only [size_one]; done))) | refine (blk_past _ _ (by simp only [size_one]; omega)).trans ?_)), (by repeat (first | (refine blk_at _ _ ?_; (first | rfl | (simp only [size_one]; done))) | refine (blk_past _ _ (by simp only [size_one]; omega)).trans ?_)), trivial⟩, Lib.hid rfl⟩
    case round =>
      obtain ⟨n, a, b, hn, rfl, ⟨a1, a2⟩, ⟨b1, b2⟩, hE, hA, hR⟩ := hrel
      obtain ⟨⟨x00, x01⟩, xf00, xf01⟩ := run_2 (At.at hA.out 0 rfl)
      obtain ⟨⟨x10, x11, x12⟩, xf10, xf11, xf12⟩ := run_3 (At.at hA.out 1 rfl)
      have xz0 := At.lt hA.out 0 rfl
      have xy0 := Nat.lt_succ_of_lt xz0
      have xx0 := Nat.lt_succ_of_lt xy0
      have xz1 := At.lt hA.out 1 rfl
      have xy1 := Nat.lt_succ_of_lt xz1
      have xx1 := Nat.lt_succ_of_lt xy1
      by_cases hlt : (n : Int) < turn / 3
      · go_wp2
        go_roundw
        case rel => exact ⟨n + 1, -b, a, by omega, by go_num, by omega, by omega, Lib.hid ((hE.out.setCell (p := ⟨w.heap.size + 1, 0, none⟩) (show w.heap.size ≤ w.heap.size + 1 by omega) _).setCell (p := ⟨w.heap.size + 1, 1, none⟩) (show w.heap.size ≤ w.heap.size + 1 by omega) _), Lib.hid (show At _ [(w.heap.size + 1, Obj.cells #[.int .i64 (-b), .int .i64 (a)] 136), (w.heap.size, Obj.cells #[.int .i64 t.w, .int .i64 t.h, .slice ao t.pix.length cap] 43)] from ⟨(store_2 (At.at hA.out 0 rfl)).1, At.other (store_2 (At.at hA.out 0 rfl)).2.1 (by simp) (At.erase hA.out 0)⟩), Lib.hid (by rw [rot, hR.out])⟩
        case measure => simp [intOf]; omega
      · have hq : (turn / 3).toNat = n := by omega
        have hdir : dirOf turn = (a, b) := by unfold dirOf; rw [hq, HB.out]; exact hR.out
        have HD := Lib.hid hdir
        clear hdir hq
        obtain ⟨u, hu⟩ : ∃ u, 2 * i - t.w + 1 = u := ⟨_, rfl⟩
        obtain ⟨z, hz⟩ : ∃ z, 2 * j - t.h + 1 = z := ⟨_, rfl⟩
        have hu1 : -8 ≤ u ∧ u ≤ 8 := by omega
        have hz1 : -8 ≤ z ∧ z ≤ 8 := by omega
        obtain ⟨⟨m1, m2⟩, ⟨m3, m4⟩, ⟨m5, m6⟩, -, -⟩ := off_bd (a := a) (b := b) (u := u) (v := z) ⟨a1, a2⟩ ⟨b1, b2⟩ hu1 hz1 hsc
        obtain ⟨⟨m7, m8⟩, ⟨m9, m10⟩, -, ⟨m11, m12⟩⟩ := off_bd (a := b) (b := a) (u := u) (v := z) ⟨b1, b2⟩ ⟨a1, a2⟩ hu1 hz1 hsc
        have hX : offX t turn scale i j = (scale * (a * u - b * z) + 10) / 20 := by unfold offX; rw [HD.out, hu, hz]
        have hY : offY t turn scale i j = (scale * (b * u + a * z) + 10) / 20 := by unfold offY; rw [HD.out, hu, hz]
        obtain ⟨P1, hp1⟩ : ∃ x, a * u = x := ⟨_, rfl⟩
        obtain ⟨P2, hp2⟩ : ∃ x, b * z = x := ⟨_, rfl⟩
        obtain ⟨P3, hp3⟩ : ∃ x, scale * (P1 - P2) = x := ⟨_, rfl⟩
        obtain ⟨P4, hp4⟩ : ∃ x, b * u = x := ⟨_, rfl⟩
        obtain ⟨P5, hp5⟩ : ∃ x, a * z = x := ⟨_, rfl⟩
        obtain ⟨P6, hp6⟩ : ∃ x, scale * (P4 + P5) = x := ⟨_, rfl⟩
        rw [hp1, hp2, hp3] at hX m5 m6
        rw [hp4, hp5, hp6] at hY m11 m12
        rw [hp1] at m1 m2
        rw [hp2] at m3 m4
        rw [hp4] at m7 m8
        rw [hp5] at m9 m10
        have K1 := Lib.hid (fun w => c95 (P3 + 10) w (by omega) (by omega))
        have K2 := Lib.hid (fun w => c95 (P6 + 10) w (by omega) (by omega))
        rw [← hX] at K1
        rw [← hY] at K2
        have wa : IntKind.i64.wrap (2 * i) = 2 * i := IntWalk.i64_in _ (by omega)
        have wb : IntKind.i64.wrap (2 * i - t.w) = 2 * i - t.w := IntWalk.i64_in _ (by omega)
        have wc : IntKind.i64.wrap (2 * i - t.w + 1) = u := by rw [hu]; exact IntWalk.i64_in _ (by omega)
        have wd : IntKind.i64.wrap (2 * j) = 2 * j := IntWalk.i64_in _ (by omega)
        have we : IntKind.i64.wrap (2 * j - t.h) = 2 * j - t.h := IntWalk.i64_in _ (by omega)
        have wf : IntKind.i64.wrap (2 * j - t.h + 1) = z := by rw [hz]; exact IntWalk.i64_in _ (by omega)
        have wg : IntKind.i64.wrap (a * u) = P1 := by rw [hp1]; exact IntWalk.i64_in _ (by omega)
        have wh : IntKind.i64.wrap (b * z) = P2 := by rw [hp2]; exact IntWalk.i64_in _ (by omega)
        have wi : IntKind.i64.wrap (P1 - P2) = P1 - P2 := IntWalk.i64_in _ (by omega)
        have wj : IntKind.i64.wrap (scale * (P1 - P2)) = P3 := by rw [hp3]; exact IntWalk.i64_in _ (by omega)
        have wk : IntKind.i64.wrap (P3 + 10) = P3 + 10 := IntWalk.i64_in _ (by omega)
        have wl : IntKind.i64.wrap (b * u) = P4 := by rw [hp4]; exact IntWalk.i64_in _ (by omega)
        have wm : IntKind.i64.wrap (a * z) = P5 := by rw [hp5]; exact IntWalk.i64_in _ (by omega)
        have wn : IntKind.i64.wrap (P4 + P5) = P4 + P5 := IntWalk.i64_in _ (by omega)
        have wo : IntKind.i64.wrap (scale * (P4 + P5)) = P6 := by rw [hp6]; exact IntWalk.i64_in _ (by omega)
        have wp : IntKind.i64.wrap (P6 + 10) = P6 + 10 := IntWalk.i64_in _ (by omega)
        obtain ⟨OX, hox⟩ : ∃ x, offX t turn scale i j = x := ⟨_, rfl⟩
        obtain ⟨OY, hoy⟩ : ∃ x, offY t turn scale i j = x := ⟨_, rfl⟩
        rw [hox] at K1
        rw [hoy] at K2
        have HO := Lib.hid (And.intro hox hoy)
        clear hX hY hu hz hu1 hz1 hp1 hp2 hp3 hp4 hp5 hp6 hox hoy
        go_wp2
        go_quiet (fail)
        have hb6 : Ext wr (wr.drewN nq) := (Ext.refl _).drewN nq
        generalize hw6 : wr.drewN nq = w6 at hb6 ⊢
        clear hw6
        have A6 := Lib.hid (show At w6 [(w.heap.size + 1, Obj.cells #[.int .i64 (a), .int .i64 (b)] 136), (w.heap.size, Obj.cells #[.int .i64 t.w, .int .i64 t.h, .slice ao t.pix.length cap] 43)] from At.ext hb6 hA.out)
        obtain ⟨⟨y00, y01⟩, -⟩ := run_2 (At.at A6.out 0 rfl)
        obtain ⟨⟨y10, y11, y12⟩, -⟩ := run_3 (At.at A6.out 1 rfl)
        have yz0 := At.lt A6.out 0 rfl
        have yy0 := Nat.lt_succ_of_lt yz0
        have yx0 := Nat.lt_succ_of_lt yy0
        have yz1 := At.lt A6.out 1 rfl
        have yy1 := Nat.lt_succ_of_lt yz1
        have yx1 := Nat.lt_succ_of_lt yy1
        go_wp2
        refine wp_region_quiet_below (by kernel_rfl) (by kernel_rfl) ?_
        repeat (go_big_quiet_step ((first | (go_at_call 95; with_reducible exact Calls.ext_of (K1.out _)) | (go_at_call 95; with_reducible exact Calls.ext_of (K2.out _)))))
        refine wpQuiet_nil ?_
        intro w7 hw'
        obtain ⟨pq, hw''⟩ := hw'
        have hb7 := ext_of_regrown hw''
        clear hw'' pq
        go_wp2
        go_ret2
        exact ⟨by rw [HO.out.1, HO.out.2]; rfl, hE.out.trans (hb6.trans hb7)⟩
  · have hr : turn % 3 = 2 := hr0
    have hbase : dirBase (turn % 3) = (3, 4) := by rw [hr]; rfl
    have HB := Lib.hid hbase
    clear hbase
    have ix : ∀ w, (Instr.index 137 (.agg #[.int .i64 5, .int .i64 0, .int .i64 4, .int .i64 3, .int .i64 3, .int .i64 4]) (.int .i64 2)).run Try.prog w = .ok (.agg #[.int .i64 3, .int .i64 4]) w := fun _ => by kernel_rfl
    clear hr0
    go_enter Try.func58, Try.ntmps58
    go_wp2
    clear ix hr
    go_loopw [24] (fun iv wr => ∃ (n : Nat) (a b : Int), (n : Int) ≤ turn / 3 ∧ iv = .int .i64 (n : Int) ∧ (-5 ≤ a ∧ a ≤ 5) ∧ (-5 ≤ b ∧ b ≤ 5) ∧ Hid (Ext w wr) ∧ Hid (At wr [(w.heap.size + 1, Obj.cells #[.int .i64 (a), .int .i64 (b)] 136), (w.heap.size, Obj.cells #[.int .i64 t.w, .int .i64 t.h, .slice ao t.pix.length cap] 43)]) ∧ Hid (rot n (3, 4) = (a, b))) (fun iv _ => (turn / 3 - intOf iv).toNat)
    case atStart => exact ⟨0, 3, 4, by omega, rfl, by omega, by omega, Lib.hid (by repeat (first | exact Ext.refl _ | assumption | refine Ext.alloc ?_ _ | refine Ext.drewN ?_ _ | refine ext_grow ?_ _ _ | refine Ext.trans ?_ (by assumption))), Lib.hid ⟨(by repeat (first | (refine blk_at _ _ ?_; (first | rfl | (simp only [size_one]; done))) | refine (blk_past _ _ (by simp only [size_one]; omega)).trans ?_)), (by repeat (first | (refine blk_at _ _ ?_; (first | rfl | (simp only [size_one]; done))) | refine (blk_past _ _ (by simp only [size_one]; omega)).trans ?_)), trivial⟩, Lib.hid rfl⟩
    case round =>
      obtain ⟨n, a, b, hn, rfl, ⟨a1, a2⟩, ⟨b1, b2⟩, hE, hA, hR⟩ := hrel
      obtain ⟨⟨x00, x01⟩, xf00, xf01⟩ := run_2 (At.at hA.out 0 rfl)
      obtain ⟨⟨x10, x11, x12⟩, xf10, xf11, xf12⟩ := run_3 (At.at hA.out 1 rfl)
      have xz0 := At.lt hA.out 0 rfl
      have xy0 := Nat.lt_succ_of_lt xz0
      have xx0 := Nat.lt_succ_of_lt xy0
      have xz1 := At.lt hA.out 1 rfl
      have xy1 := Nat.lt_succ_of_lt xz1
      have xx1 := Nat.lt_succ_of_lt xy1
      by_cases hlt : (n : Int) < turn / 3
      · go_wp2
        go_roundw
        case rel => exact ⟨n + 1, -b, a, by omega, by go_num, by omega, by omega, Lib.hid ((hE.out.setCell (p := ⟨w.heap.size + 1, 0, none⟩) (show w.heap.size ≤ w.heap.size + 1 by omega) _).setCell (p := ⟨w.heap.size + 1, 1, none⟩) (show w.heap.size ≤ w.heap.size + 1 by omega) _), Lib.hid (show At _ [(w.heap.size + 1, Obj.cells #[.int .i64 (-b), .int .i64 (a)] 136), (w.heap.size, Obj.cells #[.int .i64 t.w, .int .i64 t.h, .slice ao t.pix.length cap] 43)] from ⟨(store_2 (At.at hA.out 0 rfl)).1, At.other (store_2 (At.at hA.out 0 rfl)).2.1 (by simp) (At.erase hA.out 0)⟩), Lib.hid (by rw [rot, hR.out])⟩
        case measure => simp [intOf]; omega
      · have hq : (turn / 3).toNat = n := by omega
        have hdir : dirOf turn = (a, b) := by unfold dirOf; rw [hq, HB.out]; exact hR.out
        have HD := Lib.hid hdir
        clear hdir hq
        obtain ⟨u, hu⟩ : ∃ u, 2 * i - t.w + 1 = u := ⟨_, rfl⟩
        obtain ⟨z, hz⟩ : ∃ z, 2 * j - t.h + 1 = z := ⟨_, rfl⟩
        have hu1 : -8 ≤ u ∧ u ≤ 8 := by omega
        have hz1 : -8 ≤ z ∧ z ≤ 8 := by omega
        obtain ⟨⟨m1, m2⟩, ⟨m3, m4⟩, ⟨m5, m6⟩, -, -⟩ := off_bd (a := a) (b := b) (u := u) (v := z) ⟨a1, a2⟩ ⟨b1, b2⟩ hu1 hz1 hsc
        obtain ⟨⟨m7, m8⟩, ⟨m9, m10⟩, -, ⟨m11, m12⟩⟩ := off_bd (a := b) (b := a) (u := u) (v := z) ⟨b1, b2⟩ ⟨a1, a2⟩ hu1 hz1 hsc
        have hX : offX t turn scale i j = (scale * (a * u - b * z) + 10) / 20 := by unfold offX; rw [HD.out, hu, hz]
        have hY : offY t turn scale i j = (scale * (b * u + a * z) + 10) / 20 := by unfold offY; rw [HD.out, hu, hz]
        obtain ⟨P1, hp1⟩ : ∃ x, a * u = x := ⟨_, rfl⟩
        obtain ⟨P2, hp2⟩ : ∃ x, b * z = x := ⟨_, rfl⟩
        obtain ⟨P3, hp3⟩ : ∃ x, scale * (P1 - P2) = x := ⟨_, rfl⟩
        obtain ⟨P4, hp4⟩ : ∃ x, b * u = x := ⟨_, rfl⟩
        obtain ⟨P5, hp5⟩ : ∃ x, a * z = x := ⟨_, rfl⟩
        obtain ⟨P6, hp6⟩ : ∃ x, scale * (P4 + P5) = x := ⟨_, rfl⟩
        rw [hp1, hp2, hp3] at hX m5 m6
        rw [hp4, hp5, hp6] at hY m11 m12
        rw [hp1] at m1 m2
        rw [hp2] at m3 m4
        rw [hp4] at m7 m8
        rw [hp5] at m9 m10
        have K1 := Lib.hid (fun w => c95 (P3 + 10) w (by omega) (by omega))
        have K2 := Lib.hid (fun w => c95 (P6 + 10) w (by omega) (by omega))
        rw [← hX] at K1
        rw [← hY] at K2
        have wa : IntKind.i64.wrap (2 * i) = 2 * i := IntWalk.i64_in _ (by omega)
        have wb : IntKind.i64.wrap (2 * i - t.w) = 2 * i - t.w := IntWalk.i64_in _ (by omega)
        have wc : IntKind.i64.wrap (2 * i - t.w + 1) = u := by rw [hu]; exact IntWalk.i64_in _ (by omega)
        have wd : IntKind.i64.wrap (2 * j) = 2 * j := IntWalk.i64_in _ (by omega)
        have we : IntKind.i64.wrap (2 * j - t.h) = 2 * j - t.h := IntWalk.i64_in _ (by omega)
        have wf : IntKind.i64.wrap (2 * j - t.h + 1) = z := by rw [hz]; exact IntWalk.i64_in _ (by omega)
        have wg : IntKind.i64.wrap (a * u) = P1 := by rw [hp1]; exact IntWalk.i64_in _ (by omega)
        have wh : IntKind.i64.wrap (b * z) = P2 := by rw [hp2]; exact IntWalk.i64_in _ (by omega)
        have wi : IntKind.i64.wrap (P1 - P2) = P1 - P2 := IntWalk.i64_in _ (by omega)
        have wj : IntKind.i64.wrap (scale * (P1 - P2)) = P3 := by rw [hp3]; exact IntWalk.i64_in _ (by omega)
        have wk : IntKind.i64.wrap (P3 + 10) = P3 + 10 := IntWalk.i64_in _ (by omega)
        have wl : IntKind.i64.wrap (b * u) = P4 := by rw [hp4]; exact IntWalk.i64_in _ (by omega)
        have wm : IntKind.i64.wrap (a * z) = P5 := by rw [hp5]; exact IntWalk.i64_in _ (by omega)
        have wn : IntKind.i64.wrap (P4 + P5) = P4 + P5 := IntWalk.i64_in _ (by omega)
        have wo : IntKind.i64.wrap (scale * (P4 + P5)) = P6 := by rw [hp6]; exact IntWalk.i64_in _ (by omega)
        have wp : IntKind.i64.wrap (P6 + 10) = P6 + 10 := IntWalk.i64_in _ (by omega)
        obtain ⟨OX, hox⟩ : ∃ x, offX t turn scale i j = x := ⟨_, rfl⟩
        obtain ⟨OY, hoy⟩ : ∃ x, offY t turn scale i j = x := ⟨_, rfl⟩
        rw [hox] at K1
        rw [hoy] at K2
        have HO := Lib.hid (And.intro hox hoy)
        clear hX hY hu hz hu1 hz1 hp1 hp2 hp3 hp4 hp5 hp6 hox hoy
        go_wp2
        go_quiet (fail)
        have hb6 : Ext wr (wr.drewN nq) := (Ext.refl _).drewN nq
        generalize hw6 : wr.drewN nq = w6 at hb6 ⊢
        clear hw6
        have A6 := Lib.hid (show At w6 [(w.heap.size + 1, Obj.cells #[.int .i64 (a), .int .i64 (b)] 136), (w.heap.size, Obj.cells #[.int .i64 t.w, .int .i64 t.h, .slice ao t.pix.length cap] 43)] from At.ext hb6 hA.out)
        obtain ⟨⟨y00, y01⟩, -⟩ := run_2 (At.at A6.out 0 rfl)
        obtain ⟨⟨y10, y11, y12⟩, -⟩ := run_3 (At.at A6.out 1 rfl)
        have yz0 := At.lt A6.out 0 rfl
        have yy0 := Nat.lt_succ_of_lt yz0
        have yx0 := Nat.lt_succ_of_lt yy0
        have yz1 := At.lt A6.out 1 rfl
        have yy1 := Nat.lt_succ_of_lt yz1
        have yx1 := Nat.lt_succ_of_lt yy1
        go_wp2
        refine wp_region_quiet_below (by kernel_rfl) (by kernel_rfl) ?_
        repeat (go_big_quiet_step ((first | (go_at_call 95; with_reducible exact Calls.ext_of (K1.out _)) | (go_at_call 95; with_reducible exact Calls.ext_of (K2.out _)))))
        refine wpQuiet_nil ?_
        intro w7 hw'
        obtain ⟨pq, hw''⟩ := hw'
        have hb7 := ext_of_regrown hw''
        clear hw'' pq
        go_wp2
        go_ret2
        exact ⟨by rw [HO.out.1, HO.out.2]; rfl, hE.out.trans (hb6.trans hb7)⟩
end Go.Proofs.Ytipkjdfnoonpcaa
