/- exactly: the walk. -/
import Derived.Test.YtipkjdfnoonpcaaExactPlain
import Derived.Deep.RegionHeld3
import Derived.Deep.DrawnRows
import Derived.Maps.OwnSet
set_option linter.unusedVariables false
set_option linter.unusedSimpArgs false
namespace Go.Proofs.Ytipkjdfnoonpcaa
open Go.RowKit Go.Sort
attribute [local go_sem ↓] Go.wp_at_zero Go.wp_at_succ

theorem info80x : (Try.prog.info? 80).map (fun i => (i.zero, i.size, i.bytes)) = some (some (.agg #[.int .i64 0, .int .i64 0, .int .i64 0, .int .i64 0, .int .i64 0]), 5, 40) := by kernel_rfl
set_option maxRecDepth 100000 in
set_option maxHeartbeats 32000000 in
theorem c41 (m : Img) (v : Value) (t : Tpl) (tv : Value) (limit : Int) (ms : List Match) (ar : List Area) (mv av : Value) (ord : Bool) (w : World) (hce : checkE m t = 0) (hlim : 0 ≤ limit ∧ limit ≤ 16320) (hp : Proved m t limit ms ar) (ho : ord = true → ms = msOf m t limit (upto 48))
    (hv : IntsAt w v m.pix) (hml : m.pix.length ≤ maxLen) (htv : IntsAt w tv t.pix) (htl : t.pix.length ≤ maxLen) (h1 : MatchesAt w mv ms) (h2 : AreasAt w av ar) (n1 : ms.length ≤ 13000) :
    Calls Try.prog 41 #[imgVal m v, tplVal t tv, .int .i64 limit, searchVal mv av, .bool ord] w fun e w' => e = .returned (.bool true) ∧ Ext w w' := by
  have HCE := Lib.hid hce
  obtain ⟨hm, ht⟩ := check_ok hce
  have HV := Lib.hid hv
  have HTV := Lib.hid htv
  have HML := Lib.hid hml
  have HTL := Lib.hid htl
  have HM := Lib.hid hm
  have HT := Lib.hid ht
  have HP := Lib.hid hp
  have HMS := Lib.hid h1
  obtain ⟨mo, mc, rfl, -, -⟩ := hv.form
  obtain ⟨to, tc, rfl, -, -⟩ := htv.form
  obtain ⟨m1, mc1, rfl, -, -⟩ := h1.form
  obtain ⟨a1, ac1, rfl, -, -⟩ := h2.form
  obtain ⟨l1, l2⟩ := Img.len_bd hm.1
  obtain ⟨⟨w1', w2'⟩, ⟨w3', w4'⟩, -⟩ := hm.1
  obtain ⟨i8, hi8, hz8, hs8, hy8⟩ := info_parts info80x
  unfold imgVal tplVal searchVal
  clear hv htv hm ht h1 h2 hce hml htl hp
  have hmm := @run_makeMap Try.prog
  go_enter Try.func41, Try.ntmps41
  go_wp2
  go_loopw [11, 12] (fun ov iv wr => ∃ (T : Nat) (cs : List Match), T ≤ 12 ∧ iv = .int .i64 (T : Int) ∧ Hid (Ext w wr) ∧ Hid (At wr [(w.heap.size + 1 + 1, Obj.cells #[.slice m1 ms.length mc1, .slice a1 ar.length ac1] 63), (w.heap.size + 1, Obj.cells #[.int .i64 t.w, .int .i64 t.h, .slice to t.pix.length tc] 43), (w.heap.size, Obj.cells #[.int .i64 m.w, .int .i64 m.h, .slice mo m.pix.length mc] 24)]) ∧ Hid (wr.ownsRow (w.heap.size + 1 + 1 + 1) 80 5 ov cs.length (cs.flatMap matchCells)) ∧ Hid (cs = msOf m t limit (upto (4 * T)))) (fun _ iv _ => (12 - intOf iv).toNat)
  case atStart => exact ⟨0, [], by omega, rfl, Lib.hid (by repeat (first | exact Ext.refl _ | assumption | refine Ext.alloc ?_ _ | refine Ext.drewN ?_ _ | refine ext_grow ?_ _ _ | refine Ext.trans ?_ (by assumption))), Lib.hid ⟨(by repeat (first | (refine blk_at _ _ ?_; (first | rfl | (simp only [size_one]; done))) | refine (blk_past _ _ (by simp only [size_one]; omega)).trans ?_)), (by repeat (first | (refine blk_at _ _ ?_; (first | rfl | (simp only [size_one]; done))) | refine (blk_past _ _ (by simp only [size_one]; omega)).trans ?_)), (by repeat (first | (refine blk_at _ _ ?_; (first | rfl | (simp only [size_one]; done))) | refine (blk_past _ _ (by simp only [size_one]; omega)).trans ?_)), trivial⟩, Lib.hid ⟨rfl, .inl ⟨rfl, rfl⟩⟩, Lib.hid rfl⟩
  case round =>
    obtain ⟨T, cs, hT, rfl, hE, hA, hO, hC⟩ := hrel
    have hlc : cs.length ≤ 12288 := by rw [hC.out]; exact msOf_len HM.out.1 t limit (by rw [upto_length]; omega)
    by_cases hT12 : T < 12
    · have d12 : decide ((T : Int) < 12) = true := decide_eq_true (by omega)
      go_wp2
      obtain ⟨wo, hwo⟩ : ∃ wo : World, wo = wr := ⟨_, rfl⟩
      subst hwo
      go_loopw [11, 13] (fun ov iv wr => ∃ (s : Nat) (Sc : Int) (cs : List Match), Sc = (s : Int) + 1 ∧ s ≤ 4 ∧ iv = .int .i64 Sc ∧ Hid (Ext w wr) ∧ Hid (At wr [(w.heap.size + 1 + 1, Obj.cells #[.slice m1 ms.length mc1, .slice a1 ar.length ac1] 63), (w.heap.size + 1, Obj.cells #[.int .i64 t.w, .int .i64 t.h, .slice to t.pix.length tc] 43), (w.heap.size, Obj.cells #[.int .i64 m.w, .int .i64 m.h, .slice mo m.pix.length mc] 24)]) ∧ Hid (wr.ownsRow (w.heap.size + 1 + 1 + 1) 80 5 ov cs.length (cs.flatMap matchCells)) ∧ Hid (cs = msOf m t limit (upto (4 * T + s)))) (fun _ iv _ => (5 - intOf iv).toNat)
      case atStart => exact ⟨0, 1, cs, by omega, by omega, rfl, hE, hA, hO, hC⟩
      case round =>
        clear hE hA hO hC hlc
        obtain ⟨s, Sc, cs, hsc, hs, rfl, hE, hA, hO, hC⟩ := hrel
        have HSC := Lib.hid hsc
        have hs1 : 1 ≤ Sc := by omega
        have hs5 : Sc ≤ 5 := by omega
        clear hsc
        by_cases hs4 : Sc ≤ 4
        · go_wp2
          obtain ⟨wo, hwo⟩ : ∃ wo : World, wo = wr := ⟨_, rfl⟩
          subst hwo
          go_loopw [11, 14] (fun ov iv wr => ∃ (k : Nat) (cs : List Match), k ≤ m.pix.length ∧ iv = .int .i64 (k : Int) ∧ Hid (Ext w wr) ∧ Hid (At wr [(w.heap.size + 1 + 1, Obj.cells #[.slice m1 ms.length mc1, .slice a1 ar.length ac1] 63), (w.heap.size + 1, Obj.cells #[.int .i64 t.w, .int .i64 t.h, .slice to t.pix.length tc] 43), (w.heap.size, Obj.cells #[.int .i64 m.w, .int .i64 m.h, .slice mo m.pix.length mc] 24)]) ∧ Hid (wr.ownsRow (w.heap.size + 1 + 1 + 1) 80 5 ov cs.length (cs.flatMap matchCells)) ∧ Hid (cs = msOf m t limit (upto (4 * T + s)) ++ canonK m t limit (T : Int) Sc k)) (fun _ iv _ => m.pix.length - (intOf iv).toNat)
          case atStart => exact ⟨0, cs, by omega, rfl, hE, hA, hO, Lib.hid (by rw [canonK_zero, List.append_nil]; exact hC.out)⟩
          case round =>
            clear hE hA hO hC
            obtain ⟨k, cs, hk, rfl, hE, hA, hO, hC⟩ := hrel
            have hlc : cs.length ≤ 12800 := by
              rw [hC.out, List.length_append]
              have g1 := msOf_len HM.out.1 t limit (l := upto (4 * T + s)) (by rw [upto_length]; have := HSC.out; omega)
              have g2 := canonK_len m t limit (T : Int) Sc k
              omega
            by_cases hkl : k < m.pix.length
            · obtain ⟨px, hpx⟩ : ∃ px, (k : Int) % m.w = px := ⟨_, rfl⟩
              obtain ⟨py, hpy⟩ : ∃ py, (k : Int) / m.w = py := ⟨_, rfl⟩
              have hin := poseAt_in HM.out.1 (turn := (T : Int)) (scale := Sc) hkl
              have hin2 : m.In px py := by rw [← hpx, ← hpy]; exact hin
              obtain ⟨⟨pb0, pb1⟩, pb3, pb4⟩ := hin2
              have hrem : (k : Int).tmod m.w = px := by rw [Int.tmod_eq_emod_of_nonneg (by omega)]; exact hpx
              have hquo : (k : Int).tdiv m.w = py := by rw [Int.tdiv_eq_ediv_of_nonneg (by omega)]; exact hpy
              have hpl : onePose (T : Int) Sc (placeAt m k) = ⟨px, py, (T : Int), Sc⟩ := by unfold onePose placeAt; rw [hpx, hpy]
              have hok : (Pose.area ⟨px, py, (T : Int), Sc⟩).Ok m := ⟨⟨by simp only [Pose.area]; omega, by simp only [Pose.area]; omega, by simp only [Pose.area]; omega⟩, ⟨by simp only [Pose.area]; omega, by simp only [Pose.area]; omega, by simp only [Pose.area]; omega⟩, ⟨⟨by simp only [Pose.area]; omega, by simp only [Pose.area]; omega⟩, by simp only [Pose.area]; omega, by simp only [Pose.area]; omega⟩⟩
              obtain ⟨bd, hbd⟩ : ∃ bd, bound m t (Pose.area ⟨px, py, (T : Int), Sc⟩) = bd := ⟨_, rfl⟩
              have hbr : boundR m t (Pose.area ⟨px, py, (T : Int), Sc⟩) = (bd, 0) := by unfold boundR; rw [if_pos HCE.out, if_pos hok, hbd]
              have hbb := bound_bd (a := Pose.area ⟨px, py, (T : Int), Sc⟩) HM.out HT.out
              rw [hbd] at hbb
              obtain ⟨bb1, bb2⟩ := hbb
              have K27 := Lib.hid (fun w' (h : Ext w w') => c27 m _ t _ ⟨px, py, (T : Int), Sc⟩ w' (HV.out.ext h) HML.out (HTV.out.ext h) HTL.out)
              rw [hbr] at K27
              unfold imgVal tplVal poseVal at K27
              have HY := Lib.hid (fun h : bd ≤ limit => canonK_yes (m := m) (t := t) (limit := limit) (T := (T : Int)) (S := Sc) (i := k) (by rw [hpl, hbd]; exact h))
              have HN := Lib.hid (fun h : limit < bd => canonK_no (m := m) (t := t) (limit := limit) (T := (T : Int)) (S := Sc) (i := k) (by rw [hpl, hbd]; omega))
              have hmk : mkOf m t (T : Int) Sc (placeAt m k) = (⟨⟨px, py, (T : Int), Sc⟩, bd⟩ : Match) := by unfold mkOf; rw [hpl, hbd]
              rw [hmk] at HY
              have hmw : (m.w == 0) = false := by simp; omega
              obtain ⟨⟨x00, x01⟩, -⟩ := run_2 (At.at hA.out 0 rfl)
              obtain ⟨⟨x10, x11, x12⟩, -⟩ := run_3 (At.at hA.out 1 rfl)
              obtain ⟨⟨x20, x21, x22⟩, -⟩ := run_3 (At.at hA.out 2 rfl)
              have xz0 := At.lt hA.out 0 rfl
              have xy0 := Nat.lt_succ_of_lt xz0
              have xx0 := Nat.lt_succ_of_lt xy0
              have xz1 := At.lt hA.out 1 rfl
              have xy1 := Nat.lt_succ_of_lt xz1
              have xx1 := Nat.lt_succ_of_lt xy1
              have xz2 := At.lt hA.out 2 rfl
              have xy2 := Nat.lt_succ_of_lt xz2
              have xx2 := Nat.lt_succ_of_lt xy2
              clear hpx hpy hin hpl hok hbd hbr hmk
              go_wp2
              refine RT.region_one (aq := ?azx) (n := 11) (sx := 15) (vx := 46) (oz := Obj.cells #[.int .i64 0, .int .i64 0, .int .i64 0, .int .i64 0] 45) (ox := Obj.cells #[.int .i64 px, .int .i64 py, .int .i64 (T : Int), .int .i64 Sc] 45) (qs1 := [_, _, _, _, _, _, _, _, _, _, _]) (qs2 := []) (by kernel_rfl) rfl (by kernel_rfl) (by kernel_rfl) rfl (of_decide_eq_true (by kernel_rfl)) rfl rfl (by kernel_rfl) (by kernel_rfl) (by kernel_rfl) ?_ ?_ ?_ ?_
              rotate_left
              · intro e w
                simp [execOp, go_sem, Try.underlying45]
              · intro wq hEq
                have AQ := Lib.hid (show At wq [(w.heap.size + 1 + 1, Obj.cells #[.slice m1 ms.length mc1, .slice a1 ar.length ac1] 63), (w.heap.size + 1, Obj.cells #[.int .i64 t.w, .int .i64 t.h, .slice to t.pix.length tc] 43), (w.heap.size, Obj.cells #[.int .i64 m.w, .int .i64 m.h, .slice mo m.pix.length mc] 24)] from At.ext hEq hA.out)
                obtain ⟨⟨q00, q01⟩, -⟩ := run_2 (At.at AQ.out 0 rfl)
                obtain ⟨⟨q10, q11, q12⟩, -⟩ := run_3 (At.at AQ.out 1 rfl)
                obtain ⟨⟨q20, q21, q22⟩, -⟩ := run_3 (At.at AQ.out 2 rfl)
                have qz0 := At.lt AQ.out 0 rfl
                have qy0 := Nat.lt_succ_of_lt qz0
                have qx0 := Nat.lt_succ_of_lt qy0
                have qz1 := At.lt AQ.out 1 rfl
                have qy1 := Nat.lt_succ_of_lt qz1
                have qx1 := Nat.lt_succ_of_lt qy1
                have qz2 := At.lt AQ.out 2 rfl
                have qy2 := Nat.lt_succ_of_lt qz2
                have qx2 := Nat.lt_succ_of_lt qy2
                clear hEq
                simp only [List.cons_append, List.nil_append, List.append_nil]
                repeat (go_big_quiet_step (fail))
                refine wpQuiet_nil ?_
                exact rfl
              · intro e w b h1 h2 h3
                obtain ⟨⟨c0, c1, c2, c3⟩, f0, f1, f2, f3⟩ := run_4 h3
                have h2' : e (.tmp 46) = .agg #[.int .i64 px, .int .i64 py, .int .i64 (T : Int), .int .i64 Sc] := h2
                apply Exists.intro
                apply And.intro
                · simp [execOp, go_sem, h1, h2', c0, c1, c2, c3, f0, f1, f2, f3, Try.underlying45]
                  exact rfl
                · exact store_4 h3
              intro bq w5 hE5 hbq hX5
              have A5 := Lib.hid (show At w5 [(bq, Obj.cells #[.int .i64 px, .int .i64 py, .int .i64 (T : Int), .int .i64 Sc] 45), (w.heap.size + 1 + 1, Obj.cells #[.slice m1 ms.length mc1, .slice a1 ar.length ac1] 63), (w.heap.size + 1, Obj.cells #[.int .i64 t.w, .int .i64 t.h, .slice to t.pix.length tc] 43), (w.heap.size, Obj.cells #[.int .i64 m.w, .int .i64 m.h, .slice mo m.pix.length mc] 24)] from ⟨hX5, At.ext hE5 hA.out⟩)
              have E5 := Lib.hid (hE.out.trans hE5)
              have O5 := Lib.hid (owns_ext hO.out hE5)
              have hbq2 := At.lt hA.out 0 rfl
              obtain ⟨⟨y00, y01, y02, y03⟩, -⟩ := run_4 (At.at A5.out 0 rfl)
              obtain ⟨⟨y10, y11⟩, -⟩ := run_2 (At.at A5.out 1 rfl)
              obtain ⟨⟨y20, y21, y22⟩, -⟩ := run_3 (At.at A5.out 2 rfl)
              obtain ⟨⟨y30, y31, y32⟩, -⟩ := run_3 (At.at A5.out 3 rfl)
              have yz0 := At.lt A5.out 0 rfl
              have yy0 := Nat.lt_succ_of_lt yz0
              have yx0 := Nat.lt_succ_of_lt yy0
              have yz1 := At.lt A5.out 1 rfl
              have yy1 := Nat.lt_succ_of_lt yz1
              have yx1 := Nat.lt_succ_of_lt yy1
              have yz2 := At.lt A5.out 2 rfl
              have yy2 := Nat.lt_succ_of_lt yz2
              have yx2 := Nat.lt_succ_of_lt yy2
              have yz3 := At.lt A5.out 3 rfl
              have yy3 := Nat.lt_succ_of_lt yz3
              have yx3 := Nat.lt_succ_of_lt yy3
              clear x00 x01 x10 x11 x12 x20 x21 x22 xz0 xy0 xx0 xz1 xy1 xx1 xz2 xy2 xx2
              have hsz5 := hE5.size
              clear hX5
              by_cases hq : bd ≤ limit
              · have q1 : decide (bd ≤ limit) = true := decide_eq_true hq
                have HC2 := Lib.hid (show cs ++ [(⟨⟨px, py, (T : Int), Sc⟩, bd⟩ : Match)] = msOf m t limit (upto (4 * T + s)) ++ canonK m t limit (T : Int) Sc (k + 1) from by rw [HY.out hq, hC.out, List.append_assoc])
                clear hq
                go_wp2_with (first | (go_at_call 27; (with_reducible refine (K27.out _ E5.out).mono ?_); rintro E w7 ⟨rfl, hb7⟩; have A7 := Lib.hid (show At w7 [(bq, Obj.cells #[.int .i64 px, .int .i64 py, .int .i64 (T : Int), .int .i64 Sc] 45), (w.heap.size + 1 + 1, Obj.cells #[.slice m1 ms.length mc1, .slice a1 ar.length ac1] 63), (w.heap.size + 1, Obj.cells #[.int .i64 t.w, .int .i64 t.h, .slice to t.pix.length tc] 43), (w.heap.size, Obj.cells #[.int .i64 m.w, .int .i64 m.h, .slice mo m.pix.length mc] 24)] from At.ext hb7 A5.out); have E7 := Lib.hid (E5.out.trans hb7); have O7 := Lib.hid (owns_ext O5.out hb7); have hz7 := hb7.size; obtain ⟨⟨z00, z01, z02, z03⟩, -⟩ := run_4 (At.at A7.out 0 rfl); obtain ⟨⟨z10, z11⟩, -⟩ := run_2 (At.at A7.out 1 rfl); obtain ⟨⟨z20, z21, z22⟩, -⟩ := run_3 (At.at A7.out 2 rfl); obtain ⟨⟨z30, z31, z32⟩, -⟩ := run_3 (At.at A7.out 3 rfl); have zz0 := At.lt A7.out 0 rfl; have zy0 := Nat.lt_succ_of_lt zz0; have zx0 := Nat.lt_succ_of_lt zy0; have zz1 := At.lt A7.out 1 rfl; have zy1 := Nat.lt_succ_of_lt zz1; have zx1 := Nat.lt_succ_of_lt zy1; have zz2 := At.lt A7.out 2 rfl; have zy2 := Nat.lt_succ_of_lt zz2; have zx2 := Nat.lt_succ_of_lt zy2; have zz3 := At.lt A7.out 3 rfl; have zy3 := Nat.lt_succ_of_lt zz3; have zx3 := Nat.lt_succ_of_lt zy3) | (at_builtin; refine wpList_append_at rfl _ _ 60 rfl (w.heap.size + 1 + 1 + 1) 80 i8 (.agg #[.int .i64 0, .int .i64 0, .int .i64 0, .int .i64 0, .int .i64 0]) 5 40 Try.underlying60 hi8 hz8 hs8 hy8 rfl (by omega) u11 cs.length (cs.flatMap matchCells) rfl (owns_ext O7.out ((Ext.refl _).alloc _)) _ 1 (matchCells (⟨⟨px, py, (T : Int), Sc⟩, bd⟩ : Match)) rfl (SlAt.lit_at _ w7.heap.size rfl (matchCells (⟨⟨px, py, (T : Int), Sc⟩, bd⟩ : Match)) 80 5 rfl) (matchCells_one _) (by unfold maxLen; omega) (by omega) (by simp; omega) ?_; intro va w8 ho hg hat; have A8 := Lib.hid (show At w8 [(bq, Obj.cells #[.int .i64 px, .int .i64 py, .int .i64 (T : Int), .int .i64 Sc] 45), (w.heap.size + 1 + 1, Obj.cells #[.slice m1 ms.length mc1, .slice a1 ar.length ac1] 63), (w.heap.size + 1, Obj.cells #[.int .i64 t.w, .int .i64 t.h, .slice to t.pix.length tc] 43), (w.heap.size, Obj.cells #[.int .i64 m.w, .int .i64 m.h, .slice mo m.pix.length mc] 24)] from At.grown hg (At.alloc A7.out _) (by intro k9 hk9 h9; have h8 := owns_block O7.out _ h9; have h7 := owns_block hO.out _ h9; simp only [List.map_cons, List.map_nil, List.mem_cons, List.not_mem_nil, or_false] at hk9; rcases hk9 with rfl | rfl | rfl | rfl <;> omega)); have E8 := Lib.hid ((E7.out.alloc _).grown hg (fun g9 h9 => by have := (owns_block O7.out g9 h9).1; omega)); have O8 := Lib.hid ho; clear ho hg hat))
                go_roundw
                case rel => exact ⟨k + 1, cs ++ [(⟨⟨px, py, (T : Int), Sc⟩, bd⟩ : Match)], by omega, by go_num, E8, Lib.hid A8.out.2, Lib.hid (by rw [List.flatMap_append, List.length_append]; exact O8.out), HC2⟩
                case measure => simp [intOf]; omega
              · have q1 : decide (bd ≤ limit) = false := decide_eq_false hq
                have HC2 := Lib.hid (show cs = msOf m t limit (upto (4 * T + s)) ++ canonK m t limit (T : Int) Sc (k + 1) from by rw [HN.out (by omega), hC.out])
                clear hq
                go_wp2_with (go_at_call 27; (with_reducible refine (K27.out _ E5.out).mono ?_); rintro E w7 ⟨rfl, hb7⟩; have A7 := Lib.hid (show At w7 [(bq, Obj.cells #[.int .i64 px, .int .i64 py, .int .i64 (T : Int), .int .i64 Sc] 45), (w.heap.size + 1 + 1, Obj.cells #[.slice m1 ms.length mc1, .slice a1 ar.length ac1] 63), (w.heap.size + 1, Obj.cells #[.int .i64 t.w, .int .i64 t.h, .slice to t.pix.length tc] 43), (w.heap.size, Obj.cells #[.int .i64 m.w, .int .i64 m.h, .slice mo m.pix.length mc] 24)] from At.ext hb7 A5.out); have E7 := Lib.hid (E5.out.trans hb7); have O7 := Lib.hid (owns_ext O5.out hb7); have hz7 := hb7.size; obtain ⟨⟨z00, z01, z02, z03⟩, -⟩ := run_4 (At.at A7.out 0 rfl); obtain ⟨⟨z10, z11⟩, -⟩ := run_2 (At.at A7.out 1 rfl); obtain ⟨⟨z20, z21, z22⟩, -⟩ := run_3 (At.at A7.out 2 rfl); obtain ⟨⟨z30, z31, z32⟩, -⟩ := run_3 (At.at A7.out 3 rfl); have zz0 := At.lt A7.out 0 rfl; have zy0 := Nat.lt_succ_of_lt zz0; have zx0 := Nat.lt_succ_of_lt zy0; have zz1 := At.lt A7.out 1 rfl; have zy1 := Nat.lt_succ_of_lt zz1; have zx1 := Nat.lt_succ_of_lt zy1; have zz2 := At.lt A7.out 2 rfl; have zy2 := Nat.lt_succ_of_lt zz2; have zx2 := Nat.lt_succ_of_lt zy2; have zz3 := At.lt A7.out 3 rfl; have zy3 := Nat.lt_succ_of_lt zz3; have zx3 := Nat.lt_succ_of_lt zy3)
                go_roundw
                case rel => exact ⟨k + 1, cs, by omega, by go_num, E7, Lib.hid A7.out.2, O7, HC2⟩
                case measure => simp [intOf]; omega

            · have hkn : k = m.pix.length := by omega
              have HC2 := Lib.hid (show cs = msOf m t limit (upto (4 * T + (s + 1))) from by
                rw [hC.out, hkn, canonK_full, HSC.out, ← msOf_step m t limit hT12 (by have := HSC.out; omega)]; rfl)
              clear hkn
              obtain ⟨⟨x00, x01⟩, -⟩ := run_2 (At.at hA.out 0 rfl)
              obtain ⟨⟨x10, x11, x12⟩, -⟩ := run_3 (At.at hA.out 1 rfl)
              obtain ⟨⟨x20, x21, x22⟩, -⟩ := run_3 (At.at hA.out 2 rfl)
              have xz0 := At.lt hA.out 0 rfl
              have xy0 := Nat.lt_succ_of_lt xz0
              have xx0 := Nat.lt_succ_of_lt xy0
              have xz1 := At.lt hA.out 1 rfl
              have xy1 := Nat.lt_succ_of_lt xz1
              have xx1 := Nat.lt_succ_of_lt xy1
              have xz2 := At.lt hA.out 2 rfl
              have xy2 := Nat.lt_succ_of_lt xz2
              have xx2 := Nat.lt_succ_of_lt xy2
              go_wp2
              go_roundw
              case rel => exact ⟨s + 1, Sc + 1, cs, by have := HSC.out; omega, by have := HSC.out; omega, rfl, hE, hA, hO, HC2⟩
              case measure => simp [intOf]; omega
        · have hs9 : Sc = 5 := by omega
          have HC2 := Lib.hid (show cs = msOf m t limit (upto (4 * (T + 1))) from by rw [hC.out, show s = 4 by have := HSC.out; omega]; rfl)
          clear hs9
          go_wp2
          go_roundw
          case rel => exact ⟨T + 1, cs, by omega, by go_num, hE, hA, hO, HC2⟩
          case measure => simp [intOf]; omega
    · have d12 : decide ((T : Int) < 12) = false := decide_eq_false (by omega)
      have HC2 := Lib.hid (show cs = msOf m t limit (upto 48) from by rw [hC.out, show T = 12 by omega])
      clear hC
      have hC := HC2
      clear HC2
      obtain ⟨-, sa, sc, hsv, -⟩ := SlAt.of_owns hO.out
      subst hsv
      have MA := Lib.hid (show MatchesAt wr (.slice sa cs.length sc) cs from SlAt.of_owns hO.out)
      have MM := Lib.hid (HMS.out.ext hE.out)
      have HPM := Lib.hid (show ms.Perm cs from hC.out.symm ▸ proved_perm HM.out.1 HP.out)
      have hlen : ms.length = cs.length := HPM.out.length_eq
      have hl13 : ms.length ≤ 13000 := n1
      have HOR := Lib.hid (show ord = true → ms = cs from fun h => (ho h).trans hC.out.symm)
      have HCN := Lib.hid (show ∀ x ∈ cs, cntOf ms x = 1 from fun x hx => by
        have h1 := proved_count HM.out.1 HP.out x
        rw [if_pos (HP.out.1 x (HPM.out.mem_iff.2 hx))] at h1
        exact h1)
      have u1 : ((cs.length : Int) != (ms.length : Int)) = false := by simp [hlen]
      have HLEN := Lib.hid hlen
      clear hlen
      clear hO hC ho
      obtain ⟨⟨x00, x01⟩, -⟩ := run_2 (At.at hA.out 0 rfl)
      obtain ⟨⟨x10, x11, x12⟩, -⟩ := run_3 (At.at hA.out 1 rfl)
      obtain ⟨⟨x20, x21, x22⟩, -⟩ := run_3 (At.at hA.out 2 rfl)
      have xz0 := At.lt hA.out 0 rfl
      have xy0 := Nat.lt_succ_of_lt xz0
      have xx0 := Nat.lt_succ_of_lt xy0
      have xz1 := At.lt hA.out 1 rfl
      have xy1 := Nat.lt_succ_of_lt xz1
      have xx1 := Nat.lt_succ_of_lt xy1
      have xz2 := At.lt hA.out 2 rfl
      have xy2 := Nat.lt_succ_of_lt xz2
      have xx2 := Nat.lt_succ_of_lt xy2
      obtain ⟨wp, hwp⟩ : ∃ wp : World, wp = wr := ⟨_, rfl⟩
      subst hwp
      obtain ⟨MB, hMB⟩ : ∃ MB, wp.heap.size = MB := ⟨_, rfl⟩
      go_wp2
      try rw [hMB]
      have C0 := Lib.hid (show CntAt 80 matchLit Match.Wf (wp.alloc (.map #[] 0)) MB 0 (cntOf (ms.take 0)) from hMB ▸ CntAt.made 80 matchLit Match.Wf wp)
      clear x00 x01 x10 x11 x12 x20 x21 x22 xz0 xy0 xx0 xz1 xy1 xx1 xz2 xy2 xx2
      go_loopw [19] (fun iv wr => Hid (Ext wp wr) ∧ ∃ i : Nat, i ≤ cs.length ∧ iv = .int .i64 (i : Int) ∧ Hid (CntAt 80 matchLit Match.Wf wr MB i (cntOf (ms.take i)))) (fun iv _ => cs.length - (intOf iv).toNat)
      case atStart => exact ⟨Lib.hid ((Ext.refl _).alloc _), 0, Nat.zero_le _, rfl, C0⟩
      case round =>
        clear C0
        obtain ⟨hF, i, hi, rfl, hK⟩ := hrel
        have A9 := Lib.hid (show At wr [(w.heap.size + 1 + 1, Obj.cells #[.slice m1 ms.length mc1, .slice a1 ar.length ac1] 63), (w.heap.size + 1, Obj.cells #[.int .i64 t.w, .int .i64 t.h, .slice to t.pix.length tc] 43), (w.heap.size, Obj.cells #[.int .i64 m.w, .int .i64 m.h, .slice mo m.pix.length mc] 24)] from At.ext hF.out hA.out)
        have M9 := Lib.hid (MA.out.ext hF.out)
        have S9 := Lib.hid (MM.out.ext hF.out)
        obtain ⟨⟨x00, x01⟩, -⟩ := run_2 (At.at A9.out 0 rfl)
        obtain ⟨⟨x10, x11, x12⟩, -⟩ := run_3 (At.at A9.out 1 rfl)
        obtain ⟨⟨x20, x21, x22⟩, -⟩ := run_3 (At.at A9.out 2 rfl)
        have xz0 := At.lt A9.out 0 rfl
        have xy0 := Nat.lt_succ_of_lt xz0
        have xx0 := Nat.lt_succ_of_lt xy0
        have xz1 := At.lt A9.out 1 rfl
        have xy1 := Nat.lt_succ_of_lt xz1
        have xx1 := Nat.lt_succ_of_lt xy1
        have xz2 := At.lt A9.out 2 rfl
        have xy2 := Nat.lt_succ_of_lt xz2
        have xx2 := Nat.lt_succ_of_lt xy2
        by_cases hil : i < cs.length
        · have him : i < ms.length := by have := HLEN.out; omega
          have hili : (i : Int) < (cs.length : Int) := by omega
          have hili2 : (i : Int) < (ms.length : Int) := by omega
          have HXM := Lib.hid (getD_mem_at match0 him)
          have HST := Lib.hid (cnt_step him)
          have HEQ := Lib.hid (show ord = true → ms.getD i match0 = cs.getD i match0 from fun h => by rw [← HOR.out h])
          obtain ⟨_, _, hfx, -, hcx⟩ := MatchesAt.form S9.out
          obtain ⟨yb, yf, hxb, y0, y1, y2, y3, y4⟩ := hcx (i) him
          simp only [Value.slice.injEq] at hfx
          obtain ⟨hfx, -, -⟩ := hfx
          subst hfx
          subst hxb
          clear hcx
          have yz := World.block_lt_of_cell? _ _ y0
          simp only at yz
          generalize ms.getD i match0 = x at y0 y1 y2 y3 y4 HXM HST HEQ
          have HWF := Lib.hid (show x.Wf from match_wf HM.out HT.out hlim.2 (HP.out.1 x HXM.out))
          have BUMP := fun W (hb : W.heap[MB]? = wr.heap[MB]?) => CntAt.bump (w := W) match_enc (mt := 129) Try.underlying129 (hK.out.block hb) HWF.out (by unfold maxLen; omega) (show cntOf (ms.take i) x < 1000000 from by have h9 : cntOf (ms.take i) x ≤ (ms.take i).length := List.count_le_length; rw [List.length_take] at h9; omega)
          obtain ⟨cn, hcn⟩ : ∃ cn, cntOf (ms.take i) x = cn := ⟨_, rfl⟩
          have hcn2 : cn ≤ 13000 := by rw [← hcn]; have h9 : cntOf (ms.take i) x ≤ (ms.take i).length := List.count_le_length; rw [List.length_take] at h9; omega
          rw [hcn] at BUMP
          have hwc : IntKind.i64.wrap ((cn : Int) + 1) = (cn : Int) + 1 := IntWalk.i64_in _ (by omega)
          clear hcn
          cases ord with
          | false =>
            go_wp2_with fail
            go_quiet (fail)
            obtain ⟨w6, hw6⟩ : ∃ w6, wr.drewN nq = w6 := ⟨_, rfl⟩
            have hb6 : Ext wr w6 := by rw [← hw6]; exact (Ext.refl _).drewN nq
            have hh6 : w6.heap = wr.heap := by rw [← hw6]; rfl
            rw [hw6]
            clear hw6
            go_wp2
            obtain ⟨v0, st, wE, wS, r1, r2, r4, r3, hC2, hg2⟩ := BUMP w6.drew (by show w6.heap[MB]? = _; rw [hh6]) 
            rw [HST.out] at hC2
            have F2 := Lib.hid (show Ext wp wS from ((hF.out.trans hb6).drew).grown hg2 (fun k hk => by cases hk; omega))
            have A2 := Lib.hid (show At w6 [(w.heap.size + 1 + 1, Obj.cells #[.slice (some ⟨yb, yf, none⟩) ms.length mc1, .slice a1 ar.length ac1] 63), (w.heap.size + 1, Obj.cells #[.int .i64 t.w, .int .i64 t.h, .slice to t.pix.length tc] 43), (w.heap.size, Obj.cells #[.int .i64 m.w, .int .i64 m.h, .slice mo m.pix.length mc] 24)] from At.ext hb6 A9.out)
            have C2 := Lib.hid hC2
            unfold matchAgg at r1 r2 r4
            clear hC2 BUMP
            replace y0 := hb6.get y0
            replace y1 := hb6.get y1
            replace y2 := hb6.get y2
            replace y3 := hb6.get y3
            replace y4 := hb6.get y4
            have yz6 := Nat.lt_of_lt_of_le yz hb6.size
            clear x00 x01 x10 x11 x12 x20 x21 x22 xz0 xy0 xx0 xz1 xy1 xx1 xz2 xy2 xx2
            obtain ⟨⟨u00, u01⟩, -⟩ := run_2 (At.at A2.out 0 rfl)
            obtain ⟨⟨u10, u11, u12⟩, -⟩ := run_3 (At.at A2.out 1 rfl)
            obtain ⟨⟨u20, u21, u22⟩, -⟩ := run_3 (At.at A2.out 2 rfl)
            have uz0 := At.lt A2.out 0 rfl
            have uy0 := Nat.lt_succ_of_lt uz0
            have ux0 := Nat.lt_succ_of_lt uy0
            have uz1 := At.lt A2.out 1 rfl
            have uy1 := Nat.lt_succ_of_lt uz1
            have ux1 := Nat.lt_succ_of_lt uy1
            have uz2 := At.lt A2.out 2 rfl
            have uy2 := Nat.lt_succ_of_lt uz2
            have ux2 := Nat.lt_succ_of_lt uy2
            go_region
            go_wp2
            go_roundw
            case rel => exact ⟨F2, i + 1, by omega, by go_num, C2⟩
            case measure => simp [intOf]; omega
          | true =>
            have hxe := HEQ.out rfl
            obtain ⟨_, _, hfx, -, hcx⟩ := MatchesAt.form M9.out
            obtain ⟨zb, zf, hxb, z0, z1, z2, z3, z4⟩ := hcx (i) hil
            simp only [Value.slice.injEq] at hfx
            obtain ⟨hfx, -, -⟩ := hfx
            subst hfx
            subst hxb
            clear hcx
            have zz := World.block_lt_of_cell? _ _ z0
            simp only at zz
            rw [← hxe] at z0 z1 z2 z3 z4
            clear hxe
            go_wp2_with fail
            go_quiet (fail)
            obtain ⟨w6, hw6⟩ : ∃ w6, wr.drewN nq = w6 := ⟨_, rfl⟩
            have hb6 : Ext wr w6 := by rw [← hw6]; exact (Ext.refl _).drewN nq
            have hh6 : w6.heap = wr.heap := by rw [← hw6]; rfl
            rw [hw6]
            clear hw6
            go_wp2
            obtain ⟨v0, st, wE, wS, r1, r2, r4, r3, hC2, hg2⟩ := BUMP w6.drew (by show w6.heap[MB]? = _; rw [hh6]) 
            rw [HST.out] at hC2
            have F2 := Lib.hid (show Ext wp wS from ((hF.out.trans hb6).drew).grown hg2 (fun k hk => by cases hk; omega))
            have A2 := Lib.hid (show At w6 [(w.heap.size + 1 + 1, Obj.cells #[.slice (some ⟨yb, yf, none⟩) ms.length mc1, .slice a1 ar.length ac1] 63), (w.heap.size + 1, Obj.cells #[.int .i64 t.w, .int .i64 t.h, .slice to t.pix.length tc] 43), (w.heap.size, Obj.cells #[.int .i64 m.w, .int .i64 m.h, .slice mo m.pix.length mc] 24)] from At.ext hb6 A9.out)
            have C2 := Lib.hid hC2
            unfold matchAgg at r1 r2 r4
            clear hC2 BUMP
            replace y0 := hb6.get y0
            replace y1 := hb6.get y1
            replace y2 := hb6.get y2
            replace y3 := hb6.get y3
            replace y4 := hb6.get y4
            have yz6 := Nat.lt_of_lt_of_le yz hb6.size
            clear x00 x01 x10 x11 x12 x20 x21 x22 xz0 xy0 xx0 xz1 xy1 xx1 xz2 xy2 xx2
            obtain ⟨⟨u00, u01⟩, -⟩ := run_2 (At.at A2.out 0 rfl)
            obtain ⟨⟨u10, u11, u12⟩, -⟩ := run_3 (At.at A2.out 1 rfl)
            obtain ⟨⟨u20, u21, u22⟩, -⟩ := run_3 (At.at A2.out 2 rfl)
            have uz0 := At.lt A2.out 0 rfl
            have uy0 := Nat.lt_succ_of_lt uz0
            have ux0 := Nat.lt_succ_of_lt uy0
            have uz1 := At.lt A2.out 1 rfl
            have uy1 := Nat.lt_succ_of_lt uz1
            have ux1 := Nat.lt_succ_of_lt uy1
            have uz2 := At.lt A2.out 2 rfl
            have uy2 := Nat.lt_succ_of_lt uz2
            have ux2 := Nat.lt_succ_of_lt uy2
            go_region
            go_wp2
            go_roundw
            case rel => exact ⟨F2, i + 1, by omega, by go_num, C2⟩
            case measure => simp [intOf]; omega
        · obtain rfl : i = cs.length := by omega
          have K9 := Lib.hid (show CntAt 80 matchLit Match.Wf wr MB cs.length (cntOf ms) from by have h9 := hK.out; rwa [List.take_of_length_le (by have := HLEN.out; omega)] at h9)
          clear hK
          go_wp2
          obtain ⟨wu, hwu⟩ : ∃ wu : World, wu = wr := ⟨_, rfl⟩
          subst hwu
          clear x00 x01 x10 x11 x12 x20 x21 x22 xz0 xy0 xx0 xz1 xy1 xx1 xz2 xy2 xx2
          go_loopw [20] (fun iv wr => Hid (Ext wu wr) ∧ ∃ i : Nat, i ≤ cs.length ∧ iv = .int .i64 (i : Int)) (fun iv _ => cs.length - (intOf iv).toNat)
          case atStart => exact ⟨Lib.hid (Ext.refl _), 0, Nat.zero_le _, rfl⟩
          case round =>
            obtain ⟨hG, i, hi, rfl⟩ := hrel
            have M8 := Lib.hid (M9.out.ext hG.out)
            have K8 := Lib.hid (K9.out.ext hG.out)
            by_cases hil : i < cs.length
            · have hili : (i : Int) < (cs.length : Int) := by omega
              have HXM := Lib.hid (getD_mem_at match0 hil)
              obtain ⟨_, _, hfx, -, hcx⟩ := MatchesAt.form M8.out
              obtain ⟨yb, yf, hxb, y0, y1, y2, y3, y4⟩ := hcx (i) hil
              simp only [Value.slice.injEq] at hfx
              obtain ⟨hfx, -, -⟩ := hfx
              subst hfx
              subst hxb
              clear hcx
              have yz := World.block_lt_of_cell? _ _ y0
              simp only at yz
              generalize cs.getD i match0 = x at y0 y1 y2 y3 y4 HXM
              have LK := K8.out.look match_enc (mt := 129) Try.underlying129 (p := x) (match_wf HM.out HT.out hlim.2 (HP.out.1 x (HPM.out.mem_iff.2 HXM.out)))
              rw [HCN.out x HXM.out] at LK
              unfold matchAgg at LK
              go_wp2
              go_roundw
              case rel => exact ⟨hG, i + 1, by omega, by go_num⟩
              case measure => simp [intOf]; omega
            · obtain rfl : i = cs.length := by omega
              go_wp2
              go_ret
              exact ⟨rfl, hE.out.trans (hF.out.trans hG.out)⟩
end Go.Proofs.Ytipkjdfnoonpcaa
