/- Joined from the parts LawBase, AliveVals, Alive, LawFrame, OpenArgs. -/
import Derived.Test.YtodoimeiklilhaaDoorGOps
import Derived.Test.YtodoimeiklilhaaDoorGSpanOps
import Derived.Test.YtodoimeiklilhaaDoorGRoots
import Derived.Test.YtodoimeiklilhaaDoorMeetJoin
import Derived.Test.YtodoimeiklilhaaDoorGWhole
import Derived.Test.YtodoimeiklilhaaDoorRows
import Derived.ProofKit
import Derived.OpenShut
import Derived.ChangeOld
import Derived.Handy
import Derived.Lay
import Derived.LaidSub
import Derived.LaidLaws
import Derived.LaidHandle
import Derived.MakeChecks
import Derived.Stop.Joined
import Derived.Lib.LaidTab
import Derived.Lib.SmallJoins
import Derived.Test.YtodoimeiklilhaaDoorGSpans
set_option linter.unusedVariables false
set_option linter.unusedSimpArgs false
/- The walks of the law's small functions: whole, span, is, from. -/
namespace Go.Proofs.YtodoimeiklilhaaDoor
open Go.RowKit Go.Sort

set_option maxHeartbeats 1000000 in
theorem c_whole (n : Int) (w : World) :
    Calls Tryd.prog 24 #[.int .i64 n] w fun e w' => e = .returned (fracV ⟨n, 1⟩) ∧ Ext w w' := by
  go_enter Tryd.func24, Tryd.ntmps24
  go_wp2
  refine bodyPost_ret (RT.results_row1 rfl _ _ w.heap.size 23 _ (0, 0) _ rfl (one_first _ _) Tryd.underlying23 rfl info_frac) rfl ?_
  exact ⟨rfl, (by repeat (first | exact Ext.refl _ | assumption | refine Ext.alloc ?_ _ | refine Ext.drewN ?_ _ | refine ext_grow ?_ _ _ | refine Ext.setCell ?_ (by first | exact Nat.le_refl _ | omega | (simp; done) | (simp; omega)) _ | refine Ext.trans ?_ (by assumption)))⟩
set_option maxRecDepth 100000 in
set_option maxHeartbeats 1000000 in
theorem c_span (m n : Int) (w : World) :
    Calls Tryd.prog 31 #[.int .i64 m, .int .i64 n] w fun e w' => e = .returned (fspanV ⟨⟨m, 1⟩, ⟨n, 1⟩⟩) ∧ Ext w w' := by
  go_enter Tryd.func31, Tryd.ntmps31
  go_wp2_with (first | (go_at_call 24; refine (c_whole m _).mono ?_; rintro e w' ⟨rfl, hb⟩; have hc := hb.cell; have hf := hb.frozen; have hz := hb.size; (try simp at hz); have z0 : w.heap.size < w'.heap.size := (by omega); have B1 := Lib.hid (hb.blk (one_first _ _))) | (go_at_call 24; refine (c_whole n _).mono ?_; rintro e w' ⟨rfl, hb2⟩; have hc2 := hb2.cell; have hf2 := hb2.frozen; have hz2 := hb2.size; have z1 : w.heap.size < w'.heap.size := (by omega); have B2 := Lib.hid (hb2.blk B1.out)))
  refine bodyPost_ret (RT.results_row1 rfl _ _ w.heap.size 41 _ (0, 0) _ rfl (store_four B2.out).1 Tryd.underlying41 rfl info_span) rfl ?_
  exact ⟨rfl, (by repeat (first | exact Ext.refl _ | assumption | refine Ext.alloc ?_ _ | refine Ext.drewN ?_ _ | refine ext_grow ?_ _ _ | refine Ext.setCell ?_ (by first | exact Nat.le_refl _ | omega | (simp; done) | (simp; omega)) _ | refine Ext.trans ?_ (by assumption)))⟩
set_option maxHeartbeats 1000000 in
theorem c_is (a : Frac) (e n d : Int) (w : World) :
    Calls Tryd.prog 25 #[fracV a, .int .i64 e, .int .i64 n, .int .i64 d] w fun e' w' => e' = .returned (.bool (decide (e = 0 ∧ a = ⟨n, d⟩))) ∧ Ext w w' := by
  obtain ⟨p, q⟩ := a
  by_cases h : e = 0
  · have t1 : (e == 0) = true := by simpa using h
    have H := Lib.hid h
    clear h
    go_enter Tryd.func25, Tryd.ntmps25
    go_wp2
    all_goals go_ret
    all_goals exact ⟨ret_bool (by rw [Bool.eq_iff_iff]; simp [H.out]; try omega), (by repeat (first | exact Ext.refl _ | assumption | refine Ext.alloc ?_ _ | refine Ext.drewN ?_ _ | refine ext_grow ?_ _ _ | refine Ext.setCell ?_ (by first | exact Nat.le_refl _ | omega | (simp; done) | (simp; omega)) _ | refine Ext.trans ?_ (by assumption)))⟩
  · have t1 : (e == 0) = false := by simpa using h
    have H := Lib.hid h
    clear h
    go_enter Tryd.func25, Tryd.ntmps25
    go_wp2
    go_ret
    exact ⟨ret_bool (decide_eq_false (fun k => H.out k.1)).symm, (by repeat (first | exact Ext.refl _ | assumption | refine Ext.alloc ?_ _ | refine Ext.drewN ?_ _ | refine ext_grow ?_ _ _ | refine Ext.setCell ?_ (by first | exact Nat.le_refl _ | omega | (simp; done) | (simp; omega)) _ | refine Ext.trans ?_ (by assumption)))⟩
set_option maxHeartbeats 1000000 in
theorem c_from (s : Span) (e n d m k : Int) (w : World) :
    Calls Tryd.prog 35 #[fspanV s, .int .i64 e, .int .i64 n, .int .i64 d, .int .i64 m, .int .i64 k] w fun e' w' => e' = .returned (.bool (decide (e = 0 ∧ s = ⟨⟨n, d⟩, ⟨m, k⟩⟩))) ∧ Ext w w' := by
  obtain ⟨⟨p, q⟩, ⟨u, v⟩⟩ := s
  by_cases h : e = 0
  · have t1 : (e == 0) = true := by simpa using h
    have H := Lib.hid h
    clear h
    go_enter Tryd.func35, Tryd.ntmps35
    go_wp2
    all_goals go_ret
    all_goals exact ⟨ret_bool (by rw [Bool.eq_iff_iff]; simp [H.out, and_assoc]; try omega), (by repeat (first | exact Ext.refl _ | assumption | refine Ext.alloc ?_ _ | refine Ext.drewN ?_ _ | refine ext_grow ?_ _ _ | refine Ext.setCell ?_ (by first | exact Nat.le_refl _ | omega | (simp; done) | (simp; omega)) _ | refine Ext.trans ?_ (by assumption)))⟩
  · have t1 : (e == 0) = false := by simpa using h
    have H := Lib.hid h
    clear h
    go_enter Tryd.func35, Tryd.ntmps35
    go_wp2
    go_ret
    exact ⟨ret_bool (decide_eq_false (fun k => H.out k.1)).symm, (by repeat (first | exact Ext.refl _ | assumption | refine Ext.alloc ?_ _ | refine Ext.drewN ?_ _ | refine ext_grow ?_ _ _ | refine Ext.setCell ?_ (by first | exact Nat.le_refl _ | omega | (simp; done) | (simp; omega)) _ | refine Ext.trans ?_ (by assumption)))⟩
end Go.Proofs.YtodoimeiklilhaaDoor

/- What the law's examples of 'alive' come to: the contracts at their values. -/
namespace Go.Proofs.YtodoimeiklilhaaDoor
open Go.RowKit Go.Sort

theorem k_Make (w : World) : Calls Tryd.prog 20 #[.int .i64 6, .int .i64 (-4)] w fun e w' => e = .returned (.tuple #[.agg #[.int .i64 (-3), .int .i64 2], .int .i64 0]) ∧ Ext w w' := by
  have := c_Make 6 (-4) (by unfold InI64; omega) (by unfold InI64; omega) w
  rw [show makeR 6 (-4) = (⟨-3, 2⟩, 0) by decide +kernel] at this
  exact this
theorem k_Add (w : World) : Calls Tryd.prog 26 #[.agg #[.int .i64 1, .int .i64 2], .agg #[.int .i64 1, .int .i64 3]] w fun e w' => e = .returned (.tuple #[.agg #[.int .i64 5, .int .i64 6], .int .i64 0]) ∧ Ext w w' := by
  have := c_Add ⟨1, 2⟩ ⟨1, 3⟩ ⟨(by unfold InI64; decide), (by unfold InI64; decide)⟩ ⟨(by unfold InI64; decide), (by unfold InI64; decide)⟩ w
  rw [show opR (fun p q => answer (p + q)) ⟨1, 2⟩ ⟨1, 3⟩ = (⟨5, 6⟩, 0) by decide +kernel] at this
  exact this
theorem k_Div (w : World) : Calls Tryd.prog 23 #[.agg #[.int .i64 1, .int .i64 2], .agg #[.int .i64 (-3), .int .i64 4]] w fun e w' => e = .returned (.tuple #[.agg #[.int .i64 (-2), .int .i64 3], .int .i64 0]) ∧ Ext w w' := by
  have := c_Div ⟨1, 2⟩ ⟨-3, 4⟩ ⟨(by unfold InI64; decide), (by unfold InI64; decide)⟩ ⟨(by unfold InI64; decide), (by unfold InI64; decide)⟩ w
  rw [show opR quotR ⟨1, 2⟩ ⟨-3, 4⟩ = (⟨-2, 3⟩, 0) by decide +kernel] at this
  exact this
theorem k_Floor (w : World) : Calls Tryd.prog 29 #[.agg #[.int .i64 (-7), .int .i64 2]] w fun e w' => e = .returned (.tuple #[.int .i64 (-4), .int .i64 0]) ∧ Ext w w' := by
  have := c_Floor ⟨-7, 2⟩ ⟨(by unfold InI64; decide), (by unfold InI64; decide)⟩ w
  rw [show floorR ⟨-7, 2⟩ = (-4, 0) by decide +kernel] at this
  exact this
theorem numText_small (n : Nat) (h : n < 10) : numText (n : Int) = ⟨#[UInt8.ofNat (48 + n)]⟩ := by
  unfold numText
  rw [Lib.itoa_nonneg, Lib.decDigits_one h]
theorem text_k : textR ⟨-3, 2⟩ = (⟨#[45, 51, 47, 50]⟩, 0) := by
  have h : Frac.ok ⟨-3, 2⟩ := by decide +kernel
  have e1 : nm (Frac.val ⟨-3, 2⟩) = -3 := by decide +kernel
  have e2 : dn (Frac.val ⟨-3, 2⟩) = 2 := by decide +kernel
  unfold textR
  rw [if_pos h]
  unfold ratText
  rw [e1, e2, if_pos (by omega), show ((2 : Int)) = ((2 : Nat) : Int) from rfl, numText_small 2 (by omega)]
  unfold numText
  rw [show (-3 : Int) = -((3 : Nat) : Int) from rfl, Lib.itoa_neg 3 (by omega), Lib.decDigits_one (by omega)]
  rfl
theorem k_Text (w : World) (hP : Pow w) : Calls Tryd.prog 17 #[.agg #[.int .i64 (-3), .int .i64 2]] w fun e w' => e = .returned (.tuple #[.string ⟨#[45, 51, 47, 50]⟩, .int .i64 0]) ∧ Ext w w' := by
  have := c_Text ⟨-3, 2⟩ ⟨(by unfold InI64; decide), (by unfold InI64; decide)⟩ w hP
  rw [text_k] at this
  exact this
theorem k_MulSpans (w : World) : Calls Tryd.prog 47 #[.agg #[.int .i64 (-1), .int .i64 1, .int .i64 2, .int .i64 1], .agg #[.int .i64 (-3), .int .i64 1, .int .i64 5, .int .i64 1]] w fun e w' => e = .returned (.tuple #[.agg #[.int .i64 (-6), .int .i64 1, .int .i64 10, .int .i64 1], .int .i64 0]) ∧ Ext w w' := by
  have := c_MulSpans ⟨⟨-1, 1⟩, ⟨2, 1⟩⟩ ⟨⟨-3, 1⟩, ⟨5, 1⟩⟩ ⟨⟨(by unfold InI64; decide), (by unfold InI64; decide)⟩, ⟨(by unfold InI64; decide), (by unfold InI64; decide)⟩⟩ ⟨⟨(by unfold InI64; decide), (by unfold InI64; decide)⟩, ⟨(by unfold InI64; decide), (by unfold InI64; decide)⟩⟩ w
  rw [show spanR (fun p q => answer (p * q)) pairsAll ⟨⟨-1, 1⟩, ⟨2, 1⟩⟩ ⟨⟨-3, 1⟩, ⟨5, 1⟩⟩ = (some ((-6 : Rat), (10 : Rat)), 0) by decide +kernel] at this
  exact this
theorem isq_200 : isq 200 = 14 := (isq_eq (by omega) (by omega)).symm
theorem k_Root (w : World) : Calls Tryd.prog 36 #[.agg #[.int .i64 2, .int .i64 1], .int .i64 10] w fun e w' => e = .returned (.tuple #[.agg #[.int .i64 7, .int .i64 5, .int .i64 3, .int .i64 2], .int .i64 0]) ∧ Ext w w' := by
  have := c_Root ⟨2, 1⟩ 10 ⟨(by unfold InI64; decide), (by unfold InI64; decide)⟩ (by unfold InI64; omega) w
  rw [show rootAll ⟨2, 1⟩ 10 = (some (mkRat 7 5, mkRat 3 2), 0) by
    unfold rootAll
    have e : Frac.val ⟨2, 1⟩ = (2 : Rat) := by decide +kernel
    rw [if_pos (by decide +kernel), e, if_neg (by decide +kernel)]
    unfold rootR
    have e1 : rootQ 2 (Int.toNat 10) = 200 := by decide +kernel
    rw [e1, isq_200, if_neg (by decide +kernel)]
    decide +kernel] at this
  exact this
theorem k_In (w : World) : Calls Tryd.prog 39 #[.agg #[.int .i64 (-6), .int .i64 1, .int .i64 10, .int .i64 1], .agg #[.int .i64 10, .int .i64 1]] w fun e w' => e = .returned (.tuple #[.bool true, .int .i64 0]) ∧ Ext w w' := by
  have := c_In ⟨⟨-6, 1⟩, ⟨10, 1⟩⟩ ⟨10, 1⟩ ⟨⟨(by unfold InI64; decide), (by unfold InI64; decide)⟩, ⟨(by unfold InI64; decide), (by unfold InI64; decide)⟩⟩ ⟨(by unfold InI64; decide), (by unfold InI64; decide)⟩ w
  rw [show inR ⟨⟨-6, 1⟩, ⟨10, 1⟩⟩ ⟨10, 1⟩ = (true, 0) by decide +kernel] at this
  exact this
theorem k_is (n d : Int) (w : World) : Calls Tryd.prog 25 #[.agg #[.int .i64 n, .int .i64 d], .int .i64 0, .int .i64 n, .int .i64 d] w fun e w' => e = .returned (.bool true) ∧ Ext w w' := by
  have := c_is ⟨n, d⟩ 0 n d w
  rw [decide_eq_true ⟨rfl, rfl⟩] at this
  exact this
theorem k_from (n d m k : Int) (w : World) : Calls Tryd.prog 35 #[.agg #[.int .i64 n, .int .i64 d, .int .i64 m, .int .i64 k], .int .i64 0, .int .i64 n, .int .i64 d, .int .i64 m, .int .i64 k] w fun e w' => e = .returned (.bool true) ∧ Ext w w' := by
  have := c_from ⟨⟨n, d⟩, ⟨m, k⟩⟩ 0 n d m k w
  rw [decide_eq_true ⟨rfl, rfl⟩] at this
  exact this
end Go.Proofs.YtodoimeiklilhaaDoor

/- The walk of the law's 'alive'. -/
namespace Go.Proofs.YtodoimeiklilhaaDoor
open Go.RowKit Go.Sort

set_option maxRecDepth 100000 in
set_option maxHeartbeats 8000000 in
theorem c_alive (w : World) (hP : Pow w) :
    Calls Tryd.prog 16 #[] w fun e w' => e = .returned (.bool true) ∧ Ext w w' := by
  have PW := Lib.hid hP
  clear hP
  go_enter Tryd.func16, Tryd.ntmps16
  go_wp2_with (first
    | (go_at_call 20; refine (k_Make _).mono ?_; rintro e w1 ⟨rfl, hb1⟩; have A1 := Lib.hid (one_first w1 (.cells #[.int .i64 (-3), .int .i64 2] 23)); have E1 := Lib.hid (Ext.alloc hb1 (.cells #[.int .i64 (-3), .int .i64 2] 23)))
    | (go_at_call 26; refine (k_Add _).mono ?_; rintro e w2 ⟨rfl, hb2⟩; have hc2 := hb2.cell; have hz2 := hb2.size; (try simp at hz2); have y2 : w1.heap.size < w2.heap.size := (by omega); have A2 := Lib.hid (hb2.blk A1.out); have E2 := Lib.hid (E1.out.trans hb2))
    | (go_at_call 23; refine (k_Div _).mono ?_; rintro e w3 ⟨rfl, hb3⟩; have hc3 := hb3.cell; have hz3 := hb3.size; (try simp at hz3); have y3 : w1.heap.size < w3.heap.size := (by omega); have x3 : w2.heap.size < w3.heap.size := (by omega); have E3 := Lib.hid ((E2.out.alloc _).trans hb3))
    | (go_at_call 29; refine (k_Floor _).mono ?_; rintro e w4 ⟨rfl, hb4⟩; have hc4 := hb4.cell; have hz4 := hb4.size; (try simp at hz4); have y4 : w1.heap.size < w4.heap.size := (by omega); have x4 : w2.heap.size < w4.heap.size := (by omega); have v4 : w3.heap.size < w4.heap.size := (by omega); have E4 := Lib.hid ((E3.out.alloc _).trans hb4); have P4 := Lib.hid (PW.out.ext E4.out))
    | (go_at_call 17; refine (k_Text _ P4.out).mono ?_; rintro e w5 ⟨rfl, hb5⟩; have hc5 := hb5.cell; have hz5 := hb5.size; have y5 : w1.heap.size < w5.heap.size := (by omega); have x5 : w2.heap.size < w5.heap.size := (by omega); have v5 : w3.heap.size < w5.heap.size := (by omega); have E5 := Lib.hid (E4.out.trans hb5))
    | (go_at_call 25; with_reducible refine (k_is (-3) 2 _).mono ?_; rintro e w6 ⟨rfl, hb6⟩; have hc6 := hb6.cell; have hz6 := hb6.size; have x6 : w2.heap.size < w6.heap.size := (by omega); have v6 : w3.heap.size < w6.heap.size := (by omega); have E6 := Lib.hid (E5.out.trans hb6))
    | (go_at_call 25; with_reducible refine (k_is 5 6 _).mono ?_; rintro e w7 ⟨rfl, hb7⟩; have hc7 := hb7.cell; have hz7 := hb7.size; have v7 : w3.heap.size < w7.heap.size := (by omega); have E7 := Lib.hid (E6.out.trans hb7))
    | (go_at_call 25; with_reducible refine (k_is (-2) 3 _).mono ?_; rintro e w8 ⟨rfl, hb8⟩; have hz8 := hb8.size; have E8 := Lib.hid (E7.out.trans hb8))
    | (go_at_call 31; with_reducible refine (c_span (-1) 2 _).mono ?_; rintro e w9 ⟨rfl, hb9⟩; have hz9 := hb9.size; have E9 := Lib.hid (E8.out.trans hb9))
    | (go_at_call 31; with_reducible refine (c_span (-3) 5 _).mono ?_; rintro e w10 ⟨rfl, hb10⟩; have hz10 := hb10.size; have E10 := Lib.hid (E9.out.trans hb10))
    | (go_at_call 47; refine (k_MulSpans _).mono ?_; rintro e w11 ⟨rfl, hb11⟩; have hz11 := hb11.size; have E11 := Lib.hid (E10.out.trans hb11))
    | (go_at_call 24; with_reducible refine (c_whole 2 _).mono ?_; rintro e w12 ⟨rfl, hb12⟩; have hc12 := hb12.cell; have hz12 := hb12.size; (try simp at hz12); have y12 : w11.heap.size < w12.heap.size := (by omega); have E12 := Lib.hid ((E11.out.alloc _).trans hb12); have D12 := Lib.hid (hb12.blk (one_first _ _)))
    | (go_at_call 36; refine (k_Root _).mono ?_; rintro e w13 ⟨rfl, hb13⟩; have hc13 := hb13.cell; have hz13 := hb13.size; have y13 : w11.heap.size < w13.heap.size := (by omega); have E13 := Lib.hid (E12.out.trans hb13); have D13 := Lib.hid (hb13.blk D12.out)))
  have D14 := Lib.hid ((blk_past w13 (.cells #[.int .i64 7, .int .i64 5, .int .i64 3, .int .i64 2] 41) y13).trans D13.out)
  have R14 := Lib.hid (one_first w13 (.cells #[.int .i64 7, .int .i64 5, .int .i64 3, .int .i64 2] 41))
  have E14 := Lib.hid (E13.out.alloc (.cells #[.int .i64 7, .int .i64 5, .int .i64 3, .int .i64 2] 41))
  generalize w13.alloc (.cells #[.int .i64 7, .int .i64 5, .int .i64 3, .int .i64 2] 41) = w14 at D14 R14 E14 ⊢
  generalize w13.heap.size = B13 at R14 ⊢
  generalize w11.heap.size = B11 at D14 ⊢
  have y14 : B11 < w14.heap.size := (Array.getElem?_eq_some_iff.1 D14.out).1
  have x14 : B13 < w14.heap.size := (Array.getElem?_eq_some_iff.1 R14.out).1
  obtain ⟨⟨d0, d1, d2, d3⟩, -⟩ := run_four D14.out
  clear hc2 hz2 y2 hc3 hz3 y3 x3 hc4 hz4 y4 x4 v4 hc5 hz5 y5 x5 v5 hc6 hz6 x6 v6 hc7 hz7 v7 hz8 hz9 hz10 hz11 hc12 hz12 y12 hc13 hz13 y13 A1 E1 A2 E2 E3 E4 P4 E5 E6 E7 E8 E9 E10 E11 E12 D12 E13 D13
  clear hb1 hb2 hb3 hb4 hb5 hb6 hb7 hb8 hb9 hb10 hb11 hb12 hb13
  refine wp_region_quiet_below (by kernel_rfl) (by kernel_rfl) ?_
  repeat (go_big_quiet_step ((first | (go_at_call 24; with_reducible exact Calls.ext_of (c_whole 10 _)) | (go_at_call 39; with_reducible exact Calls.ext_of (k_In _)))))
  refine wpQuiet_nil ?_
  intro _ hw'
  obtain ⟨⟨dq, osq⟩, hw''⟩ := hw'
  subst hw''
  have E15 := Lib.hid (ext_grow E14.out dq osq)
  have D15 := Lib.hid ((Ext.grow w14 dq osq).blk D14.out)
  have R15 := Lib.hid ((Ext.grow w14 dq osq).blk R14.out)
  have y15 : B11 < (grow (redrawn w14 dq) osq).heap.size := (Array.getElem?_eq_some_iff.1 D15.out).1
  have x15 : B13 < (grow (redrawn w14 dq) osq).heap.size := (Array.getElem?_eq_some_iff.1 R15.out).1
  generalize grow (redrawn w14 dq) osq = w15 at E15 D15 R15 y15 x15 ⊢
  obtain ⟨⟨e0, e1, e2, e3⟩, -⟩ := run_four D15.out
  obtain ⟨⟨f0, f1, f2, f3⟩, -⟩ := run_four R15.out
  go_wp2_with (first
    | (go_at_call 35; with_reducible refine (k_from (-6) 1 10 1 _).mono ?_; rintro e w16 ⟨rfl, hb16⟩; have hc16 := hb16.cell; have hz16 := hb16.size; have x16 : B13 < w16.heap.size := (by omega); have E16 := Lib.hid (E15.out.trans hb16))
    | (go_at_call 35; with_reducible refine (k_from 7 5 3 2 _).mono ?_; rintro e w17 ⟨rfl, hb17⟩; have E17 := Lib.hid (E16.out.trans hb17)))
  go_ret
  exact ⟨ret_bool rfl, E17.out⟩
end Go.Proofs.YtodoimeiklilhaaDoor

/- The frame of a law whose row lists tables: a function of plain data that returns true and leaves what was there as it was. -/
namespace Go.Proofs.YtodoimeiklilhaaDoor
open Go.RowKit Go.Sort Go.ChangeShapes Go.WideShapes Go.ChangeAt

theorem own : ownKnob Tryd.prog.godebug = none := by kernel_rfl
theorem laidOut : laidOutB Tryd.prog = true := by kernel_rfl
theorem trodAll_ext {H : Type} {enc : TypeId × Value → H} {P : Program} (hl : laidOutB P = true) {W W' : World} (hb : Ext W W') :
    ∀ (ts : List TypeId) (vs : List Value) (ds : List (DataW H)) (ps : List MemPlace), (∀ t ∈ ts, P.readableRec t = true ∧ t < P.types.size) →
      DataW.TrodAll enc P W 0 (fun _ => true) true ts vs ds ps → DataW.TrodAll enc P W' 0 (fun b => decide (b < W.heap.size)) true ts vs ds ps
  | [], vs, ds, ps, _, h => by
    obtain ⟨rfl, rfl, rfl⟩ := trodAll_nil h
    exact trodAll_mk0
  | t :: ts, vs, ds, ps, hr, h => by
    obtain ⟨v, vs', d, ds', p, q, rfl, rfl, rfl, hd, hrest⟩ := trodAll_cons h
    have ht := hr t (by simp)
    have k := hd
    have lt : ∀ x ∈ p, x.block < W.heap.size := by obtain ⟨m, hm⟩ := k; exact DataW.trod_lt m _ _ _ hm
    exact trodAll_cons_mk (Below.trod hl ht.1 ht.2 hd hb lt) (trodAll_ext hl hb ts vs' ds' q (fun t' h' => hr t' (by simp [h'])) hrest)
/-- the tables that every row of this seat lists -/
abbrev laidB : List (String × DataW Unit) := [("math/bits.deBruijn32tab", Rows.laid_math_bits_deBruijn32tab), ("math/bits.deBruijn64tab", Rows.laid_math_bits_deBruijn64tab), ("internal/strconv.uint64pow10", Rows.laid_internal_strconv_uint64pow10)]
theorem pow_of {W : World} (h : laidMet Tryd.prog laidB W) : Pow W := by
  have h2 : laidMet Tryd.prog [("internal/strconv.uint64pow10", Lib.tabData .u64 Lib.pow10Tab)] W := by
    have := laidMet.filter (fun x => x.1 == "internal/strconv.uint64pow10") h
    rw [show laidB.filter (fun x => x.1 == "internal/strconv.uint64pow10") = [("internal/strconv.uint64pow10", Lib.tabData .u64 Lib.pow10Tab)] by kernel_rfl] at this
    exact this
  exact Lib.tabIs_of_head (g := 5) (t := 148) (e := 80) (n := 20) (by kernel_rfl) (by kernel_rfl) (by kernel_rfl) (by kernel_rfl) (by kernel_rfl) (by kernel_rfl) h2
set_option maxRecDepth 100000 in
theorem law_returns {os : Os} (started : os.Started) {f : FuncId} {fn : Func} {s : ChangeSpec} {H : Type} {enc : TypeId × Value → H} {tb : TypeId} (L : List (String × DataW Unit))
    (noInit : Tryd.prog.inits.idxOf? f = none) (hfn : Tryd.prog.funcs[f]? = some fn)
    (hrt : fn.resultTypes = #[tb]) (hbool : Tryd.prog.underlying tb = some .bool) (hvars : s.vars = [])
    (hs : ∀ ds : List (DataW H), ds.length = fn.params.toList.length → (s.fn H (ds ++ [])).results = [.lit (.bool true)] ∧ (s.fn H (ds ++ [])).args = ds ∧ (s.fn H (ds ++ [])).vars = [])
    (hread : ∀ t ∈ fn.params.toList, Tryd.prog.readableRec t = true ∧ t < Tryd.prog.types.size)
    (witness : ∃ (w : World) (tape : Tape) (i : Input), w.os = os ∧ (w.forCall tape i).Shaped Tryd.checked.prog ∧ i.vars = [] ∧ Input.okWide Tryd.checked.prog (w.forCall tape i) .any w.heap.size f i ∧
      ((s.pre enc Tryd.checked.prog fn [] false (w.forCall tape i).memory i.args ∧ laidMetH Tryd.prog L (w.forCall tape i).memory) ∧ sizedMet enc Tryd.checked.prog fn (OpenSpec.ofChange s) false (w.forCall tape i).memory i.args) ∧ ({} : Assume).holds Tryd.checked.prog (lone (Frame.enter Tryd.checked.prog f i.args .normal) [] (w.forCall tape i)))
    (walk : ∀ (W : World) (base : Nat) (args : Array Value) (ds : List (DataW H)) (p : List MemPlace),
      (∀ (j : Nat) t v, fn.params[j]? = some t → args[j]? = some v → Value.okWide Tryd.prog W .any base t v) →
      DataW.TrodAll enc Tryd.prog W 0 (fun _ => true) true fn.params.toList args.toList ds p → laidMetH Tryd.prog L W →
      Calls Tryd.prog f args W fun e W' => e = .returned (.bool true) ∧ Ext W W') :
    ReturnsInHanded {} Tryd.checked os f .any (fun w args => (s.pre enc Tryd.prog fn [] false w args ∧ laidMetH Tryd.prog L w) ∧ sizedMet enc Tryd.prog fn (OpenSpec.ofChange s) false w args) (s.post enc Tryd.prog fn false true false false) := by
  refine returnsInHanded_of_change_and (C := Tryd.checked) (X := fun w _ => laidMetH Tryd.prog L w) (fun _ _ _ hh h => h.of_heap hh) own started noInit hfn witness ?_
  intro W base args ds gs before hval hW _ _ hL _
  have hW' := hW
  obtain ⟨p, q, hA, hV, rfl, hfz, hnd⟩ := hW
  rw [hvars] at hV
  obtain ⟨rfl, rfl⟩ := trodVars_none hV
  refine (walk W base args ds p hval hA hL).mono ?_
  rintro e W' ⟨rfl, hb⟩
  have hlen : ∀ (ts : List TypeId) (vs : List Value) (ds : List (DataW H)) (ps : List MemPlace), DataW.TrodAll enc Tryd.prog W 0 (fun _ => true) true ts vs ds ps → ds.length = ts.length := by
    intro ts
    induction ts with
    | nil => intro vs ds ps h; obtain ⟨_, rfl, _⟩ := trodAll_nil h; rfl
    | cons t ts ih =>
      intro vs ds ps h
      obtain ⟨v, vs', d, ds', p, q, rfl, rfl, rfl, hd, hrest⟩ := trodAll_cons h
      simp [ih _ _ _ hrest]
  obtain ⟨h1, h2, h3⟩ := hs ds (hlen _ _ _ _ hA)
  refine ⟨_, rfl, ds, [], _, [], p, [], hW', ?_, ?_, ?_, hb.frame _, fun h => by cases h⟩
  · rw [h1, hrt]
    exact trodAll_mk1 (shut_bool hbool _)
  · rw [h2]
    exact trodAll_ext laidOut hb _ _ _ _ hread hA
  · rw [h3, hvars]
    exact rfl
/-- the world in which the tables lie -/
theorem shaped0 (os : Os) : (World.laidAll Tryd.prog os laidB).os = os := World.laidAll_os _ _ _
theorem met0 (os : Os) (args : Array Value) : laidMetH Tryd.prog laidB ((World.laidAll Tryd.prog os laidB).forCall (fun _ _ => 0) ⟨#[], args, []⟩).memory := by
  rw [MakeChecks.laidMetH_plain _ _ _ (by kernel_rfl)]
  exact laidMet_laidAll _ (by kernel_rfl) (by kernel_rfl)
theorem pow_ofH {W : World} (h : laidMetH Tryd.prog laidB W) : Pow W := by
  rw [MakeChecks.laidMetH_plain _ _ _ (by kernel_rfl)] at h
  exact pow_of h
end Go.Proofs.YtodoimeiklilhaaDoor

/- What comes in as a fraction, an enclosure, a number. -/
namespace Go.Proofs.YtodoimeiklilhaaDoor
open Go.RowKit Go.Sort Go.ChangeShapes Go.WideShapes Go.ChangeAt

theorem cells_int : Tryd.prog.cellsOf 3 = 1 := by kernel_rfl
theorem cells_frac : Tryd.prog.cellsOf 23 = 2 := by kernel_rfl
theorem cells_span : Tryd.prog.cellsOf 41 = 4 := by kernel_rfl
theorem wf_in {n : Int} (w0 : (Lit.int .i64 n).wf = true) : InI64 n := by simpa [Lit.wf, IntKind.min, IntKind.max, IntKind.signed, IntKind.bits, InI64] using w0
theorem wf_u8 {n : Int} (w0 : (Lit.int .u8 n).wf = true) : 0 ≤ n ∧ n < 256 := by
  simp [Lit.wf, IntKind.min, IntKind.max, IntKind.signed, IntKind.bits] at w0
  omega
theorem two_list {α : Type} {l : List α} {a b : α} (h : l.length = 2) (h0 : (l.drop 0).take 1 = [a]) (h1 : (l.drop 1).take 1 = [b]) : l = [a, b] := by
  match l, h with
  | [x, y], _ => simp at h0 h1; simp [h0, h1]
theorem four_list {α : Type} {l : List α} {a b c d : α} (h : l.length = 4) (h0 : (l.drop 0).take 2 = [a, b]) (h1 : (l.drop 2).take 2 = [c, d]) : l = [a, b, c, d] := by
  match l, h with
  | [x, y, z, t], _ => simp at h0 h1; simp [h0, h1]
set_option maxRecDepth 100000 in
theorem trod_frac {H : Type} {enc : TypeId × Value → H} {W : World} {spare : Nat → Bool} {n : Nat} {cs : List Value} {y : DataW H × List MemPlace} (h : DataW.trod enc Tryd.prog W 0 spare true n 23 cs = some y) :
    ∃ a : Frac, cs = [.int .i64 a.num, .int .i64 a.den] ∧ a.wide := by
  obtain ⟨y0, y1, m, -, hl, h0, h1⟩ := trod_struct2 Tryd.underlying23 h
  obtain ⟨a, ha, -, wa⟩ := DataW.trod_int Tryd.underlying3 h0
  obtain ⟨b, hb, -, wb⟩ := DataW.trod_int Tryd.underlying3 h1
  rw [cells_frac] at hl
  simp only [cells_int] at ha hb
  exact ⟨⟨a, b⟩, two_list hl ha hb, wf_in wa, wf_in wb⟩
set_option maxRecDepth 100000 in
theorem open_frac {H : Type} {enc : TypeId × Value → H} {W : World} {base : Nat} {v : Value} {d : DataW H} {p : List MemPlace}
    (hv : Value.okWide Tryd.prog W .any base 23 v) (h : DataW.Trod enc Tryd.prog W 0 (fun _ => true) true 23 v d p) : ∃ a : Frac, v = fracV a ∧ a.wide := by
  obtain ⟨cs, rfl, -⟩ := okWide_struct Tryd.underlying23 hv
  obtain ⟨fuel, hf⟩ := h
  obtain ⟨a, ha, wa⟩ := trod_frac hf
  exact ⟨a, congrArg Value.agg (Array.toList_inj.1 ha), wa⟩
set_option maxRecDepth 100000 in
theorem open_span {H : Type} {enc : TypeId × Value → H} {W : World} {base : Nat} {v : Value} {d : DataW H} {p : List MemPlace}
    (hv : Value.okWide Tryd.prog W .any base 41 v) (h : DataW.Trod enc Tryd.prog W 0 (fun _ => true) true 41 v d p) : ∃ a : Span, v = fspanV a ∧ a.wide := by
  obtain ⟨cs, rfl, -⟩ := okWide_struct Tryd.underlying41 hv
  obtain ⟨fuel, hf⟩ := h
  obtain ⟨y0, y1, m, -, hl, h0, h1⟩ := trod_struct2 Tryd.underlying41 hf
  obtain ⟨a, ha, wa⟩ := trod_frac h0
  obtain ⟨b, hb, wb⟩ := trod_frac h1
  have hl' : cs.toList.length = 4 := hl.trans cells_span
  refine ⟨⟨a, b⟩, congrArg Value.agg (Array.toList_inj.1 ?_), wa, wb⟩
  simp only [cells_frac] at ha hb
  exact four_list hl' ha hb
theorem trodAll_five {H : Type} {enc : TypeId × Value → H} {P : Program} {w : World} {base : Nat} {spare : Nat → Bool} {held : Bool} {t t' t'' t3 t4 : TypeId} {args : Array Value} {ds : List (DataW H)} {ps : List MemPlace} (h : DataW.TrodAll enc P w base spare held [t, t', t'', t3, t4] args.toList ds ps) :
    ∃ v v' v'' v3 v4 d d' d'' d3 d4 p p' p'' p3 p4, args = #[v, v', v'', v3, v4] ∧ ds = [d, d', d'', d3, d4] ∧ ps = p ++ p' ++ p'' ++ p3 ++ p4 ∧ DataW.Trod enc P w base spare held t v d p ∧ DataW.Trod enc P w base spare held t' v' d' p' ∧ DataW.Trod enc P w base spare held t'' v'' d'' p'' ∧ DataW.Trod enc P w base spare held t3 v3 d3 p3 ∧ DataW.Trod enc P w base spare held t4 v4 d4 p4 := by
  obtain ⟨v, vs, d, ds', p, q, hargs, rfl, rfl, hd, hrest⟩ := trodAll_cons h
  obtain ⟨v', vs', d', ds'', p', q', rfl, rfl, rfl, hd', hrest'⟩ := trodAll_cons hrest
  obtain ⟨v'', vs'', d'', ds''', p'', q'', rfl, rfl, rfl, hd'', hrest''⟩ := trodAll_cons hrest'
  obtain ⟨v3, vs3, d3, ds3, p3, q3, rfl, rfl, rfl, hd3, hrest3⟩ := trodAll_cons hrest''
  obtain ⟨v4, vs4, d4, ds4, p4, q4, rfl, rfl, rfl, hd4, hrest4⟩ := trodAll_cons hrest3
  obtain ⟨rfl, rfl, rfl⟩ := trodAll_nil hrest4
  exact ⟨v, v', v'', v3, v4, d, d', d'', d3, d4, p, p', p'', p3, p4, by cases args; simp_all, rfl, by simp, hd, hd', hd'', hd3, hd4⟩
end Go.Proofs.YtodoimeiklilhaaDoor
