/- The walk of the law's 'alive'. -/
import Derived.Test.YtodoimeiklilhaaDoorAliveVals
set_option linter.unusedVariables false
set_option linter.unusedSimpArgs false
namespace Go.Proofs.YtodoimeiklilhaaDoor
open Go.RowKit Go.Sort

set_option maxRecDepth 100000 in
set_option maxHeartbeats 8000000 in
theorem c_alive (w : World) (hP : Pow w) :
    Calls Tryd.prog 16 #[] w fun e w' => e = .returned (.bool true) ∧ Ext w w' := by
  have PW := Lib.hid hP
  clear hP
  go_enter Tryd.func16, Tryd.ntmps16
  go_wp2_with (first
    | (go_at_call 20; refine (k_Make _).mono ?_; rintro e w1 ⟨rfl, hb1⟩; have A1 := Lib.hid (one_first w1 (.cells #[.int .i64 (-3), .int .i64 2] 23)); have E1 := Lib.hid (Ext.alloc hb1 (.cells #[.int .i64 (-3), .int .i64 2] 23)))
    | (go_at_call 26; refine (k_Add _).mono ?_; rintro e w2 ⟨rfl, hb2⟩; have hc2 := hb2.cell; have hz2 := hb2.size; (try simp at hz2); have y2 : w1.heap.size < w2.heap.size := (by omega); have A2 := Lib.hid (hb2.blk A1.out); have E2 := Lib.hid (E1.out.trans hb2))
    | (go_at_call 23; refine (k_Div _).mono ?_; rintro e w3 ⟨rfl, hb3⟩; have hc3 := hb3.cell; have hz3 := hb3.size; (try simp at hz3); have y3 : w1.heap.size < w3.heap.size := (by omega); have x3 : w2.heap.size < w3.heap.size := (by omega); have E3 := Lib.hid ((E2.out.alloc _).trans hb3))
    | (go_at_call 29; refine (k_Floor _).mono ?_; rintro e w4 ⟨rfl, hb4⟩; have hc4 := hb4.cell; have hz4 := hb4.size; (try simp at hz4); have y4 : w1.heap.size < w4.heap.size := (by omega); have x4 : w2.heap.size < w4.heap.size := (by omega); have v4 : w3.heap.size < w4.heap.size := (by omega); have E4 := Lib.hid ((E3.out.alloc _).trans hb4); have P4 := Lib.hid (PW.out.ext E4.out))
    | (go_at_call 17; refine (k_Text _ P4.out).mono ?_; rintro e w5 ⟨rfl, hb5⟩; have hc5 := hb5.cell; have hz5 := hb5.size; have y5 : w1.heap.size < w5.heap.size := (by omega); have x5 : w2.heap.size < w5.heap.size := (by omega); have v5 : w3.heap.size < w5.heap.size := (by omega); have E5 := Lib.hid (E4.out.trans hb5))
    | (go_at_call 25; with_reducible refine (k_is (-3) 2 _).mono ?_; rintro e w6 ⟨rfl, hb6⟩; have hc6 := hb6.cell; have hz6 := hb6.size; have x6 : w2.heap.size < w6.heap.size := (by omega); have v6 : w3.heap.size < w6.heap.size := (by omega); have E6 := Lib.hid (E5.out.trans hb6))
    | (go_at_call 25; with_reducible refine (k_is 5 6 _).mono ?_; rintro e w7 ⟨rfl, hb7⟩; have hc7 := hb7.cell; have hz7 := hb7.size; have v7 : w3.heap.size < w7.heap.size := (by omega); have E7 := Lib.hid (E6.out.trans hb7))
    | (go_at_call 25; with_reducible refine (k_is (-2) 3 _).mono ?_; rintro e w8 ⟨rfl, hb8⟩; have hz8 := hb8.size; have E8 := Lib.hid (E7.out.trans hb8))
    | (go_at_call 31; with_reducible refine (c_span (-1) 2 _).mono ?_; rintro e w9 ⟨rfl, hb9⟩; have hz9 := hb9.size; have E9 := Lib.hid (E8.out.trans hb9))
    | (go_at_call 31; with_reducible refine (c_span (-3) 5 _).mono ?_; rintro e w10 ⟨rfl, hb10⟩; have hz10 := hb10.size; have E10 := Lib.hid (E9.out.trans hb10))
    | (go_at_call 47; refine (k_MulSpans _).mono ?_; rintro e w11 ⟨rfl, hb11⟩; have hz11 := hb11.size; have E11 := Lib.hid (E10.out.trans hb11))
    | (go_at_call 24; with_reducible refine (c_whole 2 _).mono ?_; rintro e w12 ⟨rfl, hb12⟩; have hc12 := hb12.cell; have hz12 := hb12.size; (try simp at hz12); have y12 : w11.heap.size < w12.heap.size := (by omega); have E12 := Lib.hid ((E11.out.alloc _).trans hb12); have D12 := Lib.hid (hb12.blk (one_first _ _)))
    | (go_at_call 36; refine (k_Root _).mono ?_; rintro e w13 ⟨rfl, hb13⟩; have hc13 := hb13.cell; have hz13 := hb13.size; have y13 : w11.heap.size < w13.heap.size := (by omega); have E13 := Lib.hid (E12.out.trans hb13); have D13 := Lib.hid (hb13.blk D12.out)))
  have D14 := Lib.hid ((blk_past w13 (.cells #[.int .i64 7, .int .i64 5, .int .i64 3, .int .i64 2] 41) y13).trans D13.out)
  have R14 := Lib.hid (one_first w13 (.cells #[.int .i64 7, .int .i64 5, .int .i64 3, .int .i64 2] 41))
  have E14 := Lib.hid (E13.out.alloc (.cells #[.int .i64 7, .int .i64 5, .int .i64 3, .int .i64 2] 41))
  generalize w13.alloc (.cells #[.int .i64 7, .int .i64 5, .int .i64 3, .int .i64 2] 41) = w14 at D14 R14 E14 ⊢
  generalize w13.heap.size = B13 at R14 ⊢
  generalize w11.heap.size = B11 at D14 ⊢
  have y14 : B11 < w14.heap.size := (Array.getElem?_eq_some_iff.1 D14.out).1
  have x14 : B13 < w14.heap.size := (Array.getElem?_eq_some_iff.1 R14.out).1
  obtain ⟨⟨d0, d1, d2, d3⟩, -⟩ := run_four D14.out
  clear hc2 hz2 y2 hc3 hz3 y3 x3 hc4 hz4 y4 x4 v4 hc5 hz5 y5 x5 v5 hc6 hz6 x6 v6 hc7 hz7 v7 hz8 hz9 hz10 hz11 hc12 hz12 y12 hc13 hz13 y13 A1 E1 A2 E2 E3 E4 P4 E5 E6 E7 E8 E9 E10 E11 E12 D12 E13 D13
  clear hb1 hb2 hb3 hb4 hb5 hb6 hb7 hb8 hb9 hb10 hb11 hb12 hb13
  refine wp_region_quiet_below (by kernel_rfl) (by kernel_rfl) ?_
  repeat (go_big_quiet_step ((first | (go_at_call 24; with_reducible exact Calls.ext_of (c_whole 10 _)) | (go_at_call 39; with_reducible exact Calls.ext_of (k_In _)))))
  refine wpQuiet_nil ?_
  intro _ hw'
  obtain ⟨⟨dq, osq⟩, hw''⟩ := hw'
  subst hw''
  have E15 := Lib.hid (ext_grow E14.out dq osq)
  have D15 := Lib.hid ((Ext.grow w14 dq osq).blk D14.out)
  have R15 := Lib.hid ((Ext.grow w14 dq osq).blk R14.out)
  have y15 : B11 < (grow (redrawn w14 dq) osq).heap.size := (Array.getElem?_eq_some_iff.1 D15.out).1
  have x15 : B13 < (grow (redrawn w14 dq) osq).heap.size := (Array.getElem?_eq_some_iff.1 R15.out).1
  generalize grow (redrawn w14 dq) osq = w15 at E15 D15 R15 y15 x15 ⊢
  obtain ⟨⟨e0, e1, e2, e3⟩, -⟩ := run_four D15.out
  obtain ⟨⟨f0, f1, f2, f3⟩, -⟩ := run_four R15.out
  go_wp2_with (first
    | (go_at_call 35; with_reducible refine (k_from (-6) 1 10 1 _).mono ?_; rintro e w16 ⟨rfl, hb16⟩; have hc16 := hb16.cell; have hz16 := hb16.size; have x16 : B13 < w16.heap.size := (by omega); have E16 := Lib.hid (E15.out.trans hb16))
    | (go_at_call 35; with_reducible refine (k_from 7 5 3 2 _).mono ?_; rintro e w17 ⟨rfl, hb17⟩; have E17 := Lib.hid (E16.out.trans hb17)))
  go_ret
  exact ⟨ret_bool rfl, E17.out⟩
end Go.Proofs.YtodoimeiklilhaaDoor
