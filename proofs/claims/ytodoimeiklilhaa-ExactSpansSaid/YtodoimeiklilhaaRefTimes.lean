/- The walks of the reference's Times and Over. -/
import Derived.Test.YtodoimeiklilhaaRefOps
import Derived.Test.YtodoimeiklilhaaGRef
set_option linter.unusedVariables false
set_option linter.unusedSimpArgs false
namespace Go.Proofs.Ytodoimeiklilhaa
open Go.RowKit Go.Sort

set_option maxRecDepth 100000 in
set_option maxHeartbeats 8000000 in
theorem times_walk (a1 a2 b1 b2 s1 s2 rn rd : Int) (N1 N2 D1 D2 X Y : Nat) (t : Bool) (w : World) (l1 : -1 ≤ s1 * s2) (l2 : s1 * s2 ≤ 1)
    (k1 : ∀ w, Calls Try.prog 40 #[.int .i64 a1] w fun E w' => E = .returned (.int .i64 s1) ∧ Ext w w')
    (k2 : ∀ w, Calls Try.prog 40 #[.int .i64 b1] w fun E w' => E = .returned (.int .i64 s2) ∧ Ext w w')
    (k3 : ∀ w, Calls Try.prog 41 #[.int .i64 a1] w fun E w' => E = .returned (.int .u64 (N1 : Int)) ∧ Ext w w')
    (k4 : ∀ w, Calls Try.prog 41 #[.int .i64 b1] w fun E w' => E = .returned (.int .u64 (N2 : Int)) ∧ Ext w w')
    (k5 : ∀ w, Calls Try.prog 41 #[.int .i64 a2] w fun E w' => E = .returned (.int .u64 (D1 : Int)) ∧ Ext w w')
    (k6 : ∀ w, Calls Try.prog 41 #[.int .i64 b2] w fun E w' => E = .returned (.int .u64 (D2 : Int)) ∧ Ext w w')
    (k7 : ∀ w, Calls Try.prog 70 #[.int .u64 (N1 : Int), .int .u64 (N2 : Int)] w fun E w' => E = .returned (pairV X) ∧ Ext w w')
    (k8 : ∀ w, Calls Try.prog 70 #[.int .u64 (D1 : Int), .int .u64 (D2 : Int)] w fun E w' => E = .returned (pairV Y) ∧ Ext w w')
    (k9 : ∀ w, Calls Try.prog 39 #[.int .i64 (s1 * s2), pairV X, pairV Y] w fun E w' => E = .returned (.tuple #[.agg #[.int .i64 rn, .int .i64 rd], .bool t]) ∧ Ext w w') :
    Calls Try.prog 52 #[fracV ⟨a1, a2⟩, fracV ⟨b1, b2⟩] w fun E w' => E = .returned (.tuple #[fracV ⟨rn, rd⟩, .bool t]) ∧ Ext w w' := by
  have K1 := Lib.hid k1
  have K2 := Lib.hid k2
  have K3 := Lib.hid k3
  have K4 := Lib.hid k4
  have K5 := Lib.hid k5
  have K6 := Lib.hid k6
  have K7 := Lib.hid k7
  have K8 := Lib.hid k8
  have K9 := Lib.hid k9
  clear k1 k2 k3 k4 k5 k6 k7 k8 k9
  go_enter Try.func52, Try.ntmps52
  go_wp2
  refine RT.region_store (aq := ?aqs1) (n := 24) (sp := 4) (vx := 28) (b0 := w.heap.size + 1 + 1) (oz := .cells #[.int .i64 0, .int .i64 0] 23) (ox := .cells #[.int .i64 rn, .int .i64 rd] 23) (qs1 := [_, _, _, _, _, _, _, _, _, _, _, _, _, _, _, _, _, _, _, _, _, _, _, _]) (qs2 := [_]) (wb := w) (fun v => At v [(w.heap.size, Obj.cells #[.int .i64 a1, .int .i64 a2] 23), (w.heap.size + 1, Obj.cells #[.int .i64 b1, .int .i64 b2] 23)]) (by kernel_rfl) rfl (by kernel_rfl) (by kernel_rfl) rfl rfl (by kernel_rfl) (by kernel_rfl) rfl ?_ ?_ ?_ ?_ ?_ ?_ ?_ ?_ ?_
  rotate_left
  · exact three_third _ _ _ _
  · exact (by repeat (first | exact Ext.refl _ | assumption | refine Ext.alloc ?_ _ | refine Ext.drewN ?_ _ | refine ext_grow ?_ _ _ | refine Ext.setCell ?_ (by first | exact Nat.le_refl _ | omega | (simp; done) | (simp; omega)) _ | refine Ext.trans ?_ (by assumption)))
  · omega
  · exact At.drew ⟨three_first _ _ _ _, three_second _ _ _ _, trivial⟩
  · exact fun _ _ h hE => h.ext hE
  · exact fun _ _ h k => h.other k (by simp; omega)
  · intro w1 hF
    obtain ⟨c0, c1, -, -⟩ := run_pair (At.at hF 0 rfl)
    obtain ⟨d0, d1, -, -⟩ := run_pair (At.at hF 1 rfl)
    have v0 : w.heap.size < w1.heap.size := At.lt hF 0 rfl
    have v1 : w.heap.size + 1 < w1.heap.size := At.lt hF 1 rfl
    clear hF
    simp only [List.cons_append, List.nil_append]
    repeat (go_big_quiet_step ((first | (go_at_call 40; with_reducible exact Calls.ext_of (K1.out _)) | (go_at_call 40; with_reducible exact Calls.ext_of (K2.out _)) | (go_at_call 41; with_reducible exact Calls.ext_of (K3.out _)) | (go_at_call 41; with_reducible exact Calls.ext_of (K4.out _)) | (go_at_call 41; with_reducible exact Calls.ext_of (K5.out _)) | (go_at_call 41; with_reducible exact Calls.ext_of (K6.out _)) | (go_at_call 70; with_reducible exact Calls.ext_of (K7.out _)) | (go_at_call 70; with_reducible exact Calls.ext_of (K8.out _)) | (go_at_call 39; with_reducible exact Calls.ext_of (K9.out _)))))
    refine wpQuiet_nil ?_
    exact rfl
  · intro e w h1 h2 h3
    obtain ⟨c0, c1, f0, f1⟩ := run_pair h3
    have h2' : e (.tmp 28) = .agg #[.int .i64 rn, .int .i64 rd] := h2
    apply Exists.intro
    apply And.intro
    · simp [execOp, go_sem, Try.underlying23, h1, h2', c0, c1, f0, f1]
      exact rfl
    · exact store_pair h3
  · intro w' _ hE hX
    go_wp2
    refine bodyPost_ret (RT.results_row2 rfl _ _ (w.heap.size + 1 + 1) 23 #[.int .i64 rn, .int .i64 rd] (0, 0) _ rfl hX Try.underlying23 rfl info_frac) rfl ?_
    exact ⟨rfl, hE⟩
set_option maxRecDepth 100000 in
set_option maxHeartbeats 8000000 in
theorem over_walk (a1 a2 b1 b2 s1 s2 rn rd : Int) (N1 N2 D1 D2 X Y : Nat) (t : Bool) (w : World) (l1 : -1 ≤ s1 * s2) (l2 : s1 * s2 ≤ 1)
    (k1 : ∀ w, Calls Try.prog 40 #[.int .i64 a1] w fun E w' => E = .returned (.int .i64 s1) ∧ Ext w w')
    (k2 : ∀ w, Calls Try.prog 40 #[.int .i64 b1] w fun E w' => E = .returned (.int .i64 s2) ∧ Ext w w')
    (k3 : ∀ w, Calls Try.prog 41 #[.int .i64 a1] w fun E w' => E = .returned (.int .u64 (N1 : Int)) ∧ Ext w w')
    (k4 : ∀ w, Calls Try.prog 41 #[.int .i64 b1] w fun E w' => E = .returned (.int .u64 (N2 : Int)) ∧ Ext w w')
    (k5 : ∀ w, Calls Try.prog 41 #[.int .i64 a2] w fun E w' => E = .returned (.int .u64 (D1 : Int)) ∧ Ext w w')
    (k6 : ∀ w, Calls Try.prog 41 #[.int .i64 b2] w fun E w' => E = .returned (.int .u64 (D2 : Int)) ∧ Ext w w')
    (k7 : ∀ w, Calls Try.prog 70 #[.int .u64 (N1 : Int), .int .u64 (D2 : Int)] w fun E w' => E = .returned (pairV X) ∧ Ext w w')
    (k8 : ∀ w, Calls Try.prog 70 #[.int .u64 (D1 : Int), .int .u64 (N2 : Int)] w fun E w' => E = .returned (pairV Y) ∧ Ext w w')
    (k9 : ∀ w, Calls Try.prog 39 #[.int .i64 (s1 * s2), pairV X, pairV Y] w fun E w' => E = .returned (.tuple #[.agg #[.int .i64 rn, .int .i64 rd], .bool t]) ∧ Ext w w') :
    Calls Try.prog 54 #[fracV ⟨a1, a2⟩, fracV ⟨b1, b2⟩] w fun E w' => E = .returned (.tuple #[fracV ⟨rn, rd⟩, .bool t]) ∧ Ext w w' := by
  have K1 := Lib.hid k1
  have K2 := Lib.hid k2
  have K3 := Lib.hid k3
  have K4 := Lib.hid k4
  have K5 := Lib.hid k5
  have K6 := Lib.hid k6
  have K7 := Lib.hid k7
  have K8 := Lib.hid k8
  have K9 := Lib.hid k9
  clear k1 k2 k3 k4 k5 k6 k7 k8 k9
  go_enter Try.func54, Try.ntmps54
  go_wp2
  refine RT.region_store (aq := ?aqs2) (n := 24) (sp := 4) (vx := 28) (b0 := w.heap.size + 1 + 1) (oz := .cells #[.int .i64 0, .int .i64 0] 23) (ox := .cells #[.int .i64 rn, .int .i64 rd] 23) (qs1 := [_, _, _, _, _, _, _, _, _, _, _, _, _, _, _, _, _, _, _, _, _, _, _, _]) (qs2 := [_]) (wb := w) (fun v => At v [(w.heap.size, Obj.cells #[.int .i64 a1, .int .i64 a2] 23), (w.heap.size + 1, Obj.cells #[.int .i64 b1, .int .i64 b2] 23)]) (by kernel_rfl) rfl (by kernel_rfl) (by kernel_rfl) rfl rfl (by kernel_rfl) (by kernel_rfl) rfl ?_ ?_ ?_ ?_ ?_ ?_ ?_ ?_ ?_
  rotate_left
  · exact three_third _ _ _ _
  · exact (by repeat (first | exact Ext.refl _ | assumption | refine Ext.alloc ?_ _ | refine Ext.drewN ?_ _ | refine ext_grow ?_ _ _ | refine Ext.setCell ?_ (by first | exact Nat.le_refl _ | omega | (simp; done) | (simp; omega)) _ | refine Ext.trans ?_ (by assumption)))
  · omega
  · exact At.drew ⟨three_first _ _ _ _, three_second _ _ _ _, trivial⟩
  · exact fun _ _ h hE => h.ext hE
  · exact fun _ _ h k => h.other k (by simp; omega)
  · intro w1 hF
    obtain ⟨c0, c1, -, -⟩ := run_pair (At.at hF 0 rfl)
    obtain ⟨d0, d1, -, -⟩ := run_pair (At.at hF 1 rfl)
    have v0 : w.heap.size < w1.heap.size := At.lt hF 0 rfl
    have v1 : w.heap.size + 1 < w1.heap.size := At.lt hF 1 rfl
    clear hF
    simp only [List.cons_append, List.nil_append]
    repeat (go_big_quiet_step ((first | (go_at_call 40; with_reducible exact Calls.ext_of (K1.out _)) | (go_at_call 40; with_reducible exact Calls.ext_of (K2.out _)) | (go_at_call 41; with_reducible exact Calls.ext_of (K3.out _)) | (go_at_call 41; with_reducible exact Calls.ext_of (K4.out _)) | (go_at_call 41; with_reducible exact Calls.ext_of (K5.out _)) | (go_at_call 41; with_reducible exact Calls.ext_of (K6.out _)) | (go_at_call 70; with_reducible exact Calls.ext_of (K7.out _)) | (go_at_call 70; with_reducible exact Calls.ext_of (K8.out _)) | (go_at_call 39; with_reducible exact Calls.ext_of (K9.out _)))))
    refine wpQuiet_nil ?_
    exact rfl
  · intro e w h1 h2 h3
    obtain ⟨c0, c1, f0, f1⟩ := run_pair h3
    have h2' : e (.tmp 28) = .agg #[.int .i64 rn, .int .i64 rd] := h2
    apply Exists.intro
    apply And.intro
    · simp [execOp, go_sem, Try.underlying23, h1, h2', c0, c1, f0, f1]
      exact rfl
    · exact store_pair h3
  · intro w' _ hE hX
    go_wp2
    refine bodyPost_ret (RT.results_row2 rfl _ _ (w.heap.size + 1 + 1) 23 #[.int .i64 rn, .int .i64 rd] (0, 0) _ rfl hX Try.underlying23 rfl info_frac) rfl ?_
    exact ⟨rfl, hE⟩
theorem r_Times (p q : Rat) (hp : Fits p) (hq : Fits q) (w : World) :
    Calls Try.prog 52 #[ratV p, ratV q] w fun E w' => E = .returned (.tuple #[fracV (answer (p * q)).1, .bool (decide ((answer (p * q)).2 = 0))]) ∧ Ext w w' := by
  obtain ⟨a1, a2, a3⟩ := fits_w hp
  obtain ⟨b1, b2, b3⟩ := fits_w hq
  have m1 := mul_small127 a1 b1
  have m2 := mul_small127 a2 b2
  have hl := fun w => r_Lowest ((nm p).sign * (nm q).sign) (an p * an q) (dw p * dw q) (by unfold W127; omega) (by unfold W127; omega) (Nat.mul_pos a3 b3) w
  rw [signed_mul] at hl
  have s := sign_mul_small (nm p) (nm q)
  exact times_walk (nm p) (dn p) (nm q) (dn q) _ _ _ _ (an p) (an q) (dw p) (dw q) _ _ _ w s.1 s.2 (r_sign _) (r_sign _) (r_size _ (fits_i64 hp).1) (r_size _ (fits_i64 hq).1) (r_size _ (fits_i64 hp).2) (r_size _ (fits_i64 hq).2)
    (r_times _ _ (by unfold W64; omega) (by unfold W64; omega)) (r_times _ _ (by unfold W64; omega) (by unfold W64; omega)) hl
theorem r_Over (p q : Rat) (hp : Fits p) (hq : Fits q) (h0 : nm q ≠ 0) (w : World) :
    Calls Try.prog 54 #[ratV p, ratV q] w fun E w' => E = .returned (.tuple #[fracV (answer (p / q)).1, .bool (decide ((answer (p / q)).2 = 0))]) ∧ Ext w w' := by
  obtain ⟨a1, a2, a3⟩ := fits_w hp
  obtain ⟨b1, b2, b3⟩ := fits_w hq
  have b4 : 0 < an q := by show 0 < (nm q).natAbs; omega
  have m1 := mul_small127 a1 b2
  have m2 := mul_small127 a2 b1
  have hl := fun w => r_Lowest ((nm p).sign * (nm q).sign) (an p * dw q) (dw p * an q) (by unfold W127; omega) (by unfold W127; omega) (Nat.mul_pos a3 b4) w
  rw [signed_div_q h0] at hl
  have s := sign_mul_small (nm p) (nm q)
  exact over_walk (nm p) (dn p) (nm q) (dn q) _ _ _ _ (an p) (an q) (dw p) (dw q) _ _ _ w s.1 s.2 (r_sign _) (r_sign _) (r_size _ (fits_i64 hp).1) (r_size _ (fits_i64 hq).1) (r_size _ (fits_i64 hp).2) (r_size _ (fits_i64 hq).2)
    (r_times _ _ (by unfold W64; omega) (by unfold W64; omega)) (r_times _ _ (by unfold W64; omega) (by unfold W64; omega)) hl
end Go.Proofs.Ytodoimeiklilhaa
