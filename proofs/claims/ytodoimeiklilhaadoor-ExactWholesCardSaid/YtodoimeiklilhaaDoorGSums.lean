/- Joined from the parts SumBase, SumA, SumB, SumC, Sum, Diff. -/
import Derived.Test.YtodoimeiklilhaaDoorGFracs
import Derived.Test.YtodoimeiklilhaaDoorGDiv
import Derived.RegionTactic
import Derived.BigRegion
set_option linter.unusedVariables false
set_option linter.unusedSimpArgs false
/- Small bounds for the walk of layer 1's sum. -/
namespace Go.Proofs.YtodoimeiklilhaaDoor
open Go.RowKit Go.Sort

theorem an_small {q : Rat} (h : Fits q) : an q ≤ 4611686018427387903 := by unfold Fits maxP at h; unfold an; omega
theorem dw_small {q : Rat} (h : Fits q) : dw q ≤ 4611686018427387903 := by unfold Fits maxP at h; unfold dw; omega
theorem heap_drew (w : World) (k : Nat) : w.drew.heap[k]? = w.heap[k]? := rfl
end Go.Proofs.YtodoimeiklilhaaDoor

/- The walk of layer 1's sum, one of three ways. -/
namespace Go.Proofs.YtodoimeiklilhaaDoor
open Go.RowKit Go.Sort

set_option maxRecDepth 100000 in
set_option maxHeartbeats 4000000 in
theorem c_sum_same (p q : Rat) (hp : Fits p) (hq : Fits q) (hsg : ¬ (!(decide (nm p < 0) == decide (nm q < 0))) = true) (w : World) :
    Calls Tryd.prog 60 #[ratV p, ratV q] w fun e w' => e = .returned (fansV (answer (p + q))) ∧ Ext w w' := by
  obtain ⟨r, hr⟩ : ∃ r, answer (p + q) = r := ⟨_, rfl⟩
  rw [hr]
  obtain ⟨g, hg⟩ : ∃ g, Nat.gcd (dw p) (dw q) = g := ⟨_, rfl⟩
  obtain ⟨X, hX⟩ : ∃ X, an p * (dw q / g) = X := ⟨_, rfl⟩
  obtain ⟨Y, hY⟩ : ∃ Y, an q * (dw p / g) = Y := ⟨_, rfl⟩
  have hX' : sumX p q = X := by unfold sumX; rw [hg, hX]
  have hY' : sumY p q = Y := by unfold sumY; rw [hg, hY]
  have g0 : 0 < g := by rw [← hg]; exact Nat.gcd_pos_of_pos_right _ q.den_pos
  have q1 := quo_in (den_w64 hp) g
  have q2 := quo_in (den_w64 hq) g
  have q5 : ((g : Int) == 0) = false := by simp; omega
  have cg := Lib.hid (fun w => hg ▸ c_gcd (dw p) (dw q) (den_w64 hp) (den_w64 hq) w)
  have c1 : ∀ w, Calls Tryd.prog 69 #[.int .u64 (an p : Int), .int .u64 ((dw q : Int) / (g : Int))] w fun e w' => e = .returned (pairV X) ∧ Ext w w' := fun w => hX ▸ c_product _ _ (an_w64 hp) (w64_div (den_w64 hq) g) w
  have c2 : ∀ w, Calls Tryd.prog 69 #[.int .u64 (an q : Int), .int .u64 ((dw p : Int) / (g : Int))] w fun e w' => e = .returned (pairV Y) ∧ Ext w w' := fun w => hY ▸ c_product _ _ (an_w64 hq) (w64_div (den_w64 hp) g) w
  have C1 := Lib.hid c1
  have C2 := Lib.hid c2
  have HG := Lib.hid hg
  have HX := Lib.hid hX
  have HY := Lib.hid hY
  have HX' := Lib.hid hX'
  have HY' := Lib.hid hY'
  have HR := Lib.hid hr
  clear c1 c2 hg hX hY hX' hY' hr
  go_enter Tryd.func60, Tryd.ntmps60
  go_wp2
  refine wp_region_quiet_below (by kernel_rfl) (by kernel_rfl) ?_
  repeat (go_big_quiet_step ((first | (go_at_call 53; with_reducible exact Calls.ext_of (c_an p hp _)) | (go_at_call 53; with_reducible exact Calls.ext_of (c_den p hp _)) | (go_at_call 53; with_reducible exact Calls.ext_of (c_an q hq _)) | (go_at_call 53; with_reducible exact Calls.ext_of (c_den q hq _)) | (go_at_call 54; with_reducible exact Calls.ext_of (cg.out _)))))
  refine wpQuiet_nil ?_
  intro _ hw'
  obtain ⟨⟨dq, osq⟩, hw''⟩ := hw'
  subst hw''
  go_wp2
  refine RT.region_two (aq := ?aq) (n := 18) (sx := 7) (sy := 8) (vx := 31) (vy := 40) (oz := .cells #[.int .u64 0, .int .u64 0] 85) (ox := .cells #[.int .u64 (hiW X : Int), .int .u64 (loW X : Int)] 85) (oy := .cells #[.int .u64 (hiW Y : Int), .int .u64 (loW Y : Int)] 85) (qs := [_, _, _, _, _, _, _, _, _, _, _, _, _, _, _, _, _, _]) (by kernel_rfl) rfl (by kernel_rfl) (by kernel_rfl) rfl rfl (of_decide_eq_true (by kernel_rfl)) (of_decide_eq_true (by kernel_rfl)) rfl rfl rfl rfl (by kernel_rfl) (by kernel_rfl) (by kernel_rfl) (by kernel_rfl) ?_ ?_ ?_ ?_ ?_ ?_
  rotate_left
  · intro e w
    simp [execOp, go_sem, Tryd.underlying85]
  · intro e w
    simp [execOp, go_sem, Tryd.underlying85]
  · intro w1 hE1
    have hh : RT.Has [(w.heap.size, 0, .int .i64 (nm p)), (w.heap.size, 1, .int .i64 (dn p)), (w.heap.size + 1, 0, .int .i64 (nm q)), (w.heap.size + 1, 1, .int .i64 (dn q))] w1 := by
      refine RT.Has.ext (w := ((w.alloc (.cells #[.int .i64 (nm p), .int .i64 (dn p)] 23)).alloc (.cells #[.int .i64 (nm q), .int .i64 (dn q)] 23)).alloc (.cells #[.int .i64 0, .int .i64 0] 23)) ?_ ((ext_grow (Ext.refl _) _ _).trans hE1)
      exact ⟨cell_of_at (three_first _ _ _ _) 0 rfl, cell_of_at (three_first _ _ _ _) 1 rfl, cell_of_at (three_second _ _ _ _) 0 rfl, cell_of_at (three_second _ _ _ _) 1 rfl, trivial⟩
    obtain ⟨m0, m1, n0, n1, -⟩ := hh
    have z0 := World.block_lt_of_cell? _ _ m0
    have z1 := World.block_lt_of_cell? _ _ n0
    simp only at z0 z1
    clear hE1
    simp only [List.cons_append, List.nil_append]
    repeat (go_big_quiet_step ((first | (go_at_call 53; with_reducible exact Calls.ext_of (c_an p hp _)) | (go_at_call 53; with_reducible exact Calls.ext_of (c_den p hp _)) | (go_at_call 53; with_reducible exact Calls.ext_of (c_an q hq _)) | (go_at_call 53; with_reducible exact Calls.ext_of (c_den q hq _)) | (go_at_call 69; with_reducible exact Calls.ext_of (C1.out _)) | (go_at_call 69; with_reducible exact Calls.ext_of (C2.out _)))))
    refine wpQuiet_nil ?_
    exact rfl
  · intro e w b h1 h2 h3
    obtain ⟨c0, c1, f0, f1⟩ := run_pair h3
    have h2' : e (.tmp 31) = pairV X := h2
    apply Exists.intro
    apply And.intro
    · simp [execOp, go_sem, Tryd.underlying85, h1, h2', c0, c1, f0, f1]
      exact rfl
    · exact store_pair h3
  · intro e w b h1 h2 h3
    obtain ⟨c0, c1, f0, f1⟩ := run_pair h3
    have h2' : e (.tmp 40) = pairV Y := h2
    apply Exists.intro
    apply And.intro
    · simp [execOp, go_sem, Tryd.underlying85, h1, h2', c0, c1, f0, f1]
      exact rfl
    · exact store_pair h3
  · intro bx by_ w' hE hbx hby hne hX hY
    have hE0 := (ext_grow (Ext.refl (((w.alloc (.cells #[.int .i64 (nm p), .int .i64 (dn p)] 23)).alloc (.cells #[.int .i64 (nm q), .int .i64 (dn q)] 23)).alloc (.cells #[.int .i64 0, .int .i64 0] 23))) dq osq).trans hE
    have hEw : Ext w w' := Ext.trans ((by repeat (first | exact Ext.refl _ | assumption | refine Ext.alloc ?_ _ | refine Ext.drewN ?_ _ | refine Ext.drew ?_ | refine ext_grow ?_ _ _ | refine Ext.setCell ?_ (by first | exact Nat.le_refl _ | omega | (simp; done) | (simp; omega)) _ | refine Ext.trans ?_ (by assumption)))) hE0
    have hB := hE0.blk (three_third _ _ _ _)
    have m0 := hE0.get (cell_of_at (three_first _ _ _ _) 0 rfl)
    have m1 := hE0.get (cell_of_at (three_first _ _ _ _) 1 rfl)
    have n0 := hE0.get (cell_of_at (three_second _ _ _ _) 0 rfl)
    have n1 := hE0.get (cell_of_at (three_second _ _ _ _) 1 rfl)
    have s3 : w.heap.size + 1 + 1 + 1 ≤ w'.heap.size := by
      have := hE0.size
      rw [size_one, size_one, size_one] at this
      exact this
    have s9 := (Ext.grow (((w.alloc (.cells #[.int .i64 (nm p), .int .i64 (dn p)] 23)).alloc (.cells #[.int .i64 (nm q), .int .i64 (dn q)] 23)).alloc (.cells #[.int .i64 0, .int .i64 0] 23)) dq osq).size
    rw [size_one, size_one, size_one] at s9
    have hbx' : w.heap.size + 1 + 1 < bx := by omega
    have hby' : w.heap.size + 1 + 1 < by_ := by omega
    obtain ⟨x0, x1, xf0, xf1⟩ := run_pair hX
    obtain ⟨y0, y1, yf0, yf1⟩ := run_pair hY
    have z3 := World.block_lt_of_cell? _ _ x0
    have z4 := World.block_lt_of_cell? _ _ y0
    simp only at z3 z4
    have z0 : w.heap.size < w'.heap.size := by omega
    have z1 : w.heap.size + 1 < w'.heap.size := by omega
    have z2 : w.heap.size + 1 + 1 < w'.heap.size := by omega
    have k1 : ¬ bx = by_ := hne
    have k2 : ¬ by_ = bx := fun h => hne h.symm
    have k3 : ¬ w.heap.size = bx := by omega
    have k4 : ¬ w.heap.size = by_ := by omega
    have k5 : ¬ w.heap.size + 1 = bx := by omega
    have k6 : ¬ w.heap.size + 1 = by_ := by omega
    have HEW := Lib.hid hEw
    have HB := Lib.hid hB
    have HBX := Lib.hid hbx'
    have HBY := Lib.hid hby'
    clear hbx hby hE0 hE s9 s3 hne hX hY hEw hB hbx' hby'
    have px : X ≤ 4611686018427387903 * 4611686018427387903 := by
      rw [← HX.out]; exact Nat.mul_le_mul (an_small hp) (Nat.le_trans (Nat.div_le_self _ _) (dw_small hq))
    have py : Y ≤ 4611686018427387903 * 4611686018427387903 := by
      rw [← HY.out]; exact Nat.mul_le_mul (an_small hq) (Nat.le_trans (Nat.div_le_self _ _) (dw_small hp))
    have PX := Lib.hid px
    have PY := Lib.hid py
    clear px py
    have hsf : (!(decide (nm p < 0) == decide (nm q < 0))) = false := by simpa using hsg
    obtain ⟨N, hN⟩ : ∃ N, X + Y = N := ⟨_, rfl⟩
    have hN' : sumN p q = N := by unfold sumN; rw [if_neg hsg, HX'.out, HY'.out, hN]
    have hneg : sumNeg p q = decide (nm p < 0) := by unfold sumNeg; rw [if_neg hsg]
    have wN : W128 N := by have := PX.out; have := PY.out; unfold W128; omega
    have ca := Lib.hid (fun w => hN ▸ c_add X Y (hN.symm ▸ wN) w)
    clear hsg hN
    obtain ⟨h, hh⟩ : ∃ h, Nat.gcd g (N % g) = h := ⟨_, rfl⟩
    have wg : W64 g := by rw [← HG.out]; exact Nat.lt_of_le_of_lt (Nat.gcd_le_left _ p.den_pos) (den_w64 hp)
    have h0 : 0 < h := by rw [← hh]; exact Nat.gcd_pos_of_pos_left _ g0
    have wh : W64 h := by rw [← hh]; exact Nat.lt_of_le_of_lt (Nat.gcd_le_left _ g0) wg
    have cd1 := Lib.hid (fun w => c_div N g wN wg g0 w)
    have cg2 := Lib.hid (fun w => hh ▸ c_gcd g (N % g) wg (w64_mod wg (by omega)) w)
    have cd2 := Lib.hid (fun w => c_div N h wN wh h0 w)
    have hr' : madeR (decide (nm p < 0)) (N / h) (dw p / g * (dw q / h)) = r := by
      have := (sum_eq p q).symm.trans HR.out
      rw [HG.out, hN', hh, hneg] at this
      exact this
    have WN := Lib.hid wN
    have H0 := Lib.hid h0
    have WH := Lib.hid wh
    have WG := Lib.hid wg
    clear hN' hneg hh wN wg h0 wh
    go_wp2_with (first | (go_at_call 90; refine (ca.out _).mono ?_; rintro e w' ⟨rfl, hb⟩; have hc := hb.cell; have hf := hb.frozen; have hz := hb.size; (try simp at hz); have z0 : w.heap.size < w'.heap.size := (by omega); have z1 : w.heap.size + 1 < w'.heap.size := (by omega); have z2 : w.heap.size + 1 + 1 < w'.heap.size := (by omega); have z3 : bx < w'.heap.size := (by omega); have z4 : by_ < w'.heap.size := (by omega)) | (go_at_call 70; with_reducible refine (cd1.out _).mono ?_; rintro e w' ⟨rfl, hb⟩; have hc := hb.cell; have hf := hb.frozen; have hz := hb.size; (try simp at hz); have z0 : w.heap.size < w'.heap.size := (by omega); have z1 : w.heap.size + 1 < w'.heap.size := (by omega); have z2 : w.heap.size + 1 + 1 < w'.heap.size := (by omega); have z3 : bx < w'.heap.size := (by omega); have z4 : by_ < w'.heap.size := (by omega)) | (go_at_call 54; refine (cg2.out _).mono ?_; rintro e w' ⟨rfl, hb⟩; have hc := hb.cell; have hf := hb.frozen; have hz := hb.size; (try simp at hz); have z0 : w.heap.size < w'.heap.size := (by omega); have z1 : w.heap.size + 1 < w'.heap.size := (by omega); have z2 : w.heap.size + 1 + 1 < w'.heap.size := (by omega); have z3 : bx < w'.heap.size := (by omega); have z4 : by_ < w'.heap.size := (by omega)) | (go_at_call 70; with_reducible refine (cd2.out _).mono ?_; rintro e w' ⟨rfl, hb⟩; have hc := hb.cell; have hf := hb.frozen; have hz := hb.size; (try simp at hz); have z0 : w.heap.size < w'.heap.size := (by omega); have z1 : w.heap.size + 1 < w'.heap.size := (by omega); have z2 : w.heap.size + 1 + 1 < w'.heap.size := (by omega); have z3 : bx < w'.heap.size := (by omega); have z4 : by_ < w'.heap.size := (by omega)))
    have cq1 := quo_in (den_w64 hq) h
    have q6 : ((h : Int) == 0) = false := by have := H0.out; simp; omega
    have cp : ∀ w, Calls Tryd.prog 69 #[.int .u64 ((dw p : Int) / (g : Int)), .int .u64 ((dw q : Int) / (h : Int))] w fun e w' => e = .returned (pairV (dw p / g * (dw q / h))) ∧ Ext w w' := fun w => c_product _ _ (w64_div (den_w64 hp) g) (w64_div (den_w64 hq) h) w
    have cm : ∀ w, Calls Tryd.prog 55 #[.bool (decide (nm p < 0)), pairV (N / h), pairV (dw p / g * (dw q / h))] w fun e w' => e = .returned (fansV r) ∧ Ext w w' := fun w => hr' ▸ c_made _ _ _ (Nat.lt_of_le_of_lt (Nat.div_le_self _ _) WN.out) (w64_mul (w64_div (den_w64 hp) g) (w64_div (den_w64 hq) h)) w
    have h0 := H0.out
    have CP := Lib.hid cp
    have CM := Lib.hid cm
    clear cp cm hr'
    have b0 : (w'.alloc (.cells #[.int .u64 (hiW (N / h) : Int), .int .u64 (loW (N / h) : Int)] 85)).heap[w.heap.size + 1 + 1]? = some (.cells #[.int .i64 0, .int .i64 0] 23) := by
      have g1 := HBX.out
      have g2 := HBY.out
      have g3 := HB.out
      repeat (first | exact g3 | (refine (Below.heap_setCell _ _ _ _ (show w.heap.size + 1 + 1 ≠ bx by omega)).trans ?_) | (refine (blk_past _ _ (by first | omega | (simp; omega))).trans ?_) | (refine Ext.blk (by assumption) ?_))
    have eE : Ext w (w'.alloc (.cells #[.int .u64 (hiW (N / h) : Int), .int .u64 (loW (N / h) : Int)] 85)) := by
      have g1 := HBX.out
      have g2 := HBY.out
      have g3 := HEW.out
      exact (by repeat (first | exact Ext.refl _ | assumption | refine Ext.alloc ?_ _ | refine Ext.drewN ?_ _ | refine Ext.drew ?_ | refine ext_grow ?_ _ _ | refine Ext.setCell ?_ (by first | exact Nat.le_refl _ | omega | (simp; done) | (simp; omega)) _ | refine Ext.trans ?_ (by assumption)))
    have hh : RT.Has [(w.heap.size, 0, .int .i64 (nm p)), (w.heap.size, 1, .int .i64 (dn p)), (w.heap.size + 1, 0, .int .i64 (nm q)), (w.heap.size + 1, 1, .int .i64 (dn q)), (w'.heap.size, 0, .int .u64 (hiW (N / h) : Int)), (w'.heap.size, 1, .int .u64 (loW (N / h) : Int))] (w'.alloc (.cells #[.int .u64 (hiW (N / h) : Int), .int .u64 (loW (N / h) : Int)] 85)).drew := by
      refine ⟨?_, ?_, ?_, ?_, ?_, ?_, trivial⟩
      all_goals (go_simp; try done)
    have B0 := Lib.hid b0
    have EE := Lib.hid eE
    have HH := Lib.hid hh
    clear b0 eE hh hc hf
    refine RT.region_store (aq := ?aqs1) (n := 16) (sp := 4) (vx := 92) (b0 := w.heap.size + 1 + 1) (oz := .cells #[.int .i64 0, .int .i64 0] 23) (ox := .cells #[.int .i64 r.1.num, .int .i64 r.1.den] 23) (qs1 := [_, _, _, _, _, _, _, _, _, _, _, _, _, _, _, _]) (qs2 := [_]) (wb := w) (RT.Has [(w.heap.size, 0, .int .i64 (nm p)), (w.heap.size, 1, .int .i64 (dn p)), (w.heap.size + 1, 0, .int .i64 (nm q)), (w.heap.size + 1, 1, .int .i64 (dn q)), (w'.heap.size, 0, .int .u64 (hiW (N / h) : Int)), (w'.heap.size, 1, .int .u64 (loW (N / h) : Int))]) (by kernel_rfl) rfl (by kernel_rfl) (by kernel_rfl) rfl rfl (by kernel_rfl) (by kernel_rfl) rfl ?_ ?_ ?_ ?_ ?_ ?_ ?_ ?_ ?_
    rotate_left
    · exact B0.out
    · exact EE.out
    · omega
    · exact HH.out
    · exact fun _ _ h => h.ext
    · exact fun _ _ h k => h.other (by simp; omega) k
    · rintro w1 ⟨m0, m1, n0, n1, o0, o1, -⟩
      simp only [List.cons_append, List.nil_append]
      have z0 := World.block_lt_of_cell? _ _ m0
      have z1 := World.block_lt_of_cell? _ _ n0
      have z5 := World.block_lt_of_cell? _ _ o0
      simp only at z0 z1 z5
      repeat (go_big_quiet_step ((first | (go_at_call 53; with_reducible exact Calls.ext_of (c_an p hp _)) | (go_at_call 53; with_reducible exact Calls.ext_of (c_den p hp _)) | (go_at_call 53; with_reducible exact Calls.ext_of (c_an q hq _)) | (go_at_call 53; with_reducible exact Calls.ext_of (c_den q hq _)) | (go_at_call 69; with_reducible exact Calls.ext_of (CP.out _)) | (go_at_call 55; with_reducible exact Calls.ext_of (CM.out _)))))
      refine wpQuiet_nil ?_
      exact rfl
    · intro e w h1 h2 h3
      obtain ⟨c0, c1, f0, f1⟩ := run_pair h3
      have h2' : e (.tmp 92) = .agg #[.int .i64 r.1.num, .int .i64 r.1.den] := h2
      apply Exists.intro
      apply And.intro
      · simp [execOp, go_sem, h1, h2', c0, c1, f0, f1]
        exact rfl
      · exact store_pair h3
    · intro w' _ hE hX
      go_wp2
      refine bodyPost_ret (RT.results_row2 rfl _ _ (w.heap.size + 1 + 1) 23 _ (0, 0) _ rfl hX Tryd.underlying23 rfl info_frac) rfl ?_
      exact ⟨rfl, hE⟩
end Go.Proofs.YtodoimeiklilhaaDoor

/- The walk of layer 1's sum, one of three ways. -/
namespace Go.Proofs.YtodoimeiklilhaaDoor
open Go.RowKit Go.Sort

set_option maxRecDepth 100000 in
set_option maxHeartbeats 4000000 in
theorem c_sum_ge (p q : Rat) (hp : Fits p) (hq : Fits q) (hsg : (!(decide (nm p < 0) == decide (nm q < 0))) = true) (hlt0 : ¬ sumX p q < sumY p q) (w : World) :
    Calls Tryd.prog 60 #[ratV p, ratV q] w fun e w' => e = .returned (fansV (answer (p + q))) ∧ Ext w w' := by
  obtain ⟨r, hr⟩ : ∃ r, answer (p + q) = r := ⟨_, rfl⟩
  rw [hr]
  obtain ⟨g, hg⟩ : ∃ g, Nat.gcd (dw p) (dw q) = g := ⟨_, rfl⟩
  obtain ⟨X, hX⟩ : ∃ X, an p * (dw q / g) = X := ⟨_, rfl⟩
  obtain ⟨Y, hY⟩ : ∃ Y, an q * (dw p / g) = Y := ⟨_, rfl⟩
  have hX' : sumX p q = X := by unfold sumX; rw [hg, hX]
  have hY' : sumY p q = Y := by unfold sumY; rw [hg, hY]
  have g0 : 0 < g := by rw [← hg]; exact Nat.gcd_pos_of_pos_right _ q.den_pos
  have q1 := quo_in (den_w64 hp) g
  have q2 := quo_in (den_w64 hq) g
  have q5 : ((g : Int) == 0) = false := by simp; omega
  have cg := Lib.hid (fun w => hg ▸ c_gcd (dw p) (dw q) (den_w64 hp) (den_w64 hq) w)
  have c1 : ∀ w, Calls Tryd.prog 69 #[.int .u64 (an p : Int), .int .u64 ((dw q : Int) / (g : Int))] w fun e w' => e = .returned (pairV X) ∧ Ext w w' := fun w => hX ▸ c_product _ _ (an_w64 hp) (w64_div (den_w64 hq) g) w
  have c2 : ∀ w, Calls Tryd.prog 69 #[.int .u64 (an q : Int), .int .u64 ((dw p : Int) / (g : Int))] w fun e w' => e = .returned (pairV Y) ∧ Ext w w' := fun w => hY ▸ c_product _ _ (an_w64 hq) (w64_div (den_w64 hp) g) w
  have C1 := Lib.hid c1
  have C2 := Lib.hid c2
  have HG := Lib.hid hg
  have HX := Lib.hid hX
  have HY := Lib.hid hY
  have HX' := Lib.hid hX'
  have HY' := Lib.hid hY'
  have HR := Lib.hid hr
  clear c1 c2 hg hX hY hX' hY' hr
  go_enter Tryd.func60, Tryd.ntmps60
  go_wp2
  refine wp_region_quiet_below (by kernel_rfl) (by kernel_rfl) ?_
  repeat (go_big_quiet_step ((first | (go_at_call 53; with_reducible exact Calls.ext_of (c_an p hp _)) | (go_at_call 53; with_reducible exact Calls.ext_of (c_den p hp _)) | (go_at_call 53; with_reducible exact Calls.ext_of (c_an q hq _)) | (go_at_call 53; with_reducible exact Calls.ext_of (c_den q hq _)) | (go_at_call 54; with_reducible exact Calls.ext_of (cg.out _)))))
  refine wpQuiet_nil ?_
  intro _ hw'
  obtain ⟨⟨dq, osq⟩, hw''⟩ := hw'
  subst hw''
  go_wp2
  refine RT.region_two (aq := ?aq) (n := 18) (sx := 7) (sy := 8) (vx := 31) (vy := 40) (oz := .cells #[.int .u64 0, .int .u64 0] 85) (ox := .cells #[.int .u64 (hiW X : Int), .int .u64 (loW X : Int)] 85) (oy := .cells #[.int .u64 (hiW Y : Int), .int .u64 (loW Y : Int)] 85) (qs := [_, _, _, _, _, _, _, _, _, _, _, _, _, _, _, _, _, _]) (by kernel_rfl) rfl (by kernel_rfl) (by kernel_rfl) rfl rfl (of_decide_eq_true (by kernel_rfl)) (of_decide_eq_true (by kernel_rfl)) rfl rfl rfl rfl (by kernel_rfl) (by kernel_rfl) (by kernel_rfl) (by kernel_rfl) ?_ ?_ ?_ ?_ ?_ ?_
  rotate_left
  · intro e w
    simp [execOp, go_sem, Tryd.underlying85]
  · intro e w
    simp [execOp, go_sem, Tryd.underlying85]
  · intro w1 hE1
    have hh : RT.Has [(w.heap.size, 0, .int .i64 (nm p)), (w.heap.size, 1, .int .i64 (dn p)), (w.heap.size + 1, 0, .int .i64 (nm q)), (w.heap.size + 1, 1, .int .i64 (dn q))] w1 := by
      refine RT.Has.ext (w := ((w.alloc (.cells #[.int .i64 (nm p), .int .i64 (dn p)] 23)).alloc (.cells #[.int .i64 (nm q), .int .i64 (dn q)] 23)).alloc (.cells #[.int .i64 0, .int .i64 0] 23)) ?_ ((ext_grow (Ext.refl _) _ _).trans hE1)
      exact ⟨cell_of_at (three_first _ _ _ _) 0 rfl, cell_of_at (three_first _ _ _ _) 1 rfl, cell_of_at (three_second _ _ _ _) 0 rfl, cell_of_at (three_second _ _ _ _) 1 rfl, trivial⟩
    obtain ⟨m0, m1, n0, n1, -⟩ := hh
    have z0 := World.block_lt_of_cell? _ _ m0
    have z1 := World.block_lt_of_cell? _ _ n0
    simp only at z0 z1
    clear hE1
    simp only [List.cons_append, List.nil_append]
    repeat (go_big_quiet_step ((first | (go_at_call 53; with_reducible exact Calls.ext_of (c_an p hp _)) | (go_at_call 53; with_reducible exact Calls.ext_of (c_den p hp _)) | (go_at_call 53; with_reducible exact Calls.ext_of (c_an q hq _)) | (go_at_call 53; with_reducible exact Calls.ext_of (c_den q hq _)) | (go_at_call 69; with_reducible exact Calls.ext_of (C1.out _)) | (go_at_call 69; with_reducible exact Calls.ext_of (C2.out _)))))
    refine wpQuiet_nil ?_
    exact rfl
  · intro e w b h1 h2 h3
    obtain ⟨c0, c1, f0, f1⟩ := run_pair h3
    have h2' : e (.tmp 31) = pairV X := h2
    apply Exists.intro
    apply And.intro
    · simp [execOp, go_sem, Tryd.underlying85, h1, h2', c0, c1, f0, f1]
      exact rfl
    · exact store_pair h3
  · intro e w b h1 h2 h3
    obtain ⟨c0, c1, f0, f1⟩ := run_pair h3
    have h2' : e (.tmp 40) = pairV Y := h2
    apply Exists.intro
    apply And.intro
    · simp [execOp, go_sem, Tryd.underlying85, h1, h2', c0, c1, f0, f1]
      exact rfl
    · exact store_pair h3
  · intro bx by_ w' hE hbx hby hne hX hY
    have hE0 := (ext_grow (Ext.refl (((w.alloc (.cells #[.int .i64 (nm p), .int .i64 (dn p)] 23)).alloc (.cells #[.int .i64 (nm q), .int .i64 (dn q)] 23)).alloc (.cells #[.int .i64 0, .int .i64 0] 23))) dq osq).trans hE
    have hEw : Ext w w' := Ext.trans ((by repeat (first | exact Ext.refl _ | assumption | refine Ext.alloc ?_ _ | refine Ext.drewN ?_ _ | refine Ext.drew ?_ | refine ext_grow ?_ _ _ | refine Ext.setCell ?_ (by first | exact Nat.le_refl _ | omega | (simp; done) | (simp; omega)) _ | refine Ext.trans ?_ (by assumption)))) hE0
    have hB := hE0.blk (three_third _ _ _ _)
    have m0 := hE0.get (cell_of_at (three_first _ _ _ _) 0 rfl)
    have m1 := hE0.get (cell_of_at (three_first _ _ _ _) 1 rfl)
    have n0 := hE0.get (cell_of_at (three_second _ _ _ _) 0 rfl)
    have n1 := hE0.get (cell_of_at (three_second _ _ _ _) 1 rfl)
    have s3 : w.heap.size + 1 + 1 + 1 ≤ w'.heap.size := by
      have := hE0.size
      rw [size_one, size_one, size_one] at this
      exact this
    have s9 := (Ext.grow (((w.alloc (.cells #[.int .i64 (nm p), .int .i64 (dn p)] 23)).alloc (.cells #[.int .i64 (nm q), .int .i64 (dn q)] 23)).alloc (.cells #[.int .i64 0, .int .i64 0] 23)) dq osq).size
    rw [size_one, size_one, size_one] at s9
    have hbx' : w.heap.size + 1 + 1 < bx := by omega
    have hby' : w.heap.size + 1 + 1 < by_ := by omega
    obtain ⟨x0, x1, xf0, xf1⟩ := run_pair hX
    obtain ⟨y0, y1, yf0, yf1⟩ := run_pair hY
    have z3 := World.block_lt_of_cell? _ _ x0
    have z4 := World.block_lt_of_cell? _ _ y0
    simp only at z3 z4
    have z0 : w.heap.size < w'.heap.size := by omega
    have z1 : w.heap.size + 1 < w'.heap.size := by omega
    have z2 : w.heap.size + 1 + 1 < w'.heap.size := by omega
    have k1 : ¬ bx = by_ := hne
    have k2 : ¬ by_ = bx := fun h => hne h.symm
    have k3 : ¬ w.heap.size = bx := by omega
    have k4 : ¬ w.heap.size = by_ := by omega
    have k5 : ¬ w.heap.size + 1 = bx := by omega
    have k6 : ¬ w.heap.size + 1 = by_ := by omega
    have HEW := Lib.hid hEw
    have HB := Lib.hid hB
    have HBX := Lib.hid hbx'
    have HBY := Lib.hid hby'
    clear hbx hby hE0 hE s9 s3 hne hX hY hEw hB hbx' hby'
    have px : X ≤ 4611686018427387903 * 4611686018427387903 := by
      rw [← HX.out]; exact Nat.mul_le_mul (an_small hp) (Nat.le_trans (Nat.div_le_self _ _) (dw_small hq))
    have py : Y ≤ 4611686018427387903 * 4611686018427387903 := by
      rw [← HY.out]; exact Nat.mul_le_mul (an_small hq) (Nat.le_trans (Nat.div_le_self _ _) (dw_small hp))
    have PX := Lib.hid px
    have PY := Lib.hid py
    clear px py
    have hsf := hsg
    have hlt : ¬ X < Y := by rw [← HX'.out, ← HY'.out]; exact hlt0
    clear hlt0
    obtain ⟨N, hN⟩ : ∃ N, X - Y = N := ⟨_, rfl⟩
    have hN' : sumN p q = N := by unfold sumN; rw [if_pos hsg, HX'.out, HY'.out, if_neg hlt, hN]
    have hneg : sumNeg p q = decide (nm p < 0) := by unfold sumNeg; rw [if_pos hsg, HX'.out, HY'.out, if_neg hlt]
    have wX : W128 X := by have := PX.out; unfold W128; omega
    have wN : W128 N := by unfold W128 at *; omega
    have ca := Lib.hid (fun w => hN ▸ c_sub X Y (Nat.not_lt.1 hlt) wX w)
    have cl := Lib.hid (fun w => decide_eq_false hlt ▸ c_less X Y w)
    clear hsg hN hlt wX
    obtain ⟨h, hh⟩ : ∃ h, Nat.gcd g (N % g) = h := ⟨_, rfl⟩
    have wg : W64 g := by rw [← HG.out]; exact Nat.lt_of_le_of_lt (Nat.gcd_le_left _ p.den_pos) (den_w64 hp)
    have h0 : 0 < h := by rw [← hh]; exact Nat.gcd_pos_of_pos_left _ g0
    have wh : W64 h := by rw [← hh]; exact Nat.lt_of_le_of_lt (Nat.gcd_le_left _ g0) wg
    have cd1 := Lib.hid (fun w => c_div N g wN wg g0 w)
    have cg2 := Lib.hid (fun w => hh ▸ c_gcd g (N % g) wg (w64_mod wg (by omega)) w)
    have cd2 := Lib.hid (fun w => c_div N h wN wh h0 w)
    have hr' : madeR (decide (nm p < 0)) (N / h) (dw p / g * (dw q / h)) = r := by
      have := (sum_eq p q).symm.trans HR.out
      rw [HG.out, hN', hh, hneg] at this
      exact this
    have WN := Lib.hid wN
    have H0 := Lib.hid h0
    have WH := Lib.hid wh
    have WG := Lib.hid wg
    clear hN' hneg hh wN wg h0 wh
    go_wp2_with (first | (go_at_call 72; refine (cl.out _).mono ?_; rintro e w' ⟨rfl, hb⟩; have hc := hb.cell; have hf := hb.frozen; have hz := hb.size; (try simp at hz); have z0 : w.heap.size < w'.heap.size := (by omega); have z1 : w.heap.size + 1 < w'.heap.size := (by omega); have z2 : w.heap.size + 1 + 1 < w'.heap.size := (by omega); have z3 : bx < w'.heap.size := (by omega); have z4 : by_ < w'.heap.size := (by omega)) | (go_at_call 91; refine (ca.out _).mono ?_; rintro e w' ⟨rfl, hb⟩; have hc := hb.cell; have hf := hb.frozen; have hz := hb.size; (try simp at hz); have z0 : w.heap.size < w'.heap.size := (by omega); have z1 : w.heap.size + 1 < w'.heap.size := (by omega); have z2 : w.heap.size + 1 + 1 < w'.heap.size := (by omega); have z3 : bx < w'.heap.size := (by omega); have z4 : by_ < w'.heap.size := (by omega)) | (go_at_call 70; with_reducible refine (cd1.out _).mono ?_; rintro e w' ⟨rfl, hb⟩; have hc := hb.cell; have hf := hb.frozen; have hz := hb.size; (try simp at hz); have z0 : w.heap.size < w'.heap.size := (by omega); have z1 : w.heap.size + 1 < w'.heap.size := (by omega); have z2 : w.heap.size + 1 + 1 < w'.heap.size := (by omega); have z3 : bx < w'.heap.size := (by omega); have z4 : by_ < w'.heap.size := (by omega)) | (go_at_call 54; refine (cg2.out _).mono ?_; rintro e w' ⟨rfl, hb⟩; have hc := hb.cell; have hf := hb.frozen; have hz := hb.size; (try simp at hz); have z0 : w.heap.size < w'.heap.size := (by omega); have z1 : w.heap.size + 1 < w'.heap.size := (by omega); have z2 : w.heap.size + 1 + 1 < w'.heap.size := (by omega); have z3 : bx < w'.heap.size := (by omega); have z4 : by_ < w'.heap.size := (by omega)) | (go_at_call 70; with_reducible refine (cd2.out _).mono ?_; rintro e w' ⟨rfl, hb⟩; have hc := hb.cell; have hf := hb.frozen; have hz := hb.size; (try simp at hz); have z0 : w.heap.size < w'.heap.size := (by omega); have z1 : w.heap.size + 1 < w'.heap.size := (by omega); have z2 : w.heap.size + 1 + 1 < w'.heap.size := (by omega); have z3 : bx < w'.heap.size := (by omega); have z4 : by_ < w'.heap.size := (by omega)))
    have cq1 := quo_in (den_w64 hq) h
    have q6 : ((h : Int) == 0) = false := by have := H0.out; simp; omega
    have cp : ∀ w, Calls Tryd.prog 69 #[.int .u64 ((dw p : Int) / (g : Int)), .int .u64 ((dw q : Int) / (h : Int))] w fun e w' => e = .returned (pairV (dw p / g * (dw q / h))) ∧ Ext w w' := fun w => c_product _ _ (w64_div (den_w64 hp) g) (w64_div (den_w64 hq) h) w
    have cm : ∀ w, Calls Tryd.prog 55 #[.bool (decide (nm p < 0)), pairV (N / h), pairV (dw p / g * (dw q / h))] w fun e w' => e = .returned (fansV r) ∧ Ext w w' := fun w => hr' ▸ c_made _ _ _ (Nat.lt_of_le_of_lt (Nat.div_le_self _ _) WN.out) (w64_mul (w64_div (den_w64 hp) g) (w64_div (den_w64 hq) h)) w
    have h0 := H0.out
    have CP := Lib.hid cp
    have CM := Lib.hid cm
    clear cp cm hr'
    have b0 : (w'.alloc (.cells #[.int .u64 (hiW (N / h) : Int), .int .u64 (loW (N / h) : Int)] 85)).heap[w.heap.size + 1 + 1]? = some (.cells #[.int .i64 0, .int .i64 0] 23) := by
      have g1 := HBX.out
      have g2 := HBY.out
      have g3 := HB.out
      repeat (first | exact g3 | (refine (Below.heap_setCell _ _ _ _ (show w.heap.size + 1 + 1 ≠ bx by omega)).trans ?_) | (refine (blk_past _ _ (by first | omega | (simp; omega))).trans ?_) | (refine Ext.blk (by assumption) ?_))
    have eE : Ext w (w'.alloc (.cells #[.int .u64 (hiW (N / h) : Int), .int .u64 (loW (N / h) : Int)] 85)) := by
      have g1 := HBX.out
      have g2 := HBY.out
      have g3 := HEW.out
      exact (by repeat (first | exact Ext.refl _ | assumption | refine Ext.alloc ?_ _ | refine Ext.drewN ?_ _ | refine Ext.drew ?_ | refine ext_grow ?_ _ _ | refine Ext.setCell ?_ (by first | exact Nat.le_refl _ | omega | (simp; done) | (simp; omega)) _ | refine Ext.trans ?_ (by assumption)))
    have hh : RT.Has [(w.heap.size, 0, .int .i64 (nm p)), (w.heap.size, 1, .int .i64 (dn p)), (w.heap.size + 1, 0, .int .i64 (nm q)), (w.heap.size + 1, 1, .int .i64 (dn q)), (w'.heap.size, 0, .int .u64 (hiW (N / h) : Int)), (w'.heap.size, 1, .int .u64 (loW (N / h) : Int))] (w'.alloc (.cells #[.int .u64 (hiW (N / h) : Int), .int .u64 (loW (N / h) : Int)] 85)).drew := by
      refine ⟨?_, ?_, ?_, ?_, ?_, ?_, trivial⟩
      all_goals (go_simp; try done)
    have B0 := Lib.hid b0
    have EE := Lib.hid eE
    have HH := Lib.hid hh
    clear b0 eE hh hc hf
    refine RT.region_store (aq := ?aqs1) (n := 16) (sp := 4) (vx := 92) (b0 := w.heap.size + 1 + 1) (oz := .cells #[.int .i64 0, .int .i64 0] 23) (ox := .cells #[.int .i64 r.1.num, .int .i64 r.1.den] 23) (qs1 := [_, _, _, _, _, _, _, _, _, _, _, _, _, _, _, _]) (qs2 := [_]) (wb := w) (RT.Has [(w.heap.size, 0, .int .i64 (nm p)), (w.heap.size, 1, .int .i64 (dn p)), (w.heap.size + 1, 0, .int .i64 (nm q)), (w.heap.size + 1, 1, .int .i64 (dn q)), (w'.heap.size, 0, .int .u64 (hiW (N / h) : Int)), (w'.heap.size, 1, .int .u64 (loW (N / h) : Int))]) (by kernel_rfl) rfl (by kernel_rfl) (by kernel_rfl) rfl rfl (by kernel_rfl) (by kernel_rfl) rfl ?_ ?_ ?_ ?_ ?_ ?_ ?_ ?_ ?_
    rotate_left
    · exact B0.out
    · exact EE.out
    · omega
    · exact HH.out
    · exact fun _ _ h => h.ext
    · exact fun _ _ h k => h.other (by simp; omega) k
    · rintro w1 ⟨m0, m1, n0, n1, o0, o1, -⟩
      simp only [List.cons_append, List.nil_append]
      have z0 := World.block_lt_of_cell? _ _ m0
      have z1 := World.block_lt_of_cell? _ _ n0
      have z5 := World.block_lt_of_cell? _ _ o0
      simp only at z0 z1 z5
      repeat (go_big_quiet_step ((first | (go_at_call 53; with_reducible exact Calls.ext_of (c_an p hp _)) | (go_at_call 53; with_reducible exact Calls.ext_of (c_den p hp _)) | (go_at_call 53; with_reducible exact Calls.ext_of (c_an q hq _)) | (go_at_call 53; with_reducible exact Calls.ext_of (c_den q hq _)) | (go_at_call 69; with_reducible exact Calls.ext_of (CP.out _)) | (go_at_call 55; with_reducible exact Calls.ext_of (CM.out _)))))
      refine wpQuiet_nil ?_
      exact rfl
    · intro e w h1 h2 h3
      obtain ⟨c0, c1, f0, f1⟩ := run_pair h3
      have h2' : e (.tmp 92) = .agg #[.int .i64 r.1.num, .int .i64 r.1.den] := h2
      apply Exists.intro
      apply And.intro
      · simp [execOp, go_sem, h1, h2', c0, c1, f0, f1]
        exact rfl
      · exact store_pair h3
    · intro w' _ hE hX
      go_wp2
      refine bodyPost_ret (RT.results_row2 rfl _ _ (w.heap.size + 1 + 1) 23 _ (0, 0) _ rfl hX Tryd.underlying23 rfl info_frac) rfl ?_
      exact ⟨rfl, hE⟩
end Go.Proofs.YtodoimeiklilhaaDoor

/- The walk of layer 1's sum, one of three ways. -/
namespace Go.Proofs.YtodoimeiklilhaaDoor
open Go.RowKit Go.Sort

set_option maxRecDepth 100000 in
set_option maxHeartbeats 4000000 in
theorem c_sum_lt (p q : Rat) (hp : Fits p) (hq : Fits q) (hsg : (!(decide (nm p < 0) == decide (nm q < 0))) = true) (hlt0 : sumX p q < sumY p q) (w : World) :
    Calls Tryd.prog 60 #[ratV p, ratV q] w fun e w' => e = .returned (fansV (answer (p + q))) ∧ Ext w w' := by
  obtain ⟨r, hr⟩ : ∃ r, answer (p + q) = r := ⟨_, rfl⟩
  rw [hr]
  obtain ⟨g, hg⟩ : ∃ g, Nat.gcd (dw p) (dw q) = g := ⟨_, rfl⟩
  obtain ⟨X, hX⟩ : ∃ X, an p * (dw q / g) = X := ⟨_, rfl⟩
  obtain ⟨Y, hY⟩ : ∃ Y, an q * (dw p / g) = Y := ⟨_, rfl⟩
  have hX' : sumX p q = X := by unfold sumX; rw [hg, hX]
  have hY' : sumY p q = Y := by unfold sumY; rw [hg, hY]
  have g0 : 0 < g := by rw [← hg]; exact Nat.gcd_pos_of_pos_right _ q.den_pos
  have q1 := quo_in (den_w64 hp) g
  have q2 := quo_in (den_w64 hq) g
  have q5 : ((g : Int) == 0) = false := by simp; omega
  have cg := Lib.hid (fun w => hg ▸ c_gcd (dw p) (dw q) (den_w64 hp) (den_w64 hq) w)
  have c1 : ∀ w, Calls Tryd.prog 69 #[.int .u64 (an p : Int), .int .u64 ((dw q : Int) / (g : Int))] w fun e w' => e = .returned (pairV X) ∧ Ext w w' := fun w => hX ▸ c_product _ _ (an_w64 hp) (w64_div (den_w64 hq) g) w
  have c2 : ∀ w, Calls Tryd.prog 69 #[.int .u64 (an q : Int), .int .u64 ((dw p : Int) / (g : Int))] w fun e w' => e = .returned (pairV Y) ∧ Ext w w' := fun w => hY ▸ c_product _ _ (an_w64 hq) (w64_div (den_w64 hp) g) w
  have C1 := Lib.hid c1
  have C2 := Lib.hid c2
  have HG := Lib.hid hg
  have HX := Lib.hid hX
  have HY := Lib.hid hY
  have HX' := Lib.hid hX'
  have HY' := Lib.hid hY'
  have HR := Lib.hid hr
  clear c1 c2 hg hX hY hX' hY' hr
  go_enter Tryd.func60, Tryd.ntmps60
  go_wp2
  refine wp_region_quiet_below (by kernel_rfl) (by kernel_rfl) ?_
  repeat (go_big_quiet_step ((first | (go_at_call 53; with_reducible exact Calls.ext_of (c_an p hp _)) | (go_at_call 53; with_reducible exact Calls.ext_of (c_den p hp _)) | (go_at_call 53; with_reducible exact Calls.ext_of (c_an q hq _)) | (go_at_call 53; with_reducible exact Calls.ext_of (c_den q hq _)) | (go_at_call 54; with_reducible exact Calls.ext_of (cg.out _)))))
  refine wpQuiet_nil ?_
  intro _ hw'
  obtain ⟨⟨dq, osq⟩, hw''⟩ := hw'
  subst hw''
  go_wp2
  refine RT.region_two (aq := ?aq) (n := 18) (sx := 7) (sy := 8) (vx := 31) (vy := 40) (oz := .cells #[.int .u64 0, .int .u64 0] 85) (ox := .cells #[.int .u64 (hiW X : Int), .int .u64 (loW X : Int)] 85) (oy := .cells #[.int .u64 (hiW Y : Int), .int .u64 (loW Y : Int)] 85) (qs := [_, _, _, _, _, _, _, _, _, _, _, _, _, _, _, _, _, _]) (by kernel_rfl) rfl (by kernel_rfl) (by kernel_rfl) rfl rfl (of_decide_eq_true (by kernel_rfl)) (of_decide_eq_true (by kernel_rfl)) rfl rfl rfl rfl (by kernel_rfl) (by kernel_rfl) (by kernel_rfl) (by kernel_rfl) ?_ ?_ ?_ ?_ ?_ ?_
  rotate_left
  · intro e w
    simp [execOp, go_sem, Tryd.underlying85]
  · intro e w
    simp [execOp, go_sem, Tryd.underlying85]
  · intro w1 hE1
    have hh : RT.Has [(w.heap.size, 0, .int .i64 (nm p)), (w.heap.size, 1, .int .i64 (dn p)), (w.heap.size + 1, 0, .int .i64 (nm q)), (w.heap.size + 1, 1, .int .i64 (dn q))] w1 := by
      refine RT.Has.ext (w := ((w.alloc (.cells #[.int .i64 (nm p), .int .i64 (dn p)] 23)).alloc (.cells #[.int .i64 (nm q), .int .i64 (dn q)] 23)).alloc (.cells #[.int .i64 0, .int .i64 0] 23)) ?_ ((ext_grow (Ext.refl _) _ _).trans hE1)
      exact ⟨cell_of_at (three_first _ _ _ _) 0 rfl, cell_of_at (three_first _ _ _ _) 1 rfl, cell_of_at (three_second _ _ _ _) 0 rfl, cell_of_at (three_second _ _ _ _) 1 rfl, trivial⟩
    obtain ⟨m0, m1, n0, n1, -⟩ := hh
    have z0 := World.block_lt_of_cell? _ _ m0
    have z1 := World.block_lt_of_cell? _ _ n0
    simp only at z0 z1
    clear hE1
    simp only [List.cons_append, List.nil_append]
    repeat (go_big_quiet_step ((first | (go_at_call 53; with_reducible exact Calls.ext_of (c_an p hp _)) | (go_at_call 53; with_reducible exact Calls.ext_of (c_den p hp _)) | (go_at_call 53; with_reducible exact Calls.ext_of (c_an q hq _)) | (go_at_call 53; with_reducible exact Calls.ext_of (c_den q hq _)) | (go_at_call 69; with_reducible exact Calls.ext_of (C1.out _)) | (go_at_call 69; with_reducible exact Calls.ext_of (C2.out _)))))
    refine wpQuiet_nil ?_
    exact rfl
  · intro e w b h1 h2 h3
    obtain ⟨c0, c1, f0, f1⟩ := run_pair h3
    have h2' : e (.tmp 31) = pairV X := h2
    apply Exists.intro
    apply And.intro
    · simp [execOp, go_sem, Tryd.underlying85, h1, h2', c0, c1, f0, f1]
      exact rfl
    · exact store_pair h3
  · intro e w b h1 h2 h3
    obtain ⟨c0, c1, f0, f1⟩ := run_pair h3
    have h2' : e (.tmp 40) = pairV Y := h2
    apply Exists.intro
    apply And.intro
    · simp [execOp, go_sem, Tryd.underlying85, h1, h2', c0, c1, f0, f1]
      exact rfl
    · exact store_pair h3
  · intro bx by_ w' hE hbx hby hne hX hY
    have hE0 := (ext_grow (Ext.refl (((w.alloc (.cells #[.int .i64 (nm p), .int .i64 (dn p)] 23)).alloc (.cells #[.int .i64 (nm q), .int .i64 (dn q)] 23)).alloc (.cells #[.int .i64 0, .int .i64 0] 23))) dq osq).trans hE
    have hEw : Ext w w' := Ext.trans ((by repeat (first | exact Ext.refl _ | assumption | refine Ext.alloc ?_ _ | refine Ext.drewN ?_ _ | refine Ext.drew ?_ | refine ext_grow ?_ _ _ | refine Ext.setCell ?_ (by first | exact Nat.le_refl _ | omega | (simp; done) | (simp; omega)) _ | refine Ext.trans ?_ (by assumption)))) hE0
    have hB := hE0.blk (three_third _ _ _ _)
    have m0 := hE0.get (cell_of_at (three_first _ _ _ _) 0 rfl)
    have m1 := hE0.get (cell_of_at (three_first _ _ _ _) 1 rfl)
    have n0 := hE0.get (cell_of_at (three_second _ _ _ _) 0 rfl)
    have n1 := hE0.get (cell_of_at (three_second _ _ _ _) 1 rfl)
    have s3 : w.heap.size + 1 + 1 + 1 ≤ w'.heap.size := by
      have := hE0.size
      rw [size_one, size_one, size_one] at this
      exact this
    have s9 := (Ext.grow (((w.alloc (.cells #[.int .i64 (nm p), .int .i64 (dn p)] 23)).alloc (.cells #[.int .i64 (nm q), .int .i64 (dn q)] 23)).alloc (.cells #[.int .i64 0, .int .i64 0] 23)) dq osq).size
    rw [size_one, size_one, size_one] at s9
    have hbx' : w.heap.size + 1 + 1 < bx := by omega
    have hby' : w.heap.size + 1 + 1 < by_ := by omega
    obtain ⟨x0, x1, xf0, xf1⟩ := run_pair hX
    obtain ⟨y0, y1, yf0, yf1⟩ := run_pair hY
    have z3 := World.block_lt_of_cell? _ _ x0
    have z4 := World.block_lt_of_cell? _ _ y0
    simp only at z3 z4
    have z0 : w.heap.size < w'.heap.size := by omega
    have z1 : w.heap.size + 1 < w'.heap.size := by omega
    have z2 : w.heap.size + 1 + 1 < w'.heap.size := by omega
    have k1 : ¬ bx = by_ := hne
    have k2 : ¬ by_ = bx := fun h => hne h.symm
    have k3 : ¬ w.heap.size = bx := by omega
    have k4 : ¬ w.heap.size = by_ := by omega
    have k5 : ¬ w.heap.size + 1 = bx := by omega
    have k6 : ¬ w.heap.size + 1 = by_ := by omega
    have HEW := Lib.hid hEw
    have HB := Lib.hid hB
    have HBX := Lib.hid hbx'
    have HBY := Lib.hid hby'
    clear hbx hby hE0 hE s9 s3 hne hX hY hEw hB hbx' hby'
    have px : X ≤ 4611686018427387903 * 4611686018427387903 := by
      rw [← HX.out]; exact Nat.mul_le_mul (an_small hp) (Nat.le_trans (Nat.div_le_self _ _) (dw_small hq))
    have py : Y ≤ 4611686018427387903 * 4611686018427387903 := by
      rw [← HY.out]; exact Nat.mul_le_mul (an_small hq) (Nat.le_trans (Nat.div_le_self _ _) (dw_small hp))
    have PX := Lib.hid px
    have PY := Lib.hid py
    clear px py
    have hsf := hsg
    have hlt : X < Y := by rw [← HX'.out, ← HY'.out]; exact hlt0
    clear hlt0
    obtain ⟨N, hN⟩ : ∃ N, Y - X = N := ⟨_, rfl⟩
    have hN' : sumN p q = N := by unfold sumN; rw [if_pos hsg, HX'.out, HY'.out, if_pos hlt, hN]
    have hneg : sumNeg p q = decide (nm q < 0) := by unfold sumNeg; rw [if_pos hsg, HX'.out, HY'.out, if_pos hlt]
    have wY : W128 Y := by have := PY.out; unfold W128; omega
    have wN : W128 N := by unfold W128 at *; omega
    have ca := Lib.hid (fun w => hN ▸ c_sub Y X (Nat.le_of_lt hlt) wY w)
    have cl := Lib.hid (fun w => decide_eq_true hlt ▸ c_less X Y w)
    clear hsg hN hlt wY
    obtain ⟨h, hh⟩ : ∃ h, Nat.gcd g (N % g) = h := ⟨_, rfl⟩
    have wg : W64 g := by rw [← HG.out]; exact Nat.lt_of_le_of_lt (Nat.gcd_le_left _ p.den_pos) (den_w64 hp)
    have h0 : 0 < h := by rw [← hh]; exact Nat.gcd_pos_of_pos_left _ g0
    have wh : W64 h := by rw [← hh]; exact Nat.lt_of_le_of_lt (Nat.gcd_le_left _ g0) wg
    have cd1 := Lib.hid (fun w => c_div N g wN wg g0 w)
    have cg2 := Lib.hid (fun w => hh ▸ c_gcd g (N % g) wg (w64_mod wg (by omega)) w)
    have cd2 := Lib.hid (fun w => c_div N h wN wh h0 w)
    have hr' : madeR (decide (nm q < 0)) (N / h) (dw p / g * (dw q / h)) = r := by
      have := (sum_eq p q).symm.trans HR.out
      rw [HG.out, hN', hh, hneg] at this
      exact this
    have WN := Lib.hid wN
    have H0 := Lib.hid h0
    have WH := Lib.hid wh
    have WG := Lib.hid wg
    clear hN' hneg hh wN wg h0 wh
    go_wp2_with (go_at_call 72; refine (cl.out _).mono ?_; rintro e w' ⟨rfl, hb⟩; have hc := hb.cell; have hf := hb.frozen; have hz := hb.size; (try simp at hz); have z0 : w.heap.size < w'.heap.size := (by omega); have z1 : w.heap.size + 1 < w'.heap.size := (by omega); have z2 : w.heap.size + 1 + 1 < w'.heap.size := (by omega); have z3 : bx < w'.heap.size := (by omega); have z4 : by_ < w'.heap.size := (by omega))
    go_region
    obtain ⟨w3, hw3⟩ : ∃ w3, ((((w'.setCell ⟨bx, 0, none⟩ (.int .u64 (hiW Y : Int))).setCell ⟨bx, 1, none⟩ (.int .u64 (loW Y : Int))).setCell ⟨by_, 0, none⟩ (.int .u64 (hiW X : Int))).setCell ⟨by_, 1, none⟩ (.int .u64 (loW X : Int))).drew = w3 := ⟨_, rfl⟩
    have HW3 := Lib.hid hw3
    clear hw3
    have hB3 : w3.heap[w.heap.size + 1 + 1]? = some (.cells #[.int .i64 0, .int .i64 0] 23) := by
      have g1 := HBX.out
      have g2 := HBY.out
      rw [← HW3.out]
      show (((((w'.setCell ⟨bx, 0, none⟩ (.int .u64 (hiW Y : Int))).setCell ⟨bx, 1, none⟩ (.int .u64 (loW Y : Int))).setCell ⟨by_, 0, none⟩ (.int .u64 (hiW X : Int))).setCell ⟨by_, 1, none⟩ (.int .u64 (loW X : Int)))).heap[w.heap.size + 1 + 1]? = _
      rw [Below.heap_setCell _ _ _ _ (show w.heap.size + 1 + 1 ≠ by_ by omega), Below.heap_setCell _ _ _ _ (show w.heap.size + 1 + 1 ≠ by_ by omega), Below.heap_setCell _ _ _ _ (show w.heap.size + 1 + 1 ≠ bx by omega), Below.heap_setCell _ _ _ _ (show w.heap.size + 1 + 1 ≠ bx by omega)]
      exact hb.blk HB.out
    have hE3 : Ext w w3 := by
      have g1 := HBX.out
      have g2 := HBY.out
      rw [← HW3.out]
      exact (((((HEW.out.trans hb).setCell (by show _ ≤ bx; omega) _).setCell (by show _ ≤ bx; omega) _).setCell (by show _ ≤ by_; omega) _).setCell (by show _ ≤ by_; omega) _).drew
    have s3 : w3.heap.size = w'.heap.size := by rw [← HW3.out]; simp
    have m0' : w3.cell? ⟨w.heap.size, 0, none⟩ = some (.int .i64 (nm p)) := by rw [← HW3.out]; go_simp
    have m1' : w3.cell? ⟨w.heap.size, 1, none⟩ = some (.int .i64 (dn p)) := by rw [← HW3.out]; go_simp
    have n0' : w3.cell? ⟨w.heap.size + 1, 0, none⟩ = some (.int .i64 (nm q)) := by rw [← HW3.out]; go_simp
    have n1' : w3.cell? ⟨w.heap.size + 1, 1, none⟩ = some (.int .i64 (dn q)) := by rw [← HW3.out]; go_simp
    have x0' : w3.cell? ⟨bx, 0, none⟩ = some (.int .u64 (hiW Y : Int)) := by rw [← HW3.out]; go_simp
    have x1' : w3.cell? ⟨bx, 1, none⟩ = some (.int .u64 (loW Y : Int)) := by rw [← HW3.out]; go_simp
    have y0' : w3.cell? ⟨by_, 0, none⟩ = some (.int .u64 (hiW X : Int)) := by rw [← HW3.out]; go_simp
    have y1' : w3.cell? ⟨by_, 1, none⟩ = some (.int .u64 (loW X : Int)) := by rw [← HW3.out]; go_simp
    have f0' : w3.frozen? ⟨bx, 0, none⟩ = false := by rw [← HW3.out]; go_simp
    have f1' : w3.frozen? ⟨bx, 1, none⟩ = false := by rw [← HW3.out]; go_simp
    rw [HW3.out]
    have v0 : w.heap.size < w3.heap.size := by omega
    have v1 : w.heap.size + 1 < w3.heap.size := by omega
    have v2 : w.heap.size + 1 + 1 < w3.heap.size := by omega
    have v3 : bx < w3.heap.size := by omega
    have v4 : by_ < w3.heap.size := by omega
    clear s3 hc hf hb hz z0 z1 z2 z3 z4
    replace HB := Lib.hid hB3
    replace HEW := Lib.hid hE3
    have HEWo := HEW.out
    clear hB3 hE3
    go_wp2_with (first | (go_at_call 91; refine (ca.out _).mono ?_; rintro e w' ⟨rfl, hb⟩; have hc := hb.cell; have hf := hb.frozen; have hz := hb.size; (try simp at hz); have z0 : w.heap.size < w'.heap.size := (by omega); have z1 : w.heap.size + 1 < w'.heap.size := (by omega); have z2 : w.heap.size + 1 + 1 < w'.heap.size := (by omega); have z3 : bx < w'.heap.size := (by omega); have z4 : by_ < w'.heap.size := (by omega)) | (go_at_call 70; with_reducible refine (cd1.out _).mono ?_; rintro e w' ⟨rfl, hb⟩; have hc := hb.cell; have hf := hb.frozen; have hz := hb.size; (try simp at hz); have z0 : w.heap.size < w'.heap.size := (by omega); have z1 : w.heap.size + 1 < w'.heap.size := (by omega); have z2 : w.heap.size + 1 + 1 < w'.heap.size := (by omega); have z3 : bx < w'.heap.size := (by omega); have z4 : by_ < w'.heap.size := (by omega)) | (go_at_call 54; refine (cg2.out _).mono ?_; rintro e w' ⟨rfl, hb⟩; have hc := hb.cell; have hf := hb.frozen; have hz := hb.size; (try simp at hz); have z0 : w.heap.size < w'.heap.size := (by omega); have z1 : w.heap.size + 1 < w'.heap.size := (by omega); have z2 : w.heap.size + 1 + 1 < w'.heap.size := (by omega); have z3 : bx < w'.heap.size := (by omega); have z4 : by_ < w'.heap.size := (by omega)) | (go_at_call 70; with_reducible refine (cd2.out _).mono ?_; rintro e w' ⟨rfl, hb⟩; have hc := hb.cell; have hf := hb.frozen; have hz := hb.size; (try simp at hz); have z0 : w.heap.size < w'.heap.size := (by omega); have z1 : w.heap.size + 1 < w'.heap.size := (by omega); have z2 : w.heap.size + 1 + 1 < w'.heap.size := (by omega); have z3 : bx < w'.heap.size := (by omega); have z4 : by_ < w'.heap.size := (by omega)))
    have cq1 := quo_in (den_w64 hq) h
    have q6 : ((h : Int) == 0) = false := by have := H0.out; simp; omega
    have cp : ∀ w, Calls Tryd.prog 69 #[.int .u64 ((dw p : Int) / (g : Int)), .int .u64 ((dw q : Int) / (h : Int))] w fun e w' => e = .returned (pairV (dw p / g * (dw q / h))) ∧ Ext w w' := fun w => c_product _ _ (w64_div (den_w64 hp) g) (w64_div (den_w64 hq) h) w
    have cm : ∀ w, Calls Tryd.prog 55 #[.bool (decide (nm q < 0)), pairV (N / h), pairV (dw p / g * (dw q / h))] w fun e w' => e = .returned (fansV r) ∧ Ext w w' := fun w => hr' ▸ c_made _ _ _ (Nat.lt_of_le_of_lt (Nat.div_le_self _ _) WN.out) (w64_mul (w64_div (den_w64 hp) g) (w64_div (den_w64 hq) h)) w
    have h0 := H0.out
    have CP := Lib.hid cp
    have CM := Lib.hid cm
    clear cp cm hr'
    have b0 : (w'.alloc (.cells #[.int .u64 (hiW (N / h) : Int), .int .u64 (loW (N / h) : Int)] 85)).heap[w.heap.size + 1 + 1]? = some (.cells #[.int .i64 0, .int .i64 0] 23) := by
      have g1 := HBX.out
      have g2 := HBY.out
      have g3 := HB.out
      repeat (first | exact g3 | (refine (Below.heap_setCell _ _ _ _ (show w.heap.size + 1 + 1 ≠ bx by omega)).trans ?_) | (refine (blk_past _ _ (by first | omega | (simp; omega))).trans ?_) | (refine Ext.blk (by assumption) ?_))
    have eE : Ext w (w'.alloc (.cells #[.int .u64 (hiW (N / h) : Int), .int .u64 (loW (N / h) : Int)] 85)) := by
      have g1 := HBX.out
      have g2 := HBY.out
      have g3 := HEW.out
      exact (by repeat (first | exact Ext.refl _ | assumption | refine Ext.alloc ?_ _ | refine Ext.drewN ?_ _ | refine Ext.drew ?_ | refine ext_grow ?_ _ _ | refine Ext.setCell ?_ (by first | exact Nat.le_refl _ | omega | (simp; done) | (simp; omega)) _ | refine Ext.trans ?_ (by assumption)))
    have hh : RT.Has [(w.heap.size, 0, .int .i64 (nm p)), (w.heap.size, 1, .int .i64 (dn p)), (w.heap.size + 1, 0, .int .i64 (nm q)), (w.heap.size + 1, 1, .int .i64 (dn q)), (w'.heap.size, 0, .int .u64 (hiW (N / h) : Int)), (w'.heap.size, 1, .int .u64 (loW (N / h) : Int))] (w'.alloc (.cells #[.int .u64 (hiW (N / h) : Int), .int .u64 (loW (N / h) : Int)] 85)).drew := by
      refine ⟨?_, ?_, ?_, ?_, ?_, ?_, trivial⟩
      all_goals (go_simp; try done)
    have B0 := Lib.hid b0
    have EE := Lib.hid eE
    have HH := Lib.hid hh
    clear b0 eE hh hc hf
    refine RT.region_store (aq := ?aqs1) (n := 16) (sp := 4) (vx := 92) (b0 := w.heap.size + 1 + 1) (oz := .cells #[.int .i64 0, .int .i64 0] 23) (ox := .cells #[.int .i64 r.1.num, .int .i64 r.1.den] 23) (qs1 := [_, _, _, _, _, _, _, _, _, _, _, _, _, _, _, _]) (qs2 := [_]) (wb := w) (RT.Has [(w.heap.size, 0, .int .i64 (nm p)), (w.heap.size, 1, .int .i64 (dn p)), (w.heap.size + 1, 0, .int .i64 (nm q)), (w.heap.size + 1, 1, .int .i64 (dn q)), (w'.heap.size, 0, .int .u64 (hiW (N / h) : Int)), (w'.heap.size, 1, .int .u64 (loW (N / h) : Int))]) (by kernel_rfl) rfl (by kernel_rfl) (by kernel_rfl) rfl rfl (by kernel_rfl) (by kernel_rfl) rfl ?_ ?_ ?_ ?_ ?_ ?_ ?_ ?_ ?_
    rotate_left
    · exact B0.out
    · exact EE.out
    · omega
    · exact HH.out
    · exact fun _ _ h => h.ext
    · exact fun _ _ h k => h.other (by simp; omega) k
    · rintro w1 ⟨m0, m1, n0, n1, o0, o1, -⟩
      simp only [List.cons_append, List.nil_append]
      have z0 := World.block_lt_of_cell? _ _ m0
      have z1 := World.block_lt_of_cell? _ _ n0
      have z5 := World.block_lt_of_cell? _ _ o0
      simp only at z0 z1 z5
      repeat (go_big_quiet_step ((first | (go_at_call 53; with_reducible exact Calls.ext_of (c_an p hp _)) | (go_at_call 53; with_reducible exact Calls.ext_of (c_den p hp _)) | (go_at_call 53; with_reducible exact Calls.ext_of (c_an q hq _)) | (go_at_call 53; with_reducible exact Calls.ext_of (c_den q hq _)) | (go_at_call 69; with_reducible exact Calls.ext_of (CP.out _)) | (go_at_call 55; with_reducible exact Calls.ext_of (CM.out _)))))
      refine wpQuiet_nil ?_
      exact rfl
    · intro e w h1 h2 h3
      obtain ⟨c0, c1, f0, f1⟩ := run_pair h3
      have h2' : e (.tmp 92) = .agg #[.int .i64 r.1.num, .int .i64 r.1.den] := h2
      apply Exists.intro
      apply And.intro
      · simp [execOp, go_sem, h1, h2', c0, c1, f0, f1]
        exact rfl
      · exact store_pair h3
    · intro w' _ hE hX
      go_wp2
      refine bodyPost_ret (RT.results_row2 rfl _ _ (w.heap.size + 1 + 1) 23 _ (0, 0) _ rfl hX Tryd.underlying23 rfl info_frac) rfl ?_
      exact ⟨rfl, hE⟩
end Go.Proofs.YtodoimeiklilhaaDoor

/- The walk of layer 1's sum. -/
namespace Go.Proofs.YtodoimeiklilhaaDoor
open Go.RowKit Go.Sort
theorem c_sum (p q : Rat) (hp : Fits p) (hq : Fits q) (w : World) :
    Calls Tryd.prog 60 #[ratV p, ratV q] w fun e w' => e = .returned (fansV (answer (p + q))) ∧ Ext w w' := by
  by_cases hsg : (!(decide (nm p < 0) == decide (nm q < 0))) = true
  · by_cases hlt : sumX p q < sumY p q
    · exact c_sum_lt p q hp hq hsg hlt w
    · exact c_sum_ge p q hp hq hsg hlt w
  · exact c_sum_same p q hp hq hsg w
end Go.Proofs.YtodoimeiklilhaaDoor

/- The walks of layer 1's difference and quotient. -/
namespace Go.Proofs.YtodoimeiklilhaaDoor
open Go.RowKit Go.Sort

set_option maxRecDepth 100000 in
set_option maxHeartbeats 2000000 in
theorem c_difference (p q : Rat) (hp : Fits p) (hq : Fits q) (w : World) :
    Calls Tryd.prog 57 #[ratV p, ratV q] w fun e w' => e = .returned (fansV (answer (p - q))) ∧ Ext w w' := by
  obtain ⟨r, hr⟩ : ∃ r, answer (p - q) = r := ⟨_, rfl⟩
  rw [hr]
  obtain ⟨q', hq'⟩ : ∃ q', -q = q' := ⟨_, rfl⟩
  have cn := Lib.hid (fun w => hq' ▸ c_minus q hq w)
  have hr' : answer (p + q') = r := by rw [← hq', ← Rat.sub_eq_add_neg]; exact hr
  have cs := Lib.hid (fun w => hr' ▸ c_sum p q' hp (hq' ▸ fits_neg hq) w)
  clear hr hr' hq'
  go_enter Tryd.func57, Tryd.ntmps57
  go_wp2
  refine RT.region_store (aq := ?aqs1) (n := 6) (sp := 4) (vx := 10) (b0 := w.heap.size + 1 + 1) (oz := .cells #[.int .i64 0, .int .i64 0] 23) (ox := .cells #[.int .i64 r.1.num, .int .i64 r.1.den] 23) (qs1 := [_, _, _, _, _, _]) (qs2 := [_]) (wb := w) (RT.Has [(w.heap.size, 0, .int .i64 (nm p)), (w.heap.size, 1, .int .i64 (dn p)), (w.heap.size + 1, 0, .int .i64 (nm q)), (w.heap.size + 1, 1, .int .i64 (dn q))]) (by kernel_rfl) rfl (by kernel_rfl) (by kernel_rfl) rfl rfl (by kernel_rfl) (by kernel_rfl) rfl ?_ ?_ ?_ ?_ ?_ ?_ ?_ ?_ ?_
  rotate_left
  · exact three_third _ _ _ _
  · exact (by repeat (first | exact Ext.refl _ | assumption | refine Ext.alloc ?_ _ | refine Ext.drewN ?_ _ | refine ext_grow ?_ _ _ | refine Ext.setCell ?_ (by first | exact Nat.le_refl _ | omega | (simp; done) | (simp; omega)) _ | refine Ext.trans ?_ (by assumption)))
  · omega
  · refine RT.Has.ext (w := ((w.alloc (.cells #[.int .i64 (nm p), .int .i64 (dn p)] 23)).alloc (.cells #[.int .i64 (nm q), .int .i64 (dn q)] 23)).alloc (.cells #[.int .i64 0, .int .i64 0] 23)) ?_ (Ext.refl _).drew
    exact ⟨cell_of_at (three_first _ _ _ _) 0 rfl, cell_of_at (three_first _ _ _ _) 1 rfl, cell_of_at (three_second _ _ _ _) 0 rfl, cell_of_at (three_second _ _ _ _) 1 rfl, trivial⟩
  · exact fun _ _ h => h.ext
  · exact fun _ _ h k => h.other (by simp; omega) k
  · rintro w1 ⟨m0, m1, n0, n1, -⟩
    simp only [List.cons_append, List.nil_append]
    have z0 := World.block_lt_of_cell? _ _ m0
    have z1 := World.block_lt_of_cell? _ _ n0
    simp only at z0 z1
    repeat (go_big_quiet_step ((first | (go_at_call 62; with_reducible exact Calls.ext_of (cn.out _)) | (go_at_call 60; with_reducible exact Calls.ext_of (cs.out _)))))
    refine wpQuiet_nil ?_
    exact rfl
  · intro e w h1 h2 h3
    obtain ⟨c0, c1, f0, f1⟩ := run_pair h3
    have h2' : e (.tmp 10) = .agg #[.int .i64 r.1.num, .int .i64 r.1.den] := h2
    apply Exists.intro
    apply And.intro
    · simp [execOp, go_sem, h1, h2', c0, c1, f0, f1]
      exact rfl
    · exact store_pair h3
  · intro w' _ hE hX
    go_wp2
    refine bodyPost_ret (RT.results_row2 rfl _ _ (w.heap.size + 1 + 1) 23 _ (0, 0) _ rfl hX Tryd.underlying23 rfl info_frac) rfl ?_
    exact ⟨rfl, hE⟩
def quotR (p q : Rat) : Frac × Int := if nm q = 0 then (⟨0, 0⟩, 10) else answer (p / q)
set_option maxRecDepth 100000 in
set_option maxHeartbeats 2000000 in
theorem c_quotient (p q : Rat) (hp : Fits p) (hq : Fits q) (w : World) :
    Calls Tryd.prog 59 #[ratV p, ratV q] w fun e w' => e = .returned (fansV (quotR p q)) ∧ Ext w w' := by
  obtain ⟨r, hr⟩ : ∃ r, quotR p q = r := ⟨_, rfl⟩
  rw [hr]
  by_cases h0 : nm q = 0
  · have HR : Hid (((⟨0, 0⟩, 10) : Frac × Int) = r) := by rw [← hr]; exact (if_pos h0).symm
    have t0 : (nm q == 0) = true := by simpa using h0
    have T0 := Lib.hid h0
    clear hr h0
    go_enter Tryd.func59, Tryd.ntmps59
    go_wp2
    refine bp_ret rfl ?_
    apply Exists.intro
    apply And.intro
    · simp [results, Tryd.results59, go_sem]; rfl
    exact ⟨ret_val (by rw [← HR.out]), (by repeat (first | exact Ext.refl _ | assumption | refine Ext.alloc ?_ _ | refine Ext.drewN ?_ _ | refine ext_grow ?_ _ _ | refine Ext.setCell ?_ (by first | exact Nat.le_refl _ | omega | (simp; done) | (simp; omega)) _ | refine Ext.trans ?_ (by assumption)))⟩
  obtain ⟨q', hq'⟩ : ∃ q', q⁻¹ = q' := ⟨_, rfl⟩
  have cn := Lib.hid (fun w => hq' ▸ c_over q hq h0 w)
  have hr' : answer (p * q') = r := by rw [← hr, ← hq']; unfold quotR; rw [if_neg h0]; rfl
  have cs := Lib.hid (fun w => hr' ▸ c_times p q' hp (hq' ▸ fits_inv hq h0) w)
  have t0 : (nm q == 0) = false := by simpa using h0
  clear hr hr' hq' h0
  go_enter Tryd.func59, Tryd.ntmps59
  go_wp2
  refine RT.region_store (aq := ?aqs2) (n := 6) (sp := 4) (vx := 14) (b0 := w.heap.size + 1 + 1) (oz := .cells #[.int .i64 0, .int .i64 0] 23) (ox := .cells #[.int .i64 r.1.num, .int .i64 r.1.den] 23) (qs1 := [_, _, _, _, _, _]) (qs2 := [_]) (wb := w) (RT.Has [(w.heap.size, 0, .int .i64 (nm p)), (w.heap.size, 1, .int .i64 (dn p)), (w.heap.size + 1, 0, .int .i64 (nm q)), (w.heap.size + 1, 1, .int .i64 (dn q))]) (by kernel_rfl) rfl (by kernel_rfl) (by kernel_rfl) rfl rfl (by kernel_rfl) (by kernel_rfl) rfl ?_ ?_ ?_ ?_ ?_ ?_ ?_ ?_ ?_
  rotate_left
  · exact three_third _ _ _ _
  · exact (by repeat (first | exact Ext.refl _ | assumption | refine Ext.alloc ?_ _ | refine Ext.drewN ?_ _ | refine ext_grow ?_ _ _ | refine Ext.setCell ?_ (by first | exact Nat.le_refl _ | omega | (simp; done) | (simp; omega)) _ | refine Ext.trans ?_ (by assumption)))
  · omega
  · refine RT.Has.ext (w := ((w.alloc (.cells #[.int .i64 (nm p), .int .i64 (dn p)] 23)).alloc (.cells #[.int .i64 (nm q), .int .i64 (dn q)] 23)).alloc (.cells #[.int .i64 0, .int .i64 0] 23)) ?_ (Ext.refl _).drew
    exact ⟨cell_of_at (three_first _ _ _ _) 0 rfl, cell_of_at (three_first _ _ _ _) 1 rfl, cell_of_at (three_second _ _ _ _) 0 rfl, cell_of_at (three_second _ _ _ _) 1 rfl, trivial⟩
  · exact fun _ _ h => h.ext
  · exact fun _ _ h k => h.other (by simp; omega) k
  · rintro w1 ⟨m0, m1, n0, n1, -⟩
    simp only [List.cons_append, List.nil_append]
    have z0 := World.block_lt_of_cell? _ _ m0
    have z1 := World.block_lt_of_cell? _ _ n0
    simp only at z0 z1
    repeat (go_big_quiet_step ((first | (go_at_call 89; with_reducible exact Calls.ext_of (cn.out _)) | (go_at_call 58; with_reducible exact Calls.ext_of (cs.out _)))))
    refine wpQuiet_nil ?_
    exact rfl
  · intro e w h1 h2 h3
    obtain ⟨c0, c1, f0, f1⟩ := run_pair h3
    have h2' : e (.tmp 14) = .agg #[.int .i64 r.1.num, .int .i64 r.1.den] := h2
    apply Exists.intro
    apply And.intro
    · simp [execOp, go_sem, h1, h2', c0, c1, f0, f1]
      exact rfl
    · exact store_pair h3
  · intro w' _ hE hX
    go_wp2
    refine bodyPost_ret (RT.results_row2 rfl _ _ (w.heap.size + 1 + 1) 23 _ (0, 0) _ rfl hX Tryd.underlying23 rfl info_frac) rfl ?_
    exact ⟨rfl, hE⟩
end Go.Proofs.YtodoimeiklilhaaDoor
