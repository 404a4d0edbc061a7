/- The walk of layer 1's product. -/
import Derived.Test.YtodoimeiklilhaaDoorFracMath
set_option linter.unusedVariables false
set_option linter.unusedSimpArgs false
namespace Go.Proofs.YtodoimeiklilhaaDoor
open Go.RowKit Go.Sort

theorem w64_div {n : Nat} (h : W64 n) (g : Nat) : W64 (n / g) := Nat.lt_of_le_of_lt (Nat.div_le_self _ _) h
theorem quo_in {n : Nat} (h : W64 n) (g : Nat) : IntKind.u64.wrap ((n : Int) / (g : Int)) = (n : Int) / (g : Int) := w64_in (w64_div h g)
set_option maxRecDepth 100000 in
set_option maxHeartbeats 2000000 in
theorem c_times (p q : Rat) (hp : Fits p) (hq : Fits q) (w : World) :
    Calls Tryd.prog 58 #[ratV p, ratV q] w fun e w' => e = .returned (fansV (answer (p * q))) ∧ Ext w w' := by
  obtain ⟨r, hr⟩ : ∃ r, answer (p * q) = r := ⟨_, rfl⟩
  rw [hr]
  obtain ⟨g, hg⟩ : ∃ g, Nat.gcd (an p) (dw q) = g := ⟨_, rfl⟩
  obtain ⟨h, hh⟩ : ∃ h, Nat.gcd (an q) (dw p) = h := ⟨_, rfl⟩
  have hr' := (times_eq p q hg hh).symm.trans hr
  have g0 : 0 < g := by rw [← hg]; exact Nat.gcd_pos_of_pos_right _ q.den_pos
  have h0 : 0 < h := by rw [← hh]; exact Nat.gcd_pos_of_pos_right _ p.den_pos
  have q1 := quo_in (an_w64 hp) g
  have q2 := quo_in (an_w64 hq) h
  have q3 := quo_in (den_w64 hp) h
  have q4 := quo_in (den_w64 hq) g
  have q5 : ((g : Int) == 0) = false := by simp; omega
  have q6 : ((h : Int) == 0) = false := by simp; omega
  have cg := Lib.hid (fun w => hg ▸ c_gcd (an p) (dw q) (an_w64 hp) (den_w64 hq) w)
  have ch := Lib.hid (fun w => hh ▸ c_gcd (an q) (dw p) (an_w64 hq) (den_w64 hp) w)
  have c1 : ∀ w, Calls Tryd.prog 69 #[.int .u64 ((an p : Int) / (g : Int)), .int .u64 ((an q : Int) / (h : Int))] w fun e w' => e = .returned (pairV (an p / g * (an q / h))) ∧ Ext w w' := fun w => c_product _ _ (w64_div (an_w64 hp) g) (w64_div (an_w64 hq) h) w
  have c2 : ∀ w, Calls Tryd.prog 69 #[.int .u64 ((dw p : Int) / (h : Int)), .int .u64 ((dw q : Int) / (g : Int))] w fun e w' => e = .returned (pairV (dw p / h * (dw q / g))) ∧ Ext w w' := fun w => c_product _ _ (w64_div (den_w64 hp) h) (w64_div (den_w64 hq) g) w
  have cm : ∀ w, Calls Tryd.prog 55 #[.bool (!(decide (nm p < 0) == decide (nm q < 0))), pairV (an p / g * (an q / h)), pairV (dw p / h * (dw q / g))] w fun e w' => e = .returned (fansV r) ∧ Ext w w' := fun w => hr' ▸ c_made _ _ _ (w64_mul (w64_div (an_w64 hp) g) (w64_div (an_w64 hq) h)) (w64_mul (w64_div (den_w64 hp) h) (w64_div (den_w64 hq) g)) w
  have C1 := Lib.hid c1
  have C2 := Lib.hid c2
  have CM := Lib.hid cm
  clear c1 c2 cm hr' hg hh hr
  go_enter Tryd.func58, Tryd.ntmps58
  go_wp2
  refine wp_region_quiet_below (by kernel_rfl) (by kernel_rfl) ?_
  repeat (go_big_quiet_step ((first | (go_at_call 53; with_reducible exact Calls.ext_of (c_an p hp _)) | (go_at_call 53; with_reducible exact Calls.ext_of (c_den p hp _)) | (go_at_call 53; with_reducible exact Calls.ext_of (c_an q hq _)) | (go_at_call 53; with_reducible exact Calls.ext_of (c_den q hq _)) | (go_at_call 54; with_reducible exact Calls.ext_of (cg.out _)) | (go_at_call 54; with_reducible exact Calls.ext_of (ch.out _)))))
  refine wpQuiet_nil ?_
  intro _ hw'
  obtain ⟨⟨dq, osq⟩, hw''⟩ := hw'
  subst hw''
  go_wp2
  refine RT.region_store (aq := ?aqs1) (n := 32) (sp := 4) (vx := 52) (b0 := w.heap.size + 1 + 1) (oz := .cells #[.int .i64 0, .int .i64 0] 23) (ox := .cells #[.int .i64 r.1.num, .int .i64 r.1.den] 23) (qs1 := [_, _, _, _, _, _, _, _, _, _, _, _, _, _, _, _, _, _, _, _, _, _, _, _, _, _, _, _, _, _, _, _]) (qs2 := [_]) (wb := w) (RT.Has [(w.heap.size, 0, .int .i64 (nm p)), (w.heap.size, 1, .int .i64 (dn p)), (w.heap.size + 1, 0, .int .i64 (nm q)), (w.heap.size + 1, 1, .int .i64 (dn q))]) (by kernel_rfl) rfl (by kernel_rfl) (by kernel_rfl) rfl rfl (by kernel_rfl) (by kernel_rfl) rfl ?_ ?_ ?_ ?_ ?_ ?_ ?_ ?_ ?_
  rotate_left
  · exact (Ext.grow _ _ _).blk (three_third _ _ _ _)
  · exact (by repeat (first | exact Ext.refl _ | assumption | refine Ext.alloc ?_ _ | refine Ext.drewN ?_ _ | refine ext_grow ?_ _ _ | refine Ext.setCell ?_ (by first | exact Nat.le_refl _ | omega | (simp; done) | (simp; omega)) _ | refine Ext.trans ?_ (by assumption)))
  · omega
  · refine RT.Has.ext (w := ((w.alloc (.cells #[.int .i64 (nm p), .int .i64 (dn p)] 23)).alloc (.cells #[.int .i64 (nm q), .int .i64 (dn q)] 23)).alloc (.cells #[.int .i64 0, .int .i64 0] 23)) ?_ (ext_grow (Ext.refl _) _ _).drew
    exact ⟨cell_of_at (three_first _ _ _ _) 0 rfl, cell_of_at (three_first _ _ _ _) 1 rfl, cell_of_at (three_second _ _ _ _) 0 rfl, cell_of_at (three_second _ _ _ _) 1 rfl, trivial⟩
  · exact fun _ _ h => h.ext
  · exact fun _ _ h k => h.other (by simp; omega) k
  · rintro w1 ⟨m0, m1, n0, n1, -⟩
    simp only [List.cons_append, List.nil_append]
    have z0 := World.block_lt_of_cell? _ _ m0
    have z1 := World.block_lt_of_cell? _ _ n0
    simp only at z0 z1
    repeat (go_big_quiet_step ((first | (go_at_call 53; with_reducible exact Calls.ext_of (c_an p hp _)) | (go_at_call 53; with_reducible exact Calls.ext_of (c_den p hp _)) | (go_at_call 53; with_reducible exact Calls.ext_of (c_an q hq _)) | (go_at_call 53; with_reducible exact Calls.ext_of (c_den q hq _)) | (go_at_call 69; with_reducible exact Calls.ext_of (C1.out _)) | (go_at_call 69; with_reducible exact Calls.ext_of (C2.out _)) | (go_at_call 55; with_reducible exact Calls.ext_of (CM.out _)))))
    refine wpQuiet_nil ?_
    exact rfl
  · intro e w h1 h2 h3
    obtain ⟨c0, c1, f0, f1⟩ := run_pair h3
    have h2' : e (.tmp 52) = .agg #[.int .i64 r.1.num, .int .i64 r.1.den] := h2
    apply Exists.intro
    apply And.intro
    · simp [execOp, go_sem, h1, h2', c0, c1, f0, f1]
      exact rfl
    · exact store_pair h3
  · intro w' _ hE hX
    go_wp2
    refine bodyPost_ret (RT.results_row2 rfl _ _ (w.heap.size + 1 + 1) 23 _ (0, 0) _ rfl hX Tryd.underlying23 rfl info_frac) rfl ?_
    exact ⟨rfl, hE⟩
end Go.Proofs.YtodoimeiklilhaaDoor
