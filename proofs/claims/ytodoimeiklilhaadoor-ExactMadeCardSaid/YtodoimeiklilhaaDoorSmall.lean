/- The walks of layer 1's small functions on fractions: minus, over, Make. -/
import Derived.Test.YtodoimeiklilhaaDoorOrder
set_option linter.unusedVariables false
set_option linter.unusedSimpArgs false
namespace Go.Proofs.YtodoimeiklilhaaDoor
open Go.RowKit Go.Sort

theorem fits_neg {q : Rat} (h : Fits q) : Fits (-q) := by
  unfold Fits at *
  rw [Rat.neg_num, Rat.neg_den]
  omega
theorem nm_neg (q : Rat) : nm (-q) = -nm q := rfl
theorem dn_neg (q : Rat) : dn (-q) = dn q := rfl
theorem wrap_nm {q : Rat} (h : Fits q) : wrap64 (-nm q) = -nm q := by
  have := (fits_i64 (fits_neg h)).1
  rw [nm_neg] at this
  exact IntWalk.wrap64_in _ this
theorem wrap_dn {q : Rat} (h : Fits q) : wrap64 (-dn q) = -dn q := by
  unfold Fits maxP at h
  exact IntWalk.wrap64_in _ (by unfold dn; omega)
set_option maxHeartbeats 1000000 in
theorem c_minus (q : Rat) (h : Fits q) (w : World) :
    Calls Tryd.prog 62 #[ratV q] w fun e w' => e = .returned (ratV (-q)) ∧ Ext w w' := by
  go_enter Tryd.func62, Tryd.ntmps62
  go_wp2
  refine bp_ret rfl ?_
  apply Exists.intro
  apply And.intro
  · simp [results, Tryd.results62, go_sem]; rfl
  refine ⟨ret_val ?_, (by repeat (first | exact Ext.refl _ | assumption | refine Ext.alloc ?_ _ | refine Ext.drewN ?_ _ | refine ext_grow ?_ _ _ | refine Ext.setCell ?_ (by first | exact Nat.le_refl _ | omega | (simp; done) | (simp; omega)) _ | refine Ext.trans ?_ (by assumption)))⟩
  rw [wrap_nm h]
  rfl
theorem fits_inv {q : Rat} (h : Fits q) (h0 : nm q ≠ 0) : Fits q⁻¹ := by
  unfold Fits nm at *
  rw [Rat.num_inv, Rat.den_inv, if_neg h0]
  have hd := q.den_pos
  rcases Int.lt_or_lt_of_ne h0 with h1 | h1
  · rw [Int.sign_eq_neg_one_of_neg h1]; omega
  · rw [Int.sign_eq_one_of_pos h1]; omega
theorem inv_neg {q : Rat} (h : nm q < 0) : nm q⁻¹ = -dn q ∧ dn q⁻¹ = -nm q := by
  unfold nm dn at *
  rw [Rat.num_inv, Rat.den_inv, if_neg (by omega), Int.sign_eq_neg_one_of_neg h]
  omega
theorem inv_pos {q : Rat} (h : 0 < nm q) : nm q⁻¹ = dn q ∧ dn q⁻¹ = nm q := by
  unfold nm dn at *
  rw [Rat.num_inv, Rat.den_inv, if_neg (by omega), Int.sign_eq_one_of_pos h]
  omega
set_option maxHeartbeats 1000000 in
theorem c_over (q : Rat) (h : Fits q) (h0 : nm q ≠ 0) (w : World) :
    Calls Tryd.prog 89 #[ratV q] w fun e w' => e = .returned (ratV q⁻¹) ∧ Ext w w' := by
  obtain ⟨r, hr⟩ : ∃ r, q⁻¹ = r := ⟨_, rfl⟩
  rw [hr]
  have HR := Lib.hid hr
  have H0 := Lib.hid h0
  clear hr h0
  go_enter Tryd.func89, Tryd.ntmps89
  go_wp2
  all_goals
    refine bp_ret rfl ?_
    apply Exists.intro
    apply And.intro
    · simp [results, Tryd.results89, go_sem]; rfl
    refine ⟨ret_val ?_, (by repeat (first | exact Ext.refl _ | assumption | refine Ext.alloc ?_ _ | refine Ext.drewN ?_ _ | refine ext_grow ?_ _ _ | refine Ext.setCell ?_ (by first | exact Nat.le_refl _ | omega | (simp; done) | (simp; omega)) _ | refine Ext.trans ?_ (by assumption)))⟩
    rw [← HR.out]
    first
    | (show _ = Value.agg #[.int .i64 (nm q⁻¹), .int .i64 (dn q⁻¹)]; rw [(inv_neg (by assumption)).1, (inv_neg (by assumption)).2, wrap_nm h, wrap_dn h])
    | (have h9 : 0 < nm q := (by have := H0.out; omega); show _ = Value.agg #[.int .i64 (nm q⁻¹), .int .i64 (dn q⁻¹)]; rw [(inv_pos h9).1, (inv_pos h9).2])
theorem blk_new (w : World) (o : Obj) : (w.alloc o).heap[w.heap.size]? = some o := by
  show (w.heap.push o)[w.heap.size]? = some o
  simp
/-- the answer of Make -/
def makeR (num den : Int) : Frac × Int := if den = 0 then (⟨0, 0⟩, 10) else answer (Rat.divInt num den)
theorem info_frac : (Tryd.prog.info? 23).map (·.size) = some 2 := by kernel_rfl
theorem answer_of {q : Rat} {n : Int} {d : Nat} (hn : q.num = n) (hd : q.den = d) : answer q = if d ≤ maxP ∧ -(maxP : Int) ≤ n ∧ n ≤ maxP then (⟨n, d⟩, 0) else (⟨0, 0⟩, 4) := by
  subst hn hd
  unfold answer
  by_cases h : Fits q
  · have h' : q.den ≤ maxP ∧ -(maxP : Int) ≤ q.num ∧ q.num ≤ maxP := h
    rw [if_pos h, if_pos h']; rfl
  · have h' : ¬ (q.den ≤ maxP ∧ -(maxP : Int) ≤ q.num ∧ q.num ≤ maxP) := h
    rw [if_neg h, if_neg h']
theorem make_eq {num den : Int} {n d g : Nat} {r1 : Frac × Int} (h0 : den ≠ 0) (hn : num.natAbs = n) (hd : den.natAbs = d) (hg : Nat.gcd n d = g)
    (hr : madeR (!(decide (num < 0) == decide (den < 0))) (n / g) (d / g) = r1) : makeR num den = r1 := by
  have g0 : 0 < g := by rw [← hg]; exact Nat.gcd_pos_of_pos_right _ (by omega)
  have e1 : (Rat.divInt num den).num = den.sign * num / (g : Int) := by
    rw [Rat.num_divInt, Int.gcd_comm]
    have : Int.gcd num den = g := by rw [← hg, ← hn, ← hd]; rfl
    rw [this]
  have e2 : (Rat.divInt num den).den = d / g := by
    rw [Rat.den_divInt, if_neg h0, Int.gcd_comm, hd]
    have : Int.gcd num den = g := by rw [← hg, ← hn, ← hd]; rfl
    rw [this]
  have e3 : den.sign * num / (g : Int) = if (!(decide (num < 0) == decide (den < 0))) = true then -((n / g : Nat) : Int) else ((n / g : Nat) : Int) := by
    have hdvd : (g : Int) ∣ (n : Int) := by rw [← hg]; exact Int.ofNat_dvd.2 (Nat.gcd_dvd_left _ _)
    have hneg : -(n : Int) / (g : Int) = -((n : Int) / (g : Int)) := Int.neg_ediv_of_dvd hdvd
    have hc : ((n / g : Nat) : Int) = (n : Int) / (g : Int) := rfl
    rw [hc]
    rcases Int.lt_or_lt_of_ne h0 with h1 | h1
    · rw [Int.sign_eq_neg_one_of_neg h1]
      by_cases h2 : num < 0
      · rw [if_neg (by simp [h1, h2]), show -1 * num = (n : Int) by omega]
      · rcases Int.lt_or_eq_of_le (Int.not_lt.1 h2) with h3 | h3
        · rw [if_pos (by simp [h1]; omega), show -1 * num = -(n : Int) by omega, hneg]
        · have : n = 0 := by omega
          subst this
          subst h3
          simp
    · rw [Int.sign_eq_one_of_pos h1]
      by_cases h2 : num < 0
      · rw [if_pos (by simp [h2]; omega), show 1 * num = -(n : Int) by omega, hneg]
      · rw [if_neg (by simp; omega), show 1 * num = (n : Int) by omega]
  unfold makeR
  rw [if_neg h0]
  rw [answer_of (e1.trans e3) e2, ← hr]
  unfold madeR
  generalize n / g = a
  generalize d / g = b
  have : (b ≤ maxP ∧ -(maxP : Int) ≤ (if (!(decide (num < 0) == decide (den < 0))) = true then -(a : Int) else (a : Int)) ∧ (if (!(decide (num < 0) == decide (den < 0))) = true then -(a : Int) else (a : Int)) ≤ maxP) ↔ (a ≤ maxP ∧ b ≤ maxP) := by
    split <;> omega
  simp only [this]
set_option maxRecDepth 100000 in
set_option maxHeartbeats 1000000 in
theorem c_Make (num den : Int) (hn : InI64 num) (hd : InI64 den) (w : World) :
    Calls Tryd.prog 20 #[.int .i64 num, .int .i64 den] w fun e w' => e = .returned (fansV (makeR num den)) ∧ Ext w w' := by
  obtain ⟨r, hr⟩ : ∃ r, makeR num den = r := ⟨_, rfl⟩
  rw [hr]
  have HR := Lib.hid hr
  clear hr
  by_cases h0 : den = 0
  · subst h0
    go_enter Tryd.func20, Tryd.ntmps20
    go_wp2
    refine bp_ret rfl ?_
    apply Exists.intro
    apply And.intro
    · simp [results, Tryd.results20, go_sem]; rfl
    refine ⟨ret_val ?_, (by repeat (first | exact Ext.refl _ | assumption | refine Ext.alloc ?_ _ | refine Ext.drewN ?_ _ | refine ext_grow ?_ _ _ | refine Ext.setCell ?_ (by first | exact Nat.le_refl _ | omega | (simp; done) | (simp; omega)) _ | refine Ext.trans ?_ (by assumption)))⟩
    rw [← HR.out]
    rfl
  · have h1 : (den == 0) = false := by simpa using h0
    have H0 := Lib.hid h0
    clear h0
    obtain ⟨n, hn'⟩ : ∃ n, num.natAbs = n := ⟨_, rfl⟩
    obtain ⟨d, hd'⟩ : ∃ d, den.natAbs = d := ⟨_, rfl⟩
    have wn : W64 n := hn' ▸ natAbs_w64 hn
    have wd : W64 d := hd' ▸ natAbs_w64 hd
    have cn := Lib.hid (fun w => hn' ▸ c_abs num hn w)
    have cd := Lib.hid (fun w => hd' ▸ c_abs den hd w)
    obtain ⟨g, hg⟩ : ∃ g, Nat.gcd n d = g := ⟨_, rfl⟩
    have cg := Lib.hid (fun w => hg ▸ c_gcd n d wn wd w)
    have HN := Lib.hid hn'
    have HD := Lib.hid hd'
    have HG := Lib.hid hg
    have g0 : 0 < g := by
      rw [← hg]; exact Nat.gcd_pos_of_pos_right _ (by have := H0.out; omega)
    clear hn' hd' hg
    have wng : W64 (n / g) := Nat.lt_of_le_of_lt (Nat.div_le_self _ _) wn
    have wdg : W64 (d / g) := Nat.lt_of_le_of_lt (Nat.div_le_self _ _) wd
    have q3 : ((g : Int) == 0) = false := by simp; omega
    obtain ⟨r1, hr1⟩ : ∃ r1, madeR (!(decide (num < 0) == decide (den < 0))) (n / g) (d / g) = r1 := ⟨_, rfl⟩
    have cm : ∀ w, Calls Tryd.prog 55 #[.bool (!(decide (num < 0) == decide (den < 0))), .agg #[.int .u64 0, .int .u64 ((n : Int) / (g : Int))], .agg #[.int .u64 0, .int .u64 ((d : Int) / (g : Int))]] w fun e w' => e = .returned (fansV r1) ∧ Ext w w' := by
      intro w
      have := c_made_small (!(decide (num < 0) == decide (den < 0))) (n / g) (d / g) wng wdg w
      rw [hr1] at this
      exact this
    have q1 : IntKind.u64.wrap ((n : Int) / (g : Int)) = (n : Int) / (g : Int) := w64_in wng
    have q2 : IntKind.u64.wrap ((d : Int) / (g : Int)) = (d : Int) / (g : Int) := w64_in wdg
    have CM := Lib.hid cm
    have HR1 := Lib.hid hr1
    clear hr1 cm
    go_enter Tryd.func20, Tryd.ntmps20
    go_wp2_with (first | (go_at_call 53; with_reducible refine (Ext.lift (cn.out _) (by first | assumption | exact Ext.alloc (by assumption) _ | exact Ext.refl _)).mono ?_; rintro e w' ⟨rfl, hb⟩; have hc := hb.cell; have hf := hb.frozen) | (go_at_call 53; with_reducible refine (Ext.lift (cd.out _) (by first | assumption | exact Ext.alloc (by assumption) _ | exact Ext.refl _)).mono ?_; rintro e w' ⟨rfl, hb⟩; have hc := hb.cell; have hf := hb.frozen) | (go_at_call 54; with_reducible refine (Ext.lift (cg.out _) (by first | assumption | exact Ext.alloc (by assumption) _ | exact Ext.refl _)).mono ?_; rintro e w' ⟨rfl, hb⟩; have hc := hb.cell; have hf := hb.frozen))
    refine RT.region_store (aq := ?aqs1) (n := 16) (sp := 4) (vx := 33) (b0 := w.heap.size) (oz := .cells #[.int .i64 0, .int .i64 0] 23) (ox := .cells #[.int .i64 r1.1.num, .int .i64 r1.1.den] 23) (qs1 := [_, _, _, _, _, _, _, _, _, _, _, _, _, _, _, _]) (qs2 := [_]) (wb := w) (fun _ => True) (by kernel_rfl) rfl (by kernel_rfl) (by kernel_rfl) rfl rfl (by kernel_rfl) (by kernel_rfl) rfl ?_ ?_ ?_ ?_ ?_ ?_ ?_ ?_ ?_
    rotate_left
    · exact hb.blk (one_first _ _)
    · exact (by repeat (first | exact Ext.refl _ | assumption | refine Ext.alloc ?_ _ | refine Ext.drewN ?_ _ | refine ext_grow ?_ _ _ | refine Ext.setCell ?_ (by first | exact Nat.le_refl _ | omega | (simp; done) | (simp; omega)) _ | refine Ext.trans ?_ (by assumption)))
    · exact Nat.le_refl _
    · trivial
    · exact fun _ _ _ _ => trivial
    · exact fun _ _ _ _ => trivial
    · intro w1 _
      simp only [List.cons_append, List.nil_append]
      repeat (go_big_quiet_step ((first | (go_at_call 55; exact Calls.ext_of (CM.out _)))))
      refine wpQuiet_nil ?_
      exact rfl
    · intro e w h1 h2 h3
      obtain ⟨c0, c1, f0, f1⟩ := run_pair h3
      have h2' : e (.tmp 33) = .agg #[.int .i64 r1.1.num, .int .i64 r1.1.den] := h2
      apply Exists.intro
      apply And.intro
      · simp [execOp, go_sem, Tryd.underlying23, h1, h2', c0, c1, f0, f1]
        exact rfl
      · exact store_pair h3
    · intro w' _ hE hX
      go_wp2
      refine bodyPost_ret (RT.results_row2 rfl _ _ (w.heap.size) 23 _ (0, 0) _ rfl hX Tryd.underlying23 rfl info_frac) rfl ?_
      refine ⟨ret_val ?_, hE⟩
      rw [← HR.out, make_eq H0.out HN.out HD.out HG.out HR1.out]
      rfl
end Go.Proofs.YtodoimeiklilhaaDoor
