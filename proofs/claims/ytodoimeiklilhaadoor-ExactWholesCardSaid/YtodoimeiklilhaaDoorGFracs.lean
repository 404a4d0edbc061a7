/- Joined from the parts Order, Small, FracMath, SumMath, Times, Valid. -/
import Derived.Test.YtodoimeiklilhaaDoorMade
import Derived.Test.YtodoimeiklilhaaDoorTwo
set_option linter.unusedVariables false
set_option linter.unusedSimpArgs false
/- The walk of layer 1's order of fractions. -/
namespace Go.Proofs.YtodoimeiklilhaaDoor
open Go.RowKit Go.Sort

theorem fits_i64 {q : Rat} (h : Fits q) : InI64 (nm q) ∧ InI64 (dn q) := by
  unfold Fits maxP at h; unfold InI64 nm dn; omega
theorem natAbs_w64 {n : Int} (h : InI64 n) : W64 n.natAbs := by unfold InI64 at h; unfold W64; omega
/-- the absolute value of a numerator, as a word -/
def an (q : Rat) : Nat := q.num.natAbs
def dw (q : Rat) : Nat := q.den
theorem an_w64 {q : Rat} (h : Fits q) : W64 (an q) := natAbs_w64 (fits_i64 h).1
theorem den_w64 {q : Rat} (h : Fits q) : W64 (dw q) := by unfold Fits maxP at h; unfold W64 dw; omega
theorem c_an (q : Rat) (h : Fits q) (w : World) :
    Calls Tryd.prog 53 #[.int .i64 (nm q)] w fun e w' => e = .returned (.int .u64 (an q : Int)) ∧ Ext w w' := c_abs _ (fits_i64 h).1 w
theorem c_den (q : Rat) (h : Fits q) (w : World) :
    Calls Tryd.prog 53 #[.int .i64 (dn q)] w fun e w' => e = .returned (.int .u64 (dw q : Int)) ∧ Ext w w' := by
  have := c_abs _ (fits_i64 h).2 w
  rwa [show (dn q).natAbs = dw q from Int.natAbs_natCast _] at this
/-- the same, said for a block's two cells -/
theorem run_pair {w : World} {b : Nat} {c0 c1 : Value} {e : TypeId} (h : w.heap[b]? = some (.cells #[c0, c1] e)) :
    w.cell? ⟨b, 0, none⟩ = some c0 ∧ w.cell? ⟨b, 1, none⟩ = some c1 ∧ w.frozen? ⟨b, 0, none⟩ = false ∧ w.frozen? ⟨b, 1, none⟩ = false := by
  simp [World.cell?, World.frozen?, h]
theorem store_pair {w : World} {b : Nat} {c0 c1 v0 v1 : Value} {e : TypeId} {fr : Nat × Nat} (h : w.heap[b]? = some (.cells #[c0, c1] e fr)) :
    ((w.setCell ⟨b, 0, none⟩ v0).setCell ⟨b, 1, none⟩ v1).heap[b]? = some (.cells #[v0, v1] e fr) ∧ (∀ k, k ≠ b → ((w.setCell ⟨b, 0, none⟩ v0).setCell ⟨b, 1, none⟩ v1).heap[k]? = w.heap[k]?) ∧
      ∀ wb : World, wb.heap.size ≤ b → Ext wb w → Ext wb ((w.setCell ⟨b, 0, none⟩ v0).setCell ⟨b, 1, none⟩ v1) := by
  refine ⟨by simp [World.setCell, Array.getElem?_modify, h], fun k hk => ?_, fun wb hb hE => (hE.setCell hb _).setCell hb _⟩
  rw [Below.heap_setCell _ _ _ _ hk, Below.heap_setCell _ _ _ _ hk]
theorem cmp_facts (p q : Rat) : ∃ A B : Int, (cmp p q = if A < B then -1 else if A = B then 0 else 1) ∧ (A = B ↔ nm p = nm q ∧ dn p = dn q) ∧ (nm p < 0 ↔ A < 0) ∧ (0 < nm p ↔ 0 < A) ∧ (nm q < 0 ↔ B < 0) ∧ (0 < nm q ↔ 0 < B) ∧
    an p * dw q = A.natAbs ∧ an q * dw p = B.natAbs := by
  unfold nm dn dw
  have dp : (0 : Int) < p.den := by have := p.den_pos; omega
  have dq : (0 : Int) < q.den := by have := q.den_pos; omega
  refine ⟨p.num * q.den, q.num * p.den, ?_, ?_, ?_, ?_, ?_, ?_, ?_, ?_⟩
  · unfold cmp
    have h1 : (p < q) = (p.num * q.den < q.num * p.den) := propext (Rat.lt_iff p q)
    have h2 : (p = q) = (p.num * q.den = q.num * p.den) := propext Rat.eq_iff_mul_eq_mul
    simp only [h1, h2]
  · rw [← Rat.eq_iff_mul_eq_mul]
    constructor
    · rintro rfl; exact ⟨rfl, rfl⟩
    · rintro ⟨h1, h2⟩; exact Rat.ext h1 (by omega)
  · exact ⟨fun h => Int.mul_neg_of_neg_of_pos h dq, fun h => by
      rcases Int.lt_or_le p.num 0 with h' | h'
      · exact h'
      · have := Int.mul_nonneg h' (Int.le_of_lt dq); omega⟩
  · exact ⟨fun h => Int.mul_pos h dq, fun h => by
      rcases Int.lt_or_le 0 p.num with h' | h'
      · exact h'
      · have := Int.mul_nonpos_of_nonpos_of_nonneg h' (Int.le_of_lt dq); omega⟩
  · exact ⟨fun h => Int.mul_neg_of_neg_of_pos h dp, fun h => by
      rcases Int.lt_or_le q.num 0 with h' | h'
      · exact h'
      · have := Int.mul_nonneg h' (Int.le_of_lt dp); omega⟩
  · exact ⟨fun h => Int.mul_pos h dp, fun h => by
      rcases Int.lt_or_le 0 q.num with h' | h'
      · exact h'
      · have := Int.mul_nonpos_of_nonpos_of_nonneg h' (Int.le_of_lt dp); omega⟩
  · rw [Int.natAbs_mul, Int.natAbs_natCast]; rfl
  · rw [Int.natAbs_mul, Int.natAbs_natCast]; rfl
set_option maxRecDepth 100000 in
set_option maxHeartbeats 2000000 in
theorem c_order (p q : Rat) (hp : Fits p) (hq : Fits q) (w : World) :
    Calls Tryd.prog 61 #[ratV p, ratV q] w fun e w' => e = .returned (.int .i64 (cmp p q)) ∧ Ext w w' := by
  go_enter Tryd.func61, Tryd.ntmps61
  go_wp2
  refine RT.region_two (aq := ?aq) (n := 14) (sx := 5) (sy := 6) (vx := 13) (vy := 20) (oz := .cells #[.int .u64 0, .int .u64 0] 85) (ox := .cells #[.int .u64 (hiW (an p * dw q) : Int), .int .u64 (loW (an p * dw q) : Int)] 85) (oy := .cells #[.int .u64 (hiW (an q * dw p) : Int), .int .u64 (loW (an q * dw p) : Int)] 85) (qs := [_, _, _, _, _, _, _, _, _, _, _, _, _, _]) (by kernel_rfl) rfl (by kernel_rfl) (by kernel_rfl) rfl rfl (of_decide_eq_true (by kernel_rfl)) (of_decide_eq_true (by kernel_rfl)) rfl rfl rfl rfl (by kernel_rfl) (by kernel_rfl) (by kernel_rfl) (by kernel_rfl) ?_ ?_ ?_ ?_ ?_ ?_
  rotate_left
  · intro e w
    simp [execOp, go_sem, Tryd.underlying85]
  · intro e w
    simp [execOp, go_sem, Tryd.underlying85]
  · intro w1 hE1
    have m0 : w1.cell? ⟨w.heap.size, 0, none⟩ = some (.int .i64 (nm p)) := hE1.get (by simp)
    have m1 : w1.cell? ⟨w.heap.size, 1, none⟩ = some (.int .i64 (dn p)) := hE1.get (by simp)
    have n0 : w1.cell? ⟨w.heap.size + 1, 0, none⟩ = some (.int .i64 (nm q)) := hE1.get (by simp)
    have n1 : w1.cell? ⟨w.heap.size + 1, 1, none⟩ = some (.int .i64 (dn q)) := hE1.get (by simp)
    have z0 := World.block_lt_of_cell? _ _ m0
    have z1 := World.block_lt_of_cell? _ _ n0
    simp only at z0 z1
    clear hE1
    simp only [List.cons_append, List.nil_append]
    repeat (go_big_quiet_step ((first | (go_at_call 53; with_reducible exact Calls.ext_of (c_an p hp _)) | (go_at_call 53; with_reducible exact Calls.ext_of (c_den p hp _)) | (go_at_call 53; with_reducible exact Calls.ext_of (c_an q hq _)) | (go_at_call 53; with_reducible exact Calls.ext_of (c_den q hq _)) | (go_at_call 69; with_reducible exact Calls.ext_of (c_product (an p) (dw q) (an_w64 hp) (den_w64 hq) _)) | (go_at_call 69; with_reducible exact Calls.ext_of (c_product (an q) (dw p) (an_w64 hq) (den_w64 hp) _)))))
    refine wpQuiet_nil ?_
    exact rfl
  · intro e w b h1 h2 h3
    have c0 : w.cell? ⟨b, 0, none⟩ = some (.int .u64 0) := by simp [World.cell?, h3]
    have c1 : w.cell? ⟨b, 1, none⟩ = some (.int .u64 0) := by simp [World.cell?, h3]
    have f0 : w.frozen? ⟨b, 0, none⟩ = false := by simp [World.frozen?, h3]
    have f1 : w.frozen? ⟨b, 1, none⟩ = false := by simp [World.frozen?, h3]
    have h2' : e (.tmp 13) = pairV (an p * dw q) := h2
    apply Exists.intro
    apply And.intro
    · simp [execOp, go_sem, Tryd.underlying85, h1, h2', c0, c1, f0, f1]
      exact rfl
    · exact store_pair h3
  · intro e w b h1 h2 h3
    have c0 : w.cell? ⟨b, 0, none⟩ = some (.int .u64 0) := by simp [World.cell?, h3]
    have c1 : w.cell? ⟨b, 1, none⟩ = some (.int .u64 0) := by simp [World.cell?, h3]
    have f0 : w.frozen? ⟨b, 0, none⟩ = false := by simp [World.frozen?, h3]
    have f1 : w.frozen? ⟨b, 1, none⟩ = false := by simp [World.frozen?, h3]
    have h2' : e (.tmp 20) = pairV (an q * dw p) := h2
    apply Exists.intro
    apply And.intro
    · simp [execOp, go_sem, Tryd.underlying85, h1, h2', c0, c1, f0, f1]
      exact rfl
    · exact store_pair h3
  · intro bx by_ w' hE hbx hby hne hX hY
    have cx0 : w'.cell? ⟨bx, 0, none⟩ = some (.int .u64 (hiW (an p * dw q) : Int)) := by simp [World.cell?, hX]
    have cx1 : w'.cell? ⟨bx, 1, none⟩ = some (.int .u64 (loW (an p * dw q) : Int)) := by simp [World.cell?, hX]
    have cy0 : w'.cell? ⟨by_, 0, none⟩ = some (.int .u64 (hiW (an q * dw p) : Int)) := by simp [World.cell?, hY]
    have cy1 : w'.cell? ⟨by_, 1, none⟩ = some (.int .u64 (loW (an q * dw p) : Int)) := by simp [World.cell?, hY]
    have m0 : w'.cell? ⟨w.heap.size, 0, none⟩ = some (.int .i64 (nm p)) := hE.get (by simp)
    have m1 : w'.cell? ⟨w.heap.size, 1, none⟩ = some (.int .i64 (dn p)) := hE.get (by simp)
    have n0 : w'.cell? ⟨w.heap.size + 1, 0, none⟩ = some (.int .i64 (nm q)) := hE.get (by simp)
    have n1 : w'.cell? ⟨w.heap.size + 1, 1, none⟩ = some (.int .i64 (dn q)) := hE.get (by simp)
    clear hX hY hne hbx hby
    have z0 := World.block_lt_of_cell? _ _ cx0
    have z1 := World.block_lt_of_cell? _ _ cy0
    have z2 := World.block_lt_of_cell? _ _ m0
    have z3 := World.block_lt_of_cell? _ _ n0
    simp only at z0 z1 z2 z3
    go_wp2_with (go_at_call 72; refine (c_less _ _ _).mono ?_; rintro e w' ⟨rfl, hb⟩; have hc := hb.cell)
    all_goals (obtain ⟨A, B, e0, e1, e2, e3, e4, e5, e6, e7⟩ := cmp_facts p q; go_ret; refine ⟨ret_int ?_, (by repeat (first | exact Ext.refl _ | assumption | refine Ext.alloc ?_ _ | refine Ext.drewN ?_ _ | refine ext_grow ?_ _ _ | refine Ext.setCell ?_ (by first | exact Nat.le_refl _ | omega | (simp; done) | (simp; omega)) _ | refine Ext.trans ?_ (by assumption)))⟩; rw [e0]; clear z0 z1 z2 z3 hE cx0 cx1 cy0 cy1 m0 m1 n0 n1 hp hq; first | omega | (repeat (first | rw [if_pos (by omega)] | rw [if_neg (by omega)])))
end Go.Proofs.YtodoimeiklilhaaDoor

/- The walks of layer 1's small functions on fractions: minus, over, Make. -/
namespace Go.Proofs.YtodoimeiklilhaaDoor
open Go.RowKit Go.Sort

theorem fits_neg {q : Rat} (h : Fits q) : Fits (-q) := by
  unfold Fits at *
  rw [Rat.neg_num, Rat.neg_den]
  omega
theorem nm_neg (q : Rat) : nm (-q) = -nm q := rfl
theorem dn_neg (q : Rat) : dn (-q) = dn q := rfl
theorem wrap_nm {q : Rat} (h : Fits q) : wrap64 (-nm q) = -nm q := by
  have := (fits_i64 (fits_neg h)).1
  rw [nm_neg] at this
  exact IntWalk.wrap64_in _ this
theorem wrap_dn {q : Rat} (h : Fits q) : wrap64 (-dn q) = -dn q := by
  unfold Fits maxP at h
  exact IntWalk.wrap64_in _ (by unfold dn; omega)
set_option maxHeartbeats 1000000 in
theorem c_minus (q : Rat) (h : Fits q) (w : World) :
    Calls Tryd.prog 62 #[ratV q] w fun e w' => e = .returned (ratV (-q)) ∧ Ext w w' := by
  go_enter Tryd.func62, Tryd.ntmps62
  go_wp2
  refine bp_ret rfl ?_
  apply Exists.intro
  apply And.intro
  · simp [results, Tryd.results62, go_sem]; rfl
  refine ⟨ret_val ?_, (by repeat (first | exact Ext.refl _ | assumption | refine Ext.alloc ?_ _ | refine Ext.drewN ?_ _ | refine ext_grow ?_ _ _ | refine Ext.setCell ?_ (by first | exact Nat.le_refl _ | omega | (simp; done) | (simp; omega)) _ | refine Ext.trans ?_ (by assumption)))⟩
  rw [wrap_nm h]
  rfl
theorem fits_inv {q : Rat} (h : Fits q) (h0 : nm q ≠ 0) : Fits q⁻¹ := by
  unfold Fits nm at *
  rw [Rat.num_inv, Rat.den_inv, if_neg h0]
  have hd := q.den_pos
  rcases Int.lt_or_lt_of_ne h0 with h1 | h1
  · rw [Int.sign_eq_neg_one_of_neg h1]; omega
  · rw [Int.sign_eq_one_of_pos h1]; omega
theorem inv_neg {q : Rat} (h : nm q < 0) : nm q⁻¹ = -dn q ∧ dn q⁻¹ = -nm q := by
  unfold nm dn at *
  rw [Rat.num_inv, Rat.den_inv, if_neg (by omega), Int.sign_eq_neg_one_of_neg h]
  omega
theorem inv_pos {q : Rat} (h : 0 < nm q) : nm q⁻¹ = dn q ∧ dn q⁻¹ = nm q := by
  unfold nm dn at *
  rw [Rat.num_inv, Rat.den_inv, if_neg (by omega), Int.sign_eq_one_of_pos h]
  omega
set_option maxHeartbeats 1000000 in
theorem c_over (q : Rat) (h : Fits q) (h0 : nm q ≠ 0) (w : World) :
    Calls Tryd.prog 89 #[ratV q] w fun e w' => e = .returned (ratV q⁻¹) ∧ Ext w w' := by
  obtain ⟨r, hr⟩ : ∃ r, q⁻¹ = r := ⟨_, rfl⟩
  rw [hr]
  have HR := Lib.hid hr
  have H0 := Lib.hid h0
  clear hr h0
  go_enter Tryd.func89, Tryd.ntmps89
  go_wp2
  all_goals
    refine bp_ret rfl ?_
    apply Exists.intro
    apply And.intro
    · simp [results, Tryd.results89, go_sem]; rfl
    refine ⟨ret_val ?_, (by repeat (first | exact Ext.refl _ | assumption | refine Ext.alloc ?_ _ | refine Ext.drewN ?_ _ | refine ext_grow ?_ _ _ | refine Ext.setCell ?_ (by first | exact Nat.le_refl _ | omega | (simp; done) | (simp; omega)) _ | refine Ext.trans ?_ (by assumption)))⟩
    rw [← HR.out]
    first
    | (show _ = Value.agg #[.int .i64 (nm q⁻¹), .int .i64 (dn q⁻¹)]; rw [(inv_neg (by assumption)).1, (inv_neg (by assumption)).2, wrap_nm h, wrap_dn h])
    | (have h9 : 0 < nm q := (by have := H0.out; omega); show _ = Value.agg #[.int .i64 (nm q⁻¹), .int .i64 (dn q⁻¹)]; rw [(inv_pos h9).1, (inv_pos h9).2])
theorem blk_new (w : World) (o : Obj) : (w.alloc o).heap[w.heap.size]? = some o := by
  show (w.heap.push o)[w.heap.size]? = some o
  simp
/-- the answer of Make -/
def makeR (num den : Int) : Frac × Int := if den = 0 then (⟨0, 0⟩, 10) else answer (Rat.divInt num den)
theorem info_frac : (Tryd.prog.info? 23).map (·.size) = some 2 := by kernel_rfl
theorem answer_of {q : Rat} {n : Int} {d : Nat} (hn : q.num = n) (hd : q.den = d) : answer q = if d ≤ maxP ∧ -(maxP : Int) ≤ n ∧ n ≤ maxP then (⟨n, d⟩, 0) else (⟨0, 0⟩, 4) := by
  subst hn hd
  unfold answer
  by_cases h : Fits q
  · have h' : q.den ≤ maxP ∧ -(maxP : Int) ≤ q.num ∧ q.num ≤ maxP := h
    rw [if_pos h, if_pos h']; rfl
  · have h' : ¬ (q.den ≤ maxP ∧ -(maxP : Int) ≤ q.num ∧ q.num ≤ maxP) := h
    rw [if_neg h, if_neg h']
theorem make_eq {num den : Int} {n d g : Nat} {r1 : Frac × Int} (h0 : den ≠ 0) (hn : num.natAbs = n) (hd : den.natAbs = d) (hg : Nat.gcd n d = g)
    (hr : madeR (!(decide (num < 0) == decide (den < 0))) (n / g) (d / g) = r1) : makeR num den = r1 := by
  have g0 : 0 < g := by rw [← hg]; exact Nat.gcd_pos_of_pos_right _ (by omega)
  have e1 : (Rat.divInt num den).num = den.sign * num / (g : Int) := by
    rw [Rat.num_divInt, Int.gcd_comm]
    have : Int.gcd num den = g := by rw [← hg, ← hn, ← hd]; rfl
    rw [this]
  have e2 : (Rat.divInt num den).den = d / g := by
    rw [Rat.den_divInt, if_neg h0, Int.gcd_comm, hd]
    have : Int.gcd num den = g := by rw [← hg, ← hn, ← hd]; rfl
    rw [this]
  have e3 : den.sign * num / (g : Int) = if (!(decide (num < 0) == decide (den < 0))) = true then -((n / g : Nat) : Int) else ((n / g : Nat) : Int) := by
    have hdvd : (g : Int) ∣ (n : Int) := by rw [← hg]; exact Int.ofNat_dvd.2 (Nat.gcd_dvd_left _ _)
    have hneg : -(n : Int) / (g : Int) = -((n : Int) / (g : Int)) := Int.neg_ediv_of_dvd hdvd
    have hc : ((n / g : Nat) : Int) = (n : Int) / (g : Int) := rfl
    rw [hc]
    rcases Int.lt_or_lt_of_ne h0 with h1 | h1
    · rw [Int.sign_eq_neg_one_of_neg h1]
      by_cases h2 : num < 0
      · rw [if_neg (by simp [h1, h2]), show -1 * num = (n : Int) by omega]
      · rcases Int.lt_or_eq_of_le (Int.not_lt.1 h2) with h3 | h3
        · rw [if_pos (by simp [h1]; omega), show -1 * num = -(n : Int) by omega, hneg]
        · have : n = 0 := by omega
          subst this
          subst h3
          simp
    · rw [Int.sign_eq_one_of_pos h1]
      by_cases h2 : num < 0
      · rw [if_pos (by simp [h2]; omega), show 1 * num = -(n : Int) by omega, hneg]
      · rw [if_neg (by simp; omega), show 1 * num = (n : Int) by omega]
  unfold makeR
  rw [if_neg h0]
  rw [answer_of (e1.trans e3) e2, ← hr]
  unfold madeR
  generalize n / g = a
  generalize d / g = b
  have : (b ≤ maxP ∧ -(maxP : Int) ≤ (if (!(decide (num < 0) == decide (den < 0))) = true then -(a : Int) else (a : Int)) ∧ (if (!(decide (num < 0) == decide (den < 0))) = true then -(a : Int) else (a : Int)) ≤ maxP) ↔ (a ≤ maxP ∧ b ≤ maxP) := by
    split <;> omega
  simp only [this]
set_option maxRecDepth 100000 in
set_option maxHeartbeats 1000000 in
theorem c_Make (num den : Int) (hn : InI64 num) (hd : InI64 den) (w : World) :
    Calls Tryd.prog 20 #[.int .i64 num, .int .i64 den] w fun e w' => e = .returned (fansV (makeR num den)) ∧ Ext w w' := by
  obtain ⟨r, hr⟩ : ∃ r, makeR num den = r := ⟨_, rfl⟩
  rw [hr]
  have HR := Lib.hid hr
  clear hr
  by_cases h0 : den = 0
  · subst h0
    go_enter Tryd.func20, Tryd.ntmps20
    go_wp2
    refine bp_ret rfl ?_
    apply Exists.intro
    apply And.intro
    · simp [results, Tryd.results20, go_sem]; rfl
    refine ⟨ret_val ?_, (by repeat (first | exact Ext.refl _ | assumption | refine Ext.alloc ?_ _ | refine Ext.drewN ?_ _ | refine ext_grow ?_ _ _ | refine Ext.setCell ?_ (by first | exact Nat.le_refl _ | omega | (simp; done) | (simp; omega)) _ | refine Ext.trans ?_ (by assumption)))⟩
    rw [← HR.out]
    rfl
  · have h1 : (den == 0) = false := by simpa using h0
    have H0 := Lib.hid h0
    clear h0
    obtain ⟨n, hn'⟩ : ∃ n, num.natAbs = n := ⟨_, rfl⟩
    obtain ⟨d, hd'⟩ : ∃ d, den.natAbs = d := ⟨_, rfl⟩
    have wn : W64 n := hn' ▸ natAbs_w64 hn
    have wd : W64 d := hd' ▸ natAbs_w64 hd
    have cn := Lib.hid (fun w => hn' ▸ c_abs num hn w)
    have cd := Lib.hid (fun w => hd' ▸ c_abs den hd w)
    obtain ⟨g, hg⟩ : ∃ g, Nat.gcd n d = g := ⟨_, rfl⟩
    have cg := Lib.hid (fun w => hg ▸ c_gcd n d wn wd w)
    have HN := Lib.hid hn'
    have HD := Lib.hid hd'
    have HG := Lib.hid hg
    have g0 : 0 < g := by
      rw [← hg]; exact Nat.gcd_pos_of_pos_right _ (by have := H0.out; omega)
    clear hn' hd' hg
    have wng : W64 (n / g) := Nat.lt_of_le_of_lt (Nat.div_le_self _ _) wn
    have wdg : W64 (d / g) := Nat.lt_of_le_of_lt (Nat.div_le_self _ _) wd
    have q3 : ((g : Int) == 0) = false := by simp; omega
    obtain ⟨r1, hr1⟩ : ∃ r1, madeR (!(decide (num < 0) == decide (den < 0))) (n / g) (d / g) = r1 := ⟨_, rfl⟩
    have cm : ∀ w, Calls Tryd.prog 55 #[.bool (!(decide (num < 0) == decide (den < 0))), .agg #[.int .u64 0, .int .u64 ((n : Int) / (g : Int))], .agg #[.int .u64 0, .int .u64 ((d : Int) / (g : Int))]] w fun e w' => e = .returned (fansV r1) ∧ Ext w w' := by
      intro w
      have := c_made_small (!(decide (num < 0) == decide (den < 0))) (n / g) (d / g) wng wdg w
      rw [hr1] at this
      exact this
    have q1 : IntKind.u64.wrap ((n : Int) / (g : Int)) = (n : Int) / (g : Int) := w64_in wng
    have q2 : IntKind.u64.wrap ((d : Int) / (g : Int)) = (d : Int) / (g : Int) := w64_in wdg
    have CM := Lib.hid cm
    have HR1 := Lib.hid hr1
    clear hr1 cm
    go_enter Tryd.func20, Tryd.ntmps20
    go_wp2_with (first | (go_at_call 53; with_reducible refine (Ext.lift (cn.out _) (by first | assumption | exact Ext.alloc (by assumption) _ | exact Ext.refl _)).mono ?_; rintro e w' ⟨rfl, hb⟩; have hc := hb.cell; have hf := hb.frozen) | (go_at_call 53; with_reducible refine (Ext.lift (cd.out _) (by first | assumption | exact Ext.alloc (by assumption) _ | exact Ext.refl _)).mono ?_; rintro e w' ⟨rfl, hb⟩; have hc := hb.cell; have hf := hb.frozen) | (go_at_call 54; with_reducible refine (Ext.lift (cg.out _) (by first | assumption | exact Ext.alloc (by assumption) _ | exact Ext.refl _)).mono ?_; rintro e w' ⟨rfl, hb⟩; have hc := hb.cell; have hf := hb.frozen))
    refine RT.region_store (aq := ?aqs1) (n := 16) (sp := 4) (vx := 33) (b0 := w.heap.size) (oz := .cells #[.int .i64 0, .int .i64 0] 23) (ox := .cells #[.int .i64 r1.1.num, .int .i64 r1.1.den] 23) (qs1 := [_, _, _, _, _, _, _, _, _, _, _, _, _, _, _, _]) (qs2 := [_]) (wb := w) (fun _ => True) (by kernel_rfl) rfl (by kernel_rfl) (by kernel_rfl) rfl rfl (by kernel_rfl) (by kernel_rfl) rfl ?_ ?_ ?_ ?_ ?_ ?_ ?_ ?_ ?_
    rotate_left
    · exact hb.blk (one_first _ _)
    · exact (by repeat (first | exact Ext.refl _ | assumption | refine Ext.alloc ?_ _ | refine Ext.drewN ?_ _ | refine ext_grow ?_ _ _ | refine Ext.setCell ?_ (by first | exact Nat.le_refl _ | omega | (simp; done) | (simp; omega)) _ | refine Ext.trans ?_ (by assumption)))
    · exact Nat.le_refl _
    · trivial
    · exact fun _ _ _ _ => trivial
    · exact fun _ _ _ _ => trivial
    · intro w1 _
      simp only [List.cons_append, List.nil_append]
      repeat (go_big_quiet_step ((first | (go_at_call 55; exact Calls.ext_of (CM.out _)))))
      refine wpQuiet_nil ?_
      exact rfl
    · intro e w h1 h2 h3
      obtain ⟨c0, c1, f0, f1⟩ := run_pair h3
      have h2' : e (.tmp 33) = .agg #[.int .i64 r1.1.num, .int .i64 r1.1.den] := h2
      apply Exists.intro
      apply And.intro
      · simp [execOp, go_sem, Tryd.underlying23, h1, h2', c0, c1, f0, f1]
        exact rfl
      · exact store_pair h3
    · intro w' _ hE hX
      go_wp2
      refine bodyPost_ret (RT.results_row2 rfl _ _ (w.heap.size) 23 _ (0, 0) _ rfl hX Tryd.underlying23 rfl info_frac) rfl ?_
      refine ⟨ret_val ?_, hE⟩
      rw [← HR.out, make_eq H0.out HN.out HD.out HG.out HR1.out]
      rfl
end Go.Proofs.YtodoimeiklilhaaDoor

/- What 'made' answers for products and sums of rational numbers: the plain law. -/
namespace Go.Proofs.YtodoimeiklilhaaDoor

theorem rat_parts {N : Int} {D : Nat} (hD : D ≠ 0) {n : Int} {d : Nat} (hd : d ≠ 0) (hc : Nat.gcd n.natAbs d = 1) (h : N * d = n * D) : (mkRat N D).num = n ∧ (mkRat N D).den = d := by
  have : mkRat N D = ⟨n, d, hd, hc⟩ := by rw [Rat.mk_eq_mkRat, Rat.mkRat_eq_iff hD hd]; exact h
  rw [this]
  exact ⟨rfl, rfl⟩
theorem answer_made {q : Rat} {neg : Bool} {a b : Nat} (hn : q.num = if neg then -(a : Int) else a) (hd : q.den = b) : answer q = madeR neg a b := by
  rw [answer_of hn hd]
  unfold madeR
  have : (b ≤ maxP ∧ -(maxP : Int) ≤ (if neg then -(a : Int) else (a : Int)) ∧ (if neg then -(a : Int) else (a : Int)) ≤ maxP) ↔ (a ≤ maxP ∧ b ≤ maxP) := by
    cases neg <;> simp <;> omega
  simp only [this]
/-- the sign of a product of signed numbers -/
theorem sign_mul {x y : Int} {a b : Nat} (hx : x.natAbs = a) (hy : y.natAbs = b) : x * y = if (!(decide (x < 0) == decide (y < 0))) = true then -((a * b : Nat) : Int) else ((a * b : Nat) : Int) := by
  have ex : x = a ∨ x = -(a : Int) := by omega
  have ey : y = b ∨ y = -(b : Int) := by omega
  by_cases hx0 : x < 0
  · by_cases hy0 : y < 0
    · rw [decide_eq_true hx0, decide_eq_true hy0, if_neg (by decide)]
      obtain rfl : x = -(a : Int) := by omega
      obtain rfl : y = -(b : Int) := by omega
      push_cast
      grind
    · rw [decide_eq_true hx0, decide_eq_false hy0, if_pos (by decide)]
      obtain rfl : x = -(a : Int) := by omega
      obtain rfl : y = (b : Int) := by omega
      push_cast
      grind
  · by_cases hy0 : y < 0
    · rw [decide_eq_false hx0, decide_eq_true hy0, if_pos (by decide)]
      obtain rfl : x = (a : Int) := by omega
      obtain rfl : y = -(b : Int) := by omega
      push_cast
      grind
    · rw [decide_eq_false hx0, decide_eq_false hy0, if_neg (by decide)]
      obtain rfl : x = (a : Int) := by omega
      obtain rfl : y = (b : Int) := by omega
      push_cast
      rfl
theorem times_eq (p q : Rat) {g h : Nat} (hg : Nat.gcd (an p) (dw q) = g) (hh : Nat.gcd (an q) (dw p) = h) :
    answer (p * q) = madeR (!(decide (nm p < 0) == decide (nm q < 0))) (an p / g * (an q / h)) (dw p / h * (dw q / g)) := by
  have dp : 0 < dw p := p.den_pos
  have dq : 0 < dw q := q.den_pos
  have g0 : 0 < g := by rw [← hg]; exact Nat.gcd_pos_of_pos_right _ dq
  have h0 : 0 < h := by rw [← hh]; exact Nat.gcd_pos_of_pos_right _ dp
  obtain ⟨a1, ha⟩ : g ∣ an p := by rw [← hg]; exact Nat.gcd_dvd_left _ _
  obtain ⟨d1, hd⟩ : g ∣ dw q := by rw [← hg]; exact Nat.gcd_dvd_right _ _
  obtain ⟨b1, hb⟩ : h ∣ an q := by rw [← hh]; exact Nat.gcd_dvd_left _ _
  obtain ⟨c1, hc⟩ : h ∣ dw p := by rw [← hh]; exact Nat.gcd_dvd_right _ _
  have e1 : an p / g = a1 := by rw [ha]; exact Nat.mul_div_cancel_left _ g0
  have e2 : an q / h = b1 := by rw [hb]; exact Nat.mul_div_cancel_left _ h0
  have e3 : dw p / h = c1 := by rw [hc]; exact Nat.mul_div_cancel_left _ h0
  have e4 : dw q / g = d1 := by rw [hd]; exact Nat.mul_div_cancel_left _ g0
  have cp : Nat.Coprime (an p) (dw p) := p.reduced
  have cq : Nat.Coprime (an q) (dw q) := q.reduced
  have c1' : Nat.Coprime a1 d1 := by
    have := Nat.coprime_div_gcd_div_gcd (m := an p) (n := dw q) (by rw [hg]; exact g0)
    rwa [hg, e1, e4] at this
  have c2' : Nat.Coprime b1 c1 := by
    have := Nat.coprime_div_gcd_div_gcd (m := an q) (n := dw p) (by rw [hh]; exact h0)
    rwa [hh, e2, e3] at this
  have c3' : Nat.Coprime a1 c1 := (cp.coprime_dvd_left ⟨g, by rw [ha, Nat.mul_comm]⟩).coprime_dvd_right ⟨h, by rw [hc, Nat.mul_comm]⟩
  have c4' : Nat.Coprime b1 d1 := (cq.coprime_dvd_left ⟨h, by rw [hb, Nat.mul_comm]⟩).coprime_dvd_right ⟨g, by rw [hd, Nat.mul_comm]⟩
  rw [e1, e2, e3, e4]
  have c10 : 0 < c1 := Nat.pos_of_ne_zero fun e => by subst e; simp at hc; omega
  have d10 : 0 < d1 := Nat.pos_of_ne_zero fun e => by subst e; simp at hd; omega
  have hcop : Nat.gcd (a1 * b1) (c1 * d1) = 1 := (Nat.Coprime.mul_left (Nat.Coprime.mul_right c3' c1') (Nat.Coprime.mul_right c2' c4'))
  obtain ⟨n, hn⟩ : ∃ n, (if (!(decide (nm p < 0) == decide (nm q < 0))) = true then -((a1 * b1 : Nat) : Int) else ((a1 * b1 : Nat) : Int)) = n := ⟨_, rfl⟩
  have hN : nm p * nm q = n * ((g * h : Nat) : Int) := by
    rw [sign_mul (x := nm p) (y := nm q) rfl rfl, ← hn]
    have : an p * an q = a1 * b1 * (g * h) := by rw [ha, hb]; grind
    have e : ((nm p).natAbs * (nm q).natAbs : Nat) = a1 * b1 * (g * h) := this
    rw [e]
    split <;> push_cast <;> grind
  have habs : n.natAbs = a1 * b1 := by rw [← hn]; split <;> omega
  have hm : p * q = mkRat (nm p * nm q) (dw p * dw q) := Rat.mul_def' p q
  obtain ⟨k1, k2⟩ := rat_parts (N := nm p * nm q) (D := dw p * dw q) (n := n) (d := c1 * d1) (Nat.ne_of_gt (Nat.mul_pos dp dq)) (Nat.ne_of_gt (Nat.mul_pos c10 d10)) (by rw [habs]; exact hcop) (by
    rw [hN, hc, hd]
    push_cast
    grind)
  exact answer_made (by rw [hm, k1, ← hn]) (by rw [hm, k2])
end Go.Proofs.YtodoimeiklilhaaDoor

/- What 'made' answers for sums of rational numbers: the plain law. -/
namespace Go.Proofs.YtodoimeiklilhaaDoor

/-- the two products of a sum -/
def sumX (p q : Rat) : Nat := an p * (dw q / Nat.gcd (dw p) (dw q))
def sumY (p q : Rat) : Nat := an q * (dw p / Nat.gcd (dw p) (dw q))
/-- the numerator that is still to be reduced, and whether it is negative -/
def sumN (p q : Rat) : Nat := if (!(decide (nm p < 0) == decide (nm q < 0))) = true then if sumX p q < sumY p q then sumY p q - sumX p q else sumX p q - sumY p q else sumX p q + sumY p q
def sumNeg (p q : Rat) : Bool := if (!(decide (nm p < 0) == decide (nm q < 0))) = true then if sumX p q < sumY p q then decide (nm q < 0) else decide (nm p < 0) else decide (nm p < 0)
theorem sum_sign (p q : Rat) : nm p * ((dw q / Nat.gcd (dw p) (dw q) : Nat) : Int) + nm q * ((dw p / Nat.gcd (dw p) (dw q) : Nat) : Int) = if sumNeg p q then -(sumN p q : Int) else sumN p q := by
  have ex : (sumX p q : Int) = (an p : Int) * ((dw q / Nat.gcd (dw p) (dw q) : Nat) : Int) := Int.natCast_mul _ _
  have ey : (sumY p q : Int) = (an q : Int) * ((dw p / Nat.gcd (dw p) (dw q) : Nat) : Int) := Int.natCast_mul _ _
  have hp : nm p = if nm p < 0 then -(an p : Int) else an p := by unfold an; unfold nm; split <;> omega
  have hq : nm q = if nm q < 0 then -(an q : Int) else an q := by unfold an; unfold nm; split <;> omega
  have e : nm p * ((dw q / Nat.gcd (dw p) (dw q) : Nat) : Int) = if nm p < 0 then -(sumX p q : Int) else sumX p q := by
    rw [ex]
    generalize ((dw q / Nat.gcd (dw p) (dw q) : Nat) : Int) = c
    by_cases h : nm p < 0
    · rw [if_pos h] at hp ⊢; rw [hp, Int.neg_mul]
    · rw [if_neg h] at hp ⊢; rw [hp]
  have f : nm q * ((dw p / Nat.gcd (dw p) (dw q) : Nat) : Int) = if nm q < 0 then -(sumY p q : Int) else sumY p q := by
    rw [ey]
    generalize ((dw p / Nat.gcd (dw p) (dw q) : Nat) : Int) = c
    by_cases h : nm q < 0
    · rw [if_pos h] at hq ⊢; rw [hq, Int.neg_mul]
    · rw [if_neg h] at hq ⊢; rw [hq]
  rw [e, f]
  unfold sumN sumNeg
  by_cases h1 : nm p < 0 <;> by_cases h2 : nm q < 0 <;> by_cases h3 : sumX p q < sumY p q <;> simp [h1, h2, h3] <;> omega
theorem sum_eq (p q : Rat) : answer (p + q) = madeR (sumNeg p q) (sumN p q / Nat.gcd (Nat.gcd (dw p) (dw q)) (sumN p q % Nat.gcd (dw p) (dw q)))
    (dw p / Nat.gcd (dw p) (dw q) * (dw q / Nat.gcd (Nat.gcd (dw p) (dw q)) (sumN p q % Nat.gcd (dw p) (dw q)))) := by
  have hs := sum_sign p q
  have dp : 0 < dw p := p.den_pos
  have dq : 0 < dw q := q.den_pos
  obtain ⟨g, hg⟩ : ∃ g, Nat.gcd (dw p) (dw q) = g := ⟨_, rfl⟩
  rw [hg] at hs ⊢
  have g0 : 0 < g := by rw [← hg]; exact Nat.gcd_pos_of_pos_right _ dq
  obtain ⟨N, hN⟩ : ∃ N : Int, nm p * ((dw q / g : Nat) : Int) + nm q * ((dw p / g : Nat) : Int) = N := ⟨_, rfl⟩
  rw [hN] at hs
  obtain ⟨X, hX⟩ : ∃ X, sumN p q = X := ⟨_, rfl⟩
  rw [hX] at hs ⊢
  have habs : N.natAbs = X := by rw [hs]; split <;> omega
  have hgx : Nat.gcd g (X % g) = Nat.gcd X g := by rw [Nat.gcd_comm g, ← Nat.gcd_rec g X, Nat.gcd_comm]
  rw [hgx]
  have aux : Nat.gcd X g = Nat.gcd X (dw p / g * dw q) := by
    have := Rat.add.aux p q (g := g) (ad := dw p / g) (bd := dw q / g) (by rw [← hg]; rfl) rfl rfl
    have e : (p.num * ((dw q / g : Nat) : Int) + q.num * ((dw p / g : Nat) : Int)) = N := hN
    simp only [e, habs] at this
    exact this
  obtain ⟨h, hh⟩ : ∃ h, Nat.gcd X g = h := ⟨_, rfl⟩
  rw [hh] at aux ⊢
  have h0 : 0 < h := by rw [← hh]; exact Nat.gcd_pos_of_pos_right _ g0
  obtain ⟨x1, hx1⟩ : h ∣ X := by rw [← hh]; exact Nat.gcd_dvd_left _ _
  obtain ⟨p1, hp1⟩ : g ∣ dw p := by rw [← hg]; exact Nat.gcd_dvd_left _ _
  obtain ⟨q1, hq1⟩ : g ∣ dw q := by rw [← hg]; exact Nat.gcd_dvd_right _ _
  obtain ⟨g1, hg1⟩ : h ∣ g := by rw [← hh]; exact Nat.gcd_dvd_right _ _
  have e1 : X / h = x1 := by rw [hx1]; exact Nat.mul_div_cancel_left _ h0
  have e2 : dw p / g = p1 := by rw [hp1]; exact Nat.mul_div_cancel_left _ g0
  have e3 : dw q / g = q1 := by rw [hq1]; exact Nat.mul_div_cancel_left _ g0
  have e4 : dw q / h = g1 * q1 := by rw [hq1, hg1, Nat.mul_assoc]; exact Nat.mul_div_cancel_left _ h0
  rw [e2] at aux
  rw [e1, e2, e4]
  have p10 : 0 < p1 := Nat.pos_of_ne_zero fun e => by subst e; simp at hp1; omega
  have q10 : 0 < q1 := Nat.pos_of_ne_zero fun e => by subst e; simp at hq1; omega
  have g10 : 0 < g1 := Nat.pos_of_ne_zero fun e => by subst e; simp at hg1; omega
  have hcop : Nat.gcd x1 (p1 * (g1 * q1)) = 1 := by
    have := Nat.coprime_div_gcd_div_gcd (m := X) (n := p1 * dw q) (by rw [← aux]; exact h0)
    rw [← aux, e1, Nat.mul_div_assoc _ (by rw [hq1, hg1, Nat.mul_assoc]; exact Nat.dvd_mul_right _ _), e4] at this
    exact this
  obtain ⟨n, hn⟩ : ∃ n : Int, (if sumNeg p q = true then -(x1 : Int) else (x1 : Int)) = n := ⟨_, rfl⟩
  have hNn : N = n * (h : Int) := by
    rw [hs, ← hn, hx1]
    push_cast
    split <;> grind
  have hbig : nm p * (dw q : Int) + nm q * (dw p : Int) = N * (g : Int) := by
    rw [← hN, e2, e3, hp1, hq1]
    push_cast
    grind
  have hm : p + q = mkRat (nm p * (dw q : Int) + nm q * (dw p : Int)) (dw p * dw q) := Rat.add_def' p q
  have hnabs : n.natAbs = x1 := by rw [← hn]; split <;> omega
  obtain ⟨k1, k2⟩ := rat_parts (N := nm p * (dw q : Int) + nm q * (dw p : Int)) (D := dw p * dw q) (n := n) (d := p1 * (g1 * q1)) (Nat.ne_of_gt (Nat.mul_pos dp dq)) (Nat.ne_of_gt (Nat.mul_pos p10 (Nat.mul_pos g10 q10))) (by rw [hnabs]; exact hcop) (by
    rw [hbig, hNn, hp1, hq1, hg1]
    push_cast
    grind)
  exact answer_made (by rw [hm, k1, ← hn]) (by rw [hm, k2])
end Go.Proofs.YtodoimeiklilhaaDoor

/- The walk of layer 1's product. -/
namespace Go.Proofs.YtodoimeiklilhaaDoor
open Go.RowKit Go.Sort

theorem w64_div {n : Nat} (h : W64 n) (g : Nat) : W64 (n / g) := Nat.lt_of_le_of_lt (Nat.div_le_self _ _) h
theorem quo_in {n : Nat} (h : W64 n) (g : Nat) : IntKind.u64.wrap ((n : Int) / (g : Int)) = (n : Int) / (g : Int) := w64_in (w64_div h g)
set_option maxRecDepth 100000 in
set_option maxHeartbeats 2000000 in
theorem c_times (p q : Rat) (hp : Fits p) (hq : Fits q) (w : World) :
    Calls Tryd.prog 58 #[ratV p, ratV q] w fun e w' => e = .returned (fansV (answer (p * q))) ∧ Ext w w' := by
  obtain ⟨r, hr⟩ : ∃ r, answer (p * q) = r := ⟨_, rfl⟩
  rw [hr]
  obtain ⟨g, hg⟩ : ∃ g, Nat.gcd (an p) (dw q) = g := ⟨_, rfl⟩
  obtain ⟨h, hh⟩ : ∃ h, Nat.gcd (an q) (dw p) = h := ⟨_, rfl⟩
  have hr' := (times_eq p q hg hh).symm.trans hr
  have g0 : 0 < g := by rw [← hg]; exact Nat.gcd_pos_of_pos_right _ q.den_pos
  have h0 : 0 < h := by rw [← hh]; exact Nat.gcd_pos_of_pos_right _ p.den_pos
  have q1 := quo_in (an_w64 hp) g
  have q2 := quo_in (an_w64 hq) h
  have q3 := quo_in (den_w64 hp) h
  have q4 := quo_in (den_w64 hq) g
  have q5 : ((g : Int) == 0) = false := by simp; omega
  have q6 : ((h : Int) == 0) = false := by simp; omega
  have cg := Lib.hid (fun w => hg ▸ c_gcd (an p) (dw q) (an_w64 hp) (den_w64 hq) w)
  have ch := Lib.hid (fun w => hh ▸ c_gcd (an q) (dw p) (an_w64 hq) (den_w64 hp) w)
  have c1 : ∀ w, Calls Tryd.prog 69 #[.int .u64 ((an p : Int) / (g : Int)), .int .u64 ((an q : Int) / (h : Int))] w fun e w' => e = .returned (pairV (an p / g * (an q / h))) ∧ Ext w w' := fun w => c_product _ _ (w64_div (an_w64 hp) g) (w64_div (an_w64 hq) h) w
  have c2 : ∀ w, Calls Tryd.prog 69 #[.int .u64 ((dw p : Int) / (h : Int)), .int .u64 ((dw q : Int) / (g : Int))] w fun e w' => e = .returned (pairV (dw p / h * (dw q / g))) ∧ Ext w w' := fun w => c_product _ _ (w64_div (den_w64 hp) h) (w64_div (den_w64 hq) g) w
  have cm : ∀ w, Calls Tryd.prog 55 #[.bool (!(decide (nm p < 0) == decide (nm q < 0))), pairV (an p / g * (an q / h)), pairV (dw p / h * (dw q / g))] w fun e w' => e = .returned (fansV r) ∧ Ext w w' := fun w => hr' ▸ c_made _ _ _ (w64_mul (w64_div (an_w64 hp) g) (w64_div (an_w64 hq) h)) (w64_mul (w64_div (den_w64 hp) h) (w64_div (den_w64 hq) g)) w
  have C1 := Lib.hid c1
  have C2 := Lib.hid c2
  have CM := Lib.hid cm
  clear c1 c2 cm hr' hg hh hr
  go_enter Tryd.func58, Tryd.ntmps58
  go_wp2
  refine wp_region_quiet_below (by kernel_rfl) (by kernel_rfl) ?_
  repeat (go_big_quiet_step ((first | (go_at_call 53; with_reducible exact Calls.ext_of (c_an p hp _)) | (go_at_call 53; with_reducible exact Calls.ext_of (c_den p hp _)) | (go_at_call 53; with_reducible exact Calls.ext_of (c_an q hq _)) | (go_at_call 53; with_reducible exact Calls.ext_of (c_den q hq _)) | (go_at_call 54; with_reducible exact Calls.ext_of (cg.out _)) | (go_at_call 54; with_reducible exact Calls.ext_of (ch.out _)))))
  refine wpQuiet_nil ?_
  intro _ hw'
  obtain ⟨⟨dq, osq⟩, hw''⟩ := hw'
  subst hw''
  go_wp2
  refine RT.region_store (aq := ?aqs1) (n := 32) (sp := 4) (vx := 52) (b0 := w.heap.size + 1 + 1) (oz := .cells #[.int .i64 0, .int .i64 0] 23) (ox := .cells #[.int .i64 r.1.num, .int .i64 r.1.den] 23) (qs1 := [_, _, _, _, _, _, _, _, _, _, _, _, _, _, _, _, _, _, _, _, _, _, _, _, _, _, _, _, _, _, _, _]) (qs2 := [_]) (wb := w) (RT.Has [(w.heap.size, 0, .int .i64 (nm p)), (w.heap.size, 1, .int .i64 (dn p)), (w.heap.size + 1, 0, .int .i64 (nm q)), (w.heap.size + 1, 1, .int .i64 (dn q))]) (by kernel_rfl) rfl (by kernel_rfl) (by kernel_rfl) rfl rfl (by kernel_rfl) (by kernel_rfl) rfl ?_ ?_ ?_ ?_ ?_ ?_ ?_ ?_ ?_
  rotate_left
  · exact (Ext.grow _ _ _).blk (three_third _ _ _ _)
  · exact (by repeat (first | exact Ext.refl _ | assumption | refine Ext.alloc ?_ _ | refine Ext.drewN ?_ _ | refine ext_grow ?_ _ _ | refine Ext.setCell ?_ (by first | exact Nat.le_refl _ | omega | (simp; done) | (simp; omega)) _ | refine Ext.trans ?_ (by assumption)))
  · omega
  · refine RT.Has.ext (w := ((w.alloc (.cells #[.int .i64 (nm p), .int .i64 (dn p)] 23)).alloc (.cells #[.int .i64 (nm q), .int .i64 (dn q)] 23)).alloc (.cells #[.int .i64 0, .int .i64 0] 23)) ?_ (ext_grow (Ext.refl _) _ _).drew
    exact ⟨cell_of_at (three_first _ _ _ _) 0 rfl, cell_of_at (three_first _ _ _ _) 1 rfl, cell_of_at (three_second _ _ _ _) 0 rfl, cell_of_at (three_second _ _ _ _) 1 rfl, trivial⟩
  · exact fun _ _ h => h.ext
  · exact fun _ _ h k => h.other (by simp; omega) k
  · rintro w1 ⟨m0, m1, n0, n1, -⟩
    simp only [List.cons_append, List.nil_append]
    have z0 := World.block_lt_of_cell? _ _ m0
    have z1 := World.block_lt_of_cell? _ _ n0
    simp only at z0 z1
    repeat (go_big_quiet_step ((first | (go_at_call 53; with_reducible exact Calls.ext_of (c_an p hp _)) | (go_at_call 53; with_reducible exact Calls.ext_of (c_den p hp _)) | (go_at_call 53; with_reducible exact Calls.ext_of (c_an q hq _)) | (go_at_call 53; with_reducible exact Calls.ext_of (c_den q hq _)) | (go_at_call 69; with_reducible exact Calls.ext_of (C1.out _)) | (go_at_call 69; with_reducible exact Calls.ext_of (C2.out _)) | (go_at_call 55; with_reducible exact Calls.ext_of (CM.out _)))))
    refine wpQuiet_nil ?_
    exact rfl
  · intro e w h1 h2 h3
    obtain ⟨c0, c1, f0, f1⟩ := run_pair h3
    have h2' : e (.tmp 52) = .agg #[.int .i64 r.1.num, .int .i64 r.1.den] := h2
    apply Exists.intro
    apply And.intro
    · simp [execOp, go_sem, h1, h2', c0, c1, f0, f1]
      exact rfl
    · exact store_pair h3
  · intro w' _ hE hX
    go_wp2
    refine bodyPost_ret (RT.results_row2 rfl _ _ (w.heap.size + 1 + 1) 23 _ (0, 0) _ rfl hX Tryd.underlying23 rfl info_frac) rfl ?_
    exact ⟨rfl, hE⟩
end Go.Proofs.YtodoimeiklilhaaDoor

/- The walk of layer 1's 'valid'. -/
namespace Go.Proofs.YtodoimeiklilhaaDoor
open Go.RowKit Go.Sort

def frac0 : Frac := ⟨0, 0⟩
/-- a fraction whose parts are ints -/
def Frac.wide (a : Frac) : Prop := InI64 a.num ∧ InI64 a.den
def FracCells (w : World) (b off : Nat) (l : List Frac) : Prop := ∀ j, j < l.length → w.cell? ⟨b, off + j * 2, none⟩ = some (.int .i64 (l.getD j frac0).num) ∧ w.cell? ⟨b, off + j * 2 + 1, none⟩ = some (.int .i64 (l.getD j frac0).den)
def gcdOf (a : Frac) : Nat := Nat.gcd a.num.natAbs a.den.natAbs
theorem Frac.ok_iff (a : Frac) : a.ok ↔ ¬ a.den < 1 ∧ ¬ 4611686018427387903 < a.den ∧ ¬ a.num < -4611686018427387903 ∧ ¬ 4611686018427387903 < a.num ∧ gcdOf a = 1 := by
  unfold Frac.ok gcdOf maxP
  constructor
  · rintro ⟨h1, h2, h3, h4, h5⟩; exact ⟨by omega, by omega, by omega, by omega, h5⟩
  · rintro ⟨h1, h2, h3, h4, h5⟩; exact ⟨by omega, by omega, by omega, by omega, h5⟩
theorem all_no {l : List Frac} {k : Nat} (hk : k < l.length) (h : ¬ (l.getD k frac0).ok) : l.all (fun a => decide a.ok) = false := by
  rw [List.all_eq_false]
  refine ⟨l.getD k frac0, ?_, by simpa using h⟩
  rw [List.getD_eq_getElem?_getD, List.getElem?_eq_getElem hk]
  exact List.getElem_mem hk
theorem all_yes {l : List Frac} (h : ∀ j, j < l.length → (l.getD j frac0).ok) : l.all (fun a => decide a.ok) = true := by
  rw [List.all_eq_true]
  intro a ha
  obtain ⟨j, hj, rfl⟩ := List.getElem_of_mem ha
  have := h j hj
  rw [List.getD_eq_getElem?_getD, List.getElem?_eq_getElem hj] at this
  simpa using this
set_option maxRecDepth 100000 in
set_option maxHeartbeats 4000000 in
theorem c_valid (l : List Frac) (b off : Nat) (hl : l.length ≤ 100) (hw : ∀ a ∈ l, a.wide) (w : World) (hc : FracCells w b off l) :
    Calls Tryd.prog 48 #[.slice (some ⟨b, off, none⟩) l.length l.length] w fun e w' => e = .returned (.bool (l.all fun a => decide a.ok)) ∧ Ext w w' := by
  have HC := Lib.hid hc
  have HW := Lib.hid hw
  have HL := Lib.hid hl
  clear hc hw
  go_enter Tryd.func48, Tryd.ntmps48
  go_wp2
  go_loopw [7] (fun i wr => Ext w wr ∧ ∃ k : Nat, k ≤ l.length ∧ i = .int .i64 k ∧ Hid (∀ j, j < k → (l.getD j frac0).ok)) (fun i _ => l.length - (intOf i).toNat)
  case atStart => exact ⟨Ext.refl _, 0, Nat.zero_le _, rfl, fun j hj => by omega⟩
  case round =>
    obtain ⟨hE, k, hk, rfl, hd⟩ := hrel
    by_cases hkl : k < l.length
    · obtain ⟨g0, g1⟩ := HC.out k hkl
      obtain ⟨a, ha⟩ : ∃ a, l.getD k frac0 = a := ⟨_, rfl⟩
      have hwa : a.wide := HW.out a (by rw [← ha, List.getD_eq_getElem?_getD, List.getElem?_eq_getElem hkl]; exact List.getElem_mem hkl)
      rw [ha] at g0 g1
      replace g0 := hE.get g0
      replace g1 := hE.get g1
      obtain ⟨n, d⟩ := a
      obtain ⟨n', hn'⟩ : ∃ n', n.natAbs = n' := ⟨_, rfl⟩
      obtain ⟨d', hd'⟩ : ∃ d', d.natAbs = d' := ⟨_, rfl⟩
      obtain ⟨g, hg⟩ : ∃ g, Nat.gcd n' d' = g := ⟨_, rfl⟩
      have CN := Lib.hid (fun w => hn' ▸ c_abs n hwa.1 w)
      have CD := Lib.hid (fun w => hd' ▸ c_abs d hwa.2 w)
      have CG := Lib.hid (fun w => hg ▸ c_gcd n' d' (hn' ▸ natAbs_w64 hwa.1) (hd' ▸ natAbs_w64 hwa.2) w)
      have hgo : gcdOf ⟨n, d⟩ = g := by unfold gcdOf; rw [hn', hd', hg]
      have HGO := Lib.hid hgo
      have HA := Lib.hid ha
      clear hn' hd' hg hgo ha
      have zb := World.block_lt_of_cell? _ _ g0
      simp only at zb
      have zw : wr.heap.size < (wr.alloc (.cells #[.int .i64 n, .int .i64 d] 23)).heap.size := by rw [size_one]; omega
      simp only at g0 g1
      by_cases h1 : d < 1
      · have t1 : decide (d < 1) = true := decide_eq_true h1
        have HNO : Hid (¬ (l.getD k frac0).ok) := by rw [HA.out]; intro h; exact ((Frac.ok_iff _).1 h).1 h1
        clear h1
        go_wp2
        refine wp_region_quiet_below (by kernel_rfl) (by kernel_rfl) ?_; (repeat (go_big_quiet_step ((first | (go_at_call 53; with_reducible exact Calls.ext_of (CN.out _)) | (go_at_call 53; with_reducible exact Calls.ext_of (CD.out _)) | (go_at_call 54; with_reducible exact Calls.ext_of (CG.out _)))))); refine wpQuiet_nil ?_; intro _ hw'; obtain ⟨⟨dq, osq⟩, hw''⟩ := hw'; subst hw''
        (go_wp2; go_ret; exact ⟨ret_bool (all_no hkl HNO.out).symm, ext_grow (hE.alloc _) _ _⟩)
      have t1 : decide (d < 1) = false := decide_eq_false h1
      by_cases h2 : 4611686018427387903 < d
      · have t2 : decide (4611686018427387903 < d) = true := decide_eq_true h2
        have HNO : Hid (¬ (l.getD k frac0).ok) := by rw [HA.out]; intro h; exact ((Frac.ok_iff _).1 h).2.1 h2
        clear h1 h2
        go_wp2
        refine wp_region_quiet_below (by kernel_rfl) (by kernel_rfl) ?_; (repeat (go_big_quiet_step ((first | (go_at_call 53; with_reducible exact Calls.ext_of (CN.out _)) | (go_at_call 53; with_reducible exact Calls.ext_of (CD.out _)) | (go_at_call 54; with_reducible exact Calls.ext_of (CG.out _)))))); refine wpQuiet_nil ?_; intro _ hw'; obtain ⟨⟨dq, osq⟩, hw''⟩ := hw'; subst hw''
        (go_wp2; go_ret; exact ⟨ret_bool (all_no hkl HNO.out).symm, ext_grow (hE.alloc _) _ _⟩)
      have t2 : decide (4611686018427387903 < d) = false := decide_eq_false h2
      by_cases h3 : n < -4611686018427387903
      · have t3 : decide (n < -4611686018427387903) = true := decide_eq_true h3
        have HNO : Hid (¬ (l.getD k frac0).ok) := by rw [HA.out]; intro h; exact ((Frac.ok_iff _).1 h).2.2.1 h3
        clear h1 h2 h3
        go_wp2
        refine wp_region_quiet_below (by kernel_rfl) (by kernel_rfl) ?_; (repeat (go_big_quiet_step ((first | (go_at_call 53; with_reducible exact Calls.ext_of (CN.out _)) | (go_at_call 53; with_reducible exact Calls.ext_of (CD.out _)) | (go_at_call 54; with_reducible exact Calls.ext_of (CG.out _)))))); refine wpQuiet_nil ?_; intro _ hw'; obtain ⟨⟨dq, osq⟩, hw''⟩ := hw'; subst hw''
        (go_wp2; go_ret; exact ⟨ret_bool (all_no hkl HNO.out).symm, ext_grow (hE.alloc _) _ _⟩)
      have t3 : decide (n < -4611686018427387903) = false := decide_eq_false h3
      by_cases h4 : 4611686018427387903 < n
      · have t4 : decide (4611686018427387903 < n) = true := decide_eq_true h4
        have HNO : Hid (¬ (l.getD k frac0).ok) := by rw [HA.out]; intro h; exact ((Frac.ok_iff _).1 h).2.2.2.1 h4
        clear h1 h2 h3 h4
        go_wp2
        refine wp_region_quiet_below (by kernel_rfl) (by kernel_rfl) ?_; (repeat (go_big_quiet_step ((first | (go_at_call 53; with_reducible exact Calls.ext_of (CN.out _)) | (go_at_call 53; with_reducible exact Calls.ext_of (CD.out _)) | (go_at_call 54; with_reducible exact Calls.ext_of (CG.out _)))))); refine wpQuiet_nil ?_; intro _ hw'; obtain ⟨⟨dq, osq⟩, hw''⟩ := hw'; subst hw''
        (go_wp2; go_ret; exact ⟨ret_bool (all_no hkl HNO.out).symm, ext_grow (hE.alloc _) _ _⟩)
      have t4 : decide (4611686018427387903 < n) = false := decide_eq_false h4
      by_cases h5 : g = 1
      · have HYES : Hid ((l.getD k frac0).ok) := by rw [HA.out]; exact (Frac.ok_iff _).2 ⟨h1, h2, h3, h4, HGO.out.trans h5⟩
        have t5 : ((g : Int) != 1) = false := by simp; omega
        have t6 : ((g : Int) == 1) = true := by simp; omega
        clear h1 h2 h3 h4 h5
        go_wp2
        refine wp_region_quiet_below (by kernel_rfl) (by kernel_rfl) ?_; (repeat (go_big_quiet_step ((first | (go_at_call 53; with_reducible exact Calls.ext_of (CN.out _)) | (go_at_call 53; with_reducible exact Calls.ext_of (CD.out _)) | (go_at_call 54; with_reducible exact Calls.ext_of (CG.out _)))))); refine wpQuiet_nil ?_; intro _ hw'; obtain ⟨⟨dq, osq⟩, hw''⟩ := hw'; subst hw''
        go_wp2
        go_roundw
        case rel => exact ⟨ext_grow (hE.alloc _) _ _, k + 1, by omega, by go_num, fun j hj => by
          rcases Nat.lt_or_ge j k with h | h
          · exact hd.out j h
          · obtain rfl : j = k := by omega
            exact HYES.out⟩
        case measure => simp [intOf]; omega
      · have HNO : Hid (¬ (l.getD k frac0).ok) := by rw [HA.out]; intro h; exact h5 (HGO.out.symm.trans ((Frac.ok_iff _).1 h).2.2.2.2)
        have t5 : ((g : Int) != 1) = true := by simp; omega
        have t6 : ((g : Int) == 1) = false := by simp; omega
        clear h1 h2 h3 h4 h5
        go_wp2
        refine wp_region_quiet_below (by kernel_rfl) (by kernel_rfl) ?_; (repeat (go_big_quiet_step ((first | (go_at_call 53; with_reducible exact Calls.ext_of (CN.out _)) | (go_at_call 53; with_reducible exact Calls.ext_of (CD.out _)) | (go_at_call 54; with_reducible exact Calls.ext_of (CG.out _)))))); refine wpQuiet_nil ?_; intro _ hw'; obtain ⟨⟨dq, osq⟩, hw''⟩ := hw'; subst hw''
        (go_wp2; go_ret; exact ⟨ret_bool (all_no hkl HNO.out).symm, ext_grow (hE.alloc _) _ _⟩)
    · have HD := Lib.hid (all_yes (l := l) fun j hj => hd.out j (by omega))
      go_wp2
      go_ret
      exact ⟨ret_bool HD.out.symm, hE⟩
end Go.Proofs.YtodoimeiklilhaaDoor
