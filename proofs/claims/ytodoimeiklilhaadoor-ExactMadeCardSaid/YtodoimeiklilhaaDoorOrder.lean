/- The walk of layer 1's order of fractions. -/
import Derived.Test.YtodoimeiklilhaaDoorMade
import Derived.Test.YtodoimeiklilhaaDoorTwo
set_option linter.unusedVariables false
set_option linter.unusedSimpArgs false
namespace Go.Proofs.YtodoimeiklilhaaDoor
open Go.RowKit Go.Sort

theorem fits_i64 {q : Rat} (h : Fits q) : InI64 (nm q) ∧ InI64 (dn q) := by
  unfold Fits maxP at h; unfold InI64 nm dn; omega
theorem natAbs_w64 {n : Int} (h : InI64 n) : W64 n.natAbs := by unfold InI64 at h; unfold W64; omega
/-- the absolute value of a numerator, as a word -/
def an (q : Rat) : Nat := q.num.natAbs
def dw (q : Rat) : Nat := q.den
theorem an_w64 {q : Rat} (h : Fits q) : W64 (an q) := natAbs_w64 (fits_i64 h).1
theorem den_w64 {q : Rat} (h : Fits q) : W64 (dw q) := by unfold Fits maxP at h; unfold W64 dw; omega
theorem c_an (q : Rat) (h : Fits q) (w : World) :
    Calls Tryd.prog 53 #[.int .i64 (nm q)] w fun e w' => e = .returned (.int .u64 (an q : Int)) ∧ Ext w w' := c_abs _ (fits_i64 h).1 w
theorem c_den (q : Rat) (h : Fits q) (w : World) :
    Calls Tryd.prog 53 #[.int .i64 (dn q)] w fun e w' => e = .returned (.int .u64 (dw q : Int)) ∧ Ext w w' := by
  have := c_abs _ (fits_i64 h).2 w
  rwa [show (dn q).natAbs = dw q from Int.natAbs_natCast _] at this
/-- the same, said for a block's two cells -/
theorem run_pair {w : World} {b : Nat} {c0 c1 : Value} {e : TypeId} (h : w.heap[b]? = some (.cells #[c0, c1] e)) :
    w.cell? ⟨b, 0, none⟩ = some c0 ∧ w.cell? ⟨b, 1, none⟩ = some c1 ∧ w.frozen? ⟨b, 0, none⟩ = false ∧ w.frozen? ⟨b, 1, none⟩ = false := by
  simp [World.cell?, World.frozen?, h]
theorem store_pair {w : World} {b : Nat} {c0 c1 v0 v1 : Value} {e : TypeId} {fr : Nat × Nat} (h : w.heap[b]? = some (.cells #[c0, c1] e fr)) :
    ((w.setCell ⟨b, 0, none⟩ v0).setCell ⟨b, 1, none⟩ v1).heap[b]? = some (.cells #[v0, v1] e fr) ∧ (∀ k, k ≠ b → ((w.setCell ⟨b, 0, none⟩ v0).setCell ⟨b, 1, none⟩ v1).heap[k]? = w.heap[k]?) ∧
      ∀ wb : World, wb.heap.size ≤ b → Ext wb w → Ext wb ((w.setCell ⟨b, 0, none⟩ v0).setCell ⟨b, 1, none⟩ v1) := by
  refine ⟨by simp [World.setCell, Array.getElem?_modify, h], fun k hk => ?_, fun wb hb hE => (hE.setCell hb _).setCell hb _⟩
  rw [Below.heap_setCell _ _ _ _ hk, Below.heap_setCell _ _ _ _ hk]
theorem cmp_facts (p q : Rat) : ∃ A B : Int, (cmp p q = if A < B then -1 else if A = B then 0 else 1) ∧ (A = B ↔ nm p = nm q ∧ dn p = dn q) ∧ (nm p < 0 ↔ A < 0) ∧ (0 < nm p ↔ 0 < A) ∧ (nm q < 0 ↔ B < 0) ∧ (0 < nm q ↔ 0 < B) ∧
    an p * dw q = A.natAbs ∧ an q * dw p = B.natAbs := by
  unfold nm dn dw
  have dp : (0 : Int) < p.den := by have := p.den_pos; omega
  have dq : (0 : Int) < q.den := by have := q.den_pos; omega
  refine ⟨p.num * q.den, q.num * p.den, ?_, ?_, ?_, ?_, ?_, ?_, ?_, ?_⟩
  · unfold cmp
    have h1 : (p < q) = (p.num * q.den < q.num * p.den) := propext (Rat.lt_iff p q)
    have h2 : (p = q) = (p.num * q.den = q.num * p.den) := propext Rat.eq_iff_mul_eq_mul
    simp only [h1, h2]
  · rw [← Rat.eq_iff_mul_eq_mul]
    constructor
    · rintro rfl; exact ⟨rfl, rfl⟩
    · rintro ⟨h1, h2⟩; exact Rat.ext h1 (by omega)
  · exact ⟨fun h => Int.mul_neg_of_neg_of_pos h dq, fun h => by
      rcases Int.lt_or_le p.num 0 with h' | h'
      · exact h'
      · have := Int.mul_nonneg h' (Int.le_of_lt dq); omega⟩
  · exact ⟨fun h => Int.mul_pos h dq, fun h => by
      rcases Int.lt_or_le 0 p.num with h' | h'
      · exact h'
      · have := Int.mul_nonpos_of_nonpos_of_nonneg h' (Int.le_of_lt dq); omega⟩
  · exact ⟨fun h => Int.mul_neg_of_neg_of_pos h dp, fun h => by
      rcases Int.lt_or_le q.num 0 with h' | h'
      · exact h'
      · have := Int.mul_nonneg h' (Int.le_of_lt dp); omega⟩
  · exact ⟨fun h => Int.mul_pos h dp, fun h => by
      rcases Int.lt_or_le 0 q.num with h' | h'
      · exact h'
      · have := Int.mul_nonpos_of_nonpos_of_nonneg h' (Int.le_of_lt dp); omega⟩
  · rw [Int.natAbs_mul, Int.natAbs_natCast]; rfl
  · rw [Int.natAbs_mul, Int.natAbs_natCast]; rfl
set_option maxRecDepth 100000 in
set_option maxHeartbeats 2000000 in
theorem c_order (p q : Rat) (hp : Fits p) (hq : Fits q) (w : World) :
    Calls Tryd.prog 61 #[ratV p, ratV q] w fun e w' => e = .returned (.int .i64 (cmp p q)) ∧ Ext w w' := by
  go_enter Tryd.func61, Tryd.ntmps61
  go_wp2
  refine RT.region_two (aq := ?aq) (n := 14) (sx := 5) (sy := 6) (vx := 13) (vy := 20) (oz := .cells #[.int .u64 0, .int .u64 0] 85) (ox := .cells #[.int .u64 (hiW (an p * dw q) : Int), .int .u64 (loW (an p * dw q) : Int)] 85) (oy := .cells #[.int .u64 (hiW (an q * dw p) : Int), .int .u64 (loW (an q * dw p) : Int)] 85) (qs := [_, _, _, _, _, _, _, _, _, _, _, _, _, _]) (by kernel_rfl) rfl (by kernel_rfl) (by kernel_rfl) rfl rfl (of_decide_eq_true (by kernel_rfl)) (of_decide_eq_true (by kernel_rfl)) rfl rfl rfl rfl (by kernel_rfl) (by kernel_rfl) (by kernel_rfl) (by kernel_rfl) ?_ ?_ ?_ ?_ ?_ ?_
  rotate_left
  · intro e w
    simp [execOp, go_sem, Tryd.underlying85]
  · intro e w
    simp [execOp, go_sem, Tryd.underlying85]
  · intro w1 hE1
    have m0 : w1.cell? ⟨w.heap.size, 0, none⟩ = some (.int .i64 (nm p)) := hE1.get (by simp)
    have m1 : w1.cell? ⟨w.heap.size, 1, none⟩ = some (.int .i64 (dn p)) := hE1.get (by simp)
    have n0 : w1.cell? ⟨w.heap.size + 1, 0, none⟩ = some (.int .i64 (nm q)) := hE1.get (by simp)
    have n1 : w1.cell? ⟨w.heap.size + 1, 1, none⟩ = some (.int .i64 (dn q)) := hE1.get (by simp)
    have z0 := World.block_lt_of_cell? _ _ m0
    have z1 := World.block_lt_of_cell? _ _ n0
    simp only at z0 z1
    clear hE1
    simp only [List.cons_append, List.nil_append]
    repeat (go_big_quiet_step ((first | (go_at_call 53; with_reducible exact Calls.ext_of (c_an p hp _)) | (go_at_call 53; with_reducible exact Calls.ext_of (c_den p hp _)) | (go_at_call 53; with_reducible exact Calls.ext_of (c_an q hq _)) | (go_at_call 53; with_reducible exact Calls.ext_of (c_den q hq _)) | (go_at_call 69; with_reducible exact Calls.ext_of (c_product (an p) (dw q) (an_w64 hp) (den_w64 hq) _)) | (go_at_call 69; with_reducible exact Calls.ext_of (c_product (an q) (dw p) (an_w64 hq) (den_w64 hp) _)))))
    refine wpQuiet_nil ?_
    exact rfl
  · intro e w b h1 h2 h3
    have c0 : w.cell? ⟨b, 0, none⟩ = some (.int .u64 0) := by simp [World.cell?, h3]
    have c1 : w.cell? ⟨b, 1, none⟩ = some (.int .u64 0) := by simp [World.cell?, h3]
    have f0 : w.frozen? ⟨b, 0, none⟩ = false := by simp [World.frozen?, h3]
    have f1 : w.frozen? ⟨b, 1, none⟩ = false := by simp [World.frozen?, h3]
    have h2' : e (.tmp 13) = pairV (an p * dw q) := h2
    apply Exists.intro
    apply And.intro
    · simp [execOp, go_sem, Tryd.underlying85, h1, h2', c0, c1, f0, f1]
      exact rfl
    · exact store_pair h3
  · intro e w b h1 h2 h3
    have c0 : w.cell? ⟨b, 0, none⟩ = some (.int .u64 0) := by simp [World.cell?, h3]
    have c1 : w.cell? ⟨b, 1, none⟩ = some (.int .u64 0) := by simp [World.cell?, h3]
    have f0 : w.frozen? ⟨b, 0, none⟩ = false := by simp [World.frozen?, h3]
    have f1 : w.frozen? ⟨b, 1, none⟩ = false := by simp [World.frozen?, h3]
    have h2' : e (.tmp 20) = pairV (an q * dw p) := h2
    apply Exists.intro
    apply And.intro
    · simp [execOp, go_sem, Tryd.underlying85, h1, h2', c0, c1, f0, f1]
      exact rfl
    · exact store_pair h3
  · intro bx by_ w' hE hbx hby hne hX hY
    have cx0 : w'.cell? ⟨bx, 0, none⟩ = some (.int .u64 (hiW (an p * dw q) : Int)) := by simp [World.cell?, hX]
    have cx1 : w'.cell? ⟨bx, 1, none⟩ = some (.int .u64 (loW (an p * dw q) : Int)) := by simp [World.cell?, hX]
    have cy0 : w'.cell? ⟨by_, 0, none⟩ = some (.int .u64 (hiW (an q * dw p) : Int)) := by simp [World.cell?, hY]
    have cy1 : w'.cell? ⟨by_, 1, none⟩ = some (.int .u64 (loW (an q * dw p) : Int)) := by simp [World.cell?, hY]
    have m0 : w'.cell? ⟨w.heap.size, 0, none⟩ = some (.int .i64 (nm p)) := hE.get (by simp)
    have m1 : w'.cell? ⟨w.heap.size, 1, none⟩ = some (.int .i64 (dn p)) := hE.get (by simp)
    have n0 : w'.cell? ⟨w.heap.size + 1, 0, none⟩ = some (.int .i64 (nm q)) := hE.get (by simp)
    have n1 : w'.cell? ⟨w.heap.size + 1, 1, none⟩ = some (.int .i64 (dn q)) := hE.get (by simp)
    clear hX hY hne hbx hby
    have z0 := World.block_lt_of_cell? _ _ cx0
    have z1 := World.block_lt_of_cell? _ _ cy0
    have z2 := World.block_lt_of_cell? _ _ m0
    have z3 := World.block_lt_of_cell? _ _ n0
    simp only at z0 z1 z2 z3
    go_wp2_with (go_at_call 72; refine (c_less _ _ _).mono ?_; rintro e w' ⟨rfl, hb⟩; have hc := hb.cell)
    all_goals (obtain ⟨A, B, e0, e1, e2, e3, e4, e5, e6, e7⟩ := cmp_facts p q; go_ret; refine ⟨ret_int ?_, (by repeat (first | exact Ext.refl _ | assumption | refine Ext.alloc ?_ _ | refine Ext.drewN ?_ _ | refine ext_grow ?_ _ _ | refine Ext.setCell ?_ (by first | exact Nat.le_refl _ | omega | (simp; done) | (simp; omega)) _ | refine Ext.trans ?_ (by assumption)))⟩; rw [e0]; clear z0 z1 z2 z3 hE cx0 cx1 cy0 cy1 m0 m1 n0 n1 hp hq; first | omega | (repeat (first | rw [if_pos (by omega)] | rw [if_neg (by omega)])))
end Go.Proofs.YtodoimeiklilhaaDoor
