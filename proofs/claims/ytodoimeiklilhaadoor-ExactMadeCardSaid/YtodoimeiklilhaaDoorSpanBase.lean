/- The walks of layer 1's all; what 'ends' answers for two and for four pairs. -/
import Derived.Test.YtodoimeiklilhaaDoorEndsSum
import Derived.Test.YtodoimeiklilhaaDoorEndsDifference
import Derived.Test.YtodoimeiklilhaaDoorEndsTimes
import Derived.Test.YtodoimeiklilhaaDoorEndsQuotient
set_option linter.unusedVariables false
set_option linter.unusedSimpArgs false
namespace Go.Proofs.YtodoimeiklilhaaDoor
open Go.RowKit Go.Sort

@[go_sem] theorem boxCells_none : boxCells none = #[.int .i64 0, .int .i64 0, .int .i64 0, .int .i64 0] := rfl
@[go_sem] theorem boxCells_some (lo hi : Rat) : boxCells (some (lo, hi)) = #[.int .i64 (nm lo), .int .i64 (dn lo), .int .i64 (nm hi), .int .i64 (dn hi)] := rfl
def spanR (f : Rat → Rat → Frac × Int) (pairs : Rat → Rat → Rat → Rat → List (Rat × Rat)) (a b : Span) : Box × Int := if a.ok ∧ b.ok then endsR f none (pairs a.lo.val a.hi.val b.lo.val b.hi.val) else (none, 8)
def pairsAdd (al ah bl bh : Rat) : List (Rat × Rat) := [(al, bl), (ah, bh)]
def pairsSub (al ah bl bh : Rat) : List (Rat × Rat) := [(al, bh), (ah, bl)]
def pairsAll (al ah bl bh : Rat) : List (Rat × Rat) := [(al, bl), (al, bh), (ah, bl), (ah, bh)]
def mkSpan (lo hi : Rat) : Span := ⟨fracOf lo, fracOf hi⟩
theorem Span.of_ok {a : Span} (h : a.ok) : ∃ lo hi : Rat, Fits lo ∧ Fits hi ∧ lo ≤ hi ∧ a = mkSpan lo hi := by
  obtain ⟨l, hl, el⟩ := Frac.of_ok h.1
  obtain ⟨k, hk, ek⟩ := Frac.of_ok h.2.1
  obtain ⟨x, y⟩ := a
  simp only at el ek
  subst el ek
  have := h.2.2
  simp only [fracOf_val] at this
  exact ⟨l, k, hl, hk, this, rfl⟩
theorem mkSpan_ok {lo hi : Rat} (hl : Fits lo) (hh : Fits hi) (h : lo ≤ hi) : (mkSpan lo hi).ok := ⟨fracOf_ok hl, fracOf_ok hh, by show (fracOf lo).val ≤ (fracOf hi).val; rw [fracOf_val, fracOf_val]; exact h⟩
theorem mkSpan_wide {lo hi : Rat} (hl : Fits lo) (hh : Fits hi) : (mkSpan lo hi).wide := ⟨wide_of hl, wide_of hh⟩
theorem spanR_ok (f : Rat → Rat → Frac × Int) (pairs : Rat → Rat → Rat → Rat → List (Rat × Rat)) {al ah bl bh : Rat} (h1 : (mkSpan al ah).ok) (h2 : (mkSpan bl bh).ok) : spanR f pairs (mkSpan al ah) (mkSpan bl bh) = endsR f none (pairs al ah bl bh) := by
  unfold spanR
  rw [if_pos ⟨h1, h2⟩]
  show endsR f none (pairs (fracOf al).val (fracOf ah).val (fracOf bl).val (fracOf bh).val) = _
  simp only [fracOf_val]
abbrev rc (q : Rat) : List Value := [.int .i64 (nm q), .int .i64 (dn q)]
def AllPost (al ah bl bh : Rat) (w : World) (e : Ending) (w' : World) : Prop :=
  ∃ k, e = .returned (.slice (some ⟨k, 0, none⟩) 4 4) ∧ w'.heap[k]? = some (.cells #[.int .i64 (nm al), .int .i64 (dn al), .int .i64 (nm bl), .int .i64 (dn bl), .int .i64 (nm al), .int .i64 (dn al), .int .i64 (nm bh), .int .i64 (dn bh), .int .i64 (nm ah), .int .i64 (dn ah), .int .i64 (nm bl), .int .i64 (dn bl), .int .i64 (nm ah), .int .i64 (dn ah), .int .i64 (nm bh), .int .i64 (dn bh)] 94) ∧ Ext w w'
set_option maxHeartbeats 1000000 in
theorem c_all (al ah bl bh : Rat) (w : World) :
    Calls Tryd.prog 66 #[spanV al ah, spanV bl bh] w (AllPost al ah bl bh w) := by
  go_enter Tryd.func66, Tryd.ntmps66
  go_wp2
  go_ret
  exact ⟨w.heap.size + 1 + 1, rfl, three_third _ _ _ _, (by repeat (first | exact Ext.refl _ | assumption | refine Ext.alloc ?_ _ | refine Ext.drewN ?_ _ | refine ext_grow ?_ _ _ | refine Ext.setCell ?_ (by first | exact Nat.le_refl _ | omega | (simp; done) | (simp; omega)) _ | refine Ext.trans ?_ (by assumption)))⟩
theorem c_ends2_sum (p1 q1 p2 q2 : Rat) (hp1 : Fits p1) (hq1 : Fits q1) (hp2 : Fits p2) (hq2 : Fits q2) (k : Nat) (t : TypeId) (w : World) (h : w.heap[k]? = some (.cells #[.int .i64 (nm p1), .int .i64 (dn p1), .int .i64 (nm q1), .int .i64 (dn q1), .int .i64 (nm p2), .int .i64 (dn p2), .int .i64 (nm q2), .int .i64 (dn q2)] t)) :
    Calls Tryd.prog 65 #[.func (.func 60) #[] #[], .slice (some ⟨k, 0, none⟩) 2 2] w fun e w' => e = .returned (sansV (endsR (fun p q => answer (p + q)) none [(p1, q1), (p2, q2)])) ∧ Ext w w' :=
  c_ends_sum [(p1, q1), (p2, q2)] k (by simp) (by simp [hp1, hq1, hp2, hq2]) w (fun j hj => by
    match j, hj with
    | 0, _ => exact ⟨cell_of_at h 0 rfl, cell_of_at h 1 rfl, cell_of_at h 2 rfl, cell_of_at h 3 rfl⟩
    | 1, _ => exact ⟨cell_of_at h 4 rfl, cell_of_at h 5 rfl, cell_of_at h 6 rfl, cell_of_at h 7 rfl⟩) (Array.getElem?_eq_some_iff.1 h).1
theorem c_ends2_difference (p1 q1 p2 q2 : Rat) (hp1 : Fits p1) (hq1 : Fits q1) (hp2 : Fits p2) (hq2 : Fits q2) (k : Nat) (t : TypeId) (w : World) (h : w.heap[k]? = some (.cells #[.int .i64 (nm p1), .int .i64 (dn p1), .int .i64 (nm q1), .int .i64 (dn q1), .int .i64 (nm p2), .int .i64 (dn p2), .int .i64 (nm q2), .int .i64 (dn q2)] t)) :
    Calls Tryd.prog 65 #[.func (.func 57) #[] #[], .slice (some ⟨k, 0, none⟩) 2 2] w fun e w' => e = .returned (sansV (endsR (fun p q => answer (p - q)) none [(p1, q1), (p2, q2)])) ∧ Ext w w' :=
  c_ends_difference [(p1, q1), (p2, q2)] k (by simp) (by simp [hp1, hq1, hp2, hq2]) w (fun j hj => by
    match j, hj with
    | 0, _ => exact ⟨cell_of_at h 0 rfl, cell_of_at h 1 rfl, cell_of_at h 2 rfl, cell_of_at h 3 rfl⟩
    | 1, _ => exact ⟨cell_of_at h 4 rfl, cell_of_at h 5 rfl, cell_of_at h 6 rfl, cell_of_at h 7 rfl⟩) (Array.getElem?_eq_some_iff.1 h).1
theorem c_ends4_times (al ah bl bh : Rat) (h1 : Fits al) (h2 : Fits ah) (h3 : Fits bl) (h4 : Fits bh) (k : Nat) (t : TypeId) (w : World) (h : w.heap[k]? = some (.cells #[.int .i64 (nm al), .int .i64 (dn al), .int .i64 (nm bl), .int .i64 (dn bl), .int .i64 (nm al), .int .i64 (dn al), .int .i64 (nm bh), .int .i64 (dn bh), .int .i64 (nm ah), .int .i64 (dn ah), .int .i64 (nm bl), .int .i64 (dn bl), .int .i64 (nm ah), .int .i64 (dn ah), .int .i64 (nm bh), .int .i64 (dn bh)] t)) :
    Calls Tryd.prog 65 #[.func (.func 58) #[] #[], .slice (some ⟨k, 0, none⟩) 4 4] w fun e w' => e = .returned (sansV (endsR (fun p q => answer (p * q)) none (pairsAll al ah bl bh))) ∧ Ext w w' :=
  c_ends_times (pairsAll al ah bl bh) k (by simp [pairsAll]) (by simp [pairsAll, h1, h2, h3, h4]) w (fun j hj => by
    match j, hj with
    | 0, _ => exact ⟨cell_of_at h 0 rfl, cell_of_at h 1 rfl, cell_of_at h 2 rfl, cell_of_at h 3 rfl⟩
    | 1, _ => exact ⟨cell_of_at h 4 rfl, cell_of_at h 5 rfl, cell_of_at h 6 rfl, cell_of_at h 7 rfl⟩
    | 2, _ => exact ⟨cell_of_at h 8 rfl, cell_of_at h 9 rfl, cell_of_at h 10 rfl, cell_of_at h 11 rfl⟩
    | 3, _ => exact ⟨cell_of_at h 12 rfl, cell_of_at h 13 rfl, cell_of_at h 14 rfl, cell_of_at h 15 rfl⟩) (Array.getElem?_eq_some_iff.1 h).1
theorem c_ends4_quotient (al ah bl bh : Rat) (h1 : Fits al) (h2 : Fits ah) (h3 : Fits bl) (h4 : Fits bh) (k : Nat) (t : TypeId) (w : World) (h : w.heap[k]? = some (.cells #[.int .i64 (nm al), .int .i64 (dn al), .int .i64 (nm bl), .int .i64 (dn bl), .int .i64 (nm al), .int .i64 (dn al), .int .i64 (nm bh), .int .i64 (dn bh), .int .i64 (nm ah), .int .i64 (dn ah), .int .i64 (nm bl), .int .i64 (dn bl), .int .i64 (nm ah), .int .i64 (dn ah), .int .i64 (nm bh), .int .i64 (dn bh)] t)) :
    Calls Tryd.prog 65 #[.func (.func 59) #[] #[], .slice (some ⟨k, 0, none⟩) 4 4] w fun e w' => e = .returned (sansV (endsR (quotR) none (pairsAll al ah bl bh))) ∧ Ext w w' :=
  c_ends_quotient (pairsAll al ah bl bh) k (by simp [pairsAll]) (by simp [pairsAll, h1, h2, h3, h4]) w (fun j hj => by
    match j, hj with
    | 0, _ => exact ⟨cell_of_at h 0 rfl, cell_of_at h 1 rfl, cell_of_at h 2 rfl, cell_of_at h 3 rfl⟩
    | 1, _ => exact ⟨cell_of_at h 4 rfl, cell_of_at h 5 rfl, cell_of_at h 6 rfl, cell_of_at h 7 rfl⟩
    | 2, _ => exact ⟨cell_of_at h 8 rfl, cell_of_at h 9 rfl, cell_of_at h 10 rfl, cell_of_at h 11 rfl⟩
    | 3, _ => exact ⟨cell_of_at h 12 rfl, cell_of_at h 13 rfl, cell_of_at h 14 rfl, cell_of_at h 15 rfl⟩) (Array.getElem?_eq_some_iff.1 h).1
end Go.Proofs.YtodoimeiklilhaaDoor
