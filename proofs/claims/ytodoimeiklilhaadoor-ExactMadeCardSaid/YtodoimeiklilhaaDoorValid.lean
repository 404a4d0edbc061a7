/- The walk of layer 1's 'valid'. -/
import Derived.Test.YtodoimeiklilhaaDoorSmall
set_option linter.unusedVariables false
set_option linter.unusedSimpArgs false
namespace Go.Proofs.YtodoimeiklilhaaDoor
open Go.RowKit Go.Sort

def frac0 : Frac := ⟨0, 0⟩
/-- a fraction whose parts are ints -/
def Frac.wide (a : Frac) : Prop := InI64 a.num ∧ InI64 a.den
def FracCells (w : World) (b off : Nat) (l : List Frac) : Prop := ∀ j, j < l.length → w.cell? ⟨b, off + j * 2, none⟩ = some (.int .i64 (l.getD j frac0).num) ∧ w.cell? ⟨b, off + j * 2 + 1, none⟩ = some (.int .i64 (l.getD j frac0).den)
def gcdOf (a : Frac) : Nat := Nat.gcd a.num.natAbs a.den.natAbs
theorem Frac.ok_iff (a : Frac) : a.ok ↔ ¬ a.den < 1 ∧ ¬ 4611686018427387903 < a.den ∧ ¬ a.num < -4611686018427387903 ∧ ¬ 4611686018427387903 < a.num ∧ gcdOf a = 1 := by
  unfold Frac.ok gcdOf maxP
  constructor
  · rintro ⟨h1, h2, h3, h4, h5⟩; exact ⟨by omega, by omega, by omega, by omega, h5⟩
  · rintro ⟨h1, h2, h3, h4, h5⟩; exact ⟨by omega, by omega, by omega, by omega, h5⟩
theorem all_no {l : List Frac} {k : Nat} (hk : k < l.length) (h : ¬ (l.getD k frac0).ok) : l.all (fun a => decide a.ok) = false := by
  rw [List.all_eq_false]
  refine ⟨l.getD k frac0, ?_, by simpa using h⟩
  rw [List.getD_eq_getElem?_getD, List.getElem?_eq_getElem hk]
  exact List.getElem_mem hk
theorem all_yes {l : List Frac} (h : ∀ j, j < l.length → (l.getD j frac0).ok) : l.all (fun a => decide a.ok) = true := by
  rw [List.all_eq_true]
  intro a ha
  obtain ⟨j, hj, rfl⟩ := List.getElem_of_mem ha
  have := h j hj
  rw [List.getD_eq_getElem?_getD, List.getElem?_eq_getElem hj] at this
  simpa using this
set_option maxRecDepth 100000 in
set_option maxHeartbeats 4000000 in
theorem c_valid (l : List Frac) (b off : Nat) (hl : l.length ≤ 100) (hw : ∀ a ∈ l, a.wide) (w : World) (hc : FracCells w b off l) :
    Calls Tryd.prog 48 #[.slice (some ⟨b, off, none⟩) l.length l.length] w fun e w' => e = .returned (.bool (l.all fun a => decide a.ok)) ∧ Ext w w' := by
  have HC := Lib.hid hc
  have HW := Lib.hid hw
  have HL := Lib.hid hl
  clear hc hw
  go_enter Tryd.func48, Tryd.ntmps48
  go_wp2
  go_loopw [7] (fun i wr => Ext w wr ∧ ∃ k : Nat, k ≤ l.length ∧ i = .int .i64 k ∧ Hid (∀ j, j < k → (l.getD j frac0).ok)) (fun i _ => l.length - (intOf i).toNat)
  case atStart => exact ⟨Ext.refl _, 0, Nat.zero_le _, rfl, fun j hj => by omega⟩
  case round =>
    obtain ⟨hE, k, hk, rfl, hd⟩ := hrel
    by_cases hkl : k < l.length
    · obtain ⟨g0, g1⟩ := HC.out k hkl
      obtain ⟨a, ha⟩ : ∃ a, l.getD k frac0 = a := ⟨_, rfl⟩
      have hwa : a.wide := HW.out a (by rw [← ha, List.getD_eq_getElem?_getD, List.getElem?_eq_getElem hkl]; exact List.getElem_mem hkl)
      rw [ha] at g0 g1
      replace g0 := hE.get g0
      replace g1 := hE.get g1
      obtain ⟨n, d⟩ := a
      obtain ⟨n', hn'⟩ : ∃ n', n.natAbs = n' := ⟨_, rfl⟩
      obtain ⟨d', hd'⟩ : ∃ d', d.natAbs = d' := ⟨_, rfl⟩
      obtain ⟨g, hg⟩ : ∃ g, Nat.gcd n' d' = g := ⟨_, rfl⟩
      have CN := Lib.hid (fun w => hn' ▸ c_abs n hwa.1 w)
      have CD := Lib.hid (fun w => hd' ▸ c_abs d hwa.2 w)
      have CG := Lib.hid (fun w => hg ▸ c_gcd n' d' (hn' ▸ natAbs_w64 hwa.1) (hd' ▸ natAbs_w64 hwa.2) w)
      have hgo : gcdOf ⟨n, d⟩ = g := by unfold gcdOf; rw [hn', hd', hg]
      have HGO := Lib.hid hgo
      have HA := Lib.hid ha
      clear hn' hd' hg hgo ha
      have zb := World.block_lt_of_cell? _ _ g0
      simp only at zb
      have zw : wr.heap.size < (wr.alloc (.cells #[.int .i64 n, .int .i64 d] 23)).heap.size := by rw [size_one]; omega
      simp only at g0 g1
      by_cases h1 : d < 1
      · have t1 : decide (d < 1) = true := decide_eq_true h1
        have HNO : Hid (¬ (l.getD k frac0).ok) := by rw [HA.out]; intro h; exact ((Frac.ok_iff _).1 h).1 h1
        clear h1
        go_wp2
        refine wp_region_quiet_below (by kernel_rfl) (by kernel_rfl) ?_; (repeat (go_big_quiet_step ((first | (go_at_call 53; with_reducible exact Calls.ext_of (CN.out _)) | (go_at_call 53; with_reducible exact Calls.ext_of (CD.out _)) | (go_at_call 54; with_reducible exact Calls.ext_of (CG.out _)))))); refine wpQuiet_nil ?_; intro _ hw'; obtain ⟨⟨dq, osq⟩, hw''⟩ := hw'; subst hw''
        (go_wp2; go_ret; exact ⟨ret_bool (all_no hkl HNO.out).symm, ext_grow (hE.alloc _) _ _⟩)
      have t1 : decide (d < 1) = false := decide_eq_false h1
      by_cases h2 : 4611686018427387903 < d
      · have t2 : decide (4611686018427387903 < d) = true := decide_eq_true h2
        have HNO : Hid (¬ (l.getD k frac0).ok) := by rw [HA.out]; intro h; exact ((Frac.ok_iff _).1 h).2.1 h2
        clear h1 h2
        go_wp2
        refine wp_region_quiet_below (by kernel_rfl) (by kernel_rfl) ?_; (repeat (go_big_quiet_step ((first | (go_at_call 53; with_reducible exact Calls.ext_of (CN.out _)) | (go_at_call 53; with_reducible exact Calls.ext_of (CD.out _)) | (go_at_call 54; with_reducible exact Calls.ext_of (CG.out _)))))); refine wpQuiet_nil ?_; intro _ hw'; obtain ⟨⟨dq, osq⟩, hw''⟩ := hw'; subst hw''
        (go_wp2; go_ret; exact ⟨ret_bool (all_no hkl HNO.out).symm, ext_grow (hE.alloc _) _ _⟩)
      have t2 : decide (4611686018427387903 < d) = false := decide_eq_false h2
      by_cases h3 : n < -4611686018427387903
      · have t3 : decide (n < -4611686018427387903) = true := decide_eq_true h3
        have HNO : Hid (¬ (l.getD k frac0).ok) := by rw [HA.out]; intro h; exact ((Frac.ok_iff _).1 h).2.2.1 h3
        clear h1 h2 h3
        go_wp2
        refine wp_region_quiet_below (by kernel_rfl) (by kernel_rfl) ?_; (repeat (go_big_quiet_step ((first | (go_at_call 53; with_reducible exact Calls.ext_of (CN.out _)) | (go_at_call 53; with_reducible exact Calls.ext_of (CD.out _)) | (go_at_call 54; with_reducible exact Calls.ext_of (CG.out _)))))); refine wpQuiet_nil ?_; intro _ hw'; obtain ⟨⟨dq, osq⟩, hw''⟩ := hw'; subst hw''
        (go_wp2; go_ret; exact ⟨ret_bool (all_no hkl HNO.out).symm, ext_grow (hE.alloc _) _ _⟩)
      have t3 : decide (n < -4611686018427387903) = false := decide_eq_false h3
      by_cases h4 : 4611686018427387903 < n
      · have t4 : decide (4611686018427387903 < n) = true := decide_eq_true h4
        have HNO : Hid (¬ (l.getD k frac0).ok) := by rw [HA.out]; intro h; exact ((Frac.ok_iff _).1 h).2.2.2.1 h4
        clear h1 h2 h3 h4
        go_wp2
        refine wp_region_quiet_below (by kernel_rfl) (by kernel_rfl) ?_; (repeat (go_big_quiet_step ((first | (go_at_call 53; with_reducible exact Calls.ext_of (CN.out _)) | (go_at_call 53; with_reducible exact Calls.ext_of (CD.out _)) | (go_at_call 54; with_reducible exact Calls.ext_of (CG.out _)))))); refine wpQuiet_nil ?_; intro _ hw'; obtain ⟨⟨dq, osq⟩, hw''⟩ := hw'; subst hw''
        (go_wp2; go_ret; exact ⟨ret_bool (all_no hkl HNO.out).symm, ext_grow (hE.alloc _) _ _⟩)
      have t4 : decide (4611686018427387903 < n) = false := decide_eq_false h4
      by_cases h5 : g = 1
      · have HYES : Hid ((l.getD k frac0).ok) := by rw [HA.out]; exact (Frac.ok_iff _).2 ⟨h1, h2, h3, h4, HGO.out.trans h5⟩
        have t5 : ((g : Int) != 1) = false := by simp; omega
        have t6 : ((g : Int) == 1) = true := by simp; omega
        clear h1 h2 h3 h4 h5
        go_wp2
        refine wp_region_quiet_below (by kernel_rfl) (by kernel_rfl) ?_; (repeat (go_big_quiet_step ((first | (go_at_call 53; with_reducible exact Calls.ext_of (CN.out _)) | (go_at_call 53; with_reducible exact Calls.ext_of (CD.out _)) | (go_at_call 54; with_reducible exact Calls.ext_of (CG.out _)))))); refine wpQuiet_nil ?_; intro _ hw'; obtain ⟨⟨dq, osq⟩, hw''⟩ := hw'; subst hw''
        go_wp2
        go_roundw
        case rel => exact ⟨ext_grow (hE.alloc _) _ _, k + 1, by omega, by go_num, fun j hj => by
          rcases Nat.lt_or_ge j k with h | h
          · exact hd.out j h
          · obtain rfl : j = k := by omega
            exact HYES.out⟩
        case measure => simp [intOf]; omega
      · have HNO : Hid (¬ (l.getD k frac0).ok) := by rw [HA.out]; intro h; exact h5 (HGO.out.symm.trans ((Frac.ok_iff _).1 h).2.2.2.2)
        have t5 : ((g : Int) != 1) = true := by simp; omega
        have t6 : ((g : Int) == 1) = false := by simp; omega
        clear h1 h2 h3 h4 h5
        go_wp2
        refine wp_region_quiet_below (by kernel_rfl) (by kernel_rfl) ?_; (repeat (go_big_quiet_step ((first | (go_at_call 53; with_reducible exact Calls.ext_of (CN.out _)) | (go_at_call 53; with_reducible exact Calls.ext_of (CD.out _)) | (go_at_call 54; with_reducible exact Calls.ext_of (CG.out _)))))); refine wpQuiet_nil ?_; intro _ hw'; obtain ⟨⟨dq, osq⟩, hw''⟩ := hw'; subst hw''
        (go_wp2; go_ret; exact ⟨ret_bool (all_no hkl HNO.out).symm, ext_grow (hE.alloc _) _ _⟩)
    · have HD := Lib.hid (all_yes (l := l) fun j hj => hd.out j (by omega))
      go_wp2
      go_ret
      exact ⟨ret_bool HD.out.symm, hE⟩
end Go.Proofs.YtodoimeiklilhaaDoor
