/- Joined from the parts Floor, Ceil, Text. -/
import Derived.Test.YtodoimeiklilhaaDoorGOps
import Derived.Test.YtodoimeiklilhaaDoorShelfText
import Derived.Lib.SmallJoins
import Derived.Lib.ItoaLen
set_option linter.unusedVariables false
set_option linter.unusedSimpArgs false
/- The walk of layer 1's Floor. -/
namespace Go.Proofs.YtodoimeiklilhaaDoor
open Go.RowKit Go.Sort

/-- the greatest whole number that is at most q -/
def floorR (a : Frac) : Int × Int := if a.ok then (a.val.floor, 0) else (0, 8)
theorem tdiv_floor (n d : Int) (hd : 0 < d) : (if n < n.tdiv d * d then n.tdiv d - 1 else n.tdiv d) = n / d := by
  have h1 := Int.mul_tdiv_add_tmod n d
  have h2 := Int.mul_ediv_add_emod n d
  have h3 := Int.emod_nonneg n (Int.ne_of_gt hd)
  have h4 := Int.emod_lt_of_pos n hd
  rcases Int.lt_or_le n 0 with hn | hn
  · have h5 : n.tmod d ≤ 0 := by
      have := Int.tmod_nonneg d (a := -n) (by omega)
      rw [Int.neg_tmod] at this
      omega
    have h6 : -d < n.tmod d := by
      have := Int.tmod_lt_of_pos (-n) hd
      rw [Int.neg_tmod] at this
      omega
    rw [Int.mul_comm] at h1 h2
    generalize n.tdiv d = q at *
    generalize n / d = e at *
    have e1 : (q - e) * d = n % d - n.tmod d := by rw [Int.sub_mul]; omega
    split
    · rename_i hlt
      have e2 : q - e = 1 := by
        have a1 : 0 < (q - e) * d := by omega
        have a2 : (q - e) * d < 2 * d := by omega
        have a3 : 0 < q - e := by
          rcases Int.lt_or_le 0 (q - e) with h | h
          · exact h
          · have := Int.mul_nonpos_of_nonpos_of_nonneg h (Int.le_of_lt hd); omega
        have a4 : q - e < 2 := Int.lt_of_mul_lt_mul_right a2 (Int.le_of_lt hd)
        omega
      omega
    · rename_i hlt
      have e2 : (q - e) * d < 1 * d := by omega
      have a4 : q - e < 1 := Int.lt_of_mul_lt_mul_right e2 (Int.le_of_lt hd)
      have a5 : -1 * d < (q - e) * d := by omega
      have a6 : -1 < q - e := Int.lt_of_mul_lt_mul_right a5 (Int.le_of_lt hd)
      omega
  · rw [Int.tdiv_eq_ediv_of_nonneg hn]
    rw [if_neg]
    have := Int.ediv_mul_le n (Int.ne_of_gt hd)
    omega
theorem tdiv_small {q : Rat} (h : Fits q) : -4611686018427387903 ≤ (nm q).tdiv (dn q) ∧ (nm q).tdiv (dn q) ≤ 4611686018427387903 ∧ -4611686018427387903 ≤ (nm q).tdiv (dn q) * dn q ∧ (nm q).tdiv (dn q) * dn q ≤ 4611686018427387903 := by
  have hd : 0 < dn q := by have := q.den_pos; unfold dn; omega
  have hn : -4611686018427387903 ≤ nm q ∧ nm q ≤ 4611686018427387903 := by unfold Fits maxP at h; unfold nm; omega
  have h1 := Int.mul_tdiv_add_tmod (nm q) (dn q)
  have a1 : ((nm q).tdiv (dn q)).natAbs ≤ (nm q).natAbs := by
    rw [Int.natAbs_tdiv]; exact Nat.div_le_self _ _
  have a2 : ((nm q).tdiv (dn q) * dn q).natAbs ≤ (nm q).natAbs := by
    rw [Int.natAbs_mul, Int.natAbs_tdiv]; exact Nat.div_mul_le_self _ _
  omega
set_option maxHeartbeats 2000000 in
theorem c_Floor (a : Frac) (ha : a.wide) (w : World) :
    Calls Tryd.prog 29 #[fracV a] w fun e w' => e = .returned (.tuple #[.int .i64 (floorR a).1, .int .i64 (floorR a).2]) ∧ Ext w w' := by
  obtain ⟨r, hr⟩ : ∃ r, floorR a = r := ⟨_, rfl⟩
  rw [hr]
  by_cases hn : a.ok
  · obtain ⟨p, hp, rfl⟩ := Frac.of_ok hn
    have hd : decide ((fracOf p).ok) = true := decide_eq_true hn
    have d0 : 0 < dn p := by have := p.den_pos; unfold dn; omega
    have HR := Lib.hid (show ((if nm p < (nm p).tdiv (dn p) * dn p then (nm p).tdiv (dn p) - 1 else (nm p).tdiv (dn p)), (0 : Int)) = r by
      rw [← hr, tdiv_floor _ _ d0]; unfold floorR; rw [if_pos hn, fracOf_val, Rat.floor_def]; rfl)
    obtain ⟨b1, b2, b3, b4⟩ := tdiv_small hp
    have q1 : wrap64 ((nm p).tdiv (dn p)) = (nm p).tdiv (dn p) := IntWalk.wrap64_in _ (by omega)
    have q2 : wrap64 ((nm p).tdiv (dn p) * dn p) = (nm p).tdiv (dn p) * dn p := IntWalk.wrap64_in _ (by omega)
    have q3 : wrap64 ((nm p).tdiv (dn p) - 1) = (nm p).tdiv (dn p) - 1 := IntWalk.wrap64_in _ (by omega)
    have t1 : (dn p == 0) = false := by simp; omega
    have t2 : ¬ dn p = 0 := by omega
    clear hr hn b1 b2 b3 b4
    show Calls Tryd.prog 29 #[ratV p] w _
    go_enter Tryd.func29, Tryd.ntmps29
    go_wp2_with (go_at_call 48; refine (c_valid1 (fracOf p) (wide_of hp) _ _ (by exact blk_at _ _ (by simp))).mono ?_; rintro e w' ⟨rfl, hb⟩; have hc := hb.cell; have hz := hb.size; (try simp at hz); have z0 : w.heap.size < w'.heap.size := (by omega))
    all_goals go_ret2
    all_goals refine ⟨?_, (by repeat (first | exact Ext.refl _ | assumption | refine Ext.alloc ?_ _ | refine Ext.drewN ?_ _ | refine ext_grow ?_ _ _ | refine Ext.setCell ?_ (by first | exact Nat.le_refl _ | omega | (simp; done) | (simp; omega)) _ | refine Ext.trans ?_ (by assumption)))⟩
    all_goals rw [← HR.out]
    · rw [if_pos (by assumption)]; first | done | rfl | (show Ending.returned (.tuple #[.int .i64 (wrap64 ((nm p).tdiv (dn p) - 1)), .int .i64 0]) = _; rw [q3])
    · rw [if_neg (by omega)]; first | done | rfl | (show Ending.returned (.tuple #[.int .i64 (wrap64 ((nm p).tdiv (dn p))), .int .i64 0]) = _; rw [q1])
  · have hd : decide a.ok = false := decide_eq_false hn
    have HR := Lib.hid (show ((0 : Int), (8 : Int)) = r by rw [← hr]; unfold floorR; rw [if_neg hn])
    clear hr hn
    go_enter Tryd.func29, Tryd.ntmps29
    go_wp2_with (go_at_call 48; refine (c_valid1 a ha _ _ (by exact blk_at _ _ (by simp))).mono ?_; rintro e w' ⟨rfl, hb⟩)
    go_ret2
    exact ⟨(by rw [← HR.out]; first | done | rfl), (by repeat (first | exact Ext.refl _ | assumption | refine Ext.alloc ?_ _ | refine Ext.drewN ?_ _ | refine ext_grow ?_ _ _ | refine Ext.setCell ?_ (by first | exact Nat.le_refl _ | omega | (simp; done) | (simp; omega)) _ | refine Ext.trans ?_ (by assumption)))⟩
end Go.Proofs.YtodoimeiklilhaaDoor

/- The walk of layer 1's Ceil. -/
namespace Go.Proofs.YtodoimeiklilhaaDoor
open Go.RowKit Go.Sort

set_option maxHeartbeats 1000000 in
theorem c_minus_any (a : Frac) (w : World) :
    Calls Tryd.prog 62 #[fracV a] w fun e w' => e = .returned (fracV ⟨wrap64 (-a.num), a.den⟩) ∧ Ext w w' := by
  go_enter Tryd.func62, Tryd.ntmps62
  go_wp2
  refine bp_ret rfl ?_
  apply Exists.intro
  apply And.intro
  · simp [results, Tryd.results62, go_sem]; rfl
  exact ⟨rfl, (by repeat (first | exact Ext.refl _ | assumption | refine Ext.alloc ?_ _ | refine Ext.drewN ?_ _ | refine ext_grow ?_ _ _ | refine Ext.setCell ?_ (by first | exact Nat.le_refl _ | omega | (simp; done) | (simp; omega)) _ | refine Ext.trans ?_ (by assumption)))⟩
/-- the least whole number that is at least q -/
def ceilR (a : Frac) : Int × Int := if a.ok then (a.val.ceil, 0) else (0, 8)
theorem floor_small {q : Rat} (h : Fits q) : -4611686018427387903 ≤ q.floor ∧ q.floor ≤ 4611686018427387903 := by
  rw [Rat.floor_def]
  unfold Fits maxP at h
  have hd := q.den_pos
  have h1 := Int.mul_ediv_add_emod q.num q.den
  have h2 := Int.emod_nonneg q.num (b := (q.den : Int)) (by omega)
  have h3 := Int.emod_lt_of_pos q.num (b := (q.den : Int)) (by omega)
  constructor
  · exact (Int.le_ediv_iff_mul_le (by omega)).2 (by
      have : -4611686018427387903 * (q.den : Int) ≤ -4611686018427387903 * 1 := Int.mul_le_mul_of_nonpos_left (by omega) (by omega)
      omega)
  · exact Int.le_of_lt_add_one (Int.ediv_lt_of_lt_mul (by omega) (by
      have : (4611686018427387903 + 1) * 1 ≤ (4611686018427387903 + 1) * (q.den : Int) := Int.mul_le_mul_of_nonneg_left (by omega) (by omega)
      omega))
theorem minus_ok {a : Frac} (ha : a.wide) : Frac.ok ⟨wrap64 (-a.num), a.den⟩ ↔ a.ok := by
  obtain ⟨n, d⟩ := a
  have hn : InI64 n := ha.1
  unfold Frac.ok
  unfold InI64 at hn
  by_cases h : n = -9223372036854775808
  · subst h
    have : wrap64 (- -9223372036854775808) = -9223372036854775808 := by decide +kernel
    simp only [this]
  · rw [IntWalk.wrap64_in _ (show InI64 (-n) by unfold InI64; omega)]
    simp only [Int.natAbs_neg]
    unfold maxP
    omega
set_option maxHeartbeats 2000000 in
theorem c_Ceil (a : Frac) (ha : a.wide) (w : World) :
    Calls Tryd.prog 28 #[fracV a] w fun e w' => e = .returned (.tuple #[.int .i64 (ceilR a).1, .int .i64 (ceilR a).2]) ∧ Ext w w' := by
  obtain ⟨r, hr⟩ : ∃ r, ceilR a = r := ⟨_, rfl⟩
  rw [hr]
  obtain ⟨b, hb⟩ : ∃ b, Frac.mk (wrap64 (-a.num)) a.den = b := ⟨_, rfl⟩
  have hbw : b.wide := by rw [← hb]; exact ⟨by show InI64 (wrap64 _); unfold wrap64 InI64; omega, ha.2⟩
  obtain ⟨s, hs⟩ : ∃ s, floorR b = s := ⟨_, rfl⟩
  have key : (wrap64 (-s.1), s.2) = r := by
    rw [← hs, ← hr]
    unfold floorR ceilR
    have hk := minus_ok ha
    rw [hb] at hk
    by_cases h : a.ok
    · rw [if_pos h, if_pos (hk.2 h)]
      obtain ⟨q, hq, rfl⟩ := Frac.of_ok h
      have e : b = fracOf (-q) := by
        rw [← hb]
        show Frac.mk (wrap64 (-nm q)) (dn q) = _
        rw [wrap_nm hq]; rfl
      rw [e, fracOf_val, fracOf_val]
      have := floor_small (fits_neg hq)
      rw [IntWalk.wrap64_in _ (by omega), ← Rat.ceil_eq_neg_floor_neg]
    · rw [if_neg h, if_neg (fun k => h (hk.1 k))]
      show (wrap64 0, (8 : Int)) = (0, 8)
      rw [IntWalk.wrap64_in 0 (by decide)]
  have CM := Lib.hid (fun w => (hb ▸ c_minus_any a w : Calls Tryd.prog 62 #[fracV a] w fun e w' => e = .returned (fracV b) ∧ Ext w w'))
  have CF := Lib.hid (fun w => (hs ▸ c_Floor b hbw w : Calls Tryd.prog 29 #[fracV b] w fun e w' => e = .returned (.tuple #[.int .i64 s.1, .int .i64 s.2]) ∧ Ext w w'))
  have HR := Lib.hid key
  clear hr hb hs key
  go_enter Tryd.func28, Tryd.ntmps28
  go_wp2_with (first | (go_at_call 62; refine (CM.out _).mono ?_; rintro e w' ⟨rfl, hb⟩; have hc := hb.cell; have hz := hb.size; (try simp at hz); have z0 : w.heap.size < w'.heap.size := (by omega)) | (go_at_call 29; refine (CF.out _).mono ?_; rintro e w' ⟨rfl, hb2⟩))
  go_ret2
  exact ⟨(by rw [← HR.out]; first | done | rfl), (by repeat (first | exact Ext.refl _ | assumption | refine Ext.alloc ?_ _ | refine Ext.drewN ?_ _ | refine ext_grow ?_ _ _ | refine Ext.setCell ?_ (by first | exact Nat.le_refl _ | omega | (simp; done) | (simp; omega)) _ | refine Ext.trans ?_ (by assumption)))⟩
end Go.Proofs.YtodoimeiklilhaaDoor

/- The walk of layer 1's Text. -/
namespace Go.Proofs.YtodoimeiklilhaaDoor
open Go.RowKit Go.Sort

theorem grow_ext (w : World) (k : Nat) (os : Array Obj) : Ext w (grow (w.drewN k) os) :=
  ⟨rfl, rfl, rfl, by show _ ≤ (w.heap ++ os).size; rw [Array.size_append]; omega, fun b hb => by show (w.heap ++ os)[b]? = _; rw [Array.getElem?_append_left hb]⟩
/-- the table of the powers of ten lies where the program left it -/
abbrev Pow (w : World) : Prop := Lib.TabIs Tryd.prog w "internal/strconv.uint64pow10" .u64 Lib.pow10Tab
theorem Pow.ext {w w' : World} (h : Pow w) (hE : Ext w w') : Pow w' := by
  obtain ⟨g, hg⟩ : ∃ g, Tryd.prog.globalNamed "internal/strconv.uint64pow10" = some g := Option.isSome_iff_exists.1 (by kernel_rfl)
  exact Joins.tab_stays (w := w) (w' := w') hg h hE (Nat.le_refl _)
theorem c_itoa (n : Int) (h : InI64 n) (w : World) (hp : Pow w) :
    Calls Tryd.prog 49 #[.int .i64 n] w fun e w' => e = .returned (.string ⟨(Lib.itoa n).toArray⟩) ∧ Ext w w' := by
  refine (Tryd.strconv_Itoa n h.1 h.2 w hp).mono ?_
  rintro e w' ⟨rfl, k, os, rfl⟩
  exact ⟨rfl, grow_ext _ _ _⟩
/-- the text of a fraction -/
def numText (n : Int) : ByteArray := ⟨(Lib.itoa n).toArray⟩
def ratText (p : Rat) : ByteArray := if 1 < dn p then numText (nm p) ++ (⟨#[47]⟩ ++ numText (dn p)) else numText (nm p)
def textR (a : Frac) : ByteArray × Int := if a.ok then (ratText a.val, 0) else (⟨#[]⟩, 8)
set_option maxRecDepth 100000 in
set_option maxHeartbeats 2000000 in
theorem c_Text (a : Frac) (ha : a.wide) (w : World) (hP : Pow w) :
    Calls Tryd.prog 17 #[fracV a] w fun e w' => e = .returned (.tuple #[.string (textR a).1, .int .i64 (textR a).2]) ∧ Ext w w' := by
  obtain ⟨r, hr⟩ : ∃ r, textR a = r := ⟨_, rfl⟩
  rw [hr]
  by_cases hn : a.ok
  · obtain ⟨p, hp, rfl⟩ := Frac.of_ok hn
    have hd : decide ((fracOf p).ok) = true := decide_eq_true hn
    have HR := Lib.hid (show (ratText p, (0 : Int)) = r by rw [← hr]; unfold textR; rw [if_pos hn, fracOf_val])
    have CA := Lib.hid (fun w h => c_itoa (nm p) (fits_i64 hp).1 w h)
    have CB := Lib.hid (fun w h => c_itoa (dn p) (fits_i64 hp).2 w h)
    have l1 := Lib.itoa_length_le (nm p) (fits_i64 hp).1.1 (fits_i64 hp).1.2
    have l2 := Lib.itoa_length_le (dn p) (fits_i64 hp).2.1 (fits_i64 hp).2.2
    clear hr hn
    by_cases h1 : 1 < dn p
    · have t1 : decide (1 < dn p) = true := decide_eq_true h1
      have H1 := Lib.hid h1
      clear h1
      show Calls Tryd.prog 17 #[ratV p] w _
      go_enter Tryd.func17, Tryd.ntmps17
      have PW := Lib.hid hP
      clear hP
      go_wp2_with (first | (go_at_call 48; refine (c_valid1 (fracOf p) (wide_of hp) _ _ (by exact blk_at _ _ (by simp))).mono ?_; rintro e w' ⟨rfl, hb⟩; have hc := hb.cell; have hz := hb.size; (try simp at hz); have z0 : w.heap.size < w'.heap.size := (by omega); have hE1 : Ext w w' := ((by repeat (first | exact Ext.refl _ | assumption | refine Ext.alloc ?_ _ | refine Ext.drewN ?_ _ | refine ext_grow ?_ _ _ | refine Ext.setCell ?_ (by first | exact Nat.le_refl _ | omega | (simp; done) | (simp; omega)) _ | refine Ext.trans ?_ (by assumption)))); have PW1 := Lib.hid (PW.out.ext hE1)) | (go_at_call 49; with_reducible refine (CA.out _ PW1.out).mono ?_; rintro e w' ⟨rfl, hb2⟩; have hc2 := hb2.cell; have hz2 := hb2.size; have z1 : w.heap.size < w'.heap.size := (by omega); have PW2 := Lib.hid (PW1.out.ext hb2)) | (go_at_call 49; with_reducible refine (CB.out _ PW2.out).mono ?_; rintro e w' ⟨rfl, hb3⟩; have hc3 := hb3.cell; have hz3 := hb3.size; have z2 : w.heap.size < w'.heap.size := (by omega)))
      all_goals first | (exfalso; omega) | skip
      go_ret2
      exact ⟨(by rw [← HR.out]; unfold ratText; rw [if_pos H1.out]; first | done | rfl), (by repeat (first | exact Ext.refl _ | assumption | refine Ext.alloc ?_ _ | refine Ext.drewN ?_ _ | refine ext_grow ?_ _ _ | refine Ext.setCell ?_ (by first | exact Nat.le_refl _ | omega | (simp; done) | (simp; omega)) _ | refine Ext.trans ?_ (by assumption)))⟩
    · have t1 : decide (1 < dn p) = false := decide_eq_false h1
      have H1 := Lib.hid h1
      clear h1
      show Calls Tryd.prog 17 #[ratV p] w _
      go_enter Tryd.func17, Tryd.ntmps17
      have PW := Lib.hid hP
      clear hP
      go_wp2_with (first | (go_at_call 48; refine (c_valid1 (fracOf p) (wide_of hp) _ _ (by exact blk_at _ _ (by simp))).mono ?_; rintro e w' ⟨rfl, hb⟩; have hc := hb.cell; have hz := hb.size; (try simp at hz); have z0 : w.heap.size < w'.heap.size := (by omega); have hE1 : Ext w w' := ((by repeat (first | exact Ext.refl _ | assumption | refine Ext.alloc ?_ _ | refine Ext.drewN ?_ _ | refine ext_grow ?_ _ _ | refine Ext.setCell ?_ (by first | exact Nat.le_refl _ | omega | (simp; done) | (simp; omega)) _ | refine Ext.trans ?_ (by assumption)))); have PW1 := Lib.hid (PW.out.ext hE1)) | (go_at_call 49; with_reducible refine (CA.out _ PW1.out).mono ?_; rintro e w' ⟨rfl, hb2⟩; have hc2 := hb2.cell; have hz2 := hb2.size; have z1 : w.heap.size < w'.heap.size := (by omega); have PW2 := Lib.hid (PW1.out.ext hb2)))
      go_ret2
      exact ⟨(by rw [← HR.out]; unfold ratText; rw [if_neg (by have := H1.out; omega)]; first | done | rfl), (by repeat (first | exact Ext.refl _ | assumption | refine Ext.alloc ?_ _ | refine Ext.drewN ?_ _ | refine ext_grow ?_ _ _ | refine Ext.setCell ?_ (by first | exact Nat.le_refl _ | omega | (simp; done) | (simp; omega)) _ | refine Ext.trans ?_ (by assumption)))⟩
  · have hd : decide a.ok = false := decide_eq_false hn
    have HR := Lib.hid (show ((⟨#[]⟩ : ByteArray), (8 : Int)) = r by rw [← hr]; unfold textR; rw [if_neg hn])
    clear hr hn
    go_enter Tryd.func17, Tryd.ntmps17
    go_wp2_with (go_at_call 48; refine (c_valid1 a ha _ _ (by exact blk_at _ _ (by simp))).mono ?_; rintro e w' ⟨rfl, hb⟩)
    go_ret2
    exact ⟨(by rw [← HR.out]; first | done | rfl), (by repeat (first | exact Ext.refl _ | assumption | refine Ext.alloc ?_ _ | refine Ext.drewN ?_ _ | refine ext_grow ?_ _ _ | refine Ext.setCell ?_ (by first | exact Nat.le_refl _ | omega | (simp; done) | (simp; omega)) _ | refine Ext.trans ?_ (by assumption)))⟩
end Go.Proofs.YtodoimeiklilhaaDoor
