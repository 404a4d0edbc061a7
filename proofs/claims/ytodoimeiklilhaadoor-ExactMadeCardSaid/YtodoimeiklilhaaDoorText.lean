/- The walk of layer 1's Text. -/
import Derived.Test.YtodoimeiklilhaaDoorOps2
import Derived.Test.YtodoimeiklilhaaDoorShelfText
import Derived.Lib.SmallJoins
import Derived.Lib.ItoaLen
set_option linter.unusedVariables false
set_option linter.unusedSimpArgs false
namespace Go.Proofs.YtodoimeiklilhaaDoor
open Go.RowKit Go.Sort

theorem grow_ext (w : World) (k : Nat) (os : Array Obj) : Ext w (grow (w.drewN k) os) :=
  ⟨rfl, rfl, rfl, by show _ ≤ (w.heap ++ os).size; rw [Array.size_append]; omega, fun b hb => by show (w.heap ++ os)[b]? = _; rw [Array.getElem?_append_left hb]⟩
/-- the table of the powers of ten lies where the program left it -/
abbrev Pow (w : World) : Prop := Lib.TabIs Tryd.prog w "internal/strconv.uint64pow10" .u64 Lib.pow10Tab
theorem Pow.ext {w w' : World} (h : Pow w) (hE : Ext w w') : Pow w' := by
  obtain ⟨g, hg⟩ : ∃ g, Tryd.prog.globalNamed "internal/strconv.uint64pow10" = some g := Option.isSome_iff_exists.1 (by kernel_rfl)
  exact Joins.tab_stays (w := w) (w' := w') hg h hE (Nat.le_refl _)
theorem c_itoa (n : Int) (h : InI64 n) (w : World) (hp : Pow w) :
    Calls Tryd.prog 49 #[.int .i64 n] w fun e w' => e = .returned (.string ⟨(Lib.itoa n).toArray⟩) ∧ Ext w w' := by
  refine (Tryd.strconv_Itoa n h.1 h.2 w hp).mono ?_
  rintro e w' ⟨rfl, k, os, rfl⟩
  exact ⟨rfl, grow_ext _ _ _⟩
/-- the text of a fraction -/
def numText (n : Int) : ByteArray := ⟨(Lib.itoa n).toArray⟩
def ratText (p : Rat) : ByteArray := if 1 < dn p then numText (nm p) ++ (⟨#[47]⟩ ++ numText (dn p)) else numText (nm p)
def textR (a : Frac) : ByteArray × Int := if a.ok then (ratText a.val, 0) else (⟨#[]⟩, 8)
set_option maxRecDepth 100000 in
set_option maxHeartbeats 2000000 in
theorem c_Text (a : Frac) (ha : a.wide) (w : World) (hP : Pow w) :
    Calls Tryd.prog 17 #[fracV a] w fun e w' => e = .returned (.tuple #[.string (textR a).1, .int .i64 (textR a).2]) ∧ Ext w w' := by
  obtain ⟨r, hr⟩ : ∃ r, textR a = r := ⟨_, rfl⟩
  rw [hr]
  by_cases hn : a.ok
  · obtain ⟨p, hp, rfl⟩ := Frac.of_ok hn
    have hd : decide ((fracOf p).ok) = true := decide_eq_true hn
    have HR := Lib.hid (show (ratText p, (0 : Int)) = r by rw [← hr]; unfold textR; rw [if_pos hn, fracOf_val])
    have CA := Lib.hid (fun w h => c_itoa (nm p) (fits_i64 hp).1 w h)
    have CB := Lib.hid (fun w h => c_itoa (dn p) (fits_i64 hp).2 w h)
    have l1 := Lib.itoa_length_le (nm p) (fits_i64 hp).1.1 (fits_i64 hp).1.2
    have l2 := Lib.itoa_length_le (dn p) (fits_i64 hp).2.1 (fits_i64 hp).2.2
    clear hr hn
    by_cases h1 : 1 < dn p
    · have t1 : decide (1 < dn p) = true := decide_eq_true h1
      have H1 := Lib.hid h1
      clear h1
      show Calls Tryd.prog 17 #[ratV p] w _
      go_enter Tryd.func17, Tryd.ntmps17
      have PW := Lib.hid hP
      clear hP
      go_wp2_with (first | (go_at_call 48; refine (c_valid1 (fracOf p) (wide_of hp) _ _ (by exact blk_at _ _ (by simp))).mono ?_; rintro e w' ⟨rfl, hb⟩; have hc := hb.cell; have hz := hb.size; (try simp at hz); have z0 : w.heap.size < w'.heap.size := (by omega); have hE1 : Ext w w' := ((by repeat (first | exact Ext.refl _ | assumption | refine Ext.alloc ?_ _ | refine Ext.drewN ?_ _ | refine ext_grow ?_ _ _ | refine Ext.setCell ?_ (by first | exact Nat.le_refl _ | omega | (simp; done) | (simp; omega)) _ | refine Ext.trans ?_ (by assumption)))); have PW1 := Lib.hid (PW.out.ext hE1)) | (go_at_call 49; with_reducible refine (CA.out _ PW1.out).mono ?_; rintro e w' ⟨rfl, hb2⟩; have hc2 := hb2.cell; have hz2 := hb2.size; have z1 : w.heap.size < w'.heap.size := (by omega); have PW2 := Lib.hid (PW1.out.ext hb2)) | (go_at_call 49; with_reducible refine (CB.out _ PW2.out).mono ?_; rintro e w' ⟨rfl, hb3⟩; have hc3 := hb3.cell; have hz3 := hb3.size; have z2 : w.heap.size < w'.heap.size := (by omega)))
      all_goals first | (exfalso; omega) | skip
      go_ret2
      exact ⟨(by rw [← HR.out]; unfold ratText; rw [if_pos H1.out]; first | done | rfl), (by repeat (first | exact Ext.refl _ | assumption | refine Ext.alloc ?_ _ | refine Ext.drewN ?_ _ | refine ext_grow ?_ _ _ | refine Ext.setCell ?_ (by first | exact Nat.le_refl _ | omega | (simp; done) | (simp; omega)) _ | refine Ext.trans ?_ (by assumption)))⟩
    · have t1 : decide (1 < dn p) = false := decide_eq_false h1
      have H1 := Lib.hid h1
      clear h1
      show Calls Tryd.prog 17 #[ratV p] w _
      go_enter Tryd.func17, Tryd.ntmps17
      have PW := Lib.hid hP
      clear hP
      go_wp2_with (first | (go_at_call 48; refine (c_valid1 (fracOf p) (wide_of hp) _ _ (by exact blk_at _ _ (by simp))).mono ?_; rintro e w' ⟨rfl, hb⟩; have hc := hb.cell; have hz := hb.size; (try simp at hz); have z0 : w.heap.size < w'.heap.size := (by omega); have hE1 : Ext w w' := ((by repeat (first | exact Ext.refl _ | assumption | refine Ext.alloc ?_ _ | refine Ext.drewN ?_ _ | refine ext_grow ?_ _ _ | refine Ext.setCell ?_ (by first | exact Nat.le_refl _ | omega | (simp; done) | (simp; omega)) _ | refine Ext.trans ?_ (by assumption)))); have PW1 := Lib.hid (PW.out.ext hE1)) | (go_at_call 49; with_reducible refine (CA.out _ PW1.out).mono ?_; rintro e w' ⟨rfl, hb2⟩; have hc2 := hb2.cell; have hz2 := hb2.size; have z1 : w.heap.size < w'.heap.size := (by omega); have PW2 := Lib.hid (PW1.out.ext hb2)))
      go_ret2
      exact ⟨(by rw [← HR.out]; unfold ratText; rw [if_neg (by have := H1.out; omega)]; first | done | rfl), (by repeat (first | exact Ext.refl _ | assumption | refine Ext.alloc ?_ _ | refine Ext.drewN ?_ _ | refine ext_grow ?_ _ _ | refine Ext.setCell ?_ (by first | exact Nat.le_refl _ | omega | (simp; done) | (simp; omega)) _ | refine Ext.trans ?_ (by assumption)))⟩
  · have hd : decide a.ok = false := decide_eq_false hn
    have HR := Lib.hid (show ((⟨#[]⟩ : ByteArray), (8 : Int)) = r by rw [← hr]; unfold textR; rw [if_neg hn])
    clear hr hn
    go_enter Tryd.func17, Tryd.ntmps17
    go_wp2_with (go_at_call 48; refine (c_valid1 a ha _ _ (by exact blk_at _ _ (by simp))).mono ?_; rintro e w' ⟨rfl, hb⟩)
    go_ret2
    exact ⟨(by rw [← HR.out]; first | done | rfl), (by repeat (first | exact Ext.refl _ | assumption | refine Ext.alloc ?_ _ | refine Ext.drewN ?_ _ | refine ext_grow ?_ _ _ | refine Ext.setCell ?_ (by first | exact Nat.le_refl _ | omega | (simp; done) | (simp; omega)) _ | refine Ext.trans ?_ (by assumption)))⟩
end Go.Proofs.YtodoimeiklilhaaDoor
