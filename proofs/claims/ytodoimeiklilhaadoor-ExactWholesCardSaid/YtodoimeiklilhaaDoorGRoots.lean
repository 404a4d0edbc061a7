/- Joined from the parts RootFn, Root, RootAll. -/
import Derived.Test.YtodoimeiklilhaaDoorGSpanOps
import Derived.Test.YtodoimeiklilhaaDoorGRegions
import Derived.Test.YtodoimeiklilhaaDoorGGround
import Derived.Test.YtodoimeiklilhaaDoorGSums
import Derived.Test.YtodoimeiklilhaaDoorShelfLen
import Derived.Laws.BitsAllLaws
set_option linter.unusedVariables false
set_option linter.unusedSimpArgs false
/- The walk of the function inside layer 1's Root. -/
namespace Go.Proofs.YtodoimeiklilhaaDoor
open Go.RowKit Go.Sort

set_option maxHeartbeats 1000000 in
theorem c_reaches (t q b : Nat) (ht : W64 t) (w : World) (h0 : w.cell? ⟨b, 0, none⟩ = some (.int .u64 (hiW q : Int))) (h1 : w.cell? ⟨b, 1, none⟩ = some (.int .u64 (loW q : Int))) :
    Calls Tryd.prog 71 #[.int .u64 (t : Int), .pointer (some ⟨b, 0, none⟩)] w fun e w' => e = .returned (.bool (decide (t * t ≤ q))) ∧ Ext w w' := by
  have CP := Lib.hid (fun w => c_product t t ht ht w)
  have CL := Lib.hid (fun w => c_less q (t * t) w)
  have z := World.block_lt_of_cell? _ _ h0
  simp only at z
  go_enter Tryd.func71, Tryd.ntmps71
  go_wp2
  refine wp_region_quiet_below (by kernel_rfl) (by kernel_rfl) ?_
  repeat (go_big_quiet_step ((first | (go_at_call 69; with_reducible exact Calls.ext_of (CP.out _)) | (go_at_call 72; with_reducible exact Calls.ext_of (CL.out _)))))
  refine wpQuiet_nil ?_
  intro _ hw'
  obtain ⟨⟨dq, osq⟩, hw''⟩ := hw'
  subst hw''
  go_wp2
  go_ret
  refine ⟨ret_bool ?_, (by repeat (first | exact Ext.refl _ | assumption | refine Ext.alloc ?_ _ | refine Ext.drewN ?_ _ | refine ext_grow ?_ _ _ | refine Ext.setCell ?_ (by first | exact Nat.le_refl _ | omega | (simp; done) | (simp; omega)) _ | refine Ext.trans ?_ (by assumption)))⟩
  rw [Bool.eq_iff_iff]
  simp
end Go.Proofs.YtodoimeiklilhaaDoor

/- The walk of layer 1's Root. -/
namespace Go.Proofs.YtodoimeiklilhaaDoor
open Go.RowKit Go.Sort

theorem len47 : Lib.bitLen (70368744177664 : Int).toNat = 47 := by decide +kernel
theorem w48 {x : Nat} (h : x ≤ 281474976710655) : W64 x := Nat.lt_of_le_of_lt h (by decide)
theorem i48 {x : Nat} (h : x ≤ 281474976710656) : InI64 (x : Int) := by unfold InI64; omega
theorem make_call {s c : Nat} {lo : Rat} (h : makeR (s : Int) (c : Int) = (fracOf lo, 0)) (hs : InI64 (s : Int)) (hc : InI64 (c : Int)) (w : World) :
    Calls Tryd.prog 20 #[.int .i64 (s : Int), .int .i64 (c : Int)] w fun e w' => e = .returned (.tuple #[ratV lo, .int .i64 0]) ∧ Ext w w' := by
  have := c_Make (s : Int) (c : Int) hs hc w
  rw [h] at this
  exact this
theorem or_rule {k x : Nat} (h : 2 ^ (k + 1) ∣ x) (hb : x + 2 ^ k < 18446744073709551616) : bits BinOp.or IntKind.u64 (x : Int) (IntKind.u64.wrap (2 ^ k)) = ((x + 2 ^ k : Nat) : Int) := by
  have e : ((2 : Int) ^ k) = ((2 ^ k : Nat) : Int) := by simp
  rw [e, w64_in (show W64 (2 ^ k) by unfold W64; omega), u64_or_nat _ _ (by omega) (by omega), or_bit h]
theorem make_small {s c : Nat} (hs : s ≤ 281474976710656) (h1 : 1 ≤ c) (h2 : c ≤ 32768) : makeR (s : Int) (c : Int) = (fracOf (Rat.divInt (s : Int) (c : Int)), 0) ∧ Fits (Rat.divInt (s : Int) (c : Int)) := by
  have hf : Fits (Rat.divInt (s : Int) (c : Int)) := by
    unfold Fits maxP
    rw [Rat.num_divInt, Rat.den_divInt, if_neg (by omega), Int.sign_eq_one_of_pos (by omega)]
    have a1 : (c : Int).natAbs / (c : Int).gcd (s : Int) ≤ c := Nat.div_le_self _ _
    have a2 : (1 * (s : Int)) / (((c : Int).gcd (s : Int) : Nat) : Int) = ((s / (c : Int).gcd (s : Int) : Nat) : Int) := by rw [Int.one_mul]; rfl
    rw [a2]
    have a3 : s / (c : Int).gcd (s : Int) ≤ s := Nat.div_le_self _ _
    generalize s / (c : Int).gcd (s : Int) = A at *
    generalize (c : Int).natAbs / (c : Int).gcd (s : Int) = B at *
    omega
  unfold makeR
  rw [if_neg (by omega)]
  unfold answer
  rw [if_pos hf]
  exact ⟨rfl, hf⟩
/-- the number under the root, and the rest -/
def rootQ (p : Rat) (c : Nat) : Nat := an p * (c * c) / dw p
def rootRest (p : Rat) (c : Nat) : Nat := an p * (c * c) % dw p
noncomputable def rootR (p : Rat) (c : Nat) : Box × Int :=
  if rootRest p c = 0 ∧ isq (rootQ p c) * isq (rootQ p c) = rootQ p c then (some (Rat.divInt (isq (rootQ p c) : Nat) (c : Int), Rat.divInt (isq (rootQ p c) : Nat) (c : Int)), 0)
  else (some (Rat.divInt (isq (rootQ p c) : Nat) (c : Int), Rat.divInt ((isq (rootQ p c) + 1 : Nat) : Int) (c : Int)), 0)
theorem rootR_eq {p : Rat} {c m q z x : Nat} {lo hi : Rat} (hm : c * c = m) (hq : an p * m / dw p = q) (hz : an p * m % dw p = z) (hx : x = isq q) (hlo : Rat.divInt (x : Int) (c : Int) = lo) (hhi : Rat.divInt ((x + 1 : Nat) : Int) (c : Int) = hi) :
    rootR p c = if z = 0 ∧ x * x = q then (some (lo, lo), 0) else (some (lo, hi), 0) := by
  have e1 : rootQ p c = q := by unfold rootQ; rw [hm, hq]
  have e2 : rootRest p c = z := by unfold rootRest; rw [hm, hz]
  unfold rootR
  rw [e1, e2, ← hx, hlo, hhi]
set_option maxRecDepth 100000 in
set_option maxHeartbeats 4000000 in
theorem c_Root_ok (p : Rat) (c : Nat) (hp : Fits p) (hn : 0 ≤ nm p) (hc1 : 1 ≤ c) (hc2 : c ≤ 32768) (w : World) :
    Calls Tryd.prog 36 #[ratV p, .int .i64 (c : Int)] w fun e w' => e = .returned (sansV (rootR p c)) ∧ Ext w w' := by
  obtain ⟨r, hr⟩ : ∃ r, rootR p c = r := ⟨_, rfl⟩
  rw [hr]
  have HR := Lib.hid hr
  clear hr
  have hd : decide (fracOf p).ok = true := decide_eq_true (fracOf_ok hp)
  have t1 : decide (nm p < 0) = false := decide_eq_false (by omega)
  have t2 : decide ((c : Int) < 1) = false := decide_eq_false (by omega)
  have t3 : decide ((32768 : Int) < (c : Int)) = false := decide_eq_false (by omega)
  obtain ⟨m, hm⟩ : ∃ m, c * c = m := ⟨_, rfl⟩
  have hm2 : m ≤ 1073741824 := by rw [← hm]; exact Nat.mul_le_mul hc2 hc2
  have wm : W64 m := by unfold W64; omega
  have r1 : wrap64 ((c : Int) * (c : Int)) = (m : Int) := by rw [← Int.natCast_mul, hm]; exact IntWalk.wrap64_in _ (by omega)
  have r2 : IntKind.u64.wrap (m : Int) = (m : Int) := w64_in wm
  have wx : W128 (an p * m) := w64_mul (an_w64 hp) wm
  have CP := Lib.hid (fun w => c_product (an p) m (an_w64 hp) wm w)
  have CD := Lib.hid (fun w => c_div (an p * m) (dw p) wx (den_w64 hp) p.den_pos w)
  have CA := Lib.hid (fun w => c_an p hp w)
  have CB := Lib.hid (fun w => c_den p hp w)
  obtain ⟨q, hq⟩ : ∃ q, an p * m / dw p = q := ⟨_, rfl⟩
  obtain ⟨z, hz⟩ : ∃ z, an p * m % dw p = z := ⟨_, rfl⟩
  rw [hq, hz] at CD
  have HQ := Lib.hid hq
  have HZ := Lib.hid hz
  have HM := Lib.hid hm
  have HM2 := Lib.hid hm2
  have HC1 := Lib.hid hc1
  have HC2 := Lib.hid hc2
  clear hq hz hm hm2 wm wx hn hc1 hc2
  go_enter Tryd.func36, Tryd.ntmps36
  go_wp2_with (go_at_call 48; refine (c_valid1 (fracOf p) (wide_of hp) _ _ (by exact blk_at _ _ (by simp))).mono ?_; rintro e w' ⟨rfl, hb⟩; have hc := hb.cell; have hz := hb.size; (try simp at hz); have z0 : w.heap.size < w'.heap.size := (by omega); have z1 : w.heap.size + 1 < w'.heap.size := (by omega); have BR := Lib.hid (hb.blk ((blk_past _ _ (by simp)).trans (two_second _ _ _))))
  refine RT.region_one (aq := ?aq) (n := 15) (sx := 6) (vx := 46) (oz := .cells #[.int .u64 0, .int .u64 0] 85) (ox := .cells #[.int .u64 (hiW q : Int), .int .u64 (loW q : Int)] 85) (qs1 := [_, _, _, _, _, _, _, _, _, _, _, _, _, _, _]) (qs2 := [_]) (by kernel_rfl) rfl (by kernel_rfl) (by kernel_rfl) rfl (of_decide_eq_true (by kernel_rfl)) rfl rfl (by kernel_rfl) (by kernel_rfl) (by kernel_rfl) ?_ ?_ ?_ ?_
  rotate_left
  · intro e w
    simp [execOp, go_sem, Tryd.underlying85]
  · intro w1 hE1
    have m0 : w1.cell? ⟨w.heap.size, 0, none⟩ = some (.int .i64 (nm p)) := hE1.get (hb.get (cell_of_at (three_first _ _ _ _) 0 rfl))
    have m1 : w1.cell? ⟨w.heap.size, 1, none⟩ = some (.int .i64 (dn p)) := hE1.get (hb.get (cell_of_at (three_first _ _ _ _) 1 rfl))
    have v0 := World.block_lt_of_cell? _ _ m0
    simp only at v0
    clear hE1
    simp only [List.cons_append, List.nil_append]
    repeat (go_big_quiet_step ((first | (go_at_call 53; with_reducible exact Calls.ext_of (CA.out _)) | (go_at_call 53; with_reducible exact Calls.ext_of (CB.out _)) | (go_at_call 69; with_reducible exact Calls.ext_of (CP.out _)) | (go_at_call 70; with_reducible exact Calls.ext_of (CD.out _)))))
    refine wpQuiet_nil ?_
    exact rfl
  · intro e w b h1 h2 h3
    obtain ⟨c0, c1, f0, f1⟩ := run_pair h3
    have h2' : e (.tmp 46) = pairV q := h2
    apply Exists.intro
    apply And.intro
    · simp [execOp, go_sem, h1, h2', c0, c1, f0, f1]
      exact rfl
    · exact store_pair h3
  · intro bq w1 hE1 hbq hX
    have BR1 := Lib.hid (hE1.blk BR.out)
    have hEw : Ext w w1 := Ext.trans ((by repeat (first | exact Ext.refl _ | assumption | refine Ext.alloc ?_ _ | refine Ext.drewN ?_ _ | refine ext_grow ?_ _ _ | refine Ext.setCell ?_ (by first | exact Nat.le_refl _ | omega | (simp; done) | (simp; omega)) _ | refine Ext.trans ?_ (by assumption)))) hE1
    obtain ⟨q0, q1, -, -⟩ := run_pair hX
    have v0 : w.heap.size + 1 < w1.heap.size := (Array.getElem?_eq_some_iff.1 BR1.out).1
    have v1 : bq < w1.heap.size := (Array.getElem?_eq_some_iff.1 hX).1
    clear hc hz z0 z1 hb hbq hE1
    have CLEN := Lib.hid (fun w => (len47 ▸ Tryd.bits_Len64 70368744177664 w (by omega) (by omega) : Calls Tryd.prog 73 #[.int .u64 70368744177664] w fun e w' => e = .returned (.int .i64 ((47 : Nat) : Int)) ∧ w' = w))
    have CF := Lib.hid (fun (t : Nat) (ht : W64 t) (w : World) h0 h1 => c_reaches t q bq ht w h0 h1)
    go_wp2_with (go_at_call 73; refine (CLEN.out _).mono ?_; rintro e w' ⟨rfl, rfl⟩)
    go_loopw [9, 10] (fun s b wr => Ext w wr ∧ ∃ (n x : Nat) (y : Int), s = .int .u64 x ∧ b = .int .i64 y ∧ Hid (y = (n : Int) - 1) ∧ Hid (n ≤ 48) ∧ Hid (RootAt q n x) ∧ Hid (x + 2 ^ n ≤ 281474976710656) ∧ Hid (wr.heap[w.heap.size + 1]? = some (.cells #[.int .i64 0, .int .i64 0, .int .i64 0, .int .i64 0] 41)) ∧ Hid (wr.heap[bq]? = some (.cells #[.int .u64 (hiW q : Int), .int .u64 (loW q : Int)] 85))) (fun _ b _ => (intOf b + 1).toNat)
    case atStart =>
      refine ⟨hEw, 48, 0, 47, rfl, rfl, rfl, (show 48 ≤ 48 by omega), (show RootAt q 48 0 from ⟨Nat.dvd_zero _, by omega, ?_⟩), (show 0 + 2 ^ 48 ≤ 281474976710656 by omega), BR1.out, hX⟩
      have h1 : q ≤ an p * m := by rw [← HQ.out]; exact Nat.div_le_self _ _
      have h2 : an p * m ≤ 4611686018427387903 * 1073741824 := Nat.mul_le_mul (an_small hp) HM2.out
      have h3 : (0 + 2 ^ 48) * (0 + 2 ^ 48) = 79228162514264337593543950336 := by decide
      rw [h3]
      omega
    case round =>
      obtain ⟨hE, n, x, y, rfl, rfl, hy, hn, hroot, hx, hres, hbq⟩ := hrel
      obtain ⟨u0, u1, -, -⟩ := run_pair hbq.out
      have z0 : w.heap.size + 1 < wr.heap.size := (Array.getElem?_eq_some_iff.1 hres.out).1
      have z1 : bq < wr.heap.size := (Array.getElem?_eq_some_iff.1 hbq.out).1
      rcases Nat.eq_zero_or_pos n with hn0 | hn0
      · subst hn0
        obtain rfl : y = -1 := by have := hy.out; omega
        have hxs := root_end hroot.out
        have hx48 : x ≤ 281474976710655 := by have := hx.out; simp at this; omega
        obtain ⟨f1, g1⟩ := make_small (s := x) (c := c) (by omega) HC1.out HC2.out
        obtain ⟨f2, g2⟩ := make_small (s := x + 1) (c := c) (by omega) HC1.out HC2.out
        obtain ⟨lo, hlo⟩ : ∃ lo, Rat.divInt (x : Int) (c : Int) = lo := ⟨_, rfl⟩
        obtain ⟨hi, hhi⟩ : ∃ hi, Rat.divInt ((x + 1 : Nat) : Int) (c : Int) = hi := ⟨_, rfl⟩
        rw [hlo] at f1 g1
        rw [hhi] at f2 g2
        have iC : InI64 (c : Int) := by have := HC2.out; unfold InI64; omega
        have CM1 := Lib.hid (make_call f1 (i48 (by omega)) iC)
        have CM2 := Lib.hid (show ∀ w, Calls Tryd.prog 20 #[.int .i64 ((x : Int) + 1), .int .i64 (c : Int)] w fun e w' => e = .returned (.tuple #[ratV hi, .int .i64 0]) ∧ Ext w w' from make_call f2 (i48 (show x + 1 ≤ 281474976710656 by omega)) iC)
        have cv : wrap64 (x : Int) = (x : Int) := IntWalk.wrap64_in _ (by omega)
        have cv2 : wrap64 ((x : Int) + 1) = (x : Int) + 1 := IntWalk.wrap64_in _ (by omega)
        have CS := Lib.hid (fun w => c_product x x (w48 hx48) (w48 hx48) w)
        have HXS := Lib.hid hxs
        have HLO := Lib.hid hlo
        have HHI := Lib.hid hhi
        clear hxs hlo hhi f1 f2 g1 g2 iC hx48
        go_wp2_with (go_at_call 20; with_reducible refine (CM1.out _).mono ?_; rintro e w' ⟨rfl, hb⟩; have hc := hb.cell; have hf := hb.frozen; have hz := hb.size; (try simp at hz); have z3 : w.heap.size + 1 < w'.heap.size := (by omega); have z4 : bq < w'.heap.size := (by omega))
        have W1 := Lib.hid (one_first w' (.cells #[.int .i64 (nm lo), .int .i64 (dn lo)] 23))
        have W2 := Lib.hid ((blk_past w' (.cells #[.int .i64 (nm lo), .int .i64 (dn lo)] 23) z4).trans (hb.blk hbq.out))
        have W3 := Lib.hid ((blk_past w' (.cells #[.int .i64 (nm lo), .int .i64 (dn lo)] 23) z3).trans (hb.blk hres.out))
        have W4 := Lib.hid ((hE.trans hb).alloc (.cells #[.int .i64 (nm lo), .int .i64 (dn lo)] 23))
        have HRE := Lib.hid (HR.out.symm.trans (rootR_eq HM.out HQ.out HZ.out HXS.out HLO.out HHI.out))
        have z5 : w'.heap.size < (w'.alloc (.cells #[.int .i64 (nm lo), .int .i64 (dn lo)] 23)).heap.size := by rw [size_one]; omega
        have z6 : bq < (w'.alloc (.cells #[.int .i64 (nm lo), .int .i64 (dn lo)] 23)).heap.size := by omega
        have z7 : w.heap.size + 1 < (w'.alloc (.cells #[.int .i64 (nm lo), .int .i64 (dn lo)] 23)).heap.size := by omega
        clear hc hf hz z0 z1 z3 z4 u0 u1
        generalize w'.alloc (.cells #[.int .i64 (nm lo), .int .i64 (dn lo)] 23) = w4 at W1 W2 W3 W4 z5 z6 z7 ⊢
        generalize w'.heap.size = B at W1 z5 ⊢
        obtain ⟨a0, a1, -, -⟩ := run_pair W1.out
        obtain ⟨b0, b1, -, -⟩ := run_pair W2.out
        obtain ⟨⟨s0, s1, s2, s3⟩, k0, k1, k2, k3⟩ := run_four W3.out
        clear hb hE
        by_cases hz0 : z = 0
        · have y1 : ((z : Int) == 0) = true := by simp; omega
          by_cases hsq : x * x = q
          · rw [hsq] at CS
            have HRF := Lib.hid (show r = (some (lo, lo), 0) by rw [HRE.out, if_pos ⟨hz0, hsq⟩])
            have HZ0 := Lib.hid hz0
            have HSQ := Lib.hid hsq
            clear hz0 hsq
            refine wp_region_quiet_below (by kernel_rfl) (by kernel_rfl) ?_
            repeat (go_big_quiet_step ((first | (go_at_call 69; with_reducible exact Calls.ext_of (CS.out _)))))
            refine wpQuiet_nil ?_
            intro _ hw'
            obtain ⟨⟨dq, osq⟩, hw''⟩ := hw'
            subst hw''
            have G1 := Lib.hid (ext_grow W4.out dq osq)
            have G2 := Lib.hid ((Ext.grow w4 dq osq).blk W3.out)
            have G3 := Lib.hid ((Ext.grow w4 dq osq).blk W1.out)
            have zg := (Ext.grow w4 dq osq).size
            have g0 : w.heap.size + 1 < (grow (redrawn w4 dq) osq).heap.size := by omega
            go_wp2
            refine bodyPost_ret (RT.results_row2 rfl _ _ (w.heap.size + 1) 41 _ (0, 0) _ rfl (store_four G2.out).1 Tryd.underlying41 rfl info_span) rfl ?_
            exact ⟨by rw [HRF.out]; rfl, (store_four G2.out).2.2 w (by omega) G1.out⟩
          · have HRF := Lib.hid (show r = (some (lo, hi), 0) by rw [HRE.out, if_neg (fun h => hsq h.2)])
            have hne : hiW (x * x) ≠ hiW q ∨ hiW (x * x) = hiW q ∧ loW (x * x) ≠ loW q := by
              by_cases h1 : hiW (x * x) = hiW q
              · exact .inr ⟨h1, fun h2 => hsq (by rw [← pair_eta (x * x), h1, h2, pair_eta])⟩
              · exact .inl h1
            have HZ0 := Lib.hid hz0
            have HSQ := Lib.hid hsq
            clear hz0 hsq
            rcases hne with h1 | ⟨h1, h2⟩
            · have y2 : ((hiW (x * x) : Int) == (hiW q : Int)) = false := by simp; omega
              have H1 := Lib.hid h1
              clear h1
              refine wp_region_quiet_below (by kernel_rfl) (by kernel_rfl) ?_
              repeat (go_big_quiet_step ((first | (go_at_call 69; with_reducible exact Calls.ext_of (CS.out _)))))
              refine wpQuiet_nil ?_
              intro _ hw'
              obtain ⟨⟨dq, osq⟩, hw''⟩ := hw'
              subst hw''
              have G1 := Lib.hid (ext_grow W4.out dq osq)
              have G2 := Lib.hid ((Ext.grow w4 dq osq).blk W3.out)
              have G3 := Lib.hid ((Ext.grow w4 dq osq).blk W1.out)
              have zg := (Ext.grow w4 dq osq).size
              have g0 : w.heap.size + 1 < (grow (redrawn w4 dq) osq).heap.size := by omega
              have g1 : B < (grow (redrawn w4 dq) osq).heap.size := by omega
              go_wp2_with (go_at_call 20; refine (CM2.out _).mono ?_; rintro e w' ⟨rfl, hb⟩; have hc := hb.cell; have hf := hb.frozen; have hz := hb.size; have z5 : w.heap.size + 1 < w'.heap.size := (by omega); have z6 : B < w'.heap.size := (by omega); have G4 := Lib.hid (hb.blk G2.out); obtain ⟨e0, e1, -, -⟩ := run_pair (hb.blk G3.out); obtain ⟨⟨s0, s1, s2, s3⟩, k0, k1, k2, k3⟩ := run_four G4.out)
              refine bodyPost_ret (RT.results_row2 rfl _ _ (w.heap.size + 1) 41 _ (0, 0) _ rfl ((blk_past _ _ (by simp; omega)).trans (store_four G4.out).1) Tryd.underlying41 rfl info_span) rfl ?_
              have G1o := G1.out
              exact ⟨by rw [HRF.out]; rfl, ((store_four G4.out).2.2 w (by omega) (G1o.trans hb)).alloc _⟩
            · have y2 : ((loW (x * x) : Int) == (loW q : Int)) = false := by simp; omega
              have CS := Lib.hid (fun w => (show Calls Tryd.prog 69 #[.int .u64 (x : Int), .int .u64 (x : Int)] w (fun e w' => e = .returned (.agg #[.int .u64 (hiW q : Int), .int .u64 (loW (x * x) : Int)]) ∧ Ext w w') from h1 ▸ CS.out w))
              have H1 := Lib.hid h1
              have H2 := Lib.hid h2
              clear h1 h2
              refine wp_region_quiet_below (by kernel_rfl) (by kernel_rfl) ?_
              repeat (go_big_quiet_step ((first | (go_at_call 69; with_reducible exact Calls.ext_of (CS.out _)))))
              refine wpQuiet_nil ?_
              intro _ hw'
              obtain ⟨⟨dq, osq⟩, hw''⟩ := hw'
              subst hw''
              have G1 := Lib.hid (ext_grow W4.out dq osq)
              have G2 := Lib.hid ((Ext.grow w4 dq osq).blk W3.out)
              have G3 := Lib.hid ((Ext.grow w4 dq osq).blk W1.out)
              have zg := (Ext.grow w4 dq osq).size
              have g0 : w.heap.size + 1 < (grow (redrawn w4 dq) osq).heap.size := by omega
              have g1 : B < (grow (redrawn w4 dq) osq).heap.size := by omega
              go_wp2_with (go_at_call 20; refine (CM2.out _).mono ?_; rintro e w' ⟨rfl, hb⟩; have hc := hb.cell; have hf := hb.frozen; have hz := hb.size; have z5 : w.heap.size + 1 < w'.heap.size := (by omega); have z6 : B < w'.heap.size := (by omega); have G4 := Lib.hid (hb.blk G2.out); obtain ⟨e0, e1, -, -⟩ := run_pair (hb.blk G3.out); obtain ⟨⟨s0, s1, s2, s3⟩, k0, k1, k2, k3⟩ := run_four G4.out)
              refine bodyPost_ret (RT.results_row2 rfl _ _ (w.heap.size + 1) 41 _ (0, 0) _ rfl ((blk_past _ _ (by simp; omega)).trans (store_four G4.out).1) Tryd.underlying41 rfl info_span) rfl ?_
              have G1o := G1.out
              exact ⟨by rw [HRF.out]; rfl, ((store_four G4.out).2.2 w (by omega) (G1o.trans hb)).alloc _⟩
        · have y1 : ((z : Int) == 0) = false := by simp; omega
          have HRF := Lib.hid (show r = (some (lo, hi), 0) by rw [HRE.out, if_neg (fun h => hz0 h.1)])
          have HZ0 := Lib.hid hz0
          clear hz0
          refine wp_region_quiet_below (by kernel_rfl) (by kernel_rfl) ?_
          repeat (go_big_quiet_step ((first | (go_at_call 69; with_reducible exact Calls.ext_of (CS.out _)))))
          refine wpQuiet_nil ?_
          intro _ hw'
          obtain ⟨⟨dq, osq⟩, hw''⟩ := hw'
          subst hw''
          have G1 := Lib.hid (ext_grow W4.out dq osq)
          have G2 := Lib.hid ((Ext.grow w4 dq osq).blk W3.out)
          have G3 := Lib.hid ((Ext.grow w4 dq osq).blk W1.out)
          have zg := (Ext.grow w4 dq osq).size
          have g0 : w.heap.size + 1 < (grow (redrawn w4 dq) osq).heap.size := by omega
          have g1 : B < (grow (redrawn w4 dq) osq).heap.size := by omega
          go_wp2_with (go_at_call 20; refine (CM2.out _).mono ?_; rintro e w' ⟨rfl, hb⟩; have hc := hb.cell; have hf := hb.frozen; have hz := hb.size; have z5 : w.heap.size + 1 < w'.heap.size := (by omega); have z6 : B < w'.heap.size := (by omega); have G4 := Lib.hid (hb.blk G2.out); obtain ⟨e0, e1, -, -⟩ := run_pair (hb.blk G3.out); obtain ⟨⟨s0, s1, s2, s3⟩, k0, k1, k2, k3⟩ := run_four G4.out)
          refine bodyPost_ret (RT.results_row2 rfl _ _ (w.heap.size + 1) 41 _ (0, 0) _ rfl ((blk_past _ _ (by simp; omega)).trans (store_four G4.out).1) Tryd.underlying41 rfl info_span) rfl ?_
          have G1o := G1.out
          exact ⟨by rw [HRF.out]; rfl, ((store_four G4.out).2.2 w (by omega) (G1o.trans hb)).alloc _⟩
      · obtain ⟨k, rfl⟩ : ∃ k, n = k + 1 := ⟨n - 1, by omega⟩
        obtain rfl : y = (k : Int) := by have := hy.out; omega
        obtain ⟨t, ht⟩ : ∃ t, x + 2 ^ k = t := ⟨_, rfl⟩
        have hk : k ≤ 47 := by have := hn.out; omega
        have hxk := hx.out
        rw [Nat.pow_succ] at hxk
        have wt : W64 t := by unfold W64; omega
        have rb : bits BinOp.or IntKind.u64 (x : Int) (IntKind.u64.wrap (2 ^ min k 64)) = (t : Int) := by
          rw [Nat.min_eq_left (by omega), ← ht]
          exact or_rule hroot.out.1 (by omega)
        have RK := Lib.hid (show wrap64 ((k : Int) - 1) = (k : Int) - 1 from IntWalk.wrap64_in _ (by omega))
        have HT := Lib.hid ht
        have HK := Lib.hid hk
        have HXK := Lib.hid hxk
        clear hn0 ht hk hxk
        by_cases htq : t * t ≤ q
        · have CT := Lib.hid (fun w h0 h1 => (decide_eq_true htq ▸ CF.out t wt w h0 h1 : Calls Tryd.prog 71 #[.int .u64 (t : Int), .pointer (some ⟨bq, 0, none⟩)] w fun e w' => e = .returned (.bool true) ∧ Ext w w'))
          have HTQ := Lib.hid htq
          clear htq
          go_wp2_with (go_at_call 71; refine (CT.out _ u0 u1).mono ?_; rintro e w' ⟨rfl, hb⟩)
          go_roundw
          case rel => exact ⟨hE.trans hb, k, t, _, rfl, rfl, RK.out, (show k ≤ 48 by have := HK.out; omega), (show RootAt q k t by rw [← HT.out]; exact root_yes hroot.out (by rw [HT.out]; exact HTQ.out)), (show t + 2 ^ k ≤ 281474976710656 by have := HXK.out; have := HT.out; omega), hb.blk hres.out, hb.blk hbq.out⟩
          case measure => have h9 := RK.out; simp [intOf]; omega
        · have CT := Lib.hid (fun w h0 h1 => (decide_eq_false htq ▸ CF.out t wt w h0 h1 : Calls Tryd.prog 71 #[.int .u64 (t : Int), .pointer (some ⟨bq, 0, none⟩)] w fun e w' => e = .returned (.bool false) ∧ Ext w w'))
          have HTQ := Lib.hid htq
          clear htq
          go_wp2_with (go_at_call 71; refine (CT.out _ u0 u1).mono ?_; rintro e w' ⟨rfl, hb⟩)
          go_roundw
          case rel => exact ⟨hE.trans hb, k, x, _, rfl, rfl, RK.out, (show k ≤ 48 by have := HK.out; omega), root_no hroot.out (by rw [HT.out]; exact HTQ.out), (show x + 2 ^ k ≤ 281474976710656 by have := HXK.out; omega), hb.blk hres.out, hb.blk hbq.out⟩
          case measure => have h9 := RK.out; simp [intOf]; omega
end Go.Proofs.YtodoimeiklilhaaDoor

/- The walk of layer 1's Root, whatever the input. -/
namespace Go.Proofs.YtodoimeiklilhaaDoor
open Go.RowKit Go.Sort

set_option maxRecDepth 100000 in
set_option maxHeartbeats 2000000 in
theorem c_Root_bad (a : Frac) (c : Int) (ha : a.wide) (hc : InI64 c) (hn : ¬ a.ok) (w : World) :
    Calls Tryd.prog 36 #[fracV a, .int .i64 c] w fun e w' => e = .returned (sansV (none, 8)) ∧ Ext w w' := by
  have hd : decide a.ok = false := decide_eq_false hn
  clear hn
  go_enter Tryd.func36, Tryd.ntmps36
  go_wp2_with (go_at_call 48; refine (c_valid1 a ha _ _ (by exact blk_at _ _ (by simp))).mono ?_; rintro e w' ⟨rfl, hb⟩; have hc := hb.cell; have hf := hb.frozen; have hz := hb.size; (try simp at hz); have z0 : w.heap.size < w'.heap.size := (by omega); have z1 : w.heap.size + 1 < w'.heap.size := (by omega); have BB := Lib.hid (hb.blk ((blk_past _ _ (by simp)).trans (two_second _ _ _))))
  refine bodyPost_ret (RT.results_row2 rfl _ _ (w.heap.size + 1) 41 _ (0, 0) _ rfl (store_four BB.out).1 Tryd.underlying41 rfl info_span) rfl ?_
  exact ⟨rfl, (store_four BB.out).2.2 w (by omega) (by repeat (first | exact Ext.refl _ | assumption | refine Ext.alloc ?_ _ | refine Ext.drewN ?_ _ | refine ext_grow ?_ _ _ | refine Ext.setCell ?_ (by first | exact Nat.le_refl _ | omega | (simp; done) | (simp; omega)) _ | refine Ext.trans ?_ (by assumption)))⟩
set_option maxRecDepth 100000 in
set_option maxHeartbeats 2000000 in
theorem c_Root_arg (p : Rat) (c : Int) (hp : Fits p) (hc : InI64 c) (hn : nm p < 0 ∨ 0 ≤ nm p ∧ (c < 1 ∨ 1 ≤ c ∧ 32768 < c)) (w : World) :
    Calls Tryd.prog 36 #[ratV p, .int .i64 c] w fun e w' => e = .returned (sansV (none, 2)) ∧ Ext w w' := by
  obtain ⟨a, h⟩ : ∃ a, fracOf p = a := ⟨_, rfl⟩
  have ha : a.wide := h ▸ wide_of hp
  have hd : decide a.ok = true := decide_eq_true (h ▸ fracOf_ok hp)
  have en : a.num = nm p := by rw [← h]; rfl
  have hn : a.num < 0 ∨ 0 ≤ a.num ∧ (c < 1 ∨ 1 ≤ c ∧ 32768 < c) := by rw [en]; exact hn
  show Calls Tryd.prog 36 #[fracV (fracOf p), .int .i64 c] w _
  rw [h]
  clear h en
  rcases hn with h1 | ⟨h1, h2 | ⟨h2, h3⟩⟩
  · have t1 : decide (a.num < 0) = true := decide_eq_true h1
    clear h1
    go_enter Tryd.func36, Tryd.ntmps36
    go_wp2_with (go_at_call 48; refine (c_valid1 a ha _ _ (by exact blk_at _ _ (by simp))).mono ?_; rintro e w' ⟨rfl, hb⟩; have hc := hb.cell; have hf := hb.frozen; have hz := hb.size; (try simp at hz); have z0 : w.heap.size < w'.heap.size := (by omega); have z1 : w.heap.size + 1 < w'.heap.size := (by omega); have BB := Lib.hid (hb.blk ((blk_past _ _ (by simp)).trans (two_second _ _ _))))
    refine bodyPost_ret (RT.results_row2 rfl _ _ (w.heap.size + 1) 41 _ (0, 0) _ rfl (store_four BB.out).1 Tryd.underlying41 rfl info_span) rfl ?_
    exact ⟨rfl, (store_four BB.out).2.2 w (by omega) (by repeat (first | exact Ext.refl _ | assumption | refine Ext.alloc ?_ _ | refine Ext.drewN ?_ _ | refine ext_grow ?_ _ _ | refine Ext.setCell ?_ (by first | exact Nat.le_refl _ | omega | (simp; done) | (simp; omega)) _ | refine Ext.trans ?_ (by assumption)))⟩
  · have t1 : decide (a.num < 0) = false := decide_eq_false (by omega)
    have t2 : decide (c < 1) = true := decide_eq_true h2
    clear h1 h2
    go_enter Tryd.func36, Tryd.ntmps36
    go_wp2_with (go_at_call 48; refine (c_valid1 a ha _ _ (by exact blk_at _ _ (by simp))).mono ?_; rintro e w' ⟨rfl, hb⟩; have hc := hb.cell; have hf := hb.frozen; have hz := hb.size; (try simp at hz); have z0 : w.heap.size < w'.heap.size := (by omega); have z1 : w.heap.size + 1 < w'.heap.size := (by omega); have BB := Lib.hid (hb.blk ((blk_past _ _ (by simp)).trans (two_second _ _ _))))
    refine bodyPost_ret (RT.results_row2 rfl _ _ (w.heap.size + 1) 41 _ (0, 0) _ rfl (store_four BB.out).1 Tryd.underlying41 rfl info_span) rfl ?_
    exact ⟨rfl, (store_four BB.out).2.2 w (by omega) (by repeat (first | exact Ext.refl _ | assumption | refine Ext.alloc ?_ _ | refine Ext.drewN ?_ _ | refine ext_grow ?_ _ _ | refine Ext.setCell ?_ (by first | exact Nat.le_refl _ | omega | (simp; done) | (simp; omega)) _ | refine Ext.trans ?_ (by assumption)))⟩
  · have t1 : decide (a.num < 0) = false := decide_eq_false (by omega)
    have t2 : decide (c < 1) = false := decide_eq_false (by omega)
    have t3 : decide (32768 < c) = true := decide_eq_true h3
    clear h1 h2 h3
    go_enter Tryd.func36, Tryd.ntmps36
    go_wp2_with (go_at_call 48; refine (c_valid1 a ha _ _ (by exact blk_at _ _ (by simp))).mono ?_; rintro e w' ⟨rfl, hb⟩; have hc := hb.cell; have hf := hb.frozen; have hz := hb.size; (try simp at hz); have z0 : w.heap.size < w'.heap.size := (by omega); have z1 : w.heap.size + 1 < w'.heap.size := (by omega); have BB := Lib.hid (hb.blk ((blk_past _ _ (by simp)).trans (two_second _ _ _))))
    refine bodyPost_ret (RT.results_row2 rfl _ _ (w.heap.size + 1) 41 _ (0, 0) _ rfl (store_four BB.out).1 Tryd.underlying41 rfl info_span) rfl ?_
    exact ⟨rfl, (store_four BB.out).2.2 w (by omega) (by repeat (first | exact Ext.refl _ | assumption | refine Ext.alloc ?_ _ | refine Ext.drewN ?_ _ | refine ext_grow ?_ _ _ | refine Ext.setCell ?_ (by first | exact Nat.le_refl _ | omega | (simp; done) | (simp; omega)) _ | refine Ext.trans ?_ (by assumption)))⟩
noncomputable def rootAll (a : Frac) (c : Int) : Box × Int :=
  if a.ok then if nm a.val < 0 ∨ c < 1 ∨ 32768 < c then (none, 2) else rootR a.val c.toNat else (none, 8)
theorem c_Root (a : Frac) (c : Int) (ha : a.wide) (hc : InI64 c) (w : World) :
    Calls Tryd.prog 36 #[fracV a, .int .i64 c] w fun e w' => e = .returned (sansV (rootAll a c)) ∧ Ext w w' := by
  by_cases hn : a.ok
  · obtain ⟨p, hp, rfl⟩ := Frac.of_ok hn
    by_cases hz : nm p < 0 ∨ c < 1 ∨ 32768 < c
    · rw [show rootAll (fracOf p) c = (none, 2) by unfold rootAll; rw [if_pos hn, fracOf_val, if_pos hz]]
      exact c_Root_arg p c hp hc (by omega) w
    · obtain ⟨k, rfl⟩ := Int.eq_ofNat_of_zero_le (show 0 ≤ c by omega)
      rw [show rootAll (fracOf p) (k : Int) = rootR p k by unfold rootAll; rw [if_pos hn, fracOf_val, if_neg hz, Int.toNat_natCast]]
      exact c_Root_ok p k hp (by omega) (by omega) (by omega) w
  · rw [show rootAll a c = (none, 8) from if_neg hn]
    exact c_Root_bad a c ha hc hn w
end Go.Proofs.YtodoimeiklilhaaDoor
