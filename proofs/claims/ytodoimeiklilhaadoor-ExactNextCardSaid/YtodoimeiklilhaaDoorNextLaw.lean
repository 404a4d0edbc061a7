/- The walk of 'ExactNext'. -/
import Derived.Test.YtodoimeiklilhaaDoorGAlive
import Derived.Test.YtodoimeiklilhaaDoorGRef
import Derived.Test.YtodoimeiklilhaaDoorMeetJoin
set_option linter.unusedVariables false
set_option linter.unusedSimpArgs false
namespace Go.Proofs.YtodoimeiklilhaaDoor
open Go.RowKit Go.Sort

set_option maxRecDepth 100000 in
set_option maxHeartbeats 8000000 in
theorem next_walk (a1 a2 n m e f g h low high : Int) (v : Bool) (w : World) (hP : Pow w)
    (k1 : ∀ w, Calls Tryd.prog 29 #[fracV ⟨a1, a2⟩] w fun E w' => E = .returned (.tuple #[.int .i64 n, .int .i64 e]) ∧ Ext w w')
    (k2 : ∀ w, Calls Tryd.prog 28 #[fracV ⟨a1, a2⟩] w fun E w' => E = .returned (.tuple #[.int .i64 m, .int .i64 f]) ∧ Ext w w')
    (k3 : ∀ (k : Nat) (w : World), w.heap[k]? = some (.cells #[.int .i64 a1, .int .i64 a2] 23) → Calls Tryd.prog 18 #[.slice (some ⟨k, 0, none⟩) 1 1] w fun E w' => E = .returned (.bool v) ∧ Ext w w')
    (k4 : ∀ w, Calls Tryd.prog 27 #[fracV ⟨n, 1⟩, fracV ⟨a1, a2⟩] w fun E w' => E = .returned (.tuple #[.int .i64 low, .int .i64 g]) ∧ Ext w w')
    (k5 : ∀ w, Calls Tryd.prog 27 #[fracV ⟨m, 1⟩, fracV ⟨a1, a2⟩] w fun E w' => E = .returned (.tuple #[.int .i64 high, .int .i64 h]) ∧ Ext w w')
    (hm : (v = false → e = 8 ∧ f = 8) ∧ (v = true → e = 0 ∧ f = 0 ∧ g = 0 ∧ h = 0 ∧ low ≤ 0 ∧ 0 ≤ high ∧ -4611686018427387903 ≤ n ∧ n ≤ 4611686018427387903 ∧ (m = n ∨ m = n + 1) ∧ (m = n ↔ a2 = 1) ∧ (m = n → low = 0 ∧ high = 0))) :
    Calls Tryd.prog 9 #[fracV ⟨a1, a2⟩] w fun e w' => e = .returned (.bool true) ∧ Ext w w' := by
  have HP := Lib.hid hP
  have K1 := Lib.hid k1
  have K2 := Lib.hid k2
  have K3 := Lib.hid k3
  have K4 := Lib.hid k4
  have K5 := Lib.hid k5
  have HM := Lib.hid hm
  clear hP k1 k2 k3 k4 k5 hm
  have W1 := Lib.hid (c_whole n)
  have W2 := Lib.hid (c_whole m)
  cases v
  · obtain ⟨he, hf⟩ := HM.out.1 rfl
    obtain rfl := he
    obtain rfl := hf
    clear HM
    go_enter Tryd.func9, Tryd.ntmps9
    go_wp2_with (first | (go_at_call 16; with_reducible refine (c_alive _ (HP.out.ext (by repeat (first | exact Ext.refl _ | assumption | refine Ext.alloc ?_ _ | refine Ext.drewN ?_ _ | refine ext_grow ?_ _ _ | refine Ext.setCell ?_ (by first | exact Nat.le_refl _ | omega | (simp; done) | (simp; omega)) _ | refine Ext.trans ?_ (by assumption))))).mono ?_; rintro E w1 ⟨rfl, hb1⟩; have hc1 := hb1.cell; have hz1 := hb1.size; (try simp at hz1); have z1_0 : w.heap.size < w1.heap.size := (by omega)) | (go_at_call 29; with_reducible refine (K1.out _).mono ?_; rintro E w2 ⟨rfl, hb2⟩; have hc2 := hb2.cell; have hz2 := hb2.size; (try simp at hz2); have z2_0 : w.heap.size < w2.heap.size := (by omega)) | (go_at_call 28; with_reducible refine (K2.out _).mono ?_; rintro E w3 ⟨rfl, hb3⟩; have hc3 := hb3.cell; have hz3 := hb3.size; (try simp at hz3); have z3_0 : w.heap.size < w3.heap.size := (by omega)) | (go_at_call 18; with_reducible refine (K3.out _ _ (by exact blk_at _ _ (by simp))).mono ?_; rintro E w4 ⟨rfl, hb4⟩; have hc4 := hb4.cell; have hz4 := hb4.size; (try simp at hz4); have z4_0 : w.heap.size < w4.heap.size := (by omega)))
    go_ret
    exact ⟨ret_bool (by rfl), (by repeat (first | exact Ext.refl _ | assumption | refine Ext.alloc ?_ _ | refine Ext.drewN ?_ _ | refine ext_grow ?_ _ _ | refine Ext.setCell ?_ (by first | exact Nat.le_refl _ | omega | (simp; done) | (simp; omega)) _ | refine Ext.trans ?_ (by assumption)))⟩
  · obtain ⟨he, hf, hg, hh, l1, l2, b1, b2, hmn, hd, hz⟩ := HM.out.2 rfl
    obtain rfl := he
    obtain rfl := hf
    obtain rfl := hg
    obtain rfl := hh
    have HMN := Lib.hid hmn
    have HD := Lib.hid hd
    have HZ := Lib.hid hz
    clear HM hmn hd hz
    by_cases hq : m = n
    · have ha := HD.out.1 hq
      obtain ⟨z1, z2⟩ := HZ.out hq
      subst hq
      subst ha
      subst z1
      subst z2
      clear HD HZ HMN
      have s1 : m - m = 0 := by omega
      go_enter Tryd.func9, Tryd.ntmps9
      go_wp2_with (first | (go_at_call 16; with_reducible refine (c_alive _ (HP.out.ext (by repeat (first | exact Ext.refl _ | assumption | refine Ext.alloc ?_ _ | refine Ext.drewN ?_ _ | refine ext_grow ?_ _ _ | refine Ext.setCell ?_ (by first | exact Nat.le_refl _ | omega | (simp; done) | (simp; omega)) _ | refine Ext.trans ?_ (by assumption))))).mono ?_; rintro E w1 ⟨rfl, hb1⟩; have hc1 := hb1.cell; have hz1 := hb1.size; (try simp at hz1); have z1_0 : w.heap.size < w1.heap.size := (by omega)) | (go_at_call 29; with_reducible refine (K1.out _).mono ?_; rintro E w2 ⟨rfl, hb2⟩; have hc2 := hb2.cell; have hz2 := hb2.size; (try simp at hz2); have z2_0 : w.heap.size < w2.heap.size := (by omega)) | (go_at_call 28; with_reducible refine (K2.out _).mono ?_; rintro E w3 ⟨rfl, hb3⟩; have hc3 := hb3.cell; have hz3 := hb3.size; (try simp at hz3); have z3_0 : w.heap.size < w3.heap.size := (by omega)) | (go_at_call 18; with_reducible refine (K3.out _ _ (by exact blk_at _ _ (by simp))).mono ?_; rintro E w4 ⟨rfl, hb4⟩; have hc4 := hb4.cell; have hz4 := hb4.size; (try simp at hz4); have z4_0 : w.heap.size < w4.heap.size := (by omega)))
      refine wp_region_quiet_below (by kernel_rfl) (by kernel_rfl) ?_
      repeat (go_big_quiet_step ((first | (go_at_call 24; with_reducible exact Calls.ext_of (W1.out _)) | (go_at_call 27; with_reducible exact Calls.ext_of (K4.out _)))))
      refine wpQuiet_nil ?_
      intro w5 hw'
      obtain ⟨pq, hw''⟩ := hw'
      have hb5 := ext_of_regrown hw''
      clear hw''
      have hc5 := hb5.cell; have hz5 := hb5.size; (try simp at hz5); have z5_0 : w.heap.size < w5.heap.size := (by omega)
      go_wp2
      refine wp_region_quiet_below (by kernel_rfl) (by kernel_rfl) ?_
      repeat (go_big_quiet_step ((first | (go_at_call 24; with_reducible exact Calls.ext_of (W2.out _)) | (go_at_call 27; with_reducible exact Calls.ext_of (K5.out _)))))
      refine wpQuiet_nil ?_
      intro w6 hw'
      obtain ⟨pq, hw''⟩ := hw'
      have hb6 := ext_of_regrown hw''
      clear hw''
      have hc6 := hb6.cell; have hz6 := hb6.size; (try simp at hz6); have z6_0 : w.heap.size < w6.heap.size := (by omega)
      go_wp2
      go_ret
      exact ⟨ret_bool (by rfl), (by repeat (first | exact Ext.refl _ | assumption | refine Ext.alloc ?_ _ | refine Ext.drewN ?_ _ | refine ext_grow ?_ _ _ | refine Ext.setCell ?_ (by first | exact Nat.le_refl _ | omega | (simp; done) | (simp; omega)) _ | refine Ext.trans ?_ (by assumption)))⟩
    · have ha : (a2 == 1) = false := by simpa using fun k => hq (HD.out.2 k)
      obtain rfl : m = n + 1 := by rcases HMN.out with h | h; exact absurd h hq; exact h
      have s1 : n + 1 - n = 1 := by omega
      have s2 : (n + 1 == n) = false := by simp; omega
      have s3 : (n + 1 != n) = true := by simp; omega
      clear HD HZ HMN hq
      go_enter Tryd.func9, Tryd.ntmps9
      go_wp2_with (first | (go_at_call 16; with_reducible refine (c_alive _ (HP.out.ext (by repeat (first | exact Ext.refl _ | assumption | refine Ext.alloc ?_ _ | refine Ext.drewN ?_ _ | refine ext_grow ?_ _ _ | refine Ext.setCell ?_ (by first | exact Nat.le_refl _ | omega | (simp; done) | (simp; omega)) _ | refine Ext.trans ?_ (by assumption))))).mono ?_; rintro E w1 ⟨rfl, hb1⟩; have hc1 := hb1.cell; have hz1 := hb1.size; (try simp at hz1); have z1_0 : w.heap.size < w1.heap.size := (by omega)) | (go_at_call 29; with_reducible refine (K1.out _).mono ?_; rintro E w2 ⟨rfl, hb2⟩; have hc2 := hb2.cell; have hz2 := hb2.size; (try simp at hz2); have z2_0 : w.heap.size < w2.heap.size := (by omega)) | (go_at_call 28; with_reducible refine (K2.out _).mono ?_; rintro E w3 ⟨rfl, hb3⟩; have hc3 := hb3.cell; have hz3 := hb3.size; (try simp at hz3); have z3_0 : w.heap.size < w3.heap.size := (by omega)) | (go_at_call 18; with_reducible refine (K3.out _ _ (by exact blk_at _ _ (by simp))).mono ?_; rintro E w4 ⟨rfl, hb4⟩; have hc4 := hb4.cell; have hz4 := hb4.size; (try simp at hz4); have z4_0 : w.heap.size < w4.heap.size := (by omega)))
      refine wp_region_quiet_below (by kernel_rfl) (by kernel_rfl) ?_
      repeat (go_big_quiet_step ((first | (go_at_call 24; with_reducible exact Calls.ext_of (W1.out _)) | (go_at_call 27; with_reducible exact Calls.ext_of (K4.out _)))))
      refine wpQuiet_nil ?_
      intro w5 hw'
      obtain ⟨pq, hw''⟩ := hw'
      have hb5 := ext_of_regrown hw''
      clear hw''
      have hc5 := hb5.cell; have hz5 := hb5.size; (try simp at hz5); have z5_0 : w.heap.size < w5.heap.size := (by omega)
      go_wp2
      refine wp_region_quiet_below (by kernel_rfl) (by kernel_rfl) ?_
      repeat (go_big_quiet_step ((first | (go_at_call 24; with_reducible exact Calls.ext_of (W2.out _)) | (go_at_call 27; with_reducible exact Calls.ext_of (K5.out _)))))
      refine wpQuiet_nil ?_
      intro w6 hw'
      obtain ⟨pq, hw''⟩ := hw'
      have hb6 := ext_of_regrown hw''
      clear hw''
      have hc6 := hb6.cell; have hz6 := hb6.size; (try simp at hz6); have z6_0 : w.heap.size < w6.heap.size := (by omega)
      go_wp2
      go_ret
      exact ⟨ret_bool (by rfl), (by repeat (first | exact Ext.refl _ | assumption | refine Ext.alloc ?_ _ | refine Ext.drewN ?_ _ | refine ext_grow ?_ _ _ | refine Ext.setCell ?_ (by first | exact Nat.le_refl _ | omega | (simp; done) | (simp; omega)) _ | refine Ext.trans ?_ (by assumption)))⟩
end Go.Proofs.YtodoimeiklilhaaDoor
