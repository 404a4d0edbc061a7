/- Joined from the parts DivWalk, PairDiv. -/
import Derived.Test.YtodoimeiklilhaaDoorPairs
import Derived.Test.YtodoimeiklilhaaDoorGGround
import Derived.Laws.BitsAllLaws
import Derived.Laws.MathBits
import Derived.Lib.ItoaNum
import Derived.Test.YtodoimeiklilhaaDoorGFracs
set_option linter.unusedVariables false
set_option linter.unusedSimpArgs false
/- The walk of math/bits.Div64. -/
namespace Go.Proofs.YtodoimeiklilhaaDoor
open Go.RowKit Go.Sort

theorem and_low {z : Nat} (h : W64 z) : bits BinOp.and IntKind.u64 (z : Int) 4294967295 = ((z % 4294967296 : Nat) : Int) := by
  unfold W64 at h
  rw [and_low32 _ (by omega) (by omega)]
  omega
theorem or_high {hi lo s : Nat} (hs : s < 64) (hlo : W64 lo) (hu : W64 (hi * 2 ^ s)) : bits BinOp.or IntKind.u64 ((hi * 2 ^ s : Nat) : Int) ((lo / 2 ^ (64 - s) : Nat) : Int) = ((hi * 2 ^ s + lo / 2 ^ (64 - s) : Nat) : Int) := by
  have hl : lo / 2 ^ (64 - s) < 2 ^ s := by
    rw [Nat.div_lt_iff_lt_mul (Nat.two_pow_pos _), ← Nat.pow_add, show s + (64 - s) = 64 by omega]
    exact hlo
  have hl2 : lo / 2 ^ (64 - s) < 18446744073709551616 := Nat.lt_of_le_of_lt (Nat.div_le_self _ _) hlo
  have e : bits BinOp.or IntKind.u64 ((hi * 2 ^ s : Nat) : Int) ((lo / 2 ^ (64 - s) : Nat) : Int) = ((hi * 2 ^ s ||| lo / 2 ^ (64 - s) : Nat) : Int) := u64_or_nat _ _ hu hl2
  rw [e, Nat.mul_comm hi, ← Nat.two_pow_add_eq_or_of_lt hl]
/-- a word's digit: what one of the two loops finds -/
def Dig (u d y1 y0 : Nat) (a b : Nat) : Prop := a * y1 + b = u ∧ (u * 4294967296 + d) / (y1 * 4294967296 + y0) ≤ a
def DigI (u d y1 y0 : Nat) (a b : Int) : Prop := 0 ≤ a ∧ a ≤ 4294967297 ∧ 0 ≤ b ∧ b < 4294967296 ∧ Dig u d y1 y0 a.toNat b.toNat
theorem w_eq {n : Int} {m : Nat} (h : n = (m : Int)) (hm : W64 m) : IntKind.u64.wrap n = (m : Int) := by rw [h]; exact w64_in hm
theorem w_mod {n : Int} {m : Nat} (h : n % 18446744073709551616 = (m : Int)) : IntKind.u64.wrap n = (m : Int) := by rw [wrap_u64_eq]; exact h
def Norm (y1 y0 : Nat) : Prop := 4294967296 ≤ 2 * y1 ∧ y1 < 4294967296 ∧ y0 < 4294967296
/-- the digit -/
def digOf (u d y1 y0 : Nat) : Nat := (u * 4294967296 + d) / (y1 * 4294967296 + y0)
theorem wrap_nat {n : Int} (h0 : 0 ≤ n) (h1 : n < 18446744073709551616) : IntKind.u64.wrap n = n := IntWalk.u64_in _ ⟨h0, by omega⟩
theorem dig_start {u d y1 y0 : Nat} (hn : Norm y1 y0) (hu : W64 u) (hlt : u < y1 * 4294967296 + y0) (hd : d < 4294967296) :
    ∃ a b : Int, IntKind.u64.wrap ((u : Int) / (y1 : Int)) = a ∧ IntKind.u64.wrap ((u : Int) - IntKind.u64.wrap (IntKind.u64.wrap ((u : Int) / (y1 : Int)) * (y1 : Int))) = b ∧ DigI u d y1 y0 a b := by
  obtain ⟨n1, n2, n3⟩ := hn
  have e1 : IntKind.u64.wrap ((u : Int) / (y1 : Int)) = ((u / y1 : Nat) : Int) := w_eq (by push_cast; rfl) (Nat.lt_of_le_of_lt (Nat.div_le_self _ _) hu)
  have h1 := Nat.div_add_mod u y1
  have h2 := Nat.mod_lt u (show y1 > 0 by omega)
  have e2 : IntKind.u64.wrap (IntKind.u64.wrap ((u : Int) / (y1 : Int)) * (y1 : Int)) = ((u / y1 * y1 : Nat) : Int) := by
    rw [e1]
    exact w_eq (by push_cast; rfl) (Nat.lt_of_le_of_lt (Nat.div_mul_le_self _ _) hu)
  have e3 : IntKind.u64.wrap ((u : Int) - ((u / y1 * y1 : Nat) : Int)) = ((u % y1 : Nat) : Int) := w_eq (by
    rw [Nat.mul_comm]; omega) (by unfold W64 at *; omega)
  refine ⟨((u / y1 : Nat) : Int), ((u % y1 : Nat) : Int), e1, by rw [e2, e3], Int.natCast_nonneg _, ?_, Int.natCast_nonneg _, Int.lt_trans (Int.ofNat_lt.2 h2) (by omega), ?_, ?_⟩
  · have := dig_bound (u := u) (by omega : (4294967296 : Nat) ≤ 2 * y1) n3 (by omega) hlt
    omega
  · show (u / y1 : Int).toNat * y1 + (u % y1 : Int).toNat = u
    rw [show ((u : Int) / y1).toNat = u / y1 from rfl, show ((u : Int) % y1).toNat = u % y1 from rfl, Nat.mul_comm]
    exact h1
  · exact dig_guess (by omega) (by omega) hd
theorem dig_next {u d y1 y0 : Nat} {a b : Int} (hn : Norm y1 y0) (hlt : u < y1 * 4294967296 + y0) (hd : d < 4294967296) (h : DigI u d y1 y0 a b) (hc : 4294967296 ≤ a ∨ 4294967296 * b + d < a * y0) :
    IntKind.u64.wrap (a - 1) = a - 1 ∧ IntKind.u64.wrap (b + y1) = b + y1 ∧ (b + y1 < 4294967296 → DigI u d y1 y0 (a - 1) (b + y1)) ∧ (4294967296 ≤ b + y1 → a - 1 = (digOf u d y1 y0 : Int)) ∧ 1 ≤ a := by
  obtain ⟨n1, n2, n3⟩ := hn
  obtain ⟨a1, a2, b1, b2, h1, h2⟩ := h
  obtain ⟨m, rfl⟩ := Int.eq_ofNat_of_zero_le a1
  obtain ⟨k, rfl⟩ := Int.eq_ofNat_of_zero_le b1
  simp only [Int.toNat_natCast] at h1 h2
  have hy : 0 < y1 * 4294967296 + y0 := by omega
  have hlt2 : (u * 4294967296 + d) / (y1 * 4294967296 + y0) < m := by
    rcases hc with hc | hc
    · exact Nat.lt_of_lt_of_le (dig_lt hlt hd) (by omega)
    · exact dig_more (r := k) h1 hy (by omega)
  have m1 : 1 ≤ m := Nat.succ_le_of_lt (Nat.lt_of_le_of_lt (Nat.zero_le _) hlt2)
  have h3 : (m - 1) * y1 + (k + y1) = u := by
    have : m * y1 = (m - 1) * y1 + y1 := by rw [← Nat.succ_mul]; congr 1; omega
    omega
  clear hlt hd hc
  refine ⟨wrap_nat (by omega) (by omega), wrap_nat (by omega) (by omega), fun hb => ⟨by omega, by omega, by omega, hb, ?_, ?_⟩, fun hb => ?_, by omega⟩
  · rw [show ((m : Int) - 1).toNat = m - 1 by omega, show ((k : Int) + y1).toNat = k + y1 by omega]
    exact h3
  · rw [show ((m : Int) - 1).toNat = m - 1 by omega]
    exact Nat.le_sub_one_of_lt hlt2
  · have := dig_done (d := d) (q := m - 1) h3 (Nat.le_sub_one_of_lt hlt2) hy (dig_break (by omega) n3 (by omega))
    unfold digOf
    rw [← this]
    omega
theorem dig_exit {u d y1 y0 : Nat} {a b : Int} (hn : Norm y1 y0) (h : DigI u d y1 y0 a b) (hc : a * y0 ≤ 4294967296 * b + d) : a = (digOf u d y1 y0 : Int) := by
  obtain ⟨n1, n2, n3⟩ := hn
  obtain ⟨a1, a2, b1, b2, h1, h2⟩ := h
  obtain ⟨m, rfl⟩ := Int.eq_ofNat_of_zero_le a1
  obtain ⟨k, rfl⟩ := Int.eq_ofNat_of_zero_le b1
  simp only [Int.toNat_natCast] at h1 h2
  have := dig_done (q := m) h1 h2 (by omega) (by omega)
  unfold digOf
  rw [← this]
/-- what the test reckons -/
theorem dig_test {u d y1 y0 : Nat} {a b : Int} (hn : Norm y1 y0) (hd : d < 4294967296) (h : DigI u d y1 y0 a b) (hc : ¬ 4294967296 ≤ a) :
    IntKind.u64.wrap (a * y0) = a * y0 ∧ IntKind.u64.wrap (IntKind.u64.wrap (4294967296 * b) + d) = 4294967296 * b + d := by
  obtain ⟨n1, n2, n3⟩ := hn
  obtain ⟨a1, a2, b1, b2, h1, h2⟩ := h
  have p0 : 0 ≤ a * y0 := Int.mul_nonneg a1 (by omega)
  have p1 : a * y0 ≤ 4294967295 * y0 := Int.mul_le_mul_of_nonneg_right (by omega) (by omega)
  refine ⟨wrap_nat p0 (by omega), ?_⟩
  rw [wrap_nat (n := 4294967296 * b) (by omega) (by omega)]
  exact wrap_nat (by omega) (by omega)
set_option maxRecDepth 100000 in
set_option maxHeartbeats 8000000 in
/-- The division proper, behind names for all that the code reckons first. -/
theorem div64_core (hi lo y s Y y1 y0 u L d1 d0 q r v R : Nat) (hs : s < 64) (w : World)
    (hlz : ∀ w, Calls Tryd.prog 110 #[.int .u64 (y : Int)] w fun e w' => e = .returned (.int .i64 (s : Int)) ∧ w' = w)
    (b1 : ((y : Int) == 0) = false) (b2 : decide ((y : Int) ≤ (hi : Int)) = false) (b2' : decide (y ≤ hi) = false) (b3 : ((hi : Int) == 0) = false)
    (e1 : IntKind.u64.wrap ((y : Int) * 2 ^ s) = (Y : Int)) (e2 : (Y : Int) / 4294967296 = (y1 : Int)) (e3 : bits BinOp.and IntKind.u64 (Y : Int) 4294967295 = (y0 : Int))
    (e4 : bits BinOp.or IntKind.u64 (IntKind.u64.wrap ((hi : Int) * 2 ^ s)) ((lo : Int) / 2 ^ (64 - s)) = (u : Int)) (e5 : IntKind.u64.wrap ((lo : Int) * 2 ^ s) = (L : Int))
    (e6 : (L : Int) / 4294967296 = (d1 : Int)) (e7 : bits BinOp.and IntKind.u64 (L : Int) 4294967295 = (d0 : Int)) (b4 : ((y1 : Int) == 0) = false) (b5 : ¬ (y1 : Int) = 0) (b6 : ¬ y1 = 0)
    (hn : Norm y1 y0) (hu : W64 u) (hlt : u < y1 * 4294967296 + y0) (hd1 : Hid (d1 < 4294967296)) (hd0 : Hid (d0 < 4294967296)) (hv : W64 v) (hvlt : v < y1 * 4294967296 + y0)
    (r1 : IntKind.u64.wrap (IntKind.u64.wrap (IntKind.u64.wrap ((u : Int) * 4294967296) + (d1 : Int)) - IntKind.u64.wrap ((digOf u d1 y1 y0 : Int) * (Y : Int))) = (v : Int))
    (r2 : IntKind.u64.wrap (IntKind.u64.wrap (IntKind.u64.wrap ((v : Int) * 4294967296) + (d0 : Int)) - IntKind.u64.wrap ((digOf v d0 y1 y0 : Int) * (Y : Int))) = (R : Int))
    (r3 : IntKind.u64.wrap (IntKind.u64.wrap ((digOf u d1 y1 y0 : Int) * 4294967296) + (digOf v d0 y1 y0 : Int)) = (q : Int)) (r4 : (R : Int) / 2 ^ s = (r : Int)) :
    Calls Tryd.prog 93 #[.int .u64 (hi : Int), .int .u64 (lo : Int), .int .u64 (y : Int)] w fun e w' => e = .returned (.tuple #[.int .u64 (q : Int), .int .u64 (r : Int)]) ∧ Ext w w' := by
  have HLZ := Lib.hid hlz
  have HN := Lib.hid hn
  have HLT := Lib.hid hlt
  have HVLT := Lib.hid hvlt
  clear hlz hn hlt hvlt
  go_enter Tryd.func93, Tryd.ntmps93
  go_wp2_with (go_at_call 110; refine (HLZ.out _).mono ?_; rintro e w' ⟨rfl, rfl⟩)
  go_loopw [15, 16] (fun x z wr => Ext w' wr ∧ ∃ a b : Int, x = .int .u64 a ∧ z = .int .u64 b ∧ Hid (DigI u d1 y1 y0 a b)) (fun x _ _ => (intOf x).toNat)
  case atStart =>
    obtain ⟨a, b, h1, h2, h3⟩ := dig_start (d := d1) HN.out hu HLT.out hd1.out
    exact ⟨Ext.refl _, a, b, by rw [h1], by rw [h2], h3⟩
  case round =>
    obtain ⟨hE, a, b, rfl, rfl, hd⟩ := hrel
    by_cases c1 : 4294967296 ≤ a
    · obtain ⟨n1, n2, n3, n4, n5⟩ := dig_next HN.out HLT.out hd1.out hd.out (.inl c1)
      have t1 : decide ((4294967296 : Int) ≤ a) = true := by simp; omega
      have N3 := Lib.hid n3
      have N4 := Lib.hid n4
      have C1 := Lib.hid c1
      have N5 := Lib.hid n5
      clear c1 n3 n4 n5
      by_cases c3 : 4294967296 ≤ b + y1
      · have c4 := N4.out c3
        have t2 : decide ((4294967296 : Int) ≤ b + y1) = true := by simp; omega
        rw [c4] at n1
        clear c3
        go_wp2
        go_loopw [18, 16] (fun x z wr => Ext w' wr ∧ ∃ a b : Int, x = .int .u64 a ∧ z = .int .u64 b ∧ Hid (DigI v d0 y1 y0 a b)) (fun x _ _ => (intOf x).toNat)
        case atStart =>
          obtain ⟨a, b, h1, h2, h3⟩ := dig_start (d := d0) HN.out hv HVLT.out hd0.out
          exact ⟨hE, a, b, by rw [h1], by rw [h2], h3⟩
        case round =>
          clear hE hd
          obtain ⟨hE, a, b, rfl, rfl, hd⟩ := hrel
          by_cases c1 : 4294967296 ≤ a
          · obtain ⟨n1, n2, n3, n4, n5⟩ := dig_next HN.out HVLT.out hd0.out hd.out (.inl c1)
            have t1 : decide ((4294967296 : Int) ≤ a) = true := by simp; omega
            have N3 := Lib.hid n3
            have N4 := Lib.hid n4
            have C1 := Lib.hid c1
            have N5 := Lib.hid n5
            clear c1 n3 n4 n5
            by_cases c3 : 4294967296 ≤ b + y1
            · have c4 := N4.out c3
              have t2 : decide ((4294967296 : Int) ≤ b + y1) = true := by simp; omega
              rw [c4] at n1
              clear c3
              go_wp2
              go_ret2
              exact ⟨rfl, hE⟩
            · have t2 : decide ((4294967296 : Int) ≤ b + y1) = false := by simp; omega
              have C3 := Lib.hid c3
              clear c3
              go_wp2
              go_roundw
              case rel => exact ⟨hE, a - 1, b + y1, rfl, rfl, N3.out (by have := C3.out; omega)⟩
              case measure => have := N5.out; simp [intOf]; omega
          · obtain ⟨m1, m2⟩ := dig_test HN.out hd0.out hd.out c1
            have t1 : decide ((4294967296 : Int) ≤ a) = false := by simp; omega
            have C1 := Lib.hid c1
            clear c1
            by_cases c2 : 4294967296 * b + d0 < a * y0
            · obtain ⟨n1, n2, n3, n4, n5⟩ := dig_next HN.out HVLT.out hd0.out hd.out (.inr c2)
              have t3 : decide (4294967296 * b + (d0 : Int) < a * (y0 : Int)) = true := decide_eq_true c2
              have N3 := Lib.hid n3
              have N4 := Lib.hid n4
              have N5 := Lib.hid n5
              clear c2 n3 n4 n5
              by_cases c3 : 4294967296 ≤ b + y1
              · have c4 := N4.out c3
                have t2 : decide ((4294967296 : Int) ≤ b + y1) = true := by simp; omega
                rw [c4] at n1
                clear c3
                go_wp2
                go_ret2
                exact ⟨rfl, hE⟩
              · have t2 : decide ((4294967296 : Int) ≤ b + y1) = false := by simp; omega
                have C3 := Lib.hid c3
                clear c3
                go_wp2
                go_roundw
                case rel => exact ⟨hE, a - 1, b + y1, rfl, rfl, N3.out (by have := C3.out; omega)⟩
                case measure => have := N5.out; simp [intOf]; omega
            · have t3 : decide (4294967296 * b + (d0 : Int) < a * (y0 : Int)) = false := decide_eq_false c2
              have c4 := dig_exit HN.out hd.out (Int.not_lt.1 c2)
              clear c2 m1 m2
              subst c4
              obtain ⟨m1, m2⟩ := dig_test HN.out hd0.out hd.out C1.out
              go_wp2
              go_ret2
              exact ⟨rfl, hE⟩
      · have t2 : decide ((4294967296 : Int) ≤ b + y1) = false := by simp; omega
        have C3 := Lib.hid c3
        clear c3
        go_wp2
        go_roundw
        case rel => exact ⟨hE, a - 1, b + y1, rfl, rfl, N3.out (by have := C3.out; omega)⟩
        case measure => have := N5.out; simp [intOf]; omega
    · obtain ⟨m1, m2⟩ := dig_test HN.out hd1.out hd.out c1
      have t1 : decide ((4294967296 : Int) ≤ a) = false := by simp; omega
      have C1 := Lib.hid c1
      clear c1
      by_cases c2 : 4294967296 * b + d1 < a * y0
      · obtain ⟨n1, n2, n3, n4, n5⟩ := dig_next HN.out HLT.out hd1.out hd.out (.inr c2)
        have t3 : decide (4294967296 * b + (d1 : Int) < a * (y0 : Int)) = true := decide_eq_true c2
        have N3 := Lib.hid n3
        have N4 := Lib.hid n4
        have N5 := Lib.hid n5
        clear c2 n3 n4 n5
        by_cases c3 : 4294967296 ≤ b + y1
        · have c4 := N4.out c3
          have t2 : decide ((4294967296 : Int) ≤ b + y1) = true := by simp; omega
          rw [c4] at n1
          clear c3
          go_wp2
          go_loopw [18, 16] (fun x z wr => Ext w' wr ∧ ∃ a b : Int, x = .int .u64 a ∧ z = .int .u64 b ∧ Hid (DigI v d0 y1 y0 a b)) (fun x _ _ => (intOf x).toNat)
          case atStart =>
            obtain ⟨a, b, h1, h2, h3⟩ := dig_start (d := d0) HN.out hv HVLT.out hd0.out
            exact ⟨hE, a, b, by rw [h1], by rw [h2], h3⟩
          case round =>
            clear hE hd
            obtain ⟨hE, a, b, rfl, rfl, hd⟩ := hrel
            by_cases c1 : 4294967296 ≤ a
            · obtain ⟨n1, n2, n3, n4, n5⟩ := dig_next HN.out HVLT.out hd0.out hd.out (.inl c1)
              have t1 : decide ((4294967296 : Int) ≤ a) = true := by simp; omega
              have N3 := Lib.hid n3
              have N4 := Lib.hid n4
              have C1 := Lib.hid c1
              have N5 := Lib.hid n5
              clear c1 n3 n4 n5
              by_cases c3 : 4294967296 ≤ b + y1
              · have c4 := N4.out c3
                have t2 : decide ((4294967296 : Int) ≤ b + y1) = true := by simp; omega
                rw [c4] at n1
                clear c3
                go_wp2
                go_ret2
                exact ⟨rfl, hE⟩
              · have t2 : decide ((4294967296 : Int) ≤ b + y1) = false := by simp; omega
                have C3 := Lib.hid c3
                clear c3
                go_wp2
                go_roundw
                case rel => exact ⟨hE, a - 1, b + y1, rfl, rfl, N3.out (by have := C3.out; omega)⟩
                case measure => have := N5.out; simp [intOf]; omega
            · obtain ⟨m1, m2⟩ := dig_test HN.out hd0.out hd.out c1
              have t1 : decide ((4294967296 : Int) ≤ a) = false := by simp; omega
              have C1 := Lib.hid c1
              clear c1
              by_cases c2 : 4294967296 * b + d0 < a * y0
              · obtain ⟨n1, n2, n3, n4, n5⟩ := dig_next HN.out HVLT.out hd0.out hd.out (.inr c2)
                have t3 : decide (4294967296 * b + (d0 : Int) < a * (y0 : Int)) = true := decide_eq_true c2
                have N3 := Lib.hid n3
                have N4 := Lib.hid n4
                have N5 := Lib.hid n5
                clear c2 n3 n4 n5
                by_cases c3 : 4294967296 ≤ b + y1
                · have c4 := N4.out c3
                  have t2 : decide ((4294967296 : Int) ≤ b + y1) = true := by simp; omega
                  rw [c4] at n1
                  clear c3
                  go_wp2
                  go_ret2
                  exact ⟨rfl, hE⟩
                · have t2 : decide ((4294967296 : Int) ≤ b + y1) = false := by simp; omega
                  have C3 := Lib.hid c3
                  clear c3
                  go_wp2
                  go_roundw
                  case rel => exact ⟨hE, a - 1, b + y1, rfl, rfl, N3.out (by have := C3.out; omega)⟩
                  case measure => have := N5.out; simp [intOf]; omega
              · have t3 : decide (4294967296 * b + (d0 : Int) < a * (y0 : Int)) = false := decide_eq_false c2
                have c4 := dig_exit HN.out hd.out (Int.not_lt.1 c2)
                clear c2 m1 m2
                subst c4
                obtain ⟨m1, m2⟩ := dig_test HN.out hd0.out hd.out C1.out
                go_wp2
                go_ret2
                exact ⟨rfl, hE⟩
        · have t2 : decide ((4294967296 : Int) ≤ b + y1) = false := by simp; omega
          have C3 := Lib.hid c3
          clear c3
          go_wp2
          go_roundw
          case rel => exact ⟨hE, a - 1, b + y1, rfl, rfl, N3.out (by have := C3.out; omega)⟩
          case measure => have := N5.out; simp [intOf]; omega
      · have t3 : decide (4294967296 * b + (d1 : Int) < a * (y0 : Int)) = false := decide_eq_false c2
        have c4 := dig_exit HN.out hd.out (Int.not_lt.1 c2)
        clear c2 m1 m2
        subst c4
        obtain ⟨m1, m2⟩ := dig_test HN.out hd1.out hd.out C1.out
        go_wp2
        go_loopw [18, 16] (fun x z wr => Ext w' wr ∧ ∃ a b : Int, x = .int .u64 a ∧ z = .int .u64 b ∧ Hid (DigI v d0 y1 y0 a b)) (fun x _ _ => (intOf x).toNat)
        case atStart =>
          obtain ⟨a, b, h1, h2, h3⟩ := dig_start (d := d0) HN.out hv HVLT.out hd0.out
          exact ⟨hE, a, b, by rw [h1], by rw [h2], h3⟩
        case round =>
          clear hE hd
          obtain ⟨hE, a, b, rfl, rfl, hd⟩ := hrel
          by_cases c1 : 4294967296 ≤ a
          · obtain ⟨n1, n2, n3, n4, n5⟩ := dig_next HN.out HVLT.out hd0.out hd.out (.inl c1)
            have t1 : decide ((4294967296 : Int) ≤ a) = true := by simp; omega
            have N3 := Lib.hid n3
            have N4 := Lib.hid n4
            have C1 := Lib.hid c1
            have N5 := Lib.hid n5
            clear c1 n3 n4 n5
            by_cases c3 : 4294967296 ≤ b + y1
            · have c4 := N4.out c3
              have t2 : decide ((4294967296 : Int) ≤ b + y1) = true := by simp; omega
              rw [c4] at n1
              clear c3
              go_wp2
              go_ret2
              exact ⟨rfl, hE⟩
            · have t2 : decide ((4294967296 : Int) ≤ b + y1) = false := by simp; omega
              have C3 := Lib.hid c3
              clear c3
              go_wp2
              go_roundw
              case rel => exact ⟨hE, a - 1, b + y1, rfl, rfl, N3.out (by have := C3.out; omega)⟩
              case measure => have := N5.out; simp [intOf]; omega
          · obtain ⟨m1, m2⟩ := dig_test HN.out hd0.out hd.out c1
            have t1 : decide ((4294967296 : Int) ≤ a) = false := by simp; omega
            have C1 := Lib.hid c1
            clear c1
            by_cases c2 : 4294967296 * b + d0 < a * y0
            · obtain ⟨n1, n2, n3, n4, n5⟩ := dig_next HN.out HVLT.out hd0.out hd.out (.inr c2)
              have t3 : decide (4294967296 * b + (d0 : Int) < a * (y0 : Int)) = true := decide_eq_true c2
              have N3 := Lib.hid n3
              have N4 := Lib.hid n4
              have N5 := Lib.hid n5
              clear c2 n3 n4 n5
              by_cases c3 : 4294967296 ≤ b + y1
              · have c4 := N4.out c3
                have t2 : decide ((4294967296 : Int) ≤ b + y1) = true := by simp; omega
                rw [c4] at n1
                clear c3
                go_wp2
                go_ret2
                exact ⟨rfl, hE⟩
              · have t2 : decide ((4294967296 : Int) ≤ b + y1) = false := by simp; omega
                have C3 := Lib.hid c3
                clear c3
                go_wp2
                go_roundw
                case rel => exact ⟨hE, a - 1, b + y1, rfl, rfl, N3.out (by have := C3.out; omega)⟩
                case measure => have := N5.out; simp [intOf]; omega
            · have t3 : decide (4294967296 * b + (d0 : Int) < a * (y0 : Int)) = false := decide_eq_false c2
              have c4 := dig_exit HN.out hd.out (Int.not_lt.1 c2)
              clear c2 m1 m2
              subst c4
              obtain ⟨m1, m2⟩ := dig_test HN.out hd0.out hd.out C1.out
              go_wp2
              go_ret2
              exact ⟨rfl, hE⟩
end Go.Proofs.YtodoimeiklilhaaDoor

/- The walks of math/bits.Div64, in full, and of the division of a number of two words by a word. -/
namespace Go.Proofs.YtodoimeiklilhaaDoor
open Go.RowKit Go.Sort

theorem div_wrap {u d Q Y v : Nat} (h : Y * Q + v = u * 4294967296 + d) (hv : v < 18446744073709551616) :
    IntKind.u64.wrap (IntKind.u64.wrap (IntKind.u64.wrap ((u : Int) * 4294967296) + (d : Int)) - IntKind.u64.wrap ((Q : Int) * (Y : Int))) = (v : Int) := by
  rw [wrap_u64_eq, wrap_u64_eq, wrap_u64_eq, wrap_u64_eq]
  have e : (Q : Int) * (Y : Int) = ((Y * Q : Nat) : Int) := by rw [Nat.mul_comm]; exact (Int.natCast_mul _ _).symm
  rw [e]
  generalize Y * Q = P at *
  omega
theorem join_wrap {a b : Nat} (ha : a < 4294967296) (hb : b < 4294967296) : IntKind.u64.wrap (IntKind.u64.wrap ((a : Int) * 4294967296) + (b : Int)) = ((a * 4294967296 + b : Nat) : Int) := by
  rw [wrap_u64_eq, wrap_u64_eq]
  omega
theorem c_div64_small (lo y : Nat) (hy0 : 0 < y) (hlo : W64 lo) (w : World) :
    Calls Tryd.prog 93 #[.int .u64 0, .int .u64 (lo : Int), .int .u64 (y : Int)] w fun e w' => e = .returned (.tuple #[.int .u64 ((lo / y : Nat) : Int), .int .u64 ((lo % y : Nat) : Int)]) ∧ Ext w w' := by
  have b1 : ((y : Int) == 0) = false := by simp; omega
  have b2 : decide ((y : Int) ≤ 0) = false := by simp; omega
  have b3 : ¬ (y : Int) = 0 := by omega
  have b4 : ¬ y = 0 := by omega
  have q1 : IntKind.u64.wrap ((lo : Int) / (y : Int)) = (lo : Int) / (y : Int) := w64_in (Nat.lt_of_le_of_lt (Nat.div_le_self _ _) hlo)
  set_option maxRecDepth 100000 in
  go_enter Tryd.func93, Tryd.ntmps93
  go_wp2
  go_quiet (fail)
  go_wp2
  go_ret2
  exact ⟨rfl, (by repeat (first | exact Ext.refl _ | assumption | refine Ext.alloc ?_ _ | refine Ext.drewN ?_ _ | refine ext_grow ?_ _ _ | refine Ext.setCell ?_ (by first | exact Nat.le_refl _ | omega | (simp; done) | (simp; omega)) _ | refine Ext.trans ?_ (by assumption)))⟩
theorem c_div64 (hi lo y : Nat) (hy : W64 y) (hlo : W64 lo) (h : hi < y) (w : World) :
    Calls Tryd.prog 93 #[.int .u64 (hi : Int), .int .u64 (lo : Int), .int .u64 (y : Int)] w fun e w' => e = .returned (.tuple #[.int .u64 (((hi * 18446744073709551616 + lo) / y : Nat) : Int), .int .u64 (((hi * 18446744073709551616 + lo) % y : Nat) : Int)]) ∧ Ext w w' := by
  rcases Nat.eq_zero_or_pos hi with h0 | h0
  · subst h0
    rw [show 0 * 18446744073709551616 + lo = lo by omega]
    exact c_div64_small lo y h hlo w
  · have hy2 : y < 2 ^ 64 := hy
    obtain ⟨l1, l2, l3⟩ := Lib.bitLenAux_bounds 64 y hy2 (by omega)
    have l4 := Lib.bitLen_le y 64 (by omega) hy2
    obtain ⟨n, hn⟩ : ∃ n, Lib.bitLenAux 64 y = n := ⟨_, rfl⟩
    have hn' : Lib.bitLen y = n := hn
    rw [hn] at l1 l2 l3
    rw [hn'] at l4
    obtain ⟨s, hs⟩ : ∃ s, s = 64 - n := ⟨_, rfl⟩
    have hs64 : s < 64 := by omega
    have hlz : ∀ w, Calls Tryd.prog 110 #[.int .u64 (y : Int)] w fun e w' => e = .returned (.int .i64 (s : Int)) ∧ w' = w := by
      intro w
      have := Tryd.bits_LeadingZeros64 (y : Int) w (by omega) (by unfold W64 at hy; omega)
      rw [Int.toNat_natCast, hn', show (64 : Int) - (n : Int) = (s : Int) by omega] at this
      exact this
    have p1 : (2 : Nat) ^ (n - 1) * 2 ^ s = 9223372036854775808 := by rw [← Nat.pow_add, show n - 1 + s = 63 by omega]
    have p2 : (2 : Nat) ^ n * 2 ^ s = 18446744073709551616 := by rw [← Nat.pow_add, show n + s = 64 by omega]
    have sp : 0 < (2 : Nat) ^ s := Nat.two_pow_pos s
    have y1' : 9223372036854775808 ≤ y * 2 ^ s := by rw [← p1]; exact Nat.mul_le_mul_right _ l2
    have y2' : y * 2 ^ s < 18446744073709551616 := by rw [← p2]; exact (Nat.mul_lt_mul_right sp).2 l3
    have hX := split_high (hi := hi) (lo := lo) (s := s) (by omega)
    have u1 : hi * 2 ^ s + lo / 2 ^ (64 - s) < y * 2 ^ s := by
      have h1 : lo / 2 ^ (64 - s) < 2 ^ s := by
        rw [Nat.div_lt_iff_lt_mul (Nat.two_pow_pos _), ← Nat.pow_add, show s + (64 - s) = 64 by omega]
        exact hlo
      have h2 : (hi + 1) * 2 ^ s ≤ y * 2 ^ s := Nat.mul_le_mul_right _ h
      rw [Nat.add_mul] at h2
      omega
    have hhi : hi * 2 ^ s < 18446744073709551616 := Nat.lt_of_le_of_lt (Nat.le_add_right _ _) (Nat.lt_trans u1 y2')
    have eor := or_high hs64 hlo (show W64 (hi * 2 ^ s) from hhi)
    have pc : ((2 : Int) ^ s) = ((2 ^ s : Nat) : Int) := by simp
    have pc2 : ((2 : Int) ^ (64 - s)) = ((2 ^ (64 - s) : Nat) : Int) := by simp
    obtain ⟨Y, hY⟩ : ∃ Y, y * 2 ^ s = Y := ⟨_, rfl⟩
    obtain ⟨u, hu⟩ : ∃ u, hi * 2 ^ s + lo / 2 ^ (64 - s) = u := ⟨_, rfl⟩
    obtain ⟨L, hL⟩ : ∃ L, lo * 2 ^ s % 18446744073709551616 = L := ⟨_, rfl⟩
    rw [hY] at y1' y2' u1
    rw [hu] at u1
    rw [hu, hL] at hX
    have hL2 : L < 18446744073709551616 := by rw [← hL]; exact Nat.mod_lt _ (by omega)
    have hYe : Y / 4294967296 * 4294967296 + Y % 4294967296 = Y := by omega
    have hLe : L = L / 4294967296 * 4294967296 + L % 4294967296 := by omega
    have hYp : 0 < Y := by omega
    obtain ⟨v, hv⟩ : ∃ v, (u * 4294967296 + L / 4294967296) % Y = v := ⟨_, rfl⟩
    obtain ⟨R, hR⟩ : ∃ R, (v * 4294967296 + L % 4294967296) % Y = R := ⟨_, rfl⟩
    have hvY : v < Y := by rw [← hv]; exact Nat.mod_lt _ hYp
    have hRY : R < Y := by rw [← hR]; exact Nat.mod_lt _ hYp
    have dq1 : digOf u (L / 4294967296) (Y / 4294967296) (Y % 4294967296) = (u * 4294967296 + L / 4294967296) / Y := by unfold digOf; rw [hYe]
    have dq2 : digOf v (L % 4294967296) (Y / 4294967296) (Y % 4294967296) = (v * 4294967296 + L % 4294967296) / Y := by unfold digOf; rw [hYe]
    have q1lt : digOf u (L / 4294967296) (Y / 4294967296) (Y % 4294967296) < 4294967296 := by rw [dq1]; exact dig_lt u1 (by omega)
    have q2lt : digOf v (L % 4294967296) (Y / 4294967296) (Y % 4294967296) < 4294967296 := by rw [dq2]; exact dig_lt hvY (by omega)
    obtain ⟨f1, f2⟩ := long_div (X := hi * 18446744073709551616 + lo) (y := y) (S := 2 ^ s) (by omega) sp hY.symm hX hLe dq1 hv.symm dq2 hR.symm
    rw [f1, f2]
    refine div64_core hi lo y s Y (Y / 4294967296) (Y % 4294967296) u L (L / 4294967296) (L % 4294967296) _ _ v R hs64 w hlz (by simp; omega) (by simp; omega) (by simp; omega) (by simp; omega) ?_ rfl (and_low y2') ?_ ?_ rfl (and_low hL2) ?_ ?_ ?_ ?_ ?_ ?_ ?_ ?_ ?_ ?_ ?_ ?_ ?_ ?_
    · rw [pc]; exact w_eq (by rw [← hY]; exact (Int.natCast_mul _ _).symm) y2'
    · rw [pc, pc2, show IntKind.u64.wrap ((hi : Int) * ((2 ^ s : Nat) : Int)) = ((hi * 2 ^ s : Nat) : Int) from w_eq (Int.natCast_mul _ _).symm hhi]
      rw [← hu]
      exact eor
    · rw [pc]
      refine w_mod ?_
      rw [← hL, ← Int.natCast_mul]
      rfl
    · have : ¬ Y / 4294967296 = 0 := by omega
      simp; omega
    · omega
    · omega
    · exact ⟨by omega, by omega, by omega⟩
    · exact Nat.lt_trans u1 y2'
    · omega
    · exact show L / 4294967296 < 4294967296 by omega
    · exact show L % 4294967296 < 4294967296 by omega
    · exact Nat.lt_trans hvY y2'
    · omega
    · refine div_wrap ?_ (Nat.lt_trans hvY y2')
      rw [dq1, ← hv]
      exact Nat.div_add_mod _ _
    · refine div_wrap ?_ (Nat.lt_trans hRY y2')
      rw [dq2, ← hR]
      exact Nat.div_add_mod _ _
    · exact join_wrap q1lt q2lt
    · rw [pc]
      rfl
theorem info_pair : (Tryd.prog.info? 85).map (·.size) = some 2 := by kernel_rfl
theorem mul_parts {x d A R : Nat} (hd : 0 < d) (e : x = d * A + R) : x / d = A + R / d ∧ x % d = R % d := by
  subst e
  exact ⟨Nat.mul_add_div hd _ _, Nat.mul_add_mod _ _ _⟩
theorem div_hi {x d : Nat} (hd : 0 < d) : x / d = hiW x / d * 18446744073709551616 + (hiW x % d * 18446744073709551616 + loW x) / d ∧ x % d = (hiW x % d * 18446744073709551616 + loW x) % d := by
  have h1 := pair_eta x
  have h2 := Nat.div_add_mod (hiW x) d
  have e : x = d * (hiW x / d * 18446744073709551616) + (hiW x % d * 18446744073709551616 + loW x) := by
    have h3 : (d * (hiW x / d) + hiW x % d) * 18446744073709551616 = hiW x * 18446744073709551616 := by rw [h2]
    rw [Nat.add_mul, Nat.mul_assoc] at h3
    omega
  exact mul_parts hd e
set_option maxRecDepth 100000 in
set_option maxHeartbeats 1000000 in
theorem c_div (x d : Nat) (hx : W128 x) (hd : W64 d) (h0 : 0 < d) (w : World) :
    Calls Tryd.prog 70 #[pairV x, .int .u64 (d : Int)] w fun e w' => e = .returned (.tuple #[pairV (x / d), .int .u64 ((x % d : Nat) : Int)]) ∧ Ext w w' := by
  obtain ⟨e1, e2⟩ := div_hi (x := x) h0
  have hq : (hiW x % d * 18446744073709551616 + loW x) / d < 18446744073709551616 := by
    rw [Nat.div_lt_iff_lt_mul h0]
    have h1 := Nat.mod_lt (hiW x) h0
    have h2 := loW_64 x
    unfold W64 at h2
    generalize hiW x % d = m at *
    omega
  have f12 : hiW (x / d) = hiW x / d ∧ loW (x / d) = (hiW x % d * 18446744073709551616 + loW x) / d := by
    rw [e1]
    generalize (hiW x % d * 18446744073709551616 + loW x) / d = B at *
    generalize hiW x / d = A at *
    unfold hiW loW
    omega
  obtain ⟨f1, f2⟩ := f12
  have b1 : ((d : Int) == 0) = false := by simp; omega
  have b3 : ¬ (d : Int) = 0 := by omega
  have b4 : ¬ d = 0 := by omega
  have q1 : IntKind.u64.wrap ((hiW x : Int) / (d : Int)) = (hiW x : Int) / (d : Int) := w64_in (Nat.lt_of_le_of_lt (Nat.div_le_self _ _) (hiW_64 hx))
  have cd : ∀ w, Calls Tryd.prog 93 #[.int .u64 ((hiW x : Int) % (d : Int)), .int .u64 (loW x : Int), .int .u64 (d : Int)] w fun e w' => e = .returned (.tuple #[.int .u64 (loW (x / d) : Int), .int .u64 ((x % d : Nat) : Int)]) ∧ Ext w w' := by
    intro w
    have := c_div64 (hiW x % d) (loW x) d hd (loW_64 x) (Nat.mod_lt _ h0) w
    rw [← e2, ← f2] at this
    exact this
  have CD := Lib.hid cd
  have F1 := Lib.hid f1
  clear cd e1 e2 f1 f2 hq
  go_enter Tryd.func70, Tryd.ntmps70
  go_wp2
  go_quiet (fail)
  go_wp2_with (go_at_call 93; refine (Ext.lift (CD.out _) (by first | assumption | exact Ext.alloc (by assumption) _ | exact Ext.refl _)).mono ?_; rintro e w' ⟨rfl, hb⟩; have hc := hb.cell; have hf := hb.frozen)
  refine bodyPost_ret (RT.results_row2 rfl _ _ (w.heap.size + 1) 85 _ (0, 0) _ rfl (store_pair (hb.blk (two_second w _ _))).1 Tryd.underlying85 rfl info_pair) rfl ?_
  refine ⟨ret_val ?_, (store_pair (hb.blk (two_second w _ _))).2.2 w (by omega) (by repeat (first | exact Ext.refl _ | assumption | refine Ext.alloc ?_ _ | refine Ext.drewN ?_ _ | refine ext_grow ?_ _ _ | refine Ext.setCell ?_ (by first | exact Nat.le_refl _ | omega | (simp; done) | (simp; omega)) _ | refine Ext.trans ?_ (by assumption)))⟩
  show Value.tuple #[.agg #[.int .u64 ((hiW x : Int) / (d : Int)), _], _] = _
  rw [show (hiW x : Int) / (d : Int) = (hiW (x / d) : Int) by rw [F1.out]; rfl]
  rfl
end Go.Proofs.YtodoimeiklilhaaDoor
