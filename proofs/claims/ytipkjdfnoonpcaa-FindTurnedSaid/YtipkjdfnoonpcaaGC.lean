/- Joined from the parts Tpl, Offset, Dir, OffFn, Sten, Bound1, BoundFn. -/
import Derived.Test.YtipkjdfnoonpcaaGA
import Derived.BigRegion
import Derived.Deep.DrawnRows
import Derived.Deep.RegionHeld3
set_option linter.unusedVariables false
set_option linter.unusedSimpArgs false
/- Valid templates, turns, rounding: the program's walks. -/
namespace Go.Proofs.Ytipkjdfnoonpcaa
open Go.RowKit Go.Sort

/-- what 'slices.Max' answers, as far as it matters here -/
def MaxIs (l : List Int) (w : World) (e : Ending) (w' : World) : Prop := ∃ M : Int, e = .returned (.int .i64 M) ∧ (0 ≤ M ↔ ∃ n ∈ l, 0 ≤ n) ∧ Ext w w'
theorem ex_snoc {l : List Int} {k : Nat} (hk : k < l.length) : (∃ n ∈ l.take (k + 1), 0 ≤ n) ↔ (∃ n ∈ l.take k, 0 ≤ n) ∨ 0 ≤ l.getD k 0 := by
  rw [List.take_succ_eq_append_getElem hk, List.getD_eq_getElem?_getD, List.getElem?_eq_getElem hk]
  constructor
  · rintro ⟨n, hn, h0⟩
    rcases List.mem_append.1 hn with h9 | h9
    · exact .inl ⟨n, h9, h0⟩
    · have := List.mem_singleton.1 h9
      subst this
      exact .inr h0
  · rintro (⟨n, hn, h0⟩ | h0)
    · exact ⟨n, List.mem_append_left _ hn, h0⟩
    · exact ⟨_, List.mem_append_right _ (List.mem_singleton.2 rfl), h0⟩
set_option maxHeartbeats 2000000 in
theorem c94 (l : List Int) (v : Value) (w : World) (hv : IntsAt w v l) (h1 : 1 ≤ l.length) (hl : l.length ≤ maxLen) :
    Calls Try.prog 94 #[v] w (MaxIs l w) := by
  unfold maxLen at hl
  obtain ⟨ao, cap, rfl, -, hc⟩ := hv.form
  have HC := Lib.hid hc
  obtain ⟨b, off, rfl, c0⟩ := hc 0 (by omega)
  rw [Nat.add_zero] at c0
  obtain ⟨x0, hx0⟩ : ∃ x, l.getD 0 0 = x := ⟨_, rfl⟩
  rw [hx0] at c0
  have HX0 := Lib.hid hx0
  clear hc hv hx0
  go_enter Try.func94, Try.ntmps94
  go_wp2
  go_loop [3, 4] (fun mv i => ∃ (k : Nat) (M : Int), 1 ≤ k ∧ k ≤ l.length ∧ i = .int .i64 (k : Int) ∧ mv = .int .i64 M ∧ Hid (0 ≤ M ↔ ∃ n ∈ l.take k, 0 ≤ n)) (fun _ i => l.length - (intOf i).toNat)
  case atStart => exact ⟨1, x0, by omega, by omega, rfl, rfl, Lib.hid (by have := (ex_snoc (l := l) (k := 0) (by omega)); rw [HX0.out] at this; rw [this]; simp)⟩
  case round =>
    obtain ⟨k, M, hk1, hk, rfl, rfl, hI⟩ := hrel
    by_cases hkl : k < l.length
    · obtain ⟨b9, off9, he, c1⟩ := HC.out k hkl
      injection he with he
      injection he with e1 e2
      subst e1
      subst e2
      obtain ⟨x, hx⟩ : ∃ x, l.getD k 0 = x := ⟨_, rfl⟩
      rw [hx] at c1
      have HX := Lib.hid hx
      clear hx
      rcases Int.lt_or_le M x with hm | hm
      · go_wp2
        go_round
        case rel => exact ⟨k + 1, x, by omega, by omega, by go_num, rfl, Lib.hid (by rw [ex_snoc hkl, HX.out]; exact ⟨fun h => .inr h, fun h => by rcases h with h | h; have := hI.out.2 h; omega; exact h⟩)⟩
        case measure => simp [intOf]; omega
      · go_wp2
        go_round
        case rel => exact ⟨k + 1, M, by omega, by omega, by go_num, rfl, Lib.hid (by rw [ex_snoc hkl, HX.out]; exact ⟨fun h => .inl (hI.out.1 h), fun h => by rcases h with h | h; exact hI.out.2 h; omega⟩)⟩
        case measure => simp [intOf]; omega
    · have hT := hI.out
      rw [List.take_of_length_le (by omega)] at hT
      have HT := Lib.hid hT
      clear hT hI
      go_wp2
      go_ret
      exact ⟨M, rfl, HT.out, Ext.refl _⟩
def tplVal (t : Tpl) (v : Value) : Value := .agg #[.int .i64 t.w, .int .i64 t.h, v]
theorem mul_side8 {a b : Int} (h : (1 ≤ a ∧ a ≤ 8) ∧ 1 ≤ b ∧ b ≤ 8) : 1 ≤ a * b ∧ a * b ≤ 64 := by
  have h1 : 1 * 1 ≤ a * b := Int.mul_le_mul h.1.1 h.2.1 (by omega) (by omega)
  have h2 : a * b ≤ 8 * 8 := Int.mul_le_mul h.1.2 h.2.2 (by omega) (by omega)
  omega
set_option maxHeartbeats 4000000 in
theorem c56 (t : Tpl) (v : Value) (w : World) (hv : IntsAt w v t.pix) (hl : t.pix.length ≤ maxLen) :
    Calls Try.prog 56 #[tplVal t v] w fun e w' => e = .returned (.bool (decide t.Ok)) ∧ Ext w w' := by
  have HV := Lib.hid hv
  obtain ⟨ao, cap, rfl, -, -⟩ := hv.form
  have hlm : t.pix.length ≤ 9223372036854775807 := hl
  unfold tplVal
  by_cases hs : (1 ≤ t.w ∧ t.w ≤ 8) ∧ 1 ≤ t.h ∧ t.h ≤ 8
  case neg =>
    have q1 : decide ((1 ≤ t.w ∧ t.w ≤ 8) ∧ 1 ≤ t.h ∧ t.h ≤ 8) = false := decide_eq_false hs
    have HS := Lib.hid hs
    clear hs hv
    go_enter Try.func56, Try.ntmps56
    go_wp2_with (go_at_call 50; (with_reducible refine (within_two_same 50 (.inl rfl) _ _ _ _ _ _ (by simp)).mono ?_); rintro E w1 ⟨rfl, rfl⟩; have tok := True.intro)
    go_ret
    exact ⟨ret_bool (decide_eq_false (fun h => HS.out ⟨h.1.1, h.1.2.1⟩)).symm, (by repeat (first | exact Ext.refl _ | assumption | refine Ext.alloc ?_ _ | refine Ext.drewN ?_ _ | refine ext_grow ?_ _ _ | refine Ext.trans ?_ (by assumption)))⟩
  obtain ⟨p1, p2⟩ := mul_side8 hs
  have q1 : decide ((1 ≤ t.w ∧ t.w ≤ 8) ∧ 1 ≤ t.h ∧ t.h ≤ 8) = true := decide_eq_true hs
  have HS := Lib.hid hs
  clear hs
  by_cases hn : (t.pix.length : Int) = t.w * t.h
  case neg =>
    have q2 : ((t.pix.length : Int) == t.w * t.h) = false := by simpa using hn
    have HN := Lib.hid hn
    clear hn hv
    go_enter Try.func56, Try.ntmps56
    go_wp2_with (go_at_call 50; (with_reducible refine (within_two_same 50 (.inl rfl) _ _ _ _ _ _ (by simp)).mono ?_); rintro E w1 ⟨rfl, rfl⟩; have tok := True.intro)
    go_ret
    exact ⟨ret_bool (decide_eq_false (fun h => HN.out h.1.2.2)).symm, (by repeat (first | exact Ext.refl _ | assumption | refine Ext.alloc ?_ _ | refine Ext.drewN ?_ _ | refine ext_grow ?_ _ _ | refine Ext.trans ?_ (by assumption)))⟩
  have q2 : ((t.pix.length : Int) == t.w * t.h) = true := by simpa using hn
  have hlen1 : 1 ≤ t.pix.length := by omega
  have K94 := Lib.hid (fun w' (h : Ext w w') => c94 t.pix _ w' (HV.out.ext h) hlen1 hl)
  have HN := Lib.hid hn
  clear hn hv
  by_cases ha : allIn (-1) 255 t.pix
  case neg =>
    have q3 : decide (allIn (-1) 255 t.pix) = false := decide_eq_false ha
    have HA := Lib.hid ha
    clear ha
    go_enter Try.func56, Try.ntmps56
    go_wp2_with (first | (have _q := tok; go_at_call 50; (with_reducible refine (within_same 50 (.inl rfl) _ _ _ t.pix _ (HV.out.ext (by repeat (first | exact Ext.refl _ | assumption | refine Ext.alloc ?_ _ | refine Ext.drewN ?_ _ | refine ext_grow ?_ _ _ | refine Ext.trans ?_ (by assumption)))) hl).mono ?_); rintro E w2 ⟨rfl, rfl⟩) | (go_at_call 50; (with_reducible refine (within_two_same 50 (.inl rfl) _ _ _ _ _ _ (by simp)).mono ?_); rintro E w1 ⟨rfl, rfl⟩; have tok := True.intro))
    go_ret
    exact ⟨ret_bool (decide_eq_false (fun h => HA.out h.2.1)).symm, (by repeat (first | exact Ext.refl _ | assumption | refine Ext.alloc ?_ _ | refine Ext.drewN ?_ _ | refine ext_grow ?_ _ _ | refine Ext.trans ?_ (by assumption)))⟩
  have q3 : decide (allIn (-1) 255 t.pix) = true := decide_eq_true ha
  have HA := Lib.hid ha
  clear ha
  go_enter Try.func56, Try.ntmps56
  go_wp2_with (first | (have _q := tok; go_at_call 50; (with_reducible refine (within_same 50 (.inl rfl) _ _ _ t.pix _ (HV.out.ext (by repeat (first | exact Ext.refl _ | assumption | refine Ext.alloc ?_ _ | refine Ext.drewN ?_ _ | refine ext_grow ?_ _ _ | refine Ext.trans ?_ (by assumption)))) hl).mono ?_); rintro E w2 ⟨rfl, rfl⟩) | (go_at_call 50; (with_reducible refine (within_two_same 50 (.inl rfl) _ _ _ _ _ _ (by simp)).mono ?_); rintro E w1 ⟨rfl, rfl⟩; have tok := True.intro) | (go_at_call 94; (with_reducible refine (K94.out _ (by repeat (first | exact Ext.refl _ | assumption | refine Ext.alloc ?_ _ | refine Ext.drewN ?_ _ | refine ext_grow ?_ _ _ | refine Ext.trans ?_ (by assumption)))).mono ?_); rintro E w3 ⟨M, rfl, hM, hb⟩; have HM := Lib.hid hM; clear hM))
  go_ret
  exact ⟨ret_bool (decide_eq_decide.2 (HM.out.trans ⟨fun h => ⟨⟨HS.out.1, HS.out.2, HN.out⟩, HA.out, h⟩, fun h => h.2.2⟩)), (by repeat (first | exact Ext.refl _ | assumption | refine Ext.alloc ?_ _ | refine Ext.drewN ?_ _ | refine ext_grow ?_ _ _ | refine Ext.trans ?_ (by assumption)))⟩
set_option maxHeartbeats 4000000 in
theorem c57 (turn scale : Int) (w : World) : Calls Try.prog 57 #[.int .i64 turn, .int .i64 scale] w fun e w' => e = .returned (.bool (decide (Posed turn scale))) ∧ Ext w w' := by
  by_cases h1 : 0 ≤ turn ∧ turn ≤ 11
  case neg =>
    have q1 : decide (0 ≤ turn ∧ turn ≤ 11) = false := decide_eq_false h1
    have H1 := Lib.hid h1
    clear h1
    go_enter Try.func57, Try.ntmps57
    go_wp2_with (go_at_call 50; (with_reducible refine (within_one_same 50 (.inl rfl) _ _ _ _ _ (by simp)).mono ?_); rintro E w' ⟨rfl, rfl⟩)
    go_ret
    exact ⟨ret_bool (decide_eq_false (fun h => H1.out h.1)).symm, (by repeat (first | exact Ext.refl _ | assumption | refine Ext.alloc ?_ _ | refine Ext.drewN ?_ _ | refine ext_grow ?_ _ _ | refine Ext.trans ?_ (by assumption)))⟩
  have q1 : decide (0 ≤ turn ∧ turn ≤ 11) = true := decide_eq_true h1
  have H1 := Lib.hid h1
  clear h1
  go_enter Try.func57, Try.ntmps57
  go_wp2_with (go_at_call 50; (with_reducible refine (within_one_same 50 (.inl rfl) _ _ _ _ _ (by simp)).mono ?_); rintro E w' ⟨rfl, rfl⟩)
  go_ret
  exact ⟨ret_bool (by have := H1.out; simp [Posed, this.1, this.2]), (by repeat (first | exact Ext.refl _ | assumption | refine Ext.alloc ?_ _ | refine Ext.drewN ?_ _ | refine ext_grow ?_ _ _ | refine Ext.trans ?_ (by assumption)))⟩
set_option maxHeartbeats 4000000 in
theorem c95 (a : Int) (w : World) (h1 : -1000 ≤ a) (h2 : a ≤ 1000) : Calls Try.prog 95 #[.int .i64 a, .int .i64 20] w fun e w' => e = .returned (.int .i64 (a / 20)) ∧ Ext w w' := by
  obtain ⟨q, hq⟩ : ∃ q, a.tdiv 20 = q := ⟨_, rfl⟩
  have hb := tdiv_two (a := a) (b := 20) (by omega)
  rw [hq] at hb
  have hq1 : -60 ≤ q ∧ q ≤ 60 := by omega
  obtain ⟨q1, q2⟩ := hq1
  by_cases hlt : a < q * 20
  · have e9 := floor_yes (a := a) (b := 20) (by omega) (by rw [hq]; exact hlt)
    rw [hq] at e9
    have HE := Lib.hid e9
    clear e9 hb
    go_enter Try.func95, Try.ntmps95
    go_wp2
    go_ret
    exact ⟨ret_int HE.out, Ext.refl _⟩
  · have e9 := floor_no (a := a) (b := 20) (by omega) (by rw [hq]; omega)
    rw [hq] at e9
    have HE := Lib.hid e9
    clear e9 hb
    go_enter Try.func95, Try.ntmps95
    go_wp2
    go_ret
    exact ⟨ret_int HE.out, Ext.refl _⟩
end Go.Proofs.Ytipkjdfnoonpcaa

/- Offsets: the program's walk. -/
namespace Go.Proofs.Ytipkjdfnoonpcaa
open Go.RowKit Go.Sort

set_option maxRecDepth 100000 in
set_option maxHeartbeats 16000000 in
theorem c58 (t : Tpl) (v : Value) (turn scale i j : Int) (w : World) (ht : (1 ≤ t.w ∧ t.w ≤ 8) ∧ 1 ≤ t.h ∧ t.h ≤ 8) (hv : IntsAt w v t.pix) (hp : Posed turn scale) (hi : 0 ≤ i ∧ i ≤ t.w - 1) (hj : 0 ≤ j ∧ j ≤ t.h - 1) :
    Calls Try.prog 58 #[tplVal t v, .int .i64 turn, .int .i64 scale, .int .i64 i, .int .i64 j] w fun e w' => e = .returned (.tuple #[.int .i64 (offX t turn scale i j), .int .i64 (offY t turn scale i j)]) ∧ Ext w w' := by
  obtain ⟨ao, cap, rfl, -, -⟩ := hv.form
  obtain ⟨⟨t1, t2⟩, t3, t4⟩ := ht
  obtain ⟨⟨p1, p2⟩, hsc⟩ := hp
  obtain ⟨i1, i2⟩ := hi
  obtain ⟨j1, j2⟩ := hj
  unfold tplVal
  clear hv
  have h3 : turn % 3 = 0 ∨ turn % 3 = 1 ∨ turn % 3 = 2 := by omega
  rcases h3 with hr0 | hr0 | hr0
  · have hr : turn % 3 = 0 := hr0
    have hbase : dirBase (turn % 3) = (5, 0) := by rw [hr]; rfl
    have HB := Lib.hid hbase
    clear hbase
    have ix : ∀ w, (Instr.index 137 (.agg #[.int .i64 5, .int .i64 0, .int .i64 4, .int .i64 3, .int .i64 3, .int .i64 4]) (.int .i64 0)).run Try.prog w = .ok (.agg #[.int .i64 5, .int .i64 0]) w := fun _ => by kernel_rfl
    clear hr0
    go_enter Try.func58, Try.ntmps58
    go_wp2
    clear ix hr
    go_loopw [24] (fun iv wr => ∃ (n : Nat) (a b : Int), (n : Int) ≤ turn / 3 ∧ iv = .int .i64 (n : Int) ∧ (-5 ≤ a ∧ a ≤ 5) ∧ (-5 ≤ b ∧ b ≤ 5) ∧ Hid (Ext w wr) ∧ Hid (At wr [(w.heap.size + 1, Obj.cells #[.int .i64 (a), .int .i64 (b)] 136), (w.heap.size, Obj.cells #[.int .i64 t.w, .int .i64 t.h, .slice ao t.pix.length cap] 43)]) ∧ Hid (rot n (5, 0) = (a, b))) (fun iv _ => (turn / 3 - intOf iv).toNat)
    case atStart => exact ⟨0, 5, 0, by omega, rfl, by omega, by omega, Lib.hid (by repeat (first | exact Ext.refl _ | assumption | refine Ext.alloc ?_ _ | refine Ext.drewN ?_ _ | refine ext_grow ?_ _ _ | refine Ext.trans ?_ (by assumption))), Lib.hid ⟨(by repeat (first | (refine blk_at _ _ ?_; (first | rfl | (simp only [size_one]; done))) | refine (blk_past _ _ (by simp only [size_one]; omega)).trans ?_)), (by repeat (first | (refine blk_at _ _ ?_; (first | rfl | (simp only [size_one]; done))) | refine (blk_past _ _ (by simp only [size_one]; omega)).trans ?_)), trivial⟩, Lib.hid rfl⟩
    case round =>
      obtain ⟨n, a, b, hn, rfl, ⟨a1, a2⟩, ⟨b1, b2⟩, hE, hA, hR⟩ := hrel
      obtain ⟨⟨x00, x01⟩, xf00, xf01⟩ := run_2 (At.at hA.out 0 rfl)
      obtain ⟨⟨x10, x11, x12⟩, xf10, xf11, xf12⟩ := run_3 (At.at hA.out 1 rfl)
      have xz0 := At.lt hA.out 0 rfl
      have xy0 := Nat.lt_succ_of_lt xz0
      have xx0 := Nat.lt_succ_of_lt xy0
      have xz1 := At.lt hA.out 1 rfl
      have xy1 := Nat.lt_succ_of_lt xz1
      have xx1 := Nat.lt_succ_of_lt xy1
      by_cases hlt : (n : Int) < turn / 3
      · go_wp2
        go_roundw
        case rel => exact ⟨n + 1, -b, a, by omega, by go_num, by omega, by omega, Lib.hid ((hE.out.setCell (p := ⟨w.heap.size + 1, 0, none⟩) (show w.heap.size ≤ w.heap.size + 1 by omega) _).setCell (p := ⟨w.heap.size + 1, 1, none⟩) (show w.heap.size ≤ w.heap.size + 1 by omega) _), Lib.hid (show At _ [(w.heap.size + 1, Obj.cells #[.int .i64 (-b), .int .i64 (a)] 136), (w.heap.size, Obj.cells #[.int .i64 t.w, .int .i64 t.h, .slice ao t.pix.length cap] 43)] from ⟨(store_2 (At.at hA.out 0 rfl)).1, At.other (store_2 (At.at hA.out 0 rfl)).2.1 (by simp) (At.erase hA.out 0)⟩), Lib.hid (by rw [rot, hR.out])⟩
        case measure => simp [intOf]; omega
      · have hq : (turn / 3).toNat = n := by omega
        have hdir : dirOf turn = (a, b) := by unfold dirOf; rw [hq, HB.out]; exact hR.out
        have HD := Lib.hid hdir
        clear hdir hq
        obtain ⟨u, hu⟩ : ∃ u, 2 * i - t.w + 1 = u := ⟨_, rfl⟩
        obtain ⟨z, hz⟩ : ∃ z, 2 * j - t.h + 1 = z := ⟨_, rfl⟩
        have hu1 : -8 ≤ u ∧ u ≤ 8 := by omega
        have hz1 : -8 ≤ z ∧ z ≤ 8 := by omega
        obtain ⟨⟨m1, m2⟩, ⟨m3, m4⟩, ⟨m5, m6⟩, -, -⟩ := off_bd (a := a) (b := b) (u := u) (v := z) ⟨a1, a2⟩ ⟨b1, b2⟩ hu1 hz1 hsc
        obtain ⟨⟨m7, m8⟩, ⟨m9, m10⟩, -, ⟨m11, m12⟩⟩ := off_bd (a := b) (b := a) (u := u) (v := z) ⟨b1, b2⟩ ⟨a1, a2⟩ hu1 hz1 hsc
        have hX : offX t turn scale i j = (scale * (a * u - b * z) + 10) / 20 := by unfold offX; rw [HD.out, hu, hz]
        have hY : offY t turn scale i j = (scale * (b * u + a * z) + 10) / 20 := by unfold offY; rw [HD.out, hu, hz]
        obtain ⟨P1, hp1⟩ : ∃ x, a * u = x := ⟨_, rfl⟩
        obtain ⟨P2, hp2⟩ : ∃ x, b * z = x := ⟨_, rfl⟩
        obtain ⟨P3, hp3⟩ : ∃ x, scale * (P1 - P2) = x := ⟨_, rfl⟩
        obtain ⟨P4, hp4⟩ : ∃ x, b * u = x := ⟨_, rfl⟩
        obtain ⟨P5, hp5⟩ : ∃ x, a * z = x := ⟨_, rfl⟩
        obtain ⟨P6, hp6⟩ : ∃ x, scale * (P4 + P5) = x := ⟨_, rfl⟩
        rw [hp1, hp2, hp3] at hX m5 m6
        rw [hp4, hp5, hp6] at hY m11 m12
        rw [hp1] at m1 m2
        rw [hp2] at m3 m4
        rw [hp4] at m7 m8
        rw [hp5] at m9 m10
        have K1 := Lib.hid (fun w => c95 (P3 + 10) w (by omega) (by omega))
        have K2 := Lib.hid (fun w => c95 (P6 + 10) w (by omega) (by omega))
        rw [← hX] at K1
        rw [← hY] at K2
        have wa : IntKind.i64.wrap (2 * i) = 2 * i := IntWalk.i64_in _ (by omega)
        have wb : IntKind.i64.wrap (2 * i - t.w) = 2 * i - t.w := IntWalk.i64_in _ (by omega)
        have wc : IntKind.i64.wrap (2 * i - t.w + 1) = u := by rw [hu]; exact IntWalk.i64_in _ (by omega)
        have wd : IntKind.i64.wrap (2 * j) = 2 * j := IntWalk.i64_in _ (by omega)
        have we : IntKind.i64.wrap (2 * j - t.h) = 2 * j - t.h := IntWalk.i64_in _ (by omega)
        have wf : IntKind.i64.wrap (2 * j - t.h + 1) = z := by rw [hz]; exact IntWalk.i64_in _ (by omega)
        have wg : IntKind.i64.wrap (a * u) = P1 := by rw [hp1]; exact IntWalk.i64_in _ (by omega)
        have wh : IntKind.i64.wrap (b * z) = P2 := by rw [hp2]; exact IntWalk.i64_in _ (by omega)
        have wi : IntKind.i64.wrap (P1 - P2) = P1 - P2 := IntWalk.i64_in _ (by omega)
        have wj : IntKind.i64.wrap (scale * (P1 - P2)) = P3 := by rw [hp3]; exact IntWalk.i64_in _ (by omega)
        have wk : IntKind.i64.wrap (P3 + 10) = P3 + 10 := IntWalk.i64_in _ (by omega)
        have wl : IntKind.i64.wrap (b * u) = P4 := by rw [hp4]; exact IntWalk.i64_in _ (by omega)
        have wm : IntKind.i64.wrap (a * z) = P5 := by rw [hp5]; exact IntWalk.i64_in _ (by omega)
        have wn : IntKind.i64.wrap (P4 + P5) = P4 + P5 := IntWalk.i64_in _ (by omega)
        have wo : IntKind.i64.wrap (scale * (P4 + P5)) = P6 := by rw [hp6]; exact IntWalk.i64_in _ (by omega)
        have wp : IntKind.i64.wrap (P6 + 10) = P6 + 10 := IntWalk.i64_in _ (by omega)
        obtain ⟨OX, hox⟩ : ∃ x, offX t turn scale i j = x := ⟨_, rfl⟩
        obtain ⟨OY, hoy⟩ : ∃ x, offY t turn scale i j = x := ⟨_, rfl⟩
        rw [hox] at K1
        rw [hoy] at K2
        have HO := Lib.hid (And.intro hox hoy)
        clear hX hY hu hz hu1 hz1 hp1 hp2 hp3 hp4 hp5 hp6 hox hoy
        go_wp2
        go_quiet (fail)
        have hb6 : Ext wr (wr.drewN nq) := (Ext.refl _).drewN nq
        generalize hw6 : wr.drewN nq = w6 at hb6 ⊢
        clear hw6
        have A6 := Lib.hid (show At w6 [(w.heap.size + 1, Obj.cells #[.int .i64 (a), .int .i64 (b)] 136), (w.heap.size, Obj.cells #[.int .i64 t.w, .int .i64 t.h, .slice ao t.pix.length cap] 43)] from At.ext hb6 hA.out)
        obtain ⟨⟨y00, y01⟩, -⟩ := run_2 (At.at A6.out 0 rfl)
        obtain ⟨⟨y10, y11, y12⟩, -⟩ := run_3 (At.at A6.out 1 rfl)
        have yz0 := At.lt A6.out 0 rfl
        have yy0 := Nat.lt_succ_of_lt yz0
        have yx0 := Nat.lt_succ_of_lt yy0
        have yz1 := At.lt A6.out 1 rfl
        have yy1 := Nat.lt_succ_of_lt yz1
        have yx1 := Nat.lt_succ_of_lt yy1
        go_wp2
        refine wp_region_quiet_below (by kernel_rfl) (by kernel_rfl) ?_
        repeat (go_big_quiet_step ((first | (go_at_call 95; with_reducible exact Calls.ext_of (K1.out _)) | (go_at_call 95; with_reducible exact Calls.ext_of (K2.out _)))))
        refine wpQuiet_nil ?_
        intro w7 hw'
        obtain ⟨pq, hw''⟩ := hw'
        have hb7 := ext_of_regrown hw''
        clear hw'' pq
        go_wp2
        go_ret2
        exact ⟨by rw [HO.out.1, HO.out.2]; rfl, hE.out.trans (hb6.trans hb7)⟩
  · have hr : turn % 3 = 1 := hr0
    have hbase : dirBase (turn % 3) = (4, 3) := by rw [hr]; rfl
    have HB := Lib.hid hbase
    clear hbase
    have ix : ∀ w, (Instr.index 137 (.agg #[.int .i64 5, .int .i64 0, .int .i64 4, .int .i64 3, .int .i64 3, .int .i64 4]) (.int .i64 1)).run Try.prog w = .ok (.agg #[.int .i64 4, .int .i64 3]) w := fun _ => by kernel_rfl
    clear hr0
    go_enter Try.func58, Try.ntmps58
    go_wp2
    clear ix hr
    go_loopw [24] (fun iv wr => ∃ (n : Nat) (a b : Int), (n : Int) ≤ turn / 3 ∧ iv = .int .i64 (n : Int) ∧ (-5 ≤ a ∧ a ≤ 5) ∧ (-5 ≤ b ∧ b ≤ 5) ∧ Hid (Ext w wr) ∧ Hid (At wr [(w.heap.size + 1, Obj.cells #[.int .i64 (a), .int .i64 (b)] 136), (w.heap.size, Obj.cells #[.int .i64 t.w, .int .i64 t.h, .slice ao t.pix.length cap] 43)]) ∧ Hid (rot n (4, 3) = (a, b))) (fun iv _ => (turn / 3 - intOf iv).toNat)
    case atStart => exact ⟨0, 4, 3, by omega, rfl, by omega, by omega, Lib.hid (by repeat (first | exact Ext.refl _ | assumption | refine Ext.alloc ?_ _ | refine Ext.drewN ?_ _ | refine ext_grow ?_ _ _ | refine Ext.trans ?_ (by assumption))), Lib.hid ⟨(by repeat (first | (refine blk_at _ _ ?_; (first | rfl | (simp only [size_one]; done))) | refine (blk_past _ _ (by simp only [size_one]; omega)).trans ?_)), (by repeat (first | (refine blk_at _ _ ?_; (first | rfl | (simp only [size_one]; done))) | refine (blk_past _ _ (by simp only [size_one]; omega)).trans ?_)), trivial⟩, Lib.hid rfl⟩
    case round =>
      obtain ⟨n, a, b, hn, rfl, ⟨a1, a2⟩, ⟨b1, b2⟩, hE, hA, hR⟩ := hrel
      obtain ⟨⟨x00, x01⟩, xf00, xf01⟩ := run_2 (At.at hA.out 0 rfl)
      obtain ⟨⟨x10, x11, x12⟩, xf10, xf11, xf12⟩ := run_3 (At.at hA.out 1 rfl)
      have xz0 := At.lt hA.out 0 rfl
      have xy0 := Nat.lt_succ_of_lt xz0
      have xx0 := Nat.lt_succ_of_lt xy0
      have xz1 := At.lt hA.out 1 rfl
      have xy1 := Nat.lt_succ_of_lt xz1
      have xx1 := Nat.lt_succ_of_lt xy1
      by_cases hlt : (n : Int) < turn / 3
      · go_wp2
        go_roundw
        case rel => exact ⟨n + 1, -b, a, by omega, by go_num, by omega, by omega, Lib.hid ((hE.out.setCell (p := ⟨w.heap.size + 1, 0, none⟩) (show w.heap.size ≤ w.heap.size + 1 by omega) _).setCell (p := ⟨w.heap.size + 1, 1, none⟩) (show w.heap.size ≤ w.heap.size + 1 by omega) _), Lib.hid (show At _ [(w.heap.size + 1, Obj.cells #[.int .i64 (-b), .int .i64 (a)] 136), (w.heap.size, Obj.cells #[.int .i64 t.w, .int .i64 t.h, .slice ao t.pix.length cap] 43)] from ⟨(store_2 (At.at hA.out 0 rfl)).1, At.other (store_2 (At.at hA.out 0 rfl)).2.1 (by simp) (At.erase hA.out 0)⟩), Lib.hid (by rw [rot, hR.out])⟩
        case measure => simp [intOf]; omega
      · have hq : (turn / 3).toNat = n := by omega
        have hdir : dirOf turn = (a, b) := by unfold dirOf; rw [hq, HB.out]; exact hR.out
        have HD := Lib.hid hdir
        clear hdir hq
        obtain ⟨u, hu⟩ : ∃ u, 2 * i - t.w + 1 = u := ⟨_, rfl⟩
        obtain ⟨z, hz⟩ : ∃ z, 2 * j - t.h + 1 = z := ⟨_, rfl⟩
        have hu1 : -8 ≤ u ∧ u ≤ 8 := by omega
        have hz1 : -8 ≤ z ∧ z ≤ 8 := by omega
        obtain ⟨⟨m1, m2⟩, ⟨m3, m4⟩, ⟨m5, m6⟩, -, -⟩ := off_bd (a := a) (b := b) (u := u) (v := z) ⟨a1, a2⟩ ⟨b1, b2⟩ hu1 hz1 hsc
        obtain ⟨⟨m7, m8⟩, ⟨m9, m10⟩, -, ⟨m11, m12⟩⟩ := off_bd (a := b) (b := a) (u := u) (v := z) ⟨b1, b2⟩ ⟨a1, a2⟩ hu1 hz1 hsc
        have hX : offX t turn scale i j = (scale * (a * u - b * z) + 10) / 20 := by unfold offX; rw [HD.out, hu, hz]
        have hY : offY t turn scale i j = (scale * (b * u + a * z) + 10) / 20 := by unfold offY; rw [HD.out, hu, hz]
        obtain ⟨P1, hp1⟩ : ∃ x, a * u = x := ⟨_, rfl⟩
        obtain ⟨P2, hp2⟩ : ∃ x, b * z = x := ⟨_, rfl⟩
        obtain ⟨P3, hp3⟩ : ∃ x, scale * (P1 - P2) = x := ⟨_, rfl⟩
        obtain ⟨P4, hp4⟩ : ∃ x, b * u = x := ⟨_, rfl⟩
        obtain ⟨P5, hp5⟩ : ∃ x, a * z = x := ⟨_, rfl⟩
        obtain ⟨P6, hp6⟩ : ∃ x, scale * (P4 + P5) = x := ⟨_, rfl⟩
        rw [hp1, hp2, hp3] at hX m5 m6
        rw [hp4, hp5, hp6] at hY m11 m12
        rw [hp1] at m1 m2
        rw [hp2] at m3 m4
        rw [hp4] at m7 m8
        rw [hp5] at m9 m10
        have K1 := Lib.hid (fun w => c95 (P3 + 10) w (by omega) (by omega))
        have K2 := Lib.hid (fun w => c95 (P6 + 10) w (by omega) (by omega))
        rw [← hX] at K1
        rw [← hY] at K2
        have wa : IntKind.i64.wrap (2 * i) = 2 * i := IntWalk.i64_in _ (by omega)
        have wb : IntKind.i64.wrap (2 * i - t.w) = 2 * i - t.w := IntWalk.i64_in _ (by omega)
        have wc : IntKind.i64.wrap (2 * i - t.w + 1) = u := by rw [hu]; exact IntWalk.i64_in _ (by omega)
        have wd : IntKind.i64.wrap (2 * j) = 2 * j := IntWalk.i64_in _ (by omega)
        have we : IntKind.i64.wrap (2 * j - t.h) = 2 * j - t.h := IntWalk.i64_in _ (by omega)
        have wf : IntKind.i64.wrap (2 * j - t.h + 1) = z := by rw [hz]; exact IntWalk.i64_in _ (by omega)
        have wg : IntKind.i64.wrap (a * u) = P1 := by rw [hp1]; exact IntWalk.i64_in _ (by omega)
        have wh : IntKind.i64.wrap (b * z) = P2 := by rw [hp2]; exact IntWalk.i64_in _ (by omega)
        have wi : IntKind.i64.wrap (P1 - P2) = P1 - P2 := IntWalk.i64_in _ (by omega)
        have wj : IntKind.i64.wrap (scale * (P1 - P2)) = P3 := by rw [hp3]; exact IntWalk.i64_in _ (by omega)
        have wk : IntKind.i64.wrap (P3 + 10) = P3 + 10 := IntWalk.i64_in _ (by omega)
        have wl : IntKind.i64.wrap (b * u) = P4 := by rw [hp4]; exact IntWalk.i64_in _ (by omega)
        have wm : IntKind.i64.wrap (a * z) = P5 := by rw [hp5]; exact IntWalk.i64_in _ (by omega)
        have wn : IntKind.i64.wrap (P4 + P5) = P4 + P5 := IntWalk.i64_in _ (by omega)
        have wo : IntKind.i64.wrap (scale * (P4 + P5)) = P6 := by rw [hp6]; exact IntWalk.i64_in _ (by omega)
        have wp : IntKind.i64.wrap (P6 + 10) = P6 + 10 := IntWalk.i64_in _ (by omega)
        obtain ⟨OX, hox⟩ : ∃ x, offX t turn scale i j = x := ⟨_, rfl⟩
        obtain ⟨OY, hoy⟩ : ∃ x, offY t turn scale i j = x := ⟨_, rfl⟩
        rw [hox] at K1
        rw [hoy] at K2
        have HO := Lib.hid (And.intro hox hoy)
        clear hX hY hu hz hu1 hz1 hp1 hp2 hp3 hp4 hp5 hp6 hox hoy
        go_wp2
        go_quiet (fail)
        have hb6 : Ext wr (wr.drewN nq) := (Ext.refl _).drewN nq
        generalize hw6 : wr.drewN nq = w6 at hb6 ⊢
        clear hw6
        have A6 := Lib.hid (show At w6 [(w.heap.size + 1, Obj.cells #[.int .i64 (a), .int .i64 (b)] 136), (w.heap.size, Obj.cells #[.int .i64 t.w, .int .i64 t.h, .slice ao t.pix.length cap] 43)] from At.ext hb6 hA.out)
        obtain ⟨⟨y00, y01⟩, -⟩ := run_2 (At.at A6.out 0 rfl)
        obtain ⟨⟨y10, y11, y12⟩, -⟩ := run_3 (At.at A6.out 1 rfl)
        have yz0 := At.lt A6.out 0 rfl
        have yy0 := Nat.lt_succ_of_lt yz0
        have yx0 := Nat.lt_succ_of_lt yy0
        have yz1 := At.lt A6.out 1 rfl
        have yy1 := Nat.lt_succ_of_lt yz1
        have yx1 := Nat.lt_succ_of_lt yy1
        go_wp2
        refine wp_region_quiet_below (by kernel_rfl) (by kernel_rfl) ?_
        repeat (go_big_quiet_step ((first | (go_at_call 95; with_reducible exact Calls.ext_of (K1.out _)) | (go_at_call 95; with_reducible exact Calls.ext_of (K2.out _)))))
        refine wpQuiet_nil ?_
        intro w7 hw'
        obtain ⟨pq, hw''⟩ := hw'
        have hb7 := ext_of_regrown hw''
        clear hw'' pq
        go_wp2
        go_ret2
        exact ⟨by rw [HO.out.1, HO.out.2]; rfl, hE.out.trans (hb6.trans hb7)⟩
  · have hr : turn % 3 = 2 := hr0
    have hbase : dirBase (turn % 3) = (3, 4) := by rw [hr]; rfl
    have HB := Lib.hid hbase
    clear hbase
    have ix : ∀ w, (Instr.index 137 (.agg #[.int .i64 5, .int .i64 0, .int .i64 4, .int .i64 3, .int .i64 3, .int .i64 4]) (.int .i64 2)).run Try.prog w = .ok (.agg #[.int .i64 3, .int .i64 4]) w := fun _ => by kernel_rfl
    clear hr0
    go_enter Try.func58, Try.ntmps58
    go_wp2
    clear ix hr
    go_loopw [24] (fun iv wr => ∃ (n : Nat) (a b : Int), (n : Int) ≤ turn / 3 ∧ iv = .int .i64 (n : Int) ∧ (-5 ≤ a ∧ a ≤ 5) ∧ (-5 ≤ b ∧ b ≤ 5) ∧ Hid (Ext w wr) ∧ Hid (At wr [(w.heap.size + 1, Obj.cells #[.int .i64 (a), .int .i64 (b)] 136), (w.heap.size, Obj.cells #[.int .i64 t.w, .int .i64 t.h, .slice ao t.pix.length cap] 43)]) ∧ Hid (rot n (3, 4) = (a, b))) (fun iv _ => (turn / 3 - intOf iv).toNat)
    case atStart => exact ⟨0, 3, 4, by omega, rfl, by omega, by omega, Lib.hid (by repeat (first | exact Ext.refl _ | assumption | refine Ext.alloc ?_ _ | refine Ext.drewN ?_ _ | refine ext_grow ?_ _ _ | refine Ext.trans ?_ (by assumption))), Lib.hid ⟨(by repeat (first | (refine blk_at _ _ ?_; (first | rfl | (simp only [size_one]; done))) | refine (blk_past _ _ (by simp only [size_one]; omega)).trans ?_)), (by repeat (first | (refine blk_at _ _ ?_; (first | rfl | (simp only [size_one]; done))) | refine (blk_past _ _ (by simp only [size_one]; omega)).trans ?_)), trivial⟩, Lib.hid rfl⟩
    case round =>
      obtain ⟨n, a, b, hn, rfl, ⟨a1, a2⟩, ⟨b1, b2⟩, hE, hA, hR⟩ := hrel
      obtain ⟨⟨x00, x01⟩, xf00, xf01⟩ := run_2 (At.at hA.out 0 rfl)
      obtain ⟨⟨x10, x11, x12⟩, xf10, xf11, xf12⟩ := run_3 (At.at hA.out 1 rfl)
      have xz0 := At.lt hA.out 0 rfl
      have xy0 := Nat.lt_succ_of_lt xz0
      have xx0 := Nat.lt_succ_of_lt xy0
      have xz1 := At.lt hA.out 1 rfl
      have xy1 := Nat.lt_succ_of_lt xz1
      have xx1 := Nat.lt_succ_of_lt xy1
      by_cases hlt : (n : Int) < turn / 3
      · go_wp2
        go_roundw
        case rel => exact ⟨n + 1, -b, a, by omega, by go_num, by omega, by omega, Lib.hid ((hE.out.setCell (p := ⟨w.heap.size + 1, 0, none⟩) (show w.heap.size ≤ w.heap.size + 1 by omega) _).setCell (p := ⟨w.heap.size + 1, 1, none⟩) (show w.heap.size ≤ w.heap.size + 1 by omega) _), Lib.hid (show At _ [(w.heap.size + 1, Obj.cells #[.int .i64 (-b), .int .i64 (a)] 136), (w.heap.size, Obj.cells #[.int .i64 t.w, .int .i64 t.h, .slice ao t.pix.length cap] 43)] from ⟨(store_2 (At.at hA.out 0 rfl)).1, At.other (store_2 (At.at hA.out 0 rfl)).2.1 (by simp) (At.erase hA.out 0)⟩), Lib.hid (by rw [rot, hR.out])⟩
        case measure => simp [intOf]; omega
      · have hq : (turn / 3).toNat = n := by omega
        have hdir : dirOf turn = (a, b) := by unfold dirOf; rw [hq, HB.out]; exact hR.out
        have HD := Lib.hid hdir
        clear hdir hq
        obtain ⟨u, hu⟩ : ∃ u, 2 * i - t.w + 1 = u := ⟨_, rfl⟩
        obtain ⟨z, hz⟩ : ∃ z, 2 * j - t.h + 1 = z := ⟨_, rfl⟩
        have hu1 : -8 ≤ u ∧ u ≤ 8 := by omega
        have hz1 : -8 ≤ z ∧ z ≤ 8 := by omega
        obtain ⟨⟨m1, m2⟩, ⟨m3, m4⟩, ⟨m5, m6⟩, -, -⟩ := off_bd (a := a) (b := b) (u := u) (v := z) ⟨a1, a2⟩ ⟨b1, b2⟩ hu1 hz1 hsc
        obtain ⟨⟨m7, m8⟩, ⟨m9, m10⟩, -, ⟨m11, m12⟩⟩ := off_bd (a := b) (b := a) (u := u) (v := z) ⟨b1, b2⟩ ⟨a1, a2⟩ hu1 hz1 hsc
        have hX : offX t turn scale i j = (scale * (a * u - b * z) + 10) / 20 := by unfold offX; rw [HD.out, hu, hz]
        have hY : offY t turn scale i j = (scale * (b * u + a * z) + 10) / 20 := by unfold offY; rw [HD.out, hu, hz]
        obtain ⟨P1, hp1⟩ : ∃ x, a * u = x := ⟨_, rfl⟩
        obtain ⟨P2, hp2⟩ : ∃ x, b * z = x := ⟨_, rfl⟩
        obtain ⟨P3, hp3⟩ : ∃ x, scale * (P1 - P2) = x := ⟨_, rfl⟩
        obtain ⟨P4, hp4⟩ : ∃ x, b * u = x := ⟨_, rfl⟩
        obtain ⟨P5, hp5⟩ : ∃ x, a * z = x := ⟨_, rfl⟩
        obtain ⟨P6, hp6⟩ : ∃ x, scale * (P4 + P5) = x := ⟨_, rfl⟩
        rw [hp1, hp2, hp3] at hX m5 m6
        rw [hp4, hp5, hp6] at hY m11 m12
        rw [hp1] at m1 m2
        rw [hp2] at m3 m4
        rw [hp4] at m7 m8
        rw [hp5] at m9 m10
        have K1 := Lib.hid (fun w => c95 (P3 + 10) w (by omega) (by omega))
        have K2 := Lib.hid (fun w => c95 (P6 + 10) w (by omega) (by omega))
        rw [← hX] at K1
        rw [← hY] at K2
        have wa : IntKind.i64.wrap (2 * i) = 2 * i := IntWalk.i64_in _ (by omega)
        have wb : IntKind.i64.wrap (2 * i - t.w) = 2 * i - t.w := IntWalk.i64_in _ (by omega)
        have wc : IntKind.i64.wrap (2 * i - t.w + 1) = u := by rw [hu]; exact IntWalk.i64_in _ (by omega)
        have wd : IntKind.i64.wrap (2 * j) = 2 * j := IntWalk.i64_in _ (by omega)
        have we : IntKind.i64.wrap (2 * j - t.h) = 2 * j - t.h := IntWalk.i64_in _ (by omega)
        have wf : IntKind.i64.wrap (2 * j - t.h + 1) = z := by rw [hz]; exact IntWalk.i64_in _ (by omega)
        have wg : IntKind.i64.wrap (a * u) = P1 := by rw [hp1]; exact IntWalk.i64_in _ (by omega)
        have wh : IntKind.i64.wrap (b * z) = P2 := by rw [hp2]; exact IntWalk.i64_in _ (by omega)
        have wi : IntKind.i64.wrap (P1 - P2) = P1 - P2 := IntWalk.i64_in _ (by omega)
        have wj : IntKind.i64.wrap (scale * (P1 - P2)) = P3 := by rw [hp3]; exact IntWalk.i64_in _ (by omega)
        have wk : IntKind.i64.wrap (P3 + 10) = P3 + 10 := IntWalk.i64_in _ (by omega)
        have wl : IntKind.i64.wrap (b * u) = P4 := by rw [hp4]; exact IntWalk.i64_in _ (by omega)
        have wm : IntKind.i64.wrap (a * z) = P5 := by rw [hp5]; exact IntWalk.i64_in _ (by omega)
        have wn : IntKind.i64.wrap (P4 + P5) = P4 + P5 := IntWalk.i64_in _ (by omega)
        have wo : IntKind.i64.wrap (scale * (P4 + P5)) = P6 := by rw [hp6]; exact IntWalk.i64_in _ (by omega)
        have wp : IntKind.i64.wrap (P6 + 10) = P6 + 10 := IntWalk.i64_in _ (by omega)
        obtain ⟨OX, hox⟩ : ∃ x, offX t turn scale i j = x := ⟨_, rfl⟩
        obtain ⟨OY, hoy⟩ : ∃ x, offY t turn scale i j = x := ⟨_, rfl⟩
        rw [hox] at K1
        rw [hoy] at K2
        have HO := Lib.hid (And.intro hox hoy)
        clear hX hY hu hz hu1 hz1 hp1 hp2 hp3 hp4 hp5 hp6 hox hoy
        go_wp2
        go_quiet (fail)
        have hb6 : Ext wr (wr.drewN nq) := (Ext.refl _).drewN nq
        generalize hw6 : wr.drewN nq = w6 at hb6 ⊢
        clear hw6
        have A6 := Lib.hid (show At w6 [(w.heap.size + 1, Obj.cells #[.int .i64 (a), .int .i64 (b)] 136), (w.heap.size, Obj.cells #[.int .i64 t.w, .int .i64 t.h, .slice ao t.pix.length cap] 43)] from At.ext hb6 hA.out)
        obtain ⟨⟨y00, y01⟩, -⟩ := run_2 (At.at A6.out 0 rfl)
        obtain ⟨⟨y10, y11, y12⟩, -⟩ := run_3 (At.at A6.out 1 rfl)
        have yz0 := At.lt A6.out 0 rfl
        have yy0 := Nat.lt_succ_of_lt yz0
        have yx0 := Nat.lt_succ_of_lt yy0
        have yz1 := At.lt A6.out 1 rfl
        have yy1 := Nat.lt_succ_of_lt yz1
        have yx1 := Nat.lt_succ_of_lt yy1
        go_wp2
        refine wp_region_quiet_below (by kernel_rfl) (by kernel_rfl) ?_
        repeat (go_big_quiet_step ((first | (go_at_call 95; with_reducible exact Calls.ext_of (K1.out _)) | (go_at_call 95; with_reducible exact Calls.ext_of (K2.out _)))))
        refine wpQuiet_nil ?_
        intro w7 hw'
        obtain ⟨pq, hw''⟩ := hw'
        have hb7 := ext_of_regrown hw''
        clear hw'' pq
        go_wp2
        go_ret2
        exact ⟨by rw [HO.out.1, HO.out.2]; rfl, hE.out.trans (hb6.trans hb7)⟩
end Go.Proofs.Ytipkjdfnoonpcaa

/- Directions, rounding: the reference's walks. -/
namespace Go.Proofs.Ytipkjdfnoonpcaa
open Go.RowKit Go.Sort
attribute [local go_sem ↓] Go.wp_at_zero Go.wp_at_succ

set_option maxRecDepth 100000 in
set_option maxHeartbeats 16000000 in
theorem c96 (turn : Int) (w : World) (h : 0 ≤ turn ∧ turn ≤ 11) :
    Calls Try.prog 96 #[.int .i64 turn] w fun e w' => e = .returned (.tuple #[.int .i64 (dirOf turn).1, .int .i64 (dirOf turn).2]) ∧ Ext w w' := by
  obtain ⟨h1, h2⟩ := h
  have h3 : turn % 3 = 0 ∨ turn % 3 = 1 ∨ turn % 3 = 2 := by omega
  rcases h3 with hr0 | hr0 | hr0
  · have hrem : turn.tmod 3 = 0 := by rw [Int.tmod_eq_emod_of_nonneg h1]; exact hr0
    have hbase : dirBase (turn % 3) = (5, 0) := by rw [hr0]; rfl
    have hw : IntKind.i64.wrap 0 = 0 := by decide
    have HB := Lib.hid hbase
    clear hbase
    go_enter Try.func96, Try.ntmps96
    go_wp2
    go_region
    all_goals
      clear hr0 hrem hw
      go_wp2
      go_loopw [4, 5, 6] (fun av bv iv wr => ∃ (n : Nat) (a b : Int), (n : Int) ≤ turn / 3 ∧ iv = .int .i64 (n : Int) ∧ av = .int .i64 a ∧ bv = .int .i64 b ∧ (-5 ≤ a ∧ a ≤ 5) ∧ (-5 ≤ b ∧ b ≤ 5) ∧ Hid (Ext w wr) ∧ Hid (rot n (5, 0) = (a, b))) (fun _ _ iv _ => (turn / 3 - intOf iv).toNat)
      case atStart => exact ⟨0, 5, 0, by omega, rfl, rfl, rfl, by omega, by omega, Lib.hid (by repeat (first | exact Ext.refl _ | assumption | refine Ext.alloc ?_ _ | refine Ext.drew ?_ | refine Ext.drewN ?_ _ | refine ext_grow ?_ _ _ | refine Ext.trans ?_ (by assumption))), Lib.hid rfl⟩
      case round =>
        obtain ⟨n, a, b, hn, rfl, rfl, rfl, ⟨a1, a2⟩, ⟨b1, b2⟩, hE, hR⟩ := hrel
        by_cases hlt : (n : Int) < turn / 3
        · go_wp2
          go_roundw
          case rel => exact ⟨n + 1, -b, a, by omega, by go_num, rfl, rfl, by omega, by omega, hE, Lib.hid (by rw [rot, hR.out])⟩
          case measure => simp [intOf]; omega
        · have hq : (turn / 3).toNat = n := by omega
          have hdir : dirOf turn = (a, b) := by unfold dirOf; rw [hq, HB.out]; exact hR.out
          have HD := Lib.hid hdir
          clear hdir hq
          go_wp2
          go_ret2
          exact ⟨by rw [HD.out]; rfl, hE.out⟩
  · have hrem : turn.tmod 3 = 1 := by rw [Int.tmod_eq_emod_of_nonneg h1]; exact hr0
    have hbase : dirBase (turn % 3) = (4, 3) := by rw [hr0]; rfl
    have hw : IntKind.i64.wrap 1 = 1 := by decide
    have HB := Lib.hid hbase
    clear hbase
    go_enter Try.func96, Try.ntmps96
    go_wp2
    go_region
    all_goals
      clear hr0 hrem hw
      go_wp2
      go_loopw [4, 5, 6] (fun av bv iv wr => ∃ (n : Nat) (a b : Int), (n : Int) ≤ turn / 3 ∧ iv = .int .i64 (n : Int) ∧ av = .int .i64 a ∧ bv = .int .i64 b ∧ (-5 ≤ a ∧ a ≤ 5) ∧ (-5 ≤ b ∧ b ≤ 5) ∧ Hid (Ext w wr) ∧ Hid (rot n (4, 3) = (a, b))) (fun _ _ iv _ => (turn / 3 - intOf iv).toNat)
      case atStart => exact ⟨0, 4, 3, by omega, rfl, rfl, rfl, by omega, by omega, Lib.hid (by repeat (first | exact Ext.refl _ | assumption | refine Ext.alloc ?_ _ | refine Ext.drew ?_ | refine Ext.drewN ?_ _ | refine ext_grow ?_ _ _ | refine Ext.trans ?_ (by assumption))), Lib.hid rfl⟩
      case round =>
        obtain ⟨n, a, b, hn, rfl, rfl, rfl, ⟨a1, a2⟩, ⟨b1, b2⟩, hE, hR⟩ := hrel
        by_cases hlt : (n : Int) < turn / 3
        · go_wp2
          go_roundw
          case rel => exact ⟨n + 1, -b, a, by omega, by go_num, rfl, rfl, by omega, by omega, hE, Lib.hid (by rw [rot, hR.out])⟩
          case measure => simp [intOf]; omega
        · have hq : (turn / 3).toNat = n := by omega
          have hdir : dirOf turn = (a, b) := by unfold dirOf; rw [hq, HB.out]; exact hR.out
          have HD := Lib.hid hdir
          clear hdir hq
          go_wp2
          go_ret2
          exact ⟨by rw [HD.out]; rfl, hE.out⟩
  · have hrem : turn.tmod 3 = 2 := by rw [Int.tmod_eq_emod_of_nonneg h1]; exact hr0
    have hbase : dirBase (turn % 3) = (3, 4) := by rw [hr0]; rfl
    have hw : IntKind.i64.wrap 2 = 2 := by decide
    have HB := Lib.hid hbase
    clear hbase
    go_enter Try.func96, Try.ntmps96
    go_wp2
    go_region
    all_goals
      clear hr0 hrem hw
      go_wp2
      go_loopw [4, 5, 6] (fun av bv iv wr => ∃ (n : Nat) (a b : Int), (n : Int) ≤ turn / 3 ∧ iv = .int .i64 (n : Int) ∧ av = .int .i64 a ∧ bv = .int .i64 b ∧ (-5 ≤ a ∧ a ≤ 5) ∧ (-5 ≤ b ∧ b ≤ 5) ∧ Hid (Ext w wr) ∧ Hid (rot n (3, 4) = (a, b))) (fun _ _ iv _ => (turn / 3 - intOf iv).toNat)
      case atStart => exact ⟨0, 3, 4, by omega, rfl, rfl, rfl, by omega, by omega, Lib.hid (by repeat (first | exact Ext.refl _ | assumption | refine Ext.alloc ?_ _ | refine Ext.drew ?_ | refine Ext.drewN ?_ _ | refine ext_grow ?_ _ _ | refine Ext.trans ?_ (by assumption))), Lib.hid rfl⟩
      case round =>
        obtain ⟨n, a, b, hn, rfl, rfl, rfl, ⟨a1, a2⟩, ⟨b1, b2⟩, hE, hR⟩ := hrel
        by_cases hlt : (n : Int) < turn / 3
        · go_wp2
          go_roundw
          case rel => exact ⟨n + 1, -b, a, by omega, by go_num, rfl, rfl, by omega, by omega, hE, Lib.hid (by rw [rot, hR.out])⟩
          case measure => simp [intOf]; omega
        · have hq : (turn / 3).toNat = n := by omega
          have hdir : dirOf turn = (a, b) := by unfold dirOf; rw [hq, HB.out]; exact hR.out
          have HD := Lib.hid hdir
          clear hdir hq
          go_wp2
          go_ret2
          exact ⟨by rw [HD.out]; rfl, hE.out⟩
set_option maxHeartbeats 4000000 in
theorem c97 (a : Int) (w : World) (h1 : -1000 ≤ a) (h2 : a ≤ 1000) : Calls Try.prog 97 #[.int .i64 a, .int .i64 20] w fun e w' => e = .returned (.int .i64 (a / 20)) ∧ Ext w w' := by
  obtain ⟨q, hq⟩ : ∃ q, a.tdiv 20 = q := ⟨_, rfl⟩
  obtain ⟨r, hr⟩ : ∃ r, a.tmod 20 = r := ⟨_, rfl⟩
  have hb := tdiv_two (a := a) (b := 20) (by omega)
  have he := Int.mul_tdiv_add_tmod a 20
  rw [hq] at hb he
  rw [hr] at he
  have hq1 : -60 ≤ q ∧ q ≤ 60 := by omega
  obtain ⟨q1, q2⟩ := hq1
  by_cases hn : a < 0
  · by_cases hz : r = 0
    · have t1 : (r != 0) = false := by simp [hz]
      have e9 : q = a / 20 := by omega
      have HE := Lib.hid e9
      clear e9 hb he hz
      go_enter Try.func97, Try.ntmps97
      go_wp2
      go_ret
      exact ⟨ret_int HE.out, Ext.refl _⟩
    · have t1 : (r != 0) = true := by simpa using hz
      have e9 : q - 1 = a / 20 := by
        have := floor_yes (a := a) (b := 20) (by omega) (by
          rw [hq]
          have hs := Int.tmod_nonneg 20 (show 0 ≤ -a by omega)
          rw [Int.neg_tmod] at hs
          omega)
        rwa [hq] at this
      have HE := Lib.hid e9
      clear e9 hz
      go_enter Try.func97, Try.ntmps97
      go_wp2
      go_ret
      exact ⟨ret_int HE.out, Ext.refl _⟩
  · have e9 : q = a / 20 := by
      have := floor_no (a := a) (b := 20) (by omega) (by
        rw [hq]
        have hs : 0 ≤ a.tmod 20 := by rw [Int.tmod_eq_emod_of_nonneg (by omega)]; omega
        omega)
      rwa [hq] at this
    have ha : 0 ≤ a := by omega
    have hq2 : a / 20 = q := e9.symm
    clear e9 hb he hq hr
    go_enter Try.func97, Try.ntmps97
    go_wp2
    go_ret
    exact ⟨rfl, Ext.refl _⟩
end Go.Proofs.Ytipkjdfnoonpcaa

/- Offsets: the functions and the reference's walks. -/
namespace Go.Proofs.Ytipkjdfnoonpcaa
open Go.RowKit Go.Sort

/-- what 'Offset' answers -/
def offsetR (t : Tpl) (turn scale i j : Int) : Int × Int × Int :=
  if t.Ok then if Posed turn scale ∧ (0 ≤ i ∧ i ≤ t.w - 1) ∧ 0 ≤ j ∧ j ≤ t.h - 1 then (offX t turn scale i j, offY t turn scale i j, 0) else (0, 0, 2) else (0, 0, 70)
set_option maxHeartbeats 4000000 in
theorem c60 (turn scale : Int) (w : World) : Calls Try.prog 60 #[.int .i64 turn, .int .i64 scale] w fun e w' => e = .returned (.bool (decide (Posed turn scale))) ∧ Ext w w' := by
  by_cases h1 : 0 ≤ turn ∧ turn ≤ 11
  case neg =>
    have q1 : decide (0 ≤ turn ∧ turn ≤ 11) = false := decide_eq_false h1
    have H1 := Lib.hid h1
    clear h1
    go_enter Try.func60, Try.ntmps60
    go_wp2_with (go_at_call 61; (with_reducible refine (rwithin_same 61 (.inl rfl) _ _ _ _).mono ?_); rintro e w' ⟨rfl, rfl⟩)
    go_ret
    exact ⟨ret_bool (decide_eq_false (fun h => H1.out h.1)).symm, (by repeat (first | exact Ext.refl _ | assumption | refine Ext.alloc ?_ _ | refine Ext.drewN ?_ _ | refine ext_grow ?_ _ _ | refine Ext.trans ?_ (by assumption)))⟩
  have q1 : decide (0 ≤ turn ∧ turn ≤ 11) = true := decide_eq_true h1
  have H1 := Lib.hid h1
  clear h1
  go_enter Try.func60, Try.ntmps60
  go_wp2_with (go_at_call 61; (with_reducible refine (rwithin_same 61 (.inl rfl) _ _ _ _).mono ?_); rintro e w' ⟨rfl, rfl⟩)
  go_ret
  exact ⟨ret_bool (by have := H1.out; simp [Posed, this.1, this.2]), (by repeat (first | exact Ext.refl _ | assumption | refine Ext.alloc ?_ _ | refine Ext.drewN ?_ _ | refine ext_grow ?_ _ _ | refine Ext.trans ?_ (by assumption)))⟩
set_option maxRecDepth 100000 in
set_option maxHeartbeats 8000000 in
theorem c59 (t : Tpl) (v : Value) (w : World) (hv : IntsAt w v t.pix) (hl : t.pix.length ≤ maxLen) :
    Calls Try.prog 59 #[tplVal t v] w fun e w' => e = .returned (.bool (decide t.Ok)) ∧ Ext w w' := by
  obtain ⟨ao, cap, rfl, -, hc⟩ := hv.form
  have HC := Lib.hid hc
  have hlm : t.pix.length ≤ 9223372036854775807 := hl
  unfold tplVal
  clear hv hc
  by_cases hs : 1 ≤ t.w ∧ t.w ≤ 8
  case neg =>
    have q1 : decide (1 ≤ t.w ∧ t.w ≤ 8) = false := decide_eq_false hs
    have HS := Lib.hid hs
    clear hs
    go_enter Try.func59, Try.ntmps59
    go_wp2_with (go_at_call 61; (with_reducible refine (rwithin_same 61 (.inl rfl) _ _ _ _).mono ?_); rintro e w' ⟨rfl, rfl⟩)
    go_ret
    exact ⟨ret_bool (decide_eq_false (fun h => HS.out h.1.1)).symm, (by repeat (first | exact Ext.refl _ | assumption | refine Ext.alloc ?_ _ | refine Ext.drewN ?_ _ | refine ext_grow ?_ _ _ | refine Ext.trans ?_ (by assumption)))⟩
  by_cases ht : 1 ≤ t.h ∧ t.h ≤ 8
  case neg =>
    have q1 : decide (1 ≤ t.w ∧ t.w ≤ 8) = true := decide_eq_true hs
    have q2 : decide (1 ≤ t.h ∧ t.h ≤ 8) = false := decide_eq_false ht
    have HS := Lib.hid ht
    clear hs ht
    go_enter Try.func59, Try.ntmps59
    go_wp2_with (go_at_call 61; (with_reducible refine (rwithin_same 61 (.inl rfl) _ _ _ _).mono ?_); rintro e w' ⟨rfl, rfl⟩)
    go_ret
    exact ⟨ret_bool (decide_eq_false (fun h => HS.out h.1.2.1)).symm, (by repeat (first | exact Ext.refl _ | assumption | refine Ext.alloc ?_ _ | refine Ext.drewN ?_ _ | refine ext_grow ?_ _ _ | refine Ext.trans ?_ (by assumption)))⟩
  obtain ⟨p1, p2⟩ := mul_side8 ⟨hs, ht⟩
  have q1 : decide (1 ≤ t.w ∧ t.w ≤ 8) = true := decide_eq_true hs
  have q2 : decide (1 ≤ t.h ∧ t.h ≤ 8) = true := decide_eq_true ht
  have HS := Lib.hid hs
  have HT := Lib.hid ht
  clear hs ht
  by_cases hn : (t.pix.length : Int) = t.w * t.h
  case neg =>
    have q3 : ((t.pix.length : Int) != t.w * t.h) = true := by simpa using hn
    have HN := Lib.hid hn
    clear hn
    go_enter Try.func59, Try.ntmps59
    go_wp2_with (go_at_call 61; (with_reducible refine (rwithin_same 61 (.inl rfl) _ _ _ _).mono ?_); rintro e w' ⟨rfl, rfl⟩)
    go_ret
    exact ⟨ret_bool (decide_eq_false (fun h => HN.out h.1.2.2)).symm, (by repeat (first | exact Ext.refl _ | assumption | refine Ext.alloc ?_ _ | refine Ext.drewN ?_ _ | refine ext_grow ?_ _ _ | refine Ext.trans ?_ (by assumption)))⟩
  have q3 : ((t.pix.length : Int) != t.w * t.h) = false := by simpa using hn
  have HN := Lib.hid hn
  clear hn
  go_enter Try.func59, Try.ntmps59
  go_wp2_with (go_at_call 61; (with_reducible refine (rwithin_same 61 (.inl rfl) _ _ _ _).mono ?_); rintro e w' ⟨rfl, rfl⟩)
  go_loop [3, 4] (fun cv i => ∃ (k : Nat) (c : Bool), k ≤ t.pix.length ∧ i = .int .i64 (k : Int) ∧ cv = .bool c ∧ Hid (allIn (-1) 255 (t.pix.take k)) ∧ Hid (c = true ↔ ∃ n ∈ t.pix.take k, 0 ≤ n)) (fun _ i => t.pix.length - (intOf i).toNat)
  case atStart => exact ⟨0, false, Nat.zero_le _, rfl, rfl, Lib.hid (fun n hn => by simp at hn), Lib.hid (by simp)⟩
  case round =>
    obtain ⟨k, c, hk, rfl, rfl, hI, hJ⟩ := hrel
    by_cases hkl : k < t.pix.length
    · obtain ⟨b, off, rfl, c0⟩ := HC.out k hkl
      obtain ⟨x, hx⟩ : ∃ x, t.pix.getD k 0 = x := ⟨_, rfl⟩
      rw [hx] at c0
      have HX := Lib.hid hx
      have z0 := World.block_lt_of_cell? _ _ c0
      simp only at z0
      clear hx
      by_cases h1 : -1 ≤ x ∧ x ≤ 255
      case neg =>
        have q4 : decide (-1 ≤ x ∧ x ≤ 255) = false := decide_eq_false h1
        have H1 := Lib.hid h1
        clear h1
        go_wp2_with (go_at_call 61; (with_reducible refine (rwithin_same 61 (.inl rfl) _ _ _ _).mono ?_); rintro e w' ⟨rfl, rfl⟩)
        go_ret
        exact ⟨ret_bool (decide_eq_false (fun h => allIn_not hkl (by rw [HX.out]; exact H1.out) h.2.1)).symm, (by repeat (first | exact Ext.refl _ | assumption | refine Ext.alloc ?_ _ | refine Ext.drewN ?_ _ | refine ext_grow ?_ _ _ | refine Ext.trans ?_ (by assumption)))⟩
      have q4 : decide (-1 ≤ x ∧ x ≤ 255) = true := decide_eq_true h1
      have H1 := Lib.hid h1
      clear h1
      have HA := Lib.hid ((allIn_snoc hkl).2 ⟨hI.out, by rw [HX.out]; exact H1.out⟩)
      cases c
      · by_cases h0 : 0 ≤ x
        · go_wp2_with (go_at_call 61; (with_reducible refine (rwithin_same 61 (.inl rfl) _ _ _ _).mono ?_); rintro e w' ⟨rfl, rfl⟩)
          go_round
          case rel => exact ⟨k + 1, true, by omega, by go_num, rfl, HA, Lib.hid (by rw [ex_snoc hkl, HX.out]; exact ⟨fun _ => .inr h0, fun _ => rfl⟩)⟩
          case measure => simp [intOf]; omega
        · have h0f : decide (0 ≤ x) = false := decide_eq_false h0
          go_wp2_with (go_at_call 61; (with_reducible refine (rwithin_same 61 (.inl rfl) _ _ _ _).mono ?_); rintro e w' ⟨rfl, rfl⟩)
          go_round
          case rel => exact ⟨k + 1, false, by omega, by go_num, rfl, HA, Lib.hid (by rw [ex_snoc hkl, HX.out]; exact ⟨fun h => (by cases h), fun h => by rcases h with h | h; exact hJ.out.2 h; omega⟩)⟩
          case measure => simp [intOf]; omega
      · go_wp2_with (go_at_call 61; (with_reducible refine (rwithin_same 61 (.inl rfl) _ _ _ _).mono ?_); rintro e w' ⟨rfl, rfl⟩)
        go_round
        case rel => exact ⟨k + 1, true, by omega, by go_num, rfl, HA, Lib.hid (by rw [ex_snoc hkl]; exact ⟨fun _ => .inl (hJ.out.1 (by first | rfl | trivial)), fun _ => rfl⟩)⟩
        case measure => simp [intOf]; omega
    · have h1 := hI.out
      have h2 := hJ.out
      rw [List.take_of_length_le (by omega)] at h1 h2
      have HF := Lib.hid (show c = decide t.Ok from by
        rw [Bool.eq_iff_iff, decide_eq_true_iff]
        exact h2.trans ⟨fun h => ⟨⟨HS.out, HT.out, HN.out⟩, h1, h⟩, fun h => h.2.2⟩)
      clear h1 h2 hI hJ
      go_wp2
      go_ret
      exact ⟨ret_bool HF.out, (by repeat (first | exact Ext.refl _ | assumption | refine Ext.alloc ?_ _ | refine Ext.drewN ?_ _ | refine ext_grow ?_ _ _ | refine Ext.trans ?_ (by assumption)))⟩
set_option maxRecDepth 100000 in
set_option maxHeartbeats 16000000 in
theorem c62 (t : Tpl) (v : Value) (turn scale i j : Int) (w : World) (ht : (1 ≤ t.w ∧ t.w ≤ 8) ∧ 1 ≤ t.h ∧ t.h ≤ 8) (hv : IntsAt w v t.pix) (hp : Posed turn scale) (hi : 0 ≤ i ∧ i ≤ t.w - 1) (hj : 0 ≤ j ∧ j ≤ t.h - 1) :
    Calls Try.prog 62 #[tplVal t v, .int .i64 turn, .int .i64 scale, .int .i64 i, .int .i64 j] w fun e w' => e = .returned (.tuple #[.int .i64 (offX t turn scale i j), .int .i64 (offY t turn scale i j)]) ∧ Ext w w' := by
  obtain ⟨ao, cap, rfl, -, -⟩ := hv.form
  obtain ⟨⟨t1, t2⟩, t3, t4⟩ := ht
  obtain ⟨hp1, hsc⟩ := hp
  obtain ⟨i1, i2⟩ := hi
  obtain ⟨j1, j2⟩ := hj
  have KD := Lib.hid (fun w' => c96 turn w' hp1)
  have hdb := dirOf_bd turn
  obtain ⟨a, ha⟩ : ∃ a, (dirOf turn).1 = a := ⟨_, rfl⟩
  obtain ⟨b, hb⟩ : ∃ b, (dirOf turn).2 = b := ⟨_, rfl⟩
  rw [ha, hb] at hdb KD
  have HD := Lib.hid (And.intro ha hb)
  obtain ⟨⟨a1, a2⟩, b1, b2⟩ := hdb
  obtain ⟨u, hu⟩ : ∃ u, 2 * i - (t.w - 1) = u := ⟨_, rfl⟩
  obtain ⟨z, hz⟩ : ∃ z, 2 * j - (t.h - 1) = z := ⟨_, rfl⟩
  have hu1 : -8 ≤ u ∧ u ≤ 8 := by omega
  have hz1 : -8 ≤ z ∧ z ≤ 8 := by omega
  obtain ⟨⟨m1, m2⟩, ⟨m3, m4⟩, ⟨m5, m6⟩, -, -⟩ := off_bd (a := a) (b := b) (u := u) (v := z) ⟨a1, a2⟩ ⟨b1, b2⟩ hu1 hz1 hsc
  obtain ⟨⟨m7, m8⟩, ⟨m9, m10⟩, -, ⟨m11, m12⟩⟩ := off_bd (a := b) (b := a) (u := u) (v := z) ⟨b1, b2⟩ ⟨a1, a2⟩ hu1 hz1 hsc
  have K1 := Lib.hid (fun w => c97 (scale * (a * u - b * z) + 10) w (by omega) (by omega))
  have K2 := Lib.hid (fun w => c97 (scale * (b * u + a * z) + 10) w (by omega) (by omega))
  have hX : offX t turn scale i j = (scale * (a * u - b * z) + 10) / 20 := by unfold offX; rw [HD.out.1, HD.out.2, show 2 * i - t.w + 1 = u by omega, show 2 * j - t.h + 1 = z by omega]
  have hY : offY t turn scale i j = (scale * (b * u + a * z) + 10) / 20 := by unfold offY; rw [HD.out.1, HD.out.2, show 2 * i - t.w + 1 = u by omega, show 2 * j - t.h + 1 = z by omega]
  rw [← hX] at K1
  rw [← hY] at K2
  obtain ⟨OX, hox⟩ : ∃ x, offX t turn scale i j = x := ⟨_, rfl⟩
  obtain ⟨OY, hoy⟩ : ∃ x, offY t turn scale i j = x := ⟨_, rfl⟩
  rw [hox] at K1
  rw [hoy] at K2
  have HO := Lib.hid (And.intro hox hoy)
  have wa : IntKind.i64.wrap (2 * i) = 2 * i := IntWalk.i64_in _ (by omega)
  have wb : IntKind.i64.wrap (t.w - 1) = t.w - 1 := IntWalk.i64_in _ (by omega)
  have wc : IntKind.i64.wrap (2 * i - (t.w - 1)) = u := by rw [hu]; exact IntWalk.i64_in _ (by omega)
  have wd : IntKind.i64.wrap (2 * j) = 2 * j := IntWalk.i64_in _ (by omega)
  have we : IntKind.i64.wrap (t.h - 1) = t.h - 1 := IntWalk.i64_in _ (by omega)
  have wf : IntKind.i64.wrap (2 * j - (t.h - 1)) = z := by rw [hz]; exact IntWalk.i64_in _ (by omega)
  unfold tplVal
  clear hv ha hb hX hY hox hoy hu hz
  go_enter Try.func62, Try.ntmps62
  go_wp2_with (go_at_call 96; (with_reducible refine (KD.out _).mono ?_); rintro E w1 ⟨rfl, hb1⟩; have A1 := Lib.hid (show At w1 [(w.heap.size, Obj.cells #[.int .i64 t.w, .int .i64 t.h, .slice ao t.pix.length cap] 43)] from At.ext hb1 ⟨(by repeat (first | (refine blk_at _ _ ?_; (first | rfl | (simp only [size_one]; done))) | refine (blk_past _ _ (by simp only [size_one]; omega)).trans ?_)), trivial⟩); have E1 := Lib.hid (show Ext w w1 from (by repeat (first | exact Ext.refl _ | assumption | refine Ext.alloc ?_ _ | refine Ext.drewN ?_ _ | refine ext_grow ?_ _ _ | refine Ext.trans ?_ (by assumption)))); obtain ⟨⟨x00, x01, x02⟩, -⟩ := run_3 (At.at A1.out 0 rfl); have xz0 := At.lt A1.out 0 rfl; have xy0 := Nat.lt_succ_of_lt xz0; have xx0 := Nat.lt_succ_of_lt xy0)
  go_quiet (fail)
  have hb6 : Ext w1 (w1.drewN nq) := (Ext.refl _).drewN nq
  generalize hw6 : w1.drewN nq = w6 at hb6 ⊢
  clear hw6 wa wb wc wd we wf
  go_wp2_with (first | (go_at_call 97; (with_reducible refine (K1.out _).mono ?_); rintro E w7 ⟨rfl, hb7⟩) | (go_at_call 97; (with_reducible refine (K2.out _).mono ?_); rintro E w8 ⟨rfl, hb8⟩))
  go_ret2
  exact ⟨by rw [HO.out.1, HO.out.2]; rfl, E1.out.trans (hb6.trans (hb7.trans hb8))⟩
set_option maxRecDepth 100000 in
set_option maxHeartbeats 8000000 in
theorem c25 (t : Tpl) (v : Value) (turn scale i j : Int) (w : World) (hv : IntsAt w v t.pix) (hl : t.pix.length ≤ maxLen) :
    Calls Try.prog 25 #[tplVal t v, .int .i64 turn, .int .i64 scale, .int .i64 i, .int .i64 j] w fun e w' => e = .returned (.tuple #[.int .i64 (offsetR t turn scale i j).1, .int .i64 (offsetR t turn scale i j).2.1, .int .i64 (offsetR t turn scale i j).2.2]) ∧ Ext w w' := by
  have HV := Lib.hid hv
  obtain ⟨ao, cap, rfl, -, -⟩ := hv.form
  have KV := Lib.hid (fun w' (h : Ext w w') => c56 t _ w' (HV.out.ext h) hl)
  have KP := Lib.hid (fun w' => c57 turn scale w')
  have KO := fun (h1 : t.Ok) (h2 : Posed turn scale) (h3 : 0 ≤ i ∧ i ≤ t.w - 1) (h4 : 0 ≤ j ∧ j ≤ t.h - 1) => Lib.hid (fun w' (h : Ext w w') => c58 t _ turn scale i j w' ⟨h1.1.1, h1.1.2.1⟩ (HV.out.ext h) h2 h3 h4)
  unfold tplVal at *
  clear hv hl
  by_cases h1 : t.Ok
  case neg =>
    have q1 : decide t.Ok = false := decide_eq_false h1
    rw [q1] at KV
    have hR := Lib.hid (show offsetR t turn scale i j = (0, 0, 70) from if_neg h1)
    clear h1 q1 KO
    go_enter Try.func25, Try.ntmps25
    go_wp2_with (go_at_call 56; (with_reducible refine (KV.out _ (by repeat (first | exact Ext.refl _ | assumption | refine Ext.alloc ?_ _ | refine Ext.drewN ?_ _ | refine ext_grow ?_ _ _ | refine Ext.trans ?_ (by assumption)))).mono ?_); rintro E w1 ⟨rfl, hb1⟩; have A1 := Lib.hid (show At w1 [(w.heap.size, Obj.cells #[.int .i64 t.w, .int .i64 t.h, .slice ao t.pix.length cap] 43)] from At.ext (show Ext _ w1 from hb1) ⟨(by repeat (first | (refine blk_at _ _ ?_; (first | rfl | (simp only [size_one]; done))) | refine (blk_past _ _ (by simp only [size_one]; omega)).trans ?_)), trivial⟩); have E1 := Lib.hid (show Ext w w1 from (by repeat (first | exact Ext.refl _ | assumption | refine Ext.alloc ?_ _ | refine Ext.drewN ?_ _ | refine ext_grow ?_ _ _ | refine Ext.trans ?_ (by assumption)))); obtain ⟨⟨x00, x01, x02⟩, -⟩ := run_3 (At.at A1.out 0 rfl); have xz0 := At.lt A1.out 0 rfl; have xy0 := Nat.lt_succ_of_lt xz0; have xx0 := Nat.lt_succ_of_lt xy0)
    go_ret3
    exact ⟨by rw [hR.out]; rfl, (by repeat (first | exact Ext.refl _ | assumption | refine Ext.alloc ?_ _ | refine Ext.drewN ?_ _ | refine ext_grow ?_ _ _ | refine Ext.trans ?_ (by assumption)))⟩
  have q1 : decide t.Ok = true := decide_eq_true h1
  rw [q1] at KV
  obtain ⟨⟨⟨b1, b2⟩, ⟨b3, b4⟩, -⟩, -⟩ := id h1
  by_cases h2 : Posed turn scale
  case neg =>
    have q2 : decide (Posed turn scale) = false := decide_eq_false h2
    rw [q2] at KP
    have hR := Lib.hid (show offsetR t turn scale i j = (0, 0, 2) from (if_pos h1).trans (if_neg (fun h => h2 h.1)))
    clear h1 q1 h2 q2 KO
    go_enter Try.func25, Try.ntmps25
    go_wp2_with (first | (have _q := E1; go_at_call 57; (with_reducible refine (KP.out _).mono ?_); rintro E w2 ⟨rfl, hb2⟩; have A2 := Lib.hid (show At w2 [(w.heap.size, Obj.cells #[.int .i64 t.w, .int .i64 t.h, .slice ao t.pix.length cap] 43)] from At.ext (show Ext w1 w2 from (by repeat (first | exact Ext.refl _ | assumption | refine Ext.alloc ?_ _ | refine Ext.drewN ?_ _ | refine ext_grow ?_ _ _ | refine Ext.trans ?_ (by assumption)))) A1.out); have E2 := Lib.hid (show Ext w w2 from (by repeat (first | exact Ext.refl _ | assumption | refine Ext.alloc ?_ _ | refine Ext.drewN ?_ _ | refine ext_grow ?_ _ _ | refine Ext.trans ?_ (by assumption)))); obtain ⟨⟨y00, y01, y02⟩, -⟩ := run_3 (At.at A2.out 0 rfl); have yz0 := At.lt A2.out 0 rfl; have yy0 := Nat.lt_succ_of_lt yz0; have yx0 := Nat.lt_succ_of_lt yy0) | (go_at_call 56; (with_reducible refine (KV.out _ (by repeat (first | exact Ext.refl _ | assumption | refine Ext.alloc ?_ _ | refine Ext.drewN ?_ _ | refine ext_grow ?_ _ _ | refine Ext.trans ?_ (by assumption)))).mono ?_); rintro E w1 ⟨rfl, hb1⟩; have A1 := Lib.hid (show At w1 [(w.heap.size, Obj.cells #[.int .i64 t.w, .int .i64 t.h, .slice ao t.pix.length cap] 43)] from At.ext (show Ext _ w1 from hb1) ⟨(by repeat (first | (refine blk_at _ _ ?_; (first | rfl | (simp only [size_one]; done))) | refine (blk_past _ _ (by simp only [size_one]; omega)).trans ?_)), trivial⟩); have E1 := Lib.hid (show Ext w w1 from (by repeat (first | exact Ext.refl _ | assumption | refine Ext.alloc ?_ _ | refine Ext.drewN ?_ _ | refine ext_grow ?_ _ _ | refine Ext.trans ?_ (by assumption)))); obtain ⟨⟨x00, x01, x02⟩, -⟩ := run_3 (At.at A1.out 0 rfl); have xz0 := At.lt A1.out 0 rfl; have xy0 := Nat.lt_succ_of_lt xz0; have xx0 := Nat.lt_succ_of_lt xy0))
    go_ret3
    exact ⟨by rw [hR.out]; rfl, (by repeat (first | exact Ext.refl _ | assumption | refine Ext.alloc ?_ _ | refine Ext.drewN ?_ _ | refine ext_grow ?_ _ _ | refine Ext.trans ?_ (by assumption)))⟩
  have q2 : decide (Posed turn scale) = true := decide_eq_true h2
  rw [q2] at KP
  by_cases h3 : 0 ≤ i ∧ i ≤ t.w - 1
  case neg =>
    have q3 : decide (0 ≤ i ∧ i ≤ t.w - 1) = false := decide_eq_false h3
    have hR := Lib.hid (show offsetR t turn scale i j = (0, 0, 2) from (if_pos h1).trans (if_neg (fun h => h3 h.2.1)))
    clear h1 q1 h2 q2 h3 KO
    go_enter Try.func25, Try.ntmps25
    go_wp2_with (first | (have _q := E2; go_at_call 50; (with_reducible refine (within_one_same 50 (.inl rfl) _ _ _ _ _ (by simp)).mono ?_); rintro e w' ⟨rfl, rfl⟩) | (have _q := E1; go_at_call 57; (with_reducible refine (KP.out _).mono ?_); rintro E w2 ⟨rfl, hb2⟩; have A2 := Lib.hid (show At w2 [(w.heap.size, Obj.cells #[.int .i64 t.w, .int .i64 t.h, .slice ao t.pix.length cap] 43)] from At.ext (show Ext w1 w2 from (by repeat (first | exact Ext.refl _ | assumption | refine Ext.alloc ?_ _ | refine Ext.drewN ?_ _ | refine ext_grow ?_ _ _ | refine Ext.trans ?_ (by assumption)))) A1.out); have E2 := Lib.hid (show Ext w w2 from (by repeat (first | exact Ext.refl _ | assumption | refine Ext.alloc ?_ _ | refine Ext.drewN ?_ _ | refine ext_grow ?_ _ _ | refine Ext.trans ?_ (by assumption)))); obtain ⟨⟨y00, y01, y02⟩, -⟩ := run_3 (At.at A2.out 0 rfl); have yz0 := At.lt A2.out 0 rfl; have yy0 := Nat.lt_succ_of_lt yz0; have yx0 := Nat.lt_succ_of_lt yy0) | (go_at_call 56; (with_reducible refine (KV.out _ (by repeat (first | exact Ext.refl _ | assumption | refine Ext.alloc ?_ _ | refine Ext.drewN ?_ _ | refine ext_grow ?_ _ _ | refine Ext.trans ?_ (by assumption)))).mono ?_); rintro E w1 ⟨rfl, hb1⟩; have A1 := Lib.hid (show At w1 [(w.heap.size, Obj.cells #[.int .i64 t.w, .int .i64 t.h, .slice ao t.pix.length cap] 43)] from At.ext (show Ext _ w1 from hb1) ⟨(by repeat (first | (refine blk_at _ _ ?_; (first | rfl | (simp only [size_one]; done))) | refine (blk_past _ _ (by simp only [size_one]; omega)).trans ?_)), trivial⟩); have E1 := Lib.hid (show Ext w w1 from (by repeat (first | exact Ext.refl _ | assumption | refine Ext.alloc ?_ _ | refine Ext.drewN ?_ _ | refine ext_grow ?_ _ _ | refine Ext.trans ?_ (by assumption)))); obtain ⟨⟨x00, x01, x02⟩, -⟩ := run_3 (At.at A1.out 0 rfl); have xz0 := At.lt A1.out 0 rfl; have xy0 := Nat.lt_succ_of_lt xz0; have xx0 := Nat.lt_succ_of_lt xy0))
    go_ret3
    exact ⟨by rw [hR.out]; rfl, (by repeat (first | exact Ext.refl _ | assumption | refine Ext.alloc ?_ _ | refine Ext.drewN ?_ _ | refine ext_grow ?_ _ _ | refine Ext.trans ?_ (by assumption)))⟩
  have q3 : decide (0 ≤ i ∧ i ≤ t.w - 1) = true := decide_eq_true h3
  by_cases h4 : 0 ≤ j ∧ j ≤ t.h - 1
  case neg =>
    have q4 : decide (0 ≤ j ∧ j ≤ t.h - 1) = false := decide_eq_false h4
    have hR := Lib.hid (show offsetR t turn scale i j = (0, 0, 2) from (if_pos h1).trans (if_neg (fun h => h4 h.2.2)))
    clear h1 q1 h2 q2 h3 h4 KO
    go_enter Try.func25, Try.ntmps25
    go_wp2_with (first | (have _q := E2; go_at_call 50; (with_reducible refine (within_one_same 50 (.inl rfl) _ _ _ _ _ (by simp)).mono ?_); rintro e w' ⟨rfl, rfl⟩) | (have _q := E1; go_at_call 57; (with_reducible refine (KP.out _).mono ?_); rintro E w2 ⟨rfl, hb2⟩; have A2 := Lib.hid (show At w2 [(w.heap.size, Obj.cells #[.int .i64 t.w, .int .i64 t.h, .slice ao t.pix.length cap] 43)] from At.ext (show Ext w1 w2 from (by repeat (first | exact Ext.refl _ | assumption | refine Ext.alloc ?_ _ | refine Ext.drewN ?_ _ | refine ext_grow ?_ _ _ | refine Ext.trans ?_ (by assumption)))) A1.out); have E2 := Lib.hid (show Ext w w2 from (by repeat (first | exact Ext.refl _ | assumption | refine Ext.alloc ?_ _ | refine Ext.drewN ?_ _ | refine ext_grow ?_ _ _ | refine Ext.trans ?_ (by assumption)))); obtain ⟨⟨y00, y01, y02⟩, -⟩ := run_3 (At.at A2.out 0 rfl); have yz0 := At.lt A2.out 0 rfl; have yy0 := Nat.lt_succ_of_lt yz0; have yx0 := Nat.lt_succ_of_lt yy0) | (go_at_call 56; (with_reducible refine (KV.out _ (by repeat (first | exact Ext.refl _ | assumption | refine Ext.alloc ?_ _ | refine Ext.drewN ?_ _ | refine ext_grow ?_ _ _ | refine Ext.trans ?_ (by assumption)))).mono ?_); rintro E w1 ⟨rfl, hb1⟩; have A1 := Lib.hid (show At w1 [(w.heap.size, Obj.cells #[.int .i64 t.w, .int .i64 t.h, .slice ao t.pix.length cap] 43)] from At.ext (show Ext _ w1 from hb1) ⟨(by repeat (first | (refine blk_at _ _ ?_; (first | rfl | (simp only [size_one]; done))) | refine (blk_past _ _ (by simp only [size_one]; omega)).trans ?_)), trivial⟩); have E1 := Lib.hid (show Ext w w1 from (by repeat (first | exact Ext.refl _ | assumption | refine Ext.alloc ?_ _ | refine Ext.drewN ?_ _ | refine ext_grow ?_ _ _ | refine Ext.trans ?_ (by assumption)))); obtain ⟨⟨x00, x01, x02⟩, -⟩ := run_3 (At.at A1.out 0 rfl); have xz0 := At.lt A1.out 0 rfl; have xy0 := Nat.lt_succ_of_lt xz0; have xx0 := Nat.lt_succ_of_lt xy0))
    go_ret3
    exact ⟨by rw [hR.out]; rfl, (by repeat (first | exact Ext.refl _ | assumption | refine Ext.alloc ?_ _ | refine Ext.drewN ?_ _ | refine ext_grow ?_ _ _ | refine Ext.trans ?_ (by assumption)))⟩
  have q4 : decide (0 ≤ j ∧ j ≤ t.h - 1) = true := decide_eq_true h4
  replace KO := KO h1 h2 h3 h4
  have hR := Lib.hid (show offsetR t turn scale i j = (offX t turn scale i j, offY t turn scale i j, 0) from (if_pos h1).trans (if_pos ⟨h2, h3, h4⟩))
  clear h1 q1 h2 q2 h3 h4
  obtain ⟨OX, hox⟩ : ∃ x, offX t turn scale i j = x := ⟨_, rfl⟩
  obtain ⟨OY, hoy⟩ : ∃ x, offY t turn scale i j = x := ⟨_, rfl⟩
  have HO := Lib.hid (And.intro hox hoy)
  rw [hox, hoy] at KO
  clear hox hoy
  go_enter Try.func25, Try.ntmps25
  go_wp2_with (first | (have _q := E2; go_at_call 58; (with_reducible refine (KO.out _ (E2.out.trans (by repeat (first | exact Ext.refl _ | assumption | refine Ext.alloc ?_ _ | refine Ext.drewN ?_ _ | refine ext_grow ?_ _ _ | refine Ext.trans ?_ (by assumption))))).mono ?_); rintro E w3 ⟨rfl, hb3⟩) | (have _q := E2; go_at_call 50; (with_reducible refine (within_one_same 50 (.inl rfl) _ _ _ _ _ (by simp)).mono ?_); rintro e w' ⟨rfl, rfl⟩) | (have _q := E1; go_at_call 57; (with_reducible refine (KP.out _).mono ?_); rintro E w2 ⟨rfl, hb2⟩; have A2 := Lib.hid (show At w2 [(w.heap.size, Obj.cells #[.int .i64 t.w, .int .i64 t.h, .slice ao t.pix.length cap] 43)] from At.ext (show Ext w1 w2 from (by repeat (first | exact Ext.refl _ | assumption | refine Ext.alloc ?_ _ | refine Ext.drewN ?_ _ | refine ext_grow ?_ _ _ | refine Ext.trans ?_ (by assumption)))) A1.out); have E2 := Lib.hid (show Ext w w2 from (by repeat (first | exact Ext.refl _ | assumption | refine Ext.alloc ?_ _ | refine Ext.drewN ?_ _ | refine ext_grow ?_ _ _ | refine Ext.trans ?_ (by assumption)))); obtain ⟨⟨y00, y01, y02⟩, -⟩ := run_3 (At.at A2.out 0 rfl); have yz0 := At.lt A2.out 0 rfl; have yy0 := Nat.lt_succ_of_lt yz0; have yx0 := Nat.lt_succ_of_lt yy0) | (go_at_call 56; (with_reducible refine (KV.out _ (by repeat (first | exact Ext.refl _ | assumption | refine Ext.alloc ?_ _ | refine Ext.drewN ?_ _ | refine ext_grow ?_ _ _ | refine Ext.trans ?_ (by assumption)))).mono ?_); rintro E w1 ⟨rfl, hb1⟩; have A1 := Lib.hid (show At w1 [(w.heap.size, Obj.cells #[.int .i64 t.w, .int .i64 t.h, .slice ao t.pix.length cap] 43)] from At.ext (show Ext _ w1 from hb1) ⟨(by repeat (first | (refine blk_at _ _ ?_; (first | rfl | (simp only [size_one]; done))) | refine (blk_past _ _ (by simp only [size_one]; omega)).trans ?_)), trivial⟩); have E1 := Lib.hid (show Ext w w1 from (by repeat (first | exact Ext.refl _ | assumption | refine Ext.alloc ?_ _ | refine Ext.drewN ?_ _ | refine ext_grow ?_ _ _ | refine Ext.trans ?_ (by assumption)))); obtain ⟨⟨x00, x01, x02⟩, -⟩ := run_3 (At.at A1.out 0 rfl); have xz0 := At.lt A1.out 0 rfl; have xy0 := Nat.lt_succ_of_lt xz0; have xx0 := Nat.lt_succ_of_lt xy0))
  go_ret3
  exact ⟨by rw [hR.out, HO.out.1, HO.out.2]; rfl, (by repeat (first | exact Ext.refl _ | assumption | refine Ext.alloc ?_ _ | refine Ext.drewN ?_ _ | refine ext_grow ?_ _ _ | refine Ext.trans ?_ (by assumption)))⟩
set_option maxRecDepth 100000 in
set_option maxHeartbeats 8000000 in
theorem c26 (t : Tpl) (v : Value) (turn scale i j : Int) (w : World) (hv : IntsAt w v t.pix) (hl : t.pix.length ≤ maxLen) :
    Calls Try.prog 26 #[tplVal t v, .int .i64 turn, .int .i64 scale, .int .i64 i, .int .i64 j] w fun e w' => e = .returned (.tuple #[.int .i64 (offsetR t turn scale i j).1, .int .i64 (offsetR t turn scale i j).2.1, .int .i64 (offsetR t turn scale i j).2.2]) ∧ Ext w w' := by
  have HV := Lib.hid hv
  obtain ⟨ao, cap, rfl, -, -⟩ := hv.form
  have KV := Lib.hid (fun w' (h : Ext w w') => c59 t _ w' (HV.out.ext h) hl)
  have KP := Lib.hid (fun w' => c60 turn scale w')
  have KO := fun (h1 : t.Ok) (h2 : Posed turn scale) (h3 : 0 ≤ i ∧ i ≤ t.w - 1) (h4 : 0 ≤ j ∧ j ≤ t.h - 1) => Lib.hid (fun w' (h : Ext w w') => c62 t _ turn scale i j w' ⟨h1.1.1, h1.1.2.1⟩ (HV.out.ext h) h2 h3 h4)
  unfold tplVal at *
  clear hv hl
  by_cases h1 : t.Ok
  case neg =>
    have q1 : decide t.Ok = false := decide_eq_false h1
    rw [q1] at KV
    have hR := Lib.hid (show offsetR t turn scale i j = (0, 0, 70) from if_neg h1)
    clear h1 q1 KO
    go_enter Try.func26, Try.ntmps26
    go_wp2_with (go_at_call 59; (with_reducible refine (KV.out _ (by repeat (first | exact Ext.refl _ | assumption | refine Ext.alloc ?_ _ | refine Ext.drewN ?_ _ | refine ext_grow ?_ _ _ | refine Ext.trans ?_ (by assumption)))).mono ?_); rintro E w1 ⟨rfl, hb1⟩; have A1 := Lib.hid (show At w1 [(w.heap.size, Obj.cells #[.int .i64 t.w, .int .i64 t.h, .slice ao t.pix.length cap] 43)] from At.ext (show Ext _ w1 from hb1) ⟨(by repeat (first | (refine blk_at _ _ ?_; (first | rfl | (simp only [size_one]; done))) | refine (blk_past _ _ (by simp only [size_one]; omega)).trans ?_)), trivial⟩); have E1 := Lib.hid (show Ext w w1 from (by repeat (first | exact Ext.refl _ | assumption | refine Ext.alloc ?_ _ | refine Ext.drewN ?_ _ | refine ext_grow ?_ _ _ | refine Ext.trans ?_ (by assumption)))); obtain ⟨⟨x00, x01, x02⟩, -⟩ := run_3 (At.at A1.out 0 rfl); have xz0 := At.lt A1.out 0 rfl; have xy0 := Nat.lt_succ_of_lt xz0; have xx0 := Nat.lt_succ_of_lt xy0)
    go_ret3
    exact ⟨by rw [hR.out]; rfl, (by repeat (first | exact Ext.refl _ | assumption | refine Ext.alloc ?_ _ | refine Ext.drewN ?_ _ | refine ext_grow ?_ _ _ | refine Ext.trans ?_ (by assumption)))⟩
  have q1 : decide t.Ok = true := decide_eq_true h1
  rw [q1] at KV
  obtain ⟨⟨⟨b1, b2⟩, ⟨b3, b4⟩, -⟩, -⟩ := id h1
  by_cases h2 : Posed turn scale
  case neg =>
    have q2 : decide (Posed turn scale) = false := decide_eq_false h2
    rw [q2] at KP
    have hR := Lib.hid (show offsetR t turn scale i j = (0, 0, 2) from (if_pos h1).trans (if_neg (fun h => h2 h.1)))
    clear h1 q1 h2 q2 KO
    go_enter Try.func26, Try.ntmps26
    go_wp2_with (first | (have _q := E1; go_at_call 60; (with_reducible refine (KP.out _).mono ?_); rintro E w2 ⟨rfl, hb2⟩; have A2 := Lib.hid (show At w2 [(w.heap.size, Obj.cells #[.int .i64 t.w, .int .i64 t.h, .slice ao t.pix.length cap] 43)] from At.ext (show Ext w1 w2 from (by repeat (first | exact Ext.refl _ | assumption | refine Ext.alloc ?_ _ | refine Ext.drewN ?_ _ | refine ext_grow ?_ _ _ | refine Ext.trans ?_ (by assumption)))) A1.out); have E2 := Lib.hid (show Ext w w2 from (by repeat (first | exact Ext.refl _ | assumption | refine Ext.alloc ?_ _ | refine Ext.drewN ?_ _ | refine ext_grow ?_ _ _ | refine Ext.trans ?_ (by assumption)))); obtain ⟨⟨y00, y01, y02⟩, -⟩ := run_3 (At.at A2.out 0 rfl); have yz0 := At.lt A2.out 0 rfl; have yy0 := Nat.lt_succ_of_lt yz0; have yx0 := Nat.lt_succ_of_lt yy0) | (go_at_call 59; (with_reducible refine (KV.out _ (by repeat (first | exact Ext.refl _ | assumption | refine Ext.alloc ?_ _ | refine Ext.drewN ?_ _ | refine ext_grow ?_ _ _ | refine Ext.trans ?_ (by assumption)))).mono ?_); rintro E w1 ⟨rfl, hb1⟩; have A1 := Lib.hid (show At w1 [(w.heap.size, Obj.cells #[.int .i64 t.w, .int .i64 t.h, .slice ao t.pix.length cap] 43)] from At.ext (show Ext _ w1 from hb1) ⟨(by repeat (first | (refine blk_at _ _ ?_; (first | rfl | (simp only [size_one]; done))) | refine (blk_past _ _ (by simp only [size_one]; omega)).trans ?_)), trivial⟩); have E1 := Lib.hid (show Ext w w1 from (by repeat (first | exact Ext.refl _ | assumption | refine Ext.alloc ?_ _ | refine Ext.drewN ?_ _ | refine ext_grow ?_ _ _ | refine Ext.trans ?_ (by assumption)))); obtain ⟨⟨x00, x01, x02⟩, -⟩ := run_3 (At.at A1.out 0 rfl); have xz0 := At.lt A1.out 0 rfl; have xy0 := Nat.lt_succ_of_lt xz0; have xx0 := Nat.lt_succ_of_lt xy0))
    go_ret3
    exact ⟨by rw [hR.out]; rfl, (by repeat (first | exact Ext.refl _ | assumption | refine Ext.alloc ?_ _ | refine Ext.drewN ?_ _ | refine ext_grow ?_ _ _ | refine Ext.trans ?_ (by assumption)))⟩
  have q2 : decide (Posed turn scale) = true := decide_eq_true h2
  rw [q2] at KP
  by_cases h3 : 0 ≤ i ∧ i ≤ t.w - 1
  case neg =>
    have q3 : decide (0 ≤ i ∧ i ≤ t.w - 1) = false := decide_eq_false h3
    have hR := Lib.hid (show offsetR t turn scale i j = (0, 0, 2) from (if_pos h1).trans (if_neg (fun h => h3 h.2.1)))
    clear h1 q1 h2 q2 h3 KO
    go_enter Try.func26, Try.ntmps26
    go_wp2_with (first | (have _q := E2; go_at_call 61; (with_reducible refine (rwithin_same 61 (.inl rfl) _ _ _ _).mono ?_); rintro e w' ⟨rfl, rfl⟩) | (have _q := E1; go_at_call 60; (with_reducible refine (KP.out _).mono ?_); rintro E w2 ⟨rfl, hb2⟩; have A2 := Lib.hid (show At w2 [(w.heap.size, Obj.cells #[.int .i64 t.w, .int .i64 t.h, .slice ao t.pix.length cap] 43)] from At.ext (show Ext w1 w2 from (by repeat (first | exact Ext.refl _ | assumption | refine Ext.alloc ?_ _ | refine Ext.drewN ?_ _ | refine ext_grow ?_ _ _ | refine Ext.trans ?_ (by assumption)))) A1.out); have E2 := Lib.hid (show Ext w w2 from (by repeat (first | exact Ext.refl _ | assumption | refine Ext.alloc ?_ _ | refine Ext.drewN ?_ _ | refine ext_grow ?_ _ _ | refine Ext.trans ?_ (by assumption)))); obtain ⟨⟨y00, y01, y02⟩, -⟩ := run_3 (At.at A2.out 0 rfl); have yz0 := At.lt A2.out 0 rfl; have yy0 := Nat.lt_succ_of_lt yz0; have yx0 := Nat.lt_succ_of_lt yy0) | (go_at_call 59; (with_reducible refine (KV.out _ (by repeat (first | exact Ext.refl _ | assumption | refine Ext.alloc ?_ _ | refine Ext.drewN ?_ _ | refine ext_grow ?_ _ _ | refine Ext.trans ?_ (by assumption)))).mono ?_); rintro E w1 ⟨rfl, hb1⟩; have A1 := Lib.hid (show At w1 [(w.heap.size, Obj.cells #[.int .i64 t.w, .int .i64 t.h, .slice ao t.pix.length cap] 43)] from At.ext (show Ext _ w1 from hb1) ⟨(by repeat (first | (refine blk_at _ _ ?_; (first | rfl | (simp only [size_one]; done))) | refine (blk_past _ _ (by simp only [size_one]; omega)).trans ?_)), trivial⟩); have E1 := Lib.hid (show Ext w w1 from (by repeat (first | exact Ext.refl _ | assumption | refine Ext.alloc ?_ _ | refine Ext.drewN ?_ _ | refine ext_grow ?_ _ _ | refine Ext.trans ?_ (by assumption)))); obtain ⟨⟨x00, x01, x02⟩, -⟩ := run_3 (At.at A1.out 0 rfl); have xz0 := At.lt A1.out 0 rfl; have xy0 := Nat.lt_succ_of_lt xz0; have xx0 := Nat.lt_succ_of_lt xy0))
    go_ret3
    exact ⟨by rw [hR.out]; rfl, (by repeat (first | exact Ext.refl _ | assumption | refine Ext.alloc ?_ _ | refine Ext.drewN ?_ _ | refine ext_grow ?_ _ _ | refine Ext.trans ?_ (by assumption)))⟩
  have q3 : decide (0 ≤ i ∧ i ≤ t.w - 1) = true := decide_eq_true h3
  by_cases h4 : 0 ≤ j ∧ j ≤ t.h - 1
  case neg =>
    have q4 : decide (0 ≤ j ∧ j ≤ t.h - 1) = false := decide_eq_false h4
    have hR := Lib.hid (show offsetR t turn scale i j = (0, 0, 2) from (if_pos h1).trans (if_neg (fun h => h4 h.2.2)))
    clear h1 q1 h2 q2 h3 h4 KO
    go_enter Try.func26, Try.ntmps26
    go_wp2_with (first | (have _q := E2; go_at_call 61; (with_reducible refine (rwithin_same 61 (.inl rfl) _ _ _ _).mono ?_); rintro e w' ⟨rfl, rfl⟩) | (have _q := E1; go_at_call 60; (with_reducible refine (KP.out _).mono ?_); rintro E w2 ⟨rfl, hb2⟩; have A2 := Lib.hid (show At w2 [(w.heap.size, Obj.cells #[.int .i64 t.w, .int .i64 t.h, .slice ao t.pix.length cap] 43)] from At.ext (show Ext w1 w2 from (by repeat (first | exact Ext.refl _ | assumption | refine Ext.alloc ?_ _ | refine Ext.drewN ?_ _ | refine ext_grow ?_ _ _ | refine Ext.trans ?_ (by assumption)))) A1.out); have E2 := Lib.hid (show Ext w w2 from (by repeat (first | exact Ext.refl _ | assumption | refine Ext.alloc ?_ _ | refine Ext.drewN ?_ _ | refine ext_grow ?_ _ _ | refine Ext.trans ?_ (by assumption)))); obtain ⟨⟨y00, y01, y02⟩, -⟩ := run_3 (At.at A2.out 0 rfl); have yz0 := At.lt A2.out 0 rfl; have yy0 := Nat.lt_succ_of_lt yz0; have yx0 := Nat.lt_succ_of_lt yy0) | (go_at_call 59; (with_reducible refine (KV.out _ (by repeat (first | exact Ext.refl _ | assumption | refine Ext.alloc ?_ _ | refine Ext.drewN ?_ _ | refine ext_grow ?_ _ _ | refine Ext.trans ?_ (by assumption)))).mono ?_); rintro E w1 ⟨rfl, hb1⟩; have A1 := Lib.hid (show At w1 [(w.heap.size, Obj.cells #[.int .i64 t.w, .int .i64 t.h, .slice ao t.pix.length cap] 43)] from At.ext (show Ext _ w1 from hb1) ⟨(by repeat (first | (refine blk_at _ _ ?_; (first | rfl | (simp only [size_one]; done))) | refine (blk_past _ _ (by simp only [size_one]; omega)).trans ?_)), trivial⟩); have E1 := Lib.hid (show Ext w w1 from (by repeat (first | exact Ext.refl _ | assumption | refine Ext.alloc ?_ _ | refine Ext.drewN ?_ _ | refine ext_grow ?_ _ _ | refine Ext.trans ?_ (by assumption)))); obtain ⟨⟨x00, x01, x02⟩, -⟩ := run_3 (At.at A1.out 0 rfl); have xz0 := At.lt A1.out 0 rfl; have xy0 := Nat.lt_succ_of_lt xz0; have xx0 := Nat.lt_succ_of_lt xy0))
    go_ret3
    exact ⟨by rw [hR.out]; rfl, (by repeat (first | exact Ext.refl _ | assumption | refine Ext.alloc ?_ _ | refine Ext.drewN ?_ _ | refine ext_grow ?_ _ _ | refine Ext.trans ?_ (by assumption)))⟩
  have q4 : decide (0 ≤ j ∧ j ≤ t.h - 1) = true := decide_eq_true h4
  replace KO := KO h1 h2 h3 h4
  have hR := Lib.hid (show offsetR t turn scale i j = (offX t turn scale i j, offY t turn scale i j, 0) from (if_pos h1).trans (if_pos ⟨h2, h3, h4⟩))
  clear h1 q1 h2 q2 h3 h4
  obtain ⟨OX, hox⟩ : ∃ x, offX t turn scale i j = x := ⟨_, rfl⟩
  obtain ⟨OY, hoy⟩ : ∃ x, offY t turn scale i j = x := ⟨_, rfl⟩
  have HO := Lib.hid (And.intro hox hoy)
  rw [hox, hoy] at KO
  clear hox hoy
  go_enter Try.func26, Try.ntmps26
  go_wp2_with (first | (have _q := E2; go_at_call 62; (with_reducible refine (KO.out _ (E2.out.trans (by repeat (first | exact Ext.refl _ | assumption | refine Ext.alloc ?_ _ | refine Ext.drewN ?_ _ | refine ext_grow ?_ _ _ | refine Ext.trans ?_ (by assumption))))).mono ?_); rintro E w3 ⟨rfl, hb3⟩) | (have _q := E2; go_at_call 61; (with_reducible refine (rwithin_same 61 (.inl rfl) _ _ _ _).mono ?_); rintro e w' ⟨rfl, rfl⟩) | (have _q := E1; go_at_call 60; (with_reducible refine (KP.out _).mono ?_); rintro E w2 ⟨rfl, hb2⟩; have A2 := Lib.hid (show At w2 [(w.heap.size, Obj.cells #[.int .i64 t.w, .int .i64 t.h, .slice ao t.pix.length cap] 43)] from At.ext (show Ext w1 w2 from (by repeat (first | exact Ext.refl _ | assumption | refine Ext.alloc ?_ _ | refine Ext.drewN ?_ _ | refine ext_grow ?_ _ _ | refine Ext.trans ?_ (by assumption)))) A1.out); have E2 := Lib.hid (show Ext w w2 from (by repeat (first | exact Ext.refl _ | assumption | refine Ext.alloc ?_ _ | refine Ext.drewN ?_ _ | refine ext_grow ?_ _ _ | refine Ext.trans ?_ (by assumption)))); obtain ⟨⟨y00, y01, y02⟩, -⟩ := run_3 (At.at A2.out 0 rfl); have yz0 := At.lt A2.out 0 rfl; have yy0 := Nat.lt_succ_of_lt yz0; have yx0 := Nat.lt_succ_of_lt yy0) | (go_at_call 59; (with_reducible refine (KV.out _ (by repeat (first | exact Ext.refl _ | assumption | refine Ext.alloc ?_ _ | refine Ext.drewN ?_ _ | refine ext_grow ?_ _ _ | refine Ext.trans ?_ (by assumption)))).mono ?_); rintro E w1 ⟨rfl, hb1⟩; have A1 := Lib.hid (show At w1 [(w.heap.size, Obj.cells #[.int .i64 t.w, .int .i64 t.h, .slice ao t.pix.length cap] 43)] from At.ext (show Ext _ w1 from hb1) ⟨(by repeat (first | (refine blk_at _ _ ?_; (first | rfl | (simp only [size_one]; done))) | refine (blk_past _ _ (by simp only [size_one]; omega)).trans ?_)), trivial⟩); have E1 := Lib.hid (show Ext w w1 from (by repeat (first | exact Ext.refl _ | assumption | refine Ext.alloc ?_ _ | refine Ext.drewN ?_ _ | refine ext_grow ?_ _ _ | refine Ext.trans ?_ (by assumption)))); obtain ⟨⟨x00, x01, x02⟩, -⟩ := run_3 (At.at A1.out 0 rfl); have xz0 := At.lt A1.out 0 rfl; have xy0 := Nat.lt_succ_of_lt xz0; have xx0 := Nat.lt_succ_of_lt xy0))
  go_ret3
  exact ⟨by rw [hR.out, HO.out.1, HO.out.2]; rfl, (by repeat (first | exact Ext.refl _ | assumption | refine Ext.alloc ?_ _ | refine Ext.drewN ?_ _ | refine ext_grow ?_ _ _ | refine Ext.trans ?_ (by assumption)))⟩
end Go.Proofs.Ytipkjdfnoonpcaa

/- Stencils: the program's walk. -/
namespace Go.Proofs.Ytipkjdfnoonpcaa
open Go.RowKit Go.Sort

def ptCells (p : Pt) : List Value := [.int .i64 p.x, .int .i64 p.y, .int .i64 p.v]
def pts (l : List Pt) : List Value := l.flatMap ptCells
theorem pts_snoc (l : List Pt) (p : Pt) : pts (l ++ [p]) = pts l ++ ptCells p := by simp [pts]
theorem pts_one (p : Pt) : ∀ u ∈ ptCells p, u.oneCell' = true := by
  intro u hu
  simp only [ptCells, List.mem_cons, List.not_mem_nil, or_false] at hu
  rcases hu with rfl | rfl | rfl <;> rfl
theorem info141 : (Try.prog.info? 141).map (fun i => (i.zero, i.size, i.bytes)) = some (some (.agg #[.int .i64 0, .int .i64 0, .int .i64 0]), 3, 24) := by kernel_rfl
/-- what 'stencilOf' answers -/
def StenIs (t : Tpl) (turn scale : Int) (w : World) (e : Ending) (w' : World) : Prop :=
  ∃ v', e = .returned v' ∧ w'.ownsRow w.heap.size 141 3 v' (stencil t turn scale t.pix.length).length (pts (stencil t turn scale t.pix.length)) ∧ Ext w w'
theorem tplace_bd {t : Tpl} (ht : t.Ok) {k : Nat} (hk : k < t.pix.length) : (0 ≤ (k : Int) % t.w ∧ (k : Int) % t.w ≤ t.w - 1) ∧ 0 ≤ (k : Int) / t.w ∧ (k : Int) / t.w ≤ t.h - 1 := by
  obtain ⟨⟨⟨h1, h2⟩, ⟨h3, h4⟩, h5⟩, -⟩ := ht
  have a1 := Int.emod_nonneg (k : Int) (show t.w ≠ 0 by omega)
  have a2 := Int.emod_lt_of_pos (k : Int) (show 0 < t.w by omega)
  have a3 : 0 ≤ (k : Int) / t.w := Int.ediv_nonneg (by omega) (by omega)
  have a4 : (k : Int) / t.w < t.h := Int.ediv_lt_of_lt_mul (by omega) (by rw [Int.mul_comm]; omega)
  omega
theorem sten_yes {t : Tpl} {turn scale x : Int} {k : Nat} (hx : t.pix.getD k 0 = x) (h0 : 0 ≤ x) : stencil t turn scale (k + 1) = stencil t turn scale k ++ [⟨offX t turn scale ((k : Int) % t.w) ((k : Int) / t.w), offY t turn scale ((k : Int) % t.w) ((k : Int) / t.w), x⟩] := by
  subst hx
  rw [stencil, if_pos h0]
  rfl
theorem sten_no {t : Tpl} {turn scale x : Int} {k : Nat} (hx : t.pix.getD k 0 = x) (h0 : x < 0) : stencil t turn scale (k + 1) = stencil t turn scale k := by
  subst hx
  rw [stencil, if_neg (by omega)]
set_option maxRecDepth 100000 in
set_option maxHeartbeats 16000000 in
theorem c69 (t : Tpl) (v : Value) (turn scale : Int) (w : World) (ht : t.Ok) (hv : IntsAt w v t.pix) (hp : Posed turn scale) :
    Calls Try.prog 69 #[tplVal t v, .int .i64 turn, .int .i64 scale] w (StenIs t turn scale w) := by
  have HV := Lib.hid hv
  have HT := Lib.hid ht
  have HP := Lib.hid hp
  obtain ⟨ao, cap, rfl, -, hc⟩ := hv.form
  have HC := Lib.hid hc
  obtain ⟨n1, n2⟩ := Tpl.len_bd ht
  obtain ⟨⟨⟨t1, t2⟩, ⟨t3, t4⟩, -⟩, -⟩ := ht
  obtain ⟨i0, hi0, hz0, hz1, hz2⟩ := info_parts info141
  unfold tplVal
  clear hv hc hp
  go_enter Try.func69, Try.ntmps69
  go_wp2
  go_loopw [7, 15] (fun ov iv wr => ∃ k : Nat, k ≤ t.pix.length ∧ iv = .int .i64 (k : Int) ∧ Hid (Ext w wr) ∧ Hid (At wr [(w.heap.size, Obj.cells #[.int .i64 t.w, .int .i64 t.h, .slice ao t.pix.length cap] 43)]) ∧ Hid (wr.ownsRow (w.heap.size + 1) 141 3 ov (stencil t turn scale k).length (pts (stencil t turn scale k)))) (fun _ iv _ => t.pix.length - (intOf iv).toNat)
  case atStart => exact ⟨0, by omega, rfl, Lib.hid (by repeat (first | exact Ext.refl _ | assumption | refine Ext.alloc ?_ _ | refine Ext.drewN ?_ _ | refine ext_grow ?_ _ _ | refine Ext.trans ?_ (by assumption))), Lib.hid ⟨(by repeat (first | (refine blk_at _ _ ?_; (first | rfl | (simp only [size_one]; done))) | refine (blk_past _ _ (by simp only [size_one]; omega)).trans ?_)), trivial⟩, Lib.hid ⟨rfl, .inl ⟨rfl, rfl⟩⟩⟩
  case round =>
    obtain ⟨k, hk, rfl, hE, hA, hO⟩ := hrel
    obtain ⟨⟨x00, x01, x02⟩, -⟩ := run_3 (At.at hA.out 0 rfl)
    have xz0 := At.lt hA.out 0 rfl
    have xy0 := Nat.lt_succ_of_lt xz0
    have xx0 := Nat.lt_succ_of_lt xy0
    by_cases hkl : k < t.pix.length
    · obtain ⟨b, off, rfl, c0⟩ := HC.out k hkl
      have c0 := hE.out.get c0
      have zc := World.block_lt_of_cell? _ _ c0
      simp only at zc
      obtain ⟨x, hx⟩ : ∃ x, t.pix.getD k 0 = x := ⟨_, rfl⟩
      rw [hx] at c0
      have HX := Lib.hid hx
      clear hx
      have hkli : (k : Int) < (t.pix.length : Int) := by omega
      by_cases h0 : 0 ≤ x
      case neg =>
        have h0f : decide (0 ≤ x) = false := decide_eq_false h0
        go_wp2
        go_roundw
        case rel => exact ⟨k + 1, by omega, by go_num, hE, hA, Lib.hid (by rw [sten_no HX.out (by omega)]; exact hO.out)⟩
        case measure => simp [intOf]; omega
      have h0t : decide (0 ≤ x) = true := decide_eq_true h0
      obtain ⟨pb, pb2⟩ := tplace_bd HT.out hkl
      have K58 := Lib.hid (fun w' (h : Ext wr w') => c58 t _ turn scale ((k : Int) % t.w) ((k : Int) / t.w) w' ⟨HT.out.1.1, HT.out.1.2.1⟩ (HV.out.ext (hE.out.trans h)) HP.out pb pb2)
      obtain ⟨px, hpx⟩ : ∃ px, (k : Int) % t.w = px := ⟨_, rfl⟩
      obtain ⟨py, hpy⟩ : ∃ py, (k : Int) / t.w = py := ⟨_, rfl⟩
      obtain ⟨OX, hox⟩ : ∃ x, offX t turn scale ((k : Int) % t.w) ((k : Int) / t.w) = x := ⟨_, rfl⟩
      obtain ⟨OY, hoy⟩ : ∃ x, offY t turn scale ((k : Int) % t.w) ((k : Int) / t.w) = x := ⟨_, rfl⟩
      rw [hox, hoy] at K58
      rw [hpx, hpy] at K58
      rw [hpx] at pb
      rw [hpy] at pb2
      unfold tplVal at K58
      have HO := Lib.hid (And.intro hox hoy)
      have hlen := stencil_len t turn scale k
      have hrem : (k : Int).tmod t.w = px := by rw [Int.tmod_eq_emod_of_nonneg (by omega)]; exact hpx
      have hquo : (k : Int).tdiv t.w = py := by rw [Int.tdiv_eq_ediv_of_nonneg (by omega)]; exact hpy
      have hwq : IntKind.i64.wrap py = py := IntWalk.i64_in _ (by omega)
      have htw : (t.w == 0) = false := by simp; omega
      clear hox hoy hpx hpy pb pb2
      go_wp2
      refine wp_region_quiet_below (by kernel_rfl) (by kernel_rfl) ?_
      repeat (go_big_quiet_step ((go_at_call 58; with_reducible exact Calls.ext_of (K58.out _ (Ext.grow _ _ _)))))
      refine wpQuiet_nil ?_
      intro w7 hw'
      obtain ⟨pq, hw''⟩ := hw'
      have hb7 := ext_of_regrown hw''
      clear hw'' pq hrem hquo hwq
      have A7 := Lib.hid (show At w7 [(w.heap.size, Obj.cells #[.int .i64 t.w, .int .i64 t.h, .slice (some ⟨b, off, none⟩) t.pix.length cap] 43)] from At.ext hb7 hA.out)
      have E7 := Lib.hid (hE.out.trans hb7)
      have O7 := Lib.hid (owns_ext hO.out hb7)
      have hz7 := hb7.size
      have hwz := E7.out.size
      have hw9 : w.heap.size < w7.heap.size := At.lt A7.out 0 rfl
      go_wp2_with (at_builtin; refine wpList_append_at rfl _ _ 113 rfl (w.heap.size + 1) 141 i0 (.agg #[.int .i64 0, .int .i64 0, .int .i64 0]) 3 24 Try.underlying113 hi0 hz0 hz1 hz2 rfl (by omega) u7 (stencil t turn scale k).length (pts (stencil t turn scale k)) rfl (owns_ext O7.out ((Ext.refl _).alloc _)) _ 1 (ptCells ⟨OX, OY, x⟩) rfl (SlAt.lit_at _ (w7.heap.size) rfl (ptCells ⟨OX, OY, x⟩) 141 3 rfl) (pts_one _) (by unfold maxLen; omega) (by omega) (by simp; omega) ?_; intro va w8 ho hg hat; have A8 := Lib.hid (show At w8 [(w.heap.size, Obj.cells #[.int .i64 t.w, .int .i64 t.h, .slice (some ⟨b, off, none⟩) t.pix.length cap] 43)] from At.grown hg (At.alloc A7.out _) (by intro k9 hk9; simp only [List.map_cons, List.map_nil, List.mem_cons, List.not_mem_nil, or_false] at hk9; rcases hk9 with rfl; exact fun h9 => by have := (owns_block O7.out _ h9).1; omega)); have E8 := Lib.hid ((E7.out.alloc _).grown hg (fun g9 h9 => by have := (owns_block O7.out g9 h9).1; omega)); have O8 := Lib.hid ho; clear ho hg hat)
      go_roundw
      case rel => exact ⟨k + 1, by omega, by go_num, E8, A8, Lib.hid (by rw [sten_yes HX.out h0, HO.out.1, HO.out.2, pts_snoc, List.length_append]; exact O8.out)⟩
      case measure => simp [intOf]; omega
    · have hkk : k = t.pix.length := by omega
      have HO := Lib.hid (hkk ▸ hO.out)
      clear hkk
      go_wp2
      go_ret
      exact ⟨_, rfl, owns_base HO.out (by omega), hE.out⟩
end Go.Proofs.Ytipkjdfnoonpcaa

/- The bound of an area: the program's walk. -/
namespace Go.Proofs.Ytipkjdfnoonpcaa
open Go.RowKit Go.Sort

def pt0 : Pt := ⟨0, 0, 0⟩
def PtsAt (w : World) (v : Value) (l : List Pt) : Prop := SlAt w 3 v l.length (pts l)
theorem PtsAt.ext {w w' : World} {v : Value} {l : List Pt} (h : PtsAt w v l) (hb : Ext w w') : PtsAt w' v l := SlAt.ext h hb
theorem pts_get (l : List Pt) : ∀ (i f : Nat), i < l.length → f < 3 → (pts l)[i * 3 + f]? = (ptCells (l.getD i pt0))[f]? := by
  induction l with
  | nil => intro i f h; simp at h
  | cons x l ih =>
    intro i f hi hf
    rw [pts, List.flatMap_cons]
    match i with
    | 0 =>
      rw [List.getElem?_append_left (by simp [ptCells]; omega)]
      simp
    | i + 1 =>
      rw [List.getElem?_append_right (by simp [ptCells]; omega)]
      have := ih i f (by simpa using hi) hf
      simp only [pts] at this
      simpa [ptCells, show (i + 1) * 3 + f - 3 = i * 3 + f by omega] using this
theorem PtsAt.form {w : World} {v : Value} {l : List Pt} (h : PtsAt w v l) :
    ∃ ao cap, v = .slice ao l.length cap ∧ cap ≤ maxLen ∧ ∀ j, j < l.length → ∃ b off, ao = some ⟨b, off, none⟩ ∧ w.cell? ⟨b, off + j * 3, none⟩ = some (.int .i64 (l.getD j pt0).x) ∧ w.cell? ⟨b, off + j * 3 + 1, none⟩ = some (.int .i64 (l.getD j pt0).y) ∧ w.cell? ⟨b, off + j * 3 + 2, none⟩ = some (.int .i64 (l.getD j pt0).v) := by
  obtain ⟨h1, ao, cap, h2, h3, h4, h5, h6⟩ := h
  refine ⟨ao, cap, h2, h4, fun j hj => ?_⟩
  obtain ⟨b, off, e0, c0⟩ := h6 (j * 3 + 0) _ (by rw [pts_get l j 0 hj (by omega)]; rfl)
  obtain ⟨b1, off1, e1, c1⟩ := h6 (j * 3 + 1) _ (by rw [pts_get l j 1 hj (by omega)]; rfl)
  obtain ⟨b2, off2, e2, c2⟩ := h6 (j * 3 + 2) _ (by rw [pts_get l j 2 hj (by omega)]; rfl)
  rw [e0] at e1 e2
  cases e1
  cases e2
  exact ⟨b, off, e0, c0, c1, c2⟩
theorem getD_mem_pt {l : List Pt} {k : Nat} (h : k < l.length) : l.getD k pt0 ∈ l := by
  rw [List.getD_eq_getElem?_getD, List.getElem?_eq_getElem h]
  exact List.getElem_mem h
theorem take_snoc_pt {l : List Pt} {k : Nat} (h : k < l.length) : l.take (k + 1) = l.take k ++ [l.getD k pt0] := by
  rw [List.take_succ_eq_append_getElem h, List.getD_eq_getElem?_getD, List.getElem?_eq_getElem h]; rfl
/-- the least so far: rows from ylo to before y, and in row y columns before x -/
def Clip (d : Int → Int → Int) (xlo xhi ylo y x ln : Int) : Prop :=
  ∀ c, c ≤ ln ↔ c ≤ 255 ∧ (∀ Y, ylo ≤ Y → Y < y → ∀ X, xlo ≤ X → X ≤ xhi → c ≤ d X Y) ∧ ∀ X, xlo ≤ X → X < x → c ≤ d X y
theorem clip_start (d : Int → Int → Int) (xlo xhi ylo : Int) : Clip d xlo xhi ylo ylo xlo 255 := fun c => ⟨fun h => ⟨h, fun Y h1 h2 => by omega, fun X h1 h2 => by omega⟩, fun h => h.1⟩
theorem clip_step {d : Int → Int → Int} {xlo xhi ylo y x ln : Int} (hx : xlo ≤ x) (h : Clip d xlo xhi ylo y x ln) : Clip d xlo xhi ylo y (x + 1) (min ln (d x y)) := fun c => by
  rw [Int.le_min, h c]
  constructor
  · rintro ⟨⟨h1, h2, h3⟩, h4⟩
    refine ⟨h1, h2, fun X k1 k2 => ?_⟩
    rcases Int.lt_or_le X x with h9 | h9
    · exact h3 X k1 h9
    · have : X = x := by omega
      rw [this]; exact h4
  · rintro ⟨h1, h2, h3⟩
    exact ⟨⟨h1, h2, fun X k1 k2 => h3 X k1 (by omega)⟩, h3 x hx (by omega)⟩
theorem clip_row {d : Int → Int → Int} {xlo xhi ylo y x ln : Int} (hy : ylo ≤ y) (hx : xhi < x) (hx2 : x ≤ xhi + 1 ∨ x ≤ xlo) (h : Clip d xlo xhi ylo y x ln) : Clip d xlo xhi ylo (y + 1) xlo ln := fun c => by
  rw [h c]
  constructor
  · rintro ⟨h1, h2, h3⟩
    refine ⟨h1, fun Y k1 k2 X j1 j2 => ?_, fun X k1 k2 => by omega⟩
    rcases Int.lt_or_le Y y with h9 | h9
    · exact h2 Y k1 h9 X j1 j2
    · have : Y = y := by omega
      rw [this]; exact h3 X j1 (by omega)
  · rintro ⟨h1, h2, h3⟩
    refine ⟨h1, fun Y k1 k2 X j1 j2 => h2 Y k1 (by omega) X j1 j2, fun X k1 k2 => ?_⟩
    exact h2 y hy (by omega) X k1 (by omega)
theorem clip_end {m : Img} {px py pv x0 y0 x1 y1 xlo xhi ylo yhi y ln : Int} (hm : m.Camera) (hp : 0 ≤ pv ∧ pv ≤ 255) (h1 : Hid (max (y0 + py) 0 = ylo)) (h2 : Hid (min (y1 + py) (m.h - 1) = yhi)) (h3 : Hid (max (x0 + px) 0 = xlo)) (h4 : Hid (min (x1 + px) (m.w - 1) = xhi))
    (hy : ylo ≤ y) (hy2 : yhi < y) (hy3 : y ≤ yhi + 1 ∨ y ≤ ylo) (h : Clip (fun X Y => max (pv - m.at X Y) (-(pv - m.at X Y))) xlo xhi ylo y xlo ln) : ln = least m ⟨px, py, pv⟩ x0 y0 x1 y1 := by
  have h1 := h1.out
  have h2 := h2.out
  have h3 := h3.out
  have h4 := h4.out
  refine eq_of_le_iff fun c => ?_
  by_cases hc : c ≤ 255
  case neg =>
    have k1 := ((h ln).1 (Int.le_refl _)).1
    have k2 := least_le m ⟨px, py, pv⟩ x0 y0 x1 y1
    constructor <;> intro h9 <;> omega
  rw [le_least hc, h c]
  constructor
  · rintro ⟨_, k, _⟩ y' j1 j2 x' i1 i2
    unfold adds
    split
    · rename_i hin
      obtain ⟨⟨g1, g2⟩, g3, g4⟩ := hin
      dsimp only at g1 g2 g3 g4
      exact k (y' + py) (by omega) (by omega) (x' + px) (by omega) (by omega)
    · exact hc
  · intro k
    refine ⟨hc, fun Y j1 j2 X i1 i2 => ?_, fun X j1 j2 => by omega⟩
    have h9 := k (Y - py) (by omega) (by omega) (X - px) (by omega) (by omega)
    unfold adds at h9
    dsimp only at h9
    rw [show X - px + px = X by omega, show Y - py + py = Y by omega, if_pos ⟨⟨by omega, by omega⟩, by omega, by omega⟩] at h9
    exact h9
set_option maxRecDepth 100000 in
set_option maxHeartbeats 16000000 in
theorem c70 (m : Img) (v : Value) (s : List Pt) (sv : Value) (a : Area) (w : World) (hm : m.Camera) (hv : IntsAt w v m.pix) (hs : PtsAt w sv s) (ha : a.Ok m) (hsl : s.length ≤ 64) (hb : ∀ p ∈ s, -20 ≤ p.x ∧ p.x ≤ 20 ∧ -20 ≤ p.y ∧ p.y ≤ 20 ∧ 0 ≤ p.v ∧ p.v ≤ 255) :
    Calls Try.prog 70 #[sv, imgVal m v, .agg #[.int .i64 a.x0, .int .i64 a.y0, .int .i64 a.x1, .int .i64 a.y1, .int .i64 a.turn, .int .i64 a.scale]] w fun e w' => e = .returned (.int .i64 (sumL (fun p => least m p a.x0 a.y0 a.x1 a.y1) s)) ∧ Ext w w' := by
  have HM := Lib.hid hm
  have HB := Lib.hid hb
  obtain ⟨ao, cap, rfl, -, hc⟩ := hv.form
  obtain ⟨po, pc, rfl, -, hpp⟩ := hs.form
  have HC := Lib.hid hc
  have HP0 := Lib.hid hpp
  obtain ⟨⟨a1, a2, a3⟩, ⟨a4, a5, a6⟩, -⟩ := ha
  obtain ⟨⟨w1, w2⟩, ⟨w3, w4⟩, -⟩ := hm.1
  obtain ⟨n1, n2⟩ := Img.len_bd hm.1
  unfold imgVal
  clear hv hs hc hpp hm hb
  go_enter Try.func70, Try.ntmps70
  go_wp2
  go_loopw [7, 16] (fun sv iv wr => ∃ (k : Nat) (sm : Int), k ≤ s.length ∧ iv = .int .i64 (k : Int) ∧ sv = .int .i64 sm ∧ 0 ≤ sm ∧ sm ≤ 255 * k ∧ Hid (Ext w wr) ∧ Hid (At wr [(w.heap.size + 1, Obj.cells #[.int .i64 a.x0, .int .i64 a.y0, .int .i64 a.x1, .int .i64 a.y1, .int .i64 a.turn, .int .i64 a.scale] 47), (w.heap.size, Obj.cells #[.int .i64 m.w, .int .i64 m.h, .slice ao m.pix.length cap] 24)]) ∧ Hid (sumL (fun p => least m p a.x0 a.y0 a.x1 a.y1) (s.take k) = sm)) (fun _ iv _ => s.length - (intOf iv).toNat)
  case atStart => exact ⟨0, 0, by omega, rfl, rfl, by omega, by omega, Lib.hid (by repeat (first | exact Ext.refl _ | assumption | refine Ext.alloc ?_ _ | refine Ext.drewN ?_ _ | refine ext_grow ?_ _ _ | refine Ext.trans ?_ (by assumption))), Lib.hid ⟨(by repeat (first | (refine blk_at _ _ ?_; (first | rfl | (simp only [size_one]; done))) | refine (blk_past _ _ (by simp only [size_one]; omega)).trans ?_)), (by repeat (first | (refine blk_at _ _ ?_; (first | rfl | (simp only [size_one]; done))) | refine (blk_past _ _ (by simp only [size_one]; omega)).trans ?_)), trivial⟩, Lib.hid rfl⟩
  case round =>
    obtain ⟨k, sm, hk, rfl, rfl, s1, s2, hE, hA, hSM⟩ := hrel
    obtain ⟨⟨v00, v01, v02, v03, v04, v05⟩, -⟩ := run_6 (At.at hA.out 0 rfl)
    obtain ⟨⟨v10, v11, v12⟩, -⟩ := run_3 (At.at hA.out 1 rfl)
    have vz0 := At.lt hA.out 0 rfl
    have vy0 := Nat.lt_succ_of_lt vz0
    have vx0 := Nat.lt_succ_of_lt vy0
    have vz1 := At.lt hA.out 1 rfl
    have vy1 := Nat.lt_succ_of_lt vz1
    have vx1 := Nat.lt_succ_of_lt vy1
    have HSM := hSM
    by_cases hkl : k < s.length
    · obtain ⟨gb, go, rfl, c0, c1, c2⟩ := HP0.out k hkl
      have c0 := hE.out.get c0
      have c1 := hE.out.get c1
      have c2 := hE.out.get c2
      have zc := World.block_lt_of_cell? _ _ c0
      simp only at zc
      obtain ⟨bx1, bx2, by1, by2, pv1, pv2⟩ := HB.out _ (getD_mem_pt hkl)
      obtain ⟨⟨px, py, pv⟩, hp⟩ : ∃ p, s.getD k pt0 = p := ⟨_, rfl⟩
      rw [hp] at c0 c1 c2 bx1 bx2 by1 by2 pv1 pv2
      dsimp only at c0 c1 c2 bx1 bx2 by1 by2 pv1 pv2
      have HP := Lib.hid hp
      clear hp
      obtain ⟨ylo, hylo⟩ : ∃ z, max (a.y0 + py) 0 = z := ⟨_, rfl⟩
      obtain ⟨yhi, hyhi⟩ : ∃ z, min (a.y1 + py) (m.h - 1) = z := ⟨_, rfl⟩
      obtain ⟨xlo, hxlo⟩ : ∃ z, max (a.x0 + px) 0 = z := ⟨_, rfl⟩
      obtain ⟨xhi, hxhi⟩ : ∃ z, min (a.x1 + px) (m.w - 1) = z := ⟨_, rfl⟩
      have n1 : (if a.y0 + py < 0 then 0 else a.y0 + py) = ylo := by rw [← hylo]; split <;> omega
      have n2 : (if m.h - 1 < a.y1 + py then m.h - 1 else a.y1 + py) = yhi := by rw [← hyhi]; split <;> omega
      have n3 : (if a.y1 + py < m.h - 1 then a.y1 + py else m.h - 1) = yhi := by rw [← hyhi]; split <;> omega
      have n4 : (if a.x0 + px < 0 then 0 else a.x0 + px) = xlo := by rw [← hxlo]; split <;> omega
      have n5 : (if m.w - 1 < a.x1 + px then m.w - 1 else a.x1 + px) = xhi := by rw [← hxhi]; split <;> omega
      have n6 : (if a.x1 + px < m.w - 1 then a.x1 + px else m.w - 1) = xhi := by rw [← hxhi]; split <;> omega
      have n7 : 0 ≤ ylo := by omega
      have n8 : yhi ≤ m.h - 1 := by omega
      have n9 : 0 ≤ xlo := by omega
      have n10 : xhi ≤ m.w - 1 := by omega
      have n11 : ylo ≤ 40 := by omega
      have n12 : xlo ≤ 40 := by omega
      have n13 : -40 ≤ yhi := by omega
      have n14 : -40 ≤ xhi := by omega
      have hkli : (k : Int) < (s.length : Int) := by omega
      replace hylo := Lib.hid hylo
      replace hyhi := Lib.hid hyhi
      replace hxlo := Lib.hid hxlo
      replace hxhi := Lib.hid hxhi
      go_wp2
      obtain ⟨BX, hBX⟩ : ∃ BX, wr.heap.size = BX := ⟨_, rfl⟩
      obtain ⟨wo, hwo⟩ : ∃ wo : World, wo = wr := ⟨_, rfl⟩
      subst hwo
      have AB := Lib.hid (show At (wo.alloc (Obj.cells #[.int .i64 px, .int .i64 py, .int .i64 pv] 141)) [(BX, Obj.cells #[.int .i64 px, .int .i64 py, .int .i64 pv] 141), (w.heap.size + 1, Obj.cells #[.int .i64 a.x0, .int .i64 a.y0, .int .i64 a.x1, .int .i64 a.y1, .int .i64 a.turn, .int .i64 a.scale] 47), (w.heap.size, Obj.cells #[.int .i64 m.w, .int .i64 m.h, .slice ao m.pix.length cap] 24)] from ⟨blk_at _ _ hBX.symm, At.alloc hA.out _⟩)
      have EB := Lib.hid (hE.out.alloc (Obj.cells #[.int .i64 px, .int .i64 py, .int .i64 pv] 141))
      clear v00 v01 v02 v03 v04 v05 v10 v11 v12 vz0 vy0 vx0 vz1 vy1 vx1
      clear c0 c1 c2 zc
      rw [hBX]
      go_loopw [10, 11] (fun lv yv wr => ∃ y ln : Int, ylo ≤ y ∧ (y ≤ yhi + 1 ∨ y ≤ ylo) ∧ yv = .int .i64 y ∧ lv = .int .i64 ln ∧ 0 ≤ ln ∧ ln ≤ 255 ∧ Hid (Ext w wr) ∧ Hid (At wr [(BX, Obj.cells #[.int .i64 px, .int .i64 py, .int .i64 pv] 141), (w.heap.size + 1, Obj.cells #[.int .i64 a.x0, .int .i64 a.y0, .int .i64 a.x1, .int .i64 a.y1, .int .i64 a.turn, .int .i64 a.scale] 47), (w.heap.size, Obj.cells #[.int .i64 m.w, .int .i64 m.h, .slice ao m.pix.length cap] 24)]) ∧ Hid (Clip (fun X Y => max (pv - m.at X Y) (-(pv - m.at X Y))) xlo xhi ylo y xlo ln)) (fun _ yv _ => (yhi + 1 - intOf yv).toNat)
      case atStart => exact ⟨ylo, 255, by omega, by omega, rfl, rfl, by omega, by omega, EB, AB, Lib.hid (clip_start _ _ _ _)⟩
      case round =>
        clear hE hA AB EB hBX hSM
        obtain ⟨y, ln, hy1, hy2, rfl, rfl, l1, l2, hE, hA, hL⟩ := hrel
        obtain ⟨⟨x00, x01, x02⟩, -⟩ := run_3 (At.at hA.out 0 rfl)
        obtain ⟨⟨x10, x11, x12, x13, x14, x15⟩, -⟩ := run_6 (At.at hA.out 1 rfl)
        obtain ⟨⟨x20, x21, x22⟩, -⟩ := run_3 (At.at hA.out 2 rfl)
        have xz0 := At.lt hA.out 0 rfl
        have xy0 := Nat.lt_succ_of_lt xz0
        have xx0 := Nat.lt_succ_of_lt xy0
        have xz1 := At.lt hA.out 1 rfl
        have xy1 := Nat.lt_succ_of_lt xz1
        have xx1 := Nat.lt_succ_of_lt xy1
        have xz2 := At.lt hA.out 2 rfl
        have xy2 := Nat.lt_succ_of_lt xz2
        have xx2 := Nat.lt_succ_of_lt xy2
        by_cases hyy : y ≤ yhi
        · go_wp2
          clear x00 x01 x02 x10 x11 x12 x13 x14 x15 x20 x21 x22 xz0 xy0 xx0 xz1 xy1 xx1 xz2 xy2 xx2
          obtain ⟨wp, hwp⟩ : ∃ wp : World, wp = wr := ⟨_, rfl⟩
          subst hwp
          go_loopw [10, 12] (fun lv xv wr => ∃ x ln : Int, xlo ≤ x ∧ (x ≤ xhi + 1 ∨ x ≤ xlo) ∧ xv = .int .i64 x ∧ lv = .int .i64 ln ∧ 0 ≤ ln ∧ ln ≤ 255 ∧ Hid (Ext w wr) ∧ Hid (At wr [(BX, Obj.cells #[.int .i64 px, .int .i64 py, .int .i64 pv] 141), (w.heap.size + 1, Obj.cells #[.int .i64 a.x0, .int .i64 a.y0, .int .i64 a.x1, .int .i64 a.y1, .int .i64 a.turn, .int .i64 a.scale] 47), (w.heap.size, Obj.cells #[.int .i64 m.w, .int .i64 m.h, .slice ao m.pix.length cap] 24)]) ∧ Hid (Clip (fun X Y => max (pv - m.at X Y) (-(pv - m.at X Y))) xlo xhi ylo y x ln)) (fun _ xv _ => (xhi + 1 - intOf xv).toNat)
          case atStart => exact ⟨xlo, ln, by omega, by omega, rfl, rfl, l1, l2, hE, hA, hL⟩
          case round =>
            clear hE hA hL l1 l2
            obtain ⟨x, ln, hx1, hx2, rfl, rfl, l1, l2, hE, hA, hL⟩ := hrel
            obtain ⟨⟨x00, x01, x02⟩, -⟩ := run_3 (At.at hA.out 0 rfl)
            obtain ⟨⟨x10, x11, x12, x13, x14, x15⟩, -⟩ := run_6 (At.at hA.out 1 rfl)
            obtain ⟨⟨x20, x21, x22⟩, -⟩ := run_3 (At.at hA.out 2 rfl)
            have xz0 := At.lt hA.out 0 rfl
            have xy0 := Nat.lt_succ_of_lt xz0
            have xx0 := Nat.lt_succ_of_lt xy0
            have xz1 := At.lt hA.out 1 rfl
            have xy1 := Nat.lt_succ_of_lt xz1
            have xx1 := Nat.lt_succ_of_lt xy1
            have xz2 := At.lt hA.out 2 rfl
            have xy2 := Nat.lt_succ_of_lt xz2
            have xx2 := Nat.lt_succ_of_lt xy2
            by_cases hxx : x ≤ xhi
            · have hin : m.In x y := ⟨⟨by omega, by omega⟩, by omega, by omega⟩
              obtain ⟨i1, i2, i3, i4⟩ := Img.idx HM.out.1 hin
              obtain ⟨r1, r2⟩ := Img.at_bd HM.out hin
              obtain ⟨b9, off9, rfl, c0⟩ := HC.out (y * m.w + x).toNat (by omega)
              have e9 : m.pix.getD (y * m.w + x).toNat 0 = m.at x y := rfl
              rw [e9] at c0
              have c0 := hE.out.get c0
              have zc := World.block_lt_of_cell? _ _ c0
              simp only at zc
              obtain ⟨r, hr⟩ : ∃ r, m.at x y = r := ⟨_, rfl⟩
              rw [hr] at c0 r1 r2
              have HR := Lib.hid hr
              clear hr e9 hin
              obtain ⟨ab, hab⟩ : ∃ ab, max (pv - r) (-(pv - r)) = ab := ⟨_, rfl⟩
              obtain ⟨l3, hl3⟩ : ∃ l3, min ln ab = l3 := ⟨_, rfl⟩
              have m1 : (if pv - r < -(pv - r) then -(pv - r) else pv - r) = ab := by rw [← hab]; split <;> omega
              have m2 : (if ab < ln then ab else ln) = l3 := by rw [← hl3]; split <;> omega
              have m3 : (if ln < ab then ln else ab) = l3 := by rw [← hl3]; split <;> omega
              have ab1 : 0 ≤ ab := by omega
              have ab2 : ab ≤ 255 := by omega
              have l31 : 0 ≤ l3 := by omega
              have l32 : l3 ≤ 255 := by omega
              have wa : IntKind.i64.wrap (y * m.w) = y * m.w := IntWalk.i64_in _ (by omega)
              have wb : IntKind.i64.wrap (y * m.w + x) = y * m.w + x := IntWalk.i64_in _ (by omega)
              have wc : IntKind.i64.wrap (pv - r) = pv - r := IntWalk.i64_in _ (by omega)
              have hi2 : y * m.w + x < (m.pix.length : Int) := i2
              have HS := Lib.hid (show Clip (fun X Y => max (pv - m.at X Y) (-(pv - m.at X Y))) xlo xhi ylo y (x + 1) l3 from by
                have := clip_step hx1 hL.out
                rw [HR.out, hab, hl3] at this
                exact this)
              clear hab hl3
              go_wp2
              go_quiet (fail)
              have hb6 : Ext wr (wr.drewN nq) := (Ext.refl _).drewN nq
              generalize hw6 : wr.drewN nq = w6 at hb6 ⊢
              clear hw6 wa wb wc
              have A6 := Lib.hid (show At w6 [(BX, Obj.cells #[.int .i64 px, .int .i64 py, .int .i64 pv] 141), (w.heap.size + 1, Obj.cells #[.int .i64 a.x0, .int .i64 a.y0, .int .i64 a.x1, .int .i64 a.y1, .int .i64 a.turn, .int .i64 a.scale] 47), (w.heap.size, Obj.cells #[.int .i64 m.w, .int .i64 m.h, .slice (some ⟨b9, off9, none⟩) m.pix.length cap] 24)] from At.ext hb6 hA.out)
              obtain ⟨⟨y00, y01, y02⟩, -⟩ := run_3 (At.at A6.out 0 rfl)
              obtain ⟨⟨y10, y11, y12, y13, y14, y15⟩, -⟩ := run_6 (At.at A6.out 1 rfl)
              obtain ⟨⟨y20, y21, y22⟩, -⟩ := run_3 (At.at A6.out 2 rfl)
              have yz0 := At.lt A6.out 0 rfl
              have yy0 := Nat.lt_succ_of_lt yz0
              have yx0 := Nat.lt_succ_of_lt yy0
              have yz1 := At.lt A6.out 1 rfl
              have yy1 := Nat.lt_succ_of_lt yz1
              have yx1 := Nat.lt_succ_of_lt yy1
              have yz2 := At.lt A6.out 2 rfl
              have yy2 := Nat.lt_succ_of_lt yz2
              have yx2 := Nat.lt_succ_of_lt yy2
              go_wp2
              go_roundw
              case rel => exact ⟨x + 1, l3, by omega, by omega, rfl, rfl, by omega, by omega, Lib.hid (hE.out.trans hb6), A6, HS⟩
              case measure => simp [intOf]; omega
            · have HS := Lib.hid (show Clip (fun X Y => max (pv - m.at X Y) (-(pv - m.at X Y))) xlo xhi ylo (y + 1) xlo ln from clip_row hy1 (by omega) hx2 hL.out)
              go_wp2
              go_roundw
              case rel => exact ⟨y + 1, ln, by omega, by omega, rfl, rfl, by omega, by omega, hE, hA, HS⟩
              case measure => simp [intOf]; omega
        · have HS := Lib.hid (show sumL (fun p => least m p a.x0 a.y0 a.x1 a.y1) (s.take (k + 1)) = sm + ln from by
            rw [take_snoc_pt hkl, sumL_snoc, HSM.out, HP.out]
            congr 1
            exact (clip_end HM.out ⟨pv1, pv2⟩ hylo hyhi hxlo hxhi hy1 (by omega) hy2 hL.out).symm)
          go_wp2
          go_roundw
          case rel => exact ⟨k + 1, sm + ln, by omega, by go_num, rfl, by omega, by omega, hE, Lib.hid (At.erase hA.out 0), HS⟩
          case measure => simp [intOf]; omega
    · have hkk : k = s.length := by omega
      have HF := Lib.hid (show sumL (fun p => least m p a.x0 a.y0 a.x1 a.y1) s = sm from by have h9 := hSM.out; rw [hkk, List.take_length] at h9; exact h9)
      clear hkk
      go_wp2
      go_ret
      exact ⟨ret_int HF.out.symm, hE.out⟩
end Go.Proofs.Ytipkjdfnoonpcaa

/- Bounds: the program's walks. -/
namespace Go.Proofs.Ytipkjdfnoonpcaa
open Go.RowKit Go.Sort
attribute [local go_sem ↓] Go.wp_at_zero Go.wp_at_succ

def areaVal (a : Area) : Value := .agg #[.int .i64 a.x0, .int .i64 a.y0, .int .i64 a.x1, .int .i64 a.y1, .int .i64 a.turn, .int .i64 a.scale]
structure Pose where
  x : Int
  y : Int
  turn : Int
  scale : Int
def poseVal (p : Pose) : Value := .agg #[.int .i64 p.x, .int .i64 p.y, .int .i64 p.turn, .int .i64 p.scale]
def Pose.area (p : Pose) : Area := ⟨p.x, p.y, p.x, p.y, p.turn, p.scale⟩
/-- the error of an image and a template -/
def checkE (m : Img) (t : Tpl) : Int := if m.Camera then if t.Ok then 0 else 70 else 20
theorem check_ok {m : Img} {t : Tpl} (h : checkE m t = 0) : m.Camera ∧ t.Ok := by
  unfold checkE at h
  by_cases h1 : m.Camera
  · rw [if_pos h1] at h
    by_cases h2 : t.Ok
    · exact ⟨h1, h2⟩
    · rw [if_neg h2] at h; omega
  · rw [if_neg h1] at h; omega
theorem check_walk (f cam val : FuncId) (hf : (f = 67 ∧ cam = 89 ∧ val = 56) ∨ (f = 64 ∧ cam = 42 ∧ val = 59)) (m : Img) (mv : Value) (t : Tpl) (tv : Value) (w : World)
    (k1 : ∀ w', Ext w w' → Calls Try.prog cam #[imgVal m mv] w' fun e w'' => e = .returned (.bool (decide m.Camera)) ∧ Ext w' w'') (k2 : ∀ w', Ext w w' → Calls Try.prog val #[tplVal t tv] w' fun e w'' => e = .returned (.bool (decide t.Ok)) ∧ Ext w' w'')
    (hmv : ∃ ao n cap, mv = .slice ao n cap) (htv : ∃ ao n cap, tv = .slice ao n cap) :
    Calls Try.prog f #[imgVal m mv, tplVal t tv] w fun e w' => e = .returned (.int .i64 (checkE m t)) ∧ Ext w w' := by
  obtain ⟨mo, mn, mc, rfl⟩ := hmv
  obtain ⟨to, tn, tc, rfl⟩ := htv
  have K1 := Lib.hid k1
  have K2 := Lib.hid k2
  unfold imgVal tplVal at *
  clear k1 k2
  by_cases h1 : m.Camera
  case neg =>
    have q1 : decide m.Camera = false := decide_eq_false h1
    rw [q1] at K1
    have hR := Lib.hid (show checkE m t = 20 from if_neg h1)
    clear h1 q1
    rcases hf with ⟨rfl, rfl, rfl⟩ | ⟨rfl, rfl, rfl⟩
    · go_enter Try.func67, Try.ntmps67
      go_wp2_with (go_at_call 89; (with_reducible refine (K1.out _ (by repeat (first | exact Ext.refl _ | assumption | refine Ext.alloc ?_ _ | refine Ext.drewN ?_ _ | refine ext_grow ?_ _ _ | refine Ext.trans ?_ (by assumption)))).mono ?_); rintro E w1 ⟨rfl, hb⟩)
      go_ret
      exact ⟨ret_int hR.out.symm, (by repeat (first | exact Ext.refl _ | assumption | refine Ext.alloc ?_ _ | refine Ext.drewN ?_ _ | refine ext_grow ?_ _ _ | refine Ext.trans ?_ (by assumption)))⟩
    · go_enter Try.func64, Try.ntmps64
      go_wp2_with (go_at_call 42; (with_reducible refine (K1.out _ (by repeat (first | exact Ext.refl _ | assumption | refine Ext.alloc ?_ _ | refine Ext.drewN ?_ _ | refine ext_grow ?_ _ _ | refine Ext.trans ?_ (by assumption)))).mono ?_); rintro E w1 ⟨rfl, hb⟩)
      go_ret
      exact ⟨ret_int hR.out.symm, (by repeat (first | exact Ext.refl _ | assumption | refine Ext.alloc ?_ _ | refine Ext.drewN ?_ _ | refine ext_grow ?_ _ _ | refine Ext.trans ?_ (by assumption)))⟩
  have q1 : decide m.Camera = true := decide_eq_true h1
  rw [q1] at K1
  obtain ⟨c, hc⟩ : ∃ c, decide t.Ok = c := ⟨_, rfl⟩
  rw [hc] at K2
  have hR := Lib.hid (show checkE m t = if c = true then 0 else 70 from (if_pos h1).trans (by rw [← hc]; simp))
  clear h1 q1 hc
  rcases hf with ⟨rfl, rfl, rfl⟩ | ⟨rfl, rfl, rfl⟩
  · cases c
    all_goals
      go_enter Try.func67, Try.ntmps67
      go_wp2_with (first | (go_at_call 89; (with_reducible refine (K1.out _ (by repeat (first | exact Ext.refl _ | assumption | refine Ext.alloc ?_ _ | refine Ext.drewN ?_ _ | refine ext_grow ?_ _ _ | refine Ext.trans ?_ (by assumption)))).mono ?_); rintro E w1 ⟨rfl, hb⟩; have A1 := Lib.hid (show At w1 [(w.heap.size + 1, Obj.cells #[.int .i64 t.w, .int .i64 t.h, .slice to tn tc] 43)] from At.ext hb ⟨(by repeat (first | (refine blk_at _ _ ?_; (first | rfl | (simp only [size_one]; done))) | refine (blk_past _ _ (by simp only [size_one]; omega)).trans ?_)), trivial⟩); obtain ⟨⟨x00, x01, x02⟩, -⟩ := run_3 (At.at A1.out 0 rfl); have xz0 := At.lt A1.out 0 rfl; have xy0 := Nat.lt_succ_of_lt xz0; have xx0 := Nat.lt_succ_of_lt xy0) | (go_at_call 56; (with_reducible refine (K2.out _ (by repeat (first | exact Ext.refl _ | assumption | refine Ext.alloc ?_ _ | refine Ext.drewN ?_ _ | refine ext_grow ?_ _ _ | refine Ext.trans ?_ (by assumption)))).mono ?_); rintro E w2 ⟨rfl, hb2⟩))
      go_ret
      exact ⟨ret_int (by rw [hR.out]; rfl), (by repeat (first | exact Ext.refl _ | assumption | refine Ext.alloc ?_ _ | refine Ext.drewN ?_ _ | refine ext_grow ?_ _ _ | refine Ext.trans ?_ (by assumption)))⟩
  · cases c
    all_goals
      go_enter Try.func64, Try.ntmps64
      go_wp2_with (first | (go_at_call 42; (with_reducible refine (K1.out _ (by repeat (first | exact Ext.refl _ | assumption | refine Ext.alloc ?_ _ | refine Ext.drewN ?_ _ | refine ext_grow ?_ _ _ | refine Ext.trans ?_ (by assumption)))).mono ?_); rintro E w1 ⟨rfl, hb⟩; have A1 := Lib.hid (show At w1 [(w.heap.size + 1, Obj.cells #[.int .i64 t.w, .int .i64 t.h, .slice to tn tc] 43)] from At.ext hb ⟨(by repeat (first | (refine blk_at _ _ ?_; (first | rfl | (simp only [size_one]; done))) | refine (blk_past _ _ (by simp only [size_one]; omega)).trans ?_)), trivial⟩); obtain ⟨⟨x00, x01, x02⟩, -⟩ := run_3 (At.at A1.out 0 rfl); have xz0 := At.lt A1.out 0 rfl; have xy0 := Nat.lt_succ_of_lt xz0; have xx0 := Nat.lt_succ_of_lt xy0) | (go_at_call 59; (with_reducible refine (K2.out _ (by repeat (first | exact Ext.refl _ | assumption | refine Ext.alloc ?_ _ | refine Ext.drewN ?_ _ | refine ext_grow ?_ _ _ | refine Ext.trans ?_ (by assumption)))).mono ?_); rintro E w2 ⟨rfl, hb2⟩))
      go_ret
      exact ⟨ret_int (by rw [hR.out]; rfl), (by repeat (first | exact Ext.refl _ | assumption | refine Ext.alloc ?_ _ | refine Ext.drewN ?_ _ | refine ext_grow ?_ _ _ | refine Ext.trans ?_ (by assumption)))⟩
theorem IntsAt.slice {w : World} {v : Value} {l : List Int} (h : IntsAt w v l) : ∃ ao n cap, v = .slice ao n cap := by
  obtain ⟨ao, cap, e, -, -⟩ := h.form
  exact ⟨ao, _, cap, e⟩
theorem c67 (m : Img) (mv : Value) (t : Tpl) (tv : Value) (w : World) (hm : IntsAt w mv m.pix) (hml : m.pix.length ≤ maxLen) (ht : IntsAt w tv t.pix) (htl : t.pix.length ≤ maxLen) :
    Calls Try.prog 67 #[imgVal m mv, tplVal t tv] w fun e w' => e = .returned (.int .i64 (checkE m t)) ∧ Ext w w' :=
  check_walk _ _ _ (.inl ⟨rfl, rfl, rfl⟩) m mv t tv w (fun w' h => c89 m mv w' (hm.ext h) hml) (fun w' h => c56 t tv w' (ht.ext h) htl) hm.slice ht.slice
theorem c64 (m : Img) (mv : Value) (t : Tpl) (tv : Value) (w : World) (hm : IntsAt w mv m.pix) (hml : m.pix.length ≤ maxLen) (ht : IntsAt w tv t.pix) (htl : t.pix.length ≤ maxLen) :
    Calls Try.prog 64 #[imgVal m mv, tplVal t tv] w fun e w' => e = .returned (.int .i64 (checkE m t)) ∧ Ext w w' :=
  check_walk _ _ _ (.inr ⟨rfl, rfl, rfl⟩) m mv t tv w (fun w' h => c42 m mv w' (hm.ext h) hml) (fun w' h => c59 t tv w' (ht.ext h) htl) hm.slice ht.slice
theorem info47 : (Try.prog.info? 47).map (·.size) = some 6 := by kernel_rfl
set_option maxRecDepth 100000 in
set_option maxHeartbeats 4000000 in
theorem c63 (p : Pose) (w : World) : Calls Try.prog 63 #[poseVal p] w fun e w' => e = .returned (areaVal p.area) ∧ Ext w w' := by
  unfold poseVal
  go_enter Try.func63, Try.ntmps63
  go_wp2
  refine bodyPost_ret (results_row1 rfl _ _ (w.heap.size + 1) 47 _ (0, 0) _ rfl (show _ = some (Obj.cells #[.int .i64 p.x, .int .i64 p.y, .int .i64 p.x, .int .i64 p.y, .int .i64 p.turn, .int .i64 p.scale] 47) from (by repeat (first | (refine blk_at _ _ ?_; (first | rfl | (simp only [size_one]; done))) | refine (blk_past _ _ (by simp only [size_one]; omega)).trans ?_))) Try.underlying47 rfl info47) rfl ?_
  exact ⟨rfl, (by repeat (first | exact Ext.refl _ | assumption | refine Ext.alloc ?_ _ | refine Ext.drewN ?_ _ | refine ext_grow ?_ _ _ | refine Ext.trans ?_ (by assumption)))⟩
set_option maxRecDepth 100000 in
set_option maxHeartbeats 8000000 in
theorem c68 (m : Img) (mv : Value) (a : Area) (w : World) (hm : m.Sized) (hmv : ∃ ao n cap, mv = .slice ao n cap) : Calls Try.prog 68 #[imgVal m mv, areaVal a] w fun e w' => e = .returned (.bool (decide (a.Ok m))) ∧ Ext w w' := by
  obtain ⟨mo, mn, mc, rfl⟩ := hmv
  obtain ⟨⟨s1, s2⟩, ⟨s3, s4⟩, -⟩ := hm
  unfold imgVal areaVal
  by_cases h1 : (0 ≤ a.x0 ∧ a.x0 ≤ m.w - 1) ∧ 0 ≤ a.x1 ∧ a.x1 ≤ m.w - 1
  case neg =>
    have q1 : decide ((0 ≤ a.x0 ∧ a.x0 ≤ m.w - 1) ∧ 0 ≤ a.x1 ∧ a.x1 ≤ m.w - 1) = false := decide_eq_false h1; have H1 := Lib.hid h1; clear h1
    go_enter Try.func68, Try.ntmps68
    go_wp2_with (go_at_call 50; (with_reducible refine (within_two_same 50 (.inl rfl) _ _ _ _ _ _ (by simp)).mono ?_); rintro E w1 ⟨rfl, rfl⟩)
    go_ret
    exact ⟨ret_bool (decide_eq_false (fun h => H1.out (by obtain ⟨⟨k1, k2, k3⟩, -⟩ := h; omega))).symm, (by repeat (first | exact Ext.refl _ | assumption | refine Ext.alloc ?_ _ | refine Ext.drewN ?_ _ | refine ext_grow ?_ _ _ | refine Ext.trans ?_ (by assumption)))⟩
  have q1 : decide ((0 ≤ a.x0 ∧ a.x0 ≤ m.w - 1) ∧ 0 ≤ a.x1 ∧ a.x1 ≤ m.w - 1) = true := decide_eq_true h1
  have H1 := Lib.hid h1
  clear h1
  by_cases h2 : (0 ≤ a.y0 ∧ a.y0 ≤ m.h - 1) ∧ 0 ≤ a.y1 ∧ a.y1 ≤ m.h - 1
  case neg =>
    have q2 : decide ((0 ≤ a.y0 ∧ a.y0 ≤ m.h - 1) ∧ 0 ≤ a.y1 ∧ a.y1 ≤ m.h - 1) = false := decide_eq_false h2; have H2 := Lib.hid h2; clear h2
    go_enter Try.func68, Try.ntmps68
    go_wp2_with (go_at_call 50; (with_reducible refine (within_two_same 50 (.inl rfl) _ _ _ _ _ _ (by simp)).mono ?_); rintro E w1 ⟨rfl, rfl⟩)
    go_ret
    exact ⟨ret_bool (decide_eq_false (fun h => H2.out (by obtain ⟨-, ⟨k1, k2, k3⟩, -⟩ := h; omega))).symm, (by repeat (first | exact Ext.refl _ | assumption | refine Ext.alloc ?_ _ | refine Ext.drewN ?_ _ | refine ext_grow ?_ _ _ | refine Ext.trans ?_ (by assumption)))⟩
  have q2 : decide ((0 ≤ a.y0 ∧ a.y0 ≤ m.h - 1) ∧ 0 ≤ a.y1 ∧ a.y1 ≤ m.h - 1) = true := decide_eq_true h2
  have H2 := Lib.hid h2
  clear h2
  by_cases h3 : a.x0 ≤ a.x1
  case neg =>
    have q3 : decide (a.x0 ≤ a.x1) = false := decide_eq_false h3; have H3 := Lib.hid h3; clear h3
    go_enter Try.func68, Try.ntmps68
    go_wp2_with (go_at_call 50; (with_reducible refine (within_two_same 50 (.inl rfl) _ _ _ _ _ _ (by simp)).mono ?_); rintro E w1 ⟨rfl, rfl⟩)
    go_ret
    exact ⟨ret_bool (decide_eq_false (fun h => (by have h9 := h.1.2.1; have h8 := H3.out; omega))).symm, (by repeat (first | exact Ext.refl _ | assumption | refine Ext.alloc ?_ _ | refine Ext.drewN ?_ _ | refine ext_grow ?_ _ _ | refine Ext.trans ?_ (by assumption)))⟩
  have q3 : decide (a.x0 ≤ a.x1) = true := decide_eq_true h3
  by_cases h4 : a.y0 ≤ a.y1
  case neg =>
    have q4 : decide (a.y0 ≤ a.y1) = false := decide_eq_false h4; have H4 := Lib.hid h4; clear h4
    go_enter Try.func68, Try.ntmps68
    go_wp2_with (go_at_call 50; (with_reducible refine (within_two_same 50 (.inl rfl) _ _ _ _ _ _ (by simp)).mono ?_); rintro E w1 ⟨rfl, rfl⟩)
    go_ret
    exact ⟨ret_bool (decide_eq_false (fun h => (by have h9 := h.2.1.2.1; have h8 := H4.out; omega))).symm, (by repeat (first | exact Ext.refl _ | assumption | refine Ext.alloc ?_ _ | refine Ext.drewN ?_ _ | refine ext_grow ?_ _ _ | refine Ext.trans ?_ (by assumption)))⟩
  have q4 : decide (a.y0 ≤ a.y1) = true := decide_eq_true h4
  have K57 := Lib.hid (fun w' => c57 a.turn a.scale w')
  obtain ⟨c, hc⟩ : ∃ c, decide (Posed a.turn a.scale) = c := ⟨_, rfl⟩
  rw [hc] at K57
  have HF := Lib.hid (show c = decide (a.Ok m) from by
    rw [← hc]
    refine decide_eq_decide.2 ⟨fun h => ⟨⟨H1.out.1.1, h3, H1.out.2.2⟩, ⟨H2.out.1.1, h4, H2.out.2.2⟩, h⟩, fun h => h.2.2⟩)
  clear hc
  go_enter Try.func68, Try.ntmps68
  go_wp2_with (first | (go_at_call 50; (with_reducible refine (within_two_same 50 (.inl rfl) _ _ _ _ _ _ (by simp)).mono ?_); rintro E w1 ⟨rfl, rfl⟩) | (go_at_call 57; (with_reducible refine (K57.out _).mono ?_); rintro E w2 ⟨rfl, hb⟩))
  go_ret
  exact ⟨ret_bool HF.out, (by repeat (first | exact Ext.refl _ | assumption | refine Ext.alloc ?_ _ | refine Ext.drewN ?_ _ | refine ext_grow ?_ _ _ | refine Ext.trans ?_ (by assumption)))⟩
/-- what 'Bound' answers -/
def boundR (m : Img) (t : Tpl) (a : Area) : Int × Int := if checkE m t = 0 then if a.Ok m then (bound m t a, 0) else (0, 2) else (0, checkE m t)
theorem off_in {t : Tpl} (ht : t.Ok) {turn scale : Int} (hp : Posed turn scale) {k : Nat} (hk : k < t.pix.length) : -20 ≤ (ptOf t turn scale k).x ∧ (ptOf t turn scale k).x ≤ 20 ∧ -20 ≤ (ptOf t turn scale k).y ∧ (ptOf t turn scale k).y ≤ 20 := by
  obtain ⟨⟨p1, p2⟩, p3, p4⟩ := tplace_bd ht hk
  obtain ⟨⟨⟨t1, t2⟩, ⟨t3, t4⟩, -⟩, -⟩ := ht
  obtain ⟨⟨a1, a2⟩, b1, b2⟩ := dirOf_bd turn
  have h1 := off_bd (a := (dirOf turn).1) (b := (dirOf turn).2) (u := 2 * ((k : Int) % t.w) - t.w + 1) (v := 2 * ((k : Int) / t.w) - t.h + 1) ⟨a1, a2⟩ ⟨b1, b2⟩ (by omega) (by omega) hp.2
  have h2 := off_bd (a := (dirOf turn).2) (b := (dirOf turn).1) (u := 2 * ((k : Int) % t.w) - t.w + 1) (v := 2 * ((k : Int) / t.w) - t.h + 1) ⟨b1, b2⟩ ⟨a1, a2⟩ (by omega) (by omega) hp.2
  unfold ptOf offX offY
  dsimp only
  omega
theorem sten_in {t : Tpl} (ht : t.Ok) {turn scale : Int} (hp : Posed turn scale) : ∀ p ∈ stencil t turn scale t.pix.length, -20 ≤ p.x ∧ p.x ≤ 20 ∧ -20 ≤ p.y ∧ p.y ≤ 20 ∧ 0 ≤ p.v ∧ p.v ≤ 255 := fun p h => by
  obtain ⟨k, h1, h2, rfl⟩ := stencil_mem h
  obtain ⟨k1, k2, k3, k4⟩ := off_in ht hp h1
  have h3 := Tpl.pix_bd ht h1
  exact ⟨k1, k2, k3, k4, h2, h3.2⟩
set_option maxRecDepth 100000 in
set_option maxHeartbeats 16000000 in
theorem c29 (m : Img) (mv : Value) (t : Tpl) (tv : Value) (a : Area) (w : World) (hm : IntsAt w mv m.pix) (hml : m.pix.length ≤ maxLen) (ht : IntsAt w tv t.pix) (htl : t.pix.length ≤ maxLen) :
    Calls Try.prog 29 #[imgVal m mv, tplVal t tv, areaVal a] w fun e w' => e = .returned (.tuple #[.int .i64 (boundR m t a).1, .int .i64 (boundR m t a).2]) ∧ Ext w w' := by
  have HMV := Lib.hid hm
  have HTV := Lib.hid ht
  obtain ⟨mo, mc, rfl, -, -⟩ := hm.form
  obtain ⟨to, tc, rfl, -, -⟩ := ht.form
  have K67 := Lib.hid (fun w' (h : Ext w w') => c67 m _ t _ w' (HMV.out.ext h) hml (HTV.out.ext h) htl)
  have K68 := fun (h : m.Sized) => Lib.hid (fun w' => c68 m (.slice mo m.pix.length mc) a w' h ⟨_, _, _, rfl⟩)
  have K69 := fun (h1 : t.Ok) (h2 : Posed a.turn a.scale) => Lib.hid (fun w' (h : Ext w w') => c69 t _ a.turn a.scale w' h1 (HTV.out.ext h) h2)
  have K70 := fun (h0 : m.Camera) (h1 : t.Ok) (h2 : a.Ok m) => Lib.hid (fun sv w' (h : Ext w w') (hs : PtsAt w' sv (stencil t a.turn a.scale t.pix.length)) => c70 m _ (stencil t a.turn a.scale t.pix.length) sv a w' h0 (HMV.out.ext h) hs h2 (Nat.le_trans (stencil_len _ _ _ _) (Tpl.len_bd h1).2) (sten_in h1 h2.2.2))
  unfold imgVal tplVal areaVal at *
  clear hm ht hml htl
  by_cases h0 : checkE m t = 0
  case neg =>
    obtain ⟨r, hr⟩ : ∃ r, checkE m t = r := ⟨_, rfl⟩
    have q0 : (r != 0) = true := by simpa [hr] using h0
    have hR := Lib.hid (show boundR m t a = (0, r) from by unfold boundR; rw [if_neg h0, hr])
    rw [hr] at K67
    clear h0 hr K68 K69 K70
    go_enter Try.func29, Try.ntmps29
    go_wp2_with (go_at_call 67; (with_reducible refine (K67.out _ (by repeat (first | exact Ext.refl _ | assumption | refine Ext.alloc ?_ _ | refine Ext.drewN ?_ _ | refine ext_grow ?_ _ _ | refine Ext.trans ?_ (by assumption)))).mono ?_); rintro E w1 ⟨rfl, hb1⟩; have A1 := Lib.hid (show At w1 [(w.heap.size + 1 + 1, Obj.cells #[.int .i64 a.x0, .int .i64 a.y0, .int .i64 a.x1, .int .i64 a.y1, .int .i64 a.turn, .int .i64 a.scale] 47), (w.heap.size + 1, Obj.cells #[.int .i64 t.w, .int .i64 t.h, .slice to t.pix.length tc] 43), (w.heap.size, Obj.cells #[.int .i64 m.w, .int .i64 m.h, .slice mo m.pix.length mc] 24)] from At.ext hb1 ⟨(by repeat (first | (refine blk_at _ _ ?_; (first | rfl | (simp only [size_one]; done))) | refine (blk_past _ _ (by simp only [size_one]; omega)).trans ?_)), (by repeat (first | (refine blk_at _ _ ?_; (first | rfl | (simp only [size_one]; done))) | refine (blk_past _ _ (by simp only [size_one]; omega)).trans ?_)), (by repeat (first | (refine blk_at _ _ ?_; (first | rfl | (simp only [size_one]; done))) | refine (blk_past _ _ (by simp only [size_one]; omega)).trans ?_)), trivial⟩); have E1 := Lib.hid (show Ext w w1 from (by repeat (first | exact Ext.refl _ | assumption | refine Ext.alloc ?_ _ | refine Ext.drewN ?_ _ | refine ext_grow ?_ _ _ | refine Ext.trans ?_ (by assumption)))); obtain ⟨⟨x00, x01, x02, x03, x04, x05⟩, -⟩ := run_6 (At.at A1.out 0 rfl); obtain ⟨⟨x10, x11, x12⟩, -⟩ := run_3 (At.at A1.out 1 rfl); obtain ⟨⟨x20, x21, x22⟩, -⟩ := run_3 (At.at A1.out 2 rfl); have xz0 := At.lt A1.out 0 rfl; have xy0 := Nat.lt_succ_of_lt xz0; have xx0 := Nat.lt_succ_of_lt xy0; have xz1 := At.lt A1.out 1 rfl; have xy1 := Nat.lt_succ_of_lt xz1; have xx1 := Nat.lt_succ_of_lt xy1; have xz2 := At.lt A1.out 2 rfl; have xy2 := Nat.lt_succ_of_lt xz2; have xx2 := Nat.lt_succ_of_lt xy2)
    go_ret2
    exact ⟨by rw [hR.out]; rfl, E1.out⟩
  obtain ⟨g1, g2⟩ := check_ok h0
  rw [h0] at K67
  replace K68 := K68 g1.1
  by_cases h1 : a.Ok m
  case neg =>
    have q1 : decide (a.Ok m) = false := decide_eq_false h1
    have hR := Lib.hid (show boundR m t a = (0, 2) from by unfold boundR; rw [if_pos h0, if_neg h1])
    rw [q1] at K68
    clear h0 h1 q1 K69 K70 g1 g2
    go_enter Try.func29, Try.ntmps29
    go_wp2_with (first | (have _q := E1; go_at_call 68; (with_reducible refine (K68.out _).mono ?_); rintro E w2 ⟨rfl, hb2⟩; have A2 := Lib.hid (show At w2 [(w.heap.size + 1 + 1, Obj.cells #[.int .i64 a.x0, .int .i64 a.y0, .int .i64 a.x1, .int .i64 a.y1, .int .i64 a.turn, .int .i64 a.scale] 47), (w.heap.size + 1, Obj.cells #[.int .i64 t.w, .int .i64 t.h, .slice to t.pix.length tc] 43), (w.heap.size, Obj.cells #[.int .i64 m.w, .int .i64 m.h, .slice mo m.pix.length mc] 24)] from At.ext hb2 A1.out); have E2 := Lib.hid (E1.out.trans hb2); obtain ⟨⟨y00, y01, y02, y03, y04, y05⟩, -⟩ := run_6 (At.at A2.out 0 rfl); obtain ⟨⟨y10, y11, y12⟩, -⟩ := run_3 (At.at A2.out 1 rfl); obtain ⟨⟨y20, y21, y22⟩, -⟩ := run_3 (At.at A2.out 2 rfl); have yz0 := At.lt A2.out 0 rfl; have yy0 := Nat.lt_succ_of_lt yz0; have yx0 := Nat.lt_succ_of_lt yy0; have yz1 := At.lt A2.out 1 rfl; have yy1 := Nat.lt_succ_of_lt yz1; have yx1 := Nat.lt_succ_of_lt yy1; have yz2 := At.lt A2.out 2 rfl; have yy2 := Nat.lt_succ_of_lt yz2; have yx2 := Nat.lt_succ_of_lt yy2) | (go_at_call 67; (with_reducible refine (K67.out _ (by repeat (first | exact Ext.refl _ | assumption | refine Ext.alloc ?_ _ | refine Ext.drewN ?_ _ | refine ext_grow ?_ _ _ | refine Ext.trans ?_ (by assumption)))).mono ?_); rintro E w1 ⟨rfl, hb1⟩; have A1 := Lib.hid (show At w1 [(w.heap.size + 1 + 1, Obj.cells #[.int .i64 a.x0, .int .i64 a.y0, .int .i64 a.x1, .int .i64 a.y1, .int .i64 a.turn, .int .i64 a.scale] 47), (w.heap.size + 1, Obj.cells #[.int .i64 t.w, .int .i64 t.h, .slice to t.pix.length tc] 43), (w.heap.size, Obj.cells #[.int .i64 m.w, .int .i64 m.h, .slice mo m.pix.length mc] 24)] from At.ext hb1 ⟨(by repeat (first | (refine blk_at _ _ ?_; (first | rfl | (simp only [size_one]; done))) | refine (blk_past _ _ (by simp only [size_one]; omega)).trans ?_)), (by repeat (first | (refine blk_at _ _ ?_; (first | rfl | (simp only [size_one]; done))) | refine (blk_past _ _ (by simp only [size_one]; omega)).trans ?_)), (by repeat (first | (refine blk_at _ _ ?_; (first | rfl | (simp only [size_one]; done))) | refine (blk_past _ _ (by simp only [size_one]; omega)).trans ?_)), trivial⟩); have E1 := Lib.hid (show Ext w w1 from (by repeat (first | exact Ext.refl _ | assumption | refine Ext.alloc ?_ _ | refine Ext.drewN ?_ _ | refine ext_grow ?_ _ _ | refine Ext.trans ?_ (by assumption)))); obtain ⟨⟨x00, x01, x02, x03, x04, x05⟩, -⟩ := run_6 (At.at A1.out 0 rfl); obtain ⟨⟨x10, x11, x12⟩, -⟩ := run_3 (At.at A1.out 1 rfl); obtain ⟨⟨x20, x21, x22⟩, -⟩ := run_3 (At.at A1.out 2 rfl); have xz0 := At.lt A1.out 0 rfl; have xy0 := Nat.lt_succ_of_lt xz0; have xx0 := Nat.lt_succ_of_lt xy0; have xz1 := At.lt A1.out 1 rfl; have xy1 := Nat.lt_succ_of_lt xz1; have xx1 := Nat.lt_succ_of_lt xy1; have xz2 := At.lt A1.out 2 rfl; have xy2 := Nat.lt_succ_of_lt xz2; have xx2 := Nat.lt_succ_of_lt xy2))
    go_ret2
    exact ⟨by rw [hR.out]; rfl, E2.out⟩
  have q1 : decide (a.Ok m) = true := decide_eq_true h1
  have hR := Lib.hid (show boundR m t a = (bound m t a, 0) from by unfold boundR; rw [if_pos h0, if_pos h1])
  rw [q1] at K68
  replace K69 := K69 g2 h1.2.2
  replace K70 := K70 g1 g2 h1
  obtain ⟨bd, hbd⟩ : ∃ bd, sumL (fun p => least m p a.x0 a.y0 a.x1 a.y1) (stencil t a.turn a.scale t.pix.length) = bd := ⟨_, rfl⟩
  rw [hbd] at K70
  have HBD := Lib.hid (show bound m t a = bd from hbd)
  clear h0 h1 q1 g1 g2 hbd
  go_enter Try.func29, Try.ntmps29
  go_wp2_with (first | (have _q := E1; go_at_call 68; (with_reducible refine (K68.out _).mono ?_); rintro E w2 ⟨rfl, hb2⟩; have A2 := Lib.hid (show At w2 [(w.heap.size + 1 + 1, Obj.cells #[.int .i64 a.x0, .int .i64 a.y0, .int .i64 a.x1, .int .i64 a.y1, .int .i64 a.turn, .int .i64 a.scale] 47), (w.heap.size + 1, Obj.cells #[.int .i64 t.w, .int .i64 t.h, .slice to t.pix.length tc] 43), (w.heap.size, Obj.cells #[.int .i64 m.w, .int .i64 m.h, .slice mo m.pix.length mc] 24)] from At.ext hb2 A1.out); have E2 := Lib.hid (E1.out.trans hb2); obtain ⟨⟨y00, y01, y02, y03, y04, y05⟩, -⟩ := run_6 (At.at A2.out 0 rfl); obtain ⟨⟨y10, y11, y12⟩, -⟩ := run_3 (At.at A2.out 1 rfl); obtain ⟨⟨y20, y21, y22⟩, -⟩ := run_3 (At.at A2.out 2 rfl); have yz0 := At.lt A2.out 0 rfl; have yy0 := Nat.lt_succ_of_lt yz0; have yx0 := Nat.lt_succ_of_lt yy0; have yz1 := At.lt A2.out 1 rfl; have yy1 := Nat.lt_succ_of_lt yz1; have yx1 := Nat.lt_succ_of_lt yy1; have yz2 := At.lt A2.out 2 rfl; have yy2 := Nat.lt_succ_of_lt yz2; have yx2 := Nat.lt_succ_of_lt yy2) | (go_at_call 67; (with_reducible refine (K67.out _ (by repeat (first | exact Ext.refl _ | assumption | refine Ext.alloc ?_ _ | refine Ext.drewN ?_ _ | refine ext_grow ?_ _ _ | refine Ext.trans ?_ (by assumption)))).mono ?_); rintro E w1 ⟨rfl, hb1⟩; have A1 := Lib.hid (show At w1 [(w.heap.size + 1 + 1, Obj.cells #[.int .i64 a.x0, .int .i64 a.y0, .int .i64 a.x1, .int .i64 a.y1, .int .i64 a.turn, .int .i64 a.scale] 47), (w.heap.size + 1, Obj.cells #[.int .i64 t.w, .int .i64 t.h, .slice to t.pix.length tc] 43), (w.heap.size, Obj.cells #[.int .i64 m.w, .int .i64 m.h, .slice mo m.pix.length mc] 24)] from At.ext hb1 ⟨(by repeat (first | (refine blk_at _ _ ?_; (first | rfl | (simp only [size_one]; done))) | refine (blk_past _ _ (by simp only [size_one]; omega)).trans ?_)), (by repeat (first | (refine blk_at _ _ ?_; (first | rfl | (simp only [size_one]; done))) | refine (blk_past _ _ (by simp only [size_one]; omega)).trans ?_)), (by repeat (first | (refine blk_at _ _ ?_; (first | rfl | (simp only [size_one]; done))) | refine (blk_past _ _ (by simp only [size_one]; omega)).trans ?_)), trivial⟩); have E1 := Lib.hid (show Ext w w1 from (by repeat (first | exact Ext.refl _ | assumption | refine Ext.alloc ?_ _ | refine Ext.drewN ?_ _ | refine ext_grow ?_ _ _ | refine Ext.trans ?_ (by assumption)))); obtain ⟨⟨x00, x01, x02, x03, x04, x05⟩, -⟩ := run_6 (At.at A1.out 0 rfl); obtain ⟨⟨x10, x11, x12⟩, -⟩ := run_3 (At.at A1.out 1 rfl); obtain ⟨⟨x20, x21, x22⟩, -⟩ := run_3 (At.at A1.out 2 rfl); have xz0 := At.lt A1.out 0 rfl; have xy0 := Nat.lt_succ_of_lt xz0; have xx0 := Nat.lt_succ_of_lt xy0; have xz1 := At.lt A1.out 1 rfl; have xy1 := Nat.lt_succ_of_lt xz1; have xx1 := Nat.lt_succ_of_lt xy1; have xz2 := At.lt A1.out 2 rfl; have xy2 := Nat.lt_succ_of_lt xz2; have xx2 := Nat.lt_succ_of_lt xy2))
  have E2x := Lib.hid (show Ext w w2.drew from E2.out.drew)
  go_region_held3 (fun w' => w'.cell? ⟨w.heap.size + 1 + 1, 0, none⟩ = some (.int .i64 a.x0) ∧ w'.cell? ⟨w.heap.size + 1 + 1, 1, none⟩ = some (.int .i64 a.y0) ∧ w'.cell? ⟨w.heap.size + 1 + 1, 2, none⟩ = some (.int .i64 a.x1) ∧ w'.cell? ⟨w.heap.size + 1 + 1, 3, none⟩ = some (.int .i64 a.y1) ∧ w'.cell? ⟨w.heap.size + 1 + 1, 4, none⟩ = some (.int .i64 a.turn) ∧ w'.cell? ⟨w.heap.size + 1 + 1, 5, none⟩ = some (.int .i64 a.scale) ∧ w'.cell? ⟨w.heap.size + 1, 0, none⟩ = some (.int .i64 t.w) ∧ w'.cell? ⟨w.heap.size + 1, 1, none⟩ = some (.int .i64 t.h) ∧ w'.cell? ⟨w.heap.size + 1, 2, none⟩ = some (.slice to t.pix.length tc) ∧ w'.cell? ⟨w.heap.size, 0, none⟩ = some (.int .i64 m.w) ∧ w'.cell? ⟨w.heap.size, 1, none⟩ = some (.int .i64 m.h) ∧ w'.cell? ⟨w.heap.size, 2, none⟩ = some (.slice mo m.pix.length mc)) ((repeat' apply And.intro) <;> first | assumption | go_keep) (first | (have _q := E5; go_at_call 70; (with_reducible refine (K70.out _ _ E5.out P5.out).mono ?_); rintro E w6 ⟨rfl, hb6⟩; have A6 := Lib.hid (show At w6 [(w.heap.size + 1 + 1, Obj.cells #[.int .i64 a.x0, .int .i64 a.y0, .int .i64 a.x1, .int .i64 a.y1, .int .i64 a.turn, .int .i64 a.scale] 47), (w.heap.size + 1, Obj.cells #[.int .i64 t.w, .int .i64 t.h, .slice to t.pix.length tc] 43), (w.heap.size, Obj.cells #[.int .i64 m.w, .int .i64 m.h, .slice mo m.pix.length mc] 24)] from At.ext hb6 A5.out); obtain ⟨⟨v00, v01, v02, v03, v04, v05⟩, -⟩ := run_6 (At.at A6.out 0 rfl); obtain ⟨⟨v10, v11, v12⟩, -⟩ := run_3 (At.at A6.out 1 rfl); obtain ⟨⟨v20, v21, v22⟩, -⟩ := run_3 (At.at A6.out 2 rfl); have vz0 := At.lt A6.out 0 rfl; have vy0 := Nat.lt_succ_of_lt vz0; have vx0 := Nat.lt_succ_of_lt vy0; have vz1 := At.lt A6.out 1 rfl; have vy1 := Nat.lt_succ_of_lt vz1; have vx1 := Nat.lt_succ_of_lt vy1; have vz2 := At.lt A6.out 2 rfl; have vy2 := Nat.lt_succ_of_lt vz2; have vx2 := Nat.lt_succ_of_lt vy2; have E6 := Lib.hid (E5.out.trans hb6)) | (go_at_call 69; (with_reducible refine (K69.out _ E2x.out).mono ?_); rintro E w5 ⟨v5, rfl, ho5, hb5⟩; obtain ⟨-, so, sc, hv5, -⟩ := SlAt.of_owns ho5; subst hv5; have A5 := Lib.hid (show At w5 [(w.heap.size + 1 + 1, Obj.cells #[.int .i64 a.x0, .int .i64 a.y0, .int .i64 a.x1, .int .i64 a.y1, .int .i64 a.turn, .int .i64 a.scale] 47), (w.heap.size + 1, Obj.cells #[.int .i64 t.w, .int .i64 t.h, .slice to t.pix.length tc] 43), (w.heap.size, Obj.cells #[.int .i64 m.w, .int .i64 m.h, .slice mo m.pix.length mc] 24)] from At.ext hb5 (At.drew A2.out)); obtain ⟨⟨u00, u01, u02, u03, u04, u05⟩, -⟩ := run_6 (At.at A5.out 0 rfl); obtain ⟨⟨u10, u11, u12⟩, -⟩ := run_3 (At.at A5.out 1 rfl); obtain ⟨⟨u20, u21, u22⟩, -⟩ := run_3 (At.at A5.out 2 rfl); have uz0 := At.lt A5.out 0 rfl; have uy0 := Nat.lt_succ_of_lt uz0; have ux0 := Nat.lt_succ_of_lt uy0; have uz1 := At.lt A5.out 1 rfl; have uy1 := Nat.lt_succ_of_lt uz1; have ux1 := Nat.lt_succ_of_lt uy1; have uz2 := At.lt A5.out 2 rfl; have uy2 := Nat.lt_succ_of_lt uz2; have ux2 := Nat.lt_succ_of_lt uy2; have P5 := Lib.hid (show PtsAt w5 (.slice so (stencil t a.turn a.scale t.pix.length).length sc) (stencil t a.turn a.scale t.pix.length) from SlAt.of_owns ho5); have E5 := Lib.hid (E2x.out.trans hb5); clear ho5))
  all_goals go_wp2
  all_goals go_ret2
  all_goals exact ⟨by rw [hR.out, HBD.out]; rfl, E6.out⟩
end Go.Proofs.Ytipkjdfnoonpcaa
