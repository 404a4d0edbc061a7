/- 'MarkApart' returns true. -/
import Derived.Test.YtlnofbdhamingaaDoorAliveC
import Derived.Test.YtlnofbdhamingaaDoorLinesLaw
import Derived.Test.YtlnofbdhamingaaDoorTwinFn
set_option linter.unusedVariables false
set_option linter.unusedSimpArgs false
namespace Go.Proofs.YtlnofbdhamingaaDoor
open Go.RowKit Go.Sort

theorem ints_some {w : World} {v : Value} {l : List Int} {n : Nat} (h : IntsAt w v l) (hn : l.length = n) (h0 : 0 < n) :
    ∃ b off cap, v = .slice (some ⟨b, off, none⟩) n cap ∧ ∀ i, i < n → w.cell? ⟨b, off + i, none⟩ = some (.int .i64 (l.getD i 0)) := by
  obtain ⟨ao, cap, rfl, -, hc⟩ := h.form
  rw [hn] at hc ⊢
  obtain ⟨b, off, rfl, -⟩ := hc 0 h0
  refine ⟨b, off, cap, rfl, fun i hi => ?_⟩
  obtain ⟨b', off', e, hx⟩ := hc i hi
  cases e
  exact hx
theorem pix_at {w : World} {b off n cap : Nat} {l : List Int} (h : IntsAt w (.slice (some ⟨b, off, none⟩) n cap) l) {i : Nat} (hi : i < l.length) : w.cell? ⟨b, off + i, none⟩ = some (.int .i64 (l.getD i 0)) := by
  obtain ⟨ao, cap', he, -, hc⟩ := h.form
  injection he with e1 _ _
  subst e1
  obtain ⟨b', off', e, hx⟩ := hc i hi
  cases e
  exact hx
theorem print_one {s : ByteArray} {n W : Nat} (hL : LineOk s) (hn : s.size = n) (hW : W + 1 = 4 * n) : printI s 1 0 255 = (⟨(W : Int), 5, paintedR (printR (digsOf s) W) (W * 1) 1 0 255 (W * 1 * (5 * 1))⟩, 0) := by
  have h4 := hL.2
  have hW' : 4 * s.size - 1 = W := by omega
  rw [printI_def, if_pos hL, if_pos ⟨⟨by omega, by omega⟩, by omega, by omega, by omega⟩, if_pos (by omega), hW']
  show ((⟨((W * 1 : Nat) : Int), ((5 * 1 : Nat) : Int), _⟩ : Img), (0 : Int)) = _
  have e : ((W * 1 : Nat) : Int) = (W : Int) := by rw [Nat.mul_one]
  rw [e]; rfl
theorem rowI_set (l : List Int) (k : Nat) (x : Int) : (ints l).set k (.int .i64 x) = ints (l.set k x) := by unfold ints; rw [List.map_set]
theorem rowI_get {l : List Int} {j : Nat} (h : j < l.length) : (ints l)[j]? = some (.int .i64 (l.getD j 0)) := by
  unfold ints
  rw [List.getElem?_map, List.getElem?_eq_getElem h, List.getD_eq_getElem?_getD, List.getElem?_eq_getElem h]; rfl
set_option maxRecDepth 100000 in
set_option maxHeartbeats 16000000 in
theorem apart_walk (a b : ByteArray) (at_ : Int) (w : World) (hT : Tabs w) (ha : a.size ≤ maxLen) (hb : b.size ≤ maxLen) :
    Calls Tryd.prog 15 #[.string a, .string b, .int .i64 at_] w fun e w' => e = .returned (.bool true) ∧ Ext w w' := by
  have K0 := Lib.hid (fun w' (h : Ext w w') => l_alive w' (hT.ext h))
  have K1 := Lib.hid (fun w' => r_Line a w' ha)
  have K2 := Lib.hid (fun w' => r_Line b w' hb)
  clear hT
  by_cases hla : LineOk a
  case neg =>
    rw [decide_eq_false hla] at K1
    clear hla ha hb
    as_aux_lemma =>
      go_enter Tryd.func15, Tryd.ntmps15
      go_wp2_with (first
          | (go_at_call 47; (with_reducible refine (K1.out _).mono ?_); rintro E w2 ⟨rfl, hb2⟩; have A2 := Lib.hid (show At w2 [] from At.ext hb2 A1.out); have E2 := Lib.hid ((E1.out).trans hb2))
          | (go_at_call 38; (with_reducible refine (K0.out _ (show Ext w w from (by repeat (first | exact Ext.refl _ | assumption | refine Ext.alloc ?_ _ | refine Ext.drewN ?_ _ | refine ext_grow ?_ _ _ | refine Ext.setCell ?_ (by first | exact Nat.le_refl _ | omega | (simp; done) | (simp; omega)) _ | refine Ext.trans ?_ (by assumption))))).mono ?_); rintro E w1 ⟨rfl, hb1⟩; have A1 := Lib.hid (show At w1 [] from At.ext hb1 (show At _ [] from trivial)); have E1 := Lib.hid (((show Ext w w from (by repeat (first | exact Ext.refl _ | assumption | refine Ext.alloc ?_ _ | refine Ext.drewN ?_ _ | refine ext_grow ?_ _ _ | refine Ext.setCell ?_ (by first | exact Nat.le_refl _ | omega | (simp; done) | (simp; omega)) _ | refine Ext.trans ?_ (by assumption))))).trans hb1)))
      go_ret
      exact ⟨rfl, E2.out⟩
  rw [decide_eq_true hla] at K1
  by_cases hlb : LineOk b
  case neg =>
    rw [decide_eq_false hlb] at K2
    clear hla hlb ha hb
    as_aux_lemma =>
      go_enter Tryd.func15, Tryd.ntmps15
      go_wp2_with (first
          | (have _q := E2.out; go_at_call 47; (with_reducible refine (K2.out _).mono ?_); rintro E w3 ⟨rfl, hb3⟩; have A3 := Lib.hid (show At w3 [] from At.ext hb3 A2.out); have E3 := Lib.hid ((E2.out).trans hb3))
          | (go_at_call 47; (with_reducible refine (K1.out _).mono ?_); rintro E w2 ⟨rfl, hb2⟩; have A2 := Lib.hid (show At w2 [] from At.ext hb2 A1.out); have E2 := Lib.hid ((E1.out).trans hb2))
          | (go_at_call 38; (with_reducible refine (K0.out _ (show Ext w w from (by repeat (first | exact Ext.refl _ | assumption | refine Ext.alloc ?_ _ | refine Ext.drewN ?_ _ | refine ext_grow ?_ _ _ | refine Ext.setCell ?_ (by first | exact Nat.le_refl _ | omega | (simp; done) | (simp; omega)) _ | refine Ext.trans ?_ (by assumption))))).mono ?_); rintro E w1 ⟨rfl, hb1⟩; have A1 := Lib.hid (show At w1 [] from At.ext hb1 (show At _ [] from trivial)); have E1 := Lib.hid (((show Ext w w from (by repeat (first | exact Ext.refl _ | assumption | refine Ext.alloc ?_ _ | refine Ext.drewN ?_ _ | refine ext_grow ?_ _ _ | refine Ext.setCell ?_ (by first | exact Nat.le_refl _ | omega | (simp; done) | (simp; omega)) _ | refine Ext.trans ?_ (by assumption))))).trans hb1)))
      go_ret
      exact ⟨rfl, E3.out⟩
  rw [decide_eq_true hlb] at K2
  by_cases hab : a.size = b.size
  case neg =>
    have q0 : ((a.size : Int) != (b.size : Int)) = true := by rw [bne_iff_ne]; omega
    clear hla hlb hab ha hb
    as_aux_lemma =>
      go_enter Tryd.func15, Tryd.ntmps15
      go_wp2_with (first
          | (have _q := E2.out; go_at_call 47; (with_reducible refine (K2.out _).mono ?_); rintro E w3 ⟨rfl, hb3⟩; have A3 := Lib.hid (show At w3 [] from At.ext hb3 A2.out); have E3 := Lib.hid ((E2.out).trans hb3))
          | (go_at_call 47; (with_reducible refine (K1.out _).mono ?_); rintro E w2 ⟨rfl, hb2⟩; have A2 := Lib.hid (show At w2 [] from At.ext hb2 A1.out); have E2 := Lib.hid ((E1.out).trans hb2))
          | (go_at_call 38; (with_reducible refine (K0.out _ (show Ext w w from (by repeat (first | exact Ext.refl _ | assumption | refine Ext.alloc ?_ _ | refine Ext.drewN ?_ _ | refine ext_grow ?_ _ _ | refine Ext.setCell ?_ (by first | exact Nat.le_refl _ | omega | (simp; done) | (simp; omega)) _ | refine Ext.trans ?_ (by assumption))))).mono ?_); rintro E w1 ⟨rfl, hb1⟩; have A1 := Lib.hid (show At w1 [] from At.ext hb1 (show At _ [] from trivial)); have E1 := Lib.hid (((show Ext w w from (by repeat (first | exact Ext.refl _ | assumption | refine Ext.alloc ?_ _ | refine Ext.drewN ?_ _ | refine ext_grow ?_ _ _ | refine Ext.setCell ?_ (by first | exact Nat.le_refl _ | omega | (simp; done) | (simp; omega)) _ | refine Ext.trans ?_ (by assumption))))).trans hb1)))
      go_ret
      exact ⟨rfl, E3.out⟩
  have q0 : ((a.size : Int) != (b.size : Int)) = false := by rw [hab]; exact bne_self_eq_false' _
  by_cases h0 : at_ < 0
  · have HX := Lib.hid hab
    clear hla hlb hab ha hb
    as_aux_lemma =>
      go_enter Tryd.func15, Tryd.ntmps15
      go_wp2_with (first
          | (have _q := E2.out; go_at_call 47; (with_reducible refine (K2.out _).mono ?_); rintro E w3 ⟨rfl, hb3⟩; have A3 := Lib.hid (show At w3 [] from At.ext hb3 A2.out); have E3 := Lib.hid ((E2.out).trans hb3))
          | (go_at_call 47; (with_reducible refine (K1.out _).mono ?_); rintro E w2 ⟨rfl, hb2⟩; have A2 := Lib.hid (show At w2 [] from At.ext hb2 A1.out); have E2 := Lib.hid ((E1.out).trans hb2))
          | (go_at_call 38; (with_reducible refine (K0.out _ (show Ext w w from (by repeat (first | exact Ext.refl _ | assumption | refine Ext.alloc ?_ _ | refine Ext.drewN ?_ _ | refine ext_grow ?_ _ _ | refine Ext.setCell ?_ (by first | exact Nat.le_refl _ | omega | (simp; done) | (simp; omega)) _ | refine Ext.trans ?_ (by assumption))))).mono ?_); rintro E w1 ⟨rfl, hb1⟩; have A1 := Lib.hid (show At w1 [] from At.ext hb1 (show At _ [] from trivial)); have E1 := Lib.hid (((show Ext w w from (by repeat (first | exact Ext.refl _ | assumption | refine Ext.alloc ?_ _ | refine Ext.drewN ?_ _ | refine ext_grow ?_ _ _ | refine Ext.setCell ?_ (by first | exact Nat.le_refl _ | omega | (simp; done) | (simp; omega)) _ | refine Ext.trans ?_ (by assumption))))).trans hb1)))
      go_ret
      exact ⟨rfl, E3.out⟩
  by_cases h1 : (a.size : Int) ≤ at_
  · have HX := Lib.hid hab
    clear hla hlb hab ha hb
    as_aux_lemma =>
      go_enter Tryd.func15, Tryd.ntmps15
      go_wp2_with (first
          | (have _q := E2.out; go_at_call 47; (with_reducible refine (K2.out _).mono ?_); rintro E w3 ⟨rfl, hb3⟩; have A3 := Lib.hid (show At w3 [] from At.ext hb3 A2.out); have E3 := Lib.hid ((E2.out).trans hb3))
          | (go_at_call 47; (with_reducible refine (K1.out _).mono ?_); rintro E w2 ⟨rfl, hb2⟩; have A2 := Lib.hid (show At w2 [] from At.ext hb2 A1.out); have E2 := Lib.hid ((E1.out).trans hb2))
          | (go_at_call 38; (with_reducible refine (K0.out _ (show Ext w w from (by repeat (first | exact Ext.refl _ | assumption | refine Ext.alloc ?_ _ | refine Ext.drewN ?_ _ | refine ext_grow ?_ _ _ | refine Ext.setCell ?_ (by first | exact Nat.le_refl _ | omega | (simp; done) | (simp; omega)) _ | refine Ext.trans ?_ (by assumption))))).mono ?_); rintro E w1 ⟨rfl, hb1⟩; have A1 := Lib.hid (show At w1 [] from At.ext hb1 (show At _ [] from trivial)); have E1 := Lib.hid (((show Ext w w from (by repeat (first | exact Ext.refl _ | assumption | refine Ext.alloc ?_ _ | refine Ext.drewN ?_ _ | refine ext_grow ?_ _ _ | refine Ext.setCell ?_ (by first | exact Nat.le_refl _ | omega | (simp; done) | (simp; omega)) _ | refine Ext.trans ?_ (by assumption))))).trans hb1)))
      go_ret
      exact ⟨rfl, E3.out⟩
  obtain ⟨T, rfl⟩ := Int.eq_ofNat_of_zero_le (show 0 ≤ at_ by omega)
  obtain ⟨n, hn⟩ : ∃ n, a.size = n := ⟨_, rfl⟩
  have hn4 : 1 ≤ n ∧ n ≤ 4 := by have := hla.2; omega
  obtain ⟨W, hW⟩ : ∃ W, W + 1 = 4 * n := ⟨4 * n - 1, by omega⟩
  have hTn : T < n := by omega
  have hLaw := apart_line (at_ := T) hla hlb hn (by omega) hW hTn
  have hstr := strN_mix a b T
  have px := print_one hla hn hW
  have py := print_one hlb (show b.size = n by omega) hW
  obtain ⟨x, hx⟩ : ∃ x, paintedR (printR (digsOf a) W) (W * 1) 1 0 255 (W * 1 * (5 * 1)) = x := ⟨_, rfl⟩
  obtain ⟨y, hy⟩ : ∃ x, paintedR (printR (digsOf b) W) (W * 1) 1 0 255 (W * 1 * (5 * 1)) = x := ⟨_, rfl⟩
  rw [hx] at px hLaw
  rw [hy] at py hLaw
  obtain ⟨N, hNW⟩ : ∃ N, 5 * W = N := ⟨_, rfl⟩
  have LX := Lib.hid (show x.length = N by rw [← hx, paintedR_length]; omega)
  have LY := Lib.hid (show y.length = N by rw [← hy, paintedR_length]; omega)
  have hN0 : 0 < N := by omega
  have hN75 : N ≤ 75 := by omega
  have KX := Lib.hid (fun w' => by
    have k := c_Print a 1 0 255 w' ha
    rw [px] at k
    exact (show Calls Tryd.prog 36 #[.string a, .int .i64 1, .int .i64 0, .int .i64 255] w' fun e w'' => ∃ v', e = .returned (.tuple #[.agg #[.int .i64 (W : Int), .int .i64 5, v'], .int .i64 0]) ∧ IntsAt w'' v' x ∧ Ext w' w'' from k))
  have KY := Lib.hid (fun w' => by
    have k := c_Print b 1 0 255 w' hb
    rw [py] at k
    exact (show Calls Tryd.prog 36 #[.string b, .int .i64 1, .int .i64 0, .int .i64 255] w' fun e w'' => ∃ v', e = .returned (.tuple #[.agg #[.int .i64 (W : Int), .int .i64 5, v'], .int .i64 0]) ∧ IntsAt w'' v' y ∧ Ext w' w'' from k))
  have KT := Lib.hid (fun w' v (h : IntsAt w' v x) => by
    have k := r_Twin ⟨(W : Int), 5, x⟩ v w' h (by show x.length ≤ _; rw [LX.out]; omega)
    rw [show (⟨(W : Int), 5, x⟩ : Img).pix.length = N from LX.out] at k
    exact (show Calls Tryd.prog 27 #[.agg #[.int .i64 (W : Int), .int .i64 5, v]] w' fun e w'' => ∃ v', e = .returned (.agg #[.int .i64 (W : Int), .int .i64 5, v']) ∧ w''.ownsRow w'.heap.size 3 1 v' N (ints x) ∧ Ext w' w'' from k))
  rw [hNW] at hLaw
  have HZ := Lib.hid (apartK_zero (x := x) (y := y) (W := W) (at_ := T) (by rw [LX.out, hNW]))
  have HKL := Lib.hid (fun k => (apartK_len x y W T k).trans hNW)
  have HSet := Lib.hid (fun k (h : k < N) => apartK_set (x := x) (y := y) (W := W) (at_ := T) (n := k) (by rw [hNW]; exact h))
  have HSame := Lib.hid (fun k => apartK_same (x := x) (y := y) (W := W) (at_ := T) (n := k))
  have HGet := Lib.hid (fun k j (h : j < N) => apartK_get (x := x) (y := y) (W := W) (at_ := T) (n := k) (i := j) (by rw [hNW]; exact h))
  have KL := Lib.hid (fun w' v (h : IntsAt w' v (apartK x y W T N)) => by
    have k := c_ReadLine ⟨(W : Int), 5, apartK x y W T N⟩ v 1 ⟨50, 100⟩ 1 w' h (ints_len h)
    rw [hLaw] at k
    unfold StrErr at k
    dsimp only at k
    rw [hstr] at k
    exact (show Calls Tryd.prog 46 #[.agg #[.int .i64 (W : Int), .int .i64 5, v], .int .i64 1, .agg #[.int .i64 50, .int .i64 100], .int .i64 1] w' fun e w'' => e = .returned (.tuple #[.string (a.extract 0 T ++ b.extract T (T + 1) ++ a.extract (T + 1) a.size), .int .i64 0]) ∧ Ext w' w'' from k))
  have r1 : ((W : Int) != 4 * (a.size : Int) - 1) = false := by rw [bne_eq_false_iff_eq]; omega
  have r2 : (T : Int) < (a.size : Int) := by omega
  have r3 : (T : Int) < (b.size : Int) := by omega
  have HX := Lib.hid (And.intro hn (And.intro hab (And.intro hx hy)))
  have hW1 : 0 < W := by omega
  have hW15 : W ≤ 15 := by omega
  have hsz : a.size ≤ 4 := by omega
  have hszb : b.size ≤ 4 := by omega
  clear hla hlb hab ha hb hn hn4 hTn hLaw hstr px py hx hy hNW h1 h0 hW
  as_aux_lemma =>
    go_enter Tryd.func15, Tryd.ntmps15
    go_wp2_with (first
      | (go_at_call 27; (with_reducible refine (KT.out _ _ (IntsAt.ext (XR_5.out) ((Ext.refl _).alloc _))).mono ?_); rintro E w6 ⟨v6, rfl, o6, hb6⟩; have A6 := Lib.hid (show At w6 [(w5.heap.size, Obj.cells #[.int .i64 (W : Int), .int .i64 5, .slice (some ⟨g5, o5, none⟩) N z5] 44), (w4.heap.size, Obj.cells #[.int .i64 (W : Int), .int .i64 5, .slice (some ⟨g4, o4, none⟩) N z4] 44)] from At.ext hb6 (show At (World.alloc w5 (Obj.cells #[.int .i64 (W : Int), .int .i64 5, .slice (some ⟨g5, o5, none⟩) N z5] 44)) [(w5.heap.size, Obj.cells #[.int .i64 (W : Int), .int .i64 5, .slice (some ⟨g5, o5, none⟩) N z5] 44), (w4.heap.size, Obj.cells #[.int .i64 (W : Int), .int .i64 5, .slice (some ⟨g4, o4, none⟩) N z4] 44)] from ⟨one_first _ _, At.alloc A5.out _⟩)); have E6 := Lib.hid ((((E5.out).alloc _)).trans hb6); obtain ⟨⟨c6_0_0, c6_0_1, c6_0_2⟩, f6_0_0, f6_0_1, f6_0_2⟩ := run_3 (At.at A6.out 0 rfl); have s6_0 : w5.heap.size < w6.heap.size := At.lt A6.out 0 rfl; obtain ⟨⟨c6_1_0, c6_1_1, c6_1_2⟩, f6_1_0, f6_1_1, f6_1_2⟩ := run_3 (At.at A6.out 1 rfl); have s6_1 : w4.heap.size < w6.heap.size := At.lt A6.out 1 rfl; (try clear c5_0_0 c5_0_1 c5_0_2 f5_0_0 f5_0_1 f5_0_2); have XR_6 := Lib.hid (IntsAt.ext ((IntsAt.ext (XR_5.out) ((Ext.refl _).alloc _))) hb6); have YR_6 := Lib.hid (IntsAt.ext ((IntsAt.ext I5.out ((Ext.refl _).alloc _))) hb6); obtain ⟨gm, cm, rfl, hgm, -⟩ := owns_some o6 hN0; have OM := Lib.hid o6; have hgl := (o6.lt gm rfl).2)
      | (have _q := E4.out; go_at_call 36; (with_reducible refine (KY.out _).mono ?_); rintro E w5 ⟨v5, rfl, i5, hb5⟩; have A5 := Lib.hid (show At w5 [(w4.heap.size, Obj.cells #[.int .i64 (W : Int), .int .i64 5, .slice (some ⟨g4, o4, none⟩) N z4] 44)] from At.ext hb5 (show At (World.alloc w4 (Obj.cells #[.int .i64 (W : Int), .int .i64 5, .slice (some ⟨g4, o4, none⟩) N z4] 44)) [(w4.heap.size, Obj.cells #[.int .i64 (W : Int), .int .i64 5, .slice (some ⟨g4, o4, none⟩) N z4] 44)] from ⟨one_first _ _, At.alloc A4.out _⟩)); have E5 := Lib.hid ((((E4.out).alloc _)).trans hb5); obtain ⟨⟨c5_0_0, c5_0_1, c5_0_2⟩, f5_0_0, f5_0_1, f5_0_2⟩ := run_3 (At.at A5.out 0 rfl); have s5_0 : w4.heap.size < w5.heap.size := At.lt A5.out 0 rfl; have XR_5 := Lib.hid (IntsAt.ext ((IntsAt.ext I4.out ((Ext.refl _).alloc _))) hb5); obtain ⟨g5, o5, z5, rfl, -⟩ := ints_some i5 LY.out hN0; have I5 := Lib.hid i5)
      | (go_at_call 36; (with_reducible refine (KX.out _).mono ?_); rintro E w4 ⟨v4, rfl, i4, hb4⟩; have A4 := Lib.hid (show At w4 [] from At.ext hb4 A3.out); have E4 := Lib.hid ((E3.out).trans hb4); obtain ⟨g4, o4, z4, rfl, -⟩ := ints_some i4 LX.out hN0; have I4 := Lib.hid i4)
      | (have _q := E2.out; go_at_call 47; (with_reducible refine (K2.out _).mono ?_); rintro E w3 ⟨rfl, hb3⟩; have A3 := Lib.hid (show At w3 [] from At.ext hb3 A2.out); have E3 := Lib.hid ((E2.out).trans hb3))
      | (go_at_call 47; (with_reducible refine (K1.out _).mono ?_); rintro E w2 ⟨rfl, hb2⟩; have A2 := Lib.hid (show At w2 [] from At.ext hb2 A1.out); have E2 := Lib.hid ((E1.out).trans hb2))
      | (go_at_call 38; (with_reducible refine (K0.out _ (show Ext w w from (by repeat (first | exact Ext.refl _ | assumption | refine Ext.alloc ?_ _ | refine Ext.drewN ?_ _ | refine ext_grow ?_ _ _ | refine Ext.setCell ?_ (by first | exact Nat.le_refl _ | omega | (simp; done) | (simp; omega)) _ | refine Ext.trans ?_ (by assumption))))).mono ?_); rintro E w1 ⟨rfl, hb1⟩; have A1 := Lib.hid (show At w1 [] from At.ext hb1 (show At _ [] from trivial)); have E1 := Lib.hid (((show Ext w w from (by repeat (first | exact Ext.refl _ | assumption | refine Ext.alloc ?_ _ | refine Ext.drewN ?_ _ | refine ext_grow ?_ _ _ | refine Ext.setCell ?_ (by first | exact Nat.le_refl _ | omega | (simp; done) | (simp; omega)) _ | refine Ext.trans ?_ (by assumption))))).trans hb1)))
    have hgy := World.block_lt_of_cell? _ _ (pix_at I5.out (i := 0) (by rw [LY.out]; exact hN0))
    simp only at hgy
    rw [size_one] at hgm
    have A8 := Lib.hid (show At (World.alloc w6 (Obj.cells #[.int .i64 (W : Int), .int .i64 5, .slice (some ⟨gm, 0, none⟩) N cm] 44)) [(w6.heap.size, Obj.cells #[.int .i64 (W : Int), .int .i64 5, .slice (some ⟨gm, 0, none⟩) N cm] 44), (w5.heap.size, Obj.cells #[.int .i64 (W : Int), .int .i64 5, .slice (some ⟨g5, o5, none⟩) N z5] 44), (w4.heap.size, Obj.cells #[.int .i64 (W : Int), .int .i64 5, .slice (some ⟨g4, o4, none⟩) N z4] 44)] from (show At (World.alloc w6 (Obj.cells #[.int .i64 (W : Int), .int .i64 5, .slice (some ⟨gm, 0, none⟩) N cm] 44)) [(w6.heap.size, Obj.cells #[.int .i64 (W : Int), .int .i64 5, .slice (some ⟨gm, 0, none⟩) N cm] 44), (w5.heap.size, Obj.cells #[.int .i64 (W : Int), .int .i64 5, .slice (some ⟨g5, o5, none⟩) N z5] 44), (w4.heap.size, Obj.cells #[.int .i64 (W : Int), .int .i64 5, .slice (some ⟨g4, o4, none⟩) N z4] 44)] from ⟨one_first _ _, At.alloc A6.out _⟩))
    have E8 := Lib.hid (show Ext w (World.alloc w6 (Obj.cells #[.int .i64 (W : Int), .int .i64 5, .slice (some ⟨gm, 0, none⟩) N cm] 44)) from ((E6.out).alloc _))
    have Y8 := Lib.hid (show IntsAt (World.alloc w6 (Obj.cells #[.int .i64 (W : Int), .int .i64 5, .slice (some ⟨gm, 0, none⟩) N cm] 44)) (.slice (some ⟨g5, o5, none⟩) N z5) y from (IntsAt.ext (YR_6.out) ((Ext.refl _).alloc _)))
    have hwg : w.heap.size ≤ gm := by have := E5.out.size; omega
    have O8 := Lib.hid (show World.ownsRow (World.alloc w6 (Obj.cells #[.int .i64 (W : Int), .int .i64 5, .slice (some ⟨gm, 0, none⟩) N cm] 44)) w.heap.size 3 1 (.slice (some ⟨gm, 0, none⟩) N cm) N (ints (apartK x y W T 0)) from by rw [HZ.out]; exact owns_base (owns_ext OM.out ((Ext.refl _).alloc _)) (by rw [size_one]; have := E5.out.size; omega))
    have hxy : w4.heap.size < w5.heap.size := by have := s5_0; omega
    obtain ⟨V8, hV8⟩ : ∃ V, (World.alloc w6 (Obj.cells #[.int .i64 (W : Int), .int .i64 5, .slice (some ⟨gm, 0, none⟩) N cm] 44)) = V := ⟨_, rfl⟩
    obtain ⟨bM, hbM⟩ : ∃ b, w6.heap.size = b := ⟨_, rfl⟩
    obtain ⟨bY, hbY⟩ : ∃ b, w5.heap.size = b := ⟨_, rfl⟩
    obtain ⟨bX, hbX⟩ : ∃ b, w4.heap.size = b := ⟨_, rfl⟩
    rw [hV8] at A8 E8 Y8 O8 ⊢
    rw [hbM] at A8 hgl ⊢
    rw [hbY] at A8 hgy hgm hxy ⊢
    rw [hbX] at A8 hxy
    clear hV8 hbM hbY hbX
    go_loopw [13] (fun ii wi => ∃ i : Nat, i ≤ N ∧ ii = .int .i64 (i : Int) ∧ Hid (V8.grownBy wi (some gm)) ∧ Hid (wi.ownsRow w.heap.size 3 1 (.slice (some ⟨gm, 0, none⟩) N cm) N (ints (apartK x y W T i)))) (fun ii _ => N - (intOf ii).toNat)
    case atStart => exact ⟨0, Nat.zero_le _, rfl, Lib.hid (World.grownBy.refl _ _), O8⟩
    case round =>
      clear O8
      obtain ⟨i, hi, rfl, hB, hO⟩ := hrel
      have hA := Lib.hid (At.grown hB.out A8.out (fun k hk h9 => by simp at hk; have := Option.some.inj h9; omega))
      obtain ⟨⟨m0, m1, m2⟩, mf0, mf1, mf2⟩ := run_3 (At.at hA.out 0 rfl)
      obtain ⟨⟨y0, y1, y2⟩, yf0, yf1, yf2⟩ := run_3 (At.at hA.out 1 rfl)
      have mz := At.lt hA.out 0 rfl
      have yz := At.lt hA.out 1 rfl
      by_cases h : i < N
      · have HS := Lib.hid (HSet.out i h)
        have HSm := Lib.hid (HSame.out i)
        have hY := Lib.hid (SlAt.gb Y8.out hB.out (fun k hk h9 => by
          have e1 : g5 = k := Option.some.inj hk
          have e2 := Option.some.inj h9
          omega))
        have cy := pix_at (show IntsAt wr (.slice (some ⟨g5, o5, none⟩) N z5) y from hY.out) (i := i) (by rw [LY.out]; exact h)
        have cx : wr.cell? ⟨gm, i, none⟩ = some (.int .i64 ((apartK x y W T i).getD i 0)) := by
          rw [hO.out.cellAt i (by omega), rowI_get (by rw [HKL.out]; exact h)]
        have cf := hO.out.frozenAt i
        have HX0 := Lib.hid (show (apartK x y W T i).getD i 0 = x.getD i 0 by rw [HGet.out i i h, if_neg (Nat.lt_irrefl _)])
        have HDef := Lib.hid (show apartP x y W T i = if i % W / 4 = T ∧ i % W % 4 < 3 then y.getD i 0 else if i % W % 4 = 3 then 128 else x.getD i 0 from rfl)
        have p1 : decide ((i : Int) < (N : Int)) = true := decide_eq_true (by omega)
        have p2 : (i : Int) < (N : Int) := by omega
        have mW : (i : Int).tmod (W : Int) = ((i % W : Nat) : Int) := rfl
        have hC := Nat.mod_lt i hW1
        obtain ⟨C, hCC⟩ : ∃ C, i % W = C := ⟨_, rfl⟩
        rw [hCC] at mW hC HDef
        have d4 : (C : Int).tdiv 4 = ((C / 4 : Nat) : Int) := rfl
        have d4' : (C : Int) / 4 = ((C / 4 : Nat) : Int) := rfl
        have m4 : (C : Int).tmod 4 = ((C % 4 : Nat) : Int) := rfl
        have m4' : (C : Int) % 4 = ((C % 4 : Nat) : Int) := rfl
        have hR := Nat.mod_lt C (show 0 < 4 by omega)
        have hD : C / 4 ≤ 3 := by omega
        obtain ⟨D, hDD⟩ : ∃ D, C / 4 = D := ⟨_, rfl⟩
        obtain ⟨Q, hQQ⟩ : ∃ Q, C % 4 = Q := ⟨_, rfl⟩
        rw [hDD] at d4 d4' hD HDef
        rw [hQQ] at m4 m4' hR HDef
        obtain ⟨yv, hyv⟩ : ∃ v, y.getD i 0 = v := ⟨_, rfl⟩
        obtain ⟨xv, hxv⟩ : ∃ v, (apartK x y W T i).getD i 0 = v := ⟨_, rfl⟩
        rw [hyv] at cy HDef
        rw [hxv] at cx HX0
        have HZZ := Lib.hid (And.intro hCC (And.intro hDD (And.intro hQQ (And.intro hyv hxv))))
        clear hCC hDD hQQ hyv hxv
        by_cases hDT : D = T
        · have q1 : ((D : Int) == (T : Int)) = true := by rw [hDT]; exact beq_self_eq_true _
          by_cases hQ3 : Q < 3
          · have q2 : decide ((Q : Int) < 3) = true := decide_eq_true (by omega)
            have q2n : decide (Q < 3) = true := decide_eq_true (by omega)
            have HP := Lib.hid (show apartP x y W T i = yv by rw [HDef.out, if_pos ⟨hDT, hQ3⟩])
            clear hDT hQ3
            go_wp2
            refine RG.region_tail (aq := ?aqn) 9 (by kernel_rfl) (by kernel_rfl) (by kernel_rfl) (by kernel_rfl) ?_ ?_
            rotate_left
            · intro wq hEq
              have q0 := hEq.get cy
              have q3 := hEq.get m2
              have q4 := hEq.get y2
              have q5 := hEq.get cx
              have zq := hEq.size
              have z0 := World.block_lt_of_cell? _ _ q0
              have z5 := World.block_lt_of_cell? _ _ q5
              have z3 := World.block_lt_of_cell? _ _ q3
              have z4 := World.block_lt_of_cell? _ _ q4
              simp only at z0 z5 z3 z4
              simp only [List.take_succ_cons, List.take_zero]
              repeat (go_big_quiet_step (fail))
              refine wpQuiet_nil ?_
              exact rfl
            · intro wt hEt
              simp only [List.drop_succ_cons, List.drop_zero]
              have hOt := Lib.hid (owns_ext hO.out hEt)
              have hBt := Lib.hid (gb_trans hB.out (gb_ext hEt (some gm)))
              have t1 := hEt.get cx
              have t2 := hOt.out.frozenAt i
              clear hEt m0 m1 m2 mf0 mf1 mf2 y0 y1 y2 yf0 yf1 yf2 cx cf cy
              go_wp2
              exact ⟨⟨i + 1, by omega, by go_num, Lib.hid (gb_trans hBt.out (gb_set _ _ _ _)), Lib.hid (by
                have h := (hOt.out.stored i (.int .i64 yv)).1
                rw [rowI_set, ← HP.out, HS.out] at h
                rw [← HP.out]
                exact h)⟩, by simp [intOf]; omega⟩
          · have q2 : decide ((Q : Int) < 3) = false := decide_eq_false (by omega)
            have q2n : decide (Q < 3) = false := decide_eq_false (by omega)
            have q3 : ((Q : Int) == 3) = true := by rw [show Q = 3 by omega]; rfl
            have HP := Lib.hid (show apartP x y W T i = 128 by rw [HDef.out, if_neg (fun h => hQ3 h.2), if_pos (by omega)])
            go_wp2
            exact ⟨⟨i + 1, by omega, by go_num, Lib.hid (gb_trans hB.out (gb_set _ _ _ _)), Lib.hid (by
              have h := (hO.out.stored i (.int .i64 128)).1
              rw [rowI_set, ← HP.out, HS.out] at h
              rw [← HP.out]
              exact h)⟩, by simp [intOf]; omega⟩
        · have q1 : ((D : Int) == (T : Int)) = false := by simp; omega
          by_cases hQ3 : Q = 3
          · have q3 : ((Q : Int) == 3) = true := by rw [hQ3]; rfl
            have HP := Lib.hid (show apartP x y W T i = 128 by rw [HDef.out, if_neg (fun h => hDT h.1), if_pos hQ3])
            go_wp2
            exact ⟨⟨i + 1, by omega, by go_num, Lib.hid (gb_trans hB.out (gb_set _ _ _ _)), Lib.hid (by
              have h := (hO.out.stored i (.int .i64 128)).1
              rw [rowI_set, ← HP.out, HS.out] at h
              rw [← HP.out]
              exact h)⟩, by simp [intOf]; omega⟩
          · have q3 : ((Q : Int) == 3) = false := by simp; omega
            have HP := Lib.hid (HSm.out (by rw [HDef.out, if_neg (fun h => hDT h.1), if_neg hQ3]))
            clear hDT hQ3
            go_wp2
            exact ⟨⟨i + 1, by omega, by go_num, hB, Lib.hid (by rw [HP.out]; exact hO.out)⟩, by simp [intOf]; omega⟩
      · have ei : i = N := by omega
        have p1 : decide ((i : Int) < (N : Int)) = false := decide_eq_false (by omega)
        rw [ei] at hO
        clear ei
        have HI := Lib.hid (show IntsAt wr (.slice (some ⟨gm, 0, none⟩) N cm) (apartK x y W T N) from by
          have h9 := SlAt.of_owns hO.out
          show SlAt wr 1 _ (apartK x y W T N).length _
          rw [HKL.out]
          exact h9)
        have HE := Lib.hid (E8.out.gb hB.out hwg)
        have KW : Hid (∀ w', Calls Tryd.prog 48 #[] w' fun e w'' => e = .returned (.agg #[.int .i64 50, .int .i64 100]) ∧ Ext w' w'') := Lib.hid (fun w' => l_wide w')
        go_upto_region 17 with fail
        refine wp_region_quiet_below (by kernel_rfl) (by kernel_rfl) ?_
        repeat (go_big_quiet_step (first
          | (go_at_call 48; with_reducible exact Calls.ext_of (KW.out _))
          | (go_at_call 46; with_reducible exact Calls.ext_of (KL.out _ _ (IntsAt.ext HI.out (Ext.grow _ _ _))))))
        refine wpQuiet_nil ?_
        intro w19 hw'
        obtain ⟨pq, hw''⟩ := hw'
        have h19 := ext_of_regrown hw''
        clear hw'' pq
        go_wp2
        go_quiet (fail)
        go_wp2
        go_ret
        exact ⟨rfl, (HE.out.trans h19).drewN _⟩
end Go.Proofs.YtlnofbdhamingaaDoor
