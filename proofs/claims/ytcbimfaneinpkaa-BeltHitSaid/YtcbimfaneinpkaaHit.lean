/- The walk of 'BeltHit'. -/
import Derived.Test.YtcbimfaneinpkaaHitFns
import Derived.Test.YtcbimfaneinpkaaHitRound
import Derived.Test.YtcbimfaneinpkaaCut
import Derived.BigQuiet
import Derived.Deep.DeepCutAuto
import Derived.Deep.Cut
import Derived.Test.YtcbimfaneinpkaaTellReg
import Derived.Test.YtcbimfaneinpkaaCvReg
set_option linter.unusedVariables false
set_option linter.unusedSimpArgs false
namespace Go.Proofs.Ytcbimfaneinpkaa
open Go.RowKit Go.Sort

/-- the count at which the k-th part passes the sensor -/
def cntK (one two : Int) : Nat → Int
  | 0 => 0
  | 1 => one
  | 2 => one + two
  | _ => one + two + 1000
def verd (x : Nat) : Int := ((x % 3 : Nat) : Int) + 1
/-- the loop of the three parts -/
def HitState (b : Belt) (one two x0 x1 x2 : Nat) (cl : Int) (w : World) (B1 B3 : Nat) (k : Nat) (y : Value) (wr : World) : Prop :=
  ∃ (t : Track) (fs : List Fate) (v : Value), Ext w wr ∧ At wr [(B1 + 1, Obj.cells #[.int .u8 (one : Int), .int .u8 (two : Int), .int .u8 0] 5), (B1, Obj.cells #[.int .i64 t.belt.step, .int .i64 t.belt.slip, .int .i64 t.belt.gate, .int .i64 t.belt.length, .int .i64 t.count, .int .i64 t.next, v] 47),
      (B3, Obj.cells #[.int .i64 cl] 3), (w.heap.size, Obj.cells #[.int .i64 b.step, .int .i64 b.slip, .int .i64 b.gate, .int .i64 b.length] 23), (w.heap.size + 1, Obj.cells #[.int .u8 (x0 : Int), .int .u8 (x1 : Int), .int .u8 (x2 : Int)] 89)] ∧
    wr.ownsRow (B1 + 2) 63 4 v t.parts.length (seens t.parts) ∧ wr.ownsRow (B1 + 2) 93 3 y fs.length (fatesL fs) ∧ B1 + 2 ≤ wr.heap.size ∧ fs.length ≤ 32 * k ∧
    Sim b (hitS one two (verd x0) (verd x1) (verd x2)) ((hitS one two (verd x0) (verd x1) (verd x2)).take k) t fs ∧ t.next = k ∧ t.count = cntK one two k
def nK (one two : Int) : Nat → Int
  | 0 => one
  | 1 => two
  | _ => 1000
def vK (v0 v1 v2 : Int) : Nat → Int
  | 0 => v0
  | 1 => v1
  | _ => v2
theorem hit_pre {one two v0 v1 v2 : Int} (h1 : 1 ≤ one) (h2 : 1 ≤ two) {k : Nat} (hk : k < 3) :
    (hitS one two v0 v1 v2).take (k + 1) = (hitS one two v0 v1 v2).take k ++ [⟨k, cntK one two k, vK v0 v1 v2 k, false⟩] ∧ (∀ y ∈ (hitS one two v0 v1 v2).take k, y.at_ < cntK one two k) ∧
    (⟨k, cntK one two k, vK v0 v1 v2 k, false⟩ : Seen) ∈ hitS one two v0 v1 v2 ∧ (∀ y ∈ hitS one two v0 v1 v2, y ∈ (hitS one two v0 v1 v2).take (k + 1) ∨ cntK one two k + nK one two k ≤ y.at_) ∧ cntK one two k + nK one two k = cntK one two (k + 1) := by
  match k, hk with
  | 0, _ => refine ⟨rfl, ?_, ?_, ?_, ?_⟩ <;> simp [hitS, cntK, nK, vK] <;> omega
  | 1, _ => refine ⟨rfl, ?_, ?_, ?_, ?_⟩ <;> simp [hitS, cntK, nK, vK] <;> omega
  | 2, _ => refine ⟨rfl, ?_, ?_, ?_, ?_⟩ <;> simp [hitS, cntK, nK, vK] <;> omega
theorem At.grown {w w' : World} {o : Option Nat} (hg : w.grownBy w' o) : ∀ {l : List (Nat × Obj)}, (∀ p ∈ l, o ≠ some p.1) → At w l → At w' l
  | [], _, _ => trivial
  | (k, x) :: l, hl, h => ⟨(hg.block k (Array.getElem?_eq_some_iff.1 h.1).1 (fun e => hl (k, x) List.mem_cons_self e.symm)).trans h.1, At.grown hg (fun p hp => hl p (List.mem_cons_of_mem _ hp)) h.2⟩
theorem ext_grown9 {w w' wb : World} {o : Option Nat} (hg : w.grownBy w' o) (hne : ∀ g, o = some g → wb.heap.size ≤ g) (h : Ext wb w) : Ext wb w' := h.grown hg hne
theorem owns_grown9 {w w' : World} {o : Option Nat} {base e sz n : Nat} {v : Value} {cs : List Value} (hg : w.grownBy w' o) (hne : ∀ g, v.ownBlock = some g → o = some g → False) (h : w.ownsRow base e sz v n cs) : w'.ownsRow base e sz v n cs :=
  owns_at h fun g hx => hg.block g (owns_block h g hx).2 (fun e => hne g hx e.symm)
theorem bad_verd (x : Nat) : bad (verd x) = (x % 3 != 0) := by
  rw [Bool.eq_iff_iff]; simp [bad, verd]; omega
theorem SlAt.form0 {w : World} {sz n : Nat} {v : Value} {cs : List Value} (h : SlAt w sz v n cs) : ∃ ao cap, v = .slice ao n cap ∧ cap ≤ maxLen := by
  obtain ⟨-, ao, cap, hv, -, hm, -⟩ := h
  exact ⟨ao, cap, hv, hm⟩
theorem sim_none {b : Belt} (h : b.ok) (S : List Seen) : Sim b S [] ⟨b, 0, 0, []⟩ [] := by
  refine ⟨⟨h, ⟨by show (0 : Int) ≤ 0; omega, by show (0 : Int) ≤ 1099511627776; omega, by show (0 : Int) ≤ 0; omega, by show (0 : Int) ≤ 1099511627776; omega, by show 0 ≤ 32; omega⟩, fun i hi => absurd hi (Nat.not_lt_zero _)⟩, rfl, rfl, rfl, fun y hy => by simp at hy, List.Pairwise.nil⟩
set_option maxRecDepth 100000 in
set_option maxHeartbeats 16000000 in
theorem w9 (b : Belt) (one two x0 x1 x2 : Nat) (w : World) (h1 : one < 256) (h2 : two < 256) (y0 : x0 < 256) (y1 : x1 < 256) (y2 : x2 < 256) :
    Calls Try.prog 9 #[.agg #[.int .i64 b.step, .int .i64 b.slip, .int .i64 b.gate, .int .i64 b.length], .int .u8 (one : Int), .int .u8 (two : Int), .agg #[.int .u8 (x0 : Int), .int .u8 (x1 : Int), .int .u8 (x2 : Int)]] w fun e w' => e = .returned (.bool true) ∧ Ext w w' := by
  have KA := Lib.hid c_alive
  obtain ⟨⟨fi, fl, e⟩, hw⟩ : ∃ r, window b b.gate = r := ⟨_, rfl⟩
  obtain ⟨⟨cl, f⟩, hcl⟩ : ∃ r, clear b = r := ⟨_, rfl⟩
  have k17 := fun w => w17 b b.gate w
  have k21 := fun w => w21 b w
  rw [hw] at k17
  rw [hcl] at k21
  simp only at k17 k21
  have K17 := Lib.hid k17
  have K21 := Lib.hid k21
  have HW := Lib.hid hw
  have HC := Lib.hid hcl
  clear k17 k21 hw hcl
  obtain ⟨i1, hj, hy0, hy1, hy2⟩ := info_parts info93
  by_cases hgo : (e = 0 ∧ f = 0) ∧ fl ≤ 800 ∧ (one ≠ 0 ∧ two ≠ 0) ∧ one ≤ 200 ∧ two ≤ 200
  case neg =>
    go_enter Try.func9, Try.ntmps9
    go_wp2_with (first | (have _q := E2.out; go_at_call 21; (with_reducible refine (K21.out _).mono ?_); rintro E w3 ⟨rfl, hb3⟩; have A3 := Lib.hid (show At w3 [(w.heap.size, Obj.cells #[.int .i64 b.step, .int .i64 b.slip, .int .i64 b.gate, .int .i64 b.length] 23), (w.heap.size + 1, Obj.cells #[.int .u8 (x0 : Int), .int .u8 (x1 : Int), .int .u8 (x2 : Int)] 89)] from At.ext hb3 A2.out); have E3 := Lib.hid ((E2.out).trans hb3); obtain ⟨⟨c3_0_0, c3_0_1, c3_0_2, c3_0_3⟩, f3_0_0, f3_0_1, f3_0_2, f3_0_3⟩ := run_4 (At.at A3.out 0 rfl); have s3_0 : w.heap.size < w3.heap.size := At.lt A3.out 0 rfl; obtain ⟨⟨c3_1_0, c3_1_1, c3_1_2⟩, f3_1_0, f3_1_1, f3_1_2⟩ := run_3 (At.at A3.out 1 rfl); have s3_1 : w.heap.size + 1 < w3.heap.size := At.lt A3.out 1 rfl; (try clear c2_0_0 c2_0_1 c2_0_2 c2_0_3 f2_0_0 f2_0_1 f2_0_2 f2_0_3 c2_1_0 c2_1_1 c2_1_2 f2_1_0 f2_1_1 f2_1_2 s2_0 s2_1)) | (have _q := E1.out; go_at_call 17; (with_reducible refine (K17.out _).mono ?_); rintro E w2 ⟨rfl, hb2⟩; have A2 := Lib.hid (show At w2 [(w.heap.size, Obj.cells #[.int .i64 b.step, .int .i64 b.slip, .int .i64 b.gate, .int .i64 b.length] 23), (w.heap.size + 1, Obj.cells #[.int .u8 (x0 : Int), .int .u8 (x1 : Int), .int .u8 (x2 : Int)] 89)] from At.ext hb2 A1.out); have E2 := Lib.hid ((E1.out).trans hb2); obtain ⟨⟨c2_0_0, c2_0_1, c2_0_2, c2_0_3⟩, f2_0_0, f2_0_1, f2_0_2, f2_0_3⟩ := run_4 (At.at A2.out 0 rfl); have s2_0 : w.heap.size < w2.heap.size := At.lt A2.out 0 rfl; obtain ⟨⟨c2_1_0, c2_1_1, c2_1_2⟩, f2_1_0, f2_1_1, f2_1_2⟩ := run_3 (At.at A2.out 1 rfl); have s2_1 : w.heap.size + 1 < w2.heap.size := At.lt A2.out 1 rfl; (try clear c1_0_0 c1_0_1 c1_0_2 c1_0_3 f1_0_0 f1_0_1 f1_0_2 f1_0_3 c1_1_0 c1_1_1 c1_1_2 f1_1_0 f1_1_1 f1_1_2 s1_0 s1_1)) | (go_at_call 43; (with_reducible refine (KA.out _).mono ?_); rintro E w1 ⟨rfl, hb1⟩; have A1 := Lib.hid (show At w1 [(w.heap.size, Obj.cells #[.int .i64 b.step, .int .i64 b.slip, .int .i64 b.gate, .int .i64 b.length] 23), (w.heap.size + 1, Obj.cells #[.int .u8 (x0 : Int), .int .u8 (x1 : Int), .int .u8 (x2 : Int)] 89)] from At.ext hb1 (show At _ [(w.heap.size, Obj.cells #[.int .i64 b.step, .int .i64 b.slip, .int .i64 b.gate, .int .i64 b.length] 23), (w.heap.size + 1, Obj.cells #[.int .u8 (x0 : Int), .int .u8 (x1 : Int), .int .u8 (x2 : Int)] 89)] from ⟨(by repeat (first | (refine blk_at _ _ ?_; (first | rfl | (simp only [size_one]; done))) | refine (blk_past _ _ (by simp only [size_one]; omega)).trans ?_)), (by repeat (first | (refine blk_at _ _ ?_; (first | rfl | (simp only [size_one]; done))) | refine (blk_past _ _ (by simp only [size_one]; omega)).trans ?_)), trivial⟩)); have E1 := Lib.hid (((show Ext w _ from (by repeat (first | exact Ext.refl _ | assumption | refine Ext.alloc ?_ _ | refine Ext.drewN ?_ _ | refine ext_grow ?_ _ _ | refine Ext.setCell ?_ (by first | exact Nat.le_refl _ | omega | (simp; done) | (simp; omega)) _ | refine Ext.trans ?_ (by assumption))))).trans hb1); obtain ⟨⟨c1_0_0, c1_0_1, c1_0_2, c1_0_3⟩, f1_0_0, f1_0_1, f1_0_2, f1_0_3⟩ := run_4 (At.at A1.out 0 rfl); have s1_0 : w.heap.size < w1.heap.size := At.lt A1.out 0 rfl; obtain ⟨⟨c1_1_0, c1_1_1, c1_1_2⟩, f1_1_0, f1_1_1, f1_1_2⟩ := run_3 (At.at A1.out 1 rfl); have s1_1 : w.heap.size + 1 < w1.heap.size := At.lt A1.out 1 rfl))
    all_goals first
      | (go_ret; exact ⟨rfl, ((E3.out).alloc _)⟩)
      | (exfalso; simp at *; omega)
  obtain ⟨⟨rfl, rfl⟩, hfl, ⟨n1, n2⟩, n3, n4⟩ := hgo
  have hbo : b.ok := by
    have := HW.out
    unfold window at this
    split at this
    · assumption
    · injection this with _ h; injection h with _ h; cases h
  have hfin : final b = fl := by
    have := HW.out
    unfold window at this
    rw [if_pos hbo, if_pos ⟨hbo.2.2.2.2.1, hbo.2.2.2.2.2.1⟩] at this
    injection this with _ h; injection h with h _
  have hcl : (clear b).1 = cl := by rw [HC.out]
  have hfp := first_pos hbo
  have hff := first_final hbo
  have K29 := Lib.hid (fun w => w29 b w)
  rw [show newTrack b = (⟨b, 0, 0, []⟩, 0) from if_pos hbo] at K29
  have HO := Lib.hid (And.intro hbo (And.intro hfin hcl))
  have HGO := Lib.hid (show 1 ≤ (one : Int) ∧ 1 ≤ (two : Int) by omega)
  have t1 : decide ((800 : Int) < fl) = false := decide_eq_false (by omega)
  have t2 : ((one : Int) == 0) = false := by simp; omega
  have t3 : ((two : Int) == 0) = false := by simp; omega
  have t4 : decide ((200 : Int) < (one : Int)) = false := decide_eq_false (by omega)
  have t5 : decide ((200 : Int) < (two : Int)) = false := decide_eq_false (by omega)
  have t6 : decide (200 < one) = false := decide_eq_false (by omega)
  have t7 : decide (200 < two) = false := decide_eq_false (by omega)
  have t8 : (one == 0) = false := by simp; omega
  have t9 : (two == 0) = false := by simp; omega
  clear hbo hfin hcl hfp hff
  go_enter Try.func9, Try.ntmps9
  go_wp2_with (first | (have _q := E3.out; go_at_call 29; (with_reducible refine (K29.out _).mono ?_); rintro E w4 ⟨rfl, hb4⟩; have A4 := Lib.hid (show At w4 [(w3.heap.size, Obj.cells #[.int .i64 cl] 3), (w.heap.size, Obj.cells #[.int .i64 b.step, .int .i64 b.slip, .int .i64 b.gate, .int .i64 b.length] 23), (w.heap.size + 1, Obj.cells #[.int .u8 (x0 : Int), .int .u8 (x1 : Int), .int .u8 (x2 : Int)] 89)] from At.ext hb4 (show At _ [(w3.heap.size, Obj.cells #[.int .i64 cl] 3), (w.heap.size, Obj.cells #[.int .i64 b.step, .int .i64 b.slip, .int .i64 b.gate, .int .i64 b.length] 23), (w.heap.size + 1, Obj.cells #[.int .u8 (x0 : Int), .int .u8 (x1 : Int), .int .u8 (x2 : Int)] 89)] from ⟨one_first _ _, At.alloc A3.out _⟩)); have E4 := Lib.hid ((((E3.out).alloc _)).trans hb4); obtain ⟨c4_0_0, f4_0_0⟩ := run_1 (At.at A4.out 0 rfl); have s4_0 : w3.heap.size < w4.heap.size := At.lt A4.out 0 rfl; obtain ⟨⟨c4_1_0, c4_1_1, c4_1_2, c4_1_3⟩, f4_1_0, f4_1_1, f4_1_2, f4_1_3⟩ := run_4 (At.at A4.out 1 rfl); have s4_1 : w.heap.size < w4.heap.size := At.lt A4.out 1 rfl; obtain ⟨⟨c4_2_0, c4_2_1, c4_2_2⟩, f4_2_0, f4_2_1, f4_2_2⟩ := run_3 (At.at A4.out 2 rfl); have s4_2 : w.heap.size + 1 < w4.heap.size := At.lt A4.out 2 rfl; (try clear c3_0_0 c3_0_1 c3_0_2 c3_0_3 f3_0_0 f3_0_1 f3_0_2 f3_0_3 c3_1_0 c3_1_1 c3_1_2 f3_1_0 f3_1_1 f3_1_2)) | (have _q := E2.out; go_at_call 21; (with_reducible refine (K21.out _).mono ?_); rintro E w3 ⟨rfl, hb3⟩; have A3 := Lib.hid (show At w3 [(w.heap.size, Obj.cells #[.int .i64 b.step, .int .i64 b.slip, .int .i64 b.gate, .int .i64 b.length] 23), (w.heap.size + 1, Obj.cells #[.int .u8 (x0 : Int), .int .u8 (x1 : Int), .int .u8 (x2 : Int)] 89)] from At.ext hb3 A2.out); have E3 := Lib.hid ((E2.out).trans hb3); obtain ⟨⟨c3_0_0, c3_0_1, c3_0_2, c3_0_3⟩, f3_0_0, f3_0_1, f3_0_2, f3_0_3⟩ := run_4 (At.at A3.out 0 rfl); have s3_0 : w.heap.size < w3.heap.size := At.lt A3.out 0 rfl; obtain ⟨⟨c3_1_0, c3_1_1, c3_1_2⟩, f3_1_0, f3_1_1, f3_1_2⟩ := run_3 (At.at A3.out 1 rfl); have s3_1 : w.heap.size + 1 < w3.heap.size := At.lt A3.out 1 rfl; (try clear c2_0_0 c2_0_1 c2_0_2 c2_0_3 f2_0_0 f2_0_1 f2_0_2 f2_0_3 c2_1_0 c2_1_1 c2_1_2 f2_1_0 f2_1_1 f2_1_2 s2_0 s2_1)) | (have _q := E1.out; go_at_call 17; (with_reducible refine (K17.out _).mono ?_); rintro E w2 ⟨rfl, hb2⟩; have A2 := Lib.hid (show At w2 [(w.heap.size, Obj.cells #[.int .i64 b.step, .int .i64 b.slip, .int .i64 b.gate, .int .i64 b.length] 23), (w.heap.size + 1, Obj.cells #[.int .u8 (x0 : Int), .int .u8 (x1 : Int), .int .u8 (x2 : Int)] 89)] from At.ext hb2 A1.out); have E2 := Lib.hid ((E1.out).trans hb2); obtain ⟨⟨c2_0_0, c2_0_1, c2_0_2, c2_0_3⟩, f2_0_0, f2_0_1, f2_0_2, f2_0_3⟩ := run_4 (At.at A2.out 0 rfl); have s2_0 : w.heap.size < w2.heap.size := At.lt A2.out 0 rfl; obtain ⟨⟨c2_1_0, c2_1_1, c2_1_2⟩, f2_1_0, f2_1_1, f2_1_2⟩ := run_3 (At.at A2.out 1 rfl); have s2_1 : w.heap.size + 1 < w2.heap.size := At.lt A2.out 1 rfl; (try clear c1_0_0 c1_0_1 c1_0_2 c1_0_3 f1_0_0 f1_0_1 f1_0_2 f1_0_3 c1_1_0 c1_1_1 c1_1_2 f1_1_0 f1_1_1 f1_1_2 s1_0 s1_1)) | (go_at_call 43; (with_reducible refine (KA.out _).mono ?_); rintro E w1 ⟨rfl, hb1⟩; have A1 := Lib.hid (show At w1 [(w.heap.size, Obj.cells #[.int .i64 b.step, .int .i64 b.slip, .int .i64 b.gate, .int .i64 b.length] 23), (w.heap.size + 1, Obj.cells #[.int .u8 (x0 : Int), .int .u8 (x1 : Int), .int .u8 (x2 : Int)] 89)] from At.ext hb1 (show At _ [(w.heap.size, Obj.cells #[.int .i64 b.step, .int .i64 b.slip, .int .i64 b.gate, .int .i64 b.length] 23), (w.heap.size + 1, Obj.cells #[.int .u8 (x0 : Int), .int .u8 (x1 : Int), .int .u8 (x2 : Int)] 89)] from ⟨(by repeat (first | (refine blk_at _ _ ?_; (first | rfl | (simp only [size_one]; done))) | refine (blk_past _ _ (by simp only [size_one]; omega)).trans ?_)), (by repeat (first | (refine blk_at _ _ ?_; (first | rfl | (simp only [size_one]; done))) | refine (blk_past _ _ (by simp only [size_one]; omega)).trans ?_)), trivial⟩)); have E1 := Lib.hid (((show Ext w _ from (by repeat (first | exact Ext.refl _ | assumption | refine Ext.alloc ?_ _ | refine Ext.drewN ?_ _ | refine ext_grow ?_ _ _ | refine Ext.setCell ?_ (by first | exact Nat.le_refl _ | omega | (simp; done) | (simp; omega)) _ | refine Ext.trans ?_ (by assumption))))).trans hb1); obtain ⟨⟨c1_0_0, c1_0_1, c1_0_2, c1_0_3⟩, f1_0_0, f1_0_1, f1_0_2, f1_0_3⟩ := run_4 (At.at A1.out 0 rfl); have s1_0 : w.heap.size < w1.heap.size := At.lt A1.out 0 rfl; obtain ⟨⟨c1_1_0, c1_1_1, c1_1_2⟩, f1_1_0, f1_1_1, f1_1_2⟩ := run_3 (At.at A1.out 1 rfl); have s1_1 : w.heap.size + 1 < w1.heap.size := At.lt A1.out 1 rfl))
  have AL := Lib.hid (show At _ [(w4.heap.size + 1, Obj.cells #[.int .u8 (one : Int), .int .u8 (two : Int), .int .u8 0] 5), (w4.heap.size, Obj.cells #[.int .i64 b.step, .int .i64 b.slip, .int .i64 b.gate, .int .i64 b.length, .int .i64 0, .int .i64 0, .slice none 0 0] 47), (w3.heap.size, Obj.cells #[.int .i64 cl] 3), (w.heap.size, Obj.cells #[.int .i64 b.step, .int .i64 b.slip, .int .i64 b.gate, .int .i64 b.length] 23), (w.heap.size + 1, Obj.cells #[.int .u8 (x0 : Int), .int .u8 (x1 : Int), .int .u8 (x2 : Int)] 89)] from ⟨blk_at _ _ (by simp), At.alloc (show At _ [(w4.heap.size, Obj.cells #[.int .i64 b.step, .int .i64 b.slip, .int .i64 b.gate, .int .i64 b.length, .int .i64 0, .int .i64 0, .slice none 0 0] 47), (w3.heap.size, Obj.cells #[.int .i64 cl] 3), (w.heap.size, Obj.cells #[.int .i64 b.step, .int .i64 b.slip, .int .i64 b.gate, .int .i64 b.length] 23), (w.heap.size + 1, Obj.cells #[.int .u8 (x0 : Int), .int .u8 (x1 : Int), .int .u8 (x2 : Int)] 89)] from ⟨one_first _ _, At.alloc A4.out _⟩) _⟩)
  have EL := Lib.hid (show Ext w ((w4.alloc (Obj.cells #[.int .i64 b.step, .int .i64 b.slip, .int .i64 b.gate, .int .i64 b.length, .int .i64 0, .int .i64 0, .slice none 0 0] 47)).alloc (Obj.cells #[.int .u8 (one : Int), .int .u8 (two : Int), .int .u8 0] 5)) from (((E4.out).alloc _).alloc _))
  obtain ⟨wa, hwa⟩ : ∃ wa, ((w4.alloc (Obj.cells #[.int .i64 b.step, .int .i64 b.slip, .int .i64 b.gate, .int .i64 b.length, .int .i64 0, .int .i64 0, .slice none 0 0] 47)).alloc (Obj.cells #[.int .u8 (one : Int), .int .u8 (two : Int), .int .u8 0] 5)) = wa := ⟨_, rfl⟩
  obtain ⟨B1, hB1⟩ : ∃ B1, w4.heap.size = B1 := ⟨_, rfl⟩
  obtain ⟨B3, hB3⟩ : ∃ B3, w3.heap.size = B3 := ⟨_, rfl⟩
  have zz := At.lt AL.out 0 rfl
  have z3 := At.lt A4.out 0 rfl
  have z5 := At.lt A4.out 2 rfl
  have zE := E3.out.size
  have hsz : wa.heap.size = B1 + 2 := by rw [← hwa, ← hB1]; simp
  rw [hwa] at AL EL zz ⊢
  rw [hB3] at AL z3 zE
  rw [hB1] at AL zz z3 z5
  rw [hB1]
  try rw [hB3]
  clear hwa hB1 hB3
  go_loopw [17, 83] (fun y i wr => ∃ k : Nat, k ≤ 3 ∧ i = .int .i64 (k : Int) ∧ Hid (HitState b one two x0 x1 x2 cl w B1 B3 k y wr)) (fun _ i _ => 3 - (intOf i).toNat)
  case atStart => exact ⟨0, by omega, rfl, Lib.hid ⟨⟨b, 0, 0, []⟩, [], .slice none 0 0, EL.out, AL.out, ⟨rfl, .inl ⟨rfl, rfl⟩⟩, ⟨rfl, .inl ⟨rfl, rfl⟩⟩, by omega, by simp, sim_none HO.out.1 _, rfl, rfl⟩⟩
  case round =>
    obtain ⟨k, hk, rfl, hS⟩ := hrel
    obtain ⟨t, fs, v, hE, hA, hv, hf, hsz, hfl, hsim, hnx, hct⟩ := hS.out
    by_cases hkl : k < 3
    · obtain ⟨gk, xk, hg, hx, hg2, hx2, hxk, hgn, hnk⟩ : ∃ gk xk : Nat, wr.cell? ⟨B1 + 1, k, none⟩ = some (.int .u8 (gk : Int)) ∧ wr.cell? ⟨w.heap.size + 1, k, none⟩ = some (.int .u8 (xk : Int)) ∧ gk < 256 ∧ xk < 256 ∧ verd xk = vK (verd x0) (verd x1) (verd x2) k ∧ ((nK one two k = (gk : Int) ∧ gk ≠ 0) ∨ (gk = 0 ∧ nK one two k = 1000)) ∧ 1 ≤ nK one two k ∧ nK one two k ≤ 1000 := by
        obtain ⟨⟨g0, g1, g2⟩, -⟩ := run_3 (At.at hA 0 rfl)
        obtain ⟨⟨e0, e1, e2⟩, -⟩ := run_3 (At.at hA 4 rfl)
        match k, hkl with
        | 0, _ => exact ⟨one, x0, g0, e0, h1, y0, rfl, .inl ⟨rfl, by omega⟩, by show (1 : Int) ≤ (one : Int) ∧ (one : Int) ≤ 1000; omega⟩
        | 1, _ => exact ⟨two, x1, g1, e1, h2, y1, rfl, .inl ⟨rfl, by omega⟩, by show (1 : Int) ≤ (two : Int) ∧ (two : Int) ≤ 1000; omega⟩
        | 2, _ => exact ⟨0, x2, g2, e2, by omega, y2, rfl, .inr ⟨rfl, rfl⟩, by show (1 : Int) ≤ 1000 ∧ (1000 : Int) ≤ 1000; omega⟩
      have hpre := hit_pre (one := one) (two := two) (v0 := verd x0) (v1 := verd x1) (v2 := verd x2) HGO.out.1 HGO.out.2 hkl
      rw [← hxk] at hpre
      obtain ⟨p1, p2, p3, p4, p5⟩ := hpre
      have hcu : cntK one two k ≤ 2000 := by
        match k, hkl with
        | 0, _ => show (0 : Int) ≤ 2000; omega
        | 1, _ => show (one : Int) ≤ 2000; omega
        | 2, _ => show (one : Int) + two ≤ 2000; omega
      have hvk : 1 ≤ verd xk ∧ verd xk ≤ 3 := by unfold verd; omega
      obtain ⟨e1, e2, Z, l, e3, e4, e5, e6⟩ := hit_round (v := verd xk) (n := nK one two k) hsim (by rw [List.length_take]; omega) (by omega) (fun y hy => by rw [hct]; exact p2 y hy) hvk hnk (by rw [hct]; omega) (by rw [hnx, hct]; exact p3) (fun y hy => by rw [hnx, hct, ← p1]; exact p4 y hy)
      rw [hnx, hct, ← p1] at e4
      rw [hct, p5] at e6
      rw [hnx] at e5
      have htl : t.parts.length ≤ 32 := hsim.ok.2.1.2.2.2.2
      have hlz := adv_lens e3
      obtain ⟨m, hmm⟩ : ∃ m, xk % 3 = m := ⟨_, rfl⟩
      have hm : (xk : Int).tmod 3 = (m : Int) := by rw [Int.tmod_eq_emod_of_nonneg (Int.natCast_nonneg xk)]; omega
      have hm3 : m < 3 := by omega
      have hvm : verd xk = (m : Int) + 1 := by unfold verd; rw [hmm]
      rw [hvm] at e2 e3
      have hXl : (sensed t).parts.length = t.parts.length + 1 := by simp [sensed]
      have hUl : (told (sensed t) t.parts.length ((m : Int) + 1)).parts.length = t.parts.length + 1 := by rw [told_len]; exact hXl
      obtain ⟨X, hX⟩ : ∃ X, sensed t = X := ⟨_, rfl⟩
      rw [hX] at e1 e2 e3 hXl hUl
      obtain ⟨U, hU⟩ : ∃ U, told X t.parts.length ((m : Int) + 1) = U := ⟨_, rfl⟩
      rw [hU] at e2 e3 hUl
      have K31 := Lib.hid (fun (w : World) (v : Value) (hv : SeensAt w v t.parts) => (sense_at hv (by omega) e1 : Calls Try.prog 31 #[trackVal t v] w (OwnSense (X, t.next, 0) w)))
      have K33 := Lib.hid (fun (w : World) (v : Value) (hv : SeensAt w v X.parts) => (tell_at hv (by omega) e2 : Calls Try.prog 33 #[trackVal X v, .int .i64 t.next, .int .u8 ((m : Int) + 1)] w (OwnTell (U, 0) w)))
      have K40 := Lib.hid (fun (w : World) (v : Value) (hv : SeensAt w v U.parts) => (adv_at hv (by omega) e3 : Calls Try.prog 40 #[trackVal U v, .int .i64 (nK one two k)] w (OwnAdv (Z, l, 0) w)))
      have hX33 : X.parts.length ≤ 33 := by omega
      have hU33 : U.parts.length ≤ 33 := by omega
      have HE4 := Lib.hid (And.intro e4 (And.intro e5 e6))
      obtain ⟨nk, hnk9⟩ : ∃ nk, nK one two k = nk := ⟨_, rfl⟩
      rw [hnk9] at K40 hgn hnk
      obtain ⟨hl1, hl2⟩ := hlz
      have hv := Lib.hid hv
      have hf := Lib.hid hf
      have hE := Lib.hid hE
      have hA := Lib.hid hA
      have HN := Lib.hid hnx
      obtain ⟨sa, sc, hvp, -⟩ := SeensAt.form (SlAt.of_owns hv.out : SeensAt wr v t.parts)
      subst hvp
      have ki : (k : Int) < 3 := by omega
      clear hXl hUl e1 e2 e3 e4 e5 e6 p1 p2 p3 p4 p5 hcu hvk hvm hmm hX hU hnk9 hsim hct hnx hxk hS
      obtain ⟨⟨c10_0_0, c10_0_1, c10_0_2⟩, f10_0_0, f10_0_1, f10_0_2⟩ := run_3 (At.at hA.out 0 rfl)
      have s10_0 : B1 + 1 < wr.heap.size := At.lt hA.out 0 rfl
      obtain ⟨⟨c10_1_0, c10_1_1, c10_1_2, c10_1_3, c10_1_4, c10_1_5, c10_1_6⟩, f10_1_0, f10_1_1, f10_1_2, f10_1_3, f10_1_4, f10_1_5, f10_1_6⟩ := run_7 (At.at hA.out 1 rfl)
      have s10_1 : B1 < wr.heap.size := At.lt hA.out 1 rfl
      obtain ⟨c10_2_0, f10_2_0⟩ := run_1 (At.at hA.out 2 rfl)
      have s10_2 : B3 < wr.heap.size := At.lt hA.out 2 rfl
      obtain ⟨⟨c10_3_0, c10_3_1, c10_3_2, c10_3_3⟩, f10_3_0, f10_3_1, f10_3_2, f10_3_3⟩ := run_4 (At.at hA.out 3 rfl)
      have s10_3 : w.heap.size < wr.heap.size := At.lt hA.out 3 rfl
      obtain ⟨⟨c10_4_0, c10_4_1, c10_4_2⟩, f10_4_0, f10_4_1, f10_4_2⟩ := run_3 (At.at hA.out 4 rfl)
      have s10_4 : w.heap.size + 1 < wr.heap.size := At.lt hA.out 4 rfl
      have RT0 := Lib.hid (show SeensAt wr (.slice sa t.parts.length sc) t.parts from SlAt.of_owns hv.out)
      go_wp2_with (first | (go_at_call 31; (with_reducible refine (K31.out _ _ RT0.out).mono ?_); rintro E w11 ⟨v11, rfl, o11, hb11⟩; have A11 := Lib.hid (show At w11 [(B1 + 1, Obj.cells #[.int .u8 (one : Int), .int .u8 (two : Int), .int .u8 0] 5), (B1, Obj.cells #[.int .i64 t.belt.step, .int .i64 t.belt.slip, .int .i64 t.belt.gate, .int .i64 t.belt.length, .int .i64 t.count, .int .i64 t.next, (.slice sa t.parts.length sc)] 47), (B3, Obj.cells #[.int .i64 cl] 3), (w.heap.size, Obj.cells #[.int .i64 b.step, .int .i64 b.slip, .int .i64 b.gate, .int .i64 b.length] 23), (w.heap.size + 1, Obj.cells #[.int .u8 (x0 : Int), .int .u8 (x1 : Int), .int .u8 (x2 : Int)] 89)] from At.ext hb11 hA.out); have E11 := Lib.hid ((hE.out).trans hb11); obtain ⟨⟨c11_0_0, c11_0_1, c11_0_2⟩, f11_0_0, f11_0_1, f11_0_2⟩ := run_3 (At.at A11.out 0 rfl); have s11_0 : B1 + 1 < w11.heap.size := At.lt A11.out 0 rfl; obtain ⟨⟨c11_1_0, c11_1_1, c11_1_2, c11_1_3, c11_1_4, c11_1_5, c11_1_6⟩, f11_1_0, f11_1_1, f11_1_2, f11_1_3, f11_1_4, f11_1_5, f11_1_6⟩ := run_7 (At.at A11.out 1 rfl); have s11_1 : B1 < w11.heap.size := At.lt A11.out 1 rfl; obtain ⟨c11_2_0, f11_2_0⟩ := run_1 (At.at A11.out 2 rfl); have s11_2 : B3 < w11.heap.size := At.lt A11.out 2 rfl; obtain ⟨⟨c11_3_0, c11_3_1, c11_3_2, c11_3_3⟩, f11_3_0, f11_3_1, f11_3_2, f11_3_3⟩ := run_4 (At.at A11.out 3 rfl); have s11_3 : w.heap.size < w11.heap.size := At.lt A11.out 3 rfl; obtain ⟨⟨c11_4_0, c11_4_1, c11_4_2⟩, f11_4_0, f11_4_1, f11_4_2⟩ := run_3 (At.at A11.out 4 rfl); have s11_4 : w.heap.size + 1 < w11.heap.size := At.lt A11.out 4 rfl; (try clear c10_0_0 c10_0_1 c10_0_2 f10_0_0 f10_0_1 f10_0_2 c10_1_0 c10_1_1 c10_1_2 c10_1_3 c10_1_4 c10_1_5 c10_1_6 f10_1_0 f10_1_1 f10_1_2 f10_1_3 f10_1_4 f10_1_5 f10_1_6 c10_2_0 f10_2_0 c10_3_0 c10_3_1 c10_3_2 c10_3_3 f10_3_0 f10_3_1 f10_3_2 f10_3_3 c10_4_0 c10_4_1 c10_4_2 f10_4_0 f10_4_1 f10_4_2 s10_0 s10_1 s10_2 s10_3 s10_4); have RT_11 := Lib.hid (SeensAt.ext (RT0.out) hb11); have HF_11 := Lib.hid (owns_ext (hf.out) hb11); obtain ⟨-, sx, zx, hv11, -⟩ := SlAt.of_owns o11; subst hv11; have RX := Lib.hid (seens_own o11 rfl); clear o11))
      have AT := Lib.hid (show At _ [(w11.heap.size, Obj.cells #[.int .i64 X.belt.step, .int .i64 X.belt.slip, .int .i64 X.belt.gate, .int .i64 X.belt.length, .int .i64 X.count, .int .i64 X.next, (.slice sx X.parts.length zx)] 47), (B1 + 1, Obj.cells #[.int .u8 (one : Int), .int .u8 (two : Int), .int .u8 0] 5), (B1, Obj.cells #[.int .i64 t.belt.step, .int .i64 t.belt.slip, .int .i64 t.belt.gate, .int .i64 t.belt.length, .int .i64 t.count, .int .i64 t.next, (.slice sa t.parts.length sc)] 47), (B3, Obj.cells #[.int .i64 cl] 3), (w.heap.size, Obj.cells #[.int .i64 b.step, .int .i64 b.slip, .int .i64 b.gate, .int .i64 b.length] 23), (w.heap.size + 1, Obj.cells #[.int .u8 (x0 : Int), .int .u8 (x1 : Int), .int .u8 (x2 : Int)] 89)] from ⟨one_first _ _, At.alloc A11.out _⟩)
      have ET := Lib.hid (show Ext w (w11.alloc (Obj.cells #[.int .i64 X.belt.step, .int .i64 X.belt.slip, .int .i64 X.belt.gate, .int .i64 X.belt.length, .int .i64 X.count, .int .i64 X.next, (.slice sx X.parts.length zx)] 47)) from ((E11.out).alloc _))
      have RXT := Lib.hid (show SeensAt (w11.alloc (Obj.cells #[.int .i64 X.belt.step, .int .i64 X.belt.slip, .int .i64 X.belt.gate, .int .i64 X.belt.length, .int .i64 X.count, .int .i64 X.next, (.slice sx X.parts.length zx)] 47)) (.slice sx X.parts.length zx) X.parts from (SeensAt.ext (RX.out) ((Ext.refl _).alloc _)))
      have HFT := Lib.hid (show World.ownsRow (w11.alloc (Obj.cells #[.int .i64 X.belt.step, .int .i64 X.belt.slip, .int .i64 X.belt.gate, .int .i64 X.belt.length, .int .i64 X.count, .int .i64 X.next, (.slice sx X.parts.length zx)] 47)) (B1 + 2) 93 3 u17 fs.length (fatesL fs) from (owns_ext (HF_11.out) ((Ext.refl _).alloc _)))
      have ezT := hb11.size
      have hxT := (hb11.alloc (Obj.cells #[.int .i64 X.belt.step, .int .i64 X.belt.slip, .int .i64 X.belt.gate, .int .i64 X.belt.length, .int .i64 X.count, .int .i64 X.next, (.slice sx X.parts.length zx)] 47)).get hx
      obtain ⟨wT, hwT⟩ : ∃ wT, w11.alloc (Obj.cells #[.int .i64 X.belt.step, .int .i64 X.belt.slip, .int .i64 X.belt.gate, .int .i64 X.belt.length, .int .i64 X.count, .int .i64 X.next, (.slice sx X.parts.length zx)] 47) = wT := ⟨_, rfl⟩
      obtain ⟨BX, hBX⟩ : ∃ BX, w11.heap.size = BX := ⟨_, rfl⟩
      rw [hwT] at AT ET RXT HFT hxT ⊢
      rw [hBX] at AT ezT s11_0 s11_1 s11_2 s11_3 s11_4 ⊢
      have szT : BX < wT.heap.size := At.lt AT.out 0 rfl
      clear hwT hBX A11 E11 RT_11 HF_11 RX hb11
      obtain ⟨⟨c12_0_0, c12_0_1, c12_0_2, c12_0_3, c12_0_4, c12_0_5, c12_0_6⟩, f12_0_0, f12_0_1, f12_0_2, f12_0_3, f12_0_4, f12_0_5, f12_0_6⟩ := run_7 (At.at AT.out 0 rfl)
      have s12_0 : BX < wT.heap.size := At.lt AT.out 0 rfl
      obtain ⟨⟨c12_1_0, c12_1_1, c12_1_2⟩, f12_1_0, f12_1_1, f12_1_2⟩ := run_3 (At.at AT.out 1 rfl)
      have s12_1 : B1 + 1 < wT.heap.size := At.lt AT.out 1 rfl
      obtain ⟨⟨c12_2_0, c12_2_1, c12_2_2, c12_2_3, c12_2_4, c12_2_5, c12_2_6⟩, f12_2_0, f12_2_1, f12_2_2, f12_2_3, f12_2_4, f12_2_5, f12_2_6⟩ := run_7 (At.at AT.out 2 rfl)
      have s12_2 : B1 < wT.heap.size := At.lt AT.out 2 rfl
      obtain ⟨c12_3_0, f12_3_0⟩ := run_1 (At.at AT.out 3 rfl)
      have s12_3 : B3 < wT.heap.size := At.lt AT.out 3 rfl
      obtain ⟨⟨c12_4_0, c12_4_1, c12_4_2, c12_4_3⟩, f12_4_0, f12_4_1, f12_4_2, f12_4_3⟩ := run_4 (At.at AT.out 4 rfl)
      have s12_4 : w.heap.size < wT.heap.size := At.lt AT.out 4 rfl
      obtain ⟨⟨c12_5_0, c12_5_1, c12_5_2⟩, f12_5_0, f12_5_1, f12_5_2⟩ := run_3 (At.at AT.out 5 rfl)
      have s12_5 : w.heap.size + 1 < wT.heap.size := At.lt AT.out 5 rfl
      obtain ⟨gs, hgs⟩ : ∃ gs : List (Value → World → Prop), gs = [fun (v : Value) (_ : World) => v = (trackVal X (.slice sx X.parts.length zx)), fun (v : Value) (_ : World) => v = .int .i64 t.next, fun (v : Value) (_ : World) => v = .int .i64 (k : Int), fun (v : Value) (_ : World) => v = .pointer (some ⟨w.heap.size + 1, k, none⟩), fun (v : Value) (_ : World) => v = .int .u8 (xk : Int), fun (v : Value) (_ : World) => v = .int .u8 (m : Int), fun (v : Value) (_ : World) => v = .int .u8 ((m : Int) + 1), (fun (v : Value) (w : World) => ∃ v', v = .tuple #[trackVal U v', .int .i64 0] ∧ w.ownsRow (wT.heap.size) 63 4 v' U.parts.length (seens U.parts)), (fun (v : Value) (w : World) => ∃ v', v = .tuple #[trackVal U v', .int .i64 0] ∧ w.ownsRow (wT.heap.size) 63 4 v' U.parts.length (seens U.parts)), (fun (v : Value) (w : World) => ∃ v', v = trackVal U v' ∧ w.ownsRow (wT.heap.size) 63 4 v' U.parts.length (seens U.parts)), fun (v : Value) (_ : World) => v = .int .i64 0, (fun (v : Value) (w : World) => ∃ b, v = .pointer (some ⟨b, 0, none⟩) ∧ wT.heap.size ≤ b ∧ w.heap[b]? = some (Obj.cells #[.int .i64 0, .int .i64 0, .int .i64 0, .int .i64 0, .int .i64 0, .int .i64 0, .slice none 0 0] 47)), (fun (v : Value) (w : World) => ∃ b s' z', v = .pointer (some ⟨b, 0, none⟩) ∧ wT.heap.size ≤ b ∧ w.heap[b]? = some (Obj.cells #[.int .i64 U.belt.step, .int .i64 U.belt.slip, .int .i64 U.belt.gate, .int .i64 U.belt.length, .int .i64 U.count, .int .i64 U.next, (.slice s' U.parts.length z')] 47) ∧ w.ownsRow (wT.heap.size) 63 4 (.slice s' U.parts.length z') U.parts.length (seens U.parts))] := ⟨_, rfl⟩
      have hst := RG.stab_of (Gs := gs) (by
        intro g hg v w1 w2 h hb
        rw [hgs] at hg
        simp only [List.mem_cons, List.not_mem_nil, or_false] at hg
        rcases hg with rfl | rfl | rfl | rfl | rfl | rfl | rfl | rfl | rfl | rfl | rfl | rfl | rfl
        · exact h
        · exact h
        · exact h
        · exact h
        · exact h
        · exact h
        · exact h
        · obtain ⟨v', h1, h2⟩ := h; exact ⟨v', h1, owns_ext h2 hb⟩
        · obtain ⟨v', h1, h2⟩ := h; exact ⟨v', h1, owns_ext h2 hb⟩
        · obtain ⟨v', h1, h2⟩ := h; exact ⟨v', h1, owns_ext h2 hb⟩
        · exact h
        · obtain ⟨b', h1, h2, h3⟩ := h; exact ⟨b', h1, h2, hb.blk h3⟩
        · obtain ⟨b', s', z', h1, h2, h3, h4⟩ := h; exact ⟨b', s', z', h1, h2, hb.blk h3, owns_ext h4 hb⟩)
      subst hgs
      refine RG.wp_rgn ([fun (v : Value) (_ : World) => v = (trackVal X (.slice sx X.parts.length zx)), fun (v : Value) (_ : World) => v = .int .i64 t.next, fun (v : Value) (_ : World) => v = .int .i64 (k : Int), fun (v : Value) (_ : World) => v = .pointer (some ⟨w.heap.size + 1, k, none⟩), fun (v : Value) (_ : World) => v = .int .u8 (xk : Int), fun (v : Value) (_ : World) => v = .int .u8 (m : Int), fun (v : Value) (_ : World) => v = .int .u8 ((m : Int) + 1), (fun (v : Value) (w : World) => ∃ v', v = .tuple #[trackVal U v', .int .i64 0] ∧ w.ownsRow (wT.heap.size) 63 4 v' U.parts.length (seens U.parts)), (fun (v : Value) (w : World) => ∃ v', v = .tuple #[trackVal U v', .int .i64 0] ∧ w.ownsRow (wT.heap.size) 63 4 v' U.parts.length (seens U.parts)), (fun (v : Value) (w : World) => ∃ v', v = trackVal U v' ∧ w.ownsRow (wT.heap.size) 63 4 v' U.parts.length (seens U.parts)), fun (v : Value) (_ : World) => v = .int .i64 0, (fun (v : Value) (w : World) => ∃ b, v = .pointer (some ⟨b, 0, none⟩) ∧ wT.heap.size ≤ b ∧ w.heap[b]? = some (Obj.cells #[.int .i64 0, .int .i64 0, .int .i64 0, .int .i64 0, .int .i64 0, .int .i64 0, .slice none 0 0] 47)), (fun (v : Value) (w : World) => ∃ b s' z', v = .pointer (some ⟨b, 0, none⟩) ∧ wT.heap.size ≤ b ∧ w.heap[b]? = some (Obj.cells #[.int .i64 U.belt.step, .int .i64 U.belt.slip, .int .i64 U.belt.gate, .int .i64 U.belt.length, .int .i64 U.count, .int .i64 U.next, (.slice s' U.parts.length z')] 47) ∧ w.ownsRow (wT.heap.size) 63 4 (.slice s' U.parts.length z') U.parts.length (seens U.parts))]) (fun i => if i = 12 then [11] else []) (by kernel_rfl) (by kernel_rfl) (by kernel_rfl) ?_ ?_
      · simp only [List.length_cons, List.length_nil, List.take_succ_cons, List.take_zero, RG.StepsN, and_true, Nat.reduceAdd]
        refine ⟨?_, ?_, ?_, ?_, ?_, ?_, ?_, ?_, ?_, ?_, ?_, ?_, ?_⟩
        · refine RG.stepN rfl (RG.st_run rfl (fun a wx hw hr => ⟨_, wx, ?_, Ext.refl _, rfl⟩) hst)
          have p0 := RG.read_out (t := 20) hr (by kernel_rfl) (by kernel_rfl)
          have r0 : a.tmps[20]?.getD undef = .pointer (some ⟨BX, 0, none⟩) := (Array.getD_eq_getD_getElem? ..).symm.trans p0
          have q0 := hw.get c12_0_0
          have q1 := hw.get c12_0_1
          have q2 := hw.get c12_0_2
          have q3 := hw.get c12_0_3
          have q4 := hw.get c12_0_4
          have q5 := hw.get c12_0_5
          have q6 := hw.get c12_0_6
          clear hr hst p0
          simp [execOp, go_sem, r0, q0, q1, q2, q3, q4, q5, q6, Try.underlying47]
        · exact RG.stepN rfl (RG.st_move rfl rfl (by kernel_rfl) (fun _ _ => rfl) hst)
        · exact RG.stepN rfl (RG.st_move rfl rfl (by kernel_rfl) (fun _ _ => rfl) hst)
        · refine RG.stepN rfl (RG.st_run rfl (fun a wx hw hr => ⟨_, wx, ?_, Ext.refl _, rfl⟩) hst)
          have p0 := RG.read_out (t := 7) hr (by kernel_rfl) (by kernel_rfl)
          have r0 : a.tmps[7]?.getD undef = .pointer (some ⟨w.heap.size + 1, 0, none⟩) := (Array.getD_eq_getD_getElem? ..).symm.trans p0
          have p1 := RG.read_in (t := 97) (j := 2) hr (by kernel_rfl) (by kernel_rfl)
          have r1 : a.tmps[97]?.getD undef = .int .i64 (k : Int) := (Array.getD_eq_getD_getElem? ..).symm.trans p1
          have q0 : (k : Int) < 3 := by omega
          clear hr hst p0 p1
          simp [execOp, go_sem, r0, r1, q0, Try.underlying89]
        · refine RG.stepN rfl (RG.st_run rfl (fun a wx hw hr => ⟨_, wx, ?_, Ext.refl _, rfl⟩) hst)
          have p0 := RG.read_in (t := 98) (j := 3) hr (by kernel_rfl) (by kernel_rfl)
          have r0 : a.tmps[98]?.getD undef = .pointer (some ⟨w.heap.size + 1, k, none⟩) := (Array.getD_eq_getD_getElem? ..).symm.trans p0
          have q0 := hw.get hxT
          clear hr hst p0
          simp [execOp, go_sem, r0, q0]
        · refine RG.stepN rfl (RG.st_run rfl (fun a wx hw hr => ⟨_, wx, ?_, Ext.refl _, rfl⟩) hst)
          have p0 := RG.read_in (t := 99) (j := 4) hr (by kernel_rfl) (by kernel_rfl)
          have r0 : a.tmps[99]?.getD undef = .int .u8 (xk : Int) := (Array.getD_eq_getD_getElem? ..).symm.trans p0
          clear hr hst p0
          simp [execOp, go_sem, r0, hm]
        · refine RG.stepN rfl (RG.st_run rfl (fun a wx hw hr => ⟨_, wx, ?_, Ext.refl _, rfl⟩) hst)
          have p0 := RG.read_in (t := 100) (j := 5) hr (by kernel_rfl) (by kernel_rfl)
          have r0 : a.tmps[100]?.getD undef = .int .u8 (m : Int) := (Array.getD_eq_getD_getElem? ..).symm.trans p0
          clear hr hst p0
          simp [execOp, go_sem, r0]
          simp [IntKind.wrap, IntKind.bits, IntKind.signed]
          omega
        · refine RG.stepN rfl (st_call3 rfl 33 #[47, 3, 5] rfl Try.func33 (by kernel_rfl) (by kernel_rfl) hst (fun a wx hw hr => ?_))
          have p0 : a.tmps.getD 95 undef = (trackVal X (.slice sx X.parts.length zx)) := RG.read_in (t := 95) (j := 0) hr (by kernel_rfl) (by kernel_rfl)
          have p1 : a.tmps.getD 96 undef = .int .i64 t.next := RG.read_in (t := 96) (j := 1) hr (by kernel_rfl) (by kernel_rfl)
          have p2 : a.tmps.getD 101 undef = .int .u8 ((m : Int) + 1) := RG.read_in (t := 101) (j := 6) hr (by kernel_rfl) (by kernel_rfl)
          rw [p0, p1, p2]
          refine (K33.out wx _ (SeensAt.ext RXT.out hw)).mono ?_
          rintro e w' ⟨v', rfl, ho, hb⟩
          exact ⟨_, rfl, hb, v', rfl, owns_base ho hw.size⟩
        · refine RG.stepN rfl (RG.st_run rfl (fun a wx hw hr => ?_) hst)
          obtain ⟨v', p0, ho⟩ := RG.read_in (t := 102) (j := 7) hr (by kernel_rfl) (by kernel_rfl)
          have r0 : a.tmps[102]?.getD undef = _ := (Array.getD_eq_getD_getElem? ..).symm.trans p0
          refine ⟨_, wx, ?_, Ext.refl _, v', rfl, ho⟩
          clear hr hst p0
          simp [execOp, go_sem, r0]
        · refine RG.stepN rfl (RG.st_run rfl (fun a wx hw hr => ?_) hst)
          obtain ⟨v', p0, ho⟩ := RG.read_in (t := 94) (j := 8) hr (by kernel_rfl) (by kernel_rfl)
          have r0 : a.tmps[94]?.getD undef = _ := (Array.getD_eq_getD_getElem? ..).symm.trans p0
          refine ⟨_, wx, ?_, Ext.refl _, v', rfl, ho⟩
          clear hr hst p0
          simp [execOp, go_sem, r0]
        · refine RG.stepN rfl (RG.st_run rfl (fun a wx hw hr => ?_) hst)
          obtain ⟨v', p0, ho⟩ := RG.read_in (t := 94) (j := 8) hr (by kernel_rfl) (by kernel_rfl)
          have r0 : a.tmps[94]?.getD undef = _ := (Array.getD_eq_getD_getElem? ..).symm.trans p0
          refine ⟨_, wx, ?_, Ext.refl _, rfl⟩
          clear hr hst p0
          simp [execOp, go_sem, r0]
        · refine RG.stepN rfl (RG.st_run rfl (fun a wx hw hr => ⟨.pointer (some ⟨wx.heap.size, 0, none⟩), wx.alloc (Obj.cells #[.int .i64 0, .int .i64 0, .int .i64 0, .int .i64 0, .int .i64 0, .int .i64 0, .slice none 0 0] 47), ?_, (Ext.refl _).alloc _, wx.heap.size, rfl, hw.size, one_first _ _⟩) hst)
          clear hr hst
          simp [execOp, go_sem, Try.underlying47]
        · refine RG.st_store (t := 23) rfl rfl rfl (fun a wx hw hr => ?_)
          obtain ⟨b', p0, hbb, hz⟩ := RG.read_in (t := 23) (j := 11) hr (by kernel_rfl) (by kernel_rfl)
          obtain ⟨v', p1, ho⟩ := RG.read_in (t := 103) (j := 9) hr (by kernel_rfl) (by kernel_rfl)
          have hz := Lib.hid hz
          obtain ⟨-, s', z', hv', -⟩ := SlAt.of_owns ho
          subst hv'
          have hne : ∀ g, Value.ownBlock (.slice s' U.parts.length z') = some g → g ≠ b' := fun g hg e => rows_not ho hg (e ▸ hz.out)
          have hE' : Ext wT ((((((((wx.setCell ⟨b', 0, none⟩ (.int .i64 U.belt.step)).setCell ⟨b', 1, none⟩ (.int .i64 U.belt.slip)).setCell ⟨b', 2, none⟩ (.int .i64 U.belt.gate)).setCell ⟨b', 3, none⟩ (.int .i64 U.belt.length)).setCell ⟨b', 4, none⟩ (.int .i64 U.count)).setCell ⟨b', 5, none⟩ (.int .i64 U.next)).setCell ⟨b', 6, none⟩ ((.slice s' U.parts.length z')))) := (store_7 hz.out).2.2 wT hbb hw
          refine ⟨_, track_store rfl p0 p1 hz.out, hE', ?_, b', s', z', p0, hbb, (store_7 hz.out).1, owns_at ho fun g hg => (store_7 hz.out).2.1 g (hne g hg)⟩
          · intro j v hj hji hjd hG
            match j with
            | 0 => have hG' : v = (trackVal X (.slice sx X.parts.length zx)) := hG; exact hG'
            | 1 => have hG' : v = .int .i64 t.next := hG; exact hG'
            | 2 => have hG' : v = .int .i64 (k : Int) := hG; exact hG'
            | 3 => have hG' : v = .pointer (some ⟨w.heap.size + 1, k, none⟩) := hG; exact hG'
            | 4 => have hG' : v = .int .u8 (xk : Int) := hG; exact hG'
            | 5 => have hG' : v = .int .u8 (m : Int) := hG; exact hG'
            | 6 => have hG' : v = .int .u8 ((m : Int) + 1) := hG; exact hG'
            | 7 => obtain ⟨v9, h9, ho9⟩ := hG; exact ⟨v9, h9, owns_at ho9 fun g hg => (store_7 hz.out).2.1 g (fun e => rows_not ho9 hg (e ▸ hz.out))⟩
            | 8 => obtain ⟨v9, h9, ho9⟩ := hG; exact ⟨v9, h9, owns_at ho9 fun g hg => (store_7 hz.out).2.1 g (fun e => rows_not ho9 hg (e ▸ hz.out))⟩
            | 9 => obtain ⟨v9, h9, ho9⟩ := hG; exact ⟨v9, h9, owns_at ho9 fun g hg => (store_7 hz.out).2.1 g (fun e => rows_not ho9 hg (e ▸ hz.out))⟩
            | 11 => exact absurd (by simp) hj
            | 10 => have hG' : v = .int .i64 0 := hG; exact hG'
            | 12 => exact absurd rfl hji
            | j + 13 => exact (show True from trivial)
      · intro wt hEt
        simp only [List.length_cons, List.length_nil, List.take_succ_cons, List.take_zero, RG.Fin, RG.goneBy, Nat.reduceAdd, List.drop_succ_cons, List.drop_zero]
        intro v0 h0 v1 h1 v2 h2 v3 h3 v4 h4 v5 h5 v6 h6 v7 h7 v8 h8 v9 h9 v10 h10 v11 h11 hsto
        obtain rfl := h0 (by decide)
        obtain rfl := h1 (by decide)
        obtain rfl := h2 (by decide)
        obtain rfl := h3 (by decide)
        obtain rfl := h4 (by decide)
        obtain rfl := h5 (by decide)
        obtain rfl := h6 (by decide)
        obtain rfl := h10 (by decide)
        obtain ⟨bT, su, zu, hv9, hb9, hU9, hO9⟩ := hsto 12 _ 23 11 (by decide) rfl rfl rfl (by kernel_rfl) (by decide)
        simp [Act.put] at hv9
        subst hv9
        clear hst hsto h0 h1 h2 h3 h4 h5 h6 h7 h8 h9 h10 h11
        simp only [Act.put, List.setIfInBounds_toArray, List.set_cons_zero, List.set_cons_succ]
        have AU := Lib.hid (show At wt [(bT, Obj.cells #[.int .i64 U.belt.step, .int .i64 U.belt.slip, .int .i64 U.belt.gate, .int .i64 U.belt.length, .int .i64 U.count, .int .i64 U.next, (.slice su U.parts.length zu)] 47), (BX, Obj.cells #[.int .i64 X.belt.step, .int .i64 X.belt.slip, .int .i64 X.belt.gate, .int .i64 X.belt.length, .int .i64 X.count, .int .i64 X.next, (.slice sx X.parts.length zx)] 47), (B1 + 1, Obj.cells #[.int .u8 (one : Int), .int .u8 (two : Int), .int .u8 0] 5), (B1, Obj.cells #[.int .i64 t.belt.step, .int .i64 t.belt.slip, .int .i64 t.belt.gate, .int .i64 t.belt.length, .int .i64 t.count, .int .i64 t.next, (.slice sa t.parts.length sc)] 47), (B3, Obj.cells #[.int .i64 cl] 3), (w.heap.size, Obj.cells #[.int .i64 b.step, .int .i64 b.slip, .int .i64 b.gate, .int .i64 b.length] 23), (w.heap.size + 1, Obj.cells #[.int .u8 (x0 : Int), .int .u8 (x1 : Int), .int .u8 (x2 : Int)] 89)] from ⟨hU9, At.ext hEt AT.out⟩)
        have EU := Lib.hid (ET.out.trans hEt)
        have HFU := Lib.hid (owns_ext HFT.out hEt)
        have HOU := Lib.hid hO9
        have yB := At.lt AT.out 2 rfl
        have yX : BX < bT := by omega
        have yB1 : B1 < bT := by omega
        have yB2 : B1 + 1 < bT := by omega
        have yB3 : B3 < bT := by omega
        have yw0 : w.heap.size < bT := by omega
        have yw1 : w.heap.size + 1 < bT := by omega
        have ewt := hEt.size
        have ezw := Lib.hid (show wr.heap.size ≤ wt.heap.size by omega)
        clear hU9 hO9 hEt AT ET HFT RXT
        try clear c12_0_0 c12_0_1 c12_0_2 c12_0_3 c12_0_4 c12_0_5 c12_0_6 c12_1_0 c12_1_1 c12_1_2 c12_2_0 c12_2_1 c12_2_2 c12_2_3 c12_2_4 c12_2_5 c12_2_6 c12_3_0 c12_4_0 c12_4_1 c12_4_2 c12_4_3 c12_5_0 c12_5_1 c12_5_2 f12_0_0 f12_0_1 f12_0_2 f12_0_3 f12_0_4 f12_0_5 f12_0_6 f12_1_0 f12_1_1 f12_1_2 f12_2_0 f12_2_1 f12_2_2 f12_2_3 f12_2_4 f12_2_5 f12_2_6 f12_3_0 f12_4_0 f12_4_1 f12_4_2 f12_4_3 f12_5_0 f12_5_1 f12_5_2 s12_0 s12_1 s12_2 s12_3 s12_4 s12_5
        obtain ⟨⟨c13_0_0, c13_0_1, c13_0_2, c13_0_3, c13_0_4, c13_0_5, c13_0_6⟩, f13_0_0, f13_0_1, f13_0_2, f13_0_3, f13_0_4, f13_0_5, f13_0_6⟩ := run_7 (At.at AU.out 0 rfl)
        have s13_0 : bT < wt.heap.size := At.lt AU.out 0 rfl
        obtain ⟨⟨c13_1_0, c13_1_1, c13_1_2, c13_1_3, c13_1_4, c13_1_5, c13_1_6⟩, f13_1_0, f13_1_1, f13_1_2, f13_1_3, f13_1_4, f13_1_5, f13_1_6⟩ := run_7 (At.at AU.out 1 rfl)
        have s13_1 : BX < wt.heap.size := At.lt AU.out 1 rfl
        obtain ⟨⟨c13_2_0, c13_2_1, c13_2_2⟩, f13_2_0, f13_2_1, f13_2_2⟩ := run_3 (At.at AU.out 2 rfl)
        have s13_2 : B1 + 1 < wt.heap.size := At.lt AU.out 2 rfl
        obtain ⟨⟨c13_3_0, c13_3_1, c13_3_2, c13_3_3, c13_3_4, c13_3_5, c13_3_6⟩, f13_3_0, f13_3_1, f13_3_2, f13_3_3, f13_3_4, f13_3_5, f13_3_6⟩ := run_7 (At.at AU.out 3 rfl)
        have s13_3 : B1 < wt.heap.size := At.lt AU.out 3 rfl
        obtain ⟨c13_4_0, f13_4_0⟩ := run_1 (At.at AU.out 4 rfl)
        have s13_4 : B3 < wt.heap.size := At.lt AU.out 4 rfl
        obtain ⟨⟨c13_5_0, c13_5_1, c13_5_2, c13_5_3⟩, f13_5_0, f13_5_1, f13_5_2, f13_5_3⟩ := run_4 (At.at AU.out 5 rfl)
        have s13_5 : w.heap.size < wt.heap.size := At.lt AU.out 5 rfl
        obtain ⟨⟨c13_6_0, c13_6_1, c13_6_2⟩, f13_6_0, f13_6_1, f13_6_2⟩ := run_3 (At.at AU.out 6 rfl)
        have s13_6 : w.heap.size + 1 < wt.heap.size := At.lt AU.out 6 rfl
        skip
        rcases hgn with ⟨rfl, hg0⟩ | ⟨rfl, rfl⟩
        · have g1 : (gk == 0) = false := by simpa using hg0
          have g2 : ((gk : Int) == 0) = false := by simp; omega
          go_wp2_with (first | (have _q := E14.out; at_builtin; refine wpList_append_at rfl _ _ 69 rfl (B1 + 2) 93 i1 (.agg #[.int .i64 0, .int .u8 0, .bool false]) 3 16 Try.underlying69 hj hy0 hy1 hy2 rfl (by omega) u17 fs.length (fatesL fs) rfl (owns_ext ((own_seven (HF_14.out) (by omega))) ((Ext.refl _).alloc _)) _ l.length (fatesL l) rfl (SlAt.of_owns (owns_ext ((own_seven (FL.out) (by omega))) ((Ext.refl _).alloc _))) (fates_one l) (by unfold maxLen; omega) (by omega) (by simp; omega) ?_; intro v' w' ho hg hat; have H5 := Lib.hid (At.grown hg (l := [(B1 + 1, Obj.cells #[.int .u8 (one : Int), .int .u8 (two : Int), .int .u8 0] 5), (B1, Obj.cells #[.int .i64 Z.belt.step, .int .i64 Z.belt.slip, .int .i64 Z.belt.gate, .int .i64 Z.belt.length, .int .i64 Z.count, .int .i64 Z.next, (.slice sz Z.parts.length zz)] 47), (B3, Obj.cells #[.int .i64 cl] 3), (w.heap.size, Obj.cells #[.int .i64 b.step, .int .i64 b.slip, .int .i64 b.gate, .int .i64 b.length] 23), (w.heap.size + 1, Obj.cells #[.int .u8 (x0 : Int), .int .u8 (x1 : Int), .int .u8 (x2 : Int)] 89)]) (fun p hp e => by have := (owns_block HFU.out _ e).1; simp at hp; rcases hp with rfl | rfl | rfl | rfl | rfl <;> simp at this <;> omega) ⟨At.at (At.alloc (show At _ [(B1, Obj.cells #[.int .i64 Z.belt.step, .int .i64 Z.belt.slip, .int .i64 Z.belt.gate, .int .i64 Z.belt.length, .int .i64 Z.count, .int .i64 Z.next, (.slice sz Z.parts.length zz)] 47), (bT, Obj.cells #[.int .i64 U.belt.step, .int .i64 U.belt.slip, .int .i64 U.belt.gate, .int .i64 U.belt.length, .int .i64 U.count, .int .i64 U.next, (.slice su U.parts.length zu)] 47), (BX, Obj.cells #[.int .i64 X.belt.step, .int .i64 X.belt.slip, .int .i64 X.belt.gate, .int .i64 X.belt.length, .int .i64 X.count, .int .i64 X.next, (.slice sx X.parts.length zx)] 47), (B1 + 1, Obj.cells #[.int .u8 (one : Int), .int .u8 (two : Int), .int .u8 0] 5), (B3, Obj.cells #[.int .i64 cl] 3), (w.heap.size, Obj.cells #[.int .i64 b.step, .int .i64 b.slip, .int .i64 b.gate, .int .i64 b.length] 23), (w.heap.size + 1, Obj.cells #[.int .u8 (x0 : Int), .int .u8 (x1 : Int), .int .u8 (x2 : Int)] 89)] from ⟨(store_7 (v0 := .int .i64 Z.belt.step) (v1 := .int .i64 Z.belt.slip) (v2 := .int .i64 Z.belt.gate) (v3 := .int .i64 Z.belt.length) (v4 := .int .i64 Z.count) (v5 := .int .i64 Z.next) (v6 := (.slice sz Z.parts.length zz)) (At.at A14.out 0 rfl)).1, At.other (store_7 (v0 := .int .i64 Z.belt.step) (v1 := .int .i64 Z.belt.slip) (v2 := .int .i64 Z.belt.gate) (v3 := .int .i64 Z.belt.length) (v4 := .int .i64 Z.count) (v5 := .int .i64 Z.next) (v6 := (.slice sz Z.parts.length zz)) (At.at A14.out 0 rfl)).2.1 (by first | (simp; done) | (simp; omega)) (At.erase A14.out 0)⟩) _) 3 rfl, At.at (At.alloc (show At _ [(B1, Obj.cells #[.int .i64 Z.belt.step, .int .i64 Z.belt.slip, .int .i64 Z.belt.gate, .int .i64 Z.belt.length, .int .i64 Z.count, .int .i64 Z.next, (.slice sz Z.parts.length zz)] 47), (bT, Obj.cells #[.int .i64 U.belt.step, .int .i64 U.belt.slip, .int .i64 U.belt.gate, .int .i64 U.belt.length, .int .i64 U.count, .int .i64 U.next, (.slice su U.parts.length zu)] 47), (BX, Obj.cells #[.int .i64 X.belt.step, .int .i64 X.belt.slip, .int .i64 X.belt.gate, .int .i64 X.belt.length, .int .i64 X.count, .int .i64 X.next, (.slice sx X.parts.length zx)] 47), (B1 + 1, Obj.cells #[.int .u8 (one : Int), .int .u8 (two : Int), .int .u8 0] 5), (B3, Obj.cells #[.int .i64 cl] 3), (w.heap.size, Obj.cells #[.int .i64 b.step, .int .i64 b.slip, .int .i64 b.gate, .int .i64 b.length] 23), (w.heap.size + 1, Obj.cells #[.int .u8 (x0 : Int), .int .u8 (x1 : Int), .int .u8 (x2 : Int)] 89)] from ⟨(store_7 (v0 := .int .i64 Z.belt.step) (v1 := .int .i64 Z.belt.slip) (v2 := .int .i64 Z.belt.gate) (v3 := .int .i64 Z.belt.length) (v4 := .int .i64 Z.count) (v5 := .int .i64 Z.next) (v6 := (.slice sz Z.parts.length zz)) (At.at A14.out 0 rfl)).1, At.other (store_7 (v0 := .int .i64 Z.belt.step) (v1 := .int .i64 Z.belt.slip) (v2 := .int .i64 Z.belt.gate) (v3 := .int .i64 Z.belt.length) (v4 := .int .i64 Z.count) (v5 := .int .i64 Z.next) (v6 := (.slice sz Z.parts.length zz)) (At.at A14.out 0 rfl)).2.1 (by first | (simp; done) | (simp; omega)) (At.erase A14.out 0)⟩) _) 0 rfl, At.at (At.alloc (show At _ [(B1, Obj.cells #[.int .i64 Z.belt.step, .int .i64 Z.belt.slip, .int .i64 Z.belt.gate, .int .i64 Z.belt.length, .int .i64 Z.count, .int .i64 Z.next, (.slice sz Z.parts.length zz)] 47), (bT, Obj.cells #[.int .i64 U.belt.step, .int .i64 U.belt.slip, .int .i64 U.belt.gate, .int .i64 U.belt.length, .int .i64 U.count, .int .i64 U.next, (.slice su U.parts.length zu)] 47), (BX, Obj.cells #[.int .i64 X.belt.step, .int .i64 X.belt.slip, .int .i64 X.belt.gate, .int .i64 X.belt.length, .int .i64 X.count, .int .i64 X.next, (.slice sx X.parts.length zx)] 47), (B1 + 1, Obj.cells #[.int .u8 (one : Int), .int .u8 (two : Int), .int .u8 0] 5), (B3, Obj.cells #[.int .i64 cl] 3), (w.heap.size, Obj.cells #[.int .i64 b.step, .int .i64 b.slip, .int .i64 b.gate, .int .i64 b.length] 23), (w.heap.size + 1, Obj.cells #[.int .u8 (x0 : Int), .int .u8 (x1 : Int), .int .u8 (x2 : Int)] 89)] from ⟨(store_7 (v0 := .int .i64 Z.belt.step) (v1 := .int .i64 Z.belt.slip) (v2 := .int .i64 Z.belt.gate) (v3 := .int .i64 Z.belt.length) (v4 := .int .i64 Z.count) (v5 := .int .i64 Z.next) (v6 := (.slice sz Z.parts.length zz)) (At.at A14.out 0 rfl)).1, At.other (store_7 (v0 := .int .i64 Z.belt.step) (v1 := .int .i64 Z.belt.slip) (v2 := .int .i64 Z.belt.gate) (v3 := .int .i64 Z.belt.length) (v4 := .int .i64 Z.count) (v5 := .int .i64 Z.next) (v6 := (.slice sz Z.parts.length zz)) (At.at A14.out 0 rfl)).2.1 (by first | (simp; done) | (simp; omega)) (At.erase A14.out 0)⟩) _) 4 rfl, At.at (At.alloc (show At _ [(B1, Obj.cells #[.int .i64 Z.belt.step, .int .i64 Z.belt.slip, .int .i64 Z.belt.gate, .int .i64 Z.belt.length, .int .i64 Z.count, .int .i64 Z.next, (.slice sz Z.parts.length zz)] 47), (bT, Obj.cells #[.int .i64 U.belt.step, .int .i64 U.belt.slip, .int .i64 U.belt.gate, .int .i64 U.belt.length, .int .i64 U.count, .int .i64 U.next, (.slice su U.parts.length zu)] 47), (BX, Obj.cells #[.int .i64 X.belt.step, .int .i64 X.belt.slip, .int .i64 X.belt.gate, .int .i64 X.belt.length, .int .i64 X.count, .int .i64 X.next, (.slice sx X.parts.length zx)] 47), (B1 + 1, Obj.cells #[.int .u8 (one : Int), .int .u8 (two : Int), .int .u8 0] 5), (B3, Obj.cells #[.int .i64 cl] 3), (w.heap.size, Obj.cells #[.int .i64 b.step, .int .i64 b.slip, .int .i64 b.gate, .int .i64 b.length] 23), (w.heap.size + 1, Obj.cells #[.int .u8 (x0 : Int), .int .u8 (x1 : Int), .int .u8 (x2 : Int)] 89)] from ⟨(store_7 (v0 := .int .i64 Z.belt.step) (v1 := .int .i64 Z.belt.slip) (v2 := .int .i64 Z.belt.gate) (v3 := .int .i64 Z.belt.length) (v4 := .int .i64 Z.count) (v5 := .int .i64 Z.next) (v6 := (.slice sz Z.parts.length zz)) (At.at A14.out 0 rfl)).1, At.other (store_7 (v0 := .int .i64 Z.belt.step) (v1 := .int .i64 Z.belt.slip) (v2 := .int .i64 Z.belt.gate) (v3 := .int .i64 Z.belt.length) (v4 := .int .i64 Z.count) (v5 := .int .i64 Z.next) (v6 := (.slice sz Z.parts.length zz)) (At.at A14.out 0 rfl)).2.1 (by first | (simp; done) | (simp; omega)) (At.erase A14.out 0)⟩) _) 5 rfl, At.at (At.alloc (show At _ [(B1, Obj.cells #[.int .i64 Z.belt.step, .int .i64 Z.belt.slip, .int .i64 Z.belt.gate, .int .i64 Z.belt.length, .int .i64 Z.count, .int .i64 Z.next, (.slice sz Z.parts.length zz)] 47), (bT, Obj.cells #[.int .i64 U.belt.step, .int .i64 U.belt.slip, .int .i64 U.belt.gate, .int .i64 U.belt.length, .int .i64 U.count, .int .i64 U.next, (.slice su U.parts.length zu)] 47), (BX, Obj.cells #[.int .i64 X.belt.step, .int .i64 X.belt.slip, .int .i64 X.belt.gate, .int .i64 X.belt.length, .int .i64 X.count, .int .i64 X.next, (.slice sx X.parts.length zx)] 47), (B1 + 1, Obj.cells #[.int .u8 (one : Int), .int .u8 (two : Int), .int .u8 0] 5), (B3, Obj.cells #[.int .i64 cl] 3), (w.heap.size, Obj.cells #[.int .i64 b.step, .int .i64 b.slip, .int .i64 b.gate, .int .i64 b.length] 23), (w.heap.size + 1, Obj.cells #[.int .u8 (x0 : Int), .int .u8 (x1 : Int), .int .u8 (x2 : Int)] 89)] from ⟨(store_7 (v0 := .int .i64 Z.belt.step) (v1 := .int .i64 Z.belt.slip) (v2 := .int .i64 Z.belt.gate) (v3 := .int .i64 Z.belt.length) (v4 := .int .i64 Z.count) (v5 := .int .i64 Z.next) (v6 := (.slice sz Z.parts.length zz)) (At.at A14.out 0 rfl)).1, At.other (store_7 (v0 := .int .i64 Z.belt.step) (v1 := .int .i64 Z.belt.slip) (v2 := .int .i64 Z.belt.gate) (v3 := .int .i64 Z.belt.length) (v4 := .int .i64 Z.count) (v5 := .int .i64 Z.next) (v6 := (.slice sz Z.parts.length zz)) (At.at A14.out 0 rfl)).2.1 (by first | (simp; done) | (simp; omega)) (At.erase A14.out 0)⟩) _) 6 rfl, trivial⟩); have E5 := Lib.hid (ext_grown9 hg (wb := w) (fun g e => by have := (owns_block HFU.out g e).1; omega) (((((store_7 (v0 := .int .i64 Z.belt.step) (v1 := .int .i64 Z.belt.slip) (v2 := .int .i64 Z.belt.gate) (v3 := .int .i64 Z.belt.length) (v4 := .int .i64 Z.count) (v5 := .int .i64 Z.next) (v6 := (.slice sz Z.parts.length zz)) (At.at A14.out 0 rfl)).2.2 w (by omega) E14.out)).alloc _))); have Z5 := Lib.hid (owns_grown9 hg (fun g h e => absurd (Nat.lt_of_lt_of_le (owns_block hf.out g e).2 (Nat.le_trans ezw.out (owns_block RZ.out g h).1)) (Nat.lt_irrefl _)) ((owns_ext ((own_seven (RZ.out) (by omega))) ((Ext.refl _).alloc _)))); have F5 := Lib.hid ho; have G5 := hg.size; clear ho hg hat) | (first | (go_at_call 40; (with_reducible refine (K40.out _ _ (seens_own ((own_seven (HOU.out) (by omega))) rfl)).mono ?_); rintro E w14 ⟨v14, f14, rfl, o14, p14, hb14⟩; have A14 := Lib.hid (show At w14 [(B1, Obj.cells #[.int .i64 U.belt.step, .int .i64 U.belt.slip, .int .i64 U.belt.gate, .int .i64 U.belt.length, .int .i64 U.count, .int .i64 U.next, (.slice su U.parts.length zu)] 47), (bT, Obj.cells #[.int .i64 U.belt.step, .int .i64 U.belt.slip, .int .i64 U.belt.gate, .int .i64 U.belt.length, .int .i64 U.count, .int .i64 U.next, (.slice su U.parts.length zu)] 47), (BX, Obj.cells #[.int .i64 X.belt.step, .int .i64 X.belt.slip, .int .i64 X.belt.gate, .int .i64 X.belt.length, .int .i64 X.count, .int .i64 X.next, (.slice sx X.parts.length zx)] 47), (B1 + 1, Obj.cells #[.int .u8 (one : Int), .int .u8 (two : Int), .int .u8 0] 5), (B3, Obj.cells #[.int .i64 cl] 3), (w.heap.size, Obj.cells #[.int .i64 b.step, .int .i64 b.slip, .int .i64 b.gate, .int .i64 b.length] 23), (w.heap.size + 1, Obj.cells #[.int .u8 (x0 : Int), .int .u8 (x1 : Int), .int .u8 (x2 : Int)] 89)] from At.ext hb14 (show At _ [(B1, Obj.cells #[.int .i64 U.belt.step, .int .i64 U.belt.slip, .int .i64 U.belt.gate, .int .i64 U.belt.length, .int .i64 U.count, .int .i64 U.next, (.slice su U.parts.length zu)] 47), (bT, Obj.cells #[.int .i64 U.belt.step, .int .i64 U.belt.slip, .int .i64 U.belt.gate, .int .i64 U.belt.length, .int .i64 U.count, .int .i64 U.next, (.slice su U.parts.length zu)] 47), (BX, Obj.cells #[.int .i64 X.belt.step, .int .i64 X.belt.slip, .int .i64 X.belt.gate, .int .i64 X.belt.length, .int .i64 X.count, .int .i64 X.next, (.slice sx X.parts.length zx)] 47), (B1 + 1, Obj.cells #[.int .u8 (one : Int), .int .u8 (two : Int), .int .u8 0] 5), (B3, Obj.cells #[.int .i64 cl] 3), (w.heap.size, Obj.cells #[.int .i64 b.step, .int .i64 b.slip, .int .i64 b.gate, .int .i64 b.length] 23), (w.heap.size + 1, Obj.cells #[.int .u8 (x0 : Int), .int .u8 (x1 : Int), .int .u8 (x2 : Int)] 89)] from ⟨(store_7 (v0 := .int .i64 U.belt.step) (v1 := .int .i64 U.belt.slip) (v2 := .int .i64 U.belt.gate) (v3 := .int .i64 U.belt.length) (v4 := .int .i64 U.count) (v5 := .int .i64 U.next) (v6 := (.slice su U.parts.length zu)) (At.at AU.out 3 rfl)).1, At.other (store_7 (v0 := .int .i64 U.belt.step) (v1 := .int .i64 U.belt.slip) (v2 := .int .i64 U.belt.gate) (v3 := .int .i64 U.belt.length) (v4 := .int .i64 U.count) (v5 := .int .i64 U.next) (v6 := (.slice su U.parts.length zu)) (At.at AU.out 3 rfl)).2.1 (by first | (simp; done) | (simp; omega)) (At.erase AU.out 3)⟩)); have E14 := Lib.hid ((((store_7 (v0 := .int .i64 U.belt.step) (v1 := .int .i64 U.belt.slip) (v2 := .int .i64 U.belt.gate) (v3 := .int .i64 U.belt.length) (v4 := .int .i64 U.count) (v5 := .int .i64 U.next) (v6 := (.slice su U.parts.length zu)) (At.at AU.out 3 rfl)).2.2 w (by omega) EU.out)).trans hb14); obtain ⟨⟨c14_0_0, c14_0_1, c14_0_2, c14_0_3, c14_0_4, c14_0_5, c14_0_6⟩, f14_0_0, f14_0_1, f14_0_2, f14_0_3, f14_0_4, f14_0_5, f14_0_6⟩ := run_7 (At.at A14.out 0 rfl); have s14_0 : B1 < w14.heap.size := At.lt A14.out 0 rfl; obtain ⟨⟨c14_1_0, c14_1_1, c14_1_2, c14_1_3, c14_1_4, c14_1_5, c14_1_6⟩, f14_1_0, f14_1_1, f14_1_2, f14_1_3, f14_1_4, f14_1_5, f14_1_6⟩ := run_7 (At.at A14.out 1 rfl); have s14_1 : bT < w14.heap.size := At.lt A14.out 1 rfl; obtain ⟨⟨c14_2_0, c14_2_1, c14_2_2, c14_2_3, c14_2_4, c14_2_5, c14_2_6⟩, f14_2_0, f14_2_1, f14_2_2, f14_2_3, f14_2_4, f14_2_5, f14_2_6⟩ := run_7 (At.at A14.out 2 rfl); have s14_2 : BX < w14.heap.size := At.lt A14.out 2 rfl; obtain ⟨⟨c14_3_0, c14_3_1, c14_3_2⟩, f14_3_0, f14_3_1, f14_3_2⟩ := run_3 (At.at A14.out 3 rfl); have s14_3 : B1 + 1 < w14.heap.size := At.lt A14.out 3 rfl; obtain ⟨c14_4_0, f14_4_0⟩ := run_1 (At.at A14.out 4 rfl); have s14_4 : B3 < w14.heap.size := At.lt A14.out 4 rfl; obtain ⟨⟨c14_5_0, c14_5_1, c14_5_2, c14_5_3⟩, f14_5_0, f14_5_1, f14_5_2, f14_5_3⟩ := run_4 (At.at A14.out 5 rfl); have s14_5 : w.heap.size < w14.heap.size := At.lt A14.out 5 rfl; obtain ⟨⟨c14_6_0, c14_6_1, c14_6_2⟩, f14_6_0, f14_6_1, f14_6_2⟩ := run_3 (At.at A14.out 6 rfl); have s14_6 : w.heap.size + 1 < w14.heap.size := At.lt A14.out 6 rfl; (try clear c13_0_0 c13_0_1 c13_0_2 c13_0_3 c13_0_4 c13_0_5 c13_0_6 f13_0_0 f13_0_1 f13_0_2 f13_0_3 f13_0_4 f13_0_5 f13_0_6 c13_1_0 c13_1_1 c13_1_2 c13_1_3 c13_1_4 c13_1_5 c13_1_6 f13_1_0 f13_1_1 f13_1_2 f13_1_3 f13_1_4 f13_1_5 f13_1_6 c13_2_0 c13_2_1 c13_2_2 f13_2_0 f13_2_1 f13_2_2 c13_3_0 c13_3_1 c13_3_2 c13_3_3 c13_3_4 c13_3_5 c13_3_6 f13_3_0 f13_3_1 f13_3_2 f13_3_3 f13_3_4 f13_3_5 f13_3_6 c13_4_0 f13_4_0 c13_5_0 c13_5_1 c13_5_2 c13_5_3 f13_5_0 f13_5_1 f13_5_2 f13_5_3 c13_6_0 c13_6_1 c13_6_2 f13_6_0 f13_6_1 f13_6_2 s13_0 s13_1 s13_2 s13_3 s13_4 s13_5 s13_6); have RU_14 := Lib.hid (owns_ext ((own_seven (HOU.out) (by omega))) hb14); have HF_14 := Lib.hid (owns_ext ((own_seven (HFU.out) (by omega))) hb14); obtain ⟨-, sz, zz, hv14, -⟩ := SlAt.of_owns o14; subst hv14; obtain ⟨-, fl, gl, hf14, -⟩ := SlAt.of_owns p14; subst hf14; have RZ := Lib.hid (owns_base o14 (show wt.heap.size ≤ _ by simp)); have FL := Lib.hid (owns_base p14 (show wt.heap.size ≤ _ by simp)); clear o14 p14)))
          go_roundw
          case rel =>
            refine ⟨k + 1, by omega, by go_num, Lib.hid ⟨Z, fs ++ l, .slice sz Z.parts.length zz, E5.out, H5.out, owns_base Z5.out (by omega), ?_, by simp at G5; omega, by simp; omega, HE4.out.1, HE4.out.2.1, HE4.out.2.2⟩⟩
            rw [List.length_append, fatesL_append]
            exact F5.out
          case measure => simp [intOf]; omega
        · go_wp2_with (first | (have _q := E14.out; at_builtin; refine wpList_append_at rfl _ _ 69 rfl (B1 + 2) 93 i1 (.agg #[.int .i64 0, .int .u8 0, .bool false]) 3 16 Try.underlying69 hj hy0 hy1 hy2 rfl (by omega) u17 fs.length (fatesL fs) rfl (owns_ext ((own_seven (HF_14.out) (by omega))) ((Ext.refl _).alloc _)) _ l.length (fatesL l) rfl (SlAt.of_owns (owns_ext ((own_seven (FL.out) (by omega))) ((Ext.refl _).alloc _))) (fates_one l) (by unfold maxLen; omega) (by omega) (by simp; omega) ?_; intro v' w' ho hg hat; have H5 := Lib.hid (At.grown hg (l := [(B1 + 1, Obj.cells #[.int .u8 (one : Int), .int .u8 (two : Int), .int .u8 0] 5), (B1, Obj.cells #[.int .i64 Z.belt.step, .int .i64 Z.belt.slip, .int .i64 Z.belt.gate, .int .i64 Z.belt.length, .int .i64 Z.count, .int .i64 Z.next, (.slice sz Z.parts.length zz)] 47), (B3, Obj.cells #[.int .i64 cl] 3), (w.heap.size, Obj.cells #[.int .i64 b.step, .int .i64 b.slip, .int .i64 b.gate, .int .i64 b.length] 23), (w.heap.size + 1, Obj.cells #[.int .u8 (x0 : Int), .int .u8 (x1 : Int), .int .u8 (x2 : Int)] 89)]) (fun p hp e => by have := (owns_block HFU.out _ e).1; simp at hp; rcases hp with rfl | rfl | rfl | rfl | rfl <;> simp at this <;> omega) ⟨At.at (At.alloc (show At _ [(B1, Obj.cells #[.int .i64 Z.belt.step, .int .i64 Z.belt.slip, .int .i64 Z.belt.gate, .int .i64 Z.belt.length, .int .i64 Z.count, .int .i64 Z.next, (.slice sz Z.parts.length zz)] 47), (bT, Obj.cells #[.int .i64 U.belt.step, .int .i64 U.belt.slip, .int .i64 U.belt.gate, .int .i64 U.belt.length, .int .i64 U.count, .int .i64 U.next, (.slice su U.parts.length zu)] 47), (BX, Obj.cells #[.int .i64 X.belt.step, .int .i64 X.belt.slip, .int .i64 X.belt.gate, .int .i64 X.belt.length, .int .i64 X.count, .int .i64 X.next, (.slice sx X.parts.length zx)] 47), (B1 + 1, Obj.cells #[.int .u8 (one : Int), .int .u8 (two : Int), .int .u8 0] 5), (B3, Obj.cells #[.int .i64 cl] 3), (w.heap.size, Obj.cells #[.int .i64 b.step, .int .i64 b.slip, .int .i64 b.gate, .int .i64 b.length] 23), (w.heap.size + 1, Obj.cells #[.int .u8 (x0 : Int), .int .u8 (x1 : Int), .int .u8 (x2 : Int)] 89)] from ⟨(store_7 (v0 := .int .i64 Z.belt.step) (v1 := .int .i64 Z.belt.slip) (v2 := .int .i64 Z.belt.gate) (v3 := .int .i64 Z.belt.length) (v4 := .int .i64 Z.count) (v5 := .int .i64 Z.next) (v6 := (.slice sz Z.parts.length zz)) (At.at A14.out 0 rfl)).1, At.other (store_7 (v0 := .int .i64 Z.belt.step) (v1 := .int .i64 Z.belt.slip) (v2 := .int .i64 Z.belt.gate) (v3 := .int .i64 Z.belt.length) (v4 := .int .i64 Z.count) (v5 := .int .i64 Z.next) (v6 := (.slice sz Z.parts.length zz)) (At.at A14.out 0 rfl)).2.1 (by first | (simp; done) | (simp; omega)) (At.erase A14.out 0)⟩) _) 3 rfl, At.at (At.alloc (show At _ [(B1, Obj.cells #[.int .i64 Z.belt.step, .int .i64 Z.belt.slip, .int .i64 Z.belt.gate, .int .i64 Z.belt.length, .int .i64 Z.count, .int .i64 Z.next, (.slice sz Z.parts.length zz)] 47), (bT, Obj.cells #[.int .i64 U.belt.step, .int .i64 U.belt.slip, .int .i64 U.belt.gate, .int .i64 U.belt.length, .int .i64 U.count, .int .i64 U.next, (.slice su U.parts.length zu)] 47), (BX, Obj.cells #[.int .i64 X.belt.step, .int .i64 X.belt.slip, .int .i64 X.belt.gate, .int .i64 X.belt.length, .int .i64 X.count, .int .i64 X.next, (.slice sx X.parts.length zx)] 47), (B1 + 1, Obj.cells #[.int .u8 (one : Int), .int .u8 (two : Int), .int .u8 0] 5), (B3, Obj.cells #[.int .i64 cl] 3), (w.heap.size, Obj.cells #[.int .i64 b.step, .int .i64 b.slip, .int .i64 b.gate, .int .i64 b.length] 23), (w.heap.size + 1, Obj.cells #[.int .u8 (x0 : Int), .int .u8 (x1 : Int), .int .u8 (x2 : Int)] 89)] from ⟨(store_7 (v0 := .int .i64 Z.belt.step) (v1 := .int .i64 Z.belt.slip) (v2 := .int .i64 Z.belt.gate) (v3 := .int .i64 Z.belt.length) (v4 := .int .i64 Z.count) (v5 := .int .i64 Z.next) (v6 := (.slice sz Z.parts.length zz)) (At.at A14.out 0 rfl)).1, At.other (store_7 (v0 := .int .i64 Z.belt.step) (v1 := .int .i64 Z.belt.slip) (v2 := .int .i64 Z.belt.gate) (v3 := .int .i64 Z.belt.length) (v4 := .int .i64 Z.count) (v5 := .int .i64 Z.next) (v6 := (.slice sz Z.parts.length zz)) (At.at A14.out 0 rfl)).2.1 (by first | (simp; done) | (simp; omega)) (At.erase A14.out 0)⟩) _) 0 rfl, At.at (At.alloc (show At _ [(B1, Obj.cells #[.int .i64 Z.belt.step, .int .i64 Z.belt.slip, .int .i64 Z.belt.gate, .int .i64 Z.belt.length, .int .i64 Z.count, .int .i64 Z.next, (.slice sz Z.parts.length zz)] 47), (bT, Obj.cells #[.int .i64 U.belt.step, .int .i64 U.belt.slip, .int .i64 U.belt.gate, .int .i64 U.belt.length, .int .i64 U.count, .int .i64 U.next, (.slice su U.parts.length zu)] 47), (BX, Obj.cells #[.int .i64 X.belt.step, .int .i64 X.belt.slip, .int .i64 X.belt.gate, .int .i64 X.belt.length, .int .i64 X.count, .int .i64 X.next, (.slice sx X.parts.length zx)] 47), (B1 + 1, Obj.cells #[.int .u8 (one : Int), .int .u8 (two : Int), .int .u8 0] 5), (B3, Obj.cells #[.int .i64 cl] 3), (w.heap.size, Obj.cells #[.int .i64 b.step, .int .i64 b.slip, .int .i64 b.gate, .int .i64 b.length] 23), (w.heap.size + 1, Obj.cells #[.int .u8 (x0 : Int), .int .u8 (x1 : Int), .int .u8 (x2 : Int)] 89)] from ⟨(store_7 (v0 := .int .i64 Z.belt.step) (v1 := .int .i64 Z.belt.slip) (v2 := .int .i64 Z.belt.gate) (v3 := .int .i64 Z.belt.length) (v4 := .int .i64 Z.count) (v5 := .int .i64 Z.next) (v6 := (.slice sz Z.parts.length zz)) (At.at A14.out 0 rfl)).1, At.other (store_7 (v0 := .int .i64 Z.belt.step) (v1 := .int .i64 Z.belt.slip) (v2 := .int .i64 Z.belt.gate) (v3 := .int .i64 Z.belt.length) (v4 := .int .i64 Z.count) (v5 := .int .i64 Z.next) (v6 := (.slice sz Z.parts.length zz)) (At.at A14.out 0 rfl)).2.1 (by first | (simp; done) | (simp; omega)) (At.erase A14.out 0)⟩) _) 4 rfl, At.at (At.alloc (show At _ [(B1, Obj.cells #[.int .i64 Z.belt.step, .int .i64 Z.belt.slip, .int .i64 Z.belt.gate, .int .i64 Z.belt.length, .int .i64 Z.count, .int .i64 Z.next, (.slice sz Z.parts.length zz)] 47), (bT, Obj.cells #[.int .i64 U.belt.step, .int .i64 U.belt.slip, .int .i64 U.belt.gate, .int .i64 U.belt.length, .int .i64 U.count, .int .i64 U.next, (.slice su U.parts.length zu)] 47), (BX, Obj.cells #[.int .i64 X.belt.step, .int .i64 X.belt.slip, .int .i64 X.belt.gate, .int .i64 X.belt.length, .int .i64 X.count, .int .i64 X.next, (.slice sx X.parts.length zx)] 47), (B1 + 1, Obj.cells #[.int .u8 (one : Int), .int .u8 (two : Int), .int .u8 0] 5), (B3, Obj.cells #[.int .i64 cl] 3), (w.heap.size, Obj.cells #[.int .i64 b.step, .int .i64 b.slip, .int .i64 b.gate, .int .i64 b.length] 23), (w.heap.size + 1, Obj.cells #[.int .u8 (x0 : Int), .int .u8 (x1 : Int), .int .u8 (x2 : Int)] 89)] from ⟨(store_7 (v0 := .int .i64 Z.belt.step) (v1 := .int .i64 Z.belt.slip) (v2 := .int .i64 Z.belt.gate) (v3 := .int .i64 Z.belt.length) (v4 := .int .i64 Z.count) (v5 := .int .i64 Z.next) (v6 := (.slice sz Z.parts.length zz)) (At.at A14.out 0 rfl)).1, At.other (store_7 (v0 := .int .i64 Z.belt.step) (v1 := .int .i64 Z.belt.slip) (v2 := .int .i64 Z.belt.gate) (v3 := .int .i64 Z.belt.length) (v4 := .int .i64 Z.count) (v5 := .int .i64 Z.next) (v6 := (.slice sz Z.parts.length zz)) (At.at A14.out 0 rfl)).2.1 (by first | (simp; done) | (simp; omega)) (At.erase A14.out 0)⟩) _) 5 rfl, At.at (At.alloc (show At _ [(B1, Obj.cells #[.int .i64 Z.belt.step, .int .i64 Z.belt.slip, .int .i64 Z.belt.gate, .int .i64 Z.belt.length, .int .i64 Z.count, .int .i64 Z.next, (.slice sz Z.parts.length zz)] 47), (bT, Obj.cells #[.int .i64 U.belt.step, .int .i64 U.belt.slip, .int .i64 U.belt.gate, .int .i64 U.belt.length, .int .i64 U.count, .int .i64 U.next, (.slice su U.parts.length zu)] 47), (BX, Obj.cells #[.int .i64 X.belt.step, .int .i64 X.belt.slip, .int .i64 X.belt.gate, .int .i64 X.belt.length, .int .i64 X.count, .int .i64 X.next, (.slice sx X.parts.length zx)] 47), (B1 + 1, Obj.cells #[.int .u8 (one : Int), .int .u8 (two : Int), .int .u8 0] 5), (B3, Obj.cells #[.int .i64 cl] 3), (w.heap.size, Obj.cells #[.int .i64 b.step, .int .i64 b.slip, .int .i64 b.gate, .int .i64 b.length] 23), (w.heap.size + 1, Obj.cells #[.int .u8 (x0 : Int), .int .u8 (x1 : Int), .int .u8 (x2 : Int)] 89)] from ⟨(store_7 (v0 := .int .i64 Z.belt.step) (v1 := .int .i64 Z.belt.slip) (v2 := .int .i64 Z.belt.gate) (v3 := .int .i64 Z.belt.length) (v4 := .int .i64 Z.count) (v5 := .int .i64 Z.next) (v6 := (.slice sz Z.parts.length zz)) (At.at A14.out 0 rfl)).1, At.other (store_7 (v0 := .int .i64 Z.belt.step) (v1 := .int .i64 Z.belt.slip) (v2 := .int .i64 Z.belt.gate) (v3 := .int .i64 Z.belt.length) (v4 := .int .i64 Z.count) (v5 := .int .i64 Z.next) (v6 := (.slice sz Z.parts.length zz)) (At.at A14.out 0 rfl)).2.1 (by first | (simp; done) | (simp; omega)) (At.erase A14.out 0)⟩) _) 6 rfl, trivial⟩); have E5 := Lib.hid (ext_grown9 hg (wb := w) (fun g e => by have := (owns_block HFU.out g e).1; omega) (((((store_7 (v0 := .int .i64 Z.belt.step) (v1 := .int .i64 Z.belt.slip) (v2 := .int .i64 Z.belt.gate) (v3 := .int .i64 Z.belt.length) (v4 := .int .i64 Z.count) (v5 := .int .i64 Z.next) (v6 := (.slice sz Z.parts.length zz)) (At.at A14.out 0 rfl)).2.2 w (by omega) E14.out)).alloc _))); have Z5 := Lib.hid (owns_grown9 hg (fun g h e => absurd (Nat.lt_of_lt_of_le (owns_block hf.out g e).2 (Nat.le_trans ezw.out (owns_block RZ.out g h).1)) (Nat.lt_irrefl _)) ((owns_ext ((own_seven (RZ.out) (by omega))) ((Ext.refl _).alloc _)))); have F5 := Lib.hid ho; have G5 := hg.size; clear ho hg hat) | (first | (go_at_call 40; (with_reducible refine (K40.out _ _ (seens_own ((own_seven (HOU.out) (by omega))) rfl)).mono ?_); rintro E w14 ⟨v14, f14, rfl, o14, p14, hb14⟩; have A14 := Lib.hid (show At w14 [(B1, Obj.cells #[.int .i64 U.belt.step, .int .i64 U.belt.slip, .int .i64 U.belt.gate, .int .i64 U.belt.length, .int .i64 U.count, .int .i64 U.next, (.slice su U.parts.length zu)] 47), (bT, Obj.cells #[.int .i64 U.belt.step, .int .i64 U.belt.slip, .int .i64 U.belt.gate, .int .i64 U.belt.length, .int .i64 U.count, .int .i64 U.next, (.slice su U.parts.length zu)] 47), (BX, Obj.cells #[.int .i64 X.belt.step, .int .i64 X.belt.slip, .int .i64 X.belt.gate, .int .i64 X.belt.length, .int .i64 X.count, .int .i64 X.next, (.slice sx X.parts.length zx)] 47), (B1 + 1, Obj.cells #[.int .u8 (one : Int), .int .u8 (two : Int), .int .u8 0] 5), (B3, Obj.cells #[.int .i64 cl] 3), (w.heap.size, Obj.cells #[.int .i64 b.step, .int .i64 b.slip, .int .i64 b.gate, .int .i64 b.length] 23), (w.heap.size + 1, Obj.cells #[.int .u8 (x0 : Int), .int .u8 (x1 : Int), .int .u8 (x2 : Int)] 89)] from At.ext hb14 (show At _ [(B1, Obj.cells #[.int .i64 U.belt.step, .int .i64 U.belt.slip, .int .i64 U.belt.gate, .int .i64 U.belt.length, .int .i64 U.count, .int .i64 U.next, (.slice su U.parts.length zu)] 47), (bT, Obj.cells #[.int .i64 U.belt.step, .int .i64 U.belt.slip, .int .i64 U.belt.gate, .int .i64 U.belt.length, .int .i64 U.count, .int .i64 U.next, (.slice su U.parts.length zu)] 47), (BX, Obj.cells #[.int .i64 X.belt.step, .int .i64 X.belt.slip, .int .i64 X.belt.gate, .int .i64 X.belt.length, .int .i64 X.count, .int .i64 X.next, (.slice sx X.parts.length zx)] 47), (B1 + 1, Obj.cells #[.int .u8 (one : Int), .int .u8 (two : Int), .int .u8 0] 5), (B3, Obj.cells #[.int .i64 cl] 3), (w.heap.size, Obj.cells #[.int .i64 b.step, .int .i64 b.slip, .int .i64 b.gate, .int .i64 b.length] 23), (w.heap.size + 1, Obj.cells #[.int .u8 (x0 : Int), .int .u8 (x1 : Int), .int .u8 (x2 : Int)] 89)] from ⟨(store_7 (v0 := .int .i64 U.belt.step) (v1 := .int .i64 U.belt.slip) (v2 := .int .i64 U.belt.gate) (v3 := .int .i64 U.belt.length) (v4 := .int .i64 U.count) (v5 := .int .i64 U.next) (v6 := (.slice su U.parts.length zu)) (At.at AU.out 3 rfl)).1, At.other (store_7 (v0 := .int .i64 U.belt.step) (v1 := .int .i64 U.belt.slip) (v2 := .int .i64 U.belt.gate) (v3 := .int .i64 U.belt.length) (v4 := .int .i64 U.count) (v5 := .int .i64 U.next) (v6 := (.slice su U.parts.length zu)) (At.at AU.out 3 rfl)).2.1 (by first | (simp; done) | (simp; omega)) (At.erase AU.out 3)⟩)); have E14 := Lib.hid ((((store_7 (v0 := .int .i64 U.belt.step) (v1 := .int .i64 U.belt.slip) (v2 := .int .i64 U.belt.gate) (v3 := .int .i64 U.belt.length) (v4 := .int .i64 U.count) (v5 := .int .i64 U.next) (v6 := (.slice su U.parts.length zu)) (At.at AU.out 3 rfl)).2.2 w (by omega) EU.out)).trans hb14); obtain ⟨⟨c14_0_0, c14_0_1, c14_0_2, c14_0_3, c14_0_4, c14_0_5, c14_0_6⟩, f14_0_0, f14_0_1, f14_0_2, f14_0_3, f14_0_4, f14_0_5, f14_0_6⟩ := run_7 (At.at A14.out 0 rfl); have s14_0 : B1 < w14.heap.size := At.lt A14.out 0 rfl; obtain ⟨⟨c14_1_0, c14_1_1, c14_1_2, c14_1_3, c14_1_4, c14_1_5, c14_1_6⟩, f14_1_0, f14_1_1, f14_1_2, f14_1_3, f14_1_4, f14_1_5, f14_1_6⟩ := run_7 (At.at A14.out 1 rfl); have s14_1 : bT < w14.heap.size := At.lt A14.out 1 rfl; obtain ⟨⟨c14_2_0, c14_2_1, c14_2_2, c14_2_3, c14_2_4, c14_2_5, c14_2_6⟩, f14_2_0, f14_2_1, f14_2_2, f14_2_3, f14_2_4, f14_2_5, f14_2_6⟩ := run_7 (At.at A14.out 2 rfl); have s14_2 : BX < w14.heap.size := At.lt A14.out 2 rfl; obtain ⟨⟨c14_3_0, c14_3_1, c14_3_2⟩, f14_3_0, f14_3_1, f14_3_2⟩ := run_3 (At.at A14.out 3 rfl); have s14_3 : B1 + 1 < w14.heap.size := At.lt A14.out 3 rfl; obtain ⟨c14_4_0, f14_4_0⟩ := run_1 (At.at A14.out 4 rfl); have s14_4 : B3 < w14.heap.size := At.lt A14.out 4 rfl; obtain ⟨⟨c14_5_0, c14_5_1, c14_5_2, c14_5_3⟩, f14_5_0, f14_5_1, f14_5_2, f14_5_3⟩ := run_4 (At.at A14.out 5 rfl); have s14_5 : w.heap.size < w14.heap.size := At.lt A14.out 5 rfl; obtain ⟨⟨c14_6_0, c14_6_1, c14_6_2⟩, f14_6_0, f14_6_1, f14_6_2⟩ := run_3 (At.at A14.out 6 rfl); have s14_6 : w.heap.size + 1 < w14.heap.size := At.lt A14.out 6 rfl; (try clear c13_0_0 c13_0_1 c13_0_2 c13_0_3 c13_0_4 c13_0_5 c13_0_6 f13_0_0 f13_0_1 f13_0_2 f13_0_3 f13_0_4 f13_0_5 f13_0_6 c13_1_0 c13_1_1 c13_1_2 c13_1_3 c13_1_4 c13_1_5 c13_1_6 f13_1_0 f13_1_1 f13_1_2 f13_1_3 f13_1_4 f13_1_5 f13_1_6 c13_2_0 c13_2_1 c13_2_2 f13_2_0 f13_2_1 f13_2_2 c13_3_0 c13_3_1 c13_3_2 c13_3_3 c13_3_4 c13_3_5 c13_3_6 f13_3_0 f13_3_1 f13_3_2 f13_3_3 f13_3_4 f13_3_5 f13_3_6 c13_4_0 f13_4_0 c13_5_0 c13_5_1 c13_5_2 c13_5_3 f13_5_0 f13_5_1 f13_5_2 f13_5_3 c13_6_0 c13_6_1 c13_6_2 f13_6_0 f13_6_1 f13_6_2 s13_0 s13_1 s13_2 s13_3 s13_4 s13_5 s13_6); have RU_14 := Lib.hid (owns_ext ((own_seven (HOU.out) (by omega))) hb14); have HF_14 := Lib.hid (owns_ext ((own_seven (HFU.out) (by omega))) hb14); obtain ⟨-, sz, zz, hv14, -⟩ := SlAt.of_owns o14; subst hv14; obtain ⟨-, fl, gl, hf14, -⟩ := SlAt.of_owns p14; subst hf14; have RZ := Lib.hid (owns_base o14 (show wt.heap.size ≤ _ by simp)); have FL := Lib.hid (owns_base p14 (show wt.heap.size ≤ _ by simp)); clear o14 p14)))
          go_roundw
          case rel =>
            refine ⟨k + 1, by omega, by go_num, Lib.hid ⟨Z, fs ++ l, .slice sz Z.parts.length zz, E5.out, H5.out, owns_base Z5.out (by omega), ?_, by simp at G5; omega, by simp; omega, HE4.out.1, HE4.out.2.1, HE4.out.2.2⟩⟩
            rw [List.length_append, fatesL_append]
            exact F5.out
          case measure => simp [intOf]; omega
    · obtain ⟨wz, hwz⟩ : ∃ x, x = wr := ⟨_, rfl⟩
      subst hwz
      have hk3 : k = 3 := by omega
      rw [hk3] at hsim hct
      have tk1 : decide ((k : Int) < 3) = false := decide_eq_false (by omega)
      have tk2 : decide (k < 3) = false := decide_eq_false (by omega)
      clear hk3
      obtain ⟨hpa, hfs⟩ := hit_wants HO.out.1 HGO.out.1 HGO.out.2 hsim (by rw [hct]; have := HO.out.2.1; show (one : Int) + two + final b ≤ (one : Int) + two + 1000; omega)
      rw [HO.out.2.2, bad_verd, bad_verd, bad_verd] at hfs
      have hp0 : t.parts.length = 0 := by rw [hpa]; rfl
      have hv9 := hv.2
      rw [hp0] at hv
      subst hfs
      obtain ⟨q0, hq0⟩ : ∃ q, (x0 % 3 != 0) = q := ⟨_, rfl⟩
      obtain ⟨q1, hq1⟩ : ∃ q, (x1 % 3 != 0) = q := ⟨_, rfl⟩
      obtain ⟨q2, hq2⟩ : ∃ q, (x2 % 3 != 0) = q := ⟨_, rfl⟩
      obtain ⟨d1, hd1⟩ : ∃ q, decide ((one : Int) < cl) = q := ⟨_, rfl⟩
      obtain ⟨d2, hd2⟩ : ∃ q, decide ((two : Int) < cl) = q := ⟨_, rfl⟩
      obtain ⟨d3, hd3⟩ : ∃ q, decide ((one : Int) + (two : Int) < cl) = q := ⟨_, rfl⟩
      rw [hq0, hq1, hq2, hd1, hd2, hd3] at hf
      obtain ⟨⟨g0, g1, g2⟩, gf⟩ := run_3 (At.at hA 4 rfl)
      obtain ⟨gc, gcf⟩ := run_1 (At.at hA 2 rfl)
      have KB0 : Hid (∀ w' : World, Ext wz w' → Calls Try.prog 47 #[.int .i64 0, .pointer (some ⟨w.heap.size + 1, 0, none⟩)] w' fun e w'' => e = .returned (.bool (x0 % 3 != 0)) ∧ Ext w' w'') := Lib.hid (fun w' h => w47 (w.heap.size + 1) 0 x0 (by omega) y0 w' (h.get g0))
      have KB1 : Hid (∀ w' : World, Ext wz w' → Calls Try.prog 47 #[.int .i64 1, .pointer (some ⟨w.heap.size + 1, 0, none⟩)] w' fun e w'' => e = .returned (.bool (x1 % 3 != 0)) ∧ Ext w' w'') := Lib.hid (fun w' h => w47 (w.heap.size + 1) 1 x1 (by omega) y1 w' (h.get g1))
      have KB2 : Hid (∀ w' : World, Ext wz w' → Calls Try.prog 47 #[.int .i64 2, .pointer (some ⟨w.heap.size + 1, 0, none⟩)] w' fun e w'' => e = .returned (.bool (x2 % 3 != 0)) ∧ Ext w' w'') := Lib.hid (fun w' h => w47 (w.heap.size + 1) 2 x2 (by omega) y2 w' (h.get g2))
      have KN1 := Lib.hid (fun (w' : World) (h : Ext wz w') => w48 B3 (one : Int) cl w' (h.get gc))
      have KN2 := Lib.hid (fun (w' : World) (h : Ext wz w') => w48 B3 (two : Int) cl w' (h.get gc))
      have KN3 := Lib.hid (fun (w' : World) (h : Ext wz w') => w48 B3 ((one : Int) + (two : Int)) cl w' (h.get gc))
      rw [hq0] at KB0
      rw [hq1] at KB1
      rw [hq2] at KB2
      rw [hd1] at KN1
      rw [hd2] at KN2
      rw [hd3] at KN3
      obtain ⟨W0, hW0⟩ : ∃ q, (q0 || (q1 && d1 || q2 && d3)) = q := ⟨_, rfl⟩
      obtain ⟨W1, hW1⟩ : ∃ q, (q1 || (q0 && d1 || q2 && d2)) = q := ⟨_, rfl⟩
      obtain ⟨W2, hW2⟩ : ∃ q, (q2 || (q1 && d2 || q0 && d3)) = q := ⟨_, rfl⟩
      rw [hW0, hW1, hW2] at hf
      have HW := Lib.hid (And.intro hW0 (And.intro hW1 hW2))
      clear hW0 hW1 hW2
      obtain ⟨sa, sc, hvp, -⟩ := SlAt.form0 (SlAt.of_owns hv)
      subst hvp
      obtain ⟨fa, fc, hfp, -, hfc⟩ := FatesAt.form (fates_own hf rfl : FatesAt wz u17 [⟨0, verd x0, W0⟩, ⟨1, verd x1, W1⟩, ⟨2, verd x2, W2⟩])
      have hfp : u17 = .slice fa 3 fc := hfp
      subst hfp
      obtain ⟨⟨t0, t1, t2, t3, t4, t5, t6⟩, -⟩ := run_7 (At.at hA 1 rfl)
      have hB1z := At.lt hA 1 rfl
      have hB3z := At.lt hA 2 rfl
      have hx1z := At.lt hA 4 rfl
      have HX : Ext wz wz := Ext.refl _
      have HF9 := Lib.hid hfc
      have HE := Lib.hid hE
      clear hfc hsim hct hnx hE hq0 hq1 hq2 hd1 hd2 hd3 hf hv hv9 hpa hS gf gcf hfl hk hkl
      try clear hB1z
      try clear HGO
      try clear n2
      try clear n1
      try clear hfl
      try clear hsz
      try clear zE
      try clear z3
      try clear zz
      try clear EL
      try clear AL
      try clear HW0
      try clear HC
      try clear K29
      try clear K21
      try clear K17
      try clear KA
      try clear f4_3_3
      try clear f4_3_2
      try clear f4_3_1
      try clear f4_3_0
      try clear c4_3_3
      try clear c4_3_2
      try clear c4_3_1
      try clear c4_3_0
      try clear s4_3
      try clear f4_2_3
      try clear f4_2_2
      try clear f4_2_1
      try clear f4_2_0
      try clear c4_2_3
      try clear c4_2_2
      try clear c4_2_1
      try clear c4_2_0
      try clear s4_2
      try clear f4_1_3
      try clear f4_1_2
      try clear f4_1_1
      try clear f4_1_0
      try clear c4_1_3
      try clear c4_1_2
      try clear c4_1_1
      try clear c4_1_0
      try clear s4_1
      try clear f4_0_3
      try clear f4_0_2
      try clear f4_0_1
      try clear f4_0_0
      try clear c4_0_3
      try clear c4_0_2
      try clear c4_0_1
      try clear c4_0_0
      try clear s4_0
      try clear hb4
      try clear E4
      try clear A4
      try clear f3_3_3
      try clear f3_3_2
      try clear f3_3_1
      try clear f3_3_0
      try clear c3_3_3
      try clear c3_3_2
      try clear c3_3_1
      try clear c3_3_0
      try clear s3_3
      try clear f3_2_3
      try clear f3_2_2
      try clear f3_2_1
      try clear f3_2_0
      try clear c3_2_3
      try clear c3_2_2
      try clear c3_2_1
      try clear c3_2_0
      try clear s3_2
      try clear f3_1_3
      try clear f3_1_2
      try clear f3_1_1
      try clear f3_1_0
      try clear c3_1_3
      try clear c3_1_2
      try clear c3_1_1
      try clear c3_1_0
      try clear s3_1
      try clear f3_0_3
      try clear f3_0_2
      try clear f3_0_1
      try clear f3_0_0
      try clear c3_0_3
      try clear c3_0_2
      try clear c3_0_1
      try clear c3_0_0
      try clear s3_0
      try clear hb3
      try clear E3
      try clear A3
      try clear f2_3_3
      try clear f2_3_2
      try clear f2_3_1
      try clear f2_3_0
      try clear c2_3_3
      try clear c2_3_2
      try clear c2_3_1
      try clear c2_3_0
      try clear s2_3
      try clear f2_2_3
      try clear f2_2_2
      try clear f2_2_1
      try clear f2_2_0
      try clear c2_2_3
      try clear c2_2_2
      try clear c2_2_1
      try clear c2_2_0
      try clear s2_2
      try clear f2_1_3
      try clear f2_1_2
      try clear f2_1_1
      try clear f2_1_0
      try clear c2_1_3
      try clear c2_1_2
      try clear c2_1_1
      try clear c2_1_0
      try clear s2_1
      try clear f2_0_3
      try clear f2_0_2
      try clear f2_0_1
      try clear f2_0_0
      try clear c2_0_3
      try clear c2_0_2
      try clear c2_0_1
      try clear c2_0_0
      try clear s2_0
      try clear hb2
      try clear E2
      try clear A2
      try clear f1_3_3
      try clear f1_3_2
      try clear f1_3_1
      try clear f1_3_0
      try clear c1_3_3
      try clear c1_3_2
      try clear c1_3_1
      try clear c1_3_0
      try clear s1_3
      try clear f1_2_3
      try clear f1_2_2
      try clear f1_2_1
      try clear f1_2_0
      try clear c1_2_3
      try clear c1_2_2
      try clear c1_2_1
      try clear c1_2_0
      try clear s1_2
      try clear f1_1_3
      try clear f1_1_2
      try clear f1_1_1
      try clear f1_1_0
      try clear c1_1_3
      try clear c1_1_2
      try clear c1_1_1
      try clear c1_1_0
      try clear s1_1
      try clear f1_0_3
      try clear f1_0_2
      try clear f1_0_1
      try clear f1_0_0
      try clear c1_0_3
      try clear c1_0_2
      try clear c1_0_1
      try clear c1_0_0
      try clear s1_0
      try clear hb1
      try clear E1
      try clear A1
      go_upto_region 31 with fail
      go_cut [31] (fun s wx => ∃ b, s = .pointer (some ⟨b, 0, none⟩) ∧ Ext wz wx ∧ wx.heap[b]? = some (.cells #[.bool W0, .bool W1, .bool W2] 91))
      case first => as_aux_lemma =>
        obtain ⟨m0, hm0⟩ : ∃ q, (q0 || (q1 && d1)) = q := ⟨_, rfl⟩
        have HM0 := Lib.hid hm0
        obtain ⟨m1, hm1⟩ : ∃ q, (q1 || (q0 && d1)) = q := ⟨_, rfl⟩
        have HM1 := Lib.hid hm1
        obtain ⟨m2, hm2⟩ : ∃ q, (q2 || (q1 && d2)) = q := ⟨_, rfl⟩
        have HM2 := Lib.hid hm2
        have HV0 := Lib.hid (show (m0 || (q2 && d3)) = W0 by rw [← HM0.out, ← HW.out.1, Bool.or_assoc])
        have HV1 := Lib.hid (show (m1 || (q2 && d2)) = W1 by rw [← HM1.out, ← HW.out.2.1, Bool.or_assoc])
        have HV2 := Lib.hid (show (m2 || (q0 && d3)) = W2 by rw [← HM2.out, ← HW.out.2.2, Bool.or_assoc])
        clear hm0 hm1 hm2
        have hw_one : IntKind.i64.wrap (one : Int) = (one : Int) := by simp [IntKind.wrap, IntKind.bits, IntKind.signed]; omega
        have hw_two : IntKind.i64.wrap (two : Int) = (two : Int) := by simp [IntKind.wrap, IntKind.bits, IntKind.signed]; omega
        have hw_sum : IntKind.i64.wrap ((one : Int) + (two : Int)) = (one : Int) + (two : Int) := by simp [IntKind.wrap, IntKind.bits, IntKind.signed]; omega
        have hst := RG.stab_vals [.func (.func 47) #[] #[.pointer (some ⟨w.heap.size + 1, 0, none⟩)], .bool q0, .bool q0, RG.cv (!q0) (.func (.func 47) #[] #[.pointer (some ⟨w.heap.size + 1, 0, none⟩)]), RG.cv (!q0) (.bool q1), RG.cv (!q0) (.bool q1), RG.cv (!q0 && q1) (.func (.func 48) #[] #[.pointer (some ⟨B3, 0, none⟩)]), RG.cv (!q0 && q1) (.int .u8 (one : Int)), RG.cv (!q0 && q1) (.int .i64 (one : Int)), RG.cv (!q0 && q1) (.bool d1), RG.cv (!q0) (.bool (q1 && d1)), .bool m0, .bool m0, RG.cv (!m0) (.func (.func 47) #[] #[.pointer (some ⟨w.heap.size + 1, 0, none⟩)]), RG.cv (!m0) (.bool q2), RG.cv (!m0) (.bool q2), RG.cv (!m0 && q2) (.func (.func 48) #[] #[.pointer (some ⟨B3, 0, none⟩)]), RG.cv (!m0 && q2) (.int .u8 (one : Int)), RG.cv (!m0 && q2) (.int .i64 (one : Int)), RG.cv (!m0 && q2) (.int .u8 (two : Int)), RG.cv (!m0 && q2) (.int .i64 (two : Int)), RG.cv (!m0 && q2) (.int .i64 ((one : Int) + (two : Int))), RG.cv (!m0 && q2) (.bool d3), RG.cv (!m0) (.bool (q2 && d3)), .bool W0, .func (.func 47) #[] #[.pointer (some ⟨w.heap.size + 1, 0, none⟩)], .bool q1, .bool q1, RG.cv (!q1) (.func (.func 47) #[] #[.pointer (some ⟨w.heap.size + 1, 0, none⟩)]), RG.cv (!q1) (.bool q0), RG.cv (!q1) (.bool q0), RG.cv (!q1 && q0) (.func (.func 48) #[] #[.pointer (some ⟨B3, 0, none⟩)]), RG.cv (!q1 && q0) (.int .u8 (one : Int)), RG.cv (!q1 && q0) (.int .i64 (one : Int)), RG.cv (!q1 && q0) (.bool d1), RG.cv (!q1) (.bool (q0 && d1)), .bool m1, .bool m1, RG.cv (!m1) (.func (.func 47) #[] #[.pointer (some ⟨w.heap.size + 1, 0, none⟩)]), RG.cv (!m1) (.bool q2), RG.cv (!m1) (.bool q2), RG.cv (!m1 && q2) (.func (.func 48) #[] #[.pointer (some ⟨B3, 0, none⟩)]), RG.cv (!m1 && q2) (.int .u8 (two : Int)), RG.cv (!m1 && q2) (.int .i64 (two : Int)), RG.cv (!m1 && q2) (.bool d2), RG.cv (!m1) (.bool (q2 && d2)), .bool W1, .func (.func 47) #[] #[.pointer (some ⟨w.heap.size + 1, 0, none⟩)], .bool q2, .bool q2, RG.cv (!q2) (.func (.func 47) #[] #[.pointer (some ⟨w.heap.size + 1, 0, none⟩)]), RG.cv (!q2) (.bool q1), RG.cv (!q2) (.bool q1), RG.cv (!q2 && q1) (.func (.func 48) #[] #[.pointer (some ⟨B3, 0, none⟩)]), RG.cv (!q2 && q1) (.int .u8 (two : Int)), RG.cv (!q2 && q1) (.int .i64 (two : Int)), RG.cv (!q2 && q1) (.bool d2), RG.cv (!q2) (.bool (q1 && d2)), .bool m2, .bool m2, RG.cv (!m2) (.func (.func 47) #[] #[.pointer (some ⟨w.heap.size + 1, 0, none⟩)]), RG.cv (!m2) (.bool q0), RG.cv (!m2) (.bool q0), RG.cv (!m2 && q0) (.func (.func 48) #[] #[.pointer (some ⟨B3, 0, none⟩)]), RG.cv (!m2 && q0) (.int .u8 (one : Int)), RG.cv (!m2 && q0) (.int .i64 (one : Int)), RG.cv (!m2 && q0) (.int .u8 (two : Int)), RG.cv (!m2 && q0) (.int .i64 (two : Int)), RG.cv (!m2 && q0) (.int .i64 ((one : Int) + (two : Int))), RG.cv (!m2 && q0) (.bool d3), RG.cv (!m2) (.bool (q0 && d3)), .bool W2, .agg #[.bool W0, .bool W1, .bool W2]]
        refine RG.wp_seq ((RG.vals [.func (.func 47) #[] #[.pointer (some ⟨w.heap.size + 1, 0, none⟩)], .bool q0, .bool q0, RG.cv (!q0) (.func (.func 47) #[] #[.pointer (some ⟨w.heap.size + 1, 0, none⟩)]), RG.cv (!q0) (.bool q1), RG.cv (!q0) (.bool q1), RG.cv (!q0 && q1) (.func (.func 48) #[] #[.pointer (some ⟨B3, 0, none⟩)]), RG.cv (!q0 && q1) (.int .u8 (one : Int)), RG.cv (!q0 && q1) (.int .i64 (one : Int)), RG.cv (!q0 && q1) (.bool d1), RG.cv (!q0) (.bool (q1 && d1)), .bool m0, .bool m0, RG.cv (!m0) (.func (.func 47) #[] #[.pointer (some ⟨w.heap.size + 1, 0, none⟩)]), RG.cv (!m0) (.bool q2), RG.cv (!m0) (.bool q2), RG.cv (!m0 && q2) (.func (.func 48) #[] #[.pointer (some ⟨B3, 0, none⟩)]), RG.cv (!m0 && q2) (.int .u8 (one : Int)), RG.cv (!m0 && q2) (.int .i64 (one : Int)), RG.cv (!m0 && q2) (.int .u8 (two : Int)), RG.cv (!m0 && q2) (.int .i64 (two : Int)), RG.cv (!m0 && q2) (.int .i64 ((one : Int) + (two : Int))), RG.cv (!m0 && q2) (.bool d3), RG.cv (!m0) (.bool (q2 && d3)), .bool W0, .func (.func 47) #[] #[.pointer (some ⟨w.heap.size + 1, 0, none⟩)], .bool q1, .bool q1, RG.cv (!q1) (.func (.func 47) #[] #[.pointer (some ⟨w.heap.size + 1, 0, none⟩)]), RG.cv (!q1) (.bool q0), RG.cv (!q1) (.bool q0), RG.cv (!q1 && q0) (.func (.func 48) #[] #[.pointer (some ⟨B3, 0, none⟩)]), RG.cv (!q1 && q0) (.int .u8 (one : Int)), RG.cv (!q1 && q0) (.int .i64 (one : Int)), RG.cv (!q1 && q0) (.bool d1), RG.cv (!q1) (.bool (q0 && d1)), .bool m1, .bool m1, RG.cv (!m1) (.func (.func 47) #[] #[.pointer (some ⟨w.heap.size + 1, 0, none⟩)]), RG.cv (!m1) (.bool q2), RG.cv (!m1) (.bool q2), RG.cv (!m1 && q2) (.func (.func 48) #[] #[.pointer (some ⟨B3, 0, none⟩)]), RG.cv (!m1 && q2) (.int .u8 (two : Int)), RG.cv (!m1 && q2) (.int .i64 (two : Int)), RG.cv (!m1 && q2) (.bool d2), RG.cv (!m1) (.bool (q2 && d2)), .bool W1, .func (.func 47) #[] #[.pointer (some ⟨w.heap.size + 1, 0, none⟩)], .bool q2, .bool q2, RG.cv (!q2) (.func (.func 47) #[] #[.pointer (some ⟨w.heap.size + 1, 0, none⟩)]), RG.cv (!q2) (.bool q1), RG.cv (!q2) (.bool q1), RG.cv (!q2 && q1) (.func (.func 48) #[] #[.pointer (some ⟨B3, 0, none⟩)]), RG.cv (!q2 && q1) (.int .u8 (two : Int)), RG.cv (!q2 && q1) (.int .i64 (two : Int)), RG.cv (!q2 && q1) (.bool d2), RG.cv (!q2) (.bool (q1 && d2)), .bool m2, .bool m2, RG.cv (!m2) (.func (.func 47) #[] #[.pointer (some ⟨w.heap.size + 1, 0, none⟩)]), RG.cv (!m2) (.bool q0), RG.cv (!m2) (.bool q0), RG.cv (!m2 && q0) (.func (.func 48) #[] #[.pointer (some ⟨B3, 0, none⟩)]), RG.cv (!m2 && q0) (.int .u8 (one : Int)), RG.cv (!m2 && q0) (.int .i64 (one : Int)), RG.cv (!m2 && q0) (.int .u8 (two : Int)), RG.cv (!m2 && q0) (.int .i64 (two : Int)), RG.cv (!m2 && q0) (.int .i64 ((one : Int) + (two : Int))), RG.cv (!m2 && q0) (.bool d3), RG.cv (!m2) (.bool (q0 && d3)), .bool W2, .agg #[.bool W0, .bool W1, .bool W2]])) (by kernel_rfl) (by kernel_rfl) ?_ ?_
        · simp only [RG.vals, List.map_cons, List.map_nil, List.length_cons, List.length_nil, List.take_succ_cons, List.take_zero, RG.Steps, and_true, Nat.reduceAdd]
          refine ⟨?_, ?_, ?_, ?_, ?_, ?_, ?_, ?_, ?_, ?_, ?_, ?_, ?_, ?_, ?_, ?_, ?_, ?_, ?_, ?_, ?_, ?_, ?_, ?_, ?_, ?_, ?_, ?_, ?_, ?_, ?_, ?_, ?_, ?_, ?_, ?_, ?_, ?_, ?_, ?_, ?_, ?_, ?_, ?_, ?_, ?_, ?_, ?_, ?_, ?_, ?_, ?_, ?_, ?_, ?_, ?_, ?_, ?_, ?_, ?_, ?_, ?_, ?_, ?_, ?_, ?_, ?_, ?_, ?_, ?_, ?_, ?_, ?_, True.intro⟩
          · exact RG.st_move rfl rfl (by kernel_rfl) (fun _ _ => rfl) hst
          · refine RG.st_closure rfl (fun _ => rfl) hst (f := 47) (args := #[.int .i64 0, .pointer (some ⟨w.heap.size + 1, 0, none⟩)]) (fun a wx hw hr => ?_) (fun wx hw => KB0.out wx hw)
            have p0 : a.tmps.getD 148 undef = .func (.func 47) #[] #[.pointer (some ⟨w.heap.size + 1, 0, none⟩)] := RG.read_in (t := 148) (j := 0) hr (by kernel_rfl) (by kernel_rfl)
            refine RG.run_closure (x := .const (.int .i64 0)) (ats := #[3]) ?_ p0 Try.func47 (by kernel_rfl) (by kernel_rfl)
            rfl
          · refine RG.st_run rfl (fun a wx hw hr => ⟨.bool q0, wx, ?_, Ext.refl _, (rfl : (.bool q0 : Value) = .bool q0)⟩) hst
            have p0 := RG.read_in (t := 149) (j := 1) hr (by kernel_rfl) (by kernel_rfl)
            have r0 : a.tmps[149]?.getD undef = .bool q0 := (Array.getD_eq_getD_getElem? ..).symm.trans p0
            clear hr hst p0
            simp [execOp, go_sem, r0]
          · refine RG.st_cv (g := 2) (tg := 150) (want := false) (Cg := true) (Bg := q0) (C := (!q0)) (X := .func (.func 47) #[] #[.pointer (some ⟨w.heap.size + 1, 0, none⟩)]) rfl (by kernel_rfl) (by cases q0 <;> rfl) (fun a wx hr => RG.read_in (t := 150) (j := 2) hr (by kernel_rfl) (by kernel_rfl)) (fun v wx h => h) hst (fun hc a wx hw hr => ?_)
            have p0 := RG.read_out (t := 29) hr (by kernel_rfl) (by kernel_rfl)
            have r0 : a.tmps[29]?.getD undef = .func (.func 47) #[] #[.pointer (some ⟨w.heap.size + 1, 0, none⟩)] := (Array.getD_eq_getD_getElem? ..).symm.trans p0
            clear hr hst p0
            simp [execOp, go_sem, r0]
          · refine RG.st_cv_call (g := 2) (tg := 150) (want := false) (Cg := true) (Bg := q0) (C := (!q0)) (X := .bool q1) rfl (by kernel_rfl) (by cases q0 <;> rfl) (fun a wx hr => RG.read_in (t := 150) (j := 2) hr (by kernel_rfl) (by kernel_rfl)) (fun v wx h => h) hst (f := 47) (args := #[.int .i64 1, .pointer (some ⟨w.heap.size + 1, 0, none⟩)]) (fun hc a wx hw hr => ?_) (fun wx hw => KB1.out wx hw)
            have p0 : a.tmps.getD 151 undef = RG.cv (!q0) (.func (.func 47) #[] #[.pointer (some ⟨w.heap.size + 1, 0, none⟩)]) := RG.read_in (t := 151) (j := 3) hr (by kernel_rfl) (by kernel_rfl)
            rw [show (!q0) = true from hc] at p0
            replace p0 : a.tmps.getD 151 undef = .func (.func 47) #[] #[.pointer (some ⟨w.heap.size + 1, 0, none⟩)] := p0
            refine RG.run_closure (x := .const (.int .i64 1)) (ats := #[3]) ?_ p0 Try.func47 (by kernel_rfl) (by kernel_rfl)
            rfl
          · refine RG.st_cv (g := 2) (tg := 150) (want := false) (Cg := true) (Bg := q0) (C := (!q0)) (X := .bool q1) rfl (by kernel_rfl) (by cases q0 <;> rfl) (fun a wx hr => RG.read_in (t := 150) (j := 2) hr (by kernel_rfl) (by kernel_rfl)) (fun v wx h => h) hst (fun hc a wx hw hr => ?_)
            have p0 := RG.read_in (t := 152) (j := 4) hr (by kernel_rfl) (by kernel_rfl)
            have r0 : a.tmps[152]?.getD undef = RG.cv (!q0) (.bool q1) := (Array.getD_eq_getD_getElem? ..).symm.trans p0
            rw [show (!q0) = true from hc] at r0
            replace r0 : a.tmps[152]?.getD undef = .bool q1 := r0
            clear hr hst p0
            simp [execOp, go_sem, r0]
          · refine RG.st_cv (g := 5) (tg := 153) (want := true) (Cg := (!q0)) (Bg := q1) (C := (!q0 && q1)) (X := .func (.func 48) #[] #[.pointer (some ⟨B3, 0, none⟩)]) rfl (by kernel_rfl) (by cases q0 <;> cases q1 <;> rfl) (fun a wx hr => RG.read_in (t := 153) (j := 5) hr (by kernel_rfl) (by kernel_rfl)) (fun v wx h => h) hst (fun hc a wx hw hr => ?_)
            have p0 := RG.read_out (t := 30) hr (by kernel_rfl) (by kernel_rfl)
            have r0 : a.tmps[30]?.getD undef = .func (.func 48) #[] #[.pointer (some ⟨B3, 0, none⟩)] := (Array.getD_eq_getD_getElem? ..).symm.trans p0
            clear hr hst p0
            simp [execOp, go_sem, r0]
          · refine RG.st_cv (g := 5) (tg := 153) (want := true) (Cg := (!q0)) (Bg := q1) (C := (!q0 && q1)) (X := .int .u8 (one : Int)) rfl (by kernel_rfl) (by cases q0 <;> cases q1 <;> rfl) (fun a wx hr => RG.read_in (t := 153) (j := 5) hr (by kernel_rfl) (by kernel_rfl)) (fun v wx h => h) hst (fun hc a wx hw hr => ?_)
            have p0 := RG.read_out (t := 1) hr (by kernel_rfl) (by kernel_rfl)
            have r0 : a.tmps[1]?.getD undef = .int .u8 (one : Int) := (Array.getD_eq_getD_getElem? ..).symm.trans p0
            clear hr hst p0
            simp [execOp, go_sem, r0]
          · refine RG.st_cv (g := 5) (tg := 153) (want := true) (Cg := (!q0)) (Bg := q1) (C := (!q0 && q1)) (X := .int .i64 (one : Int)) rfl (by kernel_rfl) (by cases q0 <;> cases q1 <;> rfl) (fun a wx hr => RG.read_in (t := 153) (j := 5) hr (by kernel_rfl) (by kernel_rfl)) (fun v wx h => h) hst (fun hc a wx hw hr => ?_)
            have p0 := RG.read_in (t := 155) (j := 7) hr (by kernel_rfl) (by kernel_rfl)
            have r0 : a.tmps[155]?.getD undef = RG.cv (!q0 && q1) (.int .u8 (one : Int)) := (Array.getD_eq_getD_getElem? ..).symm.trans p0
            rw [show (!q0 && q1) = true from hc] at r0
            replace r0 : a.tmps[155]?.getD undef = .int .u8 (one : Int) := r0
            clear hr hst p0
            simp [execOp, go_sem, r0, hw_one]
          · refine RG.st_cv_call (g := 5) (tg := 153) (want := true) (Cg := (!q0)) (Bg := q1) (C := (!q0 && q1)) (X := .bool d1) rfl (by kernel_rfl) (by cases q0 <;> cases q1 <;> rfl) (fun a wx hr => RG.read_in (t := 153) (j := 5) hr (by kernel_rfl) (by kernel_rfl)) (fun v wx h => h) hst (f := 48) (args := #[.int .i64 (one : Int), .pointer (some ⟨B3, 0, none⟩)]) (fun hc a wx hw hr => ?_) (fun wx hw => KN1.out wx hw)
            have p0 : a.tmps.getD 154 undef = RG.cv (!q0 && q1) (.func (.func 48) #[] #[.pointer (some ⟨B3, 0, none⟩)]) := RG.read_in (t := 154) (j := 6) hr (by kernel_rfl) (by kernel_rfl)
            rw [show (!q0 && q1) = true from hc] at p0
            replace p0 : a.tmps.getD 154 undef = .func (.func 48) #[] #[.pointer (some ⟨B3, 0, none⟩)] := p0
            have p1 : a.tmps.getD 156 undef = RG.cv (!q0 && q1) (.int .i64 (one : Int)) := RG.read_in (t := 156) (j := 8) hr (by kernel_rfl) (by kernel_rfl)
            rw [show (!q0 && q1) = true from hc] at p1
            replace p1 : a.tmps.getD 156 undef = .int .i64 (one : Int) := p1
            refine (RG.run_closure (x := .tmp 156) (ats := #[3]) ?_ p0 Try.func48 (by kernel_rfl) (by kernel_rfl)).trans ?_
            · rfl
            rw [show a.eval (.tmp 156) = .int .i64 (one : Int) from p1]
          · refine RG.st_cv (g := 2) (tg := 150) (want := false) (Cg := true) (Bg := q0) (C := (!q0)) (X := .bool (q1 && d1)) rfl (by kernel_rfl) (by cases q0 <;> rfl) (fun a wx hr => RG.read_in (t := 150) (j := 2) hr (by kernel_rfl) (by kernel_rfl)) (fun v wx h => h) hst (fun hc a wx hw hr => ?_)
            have p0 := RG.read_in (t := 153) (j := 5) hr (by kernel_rfl) (by kernel_rfl)
            have r0 : a.tmps[153]?.getD undef = RG.cv (!q0) (.bool q1) := (Array.getD_eq_getD_getElem? ..).symm.trans p0
            have p1 := RG.read_in (t := 157) (j := 9) hr (by kernel_rfl) (by kernel_rfl)
            have r1 : a.tmps[157]?.getD undef = RG.cv (!q0 && q1) (.bool d1) := (Array.getD_eq_getD_getElem? ..).symm.trans p1
            clear hr hst p0 p1
            cases q0 <;> cases q1 <;> first | exact absurd hc (by decide) | (simp [execOp, go_sem, r0, r1, RG.cv]; done)
          · refine RG.st_run rfl (fun a wx hw hr => ⟨.bool m0, wx, ?_, Ext.refl _, (rfl : (.bool m0 : Value) = .bool m0)⟩) hst
            have p0 := RG.read_in (t := 150) (j := 2) hr (by kernel_rfl) (by kernel_rfl)
            have r0 : a.tmps[150]?.getD undef = .bool q0 := (Array.getD_eq_getD_getElem? ..).symm.trans p0
            have p1 := RG.read_in (t := 158) (j := 10) hr (by kernel_rfl) (by kernel_rfl)
            have r1 : a.tmps[158]?.getD undef = RG.cv (!q0) (.bool (q1 && d1)) := (Array.getD_eq_getD_getElem? ..).symm.trans p1
            clear hr hst p0 p1
            have h9 := HM0.out
            rw [← h9]
            cases q0 <;> simp [execOp, go_sem, r0, r1, RG.cv]
          · refine RG.st_run rfl (fun a wx hw hr => ⟨.bool m0, wx, ?_, Ext.refl _, (rfl : (.bool m0 : Value) = .bool m0)⟩) hst
            have p0 := RG.read_in (t := 159) (j := 11) hr (by kernel_rfl) (by kernel_rfl)
            have r0 : a.tmps[159]?.getD undef = .bool m0 := (Array.getD_eq_getD_getElem? ..).symm.trans p0
            clear hr hst p0
            simp [execOp, go_sem, r0]
          · refine RG.st_cv (g := 12) (tg := 160) (want := false) (Cg := true) (Bg := m0) (C := (!m0)) (X := .func (.func 47) #[] #[.pointer (some ⟨w.heap.size + 1, 0, none⟩)]) rfl (by kernel_rfl) (by cases m0 <;> rfl) (fun a wx hr => RG.read_in (t := 160) (j := 12) hr (by kernel_rfl) (by kernel_rfl)) (fun v wx h => h) hst (fun hc a wx hw hr => ?_)
            have p0 := RG.read_out (t := 29) hr (by kernel_rfl) (by kernel_rfl)
            have r0 : a.tmps[29]?.getD undef = .func (.func 47) #[] #[.pointer (some ⟨w.heap.size + 1, 0, none⟩)] := (Array.getD_eq_getD_getElem? ..).symm.trans p0
            clear hr hst p0
            simp [execOp, go_sem, r0]
          · refine RG.st_cv_call (g := 12) (tg := 160) (want := false) (Cg := true) (Bg := m0) (C := (!m0)) (X := .bool q2) rfl (by kernel_rfl) (by cases m0 <;> rfl) (fun a wx hr => RG.read_in (t := 160) (j := 12) hr (by kernel_rfl) (by kernel_rfl)) (fun v wx h => h) hst (f := 47) (args := #[.int .i64 2, .pointer (some ⟨w.heap.size + 1, 0, none⟩)]) (fun hc a wx hw hr => ?_) (fun wx hw => KB2.out wx hw)
            have p0 : a.tmps.getD 161 undef = RG.cv (!m0) (.func (.func 47) #[] #[.pointer (some ⟨w.heap.size + 1, 0, none⟩)]) := RG.read_in (t := 161) (j := 13) hr (by kernel_rfl) (by kernel_rfl)
            rw [show (!m0) = true from hc] at p0
            replace p0 : a.tmps.getD 161 undef = .func (.func 47) #[] #[.pointer (some ⟨w.heap.size + 1, 0, none⟩)] := p0
            refine RG.run_closure (x := .const (.int .i64 2)) (ats := #[3]) ?_ p0 Try.func47 (by kernel_rfl) (by kernel_rfl)
            rfl
          · refine RG.st_cv (g := 12) (tg := 160) (want := false) (Cg := true) (Bg := m0) (C := (!m0)) (X := .bool q2) rfl (by kernel_rfl) (by cases m0 <;> rfl) (fun a wx hr => RG.read_in (t := 160) (j := 12) hr (by kernel_rfl) (by kernel_rfl)) (fun v wx h => h) hst (fun hc a wx hw hr => ?_)
            have p0 := RG.read_in (t := 162) (j := 14) hr (by kernel_rfl) (by kernel_rfl)
            have r0 : a.tmps[162]?.getD undef = RG.cv (!m0) (.bool q2) := (Array.getD_eq_getD_getElem? ..).symm.trans p0
            rw [show (!m0) = true from hc] at r0
            replace r0 : a.tmps[162]?.getD undef = .bool q2 := r0
            clear hr hst p0
            simp [execOp, go_sem, r0]
          · refine RG.st_cv (g := 15) (tg := 163) (want := true) (Cg := (!m0)) (Bg := q2) (C := (!m0 && q2)) (X := .func (.func 48) #[] #[.pointer (some ⟨B3, 0, none⟩)]) rfl (by kernel_rfl) (by cases m0 <;> cases q2 <;> rfl) (fun a wx hr => RG.read_in (t := 163) (j := 15) hr (by kernel_rfl) (by kernel_rfl)) (fun v wx h => h) hst (fun hc a wx hw hr => ?_)
            have p0 := RG.read_out (t := 30) hr (by kernel_rfl) (by kernel_rfl)
            have r0 : a.tmps[30]?.getD undef = .func (.func 48) #[] #[.pointer (some ⟨B3, 0, none⟩)] := (Array.getD_eq_getD_getElem? ..).symm.trans p0
            clear hr hst p0
            simp [execOp, go_sem, r0]
          · refine RG.st_cv (g := 15) (tg := 163) (want := true) (Cg := (!m0)) (Bg := q2) (C := (!m0 && q2)) (X := .int .u8 (one : Int)) rfl (by kernel_rfl) (by cases m0 <;> cases q2 <;> rfl) (fun a wx hr => RG.read_in (t := 163) (j := 15) hr (by kernel_rfl) (by kernel_rfl)) (fun v wx h => h) hst (fun hc a wx hw hr => ?_)
            have p0 := RG.read_out (t := 1) hr (by kernel_rfl) (by kernel_rfl)
            have r0 : a.tmps[1]?.getD undef = .int .u8 (one : Int) := (Array.getD_eq_getD_getElem? ..).symm.trans p0
            clear hr hst p0
            simp [execOp, go_sem, r0]
          · refine RG.st_cv (g := 15) (tg := 163) (want := true) (Cg := (!m0)) (Bg := q2) (C := (!m0 && q2)) (X := .int .i64 (one : Int)) rfl (by kernel_rfl) (by cases m0 <;> cases q2 <;> rfl) (fun a wx hr => RG.read_in (t := 163) (j := 15) hr (by kernel_rfl) (by kernel_rfl)) (fun v wx h => h) hst (fun hc a wx hw hr => ?_)
            have p0 := RG.read_in (t := 165) (j := 17) hr (by kernel_rfl) (by kernel_rfl)
            have r0 : a.tmps[165]?.getD undef = RG.cv (!m0 && q2) (.int .u8 (one : Int)) := (Array.getD_eq_getD_getElem? ..).symm.trans p0
            rw [show (!m0 && q2) = true from hc] at r0
            replace r0 : a.tmps[165]?.getD undef = .int .u8 (one : Int) := r0
            clear hr hst p0
            simp [execOp, go_sem, r0, hw_one]
          · refine RG.st_cv (g := 15) (tg := 163) (want := true) (Cg := (!m0)) (Bg := q2) (C := (!m0 && q2)) (X := .int .u8 (two : Int)) rfl (by kernel_rfl) (by cases m0 <;> cases q2 <;> rfl) (fun a wx hr => RG.read_in (t := 163) (j := 15) hr (by kernel_rfl) (by kernel_rfl)) (fun v wx h => h) hst (fun hc a wx hw hr => ?_)
            have p0 := RG.read_out (t := 2) hr (by kernel_rfl) (by kernel_rfl)
            have r0 : a.tmps[2]?.getD undef = .int .u8 (two : Int) := (Array.getD_eq_getD_getElem? ..).symm.trans p0
            clear hr hst p0
            simp [execOp, go_sem, r0]
          · refine RG.st_cv (g := 15) (tg := 163) (want := true) (Cg := (!m0)) (Bg := q2) (C := (!m0 && q2)) (X := .int .i64 (two : Int)) rfl (by kernel_rfl) (by cases m0 <;> cases q2 <;> rfl) (fun a wx hr => RG.read_in (t := 163) (j := 15) hr (by kernel_rfl) (by kernel_rfl)) (fun v wx h => h) hst (fun hc a wx hw hr => ?_)
            have p0 := RG.read_in (t := 167) (j := 19) hr (by kernel_rfl) (by kernel_rfl)
            have r0 : a.tmps[167]?.getD undef = RG.cv (!m0 && q2) (.int .u8 (two : Int)) := (Array.getD_eq_getD_getElem? ..).symm.trans p0
            rw [show (!m0 && q2) = true from hc] at r0
            replace r0 : a.tmps[167]?.getD undef = .int .u8 (two : Int) := r0
            clear hr hst p0
            simp [execOp, go_sem, r0, hw_two]
          · refine RG.st_cv (g := 15) (tg := 163) (want := true) (Cg := (!m0)) (Bg := q2) (C := (!m0 && q2)) (X := .int .i64 ((one : Int) + (two : Int))) rfl (by kernel_rfl) (by cases m0 <;> cases q2 <;> rfl) (fun a wx hr => RG.read_in (t := 163) (j := 15) hr (by kernel_rfl) (by kernel_rfl)) (fun v wx h => h) hst (fun hc a wx hw hr => ?_)
            have p0 := RG.read_in (t := 166) (j := 18) hr (by kernel_rfl) (by kernel_rfl)
            have r0 : a.tmps[166]?.getD undef = RG.cv (!m0 && q2) (.int .i64 (one : Int)) := (Array.getD_eq_getD_getElem? ..).symm.trans p0
            have p1 := RG.read_in (t := 168) (j := 20) hr (by kernel_rfl) (by kernel_rfl)
            have r1 : a.tmps[168]?.getD undef = RG.cv (!m0 && q2) (.int .i64 (two : Int)) := (Array.getD_eq_getD_getElem? ..).symm.trans p1
            rw [show (!m0 && q2) = true from hc] at r0
            replace r0 : a.tmps[166]?.getD undef = .int .i64 (one : Int) := r0
            rw [show (!m0 && q2) = true from hc] at r1
            replace r1 : a.tmps[168]?.getD undef = .int .i64 (two : Int) := r1
            clear hr hst p0 p1
            simp [execOp, go_sem, r0, r1, hw_sum]
          · refine RG.st_cv_call (g := 15) (tg := 163) (want := true) (Cg := (!m0)) (Bg := q2) (C := (!m0 && q2)) (X := .bool d3) rfl (by kernel_rfl) (by cases m0 <;> cases q2 <;> rfl) (fun a wx hr => RG.read_in (t := 163) (j := 15) hr (by kernel_rfl) (by kernel_rfl)) (fun v wx h => h) hst (f := 48) (args := #[.int .i64 ((one : Int) + (two : Int)), .pointer (some ⟨B3, 0, none⟩)]) (fun hc a wx hw hr => ?_) (fun wx hw => KN3.out wx hw)
            have p0 : a.tmps.getD 164 undef = RG.cv (!m0 && q2) (.func (.func 48) #[] #[.pointer (some ⟨B3, 0, none⟩)]) := RG.read_in (t := 164) (j := 16) hr (by kernel_rfl) (by kernel_rfl)
            rw [show (!m0 && q2) = true from hc] at p0
            replace p0 : a.tmps.getD 164 undef = .func (.func 48) #[] #[.pointer (some ⟨B3, 0, none⟩)] := p0
            have p1 : a.tmps.getD 169 undef = RG.cv (!m0 && q2) (.int .i64 ((one : Int) + (two : Int))) := RG.read_in (t := 169) (j := 21) hr (by kernel_rfl) (by kernel_rfl)
            rw [show (!m0 && q2) = true from hc] at p1
            replace p1 : a.tmps.getD 169 undef = .int .i64 ((one : Int) + (two : Int)) := p1
            refine (RG.run_closure (x := .tmp 169) (ats := #[3]) ?_ p0 Try.func48 (by kernel_rfl) (by kernel_rfl)).trans ?_
            · rfl
            rw [show a.eval (.tmp 169) = .int .i64 ((one : Int) + (two : Int)) from p1]
          · refine RG.st_cv (g := 12) (tg := 160) (want := false) (Cg := true) (Bg := m0) (C := (!m0)) (X := .bool (q2 && d3)) rfl (by kernel_rfl) (by cases m0 <;> rfl) (fun a wx hr => RG.read_in (t := 160) (j := 12) hr (by kernel_rfl) (by kernel_rfl)) (fun v wx h => h) hst (fun hc a wx hw hr => ?_)
            have p0 := RG.read_in (t := 163) (j := 15) hr (by kernel_rfl) (by kernel_rfl)
            have r0 : a.tmps[163]?.getD undef = RG.cv (!m0) (.bool q2) := (Array.getD_eq_getD_getElem? ..).symm.trans p0
            have p1 := RG.read_in (t := 170) (j := 22) hr (by kernel_rfl) (by kernel_rfl)
            have r1 : a.tmps[170]?.getD undef = RG.cv (!m0 && q2) (.bool d3) := (Array.getD_eq_getD_getElem? ..).symm.trans p1
            clear hr hst p0 p1
            cases m0 <;> cases q2 <;> first | exact absurd hc (by decide) | (simp [execOp, go_sem, r0, r1, RG.cv]; done)
          · refine RG.st_run rfl (fun a wx hw hr => ⟨.bool W0, wx, ?_, Ext.refl _, (rfl : (.bool W0 : Value) = .bool W0)⟩) hst
            have p0 := RG.read_in (t := 160) (j := 12) hr (by kernel_rfl) (by kernel_rfl)
            have r0 : a.tmps[160]?.getD undef = .bool m0 := (Array.getD_eq_getD_getElem? ..).symm.trans p0
            have p1 := RG.read_in (t := 171) (j := 23) hr (by kernel_rfl) (by kernel_rfl)
            have r1 : a.tmps[171]?.getD undef = RG.cv (!m0) (.bool (q2 && d3)) := (Array.getD_eq_getD_getElem? ..).symm.trans p1
            clear hr hst p0 p1
            have h9 := HV0.out
            rw [← h9]
            cases m0 <;> simp [execOp, go_sem, r0, r1, RG.cv]
          · exact RG.st_move rfl rfl (by kernel_rfl) (fun _ _ => rfl) hst
          · refine RG.st_closure rfl (fun _ => rfl) hst (f := 47) (args := #[.int .i64 1, .pointer (some ⟨w.heap.size + 1, 0, none⟩)]) (fun a wx hw hr => ?_) (fun wx hw => KB1.out wx hw)
            have p0 : a.tmps.getD 173 undef = .func (.func 47) #[] #[.pointer (some ⟨w.heap.size + 1, 0, none⟩)] := RG.read_in (t := 173) (j := 25) hr (by kernel_rfl) (by kernel_rfl)
            refine RG.run_closure (x := .const (.int .i64 1)) (ats := #[3]) ?_ p0 Try.func47 (by kernel_rfl) (by kernel_rfl)
            rfl
          · refine RG.st_run rfl (fun a wx hw hr => ⟨.bool q1, wx, ?_, Ext.refl _, (rfl : (.bool q1 : Value) = .bool q1)⟩) hst
            have p0 := RG.read_in (t := 174) (j := 26) hr (by kernel_rfl) (by kernel_rfl)
            have r0 : a.tmps[174]?.getD undef = .bool q1 := (Array.getD_eq_getD_getElem? ..).symm.trans p0
            clear hr hst p0
            simp [execOp, go_sem, r0]
          · refine RG.st_cv (g := 27) (tg := 175) (want := false) (Cg := true) (Bg := q1) (C := (!q1)) (X := .func (.func 47) #[] #[.pointer (some ⟨w.heap.size + 1, 0, none⟩)]) rfl (by kernel_rfl) (by cases q1 <;> rfl) (fun a wx hr => RG.read_in (t := 175) (j := 27) hr (by kernel_rfl) (by kernel_rfl)) (fun v wx h => h) hst (fun hc a wx hw hr => ?_)
            have p0 := RG.read_out (t := 29) hr (by kernel_rfl) (by kernel_rfl)
            have r0 : a.tmps[29]?.getD undef = .func (.func 47) #[] #[.pointer (some ⟨w.heap.size + 1, 0, none⟩)] := (Array.getD_eq_getD_getElem? ..).symm.trans p0
            clear hr hst p0
            simp [execOp, go_sem, r0]
          · refine RG.st_cv_call (g := 27) (tg := 175) (want := false) (Cg := true) (Bg := q1) (C := (!q1)) (X := .bool q0) rfl (by kernel_rfl) (by cases q1 <;> rfl) (fun a wx hr => RG.read_in (t := 175) (j := 27) hr (by kernel_rfl) (by kernel_rfl)) (fun v wx h => h) hst (f := 47) (args := #[.int .i64 0, .pointer (some ⟨w.heap.size + 1, 0, none⟩)]) (fun hc a wx hw hr => ?_) (fun wx hw => KB0.out wx hw)
            have p0 : a.tmps.getD 176 undef = RG.cv (!q1) (.func (.func 47) #[] #[.pointer (some ⟨w.heap.size + 1, 0, none⟩)]) := RG.read_in (t := 176) (j := 28) hr (by kernel_rfl) (by kernel_rfl)
            rw [show (!q1) = true from hc] at p0
            replace p0 : a.tmps.getD 176 undef = .func (.func 47) #[] #[.pointer (some ⟨w.heap.size + 1, 0, none⟩)] := p0
            refine RG.run_closure (x := .const (.int .i64 0)) (ats := #[3]) ?_ p0 Try.func47 (by kernel_rfl) (by kernel_rfl)
            rfl
          · refine RG.st_cv (g := 27) (tg := 175) (want := false) (Cg := true) (Bg := q1) (C := (!q1)) (X := .bool q0) rfl (by kernel_rfl) (by cases q1 <;> rfl) (fun a wx hr => RG.read_in (t := 175) (j := 27) hr (by kernel_rfl) (by kernel_rfl)) (fun v wx h => h) hst (fun hc a wx hw hr => ?_)
            have p0 := RG.read_in (t := 177) (j := 29) hr (by kernel_rfl) (by kernel_rfl)
            have r0 : a.tmps[177]?.getD undef = RG.cv (!q1) (.bool q0) := (Array.getD_eq_getD_getElem? ..).symm.trans p0
            rw [show (!q1) = true from hc] at r0
            replace r0 : a.tmps[177]?.getD undef = .bool q0 := r0
            clear hr hst p0
            simp [execOp, go_sem, r0]
          · refine RG.st_cv (g := 30) (tg := 178) (want := true) (Cg := (!q1)) (Bg := q0) (C := (!q1 && q0)) (X := .func (.func 48) #[] #[.pointer (some ⟨B3, 0, none⟩)]) rfl (by kernel_rfl) (by cases q0 <;> cases q1 <;> rfl) (fun a wx hr => RG.read_in (t := 178) (j := 30) hr (by kernel_rfl) (by kernel_rfl)) (fun v wx h => h) hst (fun hc a wx hw hr => ?_)
            have p0 := RG.read_out (t := 30) hr (by kernel_rfl) (by kernel_rfl)
            have r0 : a.tmps[30]?.getD undef = .func (.func 48) #[] #[.pointer (some ⟨B3, 0, none⟩)] := (Array.getD_eq_getD_getElem? ..).symm.trans p0
            clear hr hst p0
            simp [execOp, go_sem, r0]
          · refine RG.st_cv (g := 30) (tg := 178) (want := true) (Cg := (!q1)) (Bg := q0) (C := (!q1 && q0)) (X := .int .u8 (one : Int)) rfl (by kernel_rfl) (by cases q0 <;> cases q1 <;> rfl) (fun a wx hr => RG.read_in (t := 178) (j := 30) hr (by kernel_rfl) (by kernel_rfl)) (fun v wx h => h) hst (fun hc a wx hw hr => ?_)
            have p0 := RG.read_out (t := 1) hr (by kernel_rfl) (by kernel_rfl)
            have r0 : a.tmps[1]?.getD undef = .int .u8 (one : Int) := (Array.getD_eq_getD_getElem? ..).symm.trans p0
            clear hr hst p0
            simp [execOp, go_sem, r0]
          · refine RG.st_cv (g := 30) (tg := 178) (want := true) (Cg := (!q1)) (Bg := q0) (C := (!q1 && q0)) (X := .int .i64 (one : Int)) rfl (by kernel_rfl) (by cases q0 <;> cases q1 <;> rfl) (fun a wx hr => RG.read_in (t := 178) (j := 30) hr (by kernel_rfl) (by kernel_rfl)) (fun v wx h => h) hst (fun hc a wx hw hr => ?_)
            have p0 := RG.read_in (t := 180) (j := 32) hr (by kernel_rfl) (by kernel_rfl)
            have r0 : a.tmps[180]?.getD undef = RG.cv (!q1 && q0) (.int .u8 (one : Int)) := (Array.getD_eq_getD_getElem? ..).symm.trans p0
            rw [show (!q1 && q0) = true from hc] at r0
            replace r0 : a.tmps[180]?.getD undef = .int .u8 (one : Int) := r0
            clear hr hst p0
            simp [execOp, go_sem, r0, hw_one]
          · refine RG.st_cv_call (g := 30) (tg := 178) (want := true) (Cg := (!q1)) (Bg := q0) (C := (!q1 && q0)) (X := .bool d1) rfl (by kernel_rfl) (by cases q0 <;> cases q1 <;> rfl) (fun a wx hr => RG.read_in (t := 178) (j := 30) hr (by kernel_rfl) (by kernel_rfl)) (fun v wx h => h) hst (f := 48) (args := #[.int .i64 (one : Int), .pointer (some ⟨B3, 0, none⟩)]) (fun hc a wx hw hr => ?_) (fun wx hw => KN1.out wx hw)
            have p0 : a.tmps.getD 179 undef = RG.cv (!q1 && q0) (.func (.func 48) #[] #[.pointer (some ⟨B3, 0, none⟩)]) := RG.read_in (t := 179) (j := 31) hr (by kernel_rfl) (by kernel_rfl)
            rw [show (!q1 && q0) = true from hc] at p0
            replace p0 : a.tmps.getD 179 undef = .func (.func 48) #[] #[.pointer (some ⟨B3, 0, none⟩)] := p0
            have p1 : a.tmps.getD 181 undef = RG.cv (!q1 && q0) (.int .i64 (one : Int)) := RG.read_in (t := 181) (j := 33) hr (by kernel_rfl) (by kernel_rfl)
            rw [show (!q1 && q0) = true from hc] at p1
            replace p1 : a.tmps.getD 181 undef = .int .i64 (one : Int) := p1
            refine (RG.run_closure (x := .tmp 181) (ats := #[3]) ?_ p0 Try.func48 (by kernel_rfl) (by kernel_rfl)).trans ?_
            · rfl
            rw [show a.eval (.tmp 181) = .int .i64 (one : Int) from p1]
          · refine RG.st_cv (g := 27) (tg := 175) (want := false) (Cg := true) (Bg := q1) (C := (!q1)) (X := .bool (q0 && d1)) rfl (by kernel_rfl) (by cases q1 <;> rfl) (fun a wx hr => RG.read_in (t := 175) (j := 27) hr (by kernel_rfl) (by kernel_rfl)) (fun v wx h => h) hst (fun hc a wx hw hr => ?_)
            have p0 := RG.read_in (t := 178) (j := 30) hr (by kernel_rfl) (by kernel_rfl)
            have r0 : a.tmps[178]?.getD undef = RG.cv (!q1) (.bool q0) := (Array.getD_eq_getD_getElem? ..).symm.trans p0
            have p1 := RG.read_in (t := 182) (j := 34) hr (by kernel_rfl) (by kernel_rfl)
            have r1 : a.tmps[182]?.getD undef = RG.cv (!q1 && q0) (.bool d1) := (Array.getD_eq_getD_getElem? ..).symm.trans p1
            clear hr hst p0 p1
            cases q0 <;> cases q1 <;> first | exact absurd hc (by decide) | (simp [execOp, go_sem, r0, r1, RG.cv]; done)
          · refine RG.st_run rfl (fun a wx hw hr => ⟨.bool m1, wx, ?_, Ext.refl _, (rfl : (.bool m1 : Value) = .bool m1)⟩) hst
            have p0 := RG.read_in (t := 175) (j := 27) hr (by kernel_rfl) (by kernel_rfl)
            have r0 : a.tmps[175]?.getD undef = .bool q1 := (Array.getD_eq_getD_getElem? ..).symm.trans p0
            have p1 := RG.read_in (t := 183) (j := 35) hr (by kernel_rfl) (by kernel_rfl)
            have r1 : a.tmps[183]?.getD undef = RG.cv (!q1) (.bool (q0 && d1)) := (Array.getD_eq_getD_getElem? ..).symm.trans p1
            clear hr hst p0 p1
            have h9 := HM1.out
            rw [← h9]
            cases q1 <;> simp [execOp, go_sem, r0, r1, RG.cv]
          · refine RG.st_run rfl (fun a wx hw hr => ⟨.bool m1, wx, ?_, Ext.refl _, (rfl : (.bool m1 : Value) = .bool m1)⟩) hst
            have p0 := RG.read_in (t := 184) (j := 36) hr (by kernel_rfl) (by kernel_rfl)
            have r0 : a.tmps[184]?.getD undef = .bool m1 := (Array.getD_eq_getD_getElem? ..).symm.trans p0
            clear hr hst p0
            simp [execOp, go_sem, r0]
          · refine RG.st_cv (g := 37) (tg := 185) (want := false) (Cg := true) (Bg := m1) (C := (!m1)) (X := .func (.func 47) #[] #[.pointer (some ⟨w.heap.size + 1, 0, none⟩)]) rfl (by kernel_rfl) (by cases m1 <;> rfl) (fun a wx hr => RG.read_in (t := 185) (j := 37) hr (by kernel_rfl) (by kernel_rfl)) (fun v wx h => h) hst (fun hc a wx hw hr => ?_)
            have p0 := RG.read_out (t := 29) hr (by kernel_rfl) (by kernel_rfl)
            have r0 : a.tmps[29]?.getD undef = .func (.func 47) #[] #[.pointer (some ⟨w.heap.size + 1, 0, none⟩)] := (Array.getD_eq_getD_getElem? ..).symm.trans p0
            clear hr hst p0
            simp [execOp, go_sem, r0]
          · refine RG.st_cv_call (g := 37) (tg := 185) (want := false) (Cg := true) (Bg := m1) (C := (!m1)) (X := .bool q2) rfl (by kernel_rfl) (by cases m1 <;> rfl) (fun a wx hr => RG.read_in (t := 185) (j := 37) hr (by kernel_rfl) (by kernel_rfl)) (fun v wx h => h) hst (f := 47) (args := #[.int .i64 2, .pointer (some ⟨w.heap.size + 1, 0, none⟩)]) (fun hc a wx hw hr => ?_) (fun wx hw => KB2.out wx hw)
            have p0 : a.tmps.getD 186 undef = RG.cv (!m1) (.func (.func 47) #[] #[.pointer (some ⟨w.heap.size + 1, 0, none⟩)]) := RG.read_in (t := 186) (j := 38) hr (by kernel_rfl) (by kernel_rfl)
            rw [show (!m1) = true from hc] at p0
            replace p0 : a.tmps.getD 186 undef = .func (.func 47) #[] #[.pointer (some ⟨w.heap.size + 1, 0, none⟩)] := p0
            refine RG.run_closure (x := .const (.int .i64 2)) (ats := #[3]) ?_ p0 Try.func47 (by kernel_rfl) (by kernel_rfl)
            rfl
          · refine RG.st_cv (g := 37) (tg := 185) (want := false) (Cg := true) (Bg := m1) (C := (!m1)) (X := .bool q2) rfl (by kernel_rfl) (by cases m1 <;> rfl) (fun a wx hr => RG.read_in (t := 185) (j := 37) hr (by kernel_rfl) (by kernel_rfl)) (fun v wx h => h) hst (fun hc a wx hw hr => ?_)
            have p0 := RG.read_in (t := 187) (j := 39) hr (by kernel_rfl) (by kernel_rfl)
            have r0 : a.tmps[187]?.getD undef = RG.cv (!m1) (.bool q2) := (Array.getD_eq_getD_getElem? ..).symm.trans p0
            rw [show (!m1) = true from hc] at r0
            replace r0 : a.tmps[187]?.getD undef = .bool q2 := r0
            clear hr hst p0
            simp [execOp, go_sem, r0]
          · refine RG.st_cv (g := 40) (tg := 188) (want := true) (Cg := (!m1)) (Bg := q2) (C := (!m1 && q2)) (X := .func (.func 48) #[] #[.pointer (some ⟨B3, 0, none⟩)]) rfl (by kernel_rfl) (by cases m1 <;> cases q2 <;> rfl) (fun a wx hr => RG.read_in (t := 188) (j := 40) hr (by kernel_rfl) (by kernel_rfl)) (fun v wx h => h) hst (fun hc a wx hw hr => ?_)
            have p0 := RG.read_out (t := 30) hr (by kernel_rfl) (by kernel_rfl)
            have r0 : a.tmps[30]?.getD undef = .func (.func 48) #[] #[.pointer (some ⟨B3, 0, none⟩)] := (Array.getD_eq_getD_getElem? ..).symm.trans p0
            clear hr hst p0
            simp [execOp, go_sem, r0]
          · refine RG.st_cv (g := 40) (tg := 188) (want := true) (Cg := (!m1)) (Bg := q2) (C := (!m1 && q2)) (X := .int .u8 (two : Int)) rfl (by kernel_rfl) (by cases m1 <;> cases q2 <;> rfl) (fun a wx hr => RG.read_in (t := 188) (j := 40) hr (by kernel_rfl) (by kernel_rfl)) (fun v wx h => h) hst (fun hc a wx hw hr => ?_)
            have p0 := RG.read_out (t := 2) hr (by kernel_rfl) (by kernel_rfl)
            have r0 : a.tmps[2]?.getD undef = .int .u8 (two : Int) := (Array.getD_eq_getD_getElem? ..).symm.trans p0
            clear hr hst p0
            simp [execOp, go_sem, r0]
          · refine RG.st_cv (g := 40) (tg := 188) (want := true) (Cg := (!m1)) (Bg := q2) (C := (!m1 && q2)) (X := .int .i64 (two : Int)) rfl (by kernel_rfl) (by cases m1 <;> cases q2 <;> rfl) (fun a wx hr => RG.read_in (t := 188) (j := 40) hr (by kernel_rfl) (by kernel_rfl)) (fun v wx h => h) hst (fun hc a wx hw hr => ?_)
            have p0 := RG.read_in (t := 190) (j := 42) hr (by kernel_rfl) (by kernel_rfl)
            have r0 : a.tmps[190]?.getD undef = RG.cv (!m1 && q2) (.int .u8 (two : Int)) := (Array.getD_eq_getD_getElem? ..).symm.trans p0
            rw [show (!m1 && q2) = true from hc] at r0
            replace r0 : a.tmps[190]?.getD undef = .int .u8 (two : Int) := r0
            clear hr hst p0
            simp [execOp, go_sem, r0, hw_two]
          · refine RG.st_cv_call (g := 40) (tg := 188) (want := true) (Cg := (!m1)) (Bg := q2) (C := (!m1 && q2)) (X := .bool d2) rfl (by kernel_rfl) (by cases m1 <;> cases q2 <;> rfl) (fun a wx hr => RG.read_in (t := 188) (j := 40) hr (by kernel_rfl) (by kernel_rfl)) (fun v wx h => h) hst (f := 48) (args := #[.int .i64 (two : Int), .pointer (some ⟨B3, 0, none⟩)]) (fun hc a wx hw hr => ?_) (fun wx hw => KN2.out wx hw)
            have p0 : a.tmps.getD 189 undef = RG.cv (!m1 && q2) (.func (.func 48) #[] #[.pointer (some ⟨B3, 0, none⟩)]) := RG.read_in (t := 189) (j := 41) hr (by kernel_rfl) (by kernel_rfl)
            rw [show (!m1 && q2) = true from hc] at p0
            replace p0 : a.tmps.getD 189 undef = .func (.func 48) #[] #[.pointer (some ⟨B3, 0, none⟩)] := p0
            have p1 : a.tmps.getD 191 undef = RG.cv (!m1 && q2) (.int .i64 (two : Int)) := RG.read_in (t := 191) (j := 43) hr (by kernel_rfl) (by kernel_rfl)
            rw [show (!m1 && q2) = true from hc] at p1
            replace p1 : a.tmps.getD 191 undef = .int .i64 (two : Int) := p1
            refine (RG.run_closure (x := .tmp 191) (ats := #[3]) ?_ p0 Try.func48 (by kernel_rfl) (by kernel_rfl)).trans ?_
            · rfl
            rw [show a.eval (.tmp 191) = .int .i64 (two : Int) from p1]
          · refine RG.st_cv (g := 37) (tg := 185) (want := false) (Cg := true) (Bg := m1) (C := (!m1)) (X := .bool (q2 && d2)) rfl (by kernel_rfl) (by cases m1 <;> rfl) (fun a wx hr => RG.read_in (t := 185) (j := 37) hr (by kernel_rfl) (by kernel_rfl)) (fun v wx h => h) hst (fun hc a wx hw hr => ?_)
            have p0 := RG.read_in (t := 188) (j := 40) hr (by kernel_rfl) (by kernel_rfl)
            have r0 : a.tmps[188]?.getD undef = RG.cv (!m1) (.bool q2) := (Array.getD_eq_getD_getElem? ..).symm.trans p0
            have p1 := RG.read_in (t := 192) (j := 44) hr (by kernel_rfl) (by kernel_rfl)
            have r1 : a.tmps[192]?.getD undef = RG.cv (!m1 && q2) (.bool d2) := (Array.getD_eq_getD_getElem? ..).symm.trans p1
            clear hr hst p0 p1
            cases m1 <;> cases q2 <;> first | exact absurd hc (by decide) | (simp [execOp, go_sem, r0, r1, RG.cv]; done)
          · refine RG.st_run rfl (fun a wx hw hr => ⟨.bool W1, wx, ?_, Ext.refl _, (rfl : (.bool W1 : Value) = .bool W1)⟩) hst
            have p0 := RG.read_in (t := 185) (j := 37) hr (by kernel_rfl) (by kernel_rfl)
            have r0 : a.tmps[185]?.getD undef = .bool m1 := (Array.getD_eq_getD_getElem? ..).symm.trans p0
            have p1 := RG.read_in (t := 193) (j := 45) hr (by kernel_rfl) (by kernel_rfl)
            have r1 : a.tmps[193]?.getD undef = RG.cv (!m1) (.bool (q2 && d2)) := (Array.getD_eq_getD_getElem? ..).symm.trans p1
            clear hr hst p0 p1
            have h9 := HV1.out
            rw [← h9]
            cases m1 <;> simp [execOp, go_sem, r0, r1, RG.cv]
          · exact RG.st_move rfl rfl (by kernel_rfl) (fun _ _ => rfl) hst
          · refine RG.st_closure rfl (fun _ => rfl) hst (f := 47) (args := #[.int .i64 2, .pointer (some ⟨w.heap.size + 1, 0, none⟩)]) (fun a wx hw hr => ?_) (fun wx hw => KB2.out wx hw)
            have p0 : a.tmps.getD 195 undef = .func (.func 47) #[] #[.pointer (some ⟨w.heap.size + 1, 0, none⟩)] := RG.read_in (t := 195) (j := 47) hr (by kernel_rfl) (by kernel_rfl)
            refine RG.run_closure (x := .const (.int .i64 2)) (ats := #[3]) ?_ p0 Try.func47 (by kernel_rfl) (by kernel_rfl)
            rfl
          · refine RG.st_run rfl (fun a wx hw hr => ⟨.bool q2, wx, ?_, Ext.refl _, (rfl : (.bool q2 : Value) = .bool q2)⟩) hst
            have p0 := RG.read_in (t := 196) (j := 48) hr (by kernel_rfl) (by kernel_rfl)
            have r0 : a.tmps[196]?.getD undef = .bool q2 := (Array.getD_eq_getD_getElem? ..).symm.trans p0
            clear hr hst p0
            simp [execOp, go_sem, r0]
          · refine RG.st_cv (g := 49) (tg := 197) (want := false) (Cg := true) (Bg := q2) (C := (!q2)) (X := .func (.func 47) #[] #[.pointer (some ⟨w.heap.size + 1, 0, none⟩)]) rfl (by kernel_rfl) (by cases q2 <;> rfl) (fun a wx hr => RG.read_in (t := 197) (j := 49) hr (by kernel_rfl) (by kernel_rfl)) (fun v wx h => h) hst (fun hc a wx hw hr => ?_)
            have p0 := RG.read_out (t := 29) hr (by kernel_rfl) (by kernel_rfl)
            have r0 : a.tmps[29]?.getD undef = .func (.func 47) #[] #[.pointer (some ⟨w.heap.size + 1, 0, none⟩)] := (Array.getD_eq_getD_getElem? ..).symm.trans p0
            clear hr hst p0
            simp [execOp, go_sem, r0]
          · refine RG.st_cv_call (g := 49) (tg := 197) (want := false) (Cg := true) (Bg := q2) (C := (!q2)) (X := .bool q1) rfl (by kernel_rfl) (by cases q2 <;> rfl) (fun a wx hr => RG.read_in (t := 197) (j := 49) hr (by kernel_rfl) (by kernel_rfl)) (fun v wx h => h) hst (f := 47) (args := #[.int .i64 1, .pointer (some ⟨w.heap.size + 1, 0, none⟩)]) (fun hc a wx hw hr => ?_) (fun wx hw => KB1.out wx hw)
            have p0 : a.tmps.getD 198 undef = RG.cv (!q2) (.func (.func 47) #[] #[.pointer (some ⟨w.heap.size + 1, 0, none⟩)]) := RG.read_in (t := 198) (j := 50) hr (by kernel_rfl) (by kernel_rfl)
            rw [show (!q2) = true from hc] at p0
            replace p0 : a.tmps.getD 198 undef = .func (.func 47) #[] #[.pointer (some ⟨w.heap.size + 1, 0, none⟩)] := p0
            refine RG.run_closure (x := .const (.int .i64 1)) (ats := #[3]) ?_ p0 Try.func47 (by kernel_rfl) (by kernel_rfl)
            rfl
          · refine RG.st_cv (g := 49) (tg := 197) (want := false) (Cg := true) (Bg := q2) (C := (!q2)) (X := .bool q1) rfl (by kernel_rfl) (by cases q2 <;> rfl) (fun a wx hr => RG.read_in (t := 197) (j := 49) hr (by kernel_rfl) (by kernel_rfl)) (fun v wx h => h) hst (fun hc a wx hw hr => ?_)
            have p0 := RG.read_in (t := 199) (j := 51) hr (by kernel_rfl) (by kernel_rfl)
            have r0 : a.tmps[199]?.getD undef = RG.cv (!q2) (.bool q1) := (Array.getD_eq_getD_getElem? ..).symm.trans p0
            rw [show (!q2) = true from hc] at r0
            replace r0 : a.tmps[199]?.getD undef = .bool q1 := r0
            clear hr hst p0
            simp [execOp, go_sem, r0]
          · refine RG.st_cv (g := 52) (tg := 200) (want := true) (Cg := (!q2)) (Bg := q1) (C := (!q2 && q1)) (X := .func (.func 48) #[] #[.pointer (some ⟨B3, 0, none⟩)]) rfl (by kernel_rfl) (by cases q1 <;> cases q2 <;> rfl) (fun a wx hr => RG.read_in (t := 200) (j := 52) hr (by kernel_rfl) (by kernel_rfl)) (fun v wx h => h) hst (fun hc a wx hw hr => ?_)
            have p0 := RG.read_out (t := 30) hr (by kernel_rfl) (by kernel_rfl)
            have r0 : a.tmps[30]?.getD undef = .func (.func 48) #[] #[.pointer (some ⟨B3, 0, none⟩)] := (Array.getD_eq_getD_getElem? ..).symm.trans p0
            clear hr hst p0
            simp [execOp, go_sem, r0]
          · refine RG.st_cv (g := 52) (tg := 200) (want := true) (Cg := (!q2)) (Bg := q1) (C := (!q2 && q1)) (X := .int .u8 (two : Int)) rfl (by kernel_rfl) (by cases q1 <;> cases q2 <;> rfl) (fun a wx hr => RG.read_in (t := 200) (j := 52) hr (by kernel_rfl) (by kernel_rfl)) (fun v wx h => h) hst (fun hc a wx hw hr => ?_)
            have p0 := RG.read_out (t := 2) hr (by kernel_rfl) (by kernel_rfl)
            have r0 : a.tmps[2]?.getD undef = .int .u8 (two : Int) := (Array.getD_eq_getD_getElem? ..).symm.trans p0
            clear hr hst p0
            simp [execOp, go_sem, r0]
          · refine RG.st_cv (g := 52) (tg := 200) (want := true) (Cg := (!q2)) (Bg := q1) (C := (!q2 && q1)) (X := .int .i64 (two : Int)) rfl (by kernel_rfl) (by cases q1 <;> cases q2 <;> rfl) (fun a wx hr => RG.read_in (t := 200) (j := 52) hr (by kernel_rfl) (by kernel_rfl)) (fun v wx h => h) hst (fun hc a wx hw hr => ?_)
            have p0 := RG.read_in (t := 202) (j := 54) hr (by kernel_rfl) (by kernel_rfl)
            have r0 : a.tmps[202]?.getD undef = RG.cv (!q2 && q1) (.int .u8 (two : Int)) := (Array.getD_eq_getD_getElem? ..).symm.trans p0
            rw [show (!q2 && q1) = true from hc] at r0
            replace r0 : a.tmps[202]?.getD undef = .int .u8 (two : Int) := r0
            clear hr hst p0
            simp [execOp, go_sem, r0, hw_two]
          · refine RG.st_cv_call (g := 52) (tg := 200) (want := true) (Cg := (!q2)) (Bg := q1) (C := (!q2 && q1)) (X := .bool d2) rfl (by kernel_rfl) (by cases q1 <;> cases q2 <;> rfl) (fun a wx hr => RG.read_in (t := 200) (j := 52) hr (by kernel_rfl) (by kernel_rfl)) (fun v wx h => h) hst (f := 48) (args := #[.int .i64 (two : Int), .pointer (some ⟨B3, 0, none⟩)]) (fun hc a wx hw hr => ?_) (fun wx hw => KN2.out wx hw)
            have p0 : a.tmps.getD 201 undef = RG.cv (!q2 && q1) (.func (.func 48) #[] #[.pointer (some ⟨B3, 0, none⟩)]) := RG.read_in (t := 201) (j := 53) hr (by kernel_rfl) (by kernel_rfl)
            rw [show (!q2 && q1) = true from hc] at p0
            replace p0 : a.tmps.getD 201 undef = .func (.func 48) #[] #[.pointer (some ⟨B3, 0, none⟩)] := p0
            have p1 : a.tmps.getD 203 undef = RG.cv (!q2 && q1) (.int .i64 (two : Int)) := RG.read_in (t := 203) (j := 55) hr (by kernel_rfl) (by kernel_rfl)
            rw [show (!q2 && q1) = true from hc] at p1
            replace p1 : a.tmps.getD 203 undef = .int .i64 (two : Int) := p1
            refine (RG.run_closure (x := .tmp 203) (ats := #[3]) ?_ p0 Try.func48 (by kernel_rfl) (by kernel_rfl)).trans ?_
            · rfl
            rw [show a.eval (.tmp 203) = .int .i64 (two : Int) from p1]
          · refine RG.st_cv (g := 49) (tg := 197) (want := false) (Cg := true) (Bg := q2) (C := (!q2)) (X := .bool (q1 && d2)) rfl (by kernel_rfl) (by cases q2 <;> rfl) (fun a wx hr => RG.read_in (t := 197) (j := 49) hr (by kernel_rfl) (by kernel_rfl)) (fun v wx h => h) hst (fun hc a wx hw hr => ?_)
            have p0 := RG.read_in (t := 200) (j := 52) hr (by kernel_rfl) (by kernel_rfl)
            have r0 : a.tmps[200]?.getD undef = RG.cv (!q2) (.bool q1) := (Array.getD_eq_getD_getElem? ..).symm.trans p0
            have p1 := RG.read_in (t := 204) (j := 56) hr (by kernel_rfl) (by kernel_rfl)
            have r1 : a.tmps[204]?.getD undef = RG.cv (!q2 && q1) (.bool d2) := (Array.getD_eq_getD_getElem? ..).symm.trans p1
            clear hr hst p0 p1
            cases q1 <;> cases q2 <;> first | exact absurd hc (by decide) | (simp [execOp, go_sem, r0, r1, RG.cv]; done)
          · refine RG.st_run rfl (fun a wx hw hr => ⟨.bool m2, wx, ?_, Ext.refl _, (rfl : (.bool m2 : Value) = .bool m2)⟩) hst
            have p0 := RG.read_in (t := 197) (j := 49) hr (by kernel_rfl) (by kernel_rfl)
            have r0 : a.tmps[197]?.getD undef = .bool q2 := (Array.getD_eq_getD_getElem? ..).symm.trans p0
            have p1 := RG.read_in (t := 205) (j := 57) hr (by kernel_rfl) (by kernel_rfl)
            have r1 : a.tmps[205]?.getD undef = RG.cv (!q2) (.bool (q1 && d2)) := (Array.getD_eq_getD_getElem? ..).symm.trans p1
            clear hr hst p0 p1
            have h9 := HM2.out
            rw [← h9]
            cases q2 <;> simp [execOp, go_sem, r0, r1, RG.cv]
          · refine RG.st_run rfl (fun a wx hw hr => ⟨.bool m2, wx, ?_, Ext.refl _, (rfl : (.bool m2 : Value) = .bool m2)⟩) hst
            have p0 := RG.read_in (t := 206) (j := 58) hr (by kernel_rfl) (by kernel_rfl)
            have r0 : a.tmps[206]?.getD undef = .bool m2 := (Array.getD_eq_getD_getElem? ..).symm.trans p0
            clear hr hst p0
            simp [execOp, go_sem, r0]
          · refine RG.st_cv (g := 59) (tg := 207) (want := false) (Cg := true) (Bg := m2) (C := (!m2)) (X := .func (.func 47) #[] #[.pointer (some ⟨w.heap.size + 1, 0, none⟩)]) rfl (by kernel_rfl) (by cases m2 <;> rfl) (fun a wx hr => RG.read_in (t := 207) (j := 59) hr (by kernel_rfl) (by kernel_rfl)) (fun v wx h => h) hst (fun hc a wx hw hr => ?_)
            have p0 := RG.read_out (t := 29) hr (by kernel_rfl) (by kernel_rfl)
            have r0 : a.tmps[29]?.getD undef = .func (.func 47) #[] #[.pointer (some ⟨w.heap.size + 1, 0, none⟩)] := (Array.getD_eq_getD_getElem? ..).symm.trans p0
            clear hr hst p0
            simp [execOp, go_sem, r0]
          · refine RG.st_cv_call (g := 59) (tg := 207) (want := false) (Cg := true) (Bg := m2) (C := (!m2)) (X := .bool q0) rfl (by kernel_rfl) (by cases m2 <;> rfl) (fun a wx hr => RG.read_in (t := 207) (j := 59) hr (by kernel_rfl) (by kernel_rfl)) (fun v wx h => h) hst (f := 47) (args := #[.int .i64 0, .pointer (some ⟨w.heap.size + 1, 0, none⟩)]) (fun hc a wx hw hr => ?_) (fun wx hw => KB0.out wx hw)
            have p0 : a.tmps.getD 208 undef = RG.cv (!m2) (.func (.func 47) #[] #[.pointer (some ⟨w.heap.size + 1, 0, none⟩)]) := RG.read_in (t := 208) (j := 60) hr (by kernel_rfl) (by kernel_rfl)
            rw [show (!m2) = true from hc] at p0
            replace p0 : a.tmps.getD 208 undef = .func (.func 47) #[] #[.pointer (some ⟨w.heap.size + 1, 0, none⟩)] := p0
            refine RG.run_closure (x := .const (.int .i64 0)) (ats := #[3]) ?_ p0 Try.func47 (by kernel_rfl) (by kernel_rfl)
            rfl
          · refine RG.st_cv (g := 59) (tg := 207) (want := false) (Cg := true) (Bg := m2) (C := (!m2)) (X := .bool q0) rfl (by kernel_rfl) (by cases m2 <;> rfl) (fun a wx hr => RG.read_in (t := 207) (j := 59) hr (by kernel_rfl) (by kernel_rfl)) (fun v wx h => h) hst (fun hc a wx hw hr => ?_)
            have p0 := RG.read_in (t := 209) (j := 61) hr (by kernel_rfl) (by kernel_rfl)
            have r0 : a.tmps[209]?.getD undef = RG.cv (!m2) (.bool q0) := (Array.getD_eq_getD_getElem? ..).symm.trans p0
            rw [show (!m2) = true from hc] at r0
            replace r0 : a.tmps[209]?.getD undef = .bool q0 := r0
            clear hr hst p0
            simp [execOp, go_sem, r0]
          · refine RG.st_cv (g := 62) (tg := 210) (want := true) (Cg := (!m2)) (Bg := q0) (C := (!m2 && q0)) (X := .func (.func 48) #[] #[.pointer (some ⟨B3, 0, none⟩)]) rfl (by kernel_rfl) (by cases m2 <;> cases q0 <;> rfl) (fun a wx hr => RG.read_in (t := 210) (j := 62) hr (by kernel_rfl) (by kernel_rfl)) (fun v wx h => h) hst (fun hc a wx hw hr => ?_)
            have p0 := RG.read_out (t := 30) hr (by kernel_rfl) (by kernel_rfl)
            have r0 : a.tmps[30]?.getD undef = .func (.func 48) #[] #[.pointer (some ⟨B3, 0, none⟩)] := (Array.getD_eq_getD_getElem? ..).symm.trans p0
            clear hr hst p0
            simp [execOp, go_sem, r0]
          · refine RG.st_cv (g := 62) (tg := 210) (want := true) (Cg := (!m2)) (Bg := q0) (C := (!m2 && q0)) (X := .int .u8 (one : Int)) rfl (by kernel_rfl) (by cases m2 <;> cases q0 <;> rfl) (fun a wx hr => RG.read_in (t := 210) (j := 62) hr (by kernel_rfl) (by kernel_rfl)) (fun v wx h => h) hst (fun hc a wx hw hr => ?_)
            have p0 := RG.read_out (t := 1) hr (by kernel_rfl) (by kernel_rfl)
            have r0 : a.tmps[1]?.getD undef = .int .u8 (one : Int) := (Array.getD_eq_getD_getElem? ..).symm.trans p0
            clear hr hst p0
            simp [execOp, go_sem, r0]
          · refine RG.st_cv (g := 62) (tg := 210) (want := true) (Cg := (!m2)) (Bg := q0) (C := (!m2 && q0)) (X := .int .i64 (one : Int)) rfl (by kernel_rfl) (by cases m2 <;> cases q0 <;> rfl) (fun a wx hr => RG.read_in (t := 210) (j := 62) hr (by kernel_rfl) (by kernel_rfl)) (fun v wx h => h) hst (fun hc a wx hw hr => ?_)
            have p0 := RG.read_in (t := 212) (j := 64) hr (by kernel_rfl) (by kernel_rfl)
            have r0 : a.tmps[212]?.getD undef = RG.cv (!m2 && q0) (.int .u8 (one : Int)) := (Array.getD_eq_getD_getElem? ..).symm.trans p0
            rw [show (!m2 && q0) = true from hc] at r0
            replace r0 : a.tmps[212]?.getD undef = .int .u8 (one : Int) := r0
            clear hr hst p0
            simp [execOp, go_sem, r0, hw_one]
          · refine RG.st_cv (g := 62) (tg := 210) (want := true) (Cg := (!m2)) (Bg := q0) (C := (!m2 && q0)) (X := .int .u8 (two : Int)) rfl (by kernel_rfl) (by cases m2 <;> cases q0 <;> rfl) (fun a wx hr => RG.read_in (t := 210) (j := 62) hr (by kernel_rfl) (by kernel_rfl)) (fun v wx h => h) hst (fun hc a wx hw hr => ?_)
            have p0 := RG.read_out (t := 2) hr (by kernel_rfl) (by kernel_rfl)
            have r0 : a.tmps[2]?.getD undef = .int .u8 (two : Int) := (Array.getD_eq_getD_getElem? ..).symm.trans p0
            clear hr hst p0
            simp [execOp, go_sem, r0]
          · refine RG.st_cv (g := 62) (tg := 210) (want := true) (Cg := (!m2)) (Bg := q0) (C := (!m2 && q0)) (X := .int .i64 (two : Int)) rfl (by kernel_rfl) (by cases m2 <;> cases q0 <;> rfl) (fun a wx hr => RG.read_in (t := 210) (j := 62) hr (by kernel_rfl) (by kernel_rfl)) (fun v wx h => h) hst (fun hc a wx hw hr => ?_)
            have p0 := RG.read_in (t := 214) (j := 66) hr (by kernel_rfl) (by kernel_rfl)
            have r0 : a.tmps[214]?.getD undef = RG.cv (!m2 && q0) (.int .u8 (two : Int)) := (Array.getD_eq_getD_getElem? ..).symm.trans p0
            rw [show (!m2 && q0) = true from hc] at r0
            replace r0 : a.tmps[214]?.getD undef = .int .u8 (two : Int) := r0
            clear hr hst p0
            simp [execOp, go_sem, r0, hw_two]
          · refine RG.st_cv (g := 62) (tg := 210) (want := true) (Cg := (!m2)) (Bg := q0) (C := (!m2 && q0)) (X := .int .i64 ((one : Int) + (two : Int))) rfl (by kernel_rfl) (by cases m2 <;> cases q0 <;> rfl) (fun a wx hr => RG.read_in (t := 210) (j := 62) hr (by kernel_rfl) (by kernel_rfl)) (fun v wx h => h) hst (fun hc a wx hw hr => ?_)
            have p0 := RG.read_in (t := 213) (j := 65) hr (by kernel_rfl) (by kernel_rfl)
            have r0 : a.tmps[213]?.getD undef = RG.cv (!m2 && q0) (.int .i64 (one : Int)) := (Array.getD_eq_getD_getElem? ..).symm.trans p0
            have p1 := RG.read_in (t := 215) (j := 67) hr (by kernel_rfl) (by kernel_rfl)
            have r1 : a.tmps[215]?.getD undef = RG.cv (!m2 && q0) (.int .i64 (two : Int)) := (Array.getD_eq_getD_getElem? ..).symm.trans p1
            rw [show (!m2 && q0) = true from hc] at r0
            replace r0 : a.tmps[213]?.getD undef = .int .i64 (one : Int) := r0
            rw [show (!m2 && q0) = true from hc] at r1
            replace r1 : a.tmps[215]?.getD undef = .int .i64 (two : Int) := r1
            clear hr hst p0 p1
            simp [execOp, go_sem, r0, r1, hw_sum]
          · refine RG.st_cv_call (g := 62) (tg := 210) (want := true) (Cg := (!m2)) (Bg := q0) (C := (!m2 && q0)) (X := .bool d3) rfl (by kernel_rfl) (by cases m2 <;> cases q0 <;> rfl) (fun a wx hr => RG.read_in (t := 210) (j := 62) hr (by kernel_rfl) (by kernel_rfl)) (fun v wx h => h) hst (f := 48) (args := #[.int .i64 ((one : Int) + (two : Int)), .pointer (some ⟨B3, 0, none⟩)]) (fun hc a wx hw hr => ?_) (fun wx hw => KN3.out wx hw)
            have p0 : a.tmps.getD 211 undef = RG.cv (!m2 && q0) (.func (.func 48) #[] #[.pointer (some ⟨B3, 0, none⟩)]) := RG.read_in (t := 211) (j := 63) hr (by kernel_rfl) (by kernel_rfl)
            rw [show (!m2 && q0) = true from hc] at p0
            replace p0 : a.tmps.getD 211 undef = .func (.func 48) #[] #[.pointer (some ⟨B3, 0, none⟩)] := p0
            have p1 : a.tmps.getD 216 undef = RG.cv (!m2 && q0) (.int .i64 ((one : Int) + (two : Int))) := RG.read_in (t := 216) (j := 68) hr (by kernel_rfl) (by kernel_rfl)
            rw [show (!m2 && q0) = true from hc] at p1
            replace p1 : a.tmps.getD 216 undef = .int .i64 ((one : Int) + (two : Int)) := p1
            refine (RG.run_closure (x := .tmp 216) (ats := #[3]) ?_ p0 Try.func48 (by kernel_rfl) (by kernel_rfl)).trans ?_
            · rfl
            rw [show a.eval (.tmp 216) = .int .i64 ((one : Int) + (two : Int)) from p1]
          · refine RG.st_cv (g := 59) (tg := 207) (want := false) (Cg := true) (Bg := m2) (C := (!m2)) (X := .bool (q0 && d3)) rfl (by kernel_rfl) (by cases m2 <;> rfl) (fun a wx hr => RG.read_in (t := 207) (j := 59) hr (by kernel_rfl) (by kernel_rfl)) (fun v wx h => h) hst (fun hc a wx hw hr => ?_)
            have p0 := RG.read_in (t := 210) (j := 62) hr (by kernel_rfl) (by kernel_rfl)
            have r0 : a.tmps[210]?.getD undef = RG.cv (!m2) (.bool q0) := (Array.getD_eq_getD_getElem? ..).symm.trans p0
            have p1 := RG.read_in (t := 217) (j := 69) hr (by kernel_rfl) (by kernel_rfl)
            have r1 : a.tmps[217]?.getD undef = RG.cv (!m2 && q0) (.bool d3) := (Array.getD_eq_getD_getElem? ..).symm.trans p1
            clear hr hst p0 p1
            cases m2 <;> cases q0 <;> first | exact absurd hc (by decide) | (simp [execOp, go_sem, r0, r1, RG.cv]; done)
          · refine RG.st_run rfl (fun a wx hw hr => ⟨.bool W2, wx, ?_, Ext.refl _, (rfl : (.bool W2 : Value) = .bool W2)⟩) hst
            have p0 := RG.read_in (t := 207) (j := 59) hr (by kernel_rfl) (by kernel_rfl)
            have r0 : a.tmps[207]?.getD undef = .bool m2 := (Array.getD_eq_getD_getElem? ..).symm.trans p0
            have p1 := RG.read_in (t := 218) (j := 70) hr (by kernel_rfl) (by kernel_rfl)
            have r1 : a.tmps[218]?.getD undef = RG.cv (!m2) (.bool (q0 && d3)) := (Array.getD_eq_getD_getElem? ..).symm.trans p1
            clear hr hst p0 p1
            have h9 := HV2.out
            rw [← h9]
            cases m2 <;> simp [execOp, go_sem, r0, r1, RG.cv]
          · refine RG.st_run rfl (fun a wx hw hr => ⟨.agg #[.bool W0, .bool W1, .bool W2], wx, ?_, Ext.refl _, (rfl : (.agg #[.bool W0, .bool W1, .bool W2] : Value) = .agg #[.bool W0, .bool W1, .bool W2])⟩) hst
            have p0 := RG.read_in (t := 172) (j := 24) hr (by kernel_rfl) (by kernel_rfl)
            have r0 : a.tmps[172]?.getD undef = .bool W0 := (Array.getD_eq_getD_getElem? ..).symm.trans p0
            have p1 := RG.read_in (t := 194) (j := 46) hr (by kernel_rfl) (by kernel_rfl)
            have r1 : a.tmps[194]?.getD undef = .bool W1 := (Array.getD_eq_getD_getElem? ..).symm.trans p1
            have p2 := RG.read_in (t := 219) (j := 71) hr (by kernel_rfl) (by kernel_rfl)
            have r2 : a.tmps[219]?.getD undef = .bool W2 := (Array.getD_eq_getD_getElem? ..).symm.trans p2
            clear hr hst p0 p1 p2
            simp [execOp, go_sem, r0, r1, r2]
        · intro wt hEt
          simp only [RG.vals, List.map_cons, List.map_nil, List.length_cons, List.length_nil, List.take_succ_cons, List.take_zero, RG.Fin, RG.goneBy, Nat.reduceAdd, List.drop_succ_cons, List.drop_zero]
          intro v0 h0 v1 h1 v2 h2 v3 h3 v4 h4 v5 h5 v6 h6 v7 h7 v8 h8 v9 h9 v10 h10 v11 h11 v12 h12 v13 h13 v14 h14 v15 h15 v16 h16 v17 h17 v18 h18 v19 h19 v20 h20 v21 h21 v22 h22 v23 h23 v24 h24 v25 h25 v26 h26 v27 h27 v28 h28 v29 h29 v30 h30 v31 h31 v32 h32 v33 h33 v34 h34 v35 h35 v36 h36 v37 h37 v38 h38 v39 h39 v40 h40 v41 h41 v42 h42 v43 h43 v44 h44 v45 h45 v46 h46 v47 h47 v48 h48 v49 h49 v50 h50 v51 h51 v52 h52 v53 h53 v54 h54 v55 h55 v56 h56 v57 h57 v58 h58 v59 h59 v60 h60 v61 h61 v62 h62 v63 h63 v64 h64 v65 h65 v66 h66 v67 h67 v68 h68 v69 h69 v70 h70 v71 h71 v72 h72
          obtain rfl := h0 (by decide)
          obtain rfl := h1 (by decide)
          obtain rfl := h2 (by decide)
          obtain rfl := h3 (by decide)
          obtain rfl := h4 (by decide)
          obtain rfl := h5 (by decide)
          obtain rfl := h6 (by decide)
          obtain rfl := h7 (by decide)
          obtain rfl := h8 (by decide)
          obtain rfl := h9 (by decide)
          obtain rfl := h10 (by decide)
          obtain rfl := h11 (by decide)
          obtain rfl := h12 (by decide)
          obtain rfl := h13 (by decide)
          obtain rfl := h14 (by decide)
          obtain rfl := h15 (by decide)
          obtain rfl := h16 (by decide)
          obtain rfl := h17 (by decide)
          obtain rfl := h18 (by decide)
          obtain rfl := h19 (by decide)
          obtain rfl := h20 (by decide)
          obtain rfl := h21 (by decide)
          obtain rfl := h22 (by decide)
          obtain rfl := h23 (by decide)
          obtain rfl := h24 (by decide)
          obtain rfl := h25 (by decide)
          obtain rfl := h26 (by decide)
          obtain rfl := h27 (by decide)
          obtain rfl := h28 (by decide)
          obtain rfl := h29 (by decide)
          obtain rfl := h30 (by decide)
          obtain rfl := h31 (by decide)
          obtain rfl := h32 (by decide)
          obtain rfl := h33 (by decide)
          obtain rfl := h34 (by decide)
          obtain rfl := h35 (by decide)
          obtain rfl := h36 (by decide)
          obtain rfl := h37 (by decide)
          obtain rfl := h38 (by decide)
          obtain rfl := h39 (by decide)
          obtain rfl := h40 (by decide)
          obtain rfl := h41 (by decide)
          obtain rfl := h42 (by decide)
          obtain rfl := h43 (by decide)
          obtain rfl := h44 (by decide)
          obtain rfl := h45 (by decide)
          obtain rfl := h46 (by decide)
          obtain rfl := h47 (by decide)
          obtain rfl := h48 (by decide)
          obtain rfl := h49 (by decide)
          obtain rfl := h50 (by decide)
          obtain rfl := h51 (by decide)
          obtain rfl := h52 (by decide)
          obtain rfl := h53 (by decide)
          obtain rfl := h54 (by decide)
          obtain rfl := h55 (by decide)
          obtain rfl := h56 (by decide)
          obtain rfl := h57 (by decide)
          obtain rfl := h58 (by decide)
          obtain rfl := h59 (by decide)
          obtain rfl := h60 (by decide)
          obtain rfl := h61 (by decide)
          obtain rfl := h62 (by decide)
          obtain rfl := h63 (by decide)
          obtain rfl := h64 (by decide)
          obtain rfl := h65 (by decide)
          obtain rfl := h66 (by decide)
          obtain rfl := h67 (by decide)
          obtain rfl := h68 (by decide)
          obtain rfl := h69 (by decide)
          obtain rfl := h70 (by decide)
          obtain rfl := h71 (by decide)
          obtain rfl := h72 (by decide)
          show wpList _ _ _ _ _ wt
          simp only [List.length_map, List.length_cons, List.length_nil, Nat.reduceAdd, List.drop_succ_cons, List.drop_zero, Act.put, List.setIfInBounds_toArray, List.set_cons_zero, List.set_cons_succ]
          go_wp2
          all_goals (go_meet; exact ⟨_, rfl, hEt.alloc _, one_first _ _⟩)
      case rest => as_aux_lemma =>
        obtain ⟨b31, rfl, hEc, hbc⟩ := hcut
        obtain ⟨⟨e0, e1, e2⟩, -⟩ := run_3 hbc
        have z31 := (Array.getElem?_eq_some_iff.1 hbc).1
        clear KB0 KB1 KB2 KN1 KN2 KN3 HX HW hp0
        go_wp2
        go_loopw [32, 223] (fun _ i wq => ∃ j : Nat, j ≤ 3 ∧ i = .int .i64 (j : Int) ∧ Ext wc wq) (fun _ i _ => 3 - (intOf i).toNat)
        case atStart => exact ⟨0, by omega, rfl, Ext.refl _⟩
        case round =>
          obtain ⟨j, hj, rfl, hEq⟩ := hrel
          by_cases hj3 : j < 3
          · obtain ⟨xb, xo, rfl, f0, f1, f2⟩ := HF9.out j hj3
            obtain ⟨xj, q, a0, a1, a2, a3⟩ : ∃ (xj : Nat) (q : Bool), wz.cell? ⟨w.heap.size + 1, j, none⟩ = some (.int .u8 (xj : Int)) ∧ xj < 256 ∧ wc.cell? ⟨b31, j, none⟩ = some (.bool q) ∧ ([⟨0, verd x0, W0⟩, ⟨1, verd x1, W1⟩, ⟨2, verd x2, W2⟩] : List Fate).getD j fate9 = ⟨(j : Int), verd xj, q⟩ := by
              match j, hj3 with
              | 0, _ => exact ⟨x0, W0, g0, y0, e0, rfl⟩
              | 1, _ => exact ⟨x1, W1, g1, y1, e1, rfl⟩
              | 2, _ => exact ⟨x2, W2, g2, y2, e2, rfl⟩
            rw [a3] at f0 f1 f2
            obtain ⟨m, hmm⟩ : ∃ m, xj % 3 = m := ⟨_, rfl⟩
            have hm : (xj : Int).tmod 3 = (m : Int) := by rw [Int.tmod_eq_emod_of_nonneg (Int.natCast_nonneg xj)]; omega
            have hm3 : m < 3 := by omega
            have hvm : verd xj = (m : Int) + 1 := by unfold verd; rw [hmm]
            have hwr : IntKind.u8.wrap ((m : Int) + 1) = (m : Int) + 1 := by simp [IntKind.wrap, IntKind.bits, IntKind.signed]; omega
            rw [hvm] at f1
            have f0 := hEq.get (hEc.get f0)
            have f1 := hEq.get (hEc.get f1)
            have f2 := hEq.get (hEc.get f2)
            have a0 := hEq.get (hEc.get a0)
            have a2 := hEq.get a2
            have zf := World.block_lt_of_cell? _ _ f0
            have za := World.block_lt_of_cell? _ _ a0
            have zq := World.block_lt_of_cell? _ _ a2
            simp only at f0 f1 f2 zf za zq
            have ji : (j : Int) < 3 := by omega
            clear a3 hvm hmm e0 e1 e2 g0 g1 g2 t0 t1 t2 t3 t4 t5 t6
            go_wp2_with fail
            go_quiet (fail)
            go_wp2
            go_roundw
            case rel => exact ⟨j + 1, by omega, by go_num, hEq.drewN _⟩
            case measure => simp [intOf]; omega
          · obtain rfl : j = 3 := by omega
            go_wp2
            go_ret
            exact ⟨rfl, HE.out.trans (hEc.trans hEq)⟩
end Go.Proofs.Ytcbimfaneinpkaa
