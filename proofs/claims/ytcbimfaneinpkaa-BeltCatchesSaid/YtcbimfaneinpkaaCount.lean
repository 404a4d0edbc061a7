/- The walk of one count of BeltCatches. -/
import Derived.Test.YtcbimfaneinpkaaCatchAt
import Derived.Test.YtcbimfaneinpkaaOpenFn
import Derived.Test.YtcbimfaneinpkaaMoves
import Derived.Deep.DeepCutAuto
import Derived.Deep.Cut
set_option linter.unusedVariables false
set_option linter.unusedSimpArgs false
namespace Go.Proofs.Ytcbimfaneinpkaa
open Go.RowKit Go.Sort

def lfUp (by_ : Int) (op : Bool) (b : Belt) (fs : List Fate) (xs : List Thing) (k : Nat) : List Thing := ((xs.take k).filter fun x => !goes fs x).map (moveT b by_ op)
theorem lfUp_succ (by_ : Int) (op : Bool) (b : Belt) (fs : List Fate) (xs : List Thing) {k : Nat} (h : k < xs.length) : lfUp by_ op b fs xs (k + 1) = lfUp by_ op b fs xs k ++ (if goes fs (xs.getD k thing0) = true then [] else [moveT b by_ op (xs.getD k thing0)]) := by
  unfold lfUp
  rw [takeT_get h, List.filter_append, List.map_append]
  congr 1
  simp only [List.filter_cons, List.filter_nil]
  cases goes fs (xs.getD k thing0) <;> simp
theorem lfUp_len (by_ : Int) (op : Bool) (b : Belt) (fs : List Fate) (xs : List Thing) (k : Nat) : (lfUp by_ op b fs xs k).length ≤ xs.length := by
  unfold lfUp
  rw [List.length_map]
  refine Nat.le_trans (List.length_filter_le _ _) ?_
  simp; omega
theorem movedN_bd {b : Belt} (hb : b.ok) (m : Nat) : least b ≤ movedR b (m : Int) ∧ movedR b (m : Int) ≤ most b := by
  obtain ⟨a1, a2, a3, a4, -⟩ := hb
  have h1 := Int.emod_nonneg (m : Int) (show 2 * b.slip + 1 ≠ 0 by omega)
  have h2 := Int.emod_lt_of_pos (m : Int) (show 0 < 2 * b.slip + 1 by omega)
  unfold movedR least most
  omega
set_option maxRecDepth 100000 in
set_option maxHeartbeats 16000000 in
theorem w73 (w0 : World) (b : Belt) (vm : Value) (mv : List Nat) (ln : Int) (bw : Nat) (t : Track) (xs : List Thing) (at_ : Nat) (w : World) (hC : CatchAt w0 b vm ln bw t xs at_ w) (hm : BytesAt w0 vm mv) (hml : mv.length ≤ maxLen) (hms : ∀ x ∈ mv, x < 256)
    (hs : w0.heap.size ≤ bw) (hcn : t.count ≤ 100000) (han : at_ ≤ 100000) :
    Calls Try.prog 73 #[.pointer (some ⟨bw, 0, none⟩)] w fun e w' => e = .returned (.bool true) ∧ ∃ xs', CatchAt w0 b vm ln bw (pass1 t) xs' (at_ + 1) w' := by
  obtain ⟨vt, vx, hF, hw0, ht0, hx0, hap, h0⟩ := hC
  obtain ⟨-, st, zt, rfl, -⟩ := SlAt.of_owns ht0
  obtain ⟨-, sx, zx, rfl, -⟩ := SlAt.of_owns hx0
  have hw := Lib.hid hw0
  have ht := Lib.hid ht0
  have hx := Lib.hid hx0
  obtain ⟨am, cm, rfl, -, hcm⟩ := hm.form
  have HM := Lib.hid hcm
  have hmx : mv.length ≤ 9223372036854775807 := hml
  clear hw0 ht0 hx0 hm hcm hap
  obtain ⟨i2, hk1, hk2, hk3, hk4⟩ := info_parts info131
  have hok := hF.1
  have hb : b.ok := hF.2.1 ▸ hF.1.1
  have hbt := hF.2.1
  have hxl := hF.2.2.1
  obtain ⟨s1, s2, s3, s4, s5⟩ := hok.2.1
  have hl50 : t.parts.length ≤ 50 := by omega
  have hxl32 : xs.length ≤ 32 := by omega
  have HXL := Lib.hid hxl
  have hadv : advanceR t 1 = (pass1 t, fates1 t, 0) := by
    rw [adv_yes hok (by omega) (by omega) (by omega)]
    simp [passN]
  have hopen : openR t = (openAt t (t.count + 1), 0) := if_pos hok
  obtain ⟨by_, hby⟩ : ∃ by_, by_ = (if at_ < mv.length then movedR b ((mv.getD at_ 0 : Nat) : Int) else movedR b ((0 : Nat) : Int)) := ⟨_, rfl⟩
  have hbd : least b ≤ by_ ∧ by_ ≤ most b := by rw [hby]; split <;> exact movedN_bd hb _
  have hcr := count_round hF hbd.1 hbd.2 (by omega)
  have hfits : ∀ i, i < xs.length → Fits b t.count (xs.getD i thing0) (t.parts.getD i seen0) := hF.2.2.2
  have HFO := Lib.hid hF
  have hfb : ∀ i, i < xs.length → 0 ≤ (xs.getD i thing0).front ∧ (xs.getD i thing0).front ≤ 300000000 ∧ 0 ≤ (xs.getD i thing0).length ∧ (xs.getD i thing0).length ≤ 1000000 := by
    intro i hi
    obtain ⟨-, -, -, l1, l2, f1, f2⟩ := hF.2.2.2 i hi
    have hin := (hF.in hi).2
    obtain ⟨-, -, p1, p2, -⟩ := hin
    obtain ⟨a1, a2, a3, a4, a5, a6, a7, a8⟩ := hb
    have hle : 0 ≤ least b := by unfold least; omega
    have hmo : 0 ≤ most b ∧ most b ≤ 2000 := by unfold most; omega
    have hd : 0 ≤ t.count - (t.parts.getD i seen0).at_ ∧ t.count - (t.parts.getD i seen0).at_ ≤ 100000 := by omega
    have e1 := Int.mul_nonneg hd.1 hle
    have e2 : (t.count - (t.parts.getD i seen0).at_) * most b ≤ 100000 * 2000 := Int.mul_le_mul hd.2 hmo.2 hmo.1 (by omega)
    omega
  obtain ⟨ub1, ub2⟩ : 0 ≤ by_ ∧ by_ ≤ 2000 := by
    obtain ⟨a1, a2, a3, a4, -⟩ := hb
    unfold least most at hbd; omega
  obtain ⟨op, hop⟩ : ∃ op, openAt t (t.count + 1) = op := ⟨_, rfl⟩
  obtain ⟨T1, hT1⟩ : ∃ T1, pass1 t = T1 := ⟨_, rfl⟩
  obtain ⟨fs, hfs⟩ : ∃ fs, fates1 t = fs := ⟨_, rfl⟩
  rw [hop] at hopen hcr
  rw [hT1] at hadv hcr ⊢
  rw [hfs] at hadv hcr
  obtain ⟨hc1, hc2, hc3, hc4⟩ := hcr
  have HFS := Lib.hid hc1
  have HROUND := Lib.hid hc2
  have HNEW := Lib.hid (And.intro hc3 hc4)
  have HFB := Lib.hid hfb
  have HBY := Lib.hid hby
  have hfl : fs.length ≤ 1 := by rcases hc1 with h | ⟨f, h⟩ <;> rw [h] <;> simp
  have q1 : decide ((1 : Int) < (fs.length : Int)) = false := decide_eq_false (by omega)
  have q2 : decide (1 < fs.length) = false := decide_eq_false (by omega)
  have K38 := Lib.hid (fun w' (h : SeensAt w' (.slice st t.parts.length zt) t.parts) => w38 t _ w' h hl50)
  have K40 := Lib.hid (fun w' (h : SeensAt w' (.slice st t.parts.length zt) t.parts) => w40 t _ 1 w' h hl50)
  rw [hopen] at K38
  rw [hadv] at K40
  have K45 : Hid (∀ w' (m : Nat), m < 256 → Calls Try.prog 45 #[.agg #[.int .i64 t.belt.step, .int .i64 t.belt.slip, .int .i64 t.belt.gate, .int .i64 t.belt.length], .int .u8 (m : Int)] w' fun e w'' => e = .returned (.int .i64 (movedR b (m : Int))) ∧ Ext w' w'') := Lib.hid (fun w' m hm => by rw [← hbt]; exact w45 t.belt (hbt ▸ hb) m hm w')
  have K450 : Hid (∀ w', Calls Try.prog 45 #[.agg #[.int .i64 t.belt.step, .int .i64 t.belt.slip, .int .i64 t.belt.gate, .int .i64 t.belt.length], .int .u8 0] w' fun e w'' => e = .returned (.int .i64 (movedR b ((0 : Nat) : Int))) ∧ Ext w' w'') := Lib.hid (fun w' => K45.out w' 0 (by omega))
  have HGT := Lib.hid (show t.belt.gate = b.gate by rw [hbt])
  clear hxl hbt hc1 hc2 hc3 hc4 hopen hadv hop hT1 hfs hby hfb hfits hF hok hbd
  obtain ⟨⟨j0, j1, j2, j3, j4, j5, j6, j7, j8, j9, j10⟩, jf0, jf1, jf2, jf3, jf4, jf5, jf6, jf7, jf8, jf9, jf10⟩ := run_11 hw.out
  have jz := (Array.getElem?_eq_some_iff.1 hw.out).1
  go_enter Try.func73, Try.ntmps73
  go_wp2_with (first | (have _q := E22.out; go_at_call 45; (with_reducible refine (K450.out _).mono ?_); rintro E w23 ⟨rfl, hb23⟩; have A23 := Lib.hid (show At w23 [(w22.heap.size, Obj.cells #[.int .i64 T1.belt.step, .int .i64 T1.belt.slip, .int .i64 T1.belt.gate, .int .i64 T1.belt.length, .int .i64 T1.count, .int .i64 T1.next, (.slice s1 T1.parts.length z1)] 47), (bw, Obj.cells #[.int .i64 t.belt.step, .int .i64 t.belt.slip, .int .i64 t.belt.gate, .int .i64 t.belt.length, .int .i64 t.count, .int .i64 t.next, (.slice st t.parts.length zt), (.slice sx xs.length zx), (.slice am mv.length cm), .int .i64 (at_ : Int), .int .i64 ln] 84)] from At.ext hb23 (show At (World.alloc w22 (Obj.cells #[.int .i64 T1.belt.step, .int .i64 T1.belt.slip, .int .i64 T1.belt.gate, .int .i64 T1.belt.length, .int .i64 T1.count, .int .i64 T1.next, (.slice s1 T1.parts.length z1)] 47)) [(w22.heap.size, Obj.cells #[.int .i64 T1.belt.step, .int .i64 T1.belt.slip, .int .i64 T1.belt.gate, .int .i64 T1.belt.length, .int .i64 T1.count, .int .i64 T1.next, (.slice s1 T1.parts.length z1)] 47), (bw, Obj.cells #[.int .i64 t.belt.step, .int .i64 t.belt.slip, .int .i64 t.belt.gate, .int .i64 t.belt.length, .int .i64 t.count, .int .i64 t.next, (.slice st t.parts.length zt), (.slice sx xs.length zx), (.slice am mv.length cm), .int .i64 (at_ : Int), .int .i64 ln] 84)] from ⟨one_first _ _, At.alloc A22.out _⟩)); have E23 := Lib.hid ((((E22.out).alloc _)).trans hb23); obtain ⟨⟨c23_0_0, c23_0_1, c23_0_2, c23_0_3, c23_0_4, c23_0_5, c23_0_6⟩, f23_0_0, f23_0_1, f23_0_2, f23_0_3, f23_0_4, f23_0_5, f23_0_6⟩ := run_7 (At.at A23.out 0 rfl); have s23_0 : w22.heap.size < w23.heap.size := At.lt A23.out 0 rfl; obtain ⟨⟨c23_1_0, c23_1_1, c23_1_2, c23_1_3, c23_1_4, c23_1_5, c23_1_6, c23_1_7, c23_1_8, c23_1_9, c23_1_10⟩, f23_1_0, f23_1_1, f23_1_2, f23_1_3, f23_1_4, f23_1_5, f23_1_6, f23_1_7, f23_1_8, f23_1_9, f23_1_10⟩ := run_11 (At.at A23.out 1 rfl); have s23_1 : bw < w23.heap.size := At.lt A23.out 1 rfl; (try clear c22_0_0 c22_0_1 c22_0_2 c22_0_3 c22_0_4 c22_0_5 c22_0_6 c22_0_7 c22_0_8 c22_0_9 c22_0_10 f22_0_0 f22_0_1 f22_0_2 f22_0_3 f22_0_4 f22_0_5 f22_0_6 f22_0_7 f22_0_8 f22_0_9 f22_0_10); have X_23 := Lib.hid (owns_ext ((owns_ext (X_22.out) ((Ext.refl _).alloc _))) hb23); have OT_23 := Lib.hid (owns_ext ((owns_ext (OT.out) ((Ext.refl _).alloc _))) hb23); have OF_23 := Lib.hid (owns_ext ((owns_ext (OF.out) ((Ext.refl _).alloc _))) hb23)) | (have _q := E21.out; go_at_call 40; (with_reducible refine (K40.out _ (seens_own T_21.out rfl)).mono ?_); rintro E w22 ⟨v22, f22, rfl, o22, p22, hb22⟩; have A22 := Lib.hid (show At w22 [(bw, Obj.cells #[.int .i64 t.belt.step, .int .i64 t.belt.slip, .int .i64 t.belt.gate, .int .i64 t.belt.length, .int .i64 t.count, .int .i64 t.next, (.slice st t.parts.length zt), (.slice sx xs.length zx), (.slice am mv.length cm), .int .i64 (at_ : Int), .int .i64 ln] 84)] from At.ext hb22 A21.out); have E22 := Lib.hid ((E21.out).trans hb22); obtain ⟨⟨c22_0_0, c22_0_1, c22_0_2, c22_0_3, c22_0_4, c22_0_5, c22_0_6, c22_0_7, c22_0_8, c22_0_9, c22_0_10⟩, f22_0_0, f22_0_1, f22_0_2, f22_0_3, f22_0_4, f22_0_5, f22_0_6, f22_0_7, f22_0_8, f22_0_9, f22_0_10⟩ := run_11 (At.at A22.out 0 rfl); have s22_0 : bw < w22.heap.size := At.lt A22.out 0 rfl; (try clear c21_0_0 c21_0_1 c21_0_2 c21_0_3 c21_0_4 c21_0_5 c21_0_6 c21_0_7 c21_0_8 c21_0_9 c21_0_10 f21_0_0 f21_0_1 f21_0_2 f21_0_3 f21_0_4 f21_0_5 f21_0_6 f21_0_7 f21_0_8 f21_0_9 f21_0_10 s21_0); have X_22 := Lib.hid (owns_ext (X_21.out) hb22); have T_22 := Lib.hid (owns_ext (T_21.out) hb22); obtain ⟨-, s1, z1, hv22, -⟩ := SlAt.of_owns o22; subst hv22; obtain ⟨-, sf, zf, hf22, -⟩ := SlAt.of_owns p22; subst hf22; have OT := Lib.hid (owns_base (base' := bw + 1) o22 (by have := At.lt A21.out 0 rfl; omega)); have OF := Lib.hid (owns_base (base' := bw + 1) p22 (by have := At.lt A21.out 0 rfl; omega)); clear o22 p22) | (go_at_call 38; (with_reducible refine (K38.out _ (seens_own ht.out rfl)).mono ?_); rintro E w21 ⟨rfl, hb21⟩; have A21 := Lib.hid (show At w21 [(bw, Obj.cells #[.int .i64 t.belt.step, .int .i64 t.belt.slip, .int .i64 t.belt.gate, .int .i64 t.belt.length, .int .i64 t.count, .int .i64 t.next, (.slice st t.parts.length zt), (.slice sx xs.length zx), (.slice am mv.length cm), .int .i64 (at_ : Int), .int .i64 ln] 84)] from At.ext hb21 (show At w [(bw, Obj.cells #[.int .i64 t.belt.step, .int .i64 t.belt.slip, .int .i64 t.belt.gate, .int .i64 t.belt.length, .int .i64 t.count, .int .i64 t.next, (.slice st t.parts.length zt), (.slice sx xs.length zx), (.slice am mv.length cm), .int .i64 (at_ : Int), .int .i64 ln] 84)] from ⟨hw.out, trivial⟩)); have E21 := Lib.hid ((h0).trans hb21); obtain ⟨⟨c21_0_0, c21_0_1, c21_0_2, c21_0_3, c21_0_4, c21_0_5, c21_0_6, c21_0_7, c21_0_8, c21_0_9, c21_0_10⟩, f21_0_0, f21_0_1, f21_0_2, f21_0_3, f21_0_4, f21_0_5, f21_0_6, f21_0_7, f21_0_8, f21_0_9, f21_0_10⟩ := run_11 (At.at A21.out 0 rfl); have s21_0 : bw < w21.heap.size := At.lt A21.out 0 rfl; have X_21 := Lib.hid (owns_ext (hx.out) hb21); have T_21 := Lib.hid (owns_ext (ht.out) hb21)))
  go_quiet (fail)
  have hb24 : Ext w23 (w23.drewN nq) := (Ext.refl _).drewN nq
  generalize hw24 : w23.drewN nq = w24 at hb24 ⊢
  clear hw24
  have A24 := Lib.hid (show At w24 [(w22.heap.size, Obj.cells #[.int .i64 T1.belt.step, .int .i64 T1.belt.slip, .int .i64 T1.belt.gate, .int .i64 T1.belt.length, .int .i64 T1.count, .int .i64 T1.next, (.slice s1 T1.parts.length z1)] 47), (bw, Obj.cells #[.int .i64 t.belt.step, .int .i64 t.belt.slip, .int .i64 t.belt.gate, .int .i64 t.belt.length, .int .i64 t.count, .int .i64 t.next, (.slice st t.parts.length zt), (.slice sx xs.length zx), (.slice am mv.length cm), .int .i64 (at_ : Int), .int .i64 ln] 84)] from At.ext hb24 A23.out)
  have E24 := Lib.hid ((E23.out).trans hb24)
  obtain ⟨⟨c24_0_0, c24_0_1, c24_0_2, c24_0_3, c24_0_4, c24_0_5, c24_0_6⟩, f24_0_0, f24_0_1, f24_0_2, f24_0_3, f24_0_4, f24_0_5, f24_0_6⟩ := run_7 (At.at A24.out 0 rfl)
  have s24_0 : w22.heap.size < w24.heap.size := At.lt A24.out 0 rfl
  obtain ⟨⟨c24_1_0, c24_1_1, c24_1_2, c24_1_3, c24_1_4, c24_1_5, c24_1_6, c24_1_7, c24_1_8, c24_1_9, c24_1_10⟩, f24_1_0, f24_1_1, f24_1_2, f24_1_3, f24_1_4, f24_1_5, f24_1_6, f24_1_7, f24_1_8, f24_1_9, f24_1_10⟩ := run_11 (At.at A24.out 1 rfl)
  have s24_1 : bw < w24.heap.size := At.lt A24.out 1 rfl
  (try clear c23_0_0 c23_0_1 c23_0_2 c23_0_3 c23_0_4 c23_0_5 c23_0_6 f23_0_0 f23_0_1 f23_0_2 f23_0_3 f23_0_4 f23_0_5 f23_0_6 c23_1_0 c23_1_1 c23_1_2 c23_1_3 c23_1_4 c23_1_5 c23_1_6 c23_1_7 c23_1_8 c23_1_9 c23_1_10 f23_1_0 f23_1_1 f23_1_2 f23_1_3 f23_1_4 f23_1_5 f23_1_6 f23_1_7 f23_1_8 f23_1_9 f23_1_10 s23_0 s23_1)
  have X_24 := Lib.hid (owns_ext (X_23.out) hb24)
  have OT_24 := Lib.hid (owns_ext (OT_23.out) hb24)
  have OF_24 := Lib.hid (owns_ext (OF_23.out) hb24)
  clear hb24
  go_upto_if 56 with fail
  go_cut [8] (fun s wx => s = .int .i64 by_ ∧ Hid (Ext w24 wx))
  case first =>
    by_cases hat : at_ < mv.length
    · have hatI : (at_ : Int) < (mv.length : Int) := by omega
      have hatD : decide ((at_ : Int) < (mv.length : Int)) = true := decide_eq_true hatI
      have hm9 : mv.getD at_ 0 < 256 := hms _ (by rw [List.getD_eq_getElem?_getD, List.getElem?_eq_getElem hat]; exact List.getElem_mem hat)
      obtain ⟨bm, om, rfl, hcm⟩ : ∃ b o, am = some ⟨b, o, none⟩ ∧ w0.cell? ⟨b, o + at_, none⟩ = some (.int .u8 ((mv.getD at_ 0 : Nat) : Int)) := HM.out at_ hat
      have y1 := E24.out.get hcm
      have yz := World.block_lt_of_cell? _ _ y1
      simp only at yz
      have HBY1 := Lib.hid (show by_ = movedR b ((mv.getD at_ 0 : Nat) : Int) by rw [HBY.out, if_pos hat])
      obtain ⟨m, hm8⟩ : ∃ m, mv.getD at_ 0 = m := ⟨_, rfl⟩
      rw [hm8] at y1 hm9 HBY1
      clear hm8 hcm
      go_wp2_with fail
      refine wp_region_quiet_below (by kernel_rfl) (by kernel_rfl) ?_
      repeat (go_big_quiet_step ((first | (go_at_call 45; with_reducible exact Calls.ext_of (K45.out _ _ hm9)))))
      refine wpQuiet_nil ?_
      intro w25 hw'
      obtain ⟨pq, hw''⟩ := hw'
      have hb25 := ext_of_regrown hw''
      clear hw'' pq
      have A25 := Lib.hid (show At w25 [(w22.heap.size, Obj.cells #[.int .i64 T1.belt.step, .int .i64 T1.belt.slip, .int .i64 T1.belt.gate, .int .i64 T1.belt.length, .int .i64 T1.count, .int .i64 T1.next, (.slice s1 T1.parts.length z1)] 47), (bw, Obj.cells #[.int .i64 t.belt.step, .int .i64 t.belt.slip, .int .i64 t.belt.gate, .int .i64 t.belt.length, .int .i64 t.count, .int .i64 t.next, (.slice st t.parts.length zt), (.slice sx xs.length zx), (.slice (some ⟨bm, om, none⟩) mv.length cm), .int .i64 (at_ : Int), .int .i64 ln] 84)] from At.ext hb25 A24.out)
      have E25 := Lib.hid ((E24.out).trans hb25)
      obtain ⟨⟨c25_0_0, c25_0_1, c25_0_2, c25_0_3, c25_0_4, c25_0_5, c25_0_6⟩, f25_0_0, f25_0_1, f25_0_2, f25_0_3, f25_0_4, f25_0_5, f25_0_6⟩ := run_7 (At.at A25.out 0 rfl)
      have s25_0 : w22.heap.size < w25.heap.size := At.lt A25.out 0 rfl
      obtain ⟨⟨c25_1_0, c25_1_1, c25_1_2, c25_1_3, c25_1_4, c25_1_5, c25_1_6, c25_1_7, c25_1_8, c25_1_9, c25_1_10⟩, f25_1_0, f25_1_1, f25_1_2, f25_1_3, f25_1_4, f25_1_5, f25_1_6, f25_1_7, f25_1_8, f25_1_9, f25_1_10⟩ := run_11 (At.at A25.out 1 rfl)
      have s25_1 : bw < w25.heap.size := At.lt A25.out 1 rfl
      (try clear c24_0_0 c24_0_1 c24_0_2 c24_0_3 c24_0_4 c24_0_5 c24_0_6 f24_0_0 f24_0_1 f24_0_2 f24_0_3 f24_0_4 f24_0_5 f24_0_6 c24_1_0 c24_1_1 c24_1_2 c24_1_3 c24_1_4 c24_1_5 c24_1_6 c24_1_7 c24_1_8 c24_1_9 c24_1_10 f24_1_0 f24_1_1 f24_1_2 f24_1_3 f24_1_4 f24_1_5 f24_1_6 f24_1_7 f24_1_8 f24_1_9 f24_1_10 s24_0 s24_1)
      have X_25 := Lib.hid (owns_ext (X_24.out) hb25)
      have OT_25 := Lib.hid (owns_ext (OT_24.out) hb25)
      have OF_25 := Lib.hid (owns_ext (OF_24.out) hb25)
      have HB2 := Lib.hid hb25
      clear hb25
      go_wp2_with fail
      go_meet
      exact ⟨by rw [HBY1.out], HB2⟩
    · have hatI : decide ((at_ : Int) < (mv.length : Int)) = false := decide_eq_false (by omega)
      have HBY1 := Lib.hid (show by_ = movedR b ((0 : Nat) : Int) by rw [HBY.out, if_neg hat])
      go_wp2_with fail
      go_meet
      exact ⟨by rw [HBY1.out]; rfl, Lib.hid (Ext.refl _)⟩
  case rest =>
    obtain ⟨rfl, hE0⟩ := hcut
    clear hmx hml
    obtain ⟨w25, hwc⟩ : ∃ x, x = wc := ⟨_, rfl⟩
    subst hwc
    have hE9 := hE0.out
    have A25 := Lib.hid (show At w25 [(w22.heap.size, Obj.cells #[.int .i64 T1.belt.step, .int .i64 T1.belt.slip, .int .i64 T1.belt.gate, .int .i64 T1.belt.length, .int .i64 T1.count, .int .i64 T1.next, (.slice s1 T1.parts.length z1)] 47), (bw, Obj.cells #[.int .i64 t.belt.step, .int .i64 t.belt.slip, .int .i64 t.belt.gate, .int .i64 t.belt.length, .int .i64 t.count, .int .i64 t.next, (.slice st t.parts.length zt), (.slice sx xs.length zx), (.slice am mv.length cm), .int .i64 (at_ : Int), .int .i64 ln] 84)] from At.ext hE9 A24.out)
    have E25 := Lib.hid ((E24.out).trans hE9)
    obtain ⟨⟨c25_0_0, c25_0_1, c25_0_2, c25_0_3, c25_0_4, c25_0_5, c25_0_6⟩, f25_0_0, f25_0_1, f25_0_2, f25_0_3, f25_0_4, f25_0_5, f25_0_6⟩ := run_7 (At.at A25.out 0 rfl)
    have s25_0 : w22.heap.size < w25.heap.size := At.lt A25.out 0 rfl
    obtain ⟨⟨c25_1_0, c25_1_1, c25_1_2, c25_1_3, c25_1_4, c25_1_5, c25_1_6, c25_1_7, c25_1_8, c25_1_9, c25_1_10⟩, f25_1_0, f25_1_1, f25_1_2, f25_1_3, f25_1_4, f25_1_5, f25_1_6, f25_1_7, f25_1_8, f25_1_9, f25_1_10⟩ := run_11 (At.at A25.out 1 rfl)
    have s25_1 : bw < w25.heap.size := At.lt A25.out 1 rfl
    (try clear c24_0_0 c24_0_1 c24_0_2 c24_0_3 c24_0_4 c24_0_5 c24_0_6 f24_0_0 f24_0_1 f24_0_2 f24_0_3 f24_0_4 f24_0_5 f24_0_6 c24_1_0 c24_1_1 c24_1_2 c24_1_3 c24_1_4 c24_1_5 c24_1_6 c24_1_7 c24_1_8 c24_1_9 c24_1_10 f24_1_0 f24_1_1 f24_1_2 f24_1_3 f24_1_4 f24_1_5 f24_1_6 f24_1_7 f24_1_8 f24_1_9 f24_1_10 s24_0 s24_1)
    have X_25 := Lib.hid (owns_ext (X_24.out) hE9)
    have OT_25 := Lib.hid (owns_ext (OT_24.out) hE9)
    have OF_25 := Lib.hid (owns_ext (OF_24.out) hE9)
    clear hE9 hE0
    have A5 := Lib.hid (show At (World.setCell w25 ⟨bw, 9, none⟩ (.int .i64 ((at_ : Int) + 1))) [(bw, Obj.cells #[.int .i64 t.belt.step, .int .i64 t.belt.slip, .int .i64 t.belt.gate, .int .i64 t.belt.length, .int .i64 t.count, .int .i64 t.next, (.slice st t.parts.length zt), (.slice sx xs.length zx), (.slice am mv.length cm), .int .i64 ((at_ : Int) + 1), .int .i64 ln] 84), (w22.heap.size, Obj.cells #[.int .i64 T1.belt.step, .int .i64 T1.belt.slip, .int .i64 T1.belt.gate, .int .i64 T1.belt.length, .int .i64 T1.count, .int .i64 T1.next, (.slice s1 T1.parts.length z1)] 47)] from (show At (World.setCell w25 ⟨bw, 9, none⟩ (.int .i64 ((at_ : Int) + 1))) [(bw, Obj.cells #[.int .i64 t.belt.step, .int .i64 t.belt.slip, .int .i64 t.belt.gate, .int .i64 t.belt.length, .int .i64 t.count, .int .i64 t.next, (.slice st t.parts.length zt), (.slice sx xs.length zx), (.slice am mv.length cm), .int .i64 ((at_ : Int) + 1), .int .i64 ln] 84), (w22.heap.size, Obj.cells #[.int .i64 T1.belt.step, .int .i64 T1.belt.slip, .int .i64 T1.belt.gate, .int .i64 T1.belt.length, .int .i64 T1.count, .int .i64 T1.next, (.slice s1 T1.parts.length z1)] 47)] from ⟨(st_one (At.at A25.out 1 rfl) 9 (.int .i64 ((at_ : Int) + 1))).1, (At.other (st_one (At.at A25.out 1 rfl) 9 (.int .i64 ((at_ : Int) + 1))).2.1 (by first | (simp; done) | (simp; omega)) (At.erase A25.out 1))⟩))
    have E5 := Lib.hid (show Ext w0 (World.setCell w25 ⟨bw, 9, none⟩ (.int .i64 ((at_ : Int) + 1))) from ((st_one (At.at A25.out 1 rfl) 9 (.int .i64 ((at_ : Int) + 1))).2.2 w0 (by omega) E25.out))
    have X5 := Lib.hid (show World.ownsRow (World.setCell w25 ⟨bw, 9, none⟩ (.int .i64 ((at_ : Int) + 1))) (bw + 1) 131 5 (.slice sx xs.length zx) xs.length (thingsL xs) from (own_set (bo := bw) (o := 9) X_25.out (by omega)))
    have T5 := Lib.hid (show World.ownsRow (World.setCell w25 ⟨bw, 9, none⟩ (.int .i64 ((at_ : Int) + 1))) (bw + 1) 63 4 (.slice s1 T1.parts.length z1) T1.parts.length (seens T1.parts) from (own_set (bo := bw) (o := 9) OT_25.out (by omega)))
    have F5 := Lib.hid (show World.ownsRow (World.setCell w25 ⟨bw, 9, none⟩ (.int .i64 ((at_ : Int) + 1))) (bw + 1) 93 3 (.slice sf fs.length zf) fs.length (fatesL fs) from (own_set (bo := bw) (o := 9) OF_25.out (by omega)))
    go_wp2_with fail
    obtain ⟨w5, hw5⟩ : ∃ x, (World.setCell w25 ⟨bw, 9, none⟩ (.int .i64 ((at_ : Int) + 1))) = x := ⟨_, rfl⟩
    rw [hw5] at A5 E5 X5 T5 F5
    rw [hw5]
    clear hw5 A25 E25 X_25 OT_25 OF_25
    have X5a := Lib.hid (things_own X5.out rfl)
    have zw5 := At.lt A5.out 1 rfl
    have zT5 := At.lt A5.out 0 rfl
    obtain ⟨nf, hnf⟩ : ∃ n, fs.length = n := ⟨_, rfl⟩
    rw [hnf] at F5 ⊢
    have HNF := Lib.hid hnf
    clear hnf q1 q2
    go_loopw [9, 85] (fun u9 v wr => ∃ k : Nat, k ≤ xs.length ∧ v = .int .i64 k ∧ Hid (Ext w5 wr) ∧ Hid (wr.ownsRow w5.heap.size 131 5 u9 (lfUp by_ op b fs xs k).length (thingsL (lfUp by_ op b fs xs k)))) (fun _ v _ => xs.length - (intOf v).toNat)
    case atStart => exact ⟨0, Nat.zero_le _, rfl, Lib.hid (Ext.refl _), Lib.hid ⟨rfl, .inl ⟨rfl, rfl⟩⟩⟩
    case round =>
      obtain ⟨k, hk, rfl, hE, hL0⟩ := hrel
      have hle := lfUp_len by_ op b fs xs k
      have hwz := hE.out.size
      by_cases hkl : k < xs.length
      · clear j0 j1 j2 j3 j4 j5 j6 j7 j8 j9 j10 jf0 jf1 jf2 jf3 jf4 jf5 jf6 jf7 jf8 jf9 jf10 jz c25_0_0 f25_0_0 c25_0_1 f25_0_1 c25_0_2 f25_0_2 c25_0_3 f25_0_3 c25_0_4 f25_0_4 c25_0_5 f25_0_5 c25_0_6 f25_0_6 c25_1_0 f25_1_0 c25_1_1 f25_1_1 c25_1_2 f25_1_2 c25_1_3 f25_1_3 c25_1_4 f25_1_4 c25_1_5 f25_1_5 c25_1_6 f25_1_6 c25_1_7 f25_1_7 c25_1_8 f25_1_8 c25_1_9 f25_1_9 c25_1_10 f25_1_10 hb21 hb22 hb23
        clear K38 K40 K45 K450
        have hup := lfUp_succ by_ op b fs xs hkl
        obtain ⟨ll, hll⟩ : ∃ l, lfUp by_ op b fs xs k = l := ⟨_, rfl⟩
        rw [hll] at hL0 hup hle
        have hL := hL0
        have HLb := Lib.hid (owns_block hL.out)
        clear hll hL0
        have hAw := Lib.hid (show At wr [(bw, Obj.cells #[.int .i64 t.belt.step, .int .i64 t.belt.slip, .int .i64 t.belt.gate, .int .i64 t.belt.length, .int .i64 t.count, .int .i64 t.next, (.slice st t.parts.length zt), (.slice sx xs.length zx), (.slice am mv.length cm), .int .i64 ((at_ : Int) + 1), .int .i64 ln] 84)] from ⟨At.at (At.ext hE.out A5.out) 0 rfl, trivial⟩)
        obtain ⟨⟨q0, q1, q2, q3, q4, q5, q6, q7, q8, q9, q10⟩, qf0, qf1, qf2, qf3, qf4, qf5, qf6, qf7, qf8, qf9, qf10⟩ := run_11 (At.at hAw.out 0 rfl)
        have qz := At.lt hAw.out 0 rfl
        obtain ⟨ao', cap', e, -, hc⟩ := ThingsAt.form (ThingsAt.ext X5a.out hE.out)
        injection e with e1 _ e3
        subst e1
        subst e3
        obtain ⟨bx, off, rfl, y0, y1, y2, y3, y4⟩ := hc k hkl
        clear hc
        have hklI : (k : Int) < (xs.length : Int) := by omega
        have hrd := HROUND.out (xs.getD k thing0) (by rw [getT hkl]; exact List.getElem_mem hkl)
        have hfb := HFB.out k hkl
        obtain ⟨x, hx9⟩ : ∃ x, xs.getD k thing0 = x := ⟨_, rfl⟩
        rw [hx9] at y0 y1 y2 y3 y4 hup hrd hfb
        clear hx9
        obtain ⟨xi, xf, xl, xv, xh⟩ := x
        obtain ⟨gt, hgt9⟩ : ∃ g, g = atGate b by_ ⟨xi, xf, xl, xv, xh⟩ := ⟨_, rfl⟩
        have HGTE := Lib.hid hgt9
        clear hgt9
        obtain ⟨hh, hhh⟩ : ∃ h, h = (moveT b by_ op ⟨xi, xf, xl, xv, xh⟩).hit := ⟨_, rfl⟩
        have hmv : moveT b by_ op ⟨xi, xf, xl, xv, xh⟩ = ⟨xi, xf + by_, xl, xv, hh⟩ := by rw [hhh]; rfl
        rw [hmv] at hup
        have HMV := Lib.hid hmv
        have HUP := Lib.hid hup
        have HHH := Lib.hid hhh
        have HRD := Lib.hid hrd
        obtain ⟨nb1, nb2, nb3, nb4⟩ := hfb
        have HF5 := Lib.hid (fates_own F5.out HNF.out.symm)
        clear hmv hup hhh hrd
        simp only at y0 y1 y2 y3 y4 nb1 nb2 nb3 nb4
        rw [HGT.out] at q2
        have yz := World.block_lt_of_cell? _ _ y0
        simp only at yz
        go_upto_region 15 with fail
        go_cut [117] (fun s wx => s = .bool gt ∧ Hid (Ext w5 wx) ∧ Hid (At wx [(wr.heap.size, Obj.cells #[.int .i64 xi, .int .i64 (xf + by_), .int .i64 xl, .int .u8 xv, .bool xh] 131)]) ∧ Hid (wx.ownsRow w5.heap.size 131 5 u9 ll.length (thingsL ll)))
        case first =>
          by_cases g1 : b.gate ≤ xf + by_
          · have t1 : decide (b.gate ≤ xf + by_) = true := decide_eq_true g1
            by_cases g2 : xf - xl ≤ b.gate
            · have t2 : decide (xf - xl ≤ b.gate) = true := decide_eq_true g2
              have e9 : gt = true := by rw [HGTE.out]; unfold atGate; simp only [t1, t2]; rfl
              subst e9
              as_aux_lemma =>
                go_wp2_with fail
                go_quiet (fail)
                have hb10 : Ext (World.alloc wr (Obj.cells #[.int .i64 xi, .int .i64 (xf + by_), .int .i64 xl, .int .u8 xv, .bool xh] 131)) ((World.alloc wr (Obj.cells #[.int .i64 xi, .int .i64 (xf + by_), .int .i64 xl, .int .u8 xv, .bool xh] 131)).drewN nq) := (Ext.refl _).drewN nq
                generalize hw10 : (World.alloc wr (Obj.cells #[.int .i64 xi, .int .i64 (xf + by_), .int .i64 xl, .int .u8 xv, .bool xh] 131)).drewN nq = w10 at hb10 ⊢
                clear hw10
                have A10 := Lib.hid (show At w10 [(wr.heap.size, Obj.cells #[.int .i64 xi, .int .i64 (xf + by_), .int .i64 xl, .int .u8 xv, .bool xh] 131), (bw, Obj.cells #[.int .i64 t.belt.step, .int .i64 t.belt.slip, .int .i64 t.belt.gate, .int .i64 t.belt.length, .int .i64 t.count, .int .i64 t.next, (.slice st t.parts.length zt), (.slice (some ⟨bx, off, none⟩) xs.length zx), (.slice am mv.length cm), .int .i64 ((at_ : Int) + 1), .int .i64 ln] 84)] from At.ext hb10 (show At (World.alloc wr (Obj.cells #[.int .i64 xi, .int .i64 (xf + by_), .int .i64 xl, .int .u8 xv, .bool xh] 131)) [(wr.heap.size, Obj.cells #[.int .i64 xi, .int .i64 (xf + by_), .int .i64 xl, .int .u8 xv, .bool xh] 131), (bw, Obj.cells #[.int .i64 t.belt.step, .int .i64 t.belt.slip, .int .i64 t.belt.gate, .int .i64 t.belt.length, .int .i64 t.count, .int .i64 t.next, (.slice st t.parts.length zt), (.slice (some ⟨bx, off, none⟩) xs.length zx), (.slice am mv.length cm), .int .i64 ((at_ : Int) + 1), .int .i64 ln] 84)] from ⟨one_first _ _, At.alloc hAw.out _⟩))
                have E10 := Lib.hid ((((hE.out).alloc _)).trans hb10)
                obtain ⟨⟨c10_0_0, c10_0_1, c10_0_2, c10_0_3, c10_0_4⟩, f10_0_0, f10_0_1, f10_0_2, f10_0_3, f10_0_4⟩ := run_5 (At.at A10.out 0 rfl)
                have s10_0 : wr.heap.size < w10.heap.size := At.lt A10.out 0 rfl
                obtain ⟨⟨c10_1_0, c10_1_1, c10_1_2, c10_1_3, c10_1_4, c10_1_5, c10_1_6, c10_1_7, c10_1_8, c10_1_9, c10_1_10⟩, f10_1_0, f10_1_1, f10_1_2, f10_1_3, f10_1_4, f10_1_5, f10_1_6, f10_1_7, f10_1_8, f10_1_9, f10_1_10⟩ := run_11 (At.at A10.out 1 rfl)
                have s10_1 : bw < w10.heap.size := At.lt A10.out 1 rfl
                have L_10 := Lib.hid (owns_ext ((owns_ext (hL.out) ((Ext.refl _).alloc _))) hb10)
                clear hb10
                go_wp2_with fail
                go_meet
                exact ⟨rfl, Lib.hid E10.out, Lib.hid ⟨At.at A10.out 0 rfl, trivial⟩, Lib.hid L_10.out⟩
            · have t2 : decide (xf - xl ≤ b.gate) = false := decide_eq_false g2
              have e9 : gt = false := by rw [HGTE.out]; unfold atGate; simp only [t2, Bool.and_false]
              subst e9
              as_aux_lemma =>
                go_wp2_with fail
                go_quiet (fail)
                have hb10 : Ext (World.alloc wr (Obj.cells #[.int .i64 xi, .int .i64 (xf + by_), .int .i64 xl, .int .u8 xv, .bool xh] 131)) ((World.alloc wr (Obj.cells #[.int .i64 xi, .int .i64 (xf + by_), .int .i64 xl, .int .u8 xv, .bool xh] 131)).drewN nq) := (Ext.refl _).drewN nq
                generalize hw10 : (World.alloc wr (Obj.cells #[.int .i64 xi, .int .i64 (xf + by_), .int .i64 xl, .int .u8 xv, .bool xh] 131)).drewN nq = w10 at hb10 ⊢
                clear hw10
                have A10 := Lib.hid (show At w10 [(wr.heap.size, Obj.cells #[.int .i64 xi, .int .i64 (xf + by_), .int .i64 xl, .int .u8 xv, .bool xh] 131), (bw, Obj.cells #[.int .i64 t.belt.step, .int .i64 t.belt.slip, .int .i64 t.belt.gate, .int .i64 t.belt.length, .int .i64 t.count, .int .i64 t.next, (.slice st t.parts.length zt), (.slice (some ⟨bx, off, none⟩) xs.length zx), (.slice am mv.length cm), .int .i64 ((at_ : Int) + 1), .int .i64 ln] 84)] from At.ext hb10 (show At (World.alloc wr (Obj.cells #[.int .i64 xi, .int .i64 (xf + by_), .int .i64 xl, .int .u8 xv, .bool xh] 131)) [(wr.heap.size, Obj.cells #[.int .i64 xi, .int .i64 (xf + by_), .int .i64 xl, .int .u8 xv, .bool xh] 131), (bw, Obj.cells #[.int .i64 t.belt.step, .int .i64 t.belt.slip, .int .i64 t.belt.gate, .int .i64 t.belt.length, .int .i64 t.count, .int .i64 t.next, (.slice st t.parts.length zt), (.slice (some ⟨bx, off, none⟩) xs.length zx), (.slice am mv.length cm), .int .i64 ((at_ : Int) + 1), .int .i64 ln] 84)] from ⟨one_first _ _, At.alloc hAw.out _⟩))
                have E10 := Lib.hid ((((hE.out).alloc _)).trans hb10)
                obtain ⟨⟨c10_0_0, c10_0_1, c10_0_2, c10_0_3, c10_0_4⟩, f10_0_0, f10_0_1, f10_0_2, f10_0_3, f10_0_4⟩ := run_5 (At.at A10.out 0 rfl)
                have s10_0 : wr.heap.size < w10.heap.size := At.lt A10.out 0 rfl
                obtain ⟨⟨c10_1_0, c10_1_1, c10_1_2, c10_1_3, c10_1_4, c10_1_5, c10_1_6, c10_1_7, c10_1_8, c10_1_9, c10_1_10⟩, f10_1_0, f10_1_1, f10_1_2, f10_1_3, f10_1_4, f10_1_5, f10_1_6, f10_1_7, f10_1_8, f10_1_9, f10_1_10⟩ := run_11 (At.at A10.out 1 rfl)
                have s10_1 : bw < w10.heap.size := At.lt A10.out 1 rfl
                have L_10 := Lib.hid (owns_ext ((owns_ext (hL.out) ((Ext.refl _).alloc _))) hb10)
                clear hb10
                go_wp2_with fail
                go_meet
                exact ⟨rfl, Lib.hid E10.out, Lib.hid ⟨At.at A10.out 0 rfl, trivial⟩, Lib.hid L_10.out⟩
          · have t1 : decide (b.gate ≤ xf + by_) = false := decide_eq_false g1
            have e9 : gt = false := by rw [HGTE.out]; unfold atGate; simp only [t1, Bool.false_and]
            subst e9
            as_aux_lemma =>
              go_wp2_with fail
              go_quiet (fail)
              have hb10 : Ext (World.alloc wr (Obj.cells #[.int .i64 xi, .int .i64 (xf + by_), .int .i64 xl, .int .u8 xv, .bool xh] 131)) ((World.alloc wr (Obj.cells #[.int .i64 xi, .int .i64 (xf + by_), .int .i64 xl, .int .u8 xv, .bool xh] 131)).drewN nq) := (Ext.refl _).drewN nq
              generalize hw10 : (World.alloc wr (Obj.cells #[.int .i64 xi, .int .i64 (xf + by_), .int .i64 xl, .int .u8 xv, .bool xh] 131)).drewN nq = w10 at hb10 ⊢
              clear hw10
              have A10 := Lib.hid (show At w10 [(wr.heap.size, Obj.cells #[.int .i64 xi, .int .i64 (xf + by_), .int .i64 xl, .int .u8 xv, .bool xh] 131), (bw, Obj.cells #[.int .i64 t.belt.step, .int .i64 t.belt.slip, .int .i64 t.belt.gate, .int .i64 t.belt.length, .int .i64 t.count, .int .i64 t.next, (.slice st t.parts.length zt), (.slice (some ⟨bx, off, none⟩) xs.length zx), (.slice am mv.length cm), .int .i64 ((at_ : Int) + 1), .int .i64 ln] 84)] from At.ext hb10 (show At (World.alloc wr (Obj.cells #[.int .i64 xi, .int .i64 (xf + by_), .int .i64 xl, .int .u8 xv, .bool xh] 131)) [(wr.heap.size, Obj.cells #[.int .i64 xi, .int .i64 (xf + by_), .int .i64 xl, .int .u8 xv, .bool xh] 131), (bw, Obj.cells #[.int .i64 t.belt.step, .int .i64 t.belt.slip, .int .i64 t.belt.gate, .int .i64 t.belt.length, .int .i64 t.count, .int .i64 t.next, (.slice st t.parts.length zt), (.slice (some ⟨bx, off, none⟩) xs.length zx), (.slice am mv.length cm), .int .i64 ((at_ : Int) + 1), .int .i64 ln] 84)] from ⟨one_first _ _, At.alloc hAw.out _⟩))
              have E10 := Lib.hid ((((hE.out).alloc _)).trans hb10)
              obtain ⟨⟨c10_0_0, c10_0_1, c10_0_2, c10_0_3, c10_0_4⟩, f10_0_0, f10_0_1, f10_0_2, f10_0_3, f10_0_4⟩ := run_5 (At.at A10.out 0 rfl)
              have s10_0 : wr.heap.size < w10.heap.size := At.lt A10.out 0 rfl
              obtain ⟨⟨c10_1_0, c10_1_1, c10_1_2, c10_1_3, c10_1_4, c10_1_5, c10_1_6, c10_1_7, c10_1_8, c10_1_9, c10_1_10⟩, f10_1_0, f10_1_1, f10_1_2, f10_1_3, f10_1_4, f10_1_5, f10_1_6, f10_1_7, f10_1_8, f10_1_9, f10_1_10⟩ := run_11 (At.at A10.out 1 rfl)
              have s10_1 : bw < w10.heap.size := At.lt A10.out 1 rfl
              have L_10 := Lib.hid (owns_ext ((owns_ext (hL.out) ((Ext.refl _).alloc _))) hb10)
              clear hb10
              go_wp2_with fail
              go_meet
              exact ⟨rfl, Lib.hid E10.out, Lib.hid ⟨At.at A10.out 0 rfl, trivial⟩, Lib.hid L_10.out⟩
        case rest =>
          obtain ⟨rfl, hEe, hXe, hLe⟩ := hcut
          obtain ⟨we, hwe⟩ : ∃ x, x = wc := ⟨_, rfl⟩
          subst hwe
          clear hL hAw q0 q1 q2 q3 q4 q5 q6 q7 q8 q9 q10 qf0 qf1 qf2 qf3 qf4 qf5 qf6 qf7 qf8 qf9 qf10 y0 y1 y2 y3 y4 qz yz
          have hwe := hEe.out.size
          obtain ⟨⟨c0, c1, c2, c3, c4⟩, f0, f1, f2, f3, f4⟩ := run_5 (At.at hXe.out 0 rfl)
          have zX := At.lt hXe.out 0 rfl
          go_upto_if 117 with fail
          go_cut [12] (fun s wx => s = .int .i64 xf ∧ Hid (Ext w5 wx) ∧ Hid (At wx [(wr.heap.size, Obj.cells #[.int .i64 xi, .int .i64 (xf + by_), .int .i64 xl, .int .u8 xv, .bool hh] 131)]) ∧ Hid (wx.ownsRow w5.heap.size 131 5 u9 ll.length (thingsL ll)))
          case first =>
            have HHC := Lib.hid (show hh = (xh || (gt && op)) by rw [HHH.out]; unfold moveT; rw [← HGTE.out])
            cases gt
            · have e9 : hh = xh := by rw [HHC.out]; simp
              subst e9
              go_wp2_with fail
              go_meet
              exact ⟨rfl, hEe, hXe, hLe⟩
            · have hRD1 := HRD.out.1 HGTE.out.symm
              simp only at hRD1
              by_cases g3 : xv = 1
              · have t3 : (xv != 1) = false := by simp [g3]
                clear g3 hRD1
                cases xh
                · have e9 : hh = op := by rw [HHC.out]; rfl
                  subst e9
                  as_aux_lemma =>
                    go_wp2_with fail
                    go_meet
                    exact ⟨rfl, Lib.hid ((st_one (At.at hXe.out 0 rfl) 4 (.bool hh)).2.2 w5 (by omega) hEe.out), Lib.hid ⟨At.at (show At (World.setCell we ⟨wr.heap.size, 4, none⟩ (.bool hh)) [(wr.heap.size, Obj.cells #[.int .i64 xi, .int .i64 (xf + by_), .int .i64 xl, .int .u8 xv, .bool hh] 131)] from ⟨(st_one (At.at hXe.out 0 rfl) 4 (.bool hh)).1, (At.other (st_one (At.at hXe.out 0 rfl) 4 (.bool hh)).2.1 (by first | (simp; done) | (simp; omega)) (At.erase hXe.out 0))⟩) 0 rfl, trivial⟩, Lib.hid (owns_at hLe.out (fun k hk => set_at _ (wr.heap.size) 4 _ k (by have := (HLb.out k hk).2; omega)))⟩
                · have e9 : hh = true := by rw [HHC.out]; rfl
                  subst e9
                  as_aux_lemma =>
                    go_wp2_with fail
                    go_meet
                    exact ⟨rfl, Lib.hid ((st_one (At.at hXe.out 0 rfl) 4 (.bool true)).2.2 w5 (by omega) hEe.out), Lib.hid ⟨At.at (show At (World.setCell we ⟨wr.heap.size, 4, none⟩ (.bool true)) [(wr.heap.size, Obj.cells #[.int .i64 xi, .int .i64 (xf + by_), .int .i64 xl, .int .u8 xv, .bool true] 131)] from ⟨(st_one (At.at hXe.out 0 rfl) 4 (.bool true)).1, (At.other (st_one (At.at hXe.out 0 rfl) 4 (.bool true)).2.1 (by first | (simp; done) | (simp; omega)) (At.erase hXe.out 0))⟩) 0 rfl, trivial⟩, Lib.hid (owns_at hLe.out (fun k hk => set_at _ (wr.heap.size) 4 _ k (by have := (HLb.out k hk).2; omega)))⟩
              · have t3 : (xv != 1) = true := by simpa using g3
                have e8 : op = true := hRD1 g3
                subst e8
                have e9 : hh = true := by rw [HHC.out]; simp
                subst e9
                clear g3 hRD1
                cases xh
                · as_aux_lemma =>
                    go_wp2_with fail
                    go_meet
                    exact ⟨rfl, Lib.hid ((st_one (At.at hXe.out 0 rfl) 4 (.bool true)).2.2 w5 (by omega) hEe.out), Lib.hid ⟨At.at (show At (World.setCell we ⟨wr.heap.size, 4, none⟩ (.bool true)) [(wr.heap.size, Obj.cells #[.int .i64 xi, .int .i64 (xf + by_), .int .i64 xl, .int .u8 xv, .bool true] 131)] from ⟨(st_one (At.at hXe.out 0 rfl) 4 (.bool true)).1, (At.other (st_one (At.at hXe.out 0 rfl) 4 (.bool true)).2.1 (by first | (simp; done) | (simp; omega)) (At.erase hXe.out 0))⟩) 0 rfl, trivial⟩, Lib.hid (owns_at hLe.out (fun k hk => set_at _ (wr.heap.size) 4 _ k (by have := (HLb.out k hk).2; omega)))⟩
                · as_aux_lemma =>
                    go_wp2_with fail
                    go_meet
                    exact ⟨rfl, Lib.hid ((st_one (At.at hXe.out 0 rfl) 4 (.bool true)).2.2 w5 (by omega) hEe.out), Lib.hid ⟨At.at (show At (World.setCell we ⟨wr.heap.size, 4, none⟩ (.bool true)) [(wr.heap.size, Obj.cells #[.int .i64 xi, .int .i64 (xf + by_), .int .i64 xl, .int .u8 xv, .bool true] 131)] from ⟨(st_one (At.at hXe.out 0 rfl) 4 (.bool true)).1, (At.other (st_one (At.at hXe.out 0 rfl) 4 (.bool true)).2.1 (by first | (simp; done) | (simp; omega)) (At.erase hXe.out 0))⟩) 0 rfl, trivial⟩, Lib.hid (owns_at hLe.out (fun k hk => set_at _ (wr.heap.size) 4 _ k (by have := (HLb.out k hk).2; omega)))⟩
          case rest =>
            obtain ⟨rfl, hEd, hXd, hLd⟩ := hcut
            obtain ⟨wd, hwd⟩ : ∃ x, x = wc := ⟨_, rfl⟩
            subst hwd
            clear hEe hXe hLe c0 c1 c2 c3 c4 f0 f1 f2 f3 f4 zX
            have hAw := Lib.hid (show At wd [(bw, Obj.cells #[.int .i64 t.belt.step, .int .i64 t.belt.slip, .int .i64 t.belt.gate, .int .i64 t.belt.length, .int .i64 t.count, .int .i64 t.next, (.slice st t.parts.length zt), (.slice (some ⟨bx, off, none⟩) xs.length zx), (.slice am mv.length cm), .int .i64 ((at_ : Int) + 1), .int .i64 ln] 84)] from ⟨At.at (At.ext hEd.out A5.out) 0 rfl, trivial⟩)
            obtain ⟨⟨q0, q1, q2, q3, q4, q5, q6, q7, q8, q9, q10⟩, qf0, qf1, qf2, qf3, qf4, qf5, qf6, qf7, qf8, qf9, qf10⟩ := run_11 (At.at hAw.out 0 rfl)
            have qz := At.lt hAw.out 0 rfl
            obtain ⟨⟨c0, c1, c2, c3, c4⟩, f0, f1, f2, f3, f4⟩ := run_5 (At.at hXd.out 0 rfl)
            have zX := At.lt hXd.out 0 rfl
            have hmaxl : ll.length ≤ 32 := by omega
            rcases HFS.out with hfs | ⟨f, hfs⟩
            · subst hfs
              have HUPA := Lib.hid (show lfUp by_ op b [] xs (k + 1) = ll ++ [⟨xi, xf + by_, xl, xv, hh⟩] by rw [HUP.out]; rfl)
              have t9 : (((nf : Nat) : Int) == 0) = true := by rw [← HNF.out]; rfl
              have t8 : ((0 : Int) == 0) = true := rfl
              go_wp2_with fail
              go_quiet (fail)
              have hb15 : Ext wd (wd.drewN nq) := (Ext.refl _).drewN nq
              generalize hw15 : wd.drewN nq = w15 at hb15 ⊢
              clear hw15
              have A15 := Lib.hid (show At w15 [(wr.heap.size, Obj.cells #[.int .i64 xi, .int .i64 (xf + by_), .int .i64 xl, .int .u8 xv, .bool hh] 131), (bw, Obj.cells #[.int .i64 t.belt.step, .int .i64 t.belt.slip, .int .i64 t.belt.gate, .int .i64 t.belt.length, .int .i64 t.count, .int .i64 t.next, (.slice st t.parts.length zt), (.slice (some ⟨bx, off, none⟩) xs.length zx), (.slice am mv.length cm), .int .i64 ((at_ : Int) + 1), .int .i64 ln] 84)] from At.ext hb15 (show At wd [(wr.heap.size, Obj.cells #[.int .i64 xi, .int .i64 (xf + by_), .int .i64 xl, .int .u8 xv, .bool hh] 131), (bw, Obj.cells #[.int .i64 t.belt.step, .int .i64 t.belt.slip, .int .i64 t.belt.gate, .int .i64 t.belt.length, .int .i64 t.count, .int .i64 t.next, (.slice st t.parts.length zt), (.slice (some ⟨bx, off, none⟩) xs.length zx), (.slice am mv.length cm), .int .i64 ((at_ : Int) + 1), .int .i64 ln] 84)] from ⟨At.at hXd.out 0 rfl, At.at hAw.out 0 rfl, trivial⟩))
              have E15 := Lib.hid ((hEd.out).trans hb15)
              obtain ⟨⟨c15_0_0, c15_0_1, c15_0_2, c15_0_3, c15_0_4⟩, f15_0_0, f15_0_1, f15_0_2, f15_0_3, f15_0_4⟩ := run_5 (At.at A15.out 0 rfl)
              have s15_0 : wr.heap.size < w15.heap.size := At.lt A15.out 0 rfl
              obtain ⟨⟨c15_1_0, c15_1_1, c15_1_2, c15_1_3, c15_1_4, c15_1_5, c15_1_6, c15_1_7, c15_1_8, c15_1_9, c15_1_10⟩, f15_1_0, f15_1_1, f15_1_2, f15_1_3, f15_1_4, f15_1_5, f15_1_6, f15_1_7, f15_1_8, f15_1_9, f15_1_10⟩ := run_11 (At.at A15.out 1 rfl)
              have s15_1 : bw < w15.heap.size := At.lt A15.out 1 rfl
              have L_15 := Lib.hid (owns_ext (hLd.out) hb15)
              clear hb15
              try clear hms
              try clear hcn
              try clear han
              try clear h0
              try clear ht
              try clear HM
              try clear HXL
              try clear HFO
              try clear HFB
              try clear HBY
              try clear HGT
              try clear E21
              try clear T_21
              try clear E22
              try clear s22_0
              try clear T_22
              try clear OT
              try clear E23
              try clear OT_23
              try clear E24
              try clear OT_24
              try clear s25_0
              try clear s25_1
              try clear T5
              try clear zw5
              try clear zT5
              try clear hx
              try clear hw
              try clear A21
              try clear X_21
              try clear A22
              try clear X_22
              try clear A23
              try clear X_23
              try clear A24
              try clear X_24
              try clear X5
              try clear A5
              try clear X5a
              try clear HGTE
              try clear HMV
              try clear HHH
              try clear hXd
              try clear hAw
              try clear q0
              try clear q3
              try clear q4
              try clear q5
              try clear q6
              try clear q7
              try clear q8
              try clear q9
              try clear q10
              try clear qf0
              try clear qf1
              try clear qf2
              try clear qf3
              try clear qf4
              try clear qf5
              try clear qf6
              try clear qf7
              try clear qf8
              try clear qf9
              try clear qf10
              try clear qz
              try clear c0
              try clear c1
              try clear c2
              try clear c3
              try clear c4
              try clear f0
              try clear f1
              try clear f2
              try clear f3
              try clear f4
              try clear zX
              try clear HROUND
              try clear HNEW
              try clear hfl
              try clear q1
              try clear q2
              try clear OF
              try clear OF_23
              try clear OF_24
              try clear F5
              try clear HUP
              try clear HRD
              try clear HF5
              try clear t9
              try clear t8
              try clear c15_1_0
              try clear c15_1_1
              try clear c15_1_2
              try clear c15_1_3
              try clear c15_1_4
              try clear c15_1_5
              try clear c15_1_6
              try clear c15_1_7
              try clear c15_1_8
              try clear c15_1_9
              try clear c15_1_10
              try clear f15_1_0
              try clear f15_1_1
              try clear f15_1_2
              try clear f15_1_3
              try clear f15_1_4
              try clear f15_1_5
              try clear f15_1_6
              try clear f15_1_7
              try clear f15_1_8
              try clear f15_1_9
              try clear f15_1_10
              try clear s1
              try clear s2
              try clear s3
              try clear s4
              try clear s5
              try clear hl50
              try clear nb1
              try clear nb2
              try clear nb3
              try clear nb4
              try clear hb
              try clear d0
              try clear d1
              try clear d2
              try clear d50
              try clear d51
              try clear d52
              try clear t7
              try clear t6
              try clear dz
              try clear t1
              try clear hid
              go_wp2_with (first | (at_builtin; refine wpList_append_at rfl _ _ 82 rfl (w5.heap.size) 131 i2 (.agg #[.int .i64 0, .int .i64 0, .int .i64 0, .int .u8 0, .bool false]) 5 32 Try.underlying82 hk1 hk2 hk3 hk4 rfl (by omega) u9 (ll.length) (thingsL ll) rfl (owns_ext L_15.out ((Ext.refl _).alloc _)) _ 1 (thingsL [⟨xi, xf + by_, xl, xv, hh⟩]) rfl (SlAt.lit_at _ (w15.heap.size) (by simp) [.int .i64 xi, .int .i64 (xf + by_), .int .i64 xl, .int .u8 xv, .bool hh] 131 5 rfl) (things_one _) (by have := hmaxl; unfold maxLen; omega) (by have := hmaxl; omega) (Nat.le_trans E15.out.size (by simp)) ?_; intro va16 w16 ho16 hg16 hat16; obtain ⟨-, sa16, sc16, hv16, -⟩ := SlAt.of_owns ho16; subst hv16; have A16 := Lib.hid (show At w16 [] from At.grown hg16 (At.alloc (At.erase (At.erase A15.out 0) 0) _) (owns_ne hLd.out (by intro k hk; simp only [List.map_cons, List.map_nil, List.mem_cons, List.not_mem_nil, or_false] at hk <;> omega))); have E16 := Lib.hid (Ext.grownO (((E15.out).alloc _)) hLd.out (by omega) hg16); have O16 := Lib.hid ho16; clear ho16 hg16 hat16; (try clear c15_0_0 c15_0_1 c15_0_2 c15_0_3 c15_0_4 f15_0_0 f15_0_1 f15_0_2 f15_0_3 f15_0_4 c15_1_0 c15_1_1 c15_1_2 c15_1_3 c15_1_4 c15_1_5 c15_1_6 c15_1_7 c15_1_8 c15_1_9 c15_1_10 f15_1_0 f15_1_1 f15_1_2 f15_1_3 f15_1_4 f15_1_5 f15_1_6 f15_1_7 f15_1_8 f15_1_9 f15_1_10 s15_0 s15_1)))
              go_roundw
              case rel => exact ⟨k + 1, hkl, by go_num, Lib.hid E16.out, Lib.hid (by rw [HUPA.out, List.length_append, List.length_singleton]; exact (by have h := O16.out; rw [← thingsL_append] at h; exact h))⟩
              case measure => simp [intOf]; omega
            · subst hfs
              obtain ⟨fi, fv, fh⟩ := f
              obtain ⟨ao', cap', e, -, hc⟩ := FatesAt.form HF5.out
              obtain ⟨bf, off2, rfl, d50, d51, d52⟩ := hc 0 (by simp)
              injection e with e1 e2 e3
              clear e2
              subst e1
              subst e3
              clear hc
              simp only [List.getD_cons_zero, Nat.zero_mul, Nat.add_zero] at d50 d51 d52
              have d0 := hEd.out.get d50
              have d1 := hEd.out.get d51
              have d2 := hEd.out.get d52
              have t7 : (0 : Int) < ((nf : Nat) : Int) := by rw [← HNF.out]; simp
              have t6 : (0 : Int) < 1 := by omega
              have dz := World.block_lt_of_cell? _ _ d0
              simp only at dz
              have t9 : (((nf : Nat) : Int) == 0) = false := by rw [← HNF.out]; rfl
              have t8 : ((1 : Int) == 0) = false := rfl
              by_cases hid : fi = xi
              · have hRD := HRD.out.2 ⟨fi, fv, fh⟩ rfl hid
                rw [HMV.out] at hRD
                simp only at hRD
                have HUPB := Lib.hid (show lfUp by_ op b [⟨fi, fv, fh⟩] xs (k + 1) = ll by rw [HUP.out]; simp [goes, hid])
                obtain ⟨r1, r2, r3, r4⟩ := hRD
                have t1 : (fi != xi) = false := by simp [hid]
                have t2 : (fv != xv) = false := by simp [r1]
                have t3 : decide (xf + by_ - xl ≤ t.belt.gate) = false := decide_eq_false (by rw [HGT.out]; omega)
                clear hid r1 r2
                by_cases g3 : xv = 1
                · have t4 : (xv != 1) = false := by simp [g3]
                  clear g3 r4
                  cases hh
                  · clear r3
                    as_aux_lemma =>
                      go_wp2_with fail
                      go_quiet (fail)
                      have hb15 : Ext wd (wd.drewN nq) := (Ext.refl _).drewN nq
                      generalize hw15 : wd.drewN nq = w15 at hb15 ⊢
                      clear hw15
                      have A15 := Lib.hid (show At w15 [(wr.heap.size, Obj.cells #[.int .i64 xi, .int .i64 (xf + by_), .int .i64 xl, .int .u8 xv, .bool false] 131), (bw, Obj.cells #[.int .i64 t.belt.step, .int .i64 t.belt.slip, .int .i64 t.belt.gate, .int .i64 t.belt.length, .int .i64 t.count, .int .i64 t.next, (.slice st t.parts.length zt), (.slice (some ⟨bx, off, none⟩) xs.length zx), (.slice am mv.length cm), .int .i64 ((at_ : Int) + 1), .int .i64 ln] 84)] from At.ext hb15 (show At wd [(wr.heap.size, Obj.cells #[.int .i64 xi, .int .i64 (xf + by_), .int .i64 xl, .int .u8 xv, .bool false] 131), (bw, Obj.cells #[.int .i64 t.belt.step, .int .i64 t.belt.slip, .int .i64 t.belt.gate, .int .i64 t.belt.length, .int .i64 t.count, .int .i64 t.next, (.slice st t.parts.length zt), (.slice (some ⟨bx, off, none⟩) xs.length zx), (.slice am mv.length cm), .int .i64 ((at_ : Int) + 1), .int .i64 ln] 84)] from ⟨At.at hXd.out 0 rfl, At.at hAw.out 0 rfl, trivial⟩))
                      have E15 := Lib.hid ((hEd.out).trans hb15)
                      obtain ⟨⟨c15_0_0, c15_0_1, c15_0_2, c15_0_3, c15_0_4⟩, f15_0_0, f15_0_1, f15_0_2, f15_0_3, f15_0_4⟩ := run_5 (At.at A15.out 0 rfl)
                      have s15_0 : wr.heap.size < w15.heap.size := At.lt A15.out 0 rfl
                      obtain ⟨⟨c15_1_0, c15_1_1, c15_1_2, c15_1_3, c15_1_4, c15_1_5, c15_1_6, c15_1_7, c15_1_8, c15_1_9, c15_1_10⟩, f15_1_0, f15_1_1, f15_1_2, f15_1_3, f15_1_4, f15_1_5, f15_1_6, f15_1_7, f15_1_8, f15_1_9, f15_1_10⟩ := run_11 (At.at A15.out 1 rfl)
                      have s15_1 : bw < w15.heap.size := At.lt A15.out 1 rfl
                      have L_15 := Lib.hid (owns_ext (hLd.out) hb15)
                      clear hb15
                      have d0 := E15.out.get d50
                      have d1 := E15.out.get d51
                      have d2 := E15.out.get d52
                      go_wp2_with fail
                      go_quiet (fail)
                      have hb16 : Ext w15 (w15.drewN nq) := (Ext.refl _).drewN nq
                      generalize hw16 : w15.drewN nq = w16 at hb16 ⊢
                      clear hw16
                      have A16 := Lib.hid (show At w16 [(wr.heap.size, Obj.cells #[.int .i64 xi, .int .i64 (xf + by_), .int .i64 xl, .int .u8 xv, .bool false] 131), (bw, Obj.cells #[.int .i64 t.belt.step, .int .i64 t.belt.slip, .int .i64 t.belt.gate, .int .i64 t.belt.length, .int .i64 t.count, .int .i64 t.next, (.slice st t.parts.length zt), (.slice (some ⟨bx, off, none⟩) xs.length zx), (.slice am mv.length cm), .int .i64 ((at_ : Int) + 1), .int .i64 ln] 84)] from At.ext hb16 A15.out)
                      have E16 := Lib.hid ((E15.out).trans hb16)
                      obtain ⟨⟨c16_0_0, c16_0_1, c16_0_2, c16_0_3, c16_0_4⟩, f16_0_0, f16_0_1, f16_0_2, f16_0_3, f16_0_4⟩ := run_5 (At.at A16.out 0 rfl)
                      have s16_0 : wr.heap.size < w16.heap.size := At.lt A16.out 0 rfl
                      obtain ⟨⟨c16_1_0, c16_1_1, c16_1_2, c16_1_3, c16_1_4, c16_1_5, c16_1_6, c16_1_7, c16_1_8, c16_1_9, c16_1_10⟩, f16_1_0, f16_1_1, f16_1_2, f16_1_3, f16_1_4, f16_1_5, f16_1_6, f16_1_7, f16_1_8, f16_1_9, f16_1_10⟩ := run_11 (At.at A16.out 1 rfl)
                      have s16_1 : bw < w16.heap.size := At.lt A16.out 1 rfl
                      (try clear c15_0_0 c15_0_1 c15_0_2 c15_0_3 c15_0_4 f15_0_0 f15_0_1 f15_0_2 f15_0_3 f15_0_4 c15_1_0 c15_1_1 c15_1_2 c15_1_3 c15_1_4 c15_1_5 c15_1_6 c15_1_7 c15_1_8 c15_1_9 c15_1_10 f15_1_0 f15_1_1 f15_1_2 f15_1_3 f15_1_4 f15_1_5 f15_1_6 f15_1_7 f15_1_8 f15_1_9 f15_1_10 s15_0 s15_1)
                      have L_16 := Lib.hid (owns_ext (L_15.out) hb16)
                      clear hb16
                      go_wp2_with fail
                      go_roundw
                      case rel => exact ⟨k + 1, hkl, by go_num, Lib.hid E16.out, Lib.hid (by rw [HUPB.out]; exact L_16.out)⟩
                      case measure => simp [intOf]; omega
                  · have e7 := r3 rfl
                    subst e7
                    clear r3
                    as_aux_lemma =>
                      go_wp2_with fail
                      go_quiet (fail)
                      have hb15 : Ext wd (wd.drewN nq) := (Ext.refl _).drewN nq
                      generalize hw15 : wd.drewN nq = w15 at hb15 ⊢
                      clear hw15
                      have A15 := Lib.hid (show At w15 [(wr.heap.size, Obj.cells #[.int .i64 xi, .int .i64 (xf + by_), .int .i64 xl, .int .u8 xv, .bool true] 131), (bw, Obj.cells #[.int .i64 t.belt.step, .int .i64 t.belt.slip, .int .i64 t.belt.gate, .int .i64 t.belt.length, .int .i64 t.count, .int .i64 t.next, (.slice st t.parts.length zt), (.slice (some ⟨bx, off, none⟩) xs.length zx), (.slice am mv.length cm), .int .i64 ((at_ : Int) + 1), .int .i64 ln] 84)] from At.ext hb15 (show At wd [(wr.heap.size, Obj.cells #[.int .i64 xi, .int .i64 (xf + by_), .int .i64 xl, .int .u8 xv, .bool true] 131), (bw, Obj.cells #[.int .i64 t.belt.step, .int .i64 t.belt.slip, .int .i64 t.belt.gate, .int .i64 t.belt.length, .int .i64 t.count, .int .i64 t.next, (.slice st t.parts.length zt), (.slice (some ⟨bx, off, none⟩) xs.length zx), (.slice am mv.length cm), .int .i64 ((at_ : Int) + 1), .int .i64 ln] 84)] from ⟨At.at hXd.out 0 rfl, At.at hAw.out 0 rfl, trivial⟩))
                      have E15 := Lib.hid ((hEd.out).trans hb15)
                      obtain ⟨⟨c15_0_0, c15_0_1, c15_0_2, c15_0_3, c15_0_4⟩, f15_0_0, f15_0_1, f15_0_2, f15_0_3, f15_0_4⟩ := run_5 (At.at A15.out 0 rfl)
                      have s15_0 : wr.heap.size < w15.heap.size := At.lt A15.out 0 rfl
                      obtain ⟨⟨c15_1_0, c15_1_1, c15_1_2, c15_1_3, c15_1_4, c15_1_5, c15_1_6, c15_1_7, c15_1_8, c15_1_9, c15_1_10⟩, f15_1_0, f15_1_1, f15_1_2, f15_1_3, f15_1_4, f15_1_5, f15_1_6, f15_1_7, f15_1_8, f15_1_9, f15_1_10⟩ := run_11 (At.at A15.out 1 rfl)
                      have s15_1 : bw < w15.heap.size := At.lt A15.out 1 rfl
                      have L_15 := Lib.hid (owns_ext (hLd.out) hb15)
                      clear hb15
                      have d0 := E15.out.get d50
                      have d1 := E15.out.get d51
                      have d2 := E15.out.get d52
                      go_wp2_with fail
                      go_quiet (fail)
                      have hb16 : Ext w15 (w15.drewN nq) := (Ext.refl _).drewN nq
                      generalize hw16 : w15.drewN nq = w16 at hb16 ⊢
                      clear hw16
                      have A16 := Lib.hid (show At w16 [(wr.heap.size, Obj.cells #[.int .i64 xi, .int .i64 (xf + by_), .int .i64 xl, .int .u8 xv, .bool true] 131), (bw, Obj.cells #[.int .i64 t.belt.step, .int .i64 t.belt.slip, .int .i64 t.belt.gate, .int .i64 t.belt.length, .int .i64 t.count, .int .i64 t.next, (.slice st t.parts.length zt), (.slice (some ⟨bx, off, none⟩) xs.length zx), (.slice am mv.length cm), .int .i64 ((at_ : Int) + 1), .int .i64 ln] 84)] from At.ext hb16 A15.out)
                      have E16 := Lib.hid ((E15.out).trans hb16)
                      obtain ⟨⟨c16_0_0, c16_0_1, c16_0_2, c16_0_3, c16_0_4⟩, f16_0_0, f16_0_1, f16_0_2, f16_0_3, f16_0_4⟩ := run_5 (At.at A16.out 0 rfl)
                      have s16_0 : wr.heap.size < w16.heap.size := At.lt A16.out 0 rfl
                      obtain ⟨⟨c16_1_0, c16_1_1, c16_1_2, c16_1_3, c16_1_4, c16_1_5, c16_1_6, c16_1_7, c16_1_8, c16_1_9, c16_1_10⟩, f16_1_0, f16_1_1, f16_1_2, f16_1_3, f16_1_4, f16_1_5, f16_1_6, f16_1_7, f16_1_8, f16_1_9, f16_1_10⟩ := run_11 (At.at A16.out 1 rfl)
                      have s16_1 : bw < w16.heap.size := At.lt A16.out 1 rfl
                      (try clear c15_0_0 c15_0_1 c15_0_2 c15_0_3 c15_0_4 f15_0_0 f15_0_1 f15_0_2 f15_0_3 f15_0_4 c15_1_0 c15_1_1 c15_1_2 c15_1_3 c15_1_4 c15_1_5 c15_1_6 c15_1_7 c15_1_8 c15_1_9 c15_1_10 f15_1_0 f15_1_1 f15_1_2 f15_1_3 f15_1_4 f15_1_5 f15_1_6 f15_1_7 f15_1_8 f15_1_9 f15_1_10 s15_0 s15_1)
                      have L_16 := Lib.hid (owns_ext (L_15.out) hb16)
                      clear hb16
                      go_wp2_with fail
                      go_roundw
                      case rel => exact ⟨k + 1, hkl, by go_num, Lib.hid E16.out, Lib.hid (by rw [HUPB.out]; exact L_16.out)⟩
                      case measure => simp [intOf]; omega
                · have t4 : (xv != 1) = true := by simpa using g3
                  have e7 := r4 g3
                  subst e7
                  clear g3 r3 r4
                  cases hh
                  · as_aux_lemma =>
                      go_wp2_with fail
                      go_quiet (fail)
                      have hb15 : Ext wd (wd.drewN nq) := (Ext.refl _).drewN nq
                      generalize hw15 : wd.drewN nq = w15 at hb15 ⊢
                      clear hw15
                      have A15 := Lib.hid (show At w15 [(wr.heap.size, Obj.cells #[.int .i64 xi, .int .i64 (xf + by_), .int .i64 xl, .int .u8 xv, .bool false] 131), (bw, Obj.cells #[.int .i64 t.belt.step, .int .i64 t.belt.slip, .int .i64 t.belt.gate, .int .i64 t.belt.length, .int .i64 t.count, .int .i64 t.next, (.slice st t.parts.length zt), (.slice (some ⟨bx, off, none⟩) xs.length zx), (.slice am mv.length cm), .int .i64 ((at_ : Int) + 1), .int .i64 ln] 84)] from At.ext hb15 (show At wd [(wr.heap.size, Obj.cells #[.int .i64 xi, .int .i64 (xf + by_), .int .i64 xl, .int .u8 xv, .bool false] 131), (bw, Obj.cells #[.int .i64 t.belt.step, .int .i64 t.belt.slip, .int .i64 t.belt.gate, .int .i64 t.belt.length, .int .i64 t.count, .int .i64 t.next, (.slice st t.parts.length zt), (.slice (some ⟨bx, off, none⟩) xs.length zx), (.slice am mv.length cm), .int .i64 ((at_ : Int) + 1), .int .i64 ln] 84)] from ⟨At.at hXd.out 0 rfl, At.at hAw.out 0 rfl, trivial⟩))
                      have E15 := Lib.hid ((hEd.out).trans hb15)
                      obtain ⟨⟨c15_0_0, c15_0_1, c15_0_2, c15_0_3, c15_0_4⟩, f15_0_0, f15_0_1, f15_0_2, f15_0_3, f15_0_4⟩ := run_5 (At.at A15.out 0 rfl)
                      have s15_0 : wr.heap.size < w15.heap.size := At.lt A15.out 0 rfl
                      obtain ⟨⟨c15_1_0, c15_1_1, c15_1_2, c15_1_3, c15_1_4, c15_1_5, c15_1_6, c15_1_7, c15_1_8, c15_1_9, c15_1_10⟩, f15_1_0, f15_1_1, f15_1_2, f15_1_3, f15_1_4, f15_1_5, f15_1_6, f15_1_7, f15_1_8, f15_1_9, f15_1_10⟩ := run_11 (At.at A15.out 1 rfl)
                      have s15_1 : bw < w15.heap.size := At.lt A15.out 1 rfl
                      have L_15 := Lib.hid (owns_ext (hLd.out) hb15)
                      clear hb15
                      have d0 := E15.out.get d50
                      have d1 := E15.out.get d51
                      have d2 := E15.out.get d52
                      go_wp2_with fail
                      go_quiet (fail)
                      have hb16 : Ext w15 (w15.drewN nq) := (Ext.refl _).drewN nq
                      generalize hw16 : w15.drewN nq = w16 at hb16 ⊢
                      clear hw16
                      have A16 := Lib.hid (show At w16 [(wr.heap.size, Obj.cells #[.int .i64 xi, .int .i64 (xf + by_), .int .i64 xl, .int .u8 xv, .bool false] 131), (bw, Obj.cells #[.int .i64 t.belt.step, .int .i64 t.belt.slip, .int .i64 t.belt.gate, .int .i64 t.belt.length, .int .i64 t.count, .int .i64 t.next, (.slice st t.parts.length zt), (.slice (some ⟨bx, off, none⟩) xs.length zx), (.slice am mv.length cm), .int .i64 ((at_ : Int) + 1), .int .i64 ln] 84)] from At.ext hb16 A15.out)
                      have E16 := Lib.hid ((E15.out).trans hb16)
                      obtain ⟨⟨c16_0_0, c16_0_1, c16_0_2, c16_0_3, c16_0_4⟩, f16_0_0, f16_0_1, f16_0_2, f16_0_3, f16_0_4⟩ := run_5 (At.at A16.out 0 rfl)
                      have s16_0 : wr.heap.size < w16.heap.size := At.lt A16.out 0 rfl
                      obtain ⟨⟨c16_1_0, c16_1_1, c16_1_2, c16_1_3, c16_1_4, c16_1_5, c16_1_6, c16_1_7, c16_1_8, c16_1_9, c16_1_10⟩, f16_1_0, f16_1_1, f16_1_2, f16_1_3, f16_1_4, f16_1_5, f16_1_6, f16_1_7, f16_1_8, f16_1_9, f16_1_10⟩ := run_11 (At.at A16.out 1 rfl)
                      have s16_1 : bw < w16.heap.size := At.lt A16.out 1 rfl
                      (try clear c15_0_0 c15_0_1 c15_0_2 c15_0_3 c15_0_4 f15_0_0 f15_0_1 f15_0_2 f15_0_3 f15_0_4 c15_1_0 c15_1_1 c15_1_2 c15_1_3 c15_1_4 c15_1_5 c15_1_6 c15_1_7 c15_1_8 c15_1_9 c15_1_10 f15_1_0 f15_1_1 f15_1_2 f15_1_3 f15_1_4 f15_1_5 f15_1_6 f15_1_7 f15_1_8 f15_1_9 f15_1_10 s15_0 s15_1)
                      have L_16 := Lib.hid (owns_ext (L_15.out) hb16)
                      clear hb16
                      go_wp2_with fail
                      go_roundw
                      case rel => exact ⟨k + 1, hkl, by go_num, Lib.hid E16.out, Lib.hid (by rw [HUPB.out]; exact L_16.out)⟩
                      case measure => simp [intOf]; omega
                  · as_aux_lemma =>
                      go_wp2_with fail
                      go_quiet (fail)
                      have hb15 : Ext wd (wd.drewN nq) := (Ext.refl _).drewN nq
                      generalize hw15 : wd.drewN nq = w15 at hb15 ⊢
                      clear hw15
                      have A15 := Lib.hid (show At w15 [(wr.heap.size, Obj.cells #[.int .i64 xi, .int .i64 (xf + by_), .int .i64 xl, .int .u8 xv, .bool true] 131), (bw, Obj.cells #[.int .i64 t.belt.step, .int .i64 t.belt.slip, .int .i64 t.belt.gate, .int .i64 t.belt.length, .int .i64 t.count, .int .i64 t.next, (.slice st t.parts.length zt), (.slice (some ⟨bx, off, none⟩) xs.length zx), (.slice am mv.length cm), .int .i64 ((at_ : Int) + 1), .int .i64 ln] 84)] from At.ext hb15 (show At wd [(wr.heap.size, Obj.cells #[.int .i64 xi, .int .i64 (xf + by_), .int .i64 xl, .int .u8 xv, .bool true] 131), (bw, Obj.cells #[.int .i64 t.belt.step, .int .i64 t.belt.slip, .int .i64 t.belt.gate, .int .i64 t.belt.length, .int .i64 t.count, .int .i64 t.next, (.slice st t.parts.length zt), (.slice (some ⟨bx, off, none⟩) xs.length zx), (.slice am mv.length cm), .int .i64 ((at_ : Int) + 1), .int .i64 ln] 84)] from ⟨At.at hXd.out 0 rfl, At.at hAw.out 0 rfl, trivial⟩))
                      have E15 := Lib.hid ((hEd.out).trans hb15)
                      obtain ⟨⟨c15_0_0, c15_0_1, c15_0_2, c15_0_3, c15_0_4⟩, f15_0_0, f15_0_1, f15_0_2, f15_0_3, f15_0_4⟩ := run_5 (At.at A15.out 0 rfl)
                      have s15_0 : wr.heap.size < w15.heap.size := At.lt A15.out 0 rfl
                      obtain ⟨⟨c15_1_0, c15_1_1, c15_1_2, c15_1_3, c15_1_4, c15_1_5, c15_1_6, c15_1_7, c15_1_8, c15_1_9, c15_1_10⟩, f15_1_0, f15_1_1, f15_1_2, f15_1_3, f15_1_4, f15_1_5, f15_1_6, f15_1_7, f15_1_8, f15_1_9, f15_1_10⟩ := run_11 (At.at A15.out 1 rfl)
                      have s15_1 : bw < w15.heap.size := At.lt A15.out 1 rfl
                      have L_15 := Lib.hid (owns_ext (hLd.out) hb15)
                      clear hb15
                      have d0 := E15.out.get d50
                      have d1 := E15.out.get d51
                      have d2 := E15.out.get d52
                      go_wp2_with fail
                      go_quiet (fail)
                      have hb16 : Ext w15 (w15.drewN nq) := (Ext.refl _).drewN nq
                      generalize hw16 : w15.drewN nq = w16 at hb16 ⊢
                      clear hw16
                      have A16 := Lib.hid (show At w16 [(wr.heap.size, Obj.cells #[.int .i64 xi, .int .i64 (xf + by_), .int .i64 xl, .int .u8 xv, .bool true] 131), (bw, Obj.cells #[.int .i64 t.belt.step, .int .i64 t.belt.slip, .int .i64 t.belt.gate, .int .i64 t.belt.length, .int .i64 t.count, .int .i64 t.next, (.slice st t.parts.length zt), (.slice (some ⟨bx, off, none⟩) xs.length zx), (.slice am mv.length cm), .int .i64 ((at_ : Int) + 1), .int .i64 ln] 84)] from At.ext hb16 A15.out)
                      have E16 := Lib.hid ((E15.out).trans hb16)
                      obtain ⟨⟨c16_0_0, c16_0_1, c16_0_2, c16_0_3, c16_0_4⟩, f16_0_0, f16_0_1, f16_0_2, f16_0_3, f16_0_4⟩ := run_5 (At.at A16.out 0 rfl)
                      have s16_0 : wr.heap.size < w16.heap.size := At.lt A16.out 0 rfl
                      obtain ⟨⟨c16_1_0, c16_1_1, c16_1_2, c16_1_3, c16_1_4, c16_1_5, c16_1_6, c16_1_7, c16_1_8, c16_1_9, c16_1_10⟩, f16_1_0, f16_1_1, f16_1_2, f16_1_3, f16_1_4, f16_1_5, f16_1_6, f16_1_7, f16_1_8, f16_1_9, f16_1_10⟩ := run_11 (At.at A16.out 1 rfl)
                      have s16_1 : bw < w16.heap.size := At.lt A16.out 1 rfl
                      (try clear c15_0_0 c15_0_1 c15_0_2 c15_0_3 c15_0_4 f15_0_0 f15_0_1 f15_0_2 f15_0_3 f15_0_4 c15_1_0 c15_1_1 c15_1_2 c15_1_3 c15_1_4 c15_1_5 c15_1_6 c15_1_7 c15_1_8 c15_1_9 c15_1_10 f15_1_0 f15_1_1 f15_1_2 f15_1_3 f15_1_4 f15_1_5 f15_1_6 f15_1_7 f15_1_8 f15_1_9 f15_1_10 s15_0 s15_1)
                      have L_16 := Lib.hid (owns_ext (L_15.out) hb16)
                      clear hb16
                      go_wp2_with fail
                      go_roundw
                      case rel => exact ⟨k + 1, hkl, by go_num, Lib.hid E16.out, Lib.hid (by rw [HUPB.out]; exact L_16.out)⟩
                      case measure => simp [intOf]; omega
              · have t1 : (fi != xi) = true := by simpa using hid
                have HUPA := Lib.hid (show lfUp by_ op b [⟨fi, fv, fh⟩] xs (k + 1) = ll ++ [⟨xi, xf + by_, xl, xv, hh⟩] by rw [HUP.out]; simp [goes, hid])
                go_wp2_with fail
                go_quiet (fail)
                have hb15 : Ext wd (wd.drewN nq) := (Ext.refl _).drewN nq
                generalize hw15 : wd.drewN nq = w15 at hb15 ⊢
                clear hw15
                have A15 := Lib.hid (show At w15 [(wr.heap.size, Obj.cells #[.int .i64 xi, .int .i64 (xf + by_), .int .i64 xl, .int .u8 xv, .bool hh] 131), (bw, Obj.cells #[.int .i64 t.belt.step, .int .i64 t.belt.slip, .int .i64 t.belt.gate, .int .i64 t.belt.length, .int .i64 t.count, .int .i64 t.next, (.slice st t.parts.length zt), (.slice (some ⟨bx, off, none⟩) xs.length zx), (.slice am mv.length cm), .int .i64 ((at_ : Int) + 1), .int .i64 ln] 84)] from At.ext hb15 (show At wd [(wr.heap.size, Obj.cells #[.int .i64 xi, .int .i64 (xf + by_), .int .i64 xl, .int .u8 xv, .bool hh] 131), (bw, Obj.cells #[.int .i64 t.belt.step, .int .i64 t.belt.slip, .int .i64 t.belt.gate, .int .i64 t.belt.length, .int .i64 t.count, .int .i64 t.next, (.slice st t.parts.length zt), (.slice (some ⟨bx, off, none⟩) xs.length zx), (.slice am mv.length cm), .int .i64 ((at_ : Int) + 1), .int .i64 ln] 84)] from ⟨At.at hXd.out 0 rfl, At.at hAw.out 0 rfl, trivial⟩))
                have E15 := Lib.hid ((hEd.out).trans hb15)
                obtain ⟨⟨c15_0_0, c15_0_1, c15_0_2, c15_0_3, c15_0_4⟩, f15_0_0, f15_0_1, f15_0_2, f15_0_3, f15_0_4⟩ := run_5 (At.at A15.out 0 rfl)
                have s15_0 : wr.heap.size < w15.heap.size := At.lt A15.out 0 rfl
                obtain ⟨⟨c15_1_0, c15_1_1, c15_1_2, c15_1_3, c15_1_4, c15_1_5, c15_1_6, c15_1_7, c15_1_8, c15_1_9, c15_1_10⟩, f15_1_0, f15_1_1, f15_1_2, f15_1_3, f15_1_4, f15_1_5, f15_1_6, f15_1_7, f15_1_8, f15_1_9, f15_1_10⟩ := run_11 (At.at A15.out 1 rfl)
                have s15_1 : bw < w15.heap.size := At.lt A15.out 1 rfl
                have L_15 := Lib.hid (owns_ext (hLd.out) hb15)
                clear hb15
                try clear hms
                try clear hcn
                try clear han
                try clear h0
                try clear ht
                try clear HM
                try clear HXL
                try clear HFO
                try clear HFB
                try clear HBY
                try clear HGT
                try clear E21
                try clear T_21
                try clear E22
                try clear s22_0
                try clear T_22
                try clear OT
                try clear E23
                try clear OT_23
                try clear E24
                try clear OT_24
                try clear s25_0
                try clear s25_1
                try clear T5
                try clear zw5
                try clear zT5
                try clear hx
                try clear hw
                try clear A21
                try clear X_21
                try clear A22
                try clear X_22
                try clear A23
                try clear X_23
                try clear A24
                try clear X_24
                try clear X5
                try clear A5
                try clear X5a
                try clear HGTE
                try clear HMV
                try clear HHH
                try clear hXd
                try clear hAw
                try clear q0
                try clear q3
                try clear q4
                try clear q5
                try clear q6
                try clear q7
                try clear q8
                try clear q9
                try clear q10
                try clear qf0
                try clear qf1
                try clear qf2
                try clear qf3
                try clear qf4
                try clear qf5
                try clear qf6
                try clear qf7
                try clear qf8
                try clear qf9
                try clear qf10
                try clear qz
                try clear c0
                try clear c1
                try clear c2
                try clear c3
                try clear c4
                try clear f0
                try clear f1
                try clear f2
                try clear f3
                try clear f4
                try clear zX
                try clear HROUND
                try clear HNEW
                try clear hfl
                try clear q1
                try clear q2
                try clear OF
                try clear OF_23
                try clear OF_24
                try clear F5
                try clear HUP
                try clear HRD
                try clear HF5
                try clear t9
                try clear t8
                try clear c15_1_0
                try clear c15_1_1
                try clear c15_1_2
                try clear c15_1_3
                try clear c15_1_4
                try clear c15_1_5
                try clear c15_1_6
                try clear c15_1_7
                try clear c15_1_8
                try clear c15_1_9
                try clear c15_1_10
                try clear f15_1_0
                try clear f15_1_1
                try clear f15_1_2
                try clear f15_1_3
                try clear f15_1_4
                try clear f15_1_5
                try clear f15_1_6
                try clear f15_1_7
                try clear f15_1_8
                try clear f15_1_9
                try clear f15_1_10
                try clear s1
                try clear s2
                try clear s3
                try clear s4
                try clear s5
                try clear hl50
                try clear nb1
                try clear nb2
                try clear nb3
                try clear nb4
                try clear hb
                try clear d0
                try clear d1
                try clear d2
                try clear d50
                try clear d51
                try clear d52
                try clear t7
                try clear t6
                try clear dz
                try clear t1
                try clear hid
                go_wp2_with (first | (at_builtin; refine wpList_append_at rfl _ _ 82 rfl (w5.heap.size) 131 i2 (.agg #[.int .i64 0, .int .i64 0, .int .i64 0, .int .u8 0, .bool false]) 5 32 Try.underlying82 hk1 hk2 hk3 hk4 rfl (by omega) u9 (ll.length) (thingsL ll) rfl (owns_ext L_15.out ((Ext.refl _).alloc _)) _ 1 (thingsL [⟨xi, xf + by_, xl, xv, hh⟩]) rfl (SlAt.lit_at _ (w15.heap.size) (by simp) [.int .i64 xi, .int .i64 (xf + by_), .int .i64 xl, .int .u8 xv, .bool hh] 131 5 rfl) (things_one _) (by have := hmaxl; unfold maxLen; omega) (by have := hmaxl; omega) (Nat.le_trans E15.out.size (by simp)) ?_; intro va16 w16 ho16 hg16 hat16; obtain ⟨-, sa16, sc16, hv16, -⟩ := SlAt.of_owns ho16; subst hv16; have A16 := Lib.hid (show At w16 [] from At.grown hg16 (At.alloc (At.erase (At.erase A15.out 0) 0) _) (owns_ne hLd.out (by intro k hk; simp only [List.map_cons, List.map_nil, List.mem_cons, List.not_mem_nil, or_false] at hk <;> omega))); have E16 := Lib.hid (Ext.grownO (((E15.out).alloc _)) hLd.out (by omega) hg16); have O16 := Lib.hid ho16; clear ho16 hg16 hat16; (try clear c15_0_0 c15_0_1 c15_0_2 c15_0_3 c15_0_4 f15_0_0 f15_0_1 f15_0_2 f15_0_3 f15_0_4 c15_1_0 c15_1_1 c15_1_2 c15_1_3 c15_1_4 c15_1_5 c15_1_6 c15_1_7 c15_1_8 c15_1_9 c15_1_10 f15_1_0 f15_1_1 f15_1_2 f15_1_3 f15_1_4 f15_1_5 f15_1_6 f15_1_7 f15_1_8 f15_1_9 f15_1_10 s15_0 s15_1)))
                go_roundw
                case rel => exact ⟨k + 1, hkl, by go_num, Lib.hid E16.out, Lib.hid (by rw [HUPA.out, List.length_append, List.length_singleton]; exact (by have h := O16.out; rw [← thingsL_append] at h; exact h))⟩
                case measure => simp [intOf]; omega
      · obtain rfl : k = xs.length := by omega
        have hfull : lfUp by_ op b fs xs xs.length = (xs.filter fun x => !goes fs x).map (moveT b by_ op) := by unfold lfUp; rw [List.take_length]
        rw [hfull] at hL0
        obtain ⟨left, hleft⟩ : ∃ l, (xs.filter fun x => !goes fs x).map (moveT b by_ op) = l := ⟨_, rfl⟩
        have hn := HNEW.out
        have hlen : left.length + fs.length = xs.length := by rw [← hleft, List.length_map]; exact hn.2
        rw [hleft] at hL0 hn
        have HFL := Lib.hid hn.1
        obtain ⟨-, sl, zl, rfl, -⟩ := SlAt.of_owns hL0.out
        have q3 : (((left.length : Nat) : Int) + ((nf : Nat) : Int) != ((xs.length : Nat) : Int)) = false := by rw [bne_eq_false_iff_eq]; have := HNF.out; omega
        have hnf1 : nf ≤ 1 := by have := HNF.out; omega
        have HLN := Lib.hid hlen
        have hl32 : left.length ≤ 32 := by omega
        have HA9 := Lib.hid (At.ext hE.out A5.out)
        have HT9 := Lib.hid (owns_ext T5.out hE.out)
        have HE9 := Lib.hid (E5.out.trans hE.out)
        obtain ⟨⟨a0, a1, a2, a3, a4, a5, a6⟩, -⟩ := run_7 (At.at HA9.out 1 rfl)
        obtain ⟨⟨q0, q1', q2', q3', q4, q5, q6, q7, q8, q9, q10⟩, qf0, qf1, qf2, qf3, qf4, qf5, qf6, qf7, qf8, qf9, qf10⟩ := run_11 (At.at HA9.out 0 rfl)
        have z7 := At.lt HA9.out 1 rfl
        have z8 := At.lt HA9.out 0 rfl
        clear hn hlen hfull hleft hle j0 j1 j2 j3 j4 j5 j6 j7 j8 j9 j10 jf0 jf1 jf2 jf3 jf4 jf5 jf6 jf7 jf8 jf9 jf10 jz
        go_upto_region 26 with fail
        have HLo := Lib.hid hL0.out
        have hwb : bw < w5.heap.size := At.lt A5.out 0 rfl
        have hap : Apart2 (.slice s1 T1.parts.length z1) (.slice sl left.length zl) := fun g hg h9 => by
          have h1 := (owns_block T5.out g hg).2
          have h2 := (owns_block HLo.out g h9).1
          omega
        have HPE := Lib.hid (At.drew (show At (World.setCell (World.setCell (World.setCell (World.setCell (World.setCell (World.setCell (World.setCell (World.setCell wr ⟨bw, 7, none⟩ ((.slice sl left.length zl))) ⟨bw, 0, none⟩ (.int .i64 T1.belt.step)) ⟨bw, 1, none⟩ (.int .i64 T1.belt.slip)) ⟨bw, 2, none⟩ (.int .i64 T1.belt.gate)) ⟨bw, 3, none⟩ (.int .i64 T1.belt.length)) ⟨bw, 4, none⟩ (.int .i64 T1.count)) ⟨bw, 5, none⟩ (.int .i64 T1.next)) ⟨bw, 6, none⟩ ((.slice s1 T1.parts.length z1))) [(bw, Obj.cells #[.int .i64 T1.belt.step, .int .i64 T1.belt.slip, .int .i64 T1.belt.gate, .int .i64 T1.belt.length, .int .i64 T1.count, .int .i64 T1.next, (.slice s1 T1.parts.length z1), (.slice sl left.length zl), (.slice am mv.length cm), .int .i64 ((at_ : Int) + 1), .int .i64 ln] 84)] from ⟨(st_one (st_one (st_one (st_one (st_one (st_one (st_one (At.at (show At (World.setCell wr ⟨bw, 7, none⟩ ((.slice sl left.length zl))) [(bw, Obj.cells #[.int .i64 t.belt.step, .int .i64 t.belt.slip, .int .i64 t.belt.gate, .int .i64 t.belt.length, .int .i64 t.count, .int .i64 t.next, (.slice st t.parts.length zt), (.slice sl left.length zl), (.slice am mv.length cm), .int .i64 ((at_ : Int) + 1), .int .i64 ln] 84)] from ⟨(st_one (At.at (show At wr [(bw, Obj.cells #[.int .i64 t.belt.step, .int .i64 t.belt.slip, .int .i64 t.belt.gate, .int .i64 t.belt.length, .int .i64 t.count, .int .i64 t.next, (.slice st t.parts.length zt), (.slice sx xs.length zx), (.slice am mv.length cm), .int .i64 ((at_ : Int) + 1), .int .i64 ln] 84)] from ⟨At.at HA9.out 0 rfl, trivial⟩) 0 rfl) 7 ((.slice sl left.length zl))).1, (At.other (st_one (At.at (show At wr [(bw, Obj.cells #[.int .i64 t.belt.step, .int .i64 t.belt.slip, .int .i64 t.belt.gate, .int .i64 t.belt.length, .int .i64 t.count, .int .i64 t.next, (.slice st t.parts.length zt), (.slice sx xs.length zx), (.slice am mv.length cm), .int .i64 ((at_ : Int) + 1), .int .i64 ln] 84)] from ⟨At.at HA9.out 0 rfl, trivial⟩) 0 rfl) 7 ((.slice sl left.length zl))).2.1 (by first | (simp; done) | (simp; omega)) (At.erase (show At wr [(bw, Obj.cells #[.int .i64 t.belt.step, .int .i64 t.belt.slip, .int .i64 t.belt.gate, .int .i64 t.belt.length, .int .i64 t.count, .int .i64 t.next, (.slice st t.parts.length zt), (.slice sx xs.length zx), (.slice am mv.length cm), .int .i64 ((at_ : Int) + 1), .int .i64 ln] 84)] from ⟨At.at HA9.out 0 rfl, trivial⟩) 0))⟩) 0 rfl) 0 (.int .i64 T1.belt.step)).1 1 (.int .i64 T1.belt.slip)).1 2 (.int .i64 T1.belt.gate)).1 3 (.int .i64 T1.belt.length)).1 4 (.int .i64 T1.count)).1 5 (.int .i64 T1.next)).1 6 ((.slice s1 T1.parts.length z1))).1, (At.other (st_one (st_one (st_one (st_one (st_one (st_one (st_one (At.at (show At (World.setCell wr ⟨bw, 7, none⟩ ((.slice sl left.length zl))) [(bw, Obj.cells #[.int .i64 t.belt.step, .int .i64 t.belt.slip, .int .i64 t.belt.gate, .int .i64 t.belt.length, .int .i64 t.count, .int .i64 t.next, (.slice st t.parts.length zt), (.slice sl left.length zl), (.slice am mv.length cm), .int .i64 ((at_ : Int) + 1), .int .i64 ln] 84)] from ⟨(st_one (At.at (show At wr [(bw, Obj.cells #[.int .i64 t.belt.step, .int .i64 t.belt.slip, .int .i64 t.belt.gate, .int .i64 t.belt.length, .int .i64 t.count, .int .i64 t.next, (.slice st t.parts.length zt), (.slice sx xs.length zx), (.slice am mv.length cm), .int .i64 ((at_ : Int) + 1), .int .i64 ln] 84)] from ⟨At.at HA9.out 0 rfl, trivial⟩) 0 rfl) 7 ((.slice sl left.length zl))).1, (At.other (st_one (At.at (show At wr [(bw, Obj.cells #[.int .i64 t.belt.step, .int .i64 t.belt.slip, .int .i64 t.belt.gate, .int .i64 t.belt.length, .int .i64 t.count, .int .i64 t.next, (.slice st t.parts.length zt), (.slice sx xs.length zx), (.slice am mv.length cm), .int .i64 ((at_ : Int) + 1), .int .i64 ln] 84)] from ⟨At.at HA9.out 0 rfl, trivial⟩) 0 rfl) 7 ((.slice sl left.length zl))).2.1 (by first | (simp; done) | (simp; omega)) (At.erase (show At wr [(bw, Obj.cells #[.int .i64 t.belt.step, .int .i64 t.belt.slip, .int .i64 t.belt.gate, .int .i64 t.belt.length, .int .i64 t.count, .int .i64 t.next, (.slice st t.parts.length zt), (.slice sx xs.length zx), (.slice am mv.length cm), .int .i64 ((at_ : Int) + 1), .int .i64 ln] 84)] from ⟨At.at HA9.out 0 rfl, trivial⟩) 0))⟩) 0 rfl) 0 (.int .i64 T1.belt.step)).1 1 (.int .i64 T1.belt.slip)).1 2 (.int .i64 T1.belt.gate)).1 3 (.int .i64 T1.belt.length)).1 4 (.int .i64 T1.count)).1 5 (.int .i64 T1.next)).1 6 ((.slice s1 T1.parts.length z1))).2.1 (by first | (simp; done) | (simp; omega)) (At.other (st_one (st_one (st_one (st_one (st_one (st_one (At.at (show At (World.setCell wr ⟨bw, 7, none⟩ ((.slice sl left.length zl))) [(bw, Obj.cells #[.int .i64 t.belt.step, .int .i64 t.belt.slip, .int .i64 t.belt.gate, .int .i64 t.belt.length, .int .i64 t.count, .int .i64 t.next, (.slice st t.parts.length zt), (.slice sl left.length zl), (.slice am mv.length cm), .int .i64 ((at_ : Int) + 1), .int .i64 ln] 84)] from ⟨(st_one (At.at (show At wr [(bw, Obj.cells #[.int .i64 t.belt.step, .int .i64 t.belt.slip, .int .i64 t.belt.gate, .int .i64 t.belt.length, .int .i64 t.count, .int .i64 t.next, (.slice st t.parts.length zt), (.slice sx xs.length zx), (.slice am mv.length cm), .int .i64 ((at_ : Int) + 1), .int .i64 ln] 84)] from ⟨At.at HA9.out 0 rfl, trivial⟩) 0 rfl) 7 ((.slice sl left.length zl))).1, (At.other (st_one (At.at (show At wr [(bw, Obj.cells #[.int .i64 t.belt.step, .int .i64 t.belt.slip, .int .i64 t.belt.gate, .int .i64 t.belt.length, .int .i64 t.count, .int .i64 t.next, (.slice st t.parts.length zt), (.slice sx xs.length zx), (.slice am mv.length cm), .int .i64 ((at_ : Int) + 1), .int .i64 ln] 84)] from ⟨At.at HA9.out 0 rfl, trivial⟩) 0 rfl) 7 ((.slice sl left.length zl))).2.1 (by first | (simp; done) | (simp; omega)) (At.erase (show At wr [(bw, Obj.cells #[.int .i64 t.belt.step, .int .i64 t.belt.slip, .int .i64 t.belt.gate, .int .i64 t.belt.length, .int .i64 t.count, .int .i64 t.next, (.slice st t.parts.length zt), (.slice sx xs.length zx), (.slice am mv.length cm), .int .i64 ((at_ : Int) + 1), .int .i64 ln] 84)] from ⟨At.at HA9.out 0 rfl, trivial⟩) 0))⟩) 0 rfl) 0 (.int .i64 T1.belt.step)).1 1 (.int .i64 T1.belt.slip)).1 2 (.int .i64 T1.belt.gate)).1 3 (.int .i64 T1.belt.length)).1 4 (.int .i64 T1.count)).1 5 (.int .i64 T1.next)).2.1 (by first | (simp; done) | (simp; omega)) (At.other (st_one (st_one (st_one (st_one (st_one (At.at (show At (World.setCell wr ⟨bw, 7, none⟩ ((.slice sl left.length zl))) [(bw, Obj.cells #[.int .i64 t.belt.step, .int .i64 t.belt.slip, .int .i64 t.belt.gate, .int .i64 t.belt.length, .int .i64 t.count, .int .i64 t.next, (.slice st t.parts.length zt), (.slice sl left.length zl), (.slice am mv.length cm), .int .i64 ((at_ : Int) + 1), .int .i64 ln] 84)] from ⟨(st_one (At.at (show At wr [(bw, Obj.cells #[.int .i64 t.belt.step, .int .i64 t.belt.slip, .int .i64 t.belt.gate, .int .i64 t.belt.length, .int .i64 t.count, .int .i64 t.next, (.slice st t.parts.length zt), (.slice sx xs.length zx), (.slice am mv.length cm), .int .i64 ((at_ : Int) + 1), .int .i64 ln] 84)] from ⟨At.at HA9.out 0 rfl, trivial⟩) 0 rfl) 7 ((.slice sl left.length zl))).1, (At.other (st_one (At.at (show At wr [(bw, Obj.cells #[.int .i64 t.belt.step, .int .i64 t.belt.slip, .int .i64 t.belt.gate, .int .i64 t.belt.length, .int .i64 t.count, .int .i64 t.next, (.slice st t.parts.length zt), (.slice sx xs.length zx), (.slice am mv.length cm), .int .i64 ((at_ : Int) + 1), .int .i64 ln] 84)] from ⟨At.at HA9.out 0 rfl, trivial⟩) 0 rfl) 7 ((.slice sl left.length zl))).2.1 (by first | (simp; done) | (simp; omega)) (At.erase (show At wr [(bw, Obj.cells #[.int .i64 t.belt.step, .int .i64 t.belt.slip, .int .i64 t.belt.gate, .int .i64 t.belt.length, .int .i64 t.count, .int .i64 t.next, (.slice st t.parts.length zt), (.slice sx xs.length zx), (.slice am mv.length cm), .int .i64 ((at_ : Int) + 1), .int .i64 ln] 84)] from ⟨At.at HA9.out 0 rfl, trivial⟩) 0))⟩) 0 rfl) 0 (.int .i64 T1.belt.step)).1 1 (.int .i64 T1.belt.slip)).1 2 (.int .i64 T1.belt.gate)).1 3 (.int .i64 T1.belt.length)).1 4 (.int .i64 T1.count)).2.1 (by first | (simp; done) | (simp; omega)) (At.other (st_one (st_one (st_one (st_one (At.at (show At (World.setCell wr ⟨bw, 7, none⟩ ((.slice sl left.length zl))) [(bw, Obj.cells #[.int .i64 t.belt.step, .int .i64 t.belt.slip, .int .i64 t.belt.gate, .int .i64 t.belt.length, .int .i64 t.count, .int .i64 t.next, (.slice st t.parts.length zt), (.slice sl left.length zl), (.slice am mv.length cm), .int .i64 ((at_ : Int) + 1), .int .i64 ln] 84)] from ⟨(st_one (At.at (show At wr [(bw, Obj.cells #[.int .i64 t.belt.step, .int .i64 t.belt.slip, .int .i64 t.belt.gate, .int .i64 t.belt.length, .int .i64 t.count, .int .i64 t.next, (.slice st t.parts.length zt), (.slice sx xs.length zx), (.slice am mv.length cm), .int .i64 ((at_ : Int) + 1), .int .i64 ln] 84)] from ⟨At.at HA9.out 0 rfl, trivial⟩) 0 rfl) 7 ((.slice sl left.length zl))).1, (At.other (st_one (At.at (show At wr [(bw, Obj.cells #[.int .i64 t.belt.step, .int .i64 t.belt.slip, .int .i64 t.belt.gate, .int .i64 t.belt.length, .int .i64 t.count, .int .i64 t.next, (.slice st t.parts.length zt), (.slice sx xs.length zx), (.slice am mv.length cm), .int .i64 ((at_ : Int) + 1), .int .i64 ln] 84)] from ⟨At.at HA9.out 0 rfl, trivial⟩) 0 rfl) 7 ((.slice sl left.length zl))).2.1 (by first | (simp; done) | (simp; omega)) (At.erase (show At wr [(bw, Obj.cells #[.int .i64 t.belt.step, .int .i64 t.belt.slip, .int .i64 t.belt.gate, .int .i64 t.belt.length, .int .i64 t.count, .int .i64 t.next, (.slice st t.parts.length zt), (.slice sx xs.length zx), (.slice am mv.length cm), .int .i64 ((at_ : Int) + 1), .int .i64 ln] 84)] from ⟨At.at HA9.out 0 rfl, trivial⟩) 0))⟩) 0 rfl) 0 (.int .i64 T1.belt.step)).1 1 (.int .i64 T1.belt.slip)).1 2 (.int .i64 T1.belt.gate)).1 3 (.int .i64 T1.belt.length)).2.1 (by first | (simp; done) | (simp; omega)) (At.other (st_one (st_one (st_one (At.at (show At (World.setCell wr ⟨bw, 7, none⟩ ((.slice sl left.length zl))) [(bw, Obj.cells #[.int .i64 t.belt.step, .int .i64 t.belt.slip, .int .i64 t.belt.gate, .int .i64 t.belt.length, .int .i64 t.count, .int .i64 t.next, (.slice st t.parts.length zt), (.slice sl left.length zl), (.slice am mv.length cm), .int .i64 ((at_ : Int) + 1), .int .i64 ln] 84)] from ⟨(st_one (At.at (show At wr [(bw, Obj.cells #[.int .i64 t.belt.step, .int .i64 t.belt.slip, .int .i64 t.belt.gate, .int .i64 t.belt.length, .int .i64 t.count, .int .i64 t.next, (.slice st t.parts.length zt), (.slice sx xs.length zx), (.slice am mv.length cm), .int .i64 ((at_ : Int) + 1), .int .i64 ln] 84)] from ⟨At.at HA9.out 0 rfl, trivial⟩) 0 rfl) 7 ((.slice sl left.length zl))).1, (At.other (st_one (At.at (show At wr [(bw, Obj.cells #[.int .i64 t.belt.step, .int .i64 t.belt.slip, .int .i64 t.belt.gate, .int .i64 t.belt.length, .int .i64 t.count, .int .i64 t.next, (.slice st t.parts.length zt), (.slice sx xs.length zx), (.slice am mv.length cm), .int .i64 ((at_ : Int) + 1), .int .i64 ln] 84)] from ⟨At.at HA9.out 0 rfl, trivial⟩) 0 rfl) 7 ((.slice sl left.length zl))).2.1 (by first | (simp; done) | (simp; omega)) (At.erase (show At wr [(bw, Obj.cells #[.int .i64 t.belt.step, .int .i64 t.belt.slip, .int .i64 t.belt.gate, .int .i64 t.belt.length, .int .i64 t.count, .int .i64 t.next, (.slice st t.parts.length zt), (.slice sx xs.length zx), (.slice am mv.length cm), .int .i64 ((at_ : Int) + 1), .int .i64 ln] 84)] from ⟨At.at HA9.out 0 rfl, trivial⟩) 0))⟩) 0 rfl) 0 (.int .i64 T1.belt.step)).1 1 (.int .i64 T1.belt.slip)).1 2 (.int .i64 T1.belt.gate)).2.1 (by first | (simp; done) | (simp; omega)) (At.other (st_one (st_one (At.at (show At (World.setCell wr ⟨bw, 7, none⟩ ((.slice sl left.length zl))) [(bw, Obj.cells #[.int .i64 t.belt.step, .int .i64 t.belt.slip, .int .i64 t.belt.gate, .int .i64 t.belt.length, .int .i64 t.count, .int .i64 t.next, (.slice st t.parts.length zt), (.slice sl left.length zl), (.slice am mv.length cm), .int .i64 ((at_ : Int) + 1), .int .i64 ln] 84)] from ⟨(st_one (At.at (show At wr [(bw, Obj.cells #[.int .i64 t.belt.step, .int .i64 t.belt.slip, .int .i64 t.belt.gate, .int .i64 t.belt.length, .int .i64 t.count, .int .i64 t.next, (.slice st t.parts.length zt), (.slice sx xs.length zx), (.slice am mv.length cm), .int .i64 ((at_ : Int) + 1), .int .i64 ln] 84)] from ⟨At.at HA9.out 0 rfl, trivial⟩) 0 rfl) 7 ((.slice sl left.length zl))).1, (At.other (st_one (At.at (show At wr [(bw, Obj.cells #[.int .i64 t.belt.step, .int .i64 t.belt.slip, .int .i64 t.belt.gate, .int .i64 t.belt.length, .int .i64 t.count, .int .i64 t.next, (.slice st t.parts.length zt), (.slice sx xs.length zx), (.slice am mv.length cm), .int .i64 ((at_ : Int) + 1), .int .i64 ln] 84)] from ⟨At.at HA9.out 0 rfl, trivial⟩) 0 rfl) 7 ((.slice sl left.length zl))).2.1 (by first | (simp; done) | (simp; omega)) (At.erase (show At wr [(bw, Obj.cells #[.int .i64 t.belt.step, .int .i64 t.belt.slip, .int .i64 t.belt.gate, .int .i64 t.belt.length, .int .i64 t.count, .int .i64 t.next, (.slice st t.parts.length zt), (.slice sx xs.length zx), (.slice am mv.length cm), .int .i64 ((at_ : Int) + 1), .int .i64 ln] 84)] from ⟨At.at HA9.out 0 rfl, trivial⟩) 0))⟩) 0 rfl) 0 (.int .i64 T1.belt.step)).1 1 (.int .i64 T1.belt.slip)).2.1 (by first | (simp; done) | (simp; omega)) (At.other (st_one (At.at (show At (World.setCell wr ⟨bw, 7, none⟩ ((.slice sl left.length zl))) [(bw, Obj.cells #[.int .i64 t.belt.step, .int .i64 t.belt.slip, .int .i64 t.belt.gate, .int .i64 t.belt.length, .int .i64 t.count, .int .i64 t.next, (.slice st t.parts.length zt), (.slice sl left.length zl), (.slice am mv.length cm), .int .i64 ((at_ : Int) + 1), .int .i64 ln] 84)] from ⟨(st_one (At.at (show At wr [(bw, Obj.cells #[.int .i64 t.belt.step, .int .i64 t.belt.slip, .int .i64 t.belt.gate, .int .i64 t.belt.length, .int .i64 t.count, .int .i64 t.next, (.slice st t.parts.length zt), (.slice sx xs.length zx), (.slice am mv.length cm), .int .i64 ((at_ : Int) + 1), .int .i64 ln] 84)] from ⟨At.at HA9.out 0 rfl, trivial⟩) 0 rfl) 7 ((.slice sl left.length zl))).1, (At.other (st_one (At.at (show At wr [(bw, Obj.cells #[.int .i64 t.belt.step, .int .i64 t.belt.slip, .int .i64 t.belt.gate, .int .i64 t.belt.length, .int .i64 t.count, .int .i64 t.next, (.slice st t.parts.length zt), (.slice sx xs.length zx), (.slice am mv.length cm), .int .i64 ((at_ : Int) + 1), .int .i64 ln] 84)] from ⟨At.at HA9.out 0 rfl, trivial⟩) 0 rfl) 7 ((.slice sl left.length zl))).2.1 (by first | (simp; done) | (simp; omega)) (At.erase (show At wr [(bw, Obj.cells #[.int .i64 t.belt.step, .int .i64 t.belt.slip, .int .i64 t.belt.gate, .int .i64 t.belt.length, .int .i64 t.count, .int .i64 t.next, (.slice st t.parts.length zt), (.slice sx xs.length zx), (.slice am mv.length cm), .int .i64 ((at_ : Int) + 1), .int .i64 ln] 84)] from ⟨At.at HA9.out 0 rfl, trivial⟩) 0))⟩) 0 rfl) 0 (.int .i64 T1.belt.step)).2.1 (by first | (simp; done) | (simp; omega)) (At.erase (show At (World.setCell wr ⟨bw, 7, none⟩ ((.slice sl left.length zl))) [(bw, Obj.cells #[.int .i64 t.belt.step, .int .i64 t.belt.slip, .int .i64 t.belt.gate, .int .i64 t.belt.length, .int .i64 t.count, .int .i64 t.next, (.slice st t.parts.length zt), (.slice sl left.length zl), (.slice am mv.length cm), .int .i64 ((at_ : Int) + 1), .int .i64 ln] 84)] from ⟨(st_one (At.at (show At wr [(bw, Obj.cells #[.int .i64 t.belt.step, .int .i64 t.belt.slip, .int .i64 t.belt.gate, .int .i64 t.belt.length, .int .i64 t.count, .int .i64 t.next, (.slice st t.parts.length zt), (.slice sx xs.length zx), (.slice am mv.length cm), .int .i64 ((at_ : Int) + 1), .int .i64 ln] 84)] from ⟨At.at HA9.out 0 rfl, trivial⟩) 0 rfl) 7 ((.slice sl left.length zl))).1, (At.other (st_one (At.at (show At wr [(bw, Obj.cells #[.int .i64 t.belt.step, .int .i64 t.belt.slip, .int .i64 t.belt.gate, .int .i64 t.belt.length, .int .i64 t.count, .int .i64 t.next, (.slice st t.parts.length zt), (.slice sx xs.length zx), (.slice am mv.length cm), .int .i64 ((at_ : Int) + 1), .int .i64 ln] 84)] from ⟨At.at HA9.out 0 rfl, trivial⟩) 0 rfl) 7 ((.slice sl left.length zl))).2.1 (by first | (simp; done) | (simp; omega)) (At.erase (show At wr [(bw, Obj.cells #[.int .i64 t.belt.step, .int .i64 t.belt.slip, .int .i64 t.belt.gate, .int .i64 t.belt.length, .int .i64 t.count, .int .i64 t.next, (.slice st t.parts.length zt), (.slice sx xs.length zx), (.slice am mv.length cm), .int .i64 ((at_ : Int) + 1), .int .i64 ln] 84)] from ⟨At.at HA9.out 0 rfl, trivial⟩) 0))⟩) 0))))))))⟩))
        have HEE := Lib.hid (Ext.drew ((st_one (st_one (st_one (st_one (st_one (st_one (st_one (At.at (show At (World.setCell wr ⟨bw, 7, none⟩ ((.slice sl left.length zl))) [(bw, Obj.cells #[.int .i64 t.belt.step, .int .i64 t.belt.slip, .int .i64 t.belt.gate, .int .i64 t.belt.length, .int .i64 t.count, .int .i64 t.next, (.slice st t.parts.length zt), (.slice sl left.length zl), (.slice am mv.length cm), .int .i64 ((at_ : Int) + 1), .int .i64 ln] 84)] from ⟨(st_one (At.at (show At wr [(bw, Obj.cells #[.int .i64 t.belt.step, .int .i64 t.belt.slip, .int .i64 t.belt.gate, .int .i64 t.belt.length, .int .i64 t.count, .int .i64 t.next, (.slice st t.parts.length zt), (.slice sx xs.length zx), (.slice am mv.length cm), .int .i64 ((at_ : Int) + 1), .int .i64 ln] 84)] from ⟨At.at HA9.out 0 rfl, trivial⟩) 0 rfl) 7 ((.slice sl left.length zl))).1, (At.other (st_one (At.at (show At wr [(bw, Obj.cells #[.int .i64 t.belt.step, .int .i64 t.belt.slip, .int .i64 t.belt.gate, .int .i64 t.belt.length, .int .i64 t.count, .int .i64 t.next, (.slice st t.parts.length zt), (.slice sx xs.length zx), (.slice am mv.length cm), .int .i64 ((at_ : Int) + 1), .int .i64 ln] 84)] from ⟨At.at HA9.out 0 rfl, trivial⟩) 0 rfl) 7 ((.slice sl left.length zl))).2.1 (by first | (simp; done) | (simp; omega)) (At.erase (show At wr [(bw, Obj.cells #[.int .i64 t.belt.step, .int .i64 t.belt.slip, .int .i64 t.belt.gate, .int .i64 t.belt.length, .int .i64 t.count, .int .i64 t.next, (.slice st t.parts.length zt), (.slice sx xs.length zx), (.slice am mv.length cm), .int .i64 ((at_ : Int) + 1), .int .i64 ln] 84)] from ⟨At.at HA9.out 0 rfl, trivial⟩) 0))⟩) 0 rfl) 0 (.int .i64 T1.belt.step)).1 1 (.int .i64 T1.belt.slip)).1 2 (.int .i64 T1.belt.gate)).1 3 (.int .i64 T1.belt.length)).1 4 (.int .i64 T1.count)).1 5 (.int .i64 T1.next)).1 6 ((.slice s1 T1.parts.length z1))).2.2 w0 (by omega) ((st_one (st_one (st_one (st_one (st_one (st_one (At.at (show At (World.setCell wr ⟨bw, 7, none⟩ ((.slice sl left.length zl))) [(bw, Obj.cells #[.int .i64 t.belt.step, .int .i64 t.belt.slip, .int .i64 t.belt.gate, .int .i64 t.belt.length, .int .i64 t.count, .int .i64 t.next, (.slice st t.parts.length zt), (.slice sl left.length zl), (.slice am mv.length cm), .int .i64 ((at_ : Int) + 1), .int .i64 ln] 84)] from ⟨(st_one (At.at (show At wr [(bw, Obj.cells #[.int .i64 t.belt.step, .int .i64 t.belt.slip, .int .i64 t.belt.gate, .int .i64 t.belt.length, .int .i64 t.count, .int .i64 t.next, (.slice st t.parts.length zt), (.slice sx xs.length zx), (.slice am mv.length cm), .int .i64 ((at_ : Int) + 1), .int .i64 ln] 84)] from ⟨At.at HA9.out 0 rfl, trivial⟩) 0 rfl) 7 ((.slice sl left.length zl))).1, (At.other (st_one (At.at (show At wr [(bw, Obj.cells #[.int .i64 t.belt.step, .int .i64 t.belt.slip, .int .i64 t.belt.gate, .int .i64 t.belt.length, .int .i64 t.count, .int .i64 t.next, (.slice st t.parts.length zt), (.slice sx xs.length zx), (.slice am mv.length cm), .int .i64 ((at_ : Int) + 1), .int .i64 ln] 84)] from ⟨At.at HA9.out 0 rfl, trivial⟩) 0 rfl) 7 ((.slice sl left.length zl))).2.1 (by first | (simp; done) | (simp; omega)) (At.erase (show At wr [(bw, Obj.cells #[.int .i64 t.belt.step, .int .i64 t.belt.slip, .int .i64 t.belt.gate, .int .i64 t.belt.length, .int .i64 t.count, .int .i64 t.next, (.slice st t.parts.length zt), (.slice sx xs.length zx), (.slice am mv.length cm), .int .i64 ((at_ : Int) + 1), .int .i64 ln] 84)] from ⟨At.at HA9.out 0 rfl, trivial⟩) 0))⟩) 0 rfl) 0 (.int .i64 T1.belt.step)).1 1 (.int .i64 T1.belt.slip)).1 2 (.int .i64 T1.belt.gate)).1 3 (.int .i64 T1.belt.length)).1 4 (.int .i64 T1.count)).1 5 (.int .i64 T1.next)).2.2 w0 (by omega) ((st_one (st_one (st_one (st_one (st_one (At.at (show At (World.setCell wr ⟨bw, 7, none⟩ ((.slice sl left.length zl))) [(bw, Obj.cells #[.int .i64 t.belt.step, .int .i64 t.belt.slip, .int .i64 t.belt.gate, .int .i64 t.belt.length, .int .i64 t.count, .int .i64 t.next, (.slice st t.parts.length zt), (.slice sl left.length zl), (.slice am mv.length cm), .int .i64 ((at_ : Int) + 1), .int .i64 ln] 84)] from ⟨(st_one (At.at (show At wr [(bw, Obj.cells #[.int .i64 t.belt.step, .int .i64 t.belt.slip, .int .i64 t.belt.gate, .int .i64 t.belt.length, .int .i64 t.count, .int .i64 t.next, (.slice st t.parts.length zt), (.slice sx xs.length zx), (.slice am mv.length cm), .int .i64 ((at_ : Int) + 1), .int .i64 ln] 84)] from ⟨At.at HA9.out 0 rfl, trivial⟩) 0 rfl) 7 ((.slice sl left.length zl))).1, (At.other (st_one (At.at (show At wr [(bw, Obj.cells #[.int .i64 t.belt.step, .int .i64 t.belt.slip, .int .i64 t.belt.gate, .int .i64 t.belt.length, .int .i64 t.count, .int .i64 t.next, (.slice st t.parts.length zt), (.slice sx xs.length zx), (.slice am mv.length cm), .int .i64 ((at_ : Int) + 1), .int .i64 ln] 84)] from ⟨At.at HA9.out 0 rfl, trivial⟩) 0 rfl) 7 ((.slice sl left.length zl))).2.1 (by first | (simp; done) | (simp; omega)) (At.erase (show At wr [(bw, Obj.cells #[.int .i64 t.belt.step, .int .i64 t.belt.slip, .int .i64 t.belt.gate, .int .i64 t.belt.length, .int .i64 t.count, .int .i64 t.next, (.slice st t.parts.length zt), (.slice sx xs.length zx), (.slice am mv.length cm), .int .i64 ((at_ : Int) + 1), .int .i64 ln] 84)] from ⟨At.at HA9.out 0 rfl, trivial⟩) 0))⟩) 0 rfl) 0 (.int .i64 T1.belt.step)).1 1 (.int .i64 T1.belt.slip)).1 2 (.int .i64 T1.belt.gate)).1 3 (.int .i64 T1.belt.length)).1 4 (.int .i64 T1.count)).2.2 w0 (by omega) ((st_one (st_one (st_one (st_one (At.at (show At (World.setCell wr ⟨bw, 7, none⟩ ((.slice sl left.length zl))) [(bw, Obj.cells #[.int .i64 t.belt.step, .int .i64 t.belt.slip, .int .i64 t.belt.gate, .int .i64 t.belt.length, .int .i64 t.count, .int .i64 t.next, (.slice st t.parts.length zt), (.slice sl left.length zl), (.slice am mv.length cm), .int .i64 ((at_ : Int) + 1), .int .i64 ln] 84)] from ⟨(st_one (At.at (show At wr [(bw, Obj.cells #[.int .i64 t.belt.step, .int .i64 t.belt.slip, .int .i64 t.belt.gate, .int .i64 t.belt.length, .int .i64 t.count, .int .i64 t.next, (.slice st t.parts.length zt), (.slice sx xs.length zx), (.slice am mv.length cm), .int .i64 ((at_ : Int) + 1), .int .i64 ln] 84)] from ⟨At.at HA9.out 0 rfl, trivial⟩) 0 rfl) 7 ((.slice sl left.length zl))).1, (At.other (st_one (At.at (show At wr [(bw, Obj.cells #[.int .i64 t.belt.step, .int .i64 t.belt.slip, .int .i64 t.belt.gate, .int .i64 t.belt.length, .int .i64 t.count, .int .i64 t.next, (.slice st t.parts.length zt), (.slice sx xs.length zx), (.slice am mv.length cm), .int .i64 ((at_ : Int) + 1), .int .i64 ln] 84)] from ⟨At.at HA9.out 0 rfl, trivial⟩) 0 rfl) 7 ((.slice sl left.length zl))).2.1 (by first | (simp; done) | (simp; omega)) (At.erase (show At wr [(bw, Obj.cells #[.int .i64 t.belt.step, .int .i64 t.belt.slip, .int .i64 t.belt.gate, .int .i64 t.belt.length, .int .i64 t.count, .int .i64 t.next, (.slice st t.parts.length zt), (.slice sx xs.length zx), (.slice am mv.length cm), .int .i64 ((at_ : Int) + 1), .int .i64 ln] 84)] from ⟨At.at HA9.out 0 rfl, trivial⟩) 0))⟩) 0 rfl) 0 (.int .i64 T1.belt.step)).1 1 (.int .i64 T1.belt.slip)).1 2 (.int .i64 T1.belt.gate)).1 3 (.int .i64 T1.belt.length)).2.2 w0 (by omega) ((st_one (st_one (st_one (At.at (show At (World.setCell wr ⟨bw, 7, none⟩ ((.slice sl left.length zl))) [(bw, Obj.cells #[.int .i64 t.belt.step, .int .i64 t.belt.slip, .int .i64 t.belt.gate, .int .i64 t.belt.length, .int .i64 t.count, .int .i64 t.next, (.slice st t.parts.length zt), (.slice sl left.length zl), (.slice am mv.length cm), .int .i64 ((at_ : Int) + 1), .int .i64 ln] 84)] from ⟨(st_one (At.at (show At wr [(bw, Obj.cells #[.int .i64 t.belt.step, .int .i64 t.belt.slip, .int .i64 t.belt.gate, .int .i64 t.belt.length, .int .i64 t.count, .int .i64 t.next, (.slice st t.parts.length zt), (.slice sx xs.length zx), (.slice am mv.length cm), .int .i64 ((at_ : Int) + 1), .int .i64 ln] 84)] from ⟨At.at HA9.out 0 rfl, trivial⟩) 0 rfl) 7 ((.slice sl left.length zl))).1, (At.other (st_one (At.at (show At wr [(bw, Obj.cells #[.int .i64 t.belt.step, .int .i64 t.belt.slip, .int .i64 t.belt.gate, .int .i64 t.belt.length, .int .i64 t.count, .int .i64 t.next, (.slice st t.parts.length zt), (.slice sx xs.length zx), (.slice am mv.length cm), .int .i64 ((at_ : Int) + 1), .int .i64 ln] 84)] from ⟨At.at HA9.out 0 rfl, trivial⟩) 0 rfl) 7 ((.slice sl left.length zl))).2.1 (by first | (simp; done) | (simp; omega)) (At.erase (show At wr [(bw, Obj.cells #[.int .i64 t.belt.step, .int .i64 t.belt.slip, .int .i64 t.belt.gate, .int .i64 t.belt.length, .int .i64 t.count, .int .i64 t.next, (.slice st t.parts.length zt), (.slice sx xs.length zx), (.slice am mv.length cm), .int .i64 ((at_ : Int) + 1), .int .i64 ln] 84)] from ⟨At.at HA9.out 0 rfl, trivial⟩) 0))⟩) 0 rfl) 0 (.int .i64 T1.belt.step)).1 1 (.int .i64 T1.belt.slip)).1 2 (.int .i64 T1.belt.gate)).2.2 w0 (by omega) ((st_one (st_one (At.at (show At (World.setCell wr ⟨bw, 7, none⟩ ((.slice sl left.length zl))) [(bw, Obj.cells #[.int .i64 t.belt.step, .int .i64 t.belt.slip, .int .i64 t.belt.gate, .int .i64 t.belt.length, .int .i64 t.count, .int .i64 t.next, (.slice st t.parts.length zt), (.slice sl left.length zl), (.slice am mv.length cm), .int .i64 ((at_ : Int) + 1), .int .i64 ln] 84)] from ⟨(st_one (At.at (show At wr [(bw, Obj.cells #[.int .i64 t.belt.step, .int .i64 t.belt.slip, .int .i64 t.belt.gate, .int .i64 t.belt.length, .int .i64 t.count, .int .i64 t.next, (.slice st t.parts.length zt), (.slice sx xs.length zx), (.slice am mv.length cm), .int .i64 ((at_ : Int) + 1), .int .i64 ln] 84)] from ⟨At.at HA9.out 0 rfl, trivial⟩) 0 rfl) 7 ((.slice sl left.length zl))).1, (At.other (st_one (At.at (show At wr [(bw, Obj.cells #[.int .i64 t.belt.step, .int .i64 t.belt.slip, .int .i64 t.belt.gate, .int .i64 t.belt.length, .int .i64 t.count, .int .i64 t.next, (.slice st t.parts.length zt), (.slice sx xs.length zx), (.slice am mv.length cm), .int .i64 ((at_ : Int) + 1), .int .i64 ln] 84)] from ⟨At.at HA9.out 0 rfl, trivial⟩) 0 rfl) 7 ((.slice sl left.length zl))).2.1 (by first | (simp; done) | (simp; omega)) (At.erase (show At wr [(bw, Obj.cells #[.int .i64 t.belt.step, .int .i64 t.belt.slip, .int .i64 t.belt.gate, .int .i64 t.belt.length, .int .i64 t.count, .int .i64 t.next, (.slice st t.parts.length zt), (.slice sx xs.length zx), (.slice am mv.length cm), .int .i64 ((at_ : Int) + 1), .int .i64 ln] 84)] from ⟨At.at HA9.out 0 rfl, trivial⟩) 0))⟩) 0 rfl) 0 (.int .i64 T1.belt.step)).1 1 (.int .i64 T1.belt.slip)).2.2 w0 (by omega) ((st_one (At.at (show At (World.setCell wr ⟨bw, 7, none⟩ ((.slice sl left.length zl))) [(bw, Obj.cells #[.int .i64 t.belt.step, .int .i64 t.belt.slip, .int .i64 t.belt.gate, .int .i64 t.belt.length, .int .i64 t.count, .int .i64 t.next, (.slice st t.parts.length zt), (.slice sl left.length zl), (.slice am mv.length cm), .int .i64 ((at_ : Int) + 1), .int .i64 ln] 84)] from ⟨(st_one (At.at (show At wr [(bw, Obj.cells #[.int .i64 t.belt.step, .int .i64 t.belt.slip, .int .i64 t.belt.gate, .int .i64 t.belt.length, .int .i64 t.count, .int .i64 t.next, (.slice st t.parts.length zt), (.slice sx xs.length zx), (.slice am mv.length cm), .int .i64 ((at_ : Int) + 1), .int .i64 ln] 84)] from ⟨At.at HA9.out 0 rfl, trivial⟩) 0 rfl) 7 ((.slice sl left.length zl))).1, (At.other (st_one (At.at (show At wr [(bw, Obj.cells #[.int .i64 t.belt.step, .int .i64 t.belt.slip, .int .i64 t.belt.gate, .int .i64 t.belt.length, .int .i64 t.count, .int .i64 t.next, (.slice st t.parts.length zt), (.slice sx xs.length zx), (.slice am mv.length cm), .int .i64 ((at_ : Int) + 1), .int .i64 ln] 84)] from ⟨At.at HA9.out 0 rfl, trivial⟩) 0 rfl) 7 ((.slice sl left.length zl))).2.1 (by first | (simp; done) | (simp; omega)) (At.erase (show At wr [(bw, Obj.cells #[.int .i64 t.belt.step, .int .i64 t.belt.slip, .int .i64 t.belt.gate, .int .i64 t.belt.length, .int .i64 t.count, .int .i64 t.next, (.slice st t.parts.length zt), (.slice sx xs.length zx), (.slice am mv.length cm), .int .i64 ((at_ : Int) + 1), .int .i64 ln] 84)] from ⟨At.at HA9.out 0 rfl, trivial⟩) 0))⟩) 0 rfl) 0 (.int .i64 T1.belt.step)).2.2 w0 (by omega) ((st_one (At.at (show At wr [(bw, Obj.cells #[.int .i64 t.belt.step, .int .i64 t.belt.slip, .int .i64 t.belt.gate, .int .i64 t.belt.length, .int .i64 t.count, .int .i64 t.next, (.slice st t.parts.length zt), (.slice sx xs.length zx), (.slice am mv.length cm), .int .i64 ((at_ : Int) + 1), .int .i64 ln] 84)] from ⟨At.at HA9.out 0 rfl, trivial⟩) 0 rfl) 7 ((.slice sl left.length zl))).2.2 w0 (by omega) HE9.out)))))))))
        have HTE := Lib.hid (show World.ownsRow (World.drew (World.setCell (World.setCell (World.setCell (World.setCell (World.setCell (World.setCell (World.setCell (World.setCell wr ⟨bw, 7, none⟩ ((.slice sl left.length zl))) ⟨bw, 0, none⟩ (.int .i64 T1.belt.step)) ⟨bw, 1, none⟩ (.int .i64 T1.belt.slip)) ⟨bw, 2, none⟩ (.int .i64 T1.belt.gate)) ⟨bw, 3, none⟩ (.int .i64 T1.belt.length)) ⟨bw, 4, none⟩ (.int .i64 T1.count)) ⟨bw, 5, none⟩ (.int .i64 T1.next)) ⟨bw, 6, none⟩ ((.slice s1 T1.parts.length z1)))) (bw + 1) 63 4 (.slice s1 T1.parts.length z1) T1.parts.length (seens T1.parts) from (owns_ext (own_set (bo := bw) (o := 6) (own_set (bo := bw) (o := 5) (own_set (bo := bw) (o := 4) (own_set (bo := bw) (o := 3) (own_set (bo := bw) (o := 2) (own_set (bo := bw) (o := 1) (own_set (bo := bw) (o := 0) (own_set (bo := bw) (o := 7) HT9.out (by omega)) (by omega)) (by omega)) (by omega)) (by omega)) (by omega)) (by omega)) (by omega)) (Ext.refl _).drew))
        have HLE := Lib.hid (show World.ownsRow (World.drew (World.setCell (World.setCell (World.setCell (World.setCell (World.setCell (World.setCell (World.setCell (World.setCell wr ⟨bw, 7, none⟩ ((.slice sl left.length zl))) ⟨bw, 0, none⟩ (.int .i64 T1.belt.step)) ⟨bw, 1, none⟩ (.int .i64 T1.belt.slip)) ⟨bw, 2, none⟩ (.int .i64 T1.belt.gate)) ⟨bw, 3, none⟩ (.int .i64 T1.belt.length)) ⟨bw, 4, none⟩ (.int .i64 T1.count)) ⟨bw, 5, none⟩ (.int .i64 T1.next)) ⟨bw, 6, none⟩ ((.slice s1 T1.parts.length z1)))) w5.heap.size 131 5 (.slice sl left.length zl) left.length (thingsL left) from (owns_ext (own_set (bo := bw) (o := 6) (own_set (bo := bw) (o := 5) (own_set (bo := bw) (o := 4) (own_set (bo := bw) (o := 3) (own_set (bo := bw) (o := 2) (own_set (bo := bw) (o := 1) (own_set (bo := bw) (o := 0) (own_set (bo := bw) (o := 7) HLo.out (by omega)) (by omega)) (by omega)) (by omega)) (by omega)) (by omega)) (by omega)) (by omega)) (Ext.refl _).drew))
        go_region
        go_wp2
        go_ret
        exact ⟨rfl, left, (.slice s1 T1.parts.length z1), (.slice sl left.length zl), HFL.out, At.at HPE.out 0 rfl, HTE.out, owns_base HLE.out (by omega), hap, HEE.out⟩
end Go.Proofs.Ytcbimfaneinpkaa
