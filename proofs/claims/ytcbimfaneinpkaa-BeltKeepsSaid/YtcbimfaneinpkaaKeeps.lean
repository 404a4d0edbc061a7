/- The walk of 'BeltKeeps'. -/
import Derived.Test.YtcbimfaneinpkaaCut
import Derived.Test.YtcbimfaneinpkaaCatchLaws
import Derived.Deep.DeepCutAuto
import Derived.Deep.Cut
set_option linter.unusedVariables false
set_option linter.unusedSimpArgs false
namespace Go.Proofs.Ytcbimfaneinpkaa
open Go.RowKit Go.Sort

theorem sense_keeps {t X : Track} {nx : Int} (h : sense t = (X, nx, 0)) : X.parts.length = t.parts.length + 1 ∧ X.parts.getD t.parts.length seen0 = ⟨nx, t.count, 0, false⟩ ∧ nx = t.next ∧ X.next = t.next + 1 ∧ X.count = t.count ∧ X.ok ∧ (0 ≤ t.next ∧ t.next ≤ 1099511627776) ∧ t.ok := by
  unfold sense at h
  split at h
  · rename_i hok
    split at h
    · injection h with _ h; injection h with _ h; cases h
    · split at h
      · injection h with _ h; injection h with _ h; cases h
      · rename_i h1 h2
        injection h with e1 h
        injection h with e2 _
        subst e1
        subst e2
        refine ⟨by simp, by simp [List.getD_eq_getElem?_getD], rfl, rfl, rfl, sensed_ok hok h1 h2, ⟨hok.2.1.2.2.1, hok.2.1.2.2.2.1⟩, hok⟩
  · rename_i hno
    injection h with _ h; injection h with _ h
    exact absurd (checkTrack_zero.1 h) hno
theorem tell_keeps {t U : Track} {id v : Int} (h : tellR t id v = (U, 0)) : U.parts.length = t.parts.length ∧ U.ok ∧ ∀ k, k < t.parts.length → U.parts.getD k seen0 = if (t.parts.getD k seen0).id = id then ⟨(t.parts.getD k seen0).id, (t.parts.getD k seen0).at_, v, (t.parts.getD k seen0).hit⟩ else t.parts.getD k seen0 := by
  unfold tellR at h
  split at h
  · rename_i hok
    split at h
    · rename_i hv
      split at h
      · rename_i hp
        split at h
        · injection h with _ h; cases h
        · injection h with e1 _
          subst e1
          refine ⟨told_len _ _ _, told_ok hok hp hv.2, fun k hk => ?_⟩
          have e2 : (told t (place t.parts id) v).parts.getD k seen0 = if k = place t.parts id then ⟨(t.parts.getD (place t.parts id) seen0).id, (t.parts.getD (place t.parts id) seen0).at_, v, (t.parts.getD (place t.parts id) seen0).hit⟩ else t.parts.getD k seen0 := set_get hp
          rw [e2]
          by_cases hki : k = place t.parts id
          · subst hki
            rw [if_pos rfl, if_pos (place_spec hp)]
          · rw [if_neg hki, if_neg]
            intro h9
            have := place_of (parts_iff.1 hok.2.2).2 hk
            rw [h9] at this
            exact hki this.symm
      · injection h with _ h; cases h
    · injection h with _ h; cases h
  · rename_i hno
    injection h with _ h
    exact absurd (checkTrack_zero.1 h) hno
theorem adv_keeps {t Y : Track} {n : Int} {L : List Fate} (h : advanceR t n = (Y, L, 0)) : Y.ok ∧ Y.parts.length + L.length = t.parts.length ∧ Y.count = t.count + n ∧ Y.next = t.next ∧
    (∀ i, i < L.length → (L.getD i fate9).id = (t.parts.getD i seen0).id ∧ (L.getD i fate9).verdict = (t.parts.getD i seen0).verdict ∧ ((t.parts.getD i seen0).hit = true → (L.getD i fate9).hit = true)) ∧
    (∀ i, L.length ≤ i → i < t.parts.length → Grown (t.parts.getD i seen0) (Y.parts.getD (i - L.length) seen0)) ∧ 0 ≤ t.count ∧ t.count ≤ 1099511627776 ∧ 1 ≤ n ∧ n ≤ 1000 := by
  obtain ⟨hok, h1, h2, h3, rfl, rfl⟩ := adv_ok h
  have hc := passN_count n.toNat t
  refine ⟨passN_ok _ hok (by omega), passN_lens hok (by omega), by rw [hc.1]; omega, hc.2.1, fun i hi => ?_, fun i h4 h5 => passN_part hok (by omega) h4 h5, hok.2.1.1, hok.2.1.2.1, h1, h2⟩
  have := passN_fate (n := n.toNat) hok (by omega) hi
  exact this
set_option maxRecDepth 100000 in
set_option maxHeartbeats 8000000 in
theorem w11 (t : Track) (vx : Value) (id vd n : Int) (w : World) (hv : SeensAt w vx t.parts) (hlm : t.parts.length ≤ maxLen) :
    Calls Try.prog 11 #[trackVal t vx, .int .i64 id, .int .u8 vd, .int .i64 n] w fun e w' => e = .returned (.bool true) ∧ Ext w w' := by
  have hmx : maxLen = 9223372036854775807 := rfl
  rw [hmx] at hlm
  have HV := Lib.hid hv
  obtain ⟨q1, ao, cap, rfl, k1, k2, -⟩ := hv
  have KA := Lib.hid c_alive
  by_cases hl50 : t.parts.length ≤ 50
  case neg =>
    have t1 : decide ((50 : Int) < (t.parts.length : Int)) = true := decide_eq_true (by omega)
    go_enter Try.func11, Try.ntmps11
    go_wp2_with (first | (go_at_call 43; (with_reducible refine (KA.out _).mono ?_); rintro E w1 ⟨rfl, hb1⟩; have A1 := Lib.hid (show At w1 [(w.heap.size, Obj.cells #[.int .i64 t.belt.step, .int .i64 t.belt.slip, .int .i64 t.belt.gate, .int .i64 t.belt.length, .int .i64 t.count, .int .i64 t.next, (.slice ao t.parts.length cap)] 47)] from At.ext hb1 (show At _ [(w.heap.size, Obj.cells #[.int .i64 t.belt.step, .int .i64 t.belt.slip, .int .i64 t.belt.gate, .int .i64 t.belt.length, .int .i64 t.count, .int .i64 t.next, (.slice ao t.parts.length cap)] 47)] from ⟨(by repeat (first | (refine blk_at _ _ ?_; (first | rfl | (simp only [size_one]; done))) | refine (blk_past _ _ (by simp only [size_one]; omega)).trans ?_)), trivial⟩)); have E1 := Lib.hid (((show Ext w _ from (by repeat (first | exact Ext.refl _ | assumption | refine Ext.alloc ?_ _ | refine Ext.drewN ?_ _ | refine ext_grow ?_ _ _ | refine Ext.setCell ?_ (by first | exact Nat.le_refl _ | omega | (simp; done) | (simp; omega)) _ | refine Ext.trans ?_ (by assumption))))).trans hb1); obtain ⟨⟨c1_0_0, c1_0_1, c1_0_2, c1_0_3, c1_0_4, c1_0_5, c1_0_6⟩, f1_0_0, f1_0_1, f1_0_2, f1_0_3, f1_0_4, f1_0_5, f1_0_6⟩ := run_7 (At.at A1.out 0 rfl); have s1_0 : w.heap.size < w1.heap.size := At.lt A1.out 0 rfl; have HS_1 := Lib.hid (SeensAt.ext ((SeensAt.ext HV.out (by repeat (first | exact Ext.refl _ | assumption | refine Ext.alloc ?_ _ | refine Ext.drewN ?_ _ | refine ext_grow ?_ _ _ | refine Ext.setCell ?_ (by first | exact Nat.le_refl _ | omega | (simp; done) | (simp; omega)) _ | refine Ext.trans ?_ (by assumption))))) hb1)))
    go_ret
    exact ⟨rfl, E1.out⟩
  have t1 : decide ((50 : Int) < (t.parts.length : Int)) = false := decide_eq_false (by omega)
  obtain ⟨r, hr⟩ : ∃ r, sense t = r := ⟨_, rfl⟩
  obtain ⟨X, nx, e⟩ := r
  obtain ⟨r2, hr2⟩ : ∃ r, tellR t id vd = r := ⟨_, rfl⟩
  obtain ⟨U, f⟩ := r2
  obtain ⟨r3, hr3⟩ : ∃ r, advanceR t n = r := ⟨_, rfl⟩
  obtain ⟨Y, L, g⟩ := r3
  have HAO := Lib.hid (fun (hg : g = 0) => adv_keeps (hg ▸ hr3))
  have KV := Lib.hid (fun (w : World) (v : Value) (hv : SeensAt w v t.parts) => (adv_at hv hl50 hr3 : Calls Try.prog 40 #[trackVal t v, .int .i64 n] w (OwnAdv (Y, L, g) w)))
  have HTO := Lib.hid (fun (hf : f = 0) => tell_keeps (hf ▸ hr2))
  have KT := Lib.hid (fun (w : World) (v : Value) (hv : SeensAt w v t.parts) => (tell_at hv hl50 hr2 : Calls Try.prog 33 #[trackVal t v, .int .i64 id, .int .u8 vd] w (OwnTell (U, f) w)))
  have HSO := Lib.hid (fun (he : e = 0) => sense_keeps (he ▸ hr))
  have KS := Lib.hid (fun (w : World) (v : Value) (hv : SeensAt w v t.parts) => (sense_at hv hl50 hr : Calls Try.prog 31 #[trackVal t v] w (OwnSense (X, nx, e) w)))
  go_enter Try.func11, Try.ntmps11
  go_upto_if 42 with (first | (have _q := E1.out; go_at_call 31; (with_reducible refine (KS.out _ _ HS_1.out).mono ?_); rintro E w2 ⟨v2, rfl, o2, hb2⟩; have A2 := Lib.hid (show At w2 [(w.heap.size, Obj.cells #[.int .i64 t.belt.step, .int .i64 t.belt.slip, .int .i64 t.belt.gate, .int .i64 t.belt.length, .int .i64 t.count, .int .i64 t.next, (.slice ao t.parts.length cap)] 47)] from At.ext hb2 A1.out); have E2 := Lib.hid ((E1.out).trans hb2); obtain ⟨⟨c2_0_0, c2_0_1, c2_0_2, c2_0_3, c2_0_4, c2_0_5, c2_0_6⟩, f2_0_0, f2_0_1, f2_0_2, f2_0_3, f2_0_4, f2_0_5, f2_0_6⟩ := run_7 (At.at A2.out 0 rfl); have s2_0 : w.heap.size < w2.heap.size := At.lt A2.out 0 rfl; (try clear c1_0_0 c1_0_1 c1_0_2 c1_0_3 c1_0_4 c1_0_5 c1_0_6 f1_0_0 f1_0_1 f1_0_2 f1_0_3 f1_0_4 f1_0_5 f1_0_6 s1_0); have HS_2 := Lib.hid (SeensAt.ext (HS_1.out) hb2); obtain ⟨-, sx, zx, hv2, -⟩ := SlAt.of_owns o2; subst hv2; have Rx := Lib.hid (seens_own o2 rfl); clear o2) | (go_at_call 43; (with_reducible refine (KA.out _).mono ?_); rintro E w1 ⟨rfl, hb1⟩; have A1 := Lib.hid (show At w1 [(w.heap.size, Obj.cells #[.int .i64 t.belt.step, .int .i64 t.belt.slip, .int .i64 t.belt.gate, .int .i64 t.belt.length, .int .i64 t.count, .int .i64 t.next, (.slice ao t.parts.length cap)] 47)] from At.ext hb1 (show At _ [(w.heap.size, Obj.cells #[.int .i64 t.belt.step, .int .i64 t.belt.slip, .int .i64 t.belt.gate, .int .i64 t.belt.length, .int .i64 t.count, .int .i64 t.next, (.slice ao t.parts.length cap)] 47)] from ⟨(by repeat (first | (refine blk_at _ _ ?_; (first | rfl | (simp only [size_one]; done))) | refine (blk_past _ _ (by simp only [size_one]; omega)).trans ?_)), trivial⟩)); have E1 := Lib.hid (((show Ext w _ from (by repeat (first | exact Ext.refl _ | assumption | refine Ext.alloc ?_ _ | refine Ext.drewN ?_ _ | refine ext_grow ?_ _ _ | refine Ext.setCell ?_ (by first | exact Nat.le_refl _ | omega | (simp; done) | (simp; omega)) _ | refine Ext.trans ?_ (by assumption))))).trans hb1); obtain ⟨⟨c1_0_0, c1_0_1, c1_0_2, c1_0_3, c1_0_4, c1_0_5, c1_0_6⟩, f1_0_0, f1_0_1, f1_0_2, f1_0_3, f1_0_4, f1_0_5, f1_0_6⟩ := run_7 (At.at A1.out 0 rfl); have s1_0 : w.heap.size < w1.heap.size := At.lt A1.out 0 rfl; have HS_1 := Lib.hid (SeensAt.ext ((SeensAt.ext HV.out (by repeat (first | exact Ext.refl _ | assumption | refine Ext.alloc ?_ _ | refine Ext.drewN ?_ _ | refine ext_grow ?_ _ _ | refine Ext.setCell ?_ (by first | exact Nat.le_refl _ | omega | (simp; done) | (simp; omega)) _ | refine Ext.trans ?_ (by assumption))))) hb1)))
  have AX := Lib.hid (show At _ [(w2.heap.size, Obj.cells #[.int .i64 X.belt.step, .int .i64 X.belt.slip, .int .i64 X.belt.gate, .int .i64 X.belt.length, .int .i64 X.count, .int .i64 X.next, (.slice sx X.parts.length zx)] 47), (w.heap.size, Obj.cells #[.int .i64 t.belt.step, .int .i64 t.belt.slip, .int .i64 t.belt.gate, .int .i64 t.belt.length, .int .i64 t.count, .int .i64 t.next, (.slice ao t.parts.length cap)] 47)] from ⟨one_first _ _, At.alloc A2.out _⟩)
  have EX := Lib.hid (show Ext w (w2.alloc (Obj.cells #[.int .i64 X.belt.step, .int .i64 X.belt.slip, .int .i64 X.belt.gate, .int .i64 X.belt.length, .int .i64 X.count, .int .i64 X.next, (.slice sx X.parts.length zx)] 47)) from ((E2.out).alloc _))
  have RX := Lib.hid (show SeensAt (w2.alloc (Obj.cells #[.int .i64 X.belt.step, .int .i64 X.belt.slip, .int .i64 X.belt.gate, .int .i64 X.belt.length, .int .i64 X.count, .int .i64 X.next, (.slice sx X.parts.length zx)] 47)) (.slice sx X.parts.length zx) X.parts from (SeensAt.ext (Rx.out) ((Ext.refl _).alloc _)))
  obtain ⟨wa, hwa⟩ : ∃ wa, w2.alloc (Obj.cells #[.int .i64 X.belt.step, .int .i64 X.belt.slip, .int .i64 X.belt.gate, .int .i64 X.belt.length, .int .i64 X.count, .int .i64 X.next, (.slice sx X.parts.length zx)] 47) = wa := ⟨_, rfl⟩
  obtain ⟨bX, hbX⟩ : ∃ bX, w2.heap.size = bX := ⟨_, rfl⟩
  rw [hwa] at AX EX RX ⊢
  rw [hbX] at AX ⊢
  clear hwa hbX A1 A2 E1 E2 HS_1 HS_2 Rx
  go_cut [9] (fun s wx => s = .bool true ∧ Ext w wx ∧ At wx [(w.heap.size, Obj.cells #[.int .i64 t.belt.step, .int .i64 t.belt.slip, .int .i64 t.belt.gate, .int .i64 t.belt.length, .int .i64 t.count, .int .i64 t.next, (.slice ao t.parts.length cap)] 47)])
  case first => as_aux_lemma =>
    by_cases he : e = 0
    · have t2 : (e == 0) = true := by simp [he]
      obtain ⟨f1, f2, f3, f4, f5, f6, f7, f8⟩ := HSO.out he
      obtain ⟨xb, xo, xc, hxs, x0, x1, x2, x3⟩ : ∃ xb xo xc, Value.slice sx X.parts.length zx = .slice (some ⟨xb, xo, none⟩) X.parts.length xc ∧ _ := by
        obtain ⟨a', c', q, -, hc⟩ := SeensAt.form RX.out
        obtain ⟨b1, o1, q1, q2⟩ := hc t.parts.length (by omega)
        exact ⟨b1, o1, c', by rw [q, q1], q2⟩
      injection hxs with hx1 _ hx2
      subst hx1
      subst hx2
      rw [f2] at x0 x1 x2 x3
      have xz := World.block_lt_of_cell? _ _ x0
      simp only at x0 x1 x2 x3 xz
      have g1 : ((X.parts.length : Int) != (t.parts.length : Int) + 1) = false := by rw [bne_eq_false_iff_eq]; omega
      have g2 : (nx != t.next) = false := by rw [bne_eq_false_iff_eq]; exact f3
      have g3 : (X.next != t.next + 1) = false := by rw [bne_eq_false_iff_eq]; exact f4
      have g4 : (X.count != t.count) = false := by rw [bne_eq_false_iff_eq]; exact f5
      have hxl : t.parts.length < X.parts.length := by omega
      have hxi : (t.parts.length : Int) < (X.parts.length : Int) := by omega
      have K35 := Lib.hid (fun w' (h : Ext wa w') => w35 X _ w' (RX.out.ext h))
      rw [checkTrack_ok f6] at K35
      obtain ⟨n0, n1⟩ := f7
      have F3 := Lib.hid f3
      have F4 := Lib.hid f4
      have F5 := Lib.hid f5
      have F1 := Lib.hid f1
      have F6 := Lib.hid f6
      have HE9 := Lib.hid he
      clear f1 f2 f3 f4 f5 f6 f8 he
      obtain ⟨⟨bx0, bx1, bx2, bx3, bx4, bx5, bx6⟩, bxf0, bxf1, bxf2, bxf3, bxf4, bxf5, bxf6⟩ := run_7 (At.at AX.out 0 rfl)
      have bxz := At.lt AX.out 0 rfl
      obtain ⟨⟨p0, p1, p2, p3, p4, p5, p6⟩, pf0, pf1, pf2, pf3, pf4, pf5, pf6⟩ := run_7 (At.at AX.out 1 rfl)
      have pz := At.lt AX.out 1 rfl
      go_wp2
      refine wp_region_quiet_below (by kernel_rfl) (by kernel_rfl) ?_
      repeat (go_big_quiet_step ((go_at_call 35; with_reducible exact Calls.ext_of (K35.out _ (Ext.grow _ _ _)))))
      refine wpQuiet_nil ?_
      intro w3 hw'
      obtain ⟨pq, hw''⟩ := hw'
      have hb3 := ext_of_regrown hw''
      clear hw'' pq
      go_wp2
      go_meet
      exact ⟨rfl, EX.out.trans hb3, (At.ext hb3 AX.out).2⟩
    · have t2 : (e == 0) = false := by simpa using he
      go_wp2
      go_meet
      exact ⟨rfl, EX.out, AX.out.2⟩
  case rest => as_aux_lemma =>
    obtain ⟨rfl, hEc, hAc⟩ := hcut
    have EC := Lib.hid hEc
    have AC := Lib.hid hAc
    clear hEc hAc AX EX RX
    obtain ⟨⟨p0, p1, p2, p3, p4, p5, p6⟩, pf0, pf1, pf2, pf3, pf4, pf5, pf6⟩ := run_7 (At.at AC.out 0 rfl)
    have pz := At.lt AC.out 0 rfl
    go_upto_if 98 with (go_at_call 33; (with_reducible refine (KT.out _ _ (SeensAt.ext HV.out EC.out)).mono ?_); rintro E w5 ⟨v5, rfl, o5, hb5⟩; obtain ⟨-, su, zu, hv5, -⟩ := SlAt.of_owns o5; subst hv5; have RU := Lib.hid (seens_own o5 rfl); have E5 := Lib.hid (EC.out.trans hb5); have A5 := Lib.hid (show At w5 [(w.heap.size, Obj.cells #[.int .i64 t.belt.step, .int .i64 t.belt.slip, .int .i64 t.belt.gate, .int .i64 t.belt.length, .int .i64 t.count, .int .i64 t.next, (.slice ao t.parts.length cap)] 47)] from At.ext hb5 AC.out); clear o5 hb5)
    have AU := Lib.hid (show At (w5.alloc (Obj.cells #[.int .i64 U.belt.step, .int .i64 U.belt.slip, .int .i64 U.belt.gate, .int .i64 U.belt.length, .int .i64 U.count, .int .i64 U.next, (.slice su U.parts.length zu)] 47)) [(w5.heap.size, Obj.cells #[.int .i64 U.belt.step, .int .i64 U.belt.slip, .int .i64 U.belt.gate, .int .i64 U.belt.length, .int .i64 U.count, .int .i64 U.next, (.slice su U.parts.length zu)] 47), (w.heap.size, Obj.cells #[.int .i64 t.belt.step, .int .i64 t.belt.slip, .int .i64 t.belt.gate, .int .i64 t.belt.length, .int .i64 t.count, .int .i64 t.next, (.slice ao t.parts.length cap)] 47)] from ⟨one_first _ _, At.alloc A5.out _⟩)
    have EU := Lib.hid (show Ext w (w5.alloc (Obj.cells #[.int .i64 U.belt.step, .int .i64 U.belt.slip, .int .i64 U.belt.gate, .int .i64 U.belt.length, .int .i64 U.count, .int .i64 U.next, (.slice su U.parts.length zu)] 47)) from E5.out.alloc _)
    have RV := Lib.hid (SeensAt.ext RU.out ((Ext.refl _).alloc (Obj.cells #[.int .i64 U.belt.step, .int .i64 U.belt.slip, .int .i64 U.belt.gate, .int .i64 U.belt.length, .int .i64 U.count, .int .i64 U.next, (.slice su U.parts.length zu)] 47)))
    obtain ⟨wa, hwa⟩ : ∃ wa, w5.alloc (Obj.cells #[.int .i64 U.belt.step, .int .i64 U.belt.slip, .int .i64 U.belt.gate, .int .i64 U.belt.length, .int .i64 U.count, .int .i64 U.next, (.slice su U.parts.length zu)] 47) = wa := ⟨_, rfl⟩
    obtain ⟨bU, hbU⟩ : ∃ bU, w5.heap.size = bU := ⟨_, rfl⟩
    rw [hwa] at AU EU RV ⊢
    rw [hbU] at AU ⊢
    clear hwa hbU A5 E5 RU AC EC p0 p1 p2 p3 p4 p5 p6 pf0 pf1 pf2 pf3 pf4 pf5 pf6 pz
    go_cut [9] (fun s wx => s = .bool true ∧ Ext w wx ∧ At wx [(w.heap.size, Obj.cells #[.int .i64 t.belt.step, .int .i64 t.belt.slip, .int .i64 t.belt.gate, .int .i64 t.belt.length, .int .i64 t.count, .int .i64 t.next, (.slice ao t.parts.length cap)] 47)])
    case first => as_aux_lemma =>
      by_cases hf : f = 0
      · have t2 : (f == 0) = true := by simp [hf]
        obtain ⟨f1, f2, f3⟩ := HTO.out hf
        have K35 := Lib.hid (fun w' (h : Ext wa w') => w35 U _ w' (RV.out.ext h))
        rw [checkTrack_ok f2] at K35
        have g1 : ((U.parts.length : Int) != (t.parts.length : Int)) = false := by rw [bne_eq_false_iff_eq]; omega
        have F1 := Lib.hid f1
        have F3 := Lib.hid f3
        have HF9 := Lib.hid hf
        clear f1 f2 f3 hf
        obtain ⟨⟨bu0, bu1, bu2, bu3, bu4, bu5, bu6⟩, buf0, buf1, buf2, buf3, buf4, buf5, buf6⟩ := run_7 (At.at AU.out 0 rfl)
        have buz := At.lt AU.out 0 rfl
        obtain ⟨⟨p0, p1, p2, p3, p4, p5, p6⟩, pf0, pf1, pf2, pf3, pf4, pf5, pf6⟩ := run_7 (At.at AU.out 1 rfl)
        have pz := At.lt AU.out 1 rfl
        go_wp2_with (go_at_call 35; (with_reducible refine (K35.out _ (Ext.refl _)).mono ?_); rintro E w6 ⟨rfl, hb6⟩; have E6 := Lib.hid (EU.out.trans hb6); have A6 := Lib.hid (At.ext hb6 AU.out); have R6 := Lib.hid (RV.out.ext hb6); have hb9 := Lib.hid hb6; clear hb6 bu0 bu1 bu2 bu3 bu4 bu5 bu6 buf0 buf1 buf2 buf3 buf4 buf5 buf6 buz p0 p1 p2 p3 p4 p5 p6 pf0 pf1 pf2 pf3 pf4 pf5 pf6 pz; obtain ⟨⟨bu0, bu1, bu2, bu3, bu4, bu5, bu6⟩, buf0, buf1, buf2, buf3, buf4, buf5, buf6⟩ := run_7 (At.at A6.out 0 rfl); obtain ⟨⟨p0, p1, p2, p3, p4, p5, p6⟩, pf0, pf1, pf2, pf3, pf4, pf5, pf6⟩ := run_7 (At.at A6.out 1 rfl); have buz := At.lt A6.out 0 rfl; have pz := At.lt A6.out 1 rfl)
        clear bu0 bu1 bu2 bu3 bu4 bu5 bu6 buf0 buf1 buf2 buf3 buf4 buf5 buf6 buz p0 p1 p2 p3 p4 p5 p6 pf0 pf1 pf2 pf3 pf4 pf5 pf6 pz
        go_loopw [114] (fun i wr => ∃ k : Nat, k ≤ U.parts.length ∧ i = .int .i64 (k : Int) ∧ Hid (Ext w6 wr)) (fun i _ => U.parts.length - (intOf i).toNat)
        case atStart => exact ⟨0, by omega, rfl, Lib.hid (Ext.refl _)⟩
        case round =>
          obtain ⟨k, hk, rfl, hEr⟩ := hrel
          by_cases hkl : k < U.parts.length
          · have hkt : k < t.parts.length := by have := F1.out; omega
            obtain ⟨a1, c1, q1, -, hc1⟩ := SeensAt.form R6.out
            obtain ⟨b1, o1, q2, x0, x1, x2, x3⟩ := hc1 k hkl
            injection q1 with q3 _ q4
            subst q3
            subst q4
            subst q2
            obtain ⟨a2, c2, q1, -, hc2⟩ := SeensAt.form HV.out
            obtain ⟨b2, o2, q2, y0, y1, y2, y3⟩ := hc2 k hkt
            injection q1 with q3 _ q4
            subst q3
            subst q4
            subst q2
            clear hc1 hc2
            have x0 := hEr.out.get x0
            have x1 := hEr.out.get x1
            have x2 := hEr.out.get x2
            have x3 := hEr.out.get x3
            have y0 := hEr.out.get (E6.out.get y0)
            have y1 := hEr.out.get (E6.out.get y1)
            have y2 := hEr.out.get (E6.out.get y2)
            have y3 := hEr.out.get (E6.out.get y3)
            have hx := F3.out k hkt
            obtain ⟨sx9, hs9⟩ : ∃ s, U.parts.getD k seen0 = s := ⟨_, rfl⟩
            obtain ⟨sy9, ht9⟩ : ∃ s, t.parts.getD k seen0 = s := ⟨_, rfl⟩
            rw [hs9, ht9] at hx
            rw [hs9] at x0 x1 x2 x3
            rw [ht9] at y0 y1 y2 y3
            clear hs9 ht9
            obtain ⟨ya, yb, yc, yd⟩ := sy9
            have A7 := Lib.hid (At.ext hEr.out A6.out)
            obtain ⟨⟨bu0, bu1, bu2, bu3, bu4, bu5, bu6⟩, buf0, buf1, buf2, buf3, buf4, buf5, buf6⟩ := run_7 (At.at A7.out 0 rfl)
            have buz := At.lt A7.out 0 rfl
            obtain ⟨⟨p0, p1, p2, p3, p4, p5, p6⟩, pf0, pf1, pf2, pf3, pf4, pf5, pf6⟩ := run_7 (At.at A7.out 1 rfl)
            have pz := At.lt A7.out 1 rfl
            have z1 := World.block_lt_of_cell? _ _ x0
            have z2 := World.block_lt_of_cell? _ _ y0
            simp only at z1 z2 y0 y1 y2 y3 hx
            have hkl2 : (k : Int) < (t.parts.length : Int) := by omega
            by_cases hid : ya = id
            · rw [if_pos hid] at hx
              subst hx
              simp only at x0 x1 x2 x3
              have u1 : (ya == id) = true := by simpa using hid
              clear hid
              go_wp2
              go_roundw
              case rel => exact ⟨k + 1, by omega, by go_num, Lib.hid (by have h9 := hEr.out; (repeat (first | exact h9 | refine Ext.alloc ?_ _ | refine Ext.setCell ?_ (by first | (simp; done) | (simp; have := h9.size; omega)) _)))⟩
              case measure => simp [intOf]; omega
            · rw [if_neg hid] at hx
              subst hx
              simp only at x0 x1 x2 x3
              have u1 : (ya == id) = false := by simpa using hid
              clear hid
              go_wp2
              go_roundw
              case rel => exact ⟨k + 1, by omega, by go_num, Lib.hid (by have h9 := hEr.out; (repeat (first | exact h9 | refine Ext.alloc ?_ _ | refine Ext.setCell ?_ (by first | (simp; done) | (simp; have := h9.size; omega)) _)))⟩
              case measure => simp [intOf]; omega
          · obtain rfl : k = U.parts.length := by omega
            go_wp2
            go_meet
            exact ⟨rfl, E6.out.trans hEr.out, (At.ext hEr.out A6.out).2⟩
      · have t2 : (f == 0) = false := by simpa using hf
        go_wp2
        go_meet
        exact ⟨rfl, EU.out, AU.out.2⟩
    case rest => as_aux_lemma =>
      obtain ⟨rfl, hEc, hAc⟩ := hcut
      have EC := Lib.hid hEc
      have AC := Lib.hid hAc
      clear hEc hAc AU EU RV
      obtain ⟨⟨p0, p1, p2, p3, p4, p5, p6⟩, pf0, pf1, pf2, pf3, pf4, pf5, pf6⟩ := run_7 (At.at AC.out 0 rfl)
      have pz := At.lt AC.out 0 rfl
      by_cases hg : g = 0
      case neg =>
        have t2 : (g != 0) = true := by simpa using hg
        go_wp2_with (go_at_call 40; (with_reducible refine (KV.out _ _ (SeensAt.ext HV.out EC.out)).mono ?_); rintro E w7 ⟨v7, f7, rfl, o7, p7, hb7⟩; obtain ⟨-, sy, zy, hv7, -⟩ := SlAt.of_owns o7; subst hv7; obtain ⟨-, fy, gy, hf7, -⟩ := SlAt.of_owns p7; subst hf7; have RY := Lib.hid (seens_own o7 rfl); have RF := Lib.hid (fates_own p7 rfl); have E7 := Lib.hid (EC.out.trans hb7); have A7 := Lib.hid (show At w7 [(w.heap.size, Obj.cells #[.int .i64 t.belt.step, .int .i64 t.belt.slip, .int .i64 t.belt.gate, .int .i64 t.belt.length, .int .i64 t.count, .int .i64 t.next, (.slice ao t.parts.length cap)] 47)] from At.ext hb7 AC.out); clear o7 p7 hb7)
        go_ret
        exact ⟨rfl, E7.out.alloc _⟩
      have t2 : (g != 0) = false := by simp [hg]
      obtain ⟨k1, k2, k3, k4, k5, k6, k7⟩ := HAO.out hg
      have HG9 := Lib.hid hg
      clear hg
      have g1 : ((Y.parts.length : Int) + (L.length : Int) != (t.parts.length : Int)) = false := by rw [bne_eq_false_iff_eq]; omega
      have g2 : (Y.count != t.count + n) = false := by rw [bne_eq_false_iff_eq]; exact k3
      have g3 : (Y.next != t.next) = false := by rw [bne_eq_false_iff_eq]; exact k4
      obtain ⟨n1, n2, n3, n4⟩ := k7
      have K2 := Lib.hid k2
      have K5 := Lib.hid k5
      have K6 := Lib.hid k6
      have HLN : L.length ≤ t.parts.length := by omega
      have HYN : Y.parts.length ≤ 100 := by omega
      have KY := Lib.hid (fun (w : World) (v : Value) (hv : SeensAt w v Y.parts) => (checkTrack_ok k1 ▸ w35 Y v w hv))
      clear k1 k2 k3 k4 k5 k6
      go_wp2_with (first | (go_at_call 40; (with_reducible refine (KV.out _ _ (SeensAt.ext HV.out EC.out)).mono ?_); rintro E w7 ⟨v7, f7, rfl, o7, p7, hb7⟩; obtain ⟨-, sy, zy, hv7, -⟩ := SlAt.of_owns o7; subst hv7; obtain ⟨-, fy, gy, hf7, -⟩ := SlAt.of_owns p7; subst hf7; have RY := Lib.hid (seens_own o7 rfl); have RF := Lib.hid (fates_own p7 rfl); have E7 := Lib.hid (EC.out.trans hb7); have A7 := Lib.hid (show At w7 [(w.heap.size, Obj.cells #[.int .i64 t.belt.step, .int .i64 t.belt.slip, .int .i64 t.belt.gate, .int .i64 t.belt.length, .int .i64 t.count, .int .i64 t.next, (.slice ao t.parts.length cap)] 47)] from At.ext hb7 AC.out); clear o7 p7 hb7) | (go_at_call 35; (with_reducible refine (KY.out _ _ (SeensAt.ext RY.out ((Ext.refl _).alloc _))).mono ?_); rintro E w8 ⟨rfl, hb8⟩; have A8 := Lib.hid (show At w8 [(w7.heap.size, Obj.cells #[.int .i64 Y.belt.step, .int .i64 Y.belt.slip, .int .i64 Y.belt.gate, .int .i64 Y.belt.length, .int .i64 Y.count, .int .i64 Y.next, (.slice sy Y.parts.length zy)] 47), (w.heap.size, Obj.cells #[.int .i64 t.belt.step, .int .i64 t.belt.slip, .int .i64 t.belt.gate, .int .i64 t.belt.length, .int .i64 t.count, .int .i64 t.next, (.slice ao t.parts.length cap)] 47)] from At.ext hb8 ⟨one_first _ _, At.alloc A7.out _⟩); have E8 := Lib.hid ((E7.out.alloc (Obj.cells #[.int .i64 Y.belt.step, .int .i64 Y.belt.slip, .int .i64 Y.belt.gate, .int .i64 Y.belt.length, .int .i64 Y.count, .int .i64 Y.next, (.slice sy Y.parts.length zy)] 47)).trans hb8); have RY8 := Lib.hid (SeensAt.ext (SeensAt.ext RY.out ((Ext.refl _).alloc (Obj.cells #[.int .i64 Y.belt.step, .int .i64 Y.belt.slip, .int .i64 Y.belt.gate, .int .i64 Y.belt.length, .int .i64 Y.count, .int .i64 Y.next, (.slice sy Y.parts.length zy)] 47))) hb8); have RF8 := Lib.hid (FatesAt.ext (FatesAt.ext RF.out ((Ext.refl _).alloc (Obj.cells #[.int .i64 Y.belt.step, .int .i64 Y.belt.slip, .int .i64 Y.belt.gate, .int .i64 Y.belt.length, .int .i64 Y.count, .int .i64 Y.next, (.slice sy Y.parts.length zy)] 47))) hb8); clear hb8; obtain ⟨⟨by0, by1, by2, by3, by4, by5, by6⟩, byf0, byf1, byf2, byf3, byf4, byf5, byf6⟩ := run_7 (At.at A8.out 0 rfl); obtain ⟨⟨p0, p1, p2, p3, p4, p5, p6⟩, pf0, pf1, pf2, pf3, pf4, pf5, pf6⟩ := run_7 (At.at A8.out 1 rfl); have byz := At.lt A8.out 0 rfl; have pz := At.lt A8.out 1 rfl))
      clear by0 by1 by2 by3 by4 by5 by6 byf0 byf1 byf2 byf3 byf4 byf5 byf6 byz p0 p1 p2 p3 p4 p5 p6 pf0 pf1 pf2 pf3 pf4 pf5 pf6 pz
      go_loopw [178] (fun i wr => ∃ k : Nat, k ≤ t.parts.length ∧ i = .int .i64 (k : Int) ∧ Hid (Ext w8 wr)) (fun i _ => t.parts.length - (intOf i).toNat)
      case atStart => exact ⟨0, by omega, rfl, Lib.hid (Ext.refl _)⟩
      case round =>
        obtain ⟨k, hk, rfl, hEr⟩ := hrel
        by_cases hkl : k < t.parts.length
        · obtain ⟨a2, c2, q1, -, hc2⟩ := SeensAt.form HV.out
          obtain ⟨b2, o2, q2, y0, y1, y2, y3⟩ := hc2 k hkl
          injection q1 with q3 _ q4
          subst q3
          subst q4
          subst q2
          clear hc2
          have y0 := hEr.out.get (E8.out.get y0)
          have y1 := hEr.out.get (E8.out.get y1)
          have y2 := hEr.out.get (E8.out.get y2)
          have y3 := hEr.out.get (E8.out.get y3)
          have A9 := Lib.hid (At.ext hEr.out A8.out)
          have hzr := hEr.out.size
          by_cases hkf : k < L.length
          · obtain ⟨a1, c1, q1, -, hc1⟩ := FatesAt.form RF8.out
            obtain ⟨b1, o1, q2, x0, x1, x2⟩ := hc1 k hkf
            injection q1 with q3 _ q4
            subst q3
            subst q4
            subst q2
            clear hc1
            have x0 := hEr.out.get x0
            have x1 := hEr.out.get x1
            have x2 := hEr.out.get x2
            have hx := K5.out k hkf
            obtain ⟨sx9, hs9⟩ : ∃ s, L.getD k fate9 = s := ⟨_, rfl⟩
            obtain ⟨sy9, ht9⟩ : ∃ s, t.parts.getD k seen0 = s := ⟨_, rfl⟩
            rw [hs9, ht9] at hx
            rw [hs9] at x0 x1 x2
            rw [ht9] at y0 y1 y2 y3
            clear hs9 ht9
            obtain ⟨ya, yb, yc, yd⟩ := sy9
            obtain ⟨fa, fc, fd⟩ := sx9
            obtain ⟨h1, h2, h3⟩ := hx
            simp only at h1 h2 h3 x0 x1 x2 y0 y1 y2 y3
            subst h1
            subst h2
            have z1 := World.block_lt_of_cell? _ _ x0
            have z2 := World.block_lt_of_cell? _ _ y0
            simp only at z1 z2
            have hkf2 : (k : Int) < (L.length : Int) := by omega
            cases yd
            · clear h3
              obtain ⟨⟨by0, by1, by2, by3, by4, by5, by6⟩, byf0, byf1, byf2, byf3, byf4, byf5, byf6⟩ := run_7 (At.at A9.out 0 rfl)
              have byz := At.lt A9.out 0 rfl
              go_wp2
              go_quiet (fail)
              go_wp2
              go_roundw
              case rel => exact ⟨k + 1, by omega, by go_num, Lib.hid (by have h9 := hEr.out; (repeat (first | exact h9 | refine Ext.alloc ?_ _ | refine Ext.drewN ?_ _ | refine Ext.setCell ?_ (by first | (simp; done) | (simp; have := h9.size; omega)) _)))⟩
              case measure => simp [intOf]; omega
            · obtain rfl : fd = true := h3 rfl
              clear h3
              obtain ⟨⟨by0, by1, by2, by3, by4, by5, by6⟩, byf0, byf1, byf2, byf3, byf4, byf5, byf6⟩ := run_7 (At.at A9.out 0 rfl)
              have byz := At.lt A9.out 0 rfl
              go_wp2
              go_quiet (fail)
              go_wp2
              go_roundw
              case rel => exact ⟨k + 1, by omega, by go_num, Lib.hid (by have h9 := hEr.out; (repeat (first | exact h9 | refine Ext.alloc ?_ _ | refine Ext.drewN ?_ _ | refine Ext.setCell ?_ (by first | (simp; done) | (simp; have := h9.size; omega)) _)))⟩
              case measure => simp [intOf]; omega
          · have hkf2 : decide ((k : Int) < (L.length : Int)) = false := decide_eq_false (by omega)
            obtain ⟨d, hd⟩ : ∃ d, k - L.length = d := ⟨_, rfl⟩
            have hd2 : (k : Int) - (L.length : Int) = (d : Int) := by omega
            have hdl : d < Y.parts.length := by have := K2.out; omega
            obtain ⟨a1, c1, q1, -, hc1⟩ := SeensAt.form RY8.out
            obtain ⟨b1, o1, q2, x0, x1, x2, x3⟩ := hc1 d hdl
            injection q1 with q3 _ q4
            subst q3
            subst q4
            subst q2
            clear hc1
            have x0 := hEr.out.get x0
            have x1 := hEr.out.get x1
            have x2 := hEr.out.get x2
            have x3 := hEr.out.get x3
            have hx := K6.out k (by omega) hkl
            rw [hd] at hx
            obtain ⟨sx9, hs9⟩ : ∃ s, Y.parts.getD d seen0 = s := ⟨_, rfl⟩
            obtain ⟨sy9, ht9⟩ : ∃ s, t.parts.getD k seen0 = s := ⟨_, rfl⟩
            rw [hs9, ht9] at hx
            rw [hs9] at x0 x1 x2 x3
            rw [ht9] at y0 y1 y2 y3
            clear hs9 ht9 hd
            obtain ⟨ya, yb, yc, yd⟩ := sy9
            obtain ⟨fa, fb, fc, fd⟩ := sx9
            obtain ⟨h1, h2, h3, h4⟩ := hx
            simp only at h1 h2 h3 h4 x0 x1 x2 x3 y0 y1 y2 y3
            subst h1
            subst h2
            subst h3
            have z1 := World.block_lt_of_cell? _ _ x0
            have z2 := World.block_lt_of_cell? _ _ y0
            simp only at z1 z2
            have hdl2 : (d : Int) < (Y.parts.length : Int) := by omega
            cases yd
            · clear h4
              obtain ⟨⟨by0, by1, by2, by3, by4, by5, by6⟩, byf0, byf1, byf2, byf3, byf4, byf5, byf6⟩ := run_7 (At.at A9.out 0 rfl)
              have byz := At.lt A9.out 0 rfl
              go_wp2

              go_wp2
              go_roundw
              case rel => exact ⟨k + 1, by omega, by go_num, Lib.hid (by have h9 := hEr.out; (repeat (first | exact h9 | refine Ext.alloc ?_ _ | refine Ext.drewN ?_ _ | refine Ext.setCell ?_ (by first | (simp; done) | (simp; have := h9.size; omega)) _)))⟩
              case measure => simp [intOf]; omega
            · obtain rfl : fd = true := h4 rfl
              clear h4
              obtain ⟨⟨by0, by1, by2, by3, by4, by5, by6⟩, byf0, byf1, byf2, byf3, byf4, byf5, byf6⟩ := run_7 (At.at A9.out 0 rfl)
              have byz := At.lt A9.out 0 rfl
              go_wp2

              go_wp2
              go_roundw
              case rel => exact ⟨k + 1, by omega, by go_num, Lib.hid (by have h9 := hEr.out; (repeat (first | exact h9 | refine Ext.alloc ?_ _ | refine Ext.drewN ?_ _ | refine Ext.setCell ?_ (by first | (simp; done) | (simp; have := h9.size; omega)) _)))⟩
              case measure => simp [intOf]; omega
        · obtain rfl : k = t.parts.length := by omega
          go_wp2
          go_ret
          exact ⟨rfl, E8.out.trans hEr.out⟩
end Go.Proofs.Ytcbimfaneinpkaa
