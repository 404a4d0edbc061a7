/- The walk of the program's Advance. -/
import Derived.Test.YtcbimfaneinpkaaTell
import Derived.Test.YtcbimfaneinpkaaSplit
import Derived.Test.YtcbimfaneinpkaaTail
set_option linter.unusedVariables false
set_option linter.unusedSimpArgs false
namespace Go.Proofs.Ytcbimfaneinpkaa
open Go.RowKit Go.Sort

def fateCells (x : Fate) : List Value := [.int .i64 x.id, .int .u8 x.verdict, .bool x.hit]
def fatesL (l : List Fate) : List Value := l.flatMap fateCells
theorem fatesL_append (l m : List Fate) : fatesL (l ++ m) = fatesL l ++ fatesL m := List.flatMap_append
theorem fates_one (l : List Fate) : ∀ u ∈ fatesL l, u.oneCell' = true := by
  intro u hu
  simp only [fatesL, List.mem_flatMap, fateCells, List.mem_cons, List.not_mem_nil, or_false] at hu
  obtain ⟨x, -, h⟩ := hu
  rcases h with rfl | rfl | rfl <;> rfl
theorem info93 : (Try.prog.info? 93).map (fun i => (i.zero, i.size, i.bytes)) = some (some (.agg #[.int .i64 0, .int .u8 0, .bool false]), 3, 16) := by kernel_rfl
def OwnAdv (r : Track × List Fate × Int) (w : World) (e : Ending) (w' : World) : Prop :=
  ∃ v' f', e = .returned (.tuple #[trackVal r.1 v', f', .int .i64 r.2.2]) ∧ w'.ownsRow w.heap.size 63 4 v' r.1.parts.length (seens r.1.parts) ∧ w'.ownsRow w.heap.size 93 3 f' r.2.1.length (fatesL r.2.1) ∧ Ext w w'
theorem OwnAdv.bare {c : Int} {w w' : World} (h : Ext w w') : OwnAdv (noTrack', [], c) w (.returned (.tuple #[.agg #[.int .i64 0, .int .i64 0, .int .i64 0, .int .i64 0, .int .i64 0, .int .i64 0, .slice none 0 0], .slice none 0 0, .int .i64 c])) w' :=
  ⟨.slice none 0 0, .slice none 0 0, rfl, ⟨rfl, .inl ⟨rfl, rfl⟩⟩, ⟨rfl, .inl ⟨rfl, rfl⟩⟩, h⟩
theorem adv_yes {t : Track} {n : Int} (h : t.ok) (h1 : 1 ≤ n) (h2 : n ≤ 1000) (h3 : t.count + n ≤ 1099511627776) : advanceR t n = ((passN n.toNat t).1, (passN n.toNat t).2, 0) := by
  unfold advanceR
  rw [if_pos h, if_pos ⟨h1, h2⟩, if_pos h3]
/-- the loop of counts -/
def AdvState (w : World) (t : Track) (B8 b : Nat) (k : Nat) (out : Value) (wr : World) : Prop :=
  ∃ (T : Track) (F : List Fate) (vp : Value), passN k t = (T, F) ∧ Ext w wr ∧ At wr [(B8, Obj.cells #[.pointer (some ⟨b, 0, none⟩)] 120), (b, Obj.cells #[.int .i64 T.belt.step, .int .i64 T.belt.slip, .int .i64 T.belt.gate, .int .i64 T.belt.length, .int .i64 T.count, .int .i64 T.next, vp, .int .i64 (first T.belt), .int .i64 (final T.belt)] 123), (w.heap.size + 1, Obj.cells #[.int .i64 0, .int .i64 0, .int .i64 0, .int .i64 0, .int .i64 0, .int .i64 0, (.slice none 0 0)] 47)] ∧
    wr.ownsRow (w.heap.size + 2) 63 4 vp T.parts.length (seens T.parts) ∧ wr.ownsRow (w.heap.size + 2) 93 3 out F.length (fatesL F) ∧
    (∀ g, vp.ownBlock = some g → g ≠ B8 ∧ g ≠ b) ∧ (∀ g, out.ownBlock = some g → g ≠ B8 ∧ g ≠ b) ∧ Apart2 vp out
/-- how many counts are left -/
def leftOf (b : Nat) (m : Int) (w : World) : Nat := (m - intOf ((w.cell? ⟨b, 4, none⟩).getD undef)).toNat
theorem leftOf_eq {b : Nat} {m c : Int} {w : World} (h : w.cell? ⟨b, 4, none⟩ = some (.int .i64 c)) : leftOf b m w = (m - c).toNat := by unfold leftOf; rw [h]; rfl
/-- the parts of which the first m have been told whether they are hit -/
def mixed (t : Track) (n : Int) (m : Nat) : List Seen := (t.parts.take m).map (hitAt t n) ++ t.parts.drop m
theorem mixed_len (t : Track) (n : Int) (m : Nat) : (mixed t n m).length = t.parts.length := by simp [mixed]; omega
theorem mixed_get (t : Track) (n : Int) {m : Nat} (h : m < t.parts.length) : (mixed t n m).getD m seen0 = t.parts.getD m seen0 := by
  unfold mixed
  rw [List.getD_eq_getElem?_getD, List.getElem?_append_right (by simp; omega)]
  simp [List.getElem?_drop]
  rw [show m + (m - min m t.parts.length) = m by omega]
theorem mixed_set (t : Track) (n : Int) {m : Nat} (h : m < t.parts.length) : mixed t n (m + 1) = (mixed t n m).set m (hitAt t n (t.parts.getD m seen0)) := by
  unfold mixed
  rw [take_get h, List.map_append, List.set_append_right _ _ (by simp; omega), List.drop_eq_getElem_cons h]
  have e : m - ((t.parts.take m).map (hitAt t n)).length = 0 := by simp; omega
  rw [e, List.set_cons_zero, List.append_assoc]
  rfl
theorem seens_hit (t : Track) (n : Int) (m : Nat) (hm : m < t.parts.length) {h : Bool} (hh : (hitAt t n (t.parts.getD m seen0)).hit = h) : seens (mixed t n (m + 1)) = (seens (mixed t n m)).set (m * 4 + 3) (.bool h) := by
  rw [mixed_set t n hm]
  have hi : m < (mixed t n m).length := by rw [mixed_len]; exact hm
  refine List.ext_getElem? fun j => ?_
  rw [List.getElem?_set]
  obtain ⟨q, f, hf, rfl⟩ : ∃ q f, f < 4 ∧ j = q * 4 + f := ⟨j / 4, j % 4, by omega, by omega⟩
  rcases Nat.lt_or_ge q (mixed t n m).length with hq | hq
  · rw [seens_get _ q f (by simpa using hq) hf, seens_get (mixed t n m) q f hq hf, set_get hi]
    by_cases hqi : q = m
    · subst hqi
      rw [if_pos rfl, mixed_get t n hm]
      by_cases h2 : f = 3
      · subst h2
        rw [if_pos rfl, if_pos (by rw [seens_length]; omega), ← hh]
        rfl
      · rw [if_neg (by omega)]
        match f, hf, h2 with
        | 0, _, _ => rfl
        | 1, _, _ => rfl
        | 2, _, _ => rfl
        | k + 3, hk, h2 => exact absurd (by omega) h2
    · rw [if_neg hqi, if_neg (by omega)]
  · rw [List.getElem?_eq_none (by rw [seens_length]; simp; omega), List.getElem?_eq_none (by rw [seens_length]; omega), if_neg (by omega)]
theorem hit_none {t : Track} {n : Int} (h : openAt t n = false) : t.parts.map (hitAt t n) = t.parts := by
  rw [List.map_congr_left (g := id) fun x _ => ?_, List.map_id]
  obtain ⟨i, a, v, h'⟩ := x
  simp [hitAt, h]
set_option maxRecDepth 100000 in
set_option maxHeartbeats 16000000 in
theorem w40 (t : Track) (vx : Value) (n : Int) (w : World) (hv : SeensAt w vx t.parts) (hl50 : t.parts.length ≤ 50) :
    Calls Try.prog 40 #[trackVal t vx, .int .i64 n] w (OwnAdv (advanceR t n) w) := by
  have HV := Lib.hid hv
  obtain ⟨i1, hj, hy0, hy1, hy2⟩ := info_parts info93
  obtain ⟨q1, ao, cap, rfl, k1, k2, -⟩ := hv
  by_cases hok : t.ok
  case neg =>
    rw [show advanceR t n = (noTrack', [], checkTrack t) from if_neg hok]
    have hct : checkTrack t ≠ 0 := fun h => hok (checkTrack_zero.1 h)
    have hcf : (checkTrack t == 0) = false := by simp [hct]
    have hcf2 : (checkTrack t != 0) = true := by simp [hct]
    obtain ⟨ct, hct9⟩ : ∃ ct, checkTrack t = ct := ⟨_, rfl⟩
    have K35 := Lib.hid (fun w' (h : SeensAt w' (.slice ao t.parts.length cap) t.parts) => w35 t _ w' h)
    rw [hct9] at hcf hcf2 K35 ⊢
    clear hct hct9
    go_enter Try.func40, Try.ntmps40
    go_wp2
    go_step3
    go_wp2_with (first | (go_at_call 35; (with_reducible refine (K35.out _ (SeensAt.ext HV.out (by repeat (first | exact Ext.refl _ | assumption | refine Ext.alloc ?_ _ | refine Ext.drewN ?_ _ | refine ext_grow ?_ _ _ | refine Ext.setCell ?_ (by first | exact Nat.le_refl _ | omega | (simp; done) | (simp; omega)) _ | refine Ext.trans ?_ (by assumption))))).mono ?_); rintro E w1 ⟨rfl, hb1⟩; have A1 := Lib.hid (show At w1 [(w.heap.size, Obj.cells #[.int .i64 t.belt.step, .int .i64 t.belt.slip, .int .i64 t.belt.gate, .int .i64 t.belt.length, .int .i64 t.count, .int .i64 t.next, (.slice ao t.parts.length cap)] 47), (w.heap.size + 1, Obj.cells #[.int .i64 0, .int .i64 0, .int .i64 0, .int .i64 0, .int .i64 0, .int .i64 0, (.slice none 0 0)] 47)] from At.ext hb1 (show At _ [(w.heap.size, Obj.cells #[.int .i64 t.belt.step, .int .i64 t.belt.slip, .int .i64 t.belt.gate, .int .i64 t.belt.length, .int .i64 t.count, .int .i64 t.next, (.slice ao t.parts.length cap)] 47), (w.heap.size + 1, Obj.cells #[.int .i64 0, .int .i64 0, .int .i64 0, .int .i64 0, .int .i64 0, .int .i64 0, (.slice none 0 0)] 47)] from ⟨(by repeat (first | (refine blk_at _ _ ?_; (first | rfl | (simp only [size_one]; done))) | refine (blk_past _ _ (by simp only [size_one]; omega)).trans ?_)), (by repeat (first | (refine blk_at _ _ ?_; (first | rfl | (simp only [size_one]; done))) | refine (blk_past _ _ (by simp only [size_one]; omega)).trans ?_)), trivial⟩)); have E1 := Lib.hid (((show Ext w _ from (by repeat (first | exact Ext.refl _ | assumption | refine Ext.alloc ?_ _ | refine Ext.drewN ?_ _ | refine ext_grow ?_ _ _ | refine Ext.setCell ?_ (by first | exact Nat.le_refl _ | omega | (simp; done) | (simp; omega)) _ | refine Ext.trans ?_ (by assumption))))).trans hb1); obtain ⟨⟨c1_0_0, c1_0_1, c1_0_2, c1_0_3, c1_0_4, c1_0_5, c1_0_6⟩, f1_0_0, f1_0_1, f1_0_2, f1_0_3, f1_0_4, f1_0_5, f1_0_6⟩ := run_7 (At.at A1.out 0 rfl); have s1_0 : w.heap.size < w1.heap.size := At.lt A1.out 0 rfl; obtain ⟨⟨c1_1_0, c1_1_1, c1_1_2, c1_1_3, c1_1_4, c1_1_5, c1_1_6⟩, f1_1_0, f1_1_1, f1_1_2, f1_1_3, f1_1_4, f1_1_5, f1_1_6⟩ := run_7 (At.at A1.out 1 rfl); have s1_1 : w.heap.size + 1 < w1.heap.size := At.lt A1.out 1 rfl; have HS_1 := Lib.hid (SeensAt.ext ((SeensAt.ext HV.out (by repeat (first | exact Ext.refl _ | assumption | refine Ext.alloc ?_ _ | refine Ext.drewN ?_ _ | refine ext_grow ?_ _ _ | refine Ext.setCell ?_ (by first | exact Nat.le_refl _ | omega | (simp; done) | (simp; omega)) _ | refine Ext.trans ?_ (by assumption))))) hb1)))
    refine bodyPost_ret (results_row3 rfl _ _ (w.heap.size + 1) 47 _ (0, 0) _ rfl (store_7 (v0 := .int .i64 0) (v1 := .int .i64 0) (v2 := .int .i64 0) (v3 := .int .i64 0) (v4 := .int .i64 0) (v5 := .int .i64 0) (v6 := .slice none 0 0) (At.at A1.out 1 rfl)).1 Try.underlying47 rfl info47) rfl ?_
    exact OwnAdv.bare ((store_7 (v0 := .int .i64 0) (v1 := .int .i64 0) (v2 := .int .i64 0) (v3 := .int .i64 0) (v4 := .int .i64 0) (v5 := .int .i64 0) (v6 := .slice none 0 0) (At.at A1.out 1 rfl)).2.2 w (by omega) E1.out)
  obtain ⟨s1, s2, -⟩ := hok.2.1
  have K35 := Lib.hid (fun w' (h : SeensAt w' (.slice ao t.parts.length cap) t.parts) => w35 t _ w' h)
  rw [checkTrack_ok hok] at K35
  by_cases hn13 : 1 ≤ n ∧ n ≤ 1000
  case neg =>
    rw [show advanceR t n = (noTrack', [], 2) by unfold advanceR; rw [if_pos hok, if_neg hn13]]
    rcases Int.lt_or_le n 1 with h1 | h1
    · clear hn13
      go_enter Try.func40, Try.ntmps40
      go_wp2
      go_step3
      go_wp2_with (first | (go_at_call 35; (with_reducible refine (K35.out _ (SeensAt.ext HV.out (by repeat (first | exact Ext.refl _ | assumption | refine Ext.alloc ?_ _ | refine Ext.drewN ?_ _ | refine ext_grow ?_ _ _ | refine Ext.setCell ?_ (by first | exact Nat.le_refl _ | omega | (simp; done) | (simp; omega)) _ | refine Ext.trans ?_ (by assumption))))).mono ?_); rintro E w1 ⟨rfl, hb1⟩; have A1 := Lib.hid (show At w1 [(w.heap.size, Obj.cells #[.int .i64 t.belt.step, .int .i64 t.belt.slip, .int .i64 t.belt.gate, .int .i64 t.belt.length, .int .i64 t.count, .int .i64 t.next, (.slice ao t.parts.length cap)] 47), (w.heap.size + 1, Obj.cells #[.int .i64 0, .int .i64 0, .int .i64 0, .int .i64 0, .int .i64 0, .int .i64 0, (.slice none 0 0)] 47)] from At.ext hb1 (show At _ [(w.heap.size, Obj.cells #[.int .i64 t.belt.step, .int .i64 t.belt.slip, .int .i64 t.belt.gate, .int .i64 t.belt.length, .int .i64 t.count, .int .i64 t.next, (.slice ao t.parts.length cap)] 47), (w.heap.size + 1, Obj.cells #[.int .i64 0, .int .i64 0, .int .i64 0, .int .i64 0, .int .i64 0, .int .i64 0, (.slice none 0 0)] 47)] from ⟨(by repeat (first | (refine blk_at _ _ ?_; (first | rfl | (simp only [size_one]; done))) | refine (blk_past _ _ (by simp only [size_one]; omega)).trans ?_)), (by repeat (first | (refine blk_at _ _ ?_; (first | rfl | (simp only [size_one]; done))) | refine (blk_past _ _ (by simp only [size_one]; omega)).trans ?_)), trivial⟩)); have E1 := Lib.hid (((show Ext w _ from (by repeat (first | exact Ext.refl _ | assumption | refine Ext.alloc ?_ _ | refine Ext.drewN ?_ _ | refine ext_grow ?_ _ _ | refine Ext.setCell ?_ (by first | exact Nat.le_refl _ | omega | (simp; done) | (simp; omega)) _ | refine Ext.trans ?_ (by assumption))))).trans hb1); obtain ⟨⟨c1_0_0, c1_0_1, c1_0_2, c1_0_3, c1_0_4, c1_0_5, c1_0_6⟩, f1_0_0, f1_0_1, f1_0_2, f1_0_3, f1_0_4, f1_0_5, f1_0_6⟩ := run_7 (At.at A1.out 0 rfl); have s1_0 : w.heap.size < w1.heap.size := At.lt A1.out 0 rfl; obtain ⟨⟨c1_1_0, c1_1_1, c1_1_2, c1_1_3, c1_1_4, c1_1_5, c1_1_6⟩, f1_1_0, f1_1_1, f1_1_2, f1_1_3, f1_1_4, f1_1_5, f1_1_6⟩ := run_7 (At.at A1.out 1 rfl); have s1_1 : w.heap.size + 1 < w1.heap.size := At.lt A1.out 1 rfl; have HS_1 := Lib.hid (SeensAt.ext ((SeensAt.ext HV.out (by repeat (first | exact Ext.refl _ | assumption | refine Ext.alloc ?_ _ | refine Ext.drewN ?_ _ | refine ext_grow ?_ _ _ | refine Ext.setCell ?_ (by first | exact Nat.le_refl _ | omega | (simp; done) | (simp; omega)) _ | refine Ext.trans ?_ (by assumption))))) hb1)))
      refine bodyPost_ret (results_row3 rfl _ _ (w.heap.size + 1) 47 _ (0, 0) _ rfl (store_7 (v0 := .int .i64 0) (v1 := .int .i64 0) (v2 := .int .i64 0) (v3 := .int .i64 0) (v4 := .int .i64 0) (v5 := .int .i64 0) (v6 := .slice none 0 0) (At.at A1.out 1 rfl)).1 Try.underlying47 rfl info47) rfl ?_
      exact OwnAdv.bare ((store_7 (v0 := .int .i64 0) (v1 := .int .i64 0) (v2 := .int .i64 0) (v3 := .int .i64 0) (v4 := .int .i64 0) (v5 := .int .i64 0) (v6 := .slice none 0 0) (At.at A1.out 1 rfl)).2.2 w (by omega) E1.out)
    · have h3 : 1000 < n := by omega
      clear hn13
      go_enter Try.func40, Try.ntmps40
      go_wp2
      go_step3
      go_wp2_with (first | (go_at_call 35; (with_reducible refine (K35.out _ (SeensAt.ext HV.out (by repeat (first | exact Ext.refl _ | assumption | refine Ext.alloc ?_ _ | refine Ext.drewN ?_ _ | refine ext_grow ?_ _ _ | refine Ext.setCell ?_ (by first | exact Nat.le_refl _ | omega | (simp; done) | (simp; omega)) _ | refine Ext.trans ?_ (by assumption))))).mono ?_); rintro E w1 ⟨rfl, hb1⟩; have A1 := Lib.hid (show At w1 [(w.heap.size, Obj.cells #[.int .i64 t.belt.step, .int .i64 t.belt.slip, .int .i64 t.belt.gate, .int .i64 t.belt.length, .int .i64 t.count, .int .i64 t.next, (.slice ao t.parts.length cap)] 47), (w.heap.size + 1, Obj.cells #[.int .i64 0, .int .i64 0, .int .i64 0, .int .i64 0, .int .i64 0, .int .i64 0, (.slice none 0 0)] 47)] from At.ext hb1 (show At _ [(w.heap.size, Obj.cells #[.int .i64 t.belt.step, .int .i64 t.belt.slip, .int .i64 t.belt.gate, .int .i64 t.belt.length, .int .i64 t.count, .int .i64 t.next, (.slice ao t.parts.length cap)] 47), (w.heap.size + 1, Obj.cells #[.int .i64 0, .int .i64 0, .int .i64 0, .int .i64 0, .int .i64 0, .int .i64 0, (.slice none 0 0)] 47)] from ⟨(by repeat (first | (refine blk_at _ _ ?_; (first | rfl | (simp only [size_one]; done))) | refine (blk_past _ _ (by simp only [size_one]; omega)).trans ?_)), (by repeat (first | (refine blk_at _ _ ?_; (first | rfl | (simp only [size_one]; done))) | refine (blk_past _ _ (by simp only [size_one]; omega)).trans ?_)), trivial⟩)); have E1 := Lib.hid (((show Ext w _ from (by repeat (first | exact Ext.refl _ | assumption | refine Ext.alloc ?_ _ | refine Ext.drewN ?_ _ | refine ext_grow ?_ _ _ | refine Ext.setCell ?_ (by first | exact Nat.le_refl _ | omega | (simp; done) | (simp; omega)) _ | refine Ext.trans ?_ (by assumption))))).trans hb1); obtain ⟨⟨c1_0_0, c1_0_1, c1_0_2, c1_0_3, c1_0_4, c1_0_5, c1_0_6⟩, f1_0_0, f1_0_1, f1_0_2, f1_0_3, f1_0_4, f1_0_5, f1_0_6⟩ := run_7 (At.at A1.out 0 rfl); have s1_0 : w.heap.size < w1.heap.size := At.lt A1.out 0 rfl; obtain ⟨⟨c1_1_0, c1_1_1, c1_1_2, c1_1_3, c1_1_4, c1_1_5, c1_1_6⟩, f1_1_0, f1_1_1, f1_1_2, f1_1_3, f1_1_4, f1_1_5, f1_1_6⟩ := run_7 (At.at A1.out 1 rfl); have s1_1 : w.heap.size + 1 < w1.heap.size := At.lt A1.out 1 rfl; have HS_1 := Lib.hid (SeensAt.ext ((SeensAt.ext HV.out (by repeat (first | exact Ext.refl _ | assumption | refine Ext.alloc ?_ _ | refine Ext.drewN ?_ _ | refine ext_grow ?_ _ _ | refine Ext.setCell ?_ (by first | exact Nat.le_refl _ | omega | (simp; done) | (simp; omega)) _ | refine Ext.trans ?_ (by assumption))))) hb1)))
      refine bodyPost_ret (results_row3 rfl _ _ (w.heap.size + 1) 47 _ (0, 0) _ rfl (store_7 (v0 := .int .i64 0) (v1 := .int .i64 0) (v2 := .int .i64 0) (v3 := .int .i64 0) (v4 := .int .i64 0) (v5 := .int .i64 0) (v6 := .slice none 0 0) (At.at A1.out 1 rfl)).1 Try.underlying47 rfl info47) rfl ?_
      exact OwnAdv.bare ((store_7 (v0 := .int .i64 0) (v1 := .int .i64 0) (v2 := .int .i64 0) (v3 := .int .i64 0) (v4 := .int .i64 0) (v5 := .int .i64 0) (v6 := .slice none 0 0) (At.at A1.out 1 rfl)).2.2 w (by omega) E1.out)
  obtain ⟨hn1, hn2⟩ := hn13
  by_cases hn3 : t.count + n ≤ 1099511627776
  case neg =>
    rw [show advanceR t n = (noTrack', [], 9) by unfold advanceR; rw [if_pos hok, if_pos ⟨hn1, hn2⟩, if_neg hn3]]
    have t3 : decide (1099511627776 - n < t.count) = true := decide_eq_true (by omega)
    go_enter Try.func40, Try.ntmps40
    go_wp2
    go_step3
    go_wp2_with (first | (go_at_call 35; (with_reducible refine (K35.out _ (SeensAt.ext HV.out (by repeat (first | exact Ext.refl _ | assumption | refine Ext.alloc ?_ _ | refine Ext.drewN ?_ _ | refine ext_grow ?_ _ _ | refine Ext.setCell ?_ (by first | exact Nat.le_refl _ | omega | (simp; done) | (simp; omega)) _ | refine Ext.trans ?_ (by assumption))))).mono ?_); rintro E w1 ⟨rfl, hb1⟩; have A1 := Lib.hid (show At w1 [(w.heap.size, Obj.cells #[.int .i64 t.belt.step, .int .i64 t.belt.slip, .int .i64 t.belt.gate, .int .i64 t.belt.length, .int .i64 t.count, .int .i64 t.next, (.slice ao t.parts.length cap)] 47), (w.heap.size + 1, Obj.cells #[.int .i64 0, .int .i64 0, .int .i64 0, .int .i64 0, .int .i64 0, .int .i64 0, (.slice none 0 0)] 47)] from At.ext hb1 (show At _ [(w.heap.size, Obj.cells #[.int .i64 t.belt.step, .int .i64 t.belt.slip, .int .i64 t.belt.gate, .int .i64 t.belt.length, .int .i64 t.count, .int .i64 t.next, (.slice ao t.parts.length cap)] 47), (w.heap.size + 1, Obj.cells #[.int .i64 0, .int .i64 0, .int .i64 0, .int .i64 0, .int .i64 0, .int .i64 0, (.slice none 0 0)] 47)] from ⟨(by repeat (first | (refine blk_at _ _ ?_; (first | rfl | (simp only [size_one]; done))) | refine (blk_past _ _ (by simp only [size_one]; omega)).trans ?_)), (by repeat (first | (refine blk_at _ _ ?_; (first | rfl | (simp only [size_one]; done))) | refine (blk_past _ _ (by simp only [size_one]; omega)).trans ?_)), trivial⟩)); have E1 := Lib.hid (((show Ext w _ from (by repeat (first | exact Ext.refl _ | assumption | refine Ext.alloc ?_ _ | refine Ext.drewN ?_ _ | refine ext_grow ?_ _ _ | refine Ext.setCell ?_ (by first | exact Nat.le_refl _ | omega | (simp; done) | (simp; omega)) _ | refine Ext.trans ?_ (by assumption))))).trans hb1); obtain ⟨⟨c1_0_0, c1_0_1, c1_0_2, c1_0_3, c1_0_4, c1_0_5, c1_0_6⟩, f1_0_0, f1_0_1, f1_0_2, f1_0_3, f1_0_4, f1_0_5, f1_0_6⟩ := run_7 (At.at A1.out 0 rfl); have s1_0 : w.heap.size < w1.heap.size := At.lt A1.out 0 rfl; obtain ⟨⟨c1_1_0, c1_1_1, c1_1_2, c1_1_3, c1_1_4, c1_1_5, c1_1_6⟩, f1_1_0, f1_1_1, f1_1_2, f1_1_3, f1_1_4, f1_1_5, f1_1_6⟩ := run_7 (At.at A1.out 1 rfl); have s1_1 : w.heap.size + 1 < w1.heap.size := At.lt A1.out 1 rfl; have HS_1 := Lib.hid (SeensAt.ext ((SeensAt.ext HV.out (by repeat (first | exact Ext.refl _ | assumption | refine Ext.alloc ?_ _ | refine Ext.drewN ?_ _ | refine ext_grow ?_ _ _ | refine Ext.setCell ?_ (by first | exact Nat.le_refl _ | omega | (simp; done) | (simp; omega)) _ | refine Ext.trans ?_ (by assumption))))) hb1)))
    refine bodyPost_ret (results_row3 rfl _ _ (w.heap.size + 1) 47 _ (0, 0) _ rfl (store_7 (v0 := .int .i64 0) (v1 := .int .i64 0) (v2 := .int .i64 0) (v3 := .int .i64 0) (v4 := .int .i64 0) (v5 := .int .i64 0) (v6 := .slice none 0 0) (At.at A1.out 1 rfl)).1 Try.underlying47 rfl info47) rfl ?_
    exact OwnAdv.bare ((store_7 (v0 := .int .i64 0) (v1 := .int .i64 0) (v2 := .int .i64 0) (v3 := .int .i64 0) (v4 := .int .i64 0) (v5 := .int .i64 0) (v6 := .slice none 0 0) (At.at A1.out 1 rfl)).2.2 w (by omega) E1.out)
  have t3 : decide (1099511627776 - n < t.count) = false := decide_eq_false (by omega)
  have hI := PartsIn.of_ok hok
  have hok9 := Lib.hid hok
  clear hok
  go_enter Try.func40, Try.ntmps40
  go_wp2
  go_step3
  go_wp2_with (first | (go_at_call 66; (with_reducible refine (w66 t _ _ HS_1.out hI).mono ?_); rintro E w2 ⟨b, vp0, rfl, hge, hG, ho, hne, hb2⟩; have A2 := Lib.hid (show At w2 [(w.heap.size, Obj.cells #[.int .i64 t.belt.step, .int .i64 t.belt.slip, .int .i64 t.belt.gate, .int .i64 t.belt.length, .int .i64 t.count, .int .i64 t.next, (.slice ao t.parts.length cap)] 47), (w.heap.size + 1, Obj.cells #[.int .i64 0, .int .i64 0, .int .i64 0, .int .i64 0, .int .i64 0, .int .i64 0, (.slice none 0 0)] 47)] from At.ext hb2 A1.out); have E2 := Lib.hid ((E1.out).trans hb2); obtain ⟨⟨c2_0_0, c2_0_1, c2_0_2, c2_0_3, c2_0_4, c2_0_5, c2_0_6⟩, f2_0_0, f2_0_1, f2_0_2, f2_0_3, f2_0_4, f2_0_5, f2_0_6⟩ := run_7 (At.at A2.out 0 rfl); have s2_0 : w.heap.size < w2.heap.size := At.lt A2.out 0 rfl; obtain ⟨⟨c2_1_0, c2_1_1, c2_1_2, c2_1_3, c2_1_4, c2_1_5, c2_1_6⟩, f2_1_0, f2_1_1, f2_1_2, f2_1_3, f2_1_4, f2_1_5, f2_1_6⟩ := run_7 (At.at A2.out 1 rfl); have s2_1 : w.heap.size + 1 < w2.heap.size := At.lt A2.out 1 rfl; (try clear c1_0_0 c1_0_1 c1_0_2 c1_0_3 c1_0_4 c1_0_5 c1_0_6 f1_0_0 f1_0_1 f1_0_2 f1_0_3 f1_0_4 f1_0_5 f1_0_6 c1_1_0 c1_1_1 c1_1_2 c1_1_3 c1_1_4 c1_1_5 c1_1_6 f1_1_0 f1_1_1 f1_1_2 f1_1_3 f1_1_4 f1_1_5 f1_1_6 s1_0 s1_1); have HS_2 := Lib.hid (SeensAt.ext (HS_1.out) hb2)) | (go_at_call 35; (with_reducible refine (K35.out _ (SeensAt.ext HV.out (by repeat (first | exact Ext.refl _ | assumption | refine Ext.alloc ?_ _ | refine Ext.drewN ?_ _ | refine ext_grow ?_ _ _ | refine Ext.setCell ?_ (by first | exact Nat.le_refl _ | omega | (simp; done) | (simp; omega)) _ | refine Ext.trans ?_ (by assumption))))).mono ?_); rintro E w1 ⟨rfl, hb1⟩; have A1 := Lib.hid (show At w1 [(w.heap.size, Obj.cells #[.int .i64 t.belt.step, .int .i64 t.belt.slip, .int .i64 t.belt.gate, .int .i64 t.belt.length, .int .i64 t.count, .int .i64 t.next, (.slice ao t.parts.length cap)] 47), (w.heap.size + 1, Obj.cells #[.int .i64 0, .int .i64 0, .int .i64 0, .int .i64 0, .int .i64 0, .int .i64 0, (.slice none 0 0)] 47)] from At.ext hb1 (show At _ [(w.heap.size, Obj.cells #[.int .i64 t.belt.step, .int .i64 t.belt.slip, .int .i64 t.belt.gate, .int .i64 t.belt.length, .int .i64 t.count, .int .i64 t.next, (.slice ao t.parts.length cap)] 47), (w.heap.size + 1, Obj.cells #[.int .i64 0, .int .i64 0, .int .i64 0, .int .i64 0, .int .i64 0, .int .i64 0, (.slice none 0 0)] 47)] from ⟨(by repeat (first | (refine blk_at _ _ ?_; (first | rfl | (simp only [size_one]; done))) | refine (blk_past _ _ (by simp only [size_one]; omega)).trans ?_)), (by repeat (first | (refine blk_at _ _ ?_; (first | rfl | (simp only [size_one]; done))) | refine (blk_past _ _ (by simp only [size_one]; omega)).trans ?_)), trivial⟩)); have E1 := Lib.hid (((show Ext w _ from (by repeat (first | exact Ext.refl _ | assumption | refine Ext.alloc ?_ _ | refine Ext.drewN ?_ _ | refine ext_grow ?_ _ _ | refine Ext.setCell ?_ (by first | exact Nat.le_refl _ | omega | (simp; done) | (simp; omega)) _ | refine Ext.trans ?_ (by assumption))))).trans hb1); obtain ⟨⟨c1_0_0, c1_0_1, c1_0_2, c1_0_3, c1_0_4, c1_0_5, c1_0_6⟩, f1_0_0, f1_0_1, f1_0_2, f1_0_3, f1_0_4, f1_0_5, f1_0_6⟩ := run_7 (At.at A1.out 0 rfl); have s1_0 : w.heap.size < w1.heap.size := At.lt A1.out 0 rfl; obtain ⟨⟨c1_1_0, c1_1_1, c1_1_2, c1_1_3, c1_1_4, c1_1_5, c1_1_6⟩, f1_1_0, f1_1_1, f1_1_2, f1_1_3, f1_1_4, f1_1_5, f1_1_6⟩ := run_7 (At.at A1.out 1 rfl); have s1_1 : w.heap.size + 1 < w1.heap.size := At.lt A1.out 1 rfl; have HS_1 := Lib.hid (SeensAt.ext ((SeensAt.ext HV.out (by repeat (first | exact Ext.refl _ | assumption | refine Ext.alloc ?_ _ | refine Ext.drewN ?_ _ | refine ext_grow ?_ _ _ | refine Ext.setCell ?_ (by first | exact Nat.le_refl _ | omega | (simp; done) | (simp; omega)) _ | refine Ext.trans ?_ (by assumption))))) hb1)))
  have zE1 : w.heap.size + 1 < w1.heap.size := At.lt A1.out 1 rfl
  have hG2 : w2.heap[b]? = some (Obj.cells #[.int .i64 t.belt.step, .int .i64 t.belt.slip, .int .i64 t.belt.gate, .int .i64 t.belt.length, .int .i64 t.count, .int .i64 t.next, vp0, .int .i64 (first t.belt), .int .i64 (final t.belt)] 123) := hG
  have hAl : At (w2.alloc (Obj.cells #[.pointer (some ⟨b, 0, none⟩)] 120)) [(w2.heap.size, Obj.cells #[.pointer (some ⟨b, 0, none⟩)] 120), (b, Obj.cells #[.int .i64 t.belt.step, .int .i64 t.belt.slip, .int .i64 t.belt.gate, .int .i64 t.belt.length, .int .i64 t.count, .int .i64 t.next, vp0, .int .i64 (first t.belt), .int .i64 (final t.belt)] 123), (w.heap.size + 1, Obj.cells #[.int .i64 0, .int .i64 0, .int .i64 0, .int .i64 0, .int .i64 0, .int .i64 0, (.slice none 0 0)] 47)] := ⟨one_first _ _, ((Ext.refl w2).alloc _).blk hG2, ((Ext.refl w2).alloc _).blk (At.at A2.out 1 rfl), trivial⟩
  have hbl : b < w2.heap.size := (Array.getElem?_eq_some_iff.1 hG2).1
  have hOl := owns_ext (owns_base ho (show w.heap.size + 2 ≤ w1.heap.size by omega)) ((Ext.refl w2).alloc (Obj.cells #[.pointer (some ⟨b, 0, none⟩)] 120))
  have hEl := E2.out.alloc (Obj.cells #[.pointer (some ⟨b, 0, none⟩)] 120)
  have hst : AdvState w t w2.heap.size b 0 (.slice none 0 0) (w2.alloc (Obj.cells #[.pointer (some ⟨b, 0, none⟩)] 120)) := by
    refine ⟨t, [], vp0, rfl, hEl, hAl, hOl, ⟨rfl, .inl ⟨rfl, rfl⟩⟩, (fun g hg => ?_), (fun g hg => (by cases hg)), (fun g _ hg => (by cases hg))⟩
    have := owns_block ho g hg
    exact ⟨by omega, fun e => hne (by rw [hg, e])⟩
  have HST := Lib.hid hst
  have hB8 : w.heap.size + 1 < w2.heap.size := At.lt A2.out 1 rfl
  have hB9 : w.heap.size + 1 < b := by omega
  have hB7 : b ≠ w2.heap.size := by omega
  clear hst hEl hOl hAl hG2 hG ho hne hge zE1
  obtain ⟨B8, hB8e⟩ : ∃ B8, w2.heap.size = B8 := ⟨_, rfl⟩
  obtain ⟨wl, hwl⟩ : ∃ wl, wl = w2.alloc (Obj.cells #[.pointer (some ⟨b, 0, none⟩)] 120) := ⟨_, rfl⟩
  rw [← hwl] at HST ⊢
  rw [hB8e] at HST hB8 hB7 hbl ⊢
  clear hwl hB8e A1 A2 E1 E2 HS_1 HS_2
  go_step3
  go_wp2
  go_loopw [10] (fun o wr => ∃ k : Nat, k ≤ n.toNat ∧ Hid (AdvState w t B8 b k o wr)) (fun _ wr => leftOf b (t.count + n) wr)
  case atStart => exact ⟨0, by omega, HST⟩
  case round =>
    obtain ⟨k, hk, hS⟩ := hrel
    obtain ⟨T, F, vp, hT, hE, hA, hP, hF, hD1, hD2, hD3⟩ := hS.out
    have hTok : T.ok := by
      have := passN_ok k hok9.out (by omega)
      rw [hT] at this
      exact this
    have hTc : T.count = t.count + k ∧ T.next = t.next ∧ T.belt = t.belt := by
      have := passN_count k t
      rw [hT] at this
      exact this
    have hT := Lib.hid hT
    have hE := Lib.hid hE
    have hA := Lib.hid hA
    have hP := Lib.hid hP
    have hF := Lib.hid hF
    have hD1 := Lib.hid hD1
    have hD2 := Lib.hid hD2
    have hD3 := Lib.hid hD3
    have HTC := Lib.hid hTc
    have hTI := Lib.hid (PartsIn.of_ok hTok)
    have hF50 : F.length ≤ 50 := by
      have h9 := passN_lens (n := k) hok9.out (by omega)
      rw [hT.out] at h9
      simp only at h9
      omega
    have hTl : T.parts.length ≤ 32 := hTok.2.1.2.2.2.2
    have tc0 : 0 ≤ T.count := hTok.2.1.1
    have HTok := Lib.hid hTok
    have tc2 : t.count + k = T.count := hTc.1.symm
    have tc1 : T.count ≤ t.count + n := by omega
    clear hTc hS hTok
    obtain ⟨sa, sc, hvp, -⟩ := SeensAt.form (SlAt.of_owns hP.out : SeensAt wr vp T.parts)
    subst hvp
    obtain ⟨c0_0, f0_0⟩ := run_1 (At.at hA.out 0 rfl)
    obtain ⟨⟨c1_0, c1_1, c1_2, c1_3, c1_4, c1_5, c1_6, c1_7, c1_8⟩, f1_0, f1_1, f1_2, f1_3, f1_4, f1_5, f1_6, f1_7, f1_8⟩ := run_9 (At.at hA.out 1 rfl)
    obtain ⟨⟨c2_0, c2_1, c2_2, c2_3, c2_4, c2_5, c2_6⟩, f2_0, f2_1, f2_2, f2_3, f2_4, f2_5, f2_6⟩ := run_7 (At.at hA.out 2 rfl)
    have s0 : B8 < wr.heap.size := At.lt hA.out 0 rfl
    have s1 : b < wr.heap.size := At.lt hA.out 1 rfl
    by_cases hkn : T.count < t.count + n
    case neg =>
      have hkn2 : T.count = t.count + n := by omega
      have HKN := Lib.hid hkn2
      clear hkn2 tc2
      go_wp2
      refine bodyPost_ret (results_row3 rfl _ _ (w.heap.size + 1) 47 _ (0, 0) _ rfl (store_7 (v0 := .int .i64 T.belt.step) (v1 := .int .i64 T.belt.slip) (v2 := .int .i64 T.belt.gate) (v3 := .int .i64 T.belt.length) (v4 := .int .i64 T.count) (v5 := .int .i64 T.next) (v6 := (.slice sa T.parts.length sc)) (At.at hA.out 2 rfl)).1 Try.underlying47 rfl info47) rfl ?_
      have e1 : passN n.toNat t = (T, F) := by
        rw [← hT.out]; congr 1; have := HTC.out.1; have := HKN.out; omega
      rw [adv_yes hok9.out hn1 hn2 hn3, e1]
      exact ⟨_, _, rfl, owns_base (own_seven hP.out (by omega)) (by omega), owns_base (own_seven hF.out (by omega)) (by omega), (store_7 (v0 := .int .i64 T.belt.step) (v1 := .int .i64 T.belt.slip) (v2 := .int .i64 T.belt.gate) (v3 := .int .i64 T.belt.length) (v4 := .int .i64 T.count) (v5 := .int .i64 T.next) (v6 := (.slice sa T.parts.length sc)) (At.at hA.out 2 rfl)).2.2 w (by omega) hE.out⟩
    case pos =>
      by_cases hl0 : T.parts.length = 0
      case pos =>
        have tl0 : ((T.parts.length : Int) == 0) = true := by simp [hl0]
        have HL0 := Lib.hid hl0
        clear hl0
        go_wp2
        refine bodyPost_ret (results_row3 rfl _ _ (w.heap.size + 1) 47 _ (0, 0) _ rfl (store_7 (v0 := .int .i64 T.belt.step) (v1 := .int .i64 T.belt.slip) (v2 := .int .i64 T.belt.gate) (v3 := .int .i64 T.belt.length) (v4 := .int .i64 (t.count + n)) (v5 := .int .i64 T.next) (v6 := (.slice sa T.parts.length sc)) (At.at (show At _ [(B8, Obj.cells #[.pointer (some ⟨b, 0, none⟩)] 120), (b, Obj.cells #[.int .i64 T.belt.step, .int .i64 T.belt.slip, .int .i64 T.belt.gate, .int .i64 T.belt.length, .int .i64 (t.count + n), .int .i64 T.next, (.slice sa T.parts.length sc), .int .i64 (first T.belt), .int .i64 (final T.belt)] 123), (w.heap.size + 1, Obj.cells #[.int .i64 0, .int .i64 0, .int .i64 0, .int .i64 0, .int .i64 0, .int .i64 0, (.slice none 0 0)] 47)] from ⟨(set_at wr b 4 (.int .i64 (t.count + n)) B8 (by omega)).trans (At.at hA.out 0 rfl), (st_one (At.at hA.out 1 rfl) 4 (.int .i64 (t.count + n))).1, (set_at wr b 4 (.int .i64 (t.count + n)) (w.heap.size + 1) (by omega)).trans (At.at hA.out 2 rfl), trivial⟩) 2 rfl)).1 Try.underlying47 rfl info47) rfl ?_
        have e0 : T.parts = [] := List.eq_nil_of_length_eq_zero HL0.out
        have e1 : passN n.toNat t = (⟨T.belt, t.count + n, T.next, T.parts⟩, F) := by
          have e2 : n.toNat = k + (n.toNat - k) := by omega
          rw [e2, passN_add, hT.out, passN_none _ _ e0, e0]
          simp only [List.append_nil]
          congr 2
          have := HTC.out.1
          omega
        rw [adv_yes hok9.out hn1 hn2 hn3, e1]
        exact ⟨_, _, rfl, owns_base (own_seven (owns_at hP.out fun g hg => set_at wr b 4 _ g (hD1.out g hg).2) (by omega)) (by omega), owns_base (own_seven (owns_at hF.out fun g hg => set_at wr b 4 _ g (hD2.out g hg).2) (by omega)) (by omega), (store_7 (v0 := .int .i64 T.belt.step) (v1 := .int .i64 T.belt.slip) (v2 := .int .i64 T.belt.gate) (v3 := .int .i64 T.belt.length) (v4 := .int .i64 (t.count + n)) (v5 := .int .i64 T.next) (v6 := (.slice sa T.parts.length sc)) (At.at (show At _ [(B8, Obj.cells #[.pointer (some ⟨b, 0, none⟩)] 120), (b, Obj.cells #[.int .i64 T.belt.step, .int .i64 T.belt.slip, .int .i64 T.belt.gate, .int .i64 T.belt.length, .int .i64 (t.count + n), .int .i64 T.next, (.slice sa T.parts.length sc), .int .i64 (first T.belt), .int .i64 (final T.belt)] 123), (w.heap.size + 1, Obj.cells #[.int .i64 0, .int .i64 0, .int .i64 0, .int .i64 0, .int .i64 0, .int .i64 0, (.slice none 0 0)] 47)] from ⟨(set_at wr b 4 (.int .i64 (t.count + n)) B8 (by omega)).trans (At.at hA.out 0 rfl), (st_one (At.at hA.out 1 rfl) 4 (.int .i64 (t.count + n))).1, (set_at wr b 4 (.int .i64 (t.count + n)) (w.heap.size + 1) (by omega)).trans (At.at hA.out 2 rfl), trivial⟩) 2 rfl)).2.2 w (by omega) (hE.out.setCell (by simp; omega) _)⟩
      case neg =>
        have tl0 : ((T.parts.length : Int) == 0) = false := by rw [beq_eq_false_iff_ne]; omega
        have hl0' : 0 < T.parts.length := by omega
        clear hl0
        go_wp2
        have hA1 := Lib.hid (show At (wr.setCell ⟨b, 4, none⟩ (.int .i64 (T.count + 1))) [(B8, Obj.cells #[.pointer (some ⟨b, 0, none⟩)] 120), (b, Obj.cells #[.int .i64 T.belt.step, .int .i64 T.belt.slip, .int .i64 T.belt.gate, .int .i64 T.belt.length, .int .i64 (T.count + 1), .int .i64 T.next, (.slice sa T.parts.length sc), .int .i64 (first T.belt), .int .i64 (final T.belt)] 123), (w.heap.size + 1, Obj.cells #[.int .i64 0, .int .i64 0, .int .i64 0, .int .i64 0, .int .i64 0, .int .i64 0, (.slice none 0 0)] 47)] from ⟨(set_at wr b 4 (.int .i64 (T.count + 1)) B8 (by omega)).trans (At.at hA.out 0 rfl), (st_one (At.at hA.out 1 rfl) 4 (.int .i64 (T.count + 1))).1, (set_at wr b 4 (.int .i64 (T.count + 1)) (w.heap.size + 1) (by omega)).trans (At.at hA.out 2 rfl), trivial⟩)
        have hP1 := Lib.hid (owns_at hP.out fun g hg => set_at wr b 4 (.int .i64 (T.count + 1)) g (hD1.out g hg).2)
        have hF1 := Lib.hid (owns_at hF.out fun g hg => set_at wr b 4 (.int .i64 (T.count + 1)) g (hD2.out g hg).2)
        have hE1 := Lib.hid (hE.out.setCell (p := ⟨b, 4, none⟩) (by simp; omega) (.int .i64 (T.count + 1)))
        have cr4 := Lib.hid c1_4
        clear c0_0 f0_0 c1_0 c1_1 c1_2 c1_3 c1_4 c1_5 c1_6 c1_7 c1_8 f1_0 f1_1 f1_2 f1_3 f1_4 f1_5 f1_6 f1_7 f1_8 c2_0 c2_1 c2_2 c2_3 c2_4 c2_5 c2_6 f2_0 f2_1 f2_2 f2_3 f2_4 f2_5 f2_6 s0 s1
        obtain ⟨wa, hwa⟩ : ∃ wa, wa = wr.setCell ⟨b, 4, none⟩ (.int .i64 (T.count + 1)) := ⟨_, rfl⟩
        rw [← hwa] at hA1 hP1 hF1 hE1 ⊢
        clear hwa
        obtain ⟨vg, vc, hvs, hvg, hvc⟩ := owns_some hP1.out hl0'
        injection hvs with hvs1 _ hvs2
        subst hvs1
        subst hvs2
        obtain ⟨ac0_0, af0_0⟩ := run_1 (At.at hA1.out 0 rfl)
        obtain ⟨⟨ac1_0, ac1_1, ac1_2, ac1_3, ac1_4, ac1_5, ac1_6, ac1_7, ac1_8⟩, af1_0, af1_1, af1_2, af1_3, af1_4, af1_5, af1_6, af1_7, af1_8⟩ := run_9 (At.at hA1.out 1 rfl)
        have as0 : B8 < wa.heap.size := At.lt hA1.out 0 rfl
        have as1 : b < wa.heap.size := At.lt hA1.out 1 rfl
        have hwz := hE1.out.size
        have HW := Lib.hid (win_bd hTI.out.1)
        have K67 := Lib.hid (fun (w' : World) (h : Ext wa w') => w67 ⟨T.belt, (T.count + 1), T.next, T.parts⟩ b (.slice (some ⟨vg, 0, none⟩) T.parts.length sc) (T.count + 1) w' (h.blk (At.at hA1.out 1 rfl)) (SeensAt.ext (SlAt.of_owns hP1.out) h) ⟨hTI.out.1, hTI.out.2.1, hTI.out.2.2⟩)
        obtain ⟨op, hop⟩ : ∃ op, openAt T (T.count + 1) = op := ⟨_, rfl⟩
        rw [show openAt ⟨T.belt, (T.count + 1), T.next, T.parts⟩ (T.count + 1) = op from hop] at K67
        have HOP := Lib.hid hop
        clear hop
        refine wp_region_quiet_below (by kernel_rfl) (by kernel_rfl) ?_
        repeat (go_big_quiet_step ((go_at_call 67; with_reducible exact Calls.ext_of (K67.out _ (Ext.grow _ _ _)))))
        refine wpQuiet_nil ?_
        intro w2 hw'
        obtain ⟨pq, hw''⟩ := hw'
        have hb2 := ext_of_regrown hw''
        clear hw'' pq
        have hE2 := Lib.hid (hE1.out.trans hb2)
        have hA2 := Lib.hid (At.ext hb2 hA1.out)
        have hP2 := Lib.hid (owns_ext hP1.out hb2)
        have hF2 := Lib.hid (owns_ext hF1.out hb2)
        clear hb2 hA1 hP1 hF1 hE1 K67 hwz
        clear ac0_0 af0_0 ac1_0 ac1_1 ac1_2 ac1_3 ac1_4 ac1_5 ac1_6 ac1_7 ac1_8 af1_0 af1_1 af1_2 af1_3 af1_4 af1_5 af1_6 af1_7 af1_8 as0 as1
        have hD1x := hD1.out vg rfl
        cases op
        case false =>
          obtain ⟨ph, hph⟩ : ∃ ph, T.parts.map (hitAt T (T.count + 1)) = ph := ⟨_, rfl⟩
          have hpe : T.parts = ph := by rw [← hph]; exact (hit_none HOP.out).symm
          obtain ⟨wc, hwc⟩ : ∃ wc, w2 = wc := ⟨_, rfl⟩
          subst hwc
          have HPE := Lib.hid hph.symm
          have hphl : ph.length = T.parts.length := by rw [← hpe]
          have HPH := Lib.hid (show ∀ x ∈ ph, 0 ≤ x.at_ ∧ x.at_ ≤ 1099511627776 from fun x hx => hTI.out.2.2 x (by rw [hpe]; exact hx))
          have hPc := Lib.hid (show w2.ownsRow (w.heap.size + 2) 63 4 (.slice (some ⟨vg, 0, none⟩) T.parts.length sc) ph.length (seens ph) by rw [← hpe]; exact hP2.out)
          rw [hphl] at hPc
          have hEc := hE2
          have hAc := hA2
          have hFc := hF2
          have HPL := Lib.hid hphl
          clear hph hpe hP2 hE2 hA2 hF2 hphl
          obtain ⟨ec0_0, ef0_0⟩ := run_1 (At.at hAc.out 0 rfl)
          obtain ⟨⟨ec1_0, ec1_1, ec1_2, ec1_3, ec1_4, ec1_5, ec1_6, ec1_7, ec1_8⟩, ef1_0, ef1_1, ef1_2, ef1_3, ef1_4, ef1_5, ef1_6, ef1_7, ef1_8⟩ := run_9 (At.at hAc.out 1 rfl)
          have es0 : B8 < w2.heap.size := At.lt hAc.out 0 rfl
          have es1 : b < w2.heap.size := At.lt hAc.out 1 rfl
          have hbE := hEc.out.size
          have K71 := Lib.hid (fun (x : Seen) (hx : x ∈ ph) (w' : World) (h : Ext w2 w') => w71 b B8 x (T.count + 1) (final T.belt) w' (h.get ec1_4) (h.get ec1_8) (h.get ec0_0) (HPH.out x hx).1 (HPH.out x hx).2 HW.out.2.1 HW.out.2.2)
          have k70 := (w70 ph (.slice (some ⟨vg, 0, none⟩) T.parts.length sc) (fun x => decide (x.at_ + final T.belt = (T.count + 1))) 71 #[.pointer (some ⟨B8, 0, none⟩)] w2 (show SlAt w2 4 (.slice (some ⟨vg, 0, none⟩) T.parts.length sc) ph.length (seens ph) by rw [HPL.out]; exact SlAt.of_owns hPc.out) (by have := HPL.out; omega) (fun args w => by first | rfl | kernel_rfl) (fun x hx w' h => K71.out x hx w' h))
          unfold OwnSplit at k70
          obtain ⟨gone, hgo⟩ : ∃ gone, ph.filter (fun x => decide (x.at_ + final T.belt = (T.count + 1))) = gone := ⟨_, rfl⟩
          obtain ⟨left, hle⟩ : ∃ left, ph.filter (fun x => !decide (x.at_ + final T.belt = (T.count + 1))) = left := ⟨_, rfl⟩
          rw [hgo, hle] at k70
          have K70 := Lib.hid k70
          have HGL := Lib.hid (And.intro hgo hle)
          clear k70 hgo hle
          go_wp2_with (go_at_call 70; (with_reducible refine K70.out.mono ?_); rintro E w5 ⟨v1, v2, rfl, ho1, ho2, hb5⟩; obtain ⟨-, sa1, sc1, hv1, -⟩ := SlAt.of_owns ho1; subst hv1; obtain ⟨-, sa2, sc2, hv2, -⟩ := SlAt.of_owns ho2; subst hv2)
          obtain ⟨hgo, hle⟩ := HGL.out
          have hE5 := Lib.hid (hEc.out.trans hb5)
          have hA5 := Lib.hid (At.ext hb5 hAc.out)
          have hF5 := Lib.hid (owns_ext hFc.out hb5)
          have hgl : gone.length ≤ 32 := by rw [← hgo]; exact Nat.le_trans (List.length_filter_le _ _) (by have := HPL.out; omega)
          have HGO := Lib.hid (show fates1 T = gone.map fateOf by rw [← hgo, HPE.out]; rfl)
          have HLE := Lib.hid (show (pass1 T).parts = left by rw [← hle, HPE.out]; rfl)
          have hZ1 : ∀ g, (Value.slice sa1 gone.length sc1).ownBlock = some g → w2.heap.size ≤ g := fun g h => (owns_block ho1 g h).1
          have hZ2 : ∀ g, (Value.slice sa2 left.length sc2).ownBlock = some g → w2.heap.size ≤ g := fun g h => (owns_block ho2 g h).1
          have HZ2 := Lib.hid (show ∀ g, (Value.slice sa2 left.length sc2).ownBlock = some g → g ≠ B8 ∧ g ≠ b from fun g h => by have := hZ2 g h; omega)
          have HAP1 := Lib.hid (show Apart2 (.slice sa1 gone.length sc1) u10 from fun g h e => by have := hZ1 g h; have := (owns_block hFc.out g e).2; omega)
          have HAP2 := Lib.hid (show Apart2 (Value.slice sa2 left.length sc2) u10 from fun g h e => by have := hZ2 g h; have := (owns_block hFc.out g e).2; omega)
          have hO1 := Lib.hid (owns_base ho1 (show w.heap.size + 2 ≤ w2.heap.size by omega))
          have hO2 := Lib.hid (owns_base ho2 (show w.heap.size + 2 ≤ w2.heap.size by omega))
          clear ho1 ho2 hgo hle hZ1 hZ2 hb5 K70 K71
          clear ec0_0 ef0_0 ec1_0 ec1_1 ec1_2 ec1_3 ec1_4 ec1_5 ec1_6 ec1_7 ec1_8 ef1_0 ef1_1 ef1_2 ef1_3 ef1_4 ef1_5 ef1_6 ef1_7 ef1_8 es0 es1
          go_loopw [10, 121] (fun o i wl => ∃ m : Nat, m ≤ gone.length ∧ i = .int .i64 (m : Int) ∧ Hid (Ext w wl) ∧ Hid (At wl [(B8, Obj.cells #[.pointer (some ⟨b, 0, none⟩)] 120), (b, Obj.cells #[.int .i64 T.belt.step, .int .i64 T.belt.slip, .int .i64 T.belt.gate, .int .i64 T.belt.length, .int .i64 (T.count + 1), .int .i64 T.next, (.slice (some ⟨vg, 0, none⟩) T.parts.length sc), .int .i64 (first T.belt), .int .i64 (final T.belt)] 123), (w.heap.size + 1, Obj.cells #[.int .i64 0, .int .i64 0, .int .i64 0, .int .i64 0, .int .i64 0, .int .i64 0, (.slice none 0 0)] 47)]) ∧ Hid (wl.ownsRow (w.heap.size + 2) 93 3 o (F ++ (gone.take m).map fateOf).length (fatesL (F ++ (gone.take m).map fateOf))) ∧ Hid (wl.ownsRow (w.heap.size + 2) 63 4 (.slice sa1 gone.length sc1) gone.length (seens gone)) ∧ Hid (wl.ownsRow (w.heap.size + 2) 63 4 (Value.slice sa2 left.length sc2) left.length (seens left)) ∧ Hid (∀ g, o.ownBlock = some g → g ≠ B8 ∧ g ≠ b) ∧ Hid (Apart2 (.slice sa1 gone.length sc1) o) ∧ Hid (Apart2 (Value.slice sa2 left.length sc2) o)) (fun _ i _ => gone.length - (intOf i).toNat)
          case atStart => exact ⟨0, by omega, rfl, hE5, hA5, Lib.hid (by simpa using hF5.out), hO1, hO2, hD2, HAP1, HAP2⟩
          case round =>
            obtain ⟨m, hm, rfl, hEl, hAl, hFl, hO1l, hO2l, hDl, hX1, hX2⟩ := hrel
            by_cases hmg : m < gone.length
            · obtain ⟨xb, xo, hxv, x0, x1, x2, x3⟩ : ∃ xb xo, sa1 = some ⟨xb, xo, none⟩ ∧ _ := by
                obtain ⟨a', c', e, -, hc⟩ := SeensAt.form (SlAt.of_owns hO1l.out : SeensAt wr (.slice sa1 gone.length sc1) gone)
                injection e with e1 e2 e3
                subst e1
                obtain ⟨q1, q2, q3, q4⟩ := hc m hmg
                exact ⟨q1, q2, q3, q4⟩
              have hxv := Lib.hid hxv
              obtain ⟨x, hx⟩ : ∃ x, gone.getD m seen0 = x := ⟨_, rfl⟩
              rw [hx] at x0 x1 x2 x3
              have htk := take_get hmg
              rw [hx] at htk
              have HTK := Lib.hid htk
              have zx := World.block_lt_of_cell? _ _ x0
              simp only at zx
              clear hx htk
              have hFb := hFl.out
              have hlen : (F ++ (gone.take m).map fateOf).length ≤ 100000000 := by
                simp only [List.length_append, List.length_map, List.length_take]; omega
              obtain ⟨Fm, hFm⟩ : ∃ Fm, F ++ (gone.take m).map fateOf = Fm := ⟨_, rfl⟩
              rw [hFm] at hFb hlen
              have HFm := Lib.hid hFm
              have HFb := Lib.hid hFb
              have hzz := hEl.out.size
              clear hFb hFm hFl
              have hes := hxv.out
              subst hes
              go_wp2_with (first | (at_builtin; go_loud (refine wpList_append_at rfl _ _ 69 rfl (w.heap.size + 2) 93 i1 (.agg #[.int .i64 0, .int .u8 0, .bool false]) 3 16 Try.underlying69 hj hy0 hy1 hy2 rfl (by omega) u10 Fm.length (fatesL Fm) rfl (owns_ext HFb.out (((Ext.refl _).alloc _).alloc _)) _ 1 (fatesL [fateOf x]) rfl (SlAt.lit_at (wr.alloc (.cells #[.int .i64 x.id, .int .i64 x.at_, .int .u8 x.verdict, .bool x.hit] 63)) (wr.heap.size + 1) (by rw [size_one]) [.int .i64 x.id, .int .u8 x.verdict, .bool x.hit] 93 3 rfl) (fates_one [fateOf x]) (by unfold maxLen; omega) (by omega) (by have := (owns_block HFb.out); simp; omega) ?_); intro v' w' ho hg hat))
              have hbk : ∀ g, u10.ownBlock = some g → w.heap.size + 2 ≤ g ∧ g < wr.heap.size := fun g h => owns_block HFb.out g h
              have hgA : ∀ k, k < wr.heap.size → u10.ownBlock ≠ some k → w'.heap[k]? = wr.heap[k]? := fun k h1 h2 => (hg.block k (by simp; omega) (fun e => h2 e.symm)).trans ((blk_past _ _ (by simp; omega)).trans (blk_past _ _ h1))
              go_roundw
              case rel =>
                refine ⟨m + 1, by omega, by go_num, Lib.hid (((hEl.out.alloc _).alloc _).grown hg (fun g hk => by have := (hbk g hk).1; omega)), Lib.hid ?_, Lib.hid ?_, Lib.hid ?_, Lib.hid ?_, Lib.hid ?_, Lib.hid ?_, Lib.hid ?_⟩
                · exact ⟨(hgA B8 (At.lt hAl.out 0 rfl) fun e => (hDl.out B8 e).1 rfl).trans (At.at hAl.out 0 rfl), (hgA b (At.lt hAl.out 1 rfl) fun e => (hDl.out b e).2 rfl).trans (At.at hAl.out 1 rfl), (hgA (w.heap.size + 1) (At.lt hAl.out 2 rfl) fun e => by have := (hbk _ e).1; omega).trans (At.at hAl.out 2 rfl), trivial⟩
                · rw [HTK.out, List.map_append, ← List.append_assoc, HFm.out]
                  simp only [List.map_cons, List.map_nil, List.length_append, List.length_singleton]
                  rw [fatesL_append]
                  exact ho
                · exact owns_at hO1l.out fun g h => hgA g (owns_block hO1l.out g h).2 (hX1.out g h)
                · exact owns_at hO2l.out fun g h => hgA g (owns_block hO2l.out g h).2 (hX2.out g h)
                · intro g h
                  rcases hat with hat | hat
                  · exact hDl.out g (hat ▸ h)
                  · rw [hat] at h
                    injection h with h
                    have h1 := At.lt hAl.out 0 rfl
                    have h2 := At.lt hAl.out 1 rfl
                    simp at h
                    omega
                · intro g h e
                  rcases hat with hat | hat
                  · rw [hat] at e; exact hX1.out g h e
                  · rw [hat] at e
                    injection e with e
                    have := (owns_block hO1l.out g h).2
                    simp at e; omega
                · intro g h e
                  rcases hat with hat | hat
                  · rw [hat] at e; exact hX2.out g h e
                  · rw [hat] at e
                    injection e with e
                    have := (owns_block hO2l.out g h).2
                    simp at e; omega
              case measure => simp [intOf]; omega
            · obtain rfl : m = gone.length := by omega
              obtain ⟨lc0_0, lf0_0⟩ := run_1 (At.at hAl.out 0 rfl)
              obtain ⟨⟨lc1_0, lc1_1, lc1_2, lc1_3, lc1_4, lc1_5, lc1_6, lc1_7, lc1_8⟩, lf1_0, lf1_1, lf1_2, lf1_3, lf1_4, lf1_5, lf1_6, lf1_7, lf1_8⟩ := run_9 (At.at hAl.out 1 rfl)
              have ls0 : B8 < wr.heap.size := At.lt hAl.out 0 rfl
              have ls1 : b < wr.heap.size := At.lt hAl.out 1 rfl
              have hFb := hFl.out
              rw [List.take_length] at hFb
              have HFb := Lib.hid hFb
              clear hFb hFl
              go_wp2
              go_roundw
              case rel =>
                refine ⟨k + 1, by omega, Lib.hid ⟨pass1 T, F ++ fates1 T, (Value.slice sa2 left.length sc2), ?_, hEl.out.setCell (by simp; omega) _, ?_, ?_, ?_, ?_, ?_, ?_⟩⟩
                · rw [passN_add, hT.out]
                  simp [passN]
                · exact ⟨(set_at wr b 6 (Value.slice sa2 left.length sc2) B8 (by omega)).trans (At.at hAl.out 0 rfl), (st_one (At.at hAl.out 1 rfl) 6 (Value.slice sa2 left.length sc2)).1, (set_at wr b 6 (Value.slice sa2 left.length sc2) (w.heap.size + 1) (by omega)).trans (At.at hAl.out 2 rfl), trivial⟩
                · rw [HLE.out]
                  exact owns_at hO2l.out fun g h => set_at wr b 6 (Value.slice sa2 left.length sc2) g (fun e => (HZ2.out g h).2 e)
                · rw [HGO.out]
                  exact owns_at HFb.out fun g h => set_at wr b 6 (Value.slice sa2 left.length sc2) g (fun e => (hDl.out g h).2 e)
                · exact fun g h => HZ2.out g h
                · exact fun g h => hDl.out g h
                · exact hX2.out
              case measure =>
                rw [leftOf_eq (c := T.count) cr4.out]
                rw [leftOf_eq (c := T.count + 1) (by simp [World.cell?, World.setCell, Array.getElem?_modify, At.at hAl.out 1 rfl])]
                omega
        case true =>
          obtain ⟨pc0_0, pf0_0⟩ := run_1 (At.at hA2.out 0 rfl)
          obtain ⟨⟨pc1_0, pc1_1, pc1_2, pc1_3, pc1_4, pc1_5, pc1_6, pc1_7, pc1_8⟩, pf1_0, pf1_1, pf1_2, pf1_3, pf1_4, pf1_5, pf1_6, pf1_7, pf1_8⟩ := run_9 (At.at hA2.out 1 rfl)
          have ps0 : B8 < w2.heap.size := At.lt hA2.out 0 rfl
          have ps1 : b < w2.heap.size := At.lt hA2.out 1 rfl
          have hD4 : ∀ g, u10.ownBlock = some g → g ≠ vg := fun g h e => hD3.out vg rfl (by rw [h, e])
          have HD4 := Lib.hid hD4
          have hvgl : vg < w2.heap.size := (owns_block hP2.out vg rfl).2
          have hwz := hE2.out.size
          go_wp2
          go_loopw [83] (fun i wl => ∃ m : Nat, m ≤ T.parts.length ∧ i = .int .i64 (m : Int) ∧ Hid (Ext w wl) ∧ Hid (At wl [(B8, Obj.cells #[.pointer (some ⟨b, 0, none⟩)] 120), (b, Obj.cells #[.int .i64 T.belt.step, .int .i64 T.belt.slip, .int .i64 T.belt.gate, .int .i64 T.belt.length, .int .i64 (T.count + 1), .int .i64 T.next, (.slice (some ⟨vg, 0, none⟩) T.parts.length sc), .int .i64 (first T.belt), .int .i64 (final T.belt)] 123), (w.heap.size + 1, Obj.cells #[.int .i64 0, .int .i64 0, .int .i64 0, .int .i64 0, .int .i64 0, .int .i64 0, (.slice none 0 0)] 47)]) ∧ Hid (wl.ownsRow (w.heap.size + 2) 63 4 (.slice (some ⟨vg, 0, none⟩) T.parts.length sc) T.parts.length (seens (mixed T (T.count + 1) m))) ∧ Hid (wl.ownsRow (w.heap.size + 2) 93 3 u10 F.length (fatesL F))) (fun i _ => T.parts.length - (intOf i).toNat)
          case atStart => exact ⟨0, by omega, rfl, hE2, hA2, hP2, hF2⟩
          case round =>
            obtain ⟨m, hm, rfl, hEl, hAl, hPl, hFl⟩ := hrel
            by_cases hml : m < T.parts.length
            · have y0 := (hPl.out.cellAt (m * 4 + 0) (by omega)).trans (seens_get (mixed T (T.count + 1) m) m 0 (by rw [mixed_len]; exact hml) (by omega))
              have y1 := (hPl.out.cellAt (m * 4 + 1) (by omega)).trans (seens_get (mixed T (T.count + 1) m) m 1 (by rw [mixed_len]; exact hml) (by omega))
              have y2 := (hPl.out.cellAt (m * 4 + 2) (by omega)).trans (seens_get (mixed T (T.count + 1) m) m 2 (by rw [mixed_len]; exact hml) (by omega))
              have y3 := (hPl.out.cellAt (m * 4 + 3) (by omega)).trans (seens_get (mixed T (T.count + 1) m) m 3 (by rw [mixed_len]; exact hml) (by omega))
              have HX3 := Lib.hid (seens_get (mixed T (T.count + 1) m) m 3 (by rw [mixed_len]; exact hml) (by omega))
              rw [mixed_get T (T.count + 1) hml] at y0 y1 y2 y3
              have hmem : T.parts.getD m seen0 ∈ T.parts := by rw [getD_get hml]; exact List.getElem_mem hml
              have HXB := Lib.hid (hTI.out.2.2 _ hmem)
              obtain ⟨x, hx⟩ : ∃ x, T.parts.getD m seen0 = x := ⟨_, rfl⟩
              rw [hx] at y0 y1 y2 y3 HXB
              have HXX := Lib.hid hx
              clear hx hmem
              obtain ⟨xi, xa, xv, xh⟩ := x
              have x0 : wr.cell? ⟨vg, m * 4, none⟩ = some (.int .i64 xi) := y0
              have x1 : wr.cell? ⟨vg, m * 4 + 1, none⟩ = some (.int .i64 xa) := y1
              have x2 : wr.cell? ⟨vg, m * 4 + 2, none⟩ = some (.int .u8 xv) := y2
              have x3 : wr.cell? ⟨vg, m * 4 + 3, none⟩ = some (.bool xh) := y3
              clear y0 y1 y2 y3
              have hvgr : vg < wr.heap.size := World.block_lt_of_cell? _ _ x0
              have hvgw : w.heap.size + 2 ≤ vg := (owns_block hPl.out vg rfl).1
              have hbb := HXB.out
              have hb1 := hbb.1
              have hb2 := hbb.2
              simp only at hb1 hb2
              clear hbb
              cases xh
              · have HXV := Lib.hid (rfl : false = false)
                have hAb := Lib.hid (At.alloc hAl.out (Obj.cells #[.int .i64 xi, .int .i64 xa, .int .u8 xv, .bool false] 63))
                have hRb := Lib.hid (owns_ext hPl.out ((Ext.refl wr).alloc (Obj.cells #[.int .i64 xi, .int .i64 xa, .int .u8 xv, .bool false] 63)))
                have hFb := Lib.hid (owns_ext hFl.out ((Ext.refl wr).alloc (Obj.cells #[.int .i64 xi, .int .i64 xa, .int .u8 xv, .bool false] 63)))
                have hEb := Lib.hid (hEl.out.alloc (Obj.cells #[.int .i64 xi, .int .i64 xa, .int .u8 xv, .bool false] 63))
                have hbx : (wr.alloc (Obj.cells #[.int .i64 xi, .int .i64 xa, .int .u8 xv, .bool false] 63)).heap[wr.heap.size]? = some (Obj.cells #[.int .i64 xi, .int .i64 xa, .int .u8 xv, .bool false] 63) := one_first _ _
                have e0 := cell_of_at hbx 0 rfl
                have e1 := cell_of_at hbx 1 rfl
                have e2 := cell_of_at hbx 2 rfl
                have e3 := cell_of_at hbx 3 rfl
                have e4 := cell_of_at (At.at hAb.out 0 rfl) 0 rfl
                have e5 := cell_of_at (At.at hAb.out 1 rfl) 4 rfl
                have e6 := cell_of_at (At.at hAb.out 1 rfl) 6 rfl
                have zl0 : B8 < wr.heap.size := At.lt hAl.out 0 rfl
                have zl1 : b < wr.heap.size := At.lt hAl.out 1 rfl
                clear hbx
                have k69 := fun (w' : World) (h : Ext (wr.alloc (Obj.cells #[.int .i64 xi, .int .i64 xa, .int .u8 xv, .bool false] 63)) w') => w69 b ⟨xi, xa, xv, false⟩ (T.count + 1) (first T.belt) (final T.belt) w' (h.get (cell_of_at (At.at hAb.out 1 rfl) 7 rfl)) (h.get (cell_of_at (At.at hAb.out 1 rfl) 8 rfl)) HXB.out.1 HXB.out.2 HW.out.1.1 HW.out.1.2 HW.out.2.1 HW.out.2.2
                obtain ⟨hr, hhr⟩ : ∃ hr, inWin (first T.belt) (final T.belt) (T.count + 1) ⟨xi, xa, xv, false⟩ = hr := ⟨_, rfl⟩
                rw [hhr] at k69
                have K69 := Lib.hid k69
                have HHR := Lib.hid hhr
                clear k69 hhr
                go_wp2
                refine RG.region_tail (aq := ?aqn) 20 (by kernel_rfl) (by kernel_rfl) (by kernel_rfl) (by kernel_rfl) ?_ ?_
                rotate_left
                · intro wq hEq
                  have q0 := hEq.get e0
                  have q1 := hEq.get e1
                  have q2 := hEq.get e2
                  have q3 := hEq.get e3
                  have q4 := hEq.get e4
                  have q5 := hEq.get e5
                  have q6 := hEq.get e6
                  have zq := hEq.size
                  have zq2 : wr.heap.size < wq.heap.size := by have h9 := hEq.size; rw [size_one] at h9; omega
                  have zq1 : vg < wq.heap.size := by omega
                  have zq3 : B8 < wq.heap.size := by omega
                  have zq4 : b < wq.heap.size := by omega
                  simp only [List.take_succ_cons, List.take_zero]
                  repeat (go_big_quiet_step ((first | (go_at_call 69; with_reducible exact Calls.ext_of (K69.out _ (hEq.trans (Ext.grow _ _ _)))))))
                  refine wpQuiet_nil ?_
                  exact rfl
                · intro wt hEt
                  simp only [List.drop_succ_cons, List.drop_zero]
                  have hAt := Lib.hid (At.ext hEt hAb.out)
                  have hRt := Lib.hid (owns_ext hRb.out hEt)
                  have hFt := Lib.hid (owns_ext hFb.out hEt)
                  have hE9 := Lib.hid (hEb.out.trans hEt)
                  have q3 := (hRt.out.cellAt (m * 4 + 3) (by omega)).trans HX3.out
                  have q4 := hRt.out.frozenAt (m * 4 + 3)
                  clear hEt e0 e1 e2 e3 e4 e5 e6
                  go_wp2
                  go_roundw
                  case rel =>
                    refine ⟨m + 1, by omega, by go_num, Lib.hid (hE9.out.setCell (p := ⟨vg, m * 4 + 3, none⟩) (by simp; omega) _), Lib.hid ?_, Lib.hid ?_, Lib.hid (owns_at hFt.out fun g h => set_at wt vg (m * 4 + 3) (.bool hr) g (fun e => HD4.out g h e))⟩
                    · exact ⟨(set_at wt vg (m * 4 + 3) (.bool hr) B8 (fun e => hD1x.1 e.symm)).trans (At.at hAt.out 0 rfl), (set_at wt vg (m * 4 + 3) (.bool hr) b (fun e => hD1x.2 e.symm)).trans (At.at hAt.out 1 rfl), (set_at wt vg (m * 4 + 3) (.bool hr) (w.heap.size + 1) (by omega)).trans (At.at hAt.out 2 rfl), trivial⟩
                    · have h := (hRt.out.stored (m * 4 + 3) (.bool hr)).1
                      rw [seens_hit T (T.count + 1) m hml (h := hr) (by rw [HXX.out]; show (false || (openAt T (T.count + 1) && here T (T.count + 1) _)) = hr; rw [HOP.out, ← HHR.out]; rfl)]
                      exact h
                  case measure => simp [intOf]; omega
              · have HXV := Lib.hid (rfl : true = true)
                have hAb := Lib.hid (At.alloc hAl.out (Obj.cells #[.int .i64 xi, .int .i64 xa, .int .u8 xv, .bool true] 63))
                have hRb := Lib.hid (owns_ext hPl.out ((Ext.refl wr).alloc (Obj.cells #[.int .i64 xi, .int .i64 xa, .int .u8 xv, .bool true] 63)))
                have hFb := Lib.hid (owns_ext hFl.out ((Ext.refl wr).alloc (Obj.cells #[.int .i64 xi, .int .i64 xa, .int .u8 xv, .bool true] 63)))
                have hEb := Lib.hid (hEl.out.alloc (Obj.cells #[.int .i64 xi, .int .i64 xa, .int .u8 xv, .bool true] 63))
                have hbx : (wr.alloc (Obj.cells #[.int .i64 xi, .int .i64 xa, .int .u8 xv, .bool true] 63)).heap[wr.heap.size]? = some (Obj.cells #[.int .i64 xi, .int .i64 xa, .int .u8 xv, .bool true] 63) := one_first _ _
                have e0 := cell_of_at hbx 0 rfl
                have e1 := cell_of_at hbx 1 rfl
                have e2 := cell_of_at hbx 2 rfl
                have e3 := cell_of_at hbx 3 rfl
                have e4 := cell_of_at (At.at hAb.out 0 rfl) 0 rfl
                have e5 := cell_of_at (At.at hAb.out 1 rfl) 4 rfl
                have e6 := cell_of_at (At.at hAb.out 1 rfl) 6 rfl
                have zl0 : B8 < wr.heap.size := At.lt hAl.out 0 rfl
                have zl1 : b < wr.heap.size := At.lt hAl.out 1 rfl
                clear hbx
                go_wp2
                refine RG.region_tail (aq := ?aqh) 20 (by kernel_rfl) (by kernel_rfl) (by kernel_rfl) (by kernel_rfl) ?_ ?_
                rotate_left
                · intro wq hEq
                  have q0 := hEq.get e0
                  have q1 := hEq.get e1
                  have q2 := hEq.get e2
                  have q3 := hEq.get e3
                  have q4 := hEq.get e4
                  have q5 := hEq.get e5
                  have q6 := hEq.get e6
                  have zq := hEq.size
                  have zq2 : wr.heap.size < wq.heap.size := by have h9 := hEq.size; rw [size_one] at h9; omega
                  have zq1 : vg < wq.heap.size := by omega
                  have zq3 : B8 < wq.heap.size := by omega
                  have zq4 : b < wq.heap.size := by omega
                  simp only [List.take_succ_cons, List.take_zero]
                  repeat (go_big_quiet_step (fail))
                  refine wpQuiet_nil ?_
                  exact rfl
                · intro wt hEt
                  simp only [List.drop_succ_cons, List.drop_zero]
                  have hAt := Lib.hid (At.ext hEt hAb.out)
                  have hRt := Lib.hid (owns_ext hRb.out hEt)
                  have hFt := Lib.hid (owns_ext hFb.out hEt)
                  have hE9 := Lib.hid (hEb.out.trans hEt)
                  have q3 := (hRt.out.cellAt (m * 4 + 3) (by omega)).trans HX3.out
                  have q4 := hRt.out.frozenAt (m * 4 + 3)
                  clear hEt e0 e1 e2 e3 e4 e5 e6
                  go_wp2
                  go_roundw
                  case rel =>
                    refine ⟨m + 1, by omega, by go_num, Lib.hid (hE9.out.setCell (p := ⟨vg, m * 4 + 3, none⟩) (by simp; omega) _), Lib.hid ?_, Lib.hid ?_, Lib.hid (owns_at hFt.out fun g h => set_at wt vg (m * 4 + 3) (.bool true) g (fun e => HD4.out g h e))⟩
                    · exact ⟨(set_at wt vg (m * 4 + 3) (.bool true) B8 (fun e => hD1x.1 e.symm)).trans (At.at hAt.out 0 rfl), (set_at wt vg (m * 4 + 3) (.bool true) b (fun e => hD1x.2 e.symm)).trans (At.at hAt.out 1 rfl), (set_at wt vg (m * 4 + 3) (.bool true) (w.heap.size + 1) (by omega)).trans (At.at hAt.out 2 rfl), trivial⟩
                    · have h := (hRt.out.stored (m * 4 + 3) (.bool true)).1
                      rw [seens_hit T (T.count + 1) m hml (h := true) (by rw [HXX.out]; simp [hitAt, HXV.out])]
                      exact h
                  case measure => simp [intOf]; omega
            · obtain rfl : m = T.parts.length := by omega
              obtain ⟨ph, hph⟩ : ∃ ph, T.parts.map (hitAt T (T.count + 1)) = ph := ⟨_, rfl⟩
              have hpe : mixed T (T.count + 1) T.parts.length = ph := by rw [← hph]; simp [mixed]
              have HPE := Lib.hid hph.symm
              have hphl : ph.length = T.parts.length := by rw [← hph]; simp
              have HPH := Lib.hid (show ∀ x ∈ ph, 0 ≤ x.at_ ∧ x.at_ ≤ 1099511627776 from fun x hx => by
                rw [← hph] at hx
                obtain ⟨y, hy, rfl⟩ := List.mem_map.1 hx
                exact hTI.out.2.2 y hy)
              have hPc := Lib.hid (show wr.ownsRow (w.heap.size + 2) 63 4 (.slice (some ⟨vg, 0, none⟩) T.parts.length sc) T.parts.length (seens ph) by rw [← hpe]; exact hPl.out)
              obtain ⟨wc, hwc⟩ : ∃ wc, wr = wc := ⟨_, rfl⟩
              subst hwc
              have hEc := hEl
              have hAc := hAl
              have hFc := hFl
              have HPL := Lib.hid hphl
              clear hph hpe hPl hEl hAl hFl hphl hP2 hE2 hA2 hF2 hvgl hwz hD4
              clear pc0_0 pf0_0 pc1_0 pc1_1 pc1_2 pc1_3 pc1_4 pc1_5 pc1_6 pc1_7 pc1_8 pf1_0 pf1_1 pf1_2 pf1_3 pf1_4 pf1_5 pf1_6 pf1_7 pf1_8 ps0 ps1
              obtain ⟨ec0_0, ef0_0⟩ := run_1 (At.at hAc.out 0 rfl)
              obtain ⟨⟨ec1_0, ec1_1, ec1_2, ec1_3, ec1_4, ec1_5, ec1_6, ec1_7, ec1_8⟩, ef1_0, ef1_1, ef1_2, ef1_3, ef1_4, ef1_5, ef1_6, ef1_7, ef1_8⟩ := run_9 (At.at hAc.out 1 rfl)
              have es0 : B8 < wr.heap.size := At.lt hAc.out 0 rfl
              have es1 : b < wr.heap.size := At.lt hAc.out 1 rfl
              have hbE := hEc.out.size
              have K71 := Lib.hid (fun (x : Seen) (hx : x ∈ ph) (w' : World) (h : Ext wr w') => w71 b B8 x (T.count + 1) (final T.belt) w' (h.get ec1_4) (h.get ec1_8) (h.get ec0_0) (HPH.out x hx).1 (HPH.out x hx).2 HW.out.2.1 HW.out.2.2)
              have k70 := (w70 ph (.slice (some ⟨vg, 0, none⟩) T.parts.length sc) (fun x => decide (x.at_ + final T.belt = (T.count + 1))) 71 #[.pointer (some ⟨B8, 0, none⟩)] wr (show SlAt wr 4 (.slice (some ⟨vg, 0, none⟩) T.parts.length sc) ph.length (seens ph) by rw [HPL.out]; exact SlAt.of_owns hPc.out) (by have := HPL.out; omega) (fun args w => by first | rfl | kernel_rfl) (fun x hx w' h => K71.out x hx w' h))
              unfold OwnSplit at k70
              obtain ⟨gone, hgo⟩ : ∃ gone, ph.filter (fun x => decide (x.at_ + final T.belt = (T.count + 1))) = gone := ⟨_, rfl⟩
              obtain ⟨left, hle⟩ : ∃ left, ph.filter (fun x => !decide (x.at_ + final T.belt = (T.count + 1))) = left := ⟨_, rfl⟩
              rw [hgo, hle] at k70
              have K70 := Lib.hid k70
              have HGL := Lib.hid (And.intro hgo hle)
              clear k70 hgo hle
              go_wp2_with (go_at_call 70; (with_reducible refine K70.out.mono ?_); rintro E w5 ⟨v1, v2, rfl, ho1, ho2, hb5⟩; obtain ⟨-, sa1, sc1, hv1, -⟩ := SlAt.of_owns ho1; subst hv1; obtain ⟨-, sa2, sc2, hv2, -⟩ := SlAt.of_owns ho2; subst hv2)
              obtain ⟨hgo, hle⟩ := HGL.out
              have hE5 := Lib.hid (hEc.out.trans hb5)
              have hA5 := Lib.hid (At.ext hb5 hAc.out)
              have hF5 := Lib.hid (owns_ext hFc.out hb5)
              have hgl : gone.length ≤ 32 := by rw [← hgo]; exact Nat.le_trans (List.length_filter_le _ _) (by have := HPL.out; omega)
              have HGO := Lib.hid (show fates1 T = gone.map fateOf by rw [← hgo, HPE.out]; rfl)
              have HLE := Lib.hid (show (pass1 T).parts = left by rw [← hle, HPE.out]; rfl)
              have hZ1 : ∀ g, (Value.slice sa1 gone.length sc1).ownBlock = some g → wr.heap.size ≤ g := fun g h => (owns_block ho1 g h).1
              have hZ2 : ∀ g, (Value.slice sa2 left.length sc2).ownBlock = some g → wr.heap.size ≤ g := fun g h => (owns_block ho2 g h).1
              have HZ2 := Lib.hid (show ∀ g, (Value.slice sa2 left.length sc2).ownBlock = some g → g ≠ B8 ∧ g ≠ b from fun g h => by have := hZ2 g h; omega)
              have HAP1 := Lib.hid (show Apart2 (.slice sa1 gone.length sc1) u10 from fun g h e => by have := hZ1 g h; have := (owns_block hFc.out g e).2; omega)
              have HAP2 := Lib.hid (show Apart2 (Value.slice sa2 left.length sc2) u10 from fun g h e => by have := hZ2 g h; have := (owns_block hFc.out g e).2; omega)
              have hO1 := Lib.hid (owns_base ho1 (show w.heap.size + 2 ≤ wr.heap.size by omega))
              have hO2 := Lib.hid (owns_base ho2 (show w.heap.size + 2 ≤ wr.heap.size by omega))
              clear ho1 ho2 hgo hle hZ1 hZ2 hb5 K70 K71
              clear ec0_0 ef0_0 ec1_0 ec1_1 ec1_2 ec1_3 ec1_4 ec1_5 ec1_6 ec1_7 ec1_8 ef1_0 ef1_1 ef1_2 ef1_3 ef1_4 ef1_5 ef1_6 ef1_7 ef1_8 es0 es1
              go_loopw [10, 121] (fun o i wl => ∃ m : Nat, m ≤ gone.length ∧ i = .int .i64 (m : Int) ∧ Hid (Ext w wl) ∧ Hid (At wl [(B8, Obj.cells #[.pointer (some ⟨b, 0, none⟩)] 120), (b, Obj.cells #[.int .i64 T.belt.step, .int .i64 T.belt.slip, .int .i64 T.belt.gate, .int .i64 T.belt.length, .int .i64 (T.count + 1), .int .i64 T.next, (.slice (some ⟨vg, 0, none⟩) T.parts.length sc), .int .i64 (first T.belt), .int .i64 (final T.belt)] 123), (w.heap.size + 1, Obj.cells #[.int .i64 0, .int .i64 0, .int .i64 0, .int .i64 0, .int .i64 0, .int .i64 0, (.slice none 0 0)] 47)]) ∧ Hid (wl.ownsRow (w.heap.size + 2) 93 3 o (F ++ (gone.take m).map fateOf).length (fatesL (F ++ (gone.take m).map fateOf))) ∧ Hid (wl.ownsRow (w.heap.size + 2) 63 4 (.slice sa1 gone.length sc1) gone.length (seens gone)) ∧ Hid (wl.ownsRow (w.heap.size + 2) 63 4 (Value.slice sa2 left.length sc2) left.length (seens left)) ∧ Hid (∀ g, o.ownBlock = some g → g ≠ B8 ∧ g ≠ b) ∧ Hid (Apart2 (.slice sa1 gone.length sc1) o) ∧ Hid (Apart2 (Value.slice sa2 left.length sc2) o)) (fun _ i _ => gone.length - (intOf i).toNat)
              case atStart => exact ⟨0, by omega, rfl, hE5, hA5, Lib.hid (by simpa using hF5.out), hO1, hO2, hD2, HAP1, HAP2⟩
              case round =>
                obtain ⟨m, hm, rfl, hEl, hAl, hFl, hO1l, hO2l, hDl, hX1, hX2⟩ := hrel
                by_cases hmg : m < gone.length
                · obtain ⟨xb, xo, hxv, x0, x1, x2, x3⟩ : ∃ xb xo, sa1 = some ⟨xb, xo, none⟩ ∧ _ := by
                    obtain ⟨a', c', e, -, hc⟩ := SeensAt.form (SlAt.of_owns hO1l.out : SeensAt wr (.slice sa1 gone.length sc1) gone)
                    injection e with e1 e2 e3
                    subst e1
                    obtain ⟨q1, q2, q3, q4⟩ := hc m hmg
                    exact ⟨q1, q2, q3, q4⟩
                  have hxv := Lib.hid hxv
                  obtain ⟨x, hx⟩ : ∃ x, gone.getD m seen0 = x := ⟨_, rfl⟩
                  rw [hx] at x0 x1 x2 x3
                  have htk := take_get hmg
                  rw [hx] at htk
                  have HTK := Lib.hid htk
                  have zx := World.block_lt_of_cell? _ _ x0
                  simp only at zx
                  clear hx htk
                  have hFb := hFl.out
                  have hlen : (F ++ (gone.take m).map fateOf).length ≤ 100000000 := by
                    simp only [List.length_append, List.length_map, List.length_take]; omega
                  obtain ⟨Fm, hFm⟩ : ∃ Fm, F ++ (gone.take m).map fateOf = Fm := ⟨_, rfl⟩
                  rw [hFm] at hFb hlen
                  have HFm := Lib.hid hFm
                  have HFb := Lib.hid hFb
                  have hzz := hEl.out.size
                  clear hFb hFm hFl
                  have hes := hxv.out
                  subst hes
                  go_wp2_with (first | (at_builtin; go_loud (refine wpList_append_at rfl _ _ 69 rfl (w.heap.size + 2) 93 i1 (.agg #[.int .i64 0, .int .u8 0, .bool false]) 3 16 Try.underlying69 hj hy0 hy1 hy2 rfl (by omega) u10 Fm.length (fatesL Fm) rfl (owns_ext HFb.out (((Ext.refl _).alloc _).alloc _)) _ 1 (fatesL [fateOf x]) rfl (SlAt.lit_at (wr.alloc (.cells #[.int .i64 x.id, .int .i64 x.at_, .int .u8 x.verdict, .bool x.hit] 63)) (wr.heap.size + 1) (by rw [size_one]) [.int .i64 x.id, .int .u8 x.verdict, .bool x.hit] 93 3 rfl) (fates_one [fateOf x]) (by unfold maxLen; omega) (by omega) (by have := (owns_block HFb.out); simp; omega) ?_); intro v' w' ho hg hat))
                  have hbk : ∀ g, u10.ownBlock = some g → w.heap.size + 2 ≤ g ∧ g < wr.heap.size := fun g h => owns_block HFb.out g h
                  have hgA : ∀ k, k < wr.heap.size → u10.ownBlock ≠ some k → w'.heap[k]? = wr.heap[k]? := fun k h1 h2 => (hg.block k (by simp; omega) (fun e => h2 e.symm)).trans ((blk_past _ _ (by simp; omega)).trans (blk_past _ _ h1))
                  go_roundw
                  case rel =>
                    refine ⟨m + 1, by omega, by go_num, Lib.hid (((hEl.out.alloc _).alloc _).grown hg (fun g hk => by have := (hbk g hk).1; omega)), Lib.hid ?_, Lib.hid ?_, Lib.hid ?_, Lib.hid ?_, Lib.hid ?_, Lib.hid ?_, Lib.hid ?_⟩
                    · exact ⟨(hgA B8 (At.lt hAl.out 0 rfl) fun e => (hDl.out B8 e).1 rfl).trans (At.at hAl.out 0 rfl), (hgA b (At.lt hAl.out 1 rfl) fun e => (hDl.out b e).2 rfl).trans (At.at hAl.out 1 rfl), (hgA (w.heap.size + 1) (At.lt hAl.out 2 rfl) fun e => by have := (hbk _ e).1; omega).trans (At.at hAl.out 2 rfl), trivial⟩
                    · rw [HTK.out, List.map_append, ← List.append_assoc, HFm.out]
                      simp only [List.map_cons, List.map_nil, List.length_append, List.length_singleton]
                      rw [fatesL_append]
                      exact ho
                    · exact owns_at hO1l.out fun g h => hgA g (owns_block hO1l.out g h).2 (hX1.out g h)
                    · exact owns_at hO2l.out fun g h => hgA g (owns_block hO2l.out g h).2 (hX2.out g h)
                    · intro g h
                      rcases hat with hat | hat
                      · exact hDl.out g (hat ▸ h)
                      · rw [hat] at h
                        injection h with h
                        have h1 := At.lt hAl.out 0 rfl
                        have h2 := At.lt hAl.out 1 rfl
                        simp at h
                        omega
                    · intro g h e
                      rcases hat with hat | hat
                      · rw [hat] at e; exact hX1.out g h e
                      · rw [hat] at e
                        injection e with e
                        have := (owns_block hO1l.out g h).2
                        simp at e; omega
                    · intro g h e
                      rcases hat with hat | hat
                      · rw [hat] at e; exact hX2.out g h e
                      · rw [hat] at e
                        injection e with e
                        have := (owns_block hO2l.out g h).2
                        simp at e; omega
                  case measure => simp [intOf]; omega
                · obtain rfl : m = gone.length := by omega
                  obtain ⟨lc0_0, lf0_0⟩ := run_1 (At.at hAl.out 0 rfl)
                  obtain ⟨⟨lc1_0, lc1_1, lc1_2, lc1_3, lc1_4, lc1_5, lc1_6, lc1_7, lc1_8⟩, lf1_0, lf1_1, lf1_2, lf1_3, lf1_4, lf1_5, lf1_6, lf1_7, lf1_8⟩ := run_9 (At.at hAl.out 1 rfl)
                  have ls0 : B8 < wr.heap.size := At.lt hAl.out 0 rfl
                  have ls1 : b < wr.heap.size := At.lt hAl.out 1 rfl
                  have hFb := hFl.out
                  rw [List.take_length] at hFb
                  have HFb := Lib.hid hFb
                  clear hFb hFl
                  go_wp2
                  go_roundw
                  case rel =>
                    refine ⟨k + 1, by omega, Lib.hid ⟨pass1 T, F ++ fates1 T, (Value.slice sa2 left.length sc2), ?_, hEl.out.setCell (by simp; omega) _, ?_, ?_, ?_, ?_, ?_, ?_⟩⟩
                    · rw [passN_add, hT.out]
                      simp [passN]
                    · exact ⟨(set_at wr b 6 (Value.slice sa2 left.length sc2) B8 (by omega)).trans (At.at hAl.out 0 rfl), (st_one (At.at hAl.out 1 rfl) 6 (Value.slice sa2 left.length sc2)).1, (set_at wr b 6 (Value.slice sa2 left.length sc2) (w.heap.size + 1) (by omega)).trans (At.at hAl.out 2 rfl), trivial⟩
                    · rw [HLE.out]
                      exact owns_at hO2l.out fun g h => set_at wr b 6 (Value.slice sa2 left.length sc2) g (fun e => (HZ2.out g h).2 e)
                    · rw [HGO.out]
                      exact owns_at HFb.out fun g h => set_at wr b 6 (Value.slice sa2 left.length sc2) g (fun e => (hDl.out g h).2 e)
                    · exact fun g h => HZ2.out g h
                    · exact fun g h => hDl.out g h
                    · exact hX2.out
                  case measure =>
                    rw [leftOf_eq (c := T.count) cr4.out]
                    rw [leftOf_eq (c := T.count + 1) (by simp [World.cell?, World.setCell, Array.getElem?_modify, At.at hAl.out 1 rfl])]
                    omega
end Go.Proofs.Ytcbimfaneinpkaa
