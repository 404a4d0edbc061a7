/- The walk of the program's Tell. -/
import Derived.Test.YtcbimfaneinpkaaTellFn
import Derived.Test.YtcbimfaneinpkaaAtB
import Derived.Test.YtcbimfaneinpkaaCheck
set_option linter.unusedVariables false
set_option linter.unusedSimpArgs false
namespace Go.Proofs.Ytcbimfaneinpkaa
open Go.RowKit Go.Sort

def OwnTell (r : Track × Int) (w : World) (e : Ending) (w' : World) : Prop :=
  ∃ v', e = .returned (.tuple #[trackVal r.1 v', .int .i64 r.2]) ∧ w'.ownsRow w.heap.size 63 4 v' r.1.parts.length (seens r.1.parts) ∧ Ext w w'
theorem OwnTell.bare {c : Int} {w w' : World} (h : Ext w w') : OwnTell (noTrack', c) w (.returned (.tuple #[.agg #[.int .i64 0, .int .i64 0, .int .i64 0, .int .i64 0, .int .i64 0, .int .i64 0, .slice none 0 0], .int .i64 c])) w' :=
  ⟨.slice none 0 0, rfl, ⟨rfl, .inl ⟨rfl, rfl⟩⟩, h⟩
theorem w63_yes (l : List Seen) (v : Value) (id : Int) (w : World) (hv : SeensAt w v l) (hl : l.length ≤ 1000000) (hr : Rising l) {i : Nat} (hp : place l id = i ∧ i < l.length) :
    Calls Try.prog 63 #[v, .int .i64 id, .func (.func 64) #[] #[]] w fun e w' => e = .returned (.tuple #[.int .i64 (i : Int), .bool true]) ∧ Ext w w' :=
  (w63 l v id w hv hl hr).mono fun e w' ⟨j, f, h1, h2, h3⟩ => by
    obtain ⟨rfl, hlt⟩ := hp
    rcases h3 with ⟨rfl, h3, -⟩ | ⟨rfl, h3⟩
    · rw [h3]; exact ⟨h1, h2⟩
    · exact absurd hlt h3
theorem w63_no (l : List Seen) (v : Value) (id : Int) (w : World) (hv : SeensAt w v l) (hl : l.length ≤ 1000000) (hr : Rising l) (hp : ¬ place l id < l.length) :
    Calls Try.prog 63 #[v, .int .i64 id, .func (.func 64) #[] #[]] w fun e w' => ∃ j : Nat, e = .returned (.tuple #[.int .i64 (j : Int), .bool false]) ∧ Ext w w' :=
  (w63 l v id w hv hl hr).mono fun e w' ⟨j, f, h1, h2, h3⟩ => by
    rcases h3 with ⟨rfl, h3, h4⟩ | ⟨rfl, h3⟩
    · rw [h3] at hp; exact absurd h4 hp
    · exact ⟨j, h1, h2⟩
theorem told_len (t : Track) (i : Nat) (v : Int) : (told t i v).parts.length = t.parts.length := by simp [told]
theorem owns_some {w : World} {base e sz n : Nat} {v : Value} {cs : List Value} (h : w.ownsRow base e sz v n cs) (hn : 0 < n) : ∃ g cp, v = .slice (some ⟨g, 0, none⟩) n cp ∧ base ≤ g ∧ n ≤ cp := by
  obtain ⟨h1, h2⟩ := h
  rcases h2 with ⟨rfl, h2⟩ | ⟨g, cap, cur, hv, hg, hh, hcap, -⟩
  · rw [h2] at h1; exfalso; simp at h1; rcases h1 with h1 | h1 <;> omega
  · exact ⟨g, cap, hv, hg, hcap⟩
theorem seens_set (l : List Seen) (i : Nat) (x y : Seen) (hi : i < l.length) (hx : l.getD i seen0 = x) (hy : y = ⟨x.id, x.at_, y.verdict, x.hit⟩) : seens (l.set i y) = (seens l).set (i * 4 + 2) (.int .u8 y.verdict) := by
  subst hx
  refine List.ext_getElem? fun j => ?_
  rw [List.getElem?_set]
  obtain ⟨q, f, hf, rfl⟩ : ∃ q f, f < 4 ∧ j = q * 4 + f := ⟨j / 4, j % 4, by omega, by omega⟩
  rcases Nat.lt_or_ge q l.length with hq | hq
  · rw [seens_get _ q f (by simpa using hq) hf, seens_get l q f hq hf, set_get hi]
    by_cases hqi : q = i
    · subst hqi
      rw [if_pos rfl]
      by_cases h2 : f = 2
      · subst h2
        rw [if_pos rfl, if_pos (by rw [seens_length]; omega)]
        rfl
      · rw [if_neg (by omega), hy]
        match f, hf, h2 with
        | 0, _, _ => rfl
        | 1, _, _ => rfl
        | 3, _, _ => rfl
    · rw [if_neg hqi, if_neg (by omega)]
  · rw [List.getElem?_eq_none (by rw [seens_length]; simp; omega), List.getElem?_eq_none (by rw [seens_length]; omega), if_neg (by omega)]
theorem seens_verdict (t : Track) (i : Nat) (v : Int) (hi : i < t.parts.length) {x : Seen} (hx : t.parts.getD i seen0 = x) : seens (told t i v).parts = (seens t.parts).set (i * 4 + 2) (.int .u8 v) := by
  subst hx
  exact seens_set t.parts i _ _ hi rfl rfl
theorem set_at (w : World) (b o : Nat) (v : Value) : ∀ k, k ≠ b → (w.setCell ⟨b, o, none⟩ v).heap[k]? = w.heap[k]? := fun k hk => Below.heap_setCell _ _ _ _ hk
set_option maxRecDepth 100000 in
set_option maxHeartbeats 8000000 in
theorem w33 (t : Track) (vp : Value) (id v : Int) (w : World) (hv : SeensAt w vp t.parts) (hl50 : t.parts.length ≤ 50) :
    Calls Try.prog 33 #[trackVal t vp, .int .i64 id, .int .u8 v] w (OwnTell (tellR t id v) w) := by
  have HV := Lib.hid hv
  obtain ⟨q1, ao, cap, rfl, k1, k2, -⟩ := hv
  have hl : t.parts.length ≤ 1000000 := by omega
  by_cases hok : t.ok
  case neg =>
    rw [show tellR t id v = (noTrack', checkTrack t) from if_neg hok]
    have hct : checkTrack t ≠ 0 := fun h => hok (checkTrack_zero.1 h)
    have hcf : (checkTrack t == 0) = false := by simp [hct]
    have hcf2 : (checkTrack t != 0) = true := by simp [hct]
    obtain ⟨ct, hct9⟩ : ∃ ct, checkTrack t = ct := ⟨_, rfl⟩
    have K35 := Lib.hid (fun w' (h : SeensAt w' (.slice ao t.parts.length cap) t.parts) => w35 t _ w' h)
    rw [hct9] at hcf hcf2 K35 ⊢
    clear hct hct9
    go_enter Try.func33, Try.ntmps33
    go_wp2_with (first | (go_at_call 35; (with_reducible refine (K35.out _ (SeensAt.ext HV.out (by repeat (first | exact Ext.refl _ | assumption | refine Ext.alloc ?_ _ | refine Ext.drewN ?_ _ | refine ext_grow ?_ _ _ | refine Ext.setCell ?_ (by first | exact Nat.le_refl _ | omega | (simp; done) | (simp; omega)) _ | refine Ext.trans ?_ (by assumption))))).mono ?_); rintro E w1 ⟨rfl, hb1⟩; have A1 := Lib.hid (show At w1 [(w.heap.size, Obj.cells #[.int .i64 t.belt.step, .int .i64 t.belt.slip, .int .i64 t.belt.gate, .int .i64 t.belt.length, .int .i64 t.count, .int .i64 t.next, (.slice ao t.parts.length cap)] 47), (w.heap.size + 1, Obj.cells #[.int .i64 0, .int .i64 0, .int .i64 0, .int .i64 0, .int .i64 0, .int .i64 0, (.slice none 0 0)] 47)] from At.ext hb1 (show At _ [(w.heap.size, Obj.cells #[.int .i64 t.belt.step, .int .i64 t.belt.slip, .int .i64 t.belt.gate, .int .i64 t.belt.length, .int .i64 t.count, .int .i64 t.next, (.slice ao t.parts.length cap)] 47), (w.heap.size + 1, Obj.cells #[.int .i64 0, .int .i64 0, .int .i64 0, .int .i64 0, .int .i64 0, .int .i64 0, (.slice none 0 0)] 47)] from ⟨(by repeat (first | (refine blk_at _ _ ?_; (first | rfl | (simp only [size_one]; done))) | refine (blk_past _ _ (by simp only [size_one]; omega)).trans ?_)), (by repeat (first | (refine blk_at _ _ ?_; (first | rfl | (simp only [size_one]; done))) | refine (blk_past _ _ (by simp only [size_one]; omega)).trans ?_)), trivial⟩)); have E1 := Lib.hid (((show Ext w _ from (by repeat (first | exact Ext.refl _ | assumption | refine Ext.alloc ?_ _ | refine Ext.drewN ?_ _ | refine ext_grow ?_ _ _ | refine Ext.setCell ?_ (by first | exact Nat.le_refl _ | omega | (simp; done) | (simp; omega)) _ | refine Ext.trans ?_ (by assumption))))).trans hb1); obtain ⟨⟨c1_0_0, c1_0_1, c1_0_2, c1_0_3, c1_0_4, c1_0_5, c1_0_6⟩, f1_0_0, f1_0_1, f1_0_2, f1_0_3, f1_0_4, f1_0_5, f1_0_6⟩ := run_7 (At.at A1.out 0 rfl); have s1_0 : w.heap.size < w1.heap.size := At.lt A1.out 0 rfl; obtain ⟨⟨c1_1_0, c1_1_1, c1_1_2, c1_1_3, c1_1_4, c1_1_5, c1_1_6⟩, f1_1_0, f1_1_1, f1_1_2, f1_1_3, f1_1_4, f1_1_5, f1_1_6⟩ := run_7 (At.at A1.out 1 rfl); have s1_1 : w.heap.size + 1 < w1.heap.size := At.lt A1.out 1 rfl; have HS_1 := Lib.hid (SeensAt.ext ((SeensAt.ext HV.out (by repeat (first | exact Ext.refl _ | assumption | refine Ext.alloc ?_ _ | refine Ext.drewN ?_ _ | refine ext_grow ?_ _ _ | refine Ext.setCell ?_ (by first | exact Nat.le_refl _ | omega | (simp; done) | (simp; omega)) _ | refine Ext.trans ?_ (by assumption))))) hb1)))
    refine bodyPost_ret (results_row2 rfl _ _ (w.heap.size + 1) 47 _ (0, 0) _ rfl (store_7 (v0 := .int .i64 0) (v1 := .int .i64 0) (v2 := .int .i64 0) (v3 := .int .i64 0) (v4 := .int .i64 0) (v5 := .int .i64 0) (v6 := .slice none 0 0) (At.at A1.out 1 rfl)).1 Try.underlying47 rfl info47) rfl ?_
    exact OwnTell.bare ((store_7 (v0 := .int .i64 0) (v1 := .int .i64 0) (v2 := .int .i64 0) (v3 := .int .i64 0) (v4 := .int .i64 0) (v5 := .int .i64 0) (v6 := .slice none 0 0) (At.at A1.out 1 rfl)).2.2 w (by omega) E1.out)
  have hr := Lib.hid (parts_iff.1 hok.2.2).2
  have hpi := Lib.hid (parts_iff.1 hok.2.2).1
  obtain ⟨s1, s2, -⟩ := hok.2.1
  have K35 := Lib.hid (fun w' (h : SeensAt w' (.slice ao t.parts.length cap) t.parts) => w35 t _ w' h)
  rw [checkTrack_ok hok] at K35
  by_cases hv13 : 1 ≤ v ∧ v ≤ 3
  case neg =>
    rw [show tellR t id v = (noTrack', 2) by unfold tellR; rw [if_pos hok, if_neg hv13]]
    rcases Int.lt_or_le v 1 with h1 | h1
    · clear hv13
      go_enter Try.func33, Try.ntmps33
      go_wp2_with (first | (go_at_call 35; (with_reducible refine (K35.out _ (SeensAt.ext HV.out (by repeat (first | exact Ext.refl _ | assumption | refine Ext.alloc ?_ _ | refine Ext.drewN ?_ _ | refine ext_grow ?_ _ _ | refine Ext.setCell ?_ (by first | exact Nat.le_refl _ | omega | (simp; done) | (simp; omega)) _ | refine Ext.trans ?_ (by assumption))))).mono ?_); rintro E w1 ⟨rfl, hb1⟩; have A1 := Lib.hid (show At w1 [(w.heap.size, Obj.cells #[.int .i64 t.belt.step, .int .i64 t.belt.slip, .int .i64 t.belt.gate, .int .i64 t.belt.length, .int .i64 t.count, .int .i64 t.next, (.slice ao t.parts.length cap)] 47), (w.heap.size + 1, Obj.cells #[.int .i64 0, .int .i64 0, .int .i64 0, .int .i64 0, .int .i64 0, .int .i64 0, (.slice none 0 0)] 47)] from At.ext hb1 (show At _ [(w.heap.size, Obj.cells #[.int .i64 t.belt.step, .int .i64 t.belt.slip, .int .i64 t.belt.gate, .int .i64 t.belt.length, .int .i64 t.count, .int .i64 t.next, (.slice ao t.parts.length cap)] 47), (w.heap.size + 1, Obj.cells #[.int .i64 0, .int .i64 0, .int .i64 0, .int .i64 0, .int .i64 0, .int .i64 0, (.slice none 0 0)] 47)] from ⟨(by repeat (first | (refine blk_at _ _ ?_; (first | rfl | (simp only [size_one]; done))) | refine (blk_past _ _ (by simp only [size_one]; omega)).trans ?_)), (by repeat (first | (refine blk_at _ _ ?_; (first | rfl | (simp only [size_one]; done))) | refine (blk_past _ _ (by simp only [size_one]; omega)).trans ?_)), trivial⟩)); have E1 := Lib.hid (((show Ext w _ from (by repeat (first | exact Ext.refl _ | assumption | refine Ext.alloc ?_ _ | refine Ext.drewN ?_ _ | refine ext_grow ?_ _ _ | refine Ext.setCell ?_ (by first | exact Nat.le_refl _ | omega | (simp; done) | (simp; omega)) _ | refine Ext.trans ?_ (by assumption))))).trans hb1); obtain ⟨⟨c1_0_0, c1_0_1, c1_0_2, c1_0_3, c1_0_4, c1_0_5, c1_0_6⟩, f1_0_0, f1_0_1, f1_0_2, f1_0_3, f1_0_4, f1_0_5, f1_0_6⟩ := run_7 (At.at A1.out 0 rfl); have s1_0 : w.heap.size < w1.heap.size := At.lt A1.out 0 rfl; obtain ⟨⟨c1_1_0, c1_1_1, c1_1_2, c1_1_3, c1_1_4, c1_1_5, c1_1_6⟩, f1_1_0, f1_1_1, f1_1_2, f1_1_3, f1_1_4, f1_1_5, f1_1_6⟩ := run_7 (At.at A1.out 1 rfl); have s1_1 : w.heap.size + 1 < w1.heap.size := At.lt A1.out 1 rfl; have HS_1 := Lib.hid (SeensAt.ext ((SeensAt.ext HV.out (by repeat (first | exact Ext.refl _ | assumption | refine Ext.alloc ?_ _ | refine Ext.drewN ?_ _ | refine ext_grow ?_ _ _ | refine Ext.setCell ?_ (by first | exact Nat.le_refl _ | omega | (simp; done) | (simp; omega)) _ | refine Ext.trans ?_ (by assumption))))) hb1)))
      refine bodyPost_ret (results_row2 rfl _ _ (w.heap.size + 1) 47 _ (0, 0) _ rfl (store_7 (v0 := .int .i64 0) (v1 := .int .i64 0) (v2 := .int .i64 0) (v3 := .int .i64 0) (v4 := .int .i64 0) (v5 := .int .i64 0) (v6 := .slice none 0 0) (At.at A1.out 1 rfl)).1 Try.underlying47 rfl info47) rfl ?_
      exact OwnTell.bare ((store_7 (v0 := .int .i64 0) (v1 := .int .i64 0) (v2 := .int .i64 0) (v3 := .int .i64 0) (v4 := .int .i64 0) (v5 := .int .i64 0) (v6 := .slice none 0 0) (At.at A1.out 1 rfl)).2.2 w (by omega) E1.out)
    · have h3 : 3 < v := by omega
      clear hv13
      go_enter Try.func33, Try.ntmps33
      go_wp2_with (first | (go_at_call 35; (with_reducible refine (K35.out _ (SeensAt.ext HV.out (by repeat (first | exact Ext.refl _ | assumption | refine Ext.alloc ?_ _ | refine Ext.drewN ?_ _ | refine ext_grow ?_ _ _ | refine Ext.setCell ?_ (by first | exact Nat.le_refl _ | omega | (simp; done) | (simp; omega)) _ | refine Ext.trans ?_ (by assumption))))).mono ?_); rintro E w1 ⟨rfl, hb1⟩; have A1 := Lib.hid (show At w1 [(w.heap.size, Obj.cells #[.int .i64 t.belt.step, .int .i64 t.belt.slip, .int .i64 t.belt.gate, .int .i64 t.belt.length, .int .i64 t.count, .int .i64 t.next, (.slice ao t.parts.length cap)] 47), (w.heap.size + 1, Obj.cells #[.int .i64 0, .int .i64 0, .int .i64 0, .int .i64 0, .int .i64 0, .int .i64 0, (.slice none 0 0)] 47)] from At.ext hb1 (show At _ [(w.heap.size, Obj.cells #[.int .i64 t.belt.step, .int .i64 t.belt.slip, .int .i64 t.belt.gate, .int .i64 t.belt.length, .int .i64 t.count, .int .i64 t.next, (.slice ao t.parts.length cap)] 47), (w.heap.size + 1, Obj.cells #[.int .i64 0, .int .i64 0, .int .i64 0, .int .i64 0, .int .i64 0, .int .i64 0, (.slice none 0 0)] 47)] from ⟨(by repeat (first | (refine blk_at _ _ ?_; (first | rfl | (simp only [size_one]; done))) | refine (blk_past _ _ (by simp only [size_one]; omega)).trans ?_)), (by repeat (first | (refine blk_at _ _ ?_; (first | rfl | (simp only [size_one]; done))) | refine (blk_past _ _ (by simp only [size_one]; omega)).trans ?_)), trivial⟩)); have E1 := Lib.hid (((show Ext w _ from (by repeat (first | exact Ext.refl _ | assumption | refine Ext.alloc ?_ _ | refine Ext.drewN ?_ _ | refine ext_grow ?_ _ _ | refine Ext.setCell ?_ (by first | exact Nat.le_refl _ | omega | (simp; done) | (simp; omega)) _ | refine Ext.trans ?_ (by assumption))))).trans hb1); obtain ⟨⟨c1_0_0, c1_0_1, c1_0_2, c1_0_3, c1_0_4, c1_0_5, c1_0_6⟩, f1_0_0, f1_0_1, f1_0_2, f1_0_3, f1_0_4, f1_0_5, f1_0_6⟩ := run_7 (At.at A1.out 0 rfl); have s1_0 : w.heap.size < w1.heap.size := At.lt A1.out 0 rfl; obtain ⟨⟨c1_1_0, c1_1_1, c1_1_2, c1_1_3, c1_1_4, c1_1_5, c1_1_6⟩, f1_1_0, f1_1_1, f1_1_2, f1_1_3, f1_1_4, f1_1_5, f1_1_6⟩ := run_7 (At.at A1.out 1 rfl); have s1_1 : w.heap.size + 1 < w1.heap.size := At.lt A1.out 1 rfl; have HS_1 := Lib.hid (SeensAt.ext ((SeensAt.ext HV.out (by repeat (first | exact Ext.refl _ | assumption | refine Ext.alloc ?_ _ | refine Ext.drewN ?_ _ | refine ext_grow ?_ _ _ | refine Ext.setCell ?_ (by first | exact Nat.le_refl _ | omega | (simp; done) | (simp; omega)) _ | refine Ext.trans ?_ (by assumption))))) hb1)))
      refine bodyPost_ret (results_row2 rfl _ _ (w.heap.size + 1) 47 _ (0, 0) _ rfl (store_7 (v0 := .int .i64 0) (v1 := .int .i64 0) (v2 := .int .i64 0) (v3 := .int .i64 0) (v4 := .int .i64 0) (v5 := .int .i64 0) (v6 := .slice none 0 0) (At.at A1.out 1 rfl)).1 Try.underlying47 rfl info47) rfl ?_
      exact OwnTell.bare ((store_7 (v0 := .int .i64 0) (v1 := .int .i64 0) (v2 := .int .i64 0) (v3 := .int .i64 0) (v4 := .int .i64 0) (v5 := .int .i64 0) (v6 := .slice none 0 0) (At.at A1.out 1 rfl)).2.2 w (by omega) E1.out)
  obtain ⟨hv1, hv3⟩ := hv13
  by_cases hp : place t.parts id < t.parts.length
  case neg =>
    rw [show tellR t id v = (noTrack', 6) by unfold tellR; rw [if_pos hok, if_pos ⟨hv1, hv3⟩, if_neg hp]]
    have hp := Lib.hid hp
    go_enter Try.func33, Try.ntmps33
    go_wp2_with (first | (go_at_call 63; (with_reducible refine (w63_no t.parts _ id _ HS_1.out hl hr.out hp.out).mono ?_); rintro E w2 ⟨i2, rfl, hb2⟩; have A2 := Lib.hid (show At w2 [(w.heap.size, Obj.cells #[.int .i64 t.belt.step, .int .i64 t.belt.slip, .int .i64 t.belt.gate, .int .i64 t.belt.length, .int .i64 t.count, .int .i64 t.next, (.slice ao t.parts.length cap)] 47), (w.heap.size + 1, Obj.cells #[.int .i64 0, .int .i64 0, .int .i64 0, .int .i64 0, .int .i64 0, .int .i64 0, (.slice none 0 0)] 47)] from At.ext hb2 A1.out); have E2 := Lib.hid ((E1.out).trans hb2); obtain ⟨⟨c2_0_0, c2_0_1, c2_0_2, c2_0_3, c2_0_4, c2_0_5, c2_0_6⟩, f2_0_0, f2_0_1, f2_0_2, f2_0_3, f2_0_4, f2_0_5, f2_0_6⟩ := run_7 (At.at A2.out 0 rfl); have s2_0 : w.heap.size < w2.heap.size := At.lt A2.out 0 rfl; obtain ⟨⟨c2_1_0, c2_1_1, c2_1_2, c2_1_3, c2_1_4, c2_1_5, c2_1_6⟩, f2_1_0, f2_1_1, f2_1_2, f2_1_3, f2_1_4, f2_1_5, f2_1_6⟩ := run_7 (At.at A2.out 1 rfl); have s2_1 : w.heap.size + 1 < w2.heap.size := At.lt A2.out 1 rfl; (try clear c1_0_0 c1_0_1 c1_0_2 c1_0_3 c1_0_4 c1_0_5 c1_0_6 f1_0_0 f1_0_1 f1_0_2 f1_0_3 f1_0_4 f1_0_5 f1_0_6 c1_1_0 c1_1_1 c1_1_2 c1_1_3 c1_1_4 c1_1_5 c1_1_6 f1_1_0 f1_1_1 f1_1_2 f1_1_3 f1_1_4 f1_1_5 f1_1_6 s1_0 s1_1); have HS_2 := Lib.hid (SeensAt.ext (HS_1.out) hb2)) | (go_at_call 35; (with_reducible refine (K35.out _ (SeensAt.ext HV.out (by repeat (first | exact Ext.refl _ | assumption | refine Ext.alloc ?_ _ | refine Ext.drewN ?_ _ | refine ext_grow ?_ _ _ | refine Ext.setCell ?_ (by first | exact Nat.le_refl _ | omega | (simp; done) | (simp; omega)) _ | refine Ext.trans ?_ (by assumption))))).mono ?_); rintro E w1 ⟨rfl, hb1⟩; have A1 := Lib.hid (show At w1 [(w.heap.size, Obj.cells #[.int .i64 t.belt.step, .int .i64 t.belt.slip, .int .i64 t.belt.gate, .int .i64 t.belt.length, .int .i64 t.count, .int .i64 t.next, (.slice ao t.parts.length cap)] 47), (w.heap.size + 1, Obj.cells #[.int .i64 0, .int .i64 0, .int .i64 0, .int .i64 0, .int .i64 0, .int .i64 0, (.slice none 0 0)] 47)] from At.ext hb1 (show At _ [(w.heap.size, Obj.cells #[.int .i64 t.belt.step, .int .i64 t.belt.slip, .int .i64 t.belt.gate, .int .i64 t.belt.length, .int .i64 t.count, .int .i64 t.next, (.slice ao t.parts.length cap)] 47), (w.heap.size + 1, Obj.cells #[.int .i64 0, .int .i64 0, .int .i64 0, .int .i64 0, .int .i64 0, .int .i64 0, (.slice none 0 0)] 47)] from ⟨(by repeat (first | (refine blk_at _ _ ?_; (first | rfl | (simp only [size_one]; done))) | refine (blk_past _ _ (by simp only [size_one]; omega)).trans ?_)), (by repeat (first | (refine blk_at _ _ ?_; (first | rfl | (simp only [size_one]; done))) | refine (blk_past _ _ (by simp only [size_one]; omega)).trans ?_)), trivial⟩)); have E1 := Lib.hid (((show Ext w _ from (by repeat (first | exact Ext.refl _ | assumption | refine Ext.alloc ?_ _ | refine Ext.drewN ?_ _ | refine ext_grow ?_ _ _ | refine Ext.setCell ?_ (by first | exact Nat.le_refl _ | omega | (simp; done) | (simp; omega)) _ | refine Ext.trans ?_ (by assumption))))).trans hb1); obtain ⟨⟨c1_0_0, c1_0_1, c1_0_2, c1_0_3, c1_0_4, c1_0_5, c1_0_6⟩, f1_0_0, f1_0_1, f1_0_2, f1_0_3, f1_0_4, f1_0_5, f1_0_6⟩ := run_7 (At.at A1.out 0 rfl); have s1_0 : w.heap.size < w1.heap.size := At.lt A1.out 0 rfl; obtain ⟨⟨c1_1_0, c1_1_1, c1_1_2, c1_1_3, c1_1_4, c1_1_5, c1_1_6⟩, f1_1_0, f1_1_1, f1_1_2, f1_1_3, f1_1_4, f1_1_5, f1_1_6⟩ := run_7 (At.at A1.out 1 rfl); have s1_1 : w.heap.size + 1 < w1.heap.size := At.lt A1.out 1 rfl; have HS_1 := Lib.hid (SeensAt.ext ((SeensAt.ext HV.out (by repeat (first | exact Ext.refl _ | assumption | refine Ext.alloc ?_ _ | refine Ext.drewN ?_ _ | refine ext_grow ?_ _ _ | refine Ext.setCell ?_ (by first | exact Nat.le_refl _ | omega | (simp; done) | (simp; omega)) _ | refine Ext.trans ?_ (by assumption))))) hb1)))
    refine bodyPost_ret (results_row2 rfl _ _ (w.heap.size + 1) 47 _ (0, 0) _ rfl (store_7 (v0 := .int .i64 0) (v1 := .int .i64 0) (v2 := .int .i64 0) (v3 := .int .i64 0) (v4 := .int .i64 0) (v5 := .int .i64 0) (v6 := .slice none 0 0) (At.at A2.out 1 rfl)).1 Try.underlying47 rfl info47) rfl ?_
    exact OwnTell.bare ((store_7 (v0 := .int .i64 0) (v1 := .int .i64 0) (v2 := .int .i64 0) (v3 := .int .i64 0) (v4 := .int .i64 0) (v5 := .int .i64 0) (v6 := .slice none 0 0) (At.at A2.out 1 rfl)).2.2 w (by omega) E2.out)
  have hlate : tellR t id v = if (t.parts.getD (place t.parts id) seen0).verdict ≠ 0 ∨ (t.parts.getD (place t.parts id) seen0).at_ + first t.belt ≤ t.count then (noTrack', 91) else (told t (place t.parts id) v, 0) := by
    unfold tellR; rw [if_pos hok, if_pos ⟨hv1, hv3⟩, if_pos hp]
  rw [hlate]
  clear hlate
  obtain ⟨i, hi⟩ : ∃ i, place t.parts id = i := ⟨_, rfl⟩
  rw [hi] at hp ⊢
  have hil := hp
  have hp := Lib.hid (And.intro hi hil)
  clear hi
  obtain ⟨b, off, rfl, y0, y1, y2, y3⟩ : ∃ b off, ao = some ⟨b, off, none⟩ ∧ _ := by
    obtain ⟨ao', cap', e, -, hc⟩ := SeensAt.form HV.out
    injection e with e1 e2 e3
    subst e1
    obtain ⟨b, off, h1, h2⟩ := hc i hil
    exact ⟨b, off, h1, h2⟩
  obtain ⟨x, hx⟩ : ∃ x, t.parts.getD i seen0 = x := ⟨_, rfl⟩
  rw [hx] at y0 y1 y2 y3 ⊢
  have HX := Lib.hid hx
  have hin : partIn t x := hpi.out x (by rw [← hx, getD_get hil]; exact List.getElem_mem hil)
  obtain ⟨xi, xa, xv, xh⟩ := x
  obtain ⟨n1, n2, n3, n4, n5, n6, -⟩ := hin
  simp only at y0 y1 y2 y3 n1 n2 n3 n4 n5 n6 ⊢
  clear hx
  obtain ⟨⟨f1, f2⟩, -⟩ := win_bd hok.1
  have hg := And.intro hok.1.2.2.2.2.1 hok.1.2.2.2.2.2.1
  have hok9 := Lib.hid hok
  replace hok := hok.1
  have fdef : first t.belt = winFrom t.belt t.belt.gate := rfl
  obtain ⟨fi, hfi⟩ : ∃ fi, winFrom t.belt t.belt.gate = fi := ⟨_, rfl⟩
  rw [fdef, hfi] at f1 f2 ⊢
  clear fdef
  have W55 := Lib.hid (fun w => w55 t.belt hok t.belt.gate hg.1 hg.2 w)
  rw [hfi] at W55
  clear hfi
  have z0 := World.block_lt_of_cell? _ _ y1
  simp only at z0
  by_cases g1 : xv = 0
  · by_cases g2 : xa + fi ≤ t.count
    · rw [if_pos (.inr g2)]
      have t1 : (xv != 0) = false := by simp [g1]
      have t2 : decide (xa + fi ≤ t.count) = true := decide_eq_true g2
      clear g1
      go_enter Try.func33, Try.ntmps33
      go_wp2_with (first | (go_at_call 63; (with_reducible refine (w63_yes t.parts _ id _ HS_1.out hl hr.out hp.out).mono ?_); rintro E w2 ⟨rfl, hb2⟩; have A2 := Lib.hid (show At w2 [(w.heap.size, Obj.cells #[.int .i64 t.belt.step, .int .i64 t.belt.slip, .int .i64 t.belt.gate, .int .i64 t.belt.length, .int .i64 t.count, .int .i64 t.next, (.slice (some ⟨b, off, none⟩) t.parts.length cap)] 47), (w.heap.size + 1, Obj.cells #[.int .i64 0, .int .i64 0, .int .i64 0, .int .i64 0, .int .i64 0, .int .i64 0, (.slice none 0 0)] 47)] from At.ext hb2 A1.out); have E2 := Lib.hid ((E1.out).trans hb2); obtain ⟨⟨c2_0_0, c2_0_1, c2_0_2, c2_0_3, c2_0_4, c2_0_5, c2_0_6⟩, f2_0_0, f2_0_1, f2_0_2, f2_0_3, f2_0_4, f2_0_5, f2_0_6⟩ := run_7 (At.at A2.out 0 rfl); have s2_0 : w.heap.size < w2.heap.size := At.lt A2.out 0 rfl; obtain ⟨⟨c2_1_0, c2_1_1, c2_1_2, c2_1_3, c2_1_4, c2_1_5, c2_1_6⟩, f2_1_0, f2_1_1, f2_1_2, f2_1_3, f2_1_4, f2_1_5, f2_1_6⟩ := run_7 (At.at A2.out 1 rfl); have s2_1 : w.heap.size + 1 < w2.heap.size := At.lt A2.out 1 rfl; (try clear c1_0_0 c1_0_1 c1_0_2 c1_0_3 c1_0_4 c1_0_5 c1_0_6 f1_0_0 f1_0_1 f1_0_2 f1_0_3 f1_0_4 f1_0_5 f1_0_6 c1_1_0 c1_1_1 c1_1_2 c1_1_3 c1_1_4 c1_1_5 c1_1_6 f1_1_0 f1_1_1 f1_1_2 f1_1_3 f1_1_4 f1_1_5 f1_1_6 s1_0 s1_1); have HS_2 := Lib.hid (SeensAt.ext (HS_1.out) hb2)) | (go_at_call 35; (with_reducible refine (K35.out _ (SeensAt.ext HV.out (by repeat (first | exact Ext.refl _ | assumption | refine Ext.alloc ?_ _ | refine Ext.drewN ?_ _ | refine ext_grow ?_ _ _ | refine Ext.setCell ?_ (by first | exact Nat.le_refl _ | omega | (simp; done) | (simp; omega)) _ | refine Ext.trans ?_ (by assumption))))).mono ?_); rintro E w1 ⟨rfl, hb1⟩; have A1 := Lib.hid (show At w1 [(w.heap.size, Obj.cells #[.int .i64 t.belt.step, .int .i64 t.belt.slip, .int .i64 t.belt.gate, .int .i64 t.belt.length, .int .i64 t.count, .int .i64 t.next, (.slice (some ⟨b, off, none⟩) t.parts.length cap)] 47), (w.heap.size + 1, Obj.cells #[.int .i64 0, .int .i64 0, .int .i64 0, .int .i64 0, .int .i64 0, .int .i64 0, (.slice none 0 0)] 47)] from At.ext hb1 (show At _ [(w.heap.size, Obj.cells #[.int .i64 t.belt.step, .int .i64 t.belt.slip, .int .i64 t.belt.gate, .int .i64 t.belt.length, .int .i64 t.count, .int .i64 t.next, (.slice (some ⟨b, off, none⟩) t.parts.length cap)] 47), (w.heap.size + 1, Obj.cells #[.int .i64 0, .int .i64 0, .int .i64 0, .int .i64 0, .int .i64 0, .int .i64 0, (.slice none 0 0)] 47)] from ⟨(by repeat (first | (refine blk_at _ _ ?_; (first | rfl | (simp only [size_one]; done))) | refine (blk_past _ _ (by simp only [size_one]; omega)).trans ?_)), (by repeat (first | (refine blk_at _ _ ?_; (first | rfl | (simp only [size_one]; done))) | refine (blk_past _ _ (by simp only [size_one]; omega)).trans ?_)), trivial⟩)); have E1 := Lib.hid (((show Ext w _ from (by repeat (first | exact Ext.refl _ | assumption | refine Ext.alloc ?_ _ | refine Ext.drewN ?_ _ | refine ext_grow ?_ _ _ | refine Ext.setCell ?_ (by first | exact Nat.le_refl _ | omega | (simp; done) | (simp; omega)) _ | refine Ext.trans ?_ (by assumption))))).trans hb1); obtain ⟨⟨c1_0_0, c1_0_1, c1_0_2, c1_0_3, c1_0_4, c1_0_5, c1_0_6⟩, f1_0_0, f1_0_1, f1_0_2, f1_0_3, f1_0_4, f1_0_5, f1_0_6⟩ := run_7 (At.at A1.out 0 rfl); have s1_0 : w.heap.size < w1.heap.size := At.lt A1.out 0 rfl; obtain ⟨⟨c1_1_0, c1_1_1, c1_1_2, c1_1_3, c1_1_4, c1_1_5, c1_1_6⟩, f1_1_0, f1_1_1, f1_1_2, f1_1_3, f1_1_4, f1_1_5, f1_1_6⟩ := run_7 (At.at A1.out 1 rfl); have s1_1 : w.heap.size + 1 < w1.heap.size := At.lt A1.out 1 rfl; have HS_1 := Lib.hid (SeensAt.ext ((SeensAt.ext HV.out (by repeat (first | exact Ext.refl _ | assumption | refine Ext.alloc ?_ _ | refine Ext.drewN ?_ _ | refine ext_grow ?_ _ _ | refine Ext.setCell ?_ (by first | exact Nat.le_refl _ | omega | (simp; done) | (simp; omega)) _ | refine Ext.trans ?_ (by assumption))))) hb1)))
      refine wp_region_quiet_below (by kernel_rfl) (by kernel_rfl) ?_
      repeat (go_big_quiet_step ((first | (go_at_call 54; with_reducible exact Calls.ext_of (w54 t.belt hok _)) | (go_at_call 55; with_reducible exact Calls.ext_of (W55.out _)))))
      refine wpQuiet_nil ?_
      intro w3 hw'
      obtain ⟨pq, hw''⟩ := hw'
      have hb3 := ext_of_regrown hw''
      clear hw'' pq
      have A3 := Lib.hid (show At w3 [(w.heap.size, Obj.cells #[.int .i64 t.belt.step, .int .i64 t.belt.slip, .int .i64 t.belt.gate, .int .i64 t.belt.length, .int .i64 t.count, .int .i64 t.next, (.slice (some ⟨b, off, none⟩) t.parts.length cap)] 47), (w.heap.size + 1, Obj.cells #[.int .i64 0, .int .i64 0, .int .i64 0, .int .i64 0, .int .i64 0, .int .i64 0, (.slice none 0 0)] 47)] from At.ext hb3 A2.out)
      have E3 := Lib.hid ((E2.out).trans hb3)
      obtain ⟨⟨c3_0_0, c3_0_1, c3_0_2, c3_0_3, c3_0_4, c3_0_5, c3_0_6⟩, f3_0_0, f3_0_1, f3_0_2, f3_0_3, f3_0_4, f3_0_5, f3_0_6⟩ := run_7 (At.at A3.out 0 rfl)
      have s3_0 : w.heap.size < w3.heap.size := At.lt A3.out 0 rfl
      obtain ⟨⟨c3_1_0, c3_1_1, c3_1_2, c3_1_3, c3_1_4, c3_1_5, c3_1_6⟩, f3_1_0, f3_1_1, f3_1_2, f3_1_3, f3_1_4, f3_1_5, f3_1_6⟩ := run_7 (At.at A3.out 1 rfl)
      have s3_1 : w.heap.size + 1 < w3.heap.size := At.lt A3.out 1 rfl
      (try clear c2_0_0 c2_0_1 c2_0_2 c2_0_3 c2_0_4 c2_0_5 c2_0_6 f2_0_0 f2_0_1 f2_0_2 f2_0_3 f2_0_4 f2_0_5 f2_0_6 c2_1_0 c2_1_1 c2_1_2 c2_1_3 c2_1_4 c2_1_5 c2_1_6 f2_1_0 f2_1_1 f2_1_2 f2_1_3 f2_1_4 f2_1_5 f2_1_6 s2_0 s2_1)
      have HS_3 := Lib.hid (SeensAt.ext (HS_2.out) hb3)
      clear hb3
      have y1 := E3.out.get y1
      have y2 := E3.out.get y2
      go_wp2
      go_quiet (fail)
      have hb4 : Ext w3 (w3.drewN nq) := (Ext.refl _).drewN nq
      generalize hw4 : w3.drewN nq = w4 at hb4 ⊢
      clear hw4
      have A4 := Lib.hid (show At w4 [(w.heap.size, Obj.cells #[.int .i64 t.belt.step, .int .i64 t.belt.slip, .int .i64 t.belt.gate, .int .i64 t.belt.length, .int .i64 t.count, .int .i64 t.next, (.slice (some ⟨b, off, none⟩) t.parts.length cap)] 47), (w.heap.size + 1, Obj.cells #[.int .i64 0, .int .i64 0, .int .i64 0, .int .i64 0, .int .i64 0, .int .i64 0, (.slice none 0 0)] 47)] from At.ext hb4 A3.out)
      have E4 := Lib.hid ((E3.out).trans hb4)
      obtain ⟨⟨c4_0_0, c4_0_1, c4_0_2, c4_0_3, c4_0_4, c4_0_5, c4_0_6⟩, f4_0_0, f4_0_1, f4_0_2, f4_0_3, f4_0_4, f4_0_5, f4_0_6⟩ := run_7 (At.at A4.out 0 rfl)
      have s4_0 : w.heap.size < w4.heap.size := At.lt A4.out 0 rfl
      obtain ⟨⟨c4_1_0, c4_1_1, c4_1_2, c4_1_3, c4_1_4, c4_1_5, c4_1_6⟩, f4_1_0, f4_1_1, f4_1_2, f4_1_3, f4_1_4, f4_1_5, f4_1_6⟩ := run_7 (At.at A4.out 1 rfl)
      have s4_1 : w.heap.size + 1 < w4.heap.size := At.lt A4.out 1 rfl
      (try clear c3_0_0 c3_0_1 c3_0_2 c3_0_3 c3_0_4 c3_0_5 c3_0_6 f3_0_0 f3_0_1 f3_0_2 f3_0_3 f3_0_4 f3_0_5 f3_0_6 c3_1_0 c3_1_1 c3_1_2 c3_1_3 c3_1_4 c3_1_5 c3_1_6 f3_1_0 f3_1_1 f3_1_2 f3_1_3 f3_1_4 f3_1_5 f3_1_6 s3_0 s3_1)
      have HS_4 := Lib.hid (SeensAt.ext (HS_3.out) hb4)
      clear hb4
      go_wp2
      refine bodyPost_ret (results_row2 rfl _ _ (w.heap.size + 1) 47 _ (0, 0) _ rfl (store_7 (v0 := .int .i64 0) (v1 := .int .i64 0) (v2 := .int .i64 0) (v3 := .int .i64 0) (v4 := .int .i64 0) (v5 := .int .i64 0) (v6 := .slice none 0 0) (At.at A4.out 1 rfl)).1 Try.underlying47 rfl info47) rfl ?_
      exact OwnTell.bare ((store_7 (v0 := .int .i64 0) (v1 := .int .i64 0) (v2 := .int .i64 0) (v3 := .int .i64 0) (v4 := .int .i64 0) (v5 := .int .i64 0) (v6 := .slice none 0 0) (At.at A4.out 1 rfl)).2.2 w (by omega) E4.out)
    · rw [if_neg (by rintro (h | h) <;> omega)]
      have t1 : (xv != 0) = false := by simp [g1]
      have t2 : decide (xa + fi ≤ t.count) = false := decide_eq_false g2
      clear g1
      go_enter Try.func33, Try.ntmps33
      go_wp2_with (first | (go_at_call 63; (with_reducible refine (w63_yes t.parts _ id _ HS_1.out hl hr.out hp.out).mono ?_); rintro E w2 ⟨rfl, hb2⟩; have A2 := Lib.hid (show At w2 [(w.heap.size, Obj.cells #[.int .i64 t.belt.step, .int .i64 t.belt.slip, .int .i64 t.belt.gate, .int .i64 t.belt.length, .int .i64 t.count, .int .i64 t.next, (.slice (some ⟨b, off, none⟩) t.parts.length cap)] 47), (w.heap.size + 1, Obj.cells #[.int .i64 0, .int .i64 0, .int .i64 0, .int .i64 0, .int .i64 0, .int .i64 0, (.slice none 0 0)] 47)] from At.ext hb2 A1.out); have E2 := Lib.hid ((E1.out).trans hb2); obtain ⟨⟨c2_0_0, c2_0_1, c2_0_2, c2_0_3, c2_0_4, c2_0_5, c2_0_6⟩, f2_0_0, f2_0_1, f2_0_2, f2_0_3, f2_0_4, f2_0_5, f2_0_6⟩ := run_7 (At.at A2.out 0 rfl); have s2_0 : w.heap.size < w2.heap.size := At.lt A2.out 0 rfl; obtain ⟨⟨c2_1_0, c2_1_1, c2_1_2, c2_1_3, c2_1_4, c2_1_5, c2_1_6⟩, f2_1_0, f2_1_1, f2_1_2, f2_1_3, f2_1_4, f2_1_5, f2_1_6⟩ := run_7 (At.at A2.out 1 rfl); have s2_1 : w.heap.size + 1 < w2.heap.size := At.lt A2.out 1 rfl; (try clear c1_0_0 c1_0_1 c1_0_2 c1_0_3 c1_0_4 c1_0_5 c1_0_6 f1_0_0 f1_0_1 f1_0_2 f1_0_3 f1_0_4 f1_0_5 f1_0_6 c1_1_0 c1_1_1 c1_1_2 c1_1_3 c1_1_4 c1_1_5 c1_1_6 f1_1_0 f1_1_1 f1_1_2 f1_1_3 f1_1_4 f1_1_5 f1_1_6 s1_0 s1_1); have HS_2 := Lib.hid (SeensAt.ext (HS_1.out) hb2)) | (go_at_call 35; (with_reducible refine (K35.out _ (SeensAt.ext HV.out (by repeat (first | exact Ext.refl _ | assumption | refine Ext.alloc ?_ _ | refine Ext.drewN ?_ _ | refine ext_grow ?_ _ _ | refine Ext.setCell ?_ (by first | exact Nat.le_refl _ | omega | (simp; done) | (simp; omega)) _ | refine Ext.trans ?_ (by assumption))))).mono ?_); rintro E w1 ⟨rfl, hb1⟩; have A1 := Lib.hid (show At w1 [(w.heap.size, Obj.cells #[.int .i64 t.belt.step, .int .i64 t.belt.slip, .int .i64 t.belt.gate, .int .i64 t.belt.length, .int .i64 t.count, .int .i64 t.next, (.slice (some ⟨b, off, none⟩) t.parts.length cap)] 47), (w.heap.size + 1, Obj.cells #[.int .i64 0, .int .i64 0, .int .i64 0, .int .i64 0, .int .i64 0, .int .i64 0, (.slice none 0 0)] 47)] from At.ext hb1 (show At _ [(w.heap.size, Obj.cells #[.int .i64 t.belt.step, .int .i64 t.belt.slip, .int .i64 t.belt.gate, .int .i64 t.belt.length, .int .i64 t.count, .int .i64 t.next, (.slice (some ⟨b, off, none⟩) t.parts.length cap)] 47), (w.heap.size + 1, Obj.cells #[.int .i64 0, .int .i64 0, .int .i64 0, .int .i64 0, .int .i64 0, .int .i64 0, (.slice none 0 0)] 47)] from ⟨(by repeat (first | (refine blk_at _ _ ?_; (first | rfl | (simp only [size_one]; done))) | refine (blk_past _ _ (by simp only [size_one]; omega)).trans ?_)), (by repeat (first | (refine blk_at _ _ ?_; (first | rfl | (simp only [size_one]; done))) | refine (blk_past _ _ (by simp only [size_one]; omega)).trans ?_)), trivial⟩)); have E1 := Lib.hid (((show Ext w _ from (by repeat (first | exact Ext.refl _ | assumption | refine Ext.alloc ?_ _ | refine Ext.drewN ?_ _ | refine ext_grow ?_ _ _ | refine Ext.setCell ?_ (by first | exact Nat.le_refl _ | omega | (simp; done) | (simp; omega)) _ | refine Ext.trans ?_ (by assumption))))).trans hb1); obtain ⟨⟨c1_0_0, c1_0_1, c1_0_2, c1_0_3, c1_0_4, c1_0_5, c1_0_6⟩, f1_0_0, f1_0_1, f1_0_2, f1_0_3, f1_0_4, f1_0_5, f1_0_6⟩ := run_7 (At.at A1.out 0 rfl); have s1_0 : w.heap.size < w1.heap.size := At.lt A1.out 0 rfl; obtain ⟨⟨c1_1_0, c1_1_1, c1_1_2, c1_1_3, c1_1_4, c1_1_5, c1_1_6⟩, f1_1_0, f1_1_1, f1_1_2, f1_1_3, f1_1_4, f1_1_5, f1_1_6⟩ := run_7 (At.at A1.out 1 rfl); have s1_1 : w.heap.size + 1 < w1.heap.size := At.lt A1.out 1 rfl; have HS_1 := Lib.hid (SeensAt.ext ((SeensAt.ext HV.out (by repeat (first | exact Ext.refl _ | assumption | refine Ext.alloc ?_ _ | refine Ext.drewN ?_ _ | refine ext_grow ?_ _ _ | refine Ext.setCell ?_ (by first | exact Nat.le_refl _ | omega | (simp; done) | (simp; omega)) _ | refine Ext.trans ?_ (by assumption))))) hb1)))
      refine wp_region_quiet_below (by kernel_rfl) (by kernel_rfl) ?_
      repeat (go_big_quiet_step ((first | (go_at_call 54; with_reducible exact Calls.ext_of (w54 t.belt hok _)) | (go_at_call 55; with_reducible exact Calls.ext_of (W55.out _)))))
      refine wpQuiet_nil ?_
      intro w3 hw'
      obtain ⟨pq, hw''⟩ := hw'
      have hb3 := ext_of_regrown hw''
      clear hw'' pq
      have A3 := Lib.hid (show At w3 [(w.heap.size, Obj.cells #[.int .i64 t.belt.step, .int .i64 t.belt.slip, .int .i64 t.belt.gate, .int .i64 t.belt.length, .int .i64 t.count, .int .i64 t.next, (.slice (some ⟨b, off, none⟩) t.parts.length cap)] 47), (w.heap.size + 1, Obj.cells #[.int .i64 0, .int .i64 0, .int .i64 0, .int .i64 0, .int .i64 0, .int .i64 0, (.slice none 0 0)] 47)] from At.ext hb3 A2.out)
      have E3 := Lib.hid ((E2.out).trans hb3)
      obtain ⟨⟨c3_0_0, c3_0_1, c3_0_2, c3_0_3, c3_0_4, c3_0_5, c3_0_6⟩, f3_0_0, f3_0_1, f3_0_2, f3_0_3, f3_0_4, f3_0_5, f3_0_6⟩ := run_7 (At.at A3.out 0 rfl)
      have s3_0 : w.heap.size < w3.heap.size := At.lt A3.out 0 rfl
      obtain ⟨⟨c3_1_0, c3_1_1, c3_1_2, c3_1_3, c3_1_4, c3_1_5, c3_1_6⟩, f3_1_0, f3_1_1, f3_1_2, f3_1_3, f3_1_4, f3_1_5, f3_1_6⟩ := run_7 (At.at A3.out 1 rfl)
      have s3_1 : w.heap.size + 1 < w3.heap.size := At.lt A3.out 1 rfl
      (try clear c2_0_0 c2_0_1 c2_0_2 c2_0_3 c2_0_4 c2_0_5 c2_0_6 f2_0_0 f2_0_1 f2_0_2 f2_0_3 f2_0_4 f2_0_5 f2_0_6 c2_1_0 c2_1_1 c2_1_2 c2_1_3 c2_1_4 c2_1_5 c2_1_6 f2_1_0 f2_1_1 f2_1_2 f2_1_3 f2_1_4 f2_1_5 f2_1_6 s2_0 s2_1)
      have HS_3 := Lib.hid (SeensAt.ext (HS_2.out) hb3)
      clear hb3
      have y1 := E3.out.get y1
      have y2 := E3.out.get y2
      go_wp2
      go_quiet (fail)
      have hb4 : Ext w3 (w3.drewN nq) := (Ext.refl _).drewN nq
      generalize hw4 : w3.drewN nq = w4 at hb4 ⊢
      clear hw4
      have A4 := Lib.hid (show At w4 [(w.heap.size, Obj.cells #[.int .i64 t.belt.step, .int .i64 t.belt.slip, .int .i64 t.belt.gate, .int .i64 t.belt.length, .int .i64 t.count, .int .i64 t.next, (.slice (some ⟨b, off, none⟩) t.parts.length cap)] 47), (w.heap.size + 1, Obj.cells #[.int .i64 0, .int .i64 0, .int .i64 0, .int .i64 0, .int .i64 0, .int .i64 0, (.slice none 0 0)] 47)] from At.ext hb4 A3.out)
      have E4 := Lib.hid ((E3.out).trans hb4)
      obtain ⟨⟨c4_0_0, c4_0_1, c4_0_2, c4_0_3, c4_0_4, c4_0_5, c4_0_6⟩, f4_0_0, f4_0_1, f4_0_2, f4_0_3, f4_0_4, f4_0_5, f4_0_6⟩ := run_7 (At.at A4.out 0 rfl)
      have s4_0 : w.heap.size < w4.heap.size := At.lt A4.out 0 rfl
      obtain ⟨⟨c4_1_0, c4_1_1, c4_1_2, c4_1_3, c4_1_4, c4_1_5, c4_1_6⟩, f4_1_0, f4_1_1, f4_1_2, f4_1_3, f4_1_4, f4_1_5, f4_1_6⟩ := run_7 (At.at A4.out 1 rfl)
      have s4_1 : w.heap.size + 1 < w4.heap.size := At.lt A4.out 1 rfl
      (try clear c3_0_0 c3_0_1 c3_0_2 c3_0_3 c3_0_4 c3_0_5 c3_0_6 f3_0_0 f3_0_1 f3_0_2 f3_0_3 f3_0_4 f3_0_5 f3_0_6 c3_1_0 c3_1_1 c3_1_2 c3_1_3 c3_1_4 c3_1_5 c3_1_6 f3_1_0 f3_1_1 f3_1_2 f3_1_3 f3_1_4 f3_1_5 f3_1_6 s3_0 s3_1)
      have HS_4 := Lib.hid (SeensAt.ext (HS_3.out) hb4)
      clear hb4
      go_wp2_with (first | (go_at_call 65; (with_reducible refine (w65 t.parts _ _ HS_4.out hl).mono ?_); rintro E w5 ⟨v5, rfl, ho, hb5⟩; have A5 := Lib.hid (show At w5 [(w.heap.size, Obj.cells #[.int .i64 t.belt.step, .int .i64 t.belt.slip, .int .i64 t.belt.gate, .int .i64 t.belt.length, .int .i64 t.count, .int .i64 t.next, (.slice (some ⟨b, off, none⟩) t.parts.length cap)] 47), (w.heap.size + 1, Obj.cells #[.int .i64 0, .int .i64 0, .int .i64 0, .int .i64 0, .int .i64 0, .int .i64 0, (.slice none 0 0)] 47)] from At.ext hb5 A4.out); have E5 := Lib.hid ((E4.out).trans hb5); obtain ⟨⟨c5_0_0, c5_0_1, c5_0_2, c5_0_3, c5_0_4, c5_0_5, c5_0_6⟩, f5_0_0, f5_0_1, f5_0_2, f5_0_3, f5_0_4, f5_0_5, f5_0_6⟩ := run_7 (At.at A5.out 0 rfl); have s5_0 : w.heap.size < w5.heap.size := At.lt A5.out 0 rfl; obtain ⟨⟨c5_1_0, c5_1_1, c5_1_2, c5_1_3, c5_1_4, c5_1_5, c5_1_6⟩, f5_1_0, f5_1_1, f5_1_2, f5_1_3, f5_1_4, f5_1_5, f5_1_6⟩ := run_7 (At.at A5.out 1 rfl); have s5_1 : w.heap.size + 1 < w5.heap.size := At.lt A5.out 1 rfl; (try clear c4_0_0 c4_0_1 c4_0_2 c4_0_3 c4_0_4 c4_0_5 c4_0_6 f4_0_0 f4_0_1 f4_0_2 f4_0_3 f4_0_4 f4_0_5 f4_0_6 c4_1_0 c4_1_1 c4_1_2 c4_1_3 c4_1_4 c4_1_5 c4_1_6 f4_1_0 f4_1_1 f4_1_2 f4_1_3 f4_1_4 f4_1_5 f4_1_6 s4_0 s4_1); have HS_5 := Lib.hid (SeensAt.ext (HS_4.out) hb5); obtain ⟨g, cp, rfl, hgs, hcp⟩ := owns_some ho (by omega); have O5 := Lib.hid ho; clear ho; have zE : w.heap.size < g := Nat.lt_of_lt_of_le (At.lt A4.out 0 rfl) hgs; have zE1 : w.heap.size + 1 < g := Nat.lt_of_lt_of_le (At.lt A4.out 1 rfl) hgs; have zB0 : w.heap.size < w4.heap.size := At.lt A4.out 0 rfl; have zB1 : w.heap.size + 1 < w4.heap.size := At.lt A4.out 1 rfl; have zO := owns_block O5.out g rfl; have q1 := (O5.out.cellAt (i * 4 + 2) (by omega)).trans (seens_get t.parts i 2 hil (by omega)); have q2 := O5.out.frozenAt (i * 4 + 2); rw [HX.out] at q1))
      refine bodyPost_ret (results_row2 rfl _ _ (w.heap.size + 1) 47 _ (0, 0) _ rfl (store_7 (v0 := .int .i64 t.belt.step) (v1 := .int .i64 t.belt.slip) (v2 := .int .i64 t.belt.gate) (v3 := .int .i64 t.belt.length) (v4 := .int .i64 t.count) (v5 := .int .i64 t.next) (v6 := .slice (some ⟨g, 0, none⟩) t.parts.length cp) (At.at (At.other (b := g) (set_at _ g (i * 4 + 2) (.int .u8 v)) (by simp; omega) (show At _ [(w.heap.size, Obj.cells #[.int .i64 t.belt.step, .int .i64 t.belt.slip, .int .i64 t.belt.gate, .int .i64 t.belt.length, .int .i64 t.count, .int .i64 t.next, (.slice (some ⟨g, 0, none⟩) t.parts.length cp)] 47), (w.heap.size + 1, Obj.cells #[.int .i64 0, .int .i64 0, .int .i64 0, .int .i64 0, .int .i64 0, .int .i64 0, (.slice none 0 0)] 47)] from ⟨(st_one (At.at A5.out 0 rfl) 6 ((.slice (some ⟨g, 0, none⟩) t.parts.length cp))).1, (At.other (st_one (At.at A5.out 0 rfl) 6 ((.slice (some ⟨g, 0, none⟩) t.parts.length cp))).2.1 (by first | (simp; done) | (simp; omega)) (At.erase A5.out 0))⟩)) 1 rfl)).1 Try.underlying47 rfl info47) rfl ?_
      refine ⟨.slice (some ⟨g, 0, none⟩) t.parts.length cp, rfl, (show World.ownsRow _ _ 63 4 _ (told t i v).parts.length (seens (told t i v).parts) from ?_), (store_7 (v0 := .int .i64 t.belt.step) (v1 := .int .i64 t.belt.slip) (v2 := .int .i64 t.belt.gate) (v3 := .int .i64 t.belt.length) (v4 := .int .i64 t.count) (v5 := .int .i64 t.next) (v6 := .slice (some ⟨g, 0, none⟩) t.parts.length cp) (At.at (At.other (b := g) (set_at _ g (i * 4 + 2) (.int .u8 v)) (by simp; omega) (show At _ [(w.heap.size, Obj.cells #[.int .i64 t.belt.step, .int .i64 t.belt.slip, .int .i64 t.belt.gate, .int .i64 t.belt.length, .int .i64 t.count, .int .i64 t.next, (.slice (some ⟨g, 0, none⟩) t.parts.length cp)] 47), (w.heap.size + 1, Obj.cells #[.int .i64 0, .int .i64 0, .int .i64 0, .int .i64 0, .int .i64 0, .int .i64 0, (.slice none 0 0)] 47)] from ⟨(st_one (At.at A5.out 0 rfl) 6 ((.slice (some ⟨g, 0, none⟩) t.parts.length cp))).1, (At.other (st_one (At.at A5.out 0 rfl) 6 ((.slice (some ⟨g, 0, none⟩) t.parts.length cp))).2.1 (by first | (simp; done) | (simp; omega)) (At.erase A5.out 0))⟩)) 1 rfl)).2.2 w (by omega) ((((st_one (At.at A5.out 0 rfl) 6 ((.slice (some ⟨g, 0, none⟩) t.parts.length cp))).2.2 w (by omega) E5.out)).setCell (by simp; omega) _)⟩
      have h := ((own_set (bo := w.heap.size) (o := 6) (u := .slice (some ⟨g, 0, none⟩) t.parts.length cp) O5.out (by omega)).stored (i * 4 + 2) (.int .u8 v)).1
      rw [← seens_verdict t i v hil HX.out] at h
      rw [told_len]
      exact owns_base (own_seven h (by omega)) (by omega)
  · rw [if_pos (.inl g1)]
    have t1 : (xv != 0) = true := by simpa using g1
    clear g1
    go_enter Try.func33, Try.ntmps33
    go_wp2_with (first | (go_at_call 63; (with_reducible refine (w63_yes t.parts _ id _ HS_1.out hl hr.out hp.out).mono ?_); rintro E w2 ⟨rfl, hb2⟩; have A2 := Lib.hid (show At w2 [(w.heap.size, Obj.cells #[.int .i64 t.belt.step, .int .i64 t.belt.slip, .int .i64 t.belt.gate, .int .i64 t.belt.length, .int .i64 t.count, .int .i64 t.next, (.slice (some ⟨b, off, none⟩) t.parts.length cap)] 47), (w.heap.size + 1, Obj.cells #[.int .i64 0, .int .i64 0, .int .i64 0, .int .i64 0, .int .i64 0, .int .i64 0, (.slice none 0 0)] 47)] from At.ext hb2 A1.out); have E2 := Lib.hid ((E1.out).trans hb2); obtain ⟨⟨c2_0_0, c2_0_1, c2_0_2, c2_0_3, c2_0_4, c2_0_5, c2_0_6⟩, f2_0_0, f2_0_1, f2_0_2, f2_0_3, f2_0_4, f2_0_5, f2_0_6⟩ := run_7 (At.at A2.out 0 rfl); have s2_0 : w.heap.size < w2.heap.size := At.lt A2.out 0 rfl; obtain ⟨⟨c2_1_0, c2_1_1, c2_1_2, c2_1_3, c2_1_4, c2_1_5, c2_1_6⟩, f2_1_0, f2_1_1, f2_1_2, f2_1_3, f2_1_4, f2_1_5, f2_1_6⟩ := run_7 (At.at A2.out 1 rfl); have s2_1 : w.heap.size + 1 < w2.heap.size := At.lt A2.out 1 rfl; (try clear c1_0_0 c1_0_1 c1_0_2 c1_0_3 c1_0_4 c1_0_5 c1_0_6 f1_0_0 f1_0_1 f1_0_2 f1_0_3 f1_0_4 f1_0_5 f1_0_6 c1_1_0 c1_1_1 c1_1_2 c1_1_3 c1_1_4 c1_1_5 c1_1_6 f1_1_0 f1_1_1 f1_1_2 f1_1_3 f1_1_4 f1_1_5 f1_1_6 s1_0 s1_1); have HS_2 := Lib.hid (SeensAt.ext (HS_1.out) hb2)) | (go_at_call 35; (with_reducible refine (K35.out _ (SeensAt.ext HV.out (by repeat (first | exact Ext.refl _ | assumption | refine Ext.alloc ?_ _ | refine Ext.drewN ?_ _ | refine ext_grow ?_ _ _ | refine Ext.setCell ?_ (by first | exact Nat.le_refl _ | omega | (simp; done) | (simp; omega)) _ | refine Ext.trans ?_ (by assumption))))).mono ?_); rintro E w1 ⟨rfl, hb1⟩; have A1 := Lib.hid (show At w1 [(w.heap.size, Obj.cells #[.int .i64 t.belt.step, .int .i64 t.belt.slip, .int .i64 t.belt.gate, .int .i64 t.belt.length, .int .i64 t.count, .int .i64 t.next, (.slice (some ⟨b, off, none⟩) t.parts.length cap)] 47), (w.heap.size + 1, Obj.cells #[.int .i64 0, .int .i64 0, .int .i64 0, .int .i64 0, .int .i64 0, .int .i64 0, (.slice none 0 0)] 47)] from At.ext hb1 (show At _ [(w.heap.size, Obj.cells #[.int .i64 t.belt.step, .int .i64 t.belt.slip, .int .i64 t.belt.gate, .int .i64 t.belt.length, .int .i64 t.count, .int .i64 t.next, (.slice (some ⟨b, off, none⟩) t.parts.length cap)] 47), (w.heap.size + 1, Obj.cells #[.int .i64 0, .int .i64 0, .int .i64 0, .int .i64 0, .int .i64 0, .int .i64 0, (.slice none 0 0)] 47)] from ⟨(by repeat (first | (refine blk_at _ _ ?_; (first | rfl | (simp only [size_one]; done))) | refine (blk_past _ _ (by simp only [size_one]; omega)).trans ?_)), (by repeat (first | (refine blk_at _ _ ?_; (first | rfl | (simp only [size_one]; done))) | refine (blk_past _ _ (by simp only [size_one]; omega)).trans ?_)), trivial⟩)); have E1 := Lib.hid (((show Ext w _ from (by repeat (first | exact Ext.refl _ | assumption | refine Ext.alloc ?_ _ | refine Ext.drewN ?_ _ | refine ext_grow ?_ _ _ | refine Ext.setCell ?_ (by first | exact Nat.le_refl _ | omega | (simp; done) | (simp; omega)) _ | refine Ext.trans ?_ (by assumption))))).trans hb1); obtain ⟨⟨c1_0_0, c1_0_1, c1_0_2, c1_0_3, c1_0_4, c1_0_5, c1_0_6⟩, f1_0_0, f1_0_1, f1_0_2, f1_0_3, f1_0_4, f1_0_5, f1_0_6⟩ := run_7 (At.at A1.out 0 rfl); have s1_0 : w.heap.size < w1.heap.size := At.lt A1.out 0 rfl; obtain ⟨⟨c1_1_0, c1_1_1, c1_1_2, c1_1_3, c1_1_4, c1_1_5, c1_1_6⟩, f1_1_0, f1_1_1, f1_1_2, f1_1_3, f1_1_4, f1_1_5, f1_1_6⟩ := run_7 (At.at A1.out 1 rfl); have s1_1 : w.heap.size + 1 < w1.heap.size := At.lt A1.out 1 rfl; have HS_1 := Lib.hid (SeensAt.ext ((SeensAt.ext HV.out (by repeat (first | exact Ext.refl _ | assumption | refine Ext.alloc ?_ _ | refine Ext.drewN ?_ _ | refine ext_grow ?_ _ _ | refine Ext.setCell ?_ (by first | exact Nat.le_refl _ | omega | (simp; done) | (simp; omega)) _ | refine Ext.trans ?_ (by assumption))))) hb1)))
    refine wp_region_quiet_below (by kernel_rfl) (by kernel_rfl) ?_
    repeat (go_big_quiet_step ((first | (go_at_call 54; with_reducible exact Calls.ext_of (w54 t.belt hok _)) | (go_at_call 55; with_reducible exact Calls.ext_of (W55.out _)))))
    refine wpQuiet_nil ?_
    intro w3 hw'
    obtain ⟨pq, hw''⟩ := hw'
    have hb3 := ext_of_regrown hw''
    clear hw'' pq
    have A3 := Lib.hid (show At w3 [(w.heap.size, Obj.cells #[.int .i64 t.belt.step, .int .i64 t.belt.slip, .int .i64 t.belt.gate, .int .i64 t.belt.length, .int .i64 t.count, .int .i64 t.next, (.slice (some ⟨b, off, none⟩) t.parts.length cap)] 47), (w.heap.size + 1, Obj.cells #[.int .i64 0, .int .i64 0, .int .i64 0, .int .i64 0, .int .i64 0, .int .i64 0, (.slice none 0 0)] 47)] from At.ext hb3 A2.out)
    have E3 := Lib.hid ((E2.out).trans hb3)
    obtain ⟨⟨c3_0_0, c3_0_1, c3_0_2, c3_0_3, c3_0_4, c3_0_5, c3_0_6⟩, f3_0_0, f3_0_1, f3_0_2, f3_0_3, f3_0_4, f3_0_5, f3_0_6⟩ := run_7 (At.at A3.out 0 rfl)
    have s3_0 : w.heap.size < w3.heap.size := At.lt A3.out 0 rfl
    obtain ⟨⟨c3_1_0, c3_1_1, c3_1_2, c3_1_3, c3_1_4, c3_1_5, c3_1_6⟩, f3_1_0, f3_1_1, f3_1_2, f3_1_3, f3_1_4, f3_1_5, f3_1_6⟩ := run_7 (At.at A3.out 1 rfl)
    have s3_1 : w.heap.size + 1 < w3.heap.size := At.lt A3.out 1 rfl
    (try clear c2_0_0 c2_0_1 c2_0_2 c2_0_3 c2_0_4 c2_0_5 c2_0_6 f2_0_0 f2_0_1 f2_0_2 f2_0_3 f2_0_4 f2_0_5 f2_0_6 c2_1_0 c2_1_1 c2_1_2 c2_1_3 c2_1_4 c2_1_5 c2_1_6 f2_1_0 f2_1_1 f2_1_2 f2_1_3 f2_1_4 f2_1_5 f2_1_6 s2_0 s2_1)
    have HS_3 := Lib.hid (SeensAt.ext (HS_2.out) hb3)
    clear hb3
    have y1 := E3.out.get y1
    have y2 := E3.out.get y2
    go_wp2
    go_quiet (fail)
    have hb4 : Ext w3 (w3.drewN nq) := (Ext.refl _).drewN nq
    generalize hw4 : w3.drewN nq = w4 at hb4 ⊢
    clear hw4
    have A4 := Lib.hid (show At w4 [(w.heap.size, Obj.cells #[.int .i64 t.belt.step, .int .i64 t.belt.slip, .int .i64 t.belt.gate, .int .i64 t.belt.length, .int .i64 t.count, .int .i64 t.next, (.slice (some ⟨b, off, none⟩) t.parts.length cap)] 47), (w.heap.size + 1, Obj.cells #[.int .i64 0, .int .i64 0, .int .i64 0, .int .i64 0, .int .i64 0, .int .i64 0, (.slice none 0 0)] 47)] from At.ext hb4 A3.out)
    have E4 := Lib.hid ((E3.out).trans hb4)
    obtain ⟨⟨c4_0_0, c4_0_1, c4_0_2, c4_0_3, c4_0_4, c4_0_5, c4_0_6⟩, f4_0_0, f4_0_1, f4_0_2, f4_0_3, f4_0_4, f4_0_5, f4_0_6⟩ := run_7 (At.at A4.out 0 rfl)
    have s4_0 : w.heap.size < w4.heap.size := At.lt A4.out 0 rfl
    obtain ⟨⟨c4_1_0, c4_1_1, c4_1_2, c4_1_3, c4_1_4, c4_1_5, c4_1_6⟩, f4_1_0, f4_1_1, f4_1_2, f4_1_3, f4_1_4, f4_1_5, f4_1_6⟩ := run_7 (At.at A4.out 1 rfl)
    have s4_1 : w.heap.size + 1 < w4.heap.size := At.lt A4.out 1 rfl
    (try clear c3_0_0 c3_0_1 c3_0_2 c3_0_3 c3_0_4 c3_0_5 c3_0_6 f3_0_0 f3_0_1 f3_0_2 f3_0_3 f3_0_4 f3_0_5 f3_0_6 c3_1_0 c3_1_1 c3_1_2 c3_1_3 c3_1_4 c3_1_5 c3_1_6 f3_1_0 f3_1_1 f3_1_2 f3_1_3 f3_1_4 f3_1_5 f3_1_6 s3_0 s3_1)
    have HS_4 := Lib.hid (SeensAt.ext (HS_3.out) hb4)
    clear hb4
    go_wp2
    refine bodyPost_ret (results_row2 rfl _ _ (w.heap.size + 1) 47 _ (0, 0) _ rfl (store_7 (v0 := .int .i64 0) (v1 := .int .i64 0) (v2 := .int .i64 0) (v3 := .int .i64 0) (v4 := .int .i64 0) (v5 := .int .i64 0) (v6 := .slice none 0 0) (At.at A4.out 1 rfl)).1 Try.underlying47 rfl info47) rfl ?_
    exact OwnTell.bare ((store_7 (v0 := .int .i64 0) (v1 := .int .i64 0) (v2 := .int .i64 0) (v3 := .int .i64 0) (v4 := .int .i64 0) (v5 := .int .i64 0) (v6 := .slice none 0 0) (At.at A4.out 1 rfl)).2.2 w (by omega) E4.out)
end Go.Proofs.Ytcbimfaneinpkaa
