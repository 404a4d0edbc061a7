/- 'MarkLines' returns true. -/
import Derived.Test.YtlnofbdhamingaaDoorAliveC
import Derived.Test.YtlnofbdhamingaaDoorLinePlain
import Derived.Test.YtlnofbdhamingaaDoorGLine
import Derived.Test.YtlnofbdhamingaaDoorGPrint
set_option linter.unusedVariables false
set_option linter.unusedSimpArgs false
namespace Go.Proofs.YtlnofbdhamingaaDoor
open Go.RowKit Go.Sort

theorem ints_len {w : World} {v : Value} {l : List Int} (h : IntsAt w v l) : l.length ≤ maxLen := by
  obtain ⟨-, ao, cap, he, h1, h2, -⟩ := h
  omega
theorem nums_get {s : ByteArray} {i : Nat} (h : i < s.size) : (numsOf s).getD i 0 = (s[i]'h).toNat := by
  rw [List.getD_eq_getElem?_getD, numsOf, List.getElem?_map, List.getElem?_eq_getElem (by rw [size_digs]; exact h)]
  rfl
theorem strN_get {t : List Nat} {i : Nat} (h : i < (strN t).size) : (strN t)[i]'h = UInt8.ofNat (t.getD i 0) := by
  have hl : i < t.length := by rw [strN_size] at h; exact h
  have e : (strN t)[i]'h = ((t.map UInt8.ofNat).toArray)[i]'(by simpa using hl) := rfl
  rw [e, List.getD_eq_getElem?_getD, List.getElem?_eq_getElem hl]
  simp
/-- a line that is read with question marks -/
theorem line_str {t : List Nat} {s : ByteArray} (hl : t.length = s.size) (h : ∀ i, i < s.size → t.getD i 0 = (numsOf s).getD i 0 ∨ t.getD i 0 = 63) :
    (strN t).size = s.size ∧ ∀ i (h1 : i < (strN t).size) (h2 : i < s.size), (strN t)[i]'h1 = s[i]'h2 ∨ (strN t)[i]'h1 = 63 := by
  refine ⟨by rw [strN_size, hl], fun i h1 h2 => ?_⟩
  rw [strN_get h1]
  rcases h i h2 with h9 | h9
  · rw [h9, nums_get h2]
    exact .inl (by simp)
  · rw [h9]
    exact .inr rfl
set_option maxRecDepth 100000 in
set_option maxHeartbeats 8000000 in
theorem lines_walk (s : ByteArray) (sz ink paper : Int) (c : Con) (need : Int) (w : World) (hT : Tabs w) (hs : s.size ≤ maxLen) :
    Calls Tryd.prog 14 #[.string s, .int .i64 sz, .int .i64 ink, .int .i64 paper, conVal c, .int .i64 need] w fun e w' => e = .returned (.bool true) ∧ Ext w w' := by
  have K0 := Lib.hid (fun w' (h : Ext w w') => l_alive w' (hT.ext h))
  have K2 := Lib.hid (fun w' => r_contrast c w')
  obtain ⟨⟨p, e⟩, hp⟩ : ∃ r, printI s sz ink paper = r := ⟨_, rfl⟩
  have KP := Lib.hid (fun w' => by
    have k := c_Print s sz ink paper w' hs
    rw [hp] at k
    exact (show Calls Tryd.prog 36 #[.string s, .int .i64 sz, .int .i64 ink, .int .i64 paper] w' fun e' w'' => ∃ v', e' = .returned (.tuple #[.agg #[.int .i64 p.w, .int .i64 p.h, v'], .int .i64 e]) ∧ IntsAt w'' v' p.pix ∧ Ext w' w'' from k))
  have KL := Lib.hid (fun w' v n (h : IntsAt w' v p.pix) => c_ReadLine p v sz c n w' h (ints_len h))
  have HPr := Lib.hid (fun (he : e = 0) (hc : c.Ok) h1 h2 => line_printed (show printI s sz ink paper = (p, 0) by rw [hp, he]) hc h1 h2)
  obtain ⟨lo, hi⟩ := c
  obtain ⟨pw, ph, pp⟩ := p
  unfold conVal at K2 KL ⊢
  unfold imgVal at KL
  dsimp only at K2 KL KP ⊢
  have HS := Lib.hid hs
  clear hT hp hs
  by_cases he : e = 0
  case neg =>
    have q0 : (e != 0) = true := by rw [bne_iff_ne]; exact he
    clear he K2 KL HPr
    as_aux_lemma =>
      go_enter Tryd.func14, Tryd.ntmps14
      go_wp2_with (first
          | (go_at_call 36; (with_reducible refine (KP.out _).mono ?_); rintro E w2 ⟨v2, rfl, i2, hb2⟩; have A2 := Lib.hid (show At w2 [(w.heap.size, Obj.cells #[.int .i64 lo, .int .i64 hi] 46)] from At.ext hb2 A1.out); have E2 := Lib.hid ((E1.out).trans hb2); obtain ⟨⟨c2_0_0, c2_0_1⟩, f2_0_0, f2_0_1⟩ := run_2 (At.at A2.out 0 rfl); have s2_0 : w.heap.size < w2.heap.size := At.lt A2.out 0 rfl; (try clear c1_0_0 c1_0_1 f1_0_0 f1_0_1 s1_0); obtain ⟨-, po2, pc2, rfl, -⟩ := id i2; have I2 := Lib.hid i2)
          | (go_at_call 38; (with_reducible refine (K0.out _ (show Ext w (World.alloc w (Obj.cells #[.int .i64 lo, .int .i64 hi] 46)) from (by repeat (first | exact Ext.refl _ | assumption | refine Ext.alloc ?_ _ | refine Ext.drewN ?_ _ | refine ext_grow ?_ _ _ | refine Ext.setCell ?_ (by first | exact Nat.le_refl _ | omega | (simp; done) | (simp; omega)) _ | refine Ext.trans ?_ (by assumption))))).mono ?_); rintro E w1 ⟨rfl, hb1⟩; have A1 := Lib.hid (show At w1 [(w.heap.size, Obj.cells #[.int .i64 lo, .int .i64 hi] 46)] from At.ext hb1 (show At (World.alloc w (Obj.cells #[.int .i64 lo, .int .i64 hi] 46)) [(w.heap.size, Obj.cells #[.int .i64 lo, .int .i64 hi] 46)] from ⟨(by repeat (first | (refine blk_at _ _ ?_; (first | rfl | (simp only [size_one]; done))) | refine (blk_past _ _ (by simp only [size_one]; omega)).trans ?_)), trivial⟩)); have E1 := Lib.hid (((show Ext w (World.alloc w (Obj.cells #[.int .i64 lo, .int .i64 hi] 46)) from (by repeat (first | exact Ext.refl _ | assumption | refine Ext.alloc ?_ _ | refine Ext.drewN ?_ _ | refine ext_grow ?_ _ _ | refine Ext.setCell ?_ (by first | exact Nat.le_refl _ | omega | (simp; done) | (simp; omega)) _ | refine Ext.trans ?_ (by assumption))))).trans hb1); obtain ⟨⟨c1_0_0, c1_0_1⟩, f1_0_0, f1_0_1⟩ := run_2 (At.at A1.out 0 rfl); have s1_0 : w.heap.size < w1.heap.size := At.lt A1.out 0 rfl))
      go_ret
      exact ⟨rfl, ((E2.out).alloc _)⟩
  rw [he] at KP
  by_cases hc : (⟨lo, hi⟩ : Con).Ok
  case neg =>
    rw [decide_eq_false hc] at K2
    clear hc he KL HPr
    as_aux_lemma =>
      go_enter Tryd.func14, Tryd.ntmps14
      go_wp2_with (first
          | (go_at_call 44; (with_reducible refine (K2.out _).mono ?_); rintro E w3 ⟨rfl, hb3⟩; have A3 := Lib.hid (show At w3 [(w2.heap.size, Obj.cells #[.int .i64 pw, .int .i64 ph, .slice po2 pp.length pc2] 44), (w.heap.size, Obj.cells #[.int .i64 lo, .int .i64 hi] 46)] from At.ext hb3 (show At (World.alloc w2 (Obj.cells #[.int .i64 pw, .int .i64 ph, .slice po2 pp.length pc2] 44)) [(w2.heap.size, Obj.cells #[.int .i64 pw, .int .i64 ph, .slice po2 pp.length pc2] 44), (w.heap.size, Obj.cells #[.int .i64 lo, .int .i64 hi] 46)] from ⟨one_first _ _, At.alloc A2.out _⟩)); have E3 := Lib.hid ((((E2.out).alloc _)).trans hb3); obtain ⟨⟨c3_0_0, c3_0_1, c3_0_2⟩, f3_0_0, f3_0_1, f3_0_2⟩ := run_3 (At.at A3.out 0 rfl); have s3_0 : w2.heap.size < w3.heap.size := At.lt A3.out 0 rfl; obtain ⟨⟨c3_1_0, c3_1_1⟩, f3_1_0, f3_1_1⟩ := run_2 (At.at A3.out 1 rfl); have s3_1 : w.heap.size < w3.heap.size := At.lt A3.out 1 rfl; (try clear c2_0_0 c2_0_1 f2_0_0 f2_0_1); have I_3 := Lib.hid (IntsAt.ext ((IntsAt.ext I2.out ((Ext.refl _).alloc _))) hb3))
          | (go_at_call 36; (with_reducible refine (KP.out _).mono ?_); rintro E w2 ⟨v2, rfl, i2, hb2⟩; have A2 := Lib.hid (show At w2 [(w.heap.size, Obj.cells #[.int .i64 lo, .int .i64 hi] 46)] from At.ext hb2 A1.out); have E2 := Lib.hid ((E1.out).trans hb2); obtain ⟨⟨c2_0_0, c2_0_1⟩, f2_0_0, f2_0_1⟩ := run_2 (At.at A2.out 0 rfl); have s2_0 : w.heap.size < w2.heap.size := At.lt A2.out 0 rfl; (try clear c1_0_0 c1_0_1 f1_0_0 f1_0_1 s1_0); obtain ⟨-, po2, pc2, rfl, -⟩ := id i2; have I2 := Lib.hid i2)
          | (go_at_call 38; (with_reducible refine (K0.out _ (show Ext w (World.alloc w (Obj.cells #[.int .i64 lo, .int .i64 hi] 46)) from (by repeat (first | exact Ext.refl _ | assumption | refine Ext.alloc ?_ _ | refine Ext.drewN ?_ _ | refine ext_grow ?_ _ _ | refine Ext.setCell ?_ (by first | exact Nat.le_refl _ | omega | (simp; done) | (simp; omega)) _ | refine Ext.trans ?_ (by assumption))))).mono ?_); rintro E w1 ⟨rfl, hb1⟩; have A1 := Lib.hid (show At w1 [(w.heap.size, Obj.cells #[.int .i64 lo, .int .i64 hi] 46)] from At.ext hb1 (show At (World.alloc w (Obj.cells #[.int .i64 lo, .int .i64 hi] 46)) [(w.heap.size, Obj.cells #[.int .i64 lo, .int .i64 hi] 46)] from ⟨(by repeat (first | (refine blk_at _ _ ?_; (first | rfl | (simp only [size_one]; done))) | refine (blk_past _ _ (by simp only [size_one]; omega)).trans ?_)), trivial⟩)); have E1 := Lib.hid (((show Ext w (World.alloc w (Obj.cells #[.int .i64 lo, .int .i64 hi] 46)) from (by repeat (first | exact Ext.refl _ | assumption | refine Ext.alloc ?_ _ | refine Ext.drewN ?_ _ | refine ext_grow ?_ _ _ | refine Ext.setCell ?_ (by first | exact Nat.le_refl _ | omega | (simp; done) | (simp; omega)) _ | refine Ext.trans ?_ (by assumption))))).trans hb1); obtain ⟨⟨c1_0_0, c1_0_1⟩, f1_0_0, f1_0_1⟩ := run_2 (At.at A1.out 0 rfl); have s1_0 : w.heap.size < w1.heap.size := At.lt A1.out 0 rfl))
      go_ret
      exact ⟨rfl, E3.out⟩
  rw [decide_eq_true hc] at K2
  by_cases c1 : lo < ink
  · clear hc he KL HPr
    as_aux_lemma =>
      go_enter Tryd.func14, Tryd.ntmps14
      go_wp2_with (first
          | (go_at_call 44; (with_reducible refine (K2.out _).mono ?_); rintro E w3 ⟨rfl, hb3⟩; have A3 := Lib.hid (show At w3 [(w2.heap.size, Obj.cells #[.int .i64 pw, .int .i64 ph, .slice po2 pp.length pc2] 44), (w.heap.size, Obj.cells #[.int .i64 lo, .int .i64 hi] 46)] from At.ext hb3 (show At (World.alloc w2 (Obj.cells #[.int .i64 pw, .int .i64 ph, .slice po2 pp.length pc2] 44)) [(w2.heap.size, Obj.cells #[.int .i64 pw, .int .i64 ph, .slice po2 pp.length pc2] 44), (w.heap.size, Obj.cells #[.int .i64 lo, .int .i64 hi] 46)] from ⟨one_first _ _, At.alloc A2.out _⟩)); have E3 := Lib.hid ((((E2.out).alloc _)).trans hb3); obtain ⟨⟨c3_0_0, c3_0_1, c3_0_2⟩, f3_0_0, f3_0_1, f3_0_2⟩ := run_3 (At.at A3.out 0 rfl); have s3_0 : w2.heap.size < w3.heap.size := At.lt A3.out 0 rfl; obtain ⟨⟨c3_1_0, c3_1_1⟩, f3_1_0, f3_1_1⟩ := run_2 (At.at A3.out 1 rfl); have s3_1 : w.heap.size < w3.heap.size := At.lt A3.out 1 rfl; (try clear c2_0_0 c2_0_1 f2_0_0 f2_0_1); have I_3 := Lib.hid (IntsAt.ext ((IntsAt.ext I2.out ((Ext.refl _).alloc _))) hb3))
          | (go_at_call 36; (with_reducible refine (KP.out _).mono ?_); rintro E w2 ⟨v2, rfl, i2, hb2⟩; have A2 := Lib.hid (show At w2 [(w.heap.size, Obj.cells #[.int .i64 lo, .int .i64 hi] 46)] from At.ext hb2 A1.out); have E2 := Lib.hid ((E1.out).trans hb2); obtain ⟨⟨c2_0_0, c2_0_1⟩, f2_0_0, f2_0_1⟩ := run_2 (At.at A2.out 0 rfl); have s2_0 : w.heap.size < w2.heap.size := At.lt A2.out 0 rfl; (try clear c1_0_0 c1_0_1 f1_0_0 f1_0_1 s1_0); obtain ⟨-, po2, pc2, rfl, -⟩ := id i2; have I2 := Lib.hid i2)
          | (go_at_call 38; (with_reducible refine (K0.out _ (show Ext w (World.alloc w (Obj.cells #[.int .i64 lo, .int .i64 hi] 46)) from (by repeat (first | exact Ext.refl _ | assumption | refine Ext.alloc ?_ _ | refine Ext.drewN ?_ _ | refine ext_grow ?_ _ _ | refine Ext.setCell ?_ (by first | exact Nat.le_refl _ | omega | (simp; done) | (simp; omega)) _ | refine Ext.trans ?_ (by assumption))))).mono ?_); rintro E w1 ⟨rfl, hb1⟩; have A1 := Lib.hid (show At w1 [(w.heap.size, Obj.cells #[.int .i64 lo, .int .i64 hi] 46)] from At.ext hb1 (show At (World.alloc w (Obj.cells #[.int .i64 lo, .int .i64 hi] 46)) [(w.heap.size, Obj.cells #[.int .i64 lo, .int .i64 hi] 46)] from ⟨(by repeat (first | (refine blk_at _ _ ?_; (first | rfl | (simp only [size_one]; done))) | refine (blk_past _ _ (by simp only [size_one]; omega)).trans ?_)), trivial⟩)); have E1 := Lib.hid (((show Ext w (World.alloc w (Obj.cells #[.int .i64 lo, .int .i64 hi] 46)) from (by repeat (first | exact Ext.refl _ | assumption | refine Ext.alloc ?_ _ | refine Ext.drewN ?_ _ | refine ext_grow ?_ _ _ | refine Ext.setCell ?_ (by first | exact Nat.le_refl _ | omega | (simp; done) | (simp; omega)) _ | refine Ext.trans ?_ (by assumption))))).trans hb1); obtain ⟨⟨c1_0_0, c1_0_1⟩, f1_0_0, f1_0_1⟩ := run_2 (At.at A1.out 0 rfl); have s1_0 : w.heap.size < w1.heap.size := At.lt A1.out 0 rfl))
      go_ret
      exact ⟨rfl, E3.out⟩
  by_cases c2 : paper < hi
  · clear hc he KL HPr
    as_aux_lemma =>
      go_enter Tryd.func14, Tryd.ntmps14
      go_wp2_with (first
          | (go_at_call 44; (with_reducible refine (K2.out _).mono ?_); rintro E w3 ⟨rfl, hb3⟩; have A3 := Lib.hid (show At w3 [(w2.heap.size, Obj.cells #[.int .i64 pw, .int .i64 ph, .slice po2 pp.length pc2] 44), (w.heap.size, Obj.cells #[.int .i64 lo, .int .i64 hi] 46)] from At.ext hb3 (show At (World.alloc w2 (Obj.cells #[.int .i64 pw, .int .i64 ph, .slice po2 pp.length pc2] 44)) [(w2.heap.size, Obj.cells #[.int .i64 pw, .int .i64 ph, .slice po2 pp.length pc2] 44), (w.heap.size, Obj.cells #[.int .i64 lo, .int .i64 hi] 46)] from ⟨one_first _ _, At.alloc A2.out _⟩)); have E3 := Lib.hid ((((E2.out).alloc _)).trans hb3); obtain ⟨⟨c3_0_0, c3_0_1, c3_0_2⟩, f3_0_0, f3_0_1, f3_0_2⟩ := run_3 (At.at A3.out 0 rfl); have s3_0 : w2.heap.size < w3.heap.size := At.lt A3.out 0 rfl; obtain ⟨⟨c3_1_0, c3_1_1⟩, f3_1_0, f3_1_1⟩ := run_2 (At.at A3.out 1 rfl); have s3_1 : w.heap.size < w3.heap.size := At.lt A3.out 1 rfl; (try clear c2_0_0 c2_0_1 f2_0_0 f2_0_1); have I_3 := Lib.hid (IntsAt.ext ((IntsAt.ext I2.out ((Ext.refl _).alloc _))) hb3))
          | (go_at_call 36; (with_reducible refine (KP.out _).mono ?_); rintro E w2 ⟨v2, rfl, i2, hb2⟩; have A2 := Lib.hid (show At w2 [(w.heap.size, Obj.cells #[.int .i64 lo, .int .i64 hi] 46)] from At.ext hb2 A1.out); have E2 := Lib.hid ((E1.out).trans hb2); obtain ⟨⟨c2_0_0, c2_0_1⟩, f2_0_0, f2_0_1⟩ := run_2 (At.at A2.out 0 rfl); have s2_0 : w.heap.size < w2.heap.size := At.lt A2.out 0 rfl; (try clear c1_0_0 c1_0_1 f1_0_0 f1_0_1 s1_0); obtain ⟨-, po2, pc2, rfl, -⟩ := id i2; have I2 := Lib.hid i2)
          | (go_at_call 38; (with_reducible refine (K0.out _ (show Ext w (World.alloc w (Obj.cells #[.int .i64 lo, .int .i64 hi] 46)) from (by repeat (first | exact Ext.refl _ | assumption | refine Ext.alloc ?_ _ | refine Ext.drewN ?_ _ | refine ext_grow ?_ _ _ | refine Ext.setCell ?_ (by first | exact Nat.le_refl _ | omega | (simp; done) | (simp; omega)) _ | refine Ext.trans ?_ (by assumption))))).mono ?_); rintro E w1 ⟨rfl, hb1⟩; have A1 := Lib.hid (show At w1 [(w.heap.size, Obj.cells #[.int .i64 lo, .int .i64 hi] 46)] from At.ext hb1 (show At (World.alloc w (Obj.cells #[.int .i64 lo, .int .i64 hi] 46)) [(w.heap.size, Obj.cells #[.int .i64 lo, .int .i64 hi] 46)] from ⟨(by repeat (first | (refine blk_at _ _ ?_; (first | rfl | (simp only [size_one]; done))) | refine (blk_past _ _ (by simp only [size_one]; omega)).trans ?_)), trivial⟩)); have E1 := Lib.hid (((show Ext w (World.alloc w (Obj.cells #[.int .i64 lo, .int .i64 hi] 46)) from (by repeat (first | exact Ext.refl _ | assumption | refine Ext.alloc ?_ _ | refine Ext.drewN ?_ _ | refine ext_grow ?_ _ _ | refine Ext.setCell ?_ (by first | exact Nat.le_refl _ | omega | (simp; done) | (simp; omega)) _ | refine Ext.trans ?_ (by assumption))))).trans hb1); obtain ⟨⟨c1_0_0, c1_0_1⟩, f1_0_0, f1_0_1⟩ := run_2 (At.at A1.out 0 rfl); have s1_0 : w.heap.size < w1.heap.size := At.lt A1.out 0 rfl))
      go_ret
      exact ⟨rfl, E3.out⟩
  obtain ⟨hLO, ms, hms, hall⟩ := HPr.out he hc (show ink ≤ lo by omega) (show hi ≤ paper by omega)
  have one : ∀ n : Nat, n ≤ 1 → lineI ⟨pw, ph, pp⟩ sz ⟨lo, hi⟩ (n : Int) = (numsOf s, 0) := fun n hn => by
    obtain ⟨t, h1, -, -, h4⟩ := hall n (by omega)
    rw [h1, h4 hn]
  have KA := Lib.hid (fun w' v (h : IntsAt w' v pp) => by
    have k := KL.out w' v 0 h
    rw [show (0 : Int) = ((0 : Nat) : Int) from rfl, one 0 (by omega)] at k
    unfold StrErr at k
    dsimp only at k
    rw [strN_nums] at k
    exact (show Calls Tryd.prog 46 #[.agg #[.int .i64 pw, .int .i64 ph, v], .int .i64 sz, .agg #[.int .i64 lo, .int .i64 hi], .int .i64 0] w' fun e w'' => e = .returned (.tuple #[.string s, .int .i64 0]) ∧ Ext w' w'' from k))
  have KB := Lib.hid (fun w' v (h : IntsAt w' v pp) => by
    have k := KL.out w' v 1 h
    rw [show (1 : Int) = ((1 : Nat) : Int) from rfl, one 1 (by omega)] at k
    unfold StrErr at k
    dsimp only at k
    rw [strN_nums] at k
    exact (show Calls Tryd.prog 46 #[.agg #[.int .i64 pw, .int .i64 ph, v], .int .i64 sz, .agg #[.int .i64 lo, .int .i64 hi], .int .i64 1] w' fun e w'' => e = .returned (.tuple #[.string s, .int .i64 0]) ∧ Ext w' w'' from k))
  by_cases hn : 0 ≤ need ∧ need ≤ 15
  case neg =>
    have KC := Lib.hid (fun w' v (h : IntsAt w' v pp) => by
      have k := KL.out w' v need h
      rw [line_bad hms hn] at k
      exact (show Calls Tryd.prog 46 #[.agg #[.int .i64 pw, .int .i64 ph, v], .int .i64 sz, .agg #[.int .i64 lo, .int .i64 hi], .int .i64 need] w' fun e w'' => e = .returned (.tuple #[.string (strN []), .int .i64 2]) ∧ Ext w' w'' from k))
    have hn' : need < 0 ∨ (¬ need < 0 ∧ 15 < need) := by omega
    clear hc he hms hall one KL HPr hn
    rcases hn' with hn | ⟨hn, hn2⟩
    · skip
      as_aux_lemma =>
        go_enter Tryd.func14, Tryd.ntmps14
        go_wp2_with (first
            | (have _q := E5.out; go_at_call 46; (with_reducible refine (KC.out _ _ I_5.out).mono ?_); rintro E w6 ⟨rfl, hb6⟩; have A6 := Lib.hid (show At w6 [(w2.heap.size, Obj.cells #[.int .i64 pw, .int .i64 ph, .slice po2 pp.length pc2] 44), (w.heap.size, Obj.cells #[.int .i64 lo, .int .i64 hi] 46)] from At.ext hb6 A5.out); have E6 := Lib.hid ((E5.out).trans hb6); obtain ⟨⟨c6_0_0, c6_0_1, c6_0_2⟩, f6_0_0, f6_0_1, f6_0_2⟩ := run_3 (At.at A6.out 0 rfl); have s6_0 : w2.heap.size < w6.heap.size := At.lt A6.out 0 rfl; obtain ⟨⟨c6_1_0, c6_1_1⟩, f6_1_0, f6_1_1⟩ := run_2 (At.at A6.out 1 rfl); have s6_1 : w.heap.size < w6.heap.size := At.lt A6.out 1 rfl; (try clear c5_0_0 c5_0_1 c5_0_2 f5_0_0 f5_0_1 f5_0_2 c5_1_0 c5_1_1 f5_1_0 f5_1_1 s5_0 s5_1); have I_6 := Lib.hid (IntsAt.ext (I_5.out) hb6))
            | (have _q := E4.out; go_at_call 46; (with_reducible refine (KB.out _ _ I_4.out).mono ?_); rintro E w5 ⟨rfl, hb5⟩; have A5 := Lib.hid (show At w5 [(w2.heap.size, Obj.cells #[.int .i64 pw, .int .i64 ph, .slice po2 pp.length pc2] 44), (w.heap.size, Obj.cells #[.int .i64 lo, .int .i64 hi] 46)] from At.ext hb5 A4.out); have E5 := Lib.hid ((E4.out).trans hb5); obtain ⟨⟨c5_0_0, c5_0_1, c5_0_2⟩, f5_0_0, f5_0_1, f5_0_2⟩ := run_3 (At.at A5.out 0 rfl); have s5_0 : w2.heap.size < w5.heap.size := At.lt A5.out 0 rfl; obtain ⟨⟨c5_1_0, c5_1_1⟩, f5_1_0, f5_1_1⟩ := run_2 (At.at A5.out 1 rfl); have s5_1 : w.heap.size < w5.heap.size := At.lt A5.out 1 rfl; (try clear c4_0_0 c4_0_1 c4_0_2 f4_0_0 f4_0_1 f4_0_2 c4_1_0 c4_1_1 f4_1_0 f4_1_1 s4_0 s4_1); have I_5 := Lib.hid (IntsAt.ext (I_4.out) hb5))
            | (go_at_call 46; (with_reducible refine (KA.out _ _ I_3.out).mono ?_); rintro E w4 ⟨rfl, hb4⟩; have A4 := Lib.hid (show At w4 [(w2.heap.size, Obj.cells #[.int .i64 pw, .int .i64 ph, .slice po2 pp.length pc2] 44), (w.heap.size, Obj.cells #[.int .i64 lo, .int .i64 hi] 46)] from At.ext hb4 A3.out); have E4 := Lib.hid ((E3.out).trans hb4); obtain ⟨⟨c4_0_0, c4_0_1, c4_0_2⟩, f4_0_0, f4_0_1, f4_0_2⟩ := run_3 (At.at A4.out 0 rfl); have s4_0 : w2.heap.size < w4.heap.size := At.lt A4.out 0 rfl; obtain ⟨⟨c4_1_0, c4_1_1⟩, f4_1_0, f4_1_1⟩ := run_2 (At.at A4.out 1 rfl); have s4_1 : w.heap.size < w4.heap.size := At.lt A4.out 1 rfl; (try clear c3_0_0 c3_0_1 c3_0_2 f3_0_0 f3_0_1 f3_0_2 c3_1_0 c3_1_1 f3_1_0 f3_1_1 s3_0 s3_1); have I_4 := Lib.hid (IntsAt.ext (I_3.out) hb4))
            | (go_at_call 44; (with_reducible refine (K2.out _).mono ?_); rintro E w3 ⟨rfl, hb3⟩; have A3 := Lib.hid (show At w3 [(w2.heap.size, Obj.cells #[.int .i64 pw, .int .i64 ph, .slice po2 pp.length pc2] 44), (w.heap.size, Obj.cells #[.int .i64 lo, .int .i64 hi] 46)] from At.ext hb3 (show At (World.alloc w2 (Obj.cells #[.int .i64 pw, .int .i64 ph, .slice po2 pp.length pc2] 44)) [(w2.heap.size, Obj.cells #[.int .i64 pw, .int .i64 ph, .slice po2 pp.length pc2] 44), (w.heap.size, Obj.cells #[.int .i64 lo, .int .i64 hi] 46)] from ⟨one_first _ _, At.alloc A2.out _⟩)); have E3 := Lib.hid ((((E2.out).alloc _)).trans hb3); obtain ⟨⟨c3_0_0, c3_0_1, c3_0_2⟩, f3_0_0, f3_0_1, f3_0_2⟩ := run_3 (At.at A3.out 0 rfl); have s3_0 : w2.heap.size < w3.heap.size := At.lt A3.out 0 rfl; obtain ⟨⟨c3_1_0, c3_1_1⟩, f3_1_0, f3_1_1⟩ := run_2 (At.at A3.out 1 rfl); have s3_1 : w.heap.size < w3.heap.size := At.lt A3.out 1 rfl; (try clear c2_0_0 c2_0_1 f2_0_0 f2_0_1); have I_3 := Lib.hid (IntsAt.ext ((IntsAt.ext I2.out ((Ext.refl _).alloc _))) hb3))
            | (go_at_call 36; (with_reducible refine (KP.out _).mono ?_); rintro E w2 ⟨v2, rfl, i2, hb2⟩; have A2 := Lib.hid (show At w2 [(w.heap.size, Obj.cells #[.int .i64 lo, .int .i64 hi] 46)] from At.ext hb2 A1.out); have E2 := Lib.hid ((E1.out).trans hb2); obtain ⟨⟨c2_0_0, c2_0_1⟩, f2_0_0, f2_0_1⟩ := run_2 (At.at A2.out 0 rfl); have s2_0 : w.heap.size < w2.heap.size := At.lt A2.out 0 rfl; (try clear c1_0_0 c1_0_1 f1_0_0 f1_0_1 s1_0); obtain ⟨-, po2, pc2, rfl, -⟩ := id i2; have I2 := Lib.hid i2)
            | (go_at_call 38; (with_reducible refine (K0.out _ (show Ext w (World.alloc w (Obj.cells #[.int .i64 lo, .int .i64 hi] 46)) from (by repeat (first | exact Ext.refl _ | assumption | refine Ext.alloc ?_ _ | refine Ext.drewN ?_ _ | refine ext_grow ?_ _ _ | refine Ext.setCell ?_ (by first | exact Nat.le_refl _ | omega | (simp; done) | (simp; omega)) _ | refine Ext.trans ?_ (by assumption))))).mono ?_); rintro E w1 ⟨rfl, hb1⟩; have A1 := Lib.hid (show At w1 [(w.heap.size, Obj.cells #[.int .i64 lo, .int .i64 hi] 46)] from At.ext hb1 (show At (World.alloc w (Obj.cells #[.int .i64 lo, .int .i64 hi] 46)) [(w.heap.size, Obj.cells #[.int .i64 lo, .int .i64 hi] 46)] from ⟨(by repeat (first | (refine blk_at _ _ ?_; (first | rfl | (simp only [size_one]; done))) | refine (blk_past _ _ (by simp only [size_one]; omega)).trans ?_)), trivial⟩)); have E1 := Lib.hid (((show Ext w (World.alloc w (Obj.cells #[.int .i64 lo, .int .i64 hi] 46)) from (by repeat (first | exact Ext.refl _ | assumption | refine Ext.alloc ?_ _ | refine Ext.drewN ?_ _ | refine ext_grow ?_ _ _ | refine Ext.setCell ?_ (by first | exact Nat.le_refl _ | omega | (simp; done) | (simp; omega)) _ | refine Ext.trans ?_ (by assumption))))).trans hb1); obtain ⟨⟨c1_0_0, c1_0_1⟩, f1_0_0, f1_0_1⟩ := run_2 (At.at A1.out 0 rfl); have s1_0 : w.heap.size < w1.heap.size := At.lt A1.out 0 rfl))
        go_ret
        exact ⟨rfl, E6.out⟩
    · skip
      as_aux_lemma =>
        go_enter Tryd.func14, Tryd.ntmps14
        go_wp2_with (first
            | (have _q := E5.out; go_at_call 46; (with_reducible refine (KC.out _ _ I_5.out).mono ?_); rintro E w6 ⟨rfl, hb6⟩; have A6 := Lib.hid (show At w6 [(w2.heap.size, Obj.cells #[.int .i64 pw, .int .i64 ph, .slice po2 pp.length pc2] 44), (w.heap.size, Obj.cells #[.int .i64 lo, .int .i64 hi] 46)] from At.ext hb6 A5.out); have E6 := Lib.hid ((E5.out).trans hb6); obtain ⟨⟨c6_0_0, c6_0_1, c6_0_2⟩, f6_0_0, f6_0_1, f6_0_2⟩ := run_3 (At.at A6.out 0 rfl); have s6_0 : w2.heap.size < w6.heap.size := At.lt A6.out 0 rfl; obtain ⟨⟨c6_1_0, c6_1_1⟩, f6_1_0, f6_1_1⟩ := run_2 (At.at A6.out 1 rfl); have s6_1 : w.heap.size < w6.heap.size := At.lt A6.out 1 rfl; (try clear c5_0_0 c5_0_1 c5_0_2 f5_0_0 f5_0_1 f5_0_2 c5_1_0 c5_1_1 f5_1_0 f5_1_1 s5_0 s5_1); have I_6 := Lib.hid (IntsAt.ext (I_5.out) hb6))
            | (have _q := E4.out; go_at_call 46; (with_reducible refine (KB.out _ _ I_4.out).mono ?_); rintro E w5 ⟨rfl, hb5⟩; have A5 := Lib.hid (show At w5 [(w2.heap.size, Obj.cells #[.int .i64 pw, .int .i64 ph, .slice po2 pp.length pc2] 44), (w.heap.size, Obj.cells #[.int .i64 lo, .int .i64 hi] 46)] from At.ext hb5 A4.out); have E5 := Lib.hid ((E4.out).trans hb5); obtain ⟨⟨c5_0_0, c5_0_1, c5_0_2⟩, f5_0_0, f5_0_1, f5_0_2⟩ := run_3 (At.at A5.out 0 rfl); have s5_0 : w2.heap.size < w5.heap.size := At.lt A5.out 0 rfl; obtain ⟨⟨c5_1_0, c5_1_1⟩, f5_1_0, f5_1_1⟩ := run_2 (At.at A5.out 1 rfl); have s5_1 : w.heap.size < w5.heap.size := At.lt A5.out 1 rfl; (try clear c4_0_0 c4_0_1 c4_0_2 f4_0_0 f4_0_1 f4_0_2 c4_1_0 c4_1_1 f4_1_0 f4_1_1 s4_0 s4_1); have I_5 := Lib.hid (IntsAt.ext (I_4.out) hb5))
            | (go_at_call 46; (with_reducible refine (KA.out _ _ I_3.out).mono ?_); rintro E w4 ⟨rfl, hb4⟩; have A4 := Lib.hid (show At w4 [(w2.heap.size, Obj.cells #[.int .i64 pw, .int .i64 ph, .slice po2 pp.length pc2] 44), (w.heap.size, Obj.cells #[.int .i64 lo, .int .i64 hi] 46)] from At.ext hb4 A3.out); have E4 := Lib.hid ((E3.out).trans hb4); obtain ⟨⟨c4_0_0, c4_0_1, c4_0_2⟩, f4_0_0, f4_0_1, f4_0_2⟩ := run_3 (At.at A4.out 0 rfl); have s4_0 : w2.heap.size < w4.heap.size := At.lt A4.out 0 rfl; obtain ⟨⟨c4_1_0, c4_1_1⟩, f4_1_0, f4_1_1⟩ := run_2 (At.at A4.out 1 rfl); have s4_1 : w.heap.size < w4.heap.size := At.lt A4.out 1 rfl; (try clear c3_0_0 c3_0_1 c3_0_2 f3_0_0 f3_0_1 f3_0_2 c3_1_0 c3_1_1 f3_1_0 f3_1_1 s3_0 s3_1); have I_4 := Lib.hid (IntsAt.ext (I_3.out) hb4))
            | (go_at_call 44; (with_reducible refine (K2.out _).mono ?_); rintro E w3 ⟨rfl, hb3⟩; have A3 := Lib.hid (show At w3 [(w2.heap.size, Obj.cells #[.int .i64 pw, .int .i64 ph, .slice po2 pp.length pc2] 44), (w.heap.size, Obj.cells #[.int .i64 lo, .int .i64 hi] 46)] from At.ext hb3 (show At (World.alloc w2 (Obj.cells #[.int .i64 pw, .int .i64 ph, .slice po2 pp.length pc2] 44)) [(w2.heap.size, Obj.cells #[.int .i64 pw, .int .i64 ph, .slice po2 pp.length pc2] 44), (w.heap.size, Obj.cells #[.int .i64 lo, .int .i64 hi] 46)] from ⟨one_first _ _, At.alloc A2.out _⟩)); have E3 := Lib.hid ((((E2.out).alloc _)).trans hb3); obtain ⟨⟨c3_0_0, c3_0_1, c3_0_2⟩, f3_0_0, f3_0_1, f3_0_2⟩ := run_3 (At.at A3.out 0 rfl); have s3_0 : w2.heap.size < w3.heap.size := At.lt A3.out 0 rfl; obtain ⟨⟨c3_1_0, c3_1_1⟩, f3_1_0, f3_1_1⟩ := run_2 (At.at A3.out 1 rfl); have s3_1 : w.heap.size < w3.heap.size := At.lt A3.out 1 rfl; (try clear c2_0_0 c2_0_1 f2_0_0 f2_0_1); have I_3 := Lib.hid (IntsAt.ext ((IntsAt.ext I2.out ((Ext.refl _).alloc _))) hb3))
            | (go_at_call 36; (with_reducible refine (KP.out _).mono ?_); rintro E w2 ⟨v2, rfl, i2, hb2⟩; have A2 := Lib.hid (show At w2 [(w.heap.size, Obj.cells #[.int .i64 lo, .int .i64 hi] 46)] from At.ext hb2 A1.out); have E2 := Lib.hid ((E1.out).trans hb2); obtain ⟨⟨c2_0_0, c2_0_1⟩, f2_0_0, f2_0_1⟩ := run_2 (At.at A2.out 0 rfl); have s2_0 : w.heap.size < w2.heap.size := At.lt A2.out 0 rfl; (try clear c1_0_0 c1_0_1 f1_0_0 f1_0_1 s1_0); obtain ⟨-, po2, pc2, rfl, -⟩ := id i2; have I2 := Lib.hid i2)
            | (go_at_call 38; (with_reducible refine (K0.out _ (show Ext w (World.alloc w (Obj.cells #[.int .i64 lo, .int .i64 hi] 46)) from (by repeat (first | exact Ext.refl _ | assumption | refine Ext.alloc ?_ _ | refine Ext.drewN ?_ _ | refine ext_grow ?_ _ _ | refine Ext.setCell ?_ (by first | exact Nat.le_refl _ | omega | (simp; done) | (simp; omega)) _ | refine Ext.trans ?_ (by assumption))))).mono ?_); rintro E w1 ⟨rfl, hb1⟩; have A1 := Lib.hid (show At w1 [(w.heap.size, Obj.cells #[.int .i64 lo, .int .i64 hi] 46)] from At.ext hb1 (show At (World.alloc w (Obj.cells #[.int .i64 lo, .int .i64 hi] 46)) [(w.heap.size, Obj.cells #[.int .i64 lo, .int .i64 hi] 46)] from ⟨(by repeat (first | (refine blk_at _ _ ?_; (first | rfl | (simp only [size_one]; done))) | refine (blk_past _ _ (by simp only [size_one]; omega)).trans ?_)), trivial⟩)); have E1 := Lib.hid (((show Ext w (World.alloc w (Obj.cells #[.int .i64 lo, .int .i64 hi] 46)) from (by repeat (first | exact Ext.refl _ | assumption | refine Ext.alloc ?_ _ | refine Ext.drewN ?_ _ | refine ext_grow ?_ _ _ | refine Ext.setCell ?_ (by first | exact Nat.le_refl _ | omega | (simp; done) | (simp; omega)) _ | refine Ext.trans ?_ (by assumption))))).trans hb1); obtain ⟨⟨c1_0_0, c1_0_1⟩, f1_0_0, f1_0_1⟩ := run_2 (At.at A1.out 0 rfl); have s1_0 : w.heap.size < w1.heap.size := At.lt A1.out 0 rfl))
        go_ret
        exact ⟨rfl, E6.out⟩
  obtain ⟨nn, rfl⟩ := Int.eq_ofNat_of_zero_le hn.1
  obtain ⟨t, ht1, ht2, ht3, -⟩ := hall nn (by omega)
  obtain ⟨hq1, hq2⟩ := line_str ht2 ht3
  have KC := Lib.hid (fun w' v (h : IntsAt w' v pp) => by
    have k := KL.out w' v (nn : Int) h
    rw [ht1] at k
    exact (show Calls Tryd.prog 46 #[.agg #[.int .i64 pw, .int .i64 ph, v], .int .i64 sz, .agg #[.int .i64 lo, .int .i64 hi], .int .i64 (nn : Int)] w' fun e w'' => e = .returned (.tuple #[.string (strN t), .int .i64 0]) ∧ Ext w' w'' from k))
  obtain ⟨q, hq⟩ : ∃ q, strN t = q := ⟨_, rfl⟩
  rw [hq] at KC
  have HQ : Hid (q.size = s.size ∧ ∀ i (h1 : i < q.size) (h2 : i < s.size), q[i]'h1 = s[i]'h2 ∨ q[i]'h1 = 63) := Lib.hid (by subst hq; exact ⟨hq1, hq2⟩)
  have n1 : ¬ (nn : Int) < 0 := by omega
  have n2 : ¬ (15 : Int) < (nn : Int) := by omega
  have qz : ((q.size : Int) != (s.size : Int)) = false := by rw [HQ.out.1]; exact bne_self_eq_false' _
  have hq4 : q.size ≤ 4 := by rw [HQ.out.1]; exact hLO.2.2
  clear hLO
  clear hc he hms hall one KL HPr hn ht1 ht2 ht3 hq1 hq2 hq
  as_aux_lemma =>
    go_enter Tryd.func14, Tryd.ntmps14
    go_wp2_with (first
      | (have _q := E5.out; go_at_call 46; (with_reducible refine (KC.out _ _ I_5.out).mono ?_); rintro E w6 ⟨rfl, hb6⟩; have A6 := Lib.hid (show At w6 [(w2.heap.size, Obj.cells #[.int .i64 pw, .int .i64 ph, .slice po2 pp.length pc2] 44), (w.heap.size, Obj.cells #[.int .i64 lo, .int .i64 hi] 46)] from At.ext hb6 A5.out); have E6 := Lib.hid ((E5.out).trans hb6); obtain ⟨⟨c6_0_0, c6_0_1, c6_0_2⟩, f6_0_0, f6_0_1, f6_0_2⟩ := run_3 (At.at A6.out 0 rfl); have s6_0 : w2.heap.size < w6.heap.size := At.lt A6.out 0 rfl; obtain ⟨⟨c6_1_0, c6_1_1⟩, f6_1_0, f6_1_1⟩ := run_2 (At.at A6.out 1 rfl); have s6_1 : w.heap.size < w6.heap.size := At.lt A6.out 1 rfl; (try clear c5_0_0 c5_0_1 c5_0_2 f5_0_0 f5_0_1 f5_0_2 c5_1_0 c5_1_1 f5_1_0 f5_1_1 s5_0 s5_1); have I_6 := Lib.hid (IntsAt.ext (I_5.out) hb6))
      | (have _q := E4.out; go_at_call 46; (with_reducible refine (KB.out _ _ I_4.out).mono ?_); rintro E w5 ⟨rfl, hb5⟩; have A5 := Lib.hid (show At w5 [(w2.heap.size, Obj.cells #[.int .i64 pw, .int .i64 ph, .slice po2 pp.length pc2] 44), (w.heap.size, Obj.cells #[.int .i64 lo, .int .i64 hi] 46)] from At.ext hb5 A4.out); have E5 := Lib.hid ((E4.out).trans hb5); obtain ⟨⟨c5_0_0, c5_0_1, c5_0_2⟩, f5_0_0, f5_0_1, f5_0_2⟩ := run_3 (At.at A5.out 0 rfl); have s5_0 : w2.heap.size < w5.heap.size := At.lt A5.out 0 rfl; obtain ⟨⟨c5_1_0, c5_1_1⟩, f5_1_0, f5_1_1⟩ := run_2 (At.at A5.out 1 rfl); have s5_1 : w.heap.size < w5.heap.size := At.lt A5.out 1 rfl; (try clear c4_0_0 c4_0_1 c4_0_2 f4_0_0 f4_0_1 f4_0_2 c4_1_0 c4_1_1 f4_1_0 f4_1_1 s4_0 s4_1); have I_5 := Lib.hid (IntsAt.ext (I_4.out) hb5))
      | (go_at_call 46; (with_reducible refine (KA.out _ _ I_3.out).mono ?_); rintro E w4 ⟨rfl, hb4⟩; have A4 := Lib.hid (show At w4 [(w2.heap.size, Obj.cells #[.int .i64 pw, .int .i64 ph, .slice po2 pp.length pc2] 44), (w.heap.size, Obj.cells #[.int .i64 lo, .int .i64 hi] 46)] from At.ext hb4 A3.out); have E4 := Lib.hid ((E3.out).trans hb4); obtain ⟨⟨c4_0_0, c4_0_1, c4_0_2⟩, f4_0_0, f4_0_1, f4_0_2⟩ := run_3 (At.at A4.out 0 rfl); have s4_0 : w2.heap.size < w4.heap.size := At.lt A4.out 0 rfl; obtain ⟨⟨c4_1_0, c4_1_1⟩, f4_1_0, f4_1_1⟩ := run_2 (At.at A4.out 1 rfl); have s4_1 : w.heap.size < w4.heap.size := At.lt A4.out 1 rfl; (try clear c3_0_0 c3_0_1 c3_0_2 f3_0_0 f3_0_1 f3_0_2 c3_1_0 c3_1_1 f3_1_0 f3_1_1 s3_0 s3_1); have I_4 := Lib.hid (IntsAt.ext (I_3.out) hb4))
      | (go_at_call 44; (with_reducible refine (K2.out _).mono ?_); rintro E w3 ⟨rfl, hb3⟩; have A3 := Lib.hid (show At w3 [(w2.heap.size, Obj.cells #[.int .i64 pw, .int .i64 ph, .slice po2 pp.length pc2] 44), (w.heap.size, Obj.cells #[.int .i64 lo, .int .i64 hi] 46)] from At.ext hb3 (show At (World.alloc w2 (Obj.cells #[.int .i64 pw, .int .i64 ph, .slice po2 pp.length pc2] 44)) [(w2.heap.size, Obj.cells #[.int .i64 pw, .int .i64 ph, .slice po2 pp.length pc2] 44), (w.heap.size, Obj.cells #[.int .i64 lo, .int .i64 hi] 46)] from ⟨one_first _ _, At.alloc A2.out _⟩)); have E3 := Lib.hid ((((E2.out).alloc _)).trans hb3); obtain ⟨⟨c3_0_0, c3_0_1, c3_0_2⟩, f3_0_0, f3_0_1, f3_0_2⟩ := run_3 (At.at A3.out 0 rfl); have s3_0 : w2.heap.size < w3.heap.size := At.lt A3.out 0 rfl; obtain ⟨⟨c3_1_0, c3_1_1⟩, f3_1_0, f3_1_1⟩ := run_2 (At.at A3.out 1 rfl); have s3_1 : w.heap.size < w3.heap.size := At.lt A3.out 1 rfl; (try clear c2_0_0 c2_0_1 f2_0_0 f2_0_1); have I_3 := Lib.hid (IntsAt.ext ((IntsAt.ext I2.out ((Ext.refl _).alloc _))) hb3))
      | (go_at_call 36; (with_reducible refine (KP.out _).mono ?_); rintro E w2 ⟨v2, rfl, i2, hb2⟩; have A2 := Lib.hid (show At w2 [(w.heap.size, Obj.cells #[.int .i64 lo, .int .i64 hi] 46)] from At.ext hb2 A1.out); have E2 := Lib.hid ((E1.out).trans hb2); obtain ⟨⟨c2_0_0, c2_0_1⟩, f2_0_0, f2_0_1⟩ := run_2 (At.at A2.out 0 rfl); have s2_0 : w.heap.size < w2.heap.size := At.lt A2.out 0 rfl; (try clear c1_0_0 c1_0_1 f1_0_0 f1_0_1 s1_0); obtain ⟨-, po2, pc2, rfl, -⟩ := id i2; have I2 := Lib.hid i2)
      | (go_at_call 38; (with_reducible refine (K0.out _ (show Ext w (World.alloc w (Obj.cells #[.int .i64 lo, .int .i64 hi] 46)) from (by repeat (first | exact Ext.refl _ | assumption | refine Ext.alloc ?_ _ | refine Ext.drewN ?_ _ | refine ext_grow ?_ _ _ | refine Ext.setCell ?_ (by first | exact Nat.le_refl _ | omega | (simp; done) | (simp; omega)) _ | refine Ext.trans ?_ (by assumption))))).mono ?_); rintro E w1 ⟨rfl, hb1⟩; have A1 := Lib.hid (show At w1 [(w.heap.size, Obj.cells #[.int .i64 lo, .int .i64 hi] 46)] from At.ext hb1 (show At (World.alloc w (Obj.cells #[.int .i64 lo, .int .i64 hi] 46)) [(w.heap.size, Obj.cells #[.int .i64 lo, .int .i64 hi] 46)] from ⟨(by repeat (first | (refine blk_at _ _ ?_; (first | rfl | (simp only [size_one]; done))) | refine (blk_past _ _ (by simp only [size_one]; omega)).trans ?_)), trivial⟩)); have E1 := Lib.hid (((show Ext w (World.alloc w (Obj.cells #[.int .i64 lo, .int .i64 hi] 46)) from (by repeat (first | exact Ext.refl _ | assumption | refine Ext.alloc ?_ _ | refine Ext.drewN ?_ _ | refine ext_grow ?_ _ _ | refine Ext.setCell ?_ (by first | exact Nat.le_refl _ | omega | (simp; done) | (simp; omega)) _ | refine Ext.trans ?_ (by assumption))))).trans hb1); obtain ⟨⟨c1_0_0, c1_0_1⟩, f1_0_0, f1_0_1⟩ := run_2 (At.at A1.out 0 rfl); have s1_0 : w.heap.size < w1.heap.size := At.lt A1.out 0 rfl))
    have EW := Lib.hid E6.out
    go_loopw [22] (fun ii wi => ∃ i : Nat, i ≤ q.size ∧ ii = .int .i64 (i : Int) ∧ Ext w6 wi) (fun ii _ => q.size - (intOf ii).toNat)
    case atStart => exact ⟨0, Nat.zero_le _, rfl, Ext.refl _⟩
    case round =>
      obtain ⟨i, hi9, rfl, hE⟩ := hrel
      by_cases hiq : i < q.size
      · have his : i < s.size := by rw [← HQ.out.1]; exact hiq
        have hor := HQ.out.2 i hiq his
        obtain ⟨x, hx⟩ : ∃ x : UInt8, q[i]'hiq = x := ⟨_, rfl⟩
        obtain ⟨y, hy⟩ : ∃ y : UInt8, s[i]'his = y := ⟨_, rfl⟩
        rw [hx, hy] at hor
        have HOR := Lib.hid hor
        clear hor
        by_cases hxy : x = y
        · have q1 : ((x.toNat : Int) != (y.toNat : Int)) = false := by rw [hxy]; exact bne_self_eq_false' _
          clear hxy
          go_wp2
          go_quiet (fail)
          go_wp2
          exact ⟨⟨i + 1, by omega, by go_num, hE.drewN _⟩, by simp [intOf]; omega⟩
        · have q1 : ((x.toNat : Int) != (y.toNat : Int)) = true := by
            rw [bne_iff_ne]
            intro h9
            exact hxy (UInt8.toNat_inj.1 (by omega))
          have q2 : ((x.toNat : Int) != 63) = false := by
            rcases HOR.out with h9 | h9
            · exact absurd h9 hxy
            · rw [h9]; rfl
          clear hxy
          go_wp2
          go_quiet (fail)
          go_wp2
          exact ⟨⟨i + 1, by omega, by go_num, hE.drewN _⟩, by simp [intOf]; omega⟩
      · have ei : i = q.size := by omega
        rw [ei]
        clear ei
        go_wp2
        go_ret
        exact ⟨rfl, EW.out.trans hE⟩
end Go.Proofs.YtlnofbdhamingaaDoor
