/- The walk of the reference's Parse. -/
import Derived.Test.YtodoimeiklilhaaDoorRefWhole
import Derived.Test.YtodoimeiklilhaaDoorRefNum
import Derived.Test.YtodoimeiklilhaaDoorParseLaw
set_option linter.unusedVariables false
set_option linter.unusedSimpArgs false
namespace Go.Proofs.YtodoimeiklilhaaDoor
open Go.RowKit Go.Sort

theorem set_one {w : World} {b : Nat} {cs : Array Value} {e : TypeId} {fr : Nat × Nat} (h : w.heap[b]? = some (.cells cs e fr)) (i : Nat) (v : Value) :
    (w.setCell ⟨b, i, none⟩ v).heap[b]? = some (.cells (cs.setIfInBounds i v) e fr) ∧ (∀ k, k ≠ b → (w.setCell ⟨b, i, none⟩ v).heap[k]? = w.heap[k]?) ∧
      ∀ wb : World, wb.heap.size ≤ b → Ext wb w → Ext wb (w.setCell ⟨b, i, none⟩ v) := by
  refine ⟨by simp [World.setCell, Array.getElem?_modify, h], fun k hk => ?_, fun wb hb hE => hE.setCell hb _⟩
  rw [Below.heap_setCell _ _ _ _ hk]
set_option maxRecDepth 100000 in
set_option maxHeartbeats 8000000 in
theorem rParse_mf_no (s t tx : ByteArray) (sl n1 d1 : Nat) (w : World) (hs : s.size ≤ 1000) (hn1 : n1 ≤ 4611686018427387909) (hsl : t.data.toList.idxOf 47 = sl) (hl : sl ≤ t.size) (hl1 : decide ((sl : Int) < (t.size : Int)) = true) (hl2 : sl < t.size) (h0 : 0 < s.size) (hb : s[0].toNat = 45) (ht : s.extract 1 s.size = t)
    (kn : ∀ w, Calls Tryd.prog 78 #[.string (t.extract 0 sl)] w fun E w' => E = .returned (.int .i64 (n1 : Int)) ∧ Ext w w')
    (kd : ∀ w, Calls Tryd.prog 78 #[.string (t.extract (sl + 1) t.size)] w fun E w' => E = .returned (.int .i64 (d1 : Int)) ∧ Ext w w')
    (kv : ∀ w, Calls Tryd.prog 50 #[fracV ⟨(-(n1 : Int)), (d1 : Int)⟩] w fun E w' => E = .returned (.bool false) ∧ Ext w w') :
    Calls Tryd.prog 45 #[.string s] w fun E w' => E = .returned (fansV (⟨0, 0⟩, 11)) ∧ Ext w w' := by
  have KN := Lib.hid kn
  have KD := Lib.hid kd
  have KV := Lib.hid kv
  clear kn kd kv
  have TL := Lib.hid (show t.data.toList.length = t.size by rw [Array.length_toList]; rfl)
  have hts : t.size ≤ 1000 := by rw [← ht]; simp; omega
  go_enter Tryd.func45, Tryd.ntmps45
  go_wp2
  have hsz : s.size - 1 = t.size := by rw [← ht]; simp
  try simp only [ht, hsz]
  clear ht hsz h0 hb
  go_loopw [7, 8] (fun x i wr => ∃ k : Nat, k ≤ t.size ∧ x = .int .i64 ((k + (t.data.toList.drop k).idxOf 47 : Nat) : Int) ∧ i = .int .i64 ((k : Int) - 1) ∧ Ext w wr ∧ Hid (At wr [(w.heap.size, Obj.cells #[.int .i64 0, .int .i64 0] 23), (w.heap.size + 1, Obj.cells #[.int .i64 0, .int .i64 1] 23)])) (fun _ i _ => (intOf i + 1).toNat)
  case atStart =>
    exact ⟨t.size, Nat.le_refl _, congrArg (Value.int .i64) (by rw [List.drop_eq_nil_of_le (by rw [TL.out]; exact Nat.le_refl _)]; simp), rfl, (by repeat (first | exact Ext.refl _ | assumption | refine Ext.alloc ?_ _ | refine Ext.drewN ?_ _ | refine ext_grow ?_ _ _ | refine Ext.setCell ?_ (by first | exact Nat.le_refl _ | omega | (simp; done) | (simp; omega)) _ | refine Ext.trans ?_ (by assumption))), Lib.hid ⟨(by repeat (first | (refine blk_at _ _ ?_; (first | rfl | (simp only [size_one]; done))) | refine (blk_past _ _ (by simp only [size_one]; omega)).trans ?_)), (by repeat (first | (refine blk_at _ _ ?_; (first | rfl | (simp only [size_one]; done))) | refine (blk_past _ _ (by simp only [size_one]; omega)).trans ?_)), trivial⟩⟩
  case round =>
    obtain ⟨k, hk, hx1, hi1, hE, hA⟩ := hrel
    by_cases hk0 : k = 0
    · subst hk0
      simp only [List.drop_zero, Nat.zero_add, hsl] at hx1
      obtain rfl := hx1
      obtain rfl : u8 = .int .i64 (-1) := hi1
      clear hk
      obtain ⟨c0_0_0, c0_0_1, f0_0_0, f0_0_1⟩ := run_pair (At.at hA.out 0 rfl)
      have s0_0 : w.heap.size < wr.heap.size := At.lt hA.out 0 rfl
      obtain ⟨c0_1_0, c0_1_1, f0_1_0, f0_1_1⟩ := run_pair (At.at hA.out 1 rfl)
      have s0_1 : w.heap.size + 1 < wr.heap.size := At.lt hA.out 1 rfl
      go_wp2_with (first | (go_at_call 78; (with_reducible refine (KN.out _).mono ?_); rintro E w1 ⟨rfl, hb1⟩; have A1 := Lib.hid (show At w1 [(w.heap.size, Obj.cells #[.int .i64 0, .int .i64 0] 23), (w.heap.size + 1, Obj.cells #[.int .i64 0, .int .i64 1] 23)] from At.ext hb1 hA.out); have E1 := Lib.hid ((hE).trans hb1); obtain ⟨c1_0_0, c1_0_1, f1_0_0, f1_0_1⟩ := run_pair (At.at A1.out 0 rfl); have s1_0 : w.heap.size < w1.heap.size := At.lt A1.out 0 rfl; obtain ⟨c1_1_0, c1_1_1, f1_1_0, f1_1_1⟩ := run_pair (At.at A1.out 1 rfl); have s1_1 : w.heap.size + 1 < w1.heap.size := At.lt A1.out 1 rfl) | (go_at_call 78; (with_reducible refine (KD.out _).mono ?_); rintro E w2 ⟨rfl, hb2⟩; have A2 := Lib.hid (show At w2 [(w.heap.size + 1, Obj.cells #[.int .i64 (n1 : Int), .int .i64 1] 23), (w.heap.size, Obj.cells #[.int .i64 0, .int .i64 0] 23)] from At.ext hb2 (show At _ [(w.heap.size + 1, Obj.cells #[.int .i64 (n1 : Int), .int .i64 1] 23), (w.heap.size, Obj.cells #[.int .i64 0, .int .i64 0] 23)] from ⟨(set_one (At.at A1.out 1 rfl) 0 (.int .i64 (n1 : Int))).1, (At.other (set_one (At.at A1.out 1 rfl) 0 (.int .i64 (n1 : Int))).2.1 (by first | (simp; done) | (simp; omega)) (At.erase A1.out 1))⟩)); have E2 := Lib.hid ((((set_one (At.at A1.out 1 rfl) 0 (.int .i64 (n1 : Int))).2.2 w (by omega) E1.out)).trans hb2); obtain ⟨c2_0_0, c2_0_1, f2_0_0, f2_0_1⟩ := run_pair (At.at A2.out 0 rfl); have s2_0 : w.heap.size + 1 < w2.heap.size := At.lt A2.out 0 rfl; obtain ⟨c2_1_0, c2_1_1, f2_1_0, f2_1_1⟩ := run_pair (At.at A2.out 1 rfl); have s2_1 : w.heap.size < w2.heap.size := At.lt A2.out 1 rfl; (try clear c1_0_0 c1_0_1 f1_0_0 f1_0_1 c1_1_0 c1_1_1 f1_1_0 f1_1_1 s1_0 s1_1)) | (go_at_call 50; (with_reducible refine (KV.out _).mono ?_); rintro E w3 ⟨rfl, hb3⟩; have A3 := Lib.hid (show At w3 [(w.heap.size + 1, Obj.cells #[.int .i64 (-(n1 : Int)), .int .i64 (d1 : Int)] 23), (w.heap.size, Obj.cells #[.int .i64 0, .int .i64 0] 23)] from At.ext hb3 (show At _ [(w.heap.size + 1, Obj.cells #[.int .i64 (-(n1 : Int)), .int .i64 (d1 : Int)] 23), (w.heap.size, Obj.cells #[.int .i64 0, .int .i64 0] 23)] from ⟨(set_one (At.at (show At _ [(w.heap.size + 1, Obj.cells #[.int .i64 (n1 : Int), .int .i64 (d1 : Int)] 23), (w.heap.size, Obj.cells #[.int .i64 0, .int .i64 0] 23)] from ⟨(set_one (At.at A2.out 0 rfl) 1 (.int .i64 (d1 : Int))).1, (At.other (set_one (At.at A2.out 0 rfl) 1 (.int .i64 (d1 : Int))).2.1 (by first | (simp; done) | (simp; omega)) (At.erase A2.out 0))⟩) 0 rfl) 0 (.int .i64 (-(n1 : Int)))).1, (At.other (set_one (At.at (show At _ [(w.heap.size + 1, Obj.cells #[.int .i64 (n1 : Int), .int .i64 (d1 : Int)] 23), (w.heap.size, Obj.cells #[.int .i64 0, .int .i64 0] 23)] from ⟨(set_one (At.at A2.out 0 rfl) 1 (.int .i64 (d1 : Int))).1, (At.other (set_one (At.at A2.out 0 rfl) 1 (.int .i64 (d1 : Int))).2.1 (by first | (simp; done) | (simp; omega)) (At.erase A2.out 0))⟩) 0 rfl) 0 (.int .i64 (-(n1 : Int)))).2.1 (by first | (simp; done) | (simp; omega)) (At.erase (show At _ [(w.heap.size + 1, Obj.cells #[.int .i64 (n1 : Int), .int .i64 (d1 : Int)] 23), (w.heap.size, Obj.cells #[.int .i64 0, .int .i64 0] 23)] from ⟨(set_one (At.at A2.out 0 rfl) 1 (.int .i64 (d1 : Int))).1, (At.other (set_one (At.at A2.out 0 rfl) 1 (.int .i64 (d1 : Int))).2.1 (by first | (simp; done) | (simp; omega)) (At.erase A2.out 0))⟩) 0))⟩)); have E3 := Lib.hid ((((set_one (At.at (show At _ [(w.heap.size + 1, Obj.cells #[.int .i64 (n1 : Int), .int .i64 (d1 : Int)] 23), (w.heap.size, Obj.cells #[.int .i64 0, .int .i64 0] 23)] from ⟨(set_one (At.at A2.out 0 rfl) 1 (.int .i64 (d1 : Int))).1, (At.other (set_one (At.at A2.out 0 rfl) 1 (.int .i64 (d1 : Int))).2.1 (by first | (simp; done) | (simp; omega)) (At.erase A2.out 0))⟩) 0 rfl) 0 (.int .i64 (-(n1 : Int)))).2.2 w (by omega) ((set_one (At.at A2.out 0 rfl) 1 (.int .i64 (d1 : Int))).2.2 w (by omega) E2.out))).trans hb3); obtain ⟨c3_0_0, c3_0_1, f3_0_0, f3_0_1⟩ := run_pair (At.at A3.out 0 rfl); have s3_0 : w.heap.size + 1 < w3.heap.size := At.lt A3.out 0 rfl; obtain ⟨c3_1_0, c3_1_1, f3_1_0, f3_1_1⟩ := run_pair (At.at A3.out 1 rfl); have s3_1 : w.heap.size < w3.heap.size := At.lt A3.out 1 rfl; (try clear c2_0_0 c2_0_1 f2_0_0 f2_0_1 c2_1_0 c2_1_1 f2_1_0 f2_1_1 s2_0 s2_1)))
      refine bodyPost_ret (RT.results_row2 rfl _ _ (w.heap.size) 23 #[.int .i64 0, .int .i64 0] (0, 0) _ rfl (store_pair (v0 := .int .i64 0) (v1 := .int .i64 0) (At.at A3.out 1 rfl)).1 Tryd.underlying23 rfl info_frac) rfl ?_
      exact ⟨rfl, (store_pair (v0 := .int .i64 0) (v1 := .int .i64 0) (At.at A3.out 1 rfl)).2.2 w (Nat.le_refl _) E3.out⟩
    · obtain ⟨j, rfl⟩ : ∃ j, k = j + 1 := ⟨k - 1, by omega⟩
      obtain rfl : u8 = .int .i64 (j : Int) := by rw [hi1]; exact congrArg (Value.int .i64) (by omega)
      have hj : j < t.size := by omega
      have hd := Lib.hid (show t.data.toList.drop j = t[j] :: t.data.toList.drop (j + 1) by
        rw [List.drop_eq_getElem_cons (by rw [TL.out]; exact hj), (List.getElem?_eq_some_iff.1 (Lib.data_getElem? t j hj)).2])
      obtain rfl := hx1
      clear hk hk0
      by_cases hc : t[j].toNat = 47
      · have c1 : (((t[j].toNat : Nat) : Int) == 47) = true := by rw [hc]; rfl
        have hc2 := Lib.hid (show t[j] = 47 from UInt8.toNat_inj.1 hc)
        have HC := Lib.hid hc
        clear hc
        go_wp2
        go_roundw
        case rel => exact ⟨j, by omega, congrArg (Value.int .i64) (by rw [hd.out, hc2.out]; simp), rfl, hE, hA⟩
        case measure => simp [intOf]; try omega
      · have c1 : (((t[j].toNat : Nat) : Int) == 47) = false := by simp; omega
        have hc2 := Lib.hid (show ¬ t[j] = 47 from fun h => hc (by rw [h]; rfl))
        have HC := Lib.hid hc
        clear hc
        go_wp2
        go_roundw
        case rel => exact ⟨j, by omega, congrArg (Value.int .i64) (by rw [hd.out, List.idxOf_cons, show (t[j] == (47 : UInt8)) = false from by simpa using hc2.out]; simp only [cond_false]; omega), rfl, hE, hA⟩
        case measure => simp [intOf]; try omega
set_option maxRecDepth 100000 in
set_option maxHeartbeats 8000000 in
theorem rParse_mf_other (s t tx : ByteArray) (sl n1 d1 : Nat) (w : World) (hs : s.size ≤ 1000) (hn1 : n1 ≤ 4611686018427387909) (hsl : t.data.toList.idxOf 47 = sl) (hl : sl ≤ t.size) (hl1 : decide ((sl : Int) < (t.size : Int)) = true) (hl2 : sl < t.size) (hx : (tx.toList == s.toList) = false) (h0 : 0 < s.size) (hb : s[0].toNat = 45) (ht : s.extract 1 s.size = t)
    (kn : ∀ w, Calls Tryd.prog 78 #[.string (t.extract 0 sl)] w fun E w' => E = .returned (.int .i64 (n1 : Int)) ∧ Ext w w')
    (kd : ∀ w, Calls Tryd.prog 78 #[.string (t.extract (sl + 1) t.size)] w fun E w' => E = .returned (.int .i64 (d1 : Int)) ∧ Ext w w')
    (kv : ∀ w, Calls Tryd.prog 50 #[fracV ⟨(-(n1 : Int)), (d1 : Int)⟩] w fun E w' => E = .returned (.bool true) ∧ Ext w w')
    (ks : ∀ w, Calls Tryd.prog 77 #[fracV ⟨(-(n1 : Int)), (d1 : Int)⟩] w fun E w' => E = .returned (.string tx) ∧ Ext w w') :
    Calls Tryd.prog 45 #[.string s] w fun E w' => E = .returned (fansV (⟨0, 0⟩, 11)) ∧ Ext w w' := by
  have KN := Lib.hid kn
  have KD := Lib.hid kd
  have KV := Lib.hid kv
  have KS := Lib.hid ks
  clear kn kd kv ks
  have TL := Lib.hid (show t.data.toList.length = t.size by rw [Array.length_toList]; rfl)
  have hts : t.size ≤ 1000 := by rw [← ht]; simp; omega
  go_enter Tryd.func45, Tryd.ntmps45
  go_wp2
  have hsz : s.size - 1 = t.size := by rw [← ht]; simp
  try simp only [ht, hsz]
  clear ht hsz h0 hb
  go_loopw [7, 8] (fun x i wr => ∃ k : Nat, k ≤ t.size ∧ x = .int .i64 ((k + (t.data.toList.drop k).idxOf 47 : Nat) : Int) ∧ i = .int .i64 ((k : Int) - 1) ∧ Ext w wr ∧ Hid (At wr [(w.heap.size, Obj.cells #[.int .i64 0, .int .i64 0] 23), (w.heap.size + 1, Obj.cells #[.int .i64 0, .int .i64 1] 23)])) (fun _ i _ => (intOf i + 1).toNat)
  case atStart =>
    exact ⟨t.size, Nat.le_refl _, congrArg (Value.int .i64) (by rw [List.drop_eq_nil_of_le (by rw [TL.out]; exact Nat.le_refl _)]; simp), rfl, (by repeat (first | exact Ext.refl _ | assumption | refine Ext.alloc ?_ _ | refine Ext.drewN ?_ _ | refine ext_grow ?_ _ _ | refine Ext.setCell ?_ (by first | exact Nat.le_refl _ | omega | (simp; done) | (simp; omega)) _ | refine Ext.trans ?_ (by assumption))), Lib.hid ⟨(by repeat (first | (refine blk_at _ _ ?_; (first | rfl | (simp only [size_one]; done))) | refine (blk_past _ _ (by simp only [size_one]; omega)).trans ?_)), (by repeat (first | (refine blk_at _ _ ?_; (first | rfl | (simp only [size_one]; done))) | refine (blk_past _ _ (by simp only [size_one]; omega)).trans ?_)), trivial⟩⟩
  case round =>
    obtain ⟨k, hk, hx1, hi1, hE, hA⟩ := hrel
    by_cases hk0 : k = 0
    · subst hk0
      simp only [List.drop_zero, Nat.zero_add, hsl] at hx1
      obtain rfl := hx1
      obtain rfl : u8 = .int .i64 (-1) := hi1
      clear hk
      obtain ⟨c0_0_0, c0_0_1, f0_0_0, f0_0_1⟩ := run_pair (At.at hA.out 0 rfl)
      have s0_0 : w.heap.size < wr.heap.size := At.lt hA.out 0 rfl
      obtain ⟨c0_1_0, c0_1_1, f0_1_0, f0_1_1⟩ := run_pair (At.at hA.out 1 rfl)
      have s0_1 : w.heap.size + 1 < wr.heap.size := At.lt hA.out 1 rfl
      go_wp2_with (first | (go_at_call 78; (with_reducible refine (KN.out _).mono ?_); rintro E w1 ⟨rfl, hb1⟩; have A1 := Lib.hid (show At w1 [(w.heap.size, Obj.cells #[.int .i64 0, .int .i64 0] 23), (w.heap.size + 1, Obj.cells #[.int .i64 0, .int .i64 1] 23)] from At.ext hb1 hA.out); have E1 := Lib.hid ((hE).trans hb1); obtain ⟨c1_0_0, c1_0_1, f1_0_0, f1_0_1⟩ := run_pair (At.at A1.out 0 rfl); have s1_0 : w.heap.size < w1.heap.size := At.lt A1.out 0 rfl; obtain ⟨c1_1_0, c1_1_1, f1_1_0, f1_1_1⟩ := run_pair (At.at A1.out 1 rfl); have s1_1 : w.heap.size + 1 < w1.heap.size := At.lt A1.out 1 rfl) | (go_at_call 78; (with_reducible refine (KD.out _).mono ?_); rintro E w2 ⟨rfl, hb2⟩; have A2 := Lib.hid (show At w2 [(w.heap.size + 1, Obj.cells #[.int .i64 (n1 : Int), .int .i64 1] 23), (w.heap.size, Obj.cells #[.int .i64 0, .int .i64 0] 23)] from At.ext hb2 (show At _ [(w.heap.size + 1, Obj.cells #[.int .i64 (n1 : Int), .int .i64 1] 23), (w.heap.size, Obj.cells #[.int .i64 0, .int .i64 0] 23)] from ⟨(set_one (At.at A1.out 1 rfl) 0 (.int .i64 (n1 : Int))).1, (At.other (set_one (At.at A1.out 1 rfl) 0 (.int .i64 (n1 : Int))).2.1 (by first | (simp; done) | (simp; omega)) (At.erase A1.out 1))⟩)); have E2 := Lib.hid ((((set_one (At.at A1.out 1 rfl) 0 (.int .i64 (n1 : Int))).2.2 w (by omega) E1.out)).trans hb2); obtain ⟨c2_0_0, c2_0_1, f2_0_0, f2_0_1⟩ := run_pair (At.at A2.out 0 rfl); have s2_0 : w.heap.size + 1 < w2.heap.size := At.lt A2.out 0 rfl; obtain ⟨c2_1_0, c2_1_1, f2_1_0, f2_1_1⟩ := run_pair (At.at A2.out 1 rfl); have s2_1 : w.heap.size < w2.heap.size := At.lt A2.out 1 rfl; (try clear c1_0_0 c1_0_1 f1_0_0 f1_0_1 c1_1_0 c1_1_1 f1_1_0 f1_1_1 s1_0 s1_1)) | (go_at_call 50; (with_reducible refine (KV.out _).mono ?_); rintro E w3 ⟨rfl, hb3⟩; have A3 := Lib.hid (show At w3 [(w.heap.size + 1, Obj.cells #[.int .i64 (-(n1 : Int)), .int .i64 (d1 : Int)] 23), (w.heap.size, Obj.cells #[.int .i64 0, .int .i64 0] 23)] from At.ext hb3 (show At _ [(w.heap.size + 1, Obj.cells #[.int .i64 (-(n1 : Int)), .int .i64 (d1 : Int)] 23), (w.heap.size, Obj.cells #[.int .i64 0, .int .i64 0] 23)] from ⟨(set_one (At.at (show At _ [(w.heap.size + 1, Obj.cells #[.int .i64 (n1 : Int), .int .i64 (d1 : Int)] 23), (w.heap.size, Obj.cells #[.int .i64 0, .int .i64 0] 23)] from ⟨(set_one (At.at A2.out 0 rfl) 1 (.int .i64 (d1 : Int))).1, (At.other (set_one (At.at A2.out 0 rfl) 1 (.int .i64 (d1 : Int))).2.1 (by first | (simp; done) | (simp; omega)) (At.erase A2.out 0))⟩) 0 rfl) 0 (.int .i64 (-(n1 : Int)))).1, (At.other (set_one (At.at (show At _ [(w.heap.size + 1, Obj.cells #[.int .i64 (n1 : Int), .int .i64 (d1 : Int)] 23), (w.heap.size, Obj.cells #[.int .i64 0, .int .i64 0] 23)] from ⟨(set_one (At.at A2.out 0 rfl) 1 (.int .i64 (d1 : Int))).1, (At.other (set_one (At.at A2.out 0 rfl) 1 (.int .i64 (d1 : Int))).2.1 (by first | (simp; done) | (simp; omega)) (At.erase A2.out 0))⟩) 0 rfl) 0 (.int .i64 (-(n1 : Int)))).2.1 (by first | (simp; done) | (simp; omega)) (At.erase (show At _ [(w.heap.size + 1, Obj.cells #[.int .i64 (n1 : Int), .int .i64 (d1 : Int)] 23), (w.heap.size, Obj.cells #[.int .i64 0, .int .i64 0] 23)] from ⟨(set_one (At.at A2.out 0 rfl) 1 (.int .i64 (d1 : Int))).1, (At.other (set_one (At.at A2.out 0 rfl) 1 (.int .i64 (d1 : Int))).2.1 (by first | (simp; done) | (simp; omega)) (At.erase A2.out 0))⟩) 0))⟩)); have E3 := Lib.hid ((((set_one (At.at (show At _ [(w.heap.size + 1, Obj.cells #[.int .i64 (n1 : Int), .int .i64 (d1 : Int)] 23), (w.heap.size, Obj.cells #[.int .i64 0, .int .i64 0] 23)] from ⟨(set_one (At.at A2.out 0 rfl) 1 (.int .i64 (d1 : Int))).1, (At.other (set_one (At.at A2.out 0 rfl) 1 (.int .i64 (d1 : Int))).2.1 (by first | (simp; done) | (simp; omega)) (At.erase A2.out 0))⟩) 0 rfl) 0 (.int .i64 (-(n1 : Int)))).2.2 w (by omega) ((set_one (At.at A2.out 0 rfl) 1 (.int .i64 (d1 : Int))).2.2 w (by omega) E2.out))).trans hb3); obtain ⟨c3_0_0, c3_0_1, f3_0_0, f3_0_1⟩ := run_pair (At.at A3.out 0 rfl); have s3_0 : w.heap.size + 1 < w3.heap.size := At.lt A3.out 0 rfl; obtain ⟨c3_1_0, c3_1_1, f3_1_0, f3_1_1⟩ := run_pair (At.at A3.out 1 rfl); have s3_1 : w.heap.size < w3.heap.size := At.lt A3.out 1 rfl; (try clear c2_0_0 c2_0_1 f2_0_0 f2_0_1 c2_1_0 c2_1_1 f2_1_0 f2_1_1 s2_0 s2_1)) | (go_at_call 77; (with_reducible refine (KS.out _).mono ?_); rintro E w4 ⟨rfl, hb4⟩; have A4 := Lib.hid (show At w4 [(w.heap.size + 1, Obj.cells #[.int .i64 (-(n1 : Int)), .int .i64 (d1 : Int)] 23), (w.heap.size, Obj.cells #[.int .i64 0, .int .i64 0] 23)] from At.ext hb4 A3.out); have E4 := Lib.hid ((E3.out).trans hb4); obtain ⟨c4_0_0, c4_0_1, f4_0_0, f4_0_1⟩ := run_pair (At.at A4.out 0 rfl); have s4_0 : w.heap.size + 1 < w4.heap.size := At.lt A4.out 0 rfl; obtain ⟨c4_1_0, c4_1_1, f4_1_0, f4_1_1⟩ := run_pair (At.at A4.out 1 rfl); have s4_1 : w.heap.size < w4.heap.size := At.lt A4.out 1 rfl; (try clear c3_0_0 c3_0_1 f3_0_0 f3_0_1 c3_1_0 c3_1_1 f3_1_0 f3_1_1 s3_0 s3_1)))
      refine bodyPost_ret (RT.results_row2 rfl _ _ (w.heap.size) 23 #[.int .i64 0, .int .i64 0] (0, 0) _ rfl (store_pair (v0 := .int .i64 0) (v1 := .int .i64 0) (At.at A4.out 1 rfl)).1 Tryd.underlying23 rfl info_frac) rfl ?_
      exact ⟨rfl, (store_pair (v0 := .int .i64 0) (v1 := .int .i64 0) (At.at A4.out 1 rfl)).2.2 w (Nat.le_refl _) E4.out⟩
    · obtain ⟨j, rfl⟩ : ∃ j, k = j + 1 := ⟨k - 1, by omega⟩
      obtain rfl : u8 = .int .i64 (j : Int) := by rw [hi1]; exact congrArg (Value.int .i64) (by omega)
      have hj : j < t.size := by omega
      have hd := Lib.hid (show t.data.toList.drop j = t[j] :: t.data.toList.drop (j + 1) by
        rw [List.drop_eq_getElem_cons (by rw [TL.out]; exact hj), (List.getElem?_eq_some_iff.1 (Lib.data_getElem? t j hj)).2])
      obtain rfl := hx1
      clear hk hk0
      by_cases hc : t[j].toNat = 47
      · have c1 : (((t[j].toNat : Nat) : Int) == 47) = true := by rw [hc]; rfl
        have hc2 := Lib.hid (show t[j] = 47 from UInt8.toNat_inj.1 hc)
        have HC := Lib.hid hc
        clear hc
        go_wp2
        go_roundw
        case rel => exact ⟨j, by omega, congrArg (Value.int .i64) (by rw [hd.out, hc2.out]; simp), rfl, hE, hA⟩
        case measure => simp [intOf]; try omega
      · have c1 : (((t[j].toNat : Nat) : Int) == 47) = false := by simp; omega
        have hc2 := Lib.hid (show ¬ t[j] = 47 from fun h => hc (by rw [h]; rfl))
        have HC := Lib.hid hc
        clear hc
        go_wp2
        go_roundw
        case rel => exact ⟨j, by omega, congrArg (Value.int .i64) (by rw [hd.out, List.idxOf_cons, show (t[j] == (47 : UInt8)) = false from by simpa using hc2.out]; simp only [cond_false]; omega), rfl, hE, hA⟩
        case measure => simp [intOf]; try omega
set_option maxRecDepth 100000 in
set_option maxHeartbeats 8000000 in
theorem rParse_mf_yes (s t tx : ByteArray) (sl n1 d1 : Nat) (w : World) (hs : s.size ≤ 1000) (hn1 : n1 ≤ 4611686018427387909) (hsl : t.data.toList.idxOf 47 = sl) (hl : sl ≤ t.size) (hl1 : decide ((sl : Int) < (t.size : Int)) = true) (hl2 : sl < t.size) (hx : (tx.toList == s.toList) = true) (h0 : 0 < s.size) (hb : s[0].toNat = 45) (ht : s.extract 1 s.size = t)
    (kn : ∀ w, Calls Tryd.prog 78 #[.string (t.extract 0 sl)] w fun E w' => E = .returned (.int .i64 (n1 : Int)) ∧ Ext w w')
    (kd : ∀ w, Calls Tryd.prog 78 #[.string (t.extract (sl + 1) t.size)] w fun E w' => E = .returned (.int .i64 (d1 : Int)) ∧ Ext w w')
    (kv : ∀ w, Calls Tryd.prog 50 #[fracV ⟨(-(n1 : Int)), (d1 : Int)⟩] w fun E w' => E = .returned (.bool true) ∧ Ext w w')
    (ks : ∀ w, Calls Tryd.prog 77 #[fracV ⟨(-(n1 : Int)), (d1 : Int)⟩] w fun E w' => E = .returned (.string tx) ∧ Ext w w') :
    Calls Tryd.prog 45 #[.string s] w fun E w' => E = .returned (fansV (⟨(-(n1 : Int)), (d1 : Int)⟩, 0)) ∧ Ext w w' := by
  have KN := Lib.hid kn
  have KD := Lib.hid kd
  have KV := Lib.hid kv
  have KS := Lib.hid ks
  clear kn kd kv ks
  have TL := Lib.hid (show t.data.toList.length = t.size by rw [Array.length_toList]; rfl)
  have hts : t.size ≤ 1000 := by rw [← ht]; simp; omega
  go_enter Tryd.func45, Tryd.ntmps45
  go_wp2
  have hsz : s.size - 1 = t.size := by rw [← ht]; simp
  try simp only [ht, hsz]
  clear ht hsz h0 hb
  go_loopw [7, 8] (fun x i wr => ∃ k : Nat, k ≤ t.size ∧ x = .int .i64 ((k + (t.data.toList.drop k).idxOf 47 : Nat) : Int) ∧ i = .int .i64 ((k : Int) - 1) ∧ Ext w wr ∧ Hid (At wr [(w.heap.size, Obj.cells #[.int .i64 0, .int .i64 0] 23), (w.heap.size + 1, Obj.cells #[.int .i64 0, .int .i64 1] 23)])) (fun _ i _ => (intOf i + 1).toNat)
  case atStart =>
    exact ⟨t.size, Nat.le_refl _, congrArg (Value.int .i64) (by rw [List.drop_eq_nil_of_le (by rw [TL.out]; exact Nat.le_refl _)]; simp), rfl, (by repeat (first | exact Ext.refl _ | assumption | refine Ext.alloc ?_ _ | refine Ext.drewN ?_ _ | refine ext_grow ?_ _ _ | refine Ext.setCell ?_ (by first | exact Nat.le_refl _ | omega | (simp; done) | (simp; omega)) _ | refine Ext.trans ?_ (by assumption))), Lib.hid ⟨(by repeat (first | (refine blk_at _ _ ?_; (first | rfl | (simp only [size_one]; done))) | refine (blk_past _ _ (by simp only [size_one]; omega)).trans ?_)), (by repeat (first | (refine blk_at _ _ ?_; (first | rfl | (simp only [size_one]; done))) | refine (blk_past _ _ (by simp only [size_one]; omega)).trans ?_)), trivial⟩⟩
  case round =>
    obtain ⟨k, hk, hx1, hi1, hE, hA⟩ := hrel
    by_cases hk0 : k = 0
    · subst hk0
      simp only [List.drop_zero, Nat.zero_add, hsl] at hx1
      obtain rfl := hx1
      obtain rfl : u8 = .int .i64 (-1) := hi1
      clear hk
      obtain ⟨c0_0_0, c0_0_1, f0_0_0, f0_0_1⟩ := run_pair (At.at hA.out 0 rfl)
      have s0_0 : w.heap.size < wr.heap.size := At.lt hA.out 0 rfl
      obtain ⟨c0_1_0, c0_1_1, f0_1_0, f0_1_1⟩ := run_pair (At.at hA.out 1 rfl)
      have s0_1 : w.heap.size + 1 < wr.heap.size := At.lt hA.out 1 rfl
      go_wp2_with (first | (go_at_call 78; (with_reducible refine (KN.out _).mono ?_); rintro E w1 ⟨rfl, hb1⟩; have A1 := Lib.hid (show At w1 [(w.heap.size, Obj.cells #[.int .i64 0, .int .i64 0] 23), (w.heap.size + 1, Obj.cells #[.int .i64 0, .int .i64 1] 23)] from At.ext hb1 hA.out); have E1 := Lib.hid ((hE).trans hb1); obtain ⟨c1_0_0, c1_0_1, f1_0_0, f1_0_1⟩ := run_pair (At.at A1.out 0 rfl); have s1_0 : w.heap.size < w1.heap.size := At.lt A1.out 0 rfl; obtain ⟨c1_1_0, c1_1_1, f1_1_0, f1_1_1⟩ := run_pair (At.at A1.out 1 rfl); have s1_1 : w.heap.size + 1 < w1.heap.size := At.lt A1.out 1 rfl) | (go_at_call 78; (with_reducible refine (KD.out _).mono ?_); rintro E w2 ⟨rfl, hb2⟩; have A2 := Lib.hid (show At w2 [(w.heap.size + 1, Obj.cells #[.int .i64 (n1 : Int), .int .i64 1] 23), (w.heap.size, Obj.cells #[.int .i64 0, .int .i64 0] 23)] from At.ext hb2 (show At _ [(w.heap.size + 1, Obj.cells #[.int .i64 (n1 : Int), .int .i64 1] 23), (w.heap.size, Obj.cells #[.int .i64 0, .int .i64 0] 23)] from ⟨(set_one (At.at A1.out 1 rfl) 0 (.int .i64 (n1 : Int))).1, (At.other (set_one (At.at A1.out 1 rfl) 0 (.int .i64 (n1 : Int))).2.1 (by first | (simp; done) | (simp; omega)) (At.erase A1.out 1))⟩)); have E2 := Lib.hid ((((set_one (At.at A1.out 1 rfl) 0 (.int .i64 (n1 : Int))).2.2 w (by omega) E1.out)).trans hb2); obtain ⟨c2_0_0, c2_0_1, f2_0_0, f2_0_1⟩ := run_pair (At.at A2.out 0 rfl); have s2_0 : w.heap.size + 1 < w2.heap.size := At.lt A2.out 0 rfl; obtain ⟨c2_1_0, c2_1_1, f2_1_0, f2_1_1⟩ := run_pair (At.at A2.out 1 rfl); have s2_1 : w.heap.size < w2.heap.size := At.lt A2.out 1 rfl; (try clear c1_0_0 c1_0_1 f1_0_0 f1_0_1 c1_1_0 c1_1_1 f1_1_0 f1_1_1 s1_0 s1_1)) | (go_at_call 50; (with_reducible refine (KV.out _).mono ?_); rintro E w3 ⟨rfl, hb3⟩; have A3 := Lib.hid (show At w3 [(w.heap.size + 1, Obj.cells #[.int .i64 (-(n1 : Int)), .int .i64 (d1 : Int)] 23), (w.heap.size, Obj.cells #[.int .i64 0, .int .i64 0] 23)] from At.ext hb3 (show At _ [(w.heap.size + 1, Obj.cells #[.int .i64 (-(n1 : Int)), .int .i64 (d1 : Int)] 23), (w.heap.size, Obj.cells #[.int .i64 0, .int .i64 0] 23)] from ⟨(set_one (At.at (show At _ [(w.heap.size + 1, Obj.cells #[.int .i64 (n1 : Int), .int .i64 (d1 : Int)] 23), (w.heap.size, Obj.cells #[.int .i64 0, .int .i64 0] 23)] from ⟨(set_one (At.at A2.out 0 rfl) 1 (.int .i64 (d1 : Int))).1, (At.other (set_one (At.at A2.out 0 rfl) 1 (.int .i64 (d1 : Int))).2.1 (by first | (simp; done) | (simp; omega)) (At.erase A2.out 0))⟩) 0 rfl) 0 (.int .i64 (-(n1 : Int)))).1, (At.other (set_one (At.at (show At _ [(w.heap.size + 1, Obj.cells #[.int .i64 (n1 : Int), .int .i64 (d1 : Int)] 23), (w.heap.size, Obj.cells #[.int .i64 0, .int .i64 0] 23)] from ⟨(set_one (At.at A2.out 0 rfl) 1 (.int .i64 (d1 : Int))).1, (At.other (set_one (At.at A2.out 0 rfl) 1 (.int .i64 (d1 : Int))).2.1 (by first | (simp; done) | (simp; omega)) (At.erase A2.out 0))⟩) 0 rfl) 0 (.int .i64 (-(n1 : Int)))).2.1 (by first | (simp; done) | (simp; omega)) (At.erase (show At _ [(w.heap.size + 1, Obj.cells #[.int .i64 (n1 : Int), .int .i64 (d1 : Int)] 23), (w.heap.size, Obj.cells #[.int .i64 0, .int .i64 0] 23)] from ⟨(set_one (At.at A2.out 0 rfl) 1 (.int .i64 (d1 : Int))).1, (At.other (set_one (At.at A2.out 0 rfl) 1 (.int .i64 (d1 : Int))).2.1 (by first | (simp; done) | (simp; omega)) (At.erase A2.out 0))⟩) 0))⟩)); have E3 := Lib.hid ((((set_one (At.at (show At _ [(w.heap.size + 1, Obj.cells #[.int .i64 (n1 : Int), .int .i64 (d1 : Int)] 23), (w.heap.size, Obj.cells #[.int .i64 0, .int .i64 0] 23)] from ⟨(set_one (At.at A2.out 0 rfl) 1 (.int .i64 (d1 : Int))).1, (At.other (set_one (At.at A2.out 0 rfl) 1 (.int .i64 (d1 : Int))).2.1 (by first | (simp; done) | (simp; omega)) (At.erase A2.out 0))⟩) 0 rfl) 0 (.int .i64 (-(n1 : Int)))).2.2 w (by omega) ((set_one (At.at A2.out 0 rfl) 1 (.int .i64 (d1 : Int))).2.2 w (by omega) E2.out))).trans hb3); obtain ⟨c3_0_0, c3_0_1, f3_0_0, f3_0_1⟩ := run_pair (At.at A3.out 0 rfl); have s3_0 : w.heap.size + 1 < w3.heap.size := At.lt A3.out 0 rfl; obtain ⟨c3_1_0, c3_1_1, f3_1_0, f3_1_1⟩ := run_pair (At.at A3.out 1 rfl); have s3_1 : w.heap.size < w3.heap.size := At.lt A3.out 1 rfl; (try clear c2_0_0 c2_0_1 f2_0_0 f2_0_1 c2_1_0 c2_1_1 f2_1_0 f2_1_1 s2_0 s2_1)) | (go_at_call 77; (with_reducible refine (KS.out _).mono ?_); rintro E w4 ⟨rfl, hb4⟩; have A4 := Lib.hid (show At w4 [(w.heap.size + 1, Obj.cells #[.int .i64 (-(n1 : Int)), .int .i64 (d1 : Int)] 23), (w.heap.size, Obj.cells #[.int .i64 0, .int .i64 0] 23)] from At.ext hb4 A3.out); have E4 := Lib.hid ((E3.out).trans hb4); obtain ⟨c4_0_0, c4_0_1, f4_0_0, f4_0_1⟩ := run_pair (At.at A4.out 0 rfl); have s4_0 : w.heap.size + 1 < w4.heap.size := At.lt A4.out 0 rfl; obtain ⟨c4_1_0, c4_1_1, f4_1_0, f4_1_1⟩ := run_pair (At.at A4.out 1 rfl); have s4_1 : w.heap.size < w4.heap.size := At.lt A4.out 1 rfl; (try clear c3_0_0 c3_0_1 f3_0_0 f3_0_1 c3_1_0 c3_1_1 f3_1_0 f3_1_1 s3_0 s3_1)))
      refine bodyPost_ret (RT.results_row2 rfl _ _ (w.heap.size) 23 #[.int .i64 (-(n1 : Int)), .int .i64 (d1 : Int)] (0, 0) _ rfl (store_pair (v0 := .int .i64 (-(n1 : Int))) (v1 := .int .i64 (d1 : Int)) (At.at A4.out 1 rfl)).1 Tryd.underlying23 rfl info_frac) rfl ?_
      exact ⟨rfl, (store_pair (v0 := .int .i64 (-(n1 : Int))) (v1 := .int .i64 (d1 : Int)) (At.at A4.out 1 rfl)).2.2 w (Nat.le_refl _) E4.out⟩
    · obtain ⟨j, rfl⟩ : ∃ j, k = j + 1 := ⟨k - 1, by omega⟩
      obtain rfl : u8 = .int .i64 (j : Int) := by rw [hi1]; exact congrArg (Value.int .i64) (by omega)
      have hj : j < t.size := by omega
      have hd := Lib.hid (show t.data.toList.drop j = t[j] :: t.data.toList.drop (j + 1) by
        rw [List.drop_eq_getElem_cons (by rw [TL.out]; exact hj), (List.getElem?_eq_some_iff.1 (Lib.data_getElem? t j hj)).2])
      obtain rfl := hx1
      clear hk hk0
      by_cases hc : t[j].toNat = 47
      · have c1 : (((t[j].toNat : Nat) : Int) == 47) = true := by rw [hc]; rfl
        have hc2 := Lib.hid (show t[j] = 47 from UInt8.toNat_inj.1 hc)
        have HC := Lib.hid hc
        clear hc
        go_wp2
        go_roundw
        case rel => exact ⟨j, by omega, congrArg (Value.int .i64) (by rw [hd.out, hc2.out]; simp), rfl, hE, hA⟩
        case measure => simp [intOf]; try omega
      · have c1 : (((t[j].toNat : Nat) : Int) == 47) = false := by simp; omega
        have hc2 := Lib.hid (show ¬ t[j] = 47 from fun h => hc (by rw [h]; rfl))
        have HC := Lib.hid hc
        clear hc
        go_wp2
        go_roundw
        case rel => exact ⟨j, by omega, congrArg (Value.int .i64) (by rw [hd.out, List.idxOf_cons, show (t[j] == (47 : UInt8)) = false from by simpa using hc2.out]; simp only [cond_false]; omega), rfl, hE, hA⟩
        case measure => simp [intOf]; try omega
set_option maxRecDepth 100000 in
set_option maxHeartbeats 8000000 in
theorem rParse_mn_no (s t tx : ByteArray) (sl n1 d1 : Nat) (w : World) (hs : s.size ≤ 1000) (hn1 : n1 ≤ 4611686018427387909) (hsl : t.data.toList.idxOf 47 = sl) (hl : sl ≤ t.size) (hl1 : decide ((sl : Int) < (t.size : Int)) = false) (hl2 : ¬ sl < t.size) (h0 : 0 < s.size) (hb : s[0].toNat = 45) (ht : s.extract 1 s.size = t)
    (kn : ∀ w, Calls Tryd.prog 78 #[.string (t.extract 0 sl)] w fun E w' => E = .returned (.int .i64 (n1 : Int)) ∧ Ext w w')
    (kv : ∀ w, Calls Tryd.prog 50 #[fracV ⟨(-(n1 : Int)), 1⟩] w fun E w' => E = .returned (.bool false) ∧ Ext w w') :
    Calls Tryd.prog 45 #[.string s] w fun E w' => E = .returned (fansV (⟨0, 0⟩, 11)) ∧ Ext w w' := by
  have KN := Lib.hid kn
  have KV := Lib.hid kv
  clear kn kv
  have TL := Lib.hid (show t.data.toList.length = t.size by rw [Array.length_toList]; rfl)
  have hts : t.size ≤ 1000 := by rw [← ht]; simp; omega
  go_enter Tryd.func45, Tryd.ntmps45
  go_wp2
  have hsz : s.size - 1 = t.size := by rw [← ht]; simp
  try simp only [ht, hsz]
  clear ht hsz h0 hb
  go_loopw [7, 8] (fun x i wr => ∃ k : Nat, k ≤ t.size ∧ x = .int .i64 ((k + (t.data.toList.drop k).idxOf 47 : Nat) : Int) ∧ i = .int .i64 ((k : Int) - 1) ∧ Ext w wr ∧ Hid (At wr [(w.heap.size, Obj.cells #[.int .i64 0, .int .i64 0] 23), (w.heap.size + 1, Obj.cells #[.int .i64 0, .int .i64 1] 23)])) (fun _ i _ => (intOf i + 1).toNat)
  case atStart =>
    exact ⟨t.size, Nat.le_refl _, congrArg (Value.int .i64) (by rw [List.drop_eq_nil_of_le (by rw [TL.out]; exact Nat.le_refl _)]; simp), rfl, (by repeat (first | exact Ext.refl _ | assumption | refine Ext.alloc ?_ _ | refine Ext.drewN ?_ _ | refine ext_grow ?_ _ _ | refine Ext.setCell ?_ (by first | exact Nat.le_refl _ | omega | (simp; done) | (simp; omega)) _ | refine Ext.trans ?_ (by assumption))), Lib.hid ⟨(by repeat (first | (refine blk_at _ _ ?_; (first | rfl | (simp only [size_one]; done))) | refine (blk_past _ _ (by simp only [size_one]; omega)).trans ?_)), (by repeat (first | (refine blk_at _ _ ?_; (first | rfl | (simp only [size_one]; done))) | refine (blk_past _ _ (by simp only [size_one]; omega)).trans ?_)), trivial⟩⟩
  case round =>
    obtain ⟨k, hk, hx1, hi1, hE, hA⟩ := hrel
    by_cases hk0 : k = 0
    · subst hk0
      simp only [List.drop_zero, Nat.zero_add, hsl] at hx1
      obtain rfl := hx1
      obtain rfl : u8 = .int .i64 (-1) := hi1
      clear hk
      obtain ⟨c0_0_0, c0_0_1, f0_0_0, f0_0_1⟩ := run_pair (At.at hA.out 0 rfl)
      have s0_0 : w.heap.size < wr.heap.size := At.lt hA.out 0 rfl
      obtain ⟨c0_1_0, c0_1_1, f0_1_0, f0_1_1⟩ := run_pair (At.at hA.out 1 rfl)
      have s0_1 : w.heap.size + 1 < wr.heap.size := At.lt hA.out 1 rfl
      go_wp2_with (first | (go_at_call 78; (with_reducible refine (KN.out _).mono ?_); rintro E w1 ⟨rfl, hb1⟩; have A1 := Lib.hid (show At w1 [(w.heap.size, Obj.cells #[.int .i64 0, .int .i64 0] 23), (w.heap.size + 1, Obj.cells #[.int .i64 0, .int .i64 1] 23)] from At.ext hb1 hA.out); have E1 := Lib.hid ((hE).trans hb1); obtain ⟨c1_0_0, c1_0_1, f1_0_0, f1_0_1⟩ := run_pair (At.at A1.out 0 rfl); have s1_0 : w.heap.size < w1.heap.size := At.lt A1.out 0 rfl; obtain ⟨c1_1_0, c1_1_1, f1_1_0, f1_1_1⟩ := run_pair (At.at A1.out 1 rfl); have s1_1 : w.heap.size + 1 < w1.heap.size := At.lt A1.out 1 rfl) | (go_at_call 50; (with_reducible refine (KV.out _).mono ?_); rintro E w2 ⟨rfl, hb2⟩; have A2 := Lib.hid (show At w2 [(w.heap.size + 1, Obj.cells #[.int .i64 (-(n1 : Int)), .int .i64 1] 23), (w.heap.size, Obj.cells #[.int .i64 0, .int .i64 0] 23)] from At.ext hb2 (show At _ [(w.heap.size + 1, Obj.cells #[.int .i64 (-(n1 : Int)), .int .i64 1] 23), (w.heap.size, Obj.cells #[.int .i64 0, .int .i64 0] 23)] from ⟨(set_one (At.at (show At _ [(w.heap.size + 1, Obj.cells #[.int .i64 (n1 : Int), .int .i64 1] 23), (w.heap.size, Obj.cells #[.int .i64 0, .int .i64 0] 23)] from ⟨(set_one (At.at A1.out 1 rfl) 0 (.int .i64 (n1 : Int))).1, (At.other (set_one (At.at A1.out 1 rfl) 0 (.int .i64 (n1 : Int))).2.1 (by first | (simp; done) | (simp; omega)) (At.erase A1.out 1))⟩) 0 rfl) 0 (.int .i64 (-(n1 : Int)))).1, (At.other (set_one (At.at (show At _ [(w.heap.size + 1, Obj.cells #[.int .i64 (n1 : Int), .int .i64 1] 23), (w.heap.size, Obj.cells #[.int .i64 0, .int .i64 0] 23)] from ⟨(set_one (At.at A1.out 1 rfl) 0 (.int .i64 (n1 : Int))).1, (At.other (set_one (At.at A1.out 1 rfl) 0 (.int .i64 (n1 : Int))).2.1 (by first | (simp; done) | (simp; omega)) (At.erase A1.out 1))⟩) 0 rfl) 0 (.int .i64 (-(n1 : Int)))).2.1 (by first | (simp; done) | (simp; omega)) (At.erase (show At _ [(w.heap.size + 1, Obj.cells #[.int .i64 (n1 : Int), .int .i64 1] 23), (w.heap.size, Obj.cells #[.int .i64 0, .int .i64 0] 23)] from ⟨(set_one (At.at A1.out 1 rfl) 0 (.int .i64 (n1 : Int))).1, (At.other (set_one (At.at A1.out 1 rfl) 0 (.int .i64 (n1 : Int))).2.1 (by first | (simp; done) | (simp; omega)) (At.erase A1.out 1))⟩) 0))⟩)); have E2 := Lib.hid ((((set_one (At.at (show At _ [(w.heap.size + 1, Obj.cells #[.int .i64 (n1 : Int), .int .i64 1] 23), (w.heap.size, Obj.cells #[.int .i64 0, .int .i64 0] 23)] from ⟨(set_one (At.at A1.out 1 rfl) 0 (.int .i64 (n1 : Int))).1, (At.other (set_one (At.at A1.out 1 rfl) 0 (.int .i64 (n1 : Int))).2.1 (by first | (simp; done) | (simp; omega)) (At.erase A1.out 1))⟩) 0 rfl) 0 (.int .i64 (-(n1 : Int)))).2.2 w (by omega) ((set_one (At.at A1.out 1 rfl) 0 (.int .i64 (n1 : Int))).2.2 w (by omega) E1.out))).trans hb2); obtain ⟨c2_0_0, c2_0_1, f2_0_0, f2_0_1⟩ := run_pair (At.at A2.out 0 rfl); have s2_0 : w.heap.size + 1 < w2.heap.size := At.lt A2.out 0 rfl; obtain ⟨c2_1_0, c2_1_1, f2_1_0, f2_1_1⟩ := run_pair (At.at A2.out 1 rfl); have s2_1 : w.heap.size < w2.heap.size := At.lt A2.out 1 rfl; (try clear c1_0_0 c1_0_1 f1_0_0 f1_0_1 c1_1_0 c1_1_1 f1_1_0 f1_1_1 s1_0 s1_1)))
      refine bodyPost_ret (RT.results_row2 rfl _ _ (w.heap.size) 23 #[.int .i64 0, .int .i64 0] (0, 0) _ rfl (store_pair (v0 := .int .i64 0) (v1 := .int .i64 0) (At.at A2.out 1 rfl)).1 Tryd.underlying23 rfl info_frac) rfl ?_
      exact ⟨rfl, (store_pair (v0 := .int .i64 0) (v1 := .int .i64 0) (At.at A2.out 1 rfl)).2.2 w (Nat.le_refl _) E2.out⟩
    · obtain ⟨j, rfl⟩ : ∃ j, k = j + 1 := ⟨k - 1, by omega⟩
      obtain rfl : u8 = .int .i64 (j : Int) := by rw [hi1]; exact congrArg (Value.int .i64) (by omega)
      have hj : j < t.size := by omega
      have hd := Lib.hid (show t.data.toList.drop j = t[j] :: t.data.toList.drop (j + 1) by
        rw [List.drop_eq_getElem_cons (by rw [TL.out]; exact hj), (List.getElem?_eq_some_iff.1 (Lib.data_getElem? t j hj)).2])
      obtain rfl := hx1
      clear hk hk0
      by_cases hc : t[j].toNat = 47
      · have c1 : (((t[j].toNat : Nat) : Int) == 47) = true := by rw [hc]; rfl
        have hc2 := Lib.hid (show t[j] = 47 from UInt8.toNat_inj.1 hc)
        have HC := Lib.hid hc
        clear hc
        go_wp2
        go_roundw
        case rel => exact ⟨j, by omega, congrArg (Value.int .i64) (by rw [hd.out, hc2.out]; simp), rfl, hE, hA⟩
        case measure => simp [intOf]; try omega
      · have c1 : (((t[j].toNat : Nat) : Int) == 47) = false := by simp; omega
        have hc2 := Lib.hid (show ¬ t[j] = 47 from fun h => hc (by rw [h]; rfl))
        have HC := Lib.hid hc
        clear hc
        go_wp2
        go_roundw
        case rel => exact ⟨j, by omega, congrArg (Value.int .i64) (by rw [hd.out, List.idxOf_cons, show (t[j] == (47 : UInt8)) = false from by simpa using hc2.out]; simp only [cond_false]; omega), rfl, hE, hA⟩
        case measure => simp [intOf]; try omega
set_option maxRecDepth 100000 in
set_option maxHeartbeats 8000000 in
theorem rParse_mn_other (s t tx : ByteArray) (sl n1 d1 : Nat) (w : World) (hs : s.size ≤ 1000) (hn1 : n1 ≤ 4611686018427387909) (hsl : t.data.toList.idxOf 47 = sl) (hl : sl ≤ t.size) (hl1 : decide ((sl : Int) < (t.size : Int)) = false) (hl2 : ¬ sl < t.size) (hx : (tx.toList == s.toList) = false) (h0 : 0 < s.size) (hb : s[0].toNat = 45) (ht : s.extract 1 s.size = t)
    (kn : ∀ w, Calls Tryd.prog 78 #[.string (t.extract 0 sl)] w fun E w' => E = .returned (.int .i64 (n1 : Int)) ∧ Ext w w')
    (kv : ∀ w, Calls Tryd.prog 50 #[fracV ⟨(-(n1 : Int)), 1⟩] w fun E w' => E = .returned (.bool true) ∧ Ext w w')
    (ks : ∀ w, Calls Tryd.prog 77 #[fracV ⟨(-(n1 : Int)), 1⟩] w fun E w' => E = .returned (.string tx) ∧ Ext w w') :
    Calls Tryd.prog 45 #[.string s] w fun E w' => E = .returned (fansV (⟨0, 0⟩, 11)) ∧ Ext w w' := by
  have KN := Lib.hid kn
  have KV := Lib.hid kv
  have KS := Lib.hid ks
  clear kn kv ks
  have TL := Lib.hid (show t.data.toList.length = t.size by rw [Array.length_toList]; rfl)
  have hts : t.size ≤ 1000 := by rw [← ht]; simp; omega
  go_enter Tryd.func45, Tryd.ntmps45
  go_wp2
  have hsz : s.size - 1 = t.size := by rw [← ht]; simp
  try simp only [ht, hsz]
  clear ht hsz h0 hb
  go_loopw [7, 8] (fun x i wr => ∃ k : Nat, k ≤ t.size ∧ x = .int .i64 ((k + (t.data.toList.drop k).idxOf 47 : Nat) : Int) ∧ i = .int .i64 ((k : Int) - 1) ∧ Ext w wr ∧ Hid (At wr [(w.heap.size, Obj.cells #[.int .i64 0, .int .i64 0] 23), (w.heap.size + 1, Obj.cells #[.int .i64 0, .int .i64 1] 23)])) (fun _ i _ => (intOf i + 1).toNat)
  case atStart =>
    exact ⟨t.size, Nat.le_refl _, congrArg (Value.int .i64) (by rw [List.drop_eq_nil_of_le (by rw [TL.out]; exact Nat.le_refl _)]; simp), rfl, (by repeat (first | exact Ext.refl _ | assumption | refine Ext.alloc ?_ _ | refine Ext.drewN ?_ _ | refine ext_grow ?_ _ _ | refine Ext.setCell ?_ (by first | exact Nat.le_refl _ | omega | (simp; done) | (simp; omega)) _ | refine Ext.trans ?_ (by assumption))), Lib.hid ⟨(by repeat (first | (refine blk_at _ _ ?_; (first | rfl | (simp only [size_one]; done))) | refine (blk_past _ _ (by simp only [size_one]; omega)).trans ?_)), (by repeat (first | (refine blk_at _ _ ?_; (first | rfl | (simp only [size_one]; done))) | refine (blk_past _ _ (by simp only [size_one]; omega)).trans ?_)), trivial⟩⟩
  case round =>
    obtain ⟨k, hk, hx1, hi1, hE, hA⟩ := hrel
    by_cases hk0 : k = 0
    · subst hk0
      simp only [List.drop_zero, Nat.zero_add, hsl] at hx1
      obtain rfl := hx1
      obtain rfl : u8 = .int .i64 (-1) := hi1
      clear hk
      obtain ⟨c0_0_0, c0_0_1, f0_0_0, f0_0_1⟩ := run_pair (At.at hA.out 0 rfl)
      have s0_0 : w.heap.size < wr.heap.size := At.lt hA.out 0 rfl
      obtain ⟨c0_1_0, c0_1_1, f0_1_0, f0_1_1⟩ := run_pair (At.at hA.out 1 rfl)
      have s0_1 : w.heap.size + 1 < wr.heap.size := At.lt hA.out 1 rfl
      go_wp2_with (first | (go_at_call 78; (with_reducible refine (KN.out _).mono ?_); rintro E w1 ⟨rfl, hb1⟩; have A1 := Lib.hid (show At w1 [(w.heap.size, Obj.cells #[.int .i64 0, .int .i64 0] 23), (w.heap.size + 1, Obj.cells #[.int .i64 0, .int .i64 1] 23)] from At.ext hb1 hA.out); have E1 := Lib.hid ((hE).trans hb1); obtain ⟨c1_0_0, c1_0_1, f1_0_0, f1_0_1⟩ := run_pair (At.at A1.out 0 rfl); have s1_0 : w.heap.size < w1.heap.size := At.lt A1.out 0 rfl; obtain ⟨c1_1_0, c1_1_1, f1_1_0, f1_1_1⟩ := run_pair (At.at A1.out 1 rfl); have s1_1 : w.heap.size + 1 < w1.heap.size := At.lt A1.out 1 rfl) | (go_at_call 50; (with_reducible refine (KV.out _).mono ?_); rintro E w2 ⟨rfl, hb2⟩; have A2 := Lib.hid (show At w2 [(w.heap.size + 1, Obj.cells #[.int .i64 (-(n1 : Int)), .int .i64 1] 23), (w.heap.size, Obj.cells #[.int .i64 0, .int .i64 0] 23)] from At.ext hb2 (show At _ [(w.heap.size + 1, Obj.cells #[.int .i64 (-(n1 : Int)), .int .i64 1] 23), (w.heap.size, Obj.cells #[.int .i64 0, .int .i64 0] 23)] from ⟨(set_one (At.at (show At _ [(w.heap.size + 1, Obj.cells #[.int .i64 (n1 : Int), .int .i64 1] 23), (w.heap.size, Obj.cells #[.int .i64 0, .int .i64 0] 23)] from ⟨(set_one (At.at A1.out 1 rfl) 0 (.int .i64 (n1 : Int))).1, (At.other (set_one (At.at A1.out 1 rfl) 0 (.int .i64 (n1 : Int))).2.1 (by first | (simp; done) | (simp; omega)) (At.erase A1.out 1))⟩) 0 rfl) 0 (.int .i64 (-(n1 : Int)))).1, (At.other (set_one (At.at (show At _ [(w.heap.size + 1, Obj.cells #[.int .i64 (n1 : Int), .int .i64 1] 23), (w.heap.size, Obj.cells #[.int .i64 0, .int .i64 0] 23)] from ⟨(set_one (At.at A1.out 1 rfl) 0 (.int .i64 (n1 : Int))).1, (At.other (set_one (At.at A1.out 1 rfl) 0 (.int .i64 (n1 : Int))).2.1 (by first | (simp; done) | (simp; omega)) (At.erase A1.out 1))⟩) 0 rfl) 0 (.int .i64 (-(n1 : Int)))).2.1 (by first | (simp; done) | (simp; omega)) (At.erase (show At _ [(w.heap.size + 1, Obj.cells #[.int .i64 (n1 : Int), .int .i64 1] 23), (w.heap.size, Obj.cells #[.int .i64 0, .int .i64 0] 23)] from ⟨(set_one (At.at A1.out 1 rfl) 0 (.int .i64 (n1 : Int))).1, (At.other (set_one (At.at A1.out 1 rfl) 0 (.int .i64 (n1 : Int))).2.1 (by first | (simp; done) | (simp; omega)) (At.erase A1.out 1))⟩) 0))⟩)); have E2 := Lib.hid ((((set_one (At.at (show At _ [(w.heap.size + 1, Obj.cells #[.int .i64 (n1 : Int), .int .i64 1] 23), (w.heap.size, Obj.cells #[.int .i64 0, .int .i64 0] 23)] from ⟨(set_one (At.at A1.out 1 rfl) 0 (.int .i64 (n1 : Int))).1, (At.other (set_one (At.at A1.out 1 rfl) 0 (.int .i64 (n1 : Int))).2.1 (by first | (simp; done) | (simp; omega)) (At.erase A1.out 1))⟩) 0 rfl) 0 (.int .i64 (-(n1 : Int)))).2.2 w (by omega) ((set_one (At.at A1.out 1 rfl) 0 (.int .i64 (n1 : Int))).2.2 w (by omega) E1.out))).trans hb2); obtain ⟨c2_0_0, c2_0_1, f2_0_0, f2_0_1⟩ := run_pair (At.at A2.out 0 rfl); have s2_0 : w.heap.size + 1 < w2.heap.size := At.lt A2.out 0 rfl; obtain ⟨c2_1_0, c2_1_1, f2_1_0, f2_1_1⟩ := run_pair (At.at A2.out 1 rfl); have s2_1 : w.heap.size < w2.heap.size := At.lt A2.out 1 rfl; (try clear c1_0_0 c1_0_1 f1_0_0 f1_0_1 c1_1_0 c1_1_1 f1_1_0 f1_1_1 s1_0 s1_1)) | (go_at_call 77; (with_reducible refine (KS.out _).mono ?_); rintro E w3 ⟨rfl, hb3⟩; have A3 := Lib.hid (show At w3 [(w.heap.size + 1, Obj.cells #[.int .i64 (-(n1 : Int)), .int .i64 1] 23), (w.heap.size, Obj.cells #[.int .i64 0, .int .i64 0] 23)] from At.ext hb3 A2.out); have E3 := Lib.hid ((E2.out).trans hb3); obtain ⟨c3_0_0, c3_0_1, f3_0_0, f3_0_1⟩ := run_pair (At.at A3.out 0 rfl); have s3_0 : w.heap.size + 1 < w3.heap.size := At.lt A3.out 0 rfl; obtain ⟨c3_1_0, c3_1_1, f3_1_0, f3_1_1⟩ := run_pair (At.at A3.out 1 rfl); have s3_1 : w.heap.size < w3.heap.size := At.lt A3.out 1 rfl; (try clear c2_0_0 c2_0_1 f2_0_0 f2_0_1 c2_1_0 c2_1_1 f2_1_0 f2_1_1 s2_0 s2_1)))
      refine bodyPost_ret (RT.results_row2 rfl _ _ (w.heap.size) 23 #[.int .i64 0, .int .i64 0] (0, 0) _ rfl (store_pair (v0 := .int .i64 0) (v1 := .int .i64 0) (At.at A3.out 1 rfl)).1 Tryd.underlying23 rfl info_frac) rfl ?_
      exact ⟨rfl, (store_pair (v0 := .int .i64 0) (v1 := .int .i64 0) (At.at A3.out 1 rfl)).2.2 w (Nat.le_refl _) E3.out⟩
    · obtain ⟨j, rfl⟩ : ∃ j, k = j + 1 := ⟨k - 1, by omega⟩
      obtain rfl : u8 = .int .i64 (j : Int) := by rw [hi1]; exact congrArg (Value.int .i64) (by omega)
      have hj : j < t.size := by omega
      have hd := Lib.hid (show t.data.toList.drop j = t[j] :: t.data.toList.drop (j + 1) by
        rw [List.drop_eq_getElem_cons (by rw [TL.out]; exact hj), (List.getElem?_eq_some_iff.1 (Lib.data_getElem? t j hj)).2])
      obtain rfl := hx1
      clear hk hk0
      by_cases hc : t[j].toNat = 47
      · have c1 : (((t[j].toNat : Nat) : Int) == 47) = true := by rw [hc]; rfl
        have hc2 := Lib.hid (show t[j] = 47 from UInt8.toNat_inj.1 hc)
        have HC := Lib.hid hc
        clear hc
        go_wp2
        go_roundw
        case rel => exact ⟨j, by omega, congrArg (Value.int .i64) (by rw [hd.out, hc2.out]; simp), rfl, hE, hA⟩
        case measure => simp [intOf]; try omega
      · have c1 : (((t[j].toNat : Nat) : Int) == 47) = false := by simp; omega
        have hc2 := Lib.hid (show ¬ t[j] = 47 from fun h => hc (by rw [h]; rfl))
        have HC := Lib.hid hc
        clear hc
        go_wp2
        go_roundw
        case rel => exact ⟨j, by omega, congrArg (Value.int .i64) (by rw [hd.out, List.idxOf_cons, show (t[j] == (47 : UInt8)) = false from by simpa using hc2.out]; simp only [cond_false]; omega), rfl, hE, hA⟩
        case measure => simp [intOf]; try omega
set_option maxRecDepth 100000 in
set_option maxHeartbeats 8000000 in
theorem rParse_mn_yes (s t tx : ByteArray) (sl n1 d1 : Nat) (w : World) (hs : s.size ≤ 1000) (hn1 : n1 ≤ 4611686018427387909) (hsl : t.data.toList.idxOf 47 = sl) (hl : sl ≤ t.size) (hl1 : decide ((sl : Int) < (t.size : Int)) = false) (hl2 : ¬ sl < t.size) (hx : (tx.toList == s.toList) = true) (h0 : 0 < s.size) (hb : s[0].toNat = 45) (ht : s.extract 1 s.size = t)
    (kn : ∀ w, Calls Tryd.prog 78 #[.string (t.extract 0 sl)] w fun E w' => E = .returned (.int .i64 (n1 : Int)) ∧ Ext w w')
    (kv : ∀ w, Calls Tryd.prog 50 #[fracV ⟨(-(n1 : Int)), 1⟩] w fun E w' => E = .returned (.bool true) ∧ Ext w w')
    (ks : ∀ w, Calls Tryd.prog 77 #[fracV ⟨(-(n1 : Int)), 1⟩] w fun E w' => E = .returned (.string tx) ∧ Ext w w') :
    Calls Tryd.prog 45 #[.string s] w fun E w' => E = .returned (fansV (⟨(-(n1 : Int)), 1⟩, 0)) ∧ Ext w w' := by
  have KN := Lib.hid kn
  have KV := Lib.hid kv
  have KS := Lib.hid ks
  clear kn kv ks
  have TL := Lib.hid (show t.data.toList.length = t.size by rw [Array.length_toList]; rfl)
  have hts : t.size ≤ 1000 := by rw [← ht]; simp; omega
  go_enter Tryd.func45, Tryd.ntmps45
  go_wp2
  have hsz : s.size - 1 = t.size := by rw [← ht]; simp
  try simp only [ht, hsz]
  clear ht hsz h0 hb
  go_loopw [7, 8] (fun x i wr => ∃ k : Nat, k ≤ t.size ∧ x = .int .i64 ((k + (t.data.toList.drop k).idxOf 47 : Nat) : Int) ∧ i = .int .i64 ((k : Int) - 1) ∧ Ext w wr ∧ Hid (At wr [(w.heap.size, Obj.cells #[.int .i64 0, .int .i64 0] 23), (w.heap.size + 1, Obj.cells #[.int .i64 0, .int .i64 1] 23)])) (fun _ i _ => (intOf i + 1).toNat)
  case atStart =>
    exact ⟨t.size, Nat.le_refl _, congrArg (Value.int .i64) (by rw [List.drop_eq_nil_of_le (by rw [TL.out]; exact Nat.le_refl _)]; simp), rfl, (by repeat (first | exact Ext.refl _ | assumption | refine Ext.alloc ?_ _ | refine Ext.drewN ?_ _ | refine ext_grow ?_ _ _ | refine Ext.setCell ?_ (by first | exact Nat.le_refl _ | omega | (simp; done) | (simp; omega)) _ | refine Ext.trans ?_ (by assumption))), Lib.hid ⟨(by repeat (first | (refine blk_at _ _ ?_; (first | rfl | (simp only [size_one]; done))) | refine (blk_past _ _ (by simp only [size_one]; omega)).trans ?_)), (by repeat (first | (refine blk_at _ _ ?_; (first | rfl | (simp only [size_one]; done))) | refine (blk_past _ _ (by simp only [size_one]; omega)).trans ?_)), trivial⟩⟩
  case round =>
    obtain ⟨k, hk, hx1, hi1, hE, hA⟩ := hrel
    by_cases hk0 : k = 0
    · subst hk0
      simp only [List.drop_zero, Nat.zero_add, hsl] at hx1
      obtain rfl := hx1
      obtain rfl : u8 = .int .i64 (-1) := hi1
      clear hk
      obtain ⟨c0_0_0, c0_0_1, f0_0_0, f0_0_1⟩ := run_pair (At.at hA.out 0 rfl)
      have s0_0 : w.heap.size < wr.heap.size := At.lt hA.out 0 rfl
      obtain ⟨c0_1_0, c0_1_1, f0_1_0, f0_1_1⟩ := run_pair (At.at hA.out 1 rfl)
      have s0_1 : w.heap.size + 1 < wr.heap.size := At.lt hA.out 1 rfl
      go_wp2_with (first | (go_at_call 78; (with_reducible refine (KN.out _).mono ?_); rintro E w1 ⟨rfl, hb1⟩; have A1 := Lib.hid (show At w1 [(w.heap.size, Obj.cells #[.int .i64 0, .int .i64 0] 23), (w.heap.size + 1, Obj.cells #[.int .i64 0, .int .i64 1] 23)] from At.ext hb1 hA.out); have E1 := Lib.hid ((hE).trans hb1); obtain ⟨c1_0_0, c1_0_1, f1_0_0, f1_0_1⟩ := run_pair (At.at A1.out 0 rfl); have s1_0 : w.heap.size < w1.heap.size := At.lt A1.out 0 rfl; obtain ⟨c1_1_0, c1_1_1, f1_1_0, f1_1_1⟩ := run_pair (At.at A1.out 1 rfl); have s1_1 : w.heap.size + 1 < w1.heap.size := At.lt A1.out 1 rfl) | (go_at_call 50; (with_reducible refine (KV.out _).mono ?_); rintro E w2 ⟨rfl, hb2⟩; have A2 := Lib.hid (show At w2 [(w.heap.size + 1, Obj.cells #[.int .i64 (-(n1 : Int)), .int .i64 1] 23), (w.heap.size, Obj.cells #[.int .i64 0, .int .i64 0] 23)] from At.ext hb2 (show At _ [(w.heap.size + 1, Obj.cells #[.int .i64 (-(n1 : Int)), .int .i64 1] 23), (w.heap.size, Obj.cells #[.int .i64 0, .int .i64 0] 23)] from ⟨(set_one (At.at (show At _ [(w.heap.size + 1, Obj.cells #[.int .i64 (n1 : Int), .int .i64 1] 23), (w.heap.size, Obj.cells #[.int .i64 0, .int .i64 0] 23)] from ⟨(set_one (At.at A1.out 1 rfl) 0 (.int .i64 (n1 : Int))).1, (At.other (set_one (At.at A1.out 1 rfl) 0 (.int .i64 (n1 : Int))).2.1 (by first | (simp; done) | (simp; omega)) (At.erase A1.out 1))⟩) 0 rfl) 0 (.int .i64 (-(n1 : Int)))).1, (At.other (set_one (At.at (show At _ [(w.heap.size + 1, Obj.cells #[.int .i64 (n1 : Int), .int .i64 1] 23), (w.heap.size, Obj.cells #[.int .i64 0, .int .i64 0] 23)] from ⟨(set_one (At.at A1.out 1 rfl) 0 (.int .i64 (n1 : Int))).1, (At.other (set_one (At.at A1.out 1 rfl) 0 (.int .i64 (n1 : Int))).2.1 (by first | (simp; done) | (simp; omega)) (At.erase A1.out 1))⟩) 0 rfl) 0 (.int .i64 (-(n1 : Int)))).2.1 (by first | (simp; done) | (simp; omega)) (At.erase (show At _ [(w.heap.size + 1, Obj.cells #[.int .i64 (n1 : Int), .int .i64 1] 23), (w.heap.size, Obj.cells #[.int .i64 0, .int .i64 0] 23)] from ⟨(set_one (At.at A1.out 1 rfl) 0 (.int .i64 (n1 : Int))).1, (At.other (set_one (At.at A1.out 1 rfl) 0 (.int .i64 (n1 : Int))).2.1 (by first | (simp; done) | (simp; omega)) (At.erase A1.out 1))⟩) 0))⟩)); have E2 := Lib.hid ((((set_one (At.at (show At _ [(w.heap.size + 1, Obj.cells #[.int .i64 (n1 : Int), .int .i64 1] 23), (w.heap.size, Obj.cells #[.int .i64 0, .int .i64 0] 23)] from ⟨(set_one (At.at A1.out 1 rfl) 0 (.int .i64 (n1 : Int))).1, (At.other (set_one (At.at A1.out 1 rfl) 0 (.int .i64 (n1 : Int))).2.1 (by first | (simp; done) | (simp; omega)) (At.erase A1.out 1))⟩) 0 rfl) 0 (.int .i64 (-(n1 : Int)))).2.2 w (by omega) ((set_one (At.at A1.out 1 rfl) 0 (.int .i64 (n1 : Int))).2.2 w (by omega) E1.out))).trans hb2); obtain ⟨c2_0_0, c2_0_1, f2_0_0, f2_0_1⟩ := run_pair (At.at A2.out 0 rfl); have s2_0 : w.heap.size + 1 < w2.heap.size := At.lt A2.out 0 rfl; obtain ⟨c2_1_0, c2_1_1, f2_1_0, f2_1_1⟩ := run_pair (At.at A2.out 1 rfl); have s2_1 : w.heap.size < w2.heap.size := At.lt A2.out 1 rfl; (try clear c1_0_0 c1_0_1 f1_0_0 f1_0_1 c1_1_0 c1_1_1 f1_1_0 f1_1_1 s1_0 s1_1)) | (go_at_call 77; (with_reducible refine (KS.out _).mono ?_); rintro E w3 ⟨rfl, hb3⟩; have A3 := Lib.hid (show At w3 [(w.heap.size + 1, Obj.cells #[.int .i64 (-(n1 : Int)), .int .i64 1] 23), (w.heap.size, Obj.cells #[.int .i64 0, .int .i64 0] 23)] from At.ext hb3 A2.out); have E3 := Lib.hid ((E2.out).trans hb3); obtain ⟨c3_0_0, c3_0_1, f3_0_0, f3_0_1⟩ := run_pair (At.at A3.out 0 rfl); have s3_0 : w.heap.size + 1 < w3.heap.size := At.lt A3.out 0 rfl; obtain ⟨c3_1_0, c3_1_1, f3_1_0, f3_1_1⟩ := run_pair (At.at A3.out 1 rfl); have s3_1 : w.heap.size < w3.heap.size := At.lt A3.out 1 rfl; (try clear c2_0_0 c2_0_1 f2_0_0 f2_0_1 c2_1_0 c2_1_1 f2_1_0 f2_1_1 s2_0 s2_1)))
      refine bodyPost_ret (RT.results_row2 rfl _ _ (w.heap.size) 23 #[.int .i64 (-(n1 : Int)), .int .i64 1] (0, 0) _ rfl (store_pair (v0 := .int .i64 (-(n1 : Int))) (v1 := .int .i64 1) (At.at A3.out 1 rfl)).1 Tryd.underlying23 rfl info_frac) rfl ?_
      exact ⟨rfl, (store_pair (v0 := .int .i64 (-(n1 : Int))) (v1 := .int .i64 1) (At.at A3.out 1 rfl)).2.2 w (Nat.le_refl _) E3.out⟩
    · obtain ⟨j, rfl⟩ : ∃ j, k = j + 1 := ⟨k - 1, by omega⟩
      obtain rfl : u8 = .int .i64 (j : Int) := by rw [hi1]; exact congrArg (Value.int .i64) (by omega)
      have hj : j < t.size := by omega
      have hd := Lib.hid (show t.data.toList.drop j = t[j] :: t.data.toList.drop (j + 1) by
        rw [List.drop_eq_getElem_cons (by rw [TL.out]; exact hj), (List.getElem?_eq_some_iff.1 (Lib.data_getElem? t j hj)).2])
      obtain rfl := hx1
      clear hk hk0
      by_cases hc : t[j].toNat = 47
      · have c1 : (((t[j].toNat : Nat) : Int) == 47) = true := by rw [hc]; rfl
        have hc2 := Lib.hid (show t[j] = 47 from UInt8.toNat_inj.1 hc)
        have HC := Lib.hid hc
        clear hc
        go_wp2
        go_roundw
        case rel => exact ⟨j, by omega, congrArg (Value.int .i64) (by rw [hd.out, hc2.out]; simp), rfl, hE, hA⟩
        case measure => simp [intOf]; try omega
      · have c1 : (((t[j].toNat : Nat) : Int) == 47) = false := by simp; omega
        have hc2 := Lib.hid (show ¬ t[j] = 47 from fun h => hc (by rw [h]; rfl))
        have HC := Lib.hid hc
        clear hc
        go_wp2
        go_roundw
        case rel => exact ⟨j, by omega, congrArg (Value.int .i64) (by rw [hd.out, List.idxOf_cons, show (t[j] == (47 : UInt8)) = false from by simpa using hc2.out]; simp only [cond_false]; omega), rfl, hE, hA⟩
        case measure => simp [intOf]; try omega
set_option maxRecDepth 100000 in
set_option maxHeartbeats 8000000 in
theorem rParse_pf_no (s t tx : ByteArray) (sl n1 d1 : Nat) (w : World) (hs : s.size ≤ 1000) (hn1 : n1 ≤ 4611686018427387909) (hsl : t.data.toList.idxOf 47 = sl) (hl : sl ≤ t.size) (hl1 : decide ((sl : Int) < (t.size : Int)) = true) (hl2 : sl < t.size) (hb : (h0 : 0 < s.size) → s[0].toNat ≠ 45) (ht : s = t)
    (kn : ∀ w, Calls Tryd.prog 78 #[.string (t.extract 0 sl)] w fun E w' => E = .returned (.int .i64 (n1 : Int)) ∧ Ext w w')
    (kd : ∀ w, Calls Tryd.prog 78 #[.string (t.extract (sl + 1) t.size)] w fun E w' => E = .returned (.int .i64 (d1 : Int)) ∧ Ext w w')
    (kv : ∀ w, Calls Tryd.prog 50 #[fracV ⟨(n1 : Int), (d1 : Int)⟩] w fun E w' => E = .returned (.bool false) ∧ Ext w w') :
    Calls Tryd.prog 45 #[.string s] w fun E w' => E = .returned (fansV (⟨0, 0⟩, 11)) ∧ Ext w w' := by
  have KN := Lib.hid kn
  have KD := Lib.hid kd
  have KV := Lib.hid kv
  clear kn kd kv
  go_enter Tryd.func45, Tryd.ntmps45
  subst ht
  have HB := Lib.hid hb
  clear hb
  have TL := Lib.hid (show s.data.toList.length = s.size by rw [Array.length_toList]; rfl)
  by_cases h0 : 0 < s.size
  · have hb1 : (((s[0].toNat : Nat) : Int) == 45) = false := by have := HB.out h0; simp; omega
    go_wp2
    go_loopw [7, 8] (fun x i wr => ∃ k : Nat, k ≤ s.size ∧ x = .int .i64 ((k + (s.data.toList.drop k).idxOf 47 : Nat) : Int) ∧ i = .int .i64 ((k : Int) - 1) ∧ Ext w wr ∧ Hid (At wr [(w.heap.size, Obj.cells #[.int .i64 0, .int .i64 0] 23), (w.heap.size + 1, Obj.cells #[.int .i64 0, .int .i64 1] 23)])) (fun _ i _ => (intOf i + 1).toNat)
    case atStart =>
      exact ⟨s.size, Nat.le_refl _, congrArg (Value.int .i64) (by rw [List.drop_eq_nil_of_le (by rw [TL.out]; exact Nat.le_refl _)]; simp), rfl, (by repeat (first | exact Ext.refl _ | assumption | refine Ext.alloc ?_ _ | refine Ext.drewN ?_ _ | refine ext_grow ?_ _ _ | refine Ext.setCell ?_ (by first | exact Nat.le_refl _ | omega | (simp; done) | (simp; omega)) _ | refine Ext.trans ?_ (by assumption))), Lib.hid ⟨(by repeat (first | (refine blk_at _ _ ?_; (first | rfl | (simp only [size_one]; done))) | refine (blk_past _ _ (by simp only [size_one]; omega)).trans ?_)), (by repeat (first | (refine blk_at _ _ ?_; (first | rfl | (simp only [size_one]; done))) | refine (blk_past _ _ (by simp only [size_one]; omega)).trans ?_)), trivial⟩⟩
    case round =>
      obtain ⟨k, hk, hx1, hi1, hE, hA⟩ := hrel
      by_cases hk0 : k = 0
      · subst hk0
        simp only [List.drop_zero, Nat.zero_add, hsl] at hx1
        obtain rfl := hx1
        obtain rfl : u8 = .int .i64 (-1) := hi1
        clear hk
        obtain ⟨c0_0_0, c0_0_1, f0_0_0, f0_0_1⟩ := run_pair (At.at hA.out 0 rfl)
        have s0_0 : w.heap.size < wr.heap.size := At.lt hA.out 0 rfl
        obtain ⟨c0_1_0, c0_1_1, f0_1_0, f0_1_1⟩ := run_pair (At.at hA.out 1 rfl)
        have s0_1 : w.heap.size + 1 < wr.heap.size := At.lt hA.out 1 rfl
        go_wp2_with (first | (go_at_call 78; (with_reducible refine (KN.out _).mono ?_); rintro E w1 ⟨rfl, hb1⟩; have A1 := Lib.hid (show At w1 [(w.heap.size, Obj.cells #[.int .i64 0, .int .i64 0] 23), (w.heap.size + 1, Obj.cells #[.int .i64 0, .int .i64 1] 23)] from At.ext hb1 hA.out); have E1 := Lib.hid ((hE).trans hb1); obtain ⟨c1_0_0, c1_0_1, f1_0_0, f1_0_1⟩ := run_pair (At.at A1.out 0 rfl); have s1_0 : w.heap.size < w1.heap.size := At.lt A1.out 0 rfl; obtain ⟨c1_1_0, c1_1_1, f1_1_0, f1_1_1⟩ := run_pair (At.at A1.out 1 rfl); have s1_1 : w.heap.size + 1 < w1.heap.size := At.lt A1.out 1 rfl) | (go_at_call 78; (with_reducible refine (KD.out _).mono ?_); rintro E w2 ⟨rfl, hb2⟩; have A2 := Lib.hid (show At w2 [(w.heap.size + 1, Obj.cells #[.int .i64 (n1 : Int), .int .i64 1] 23), (w.heap.size, Obj.cells #[.int .i64 0, .int .i64 0] 23)] from At.ext hb2 (show At _ [(w.heap.size + 1, Obj.cells #[.int .i64 (n1 : Int), .int .i64 1] 23), (w.heap.size, Obj.cells #[.int .i64 0, .int .i64 0] 23)] from ⟨(set_one (At.at A1.out 1 rfl) 0 (.int .i64 (n1 : Int))).1, (At.other (set_one (At.at A1.out 1 rfl) 0 (.int .i64 (n1 : Int))).2.1 (by first | (simp; done) | (simp; omega)) (At.erase A1.out 1))⟩)); have E2 := Lib.hid ((((set_one (At.at A1.out 1 rfl) 0 (.int .i64 (n1 : Int))).2.2 w (by omega) E1.out)).trans hb2); obtain ⟨c2_0_0, c2_0_1, f2_0_0, f2_0_1⟩ := run_pair (At.at A2.out 0 rfl); have s2_0 : w.heap.size + 1 < w2.heap.size := At.lt A2.out 0 rfl; obtain ⟨c2_1_0, c2_1_1, f2_1_0, f2_1_1⟩ := run_pair (At.at A2.out 1 rfl); have s2_1 : w.heap.size < w2.heap.size := At.lt A2.out 1 rfl; (try clear c1_0_0 c1_0_1 f1_0_0 f1_0_1 c1_1_0 c1_1_1 f1_1_0 f1_1_1 s1_0 s1_1)) | (go_at_call 50; (with_reducible refine (KV.out _).mono ?_); rintro E w3 ⟨rfl, hb3⟩; have A3 := Lib.hid (show At w3 [(w.heap.size + 1, Obj.cells #[.int .i64 (n1 : Int), .int .i64 (d1 : Int)] 23), (w.heap.size, Obj.cells #[.int .i64 0, .int .i64 0] 23)] from At.ext hb3 (show At _ [(w.heap.size + 1, Obj.cells #[.int .i64 (n1 : Int), .int .i64 (d1 : Int)] 23), (w.heap.size, Obj.cells #[.int .i64 0, .int .i64 0] 23)] from ⟨(set_one (At.at A2.out 0 rfl) 1 (.int .i64 (d1 : Int))).1, (At.other (set_one (At.at A2.out 0 rfl) 1 (.int .i64 (d1 : Int))).2.1 (by first | (simp; done) | (simp; omega)) (At.erase A2.out 0))⟩)); have E3 := Lib.hid ((((set_one (At.at A2.out 0 rfl) 1 (.int .i64 (d1 : Int))).2.2 w (by omega) E2.out)).trans hb3); obtain ⟨c3_0_0, c3_0_1, f3_0_0, f3_0_1⟩ := run_pair (At.at A3.out 0 rfl); have s3_0 : w.heap.size + 1 < w3.heap.size := At.lt A3.out 0 rfl; obtain ⟨c3_1_0, c3_1_1, f3_1_0, f3_1_1⟩ := run_pair (At.at A3.out 1 rfl); have s3_1 : w.heap.size < w3.heap.size := At.lt A3.out 1 rfl; (try clear c2_0_0 c2_0_1 f2_0_0 f2_0_1 c2_1_0 c2_1_1 f2_1_0 f2_1_1 s2_0 s2_1)))
        refine bodyPost_ret (RT.results_row2 rfl _ _ (w.heap.size) 23 #[.int .i64 0, .int .i64 0] (0, 0) _ rfl (store_pair (v0 := .int .i64 0) (v1 := .int .i64 0) (At.at A3.out 1 rfl)).1 Tryd.underlying23 rfl info_frac) rfl ?_
        exact ⟨rfl, (store_pair (v0 := .int .i64 0) (v1 := .int .i64 0) (At.at A3.out 1 rfl)).2.2 w (Nat.le_refl _) E3.out⟩
      · obtain ⟨j, rfl⟩ : ∃ j, k = j + 1 := ⟨k - 1, by omega⟩
        obtain rfl : u8 = .int .i64 (j : Int) := by rw [hi1]; exact congrArg (Value.int .i64) (by omega)
        have hj : j < s.size := by omega
        have hd := Lib.hid (show s.data.toList.drop j = s[j] :: s.data.toList.drop (j + 1) by
          rw [List.drop_eq_getElem_cons (by rw [TL.out]; exact hj), (List.getElem?_eq_some_iff.1 (Lib.data_getElem? s j hj)).2])
        obtain rfl := hx1
        clear hk hk0
        by_cases hc : s[j].toNat = 47
        · have c1 : (((s[j].toNat : Nat) : Int) == 47) = true := by rw [hc]; rfl
          have hc2 := Lib.hid (show s[j] = 47 from UInt8.toNat_inj.1 hc)
          have HC := Lib.hid hc
          clear hc
          go_wp2
          go_roundw
          case rel => exact ⟨j, by omega, congrArg (Value.int .i64) (by rw [hd.out, hc2.out]; simp), rfl, hE, hA⟩
          case measure => simp [intOf]; try omega
        · have c1 : (((s[j].toNat : Nat) : Int) == 47) = false := by simp; omega
          have hc2 := Lib.hid (show ¬ s[j] = 47 from fun h => hc (by rw [h]; rfl))
          have HC := Lib.hid hc
          clear hc
          go_wp2
          go_roundw
          case rel => exact ⟨j, by omega, congrArg (Value.int .i64) (by rw [hd.out, List.idxOf_cons, show (s[j] == (47 : UInt8)) = false from by simpa using hc2.out]; simp only [cond_false]; omega), rfl, hE, hA⟩
          case measure => simp [intOf]; try omega
  · exfalso
    omega
set_option maxRecDepth 100000 in
set_option maxHeartbeats 8000000 in
theorem rParse_pf_other (s t tx : ByteArray) (sl n1 d1 : Nat) (w : World) (hs : s.size ≤ 1000) (hn1 : n1 ≤ 4611686018427387909) (hsl : t.data.toList.idxOf 47 = sl) (hl : sl ≤ t.size) (hl1 : decide ((sl : Int) < (t.size : Int)) = true) (hl2 : sl < t.size) (hx : (tx.toList == s.toList) = false) (hb : (h0 : 0 < s.size) → s[0].toNat ≠ 45) (ht : s = t)
    (kn : ∀ w, Calls Tryd.prog 78 #[.string (t.extract 0 sl)] w fun E w' => E = .returned (.int .i64 (n1 : Int)) ∧ Ext w w')
    (kd : ∀ w, Calls Tryd.prog 78 #[.string (t.extract (sl + 1) t.size)] w fun E w' => E = .returned (.int .i64 (d1 : Int)) ∧ Ext w w')
    (kv : ∀ w, Calls Tryd.prog 50 #[fracV ⟨(n1 : Int), (d1 : Int)⟩] w fun E w' => E = .returned (.bool true) ∧ Ext w w')
    (ks : ∀ w, Calls Tryd.prog 77 #[fracV ⟨(n1 : Int), (d1 : Int)⟩] w fun E w' => E = .returned (.string tx) ∧ Ext w w') :
    Calls Tryd.prog 45 #[.string s] w fun E w' => E = .returned (fansV (⟨0, 0⟩, 11)) ∧ Ext w w' := by
  have KN := Lib.hid kn
  have KD := Lib.hid kd
  have KV := Lib.hid kv
  have KS := Lib.hid ks
  clear kn kd kv ks
  go_enter Tryd.func45, Tryd.ntmps45
  subst ht
  have HB := Lib.hid hb
  clear hb
  have TL := Lib.hid (show s.data.toList.length = s.size by rw [Array.length_toList]; rfl)
  by_cases h0 : 0 < s.size
  · have hb1 : (((s[0].toNat : Nat) : Int) == 45) = false := by have := HB.out h0; simp; omega
    go_wp2
    go_loopw [7, 8] (fun x i wr => ∃ k : Nat, k ≤ s.size ∧ x = .int .i64 ((k + (s.data.toList.drop k).idxOf 47 : Nat) : Int) ∧ i = .int .i64 ((k : Int) - 1) ∧ Ext w wr ∧ Hid (At wr [(w.heap.size, Obj.cells #[.int .i64 0, .int .i64 0] 23), (w.heap.size + 1, Obj.cells #[.int .i64 0, .int .i64 1] 23)])) (fun _ i _ => (intOf i + 1).toNat)
    case atStart =>
      exact ⟨s.size, Nat.le_refl _, congrArg (Value.int .i64) (by rw [List.drop_eq_nil_of_le (by rw [TL.out]; exact Nat.le_refl _)]; simp), rfl, (by repeat (first | exact Ext.refl _ | assumption | refine Ext.alloc ?_ _ | refine Ext.drewN ?_ _ | refine ext_grow ?_ _ _ | refine Ext.setCell ?_ (by first | exact Nat.le_refl _ | omega | (simp; done) | (simp; omega)) _ | refine Ext.trans ?_ (by assumption))), Lib.hid ⟨(by repeat (first | (refine blk_at _ _ ?_; (first | rfl | (simp only [size_one]; done))) | refine (blk_past _ _ (by simp only [size_one]; omega)).trans ?_)), (by repeat (first | (refine blk_at _ _ ?_; (first | rfl | (simp only [size_one]; done))) | refine (blk_past _ _ (by simp only [size_one]; omega)).trans ?_)), trivial⟩⟩
    case round =>
      obtain ⟨k, hk, hx1, hi1, hE, hA⟩ := hrel
      by_cases hk0 : k = 0
      · subst hk0
        simp only [List.drop_zero, Nat.zero_add, hsl] at hx1
        obtain rfl := hx1
        obtain rfl : u8 = .int .i64 (-1) := hi1
        clear hk
        obtain ⟨c0_0_0, c0_0_1, f0_0_0, f0_0_1⟩ := run_pair (At.at hA.out 0 rfl)
        have s0_0 : w.heap.size < wr.heap.size := At.lt hA.out 0 rfl
        obtain ⟨c0_1_0, c0_1_1, f0_1_0, f0_1_1⟩ := run_pair (At.at hA.out 1 rfl)
        have s0_1 : w.heap.size + 1 < wr.heap.size := At.lt hA.out 1 rfl
        go_wp2_with (first | (go_at_call 78; (with_reducible refine (KN.out _).mono ?_); rintro E w1 ⟨rfl, hb1⟩; have A1 := Lib.hid (show At w1 [(w.heap.size, Obj.cells #[.int .i64 0, .int .i64 0] 23), (w.heap.size + 1, Obj.cells #[.int .i64 0, .int .i64 1] 23)] from At.ext hb1 hA.out); have E1 := Lib.hid ((hE).trans hb1); obtain ⟨c1_0_0, c1_0_1, f1_0_0, f1_0_1⟩ := run_pair (At.at A1.out 0 rfl); have s1_0 : w.heap.size < w1.heap.size := At.lt A1.out 0 rfl; obtain ⟨c1_1_0, c1_1_1, f1_1_0, f1_1_1⟩ := run_pair (At.at A1.out 1 rfl); have s1_1 : w.heap.size + 1 < w1.heap.size := At.lt A1.out 1 rfl) | (go_at_call 78; (with_reducible refine (KD.out _).mono ?_); rintro E w2 ⟨rfl, hb2⟩; have A2 := Lib.hid (show At w2 [(w.heap.size + 1, Obj.cells #[.int .i64 (n1 : Int), .int .i64 1] 23), (w.heap.size, Obj.cells #[.int .i64 0, .int .i64 0] 23)] from At.ext hb2 (show At _ [(w.heap.size + 1, Obj.cells #[.int .i64 (n1 : Int), .int .i64 1] 23), (w.heap.size, Obj.cells #[.int .i64 0, .int .i64 0] 23)] from ⟨(set_one (At.at A1.out 1 rfl) 0 (.int .i64 (n1 : Int))).1, (At.other (set_one (At.at A1.out 1 rfl) 0 (.int .i64 (n1 : Int))).2.1 (by first | (simp; done) | (simp; omega)) (At.erase A1.out 1))⟩)); have E2 := Lib.hid ((((set_one (At.at A1.out 1 rfl) 0 (.int .i64 (n1 : Int))).2.2 w (by omega) E1.out)).trans hb2); obtain ⟨c2_0_0, c2_0_1, f2_0_0, f2_0_1⟩ := run_pair (At.at A2.out 0 rfl); have s2_0 : w.heap.size + 1 < w2.heap.size := At.lt A2.out 0 rfl; obtain ⟨c2_1_0, c2_1_1, f2_1_0, f2_1_1⟩ := run_pair (At.at A2.out 1 rfl); have s2_1 : w.heap.size < w2.heap.size := At.lt A2.out 1 rfl; (try clear c1_0_0 c1_0_1 f1_0_0 f1_0_1 c1_1_0 c1_1_1 f1_1_0 f1_1_1 s1_0 s1_1)) | (go_at_call 50; (with_reducible refine (KV.out _).mono ?_); rintro E w3 ⟨rfl, hb3⟩; have A3 := Lib.hid (show At w3 [(w.heap.size + 1, Obj.cells #[.int .i64 (n1 : Int), .int .i64 (d1 : Int)] 23), (w.heap.size, Obj.cells #[.int .i64 0, .int .i64 0] 23)] from At.ext hb3 (show At _ [(w.heap.size + 1, Obj.cells #[.int .i64 (n1 : Int), .int .i64 (d1 : Int)] 23), (w.heap.size, Obj.cells #[.int .i64 0, .int .i64 0] 23)] from ⟨(set_one (At.at A2.out 0 rfl) 1 (.int .i64 (d1 : Int))).1, (At.other (set_one (At.at A2.out 0 rfl) 1 (.int .i64 (d1 : Int))).2.1 (by first | (simp; done) | (simp; omega)) (At.erase A2.out 0))⟩)); have E3 := Lib.hid ((((set_one (At.at A2.out 0 rfl) 1 (.int .i64 (d1 : Int))).2.2 w (by omega) E2.out)).trans hb3); obtain ⟨c3_0_0, c3_0_1, f3_0_0, f3_0_1⟩ := run_pair (At.at A3.out 0 rfl); have s3_0 : w.heap.size + 1 < w3.heap.size := At.lt A3.out 0 rfl; obtain ⟨c3_1_0, c3_1_1, f3_1_0, f3_1_1⟩ := run_pair (At.at A3.out 1 rfl); have s3_1 : w.heap.size < w3.heap.size := At.lt A3.out 1 rfl; (try clear c2_0_0 c2_0_1 f2_0_0 f2_0_1 c2_1_0 c2_1_1 f2_1_0 f2_1_1 s2_0 s2_1)) | (go_at_call 77; (with_reducible refine (KS.out _).mono ?_); rintro E w4 ⟨rfl, hb4⟩; have A4 := Lib.hid (show At w4 [(w.heap.size + 1, Obj.cells #[.int .i64 (n1 : Int), .int .i64 (d1 : Int)] 23), (w.heap.size, Obj.cells #[.int .i64 0, .int .i64 0] 23)] from At.ext hb4 A3.out); have E4 := Lib.hid ((E3.out).trans hb4); obtain ⟨c4_0_0, c4_0_1, f4_0_0, f4_0_1⟩ := run_pair (At.at A4.out 0 rfl); have s4_0 : w.heap.size + 1 < w4.heap.size := At.lt A4.out 0 rfl; obtain ⟨c4_1_0, c4_1_1, f4_1_0, f4_1_1⟩ := run_pair (At.at A4.out 1 rfl); have s4_1 : w.heap.size < w4.heap.size := At.lt A4.out 1 rfl; (try clear c3_0_0 c3_0_1 f3_0_0 f3_0_1 c3_1_0 c3_1_1 f3_1_0 f3_1_1 s3_0 s3_1)))
        refine bodyPost_ret (RT.results_row2 rfl _ _ (w.heap.size) 23 #[.int .i64 0, .int .i64 0] (0, 0) _ rfl (store_pair (v0 := .int .i64 0) (v1 := .int .i64 0) (At.at A4.out 1 rfl)).1 Tryd.underlying23 rfl info_frac) rfl ?_
        exact ⟨rfl, (store_pair (v0 := .int .i64 0) (v1 := .int .i64 0) (At.at A4.out 1 rfl)).2.2 w (Nat.le_refl _) E4.out⟩
      · obtain ⟨j, rfl⟩ : ∃ j, k = j + 1 := ⟨k - 1, by omega⟩
        obtain rfl : u8 = .int .i64 (j : Int) := by rw [hi1]; exact congrArg (Value.int .i64) (by omega)
        have hj : j < s.size := by omega
        have hd := Lib.hid (show s.data.toList.drop j = s[j] :: s.data.toList.drop (j + 1) by
          rw [List.drop_eq_getElem_cons (by rw [TL.out]; exact hj), (List.getElem?_eq_some_iff.1 (Lib.data_getElem? s j hj)).2])
        obtain rfl := hx1
        clear hk hk0
        by_cases hc : s[j].toNat = 47
        · have c1 : (((s[j].toNat : Nat) : Int) == 47) = true := by rw [hc]; rfl
          have hc2 := Lib.hid (show s[j] = 47 from UInt8.toNat_inj.1 hc)
          have HC := Lib.hid hc
          clear hc
          go_wp2
          go_roundw
          case rel => exact ⟨j, by omega, congrArg (Value.int .i64) (by rw [hd.out, hc2.out]; simp), rfl, hE, hA⟩
          case measure => simp [intOf]; try omega
        · have c1 : (((s[j].toNat : Nat) : Int) == 47) = false := by simp; omega
          have hc2 := Lib.hid (show ¬ s[j] = 47 from fun h => hc (by rw [h]; rfl))
          have HC := Lib.hid hc
          clear hc
          go_wp2
          go_roundw
          case rel => exact ⟨j, by omega, congrArg (Value.int .i64) (by rw [hd.out, List.idxOf_cons, show (s[j] == (47 : UInt8)) = false from by simpa using hc2.out]; simp only [cond_false]; omega), rfl, hE, hA⟩
          case measure => simp [intOf]; try omega
  · exfalso
    omega
set_option maxRecDepth 100000 in
set_option maxHeartbeats 8000000 in
theorem rParse_pf_yes (s t tx : ByteArray) (sl n1 d1 : Nat) (w : World) (hs : s.size ≤ 1000) (hn1 : n1 ≤ 4611686018427387909) (hsl : t.data.toList.idxOf 47 = sl) (hl : sl ≤ t.size) (hl1 : decide ((sl : Int) < (t.size : Int)) = true) (hl2 : sl < t.size) (hx : (tx.toList == s.toList) = true) (hb : (h0 : 0 < s.size) → s[0].toNat ≠ 45) (ht : s = t)
    (kn : ∀ w, Calls Tryd.prog 78 #[.string (t.extract 0 sl)] w fun E w' => E = .returned (.int .i64 (n1 : Int)) ∧ Ext w w')
    (kd : ∀ w, Calls Tryd.prog 78 #[.string (t.extract (sl + 1) t.size)] w fun E w' => E = .returned (.int .i64 (d1 : Int)) ∧ Ext w w')
    (kv : ∀ w, Calls Tryd.prog 50 #[fracV ⟨(n1 : Int), (d1 : Int)⟩] w fun E w' => E = .returned (.bool true) ∧ Ext w w')
    (ks : ∀ w, Calls Tryd.prog 77 #[fracV ⟨(n1 : Int), (d1 : Int)⟩] w fun E w' => E = .returned (.string tx) ∧ Ext w w') :
    Calls Tryd.prog 45 #[.string s] w fun E w' => E = .returned (fansV (⟨(n1 : Int), (d1 : Int)⟩, 0)) ∧ Ext w w' := by
  have KN := Lib.hid kn
  have KD := Lib.hid kd
  have KV := Lib.hid kv
  have KS := Lib.hid ks
  clear kn kd kv ks
  go_enter Tryd.func45, Tryd.ntmps45
  subst ht
  have HB := Lib.hid hb
  clear hb
  have TL := Lib.hid (show s.data.toList.length = s.size by rw [Array.length_toList]; rfl)
  by_cases h0 : 0 < s.size
  · have hb1 : (((s[0].toNat : Nat) : Int) == 45) = false := by have := HB.out h0; simp; omega
    go_wp2
    go_loopw [7, 8] (fun x i wr => ∃ k : Nat, k ≤ s.size ∧ x = .int .i64 ((k + (s.data.toList.drop k).idxOf 47 : Nat) : Int) ∧ i = .int .i64 ((k : Int) - 1) ∧ Ext w wr ∧ Hid (At wr [(w.heap.size, Obj.cells #[.int .i64 0, .int .i64 0] 23), (w.heap.size + 1, Obj.cells #[.int .i64 0, .int .i64 1] 23)])) (fun _ i _ => (intOf i + 1).toNat)
    case atStart =>
      exact ⟨s.size, Nat.le_refl _, congrArg (Value.int .i64) (by rw [List.drop_eq_nil_of_le (by rw [TL.out]; exact Nat.le_refl _)]; simp), rfl, (by repeat (first | exact Ext.refl _ | assumption | refine Ext.alloc ?_ _ | refine Ext.drewN ?_ _ | refine ext_grow ?_ _ _ | refine Ext.setCell ?_ (by first | exact Nat.le_refl _ | omega | (simp; done) | (simp; omega)) _ | refine Ext.trans ?_ (by assumption))), Lib.hid ⟨(by repeat (first | (refine blk_at _ _ ?_; (first | rfl | (simp only [size_one]; done))) | refine (blk_past _ _ (by simp only [size_one]; omega)).trans ?_)), (by repeat (first | (refine blk_at _ _ ?_; (first | rfl | (simp only [size_one]; done))) | refine (blk_past _ _ (by simp only [size_one]; omega)).trans ?_)), trivial⟩⟩
    case round =>
      obtain ⟨k, hk, hx1, hi1, hE, hA⟩ := hrel
      by_cases hk0 : k = 0
      · subst hk0
        simp only [List.drop_zero, Nat.zero_add, hsl] at hx1
        obtain rfl := hx1
        obtain rfl : u8 = .int .i64 (-1) := hi1
        clear hk
        obtain ⟨c0_0_0, c0_0_1, f0_0_0, f0_0_1⟩ := run_pair (At.at hA.out 0 rfl)
        have s0_0 : w.heap.size < wr.heap.size := At.lt hA.out 0 rfl
        obtain ⟨c0_1_0, c0_1_1, f0_1_0, f0_1_1⟩ := run_pair (At.at hA.out 1 rfl)
        have s0_1 : w.heap.size + 1 < wr.heap.size := At.lt hA.out 1 rfl
        go_wp2_with (first | (go_at_call 78; (with_reducible refine (KN.out _).mono ?_); rintro E w1 ⟨rfl, hb1⟩; have A1 := Lib.hid (show At w1 [(w.heap.size, Obj.cells #[.int .i64 0, .int .i64 0] 23), (w.heap.size + 1, Obj.cells #[.int .i64 0, .int .i64 1] 23)] from At.ext hb1 hA.out); have E1 := Lib.hid ((hE).trans hb1); obtain ⟨c1_0_0, c1_0_1, f1_0_0, f1_0_1⟩ := run_pair (At.at A1.out 0 rfl); have s1_0 : w.heap.size < w1.heap.size := At.lt A1.out 0 rfl; obtain ⟨c1_1_0, c1_1_1, f1_1_0, f1_1_1⟩ := run_pair (At.at A1.out 1 rfl); have s1_1 : w.heap.size + 1 < w1.heap.size := At.lt A1.out 1 rfl) | (go_at_call 78; (with_reducible refine (KD.out _).mono ?_); rintro E w2 ⟨rfl, hb2⟩; have A2 := Lib.hid (show At w2 [(w.heap.size + 1, Obj.cells #[.int .i64 (n1 : Int), .int .i64 1] 23), (w.heap.size, Obj.cells #[.int .i64 0, .int .i64 0] 23)] from At.ext hb2 (show At _ [(w.heap.size + 1, Obj.cells #[.int .i64 (n1 : Int), .int .i64 1] 23), (w.heap.size, Obj.cells #[.int .i64 0, .int .i64 0] 23)] from ⟨(set_one (At.at A1.out 1 rfl) 0 (.int .i64 (n1 : Int))).1, (At.other (set_one (At.at A1.out 1 rfl) 0 (.int .i64 (n1 : Int))).2.1 (by first | (simp; done) | (simp; omega)) (At.erase A1.out 1))⟩)); have E2 := Lib.hid ((((set_one (At.at A1.out 1 rfl) 0 (.int .i64 (n1 : Int))).2.2 w (by omega) E1.out)).trans hb2); obtain ⟨c2_0_0, c2_0_1, f2_0_0, f2_0_1⟩ := run_pair (At.at A2.out 0 rfl); have s2_0 : w.heap.size + 1 < w2.heap.size := At.lt A2.out 0 rfl; obtain ⟨c2_1_0, c2_1_1, f2_1_0, f2_1_1⟩ := run_pair (At.at A2.out 1 rfl); have s2_1 : w.heap.size < w2.heap.size := At.lt A2.out 1 rfl; (try clear c1_0_0 c1_0_1 f1_0_0 f1_0_1 c1_1_0 c1_1_1 f1_1_0 f1_1_1 s1_0 s1_1)) | (go_at_call 50; (with_reducible refine (KV.out _).mono ?_); rintro E w3 ⟨rfl, hb3⟩; have A3 := Lib.hid (show At w3 [(w.heap.size + 1, Obj.cells #[.int .i64 (n1 : Int), .int .i64 (d1 : Int)] 23), (w.heap.size, Obj.cells #[.int .i64 0, .int .i64 0] 23)] from At.ext hb3 (show At _ [(w.heap.size + 1, Obj.cells #[.int .i64 (n1 : Int), .int .i64 (d1 : Int)] 23), (w.heap.size, Obj.cells #[.int .i64 0, .int .i64 0] 23)] from ⟨(set_one (At.at A2.out 0 rfl) 1 (.int .i64 (d1 : Int))).1, (At.other (set_one (At.at A2.out 0 rfl) 1 (.int .i64 (d1 : Int))).2.1 (by first | (simp; done) | (simp; omega)) (At.erase A2.out 0))⟩)); have E3 := Lib.hid ((((set_one (At.at A2.out 0 rfl) 1 (.int .i64 (d1 : Int))).2.2 w (by omega) E2.out)).trans hb3); obtain ⟨c3_0_0, c3_0_1, f3_0_0, f3_0_1⟩ := run_pair (At.at A3.out 0 rfl); have s3_0 : w.heap.size + 1 < w3.heap.size := At.lt A3.out 0 rfl; obtain ⟨c3_1_0, c3_1_1, f3_1_0, f3_1_1⟩ := run_pair (At.at A3.out 1 rfl); have s3_1 : w.heap.size < w3.heap.size := At.lt A3.out 1 rfl; (try clear c2_0_0 c2_0_1 f2_0_0 f2_0_1 c2_1_0 c2_1_1 f2_1_0 f2_1_1 s2_0 s2_1)) | (go_at_call 77; (with_reducible refine (KS.out _).mono ?_); rintro E w4 ⟨rfl, hb4⟩; have A4 := Lib.hid (show At w4 [(w.heap.size + 1, Obj.cells #[.int .i64 (n1 : Int), .int .i64 (d1 : Int)] 23), (w.heap.size, Obj.cells #[.int .i64 0, .int .i64 0] 23)] from At.ext hb4 A3.out); have E4 := Lib.hid ((E3.out).trans hb4); obtain ⟨c4_0_0, c4_0_1, f4_0_0, f4_0_1⟩ := run_pair (At.at A4.out 0 rfl); have s4_0 : w.heap.size + 1 < w4.heap.size := At.lt A4.out 0 rfl; obtain ⟨c4_1_0, c4_1_1, f4_1_0, f4_1_1⟩ := run_pair (At.at A4.out 1 rfl); have s4_1 : w.heap.size < w4.heap.size := At.lt A4.out 1 rfl; (try clear c3_0_0 c3_0_1 f3_0_0 f3_0_1 c3_1_0 c3_1_1 f3_1_0 f3_1_1 s3_0 s3_1)))
        refine bodyPost_ret (RT.results_row2 rfl _ _ (w.heap.size) 23 #[.int .i64 (n1 : Int), .int .i64 (d1 : Int)] (0, 0) _ rfl (store_pair (v0 := .int .i64 (n1 : Int)) (v1 := .int .i64 (d1 : Int)) (At.at A4.out 1 rfl)).1 Tryd.underlying23 rfl info_frac) rfl ?_
        exact ⟨rfl, (store_pair (v0 := .int .i64 (n1 : Int)) (v1 := .int .i64 (d1 : Int)) (At.at A4.out 1 rfl)).2.2 w (Nat.le_refl _) E4.out⟩
      · obtain ⟨j, rfl⟩ : ∃ j, k = j + 1 := ⟨k - 1, by omega⟩
        obtain rfl : u8 = .int .i64 (j : Int) := by rw [hi1]; exact congrArg (Value.int .i64) (by omega)
        have hj : j < s.size := by omega
        have hd := Lib.hid (show s.data.toList.drop j = s[j] :: s.data.toList.drop (j + 1) by
          rw [List.drop_eq_getElem_cons (by rw [TL.out]; exact hj), (List.getElem?_eq_some_iff.1 (Lib.data_getElem? s j hj)).2])
        obtain rfl := hx1
        clear hk hk0
        by_cases hc : s[j].toNat = 47
        · have c1 : (((s[j].toNat : Nat) : Int) == 47) = true := by rw [hc]; rfl
          have hc2 := Lib.hid (show s[j] = 47 from UInt8.toNat_inj.1 hc)
          have HC := Lib.hid hc
          clear hc
          go_wp2
          go_roundw
          case rel => exact ⟨j, by omega, congrArg (Value.int .i64) (by rw [hd.out, hc2.out]; simp), rfl, hE, hA⟩
          case measure => simp [intOf]; try omega
        · have c1 : (((s[j].toNat : Nat) : Int) == 47) = false := by simp; omega
          have hc2 := Lib.hid (show ¬ s[j] = 47 from fun h => hc (by rw [h]; rfl))
          have HC := Lib.hid hc
          clear hc
          go_wp2
          go_roundw
          case rel => exact ⟨j, by omega, congrArg (Value.int .i64) (by rw [hd.out, List.idxOf_cons, show (s[j] == (47 : UInt8)) = false from by simpa using hc2.out]; simp only [cond_false]; omega), rfl, hE, hA⟩
          case measure => simp [intOf]; try omega
  · exfalso
    omega
set_option maxRecDepth 100000 in
set_option maxHeartbeats 8000000 in
theorem rParse_pn_no (s t tx : ByteArray) (sl n1 d1 : Nat) (w : World) (hs : s.size ≤ 1000) (hn1 : n1 ≤ 4611686018427387909) (hsl : t.data.toList.idxOf 47 = sl) (hl : sl ≤ t.size) (hl1 : decide ((sl : Int) < (t.size : Int)) = false) (hl2 : ¬ sl < t.size) (hb : (h0 : 0 < s.size) → s[0].toNat ≠ 45) (ht : s = t)
    (kn : ∀ w, Calls Tryd.prog 78 #[.string (t.extract 0 sl)] w fun E w' => E = .returned (.int .i64 (n1 : Int)) ∧ Ext w w')
    (kv : ∀ w, Calls Tryd.prog 50 #[fracV ⟨(n1 : Int), 1⟩] w fun E w' => E = .returned (.bool false) ∧ Ext w w') :
    Calls Tryd.prog 45 #[.string s] w fun E w' => E = .returned (fansV (⟨0, 0⟩, 11)) ∧ Ext w w' := by
  have KN := Lib.hid kn
  have KV := Lib.hid kv
  clear kn kv
  go_enter Tryd.func45, Tryd.ntmps45
  subst ht
  have HB := Lib.hid hb
  clear hb
  have TL := Lib.hid (show s.data.toList.length = s.size by rw [Array.length_toList]; rfl)
  by_cases h0 : 0 < s.size
  · have hb1 : (((s[0].toNat : Nat) : Int) == 45) = false := by have := HB.out h0; simp; omega
    go_wp2
    go_loopw [7, 8] (fun x i wr => ∃ k : Nat, k ≤ s.size ∧ x = .int .i64 ((k + (s.data.toList.drop k).idxOf 47 : Nat) : Int) ∧ i = .int .i64 ((k : Int) - 1) ∧ Ext w wr ∧ Hid (At wr [(w.heap.size, Obj.cells #[.int .i64 0, .int .i64 0] 23), (w.heap.size + 1, Obj.cells #[.int .i64 0, .int .i64 1] 23)])) (fun _ i _ => (intOf i + 1).toNat)
    case atStart =>
      exact ⟨s.size, Nat.le_refl _, congrArg (Value.int .i64) (by rw [List.drop_eq_nil_of_le (by rw [TL.out]; exact Nat.le_refl _)]; simp), rfl, (by repeat (first | exact Ext.refl _ | assumption | refine Ext.alloc ?_ _ | refine Ext.drewN ?_ _ | refine ext_grow ?_ _ _ | refine Ext.setCell ?_ (by first | exact Nat.le_refl _ | omega | (simp; done) | (simp; omega)) _ | refine Ext.trans ?_ (by assumption))), Lib.hid ⟨(by repeat (first | (refine blk_at _ _ ?_; (first | rfl | (simp only [size_one]; done))) | refine (blk_past _ _ (by simp only [size_one]; omega)).trans ?_)), (by repeat (first | (refine blk_at _ _ ?_; (first | rfl | (simp only [size_one]; done))) | refine (blk_past _ _ (by simp only [size_one]; omega)).trans ?_)), trivial⟩⟩
    case round =>
      obtain ⟨k, hk, hx1, hi1, hE, hA⟩ := hrel
      by_cases hk0 : k = 0
      · subst hk0
        simp only [List.drop_zero, Nat.zero_add, hsl] at hx1
        obtain rfl := hx1
        obtain rfl : u8 = .int .i64 (-1) := hi1
        clear hk
        obtain ⟨c0_0_0, c0_0_1, f0_0_0, f0_0_1⟩ := run_pair (At.at hA.out 0 rfl)
        have s0_0 : w.heap.size < wr.heap.size := At.lt hA.out 0 rfl
        obtain ⟨c0_1_0, c0_1_1, f0_1_0, f0_1_1⟩ := run_pair (At.at hA.out 1 rfl)
        have s0_1 : w.heap.size + 1 < wr.heap.size := At.lt hA.out 1 rfl
        go_wp2_with (first | (go_at_call 78; (with_reducible refine (KN.out _).mono ?_); rintro E w1 ⟨rfl, hb1⟩; have A1 := Lib.hid (show At w1 [(w.heap.size, Obj.cells #[.int .i64 0, .int .i64 0] 23), (w.heap.size + 1, Obj.cells #[.int .i64 0, .int .i64 1] 23)] from At.ext hb1 hA.out); have E1 := Lib.hid ((hE).trans hb1); obtain ⟨c1_0_0, c1_0_1, f1_0_0, f1_0_1⟩ := run_pair (At.at A1.out 0 rfl); have s1_0 : w.heap.size < w1.heap.size := At.lt A1.out 0 rfl; obtain ⟨c1_1_0, c1_1_1, f1_1_0, f1_1_1⟩ := run_pair (At.at A1.out 1 rfl); have s1_1 : w.heap.size + 1 < w1.heap.size := At.lt A1.out 1 rfl) | (go_at_call 50; (with_reducible refine (KV.out _).mono ?_); rintro E w2 ⟨rfl, hb2⟩; have A2 := Lib.hid (show At w2 [(w.heap.size + 1, Obj.cells #[.int .i64 (n1 : Int), .int .i64 1] 23), (w.heap.size, Obj.cells #[.int .i64 0, .int .i64 0] 23)] from At.ext hb2 (show At _ [(w.heap.size + 1, Obj.cells #[.int .i64 (n1 : Int), .int .i64 1] 23), (w.heap.size, Obj.cells #[.int .i64 0, .int .i64 0] 23)] from ⟨(set_one (At.at A1.out 1 rfl) 0 (.int .i64 (n1 : Int))).1, (At.other (set_one (At.at A1.out 1 rfl) 0 (.int .i64 (n1 : Int))).2.1 (by first | (simp; done) | (simp; omega)) (At.erase A1.out 1))⟩)); have E2 := Lib.hid ((((set_one (At.at A1.out 1 rfl) 0 (.int .i64 (n1 : Int))).2.2 w (by omega) E1.out)).trans hb2); obtain ⟨c2_0_0, c2_0_1, f2_0_0, f2_0_1⟩ := run_pair (At.at A2.out 0 rfl); have s2_0 : w.heap.size + 1 < w2.heap.size := At.lt A2.out 0 rfl; obtain ⟨c2_1_0, c2_1_1, f2_1_0, f2_1_1⟩ := run_pair (At.at A2.out 1 rfl); have s2_1 : w.heap.size < w2.heap.size := At.lt A2.out 1 rfl; (try clear c1_0_0 c1_0_1 f1_0_0 f1_0_1 c1_1_0 c1_1_1 f1_1_0 f1_1_1 s1_0 s1_1)))
        refine bodyPost_ret (RT.results_row2 rfl _ _ (w.heap.size) 23 #[.int .i64 0, .int .i64 0] (0, 0) _ rfl (store_pair (v0 := .int .i64 0) (v1 := .int .i64 0) (At.at A2.out 1 rfl)).1 Tryd.underlying23 rfl info_frac) rfl ?_
        exact ⟨rfl, (store_pair (v0 := .int .i64 0) (v1 := .int .i64 0) (At.at A2.out 1 rfl)).2.2 w (Nat.le_refl _) E2.out⟩
      · obtain ⟨j, rfl⟩ : ∃ j, k = j + 1 := ⟨k - 1, by omega⟩
        obtain rfl : u8 = .int .i64 (j : Int) := by rw [hi1]; exact congrArg (Value.int .i64) (by omega)
        have hj : j < s.size := by omega
        have hd := Lib.hid (show s.data.toList.drop j = s[j] :: s.data.toList.drop (j + 1) by
          rw [List.drop_eq_getElem_cons (by rw [TL.out]; exact hj), (List.getElem?_eq_some_iff.1 (Lib.data_getElem? s j hj)).2])
        obtain rfl := hx1
        clear hk hk0
        by_cases hc : s[j].toNat = 47
        · have c1 : (((s[j].toNat : Nat) : Int) == 47) = true := by rw [hc]; rfl
          have hc2 := Lib.hid (show s[j] = 47 from UInt8.toNat_inj.1 hc)
          have HC := Lib.hid hc
          clear hc
          go_wp2
          go_roundw
          case rel => exact ⟨j, by omega, congrArg (Value.int .i64) (by rw [hd.out, hc2.out]; simp), rfl, hE, hA⟩
          case measure => simp [intOf]; try omega
        · have c1 : (((s[j].toNat : Nat) : Int) == 47) = false := by simp; omega
          have hc2 := Lib.hid (show ¬ s[j] = 47 from fun h => hc (by rw [h]; rfl))
          have HC := Lib.hid hc
          clear hc
          go_wp2
          go_roundw
          case rel => exact ⟨j, by omega, congrArg (Value.int .i64) (by rw [hd.out, List.idxOf_cons, show (s[j] == (47 : UInt8)) = false from by simpa using hc2.out]; simp only [cond_false]; omega), rfl, hE, hA⟩
          case measure => simp [intOf]; try omega
  · go_wp2
    go_loopw [7, 8] (fun x i wr => ∃ k : Nat, k ≤ s.size ∧ x = .int .i64 ((k + (s.data.toList.drop k).idxOf 47 : Nat) : Int) ∧ i = .int .i64 ((k : Int) - 1) ∧ Ext w wr ∧ Hid (At wr [(w.heap.size, Obj.cells #[.int .i64 0, .int .i64 0] 23), (w.heap.size + 1, Obj.cells #[.int .i64 0, .int .i64 1] 23)])) (fun _ i _ => (intOf i + 1).toNat)
    case atStart =>
      exact ⟨s.size, Nat.le_refl _, congrArg (Value.int .i64) (by rw [List.drop_eq_nil_of_le (by rw [TL.out]; exact Nat.le_refl _)]; simp), rfl, (by repeat (first | exact Ext.refl _ | assumption | refine Ext.alloc ?_ _ | refine Ext.drewN ?_ _ | refine ext_grow ?_ _ _ | refine Ext.setCell ?_ (by first | exact Nat.le_refl _ | omega | (simp; done) | (simp; omega)) _ | refine Ext.trans ?_ (by assumption))), Lib.hid ⟨(by repeat (first | (refine blk_at _ _ ?_; (first | rfl | (simp only [size_one]; done))) | refine (blk_past _ _ (by simp only [size_one]; omega)).trans ?_)), (by repeat (first | (refine blk_at _ _ ?_; (first | rfl | (simp only [size_one]; done))) | refine (blk_past _ _ (by simp only [size_one]; omega)).trans ?_)), trivial⟩⟩
    case round =>
      obtain ⟨k, hk, hx1, hi1, hE, hA⟩ := hrel
      by_cases hk0 : k = 0
      · subst hk0
        simp only [List.drop_zero, Nat.zero_add, hsl] at hx1
        obtain rfl := hx1
        obtain rfl : u8 = .int .i64 (-1) := hi1
        clear hk
        obtain ⟨c0_0_0, c0_0_1, f0_0_0, f0_0_1⟩ := run_pair (At.at hA.out 0 rfl)
        have s0_0 : w.heap.size < wr.heap.size := At.lt hA.out 0 rfl
        obtain ⟨c0_1_0, c0_1_1, f0_1_0, f0_1_1⟩ := run_pair (At.at hA.out 1 rfl)
        have s0_1 : w.heap.size + 1 < wr.heap.size := At.lt hA.out 1 rfl
        go_wp2_with (first | (go_at_call 78; (with_reducible refine (KN.out _).mono ?_); rintro E w1 ⟨rfl, hb1⟩; have A1 := Lib.hid (show At w1 [(w.heap.size, Obj.cells #[.int .i64 0, .int .i64 0] 23), (w.heap.size + 1, Obj.cells #[.int .i64 0, .int .i64 1] 23)] from At.ext hb1 hA.out); have E1 := Lib.hid ((hE).trans hb1); obtain ⟨c1_0_0, c1_0_1, f1_0_0, f1_0_1⟩ := run_pair (At.at A1.out 0 rfl); have s1_0 : w.heap.size < w1.heap.size := At.lt A1.out 0 rfl; obtain ⟨c1_1_0, c1_1_1, f1_1_0, f1_1_1⟩ := run_pair (At.at A1.out 1 rfl); have s1_1 : w.heap.size + 1 < w1.heap.size := At.lt A1.out 1 rfl) | (go_at_call 50; (with_reducible refine (KV.out _).mono ?_); rintro E w2 ⟨rfl, hb2⟩; have A2 := Lib.hid (show At w2 [(w.heap.size + 1, Obj.cells #[.int .i64 (n1 : Int), .int .i64 1] 23), (w.heap.size, Obj.cells #[.int .i64 0, .int .i64 0] 23)] from At.ext hb2 (show At _ [(w.heap.size + 1, Obj.cells #[.int .i64 (n1 : Int), .int .i64 1] 23), (w.heap.size, Obj.cells #[.int .i64 0, .int .i64 0] 23)] from ⟨(set_one (At.at A1.out 1 rfl) 0 (.int .i64 (n1 : Int))).1, (At.other (set_one (At.at A1.out 1 rfl) 0 (.int .i64 (n1 : Int))).2.1 (by first | (simp; done) | (simp; omega)) (At.erase A1.out 1))⟩)); have E2 := Lib.hid ((((set_one (At.at A1.out 1 rfl) 0 (.int .i64 (n1 : Int))).2.2 w (by omega) E1.out)).trans hb2); obtain ⟨c2_0_0, c2_0_1, f2_0_0, f2_0_1⟩ := run_pair (At.at A2.out 0 rfl); have s2_0 : w.heap.size + 1 < w2.heap.size := At.lt A2.out 0 rfl; obtain ⟨c2_1_0, c2_1_1, f2_1_0, f2_1_1⟩ := run_pair (At.at A2.out 1 rfl); have s2_1 : w.heap.size < w2.heap.size := At.lt A2.out 1 rfl; (try clear c1_0_0 c1_0_1 f1_0_0 f1_0_1 c1_1_0 c1_1_1 f1_1_0 f1_1_1 s1_0 s1_1)))
        refine bodyPost_ret (RT.results_row2 rfl _ _ (w.heap.size) 23 #[.int .i64 0, .int .i64 0] (0, 0) _ rfl (store_pair (v0 := .int .i64 0) (v1 := .int .i64 0) (At.at A2.out 1 rfl)).1 Tryd.underlying23 rfl info_frac) rfl ?_
        exact ⟨rfl, (store_pair (v0 := .int .i64 0) (v1 := .int .i64 0) (At.at A2.out 1 rfl)).2.2 w (Nat.le_refl _) E2.out⟩
      · obtain ⟨j, rfl⟩ : ∃ j, k = j + 1 := ⟨k - 1, by omega⟩
        obtain rfl : u8 = .int .i64 (j : Int) := by rw [hi1]; exact congrArg (Value.int .i64) (by omega)
        have hj : j < s.size := by omega
        have hd := Lib.hid (show s.data.toList.drop j = s[j] :: s.data.toList.drop (j + 1) by
          rw [List.drop_eq_getElem_cons (by rw [TL.out]; exact hj), (List.getElem?_eq_some_iff.1 (Lib.data_getElem? s j hj)).2])
        obtain rfl := hx1
        clear hk hk0
        by_cases hc : s[j].toNat = 47
        · have c1 : (((s[j].toNat : Nat) : Int) == 47) = true := by rw [hc]; rfl
          have hc2 := Lib.hid (show s[j] = 47 from UInt8.toNat_inj.1 hc)
          have HC := Lib.hid hc
          clear hc
          go_wp2
          go_roundw
          case rel => exact ⟨j, by omega, congrArg (Value.int .i64) (by rw [hd.out, hc2.out]; simp), rfl, hE, hA⟩
          case measure => simp [intOf]; try omega
        · have c1 : (((s[j].toNat : Nat) : Int) == 47) = false := by simp; omega
          have hc2 := Lib.hid (show ¬ s[j] = 47 from fun h => hc (by rw [h]; rfl))
          have HC := Lib.hid hc
          clear hc
          go_wp2
          go_roundw
          case rel => exact ⟨j, by omega, congrArg (Value.int .i64) (by rw [hd.out, List.idxOf_cons, show (s[j] == (47 : UInt8)) = false from by simpa using hc2.out]; simp only [cond_false]; omega), rfl, hE, hA⟩
          case measure => simp [intOf]; try omega
set_option maxRecDepth 100000 in
set_option maxHeartbeats 8000000 in
theorem rParse_pn_other (s t tx : ByteArray) (sl n1 d1 : Nat) (w : World) (hs : s.size ≤ 1000) (hn1 : n1 ≤ 4611686018427387909) (hsl : t.data.toList.idxOf 47 = sl) (hl : sl ≤ t.size) (hl1 : decide ((sl : Int) < (t.size : Int)) = false) (hl2 : ¬ sl < t.size) (hx : (tx.toList == s.toList) = false) (hb : (h0 : 0 < s.size) → s[0].toNat ≠ 45) (ht : s = t)
    (kn : ∀ w, Calls Tryd.prog 78 #[.string (t.extract 0 sl)] w fun E w' => E = .returned (.int .i64 (n1 : Int)) ∧ Ext w w')
    (kv : ∀ w, Calls Tryd.prog 50 #[fracV ⟨(n1 : Int), 1⟩] w fun E w' => E = .returned (.bool true) ∧ Ext w w')
    (ks : ∀ w, Calls Tryd.prog 77 #[fracV ⟨(n1 : Int), 1⟩] w fun E w' => E = .returned (.string tx) ∧ Ext w w') :
    Calls Tryd.prog 45 #[.string s] w fun E w' => E = .returned (fansV (⟨0, 0⟩, 11)) ∧ Ext w w' := by
  have KN := Lib.hid kn
  have KV := Lib.hid kv
  have KS := Lib.hid ks
  clear kn kv ks
  go_enter Tryd.func45, Tryd.ntmps45
  subst ht
  have HB := Lib.hid hb
  clear hb
  have TL := Lib.hid (show s.data.toList.length = s.size by rw [Array.length_toList]; rfl)
  by_cases h0 : 0 < s.size
  · have hb1 : (((s[0].toNat : Nat) : Int) == 45) = false := by have := HB.out h0; simp; omega
    go_wp2
    go_loopw [7, 8] (fun x i wr => ∃ k : Nat, k ≤ s.size ∧ x = .int .i64 ((k + (s.data.toList.drop k).idxOf 47 : Nat) : Int) ∧ i = .int .i64 ((k : Int) - 1) ∧ Ext w wr ∧ Hid (At wr [(w.heap.size, Obj.cells #[.int .i64 0, .int .i64 0] 23), (w.heap.size + 1, Obj.cells #[.int .i64 0, .int .i64 1] 23)])) (fun _ i _ => (intOf i + 1).toNat)
    case atStart =>
      exact ⟨s.size, Nat.le_refl _, congrArg (Value.int .i64) (by rw [List.drop_eq_nil_of_le (by rw [TL.out]; exact Nat.le_refl _)]; simp), rfl, (by repeat (first | exact Ext.refl _ | assumption | refine Ext.alloc ?_ _ | refine Ext.drewN ?_ _ | refine ext_grow ?_ _ _ | refine Ext.setCell ?_ (by first | exact Nat.le_refl _ | omega | (simp; done) | (simp; omega)) _ | refine Ext.trans ?_ (by assumption))), Lib.hid ⟨(by repeat (first | (refine blk_at _ _ ?_; (first | rfl | (simp only [size_one]; done))) | refine (blk_past _ _ (by simp only [size_one]; omega)).trans ?_)), (by repeat (first | (refine blk_at _ _ ?_; (first | rfl | (simp only [size_one]; done))) | refine (blk_past _ _ (by simp only [size_one]; omega)).trans ?_)), trivial⟩⟩
    case round =>
      obtain ⟨k, hk, hx1, hi1, hE, hA⟩ := hrel
      by_cases hk0 : k = 0
      · subst hk0
        simp only [List.drop_zero, Nat.zero_add, hsl] at hx1
        obtain rfl := hx1
        obtain rfl : u8 = .int .i64 (-1) := hi1
        clear hk
        obtain ⟨c0_0_0, c0_0_1, f0_0_0, f0_0_1⟩ := run_pair (At.at hA.out 0 rfl)
        have s0_0 : w.heap.size < wr.heap.size := At.lt hA.out 0 rfl
        obtain ⟨c0_1_0, c0_1_1, f0_1_0, f0_1_1⟩ := run_pair (At.at hA.out 1 rfl)
        have s0_1 : w.heap.size + 1 < wr.heap.size := At.lt hA.out 1 rfl
        go_wp2_with (first | (go_at_call 78; (with_reducible refine (KN.out _).mono ?_); rintro E w1 ⟨rfl, hb1⟩; have A1 := Lib.hid (show At w1 [(w.heap.size, Obj.cells #[.int .i64 0, .int .i64 0] 23), (w.heap.size + 1, Obj.cells #[.int .i64 0, .int .i64 1] 23)] from At.ext hb1 hA.out); have E1 := Lib.hid ((hE).trans hb1); obtain ⟨c1_0_0, c1_0_1, f1_0_0, f1_0_1⟩ := run_pair (At.at A1.out 0 rfl); have s1_0 : w.heap.size < w1.heap.size := At.lt A1.out 0 rfl; obtain ⟨c1_1_0, c1_1_1, f1_1_0, f1_1_1⟩ := run_pair (At.at A1.out 1 rfl); have s1_1 : w.heap.size + 1 < w1.heap.size := At.lt A1.out 1 rfl) | (go_at_call 50; (with_reducible refine (KV.out _).mono ?_); rintro E w2 ⟨rfl, hb2⟩; have A2 := Lib.hid (show At w2 [(w.heap.size + 1, Obj.cells #[.int .i64 (n1 : Int), .int .i64 1] 23), (w.heap.size, Obj.cells #[.int .i64 0, .int .i64 0] 23)] from At.ext hb2 (show At _ [(w.heap.size + 1, Obj.cells #[.int .i64 (n1 : Int), .int .i64 1] 23), (w.heap.size, Obj.cells #[.int .i64 0, .int .i64 0] 23)] from ⟨(set_one (At.at A1.out 1 rfl) 0 (.int .i64 (n1 : Int))).1, (At.other (set_one (At.at A1.out 1 rfl) 0 (.int .i64 (n1 : Int))).2.1 (by first | (simp; done) | (simp; omega)) (At.erase A1.out 1))⟩)); have E2 := Lib.hid ((((set_one (At.at A1.out 1 rfl) 0 (.int .i64 (n1 : Int))).2.2 w (by omega) E1.out)).trans hb2); obtain ⟨c2_0_0, c2_0_1, f2_0_0, f2_0_1⟩ := run_pair (At.at A2.out 0 rfl); have s2_0 : w.heap.size + 1 < w2.heap.size := At.lt A2.out 0 rfl; obtain ⟨c2_1_0, c2_1_1, f2_1_0, f2_1_1⟩ := run_pair (At.at A2.out 1 rfl); have s2_1 : w.heap.size < w2.heap.size := At.lt A2.out 1 rfl; (try clear c1_0_0 c1_0_1 f1_0_0 f1_0_1 c1_1_0 c1_1_1 f1_1_0 f1_1_1 s1_0 s1_1)) | (go_at_call 77; (with_reducible refine (KS.out _).mono ?_); rintro E w3 ⟨rfl, hb3⟩; have A3 := Lib.hid (show At w3 [(w.heap.size + 1, Obj.cells #[.int .i64 (n1 : Int), .int .i64 1] 23), (w.heap.size, Obj.cells #[.int .i64 0, .int .i64 0] 23)] from At.ext hb3 A2.out); have E3 := Lib.hid ((E2.out).trans hb3); obtain ⟨c3_0_0, c3_0_1, f3_0_0, f3_0_1⟩ := run_pair (At.at A3.out 0 rfl); have s3_0 : w.heap.size + 1 < w3.heap.size := At.lt A3.out 0 rfl; obtain ⟨c3_1_0, c3_1_1, f3_1_0, f3_1_1⟩ := run_pair (At.at A3.out 1 rfl); have s3_1 : w.heap.size < w3.heap.size := At.lt A3.out 1 rfl; (try clear c2_0_0 c2_0_1 f2_0_0 f2_0_1 c2_1_0 c2_1_1 f2_1_0 f2_1_1 s2_0 s2_1)))
        refine bodyPost_ret (RT.results_row2 rfl _ _ (w.heap.size) 23 #[.int .i64 0, .int .i64 0] (0, 0) _ rfl (store_pair (v0 := .int .i64 0) (v1 := .int .i64 0) (At.at A3.out 1 rfl)).1 Tryd.underlying23 rfl info_frac) rfl ?_
        exact ⟨rfl, (store_pair (v0 := .int .i64 0) (v1 := .int .i64 0) (At.at A3.out 1 rfl)).2.2 w (Nat.le_refl _) E3.out⟩
      · obtain ⟨j, rfl⟩ : ∃ j, k = j + 1 := ⟨k - 1, by omega⟩
        obtain rfl : u8 = .int .i64 (j : Int) := by rw [hi1]; exact congrArg (Value.int .i64) (by omega)
        have hj : j < s.size := by omega
        have hd := Lib.hid (show s.data.toList.drop j = s[j] :: s.data.toList.drop (j + 1) by
          rw [List.drop_eq_getElem_cons (by rw [TL.out]; exact hj), (List.getElem?_eq_some_iff.1 (Lib.data_getElem? s j hj)).2])
        obtain rfl := hx1
        clear hk hk0
        by_cases hc : s[j].toNat = 47
        · have c1 : (((s[j].toNat : Nat) : Int) == 47) = true := by rw [hc]; rfl
          have hc2 := Lib.hid (show s[j] = 47 from UInt8.toNat_inj.1 hc)
          have HC := Lib.hid hc
          clear hc
          go_wp2
          go_roundw
          case rel => exact ⟨j, by omega, congrArg (Value.int .i64) (by rw [hd.out, hc2.out]; simp), rfl, hE, hA⟩
          case measure => simp [intOf]; try omega
        · have c1 : (((s[j].toNat : Nat) : Int) == 47) = false := by simp; omega
          have hc2 := Lib.hid (show ¬ s[j] = 47 from fun h => hc (by rw [h]; rfl))
          have HC := Lib.hid hc
          clear hc
          go_wp2
          go_roundw
          case rel => exact ⟨j, by omega, congrArg (Value.int .i64) (by rw [hd.out, List.idxOf_cons, show (s[j] == (47 : UInt8)) = false from by simpa using hc2.out]; simp only [cond_false]; omega), rfl, hE, hA⟩
          case measure => simp [intOf]; try omega
  · go_wp2
    go_loopw [7, 8] (fun x i wr => ∃ k : Nat, k ≤ s.size ∧ x = .int .i64 ((k + (s.data.toList.drop k).idxOf 47 : Nat) : Int) ∧ i = .int .i64 ((k : Int) - 1) ∧ Ext w wr ∧ Hid (At wr [(w.heap.size, Obj.cells #[.int .i64 0, .int .i64 0] 23), (w.heap.size + 1, Obj.cells #[.int .i64 0, .int .i64 1] 23)])) (fun _ i _ => (intOf i + 1).toNat)
    case atStart =>
      exact ⟨s.size, Nat.le_refl _, congrArg (Value.int .i64) (by rw [List.drop_eq_nil_of_le (by rw [TL.out]; exact Nat.le_refl _)]; simp), rfl, (by repeat (first | exact Ext.refl _ | assumption | refine Ext.alloc ?_ _ | refine Ext.drewN ?_ _ | refine ext_grow ?_ _ _ | refine Ext.setCell ?_ (by first | exact Nat.le_refl _ | omega | (simp; done) | (simp; omega)) _ | refine Ext.trans ?_ (by assumption))), Lib.hid ⟨(by repeat (first | (refine blk_at _ _ ?_; (first | rfl | (simp only [size_one]; done))) | refine (blk_past _ _ (by simp only [size_one]; omega)).trans ?_)), (by repeat (first | (refine blk_at _ _ ?_; (first | rfl | (simp only [size_one]; done))) | refine (blk_past _ _ (by simp only [size_one]; omega)).trans ?_)), trivial⟩⟩
    case round =>
      obtain ⟨k, hk, hx1, hi1, hE, hA⟩ := hrel
      by_cases hk0 : k = 0
      · subst hk0
        simp only [List.drop_zero, Nat.zero_add, hsl] at hx1
        obtain rfl := hx1
        obtain rfl : u8 = .int .i64 (-1) := hi1
        clear hk
        obtain ⟨c0_0_0, c0_0_1, f0_0_0, f0_0_1⟩ := run_pair (At.at hA.out 0 rfl)
        have s0_0 : w.heap.size < wr.heap.size := At.lt hA.out 0 rfl
        obtain ⟨c0_1_0, c0_1_1, f0_1_0, f0_1_1⟩ := run_pair (At.at hA.out 1 rfl)
        have s0_1 : w.heap.size + 1 < wr.heap.size := At.lt hA.out 1 rfl
        go_wp2_with (first | (go_at_call 78; (with_reducible refine (KN.out _).mono ?_); rintro E w1 ⟨rfl, hb1⟩; have A1 := Lib.hid (show At w1 [(w.heap.size, Obj.cells #[.int .i64 0, .int .i64 0] 23), (w.heap.size + 1, Obj.cells #[.int .i64 0, .int .i64 1] 23)] from At.ext hb1 hA.out); have E1 := Lib.hid ((hE).trans hb1); obtain ⟨c1_0_0, c1_0_1, f1_0_0, f1_0_1⟩ := run_pair (At.at A1.out 0 rfl); have s1_0 : w.heap.size < w1.heap.size := At.lt A1.out 0 rfl; obtain ⟨c1_1_0, c1_1_1, f1_1_0, f1_1_1⟩ := run_pair (At.at A1.out 1 rfl); have s1_1 : w.heap.size + 1 < w1.heap.size := At.lt A1.out 1 rfl) | (go_at_call 50; (with_reducible refine (KV.out _).mono ?_); rintro E w2 ⟨rfl, hb2⟩; have A2 := Lib.hid (show At w2 [(w.heap.size + 1, Obj.cells #[.int .i64 (n1 : Int), .int .i64 1] 23), (w.heap.size, Obj.cells #[.int .i64 0, .int .i64 0] 23)] from At.ext hb2 (show At _ [(w.heap.size + 1, Obj.cells #[.int .i64 (n1 : Int), .int .i64 1] 23), (w.heap.size, Obj.cells #[.int .i64 0, .int .i64 0] 23)] from ⟨(set_one (At.at A1.out 1 rfl) 0 (.int .i64 (n1 : Int))).1, (At.other (set_one (At.at A1.out 1 rfl) 0 (.int .i64 (n1 : Int))).2.1 (by first | (simp; done) | (simp; omega)) (At.erase A1.out 1))⟩)); have E2 := Lib.hid ((((set_one (At.at A1.out 1 rfl) 0 (.int .i64 (n1 : Int))).2.2 w (by omega) E1.out)).trans hb2); obtain ⟨c2_0_0, c2_0_1, f2_0_0, f2_0_1⟩ := run_pair (At.at A2.out 0 rfl); have s2_0 : w.heap.size + 1 < w2.heap.size := At.lt A2.out 0 rfl; obtain ⟨c2_1_0, c2_1_1, f2_1_0, f2_1_1⟩ := run_pair (At.at A2.out 1 rfl); have s2_1 : w.heap.size < w2.heap.size := At.lt A2.out 1 rfl; (try clear c1_0_0 c1_0_1 f1_0_0 f1_0_1 c1_1_0 c1_1_1 f1_1_0 f1_1_1 s1_0 s1_1)) | (go_at_call 77; (with_reducible refine (KS.out _).mono ?_); rintro E w3 ⟨rfl, hb3⟩; have A3 := Lib.hid (show At w3 [(w.heap.size + 1, Obj.cells #[.int .i64 (n1 : Int), .int .i64 1] 23), (w.heap.size, Obj.cells #[.int .i64 0, .int .i64 0] 23)] from At.ext hb3 A2.out); have E3 := Lib.hid ((E2.out).trans hb3); obtain ⟨c3_0_0, c3_0_1, f3_0_0, f3_0_1⟩ := run_pair (At.at A3.out 0 rfl); have s3_0 : w.heap.size + 1 < w3.heap.size := At.lt A3.out 0 rfl; obtain ⟨c3_1_0, c3_1_1, f3_1_0, f3_1_1⟩ := run_pair (At.at A3.out 1 rfl); have s3_1 : w.heap.size < w3.heap.size := At.lt A3.out 1 rfl; (try clear c2_0_0 c2_0_1 f2_0_0 f2_0_1 c2_1_0 c2_1_1 f2_1_0 f2_1_1 s2_0 s2_1)))
        refine bodyPost_ret (RT.results_row2 rfl _ _ (w.heap.size) 23 #[.int .i64 0, .int .i64 0] (0, 0) _ rfl (store_pair (v0 := .int .i64 0) (v1 := .int .i64 0) (At.at A3.out 1 rfl)).1 Tryd.underlying23 rfl info_frac) rfl ?_
        exact ⟨rfl, (store_pair (v0 := .int .i64 0) (v1 := .int .i64 0) (At.at A3.out 1 rfl)).2.2 w (Nat.le_refl _) E3.out⟩
      · obtain ⟨j, rfl⟩ : ∃ j, k = j + 1 := ⟨k - 1, by omega⟩
        obtain rfl : u8 = .int .i64 (j : Int) := by rw [hi1]; exact congrArg (Value.int .i64) (by omega)
        have hj : j < s.size := by omega
        have hd := Lib.hid (show s.data.toList.drop j = s[j] :: s.data.toList.drop (j + 1) by
          rw [List.drop_eq_getElem_cons (by rw [TL.out]; exact hj), (List.getElem?_eq_some_iff.1 (Lib.data_getElem? s j hj)).2])
        obtain rfl := hx1
        clear hk hk0
        by_cases hc : s[j].toNat = 47
        · have c1 : (((s[j].toNat : Nat) : Int) == 47) = true := by rw [hc]; rfl
          have hc2 := Lib.hid (show s[j] = 47 from UInt8.toNat_inj.1 hc)
          have HC := Lib.hid hc
          clear hc
          go_wp2
          go_roundw
          case rel => exact ⟨j, by omega, congrArg (Value.int .i64) (by rw [hd.out, hc2.out]; simp), rfl, hE, hA⟩
          case measure => simp [intOf]; try omega
        · have c1 : (((s[j].toNat : Nat) : Int) == 47) = false := by simp; omega
          have hc2 := Lib.hid (show ¬ s[j] = 47 from fun h => hc (by rw [h]; rfl))
          have HC := Lib.hid hc
          clear hc
          go_wp2
          go_roundw
          case rel => exact ⟨j, by omega, congrArg (Value.int .i64) (by rw [hd.out, List.idxOf_cons, show (s[j] == (47 : UInt8)) = false from by simpa using hc2.out]; simp only [cond_false]; omega), rfl, hE, hA⟩
          case measure => simp [intOf]; try omega
set_option maxRecDepth 100000 in
set_option maxHeartbeats 8000000 in
theorem rParse_pn_yes (s t tx : ByteArray) (sl n1 d1 : Nat) (w : World) (hs : s.size ≤ 1000) (hn1 : n1 ≤ 4611686018427387909) (hsl : t.data.toList.idxOf 47 = sl) (hl : sl ≤ t.size) (hl1 : decide ((sl : Int) < (t.size : Int)) = false) (hl2 : ¬ sl < t.size) (hx : (tx.toList == s.toList) = true) (hb : (h0 : 0 < s.size) → s[0].toNat ≠ 45) (ht : s = t)
    (kn : ∀ w, Calls Tryd.prog 78 #[.string (t.extract 0 sl)] w fun E w' => E = .returned (.int .i64 (n1 : Int)) ∧ Ext w w')
    (kv : ∀ w, Calls Tryd.prog 50 #[fracV ⟨(n1 : Int), 1⟩] w fun E w' => E = .returned (.bool true) ∧ Ext w w')
    (ks : ∀ w, Calls Tryd.prog 77 #[fracV ⟨(n1 : Int), 1⟩] w fun E w' => E = .returned (.string tx) ∧ Ext w w') :
    Calls Tryd.prog 45 #[.string s] w fun E w' => E = .returned (fansV (⟨(n1 : Int), 1⟩, 0)) ∧ Ext w w' := by
  have KN := Lib.hid kn
  have KV := Lib.hid kv
  have KS := Lib.hid ks
  clear kn kv ks
  go_enter Tryd.func45, Tryd.ntmps45
  subst ht
  have HB := Lib.hid hb
  clear hb
  have TL := Lib.hid (show s.data.toList.length = s.size by rw [Array.length_toList]; rfl)
  by_cases h0 : 0 < s.size
  · have hb1 : (((s[0].toNat : Nat) : Int) == 45) = false := by have := HB.out h0; simp; omega
    go_wp2
    go_loopw [7, 8] (fun x i wr => ∃ k : Nat, k ≤ s.size ∧ x = .int .i64 ((k + (s.data.toList.drop k).idxOf 47 : Nat) : Int) ∧ i = .int .i64 ((k : Int) - 1) ∧ Ext w wr ∧ Hid (At wr [(w.heap.size, Obj.cells #[.int .i64 0, .int .i64 0] 23), (w.heap.size + 1, Obj.cells #[.int .i64 0, .int .i64 1] 23)])) (fun _ i _ => (intOf i + 1).toNat)
    case atStart =>
      exact ⟨s.size, Nat.le_refl _, congrArg (Value.int .i64) (by rw [List.drop_eq_nil_of_le (by rw [TL.out]; exact Nat.le_refl _)]; simp), rfl, (by repeat (first | exact Ext.refl _ | assumption | refine Ext.alloc ?_ _ | refine Ext.drewN ?_ _ | refine ext_grow ?_ _ _ | refine Ext.setCell ?_ (by first | exact Nat.le_refl _ | omega | (simp; done) | (simp; omega)) _ | refine Ext.trans ?_ (by assumption))), Lib.hid ⟨(by repeat (first | (refine blk_at _ _ ?_; (first | rfl | (simp only [size_one]; done))) | refine (blk_past _ _ (by simp only [size_one]; omega)).trans ?_)), (by repeat (first | (refine blk_at _ _ ?_; (first | rfl | (simp only [size_one]; done))) | refine (blk_past _ _ (by simp only [size_one]; omega)).trans ?_)), trivial⟩⟩
    case round =>
      obtain ⟨k, hk, hx1, hi1, hE, hA⟩ := hrel
      by_cases hk0 : k = 0
      · subst hk0
        simp only [List.drop_zero, Nat.zero_add, hsl] at hx1
        obtain rfl := hx1
        obtain rfl : u8 = .int .i64 (-1) := hi1
        clear hk
        obtain ⟨c0_0_0, c0_0_1, f0_0_0, f0_0_1⟩ := run_pair (At.at hA.out 0 rfl)
        have s0_0 : w.heap.size < wr.heap.size := At.lt hA.out 0 rfl
        obtain ⟨c0_1_0, c0_1_1, f0_1_0, f0_1_1⟩ := run_pair (At.at hA.out 1 rfl)
        have s0_1 : w.heap.size + 1 < wr.heap.size := At.lt hA.out 1 rfl
        go_wp2_with (first | (go_at_call 78; (with_reducible refine (KN.out _).mono ?_); rintro E w1 ⟨rfl, hb1⟩; have A1 := Lib.hid (show At w1 [(w.heap.size, Obj.cells #[.int .i64 0, .int .i64 0] 23), (w.heap.size + 1, Obj.cells #[.int .i64 0, .int .i64 1] 23)] from At.ext hb1 hA.out); have E1 := Lib.hid ((hE).trans hb1); obtain ⟨c1_0_0, c1_0_1, f1_0_0, f1_0_1⟩ := run_pair (At.at A1.out 0 rfl); have s1_0 : w.heap.size < w1.heap.size := At.lt A1.out 0 rfl; obtain ⟨c1_1_0, c1_1_1, f1_1_0, f1_1_1⟩ := run_pair (At.at A1.out 1 rfl); have s1_1 : w.heap.size + 1 < w1.heap.size := At.lt A1.out 1 rfl) | (go_at_call 50; (with_reducible refine (KV.out _).mono ?_); rintro E w2 ⟨rfl, hb2⟩; have A2 := Lib.hid (show At w2 [(w.heap.size + 1, Obj.cells #[.int .i64 (n1 : Int), .int .i64 1] 23), (w.heap.size, Obj.cells #[.int .i64 0, .int .i64 0] 23)] from At.ext hb2 (show At _ [(w.heap.size + 1, Obj.cells #[.int .i64 (n1 : Int), .int .i64 1] 23), (w.heap.size, Obj.cells #[.int .i64 0, .int .i64 0] 23)] from ⟨(set_one (At.at A1.out 1 rfl) 0 (.int .i64 (n1 : Int))).1, (At.other (set_one (At.at A1.out 1 rfl) 0 (.int .i64 (n1 : Int))).2.1 (by first | (simp; done) | (simp; omega)) (At.erase A1.out 1))⟩)); have E2 := Lib.hid ((((set_one (At.at A1.out 1 rfl) 0 (.int .i64 (n1 : Int))).2.2 w (by omega) E1.out)).trans hb2); obtain ⟨c2_0_0, c2_0_1, f2_0_0, f2_0_1⟩ := run_pair (At.at A2.out 0 rfl); have s2_0 : w.heap.size + 1 < w2.heap.size := At.lt A2.out 0 rfl; obtain ⟨c2_1_0, c2_1_1, f2_1_0, f2_1_1⟩ := run_pair (At.at A2.out 1 rfl); have s2_1 : w.heap.size < w2.heap.size := At.lt A2.out 1 rfl; (try clear c1_0_0 c1_0_1 f1_0_0 f1_0_1 c1_1_0 c1_1_1 f1_1_0 f1_1_1 s1_0 s1_1)) | (go_at_call 77; (with_reducible refine (KS.out _).mono ?_); rintro E w3 ⟨rfl, hb3⟩; have A3 := Lib.hid (show At w3 [(w.heap.size + 1, Obj.cells #[.int .i64 (n1 : Int), .int .i64 1] 23), (w.heap.size, Obj.cells #[.int .i64 0, .int .i64 0] 23)] from At.ext hb3 A2.out); have E3 := Lib.hid ((E2.out).trans hb3); obtain ⟨c3_0_0, c3_0_1, f3_0_0, f3_0_1⟩ := run_pair (At.at A3.out 0 rfl); have s3_0 : w.heap.size + 1 < w3.heap.size := At.lt A3.out 0 rfl; obtain ⟨c3_1_0, c3_1_1, f3_1_0, f3_1_1⟩ := run_pair (At.at A3.out 1 rfl); have s3_1 : w.heap.size < w3.heap.size := At.lt A3.out 1 rfl; (try clear c2_0_0 c2_0_1 f2_0_0 f2_0_1 c2_1_0 c2_1_1 f2_1_0 f2_1_1 s2_0 s2_1)))
        refine bodyPost_ret (RT.results_row2 rfl _ _ (w.heap.size) 23 #[.int .i64 (n1 : Int), .int .i64 1] (0, 0) _ rfl (store_pair (v0 := .int .i64 (n1 : Int)) (v1 := .int .i64 1) (At.at A3.out 1 rfl)).1 Tryd.underlying23 rfl info_frac) rfl ?_
        exact ⟨rfl, (store_pair (v0 := .int .i64 (n1 : Int)) (v1 := .int .i64 1) (At.at A3.out 1 rfl)).2.2 w (Nat.le_refl _) E3.out⟩
      · obtain ⟨j, rfl⟩ : ∃ j, k = j + 1 := ⟨k - 1, by omega⟩
        obtain rfl : u8 = .int .i64 (j : Int) := by rw [hi1]; exact congrArg (Value.int .i64) (by omega)
        have hj : j < s.size := by omega
        have hd := Lib.hid (show s.data.toList.drop j = s[j] :: s.data.toList.drop (j + 1) by
          rw [List.drop_eq_getElem_cons (by rw [TL.out]; exact hj), (List.getElem?_eq_some_iff.1 (Lib.data_getElem? s j hj)).2])
        obtain rfl := hx1
        clear hk hk0
        by_cases hc : s[j].toNat = 47
        · have c1 : (((s[j].toNat : Nat) : Int) == 47) = true := by rw [hc]; rfl
          have hc2 := Lib.hid (show s[j] = 47 from UInt8.toNat_inj.1 hc)
          have HC := Lib.hid hc
          clear hc
          go_wp2
          go_roundw
          case rel => exact ⟨j, by omega, congrArg (Value.int .i64) (by rw [hd.out, hc2.out]; simp), rfl, hE, hA⟩
          case measure => simp [intOf]; try omega
        · have c1 : (((s[j].toNat : Nat) : Int) == 47) = false := by simp; omega
          have hc2 := Lib.hid (show ¬ s[j] = 47 from fun h => hc (by rw [h]; rfl))
          have HC := Lib.hid hc
          clear hc
          go_wp2
          go_roundw
          case rel => exact ⟨j, by omega, congrArg (Value.int .i64) (by rw [hd.out, List.idxOf_cons, show (s[j] == (47 : UInt8)) = false from by simpa using hc2.out]; simp only [cond_false]; omega), rfl, hE, hA⟩
          case measure => simp [intOf]; try omega
  · go_wp2
    go_loopw [7, 8] (fun x i wr => ∃ k : Nat, k ≤ s.size ∧ x = .int .i64 ((k + (s.data.toList.drop k).idxOf 47 : Nat) : Int) ∧ i = .int .i64 ((k : Int) - 1) ∧ Ext w wr ∧ Hid (At wr [(w.heap.size, Obj.cells #[.int .i64 0, .int .i64 0] 23), (w.heap.size + 1, Obj.cells #[.int .i64 0, .int .i64 1] 23)])) (fun _ i _ => (intOf i + 1).toNat)
    case atStart =>
      exact ⟨s.size, Nat.le_refl _, congrArg (Value.int .i64) (by rw [List.drop_eq_nil_of_le (by rw [TL.out]; exact Nat.le_refl _)]; simp), rfl, (by repeat (first | exact Ext.refl _ | assumption | refine Ext.alloc ?_ _ | refine Ext.drewN ?_ _ | refine ext_grow ?_ _ _ | refine Ext.setCell ?_ (by first | exact Nat.le_refl _ | omega | (simp; done) | (simp; omega)) _ | refine Ext.trans ?_ (by assumption))), Lib.hid ⟨(by repeat (first | (refine blk_at _ _ ?_; (first | rfl | (simp only [size_one]; done))) | refine (blk_past _ _ (by simp only [size_one]; omega)).trans ?_)), (by repeat (first | (refine blk_at _ _ ?_; (first | rfl | (simp only [size_one]; done))) | refine (blk_past _ _ (by simp only [size_one]; omega)).trans ?_)), trivial⟩⟩
    case round =>
      obtain ⟨k, hk, hx1, hi1, hE, hA⟩ := hrel
      by_cases hk0 : k = 0
      · subst hk0
        simp only [List.drop_zero, Nat.zero_add, hsl] at hx1
        obtain rfl := hx1
        obtain rfl : u8 = .int .i64 (-1) := hi1
        clear hk
        obtain ⟨c0_0_0, c0_0_1, f0_0_0, f0_0_1⟩ := run_pair (At.at hA.out 0 rfl)
        have s0_0 : w.heap.size < wr.heap.size := At.lt hA.out 0 rfl
        obtain ⟨c0_1_0, c0_1_1, f0_1_0, f0_1_1⟩ := run_pair (At.at hA.out 1 rfl)
        have s0_1 : w.heap.size + 1 < wr.heap.size := At.lt hA.out 1 rfl
        go_wp2_with (first | (go_at_call 78; (with_reducible refine (KN.out _).mono ?_); rintro E w1 ⟨rfl, hb1⟩; have A1 := Lib.hid (show At w1 [(w.heap.size, Obj.cells #[.int .i64 0, .int .i64 0] 23), (w.heap.size + 1, Obj.cells #[.int .i64 0, .int .i64 1] 23)] from At.ext hb1 hA.out); have E1 := Lib.hid ((hE).trans hb1); obtain ⟨c1_0_0, c1_0_1, f1_0_0, f1_0_1⟩ := run_pair (At.at A1.out 0 rfl); have s1_0 : w.heap.size < w1.heap.size := At.lt A1.out 0 rfl; obtain ⟨c1_1_0, c1_1_1, f1_1_0, f1_1_1⟩ := run_pair (At.at A1.out 1 rfl); have s1_1 : w.heap.size + 1 < w1.heap.size := At.lt A1.out 1 rfl) | (go_at_call 50; (with_reducible refine (KV.out _).mono ?_); rintro E w2 ⟨rfl, hb2⟩; have A2 := Lib.hid (show At w2 [(w.heap.size + 1, Obj.cells #[.int .i64 (n1 : Int), .int .i64 1] 23), (w.heap.size, Obj.cells #[.int .i64 0, .int .i64 0] 23)] from At.ext hb2 (show At _ [(w.heap.size + 1, Obj.cells #[.int .i64 (n1 : Int), .int .i64 1] 23), (w.heap.size, Obj.cells #[.int .i64 0, .int .i64 0] 23)] from ⟨(set_one (At.at A1.out 1 rfl) 0 (.int .i64 (n1 : Int))).1, (At.other (set_one (At.at A1.out 1 rfl) 0 (.int .i64 (n1 : Int))).2.1 (by first | (simp; done) | (simp; omega)) (At.erase A1.out 1))⟩)); have E2 := Lib.hid ((((set_one (At.at A1.out 1 rfl) 0 (.int .i64 (n1 : Int))).2.2 w (by omega) E1.out)).trans hb2); obtain ⟨c2_0_0, c2_0_1, f2_0_0, f2_0_1⟩ := run_pair (At.at A2.out 0 rfl); have s2_0 : w.heap.size + 1 < w2.heap.size := At.lt A2.out 0 rfl; obtain ⟨c2_1_0, c2_1_1, f2_1_0, f2_1_1⟩ := run_pair (At.at A2.out 1 rfl); have s2_1 : w.heap.size < w2.heap.size := At.lt A2.out 1 rfl; (try clear c1_0_0 c1_0_1 f1_0_0 f1_0_1 c1_1_0 c1_1_1 f1_1_0 f1_1_1 s1_0 s1_1)) | (go_at_call 77; (with_reducible refine (KS.out _).mono ?_); rintro E w3 ⟨rfl, hb3⟩; have A3 := Lib.hid (show At w3 [(w.heap.size + 1, Obj.cells #[.int .i64 (n1 : Int), .int .i64 1] 23), (w.heap.size, Obj.cells #[.int .i64 0, .int .i64 0] 23)] from At.ext hb3 A2.out); have E3 := Lib.hid ((E2.out).trans hb3); obtain ⟨c3_0_0, c3_0_1, f3_0_0, f3_0_1⟩ := run_pair (At.at A3.out 0 rfl); have s3_0 : w.heap.size + 1 < w3.heap.size := At.lt A3.out 0 rfl; obtain ⟨c3_1_0, c3_1_1, f3_1_0, f3_1_1⟩ := run_pair (At.at A3.out 1 rfl); have s3_1 : w.heap.size < w3.heap.size := At.lt A3.out 1 rfl; (try clear c2_0_0 c2_0_1 f2_0_0 f2_0_1 c2_1_0 c2_1_1 f2_1_0 f2_1_1 s2_0 s2_1)))
        refine bodyPost_ret (RT.results_row2 rfl _ _ (w.heap.size) 23 #[.int .i64 (n1 : Int), .int .i64 1] (0, 0) _ rfl (store_pair (v0 := .int .i64 (n1 : Int)) (v1 := .int .i64 1) (At.at A3.out 1 rfl)).1 Tryd.underlying23 rfl info_frac) rfl ?_
        exact ⟨rfl, (store_pair (v0 := .int .i64 (n1 : Int)) (v1 := .int .i64 1) (At.at A3.out 1 rfl)).2.2 w (Nat.le_refl _) E3.out⟩
      · obtain ⟨j, rfl⟩ : ∃ j, k = j + 1 := ⟨k - 1, by omega⟩
        obtain rfl : u8 = .int .i64 (j : Int) := by rw [hi1]; exact congrArg (Value.int .i64) (by omega)
        have hj : j < s.size := by omega
        have hd := Lib.hid (show s.data.toList.drop j = s[j] :: s.data.toList.drop (j + 1) by
          rw [List.drop_eq_getElem_cons (by rw [TL.out]; exact hj), (List.getElem?_eq_some_iff.1 (Lib.data_getElem? s j hj)).2])
        obtain rfl := hx1
        clear hk hk0
        by_cases hc : s[j].toNat = 47
        · have c1 : (((s[j].toNat : Nat) : Int) == 47) = true := by rw [hc]; rfl
          have hc2 := Lib.hid (show s[j] = 47 from UInt8.toNat_inj.1 hc)
          have HC := Lib.hid hc
          clear hc
          go_wp2
          go_roundw
          case rel => exact ⟨j, by omega, congrArg (Value.int .i64) (by rw [hd.out, hc2.out]; simp), rfl, hE, hA⟩
          case measure => simp [intOf]; try omega
        · have c1 : (((s[j].toNat : Nat) : Int) == 47) = false := by simp; omega
          have hc2 := Lib.hid (show ¬ s[j] = 47 from fun h => hc (by rw [h]; rfl))
          have HC := Lib.hid hc
          clear hc
          go_wp2
          go_roundw
          case rel => exact ⟨j, by omega, congrArg (Value.int .i64) (by rw [hd.out, List.idxOf_cons, show (s[j] == (47 : UInt8)) = false from by simpa using hc2.out]; simp only [cond_false]; omega), rfl, hE, hA⟩
          case measure => simp [intOf]; try omega
end Go.Proofs.YtodoimeiklilhaaDoor
