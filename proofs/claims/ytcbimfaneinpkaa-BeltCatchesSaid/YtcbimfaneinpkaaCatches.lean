/- 'BeltCatches' returns true for every input: however the belt moves, the part that is rejected is the one that was judged. No condition. -/
import Derived.Test.YtcbimfaneinpkaaArgsB
import Derived.Test.YtcbimfaneinpkaaActs
import Derived.Test.YtcbimfaneinpkaaAlive
import Derived.BigQuiet
import Derived.Test.YtcbimfaneinpkaaByteArgs
import Derived.Test.YtcbimfaneinpkaaOpen
set_option linter.unusedVariables false
set_option linter.unusedSimpArgs false
namespace Go.Proofs.Ytcbimfaneinpkaa
open Go.RowKit Go.Sort Go.ChangeShapes Go.WideShapes Go.ChangeAt Go.Deep

structure Act3 where
  kind : Fin 256
  n : Fin 256
  verdict : Fin 256
abbrev act0' : Act3 := ⟨0, 0, 0⟩
def actCells (x : Act3) : List Value := [.int .u8 ((x.kind.val : Nat) : Int), .int .u8 ((x.n.val : Nat) : Int), .int .u8 ((x.verdict.val : Nat) : Int)]
def actsL (l : List Act3) : List Value := l.flatMap actCells
theorem actsL_length (l : List Act3) : (actsL l).length = l.length * 3 := by
  induction l with
  | nil => rfl
  | cons x l ih => simp only [actsL, List.flatMap_cons, List.length_append, List.length_cons] at ih ⊢; simp [actCells, ih]; omega
theorem acts_get (l : List Act3) : ∀ (i f : Nat), i < l.length → f < 3 → (actsL l)[i * 3 + f]? = (actCells (l.getD i act0'))[f]? := by
  induction l with
  | nil => intro i f h; simp at h
  | cons x l ih =>
    intro i f hi hf
    rw [actsL, List.flatMap_cons]
    match i with
    | 0 =>
      rw [List.getElem?_append_left (by simp [actCells]; omega)]
      simp
    | i + 1 =>
      rw [List.getElem?_append_right (by simp [actCells]; omega)]
      have := ih i f (by simpa using hi) hf
      simp only [actsL] at this
      simpa [actCells, show (i + 1) * 3 + f - 3 = i * 3 + f by omega] using this
def ActsAt (w : World) (v : Value) (l : List Act3) : Prop := SlAt w 3 v l.length (actsL l)
theorem ActsAt.form {w : World} {v : Value} {l : List Act3} (h : ActsAt w v l) : ∃ ao cap, v = .slice ao l.length cap ∧ l.length ≤ maxLen ∧
    ∀ i, i < l.length → ∃ b off, ao = some ⟨b, off, none⟩ ∧ w.cell? ⟨b, off + i * 3, none⟩ = some (.int .u8 (((l.getD i act0').kind.val : Nat) : Int)) ∧ w.cell? ⟨b, off + i * 3 + 1, none⟩ = some (.int .u8 (((l.getD i act0').n.val : Nat) : Int)) ∧
      w.cell? ⟨b, off + i * 3 + 2, none⟩ = some (.int .u8 (((l.getD i act0').verdict.val : Nat) : Int)) := by
  obtain ⟨-, ao, cap, h1, h2, h3, -, h5⟩ := h
  refine ⟨ao, cap, h1, by omega, fun i hi => ?_⟩
  obtain ⟨b, off, rfl, c0⟩ := h5 (i * 3 + 0) _ (by rw [acts_get l i 0 hi (by omega)]; rfl)
  obtain ⟨b1, off1, e1, c1⟩ := h5 (i * 3 + 1) _ (by rw [acts_get l i 1 hi (by omega)]; rfl)
  obtain ⟨b2, off2, e2, c2⟩ := h5 (i * 3 + 2) _ (by rw [acts_get l i 2 hi (by omega)]; rfl)
  cases e1
  cases e2
  exact ⟨b, off, rfl, c0, c1, c2⟩
set_option maxRecDepth 100000 in
theorem read_act {H : Type} {enc : TypeId × Value → H} {W : World} (n : Nat) (cs : List Value) (y : DataW H × List MemPlace) (h : DataW.trod enc Try.prog W 0 (fun _ => true) true n 86 cs = some y) : ∃ x : Act3, cs = actCells x := by
  obtain ⟨ys, n', hn', hy, hlen, hyl, hf⟩ := DataW.trod_struct Try.underlying86 h
  have k86 : cs.length = 3 := hlen.trans (by kernel_rfl)
  match cs, k86 with
  | [c0, c1, c2], _ =>
    have g0 := hf 0 _ rfl
    have g1 := hf 1 _ rfl
    have g2 := hf 2 _ rfl
    match ys, hyl with
    | [y0, y1, y2], _ =>
      have k5 : Try.prog.cellsOf 5 = 1 := by kernel_rfl
      simp [k5] at g0 g1 g2
      obtain ⟨a0, e0, -, w0⟩ := DataW.trod_int Try.underlying5 g0
      obtain ⟨a1, e1, -, w1⟩ := DataW.trod_int Try.underlying5 g1
      obtain ⟨a2, e2, -, w2⟩ := DataW.trod_int Try.underlying5 g2
      simp only [List.cons.injEq, and_true] at e0 e1 e2
      subst e0 e1 e2
      have b0 := bounds_u8 w0
      have b1 := bounds_u8 w1
      have b2 := bounds_u8 w2
      obtain ⟨n0, rfl⟩ := Int.eq_ofNat_of_zero_le b0.1
      obtain ⟨n1, rfl⟩ := Int.eq_ofNat_of_zero_le b1.1
      obtain ⟨n2, rfl⟩ := Int.eq_ofNat_of_zero_le b2.1
      exact ⟨⟨⟨n0, by omega⟩, ⟨n1, by omega⟩, ⟨n2, by omega⟩⟩, rfl⟩
/-- a slice of acts that came in -/
theorem read_acts {H : Type} {enc : TypeId × Value → H} {W : World} {fuel : Nat} {c : Value} {y : DataW H × List MemPlace}
    (h : DataW.trod enc Try.prog W 0 (fun _ => true) true fuel 80 [c] = some y) : ∃ l : List Act3, ActsAt W c l := by
  rcases open_slice Try.underlying80 h with h0 | ⟨a, len, cap, m, n, D, Pl, hcs, hb, hl, hm, hmm, hx, hi⟩
  · have h0 := h0.1
    simp only [List.cons.injEq, and_true] at h0
    subst h0
    exact ⟨[], SlAt.nil W 3⟩
  simp only [List.cons.injEq, and_true] at hcs
  subst hcs
  simp only [if_true] at hmm
  obtain rfl : cap = m := hmm.symm
  have k86 : Try.prog.cellsOf 86 = 3 := by kernel_rfl
  have hget : ∀ i, i < len → ∃ x : Act3, ∀ j, j < 3 → W.cell? (a.add (i * 3 + j)) = (actCells x)[j]? := by
    intro i hlt
    obtain ⟨cs', hc, ht'⟩ := hi i (by omega)
    rw [k86] at hc
    obtain ⟨x, rfl⟩ := read_act _ _ _ ht'
    obtain ⟨_, hcl, hat⟩ := World.cells?_some hc
    refine ⟨x, fun j hj => ?_⟩
    rw [← Go.Deep.add_add]
    exact hat j hj
  rcases Nat.eq_zero_or_pos len with h0 | h0
  · subst h0
    exact ⟨[], (by simp [actsL]), some a, cap, rfl, Nat.zero_le _, hm, (fun h => (by cases h)), fun j u hj => (by simp [actsL] at hj)⟩
  · obtain ⟨b, off, spot⟩ := a
    have hspot : spot = none := by
      obtain ⟨x0, hx0⟩ := hget 0 h0
      have h1 := hx0 0 (by omega)
      rw [show (actCells x0)[0]? = some _ from rfl] at h1
      simpa [Addr.add] using World.cell?_spot h1
    subst hspot
    let g : Nat → Act3 := fun i => if h : i < len then (hget i h).choose else act0'
    have hg : ∀ i, i < len → ∀ j, j < 3 → W.cell? ⟨b, off + (i * 3 + j), none⟩ = (actCells (g i))[j]? := by
      intro i h j hj
      have hh := (hget i h).choose_spec j hj
      have e : g i = (hget i h).choose := dif_pos h
      rw [e]
      simpa only [Addr.add_lit] using hh
    have hlen : ((List.range len).map g).length = len := by simp
    refine ⟨(List.range len).map g, actsL_length _, some ⟨b, off, none⟩, cap, by rw [hlen], by rw [hlen]; exact hl, hm, (fun h => (by cases h)), fun j u hj => ⟨b, off, rfl, ?_⟩⟩
    obtain ⟨q, r, hr, rfl⟩ : ∃ q r, r < 3 ∧ j = q * 3 + r := ⟨j / 3, j % 3, by omega, by omega⟩
    have hq : q < len := by
      have := (List.getElem?_eq_some_iff.1 hj).1
      rw [actsL_length, hlen] at this
      omega
    rw [acts_get _ q r (by rw [hlen]; exact hq) hr] at hj
    have eg : ((List.range len).map g).getD q act0' = g q := by simp [List.getD_eq_getElem?_getD, List.getElem?_map, List.getElem?_range hq]
    rw [eg] at hj
    rw [hg q hq r hr]
    exact hj
end Go.Proofs.Ytcbimfaneinpkaa

namespace Go.Proofs.Ytcbimfaneinpkaa
open Go.RowKit Go.Sort

theorem w46 (w0 : World) (b : Belt) (vm : Value) (mv : List Nat) (ln : Int) (bw : Nat) (t : Track) (xs : List Thing) (at_ : Nat) (w : World) (hC : CatchAt w0 b vm ln bw t xs at_ w) (hm : BytesAt w0 vm mv) (hml : mv.length ≤ maxLen) (hms : ∀ x ∈ mv, x < 256)
    (hs : w0.heap.size ≤ bw) (hcn : t.count + 20 ≤ 100000) (han : at_ + 20 ≤ 100000) (hln : ln = b.length) (x : Act3) :
    Calls Try.prog 46 #[.pointer (some ⟨bw, 0, none⟩), .agg #[.int .u8 ((x.kind.val : Nat) : Int), .int .u8 ((x.n.val : Nat) : Int), .int .u8 ((x.verdict.val : Nat) : Int)]] w (Acted w0 b vm ln bw t at_) := by
  have h1 := x.n.isLt
  have h2 := x.verdict.isLt
  have h3 := Nat.mod_lt x.kind.val (show 0 < 3 by omega)
  rcases (show x.kind.val % 3 = 0 ∨ x.kind.val % 3 = 1 ∨ x.kind.val % 3 = 2 by omega) with h | h | h
  · exact act0 w0 b vm mv ln bw t xs at_ w hC hm hml hms hs hcn han hln _ _ _ h h1 h2
  · exact act1 w0 b vm mv ln bw t xs at_ w hC hm hml hms hs hcn han hln _ _ _ h h1 h2
  · exact act2 w0 b vm mv ln bw t xs at_ w hC hm hml hms hs hcn han hln _ _ _ h h1 h2
theorem follows_new {b : Belt} (hb : b.ok) : Follows b ⟨b, 0, 0, []⟩ [] :=
  ⟨⟨hb, ⟨by show (0 : Int) ≤ 0; omega, by show (0 : Int) ≤ 1099511627776; omega, by show (0 : Int) ≤ 0; omega, by show (0 : Int) ≤ 1099511627776; omega, by simp⟩, fun i hi => by simp at hi⟩, rfl, rfl, fun i hi => by simp at hi⟩
set_option maxRecDepth 100000 in
set_option maxHeartbeats 8000000 in
theorem w8 (b : Belt) (va : Value) (acts : List Act3) (vm : Value) (mv : List Nat) (w : World) (ha : ActsAt w va acts) (hm : BytesAt w vm mv) (hml : mv.length ≤ maxLen) (hms : ∀ x ∈ mv, x < 256) :
    Calls Try.prog 8 #[.agg #[.int .i64 b.step, .int .i64 b.slip, .int .i64 b.gate, .int .i64 b.length], va, vm] w fun e w' => e = .returned (.bool true) ∧ Ext w w' := by
  have HM := Lib.hid hm
  obtain ⟨am, cm, rfl, -, -⟩ := hm.form
  obtain ⟨aa, ca, rfl, hal, hac⟩ := ha.form
  have hmx : maxLen = 9223372036854775807 := rfl
  have HML := Lib.hid hml
  have HMS := Lib.hid hms
  have HAC := Lib.hid hac
  rw [hmx] at hal
  clear hm hml hms ha hac hmx
  have KA := Lib.hid c_alive
  have K29 := Lib.hid (fun w => w29 b w)
  by_cases h60 : acts.length ≤ 60
  case neg =>
    have t1 : decide ((60 : Int) < (acts.length : Int)) = true := decide_eq_true (by omega)
    have t2 : decide (60 < acts.length) = true := decide_eq_true (by omega)
    go_enter Try.func8, Try.ntmps8
    go_wp2_with (first | (go_at_call 43; (with_reducible refine (KA.out _).mono ?_); rintro E w1 ⟨rfl, hb1⟩; have A1 := Lib.hid (show At w1 [(w.heap.size, Obj.cells #[.int .i64 b.step, .int .i64 b.slip, .int .i64 b.gate, .int .i64 b.length] 23)] from At.ext hb1 (show At (World.alloc w (Obj.cells #[.int .i64 b.step, .int .i64 b.slip, .int .i64 b.gate, .int .i64 b.length] 23)) [(w.heap.size, Obj.cells #[.int .i64 b.step, .int .i64 b.slip, .int .i64 b.gate, .int .i64 b.length] 23)] from ⟨(by repeat (first | (refine blk_at _ _ ?_; (first | rfl | (simp only [size_one]; done))) | refine (blk_past _ _ (by simp only [size_one]; omega)).trans ?_)), trivial⟩)); have E1 := Lib.hid (((show Ext w (World.alloc w (Obj.cells #[.int .i64 b.step, .int .i64 b.slip, .int .i64 b.gate, .int .i64 b.length] 23)) from (by repeat (first | exact Ext.refl _ | assumption | refine Ext.alloc ?_ _ | refine Ext.drewN ?_ _ | refine ext_grow ?_ _ _ | refine Ext.setCell ?_ (by first | exact Nat.le_refl _ | omega | (simp; done) | (simp; omega)) _ | refine Ext.trans ?_ (by assumption))))).trans hb1); obtain ⟨⟨c1_0_0, c1_0_1, c1_0_2, c1_0_3⟩, f1_0_0, f1_0_1, f1_0_2, f1_0_3⟩ := run_4 (At.at A1.out 0 rfl); have s1_0 : w.heap.size < w1.heap.size := At.lt A1.out 0 rfl))
    go_ret
    exact ⟨rfl, E1.out⟩
  have t1 : decide ((60 : Int) < (acts.length : Int)) = false := decide_eq_false (by omega)
  have t2 : decide (60 < acts.length) = false := decide_eq_false (by omega)
  by_cases hok : b.ok
  case neg =>
    rw [show newTrack b = (⟨⟨0, 0, 0, 0⟩, 0, 0, []⟩, 90) from if_neg hok] at K29
    clear hok
    go_enter Try.func8, Try.ntmps8
    go_wp2_with (first | (have _q := E1.out; go_at_call 29; (with_reducible refine (K29.out _).mono ?_); rintro E w2 ⟨rfl, hb2⟩; have A2 := Lib.hid (show At w2 [(w.heap.size, Obj.cells #[.int .i64 b.step, .int .i64 b.slip, .int .i64 b.gate, .int .i64 b.length] 23)] from At.ext hb2 A1.out); have E2 := Lib.hid ((E1.out).trans hb2); obtain ⟨⟨c2_0_0, c2_0_1, c2_0_2, c2_0_3⟩, f2_0_0, f2_0_1, f2_0_2, f2_0_3⟩ := run_4 (At.at A2.out 0 rfl); have s2_0 : w.heap.size < w2.heap.size := At.lt A2.out 0 rfl; (try clear c1_0_0 c1_0_1 c1_0_2 c1_0_3 f1_0_0 f1_0_1 f1_0_2 f1_0_3 s1_0)) | (go_at_call 43; (with_reducible refine (KA.out _).mono ?_); rintro E w1 ⟨rfl, hb1⟩; have A1 := Lib.hid (show At w1 [(w.heap.size, Obj.cells #[.int .i64 b.step, .int .i64 b.slip, .int .i64 b.gate, .int .i64 b.length] 23)] from At.ext hb1 (show At (World.alloc w (Obj.cells #[.int .i64 b.step, .int .i64 b.slip, .int .i64 b.gate, .int .i64 b.length] 23)) [(w.heap.size, Obj.cells #[.int .i64 b.step, .int .i64 b.slip, .int .i64 b.gate, .int .i64 b.length] 23)] from ⟨(by repeat (first | (refine blk_at _ _ ?_; (first | rfl | (simp only [size_one]; done))) | refine (blk_past _ _ (by simp only [size_one]; omega)).trans ?_)), trivial⟩)); have E1 := Lib.hid (((show Ext w (World.alloc w (Obj.cells #[.int .i64 b.step, .int .i64 b.slip, .int .i64 b.gate, .int .i64 b.length] 23)) from (by repeat (first | exact Ext.refl _ | assumption | refine Ext.alloc ?_ _ | refine Ext.drewN ?_ _ | refine ext_grow ?_ _ _ | refine Ext.setCell ?_ (by first | exact Nat.le_refl _ | omega | (simp; done) | (simp; omega)) _ | refine Ext.trans ?_ (by assumption))))).trans hb1); obtain ⟨⟨c1_0_0, c1_0_1, c1_0_2, c1_0_3⟩, f1_0_0, f1_0_1, f1_0_2, f1_0_3⟩ := run_4 (At.at A1.out 0 rfl); have s1_0 : w.heap.size < w1.heap.size := At.lt A1.out 0 rfl))
    go_ret
    exact ⟨rfl, ((E2.out).alloc _)⟩
  rw [show newTrack b = (⟨b, 0, 0, []⟩, 0) from if_pos hok] at K29
  have K44 := Lib.hid (fun w => w44 b w)
  rw [decide_eq_true hok] at K44
  have HOK := Lib.hid hok
  clear hok
  go_enter Try.func8, Try.ntmps8
  go_wp2_with (first | (have _q := E2.out; go_at_call 44; (with_reducible refine (K44.out _).mono ?_); rintro E w3 ⟨rfl, hb3⟩; have A3 := Lib.hid (show At w3 [(w2.heap.size, Obj.cells #[.int .i64 b.step, .int .i64 b.slip, .int .i64 b.gate, .int .i64 b.length, .int .i64 0, .int .i64 0, .slice none 0 0] 47), (w.heap.size, Obj.cells #[.int .i64 b.step, .int .i64 b.slip, .int .i64 b.gate, .int .i64 b.length] 23)] from At.ext hb3 (show At (World.alloc w2 (Obj.cells #[.int .i64 b.step, .int .i64 b.slip, .int .i64 b.gate, .int .i64 b.length, .int .i64 0, .int .i64 0, .slice none 0 0] 47)) [(w2.heap.size, Obj.cells #[.int .i64 b.step, .int .i64 b.slip, .int .i64 b.gate, .int .i64 b.length, .int .i64 0, .int .i64 0, .slice none 0 0] 47), (w.heap.size, Obj.cells #[.int .i64 b.step, .int .i64 b.slip, .int .i64 b.gate, .int .i64 b.length] 23)] from ⟨one_first _ _, At.alloc A2.out _⟩)); have E3 := Lib.hid ((((E2.out).alloc _)).trans hb3); obtain ⟨⟨c3_0_0, c3_0_1, c3_0_2, c3_0_3, c3_0_4, c3_0_5, c3_0_6⟩, f3_0_0, f3_0_1, f3_0_2, f3_0_3, f3_0_4, f3_0_5, f3_0_6⟩ := run_7 (At.at A3.out 0 rfl); have s3_0 : w2.heap.size < w3.heap.size := At.lt A3.out 0 rfl; obtain ⟨⟨c3_1_0, c3_1_1, c3_1_2, c3_1_3⟩, f3_1_0, f3_1_1, f3_1_2, f3_1_3⟩ := run_4 (At.at A3.out 1 rfl); have s3_1 : w.heap.size < w3.heap.size := At.lt A3.out 1 rfl; (try clear c2_0_0 c2_0_1 c2_0_2 c2_0_3 f2_0_0 f2_0_1 f2_0_2 f2_0_3)) | (have _q := E1.out; go_at_call 29; (with_reducible refine (K29.out _).mono ?_); rintro E w2 ⟨rfl, hb2⟩; have A2 := Lib.hid (show At w2 [(w.heap.size, Obj.cells #[.int .i64 b.step, .int .i64 b.slip, .int .i64 b.gate, .int .i64 b.length] 23)] from At.ext hb2 A1.out); have E2 := Lib.hid ((E1.out).trans hb2); obtain ⟨⟨c2_0_0, c2_0_1, c2_0_2, c2_0_3⟩, f2_0_0, f2_0_1, f2_0_2, f2_0_3⟩ := run_4 (At.at A2.out 0 rfl); have s2_0 : w.heap.size < w2.heap.size := At.lt A2.out 0 rfl; (try clear c1_0_0 c1_0_1 c1_0_2 c1_0_3 f1_0_0 f1_0_1 f1_0_2 f1_0_3 s1_0)) | (go_at_call 43; (with_reducible refine (KA.out _).mono ?_); rintro E w1 ⟨rfl, hb1⟩; have A1 := Lib.hid (show At w1 [(w.heap.size, Obj.cells #[.int .i64 b.step, .int .i64 b.slip, .int .i64 b.gate, .int .i64 b.length] 23)] from At.ext hb1 (show At (World.alloc w (Obj.cells #[.int .i64 b.step, .int .i64 b.slip, .int .i64 b.gate, .int .i64 b.length] 23)) [(w.heap.size, Obj.cells #[.int .i64 b.step, .int .i64 b.slip, .int .i64 b.gate, .int .i64 b.length] 23)] from ⟨(by repeat (first | (refine blk_at _ _ ?_; (first | rfl | (simp only [size_one]; done))) | refine (blk_past _ _ (by simp only [size_one]; omega)).trans ?_)), trivial⟩)); have E1 := Lib.hid (((show Ext w (World.alloc w (Obj.cells #[.int .i64 b.step, .int .i64 b.slip, .int .i64 b.gate, .int .i64 b.length] 23)) from (by repeat (first | exact Ext.refl _ | assumption | refine Ext.alloc ?_ _ | refine Ext.drewN ?_ _ | refine ext_grow ?_ _ _ | refine Ext.setCell ?_ (by first | exact Nat.le_refl _ | omega | (simp; done) | (simp; omega)) _ | refine Ext.trans ?_ (by assumption))))).trans hb1); obtain ⟨⟨c1_0_0, c1_0_1, c1_0_2, c1_0_3⟩, f1_0_0, f1_0_1, f1_0_2, f1_0_3⟩ := run_4 (At.at A1.out 0 rfl); have s1_0 : w.heap.size < w1.heap.size := At.lt A1.out 0 rfl))
  obtain ⟨wa, hwa⟩ : ∃ x, (World.alloc w3 (Obj.cells #[.int .i64 b.step, .int .i64 b.slip, .int .i64 b.gate, .int .i64 b.length, .int .i64 0, .int .i64 0, .slice none 0 0, .slice none 0 0, .slice am mv.length cm, .int .i64 0, .int .i64 b.length] 84)) = x := ⟨_, rfl⟩
  obtain ⟨bw, hbw⟩ : ∃ x, w3.heap.size = x := ⟨_, rfl⟩
  have HEA := Lib.hid (show Ext w (World.alloc w3 (Obj.cells #[.int .i64 b.step, .int .i64 b.slip, .int .i64 b.gate, .int .i64 b.length, .int .i64 0, .int .i64 0, .slice none 0 0, .slice none 0 0, .slice am mv.length cm, .int .i64 0, .int .i64 b.length] 84)) from ((E3.out).alloc _))
  have HC := Lib.hid (show CatchAt w b (.slice am mv.length cm) b.length w3.heap.size ⟨b, 0, 0, []⟩ [] 0 (World.alloc w3 (Obj.cells #[.int .i64 b.step, .int .i64 b.slip, .int .i64 b.gate, .int .i64 b.length, .int .i64 0, .int .i64 0, .slice none 0 0, .slice none 0 0, .slice am mv.length cm, .int .i64 0, .int .i64 b.length] 84)) from ⟨.slice none 0 0, .slice none 0 0, follows_new HOK.out, At.at (show At (World.alloc w3 (Obj.cells #[.int .i64 b.step, .int .i64 b.slip, .int .i64 b.gate, .int .i64 b.length, .int .i64 0, .int .i64 0, .slice none 0 0, .slice none 0 0, .slice am mv.length cm, .int .i64 0, .int .i64 b.length] 84)) [(w3.heap.size, Obj.cells #[.int .i64 b.step, .int .i64 b.slip, .int .i64 b.gate, .int .i64 b.length, .int .i64 0, .int .i64 0, .slice none 0 0, .slice none 0 0, .slice am mv.length cm, .int .i64 0, .int .i64 b.length] 84), (w2.heap.size, Obj.cells #[.int .i64 b.step, .int .i64 b.slip, .int .i64 b.gate, .int .i64 b.length, .int .i64 0, .int .i64 0, .slice none 0 0] 47), (w.heap.size, Obj.cells #[.int .i64 b.step, .int .i64 b.slip, .int .i64 b.gate, .int .i64 b.length] 23)] from ⟨one_first _ _, At.alloc A3.out _⟩) 0 rfl, ⟨rfl, .inl ⟨rfl, rfl⟩⟩, ⟨rfl, .inl ⟨rfl, rfl⟩⟩, fun g hg => (by cases hg), ((E3.out).alloc _)⟩)
  have hsb : w.heap.size ≤ w3.heap.size := E3.out.size
  rw [hwa] at HEA HC
  rw [hbw] at HC hsb
  rw [hwa, hbw]
  clear hwa hbw
  go_loopw [41] (fun i wr => ∃ (j : Nat) (t : Track) (xs : List Thing) (at_ : Nat), j ≤ acts.length ∧ i = .int .i64 (j : Int) ∧ Hid (CatchAt w b (.slice am mv.length cm) b.length bw t xs at_ wr) ∧ Hid (t.count ≤ 20 * j ∧ at_ ≤ 20 * j)) (fun i _ => acts.length - (intOf i).toNat)
  case atStart => exact ⟨0, ⟨b, 0, 0, []⟩, [], 0, by omega, rfl, HC, Lib.hid ⟨by show (0 : Int) ≤ _; omega, by omega⟩⟩
  case round =>
    obtain ⟨j, t, xs, at_, hj, rfl, hC, hcnt⟩ := hrel
    by_cases hjl : j < acts.length
    · have hjI : (j : Int) < (acts.length : Int) := by omega
      have hjD : decide ((j : Int) < (acts.length : Int)) = true := decide_eq_true hjI
      obtain ⟨bx, off, rfl, y0, y1, y2⟩ := HAC.out j hjl
      have hEw : Ext w wr := by obtain ⟨-, -, -, -, -, -, -, h⟩ := hC.out; exact h
      have HEw := Lib.hid hEw
      have y0 := hEw.get y0
      have y1 := hEw.get y1
      have y2 := hEw.get y2
      have yz := World.block_lt_of_cell? _ _ y0
      obtain ⟨x, hx⟩ : ∃ x, acts.getD j act0' = x := ⟨_, rfl⟩
      rw [hx] at y0 y1 y2
      simp only at yz
      have K46 := Lib.hid (fun (w' : World) (h : CatchAt w b (.slice am mv.length cm) b.length bw t xs at_ w') => w46 w b _ mv b.length bw t xs at_ w' h HM.out HML.out HMS.out hsb (by have := hcnt.out.1; omega) (by have := hcnt.out.2; omega) rfl x)
      clear hx hEw
      go_wp2_with (go_at_call 46; (with_reducible refine (K46.out _ (hC.out.ext ((Ext.refl _).alloc _))).mono ?_); rintro E w1 ⟨rfl, t1, xs1, at1, hC1, hc1, ha1⟩)
      go_roundw
      case rel => exact ⟨j + 1, t1, xs1, at1, by omega, by go_num, Lib.hid hC1, Lib.hid ⟨by have := hcnt.out.1; omega, by have := hcnt.out.2; omega⟩⟩
      case measure => simp [intOf]; omega
    · have hjD : decide ((j : Int) < (acts.length : Int)) = false := decide_eq_false (by omega)
      obtain ⟨vt, vx, hF, hB, hT, hX, -, hE⟩ := hC.out
      obtain ⟨-, st, zt, rfl, -⟩ := SlAt.of_owns hT
      obtain ⟨-, sx, zx, rfl, -⟩ := SlAt.of_owns hX
      have hlen : xs.length = t.parts.length := hF.2.2.1
      have t5 : ((t.parts.length : Int) == (xs.length : Int)) = true := by rw [beq_iff_eq]; omega
      obtain ⟨⟨c0, c1, c2, c3, c4, c5, c6, c7, c8, c9, c10⟩, f0, f1, f2, f3, f4, f5, f6, f7, f8, f9, f10⟩ := run_11 hB
      have cz := (Array.getElem?_eq_some_iff.1 hB).1
      have hE := Lib.hid hE
      clear hlen hF hT hX hB
      go_wp2_with fail
      go_quiet (fail)
      go_wp2
      go_ret
      exact ⟨rfl, hE.out.drewN _⟩
end Go.Proofs.Ytcbimfaneinpkaa

namespace Go.Proofs.Ytcbimfaneinpkaa
open Go.RowKit Go.Sort Go.ChangeShapes Go.WideShapes Go.ChangeAt

set_option maxRecDepth 100000 in
theorem catches_hold_lifted (os : Os) (started : os.Started) (H : Type) (enc : TypeId × Value → H) :
    ReturnsInHanded {} Try.checked os 8 .any (Rows.beltCatchesSpec.pre6 enc Try.prog Try.f8 Rows.beltCatchesRow.domain false) (Rows.beltCatchesSpec.post enc Try.prog Try.f8 false true false false) := by
  refine law_returns (C := Try.checked) started own laidOut (by kernel_rfl) Try.func8 rfl Try.underlying4 rfl ?_ (of_decide_eq_true (by kernel_rfl))
    (ChangeSpec.witness6 (enc := enc) (C := Try.checked) false ⟨#[], #[.agg #[.int .i64 0, .int .i64 0, .int .i64 0, .int .i64 0], .slice none 0 0, .slice none 0 0], []⟩ 8 (by kernel_rfl) (by kernel_rfl) (by kernel_rfl) (by kernel_rfl)) ?_
  · intro ds hds
    rw [Try.params8] at hds
    match ds, hds with
    | [d1, d2, d3], _ => exact ⟨rfl, rfl, rfl⟩
  · intro W base args ds p hval0 hA0
    have hval : ∀ (j : Nat) t v, Try.f8.params[j]? = some t → args[j]? = some v → Value.okWide Try.prog W .any base t v := hval0
    have hA : DataW.TrodAll enc Try.prog W 0 (fun _ => true) true Try.f8.params.toList args.toList ds p := hA0
    rw [Try.params8] at hA hval
    obtain ⟨v0, v1, v2, d0, d1, d2, p0, p1, p2, rfl, rfl, rfl, h0, h1, h2⟩ := trodAll_three hA
    obtain ⟨b0, rfl⟩ := read_belt (hval 0 23 v0 rfl rfl) h0
    obtain ⟨sa1, sl1, sc1, rfl⟩ := okWide_slice Try.underlying80 (hval 1 80 v1 rfl rfl)
    obtain ⟨fu1, hf1⟩ := h1
    obtain ⟨l1, y1⟩ := read_acts hf1
    obtain ⟨l2, y2, m2, x2, -⟩ := bytes_of_arg Try.underlying76 Try.underlying5 (by kernel_rfl) (hval 2 76 v2 rfl rfl) h2
    exact w8 b0 _ l1 v2 l2 W y1 y2 m2 x2

theorem catches_hold : Rows.BeltCatchesSaid :=
  OpenClaim.holds_of_wide 8 Try.f8 rfl rfl rfl rfl rfl rfl rfl ⟨rfl, rfl, rfl, rfl, rfl⟩ rfl rfl rfl rfl rfl (by kernel_rfl) Try.func8 (by kernel_rfl)
    (of_decide_eq_true (by kernel_rfl)) (by unfold Func.isWrapper; rw [if_neg (of_decide_eq_false (by kernel_rfl))]; exact ⟨rfl, rfl⟩)
    (fun os started H enc _ => catches_hold_lifted os started H enc)
#print axioms catches_hold
end Go.Proofs.Ytcbimfaneinpkaa
