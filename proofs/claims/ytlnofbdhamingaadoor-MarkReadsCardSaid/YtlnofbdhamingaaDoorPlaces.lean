/- The iterator 'places': it yields the places of an image of a size, in order. -/
import Derived.Test.YtlnofbdhamingaaDoorBlocks
import Derived.Test.YtlnofbdhamingaaDoorProg
import Derived.RangeFuncNested
import Derived.RangeFuncBound
import Derived.RangeFuncCalls
import Derived.RangeFuncLeaves
import Derived.RangeFuncWrites
import Derived.Shelf.Abstract
import Derived.Shelf.RegionOpen
import Derived.OwnWalkIn
import Derived.TacticsInMore
import Derived.LoopNIn
import Derived.LoopIn
set_option linter.unusedVariables false
set_option linter.unusedSimpArgs false
namespace Go.Proofs.YtlnofbdhamingaaDoor
open Go.RowKit Go.Sort
attribute [local go_sem] Oper.semAt_some

/-- a place of an image of 'ww' columns and 'hh' rows -/
abbrev PL (ww hh : Nat) := { p : Nat × Nat // p.1 < ww ∧ p.2 < hh }
def plAt (ww hh : Nat) (h1 : 0 < ww) (h2 : 0 < hh) (k : Nat) : PL ww hh := ⟨(k % ww, k / ww % hh), Nat.mod_lt _ h1, Nat.mod_lt _ h2⟩
def uptoP (ww hh : Nat) (h1 : 0 < ww) (h2 : 0 < hh) (k : Nat) : List (PL ww hh) := (List.range k).map (plAt ww hh h1 h2)
theorem uptoP_succ (ww hh : Nat) (h1 : 0 < ww) (h2 : 0 < hh) (k : Nat) : uptoP ww hh h1 h2 (k + 1) = uptoP ww hh h1 h2 k ++ [plAt ww hh h1 h2 k] := by simp [uptoP, List.range_succ]
theorem uptoP_length (ww hh : Nat) (h1 : 0 < ww) (h2 : 0 < hh) (k : Nat) : (uptoP ww hh h1 h2 k).length = k := by simp [uptoP]
theorem uptoP_prefix (ww hh : Nat) (h1 : 0 < ww) (h2 : 0 < hh) {j k : Nat} (h : j ≤ k) : uptoP ww hh h1 h2 j <+: uptoP ww hh h1 h2 k := by
  obtain ⟨d, rfl⟩ : ∃ d, k = j + d := ⟨k - j, by omega⟩
  refine ⟨(List.range d).map fun i => plAt ww hh h1 h2 (j + i), ?_⟩
  unfold uptoP
  rw [List.range_add, List.map_append, List.map_map]
  rfl
theorem plAt_at {ww hh x y : Nat} (h1 : 0 < ww) (h2 : 0 < hh) (hx : x < ww) (hy : y < hh) : (plAt ww hh h1 h2 (ww * y + x)).1 = (x, y) := by
  unfold plAt
  simp only [Prod.mk.injEq]
  have e1 : (ww * y + x) / ww = y := by rw [Nat.mul_add_div h1, Nat.div_eq_of_lt hx, Nat.add_zero]
  rw [e1, Nat.mod_eq_of_lt hy, Nat.mul_add_mod, Nat.mod_eq_of_lt hx]
  exact ⟨rfl, rfl⟩
def encP2 {ww hh : Nat} (x : PL ww hh) : Array Value := #[.int .i64 (x.1.1 : Int), .int .i64 (x.1.2 : Int)]
set_option maxRecDepth 100000 in
set_option maxHeartbeats 4000000 in
theorem places1_in (F : Fence) (n : Nat) (hfn : F.fn 133) (hro : F.round = none) (hn : 1 ≤ n) (l bh bw ww hh : Nat) (hw : 0 < ww) (hh0 : 0 < hh) (hw2 : ww ≤ 1000) (hh2 : hh ≤ 1000) (J Jx : List (PL ww hh) → World → Prop)
    (hY : ∀ pre x W, J pre W → pre.length < ww * hh → YieldAt F (n - 1) Tryd.prog l (encP2 x) W fun e W' =>
      (e = .returned (.bool true) ∧ J (pre ++ [x]) W' ∧ (W'.heap[bh]? = W.heap[bh]? ∧ W'.heap[bw]? = W.heap[bw]?)) ∨ (e = .returned (.bool false) ∧ Jx (pre ++ [x]) W'))
    (W : World) (hH : W.heap[bh]? = some (.cells #[.int .i64 (hh : Int)] 3)) (hW : W.heap[bw]? = some (.cells #[.int .i64 (ww : Int)] 3)) (h0 : J [] W) :
    CallsIn F n Tryd.prog 133 #[.func (.yield l) #[] #[], .pointer (some ⟨bh, 0, none⟩), .pointer (some ⟨bw, 0, none⟩)] W fun e W' => (∃ v, e = .returned v) ∧
      ((∃ ys, ys = uptoP ww hh hw hh0 (ww * hh) ∧ J ys W') ∨ (∃ pre, pre <+: uptoP ww hh hw hh0 (ww * hh) ∧ Jx pre W')) := by
  refine callsIn_of_wp Tryd.func133 rfl hfn ?_ hro
  simp only [Tryd.ntmps133, List.size_toArray, List.length_cons, List.length_nil, Nat.reduceAdd, Nat.reduceSub, Array.replicate_succ, Array.replicate_zero, List.push_toArray, List.append_toArray, List.nil_append, List.cons_append]
  have b0 := cell_of_at hH 0 rfl
  have z0 := (Array.getElem?_eq_some_iff.1 hH).1
  gi_wp2
  gi_loopw [7] (fun v7 wr => ∃ y : Nat, y ≤ hh ∧ v7 = .int .i64 (y : Int) ∧ J (uptoP ww hh hw hh0 (ww * y)) wr ∧ wr.heap[bh]? = some (.cells #[.int .i64 (hh : Int)] 3) ∧ wr.heap[bw]? = some (.cells #[.int .i64 (ww : Int)] 3)) (fun v7 _ => hh - (intOf v7).toNat)
  case atStart => exact ⟨0, by omega, rfl, h0, hH, hW⟩
  case round =>
    clear b0 z0
    obtain ⟨y, hy, rfl, hJ, hb, hc⟩ := hrel
    by_cases hlt : y < hh
    · have hlt' : (y : Int) < (hh : Int) := by omega
      have c0 := cell_of_at hc 0 rfl
      have z1 := (Array.getElem?_eq_some_iff.1 hc).1
      gi_wp2
      clear c0 z1
      gi_loopw [11] (fun v11 wr => ∃ x : Nat, x ≤ ww ∧ v11 = .int .i64 (x : Int) ∧ J (uptoP ww hh hw hh0 (ww * y + x)) wr ∧ wr.heap[bh]? = some (.cells #[.int .i64 (hh : Int)] 3) ∧ wr.heap[bw]? = some (.cells #[.int .i64 (ww : Int)] 3)) (fun v11 _ => ww - (intOf v11).toNat)
      case atStart => exact ⟨0, by omega, rfl, hJ, hb, hc⟩
      case round =>
        clear hJ hb hc
        obtain ⟨x, hx, rfl, hJ2, hb2, hc2⟩ := hrel
        by_cases hls : x < ww
        · have hls' : (x : Int) < (ww : Int) := by omega
          have HLT := Lib.hid (show ww * y + x < ww * hh from Nat.lt_of_lt_of_le (show ww * y + x < ww * (y + 1) by rw [Nat.mul_add]; omega) (Nat.mul_le_mul_left _ hlt))
          obtain ⟨fn, tmps, assign, body, hyy, hR⟩ := hY (uptoP ww hh hw hh0 (ww * y + x)) (plAt ww hh hw hh0 (ww * y + x)) wr hJ2 (by rw [uptoP_length]; exact HLT.out)
          unfold encP2 at hyy
          rw [plAt_at hw hh0 hls hlt] at hyy
          gi_wp2
          refine hR.mono ?_
          rintro e W3 (⟨rfl, hJ3, hk3, hk4⟩ | ⟨rfl, hJx3⟩)
          · gi_wp2
            go_roundw
            case rel => exact ⟨x + 1, by omega, by go_num, by rw [← Nat.add_assoc, uptoP_succ]; exact hJ3, hk3.trans hb2, hk4.trans hc2⟩
            case measure => show ww - ((x : Int) + 1).toNat < ww - (x : Int).toNat; omega
          · gi_wp2
            refine bodyPost_ret (results_none rfl _ _ _) rfl ?_
            exact ⟨⟨_, rfl⟩, .inr ⟨_, by rw [← uptoP_succ]; exact uptoP_prefix _ _ _ _ (by have := HLT.out; omega), hJx3⟩⟩
        · obtain rfl : x = ww := by omega
          have hls' : ¬ (x : Int) < (x : Int) := by omega
          gi_wp2
          go_roundw
          case rel => exact ⟨y + 1, by omega, by go_num, by rw [Nat.mul_add, Nat.mul_one]; exact hJ2, hb2, hc2⟩
          case measure => show hh - ((y : Int) + 1).toNat < hh - (y : Int).toNat; omega
    · obtain rfl : y = hh := by omega
      gi_wp2
      (first | go_end0 | refine bodyPost_ret (results_none rfl _ _ _) rfl ?_)
      exact ⟨⟨_, rfl⟩, .inl ⟨_, rfl, hJ⟩⟩
theorem places_stops (F : Fence) (n : Nat) (hfn : F.fn 133) (hro : F.round = none) (hn : 1 ≤ n) (bh bw ww hh : Nat) (hw : 0 < ww) (hh0 : 0 < hh) (hw2 : ww ≤ 1000) (hh2 : hh ≤ 1000) (w : World) (hH : w.heap[bh]? = some (.cells #[.int .i64 (hh : Int)] 3)) (hW : w.heap[bw]? = some (.cells #[.int .i64 (ww : Int)] 3)) :
    SeqStopsK F n Tryd.prog 133 #[.pointer (some ⟨bh, 0, none⟩), .pointer (some ⟨bw, 0, none⟩)] (encP2 (ww := ww) (hh := hh)) (fun W W' => W'.heap[bh]? = W.heap[bh]? ∧ W'.heap[bw]? = W.heap[bw]?) (fun ys => ys = uptoP ww hh hw hh0 (ww * hh)) (fun pre => pre <+: uptoP ww hh hw hh0 (ww * hh)) (ww * hh) w := fun l J Jx W hWW _ _ hY h0 =>
  places1_in F n hfn hro hn l bh bw ww hh hw hh0 hw2 hh2 J Jx hY W ((hWW.block bh (Array.getElem?_eq_some_iff.1 hH).1).trans hH) ((hWW.block bw (Array.getElem?_eq_some_iff.1 hW).1).trans hW) h0
set_option maxRecDepth 100000 in
theorem c_places (ww hh : Nat) (w : World) : Calls Tryd.prog 125 #[.int .i64 (ww : Int), .int .i64 (hh : Int)] w fun e w' => e = .returned (.func (.func 133) #[] #[.pointer (some ⟨w.heap.size + 1, 0, none⟩), .pointer (some ⟨w.heap.size, 0, none⟩)]) ∧ w' = (w.alloc (.cells #[.int .i64 (ww : Int)] 3)).alloc (.cells #[.int .i64 (hh : Int)] 3) := by
  go_enter Tryd.func125, Tryd.ntmps125
  go_wp2
  go_ret
  exact ⟨rfl, rfl⟩
end Go.Proofs.YtlnofbdhamingaaDoor
