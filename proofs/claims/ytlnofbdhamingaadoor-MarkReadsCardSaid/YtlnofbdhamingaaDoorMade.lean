/- 'made': an image of what a function gives for each place; the functions of 'Turn'. -/
import Derived.Test.YtlnofbdhamingaaDoorPlaces
import Derived.Test.YtlnofbdhamingaaDoorTailR
import Derived.Test.YtlnofbdhamingaaDoorCells
import Derived.Test.YtlnofbdhamingaaDoorAppendAt
import Derived.Laws.EntriesVeiled
set_option linter.unusedVariables false
set_option linter.unusedSimpArgs false
namespace Go.Proofs.YtlnofbdhamingaaDoor
open Go.RowKit Go.Sort
attribute [local go_sem] Oper.semAt_some

theorem info3i : (Tryd.prog.info? 3).map (fun i => (i.zero, i.size, i.bytes)) = some (some (.int .i64 0), 1, 8) := by kernel_rfl
theorem info_partsI {o : Option TypeInfo} {z : Option Value} {s b : Nat} (h : o.map (fun i => (i.zero, i.size, i.bytes)) = some (z, s, b)) : ∃ i, o = some i ∧ i.zero = z ∧ i.size = s ∧ i.bytes = b := by
  cases o with
  | none => simp at h
  | some i =>
    simp only [Option.map_some, Option.some.injEq, Prod.mk.injEq] at h
    exact ⟨i, rfl, h.1, h.2.1, h.2.2⟩
theorem heap_cellsC {W W' : World} {row : Option Nat} (hg : W.grownBy W' row) (hr : ∀ r, row = some r → ∃ o : Obj, W.heap[r]? = some o ∧ o.isCells = false) {k : Nat} {cs : Array Value} {e : TypeId} {fr : Nat × Nat} (h : W.heap[k]? = some (.cells cs e fr)) : W'.heap[k]? = some (.cells cs e fr) := by
  rw [hg.block k (Array.getElem?_eq_some_iff.1 h).1 ?_]
  · exact h
  · intro e'
    obtain ⟨o, ho, hc⟩ := hr k e'.symm
    rw [h] at ho
    cases ho
    cases hc
theorem owns_typeC {w : World} {base e sz n : Nat} {v : Value} {cs : List Value} (h : w.ownsRow base e sz v n cs) : ∀ g, v.ownBlock = some g → ∃ cur fr, w.heap[g]? = some (.cells cur e fr) := by
  obtain ⟨h1, h2⟩ := h
  intro g hg
  rcases h2 with ⟨rfl, _⟩ | ⟨g', cap, cur, rfl, hb, hh, _⟩
  · simp [Value.ownBlock] at hg
  · simp [Value.ownBlock] at hg
    subst hg
    exact ⟨_, _, hh⟩
theorem owns_loopC {W W' : World} {row : Option Nat} {base e sz n : Nat} {v : Value} {cs : List Value} (h : W.ownsRow base e sz v n cs) (hg : W.grownBy W' row) (hr : ∀ r, row = some r → ∃ o : Obj, W.heap[r]? = some o ∧ o.isCells = false) : W'.ownsRow base e sz v n cs :=
  owns_at h fun k hk => by
    obtain ⟨cur, fr, hc⟩ := owns_typeC h k hk
    rw [heap_cellsC hg hr hc, hc]
theorem At.loopC {W W' : World} {row : Option Nat} (hg : W.grownBy W' row) (hr : ∀ r, row = some r → ∃ o : Obj, W.heap[r]? = some o ∧ o.isCells = false) : ∀ {l : List (Nat × Obj)}, (l.all fun p => p.2.isCells) = true → At W l → At W' l
  | [], _, _ => trivial
  | (k, o) :: l, ha, h => by
    simp only [List.all_cons, Bool.and_eq_true] at ha
    refine ⟨?_, At.loopC hg hr ha.2 h.2⟩
    rw [hg.block k (Array.getElem?_eq_some_iff.1 h.1).1 ?_]
    · exact h.1
    · intro e'
      obtain ⟨o', ho, hc⟩ := hr k e'.symm
      rw [h.1] at ho
      cases ho
      rw [hc] at ha
      cases ha.1
def gridL (ww hh : Nat) (g : Nat → Nat → Int) : List Int := (List.range (ww * hh)).map fun k => g (k % ww) (k / ww % hh)
theorem uptoP_grid (ww hh : Nat) (hw : 0 < ww) (hh0 : 0 < hh) (g : Nat → Nat → Int) : (uptoP ww hh hw hh0 (ww * hh)).map (fun x => g x.1.1 x.1.2) = gridL ww hh g := by
  unfold uptoP gridL
  rw [List.map_map]
  rfl
def MadeIs (ww hh : Nat) (l : List Int) (w : World) (e : Ending) (w' : World) : Prop := ∃ v, e = .returned (.agg #[.int .i64 (ww : Int), .int .i64 (hh : Int), v]) ∧ w'.ownsRow w.heap.size 3 1 v l.length (ints l) ∧ Ext w w'
theorem c_into (n : Int) (w : World) (h1 : -2147483648 ≤ n) (h2 : n ≤ 2147483648) : Calls Tryd.prog 134 #[.int .i64 n, .int .i64 (-2147483648), .int .i64 2147483648] w fun e w' => e = .returned (.int .i64 n) ∧ Ext w w' := by
  obtain ⟨lo, hlo⟩ : ∃ lo : Int, lo = -2147483648 := ⟨_, rfl⟩
  obtain ⟨hi, hhi⟩ : ∃ hi : Int, hi = 2147483648 := ⟨_, rfl⟩
  have h3 : lo ≤ n := by omega
  have h4 : n ≤ hi := by omega
  rw [← hlo, ← hhi]
  have m1 : (if n < hi then n else hi) = n := by split <;> omega
  have m2 : (if hi < n then hi else n) = n := by split <;> omega
  have m3 : (if lo < n then n else lo) = n := by split <;> omega
  have m4 : (if n < lo then lo else n) = n := by split <;> omega
  have m5 : min n hi = n := by omega
  have m6 : max lo n = n := by omega
  clear hlo hhi
  go_enter Tryd.func134, Tryd.ntmps134
  go_wp2
  go_ret
  exact ⟨rfl, Ext.refl _⟩
theorem c_value (n : Int) (w : World) (h1 : -2147483648 ≤ n) (h2 : n ≤ 2147483648) : Calls Tryd.prog 126 #[.int .i64 n] w fun e w' => e = .returned (.int .i64 n) ∧ Ext w w' := by
  have K := Lib.hid (fun w' => c_into n w' h1 h2)
  go_enter Tryd.func126, Tryd.ntmps126
  go_wp2_with (go_at_call 134; (with_reducible refine (K.out _).mono ?_); rintro e w' ⟨rfl, hb⟩)
  go_ret
  exact ⟨rfl, hb⟩
set_option maxRecDepth 100000 in
set_option maxHeartbeats 8000000 in
theorem made_turn (BM ww hh : Nat) (hw : 0 < ww) (hh0 : 0 < hh) (hw2 : ww ≤ 16) (hh2 : hh ≤ 16) (g : Nat → Nat → Int) (hg : ∀ x y, x < ww → y < hh → -2147483648 ≤ g x y ∧ g x y ≤ 2147483648) (w : World)
    (hF : ∀ x y W, x < ww → y < hh → Ext w W → Calls Tryd.prog 107 #[.int .i64 (x : Int), .int .i64 (y : Int), .pointer (some ⟨BM, 0, none⟩)] W fun e W' => e = .returned (.int .i64 (g x y)) ∧ Ext W W') :
    Calls Tryd.prog 106 #[.int .i64 (ww : Int), .int .i64 (hh : Int), .func (.func 107) #[] #[.pointer (some ⟨BM, 0, none⟩)]] w (MadeIs ww hh (gridL ww hh g) w) := by
  obtain ⟨gP, hgP⟩ : ∃ gP : PL ww hh → Int, gP = fun x => g x.1.1 x.1.2 := ⟨_, rfl⟩
  have HGP := Lib.hid hgP
  have HF := Lib.hid hF
  have HG := Lib.hid hg
  obtain ⟨i3, hi3, hz3, hs3, hy3⟩ := info_partsI info3i
  have KP := Lib.hid (fun w' => c_places ww hh w')
  have hp1 : ww * hh ≤ 256 := Nat.mul_le_mul hw2 hh2
  have hp2 : (ww : Int) * (hh : Int) ≤ 256 := by rw [← Int.natCast_mul]; omega
  have hp3 : 0 ≤ (ww : Int) * (hh : Int) := by rw [← Int.natCast_mul]; omega
  have hp4 : 1 ≤ ww * hh := Nat.mul_le_mul hw hh0
  clear hF hg hgP
  refine (callsIn_wide (n := 6)).1 ?_
  refine callsIn_of_wp_marks Tryd.func106 rfl trivial ?_ rfl
  simp only [Tryd.ntmps106, List.size_toArray, List.length_cons, List.length_nil, Nat.reduceAdd, Nat.reduceSub, Array.replicate_succ, Array.replicate_zero, List.push_toArray, List.append_toArray, List.nil_append, List.cons_append]
  gi_wp2_with (first | (gi_at_make; refine wpListIn_make_own _ rfl _ _ 42 rfl (w.heap.size + 1 + 1) 3 i3 (.int .i64 0) 1 Tryd.underlying42 hi3 hz3 hs3 .i64 .i64 _ (ww * hh) rfl rfl (Int.natCast_mul ww hh).symm (by rw [hy3]; omega) (by unfold maxLen; omega) (by simp only [size_one]; omega) ?_; intro w1 ho1 hg1; have E1 := Lib.hid (show Ext w w1 from (((Ext.refl w).alloc _).alloc _).grownNone hg1); have A1 := Lib.hid (show At w1 [(w.heap.size + 1, Obj.cells #[.int .i64 0, .int .i64 0, .slice none 0 0] 44), (w.heap.size, Obj.cells #[.func (.func 107) #[] #[.pointer (some ⟨BM, 0, none⟩)]] 147)] from At.ext (ext_of_grownNone hg1) ⟨(by repeat (first | (refine blk_at _ _ ?_; (first | rfl | (simp only [size_one]; done))) | refine (blk_past _ _ (by simp only [size_one]; omega)).trans ?_)), (by repeat (first | (refine blk_at _ _ ?_; (first | rfl | (simp only [size_one]; done))) | refine (blk_past _ _ (by simp only [size_one]; omega)).trans ?_)), trivial⟩); have O1 := Lib.hid (show w1.ownsRow (w.heap.size + 1 + 1) 3 1 (Value.slice (some ⟨w.heap.size + 1 + 1, 0, none⟩) 0 (ww * hh)) 0 [] from by simpa only [size_one] using ho1); clear ho1 hg1) | (refine ⟨trivial, ?_⟩; gi_at_call 125; (with_reducible refine (callsIn_wide.2 (KP.out _)).mono ?_); rintro e w' ⟨rfl, rfl⟩))
  obtain ⟨MB, hMB⟩ : ∃ k, w1.heap.size = k := ⟨_, rfl⟩
  have hMw : w.heap.size + 1 + 1 < MB := by rw [← hMB]; exact (owns_block O1.out _ rfl).2
  have hs0 : ((((w1.alloc (.cells #[.int .i64 (ww : Int), .int .i64 (hh : Int), .slice (some ⟨w.heap.size + 1 + 1, 0, none⟩) 0 (ww * hh)] 44)).alloc (.cells #[.int .i64 (ww : Int)] 3)).alloc (.cells #[.int .i64 (hh : Int)] 3))).heap.size = MB + 3 := by simp only [size_one, hMB]
  have HA0 := Lib.hid (show At ((((w1.alloc (.cells #[.int .i64 (ww : Int), .int .i64 (hh : Int), .slice (some ⟨w.heap.size + 1 + 1, 0, none⟩) 0 (ww * hh)] 44)).alloc (.cells #[.int .i64 (ww : Int)] 3)).alloc (.cells #[.int .i64 (hh : Int)] 3))) [(MB + 1 + 1, Obj.cells #[.int .i64 (hh : Int)] 3), (MB + 1, Obj.cells #[.int .i64 (ww : Int)] 3), (MB, Obj.cells #[.int .i64 (ww : Int), .int .i64 (hh : Int), (.slice (some ⟨w.heap.size + 1 + 1, 0, none⟩) 0 (ww * hh))] 44), (w.heap.size + 1, Obj.cells #[.int .i64 0, .int .i64 0, .slice none 0 0] 44), (w.heap.size, Obj.cells #[.func (.func 107) #[] #[.pointer (some ⟨BM, 0, none⟩)]] 147)] from by
    rw [← hMB]
    exact ⟨(by repeat (first | (refine blk_at _ _ ?_; (first | rfl | (simp only [size_one]; done))) | refine (blk_past _ _ (by simp only [size_one]; omega)).trans ?_)), (by repeat (first | (refine blk_at _ _ ?_; (first | rfl | (simp only [size_one]; done))) | refine (blk_past _ _ (by simp only [size_one]; omega)).trans ?_)), (by repeat (first | (refine blk_at _ _ ?_; (first | rfl | (simp only [size_one]; done))) | refine (blk_past _ _ (by simp only [size_one]; omega)).trans ?_)), At.alloc (At.alloc (At.alloc A1.out _) _) _⟩)
  have E0 := Lib.hid (show Ext w ((((w1.alloc (.cells #[.int .i64 (ww : Int), .int .i64 (hh : Int), .slice (some ⟨w.heap.size + 1 + 1, 0, none⟩) 0 (ww * hh)] 44)).alloc (.cells #[.int .i64 (ww : Int)] 3)).alloc (.cells #[.int .i64 (hh : Int)] 3))) from ((E1.out.alloc _).alloc _).alloc _)
  have O0 := Lib.hid (owns_ext O1.out (show Ext w1 ((((w1.alloc (.cells #[.int .i64 (ww : Int), .int .i64 (hh : Int), .slice (some ⟨w.heap.size + 1 + 1, 0, none⟩) 0 (ww * hh)] 44)).alloc (.cells #[.int .i64 (ww : Int)] 3)).alloc (.cells #[.int .i64 (hh : Int)] 3))) from (((Ext.refl _).alloc _).alloc _).alloc _))
  rw [hMB]
  obtain ⟨W0, hW0⟩ : ∃ W0, ((((w1.alloc (.cells #[.int .i64 (ww : Int), .int .i64 (hh : Int), .slice (some ⟨w.heap.size + 1 + 1, 0, none⟩) 0 (ww * hh)] 44)).alloc (.cells #[.int .i64 (ww : Int)] 3)).alloc (.cells #[.int .i64 (hh : Int)] 3))) = W0 := ⟨_, rfl⟩
  rw [hW0] at HA0 hs0 E0 O0 ⊢
  clear hW0 hMB
  refine wpIn_rangeFunc_ownG rfl (by omega) (gf := 133) (lb := #[.pointer (some ⟨MB + 1 + 1, 0, none⟩), .pointer (some ⟨MB + 1, 0, none⟩)]) rfl trivial (enters_of Tryd.func133 (by kernel_rfl) rfl)
    (places_stops Fence.wide (6 - 1) trivial rfl (by omega) (MB + 1 + 1) (MB + 1) ww hh hw hh0 (by omega) (by omega) W0 HA0.out.1 HA0.out.2.1) (fun h k => ⟨k.1.trans h.1, k.2.trans h.2⟩) (fun W l o o' hl _ _ _ => ⟨World.putObj_heap_other (by omega), World.putObj_heap_other (by omega)⟩) (Below.refl _ _) (fun _ => rfl)
    (fun pre W => ∃ sa cp, Ext w W ∧ At W [(MB + 1 + 1, Obj.cells #[.int .i64 (hh : Int)] 3), (MB + 1, Obj.cells #[.int .i64 (ww : Int)] 3), (MB, Obj.cells #[.int .i64 (ww : Int), .int .i64 (hh : Int), (Value.slice sa pre.length cp)] 44), (w.heap.size + 1, Obj.cells #[.int .i64 0, .int .i64 0, .slice none 0 0] 44), (w.heap.size, Obj.cells #[.func (.func 107) #[] #[.pointer (some ⟨BM, 0, none⟩)]] 147)] ∧ W.ownsRow (w.heap.size + 1 + 1) 3 1 (Value.slice sa pre.length cp) pre.length (ints (pre.map gP)) ∧ ∀ k, (Value.slice sa pre.length cp).ownBlock = some k → k ≠ MB ∧ k ≠ MB + 1 ∧ k ≠ MB + 2)
    (fun _ _ _ => False)
    (fun pre W W' row hs hg hr => by
      obtain ⟨sa, cp, h1, h2, h3, h4⟩ := hs
      exact ⟨sa, cp, h1.grown hg fun r e => by have := (hr r e).1; omega, At.loopC hg (fun r e => (hr r e).2) rfl h2, owns_loopC h3 hg fun r e => (hr r e).2, h4⟩)
    (fun _ _ _ _ _ hs _ _ => hs)
    ⟨_, _, E0.out, HA0.out, O0.out, fun k hk => (have h9 : w.heap.size + 1 + 1 = k := (by simpa [Value.ownBlock] using hk); (by omega))⟩ ?aact ?assign ?body ?done ?stop
  case assign =>
    intro l x W K hK
    unfold encP2
    gi_wp2
    exact hK
  case body =>
    rintro l pre ⟨⟨x, y⟩, hx, hy⟩ W ⟨sa, cp, hE, hA, hO, hNE⟩ hlt
    dsimp only at hx hy ⊢
    have HE := Lib.hid hE
    have HA := Lib.hid hA
    have HO := Lib.hid hO
    have HNE := Lib.hid hNE
    obtain ⟨b1, b2⟩ := HG.out x y hx hy
    obtain ⟨r, hr⟩ : ∃ r, g x y = r := ⟨_, rfl⟩
    have KF := Lib.hid (fun W2 hE2 => HF.out x y W2 hx hy hE2)
    rw [hr] at KF b1 b2
    have KV := Lib.hid (fun w' => c_value r w' b1 b2)
    have hpl : pre.length ≤ 256 := by omega
    have HR := Lib.hid (show r = gP ⟨(x, y), hx, hy⟩ from by rw [HGP.out, ← hr])
    have hz := At.lt hA 2 rfl
    have hMW := hE.size
    clear hE hA hO hNE hr
    gi_wp2
    refine RG.any_round (by kernel_rfl) (by kernel_rfl) ?_
    have hEd := (Ext.refl W).drew
    obtain ⟨q00, qf00⟩ := run_1 (At.at HA.out 0 rfl)
    obtain ⟨q10, qf10⟩ := run_1 (At.at HA.out 1 rfl)
    obtain ⟨⟨q20, q21, q22⟩, qf20, qf21, qf22⟩ := run_3 (At.at HA.out 2 rfl)
    obtain ⟨⟨q30, q31, q32⟩, qf30, qf31, qf32⟩ := run_3 (At.at HA.out 3 rfl)
    obtain ⟨q40, qf40⟩ := run_1 (At.at HA.out 4 rfl)
    have qz0 := At.lt HA.out 0 rfl
    have qy0 := Nat.lt_succ_of_lt qz0
    have qx0 := Nat.lt_succ_of_lt qy0
    have qz1 := At.lt HA.out 1 rfl
    have qy1 := Nat.lt_succ_of_lt qz1
    have qx1 := Nat.lt_succ_of_lt qy1
    have qz2 := At.lt HA.out 2 rfl
    have qy2 := Nat.lt_succ_of_lt qz2
    have qx2 := Nat.lt_succ_of_lt qy2
    have qz3 := At.lt HA.out 3 rfl
    have qy3 := Nat.lt_succ_of_lt qz3
    have qx3 := Nat.lt_succ_of_lt qy3
    have qz4 := At.lt HA.out 4 rfl
    have qy4 := Nat.lt_succ_of_lt qz4
    have qx4 := Nat.lt_succ_of_lt qy4
    refine wpAny_take (i := 0) (v := .pointer (some ⟨MB, 2, none⟩)) rfl (by kernel_rfl) (by kernel_rfl) (by kernel_rfl) (fun _ _ _ h => h) (Or.inl ⟨by rfl, (by intro w; go_simp)⟩) ?_
    refine wpAny_take (i := 3) (v := .int .i64 (x : Int)) rfl (by kernel_rfl) (by kernel_rfl) (by kernel_rfl) (fun _ _ _ h => h) (Or.inl ⟨by rfl, (by intro w; go_simp)⟩) ?_
    refine wpAny_take (i := 4) (v := .int .i64 (y : Int)) rfl (by kernel_rfl) (by kernel_rfl) (by kernel_rfl) (fun _ _ _ h => h) (Or.inl ⟨by rfl, (by intro w; go_simp)⟩) ?_
    refine wpAny_ready (rs := [1, 2]) (by kernel_rfl) (by simp) (AllReady.cons rfl (fun K hK => ?_) (AllReady.cons rfl (fun K hK => ?_) (AllReady.nil)))
    · go_simp
      (try (refine hK _ _ ?_; clear hK K))
      refine wpAny_ready (rs := [2]) (by kernel_rfl) (by simp) (AllReady.cons rfl (fun K hK => ?_) AllReady.nil)
      go_simp
      (try (refine hK _ _ ?_; clear hK K))
      refine wpAny_ready (rs := [5]) (by kernel_rfl) (by simp) (AllReady.cons rfl (fun K hK => ?_) AllReady.nil)
      go_simp
      go_wp2_with (go_at_call 107; (with_reducible refine (KF.out _ HE.out.drew).mono ?_); rintro E w1 ⟨rfl, hb1⟩; have X1 := Lib.hid (hEd.trans hb1); have B1 := Lib.hid (At.ext X1.out HA.out); obtain ⟨u00, uf00⟩ := run_1 (At.at B1.out 0 rfl); obtain ⟨u10, uf10⟩ := run_1 (At.at B1.out 1 rfl); obtain ⟨⟨u20, u21, u22⟩, uf20, uf21, uf22⟩ := run_3 (At.at B1.out 2 rfl); obtain ⟨⟨u30, u31, u32⟩, uf30, uf31, uf32⟩ := run_3 (At.at B1.out 3 rfl); obtain ⟨u40, uf40⟩ := run_1 (At.at B1.out 4 rfl); have uz0 := At.lt B1.out 0 rfl; have uy0 := Nat.lt_succ_of_lt uz0; have ux0 := Nat.lt_succ_of_lt uy0; have uz1 := At.lt B1.out 1 rfl; have uy1 := Nat.lt_succ_of_lt uz1; have ux1 := Nat.lt_succ_of_lt uy1; have uz2 := At.lt B1.out 2 rfl; have uy2 := Nat.lt_succ_of_lt uz2; have ux2 := Nat.lt_succ_of_lt uy2; have uz3 := At.lt B1.out 3 rfl; have uy3 := Nat.lt_succ_of_lt uz3; have ux3 := Nat.lt_succ_of_lt uy3; have uz4 := At.lt B1.out 4 rfl; have uy4 := Nat.lt_succ_of_lt uz4; have ux4 := Nat.lt_succ_of_lt uy4)
      (try (refine hK _ _ ?_; clear hK K))
      refine wpAny_ready (rs := [6]) (by kernel_rfl) (by simp) (AllReady.cons rfl (fun K hK => ?_) AllReady.nil)
      go_simp
      go_wp2_with (go_at_call 126; (with_reducible refine (KV.out _).mono ?_); rintro E w2 ⟨rfl, hb2⟩; have hX2 := Lib.hid (X1.out.trans hb2); have B2 := Lib.hid (At.ext hX2.out HA.out); obtain ⟨v00, vf00⟩ := run_1 (At.at B2.out 0 rfl); obtain ⟨v10, vf10⟩ := run_1 (At.at B2.out 1 rfl); obtain ⟨⟨v20, v21, v22⟩, vf20, vf21, vf22⟩ := run_3 (At.at B2.out 2 rfl); obtain ⟨⟨v30, v31, v32⟩, vf30, vf31, vf32⟩ := run_3 (At.at B2.out 3 rfl); obtain ⟨v40, vf40⟩ := run_1 (At.at B2.out 4 rfl); have vz0 := At.lt B2.out 0 rfl; have vy0 := Nat.lt_succ_of_lt vz0; have vx0 := Nat.lt_succ_of_lt vy0; have vz1 := At.lt B2.out 1 rfl; have vy1 := Nat.lt_succ_of_lt vz1; have vx1 := Nat.lt_succ_of_lt vy1; have vz2 := At.lt B2.out 2 rfl; have vy2 := Nat.lt_succ_of_lt vz2; have vx2 := Nat.lt_succ_of_lt vy2; have vz3 := At.lt B2.out 3 rfl; have vy3 := Nat.lt_succ_of_lt vz3; have vx3 := Nat.lt_succ_of_lt vy3; have vz4 := At.lt B2.out 4 rfl; have vy4 := Nat.lt_succ_of_lt vz4; have vx4 := Nat.lt_succ_of_lt vy4)
      (try (refine hK _ _ ?_; clear hK K))
      refine wpAny_ready (rs := [7]) (by kernel_rfl) (by simp) (AllReady.cons rfl (fun K hK => ?_) AllReady.nil)
      go_simp
      (try (refine hK _ _ ?_; clear hK K))
      have hEt : Ext W w2 := hX2.out
      have hts := hEt.size
      have hAt := Lib.hid (At.ext hEt HA.out)
      refine wpAny_ready (rs := [8]) (by kernel_rfl) (by simp) (AllReady.cons rfl (fun K hK => ?_) AllReady.nil)
      (refine wp_append_at (.tmp 23) (.tmp 29) 42 rfl (w.heap.size + 1 + 1) 3 i3 (.int .i64 0) 1 8 Tryd.underlying42 hi3 hz3 hs3 hy3 rfl (by omega) (Value.slice sa pre.length cp) pre.length (ints (pre.map gP)) rfl (owns_ext (owns_ext HO.out hEt) ((Ext.refl _).alloc _)) _ 1 [.int .i64 r] rfl (SlAt.lit_at _ _ rfl [.int .i64 r] 3 1 rfl) (by intro u hu; rw [List.mem_singleton.1 hu]; rfl) (by unfold maxLen; omega) (by omega) (by simp; omega) ?_; intro va w8 ho hg hat; obtain ⟨-, sa8, sc8, hv8, -⟩ := SlAt.of_owns ho; subst hv8; have A8 := Lib.hid (show At w8 [(MB + 1 + 1, Obj.cells #[.int .i64 (hh : Int)] 3), (MB + 1, Obj.cells #[.int .i64 (ww : Int)] 3), (MB, Obj.cells #[.int .i64 (ww : Int), .int .i64 (hh : Int), (Value.slice sa pre.length cp)] 44), (w.heap.size + 1, Obj.cells #[.int .i64 0, .int .i64 0, .slice none 0 0] 44), (w.heap.size, Obj.cells #[.func (.func 107) #[] #[.pointer (some ⟨BM, 0, none⟩)]] 147)] from At.grown hg (At.alloc (At.ext hEt HA.out) _) (by intro k9 hk9 h9; have h7 := owns_block HO.out _ h9; have h8 := HNE.out _ h9; simp only [List.map_cons, List.map_nil, List.mem_cons, List.not_mem_nil, or_false] at hk9; rcases hk9 with rfl | rfl | rfl | rfl | rfl <;> omega)); have O8 := Lib.hid ho; have G8 := Lib.hid hg; have T8 := Lib.hid hat; clear ho hg hat; obtain ⟨v00, vf00⟩ := run_1 (At.at A8.out 0 rfl); obtain ⟨v10, vf10⟩ := run_1 (At.at A8.out 1 rfl); obtain ⟨⟨v20, v21, v22⟩, vf20, vf21, vf22⟩ := run_3 (At.at A8.out 2 rfl); obtain ⟨⟨v30, v31, v32⟩, vf30, vf31, vf32⟩ := run_3 (At.at A8.out 3 rfl); obtain ⟨v40, vf40⟩ := run_1 (At.at A8.out 4 rfl); have vz0 := At.lt A8.out 0 rfl; have vy0 := Nat.lt_succ_of_lt vz0; have vx0 := Nat.lt_succ_of_lt vy0; have vz1 := At.lt A8.out 1 rfl; have vy1 := Nat.lt_succ_of_lt vz1; have vx1 := Nat.lt_succ_of_lt vy1; have vz2 := At.lt A8.out 2 rfl; have vy2 := Nat.lt_succ_of_lt vz2; have vx2 := Nat.lt_succ_of_lt vy2; have vz3 := At.lt A8.out 3 rfl; have vy3 := Nat.lt_succ_of_lt vz3; have vx3 := Nat.lt_succ_of_lt vy3; have vz4 := At.lt A8.out 4 rfl; have vy4 := Nat.lt_succ_of_lt vz4; have vx4 := Nat.lt_succ_of_lt vy4)
      refine hK _ _ ?_
      clear hK K
      refine wpAny_ready (rs := [9]) (by kernel_rfl) (by simp) ?_
      refine AllReady.cons rfl (fun K hK => ?_) AllReady.nil
      go_simp
      (try (refine hK _ _ ?_; clear hK K))
      refine wpAny_ready (rs := [10]) (by kernel_rfl) (by simp) ?_
      refine AllReady.cons rfl (fun K hK => ?_) AllReady.nil
      go_simp
      (try (refine hK _ _ ?_; clear hK K))
      refine wpAny_done (by kernel_rfl) ?_ _
      refine ⟨⟨⟨?_, ?_⟩, ?_, ?_⟩, by simp⟩
      · have := G8.out.size; simp at this ⊢; omega
      · intro k o hk ho hc
        have hkl := (Array.getElem?_eq_some_iff.1 ho).1
        have e1 := hEt.blk ho
        have n1 : k ≠ MB := fun e => by
          rw [e, At.at HA.out 2 rfl] at ho
          cases ho
          cases hc
        rw [set_at _ _ _ _ k n1, G8.out.block k (by simp; omega) (fun e => by
          obtain ⟨cur, fr, h9⟩ := owns_typeC (owns_ext HO.out hEt) k e.symm
          rw [e1] at h9
          cases h9
          cases hc)]
        exact (blk_past _ _ (by omega)).trans e1
      · constructor
        · rw [set_at _ _ _ _ _ (by omega), A8.out.1, HA.out.1]
        · rw [set_at _ _ _ _ _ (by omega), A8.out.2.1, HA.out.2.1]
      · refine ⟨sa8, sc8, ((HE.out.trans hEt).alloc _ |>.grown G8.out (fun k hk => by have := (owns_block HO.out _ hk).1; omega)).setCell (p := ⟨MB, 2, none⟩) (show w.heap.size ≤ MB by omega) _, ?_, ?_, ?_⟩
        · rw [List.length_append, List.length_singleton]
          exact ⟨(set_at _ _ _ _ _ (by omega)).trans A8.out.1, (set_at _ _ _ _ _ (by omega)).trans A8.out.2.1, (st_one (At.at A8.out 2 rfl) 2 _).1, At.other (set_at _ MB 2 _) (by simp; omega) A8.out.2.2.2⟩
        · rw [List.length_append, List.length_singleton, List.map_append]
          have h9 := O8.out
          rw [HR.out] at h9
          refine owns_at (by unfold ints at h9 ⊢; rw [List.map_append]; exact h9) fun k hk => set_at _ _ _ _ k ?_
          rcases T8.out with h8 | h8
          · exact (HNE.out k (h8 ▸ hk)).1
          · try rw [List.length_append, List.length_singleton] at hk
            rw [hk] at h8
            injection h8 with h8
            simp at h8
            omega
        · intro k hk
          try rw [List.length_append, List.length_singleton] at hk
          rcases T8.out with h8 | h8
          · exact HNE.out k (h8 ▸ hk)
          · rw [hk] at h8
            injection h8 with h8
            have h7 := At.lt HA.out 0 rfl
            simp at h8
            omega
    · go_simp
      (try (refine hK _ _ ?_; clear hK K))
      refine wpAny_ready (rs := [1, 5]) (by kernel_rfl) (by simp) (AllReady.cons rfl (fun K hK => ?_) (AllReady.cons rfl (fun K hK => ?_) (AllReady.nil)))
      · go_simp
        (try (refine hK _ _ ?_; clear hK K))
        refine wpAny_ready (rs := [5]) (by kernel_rfl) (by simp) (AllReady.cons rfl (fun K hK => ?_) AllReady.nil)
        go_simp
        go_wp2_with (go_at_call 107; (with_reducible refine (KF.out _ HE.out.drew).mono ?_); rintro E w1 ⟨rfl, hb1⟩; have X1 := Lib.hid (hEd.trans hb1); have B1 := Lib.hid (At.ext X1.out HA.out); obtain ⟨u00, uf00⟩ := run_1 (At.at B1.out 0 rfl); obtain ⟨u10, uf10⟩ := run_1 (At.at B1.out 1 rfl); obtain ⟨⟨u20, u21, u22⟩, uf20, uf21, uf22⟩ := run_3 (At.at B1.out 2 rfl); obtain ⟨⟨u30, u31, u32⟩, uf30, uf31, uf32⟩ := run_3 (At.at B1.out 3 rfl); obtain ⟨u40, uf40⟩ := run_1 (At.at B1.out 4 rfl); have uz0 := At.lt B1.out 0 rfl; have uy0 := Nat.lt_succ_of_lt uz0; have ux0 := Nat.lt_succ_of_lt uy0; have uz1 := At.lt B1.out 1 rfl; have uy1 := Nat.lt_succ_of_lt uz1; have ux1 := Nat.lt_succ_of_lt uy1; have uz2 := At.lt B1.out 2 rfl; have uy2 := Nat.lt_succ_of_lt uz2; have ux2 := Nat.lt_succ_of_lt uy2; have uz3 := At.lt B1.out 3 rfl; have uy3 := Nat.lt_succ_of_lt uz3; have ux3 := Nat.lt_succ_of_lt uy3; have uz4 := At.lt B1.out 4 rfl; have uy4 := Nat.lt_succ_of_lt uz4; have ux4 := Nat.lt_succ_of_lt uy4)
        (try (refine hK _ _ ?_; clear hK K))
        refine wpAny_ready (rs := [6]) (by kernel_rfl) (by simp) (AllReady.cons rfl (fun K hK => ?_) AllReady.nil)
        go_simp
        go_wp2_with (go_at_call 126; (with_reducible refine (KV.out _).mono ?_); rintro E w2 ⟨rfl, hb2⟩; have hX2 := Lib.hid (X1.out.trans hb2); have B2 := Lib.hid (At.ext hX2.out HA.out); obtain ⟨v00, vf00⟩ := run_1 (At.at B2.out 0 rfl); obtain ⟨v10, vf10⟩ := run_1 (At.at B2.out 1 rfl); obtain ⟨⟨v20, v21, v22⟩, vf20, vf21, vf22⟩ := run_3 (At.at B2.out 2 rfl); obtain ⟨⟨v30, v31, v32⟩, vf30, vf31, vf32⟩ := run_3 (At.at B2.out 3 rfl); obtain ⟨v40, vf40⟩ := run_1 (At.at B2.out 4 rfl); have vz0 := At.lt B2.out 0 rfl; have vy0 := Nat.lt_succ_of_lt vz0; have vx0 := Nat.lt_succ_of_lt vy0; have vz1 := At.lt B2.out 1 rfl; have vy1 := Nat.lt_succ_of_lt vz1; have vx1 := Nat.lt_succ_of_lt vy1; have vz2 := At.lt B2.out 2 rfl; have vy2 := Nat.lt_succ_of_lt vz2; have vx2 := Nat.lt_succ_of_lt vy2; have vz3 := At.lt B2.out 3 rfl; have vy3 := Nat.lt_succ_of_lt vz3; have vx3 := Nat.lt_succ_of_lt vy3; have vz4 := At.lt B2.out 4 rfl; have vy4 := Nat.lt_succ_of_lt vz4; have vx4 := Nat.lt_succ_of_lt vy4)
        (try (refine hK _ _ ?_; clear hK K))
        refine wpAny_ready (rs := [7]) (by kernel_rfl) (by simp) (AllReady.cons rfl (fun K hK => ?_) AllReady.nil)
        go_simp
        (try (refine hK _ _ ?_; clear hK K))
        have hEt : Ext W w2 := hX2.out
        have hts := hEt.size
        have hAt := Lib.hid (At.ext hEt HA.out)
        refine wpAny_ready (rs := [8]) (by kernel_rfl) (by simp) (AllReady.cons rfl (fun K hK => ?_) AllReady.nil)
        (refine wp_append_at (.tmp 23) (.tmp 29) 42 rfl (w.heap.size + 1 + 1) 3 i3 (.int .i64 0) 1 8 Tryd.underlying42 hi3 hz3 hs3 hy3 rfl (by omega) (Value.slice sa pre.length cp) pre.length (ints (pre.map gP)) rfl (owns_ext (owns_ext HO.out hEt) ((Ext.refl _).alloc _)) _ 1 [.int .i64 r] rfl (SlAt.lit_at _ _ rfl [.int .i64 r] 3 1 rfl) (by intro u hu; rw [List.mem_singleton.1 hu]; rfl) (by unfold maxLen; omega) (by omega) (by simp; omega) ?_; intro va w8 ho hg hat; obtain ⟨-, sa8, sc8, hv8, -⟩ := SlAt.of_owns ho; subst hv8; have A8 := Lib.hid (show At w8 [(MB + 1 + 1, Obj.cells #[.int .i64 (hh : Int)] 3), (MB + 1, Obj.cells #[.int .i64 (ww : Int)] 3), (MB, Obj.cells #[.int .i64 (ww : Int), .int .i64 (hh : Int), (Value.slice sa pre.length cp)] 44), (w.heap.size + 1, Obj.cells #[.int .i64 0, .int .i64 0, .slice none 0 0] 44), (w.heap.size, Obj.cells #[.func (.func 107) #[] #[.pointer (some ⟨BM, 0, none⟩)]] 147)] from At.grown hg (At.alloc (At.ext hEt HA.out) _) (by intro k9 hk9 h9; have h7 := owns_block HO.out _ h9; have h8 := HNE.out _ h9; simp only [List.map_cons, List.map_nil, List.mem_cons, List.not_mem_nil, or_false] at hk9; rcases hk9 with rfl | rfl | rfl | rfl | rfl <;> omega)); have O8 := Lib.hid ho; have G8 := Lib.hid hg; have T8 := Lib.hid hat; clear ho hg hat; obtain ⟨v00, vf00⟩ := run_1 (At.at A8.out 0 rfl); obtain ⟨v10, vf10⟩ := run_1 (At.at A8.out 1 rfl); obtain ⟨⟨v20, v21, v22⟩, vf20, vf21, vf22⟩ := run_3 (At.at A8.out 2 rfl); obtain ⟨⟨v30, v31, v32⟩, vf30, vf31, vf32⟩ := run_3 (At.at A8.out 3 rfl); obtain ⟨v40, vf40⟩ := run_1 (At.at A8.out 4 rfl); have vz0 := At.lt A8.out 0 rfl; have vy0 := Nat.lt_succ_of_lt vz0; have vx0 := Nat.lt_succ_of_lt vy0; have vz1 := At.lt A8.out 1 rfl; have vy1 := Nat.lt_succ_of_lt vz1; have vx1 := Nat.lt_succ_of_lt vy1; have vz2 := At.lt A8.out 2 rfl; have vy2 := Nat.lt_succ_of_lt vz2; have vx2 := Nat.lt_succ_of_lt vy2; have vz3 := At.lt A8.out 3 rfl; have vy3 := Nat.lt_succ_of_lt vz3; have vx3 := Nat.lt_succ_of_lt vy3; have vz4 := At.lt A8.out 4 rfl; have vy4 := Nat.lt_succ_of_lt vz4; have vx4 := Nat.lt_succ_of_lt vy4)
        refine hK _ _ ?_
        clear hK K
        refine wpAny_ready (rs := [9]) (by kernel_rfl) (by simp) ?_
        refine AllReady.cons rfl (fun K hK => ?_) AllReady.nil
        go_simp
        (try (refine hK _ _ ?_; clear hK K))
        refine wpAny_ready (rs := [10]) (by kernel_rfl) (by simp) ?_
        refine AllReady.cons rfl (fun K hK => ?_) AllReady.nil
        go_simp
        (try (refine hK _ _ ?_; clear hK K))
        refine wpAny_done (by kernel_rfl) ?_ _
        refine ⟨⟨⟨?_, ?_⟩, ?_, ?_⟩, by simp⟩
        · have := G8.out.size; simp at this ⊢; omega
        · intro k o hk ho hc
          have hkl := (Array.getElem?_eq_some_iff.1 ho).1
          have e1 := hEt.blk ho
          have n1 : k ≠ MB := fun e => by
            rw [e, At.at HA.out 2 rfl] at ho
            cases ho
            cases hc
          rw [set_at _ _ _ _ k n1, G8.out.block k (by simp; omega) (fun e => by
            obtain ⟨cur, fr, h9⟩ := owns_typeC (owns_ext HO.out hEt) k e.symm
            rw [e1] at h9
            cases h9
            cases hc)]
          exact (blk_past _ _ (by omega)).trans e1
        · constructor
          · rw [set_at _ _ _ _ _ (by omega), A8.out.1, HA.out.1]
          · rw [set_at _ _ _ _ _ (by omega), A8.out.2.1, HA.out.2.1]
        · refine ⟨sa8, sc8, ((HE.out.trans hEt).alloc _ |>.grown G8.out (fun k hk => by have := (owns_block HO.out _ hk).1; omega)).setCell (p := ⟨MB, 2, none⟩) (show w.heap.size ≤ MB by omega) _, ?_, ?_, ?_⟩
          · rw [List.length_append, List.length_singleton]
            exact ⟨(set_at _ _ _ _ _ (by omega)).trans A8.out.1, (set_at _ _ _ _ _ (by omega)).trans A8.out.2.1, (st_one (At.at A8.out 2 rfl) 2 _).1, At.other (set_at _ MB 2 _) (by simp; omega) A8.out.2.2.2⟩
          · rw [List.length_append, List.length_singleton, List.map_append]
            have h9 := O8.out
            rw [HR.out] at h9
            refine owns_at (by unfold ints at h9 ⊢; rw [List.map_append]; exact h9) fun k hk => set_at _ _ _ _ k ?_
            rcases T8.out with h8 | h8
            · exact (HNE.out k (h8 ▸ hk)).1
            · try rw [List.length_append, List.length_singleton] at hk
              rw [hk] at h8
              injection h8 with h8
              simp at h8
              omega
          · intro k hk
            try rw [List.length_append, List.length_singleton] at hk
            rcases T8.out with h8 | h8
            · exact HNE.out k (h8 ▸ hk)
            · rw [hk] at h8
              injection h8 with h8
              have h7 := At.lt HA.out 0 rfl
              simp at h8
              omega
      · go_simp
        go_wp2_with (go_at_call 107; (with_reducible refine (KF.out _ HE.out.drew).mono ?_); rintro E w1 ⟨rfl, hb1⟩; have X1 := Lib.hid (hEd.trans hb1); have B1 := Lib.hid (At.ext X1.out HA.out); obtain ⟨u00, uf00⟩ := run_1 (At.at B1.out 0 rfl); obtain ⟨u10, uf10⟩ := run_1 (At.at B1.out 1 rfl); obtain ⟨⟨u20, u21, u22⟩, uf20, uf21, uf22⟩ := run_3 (At.at B1.out 2 rfl); obtain ⟨⟨u30, u31, u32⟩, uf30, uf31, uf32⟩ := run_3 (At.at B1.out 3 rfl); obtain ⟨u40, uf40⟩ := run_1 (At.at B1.out 4 rfl); have uz0 := At.lt B1.out 0 rfl; have uy0 := Nat.lt_succ_of_lt uz0; have ux0 := Nat.lt_succ_of_lt uy0; have uz1 := At.lt B1.out 1 rfl; have uy1 := Nat.lt_succ_of_lt uz1; have ux1 := Nat.lt_succ_of_lt uy1; have uz2 := At.lt B1.out 2 rfl; have uy2 := Nat.lt_succ_of_lt uz2; have ux2 := Nat.lt_succ_of_lt uy2; have uz3 := At.lt B1.out 3 rfl; have uy3 := Nat.lt_succ_of_lt uz3; have ux3 := Nat.lt_succ_of_lt uy3; have uz4 := At.lt B1.out 4 rfl; have uy4 := Nat.lt_succ_of_lt uz4; have ux4 := Nat.lt_succ_of_lt uy4)
        (try (refine hK _ _ ?_; clear hK K))
        refine wpAny_ready (rs := [1, 6]) (by kernel_rfl) (by simp) (AllReady.cons rfl (fun K hK => ?_) (AllReady.cons rfl (fun K hK => ?_) (AllReady.nil)))
        · go_simp
          (try (refine hK _ _ ?_; clear hK K))
          refine wpAny_ready (rs := [6]) (by kernel_rfl) (by simp) (AllReady.cons rfl (fun K hK => ?_) AllReady.nil)
          go_simp
          go_wp2_with (go_at_call 126; (with_reducible refine (KV.out _).mono ?_); rintro E w2 ⟨rfl, hb2⟩; have hX2 := Lib.hid (X1.out.trans hb2); have B2 := Lib.hid (At.ext hX2.out HA.out); obtain ⟨v00, vf00⟩ := run_1 (At.at B2.out 0 rfl); obtain ⟨v10, vf10⟩ := run_1 (At.at B2.out 1 rfl); obtain ⟨⟨v20, v21, v22⟩, vf20, vf21, vf22⟩ := run_3 (At.at B2.out 2 rfl); obtain ⟨⟨v30, v31, v32⟩, vf30, vf31, vf32⟩ := run_3 (At.at B2.out 3 rfl); obtain ⟨v40, vf40⟩ := run_1 (At.at B2.out 4 rfl); have vz0 := At.lt B2.out 0 rfl; have vy0 := Nat.lt_succ_of_lt vz0; have vx0 := Nat.lt_succ_of_lt vy0; have vz1 := At.lt B2.out 1 rfl; have vy1 := Nat.lt_succ_of_lt vz1; have vx1 := Nat.lt_succ_of_lt vy1; have vz2 := At.lt B2.out 2 rfl; have vy2 := Nat.lt_succ_of_lt vz2; have vx2 := Nat.lt_succ_of_lt vy2; have vz3 := At.lt B2.out 3 rfl; have vy3 := Nat.lt_succ_of_lt vz3; have vx3 := Nat.lt_succ_of_lt vy3; have vz4 := At.lt B2.out 4 rfl; have vy4 := Nat.lt_succ_of_lt vz4; have vx4 := Nat.lt_succ_of_lt vy4)
          (try (refine hK _ _ ?_; clear hK K))
          refine wpAny_ready (rs := [7]) (by kernel_rfl) (by simp) (AllReady.cons rfl (fun K hK => ?_) AllReady.nil)
          go_simp
          (try (refine hK _ _ ?_; clear hK K))
          have hEt : Ext W w2 := hX2.out
          have hts := hEt.size
          have hAt := Lib.hid (At.ext hEt HA.out)
          refine wpAny_ready (rs := [8]) (by kernel_rfl) (by simp) (AllReady.cons rfl (fun K hK => ?_) AllReady.nil)
          (refine wp_append_at (.tmp 23) (.tmp 29) 42 rfl (w.heap.size + 1 + 1) 3 i3 (.int .i64 0) 1 8 Tryd.underlying42 hi3 hz3 hs3 hy3 rfl (by omega) (Value.slice sa pre.length cp) pre.length (ints (pre.map gP)) rfl (owns_ext (owns_ext HO.out hEt) ((Ext.refl _).alloc _)) _ 1 [.int .i64 r] rfl (SlAt.lit_at _ _ rfl [.int .i64 r] 3 1 rfl) (by intro u hu; rw [List.mem_singleton.1 hu]; rfl) (by unfold maxLen; omega) (by omega) (by simp; omega) ?_; intro va w8 ho hg hat; obtain ⟨-, sa8, sc8, hv8, -⟩ := SlAt.of_owns ho; subst hv8; have A8 := Lib.hid (show At w8 [(MB + 1 + 1, Obj.cells #[.int .i64 (hh : Int)] 3), (MB + 1, Obj.cells #[.int .i64 (ww : Int)] 3), (MB, Obj.cells #[.int .i64 (ww : Int), .int .i64 (hh : Int), (Value.slice sa pre.length cp)] 44), (w.heap.size + 1, Obj.cells #[.int .i64 0, .int .i64 0, .slice none 0 0] 44), (w.heap.size, Obj.cells #[.func (.func 107) #[] #[.pointer (some ⟨BM, 0, none⟩)]] 147)] from At.grown hg (At.alloc (At.ext hEt HA.out) _) (by intro k9 hk9 h9; have h7 := owns_block HO.out _ h9; have h8 := HNE.out _ h9; simp only [List.map_cons, List.map_nil, List.mem_cons, List.not_mem_nil, or_false] at hk9; rcases hk9 with rfl | rfl | rfl | rfl | rfl <;> omega)); have O8 := Lib.hid ho; have G8 := Lib.hid hg; have T8 := Lib.hid hat; clear ho hg hat; obtain ⟨v00, vf00⟩ := run_1 (At.at A8.out 0 rfl); obtain ⟨v10, vf10⟩ := run_1 (At.at A8.out 1 rfl); obtain ⟨⟨v20, v21, v22⟩, vf20, vf21, vf22⟩ := run_3 (At.at A8.out 2 rfl); obtain ⟨⟨v30, v31, v32⟩, vf30, vf31, vf32⟩ := run_3 (At.at A8.out 3 rfl); obtain ⟨v40, vf40⟩ := run_1 (At.at A8.out 4 rfl); have vz0 := At.lt A8.out 0 rfl; have vy0 := Nat.lt_succ_of_lt vz0; have vx0 := Nat.lt_succ_of_lt vy0; have vz1 := At.lt A8.out 1 rfl; have vy1 := Nat.lt_succ_of_lt vz1; have vx1 := Nat.lt_succ_of_lt vy1; have vz2 := At.lt A8.out 2 rfl; have vy2 := Nat.lt_succ_of_lt vz2; have vx2 := Nat.lt_succ_of_lt vy2; have vz3 := At.lt A8.out 3 rfl; have vy3 := Nat.lt_succ_of_lt vz3; have vx3 := Nat.lt_succ_of_lt vy3; have vz4 := At.lt A8.out 4 rfl; have vy4 := Nat.lt_succ_of_lt vz4; have vx4 := Nat.lt_succ_of_lt vy4)
          refine hK _ _ ?_
          clear hK K
          refine wpAny_ready (rs := [9]) (by kernel_rfl) (by simp) ?_
          refine AllReady.cons rfl (fun K hK => ?_) AllReady.nil
          go_simp
          (try (refine hK _ _ ?_; clear hK K))
          refine wpAny_ready (rs := [10]) (by kernel_rfl) (by simp) ?_
          refine AllReady.cons rfl (fun K hK => ?_) AllReady.nil
          go_simp
          (try (refine hK _ _ ?_; clear hK K))
          refine wpAny_done (by kernel_rfl) ?_ _
          refine ⟨⟨⟨?_, ?_⟩, ?_, ?_⟩, by simp⟩
          · have := G8.out.size; simp at this ⊢; omega
          · intro k o hk ho hc
            have hkl := (Array.getElem?_eq_some_iff.1 ho).1
            have e1 := hEt.blk ho
            have n1 : k ≠ MB := fun e => by
              rw [e, At.at HA.out 2 rfl] at ho
              cases ho
              cases hc
            rw [set_at _ _ _ _ k n1, G8.out.block k (by simp; omega) (fun e => by
              obtain ⟨cur, fr, h9⟩ := owns_typeC (owns_ext HO.out hEt) k e.symm
              rw [e1] at h9
              cases h9
              cases hc)]
            exact (blk_past _ _ (by omega)).trans e1
          · constructor
            · rw [set_at _ _ _ _ _ (by omega), A8.out.1, HA.out.1]
            · rw [set_at _ _ _ _ _ (by omega), A8.out.2.1, HA.out.2.1]
          · refine ⟨sa8, sc8, ((HE.out.trans hEt).alloc _ |>.grown G8.out (fun k hk => by have := (owns_block HO.out _ hk).1; omega)).setCell (p := ⟨MB, 2, none⟩) (show w.heap.size ≤ MB by omega) _, ?_, ?_, ?_⟩
            · rw [List.length_append, List.length_singleton]
              exact ⟨(set_at _ _ _ _ _ (by omega)).trans A8.out.1, (set_at _ _ _ _ _ (by omega)).trans A8.out.2.1, (st_one (At.at A8.out 2 rfl) 2 _).1, At.other (set_at _ MB 2 _) (by simp; omega) A8.out.2.2.2⟩
            · rw [List.length_append, List.length_singleton, List.map_append]
              have h9 := O8.out
              rw [HR.out] at h9
              refine owns_at (by unfold ints at h9 ⊢; rw [List.map_append]; exact h9) fun k hk => set_at _ _ _ _ k ?_
              rcases T8.out with h8 | h8
              · exact (HNE.out k (h8 ▸ hk)).1
              · try rw [List.length_append, List.length_singleton] at hk
                rw [hk] at h8
                injection h8 with h8
                simp at h8
                omega
            · intro k hk
              try rw [List.length_append, List.length_singleton] at hk
              rcases T8.out with h8 | h8
              · exact HNE.out k (h8 ▸ hk)
              · rw [hk] at h8
                injection h8 with h8
                have h7 := At.lt HA.out 0 rfl
                simp at h8
                omega
        · go_simp
          go_wp2_with (go_at_call 126; (with_reducible refine (KV.out _).mono ?_); rintro E w2 ⟨rfl, hb2⟩; have hX2 := Lib.hid (X1.out.trans hb2); have B2 := Lib.hid (At.ext hX2.out HA.out); obtain ⟨v00, vf00⟩ := run_1 (At.at B2.out 0 rfl); obtain ⟨v10, vf10⟩ := run_1 (At.at B2.out 1 rfl); obtain ⟨⟨v20, v21, v22⟩, vf20, vf21, vf22⟩ := run_3 (At.at B2.out 2 rfl); obtain ⟨⟨v30, v31, v32⟩, vf30, vf31, vf32⟩ := run_3 (At.at B2.out 3 rfl); obtain ⟨v40, vf40⟩ := run_1 (At.at B2.out 4 rfl); have vz0 := At.lt B2.out 0 rfl; have vy0 := Nat.lt_succ_of_lt vz0; have vx0 := Nat.lt_succ_of_lt vy0; have vz1 := At.lt B2.out 1 rfl; have vy1 := Nat.lt_succ_of_lt vz1; have vx1 := Nat.lt_succ_of_lt vy1; have vz2 := At.lt B2.out 2 rfl; have vy2 := Nat.lt_succ_of_lt vz2; have vx2 := Nat.lt_succ_of_lt vy2; have vz3 := At.lt B2.out 3 rfl; have vy3 := Nat.lt_succ_of_lt vz3; have vx3 := Nat.lt_succ_of_lt vy3; have vz4 := At.lt B2.out 4 rfl; have vy4 := Nat.lt_succ_of_lt vz4; have vx4 := Nat.lt_succ_of_lt vy4)
          (try (refine hK _ _ ?_; clear hK K))
          refine wpAny_ready (rs := [1, 7]) (by kernel_rfl) (by simp) (AllReady.cons rfl (fun K hK => ?_) (AllReady.cons rfl (fun K hK => ?_) (AllReady.nil)))
          · go_simp
            (try (refine hK _ _ ?_; clear hK K))
            refine wpAny_ready (rs := [7]) (by kernel_rfl) (by simp) (AllReady.cons rfl (fun K hK => ?_) AllReady.nil)
            go_simp
            (try (refine hK _ _ ?_; clear hK K))
            have hEt : Ext W w2 := hX2.out
            have hts := hEt.size
            have hAt := Lib.hid (At.ext hEt HA.out)
            refine wpAny_ready (rs := [8]) (by kernel_rfl) (by simp) (AllReady.cons rfl (fun K hK => ?_) AllReady.nil)
            (refine wp_append_at (.tmp 23) (.tmp 29) 42 rfl (w.heap.size + 1 + 1) 3 i3 (.int .i64 0) 1 8 Tryd.underlying42 hi3 hz3 hs3 hy3 rfl (by omega) (Value.slice sa pre.length cp) pre.length (ints (pre.map gP)) rfl (owns_ext (owns_ext HO.out hEt) ((Ext.refl _).alloc _)) _ 1 [.int .i64 r] rfl (SlAt.lit_at _ _ rfl [.int .i64 r] 3 1 rfl) (by intro u hu; rw [List.mem_singleton.1 hu]; rfl) (by unfold maxLen; omega) (by omega) (by simp; omega) ?_; intro va w8 ho hg hat; obtain ⟨-, sa8, sc8, hv8, -⟩ := SlAt.of_owns ho; subst hv8; have A8 := Lib.hid (show At w8 [(MB + 1 + 1, Obj.cells #[.int .i64 (hh : Int)] 3), (MB + 1, Obj.cells #[.int .i64 (ww : Int)] 3), (MB, Obj.cells #[.int .i64 (ww : Int), .int .i64 (hh : Int), (Value.slice sa pre.length cp)] 44), (w.heap.size + 1, Obj.cells #[.int .i64 0, .int .i64 0, .slice none 0 0] 44), (w.heap.size, Obj.cells #[.func (.func 107) #[] #[.pointer (some ⟨BM, 0, none⟩)]] 147)] from At.grown hg (At.alloc (At.ext hEt HA.out) _) (by intro k9 hk9 h9; have h7 := owns_block HO.out _ h9; have h8 := HNE.out _ h9; simp only [List.map_cons, List.map_nil, List.mem_cons, List.not_mem_nil, or_false] at hk9; rcases hk9 with rfl | rfl | rfl | rfl | rfl <;> omega)); have O8 := Lib.hid ho; have G8 := Lib.hid hg; have T8 := Lib.hid hat; clear ho hg hat; obtain ⟨v00, vf00⟩ := run_1 (At.at A8.out 0 rfl); obtain ⟨v10, vf10⟩ := run_1 (At.at A8.out 1 rfl); obtain ⟨⟨v20, v21, v22⟩, vf20, vf21, vf22⟩ := run_3 (At.at A8.out 2 rfl); obtain ⟨⟨v30, v31, v32⟩, vf30, vf31, vf32⟩ := run_3 (At.at A8.out 3 rfl); obtain ⟨v40, vf40⟩ := run_1 (At.at A8.out 4 rfl); have vz0 := At.lt A8.out 0 rfl; have vy0 := Nat.lt_succ_of_lt vz0; have vx0 := Nat.lt_succ_of_lt vy0; have vz1 := At.lt A8.out 1 rfl; have vy1 := Nat.lt_succ_of_lt vz1; have vx1 := Nat.lt_succ_of_lt vy1; have vz2 := At.lt A8.out 2 rfl; have vy2 := Nat.lt_succ_of_lt vz2; have vx2 := Nat.lt_succ_of_lt vy2; have vz3 := At.lt A8.out 3 rfl; have vy3 := Nat.lt_succ_of_lt vz3; have vx3 := Nat.lt_succ_of_lt vy3; have vz4 := At.lt A8.out 4 rfl; have vy4 := Nat.lt_succ_of_lt vz4; have vx4 := Nat.lt_succ_of_lt vy4)
            refine hK _ _ ?_
            clear hK K
            refine wpAny_ready (rs := [9]) (by kernel_rfl) (by simp) ?_
            refine AllReady.cons rfl (fun K hK => ?_) AllReady.nil
            go_simp
            (try (refine hK _ _ ?_; clear hK K))
            refine wpAny_ready (rs := [10]) (by kernel_rfl) (by simp) ?_
            refine AllReady.cons rfl (fun K hK => ?_) AllReady.nil
            go_simp
            (try (refine hK _ _ ?_; clear hK K))
            refine wpAny_done (by kernel_rfl) ?_ _
            refine ⟨⟨⟨?_, ?_⟩, ?_, ?_⟩, by simp⟩
            · have := G8.out.size; simp at this ⊢; omega
            · intro k o hk ho hc
              have hkl := (Array.getElem?_eq_some_iff.1 ho).1
              have e1 := hEt.blk ho
              have n1 : k ≠ MB := fun e => by
                rw [e, At.at HA.out 2 rfl] at ho
                cases ho
                cases hc
              rw [set_at _ _ _ _ k n1, G8.out.block k (by simp; omega) (fun e => by
                obtain ⟨cur, fr, h9⟩ := owns_typeC (owns_ext HO.out hEt) k e.symm
                rw [e1] at h9
                cases h9
                cases hc)]
              exact (blk_past _ _ (by omega)).trans e1
            · constructor
              · rw [set_at _ _ _ _ _ (by omega), A8.out.1, HA.out.1]
              · rw [set_at _ _ _ _ _ (by omega), A8.out.2.1, HA.out.2.1]
            · refine ⟨sa8, sc8, ((HE.out.trans hEt).alloc _ |>.grown G8.out (fun k hk => by have := (owns_block HO.out _ hk).1; omega)).setCell (p := ⟨MB, 2, none⟩) (show w.heap.size ≤ MB by omega) _, ?_, ?_, ?_⟩
              · rw [List.length_append, List.length_singleton]
                exact ⟨(set_at _ _ _ _ _ (by omega)).trans A8.out.1, (set_at _ _ _ _ _ (by omega)).trans A8.out.2.1, (st_one (At.at A8.out 2 rfl) 2 _).1, At.other (set_at _ MB 2 _) (by simp; omega) A8.out.2.2.2⟩
              · rw [List.length_append, List.length_singleton, List.map_append]
                have h9 := O8.out
                rw [HR.out] at h9
                refine owns_at (by unfold ints at h9 ⊢; rw [List.map_append]; exact h9) fun k hk => set_at _ _ _ _ k ?_
                rcases T8.out with h8 | h8
                · exact (HNE.out k (h8 ▸ hk)).1
                · try rw [List.length_append, List.length_singleton] at hk
                  rw [hk] at h8
                  injection h8 with h8
                  simp at h8
                  omega
              · intro k hk
                try rw [List.length_append, List.length_singleton] at hk
                rcases T8.out with h8 | h8
                · exact HNE.out k (h8 ▸ hk)
                · rw [hk] at h8
                  injection h8 with h8
                  have h7 := At.lt HA.out 0 rfl
                  simp at h8
                  omega
          · go_simp
            (try (refine hK _ _ ?_; clear hK K))
            refine wpAny_ready (rs := [1]) (by kernel_rfl) (by simp) (AllReady.cons rfl (fun K hK => ?_) AllReady.nil)
            go_simp
            (try (refine hK _ _ ?_; clear hK K))
            have hEt : Ext W w2 := hX2.out
            have hts := hEt.size
            have hAt := Lib.hid (At.ext hEt HA.out)
            refine wpAny_ready (rs := [8]) (by kernel_rfl) (by simp) (AllReady.cons rfl (fun K hK => ?_) AllReady.nil)
            (refine wp_append_at (.tmp 23) (.tmp 29) 42 rfl (w.heap.size + 1 + 1) 3 i3 (.int .i64 0) 1 8 Tryd.underlying42 hi3 hz3 hs3 hy3 rfl (by omega) (Value.slice sa pre.length cp) pre.length (ints (pre.map gP)) rfl (owns_ext (owns_ext HO.out hEt) ((Ext.refl _).alloc _)) _ 1 [.int .i64 r] rfl (SlAt.lit_at _ _ rfl [.int .i64 r] 3 1 rfl) (by intro u hu; rw [List.mem_singleton.1 hu]; rfl) (by unfold maxLen; omega) (by omega) (by simp; omega) ?_; intro va w8 ho hg hat; obtain ⟨-, sa8, sc8, hv8, -⟩ := SlAt.of_owns ho; subst hv8; have A8 := Lib.hid (show At w8 [(MB + 1 + 1, Obj.cells #[.int .i64 (hh : Int)] 3), (MB + 1, Obj.cells #[.int .i64 (ww : Int)] 3), (MB, Obj.cells #[.int .i64 (ww : Int), .int .i64 (hh : Int), (Value.slice sa pre.length cp)] 44), (w.heap.size + 1, Obj.cells #[.int .i64 0, .int .i64 0, .slice none 0 0] 44), (w.heap.size, Obj.cells #[.func (.func 107) #[] #[.pointer (some ⟨BM, 0, none⟩)]] 147)] from At.grown hg (At.alloc (At.ext hEt HA.out) _) (by intro k9 hk9 h9; have h7 := owns_block HO.out _ h9; have h8 := HNE.out _ h9; simp only [List.map_cons, List.map_nil, List.mem_cons, List.not_mem_nil, or_false] at hk9; rcases hk9 with rfl | rfl | rfl | rfl | rfl <;> omega)); have O8 := Lib.hid ho; have G8 := Lib.hid hg; have T8 := Lib.hid hat; clear ho hg hat; obtain ⟨v00, vf00⟩ := run_1 (At.at A8.out 0 rfl); obtain ⟨v10, vf10⟩ := run_1 (At.at A8.out 1 rfl); obtain ⟨⟨v20, v21, v22⟩, vf20, vf21, vf22⟩ := run_3 (At.at A8.out 2 rfl); obtain ⟨⟨v30, v31, v32⟩, vf30, vf31, vf32⟩ := run_3 (At.at A8.out 3 rfl); obtain ⟨v40, vf40⟩ := run_1 (At.at A8.out 4 rfl); have vz0 := At.lt A8.out 0 rfl; have vy0 := Nat.lt_succ_of_lt vz0; have vx0 := Nat.lt_succ_of_lt vy0; have vz1 := At.lt A8.out 1 rfl; have vy1 := Nat.lt_succ_of_lt vz1; have vx1 := Nat.lt_succ_of_lt vy1; have vz2 := At.lt A8.out 2 rfl; have vy2 := Nat.lt_succ_of_lt vz2; have vx2 := Nat.lt_succ_of_lt vy2; have vz3 := At.lt A8.out 3 rfl; have vy3 := Nat.lt_succ_of_lt vz3; have vx3 := Nat.lt_succ_of_lt vy3; have vz4 := At.lt A8.out 4 rfl; have vy4 := Nat.lt_succ_of_lt vz4; have vx4 := Nat.lt_succ_of_lt vy4)
            refine hK _ _ ?_
            clear hK K
            refine wpAny_ready (rs := [9]) (by kernel_rfl) (by simp) ?_
            refine AllReady.cons rfl (fun K hK => ?_) AllReady.nil
            go_simp
            (try (refine hK _ _ ?_; clear hK K))
            refine wpAny_ready (rs := [10]) (by kernel_rfl) (by simp) ?_
            refine AllReady.cons rfl (fun K hK => ?_) AllReady.nil
            go_simp
            (try (refine hK _ _ ?_; clear hK K))
            refine wpAny_done (by kernel_rfl) ?_ _
            refine ⟨⟨⟨?_, ?_⟩, ?_, ?_⟩, by simp⟩
            · have := G8.out.size; simp at this ⊢; omega
            · intro k o hk ho hc
              have hkl := (Array.getElem?_eq_some_iff.1 ho).1
              have e1 := hEt.blk ho
              have n1 : k ≠ MB := fun e => by
                rw [e, At.at HA.out 2 rfl] at ho
                cases ho
                cases hc
              rw [set_at _ _ _ _ k n1, G8.out.block k (by simp; omega) (fun e => by
                obtain ⟨cur, fr, h9⟩ := owns_typeC (owns_ext HO.out hEt) k e.symm
                rw [e1] at h9
                cases h9
                cases hc)]
              exact (blk_past _ _ (by omega)).trans e1
            · constructor
              · rw [set_at _ _ _ _ _ (by omega), A8.out.1, HA.out.1]
              · rw [set_at _ _ _ _ _ (by omega), A8.out.2.1, HA.out.2.1]
            · refine ⟨sa8, sc8, ((HE.out.trans hEt).alloc _ |>.grown G8.out (fun k hk => by have := (owns_block HO.out _ hk).1; omega)).setCell (p := ⟨MB, 2, none⟩) (show w.heap.size ≤ MB by omega) _, ?_, ?_, ?_⟩
              · rw [List.length_append, List.length_singleton]
                exact ⟨(set_at _ _ _ _ _ (by omega)).trans A8.out.1, (set_at _ _ _ _ _ (by omega)).trans A8.out.2.1, (st_one (At.at A8.out 2 rfl) 2 _).1, At.other (set_at _ MB 2 _) (by simp; omega) A8.out.2.2.2⟩
              · rw [List.length_append, List.length_singleton, List.map_append]
                have h9 := O8.out
                rw [HR.out] at h9
                refine owns_at (by unfold ints at h9 ⊢; rw [List.map_append]; exact h9) fun k hk => set_at _ _ _ _ k ?_
                rcases T8.out with h8 | h8
                · exact (HNE.out k (h8 ▸ hk)).1
                · try rw [List.length_append, List.length_singleton] at hk
                  rw [hk] at h8
                  injection h8 with h8
                  simp at h8
                  omega
              · intro k hk
                try rw [List.length_append, List.length_singleton] at hk
                rcases T8.out with h8 | h8
                · exact HNE.out k (h8 ▸ hk)
                · rw [hk] at h8
                  injection h8 with h8
                  have h7 := At.lt HA.out 0 rfl
                  simp at h8
                  omega
  case done =>
    rintro D xs W hD rfl ⟨sa, cp, hE, hA, hO, hNE⟩ hK
    obtain ⟨e00, ef00⟩ := run_1 (At.at hA 0 rfl)
    obtain ⟨e10, ef10⟩ := run_1 (At.at hA 1 rfl)
    obtain ⟨⟨e20, e21, e22⟩, ef20, ef21, ef22⟩ := run_3 (At.at hA 2 rfl)
    obtain ⟨⟨e30, e31, e32⟩, ef30, ef31, ef32⟩ := run_3 (At.at hA 3 rfl)
    obtain ⟨e40, ef40⟩ := run_1 (At.at hA 4 rfl)
    have ez0 := At.lt hA 0 rfl
    have ey0 := Nat.lt_succ_of_lt ez0
    have ex0 := Nat.lt_succ_of_lt ey0
    have ez1 := At.lt hA 1 rfl
    have ey1 := Nat.lt_succ_of_lt ez1
    have ex1 := Nat.lt_succ_of_lt ey1
    have ez2 := At.lt hA 2 rfl
    have ey2 := Nat.lt_succ_of_lt ez2
    have ex2 := Nat.lt_succ_of_lt ey2
    have ez3 := At.lt hA 3 rfl
    have ey3 := Nat.lt_succ_of_lt ez3
    have ex3 := Nat.lt_succ_of_lt ey3
    have ez4 := At.lt hA 4 rfl
    have ey4 := Nat.lt_succ_of_lt ez4
    have ex4 := Nat.lt_succ_of_lt ey4
    have HE := Lib.hid hE
    have HA := Lib.hid hA
    have HO := Lib.hid hO
    have HNE := Lib.hid hNE
    clear hE hA hO hNE
    gi_wp2
    have st := store_3 (v0 := .int .i64 (ww : Int)) (v1 := .int .i64 (hh : Int)) (v2 := .slice sa (uptoP ww hh hw hh0 (ww * hh)).length cp) (At.at HA.out 3 rfl)
    obtain ⟨WS, hWS⟩ : ∃ WS, (((W.setCell ⟨w.heap.size + 1, 0, none⟩ (.int .i64 (ww : Int))).setCell ⟨w.heap.size + 1, 1, none⟩ (.int .i64 (hh : Int))).setCell ⟨w.heap.size + 1, 2, none⟩ (.slice sa (uptoP ww hh hw hh0 (ww * hh)).length cp)) = WS := ⟨_, rfl⟩
    have hK2 : WS.heap[D]? = some (.deferred (some [])) := by rw [← hWS]; exact (((KeepsOthers.setCell _ _ _).trans (KeepsOthers.setCell _ _ _)).trans (KeepsOthers.setCell _ _ _)).same D _ hK rfl
    rw [hWS] at st ⊢
    have hgD := grownBy_putObj' WS D (.deferred none)
    have hrD : ∀ r, some D = some r → ∃ o : Obj, WS.heap[r]? = some o ∧ o.isCells = false := fun r e => by cases e; exact ⟨_, hK2, rfl⟩
    have hOS : WS.ownsRow (w.heap.size + 1 + 1) 3 1 (.slice sa (uptoP ww hh hw hh0 (ww * hh)).length cp) (uptoP ww hh hw hh0 (ww * hh)).length (ints ((uptoP ww hh hw hh0 (ww * hh)).map gP)) := by
      rw [← hWS]
      exact own_set (own_set (own_set HO.out (by omega)) (by omega)) (by omega)
    refine ⟨by simp, .inl ⟨_, _, rfl, run_takeDeferred hK2, ?_⟩⟩
    refine ⟨_, results_row1 rfl _ _ _ _ _ (0, 0) _ rfl (heap_cellsC hgD hrD st.1) Tryd.underlying44 rfl (by kernel_rfl), ?_⟩
    refine ⟨_, rfl, ?_, (st.2.2 w (by omega) HE.out).grown hgD fun r e => by cases e; omega⟩
    have h9 := owns_loopC hOS hgD hrD
    have e9 : (uptoP ww hh hw hh0 (ww * hh)).map gP = gridL ww hh g := by
      rw [HGP.out]
      exact uptoP_grid ww hh hw hh0 g
    rw [e9] at h9
    have h8 : (uptoP ww hh hw hh0 (ww * hh)).length = (gridL ww hh g).length := by rw [uptoP_length]; simp [gridL]
    rw [h8] at h9 ⊢
    exact owns_base h9 (by omega)
  case stop =>
    rintro D c pre W _ _ h _
    exact h.elim
end Go.Proofs.YtlnofbdhamingaaDoor
