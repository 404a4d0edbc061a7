/- The closure that counts the poses of an area: the walk. -/
import Derived.Test.YtipkjdfnoonpcaaMapPose
import Derived.Deep.RegionHeld3
import Derived.Deep.DrawnRows
set_option linter.unusedVariables false
set_option linter.unusedSimpArgs false
namespace Go.Proofs.Ytipkjdfnoonpcaa
open Go.RowKit Go.Sort
attribute [local go_sem ↓] Go.wp_at_zero Go.wp_at_succ

/-- the poses of an area that are counted: rows from the first to before y, and in row y columns before x -/
def Part (a : Area) (y x : Int) (p : Pose) : Prop := (a.turn = p.turn ∧ a.scale = p.scale) ∧ (((a.x0 ≤ p.x ∧ p.x ≤ a.x1) ∧ a.y0 ≤ p.y ∧ p.y < y) ∨ (p.y = y ∧ a.x0 ≤ p.x ∧ p.x < x))
instance partDec (a : Area) (y x : Int) (p : Pose) : Decidable (Part a y x p) := by unfold Part; infer_instance
theorem part_not (a : Area) (x y : Int) : ¬ Part a y x ⟨x, y, a.turn, a.scale⟩ := by
  rintro ⟨-, h | h⟩
  · have := h.2.2; dsimp only at this; omega
  · have := h.2.2; dsimp only at this; omega
theorem part_start (a : Area) (f : Pose → Nat) : (fun p => f p + if Part a a.y0 a.x0 p then 1 else 0) = f := by
  funext p
  rw [if_neg]
  · rfl
  · rintro ⟨-, h | h⟩ <;> omega
theorem part_step {a : Area} {f : Pose → Nat} {x y : Int} (h1 : a.x0 ≤ x) (h2 : x ≤ a.x1) : (fun q => (fun p => f p + if Part a y x p then 1 else 0) q + if q = ⟨x, y, a.turn, a.scale⟩ then 1 else 0) = fun p => f p + if Part a y (x + 1) p then 1 else 0 := by
  funext q
  dsimp only
  by_cases e : q = ⟨x, y, a.turn, a.scale⟩
  · subst e
    rw [if_neg (part_not a x y), if_pos rfl, if_pos]
    exact ⟨⟨rfl, rfl⟩, .inr ⟨rfl, h1, by dsimp only; omega⟩⟩
  · rw [if_neg e, Nat.add_zero]
    by_cases g : Part a y x q
    · rw [if_pos g, if_pos]
      obtain ⟨g1, g2 | g2⟩ := g
      · exact ⟨g1, .inl g2⟩
      · exact ⟨g1, .inr ⟨g2.1, g2.2.1, by omega⟩⟩
    · rw [if_neg g, if_neg]
      rintro ⟨⟨g1, g2⟩, g3 | g3⟩
      · exact g ⟨⟨g1, g2⟩, .inl g3⟩
      · obtain ⟨q0, q1, q2, q3⟩ := q
        dsimp only at g1 g2 g3
        obtain ⟨k1, k2, k3⟩ := g3
        by_cases k : q0 < x
        · exact g ⟨⟨g1, g2⟩, .inr ⟨k1, k2, k⟩⟩
        · exact e (by rw [← g1, ← g2, k1, show q0 = x by omega])
theorem ite_iff {p q : Prop} [Decidable p] [Decidable q] (h : p ↔ q) : (if p then 1 else 0 : Nat) = if q then 1 else 0 := by
  by_cases k : p
  · rw [if_pos k, if_pos (h.1 k)]
  · rw [if_neg k, if_neg fun k' => k (h.2 k')]
theorem part_row {a : Area} {f : Pose → Nat} {x y : Int} (h0 : a.y0 ≤ y) (h1 : a.x1 < x) (h2 : x ≤ a.x1 + 1) : (fun p => f p + if Part a y x p then 1 else 0) = fun p => f p + if Part a (y + 1) a.x0 p then 1 else 0 := by
  funext q
  congr 1
  refine ite_iff ⟨?_, ?_⟩
  · rintro ⟨g1, g2 | g2⟩
    · exact ⟨g1, .inl ⟨g2.1, g2.2.1, by omega⟩⟩
    · exact ⟨g1, .inl ⟨⟨g2.2.1, by omega⟩, by omega, by omega⟩⟩
  · rintro ⟨g1, g2 | g2⟩
    · by_cases k : q.y < y
      · exact ⟨g1, .inl ⟨g2.1, g2.2.1, k⟩⟩
      · exact ⟨g1, .inr ⟨by omega, g2.1.1, by omega⟩⟩
    · omega
theorem part_end {a : Area} {f : Pose → Nat} {y : Int} (h1 : a.y1 < y) (h2 : y ≤ a.y1 + 1) : (fun p => f p + if Part a y a.x0 p then 1 else 0) = fun p => f p + if a.Has p then 1 else 0 := by
  funext q
  congr 1
  refine ite_iff ⟨?_, ?_⟩
  · rintro ⟨g1, g2 | g2⟩
    · exact ⟨g1, g2.1, g2.2.1, by omega⟩
    · omega
  · rintro ⟨g1, g2, g3⟩
    exact ⟨g1, .inl ⟨g2, g3.1, by omega⟩⟩
theorem grownBy_drew (w : World) (row : Option Nat) : w.grownBy w.drew row := ⟨rfl, rfl, rfl, Nat.le_refl _, fun _ _ _ => rfl⟩
theorem CovAt.mono {w : World} {b n n' : Nat} {f : Pose → Nat} (h : CovAt w b n f) (hn : n ≤ n') : CovAt w b n' f := by
  obtain ⟨D, h1, h2⟩ := h
  exact ⟨D, h1.mono hn, h2⟩
theorem Ext.toGrown {w w' : World} (h : Ext w w') (row : Option Nat) : w.grownBy w' row := ⟨h.os, h.tape, h.output, h.size, fun k hk _ => h.block k hk⟩
theorem CovAt.ext {w w' : World} {b n : Nat} {f : Pose → Nat} (h : CovAt w b n f) (hE : Ext w w') : CovAt w' b n f := h.block (hE.block b h.lt)
set_option maxRecDepth 100000 in
set_option maxHeartbeats 16000000 in
theorem c100 (m : Img) (v : Value) (t : Tpl) (tv : Value) (a : Area) (w0 w : World) (b n N BC BT BM : Nat) (f : Pose → Nat) (hm : m.Camera) (ht : t.Ok) (hv : IntsAt w0 v m.pix) (htv : IntsAt w0 tv t.pix) (ha : a.Ok m) (hE : Ext w0 w) (hb : w0.heap.size ≤ b)
    (hC : CovAt w b n f) (hA : At w [(BC, Obj.cells #[.map (some b)] 142), (BT, Obj.cells #[.int .i64 t.w, .int .i64 t.h, tv] 43), (BM, Obj.cells #[.int .i64 m.w, .int .i64 m.h, v] 24)]) (hne : b ≠ BC ∧ b ≠ BT ∧ b ≠ BM) (hn : n ≤ 1000000000) (hf : ∀ p, f p ≤ N) (hN : N ≤ 100000) :
    Calls Try.prog 100 #[areaVal a, .pointer (some ⟨BC, 0, none⟩), .pointer (some ⟨BT, 0, none⟩), .pointer (some ⟨BM, 0, none⟩)] w fun e w' => e = .returned (.int .i64 (bound m t a)) ∧ CovAt w' b (n + 256) (fun p => f p + if a.Has p then 1 else 0) ∧ w.grownBy w' (some b) := by
  have HV := Lib.hid hv
  have HTV := Lib.hid htv
  have HM := Lib.hid hm
  have HT := Lib.hid ht
  have HA := Lib.hid ha
  obtain ⟨mo, mc, rfl, -, -⟩ := hv.form
  obtain ⟨to, tc, rfl, -, -⟩ := htv.form
  obtain ⟨⟨a1, a2, a3⟩, ⟨a4, a5, a6⟩, ⟨⟨a7, a8⟩, a9, a10⟩⟩ := ha
  obtain ⟨⟨w1, w2⟩, ⟨w3, w4⟩, -⟩ := hm.1
  have hblt := hC.lt
  obtain ⟨nb1, nb2, nb3⟩ := hne
  have HA0 := Lib.hid hA
  have HC0 := Lib.hid hC
  obtain ⟨h00, -⟩ := run_1 (At.at hA 0 rfl)
  obtain ⟨⟨h10, h11, h12⟩, -⟩ := run_3 (At.at hA 1 rfl)
  obtain ⟨⟨h20, h21, h22⟩, -⟩ := run_3 (At.at hA 2 rfl)
  have lt0 := At.lt hA 0 rfl
  have lt1 := At.lt hA 1 rfl
  have lt2 := At.lt hA 2 rfl
  unfold areaVal
  clear hv htv hm ht hC hA
  go_enter Try.func100, Try.ntmps100
  go_wp2
  go_loopw [6] (fun yv wr => ∃ (y : Int) (n' : Nat), a.y0 ≤ y ∧ y ≤ a.y1 + 1 ∧ yv = .int .i64 y ∧ (n' : Int) ≤ n + 16 * (y - a.y0) ∧ Hid (w.grownBy wr (some b)) ∧ Hid (At wr [(w.heap.size, Obj.cells #[.int .i64 a.x0, .int .i64 a.y0, .int .i64 a.x1, .int .i64 a.y1, .int .i64 a.turn, .int .i64 a.scale] 47), (BC, Obj.cells #[.map (some b)] 142), (BT, Obj.cells #[.int .i64 t.w, .int .i64 t.h, .slice to t.pix.length tc] 43), (BM, Obj.cells #[.int .i64 m.w, .int .i64 m.h, .slice mo m.pix.length mc] 24)]) ∧ Hid (CovAt wr b n' (fun p => f p + if Part a y a.x0 p then 1 else 0))) (fun yv _ => (a.y1 + 1 - intOf yv).toNat)
  case atStart => exact ⟨a.y0, n, by omega, by omega, rfl, by omega, Lib.hid (World.grownBy_alloc _ _ _), Lib.hid ⟨(by repeat (first | (refine blk_at _ _ ?_; (first | rfl | (simp only [size_one]; done))) | refine (blk_past _ _ (by simp only [size_one]; omega)).trans ?_)), At.alloc HA0.out _⟩, Lib.hid (by rw [part_start]; exact HC0.out.kept (World.grownBy_alloc _ _ none) (by simp))⟩
  case round =>
    obtain ⟨y, n', hy1, hy2, rfl, hn', hG, hA, hC⟩ := hrel
    obtain ⟨⟨z00, z01, z02, z03, z04, z05⟩, -⟩ := run_6 (At.at hA.out 0 rfl)
    obtain ⟨z10, -⟩ := run_1 (At.at hA.out 1 rfl)
    obtain ⟨⟨z20, z21, z22⟩, -⟩ := run_3 (At.at hA.out 2 rfl)
    obtain ⟨⟨z30, z31, z32⟩, -⟩ := run_3 (At.at hA.out 3 rfl)
    have zz0 := At.lt hA.out 0 rfl
    have zy0 := Nat.lt_succ_of_lt zz0
    have zx0 := Nat.lt_succ_of_lt zy0
    have zz1 := At.lt hA.out 1 rfl
    have zy1 := Nat.lt_succ_of_lt zz1
    have zx1 := Nat.lt_succ_of_lt zy1
    have zz2 := At.lt hA.out 2 rfl
    have zy2 := Nat.lt_succ_of_lt zz2
    have zx2 := Nat.lt_succ_of_lt zy2
    have zz3 := At.lt hA.out 3 rfl
    have zy3 := Nat.lt_succ_of_lt zz3
    have zx3 := Nat.lt_succ_of_lt zy3
    by_cases hyy : y ≤ a.y1
    · go_wp2
      clear z00 z01 z02 z03 z04 z05 z10 z20 z21 z22 z30 z31 z32 zz0 zy0 zx0 zz1 zy1 zx1 zz2 zy2 zx2 zz3 zy3 zx3
      obtain ⟨n0, hn0⟩ : ∃ n0 : Nat, n0 = n' := ⟨_, rfl⟩
      subst hn0
      go_loopw [7] (fun xv wr => ∃ (x : Int) (n' : Nat), a.x0 ≤ x ∧ x ≤ a.x1 + 1 ∧ xv = .int .i64 x ∧ (n' : Int) ≤ n + 16 * (y - a.y0) + (x - a.x0) ∧ Hid (w.grownBy wr (some b)) ∧ Hid (At wr [(w.heap.size, Obj.cells #[.int .i64 a.x0, .int .i64 a.y0, .int .i64 a.x1, .int .i64 a.y1, .int .i64 a.turn, .int .i64 a.scale] 47), (BC, Obj.cells #[.map (some b)] 142), (BT, Obj.cells #[.int .i64 t.w, .int .i64 t.h, .slice to t.pix.length tc] 43), (BM, Obj.cells #[.int .i64 m.w, .int .i64 m.h, .slice mo m.pix.length mc] 24)]) ∧ Hid (CovAt wr b n' (fun p => f p + if Part a y x p then 1 else 0))) (fun xv _ => (a.x1 + 1 - intOf xv).toNat)
      case atStart => exact ⟨a.x0, n0, by omega, by omega, rfl, by omega, hG, hA, hC⟩
      case round =>
        clear hG hA hC
        obtain ⟨x, n', hx1, hx2, rfl, hn', hG, hA, hC⟩ := hrel
        obtain ⟨⟨z00, z01, z02, z03, z04, z05⟩, -⟩ := run_6 (At.at hA.out 0 rfl)
        obtain ⟨z10, -⟩ := run_1 (At.at hA.out 1 rfl)
        obtain ⟨⟨z20, z21, z22⟩, -⟩ := run_3 (At.at hA.out 2 rfl)
        obtain ⟨⟨z30, z31, z32⟩, -⟩ := run_3 (At.at hA.out 3 rfl)
        have zz0 := At.lt hA.out 0 rfl
        have zy0 := Nat.lt_succ_of_lt zz0
        have zx0 := Nat.lt_succ_of_lt zy0
        have zz1 := At.lt hA.out 1 rfl
        have zy1 := Nat.lt_succ_of_lt zz1
        have zx1 := Nat.lt_succ_of_lt zy1
        have zz2 := At.lt hA.out 2 rfl
        have zy2 := Nat.lt_succ_of_lt zz2
        have zx2 := Nat.lt_succ_of_lt zy2
        have zz3 := At.lt hA.out 3 rfl
        have zy3 := Nat.lt_succ_of_lt zz3
        have zx3 := Nat.lt_succ_of_lt zy3
        by_cases hxx : x ≤ a.x1
        · have hpw : Pose.Wf ⟨x, y, a.turn, a.scale⟩ := ⟨WalkArith.wf_i64 ⟨by dsimp only; omega, by dsimp only; omega⟩, WalkArith.wf_i64 ⟨by dsimp only; omega, by dsimp only; omega⟩, WalkArith.wf_i64 ⟨by dsimp only; omega, by dsimp only; omega⟩, WalkArith.wf_i64 ⟨by dsimp only; omega, by dsimp only; omega⟩⟩
          have hfp : (f ⟨x, y, a.turn, a.scale⟩ + if Part a y x ⟨x, y, a.turn, a.scale⟩ then 1 else 0) = f ⟨x, y, a.turn, a.scale⟩ := by
            rw [if_neg (part_not a x y)]
            rfl
          obtain ⟨v0, st, wE, wS, r1, r2, r4, r3, hC2, hg2⟩ := CovAt.bump (w := wr.drew) (hC.out.block rfl) hpw (by unfold maxLen; omega) (by rw [hfp]; have := hf ⟨x, y, a.turn, a.scale⟩; omega)
          rw [hfp] at r1 r3 r4
          unfold poseVal at r1 r2 r4
          dsimp only at r1 r2 r4
          obtain ⟨cn, hcn⟩ : ∃ cn, f ⟨x, y, a.turn, a.scale⟩ = cn := ⟨_, rfl⟩
          have hcn2 : cn ≤ N := hcn ▸ hf _
          rw [hcn] at r1 r3 r4
          have hwc : IntKind.i64.wrap ((cn : Int) + 1) = (cn : Int) + 1 := IntWalk.i64_in _ (by omega)
          have HC2 := Lib.hid (show CovAt wS b (n' + 1) (fun p => f p + if Part a y (x + 1) p then 1 else 0) from part_step hx1 hxx ▸ hC2)
          have G2 := Lib.hid (show w.grownBy wS (some b) from hG.out.andThen (World.grownBy.andThen (grownBy_drew _ _) hg2 (fun j hj => .inr hj)) (fun j hj => .inr hj))
          have A2 := Lib.hid (show At wS [(w.heap.size, Obj.cells #[.int .i64 a.x0, .int .i64 a.y0, .int .i64 a.x1, .int .i64 a.y1, .int .i64 a.turn, .int .i64 a.scale] 47), (BC, Obj.cells #[.map (some b)] 142), (BT, Obj.cells #[.int .i64 t.w, .int .i64 t.h, .slice to t.pix.length tc] 43), (BM, Obj.cells #[.int .i64 m.w, .int .i64 m.h, .slice mo m.pix.length mc] 24)] from At.grown hg2 (At.drew hA.out) (by intro k hk; simp only [List.map_cons, List.map_nil, List.mem_cons, List.not_mem_nil, or_false] at hk; rcases hk with rfl | rfl | rfl | rfl <;> simp <;> omega))
          clear hC2 hfp hcn
          obtain ⟨⟨u00, u01, u02, u03, u04, u05⟩, -⟩ := run_6 (At.at A2.out 0 rfl)
          obtain ⟨u10, -⟩ := run_1 (At.at A2.out 1 rfl)
          obtain ⟨⟨u20, u21, u22⟩, -⟩ := run_3 (At.at A2.out 2 rfl)
          obtain ⟨⟨u30, u31, u32⟩, -⟩ := run_3 (At.at A2.out 3 rfl)
          have uz0 := At.lt A2.out 0 rfl
          have uy0 := Nat.lt_succ_of_lt uz0
          have ux0 := Nat.lt_succ_of_lt uy0
          have uz1 := At.lt A2.out 1 rfl
          have uy1 := Nat.lt_succ_of_lt uz1
          have ux1 := Nat.lt_succ_of_lt uy1
          have uz2 := At.lt A2.out 2 rfl
          have uy2 := Nat.lt_succ_of_lt uz2
          have ux2 := Nat.lt_succ_of_lt uy2
          have uz3 := At.lt A2.out 3 rfl
          have uy3 := Nat.lt_succ_of_lt uz3
          have ux3 := Nat.lt_succ_of_lt uy3
          go_wp2
          go_region
          go_wp2
          go_roundw
          case rel => exact ⟨x + 1, n' + 1, by omega, by omega, rfl, by omega, G2, A2, HC2⟩
          case measure => simp [intOf]; omega
        · have HC2 := Lib.hid (show CovAt wr b n' (fun p => f p + if Part a (y + 1) a.x0 p then 1 else 0) from part_row hy1 (by omega) hx2 ▸ hC.out)
          go_wp2
          go_roundw
          case rel => exact ⟨y + 1, n', by omega, by omega, rfl, by omega, hG, hA, HC2⟩
          case measure => simp [intOf]; omega
    · have HCE := Lib.hid (show CovAt wr b (n + 256) (fun p => f p + if a.Has p then 1 else 0) from (part_end (by omega) hy2 ▸ hC.out).mono (by omega))
      have E2x := Lib.hid (show Ext w0 wr.drew from (hE.grown hG.out (fun k hk => by cases hk; exact hb)).drew)
      have K69 := Lib.hid (fun w' (h : Ext w0 w') => c69 t _ a.turn a.scale w' HT.out (HTV.out.ext h) HA.out.2.2)
      have K70 := Lib.hid (fun sv w' (h : Ext w0 w') (hs : PtsAt w' sv (stencil t a.turn a.scale t.pix.length)) => c70 m _ (stencil t a.turn a.scale t.pix.length) sv a w' HM.out (HV.out.ext h) hs HA.out (Nat.le_trans (stencil_len _ _ _ _) (Tpl.len_bd HT.out).2) (sten_in HT.out HA.out.2.2))
      unfold tplVal at K69
      unfold imgVal at K70
      obtain ⟨bd, hbd⟩ : ∃ bd, sumL (fun p => least m p a.x0 a.y0 a.x1 a.y1) (stencil t a.turn a.scale t.pix.length) = bd := ⟨_, rfl⟩
      rw [hbd] at K70
      have HBD := Lib.hid (show bound m t a = bd from hbd)
      clear hbd hE
      go_wp2
      go_region_held3 (fun w' => w'.cell? ⟨w.heap.size, 0, none⟩ = some (.int .i64 a.x0) ∧ w'.cell? ⟨w.heap.size, 1, none⟩ = some (.int .i64 a.y0) ∧ w'.cell? ⟨w.heap.size, 2, none⟩ = some (.int .i64 a.x1) ∧ w'.cell? ⟨w.heap.size, 3, none⟩ = some (.int .i64 a.y1) ∧ w'.cell? ⟨w.heap.size, 4, none⟩ = some (.int .i64 a.turn) ∧ w'.cell? ⟨w.heap.size, 5, none⟩ = some (.int .i64 a.scale) ∧ w'.cell? ⟨BT, 0, none⟩ = some (.int .i64 t.w) ∧ w'.cell? ⟨BT, 1, none⟩ = some (.int .i64 t.h) ∧ w'.cell? ⟨BT, 2, none⟩ = some (.slice to t.pix.length tc) ∧ w'.cell? ⟨BM, 0, none⟩ = some (.int .i64 m.w) ∧ w'.cell? ⟨BM, 1, none⟩ = some (.int .i64 m.h) ∧ w'.cell? ⟨BM, 2, none⟩ = some (.slice mo m.pix.length mc)) ((repeat' apply And.intro) <;> first | assumption | go_keep) (first | (have _q := E5; go_at_call 70; (with_reducible refine (K70.out _ _ E5.out P5.out).mono ?_); rintro E w6 ⟨rfl, hb6⟩; have A6 := Lib.hid (show At w6 [(w.heap.size, Obj.cells #[.int .i64 a.x0, .int .i64 a.y0, .int .i64 a.x1, .int .i64 a.y1, .int .i64 a.turn, .int .i64 a.scale] 47), (BC, Obj.cells #[.map (some b)] 142), (BT, Obj.cells #[.int .i64 t.w, .int .i64 t.h, .slice to t.pix.length tc] 43), (BM, Obj.cells #[.int .i64 m.w, .int .i64 m.h, .slice mo m.pix.length mc] 24)] from At.ext hb6 A5.out); obtain ⟨⟨v00, v01, v02, v03, v04, v05⟩, -⟩ := run_6 (At.at A6.out 0 rfl); obtain ⟨v10, -⟩ := run_1 (At.at A6.out 1 rfl); obtain ⟨⟨v20, v21, v22⟩, -⟩ := run_3 (At.at A6.out 2 rfl); obtain ⟨⟨v30, v31, v32⟩, -⟩ := run_3 (At.at A6.out 3 rfl); have vz0 := At.lt A6.out 0 rfl; have vy0 := Nat.lt_succ_of_lt vz0; have vx0 := Nat.lt_succ_of_lt vy0; have vz1 := At.lt A6.out 1 rfl; have vy1 := Nat.lt_succ_of_lt vz1; have vx1 := Nat.lt_succ_of_lt vy1; have vz2 := At.lt A6.out 2 rfl; have vy2 := Nat.lt_succ_of_lt vz2; have vx2 := Nat.lt_succ_of_lt vy2; have vz3 := At.lt A6.out 3 rfl; have vy3 := Nat.lt_succ_of_lt vz3; have vx3 := Nat.lt_succ_of_lt vy3; have E6r := Lib.hid (E5r.out.trans hb6)) | (go_at_call 69; (with_reducible refine (K69.out _ E2x.out).mono ?_); rintro E w5 ⟨v5, rfl, ho5, hb5⟩; obtain ⟨-, so, sc, hv5, -⟩ := SlAt.of_owns ho5; subst hv5; have A5 := Lib.hid (show At w5 [(w.heap.size, Obj.cells #[.int .i64 a.x0, .int .i64 a.y0, .int .i64 a.x1, .int .i64 a.y1, .int .i64 a.turn, .int .i64 a.scale] 47), (BC, Obj.cells #[.map (some b)] 142), (BT, Obj.cells #[.int .i64 t.w, .int .i64 t.h, .slice to t.pix.length tc] 43), (BM, Obj.cells #[.int .i64 m.w, .int .i64 m.h, .slice mo m.pix.length mc] 24)] from At.ext hb5 (At.drew hA.out)); obtain ⟨⟨u00, u01, u02, u03, u04, u05⟩, -⟩ := run_6 (At.at A5.out 0 rfl); obtain ⟨u10, -⟩ := run_1 (At.at A5.out 1 rfl); obtain ⟨⟨u20, u21, u22⟩, -⟩ := run_3 (At.at A5.out 2 rfl); obtain ⟨⟨u30, u31, u32⟩, -⟩ := run_3 (At.at A5.out 3 rfl); have uz0 := At.lt A5.out 0 rfl; have uy0 := Nat.lt_succ_of_lt uz0; have ux0 := Nat.lt_succ_of_lt uy0; have uz1 := At.lt A5.out 1 rfl; have uy1 := Nat.lt_succ_of_lt uz1; have ux1 := Nat.lt_succ_of_lt uy1; have uz2 := At.lt A5.out 2 rfl; have uy2 := Nat.lt_succ_of_lt uz2; have ux2 := Nat.lt_succ_of_lt uy2; have uz3 := At.lt A5.out 3 rfl; have uy3 := Nat.lt_succ_of_lt uz3; have ux3 := Nat.lt_succ_of_lt uy3; have P5 := Lib.hid (show PtsAt w5 (.slice so (stencil t a.turn a.scale t.pix.length).length sc) (stencil t a.turn a.scale t.pix.length) from SlAt.of_owns ho5); have E5 := Lib.hid (E2x.out.trans hb5); have E5r := Lib.hid (show Ext wr w5 from (Ext.refl _).drew.trans hb5); clear ho5))
      all_goals go_wp2
      all_goals go_ret
      all_goals exact ⟨ret_int HBD.out.symm, HCE.out.ext E6r.out, hG.out.andThen (Ext.toGrown E6r.out none) (by simp)⟩
end Go.Proofs.Ytipkjdfnoonpcaa
