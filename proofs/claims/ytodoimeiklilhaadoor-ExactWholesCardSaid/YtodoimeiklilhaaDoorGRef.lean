/- Joined from the parts RefWords, RefParted, RefCommon, AtMore. -/
import Derived.Test.YtodoimeiklilhaaDoorPairs
import Derived.Laws.BitsAllLaws
import Derived.Test.YtodoimeiklilhaaDoorGRegions
import Derived.Test.YtodoimeiklilhaaDoorGFracs
import Derived.BigRegion
import Derived.Deep.RegionHeld3
set_option linter.unusedVariables false
set_option linter.unusedSimpArgs false
/- The walks of the reference's functions on numbers of two words: times, less, plus, minus, bit, size. -/
namespace Go.Proofs.YtodoimeiklilhaaDoor
open Go.RowKit Go.Sort

set_option maxHeartbeats 1000000 in
theorem r_times (a b : Nat) (ha : W64 a) (hb : W64 b) (w : World) :
    Calls Tryd.prog 80 #[.int .u64 a, .int .u64 b] w fun e w' => e = .returned (pairV (a * b)) ∧ Ext w w' := by
  have hm : ∀ w, Calls Tryd.prog 92 #[.int .u64 a, .int .u64 b] w fun e w' => e = .returned (.tuple #[.int .u64 (hiW (a * b) : Int), .int .u64 (loW (a * b) : Int)]) ∧ w' = w := fun w => Tryd.bits_Mul64 a b ha hb w
  have HM := Lib.hid hm
  clear hm
  go_enter Tryd.func80, Tryd.ntmps80
  go_wp2_with (go_at_call 92; refine (HM.out _).mono ?_; rintro e w' ⟨rfl, rfl⟩)
  refine bodyPost_ret (v := pairV (a * b)) (by simp [results, Tryd.results80, go_sem]) rfl ⟨rfl, (by repeat (first | exact Ext.refl _ | assumption | refine Ext.alloc ?_ _ | refine Ext.drewN ?_ _ | refine ext_grow ?_ _ _ | refine Ext.setCell ?_ (by first | exact Nat.le_refl _ | omega | (simp; done) | (simp; omega)) _ | refine Ext.trans ?_ (by assumption)))⟩
set_option maxRecDepth 100000 in
set_option maxHeartbeats 1000000 in
theorem r_plus (x y : Nat) (h : W128 (x + y)) (w : World) :
    Calls Tryd.prog 95 #[pairV x, pairV y] w fun e w' => e = .returned (pairV (x + y)) ∧ Ext w w' := by
  go_enter Tryd.func95, Tryd.ntmps95
  go_wp2_with (simp only [add64_run])
  refine bodyPost_ret (v := .agg #[.int .u64 (IntKind.u64.wrap (IntKind.u64.wrap ((hiW x : Int) + (hiW y : Int)) + (addHi (loW x) (loW y) : Int))), .int .u64 (addLo (loW x) (loW y) : Int)]) (by simp [results, Tryd.results95, go_sem]) rfl ⟨ret_val ?_, (by repeat (first | exact Ext.refl _ | assumption | refine Ext.alloc ?_ _ | refine Ext.drewN ?_ _ | refine ext_grow ?_ _ _ | refine Ext.setCell ?_ (by first | exact Nat.le_refl _ | omega | (simp; done) | (simp; omega)) _ | refine Ext.trans ?_ (by assumption)))⟩
  rw [add_hi h, add_lo]
set_option maxRecDepth 100000 in
set_option maxHeartbeats 1000000 in
theorem r_minus (x y : Nat) (h : y ≤ x) (hx : W128 x) (w : World) :
    Calls Tryd.prog 97 #[pairV x, pairV y] w fun e w' => e = .returned (pairV (x - y)) ∧ Ext w w' := by
  go_enter Tryd.func97, Tryd.ntmps97
  go_wp2_with (simp only [sub64_run])
  refine bodyPost_ret (v := .agg #[.int .u64 (IntKind.u64.wrap (IntKind.u64.wrap ((hiW x : Int) - (hiW y : Int)) - (subHi (loW x) (loW y) : Int))), .int .u64 (subLo (loW x) (loW y) : Int)]) (by simp [results, Tryd.results97, go_sem]) rfl ⟨ret_val ?_, (by repeat (first | exact Ext.refl _ | assumption | refine Ext.alloc ?_ _ | refine Ext.drewN ?_ _ | refine ext_grow ?_ _ _ | refine Ext.setCell ?_ (by first | exact Nat.le_refl _ | omega | (simp; done) | (simp; omega)) _ | refine Ext.trans ?_ (by assumption)))⟩
  rw [sub_hi h hx, sub_lo h]
set_option maxHeartbeats 1000000 in
theorem r_less (x y : Nat) (w : World) :
    Calls Tryd.prog 82 #[pairV x, pairV y] w fun e w' => e = .returned (.bool (decide (x < y))) ∧ Ext w w' := by
  go_enter Tryd.func82, Tryd.ntmps82
  go_wp2
  all_goals (go_ret; refine ⟨ret_bool ?_, (by repeat (first | exact Ext.refl _ | assumption | refine Ext.alloc ?_ _ | refine Ext.drewN ?_ _ | refine ext_grow ?_ _ _ | refine Ext.setCell ?_ (by first | exact Nat.le_refl _ | omega | (simp; done) | (simp; omega)) _ | refine Ext.trans ?_ (by assumption)))⟩; first | exact less_hi (by assumption) | exact less_no (by assumption) (by assumption) | exact less_lo (by assumption) | exact less_no' (by assumption) (by assumption) )
set_option maxHeartbeats 1000000 in
theorem r_size (n : Int) (h : InI64 n) (w : World) :
    Calls Tryd.prog 81 #[.int .i64 n] w fun e w' => e = .returned (.int .u64 (n.natAbs : Int)) ∧ Ext w w' := by
  have r1 := Lib.hid (wrap_abs_neg n h)
  go_enter Tryd.func81, Tryd.ntmps81
  go_wp2
  all_goals (go_ret; refine ⟨ret_int ?_, Ext.refl _⟩; first | (rw [Int.zero_sub]; exact r1.out (by assumption)) | exact r1.out (by assumption) | exact wrap_abs_pos n h (by assumption))
theorem and_bit {h k : Nat} (hh : W64 h) : bits BinOp.and IntKind.u64 ((h : Int) / 2 ^ k) 1 = ((h / 2 ^ k % 2 : Nat) : Int) := by
  have hd : h / 2 ^ k ≤ h := Nat.div_le_self _ _
  unfold W64 at hh
  have e : ((h : Int) / 2 ^ k) = ((h / 2 ^ k : Nat) : Int) := by push_cast; rfl
  rw [e, show (1 : Int) = ((1 : Nat) : Int) from rfl, u64_and_nat _ _ (by omega) (by omega), Nat.and_one_is_mod]
theorem bit_hi {x i : Nat} (h : 64 ≤ i) : hiW x / 2 ^ (i - 64) % 2 = x / 2 ^ i % 2 := by
  unfold hiW
  rw [Nat.div_div_eq_div_mul, show (18446744073709551616 : Nat) = 2 ^ 64 from rfl, ← Nat.pow_add, show 64 + (i - 64) = i by omega]
theorem bit_lo {x i : Nat} (h : i < 64) : loW x / 2 ^ i % 2 = x / 2 ^ i % 2 := by
  unfold loW
  have e : (18446744073709551616 : Nat) = 2 ^ i * (2 * 2 ^ (63 - i)) := by rw [← Nat.pow_succ', ← Nat.pow_add, show i + (63 - i + 1) = 64 by omega]
  rw [e, Nat.mod_mul_right_div_self, Nat.mod_mul_right_mod]
set_option maxHeartbeats 1000000 in
theorem r_bit (x i : Nat) (hi : i < 128) (hx : W128 x) (w : World) :
    Calls Tryd.prog 96 #[pairV x, .int .i64 i] w fun e w' => e = .returned (.int .u64 ((x / 2 ^ i % 2 : Nat) : Int)) ∧ Ext w w' := by
  have HX := Lib.hid hx
  clear hx
  by_cases h : 64 ≤ i
  · go_enter Tryd.func96, Tryd.ntmps96
    go_wp2
    go_ret
    exact ⟨ret_int ((and_bit (hiW_64 HX.out)).trans (by rw [bit_hi h])), (by repeat (first | exact Ext.refl _ | assumption | refine Ext.alloc ?_ _ | refine Ext.drewN ?_ _ | refine ext_grow ?_ _ _ | refine Ext.setCell ?_ (by first | exact Nat.le_refl _ | omega | (simp; done) | (simp; omega)) _ | refine Ext.trans ?_ (by assumption)))⟩
  · go_enter Tryd.func96, Tryd.ntmps96
    go_wp2
    go_ret
    exact ⟨ret_int ((and_bit (loW_64 _)).trans (by rw [bit_lo (by omega)])), (by repeat (first | exact Ext.refl _ | assumption | refine Ext.alloc ?_ _ | refine Ext.drewN ?_ _ | refine ext_grow ?_ _ _ | refine Ext.setCell ?_ (by first | exact Nat.le_refl _ | omega | (simp; done) | (simp; omega)) _ | refine Ext.trans ?_ (by assumption)))⟩
end Go.Proofs.YtodoimeiklilhaaDoor

/- The walk of the reference's 'parted': the quotient and the rest of numbers of two words, bit by bit. -/
namespace Go.Proofs.YtodoimeiklilhaaDoor
open Go.RowKit Go.Sort

/-- blocks and what lies in them -/
def At (w : World) : List (Nat × Obj) → Prop
  | [] => True
  | (k, o) :: l => w.heap[k]? = some o ∧ At w l
theorem At.ext {w w' : World} (hE : Ext w w') : ∀ {l : List (Nat × Obj)}, At w l → At w' l
  | [], _ => trivial
  | (_, _) :: _, h => ⟨hE.blk h.1, At.ext hE h.2⟩
theorem At.other {w w' : World} {b : Nat} (hw : ∀ k, k ≠ b → w'.heap[k]? = w.heap[k]?) : ∀ {l : List (Nat × Obj)}, (l.all fun p => p.1 != b) = true → At w l → At w' l
  | [], _, _ => trivial
  | (k, o) :: l, hl, h => by
    simp only [List.all_cons, Bool.and_eq_true, bne_iff_ne, ne_eq] at hl
    exact ⟨(hw k hl.1).trans h.1, At.other hw hl.2 h.2⟩
theorem At.at {w : World} : ∀ {l : List (Nat × Obj)} (h : At w l) (i : Nat) {k : Nat} {o : Obj} (e : l[i]? = some (k, o)), w.heap[k]? = some o
  | [], _, _, _, _, e => by simp at e
  | (_, _) :: _, h, 0, _, _, e => by
    simp only [List.getElem?_cons_zero, Option.some.injEq, Prod.mk.injEq] at e
    obtain ⟨rfl, rfl⟩ := e
    exact h.1
  | (_, _) :: _, h, i + 1, _, _, e => At.at h.2 i (by simpa using e)
abbrev wideO (n : Nat) : Obj := .cells #[.int .u64 (hiW n : Int), .int .u64 (loW n : Int)] 106
theorem wide_zero : (Obj.cells #[.int .u64 0, .int .u64 0] 106) = wideO 0 := rfl
theorem parted_step {x b j : Nat} (hb : 0 < b) : (x / 2 ^ j) / b = (if (x / 2 ^ (j + 1) % b + x / 2 ^ (j + 1) % b + x / 2 ^ j % 2) < b then x / 2 ^ (j + 1) / b + x / 2 ^ (j + 1) / b else x / 2 ^ (j + 1) / b + x / 2 ^ (j + 1) / b + 1) ∧
    (x / 2 ^ j) % b = (if (x / 2 ^ (j + 1) % b + x / 2 ^ (j + 1) % b + x / 2 ^ j % 2) < b then (x / 2 ^ (j + 1) % b + x / 2 ^ (j + 1) % b + x / 2 ^ j % 2) else (x / 2 ^ (j + 1) % b + x / 2 ^ (j + 1) % b + x / 2 ^ j % 2) - b) := by
  have e : x / 2 ^ (j + 1) = x / 2 ^ j / 2 := by rw [Nat.pow_succ, Nat.div_div_eq_div_mul]
  rw [e]
  generalize x / 2 ^ j = y
  have h1 := Nat.div_add_mod y 2
  have h2 := Nat.div_add_mod (y / 2) b
  have h3 := Nat.mod_lt (y / 2) hb
  have h4 := Nat.mod_lt y (show 0 < 2 by omega)
  generalize y / 2 / b = q at *
  generalize y / 2 % b = r at *
  generalize y % 2 = t at *
  have h5 : y = b * (q + q) + (r + r + t) := by rw [Nat.mul_add]; omega
  rw [h5]
  by_cases hlt : r + r + t < b
  · rw [if_pos hlt, if_pos hlt]
    exact ⟨by rw [Nat.mul_add_div hb, Nat.div_eq_of_lt hlt, Nat.add_zero], by rw [Nat.mul_add_mod, Nat.mod_eq_of_lt hlt]⟩
  · rw [if_neg hlt, if_neg hlt]
    have h6 : b * (q + q) + (r + r + t) = b * (q + q + 1) + (r + r + t - b) := by rw [Nat.mul_add b (q + q) 1]; omega
    have h7 : r + r + t - b < b := by omega
    rw [h6]
    exact ⟨by rw [Nat.mul_add_div hb, Nat.div_eq_of_lt h7], by rw [Nat.mul_add_mod, Nat.mod_eq_of_lt h7]⟩
theorem results_rows2 {P : Program} {fn : Func} {p p2 : Tmp} {ty ty2 : TypeId} (h : fn.results = #[.cell p ty, .cell p2 ty2]) (tmps : Array Value) (w : World) (g : Nat) (t : TypeId) (cs : Array Value) (fr : Nat × Nat) (d : TypeDesc)
    (hp : tmps.getD p undef = .pointer (some ⟨g, 0, none⟩)) (hg : w.heap[g]? = some (.cells cs t fr))
    (hu : P.underlying ty = some d) (hd : (match d with | .struct _ | .array _ _ => true | _ => false) = true) (hi : (P.info? ty).map (·.size) = some cs.size)
    (g2 : Nat) (t2 : TypeId) (cs2 : Array Value) (fr2 : Nat × Nat) (d2 : TypeDesc)
    (hp2 : tmps.getD p2 undef = .pointer (some ⟨g2, 0, none⟩)) (hg2 : w.heap[g2]? = some (.cells cs2 t2 fr2))
    (hu2 : P.underlying ty2 = some d2) (hd2 : (match d2 with | .struct _ | .array _ _ => true | _ => false) = true) (hi2 : (P.info? ty2).map (·.size) = some cs2.size) :
    (results fn tmps).run P w = .ok (.tuple #[.agg cs, .agg cs2]) w := by
  have hp' : tmps[p]?.getD undef = .pointer (some ⟨g, 0, none⟩) := by simpa using hp
  have hp2' : tmps[p2]?.getD undef = .pointer (some ⟨g2, 0, none⟩) := by simpa using hp2
  simp [results, h, hp', hp2', asAddr, Sem.run_bind, Result.andThen, run_loadVar_row w g t ty cs fr d hg hu hd hi, run_loadVar_row w g2 t2 ty2 cs2 fr2 d2 hg2 hu2 hd2 hi2]
theorem store_low {w : World} {b : Nat} {c0 c1 v1 : Value} {e : TypeId} {fr : Nat × Nat} (h : w.heap[b]? = some (.cells #[c0, c1] e fr)) :
    (w.setCell ⟨b, 1, none⟩ v1).heap[b]? = some (.cells #[c0, v1] e fr) ∧ (∀ k, k ≠ b → (w.setCell ⟨b, 1, none⟩ v1).heap[k]? = w.heap[k]?) ∧
      ∀ wb : World, wb.heap.size ≤ b → Ext wb w → Ext wb (w.setCell ⟨b, 1, none⟩ v1) := by
  refine ⟨by simp [World.setCell, Array.getElem?_modify, h], fun k hk => ?_, fun wb hb hE => hE.setCell hb _⟩
  rw [Below.heap_setCell _ _ _ _ hk]
theorem drew_blk2 {w : World} {k : Nat} {o : Obj} (h : w.heap[k]? = some o) : w.drew.heap[k]? = some o := h
theorem info_wide : (Tryd.prog.info? 106).map (·.size) = some 2 := by kernel_rfl
set_option maxRecDepth 100000 in
set_option maxHeartbeats 8000000 in
theorem r_parted (x b : Nat) (hx : W128 x) (hb0 : 0 < b) (hb : b < 170141183460469231731687303715884105728) (w : World) :
    Calls Tryd.prog 79 #[pairV x, pairV b] w fun e w' => e = .returned (.tuple #[pairV (x / b), pairV (x % b)]) ∧ Ext w w' := by
  have HX := Lib.hid hx
  have HB0 := Lib.hid hb0
  have HB := Lib.hid hb
  clear hx hb0 hb
  go_enter Tryd.func79, Tryd.ntmps79
  go_wp2
  go_loopw [8] (fun i wr => Ext w wr ∧ ∃ (k : Nat) (v : Int), k ≤ 128 ∧ v + 1 = k ∧ i = .int .i64 v ∧ Hid (At wr [(w.heap.size, wideO x), (w.heap.size + 1, wideO b), (w.heap.size + 1 + 1, wideO 0), (w.heap.size + 1 + 1 + 1, wideO 0), (w.heap.size + 1 + 1 + 1 + 1, wideO (x / 2 ^ k / b)), (w.heap.size + 1 + 1 + 1 + 1 + 1, wideO (x / 2 ^ k % b))])) (fun i _ => (intOf i + 1).toNat)
  case atStart =>
    refine ⟨(by repeat (first | exact Ext.refl _ | assumption | refine Ext.alloc ?_ _ | refine Ext.drewN ?_ _ | refine ext_grow ?_ _ _ | refine Ext.setCell ?_ (by first | exact Nat.le_refl _ | omega | (simp; done) | (simp; omega)) _ | refine Ext.trans ?_ (by assumption))), 128, 127, by omega, by omega, rfl, ?_⟩
    have e0 : x / 2 ^ 128 = 0 := Nat.div_eq_of_lt (by have := HX.out; unfold W128 at this; omega)
    rw [e0, Nat.zero_div, Nat.zero_mod]
    exact Lib.hid (by repeat (first | exact trivial | (refine ⟨(by repeat (first | (refine blk_at _ _ ?_; (first | rfl | (simp only [size_one]; done))) | refine (blk_past _ _ (by simp only [size_one]; omega)).trans ?_)), ?_⟩)))
  case round =>
    obtain ⟨hE, k, v, hk, hv, rfl, hA⟩ := hrel
    by_cases h0 : 0 ≤ v
    · obtain ⟨j, rfl⟩ := Int.eq_ofNat_of_zero_le h0
      obtain rfl : k = j + 1 := by omega
      have hj : j < 128 := by omega
      obtain ⟨m0, m1, m2, m3, m4, m5, -⟩ := hA.out
      have PS := Lib.hid (parted_step (x := x) (j := j) HB0.out)
      have hr : x / 2 ^ (j + 1) % b < b := Nat.mod_lt _ HB0.out
      have hq : x / 2 ^ (j + 1) / b * 2 ≤ x := by
        have h1 : x / 2 ^ (j + 1) / b ≤ x / 2 ^ (j + 1) := Nat.div_le_self _ _
        have h2 : x / 2 ^ (j + 1) = x / 2 ^ j / 2 := by rw [Nat.pow_succ, Nat.div_div_eq_div_mul]
        have h3 : x / 2 ^ j ≤ x := Nat.div_le_self _ _
        omega
      have ht : x / 2 ^ j % 2 < 2 := Nat.mod_lt _ (by omega)
      obtain ⟨q, hq'⟩ : ∃ q, x / 2 ^ (j + 1) / b = q := ⟨_, rfl⟩
      obtain ⟨r, hr'⟩ : ∃ r, x / 2 ^ (j + 1) % b = r := ⟨_, rfl⟩
      obtain ⟨t, ht'⟩ : ∃ t, x / 2 ^ j % 2 = t := ⟨_, rfl⟩
      have CB := Lib.hid (fun w => (ht' ▸ r_bit x j hj HX.out w : Calls Tryd.prog 96 #[pairV x, .int .i64 j] w fun e w' => e = .returned (.int .u64 (t : Int)) ∧ Ext w w'))
      rw [hq', hr', ht'] at PS
      rw [hq'] at m4 hq
      rw [hr'] at m5 hr
      rw [ht'] at ht
      clear hq' hr' ht' hA
      obtain ⟨s, hs⟩ : ∃ s, r + r + t = s := ⟨_, rfl⟩
      obtain ⟨u, hu⟩ : ∃ u, q + q = u := ⟨_, rfl⟩
      have k1 : W128 (r + r) := by have := HB.out; unfold W128; omega
      have k2 : W128 (r + r + t) := by have := HB.out; unfold W128; omega
      have k3 : W128 (q + q) := by have := HX.out; unfold W128 at *; omega
      have p1 := fun w => r_plus r r k1 w
      have p2 := fun w => r_plus (r + r) t k2 w
      have p3 := fun w => r_plus q q k3 w
      have et : hiW t = 0 ∧ loW t = t := by unfold hiW loW; omega
      rw [show pairV t = .agg #[.int .u64 0, .int .u64 (t : Int)] by unfold pairV; rw [et.1, et.2]; rfl, hs] at p2
      rw [hu] at p3 PS k3
      rw [hs] at PS k2
      have hwrap : IntKind.u64.wrap ((loW u : Int) + 1) = (loW (u + 1) : Int) ∧ hiW (u + 1) = hiW u := by
        rw [wrap_u64_eq]; unfold loW hiW; omega
      have CP1 := Lib.hid p1
      have CP2 := Lib.hid p2
      have CP3 := Lib.hid p3
      have CL := Lib.hid (fun w => r_less s b w)
      have KS := Lib.hid k2
      have HW := Lib.hid hwrap.1
      have HH := Lib.hid hwrap.2
      obtain ⟨a0, a1, a2, a3⟩ := run_pair m0
      obtain ⟨y0, y1, y2, y3⟩ := run_pair m5
      have M0 := Lib.hid m0
      have M1 := Lib.hid m1
      have M2 := Lib.hid m2
      have M3 := Lib.hid m3
      have M4 := Lib.hid m4
      have M5 := Lib.hid m5
      clear m0 m1 m2 m3 m4 m5 k1 k2 k3 p1 p2 p3 et hs hu hwrap hr hq ht
      go_wp2
      refine RT.region_last (aq := ?aqs1) (n := 8) (sp := 7) (vx := 20) (b0 := w.heap.size + 1 + 1 + 1 + 1 + 1) (oz := wideO r) (ox := wideO s) (qs1 := [_, _, _, _, _, _, _, _]) (qs2 := []) (wb := w) (fun v => At v [(w.heap.size, wideO x), (w.heap.size + 1, wideO b), (w.heap.size + 1 + 1, wideO 0), (w.heap.size + 1 + 1 + 1, wideO 0), (w.heap.size + 1 + 1 + 1 + 1, wideO q)]) (by kernel_rfl) rfl (by kernel_rfl) (by kernel_rfl) rfl rfl (by kernel_rfl) (by kernel_rfl) rfl ?_ ?_ ?_ ?_ ?_ ?_ (by kernel_rfl) rfl ?_ ?_ ?_
      rotate_left
      · exact M5.out
      · exact hE
      · omega
      · exact ⟨M0.out, M1.out, M2.out, M3.out, M4.out, trivial⟩
      · exact fun _ _ h hE => h.ext hE
      · exact fun _ _ h k => h.other k (by simp; omega)
      · intro w1 hF hz1
        obtain ⟨o0, o1, -, -, -, -⟩ := hF
        obtain ⟨c0, c1, c2, c3⟩ := run_pair o0
        obtain ⟨d0, d1, d2, d3⟩ := run_pair hz1
        have v0 := World.block_lt_of_cell? _ _ c0
        have v1 := World.block_lt_of_cell? _ _ d0
        simp only at v0 v1
        simp only [List.cons_append, List.nil_append, List.append_nil]
        repeat (go_big_quiet_step ((first | (go_at_call 96; with_reducible exact Calls.ext_of (CB.out _)) | (go_at_call 95; with_reducible exact Calls.ext_of (CP1.out _)) | (go_at_call 95; with_reducible exact Calls.ext_of (CP2.out _)))))
        refine wpQuiet_nil ?_
        exact rfl
      · intro e w h1 h2 h3
        obtain ⟨c0, c1, f0, f1⟩ := run_pair h3
        have h2' : e (.tmp 20) = pairV s := h2
        apply Exists.intro
        apply And.intro
        · simp [execOp, go_sem, h1, h2', c0, c1, f0, f1]
          exact rfl
        · exact store_pair h3
      · rintro w2 ⟨n0, n1, n2, n3, n4, -⟩ hE2 n5
        have F2 := Lib.hid (show At w2 [(w.heap.size, wideO x), (w.heap.size + 1, wideO b), (w.heap.size + 1 + 1, wideO 0), (w.heap.size + 1 + 1 + 1, wideO 0), (w.heap.size + 1 + 1 + 1 + 1 + 1, wideO s)] from ⟨n0, n1, n2, n3, n5, trivial⟩)
        have N4 := Lib.hid n4
        obtain ⟨g0, g1, g2, g3⟩ := run_pair n4
        obtain ⟨i0, i1, i2, i3⟩ := run_pair n5
        obtain ⟨l0, l1, -, -⟩ := run_pair n1
        clear n0 n1 n2 n3 n4 n5 a0 a1 a2 a3 y0 y1 y2 y3 M0 M1 M2 M3 M4 M5 CB CP1 CP2
        by_cases hl : s < b
        · replace PS := Lib.hid (by have := PS.out; rwa [if_pos hl, if_pos hl] at this : x / 2 ^ j / b = u ∧ x / 2 ^ j % b = s)
          rw [decide_eq_true hl] at CL
          clear hl
          go_wp2_with (first | (go_at_call 95; with_reducible refine (CP3.out _).mono ?_; rintro e w3 ⟨rfl, hb3⟩; have A3 := Lib.hid (At.ext hb3 F2.out); have C4 := Lib.hid (hb3.blk N4.out); have E3 := Lib.hid (hE2.trans hb3); obtain ⟨r0, r1, r2, r3⟩ := run_pair C4.out; obtain ⟨x0, x1, x2, x3⟩ := run_pair (At.at A3.out 4 rfl); obtain ⟨x4, x5, x6, x7⟩ := run_pair (At.at A3.out 1 rfl)) | (go_at_call 82; with_reducible refine (CL.out _).mono ?_; rintro e w4 ⟨rfl, hb4⟩; have A4 := Lib.hid (At.ext hb4 (At.other (store_pair C4.out).2.1 (by simp; omega) A3.out)); have D4 := Lib.hid (hb4.blk (store_pair C4.out).1); have E4 := Lib.hid (((store_pair C4.out).2.2 w (by omega) E3.out).trans hb4); obtain ⟨s0, s1, s2, s3⟩ := run_pair (At.at A4.out 4 rfl); obtain ⟨t0, t1, t2, t3⟩ := run_pair (At.at A4.out 1 rfl)) | (go_at_call 97; with_reducible refine (CM.out _).mono ?_; rintro e w5 ⟨rfl, hb5⟩; have A5 := Lib.hid (At.ext hb5 A4.out); have D5 := Lib.hid (hb5.blk D4.out); have E5 := Lib.hid (E4.out.trans hb5); obtain ⟨p0, p1, p2, p3⟩ := run_pair (At.at A5.out 4 rfl); obtain ⟨q0, q1, q2, q3⟩ := run_pair D5.out))
          go_roundw
          case rel => exact ⟨E4.out, j, (j : Int) - 1, by omega, by omega, rfl, Lib.hid (by rw [PS.out.1, PS.out.2]; exact ⟨(At.at A4.out 0 rfl), (At.at A4.out 1 rfl), (At.at A4.out 2 rfl), (At.at A4.out 3 rfl), D4.out, (At.at A4.out 4 rfl), trivial⟩)⟩
          case measure => simp [intOf]
        · replace PS := Lib.hid (by have := PS.out; rwa [if_neg hl, if_neg hl] at this : x / 2 ^ j / b = u + 1 ∧ x / 2 ^ j % b = s - b)
          have CM := Lib.hid (fun w => r_minus s b (by omega) KS.out w)
          rw [decide_eq_false hl] at CL
          clear hl
          have hwr := HW.out
          go_wp2_with (first | (go_at_call 95; with_reducible refine (CP3.out _).mono ?_; rintro e w3 ⟨rfl, hb3⟩; have A3 := Lib.hid (At.ext hb3 F2.out); have C4 := Lib.hid (hb3.blk N4.out); have E3 := Lib.hid (hE2.trans hb3); obtain ⟨r0, r1, r2, r3⟩ := run_pair C4.out; obtain ⟨x0, x1, x2, x3⟩ := run_pair (At.at A3.out 4 rfl); obtain ⟨x4, x5, x6, x7⟩ := run_pair (At.at A3.out 1 rfl)) | (go_at_call 82; with_reducible refine (CL.out _).mono ?_; rintro e w4 ⟨rfl, hb4⟩; have A4 := Lib.hid (At.ext hb4 (At.other (store_pair C4.out).2.1 (by simp; omega) A3.out)); have D4 := Lib.hid (hb4.blk (store_pair C4.out).1); have E4 := Lib.hid (((store_pair C4.out).2.2 w (by omega) E3.out).trans hb4); obtain ⟨s0, s1, s2, s3⟩ := run_pair (At.at A4.out 4 rfl); obtain ⟨t0, t1, t2, t3⟩ := run_pair (At.at A4.out 1 rfl)) | (go_at_call 97; with_reducible refine (CM.out _).mono ?_; rintro e w5 ⟨rfl, hb5⟩; have A5 := Lib.hid (At.ext hb5 A4.out); have D5 := Lib.hid (hb5.blk D4.out); have E5 := Lib.hid (E4.out.trans hb5); obtain ⟨p0, p1, p2, p3⟩ := run_pair (At.at A5.out 4 rfl); obtain ⟨q0, q1, q2, q3⟩ := run_pair D5.out))
          go_roundw
          case rel =>
            have S5 := store_pair (v0 := .int .u64 (hiW (s - b) : Int)) (v1 := .int .u64 (loW (s - b) : Int)) (At.at A5.out 4 rfl)
            have A6 := At.other S5.2.1 (l := [(w.heap.size, wideO x), (w.heap.size + 1, wideO b), (w.heap.size + 1 + 1, wideO 0), (w.heap.size + 1 + 1 + 1, wideO 0)]) (by simp; omega) ⟨At.at A5.out 0 rfl, At.at A5.out 1 rfl, At.at A5.out 2 rfl, At.at A5.out 3 rfl, trivial⟩
            have D6 := (S5.2.1 (w.heap.size + 1 + 1 + 1 + 1) (by omega)).trans D5.out
            have S6 := store_low (v1 := .int .u64 (loW (u + 1) : Int)) D6
            have A7 := At.other S6.2.1 (by simp; omega) A6
            have D7 := (S6.2.1 (w.heap.size + 1 + 1 + 1 + 1 + 1) (by omega)).trans S5.1
            exact ⟨S6.2.2 w (by omega) (S5.2.2 w (by omega) E5.out), j, (j : Int) - 1, by omega, by omega, rfl, Lib.hid (by rw [PS.out.1, PS.out.2]; exact ⟨At.at A7 0 rfl, At.at A7 1 rfl, At.at A7 2 rfl, At.at A7 3 rfl, by show _ = some (Obj.cells #[.int .u64 (hiW (u + 1) : Int), _] _); rw [HH.out]; exact S6.1, D7, trivial⟩)⟩
          case measure => simp [intOf]
    · obtain rfl : k = 0 := by omega
      obtain ⟨m0, m1, m2, m3, m4, m5, -⟩ := hA.out
      obtain rfl : v = -1 := by omega
      rw [show x / 2 ^ 0 = x by simp] at m4 m5
      obtain ⟨y0, y1, y2, y3⟩ := run_pair m2
      obtain ⟨z0, z1, z2, z3⟩ := run_pair m3
      obtain ⟨g0, g1, g2, g3⟩ := run_pair m4
      obtain ⟨i0, i1, i2, i3⟩ := run_pair m5
      have M2 := Lib.hid m2
      have M3 := Lib.hid m3
      clear m0 m1 m2 m3 m4 m5 hA
      go_wp2
      go_region_held3 (fun w' => w'.cell? ⟨w.heap.size + 1 + 1 + 1 + 1, 0, none⟩ = some (.int .u64 (hiW (x / b) : Int)) ∧ w'.cell? ⟨w.heap.size + 1 + 1 + 1 + 1, 1, none⟩ = some (.int .u64 (loW (x / b) : Int)) ∧ w'.cell? ⟨w.heap.size + 1 + 1 + 1 + 1 + 1, 0, none⟩ = some (.int .u64 (hiW (x % b) : Int)) ∧ w'.cell? ⟨w.heap.size + 1 + 1 + 1 + 1 + 1, 1, none⟩ = some (.int .u64 (loW (x % b) : Int))) (go_keep) (fail)
      all_goals go_wp2
      have S2 := store_pair (v0 := .int .u64 (hiW (x / b) : Int)) (v1 := .int .u64 (loW (x / b) : Int)) M2.out
      have N3 := (S2.2.1 (w.heap.size + 1 + 1 + 1) (by omega)).trans M3.out
      have S3 := store_pair (v0 := .int .u64 (hiW (x % b) : Int)) (v1 := .int .u64 (loW (x % b) : Int)) N3
      have N2 := (S3.2.1 (w.heap.size + 1 + 1) (by omega)).trans S2.1
      have EE := S3.2.2 w (by omega) (S2.2.2 w (by omega) hE)
      refine bodyPost_ret (results_rows2 rfl _ _ (w.heap.size + 1 + 1) 106 #[.int .u64 (hiW (x / b) : Int), .int .u64 (loW (x / b) : Int)] (0, 0) _ rfl (drew_blk2 N2) Tryd.underlying106 rfl info_wide (w.heap.size + 1 + 1 + 1) 106 #[.int .u64 (hiW (x % b) : Int), .int .u64 (loW (x % b) : Int)] (0, 0) _ rfl (drew_blk2 S3.1) Tryd.underlying106 rfl info_wide) rfl ?_
      exact ⟨rfl, EE.drew⟩
end Go.Proofs.YtodoimeiklilhaaDoor

/- The walks of the reference's 'common' and 'Valid'. -/
namespace Go.Proofs.YtodoimeiklilhaaDoor
open Go.RowKit Go.Sort

def W127 (n : Nat) : Prop := n < 170141183460469231731687303715884105728
theorem At.alloc {w : World} {l : List (Nat × Obj)} (h : At w l) (o : Obj) : At (w.alloc o) l := h.ext ((Ext.refl w).alloc o)
def wordAt (w : World) (b o : Nat) : Nat := match w.cell? ⟨b, o, none⟩ with
  | some (.int _ h) => h.toNat
  | _ => 0
def wideAt (w : World) (b : Nat) : Nat := wordAt w b 0 * 18446744073709551616 + wordAt w b 1
theorem wideAt_eq {w : World} {b n : Nat} (h : w.heap[b]? = some (wideO n)) : wideAt w b = n := by
  obtain ⟨c0, c1, -, -⟩ := run_pair h
  unfold wideAt wordAt
  rw [c0, c1]
  simp only [Int.toNat_natCast]
  exact pair_eta n
theorem hiW_zero {n : Nat} : (hiW n : Int) = 0 ∧ (loW n : Int) = 0 ↔ n = 0 := by unfold hiW loW; omega
set_option maxRecDepth 100000 in
set_option maxHeartbeats 4000000 in
theorem r_common (a b : Nat) (ha : W128 a) (hb : W127 b) (w : World) :
    Calls Tryd.prog 85 #[pairV a, pairV b] w fun e w' => e = .returned (pairV (Nat.gcd a b)) ∧ Ext w w' := by
  have HA := Lib.hid ha
  have HB := Lib.hid hb
  clear ha hb
  go_enter Tryd.func85, Tryd.ntmps85
  go_wp2
  go_loopw [5] (fun _ wr => Ext w wr ∧ ∃ (m n : Nat), Hid (At wr [(w.heap.size, wideO m), (w.heap.size + 1, wideO n), (w.heap.size + 1 + 1, wideO 0)]) ∧ Hid (Nat.gcd m n = Nat.gcd a b) ∧ Hid (W128 m) ∧ Hid (W127 n)) (fun _ wr => wideAt wr (w.heap.size + 1))
  case atStart => exact ⟨(by repeat (first | exact Ext.refl _ | assumption | refine Ext.alloc ?_ _ | refine Ext.drewN ?_ _ | refine ext_grow ?_ _ _ | refine Ext.setCell ?_ (by first | exact Nat.le_refl _ | omega | (simp; done) | (simp; omega)) _ | refine Ext.trans ?_ (by assumption))), a, b, Lib.hid (by repeat (first | exact trivial | (refine ⟨(by repeat (first | (refine blk_at _ _ ?_; (first | rfl | (simp only [size_one]; done))) | refine (blk_past _ _ (by simp only [size_one]; omega)).trans ?_)), ?_⟩))), Lib.hid rfl, HA, HB⟩
  case round =>
    obtain ⟨hE, m, n, hA, hg, hm, hn⟩ := hrel
    obtain ⟨a0, a1, a2, a3⟩ := run_pair (At.at hA.out 0 rfl)
    obtain ⟨b0, b1, b2, b3⟩ := run_pair (At.at hA.out 1 rfl)
    by_cases h0 : n = 0
    · subst h0
      obtain ⟨c0, c1, c2, c3⟩ := run_pair (At.at hA.out 2 rfl)
      have z0 : ((hiW 0 : Int) == 0) = true := rfl
      have z1 : ((loW 0 : Int) == 0) = true := rfl
      go_wp2
      have S2 := store_pair (v0 := .int .u64 (hiW m : Int)) (v1 := .int .u64 (loW m : Int)) (At.at hA.out 2 rfl)
      have eg : m = Nat.gcd a b := by have := hg.out; rwa [Nat.gcd_zero_right] at this
      subst eg
      refine bodyPost_ret (RT.results_row1 rfl _ _ (w.heap.size + 1 + 1) 106 _ (0, 0) _ rfl S2.1 Tryd.underlying106 rfl info_wide) rfl ?_
      exact ⟨rfl, S2.2.2 w (by omega) hE⟩
    · have CP := Lib.hid (fun w => r_parted m n hm.out (by omega) hn.out w)
      have H0 := Lib.hid h0
      have tt : (((hiW n : Int) == 0) = false) ∨ (((hiW n : Int) == 0) = true ∧ ((loW n : Int) == 0) = false) := by
        by_cases hh : hiW n = 0
        · refine Or.inr ⟨by simpa using hh, ?_⟩
          have : loW n ≠ 0 := fun k => h0 (hiW_zero.1 ⟨by omega, by omega⟩)
          simpa using this
        · exact Or.inl (by simpa using hh)
      clear h0
      rcases tt with t0 | ⟨t0, t1⟩
      all_goals
        go_wp2_with (go_at_call 79; with_reducible refine (CP.out _).mono ?_; rintro e w3 ⟨rfl, hb3⟩; have A3 := Lib.hid (At.ext hb3 hA.out); have E3 := Lib.hid (hE.trans hb3); have hc3 := hb3.cell; have hf3 := hb3.frozen; have hz3 := hb3.size; obtain ⟨x0, x1, x2, x3⟩ := run_pair (At.at A3.out 0 rfl); obtain ⟨x4, x5, x6, x7⟩ := run_pair (At.at A3.out 1 rfl); have v0 : w.heap.size < w3.heap.size := World.block_lt_of_cell? _ _ x0; have v1 : w.heap.size + 1 < w3.heap.size := World.block_lt_of_cell? _ _ x4)
        go_roundw
        case rel =>
          have S0 := store_pair (v0 := .int .u64 (hiW n : Int)) (v1 := .int .u64 (loW n : Int)) (At.at A3.out 0 rfl)
          have A4 := At.other S0.2.1 (l := [(w.heap.size + 1, wideO n), (w.heap.size + 1 + 1, wideO 0)]) (by simp; omega) ⟨At.at A3.out 1 rfl, At.at A3.out 2 rfl, trivial⟩
          have S1 := store_pair (v0 := .int .u64 (hiW (m % n) : Int)) (v1 := .int .u64 (loW (m % n) : Int)) (At.at A4 0 rfl)
          have A5 := At.other S1.2.1 (l := [(w.heap.size, wideO n), (w.heap.size + 1 + 1, wideO 0)]) (by simp) ⟨S0.1, At.at A4 1 rfl, trivial⟩
          have A6 : At _ [(w.heap.size, wideO n), (w.heap.size + 1, wideO (m % n)), (w.heap.size + 1 + 1, wideO 0)] := ⟨At.at A5 0 rfl, S1.1, At.at A5 1 rfl, trivial⟩
          exact ⟨((S1.2.2 w (by omega) (S0.2.2 w (by omega) E3.out)).alloc _).alloc _, n, m % n, Lib.hid ((A6.alloc _).alloc _), Lib.hid ((gcd_step rfl).trans hg.out), Lib.hid (by have := hn.out; unfold W127 at this; unfold W128; omega), Lib.hid (Nat.lt_trans (Nat.mod_lt _ (by have := H0.out; omega)) hn.out)⟩
        case measure =>
          have S0 := store_pair (v0 := .int .u64 (hiW n : Int)) (v1 := .int .u64 (loW n : Int)) (At.at A3.out 0 rfl)
          have A4 := At.other S0.2.1 (l := [(w.heap.size + 1, wideO n), (w.heap.size + 1 + 1, wideO 0)]) (by simp; omega) ⟨At.at A3.out 1 rfl, At.at A3.out 2 rfl, trivial⟩
          have S1 := store_pair (v0 := .int .u64 (hiW (m % n) : Int)) (v1 := .int .u64 (loW (m % n) : Int)) (At.at A4 0 rfl)
          rw [wideAt_eq (At.at hA.out 1 rfl), wideAt_eq (At.at (((show At _ [(w.heap.size + 1, wideO (m % n))] from ⟨S1.1, trivial⟩).alloc _).alloc _) 0 rfl)]
          exact Nat.mod_lt _ (by have := H0.out; omega)
set_option maxRecDepth 100000 in
set_option maxHeartbeats 4000000 in
theorem r_Valid (a : Frac) (ha : a.wide) (w : World) :
    Calls Tryd.prog 50 #[fracV a] w fun e w' => e = .returned (.bool (decide a.ok)) ∧ Ext w w' := by
  obtain ⟨n, d⟩ := a
  obtain ⟨hn, hd⟩ := ha
  simp only at hn hd
  obtain ⟨k, hk⟩ : ∃ k, decide (Frac.ok ⟨n, d⟩) = k := ⟨_, rfl⟩
  rw [hk]
  have HK := Lib.hid (show (k = true ↔ ¬ d < 1 ∧ ¬ 4611686018427387903 < d ∧ ¬ n < -4611686018427387903 ∧ ¬ 4611686018427387903 < n ∧ gcdOf ⟨n, d⟩ = 1) by rw [← hk, decide_eq_true_eq]; exact Frac.ok_iff ⟨n, d⟩)
  have cn := fun w => r_size n hn w
  have cd := fun w => r_size d hd w
  have wn : n.natAbs ≤ 9223372036854775808 := by unfold InI64 at hn; omega
  have wd : d.natAbs ≤ 9223372036854775808 := by unfold InI64 at hd; omega
  clear hk hn hd
  by_cases h1 : d < 1
  · obtain rfl : k = false := by cases k with
      | false => rfl
      | true => exact absurd h1 (HK.out.1 rfl).1
    clear HK cn cd wn wd
    go_enter Tryd.func50, Tryd.ntmps50
    go_wp2
    go_ret
    exact ⟨rfl, (by repeat (first | exact Ext.refl _ | assumption | refine Ext.alloc ?_ _ | refine Ext.drewN ?_ _ | refine ext_grow ?_ _ _ | refine Ext.setCell ?_ (by first | exact Nat.le_refl _ | omega | (simp; done) | (simp; omega)) _ | refine Ext.trans ?_ (by assumption)))⟩
  by_cases h2 : 4611686018427387903 < d
  · obtain rfl : k = false := by cases k with
      | false => rfl
      | true => exact absurd h2 (HK.out.1 rfl).2.1
    clear HK cn cd wn wd
    go_enter Tryd.func50, Tryd.ntmps50
    go_wp2
    go_ret
    exact ⟨rfl, (by repeat (first | exact Ext.refl _ | assumption | refine Ext.alloc ?_ _ | refine Ext.drewN ?_ _ | refine ext_grow ?_ _ _ | refine Ext.setCell ?_ (by first | exact Nat.le_refl _ | omega | (simp; done) | (simp; omega)) _ | refine Ext.trans ?_ (by assumption)))⟩
  by_cases h3 : n < -4611686018427387903
  · obtain rfl : k = false := by cases k with
      | false => rfl
      | true => exact absurd h3 (HK.out.1 rfl).2.2.1
    clear HK cn cd wn wd
    go_enter Tryd.func50, Tryd.ntmps50
    go_wp2
    go_ret
    exact ⟨rfl, (by repeat (first | exact Ext.refl _ | assumption | refine Ext.alloc ?_ _ | refine Ext.drewN ?_ _ | refine ext_grow ?_ _ _ | refine Ext.setCell ?_ (by first | exact Nat.le_refl _ | omega | (simp; done) | (simp; omega)) _ | refine Ext.trans ?_ (by assumption)))⟩
  by_cases h4 : 4611686018427387903 < n
  · obtain rfl : k = false := by cases k with
      | false => rfl
      | true => exact absurd h4 (HK.out.1 rfl).2.2.2.1
    clear HK cn cd wn wd
    go_enter Tryd.func50, Tryd.ntmps50
    go_wp2
    go_ret
    exact ⟨rfl, (by repeat (first | exact Ext.refl _ | assumption | refine Ext.alloc ?_ _ | refine Ext.drewN ?_ _ | refine ext_grow ?_ _ _ | refine Ext.setCell ?_ (by first | exact Nat.le_refl _ | omega | (simp; done) | (simp; omega)) _ | refine Ext.trans ?_ (by assumption)))⟩
  have cg := fun w => r_common n.natAbs d.natAbs (by unfold W128; omega) (by unfold W127; omega) w
  have en : ∀ m : Nat, m ≤ 9223372036854775808 → pairV m = .agg #[.int .u64 0, .int .u64 (m : Int)] := by
    intro m hm
    have e1 : hiW m = 0 := by unfold hiW; omega
    have e2 : loW m = m := by unfold loW; omega
    unfold pairV
    rw [e1, e2]; rfl
  have gd : Nat.gcd n.natAbs d.natAbs ≤ 9223372036854775808 := Nat.le_trans (Nat.gcd_le_right _ (by omega)) wd
  rw [en _ wn, en _ wd, en _ gd] at cg
  have HG := Lib.hid (show (k = true ↔ Nat.gcd n.natAbs d.natAbs = 1) by
    rw [HK.out]; exact ⟨fun h => h.2.2.2.2, fun h => ⟨h1, h2, h3, h4, h⟩⟩)
  obtain ⟨g, hg⟩ : ∃ g, Nat.gcd n.natAbs d.natAbs = g := ⟨_, rfl⟩
  rw [hg] at cg HG
  obtain ⟨n', hn'⟩ : ∃ n', n.natAbs = n' := ⟨_, rfl⟩
  obtain ⟨d', hd'⟩ : ∃ d', d.natAbs = d' := ⟨_, rfl⟩
  rw [hn'] at cn cg
  rw [hd'] at cd cg
  have CN := Lib.hid cn
  have CD := Lib.hid cd
  have CG := Lib.hid cg
  clear hg hn' hd' cn cd cg en gd wn wd HK
  have zw : w.heap.size < (w.alloc (.cells #[.int .i64 n, .int .i64 d] 23)).heap.size := by rw [size_one]; omega
  by_cases hg1 : g = 1
  · have t5 : ((g : Int) == 1) = true := by simp; omega
    obtain rfl : k = true := HG.out.2 hg1
    clear hg1 HG
    go_enter Tryd.func50, Tryd.ntmps50
    go_wp2
    refine wp_region_quiet_below (by kernel_rfl) (by kernel_rfl) ?_; (repeat (go_big_quiet_step ((first | (go_at_call 81; with_reducible exact Calls.ext_of (CN.out _)) | (go_at_call 81; with_reducible exact Calls.ext_of (CD.out _)) | (go_at_call 85; with_reducible exact Calls.ext_of (CG.out _)))))); refine wpQuiet_nil ?_; intro _ hw'; obtain ⟨⟨dq, osq⟩, hw''⟩ := hw'; subst hw''
    go_wp2
    go_ret
    exact ⟨rfl, (by repeat (first | exact Ext.refl _ | assumption | refine Ext.alloc ?_ _ | refine Ext.drewN ?_ _ | refine ext_grow ?_ _ _ | refine Ext.setCell ?_ (by first | exact Nat.le_refl _ | omega | (simp; done) | (simp; omega)) _ | refine Ext.trans ?_ (by assumption)))⟩
  · have t5 : ((g : Int) == 1) = false := by simp; omega
    obtain rfl : k = false := by cases k with
      | false => rfl
      | true => exact absurd (HG.out.1 rfl) hg1
    clear hg1 HG
    go_enter Tryd.func50, Tryd.ntmps50
    go_wp2
    refine wp_region_quiet_below (by kernel_rfl) (by kernel_rfl) ?_; (repeat (go_big_quiet_step ((first | (go_at_call 81; with_reducible exact Calls.ext_of (CN.out _)) | (go_at_call 81; with_reducible exact Calls.ext_of (CD.out _)) | (go_at_call 85; with_reducible exact Calls.ext_of (CG.out _)))))); refine wpQuiet_nil ?_; intro _ hw'; obtain ⟨⟨dq, osq⟩, hw''⟩ := hw'; subst hw''
    go_wp2
    go_ret
    exact ⟨rfl, (by repeat (first | exact Ext.refl _ | assumption | refine Ext.alloc ?_ _ | refine Ext.drewN ?_ _ | refine ext_grow ?_ _ _ | refine Ext.setCell ?_ (by first | exact Nat.le_refl _ | omega | (simp; done) | (simp; omega)) _ | refine Ext.trans ?_ (by assumption)))⟩
end Go.Proofs.YtodoimeiklilhaaDoor

/- More on blocks and what lies in them. -/
namespace Go.Proofs.YtodoimeiklilhaaDoor
open Go.RowKit Go.Sort
theorem At.lt {w : World} {l : List (Nat × Obj)} (h : At w l) (i : Nat) {k : Nat} {o : Obj} (e : l[i]? = some (k, o)) : k < w.heap.size := (Array.getElem?_eq_some_iff.1 (At.at h i e)).1
theorem At.erase {w : World} : ∀ {l : List (Nat × Obj)} (h : At w l) (i : Nat), At w (l.eraseIdx i)
  | [], _, _ => trivial
  | (_, _) :: _, h, 0 => h.2
  | (_, _) :: _, h, i + 1 => ⟨h.1, At.erase h.2 i⟩
theorem ext_of_regrown {w w' : World} {p : Regrown} (h : w' = grow (redrawn w p.d) p.os) : Ext w w' := h ▸ Ext.grow _ _ _
theorem At.drew {w : World} {l : List (Nat × Obj)} (h : At w l) : At w.drew l := At.ext ((Ext.refl w).drew) h
end Go.Proofs.YtodoimeiklilhaaDoor
