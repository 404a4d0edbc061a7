/- Joined from the parts ImgSpec, ImgFn, ByteFn, DrawFn, DataFn, GlyphFn, BlankFn, SeenPlain, PaintedFn, MarkedFn, GrownT, NearPlain, NearFn, DigitC. -/
import Derived.Test.YtlnofbdhamingaaDoorBase
import Derived.Test.YtlnofbdhamingaaDoorProg
import Derived.Test.YtlnofbdhamingaaDoorArgs
import Derived.Test.YtlnofbdhamingaaDoorBlocks
import Derived.Test.YtlnofbdhamingaaDoorCells
import Derived.Test.YtlnofbdhamingaaDoorBytes
import Derived.Test.YtlnofbdhamingaaDoorAppend
import Derived.WalkSpells
import Derived.OwnWalk
import Derived.OneCell
import Derived.Deep.MidRow
import Derived.Deep.WholeRow
set_option linter.unusedVariables false
set_option linter.unusedSimpArgs false
/- Images as plain data. No program in sight. -/
namespace Go.Proofs.YtlnofbdhamingaaDoor
open Go.RowKit Go.Sort

structure Img where
  w : Int
  h : Int
  pix : List Int

def Img.Sized (m : Img) : Prop := (1 ≤ m.w ∧ m.w ≤ 16) ∧ (1 ≤ m.h ∧ m.h ≤ 16) ∧ (m.pix.length : Int) = m.w * m.h
instance (m : Img) : Decidable m.Sized := by unfold Img.Sized; infer_instance
/-- all numbers lie in a range -/
def allIn (lo hi : Int) (l : List Int) : Prop := ∀ n ∈ l, lo ≤ n ∧ n ≤ hi
instance (lo hi : Int) (l : List Int) : Decidable (allIn lo hi l) := by unfold allIn; infer_instance
def Img.Valid (m : Img) : Prop := m.Sized ∧ allIn (-2147483648) 2147483648 m.pix
instance (m : Img) : Decidable m.Valid := by unfold Img.Valid; infer_instance
def Img.Camera (m : Img) : Prop := m.Sized ∧ allIn 0 255 m.pix
instance (m : Img) : Decidable m.Camera := by unfold Img.Camera; infer_instance
theorem Img.camera_iff (m : Img) : m.Camera ↔ m.Valid ∧ allIn 0 255 m.pix := by
  unfold Img.Camera Img.Valid
  constructor
  · rintro ⟨h1, h2⟩
    exact ⟨⟨h1, fun n hn => by have := h2 n hn; omega⟩, h2⟩
  · rintro ⟨⟨h1, _⟩, h2⟩
    exact ⟨h1, h2⟩
theorem Img.len_bd {m : Img} (h : m.Sized) : 1 ≤ m.pix.length ∧ m.pix.length ≤ 256 := by
  obtain ⟨⟨h1, h2⟩, ⟨h3, h4⟩, h5⟩ := h
  have a : 1 * 1 ≤ m.w * m.h := Int.mul_le_mul h1 h3 (by omega) (by omega)
  have b : m.w * m.h ≤ 16 * 16 := Int.mul_le_mul h2 h4 (by omega) (by omega)
  omega
def Img.In (m : Img) (x y : Int) : Prop := (0 ≤ x ∧ x ≤ m.w - 1) ∧ (0 ≤ y ∧ y ≤ m.h - 1)
instance (m : Img) (x y : Int) : Decidable (m.In x y) := by unfold Img.In; infer_instance
def Img.at (m : Img) (x y : Int) : Int := m.pix.getD (y * m.w + x).toNat 0
theorem Img.idx {m : Img} (h : m.Sized) {x y : Int} (hi : m.In x y) : 0 ≤ y * m.w + x ∧ y * m.w + x < m.pix.length ∧ y * m.w ≤ 240 ∧ 0 ≤ y * m.w := by
  obtain ⟨⟨h1, h2⟩, ⟨h3, h4⟩, h5⟩ := h
  obtain ⟨⟨a1, a2⟩, b1, b2⟩ := hi
  have e0 : 0 ≤ y * m.w := Int.mul_nonneg b1 (by omega)
  have e1 : y * m.w ≤ (m.h - 1) * m.w := Int.mul_le_mul_of_nonneg_right b2 (by omega)
  have e2 : (m.h - 1) * m.w = m.w * m.h - m.w := by rw [Int.sub_mul, Int.mul_comm m.h, Int.one_mul]
  have e3 : y * m.w ≤ 15 * 16 := Int.mul_le_mul (by omega) h2 (by omega) (by omega)
  omega
theorem Img.at_bd {m : Img} (h : m.Camera) {x y : Int} (hi : m.In x y) : 0 ≤ m.at x y ∧ m.at x y ≤ 255 := by
  have hx := Img.idx h.1 hi
  refine h.2 _ ?_
  unfold Img.at
  rw [List.getD_eq_getElem?_getD, List.getElem?_eq_getElem (by omega)]
  exact List.getElem_mem _

end Go.Proofs.YtlnofbdhamingaaDoor

/- Numbers in ranges, valid images: the program's functions. -/
namespace Go.Proofs.YtlnofbdhamingaaDoor
open Go.RowKit Go.Sort

def imgVal (m : Img) (v : Value) : Value := .agg #[.int .i64 m.w, .int .i64 m.h, v]
theorem IntsAt.form {w : World} {v : Value} {l : List Int} (h : IntsAt w v l) : ∃ ao cap, v = .slice ao l.length cap ∧ (l.length ≤ cap ∧ cap ≤ maxLen) ∧ ∀ j, j < l.length → ∃ b off, ao = some ⟨b, off, none⟩ ∧ w.cell? ⟨b, off + j, none⟩ = some (.int .i64 (l.getD j 0)) := by
  obtain ⟨-, ao, cap, e, h1, h2, -, hc⟩ := h
  exact ⟨ao, cap, e, ⟨h1, h2⟩, fun j hj => hc j _ (ints_get hj)⟩
theorem allIn_snoc {lo hi : Int} {l : List Int} {k : Nat} (hk : k < l.length) : allIn lo hi (l.take (k + 1)) ↔ allIn lo hi (l.take k) ∧ lo ≤ l.getD k 0 ∧ l.getD k 0 ≤ hi := by
  rw [List.take_succ_eq_append_getElem hk, List.getD_eq_getElem?_getD, List.getElem?_eq_getElem hk]
  unfold allIn
  constructor
  · intro h
    exact ⟨fun n hn => h n (List.mem_append_left _ hn), h _ (List.mem_append_right _ (List.mem_singleton.2 rfl))⟩
  · rintro ⟨h1, h2⟩ n hn
    rcases List.mem_append.1 hn with h9 | h9
    · exact h1 n h9
    · simp at h9; subst h9; exact h2
theorem allIn_not {lo hi : Int} {l : List Int} {k : Nat} (hk : k < l.length) (h : ¬ (lo ≤ l.getD k 0 ∧ l.getD k 0 ≤ hi)) : ¬ allIn lo hi l := fun h9 => h (h9 _ (by
  rw [List.getD_eq_getElem?_getD, List.getElem?_eq_getElem hk]; exact List.getElem_mem hk))
set_option maxHeartbeats 1000000 in
theorem within_same (lo hi : Int) (v : Value) (l : List Int) (w : World) (hv : IntsAt w v l) (hl : l.length ≤ maxLen) :
    Calls Tryd.prog 124 #[.int .i64 lo, .int .i64 hi, v] w fun e w' => e = .returned (.bool (decide (allIn lo hi l))) ∧ w = w' := by
  unfold maxLen at hl
  obtain ⟨ao, cap, rfl, -, hc⟩ := hv.form
  have HC := Lib.hid hc
  clear hc hv
  go_enter Tryd.func124, Tryd.ntmps124
  go_wp2
  go_loop [11] (fun i => ∃ k : Nat, k ≤ l.length ∧ i = .int .i64 (k : Int) ∧ Hid (allIn lo hi (l.take k))) (fun i => l.length - (intOf i).toNat)
  case atStart => exact ⟨0, Nat.zero_le _, rfl, Lib.hid (fun n hn => by simp at hn)⟩
  case round =>
    obtain ⟨k, hk, rfl, hI⟩ := hrel
    by_cases hkl : k < l.length
    · obtain ⟨b, off, rfl, c0⟩ := HC.out k hkl
      obtain ⟨x, hx⟩ : ∃ x, l.getD k 0 = x := ⟨_, rfl⟩
      rw [hx] at c0
      have HX := Lib.hid hx
      clear hx
      by_cases h1 : x < lo
      · go_wp2
        go_ret
        exact ⟨ret_bool (decide_eq_false (allIn_not hkl (by rw [HX.out]; omega))).symm, rfl⟩
      · by_cases h2 : hi < x
        · go_wp2
          go_ret
          exact ⟨ret_bool (decide_eq_false (allIn_not hkl (by rw [HX.out]; omega))).symm, rfl⟩
        · go_wp2
          go_round
          case rel => exact ⟨k + 1, by omega, by go_num, Lib.hid ((allIn_snoc hkl).2 ⟨hI.out, by rw [HX.out]; omega⟩)⟩
          case measure => simp [intOf]; omega
    · go_wp2
      go_ret
      have := hI.out
      rw [List.take_of_length_le (by omega)] at this
      exact ⟨ret_bool (decide_eq_true this).symm, rfl⟩
theorem within_walk (lo hi : Int) (v : Value) (l : List Int) (w : World) (hv : IntsAt w v l) (hl : l.length ≤ maxLen) :
    Calls Tryd.prog 124 #[.int .i64 lo, .int .i64 hi, v] w fun e w' => e = .returned (.bool (decide (allIn lo hi l))) ∧ Ext w w' :=
  (within_same lo hi v l w hv hl).mono fun _ _ ⟨h1, h2⟩ => ⟨h1, h2 ▸ Ext.refl _⟩
/-- of one number, of two: a slice that the call itself has just laid -/
theorem one_at (w : World) (k : Nat) (hk : k = w.heap.size) (x : Int) : IntsAt (w.alloc (.cells #[.int .i64 x] 3)) (.slice (some ⟨k, 0, none⟩) 1 1) [x] := by
  subst hk
  exact SlAt.of_owns (owns_lit w (ints [x]) 3 1 1 0 (Nat.zero_le _) (by unfold maxLen; omega) rfl)
theorem two_at (w : World) (k : Nat) (hk : k = w.heap.size) (x y : Int) : IntsAt (w.alloc (.cells #[.int .i64 x, .int .i64 y] 3)) (.slice (some ⟨k, 0, none⟩) 2 2) [x, y] := by
  subst hk
  exact SlAt.of_owns (owns_lit w (ints [x, y]) 3 2 1 0 (Nat.zero_le _) (by unfold maxLen; omega) rfl)
theorem within_one (lo hi x : Int) (k : Nat) (w : World) (hk : k = w.heap.size) :
    Calls Tryd.prog 124 #[.int .i64 lo, .int .i64 hi, .slice (some ⟨k, 0, none⟩) 1 1] (w.alloc (.cells #[.int .i64 x] 3)) fun e w' => e = .returned (.bool (decide (lo ≤ x ∧ x ≤ hi))) ∧ Ext (w.alloc (.cells #[.int .i64 x] 3)) w' := by
  refine (within_walk lo hi _ [x] _ (one_at w k hk x) (by simp [maxLen])).mono ?_
  rintro e w' ⟨rfl, h⟩
  exact ⟨ret_bool (by simp [allIn]), h⟩
theorem within_two (lo hi x y : Int) (k : Nat) (w : World) (hk : k = w.heap.size) :
    Calls Tryd.prog 124 #[.int .i64 lo, .int .i64 hi, .slice (some ⟨k, 0, none⟩) 2 2] (w.alloc (.cells #[.int .i64 x, .int .i64 y] 3)) fun e w' => e = .returned (.bool (decide ((lo ≤ x ∧ x ≤ hi) ∧ lo ≤ y ∧ y ≤ hi))) ∧ Ext (w.alloc (.cells #[.int .i64 x, .int .i64 y] 3)) w' := by
  refine (within_walk lo hi _ [x, y] _ (two_at w k hk x y) (by simp [maxLen])).mono ?_
  rintro e w' ⟨rfl, h⟩
  exact ⟨ret_bool (by simp [allIn]), h⟩
set_option maxHeartbeats 1000000 in
theorem mul_side {a b : Int} (h : (1 ≤ a ∧ a ≤ 16) ∧ 1 ≤ b ∧ b ≤ 16) : 1 ≤ a * b ∧ a * b ≤ 256 := by
  have h1 : 1 * 1 ≤ a * b := Int.mul_le_mul h.1.1 h.2.1 (by omega) (by omega)
  have h2 : a * b ≤ 16 * 16 := Int.mul_le_mul h.1.2 h.2.2 (by omega) (by omega)
  omega
set_option maxHeartbeats 2000000 in
theorem c_imgvalid (m : Img) (v : Value) (w : World) (hv : IntsAt w v m.pix) (hl : m.pix.length ≤ maxLen) :
    Calls Tryd.prog 105 #[imgVal m v] w fun e w' => e = .returned (.bool (decide m.Valid)) ∧ Ext w w' := by
  have HV := Lib.hid hv
  obtain ⟨ao, cap, rfl, -, -⟩ := hv.form
  have hlm : m.pix.length ≤ 9223372036854775807 := hl
  unfold imgVal
  clear hv
  by_cases hs : (1 ≤ m.w ∧ m.w ≤ 16) ∧ 1 ≤ m.h ∧ m.h ≤ 16
  · obtain ⟨p1, p2⟩ := mul_side hs
    have q1 : decide ((1 ≤ m.w ∧ m.w ≤ 16) ∧ 1 ≤ m.h ∧ m.h ≤ 16) = true := decide_eq_true hs
    have HS := Lib.hid hs
    clear hs
    by_cases hn : (m.pix.length : Int) = m.w * m.h
    · have q2 : ((m.pix.length : Int) == m.w * m.h) = true := by simpa using hn
      have HN := Lib.hid hn
      clear hn
      go_enter Tryd.func105, Tryd.ntmps105
      go_wp2_with (first | (have _q := hb; go_at_call 124; (with_reducible refine (within_walk _ _ _ m.pix _ (HV.out.ext (by repeat (first | exact Ext.refl _ | assumption | refine Ext.alloc ?_ _ | refine Ext.drewN ?_ _ | refine ext_grow ?_ _ _ | refine Ext.trans ?_ (by assumption)))) hl).mono ?_); rintro e w2 ⟨rfl, hb2⟩) | (go_at_call 124; (with_reducible refine (within_two _ _ _ _ _ _ (by simp)).mono ?_); rintro e w1 ⟨rfl, hb⟩; have hc := hb.cell; have hf := hb.frozen; have hz := hb.size))
      go_ret
      exact ⟨ret_bool (decide_eq_decide.2 ⟨fun h => ⟨⟨HS.out.1, HS.out.2, HN.out⟩, h⟩, fun h => h.2⟩), (by repeat (first | exact Ext.refl _ | assumption | refine Ext.alloc ?_ _ | refine Ext.drewN ?_ _ | refine ext_grow ?_ _ _ | refine Ext.trans ?_ (by assumption)))⟩
    · have q2 : ((m.pix.length : Int) == m.w * m.h) = false := by simpa using hn
      have HN := Lib.hid hn
      clear hn
      go_enter Tryd.func105, Tryd.ntmps105
      go_wp2_with (go_at_call 124; (with_reducible refine (within_two _ _ _ _ _ _ (by simp)).mono ?_); rintro e w1 ⟨rfl, hb⟩; have hc := hb.cell; have hf := hb.frozen; have hz := hb.size)
      go_ret
      exact ⟨ret_bool (decide_eq_false (fun h => HN.out h.1.2.2)).symm, (by repeat (first | exact Ext.refl _ | assumption | refine Ext.alloc ?_ _ | refine Ext.drewN ?_ _ | refine ext_grow ?_ _ _ | refine Ext.trans ?_ (by assumption)))⟩
  · have q1 : decide ((1 ≤ m.w ∧ m.w ≤ 16) ∧ 1 ≤ m.h ∧ m.h ≤ 16) = false := decide_eq_false hs
    have HS := Lib.hid hs
    clear hs
    go_enter Tryd.func105, Tryd.ntmps105
    go_wp2_with (go_at_call 124; (with_reducible refine (within_two _ _ _ _ _ _ (by simp)).mono ?_); rintro e w1 ⟨rfl, hb⟩; have hc := hb.cell; have hf := hb.frozen; have hz := hb.size)
    go_ret
    exact ⟨ret_bool (decide_eq_false (fun h => HS.out ⟨h.1.1, h.1.2.1⟩)).symm, (by repeat (first | exact Ext.refl _ | assumption | refine Ext.alloc ?_ _ | refine Ext.drewN ?_ _ | refine ext_grow ?_ _ _ | refine Ext.trans ?_ (by assumption)))⟩
def checkImg (m : Img) : Int := if m.Valid then 0 else 20
set_option maxHeartbeats 2000000 in
theorem c_imgCheck (m : Img) (v : Value) (w : World) (hv : IntsAt w v m.pix) (hl : m.pix.length ≤ maxLen) :
    Calls Tryd.prog 100 #[imgVal m v] w fun e w' => e = .returned (.int .i64 (checkImg m)) ∧ Ext w w' := by
  have K := Lib.hid (fun w' (h : Ext w w') => c_imgvalid m v w' (hv.ext h) hl)
  obtain ⟨t, ht⟩ : ∃ t, decide m.Valid = t := ⟨_, rfl⟩
  rw [ht] at K
  have HT := Lib.hid ht
  unfold imgVal at K ⊢
  clear hv ht
  cases t
  · go_enter Tryd.func100, Tryd.ntmps100
    go_wp2_with (go_at_call 105; (with_reducible refine (K.out _ (by repeat (first | exact Ext.refl _ | assumption | refine Ext.alloc ?_ _ | refine Ext.drewN ?_ _ | refine ext_grow ?_ _ _ | refine Ext.trans ?_ (by assumption)))).mono ?_); rintro e w1 ⟨rfl, hb⟩)
    go_ret
    exact ⟨ret_int (by unfold checkImg; rw [if_neg (of_decide_eq_false HT.out)]), (by repeat (first | exact Ext.refl _ | assumption | refine Ext.alloc ?_ _ | refine Ext.drewN ?_ _ | refine ext_grow ?_ _ _ | refine Ext.trans ?_ (by assumption)))⟩
  · go_enter Tryd.func100, Tryd.ntmps100
    go_wp2_with (go_at_call 105; (with_reducible refine (K.out _ (by repeat (first | exact Ext.refl _ | assumption | refine Ext.alloc ?_ _ | refine Ext.drewN ?_ _ | refine ext_grow ?_ _ _ | refine Ext.trans ?_ (by assumption)))).mono ?_); rintro e w1 ⟨rfl, hb⟩)
    go_ret
    exact ⟨ret_int (by unfold checkImg; rw [if_pos (of_decide_eq_true HT.out)]), (by repeat (first | exact Ext.refl _ | assumption | refine Ext.alloc ?_ _ | refine Ext.drewN ?_ _ | refine ext_grow ?_ _ _ | refine Ext.trans ?_ (by assumption)))⟩
end Go.Proofs.YtlnofbdhamingaaDoor

/- Bytes in rows of one's own, and what the type of bytes is. -/
namespace Go.Proofs.YtlnofbdhamingaaDoor
open Go.RowKit Go.Sort

theorem info_byte : (Tryd.prog.info? 5).map (fun i => (i.zero, i.size, i.bytes)) = some (some (.int .u8 0), 1, 1) := by kernel_rfl
theorem info_parts3 {o : Option TypeInfo} {z : Option Value} {s b : Nat} (h : o.map (fun i => (i.zero, i.size, i.bytes)) = some (z, s, b)) : ∃ i, o = some i ∧ i.zero = z ∧ i.size = s ∧ i.bytes = b := by
  cases o with
  | none => cases h
  | some i =>
    simp only [Option.map_some, Option.some.injEq, Prod.mk.injEq] at h
    exact ⟨i, rfl, h.1, h.2.1, h.2.2⟩
theorem bytes_oneCell' (l : List Nat) : ∀ u ∈ bytesL l, u.oneCell' = true := by
  intro u hu
  obtain ⟨_, _, rfl⟩ := List.mem_map.1 hu
  rfl
/-- a slice of bytes of the call's own -/
def OwnBytes (l : List Nat) (w : World) (e : Ending) (w' : World) : Prop := ∃ v', e = .returned v' ∧ w'.ownsRow w.heap.size 5 1 v' l.length (bytesL l) ∧ Ext w w'
/-- a row that is filled as far as k -/
def rowK (l : List Nat) (n k : Nat) : List Value := bytesL (l.take k) ++ List.replicate (n - k) (.int .u8 0)
theorem rowK_zero (l : List Nat) (n : Nat) : rowK l n 0 = List.replicate n (.int .u8 0) := by simp [rowK, bytesL]
theorem made_zero (l : List Nat) (n : Nat) : (madeCells (Value.int .u8 0).cells (n * 1)).toList = rowK l n 0 := by
  rw [Nat.mul_one, rowK_zero]
  exact toList_madeCells_one _ _
theorem rowK_full {l : List Nat} : rowK l l.length l.length = bytesL l := by simp [rowK]
theorem rowK_get {l : List Nat} {n k : Nat} (hk : k < n) (hn : n = l.length) : (rowK l n k)[k]? = some (.int .u8 0) := by
  subst hn
  unfold rowK
  have hlen : (bytesL (l.take k)).length = k := by simp [bytesL]; omega
  rw [List.getElem?_append_right (by omega), hlen, Nat.sub_self, List.getElem?_replicate, if_pos (by omega)]
theorem rowK_set {l : List Nat} {n k : Nat} (hk : k < n) (hn : n = l.length) : (rowK l n k).set k (.int .u8 (l.getD k 0 : Nat)) = rowK l n (k + 1) := by
  subst hn
  unfold rowK
  have e : l.take (k + 1) = l.take k ++ [l.getD k 0] := by
    rw [List.take_add_one, List.getElem?_eq_getElem hk, List.getD_eq_getElem?_getD, List.getElem?_eq_getElem hk]; rfl
  have e2 : l.length - k = (l.length - (k + 1)) + 1 := by omega
  rw [e, e2, List.replicate_succ]
  have hlen : (bytesL (l.take k)).length = k := by simp [bytesL]; omega
  rw [List.set_append_right _ _ (by omega), hlen, Nat.sub_self]
  simp [bytesL]
theorem BytesAt.of_owns {w : World} {base : Nat} {e : TypeId} {v : Value} {l : List Nat} (h : w.ownsRow base e 1 v l.length (bytesL l)) : BytesAt w v l := SlAt.of_owns h
theorem BytesAt.some {w : World} {v : Value} {l : List Nat} {n : Nat} (h : BytesAt w v l) (hn : l.length = n) (h0 : 0 < n) :
    ∃ b off cap, v = .slice (some ⟨b, off, none⟩) n cap ∧ ∀ j, j < n → w.cell? ⟨b, off + j, none⟩ = some (.int .u8 ((l.getD j 0 : Nat) : Int)) := by
  subst hn
  rcases h.cases with ⟨h1, -⟩ | ⟨-, b, off, cap, h1, -, -, h2⟩
  · rw [h1] at h0
    exact absurd h0 (Nat.lt_irrefl _)
  · exact ⟨b, off, cap, h1, h2⟩
theorem bytesL_set (l : List Nat) (k x : Nat) : (bytesL l).set k (.int .u8 (x : Int)) = bytesL (l.set k x) := by unfold bytesL; rw [List.map_set]
end Go.Proofs.YtlnofbdhamingaaDoor

/- What marks and lines are drawn with: colours, corners, data modules: the program's and the reference's. -/
namespace Go.Proofs.YtlnofbdhamingaaDoor
open Go.RowKit Go.Sort

def ColOk (s ink paper : Int) : Prop := (1 ≤ s ∧ s ≤ 2) ∧ 0 ≤ ink ∧ ink < paper ∧ paper ≤ 255
instance (s ink paper : Int) : Decidable (ColOk s ink paper) := by unfold ColOk; infer_instance
set_option maxHeartbeats 1000000 in
theorem c_colours (s ink paper : Int) (w : World) : Calls Tryd.prog 76 #[.int .i64 s, .int .i64 ink, .int .i64 paper] w fun e w' => e = .returned (.bool (decide (ColOk s ink paper))) ∧ Ext w w' := by
  go_enter Tryd.func76, Tryd.ntmps76
  go_wp2
  all_goals (go_ret; refine ⟨ret_bool ?_, Ext.refl _⟩; first | (symm; refine decide_eq_false ?_; unfold ColOk; omega) | (refine decide_eq_decide.2 ?_; unfold ColOk; omega))
set_option maxHeartbeats 1000000 in
theorem r_paint (s ink paper : Int) (w : World) : Calls Tryd.prog 78 #[.int .i64 s, .int .i64 ink, .int .i64 paper] w fun e w' => e = .returned (.bool (decide (ColOk s ink paper))) ∧ Ext w w' := by
  go_enter Tryd.func78, Tryd.ntmps78
  go_wp2
  all_goals (go_ret; refine ⟨ret_bool ?_, Ext.refl _⟩; first | (symm; refine decide_eq_false ?_; unfold ColOk; omega) | (refine decide_eq_decide.2 ?_; unfold ColOk; omega))
/-- a corner, and what it is -/
def cornerR (i : Nat) : Nat × Bool := if i = 0 ∨ i = 56 ∨ i = 63 then (1, true) else if i = 7 then (0, true) else (0, false)
set_option maxHeartbeats 2000000 in
theorem r_corner (i : Nat) (w : World) : Calls Tryd.prog 109 #[.int .i64 (i : Int)] w fun e w' => e = .returned (.tuple #[.int .u8 ((cornerR i).1 : Nat), .bool (cornerR i).2]) ∧ Ext w w' := by
  by_cases h0 : i = 0
  · subst h0
    go_enter Tryd.func109, Tryd.ntmps109
    go_wp2
    go_ret2
    exact ⟨rfl, Ext.refl _⟩
  by_cases h1 : i = 56
  · subst h1
    go_enter Tryd.func109, Tryd.ntmps109
    go_wp2
    go_ret2
    exact ⟨rfl, Ext.refl _⟩
  by_cases h2 : i = 63
  · subst h2
    go_enter Tryd.func109, Tryd.ntmps109
    go_wp2
    go_ret2
    exact ⟨rfl, Ext.refl _⟩
  by_cases h3 : i = 7
  · subst h3
    go_enter Tryd.func109, Tryd.ntmps109
    go_wp2
    go_ret2
    exact ⟨rfl, Ext.refl _⟩
  have q0 : ((i : Int) == 0) = false := by rw [beq_eq_false_iff_ne]; omega
  have q1 : ((i : Int) == 56) = false := by rw [beq_eq_false_iff_ne]; omega
  have q2 : ((i : Int) == 63) = false := by rw [beq_eq_false_iff_ne]; omega
  have q3 : ((i : Int) == 7) = false := by rw [beq_eq_false_iff_ne]; omega
  have HC := Lib.hid (show cornerR i = (0, false) by unfold cornerR; rw [if_neg (by omega), if_neg h3])
  clear h0 h1 h2 h3
  go_enter Tryd.func109, Tryd.ntmps109
  go_wp2
  go_ret2
  exact ⟨by rw [HC.out]; rfl, Ext.refl _⟩
end Go.Proofs.YtlnofbdhamingaaDoor

/- The indexes of the data modules: the program's; the modules of a mark: the reference's. -/
namespace Go.Proofs.YtlnofbdhamingaaDoor
open Go.RowKit Go.Sort

theorem info_int : (Tryd.prog.info? 3).map (fun i => (i.zero, i.size, i.bytes)) = some (some (.int .i64 0), 1, 8) := by kernel_rfl
def isData (i : Nat) : Bool := i != 0 && i != 7 && i != 56 && i != 63
def dataK (k : Nat) : List Int := ((List.range k).filter isData).map Int.ofNat
theorem dataK_yes {k : Nat} (h : isData k = true) : dataK (k + 1) = dataK k ++ [(k : Int)] := by
  simp [dataK, List.range_succ, h]
theorem dataK_no {k : Nat} (h : isData k = false) : dataK (k + 1) = dataK k := by
  simp [dataK, List.range_succ, h]
theorem dataK_len (k : Nat) : (dataK k).length ≤ k := by
  unfold dataK
  rw [List.length_map]
  exact Nat.le_trans (List.length_filter_le _ _) (by simp)
theorem dataK_full : (dataK 64).length = 60 := by decide
set_option maxRecDepth 100000 in
set_option maxHeartbeats 4000000 in
theorem c_data (w : World) : Calls Tryd.prog 71 #[] w fun e w' => ∃ v', e = .returned v' ∧ w'.ownsRow w.heap.size 3 1 v' (dataK 64).length (ints (dataK 64)) ∧ Ext w w' := by
  obtain ⟨i0, hi, hz0, hz1, hz2⟩ := info_parts3 info_int
  go_enter Tryd.func71, Tryd.ntmps71
  go_wp2
  go_loopw [1, 2, 3] (fun o _ i wr => ∃ k : Nat, k ≤ 64 ∧ i = .int .i64 (k : Int) ∧ Ext w wr ∧ Hid (wr.ownsRow w.heap.size 3 1 o (dataK k).length (ints (dataK k)))) (fun _ _ i _ => 64 - (intOf i).toNat)
  case atStart => exact ⟨0, by omega, rfl, Ext.refl _, Lib.hid ⟨rfl, .inl ⟨rfl, rfl⟩⟩⟩
  case round =>
    obtain ⟨k, hk, rfl, hE, hO⟩ := hrel
    by_cases hkl : k < 64
    · by_cases hd : isData k = true
      · have hh := hd
        simp only [isData, Bool.and_eq_true, bne_iff_ne] at hh
        have q0 : ((k : Int) != 0) = true := by rw [bne_iff_ne]; omega
        have q1 : ((k : Int) != 7) = true := by rw [bne_iff_ne]; omega
        have q2 : ((k : Int) != 56) = true := by rw [bne_iff_ne]; omega
        have q3 : ((k : Int) != 63) = true := by rw [bne_iff_ne]; omega
        have HY := Lib.hid (dataK_yes hd)
        have hl := dataK_len k
        obtain ⟨ll, hll⟩ : ∃ ll, dataK k = ll := ⟨_, rfl⟩
        rw [hll] at HY hl hO
        have HLL := Lib.hid hll
        clear hd hh hll
        go_wp2_with (at_builtin; refine wpList_append_sl rfl _ _ 42 rfl w.heap.size 3 i0 (.int .i64 0) 1 8 Tryd.underlying42 hi hz0 hz1 hz2 rfl (by omega) u1 ll.length (ints ll) rfl (owns_ext hO.out ((Ext.refl _).alloc _)) _ 1 [.int .i64 (k : Int)] rfl (SlAt.of_owns (owns_lit wr [.int .i64 (k : Int)] 3 1 1 0 (Nat.zero_le _) (by unfold maxLen; omega) rfl)) (ints_oneCell' [(k : Int)]) (by unfold maxLen; omega) (by omega) (hE.alloc _).size ?_; intro v' w' ho hg)
        exact ⟨⟨k + 1, by omega, by go_num, (hE.alloc _).grown hg (fun g hk => (owns_block hO.out g hk).1), Lib.hid (by
          rw [HY.out, List.length_append, show ints (ll ++ [(k : Int)]) = ints ll ++ [.int .i64 (k : Int)] by simp [ints]]
          exact ho)⟩, by simp [intOf]; omega⟩
      · have hd' : isData k = false := by simpa using hd
        have HY := Lib.hid (dataK_no hd')
        have hc : k = 0 ∨ k = 7 ∨ k = 56 ∨ k = 63 := by
          have hh := hd'
          simp only [isData, Bool.and_eq_false_iff, bne_eq_false_iff_eq] at hh
          omega
        clear hd hd'
        rcases hc with rfl | rfl | rfl | rfl
        · go_wp2
          exact ⟨⟨0 + 1, by omega, by first | rfl | go_num, hE, Lib.hid (by rw [HY.out]; exact hO.out)⟩, by simp [intOf]⟩
        · go_wp2
          exact ⟨⟨7 + 1, by omega, by first | rfl | go_num, hE, Lib.hid (by rw [HY.out]; exact hO.out)⟩, by simp [intOf]⟩
        · go_wp2
          exact ⟨⟨56 + 1, by omega, by first | rfl | go_num, hE, Lib.hid (by rw [HY.out]; exact hO.out)⟩, by simp [intOf]⟩
        · go_wp2
          exact ⟨⟨63 + 1, by omega, by first | rfl | go_num, hE, Lib.hid (by rw [HY.out]; exact hO.out)⟩, by simp [intOf]⟩
    · obtain rfl : k = 64 := by omega
      go_wp2
      go_ret
      exact ⟨_, rfl, hO.out, hE⟩
end Go.Proofs.YtlnofbdhamingaaDoor

/- The modules of a digit: the program's. -/
namespace Go.Proofs.YtlnofbdhamingaaDoor
open Go.RowKit Go.Sort

theorem info_arr : (Tryd.prog.info? 112).map (fun i => (i.zero, i.size)) = some (some (.agg (Array.replicate 15 (.int .u8 0))), 15) := by kernel_rfl
def glyphT : List (List Nat) := [[1, 1, 1, 1, 0, 1, 1, 0, 1, 1, 0, 1, 1, 1, 1], [0, 1, 0, 1, 1, 0, 0, 1, 0, 0, 1, 0, 1, 1, 1], [1, 1, 1, 0, 0, 1, 1, 1, 1, 1, 0, 0, 1, 1, 1], [1, 1, 1, 0, 0, 1, 1, 1, 1, 0, 0, 1, 1, 1, 1], [1, 0, 1, 1, 0, 1, 1, 1, 1, 0, 0, 1, 0, 0, 1], [1, 1, 1, 1, 0, 0, 1, 1, 1, 0, 0, 1, 1, 1, 1], [1, 1, 1, 1, 0, 0, 1, 1, 1, 1, 0, 1, 1, 1, 1], [1, 1, 1, 0, 0, 1, 0, 1, 0, 0, 1, 0, 0, 1, 0], [1, 1, 1, 1, 0, 1, 1, 1, 1, 1, 0, 1, 1, 1, 1], [1, 1, 1, 1, 0, 1, 1, 1, 1, 0, 0, 1, 1, 1, 1]]
def glyphR (d : Nat) : List Nat := glyphT.getD d []
theorem glyphR_length : ∀ d, d < 10 → (glyphR d).length = 15 := by decide
theorem glyphR_01 : ∀ d, d < 10 → ∀ x ∈ glyphR d, x ≤ 1 := by decide
def gsign : ByteArray := { data := #[49, 49, 49, 49, 48, 49, 49, 48, 49, 49, 48, 49, 49, 49, 49, 48, 49, 48, 49, 49, 48, 48, 49, 48, 48, 49, 48, 49, 49, 49, 49, 49, 49, 48, 48, 49, 49, 49, 49, 49, 48, 48, 49, 49, 49, 49, 49, 49, 48, 48, 49, 49, 49, 49, 48, 48, 49, 49, 49, 49, 49, 48, 49, 49, 48, 49, 49, 49, 49, 48, 48, 49, 48, 48, 49, 49, 49, 49, 49, 48, 48, 49, 49, 49, 48, 48, 49, 49, 49, 49, 49, 49, 49, 49, 48, 48, 49, 49, 49, 49, 48, 49, 49, 49, 49, 49, 49, 49, 48, 48, 49, 48, 49, 48, 48, 49, 48, 48, 49, 48, 49, 49, 49, 49, 48, 49, 49, 49, 49, 49, 48, 49, 49, 49, 49, 49, 49, 49, 49, 48, 49, 49, 49, 49, 48, 48, 49, 49, 49, 49] }
theorem gsign_list : ((List.range 10).all fun d => (List.range 15).all fun k => (((gsign.data.toList.getD (d * 15 + k) 0).toNat : Int) - 48) % 256 == ((glyphR d).getD k 0 : Nat)) = true := by kernel_rfl
theorem gsign_at (d k : Nat) (hd : d < 10) (hk : k < 15) (h : d * 15 + k < gsign.size) : (((gsign[d * 15 + k]'h).toNat : Int) - 48) % 256 = ((glyphR d).getD k 0 : Nat) := by
  have h1 := List.all_eq_true.1 (List.all_eq_true.1 gsign_list d (List.mem_range.2 hd)) k (List.mem_range.2 hk)
  rw [beq_iff_eq] at h1
  rw [← h1, List.getD_eq_getElem?_getD, List.getElem?_eq_getElem (by rw [Array.length_toList]; exact h)]
  rfl
/-- the result's cells lie in a block of any kind -/
theorem results_cell_mid {P : Program} {fn : Func} {p : Tmp} {ty : TypeId} (h : fn.results = #[.cell p ty]) (tmps : Array Value) (w : World) (g : Nat) (cs : List Value) (d : TypeDesc)
    (hp : tmps.getD p undef = .pointer (some ⟨g, 0, none⟩)) (hc : w.rangeAt g 0 cs)
    (hu : P.underlying ty = some d) (hd : d.isRow = true) (hi : (P.info? ty).map (·.size) = some cs.length) :
    (results fn tmps).run P w = .ok (.agg cs.toArray) w := by
  have hp' : tmps[p]?.getD undef = .pointer (some ⟨g, 0, none⟩) := by simpa using hp
  simp [results, h, hp', asAddr, run_loadVar_mid w g 0 ty cs d hc hu hd hi]
set_option maxRecDepth 100000 in
set_option maxHeartbeats 16000000 in
theorem c_glyph (d : Nat) (hd : d < 10) (w : World) : Calls Tryd.prog 82 #[.int .i64 (d : Int)] w fun e w' => e = .returned (.agg (bytesL (glyphR d)).toArray) ∧ Ext w w' := by
  obtain ⟨z0, z1⟩ := zero_of_info info_arr
  have hgl := glyphR_length d hd
  go_enter Tryd.func82, Tryd.ntmps82
  go_wp2
  have hO1 := owns_ext (owns_lit w (List.replicate 15 (.int .u8 0)) 112 15 1 w.heap.size (Nat.le_refl _) (by unfold maxLen; omega) rfl) ((Ext.refl _).alloc (.cells (Array.replicate 15 (.int .u8 0)) 112))
  have hO2 := owns_lit (w.alloc (.cells (Array.replicate 15 (.int .u8 0)) 112)) (List.replicate 15 (.int .u8 0)) 112 15 1 w.heap.size (Ext.size ((Ext.refl w).alloc _)) (by unfold maxLen; omega) rfl
  rw [← rowK_zero (glyphR d) 15] at hO2
  have hz9 : ∀ o, (w.alloc o).heap.size = w.heap.size + 1 := fun o => Array.size_push _
  rw [hz9] at hO2
  have HO1 := Lib.hid hO1
  have HO2 := Lib.hid hO2
  have HGL := Lib.hid hgl
  clear hO1 hO2 hz9 hgl
  go_loopw [5] (fun i wr => ∃ k : Nat, k ≤ 15 ∧ i = .int .i64 (k : Int) ∧ Ext w wr ∧ Hid (wr.ownsRow w.heap.size 112 1 (.slice (some ⟨w.heap.size, 0, none⟩) 15 15) 15 (List.replicate 15 (.int .u8 0))) ∧ Hid (wr.ownsRow w.heap.size 112 1 (.slice (some ⟨w.heap.size + 1, 0, none⟩) 15 15) 15 (rowK (glyphR d) 15 k))) (fun i _ => 15 - (intOf i).toNat)
  case atStart => exact ⟨0, by omega, rfl, by exact ((Ext.refl w).alloc _).alloc _, HO1, HO2⟩
  case round =>
    obtain ⟨k, hk, rfl, hE, hR, hO⟩ := hrel
    by_cases hkl : k < 15
    · have r0 : wr.cell? ⟨w.heap.size + 1, k, none⟩ = some (.int .u8 0) := by rw [hO.out.cellAt k (by omega)]; exact rowK_get hkl HGL.out.symm
      have r1 := hO.out.frozenAt k
      go_wp2
      refine ⟨⟨k + 1, by omega, by go_num, hE.setCell (Nat.le_succ _) _, Lib.hid (ownsRow_setCell_other hR.out (fun h9 => absurd (Option.some.inj h9) (by show ¬ w.heap.size = w.heap.size + 1; omega)) _), Lib.hid ?_⟩, by simp [intOf]; omega⟩
      have h := (hO.out.stored k (.int .u8 ((glyphR d).getD k 0 : Nat))).1
      rw [rowK_set hkl HGL.out.symm, ← gsign_at d k hd hkl (by have : gsign.size = 150 := rfl; omega)] at h
      exact h
    · obtain rfl : k = 15 := by omega
      obtain ⟨g0, g1, g2, g3, g4, g5, g6, g7, g8, g9, g10, g11, g12, g13, g14, hg⟩ : ∃ g0 g1 g2 g3 g4 g5 g6 g7 g8 g9 g10 g11 g12 g13 g14, glyphR d = [g0, g1, g2, g3, g4, g5, g6, g7, g8, g9, g10, g11, g12, g13, g14] := by
        have h := HGL.out
        match glyphR d, h with
        | [g0, g1, g2, g3, g4, g5, g6, g7, g8, g9, g10, g11, g12, g13, g14], _ => exact ⟨g0, g1, g2, g3, g4, g5, g6, g7, g8, g9, g10, g11, g12, g13, g14, rfl⟩
      have HG := Lib.hid hg
      clear hg
      have c0 : wr.cell? ⟨w.heap.size + 1, 0, none⟩ = some (.int .u8 (g0 : Int)) := by rw [hO.out.cellAt 0 (by omega), HG.out]; rfl
      have c1 : wr.cell? ⟨w.heap.size + 1, 1, none⟩ = some (.int .u8 (g1 : Int)) := by rw [hO.out.cellAt 1 (by omega), HG.out]; rfl
      have c2 : wr.cell? ⟨w.heap.size + 1, 2, none⟩ = some (.int .u8 (g2 : Int)) := by rw [hO.out.cellAt 2 (by omega), HG.out]; rfl
      have c3 : wr.cell? ⟨w.heap.size + 1, 3, none⟩ = some (.int .u8 (g3 : Int)) := by rw [hO.out.cellAt 3 (by omega), HG.out]; rfl
      have c4 : wr.cell? ⟨w.heap.size + 1, 4, none⟩ = some (.int .u8 (g4 : Int)) := by rw [hO.out.cellAt 4 (by omega), HG.out]; rfl
      have c5 : wr.cell? ⟨w.heap.size + 1, 5, none⟩ = some (.int .u8 (g5 : Int)) := by rw [hO.out.cellAt 5 (by omega), HG.out]; rfl
      have c6 : wr.cell? ⟨w.heap.size + 1, 6, none⟩ = some (.int .u8 (g6 : Int)) := by rw [hO.out.cellAt 6 (by omega), HG.out]; rfl
      have c7 : wr.cell? ⟨w.heap.size + 1, 7, none⟩ = some (.int .u8 (g7 : Int)) := by rw [hO.out.cellAt 7 (by omega), HG.out]; rfl
      have c8 : wr.cell? ⟨w.heap.size + 1, 8, none⟩ = some (.int .u8 (g8 : Int)) := by rw [hO.out.cellAt 8 (by omega), HG.out]; rfl
      have c9 : wr.cell? ⟨w.heap.size + 1, 9, none⟩ = some (.int .u8 (g9 : Int)) := by rw [hO.out.cellAt 9 (by omega), HG.out]; rfl
      have c10 : wr.cell? ⟨w.heap.size + 1, 10, none⟩ = some (.int .u8 (g10 : Int)) := by rw [hO.out.cellAt 10 (by omega), HG.out]; rfl
      have c11 : wr.cell? ⟨w.heap.size + 1, 11, none⟩ = some (.int .u8 (g11 : Int)) := by rw [hO.out.cellAt 11 (by omega), HG.out]; rfl
      have c12 : wr.cell? ⟨w.heap.size + 1, 12, none⟩ = some (.int .u8 (g12 : Int)) := by rw [hO.out.cellAt 12 (by omega), HG.out]; rfl
      have c13 : wr.cell? ⟨w.heap.size + 1, 13, none⟩ = some (.int .u8 (g13 : Int)) := by rw [hO.out.cellAt 13 (by omega), HG.out]; rfl
      have c14 : wr.cell? ⟨w.heap.size + 1, 14, none⟩ = some (.int .u8 (g14 : Int)) := by rw [hO.out.cellAt 14 (by omega), HG.out]; rfl
      have d0 : wr.cell? ⟨w.heap.size, 0, none⟩ = some (.int .u8 0) := by rw [hR.out.cellAt 0 (by omega)]; rfl
      have f0 := hR.out.frozenAt 0
      have d1 : wr.cell? ⟨w.heap.size, 1, none⟩ = some (.int .u8 0) := by rw [hR.out.cellAt 1 (by omega)]; rfl
      have f1 := hR.out.frozenAt 1
      have d2 : wr.cell? ⟨w.heap.size, 2, none⟩ = some (.int .u8 0) := by rw [hR.out.cellAt 2 (by omega)]; rfl
      have f2 := hR.out.frozenAt 2
      have d3 : wr.cell? ⟨w.heap.size, 3, none⟩ = some (.int .u8 0) := by rw [hR.out.cellAt 3 (by omega)]; rfl
      have f3 := hR.out.frozenAt 3
      have d4 : wr.cell? ⟨w.heap.size, 4, none⟩ = some (.int .u8 0) := by rw [hR.out.cellAt 4 (by omega)]; rfl
      have f4 := hR.out.frozenAt 4
      have d5 : wr.cell? ⟨w.heap.size, 5, none⟩ = some (.int .u8 0) := by rw [hR.out.cellAt 5 (by omega)]; rfl
      have f5 := hR.out.frozenAt 5
      have d6 : wr.cell? ⟨w.heap.size, 6, none⟩ = some (.int .u8 0) := by rw [hR.out.cellAt 6 (by omega)]; rfl
      have f6 := hR.out.frozenAt 6
      have d7 : wr.cell? ⟨w.heap.size, 7, none⟩ = some (.int .u8 0) := by rw [hR.out.cellAt 7 (by omega)]; rfl
      have f7 := hR.out.frozenAt 7
      have d8 : wr.cell? ⟨w.heap.size, 8, none⟩ = some (.int .u8 0) := by rw [hR.out.cellAt 8 (by omega)]; rfl
      have f8 := hR.out.frozenAt 8
      have d9 : wr.cell? ⟨w.heap.size, 9, none⟩ = some (.int .u8 0) := by rw [hR.out.cellAt 9 (by omega)]; rfl
      have f9 := hR.out.frozenAt 9
      have d10 : wr.cell? ⟨w.heap.size, 10, none⟩ = some (.int .u8 0) := by rw [hR.out.cellAt 10 (by omega)]; rfl
      have f10 := hR.out.frozenAt 10
      have d11 : wr.cell? ⟨w.heap.size, 11, none⟩ = some (.int .u8 0) := by rw [hR.out.cellAt 11 (by omega)]; rfl
      have f11 := hR.out.frozenAt 11
      have d12 : wr.cell? ⟨w.heap.size, 12, none⟩ = some (.int .u8 0) := by rw [hR.out.cellAt 12 (by omega)]; rfl
      have f12 := hR.out.frozenAt 12
      have d13 : wr.cell? ⟨w.heap.size, 13, none⟩ = some (.int .u8 0) := by rw [hR.out.cellAt 13 (by omega)]; rfl
      have f13 := hR.out.frozenAt 13
      have d14 : wr.cell? ⟨w.heap.size, 14, none⟩ = some (.int .u8 0) := by rw [hR.out.cellAt 14 (by omega)]; rfl
      have f14 := hR.out.frozenAt 14
      go_wp2
      have hth : wr.there w.heap.size 0 15 := fun j hj => ⟨by rw [Nat.zero_add, hR.out.cellAt j hj, List.getElem?_replicate, if_pos hj]; rfl, by rw [Nat.zero_add]; exact hR.out.frozenAt j⟩
      have hrg := World.rangeAt_setCells_same wr w.heap.size 0 (bytesL [g0, g1, g2, g3, g4, g5, g6, g7, g8, g9, g10, g11, g12, g13, g14]) hth
      simp only [bytesL, List.map_cons, List.map_nil, World.setCells, Nat.reduceAdd] at hrg
      (try simp only [Exit.inBlock, Exit.then])
      refine bodyPost_ret (v := .agg [.int .u8 (g0 : Int), .int .u8 (g1 : Int), .int .u8 (g2 : Int), .int .u8 (g3 : Int), .int .u8 (g4 : Int), .int .u8 (g5 : Int), .int .u8 (g6 : Int), .int .u8 (g7 : Int), .int .u8 (g8 : Int), .int .u8 (g9 : Int), .int .u8 (g10 : Int), .int .u8 (g11 : Int), .int .u8 (g12 : Int), .int .u8 (g13 : Int), .int .u8 (g14 : Int)].toArray) ?_ rfl ⟨by rw [HG.out]; rfl, ?_⟩
      · exact results_cell_mid rfl _ _ w.heap.size _ _ rfl hrg Tryd.underlying112 rfl z1
      · iterate 15 refine Ext.setCell ?_ (Nat.le_refl _) _
        exact hE
end Go.Proofs.YtlnofbdhamingaaDoor

/- Blank images: the reference's. -/
namespace Go.Proofs.YtlnofbdhamingaaDoor
open Go.RowKit Go.Sort

theorem info_img3 : (Tryd.prog.info? 44).map (·.size) = some 3 := by kernel_rfl
theorem made_ints' (n : Nat) : (madeCells (Value.int .i64 0).cells (n * 1)).toList = ints (List.replicate n 0) := by
  rw [Nat.mul_one, ints, List.map_replicate]
  exact toList_madeCells_one _ _
set_option maxRecDepth 100000 in
set_option maxHeartbeats 4000000 in
theorem r_Blank (W H N : Nat) (hN : W * H = N) (hb : N ≤ 1000) (hW : W ≤ 1000) (hH : H ≤ 1000) (w : World) : Calls Tryd.prog 110 #[.int .i64 (W : Int), .int .i64 (H : Int)] w
    fun e w' => ∃ v', e = .returned (imgVal ⟨(W : Int), (H : Int), List.replicate N 0⟩ v') ∧ w'.ownsRow w.heap.size 3 1 v' N (ints (List.replicate N 0)) ∧ Ext w w' := by
  obtain ⟨i0, hi, hz0, hz1, hz2⟩ := info_parts3 info_int
  have qN : (W : Int) * (H : Int) = (N : Int) := by rw [← hN]; exact (Int.natCast_mul W H).symm
  have HN := Lib.hid hN
  clear hN
  unfold imgVal
  dsimp only
  go_enter Tryd.func110, Tryd.ntmps110
  go_wp2_with (at_make; refine wpList_make_full _ rfl _ _ 42 rfl w.heap.size 3 i0 (.int .i64 0) 1 Tryd.underlying42 hi hz0 hz1 .i64 .i64 _ _ N rfl rfl rfl rfl (by rw [hz2]; omega) (by unfold maxLen; omega) (Ext.size ((Ext.refl w).alloc _)) ?_; intro w1 ho1 hg1; have hg := (ext_of_grownNone hg1).blk (heap_alloc_new w _); obtain ⟨⟨c0, c1, c2⟩, f0, f1, f2⟩ := run_3 hg)
  rw [made_ints'] at ho1
  have e2 : ∀ o1 : Obj, (w.alloc o1).heap.size = w.heap.size + 1 := fun o1 => Array.size_push _
  rw [e2] at ho1
  have hth : w1.there w.heap.size 0 3 := fun j hj => by
    rcases (show j = 0 ∨ j = 1 ∨ j = 2 by omega) with rfl | rfl | rfl
    · exact ⟨by rw [c0]; rfl, f0⟩
    · exact ⟨by rw [c1]; rfl, f1⟩
    · exact ⟨by rw [c2]; rfl, f2⟩
  have hrg := World.rangeAt_setCells_same w1 w.heap.size 0 [.int .i64 (W : Int), .int .i64 (H : Int), .slice (some ⟨w.heap.size + 1, 0, none⟩) N N] hth
  simp only [World.setCells, Nat.reduceAdd] at hrg
  have hne : ∀ v' o', (Value.slice (some ⟨w.heap.size + 1, 0, none⟩) N N).ownBlock ≠ some ({ block := w.heap.size, off := o', spot := v' } : Addr).block := fun _ _ h9 => absurd (Option.some.inj h9) (by show ¬ w.heap.size + 1 = w.heap.size; omega)
  (try simp only [Exit.inBlock, Exit.then])
  refine bodyPost_ret (v := .agg [.int .i64 (W : Int), .int .i64 (H : Int), .slice (some ⟨w.heap.size + 1, 0, none⟩) N N].toArray) ?_ rfl ⟨_, rfl, ?_, ?_⟩
  · exact results_cell_mid rfl _ _ w.heap.size _ _ rfl hrg Tryd.underlying44 rfl info_img3
  · exact ownsRow_setCell_other (ownsRow_setCell_other (ownsRow_setCell_other ho1 (hne _ _) _) (hne _ _) _) (hne _ _) _
  · iterate 3 refine Ext.setCell ?_ (Nat.le_refl _) _
    exact ((Ext.refl w).alloc _).grownNone hg1
end Go.Proofs.YtlnofbdhamingaaDoor

/- Sums of modules: plain. No program in sight. -/
namespace Go.Proofs.YtlnofbdhamingaaDoor
open Go.RowKit Go.Sort

def sumN (f : Nat → Int) : Nat → Int
  | 0 => 0
  | k + 1 => sumN f k + f k
theorem sumN_congr {f g : Nat → Int} : ∀ n, (∀ i, i < n → f i = g i) → sumN f n = sumN g n
  | 0, _ => rfl
  | k + 1, h => by rw [sumN, sumN, sumN_congr k (fun i hi => h i (by omega)), h k (by omega)]
theorem sumN_zero {f : Nat → Int} : ∀ n, (∀ i, i < n → f i = 0) → sumN f n = 0
  | 0, _ => rfl
  | k + 1, h => by rw [sumN, sumN_zero k (fun i hi => h i (by omega)), h k (by omega)]; rfl
theorem sumN_add (f : Nat → Int) (a : Nat) : ∀ b, sumN f (a + b) = sumN f a + sumN (fun i => f (a + i)) b
  | 0 => by simp [sumN]
  | b + 1 => by rw [← Nat.add_assoc, sumN, sumN_add f a b, sumN, Int.add_assoc]
/-- only a window counts -/
theorem sumN_window {f : Nat → Int} {a s n : Nat} (hn : a + s ≤ n) (h : ∀ i, i < n → ¬ (a ≤ i ∧ i < a + s) → f i = 0) : sumN f n = sumN (fun i => f (a + i)) s := by
  obtain ⟨r, rfl⟩ : ∃ r, n = a + s + r := ⟨n - (a + s), by omega⟩
  rw [sumN_add f (a + s) r, sumN_add f a s, sumN_zero a (fun i hi => h i (by omega) (by omega)), sumN_zero r (fun i hi => h (a + s + i) (by omega) (by omega))]
  omega
theorem sumN_mul (f : Nat → Int) (w : Nat) : ∀ h, sumN f (h * w) = sumN (fun y => sumN (fun x => f (y * w + x)) w) h
  | 0 => by simp [sumN]
  | h + 1 => by rw [Nat.succ_mul, sumN_add, sumN_mul f w h, sumN]
theorem two_digits {W a b c d : Nat} (hb : b < W) (hd : d < W) (h : a * W + b = c * W + d) : a = c ∧ b = d := by
  have h1 : (a * W + b) / W = a := by rw [Nat.add_comm, Nat.add_mul_div_right _ _ (by omega), Nat.div_eq_of_lt hb, Nat.zero_add]
  have h2 : (c * W + d) / W = c := by rw [Nat.add_comm, Nat.add_mul_div_right _ _ (by omega), Nat.div_eq_of_lt hd, Nat.zero_add]
  rw [h, h2] at h1
  subst h1
  exact ⟨rfl, by omega⟩
/-- the module that a pixel lies in -/
def cellOf (w S i : Nat) : Nat := i / w / S * (w / S) + i % w / S
def psum (pix : List Int) (w S : Nat) (k t : Nat) : Int := sumN (fun i => if cellOf w S i = t then pix.getD i 0 else 0) k
def sumsL (pix : List Int) (w S N k : Nat) : List Int := (List.range N).map (psum pix w S k)
theorem sumsL_length (pix : List Int) (w S N k : Nat) : (sumsL pix w S N k).length = N := by simp [sumsL]
theorem sumsL_get {pix : List Int} {w S N k t : Nat} (h : t < N) : (sumsL pix w S N k).getD t 0 = psum pix w S k t := by
  rw [List.getD_eq_getElem?_getD, sumsL, List.getElem?_map, List.getElem?_range h]; rfl
theorem sumsL_zero (pix : List Int) (w S N : Nat) : sumsL pix w S N 0 = List.replicate N 0 := by
  apply List.ext_getElem?
  intro t
  rw [sumsL, List.getElem?_map]
  rcases Nat.lt_or_ge t N with h | h
  · rw [List.getElem?_range h, List.getElem?_replicate, if_pos h]; rfl
  · rw [List.getElem?_eq_none (by simpa using h), List.getElem?_replicate, if_neg (by omega)]; rfl
theorem sumsL_succ {pix : List Int} {w S N k : Nat} (h : cellOf w S k < N) :
    (sumsL pix w S N k).set (cellOf w S k) (psum pix w S k (cellOf w S k) + pix.getD k 0) = sumsL pix w S N (k + 1) := by
  apply List.ext_getElem?
  intro t
  rw [List.getElem?_set, sumsL_length, if_pos h]
  by_cases e : cellOf w S k = t
  · subst e
    rw [if_pos rfl, sumsL, List.getElem?_map, List.getElem?_range h]
    simp [psum, sumN]
  · rw [if_neg e]
    rcases Nat.lt_or_ge t N with h9 | h9
    · rw [sumsL, sumsL, List.getElem?_map, List.getElem?_map, List.getElem?_range h9]
      simp [psum, sumN, e]
    · rw [List.getElem?_eq_none (by rw [sumsL_length]; exact h9), List.getElem?_eq_none (by rw [sumsL_length]; exact h9)]
theorem cellOf_lt {W H S k : Nat} (hS : 1 ≤ S) (hW : 1 ≤ W) (hk : k < W * S * (H * S)) : cellOf (W * S) S k < W * H := by
  unfold cellOf
  rw [Nat.mul_div_cancel _ hS]
  have hw : 0 < W * S := Nat.mul_pos hW hS
  have h1 : k / (W * S) < H * S := Nat.div_lt_of_lt_mul hk
  have h2 : k / (W * S) / S < H := Nat.div_lt_of_lt_mul (by rw [Nat.mul_comm S H]; exact h1)
  have h3 : k % (W * S) / S < W := Nat.div_lt_of_lt_mul (by rw [Nat.mul_comm S W]; exact Nat.mod_lt _ hw)
  have h4 : (k / (W * S) / S + 1) * W ≤ H * W := Nat.mul_le_mul_right _ h2
  rw [Nat.mul_comm W H]
  rw [Nat.succ_mul] at h4
  omega
def sum2 (f : Nat → Nat → Int) (x0 y0 s : Nat) : Int := sumN (fun j => sumN (fun i => f (x0 + i) (y0 + j)) s) s
/-- a module's sum, pixel by pixel, is its rows' sum -/
theorem psum_full (pix : List Int) {W H S i j : Nat} (hS : 1 ≤ S) (hi : i < W) (hj : j < H) :
    psum pix (W * S) S (H * S * (W * S)) (j * W + i) = sum2 (fun x y => pix.getD (y * (W * S) + x) 0) (i * S) (j * S) S := by
  have hw : 0 < W * S := Nat.mul_pos (by omega) hS
  unfold psum sum2
  rw [sumN_mul]
  have e : ∀ y, y < H * S → ∀ x, x < W * S → (cellOf (W * S) S (y * (W * S) + x) = j * W + i ↔ y / S = j ∧ x / S = i) := by
    intro y hy x hx
    unfold cellOf
    rw [Nat.mul_div_cancel _ hS, Nat.add_comm (y * (W * S)) x, Nat.add_mul_div_right _ _ hw, Nat.div_eq_of_lt hx, Nat.zero_add, Nat.add_mul_mod_self_right, Nat.mod_eq_of_lt hx]
    have h3 : x / S < W := Nat.div_lt_of_lt_mul (by rw [Nat.mul_comm]; exact hx)
    constructor
    · intro h
      exact two_digits h3 hi h
    · rintro ⟨rfl, rfl⟩; rfl
  have dv : ∀ a c : Nat, a / S = c ↔ c * S ≤ a ∧ a < c * S + S := by
    intro a c
    rw [Nat.div_eq_iff hS]
    rw [Nat.mul_comm c S]
    omega
  have by1 : j * S + S ≤ H * S := by rw [← Nat.succ_mul]; exact Nat.mul_le_mul_right _ hj
  have bx1 : i * S + S ≤ W * S := by rw [← Nat.succ_mul]; exact Nat.mul_le_mul_right _ hi
  rw [sumN_window (a := j * S) (s := S) by1 (fun y hy hn => sumN_zero _ (fun x hx => if_neg (fun h => hn ((dv y j).1 ((e y hy x hx).1 h).1))))]
  refine sumN_congr S (fun y hy => ?_)
  rw [sumN_window (a := i * S) (s := S) bx1 (fun x hx hn => if_neg (fun h => hn ((dv x i).1 ((e (j * S + y) (by omega) x hx).1 h).2)))]
  refine sumN_congr S (fun x hx => ?_)
  rw [if_pos ((e (j * S + y) (by omega) (i * S + x) (by omega)).2 ⟨(dv _ _).2 (by omega), (dv _ _).2 (by omega)⟩)]
theorem sumN_bd {f : Nat → Int} {b : Int} : ∀ n, (∀ i, i < n → 0 ≤ f i ∧ f i ≤ b) → 0 ≤ sumN f n ∧ sumN f n ≤ n * b
  | 0, _ => by simp [sumN]
  | k + 1, h => by
    have h1 := sumN_bd k (fun i hi => h i (by omega))
    have h2 := h k (by omega)
    rw [sumN, Int.natCast_succ, Int.add_mul, Int.one_mul]
    omega
/-- a module's reading -/
def colR (lo hi : Int) (S : Nat) (v : Int) : Nat := if v ≤ lo * S * S then 1 else if v < hi * S * S then 2 else 0
def seenR (pix : List Int) (W H S : Nat) (lo hi : Int) : List Nat := (List.range (W * H)).map fun t => colR lo hi S (psum pix (W * S) S (H * S * (W * S)) t)
theorem seenR_length (pix : List Int) (W H S : Nat) (lo hi : Int) : (seenR pix W H S lo hi).length = W * H := by simp [seenR]
theorem seenR_get {pix : List Int} {W H S : Nat} {lo hi : Int} {t : Nat} (h : t < W * H) : (seenR pix W H S lo hi).getD t 0 = colR lo hi S (psum pix (W * S) S (H * S * (W * S)) t) := by
  rw [List.getD_eq_getElem?_getD, seenR, List.getElem?_map, List.getElem?_range h]; rfl
end Go.Proofs.YtlnofbdhamingaaDoor

/- Images of modules: the reference's. -/
namespace Go.Proofs.YtlnofbdhamingaaDoor
open Go.RowKit Go.Sort

def paintedR (ms : List Nat) (ww S : Nat) (ink paper : Int) (k : Nat) : List Int := (List.range k).map fun i => if ms.getD (cellOf ww S i) 0 = 1 then ink else paper
theorem paintedR_length (ms : List Nat) (ww S : Nat) (ink paper : Int) (k : Nat) : (paintedR ms ww S ink paper k).length = k := by simp [paintedR]
theorem paintedR_succ (ms : List Nat) (ww S : Nat) (ink paper : Int) (k : Nat) : paintedR ms ww S ink paper (k + 1) = paintedR ms ww S ink paper k ++ [if ms.getD (cellOf ww S k) 0 = 1 then ink else paper] := by simp [paintedR, List.range_succ]
/-- painted as far as k -/
def partR (ms : List Nat) (ww S : Nat) (ink paper : Int) (N k : Nat) : List Int := paintedR ms ww S ink paper k ++ List.replicate (N - k) 0
theorem partR_zero (ms : List Nat) (ww S : Nat) (ink paper : Int) (N : Nat) : partR ms ww S ink paper N 0 = List.replicate N 0 := by simp [partR, paintedR]
theorem partR_full (ms : List Nat) (ww S : Nat) (ink paper : Int) (N : Nat) : partR ms ww S ink paper N N = paintedR ms ww S ink paper N := by simp [partR]
theorem partR_length (ms : List Nat) (ww S : Nat) (ink paper : Int) {N k : Nat} (h : k ≤ N) : (partR ms ww S ink paper N k).length = N := by
  simp [partR, paintedR]; omega
theorem partR_set (ms : List Nat) (ww S : Nat) (ink paper : Int) {N k : Nat} (h : k < N) :
    (partR ms ww S ink paper N k).set k (if ms.getD (cellOf ww S k) 0 = 1 then ink else paper) = partR ms ww S ink paper N (k + 1) := by
  unfold partR
  rw [paintedR_succ, show N - k = (N - (k + 1)) + 1 by omega, List.replicate_succ, List.set_append_right _ _ (by rw [paintedR_length]; exact Nat.le_refl _), paintedR_length, Nat.sub_self]
  simp
end Go.Proofs.YtlnofbdhamingaaDoor

/- The modules of a mark: the reference's. -/
namespace Go.Proofs.YtlnofbdhamingaaDoor
open Go.RowKit Go.Sort

/-- how many data modules come before -/
def tOf (i : Nat) : Nat := ((List.range i).filter isData).length
theorem tOf_yes {i : Nat} (h : isData i = true) : tOf (i + 1) = tOf i + 1 := by simp [tOf, List.range_succ, h]
theorem tOf_no {i : Nat} (h : isData i = false) : tOf (i + 1) = tOf i := by simp [tOf, List.range_succ, h]
theorem tOf_lt : ∀ i, i < 64 → isData i = true → tOf i < 60 := by decide
theorem corner_no : ∀ i, i < 64 → isData i = true → (cornerR i).2 = false := by decide
theorem corner_yes : ∀ i, i < 64 → isData i = false → (cornerR i).2 = true := by decide
def bitR (w : List Nat) (t : Nat) : Nat := w.getD (t / 4) 0 / 2 ^ (3 - t % 4) % 2
def modR (w : List Nat) (i : Nat) : Nat := if isData i = true then bitR w (tOf i) else (cornerR i).1
def markedR (w : List Nat) (k : Nat) : List Nat := (List.range k).map (modR w)
theorem markedR_succ (w : List Nat) (k : Nat) : markedR w (k + 1) = markedR w k ++ [modR w k] := by simp [markedR, List.range_succ]
theorem markedR_length (w : List Nat) (k : Nat) : (markedR w k).length = k := by simp [markedR]
theorem bit_list : ((List.range 16).all fun x => (List.range 4).all fun r => bits BinOp.and IntKind.u8 ((x : Int) / 2 ^ (3 - r)) 1 == ((x / 2 ^ (3 - r) % 2 : Nat) : Int)) = true := by kernel_rfl
theorem bit_at {x r : Nat} (hx : x < 16) (hr : r < 4) : bits BinOp.and IntKind.u8 ((x : Int) / 2 ^ (3 - r)) 1 = ((x / 2 ^ (3 - r) % 2 : Nat) : Int) :=
  beq_iff_eq.1 (List.all_eq_true.1 (List.all_eq_true.1 bit_list x (List.mem_range.2 hx)) r (List.mem_range.2 hr))
set_option maxRecDepth 100000 in
set_option maxHeartbeats 4000000 in
theorem r_Marked (v : Value) (l : List Nat) (w : World) (hv : BytesAt w v l) (hl : l.length = 15) (hs : ∀ x ∈ l, x < 16) :
    Calls Tryd.prog 80 #[v] w (OwnBytes (markedR l 64) w) := by
  obtain ⟨i0, hi, hz0, hz1, hz2⟩ := info_parts3 info_byte
  obtain ⟨bo, oo, cp, rfl, hc⟩ : ∃ b off cap, v = .slice (some ⟨b, off, none⟩) 15 cap ∧ ∀ j, j < 15 → w.cell? ⟨b, off + j, none⟩ = some (.int .u8 ((l.getD j 0 : Nat) : Int)) := by
    rcases hv.cases with ⟨h1, -⟩ | ⟨-, b, off, cap, h1, -, -, h2⟩
    · rw [h1] at hl; cases hl
    · rw [hl] at h1 h2; exact ⟨b, off, cap, h1, h2⟩
  have HC := Lib.hid hc
  have HS := Lib.hid hs
  have HL := Lib.hid hl
  clear hc hv hl hs
  go_enter Tryd.func80, Tryd.ntmps80
  go_wp2
  go_loopw [3, 4, 5, 6, 7] (fun o t i _ _ wr => ∃ k : Nat, k ≤ 64 ∧ i = .int .i64 (k : Int) ∧ t = .int .i64 (tOf k : Nat) ∧ Ext w wr ∧ Hid (wr.ownsRow w.heap.size 5 1 o k (bytesL (markedR l k)))) (fun _ _ i _ _ _ => 64 - (intOf i).toNat)
  case atStart => exact ⟨0, by omega, rfl, rfl, Ext.refl _, Lib.hid ⟨rfl, .inl ⟨rfl, rfl⟩⟩⟩
  case round =>
    obtain ⟨k, hk, rfl, rfl, hE, hO⟩ := hrel
    by_cases hkl : k < 64
    · have K := Lib.hid (fun w' => r_corner k w')
      have HM := Lib.hid (markedR_succ l k)
      by_cases hd : isData k = true
      · have hcn := corner_no k hkl hd
        have ht := tOf_lt k hkl hd
        have HT := Lib.hid (tOf_yes hd)
        have HV := Lib.hid (show modR l k = bitR l (tOf k) from if_pos hd)
        obtain ⟨cr, hcr⟩ : ∃ c, cornerR k = c := ⟨_, rfl⟩
        rw [hcr] at K hcn
        obtain ⟨c1, c2⟩ := cr
        dsimp only at K hcn
        subst hcn
        obtain ⟨t, htt⟩ : ∃ t, tOf k = t := ⟨_, rfl⟩
        rw [htt] at ht HT HV ⊢
        have HTT := Lib.hid htt
        have ha : t / 4 < 15 := by omega
        have c0 := hE.get (HC.out (t / 4) ha)
        have hx := HS.out (l.getD (t / 4) 0) (by rw [List.getD_eq_getElem?_getD, List.getElem?_eq_getElem (by rw [HL.out]; exact ha)]; exact List.getElem_mem _)
        unfold bitR at HV
        obtain ⟨x, hxx⟩ : ∃ x, l.getD (t / 4) 0 = x := ⟨_, rfl⟩
        rw [hxx] at c0 hx HV
        have t2 : (t : Int).tdiv 4 = ((t / 4 : Nat) : Int) := by rw [Int.tdiv_eq_ediv_of_nonneg (by omega)]; rfl
        have t3 : (t : Int).tmod 4 = ((t % 4 : Nat) : Int) := by rw [Int.tmod_eq_emod_of_nonneg (by omega)]; rfl
        have hr := Nat.mod_lt t (show 0 < 4 by omega)
        obtain ⟨a, haa⟩ : ∃ a, t / 4 = a := ⟨_, rfl⟩
        obtain ⟨r, hrr⟩ : ∃ r, t % 4 = r := ⟨_, rfl⟩
        rw [haa] at t2 ha c0
        rw [hrr] at t3 hr HV
        have HX := Lib.hid (And.intro hxx (And.intro haa hrr))
        have hbit := bit_at hx hr
        obtain ⟨y, hy⟩ : ∃ y, x / 2 ^ (3 - r) % 2 = y := ⟨_, rfl⟩
        rw [hy] at hbit HV
        have HY := Lib.hid hy
        clear hd htt hxx haa hrr hcr hy
        go_wp2_with (first | (at_builtin; refine wpList_append_sl rfl _ _ 22 rfl w.heap.size 5 i0 (.int .u8 0) 1 1 Tryd.underlying22 hi hz0 hz1 hz2 rfl (by omega) u3 k (bytesL (markedR l k)) rfl (owns_ext hO.out (h1.alloc _)) _ 1 [.int .u8 (y : Int)] rfl (SlAt.of_owns (owns_lit w1 [.int .u8 (y : Int)] 5 1 1 0 (Nat.zero_le _) (by unfold maxLen; omega) rfl)) (bytes_oneCell' [y]) (by unfold maxLen; omega) (by omega) ((hE.trans h1).alloc _).size ?_; intro v' w' ho hg) | (go_at_call 109; (with_reducible refine (K.out _).mono ?_); rintro E w1 ⟨rfl, h1⟩; have d0 := h1.get c0))
        exact ⟨⟨k + 1, by omega, by go_num, by rw [HT.out]; go_num, ((hE.trans h1).alloc _).grown hg (fun g hk => (owns_block hO.out g hk).1), Lib.hid (by
          rw [HM.out, HV.out, show bytesL (markedR l k ++ [y]) = bytesL (markedR l k) ++ [.int .u8 (y : Int)] by simp [bytesL]]
          exact ho)⟩, by simp [intOf]; omega⟩
      · have hd' : isData k = false := by simpa using hd
        have hcy := corner_yes k hkl hd'
        have HT := Lib.hid (tOf_no hd')
        have HV := Lib.hid (show modR l k = (cornerR k).1 from if_neg hd)
        obtain ⟨cr, hcr⟩ : ∃ c, cornerR k = c := ⟨_, rfl⟩
        rw [hcr] at K hcy HV
        obtain ⟨c1, c2⟩ := cr
        dsimp only at K hcy HV
        subst hcy
        clear hd hd' hcr
        go_wp2_with (first | (at_builtin; refine wpList_append_sl rfl _ _ 22 rfl w.heap.size 5 i0 (.int .u8 0) 1 1 Tryd.underlying22 hi hz0 hz1 hz2 rfl (by omega) u3 k (bytesL (markedR l k)) rfl (owns_ext hO.out (h1.alloc _)) _ 1 [.int .u8 (c1 : Int)] rfl (SlAt.of_owns (owns_lit w1 [.int .u8 (c1 : Int)] 5 1 1 0 (Nat.zero_le _) (by unfold maxLen; omega) rfl)) (bytes_oneCell' [c1]) (by unfold maxLen; omega) (by omega) ((hE.trans h1).alloc _).size ?_; intro v' w' ho hg) | (go_at_call 109; (with_reducible refine (K.out _).mono ?_); rintro E w1 ⟨rfl, h1⟩))
        exact ⟨⟨k + 1, by omega, by go_num, by rw [HT.out], ((hE.trans h1).alloc _).grown hg (fun g hk => (owns_block hO.out g hk).1), Lib.hid (by
          rw [HM.out, HV.out, show bytesL (markedR l k ++ [c1]) = bytesL (markedR l k) ++ [.int .u8 (c1 : Int)] by simp [bytesL]]
          exact ho)⟩, by simp [intOf]; omega⟩
    · obtain rfl : k = 64 := by omega
      go_wp2
      go_ret
      exact ⟨_, rfl, by rw [markedR_length]; exact hO.out, hE⟩
end Go.Proofs.YtlnofbdhamingaaDoor

/- Worlds in which one row alone has changed. Generic: no program in sight. -/
namespace Go.Proofs.YtlnofbdhamingaaDoor
open Go.RowKit Go.Sort

theorem gb_trans {a b c : World} {row : Option Nat} (h : a.grownBy b row) (k : b.grownBy c row) : a.grownBy c row :=
  ⟨k.os.trans h.os, k.tape.trans h.tape, k.output.trans h.output, Nat.le_trans h.size k.size, fun i hi hne => (k.block i (Nat.lt_of_lt_of_le hi h.size) hne).trans (h.block i hi hne)⟩
theorem gb_ext {a b : World} (h : Ext a b) (row : Option Nat) : a.grownBy b row := ⟨h.os, h.tape, h.output, h.size, fun i hi _ => h.block i hi⟩
theorem gb_set (w : World) (g o : Nat) (v : Value) : w.grownBy (w.setCell ⟨g, o, none⟩ v) (some g) := by
  have h := (Ext.refl w)
  have hs : Below 0 w (w.setCell ⟨g, o, none⟩ v) := Below.setCell (Below.mono h (Nat.zero_le _)) (Nat.zero_le _) v
  exact ⟨hs.os, hs.tape, hs.output, hs.size, fun k _ hk => set_at w g o v k (fun e => hk (by rw [e]))⟩
theorem Ext.gb {w0 w w' : World} {g : Nat} (hE : Ext w0 w) (hg : w.grownBy w' (some g)) (hb : w0.heap.size ≤ g) : Ext w0 w' := hE.grown hg fun k hk => by cases hk; exact hb
theorem own_gb {w w' : World} {base e sz n : Nat} {v : Value} {cs : List Value} {row : Option Nat} (h : w.ownsRow base e sz v n cs) (hg : w.grownBy w' row) (hv : ∀ k, v.ownBlock = some k → some k ≠ row) : w'.ownsRow base e sz v n cs :=
  owns_at h fun k hk => hg.block k (h.lt k hk).2 (hv k hk)
theorem SlAt.gb {w w' : World} {sz n : Nat} {v : Value} {cs : List Value} {row : Option Nat} (h : SlAt w sz v n cs) (hg : w.grownBy w' row) (hv : ∀ k, v.ownBlock = some k → some k ≠ row) : SlAt w' sz v n cs :=
  h.keep fun b o u hb hc => hg.cell hc (hv b hb)
theorem BytesAt.gb {w w' : World} {v : Value} {l : List Nat} {row : Option Nat} (h : BytesAt w v l) (hg : w.grownBy w' row) (hv : ∀ k, v.ownBlock = Option.some k → Option.some k ≠ row) : BytesAt w' v l := SlAt.gb h hg hv
end Go.Proofs.YtlnofbdhamingaaDoor

/- The nearest of ten, and its margin: plain. No program in sight. -/
namespace Go.Proofs.YtlnofbdhamingaaDoor
open Go.RowKit Go.Sort

/-- how many of the first k modules differ -/
def distK (g ms : List Nat) : Nat → Nat
  | 0 => 0
  | k + 1 => distK g ms k + (if ms.getD k 0 ≠ 2 ∧ ms.getD k 0 ≠ g.getD k 0 then 1 else 0)
theorem distK_le (g ms : List Nat) : ∀ k, distK g ms k ≤ k
  | 0 => Nat.le_refl _
  | k + 1 => by
    have := distK_le g ms k
    unfold distK
    split <;> omega
def dist (ms : List Nat) (d : Nat) : Nat := distK (glyphR d) ms 15
theorem dist_le (ms : List Nat) (d : Nat) : dist ms d ≤ 15 := distK_le _ _ 15
def nearN (f : Nat → Nat) : Nat → Nat × Nat × Nat
  | 0 => (0, 16, 16)
  | k + 1 => if f k < (nearN f k).2.1 then (k, f k, (nearN f k).2.1) else ((nearN f k).1, (nearN f k).2.1, min (nearN f k).2.2 (f k))
def bestN (f : Nat → Nat) : Nat → Nat
  | 0 => 0
  | k + 1 => if f (k + 1) < f (bestN f k) then k + 1 else bestN f k
def margN (f : Nat → Nat) (b : Nat) : Nat → Nat
  | 0 => 15
  | k + 1 => if k ≠ b then min (margN f b k) (f k - f b) else margN f b k
theorem bestN_le (f : Nat → Nat) : ∀ k, bestN f k ≤ k
  | 0 => Nat.le_refl _
  | k + 1 => by
    have := bestN_le f k
    unfold bestN
    split <;> omega
theorem bestN_min (f : Nat → Nat) : ∀ k, ∀ d ≤ k, f (bestN f k) ≤ f d
  | 0, d, h => by obtain rfl : d = 0 := by omega
                  exact Nat.le_refl _
  | k + 1, d, h => by
    have ih := bestN_min f k
    unfold bestN
    split
    · rename_i h1
      rcases Nat.lt_or_ge k d with h2 | h2
      · obtain rfl : d = k + 1 := by omega
        exact Nat.le_refl _
      · exact Nat.le_trans (Nat.le_of_lt h1) (ih d h2)
    · rename_i h1
      rcases Nat.lt_or_ge k d with h2 | h2
      · obtain rfl : d = k + 1 := by omega
        omega
      · exact ih d h2
theorem nearN_inv (f : Nat → Nat) (hf : ∀ d, f d ≤ 15) : ∀ k, (nearN f (k + 1)).1 = bestN f k ∧ (nearN f (k + 1)).2.1 = f (bestN f k) ∧
    (∀ d ≤ k, d ≠ bestN f k → (nearN f (k + 1)).2.2 ≤ f d) ∧ ((nearN f (k + 1)).2.2 = 16 ∨ ∃ d ≤ k, d ≠ bestN f k ∧ (nearN f (k + 1)).2.2 = f d)
  | 0 => by
    have h0 := hf 0
    have e : nearN f (0 + 1) = (0, f 0, 16) := by
      show (if f 0 < 16 then _ else _) = _
      rw [if_pos (by omega)]
      rfl
    rw [e]
    exact ⟨rfl, rfl, fun d hd hn => absurd (show d = 0 by omega) hn, .inl rfl⟩
  | k + 1 => by
    obtain ⟨h1, h2, h3, h4⟩ := nearN_inv f hf k
    have hb := bestN_le f k
    have hm := bestN_min f k
    have hk := hf (k + 1)
    by_cases h : f (k + 1) < f (bestN f k)
    · have e : nearN f (k + 1 + 1) = (k + 1, f (k + 1), f (bestN f k)) := by
        rw [nearN, h2, if_pos h]
      have e2 : bestN f (k + 1) = k + 1 := by rw [bestN, if_pos h]
      rw [e, e2]
      refine ⟨rfl, rfl, fun d hd hn => hm d (by omega), .inr ⟨bestN f k, by omega, by omega, rfl⟩⟩
    · have e : nearN f (k + 1 + 1) = (bestN f k, f (bestN f k), min (nearN f (k + 1)).2.2 (f (k + 1))) := by
        rw [nearN, h2, if_neg h, h1]
      have e2 : bestN f (k + 1) = bestN f k := by rw [bestN, if_neg h]
      rw [e, e2]
      refine ⟨rfl, rfl, fun d hd hn => ?_, ?_⟩
      · show min _ _ ≤ _
        rcases Nat.lt_or_ge k d with h9 | h9
        · obtain rfl : d = k + 1 := by omega
          omega
        · have := h3 d h9 hn
          omega
      · show min _ _ = 16 ∨ ∃ d ≤ k + 1, d ≠ bestN f k ∧ min _ _ = f d
        rcases Nat.lt_or_ge (f (k + 1)) (nearN f (k + 1)).2.2 with h9 | h9
        · exact .inr ⟨k + 1, by omega, by omega, by omega⟩
        · rcases h4 with h4 | ⟨d, hd, hn, h4⟩
          · exact .inl (by omega)
          · exact .inr ⟨d, by omega, hn, by omega⟩
theorem margN_inv (f : Nat → Nat) (b : Nat) : ∀ k, margN f b k ≤ 15 ∧ (∀ d < k, d ≠ b → margN f b k ≤ f d - f b) ∧ (margN f b k = 15 ∨ ∃ d < k, d ≠ b ∧ margN f b k = f d - f b)
  | 0 => ⟨Nat.le_refl _, fun d hd => absurd hd (Nat.not_lt_zero _), .inl rfl⟩
  | k + 1 => by
    obtain ⟨h1, h2, h3⟩ := margN_inv f b k
    by_cases h : k ≠ b
    · rw [margN, if_pos h]
      refine ⟨by omega, fun d hd hn => ?_, ?_⟩
      · rcases Nat.lt_or_ge d k with h9 | h9
        · have := h2 d h9 hn
          omega
        · obtain rfl : d = k := by omega
          omega
      · rcases Nat.lt_or_ge (f k - f b) (margN f b k) with h9 | h9
        · exact .inr ⟨k, by omega, h, by omega⟩
        · rcases h3 with h3 | ⟨d, hd, hn, h3⟩
          · exact .inl (by omega)
          · exact .inr ⟨d, by omega, hn, by omega⟩
    · rw [margN, if_neg h]
      refine ⟨h1, fun d hd hn => h2 d (by omega) hn, ?_⟩
      rcases h3 with h3 | ⟨d, hd, hn, h3⟩
      · exact .inl h3
      · exact .inr ⟨d, by omega, hn, h3⟩
theorem near_margin (f : Nat → Nat) (hf : ∀ d, f d ≤ 15) : (nearN f 10).2.2 = (nearN f 10).2.1 + margN f (bestN f 9) 10 := by
  obtain ⟨-, h2, h3, h4⟩ := nearN_inv f hf 9
  simp only [Nat.reduceAdd] at h2 h3 h4
  obtain ⟨m1, m2, m3⟩ := margN_inv f (bestN f 9) 10
  have hm := bestN_min f 9
  have hx : ∃ d ≤ 9, d ≠ bestN f 9 := by
    by_cases h : bestN f 9 = 0
    · exact ⟨1, by omega, by omega⟩
    · exact ⟨0, by omega, fun e => h e.symm⟩
  obtain ⟨d1, hd1, hn1⟩ := hx
  have a1 := h3 d1 hd1 hn1
  have a2 := hf d1
  rw [h2]
  rcases h4 with h4 | ⟨d, hd, hn, h4⟩
  · omega
  · have b1 := m2 d (by omega) hn
    have b2 := hm d hd
    have b3 := hf d
    rcases m3 with m3 | ⟨c, hc, hcn, m3⟩
    · omega
    · have b4 := h3 c (by omega) hcn
      have b5 := hm c (by omega)
      omega
/-- the nearest digit, and its margin -/
def nearestR (ms : List Nat) : Nat × Nat := (bestN (dist ms) 9, margN (dist ms) (bestN (dist ms) 9) 10)
theorem nearest_of (ms : List Nat) : (nearN (dist ms) 10).1 = (nearestR ms).1 ∧ (nearN (dist ms) 10).2.2 = (nearN (dist ms) 10).2.1 + (nearestR ms).2 :=
  ⟨(nearN_inv _ (dist_le ms) 9).1, near_margin _ (dist_le ms)⟩
theorem nearest_bd (ms : List Nat) : (nearestR ms).1 < 10 ∧ (nearestR ms).2 ≤ 15 := ⟨by have := bestN_le (dist ms) 9; unfold nearestR; omega, (margN_inv _ _ 10).1⟩
theorem nearN_bd (f : Nat → Nat) (hf : ∀ d, f d ≤ 15) : ∀ k, (nearN f k).1 ≤ 16 + k ∧ (nearN f k).2.1 ≤ 16 ∧ (nearN f k).2.2 ≤ 16
  | 0 => ⟨Nat.zero_le _, Nat.le_refl _, Nat.le_refl _⟩
  | k + 1 => by
    have := nearN_bd f hf k
    have := hf k
    unfold nearN
    split <;> (dsimp only; omega)
end Go.Proofs.YtlnofbdhamingaaDoor

/- The nearest digit: the program's. -/
namespace Go.Proofs.YtlnofbdhamingaaDoor
open Go.RowKit Go.Sort

theorem arr_get {g : List Nat} {k : Nat} (hk : k < g.length) : (bytesL g).toArray[k]? = some (.int .u8 (g.getD k 0 : Nat)) := by
  simp [bytesL, List.getElem?_map, List.getD_eq_getElem?_getD, List.getElem?_eq_getElem hk]
theorem run_index_arr (w : World) (g : List Nat) (k : Nat) (hg : g.length = 15) (hk : k < 15) :
    (Instr.index 112 (.agg (bytesL g).toArray) (.int .i64 (k : Int))).run Tryd.prog w = .ok (.int .u8 (g.getD k 0 : Nat)) w := by
  have h1 : (0 : Int) ≤ (k : Int) ∧ (k : Int) < ((15 : Nat) : Int) := by omega
  have h2 := arr_get (g := g) (k := k) (by omega)
  have e : (Instr.index 112 (.agg (bytesL g).toArray) (.int .i64 (k : Int))).run Tryd.prog w = (part 5 (bytesL g).toArray k).run Tryd.prog w := by
    simp only [Instr.index, asIntOf, Sem.run_bind, Sem.run_pure, Result.andThen_ok, run_underlying Tryd.underlying112, if_pos h1, Tryd.sizeOf5, Int.toNat_natCast, Nat.mul_one]
  rw [e]
  simp only [part, Sem.run_bind, Tryd.isAgg5, Result.andThen_ok, Bool.false_eq_true, if_false, h2, Sem.run_pure]
theorem nearN_succ (f : Nat → Nat) (k : Nat) : nearN f (k + 1) = if f k < (nearN f k).2.1 then (k, f k, (nearN f k).2.1) else ((nearN f k).1, (nearN f k).2.1, min (nearN f k).2.2 (f k)) := rfl
set_option maxRecDepth 100000 in
set_option maxHeartbeats 8000000 in
theorem c_nearest (v : Value) (ms : List Nat) (w : World) (hv : BytesAt w v ms) (hl : ms.length = 15) :
    Calls Tryd.prog 85 #[v] w fun e w' => e = .returned (.tuple #[.int .i64 ((nearestR ms).1 : Nat), .int .i64 ((nearestR ms).2 : Nat)]) ∧ Ext w w' := by
  obtain ⟨ao, cap, rfl, -, hc⟩ := hv.form
  have HC := Lib.hid hc
  have HL := Lib.hid hl
  have HN := Lib.hid (nearest_of ms)
  clear hc hv hl
  go_enter Tryd.func85, Tryd.ntmps85
  go_wp2
  go_loopw [4, 5, 6, 11] (fun b l n i wr => ∃ d : Nat, d ≤ 10 ∧ i = .int .i64 (d : Int) ∧ Ext w wr ∧ b = .int .i64 ((nearN (dist ms) d).1 : Nat) ∧ l = .int .i64 ((nearN (dist ms) d).2.1 : Nat) ∧ n = .int .i64 ((nearN (dist ms) d).2.2 : Nat)) (fun _ _ _ i _ => 10 - (intOf i).toNat)
  case atStart => exact ⟨0, by omega, rfl, Ext.refl _, rfl, rfl, rfl⟩
  case round =>
    obtain ⟨d, hd, rfl, hE, rfl, rfl, rfl⟩ := hrel
    by_cases hd10 : d < 10
    · have K := Lib.hid (c_glyph d hd10 wr)
      have hgl := glyphR_length d hd10
      have HD := Lib.hid (show dist ms d = distK (glyphR d) ms 15 from rfl)
      have HB := Lib.hid (nearN_bd (dist ms) (dist_le ms) d)
      have HS := Lib.hid (nearN_succ (dist ms) d)
      obtain ⟨s, hs⟩ : ∃ s, nearN (dist ms) d = s := ⟨_, rfl⟩
      obtain ⟨g, hg⟩ : ∃ g, glyphR d = g := ⟨_, rfl⟩
      rw [hs] at HB HS ⊢
      rw [hg] at K hgl HD
      obtain ⟨s1, s2, s3⟩ := s
      have HG := Lib.hid hgl
      have HX := Lib.hid (And.intro hs hg)
      clear hgl hs hg
      go_wp2_with (go_at_call 82; (with_reducible refine K.out.mono ?_); rintro E w1 ⟨rfl, h1⟩)
      have hE1 := hE.trans h1
      go_loopw [8, 16] (fun n i wr => ∃ k : Nat, k ≤ 15 ∧ i = .int .i64 (k : Int) ∧ Ext w wr ∧ n = .int .i64 (distK g ms k : Nat)) (fun _ i _ => 15 - (intOf i).toNat)
      case atStart => exact ⟨0, by omega, rfl, hE1, rfl⟩
      case round =>
        obtain ⟨k, hk, rfl, hE2, rfl⟩ := hrel
        by_cases hkl : k < 15
        · have hag := run_index_arr wr g k HG.out hkl
          obtain ⟨b, off, rfl, c0⟩ := HC.out k (by rw [HL.out]; exact hkl)
          have c0 := hE2.get c0
          have HK := Lib.hid (show distK g ms (k + 1) = distK g ms k + (if ms.getD k 0 ≠ 2 ∧ ms.getD k 0 ≠ g.getD k 0 then 1 else 0) from rfl)
          have hdk := distK_le g ms k
          obtain ⟨x, hx⟩ : ∃ x, ms.getD k 0 = x := ⟨_, rfl⟩
          obtain ⟨y, hy⟩ : ∃ y, g.getD k 0 = y := ⟨_, rfl⟩
          obtain ⟨n, hn⟩ : ∃ n, distK g ms k = n := ⟨_, rfl⟩
          rw [hx] at c0 HK
          rw [hy] at hag HK
          rw [hn] at HK hdk ⊢
          have HXY := Lib.hid (And.intro hx (And.intro hy hn))
          clear hx hy hn
          rw [HL.out]
          by_cases h2 : x = 2
          · have q0 : ((x : Int) = 2) := by omega
            have HF := Lib.hid (show distK g ms (k + 1) = n by rw [HK.out, if_neg (fun h => h.1 h2)]; rfl)
            go_wp2
            exact ⟨⟨k + 1, by omega, by go_num, hE2, by rw [HF.out]⟩, by simp [intOf]; omega⟩
          · have q0 : ¬ ((x : Int) = 2) := by omega
            by_cases h3 : x = y
            · subst h3
              have HF := Lib.hid (show distK g ms (k + 1) = n by rw [HK.out, if_neg (fun h => h.2 rfl)]; rfl)
              go_wp2
              exact ⟨⟨k + 1, by omega, by go_num, hE2, by rw [HF.out]⟩, by simp [intOf]; omega⟩
            · have q1 : ((x : Int) != (y : Int)) = true := by rw [bne_iff_ne]; omega
              have q2 : ((x : Int) != 2) = true := by rw [bne_iff_ne]; exact q0
              have HF := Lib.hid (show distK g ms (k + 1) = n + 1 by rw [HK.out, if_pos ⟨h2, h3⟩])
              go_wp2
              exact ⟨⟨k + 1, by omega, by go_num, hE2, by rw [HF.out]; go_num⟩, by simp [intOf]; omega⟩
        · obtain rfl : k = 15 := by omega
          have hdk := distK_le g ms 15
          obtain ⟨n, hn⟩ : ∃ n, distK g ms 15 = n := ⟨_, rfl⟩
          rw [hn] at HD hdk ⊢
          have HNN := Lib.hid hn
          clear hn
          obtain ⟨b1, b2, b3⟩ := HB.out
          by_cases hq : n < s2
          · have q : ((n : Int) < (s2 : Int)) := by omega
            have HF := Lib.hid (show nearN (dist ms) (d + 1) = (d, n, s2) by rw [HS.out, HD.out, if_pos hq])
            go_wp2
            exact ⟨⟨d + 1, by omega, by go_num, hE2, by rw [HF.out], by rw [HF.out], by rw [HF.out]⟩, by simp [intOf]; omega⟩
          · have q : ¬ ((n : Int) < (s2 : Int)) := by omega
            have HF := Lib.hid (show nearN (dist ms) (d + 1) = (s1, s2, min s3 n) by rw [HS.out, HD.out, if_neg hq])
            obtain ⟨mn, hmn⟩ : ∃ mn : Int, min (s3 : Int) (n : Int) = mn := ⟨_, rfl⟩
            have HM := Lib.hid hmn
            clear hmn
            go_wp2
            exact ⟨⟨d + 1, by omega, by go_num, hE2, by rw [HF.out], by rw [HF.out], by rw [HF.out]; go_num⟩, by simp [intOf]; omega⟩
    · obtain rfl : d = 10 := by omega
      obtain ⟨h1, h2⟩ := HN.out
      have b := nearN_bd (dist ms) (dist_le ms) 10
      have c := nearest_bd ms
      obtain ⟨s, hs⟩ : ∃ s, nearN (dist ms) 10 = s := ⟨_, rfl⟩
      obtain ⟨r, hr⟩ : ∃ r, nearestR ms = r := ⟨_, rfl⟩
      rw [hs] at h1 h2 b
      rw [hr] at h1 h2 c
      have HR := Lib.hid hr
      rw [hs]
      clear hs hr HN
      obtain ⟨s1, s2, s3⟩ := s
      obtain ⟨r1, r2⟩ := r
      dsimp only at h1 h2 b c ⊢
      subst h1 h2
      go_wp2
      go_ret2
      exact ⟨by rw [HR.out]; congr 1; simp; omega, hE⟩
/-- the greatest byte of a list -/
def maxU (l : List Nat) : Nat → Nat
  | 0 => l.getD 0 0
  | k + 1 => max (maxU l k) (l.getD (k + 1) 0)
theorem maxU_ge (l : List Nat) : ∀ k, ∀ j ≤ k, l.getD j 0 ≤ maxU l k
  | 0, j, h => by obtain rfl : j = 0 := by omega
                  exact Nat.le_refl _
  | k + 1, j, h => by
    rcases Nat.lt_or_ge k j with h9 | h9
    · obtain rfl : j = k + 1 := by omega
      exact Nat.le_max_right _ _
    · exact Nat.le_trans (maxU_ge l k j h9) (Nat.le_max_left _ _)
theorem maxU_in (l : List Nat) : ∀ k, ∃ j ≤ k, maxU l k = l.getD j 0
  | 0 => ⟨0, Nat.le_refl _, rfl⟩
  | k + 1 => by
    obtain ⟨j, hj, e⟩ := maxU_in l k
    rcases Nat.le_total (maxU l k) (l.getD (k + 1) 0) with h | h
    · exact ⟨k + 1, Nat.le_refl _, Nat.max_eq_right h⟩
    · exact ⟨j, by omega, (Nat.max_eq_left h).trans e⟩
set_option maxRecDepth 100000 in
set_option maxHeartbeats 4000000 in
theorem c_maxU (v : Value) (l : List Nat) (w : World) (hv : BytesAt w v l) (hl : 1 ≤ l.length) (hm : l.length ≤ 1000) :
    Calls Tryd.prog 88 #[v] w fun e w' => e = .returned (.int .u8 (maxU l (l.length - 1) : Nat)) ∧ Ext w w' := by
  obtain ⟨ao, cap, rfl, -, hc⟩ := hv.form
  have c00 := hc 0 (by omega)
  have HC := Lib.hid hc
  clear hc hv
  obtain ⟨b0, off0, rfl, c0⟩ := c00
  obtain ⟨x0, hx0⟩ : ∃ x, l.getD 0 0 = x := ⟨_, rfl⟩
  rw [hx0, Nat.add_zero] at c0
  have HX := Lib.hid hx0
  clear hx0
  have q0 : ¬ ((l.length : Int) < 1) := by omega
  go_enter Tryd.func88, Tryd.ntmps88
  go_wp2
  go_loopw [3, 4] (fun m i wr => ∃ k : Nat, k + 1 ≤ l.length ∧ i = .int .i64 ((k + 1 : Nat) : Int) ∧ Ext w wr ∧ m = .int .u8 (maxU l k : Nat)) (fun _ i _ => l.length - (intOf i).toNat)
  case atStart => exact ⟨0, hl, rfl, Ext.refl _, by rw [← HX.out]; rfl⟩
  case round =>
    obtain ⟨k, hk, rfl, hE, rfl⟩ := hrel
    by_cases hkl : k + 1 < l.length
    · obtain ⟨b, off, hbo, c1⟩ := HC.out (k + 1) hkl
      obtain ⟨rfl, rfl⟩ : b0 = b ∧ off0 = off := by injection hbo with h; injection h with h1 h2; exact ⟨h1, h2⟩
      have c1 := hE.get c1
      have HM := Lib.hid (show maxU l (k + 1) = max (maxU l k) (l.getD (k + 1) 0) from rfl)
      obtain ⟨x, hx⟩ : ∃ x, l.getD (k + 1) 0 = x := ⟨_, rfl⟩
      rw [hx] at c1 HM
      obtain ⟨m, hm'⟩ : ∃ m, maxU l k = m := ⟨_, rfl⟩
      rw [hm'] at HM ⊢
      have HH := Lib.hid (And.intro hx hm')
      clear hx hm' hbo
      go_wp2
      trace_state
      refine ⟨⟨k + 1, by omega, by go_num, hE, by rw [HM.out]; go_num⟩, by simp [intOf]; omega⟩
    · obtain rfl : k = l.length - 1 := by omega
      go_wp2
      go_ret
      exact ⟨rfl, hE⟩
end Go.Proofs.YtlnofbdhamingaaDoor

/- Digits: the program's. -/
namespace Go.Proofs.YtlnofbdhamingaaDoor
open Go.RowKit Go.Sort

/-- what both answer of a digit's modules -/
def glyphI (d : Int) : List Nat × Int := if 0 ≤ d ∧ d ≤ 9 then (glyphR d.toNat, 0) else ([], 2)
def BytesErr (r : List Nat × Int) (w : World) (e : Ending) (w' : World) : Prop := ∃ v', e = .returned (.tuple #[v', .int .i64 r.2]) ∧ BytesAt w' v' r.1 ∧ Ext w w'
theorem bytes_nil (w : World) : BytesAt w (.slice none 0 0) [] := SlAt.nil w 1
set_option maxRecDepth 100000 in
set_option maxHeartbeats 4000000 in
theorem c_Glyph (d : Int) (w : World) : Calls Tryd.prog 51 #[.int .i64 d] w (BytesErr (glyphI d) w) := by
  by_cases h : 0 ≤ d ∧ d ≤ 9
  · have HI := Lib.hid (show glyphI d = (glyphR d.toNat, 0) from if_pos h)
    obtain ⟨k, rfl⟩ := Int.eq_ofNat_of_zero_le h.1
    have hk : k < 10 := by omega
    have hgl := glyphR_length k hk
    have K := Lib.hid (c_glyph k hk w)
    rw [Int.toNat_natCast] at HI
    obtain ⟨g, hg⟩ : ∃ g, glyphR k = g := ⟨_, rfl⟩
    rw [hg] at K HI hgl
    have HG := Lib.hid hgl
    obtain ⟨z0, z1⟩ := zero_of_info info_arr
    have hst : ∀ w' : World, (storeCells ⟨w'.heap.size, 0, none⟩ (bytesL g) 0).run Tryd.prog (w'.alloc (.cells (Array.replicate 15 (.int .u8 0)) 112)) = .ok () (w'.alloc (.cells (bytesL g).toArray 112)) := fun (w' : World) => run_storeCells_new (P := Tryd.prog) w' 112 (Array.replicate 15 (.int .u8 0)) (bytesL g).toArray (by rw [List.size_toArray, bytesL_length, HG.out]; exact z1) (by show 15 = (bytesL g).length; rw [bytesL_length, HG.out]) (by rw [Array.all_eq_true']; intro x hx; exact bytes_oneCell' g x (by simpa using hx))
    have hbl : (bytesL g).length = 15 := by rw [bytesL_length, HG.out]
    have q1 : ¬ ((k : Int) < 0) := by omega
    have q2 : ¬ ((9 : Int) < (k : Int)) := by omega
    clear h hg hgl
    go_enter Tryd.func51, Tryd.ntmps51
    go_wp2_with (go_at_call 82; (with_reducible refine K.out.mono ?_); rintro E w1 ⟨rfl, h1⟩)
    go_ret2
    exact ⟨_, by rw [HI.out]; rfl, by rw [HI.out]; exact BytesAt.of_owns (by rw [HG.out]; exact owns_lit w1 (bytesL g) 112 15 1 w1.heap.size (Nat.le_refl _) (by unfold maxLen; omega) (by rw [bytesL_length, HG.out])), h1.alloc _⟩
  · have HI := Lib.hid (show glyphI d = ([], 2) from if_neg h)
    by_cases q1 : d < 0
    · go_enter Tryd.func51, Tryd.ntmps51
      go_wp2
      go_ret2
      exact ⟨_, by rw [HI.out]; rfl, by rw [HI.out]; exact bytes_nil _, Ext.refl _⟩
    · have q2 : 9 < d := by omega
      go_enter Tryd.func51, Tryd.ntmps51
      go_wp2
      go_ret2
      exact ⟨_, by rw [HI.out]; rfl, by rw [HI.out]; exact bytes_nil _, Ext.refl _⟩
/-- the nearest digit, its margin, and the error -/
def digitI (ms : List Nat) : (Nat × Nat) × Int := if ms.length = 15 ∧ maxU ms 14 ≤ 2 then (nearestR ms, 0) else ((0, 0), 2)
def ThreeInts (r : (Nat × Nat) × Int) (w : World) (e : Ending) (w' : World) : Prop := e = .returned (.tuple #[.int .i64 (r.1.1 : Nat), .int .i64 (r.1.2 : Nat), .int .i64 r.2]) ∧ Ext w w'
set_option maxRecDepth 100000 in
set_option maxHeartbeats 4000000 in
theorem c_Digit (v : Value) (ms : List Nat) (w : World) (hv : BytesAt w v ms) :
    Calls Tryd.prog 52 #[v] w (ThreeInts (digitI ms) w) := by
  by_cases hl : ms.length = 15
  · have K1 := c_maxU v ms w hv (by omega) (by omega)
    rw [hl] at K1
    have K2 := Lib.hid (fun w' (h : Ext w w') => c_nearest v ms w' (hv.ext h) hl)
    obtain ⟨m, hm⟩ : ∃ m, maxU ms 14 = m := ⟨_, rfl⟩
    have HD := Lib.hid (show digitI ms = if ms.length = 15 ∧ m ≤ 2 then (nearestR ms, 0) else ((0, 0), 2) by rw [← hm]; rfl)
    rw [show 15 - 1 = 14 from rfl, hm] at K1
    have K1 := Lib.hid K1
    obtain ⟨b0, off0, cap, rfl, -⟩ := hv.some hl (by omega)
    have HL := Lib.hid hl
    clear hl hm hv
    by_cases h : m ≤ 2
    · have HI := Lib.hid (show digitI ms = (nearestR ms, 0) by rw [HD.out, if_pos ⟨HL.out, h⟩])
      have q : ¬ ((2 : Int) < (m : Int)) := by omega
      clear h
      go_enter Tryd.func52, Tryd.ntmps52
      go_wp2_with (first
        | (go_at_call 88; (with_reducible refine K1.out.mono ?_); rintro E w1 ⟨rfl, h1⟩)
        | (go_at_call 85; (with_reducible refine (K2.out _ h1).mono ?_); rintro E w2 ⟨rfl, h2⟩))
      go_ret3
      exact ⟨by rw [HI.out]; rfl, h1.trans h2⟩
    · have HI := Lib.hid (show digitI ms = ((0, 0), 2) by rw [HD.out, if_neg (fun h9 => h h9.2)])
      have q : (2 : Int) < (m : Int) := by omega
      clear h
      go_enter Tryd.func52, Tryd.ntmps52
      go_wp2_with (go_at_call 88; (with_reducible refine K1.out.mono ?_); rintro E w1 ⟨rfl, h1⟩)
      go_ret3
      exact ⟨by rw [HI.out]; rfl, h1⟩
  · have HI := Lib.hid (show digitI ms = ((0, 0), 2) from if_neg (fun h9 => hl h9.1))
    obtain ⟨ao, cap, rfl, -, -⟩ := hv.form
    have q : ((ms.length : Int) != 15) = true := by rw [bne_iff_ne]; omega
    have HL := Lib.hid hl
    clear hl hv
    go_enter Tryd.func52, Tryd.ntmps52
    go_wp2
    go_ret3
    exact ⟨by rw [HI.out]; rfl, Ext.refl _⟩
end Go.Proofs.YtlnofbdhamingaaDoor
