/- Words of messages: the program's. -/
import Derived.Test.YtlnofbdhamingaaDoorEncode
import Derived.OwnWalk
import Derived.OneCell
set_option linter.unusedVariables false
set_option linter.unusedSimpArgs false
namespace Go.Proofs.YtlnofbdhamingaaDoor
open Go.RowKit Go.Sort

theorem info_sym : (Tryd.prog.info? 92).map (fun i => (i.zero, i.size, i.bytes)) = some (some (.int .u8 0), 1, 1) := by kernel_rfl
/-- a row that is filled as far as k -/
def rowK (l : List Nat) (n k : Nat) : List Value := bytesL (l.take k) ++ List.replicate (n - k) (.int .u8 0)
theorem rowK_zero (l : List Nat) (n : Nat) : rowK l n 0 = List.replicate n (.int .u8 0) := by simp [rowK, bytesL]
theorem made_zero (l : List Nat) (n : Nat) : (madeCells (Value.int .u8 0).cells (n * 1)).toList = rowK l n 0 := by
  rw [Nat.mul_one, rowK_zero]
  exact toList_madeCells_one _ _
theorem rowK_full {l : List Nat} : rowK l l.length l.length = bytesL l := by simp [rowK]
theorem rowK_get {l : List Nat} {n k : Nat} (hk : k < n) (hn : n = l.length) : (rowK l n k)[k]? = some (.int .u8 0) := by
  subst hn
  unfold rowK
  have hlen : (bytesL (l.take k)).length = k := by simp [bytesL]; omega
  rw [List.getElem?_append_right (by omega), hlen, Nat.sub_self, List.getElem?_replicate, if_pos (by omega)]
theorem rowK_set {l : List Nat} {n k : Nat} (hk : k < n) (hn : n = l.length) : (rowK l n k).set k (.int .u8 (l.getD k 0 : Nat)) = rowK l n (k + 1) := by
  subst hn
  unfold rowK
  have e : l.take (k + 1) = l.take k ++ [l.getD k 0] := by
    rw [List.take_add_one, List.getElem?_eq_getElem hk, List.getD_eq_getElem?_getD, List.getElem?_eq_getElem hk]; rfl
  have e2 : l.length - k = (l.length - (k + 1)) + 1 := by omega
  rw [e, e2, List.replicate_succ]
  have hlen : (bytesL (l.take k)).length = k := by simp [bytesL]; omega
  rw [List.set_append_right _ _ (by omega), hlen, Nat.sub_self]
  simp [bytesL]
set_option maxRecDepth 100000 in
set_option maxHeartbeats 4000000 in
theorem c_encode (v : Value) (l : List Nat) (w : World) (hT : Tabs w) (hv : BytesAt w v l) (hl : l.length ≤ 1000) (hs : Syms l) :
    Calls Tryd.prog 58 #[v] w (OwnBytes (encR l) w) := by
  obtain ⟨i0, hi, hz0, hz1, hz2⟩ := info_parts3 info_sym
  obtain ⟨i1, ki, kz0, kz1, kz2⟩ := info_parts3 info_byte
  obtain ⟨ao, cap, rfl, -, hc⟩ := hv.form
  have HC := Lib.hid hc
  have HT := Lib.hid hT
  clear hc hv hT
  go_enter Tryd.func58, Tryd.ntmps58
  go_wp2_with (at_make; refine wpList_make_full _ rfl _ _ 129 rfl w.heap.size 92 i0 (.int .u8 0) 1 Tryd.underlying129 hi hz0 hz1 .i64 .i64 _ _ l.length rfl rfl rfl rfl (by rw [hz2]; omega) (by unfold maxLen; omega) (Nat.le_refl _) ?_; intro w1 ho1 hg1)
  rw [made_zero l] at ho1
  have hE1 : Ext w w1 := (Ext.refl w).grownNone hg1
  have HO1 := Lib.hid ho1
  clear ho1 hg1
  go_loopw [13] (fun i wr => ∃ k : Nat, k ≤ l.length ∧ i = .int .i64 (k : Int) ∧ Ext w wr ∧ Hid (wr.ownsRow w.heap.size 92 1 (.slice (some ⟨w.heap.size, 0, none⟩) l.length l.length) l.length (rowK l l.length k))) (fun i _ => l.length - (intOf i).toNat)
  case atStart => exact ⟨0, by omega, rfl, hE1, HO1⟩
  case round =>
    obtain ⟨k, hk, rfl, hE, hO⟩ := hrel
    by_cases hkl : k < l.length
    · obtain ⟨b, off, rfl, c0⟩ := HC.out k hkl
      have c0 := hE.get c0
      have r0 : wr.cell? ⟨w.heap.size, k, none⟩ = some (.int .u8 0) := by rw [hO.out.cellAt k (by omega)]; exact rowK_get hkl rfl
      have r1 := hO.out.frozenAt k
      obtain ⟨y, hyy⟩ : ∃ y, l.getD k 0 = y := ⟨_, rfl⟩
      rw [hyy] at c0
      have HY := Lib.hid hyy
      clear hyy
      go_wp2
      go_roundw
      case rel => exact ⟨k + 1, by omega, by go_num, hE.setCell (Nat.le_refl _) _, Lib.hid (by
        have h := (hO.out.stored k (.int .u8 (y : Int))).1
        rw [← HY.out, rowK_set hkl rfl] at h
        rw [← HY.out]
        exact h)⟩
      case measure => simp [intOf]; omega
    · obtain rfl : k = l.length := by omega
      have ho := hO.out
      rw [rowK_full] at ho
      have HR := Lib.hid ho
      obtain ⟨wa, hwa⟩ : ∃ wa : World, wa = wr := ⟨_, rfl⟩
      subst hwa
      clear ho hO hk hkl
      go_wp2_with (at_make; refine wpList_make_full _ rfl _ _ 22 rfl w.heap.size 5 i1 (.int .u8 0) 1 Tryd.underlying22 ki kz0 kz1 .i64 .i64 _ _ 15 rfl rfl rfl rfl (by rw [kz2]; omega) (by unfold maxLen; omega) hE.size ?_; intro w2 ho2 hg2)
      rw [made_zero (encR l), ← encR_length l] at ho2
      have hB := owns_block HR.out w.heap.size rfl
      have hE2 : Ext w w2 := hE.grownNone hg2
      have HR2 := Lib.hid (owns_ext HR.out (ext_of_grownNone hg2))
      have HO2 := Lib.hid ho2
      obtain ⟨wc, hwc⟩ : ∃ wc : World, wc = w2 := ⟨_, rfl⟩
      obtain ⟨B, hB2⟩ : ∃ B, wa.heap.size = B := ⟨_, rfl⟩
      rw [hB2] at hB HO2 ⊢
      have hBw : w.heap.size < B := by omega
      clear ho2 hg2 HR hE HO1 hE1
      go_loopw [26] (fun i wr => ∃ k : Nat, k ≤ 15 ∧ i = .int .i64 (k : Int) ∧ Ext w wr ∧ Hid (wr.ownsRow w.heap.size 92 1 (.slice (some ⟨w.heap.size, 0, none⟩) l.length l.length) l.length (bytesL l)) ∧ Hid (wr.ownsRow w.heap.size 5 1 (.slice (some ⟨B, 0, none⟩) (encR l).length (encR l).length) (encR l).length (rowK (encR l) (encR l).length k))) (fun i _ => 15 - (intOf i).toNat)
      case atStart => exact ⟨0, by omega, rfl, hE2, HR2, HO2⟩
      case round =>
        obtain ⟨k, hk, rfl, hE, hR, hO⟩ := hrel
        by_cases hk15 : k < 15
        · have hel : (encR l).length = 15 := encR_length l
          have hp := (pow_at (i := k) (by omega)).2
          have hrow : BytesAt wr (.slice (some ⟨w.heap.size, 0, none⟩) l.length l.length) l := SlAt.of_owns hR.out
          have CP := Lib.hid (fun w' (h : Ext wr w') => c_point k (by omega) w' (HT.out.ext (hE.trans h)))
          have r0 : wr.cell? ⟨B, k, none⟩ = some (.int .u8 0) := by rw [hO.out.cellAt k (by omega)]; exact rowK_get (by omega) rfl
          have r1 := hO.out.frozenAt k
          obtain ⟨p, hpp⟩ : ∃ p, powN k = p := ⟨_, rfl⟩
          rw [hpp] at CP hp
          have CV := Lib.hid (fun (w' : World) (h : Ext wr w') => c_at _ l p w' (HT.out.ext (hE.trans h)) (hrow.ext h) hl hs hp)
          obtain ⟨y, hyy⟩ : ∃ y, gval l p = y := ⟨_, rfl⟩
          rw [hyy] at CV
          have HY := Lib.hid (show (encR l).getD k 0 = y by
            rw [← hyy, ← hpp]
            simp [encR, List.getD_eq_getElem?_getD, List.getElem?_map, List.getElem?_range hk15])
          have HEL := Lib.hid hel
          have zB := World.block_lt_of_cell? _ _ r0
          simp only at zB
          clear hpp hyy hrow hel
          rw [HEL.out]
          go_wp2_with (first
            | (go_at_call 90; (with_reducible refine (CP.out _ (Ext.refl _)).mono ?_); rintro E w3 ⟨rfl, h1⟩)
            | (go_at_call 89; (with_reducible refine (CV.out _ h1).mono ?_); rintro E w4 ⟨rfl, h2⟩; have h3 := h1.trans h2; have r2 := h3.get r0; have r3 := (h3.frozen B k zB).trans r1))
          refine ⟨⟨k + 1, by omega, by go_num, (hE.trans h3).setCell (by simp; omega) _, Lib.hid (ownsRow_setCell_other (owns_ext hR.out h3) (by simp [Value.ownBlock]; omega) _), Lib.hid ?_⟩, by simp [intOf]; omega⟩
          have h := ((owns_ext hO.out h3).stored k (.int .u8 (y : Int))).1
          rw [← HY.out, rowK_set (by have := HEL.out; omega) rfl, HEL.out] at h
          rw [← HY.out]
          exact h
        · obtain rfl : k = 15 := by omega
          have hel : (encR l).length = 15 := encR_length l
          have ho := hO.out
          have HF := rowK_full (l := encR l)
          rw [hel] at HF ho ⊢
          rw [HF] at ho
          have HO := Lib.hid ho
          clear hO HF hR HO2 ho
          go_wp2
          go_ret
          exact ⟨_, rfl, by rw [hel]; exact HO.out, hE⟩
theorem c_Encode (v : Value) (l : List Nat) (w : World) (hT : Tabs w) (hv : BytesAt w v l) (hl : l.length ≤ maxLen) : Calls Tryd.prog 22 #[v] w (OwnWord l w) :=
  encode_any _ _ _ (.inl ⟨rfl, rfl, rfl⟩) v l w (c_message v l w hv hl) (fun h w' hE => c_encode v l w' (hT.ext hE) (hv.ext hE) (by have := (message_syms h).2; omega) (message_syms h).1)
end Go.Proofs.YtlnofbdhamingaaDoor
