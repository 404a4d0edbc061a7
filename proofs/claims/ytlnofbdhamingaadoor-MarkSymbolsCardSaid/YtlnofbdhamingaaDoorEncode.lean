/- Words of messages: the reference's. -/
import Derived.Test.YtlnofbdhamingaaDoorValue
import Derived.Test.YtlnofbdhamingaaDoorAppend
import Derived.WalkSpells
set_option linter.unusedVariables false
set_option linter.unusedSimpArgs false
namespace Go.Proofs.YtlnofbdhamingaaDoor
open Go.RowKit Go.Sort

theorem info_byte : (Tryd.prog.info? 5).map (fun i => (i.zero, i.size, i.bytes)) = some (some (.int .u8 0), 1, 1) := by kernel_rfl
theorem info_parts3 {o : Option TypeInfo} {z : Option Value} {s b : Nat} (h : o.map (fun i => (i.zero, i.size, i.bytes)) = some (z, s, b)) : ∃ i, o = some i ∧ i.zero = z ∧ i.size = s ∧ i.bytes = b := by
  cases o with
  | none => cases h
  | some i =>
    simp only [Option.map_some, Option.some.injEq, Prod.mk.injEq] at h
    exact ⟨i, rfl, h.1, h.2.1, h.2.2⟩
theorem bytes_oneCell' (l : List Nat) : ∀ u ∈ bytesL l, u.oneCell' = true := by
  intro u hu
  obtain ⟨_, _, rfl⟩ := List.mem_map.1 hu
  rfl
/-- the word of a message -/
def encR (l : List Nat) : List Nat := (List.range 15).map fun i => gval l (powN i)
theorem encR_length (l : List Nat) : (encR l).length = 15 := by simp [encR]
theorem encR_take {l : List Nat} {k : Nat} (h : k < 15) : (encR l).take (k + 1) = (encR l).take k ++ [gval l (powN k)] := by
  rw [List.take_add_one, show (encR l)[k]? = some (gval l (powN k)) by simp [encR, h]]
  rfl
/-- a slice of bytes of the call's own -/
def OwnBytes (l : List Nat) (w : World) (e : Ending) (w' : World) : Prop := ∃ v', e = .returned v' ∧ w'.ownsRow w.heap.size 5 1 v' l.length (bytesL l) ∧ Ext w w'
set_option maxRecDepth 100000 in
set_option maxHeartbeats 4000000 in
theorem r_Encoded (v : Value) (l : List Nat) (w : World) (hv : BytesAt w v l) (hl : l.length ≤ 1000) (hs : Syms l) :
    Calls Tryd.prog 59 #[v] w (OwnBytes (encR l) w) := by
  obtain ⟨i0, hi, hz0, hz1, hz2⟩ := info_parts3 info_byte
  have HV := Lib.hid hv
  clear hv
  go_enter Tryd.func59, Tryd.ntmps59
  go_wp2
  go_loopw [3, 4] (fun o i wr => ∃ k : Nat, k ≤ 15 ∧ i = .int .i64 (k : Int) ∧ Ext w wr ∧ Hid (wr.ownsRow w.heap.size 5 1 o k (bytesL ((encR l).take k)))) (fun _ i _ => 15 - (intOf i).toNat)
  case atStart => exact ⟨0, by omega, rfl, Ext.refl _, Lib.hid ⟨rfl, .inl ⟨rfl, rfl⟩⟩⟩
  case round =>
    obtain ⟨k, hk, rfl, hE, hO⟩ := hrel
    by_cases hk15 : k < 15
    · have hp := (pow_at (i := k) (by omega)).2
      have CP := Lib.hid (fun w => r_Point k (by omega) w)
      obtain ⟨p, hpp⟩ : ∃ p, powN k = p := ⟨_, rfl⟩
      rw [hpp] at CP hp
      have CV := Lib.hid (fun (w' : World) (h : Ext w w') => r_valueOf v l p w' (HV.out.ext h) hl hs hp)
      have hy := gval_lt hs hp
      obtain ⟨y, hyy⟩ : ∃ y, gval l p = y := ⟨_, rfl⟩
      rw [hyy] at CV hy
      have HY := Lib.hid (show gval l (powN k) = y by rw [hpp]; exact hyy)
      clear hpp hyy
      go_wp2_with (first
        | (go_at_call 92; (with_reducible refine (CP.out _).mono ?_); rintro E w1 ⟨rfl, h1⟩; have E1 := Lib.hid (hE.trans h1); have O1 := Lib.hid (owns_ext hO.out h1))
        | (go_at_call 91; (with_reducible refine (CV.out _ E1.out).mono ?_); rintro E w2 ⟨rfl, h2⟩; have E2 := Lib.hid (E1.out.trans h2); have O2 := Lib.hid (owns_ext O1.out h2))
        | (at_builtin; refine wpList_append_sl rfl _ _ 22 rfl w.heap.size 5 i0 (.int .u8 0) 1 1 Tryd.underlying22 hi hz0 hz1 hz2 rfl (by omega) u3 k (bytesL ((encR l).take k)) rfl (owns_ext O2.out ((Ext.refl _).alloc _)) _ 1 [.int .u8 (y : Int)] rfl (SlAt.of_owns (owns_lit w2 [.int .u8 (y : Int)] 5 1 1 0 (Nat.zero_le _) (by unfold maxLen; omega) rfl)) (bytes_oneCell' [y]) (by unfold maxLen; omega) (by omega) ((E2.out.alloc _).size) ?_; intro v' w' ho hg))
      go_roundw
      case rel => exact ⟨k + 1, by omega, by go_num, (E2.out.alloc _).grown hg (fun g hk => (owns_block O2.out g hk).1), Lib.hid (by
        rw [encR_take hk15, HY.out, show bytesL (List.take k (encR l) ++ [y]) = bytesL (List.take k (encR l)) ++ [.int .u8 (y : Int)] by simp [bytesL]]
        exact ho)⟩
      case measure => simp [intOf]; omega
    · obtain rfl : k = 15 := by omega
      go_wp2
      go_ret
      refine ⟨_, rfl, ?_, hE⟩
      have h := hO.out
      rw [List.take_of_length_le (by rw [encR_length]; exact Nat.le_refl _)] at h
      rw [encR_length]
      exact h
theorem encR_lt {l : List Nat} (hs : Syms l) : Syms (encR l) := by
  intro x hx
  obtain ⟨i, hi, rfl⟩ := List.mem_map.1 hx
  exact gval_lt hs (pow_at (by have := List.mem_range.1 hi; omega)).2
/-- what 'Encode' answers: the word, and the error -/
def encodeR (l : List Nat) : Option (List Nat) × Int := if isMessage l = true then (some (encR l), 0) else (none, 2)
def OwnWord (l : List Nat) (w : World) (e : Ending) (w' : World) : Prop := ∃ v', e = .returned (.tuple #[v', .int .i64 (encodeR l).2]) ∧ w'.ownsRow w.heap.size 5 1 v' ((encodeR l).1.getD []).length (bytesL ((encodeR l).1.getD [])) ∧ Ext w w'
set_option maxHeartbeats 2000000 in
theorem encode_any (f g h : FuncId) (hf : (f = 22 ∧ g = 57 ∧ h = 58) ∨ (f = 23 ∧ g = 39 ∧ h = 59)) (v : Value) (l : List Nat) (w : World)
    (k1 : Calls Tryd.prog g #[v] w fun e w' => e = .returned (.bool (isMessage l)) ∧ Ext w w')
    (k2 : isMessage l = true → ∀ w', Ext w w' → Calls Tryd.prog h #[v] w' (OwnBytes (encR l) w')) :
    Calls Tryd.prog f #[v] w (OwnWord l w) := by
  obtain ⟨t, ht⟩ : ∃ t, isMessage l = t := ⟨_, rfl⟩
  rw [ht] at k1 k2
  have K1 := Lib.hid k1
  have K2 := Lib.hid k2
  have HT := Lib.hid ht
  clear k1 k2 ht
  cases t
  · have e : encodeR l = (none, 2) := if_neg (by rw [HT.out]; decide)
    have HE := Lib.hid e
    clear e
    rcases hf with ⟨rfl, rfl, rfl⟩ | ⟨rfl, rfl, rfl⟩
    · go_enter Tryd.func22, Tryd.ntmps22
      go_wp2_with (go_at_call 57; (with_reducible refine K1.out.mono ?_); rintro E w1 ⟨rfl, h1⟩)
      go_ret2
      exact ⟨_, by rw [HE.out]; rfl, by rw [HE.out]; exact ⟨rfl, .inl ⟨rfl, rfl⟩⟩, h1⟩
    · go_enter Tryd.func23, Tryd.ntmps23
      go_wp2_with (go_at_call 39; (with_reducible refine K1.out.mono ?_); rintro E w1 ⟨rfl, h1⟩)
      go_ret2
      exact ⟨_, by rw [HE.out]; rfl, by rw [HE.out]; exact ⟨rfl, .inl ⟨rfl, rfl⟩⟩, h1⟩
  · have e : encodeR l = (some (encR l), 0) := if_pos HT.out
    have HE := Lib.hid e
    have K2x := Lib.hid (K2.out rfl)
    clear e K2
    rcases hf with ⟨rfl, rfl, rfl⟩ | ⟨rfl, rfl, rfl⟩
    · go_enter Tryd.func22, Tryd.ntmps22
      go_wp2_with (first | (go_at_call 57; (with_reducible refine K1.out.mono ?_); rintro E w1 ⟨rfl, h1⟩) | (go_at_call 58; (with_reducible refine (K2x.out _ h1).mono ?_); rintro E w2 ⟨v', rfl, ho, h2⟩))
      go_ret2
      exact ⟨_, by rw [HE.out]; rfl, by rw [HE.out]; exact owns_base ho h1.size, h1.trans h2⟩
    · go_enter Tryd.func23, Tryd.ntmps23
      go_wp2_with (first | (go_at_call 39; (with_reducible refine K1.out.mono ?_); rintro E w1 ⟨rfl, h1⟩) | (go_at_call 59; (with_reducible refine (K2x.out _ h1).mono ?_); rintro E w2 ⟨v', rfl, ho, h2⟩))
      go_ret2
      exact ⟨_, by rw [HE.out]; rfl, by rw [HE.out]; exact owns_base ho h1.size, h1.trans h2⟩
theorem message_syms {l : List Nat} (h : isMessage l = true) : Syms l ∧ l.length ≤ 13 := by
  unfold isMessage at h
  simp only [Bool.and_eq_true, decide_eq_true_eq] at h
  exact ⟨syms_of h.2, h.1.2⟩
theorem r_Encode (v : Value) (l : List Nat) (w : World) (hv : BytesAt w v l) (hl : l.length ≤ maxLen) : Calls Tryd.prog 23 #[v] w (OwnWord l w) :=
  encode_any _ _ _ (.inr ⟨rfl, rfl, rfl⟩) v l w (r_Message v l w hv hl) (fun h w' hE => r_Encoded v l w' (hv.ext hE) (by have := (message_syms h).2; omega) (message_syms h).1)
end Go.Proofs.YtlnofbdhamingaaDoor
