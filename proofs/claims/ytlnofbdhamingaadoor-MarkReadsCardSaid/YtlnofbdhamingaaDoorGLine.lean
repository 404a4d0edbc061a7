/- Joined from the parts BuilderFn, LineFn, LineC, SameBytes, LineS. -/
import Derived.Test.YtlnofbdhamingaaDoorShelfB
import Derived.Test.YtlnofbdhamingaaDoorGDraw
import Derived.Laws.Externs
import Derived.Test.YtlnofbdhamingaaDoorGMod
import Derived.Test.YtlnofbdhamingaaDoorBytes
import Derived.Test.YtlnofbdhamingaaDoorProg
import Derived.Laws.BytesArg
import Derived.KernelRfl
import Derived.WalkSpells
set_option linter.unusedVariables false
set_option linter.unusedSimpArgs false
/- strings.Builder: copyCheck, WriteByte (walked here: this program's copyCheck holds an operation that the shelf's does not), String (the shelf's). -/
namespace Go.Proofs.YtlnofbdhamingaaDoor
open Go.RowKit Go.Sort

theorem bld_size : (Tryd.prog.info? 117).map (·.size) = some 2 := by kernel_rfl
theorem bld_lies : liesAt Tryd.prog Tryd.prog.depth 117 (2 / Tryd.prog.cellsOf 117) 0 117 1 = true := by kernel_rfl
theorem bld_noescape : ∀ (b : Nat) (w : World), (callFunc 132 #[.pointer (some ⟨b, 0, none⟩)]).run Tryd.prog w = .ok (.value (.pointer (some ⟨b, 0, none⟩))) w := fun b w => by
  rw [run_callFunc_extern Tryd.func132 (by kernel_rfl) (by kernel_rfl) (by kernel_rfl) (e := Extern.AbiNoEscape.same) (by kernel_rfl)]
  rw [Lib.run_noEscape]
  rfl
set_option maxHeartbeats 1000000 in
set_option maxRecDepth 100000 in
theorem c_copy_used (b : Nat) (w : World) (h0 : w.cell? ⟨b, 0, none⟩ = some (.pointer (some ⟨b, 0, none⟩))) :
    Calls Tryd.prog 120 #[.pointer (some ⟨b, 0, none⟩)] w fun e w' => e = .returned (.tuple #[]) ∧ w' = w := by
  obtain ⟨j, hj, _⟩ := Option.map_eq_some_iff.1 bld_size
  go_enter Tryd.func120, Tryd.ntmps120
  go_wp2
  rw [Lib.run_neq_ptr_same w _ Tryd.underlying115 hj]
  go_wp2
  go_end0
  exact ⟨rfl, rfl⟩
set_option maxHeartbeats 1000000 in
set_option maxRecDepth 100000 in
theorem c_copy_fresh (b : Nat) (w : World) (h0 : w.cell? ⟨b, 0, none⟩ = some (.pointer none)) (hsh : w.shape? b = some (117, 2)) (hfz : w.frozen? ⟨b, 0, none⟩ = false) :
    Calls Tryd.prog 120 #[.pointer (some ⟨b, 0, none⟩)] w fun e w' => e = .returned (.tuple #[]) ∧ w' = w.setCell ⟨b, 0, none⟩ (.pointer (some ⟨b, 0, none⟩)) := by
  obtain ⟨j, hj, hjs⟩ := Option.map_eq_some_iff.1 bld_size
  go_enter Tryd.func120, Tryd.ntmps120
  go_wp2
  rw [Lib.run_to_unsafe w ⟨b, 0, none⟩ Tryd.underlying115 Tryd.underlying173 hj (by rw [hjs]; decide) hsh (Nat.zero_lt_succ 1)]
  simp only [Result.andThen]
  rw [Oper.upon_value]
  go_wp2
  rw [run_callFunc_extern Tryd.func132 (by kernel_rfl) (by kernel_rfl) (by kernel_rfl) (e := Extern.AbiNoEscape.same) (by kernel_rfl)]
  rw [Lib.run_noEscape]
  simp only [Result.andThen]
  rw [Oper.upon_value]
  go_wp2
  rw [Lib.run_from_unsafe w ⟨b, 0, none⟩ Tryd.underlying173 Tryd.underlying115 hj hsh bld_lies]
  simp only [Result.andThen]
  rw [Oper.upon_value]
  go_wp2
  go_end0
  exact ⟨rfl, rfl⟩
theorem c_copyCheck (B b : Nat) (bs : List Value) (w : World) (h : Lib.IsBuilder 117 5 B b bs w) :
    Calls Tryd.prog 120 #[.pointer (some ⟨b, 0, none⟩)] w fun e w' => e = .returned (.tuple #[]) ∧ (Lib.BuilderAt 117 5 B b (.pointer (some ⟨b, 0, none⟩)) bs w' ∧ Below B w w') := by
  rcases h with h | h
  · refine (c_copy_fresh b w h.cell0 h.shape h.frozen0).mono ?_
    rintro e w' ⟨rfl, rfl⟩
    exact ⟨rfl, h.used _, (Below.refl B w).setCell (p := ⟨b, 0, none⟩) h.1 _⟩
  · refine (c_copy_used b w h.cell0).mono ?_
    rintro e w' ⟨rfl, rfl⟩
    exact ⟨rfl, h, Below.refl B _⟩
set_option maxHeartbeats 2000000 in
set_option maxRecDepth 100000 in
theorem c_WriteByte (B b : Nat) (bs : List Value) (c : Int) (w : World) (h : Lib.IsBuilder 117 5 B b bs w) (hlen : bs.length + 1 ≤ 140737488355328) (hBw : B ≤ w.heap.size) :
    Calls Tryd.prog 86 #[.pointer (some ⟨b, 0, none⟩), .int .u8 c] w fun e w' => e = .returned .nilIface ∧ (Lib.BuilderAt 117 5 B b (.pointer (some ⟨b, 0, none⟩)) (bs ++ [.int .u8 c]) w' ∧ Below B w w') := by
  obtain ⟨i0, hi, hz0, hz1, hz2⟩ := info_parts3 info_byte
  go_enter Tryd.func86, Tryd.ntmps86
  go_wp2_with (go_at_call 120; refine (c_copyCheck B b bs _ h).mono ?_)
  rintro e w1 ⟨rfl, h1, hb1⟩
  obtain ⟨hB, v, hbk, hown, hne⟩ := h1
  have c0 : w1.cell? ⟨b, 0, none⟩ = some (.pointer (some ⟨b, 0, none⟩)) := by rw [Lib.cell_of_heap hbk]; rfl
  have c1 : w1.cell? ⟨b, 1, none⟩ = some v := by rw [Lib.cell_of_heap hbk]; rfl
  go_wp2_with (at_builtin; refine wpList_append_own _ rfl _ _ 22 rfl B 5 i0 (.int .u8 0) 1 1 Tryd.underlying22 hi hz0 hz1 hz2 rfl (by decide) _ _ _ rfl (hown.alloc _) ⟨w1.heap.size, 0, none⟩ 1 1 [.int .u8 c] rfl rfl ?c1 ?c2 ?c3 ?c4 ?c5 ?_)
  case c1 =>
    intro j u hj
    match j, hj with
    | 0, hj => simp at hj; subst hj; simp [Addr.add]
  case c2 => intro u hu; simp at hu; subst hu; rfl
  case c3 => unfold maxLen; omega
  case c4 => omega
  case c5 => have := hb1.size; simp; omega
  intro v' w2 hown' hgrow _
  have hlt : b < w1.heap.size := by
    rcases Nat.lt_or_ge b w1.heap.size with h' | h'
    · exact h'
    · simp [Array.getElem?_eq_none h'] at hbk
  have hb2 : w2.heap[b]? = some (.cells #[.pointer (some ⟨b, 0, none⟩), v] 117 (0, 0)) := by
    rw [hgrow.block b (by simp; omega) (fun e => hne e.symm), Lib.alloc_old w1 _ b hlt]
    exact hbk
  have d0 : w2.cell? ⟨b, 0, none⟩ = some (.pointer (some ⟨b, 0, none⟩)) := by rw [Lib.cell_of_heap hb2]; rfl
  have d1 : w2.cell? ⟨b, 1, none⟩ = some v := by rw [Lib.cell_of_heap hb2]; rfl
  have f1 : w2.frozen? ⟨b, 1, none⟩ = false := Lib.frozen_of_heap hb2 1
  obtain ⟨g, cap, rfl⟩ : ∃ g cap, v' = .slice (some ⟨g, 0, none⟩) (bs.length + 1) cap := by
    rcases hown'.2 with ⟨_, h0⟩ | ⟨g, cap, cur, hv, _⟩
    · omega
    · exact ⟨g, cap, hv⟩
  go_wp2
  go_ret
  refine ⟨rfl, ?_, ?_⟩
  · exact Lib.BuilderAt.put (T := 117) (e := 5) hB hb2 (bs' := bs ++ [.int .u8 c]) (by simpa using hown') (by decide)
  · exact ((hb1.alloc (by have := hb1.size; omega) _).grown hgrow (by have := hb1.size; simp; omega) (fun k hk => (hown.lt k hk).1)).setCell (p := ⟨b, 1, none⟩) hB _
end Go.Proofs.YtlnofbdhamingaaDoor

/- Lines of digits: the program's. -/
namespace Go.Proofs.YtlnofbdhamingaaDoor
open Go.RowKit Go.Sort

/-- the modules of one digit of a line -/
def ownR (ms : List Nat) (W i : Nat) : List Nat := (List.range 15).map fun k => ms.getD (k / 3 * W + 4 * i + k % 3) 0
theorem ownR_length (ms : List Nat) (W i : Nat) : (ownR ms W i).length = 15 := by simp [ownR]
theorem ownR_get {ms : List Nat} {W i k : Nat} (h : k < 15) : (ownR ms W i).getD k 0 = ms.getD (k / 3 * W + 4 * i + k % 3) 0 := by
  rw [List.getD_eq_getElem?_getD, ownR, List.getElem?_map, List.getElem?_range h]; rfl
def charR (need : Nat) (own : List Nat) : Nat := if need ≤ (nearestR own).2 then 48 + (nearestR own).1 else 63
def textR (ms : List Nat) (W need n : Nat) : List Nat := (List.range n).map fun i => charR need (ownR ms W i)
theorem textR_succ (ms : List Nat) (W need n : Nat) : textR ms W need (n + 1) = textR ms W need n ++ [charR need (ownR ms W n)] := by
  simp [textR, List.range_succ]
theorem textR_length (ms : List Nat) (W need n : Nat) : (textR ms W need n).length = n := by simp [textR]
theorem textR_lt (ms : List Nat) (W need n : Nat) : ∀ x ∈ textR ms W need n, x < 256 := by
  intro x hx
  obtain ⟨i, -, rfl⟩ := List.mem_map.1 hx
  have := (nearest_bd (ownR ms W i)).1
  unfold charR
  split <;> omega
def strN (l : List Nat) : ByteArray := ⟨(l.map UInt8.ofNat).toArray⟩
theorem byteCells_of {l : List Nat} (h : ∀ x ∈ l, x < 256) : bytesL l = Lib.byteCells (l.map UInt8.ofNat) := by
  unfold bytesL Lib.byteCells
  rw [List.map_map]
  refine List.map_congr_left fun x hx => ?_
  have := h x hx
  simp [UInt8.toNat_ofNat']
  omega
def lineI (m : Img) (s : Int) (c : Con) (need : Int) : List Nat × Int :=
  if (modulesI m s c).2 = 0 then (if 0 ≤ need ∧ need ≤ 15 then (if m.h = 5 * s ∧ m.w / s % 4 = 3 then (textR (modulesI m s c).1 (m.w / s).toNat need.toNat (((m.w / s).toNat + 1) / 4), 0) else ([], 21)) else ([], 2)) else ([], (modulesI m s c).2)
theorem lineI_def (m : Img) (s : Int) (c : Con) (need : Int) : lineI m s c need = if (modulesI m s c).2 = 0 then (if 0 ≤ need ∧ need ≤ 15 then (if m.h = 5 * s ∧ m.w / s % 4 = 3 then (textR (modulesI m s c).1 (m.w / s).toNat need.toNat (((m.w / s).toNat + 1) / 4), 0) else ([], 21)) else ([], 2)) else ([], (modulesI m s c).2) := rfl
/-- what no error means -/
theorem modules_ok {m : Img} {s : Int} {c : Con} (h : (modulesI m s c).2 = 0) : ∃ W H S : Nat, (1 ≤ S ∧ S ≤ 2) ∧ s = (S : Int) ∧ m.w = ((W * S : Nat) : Int) ∧ m.h = ((H * S : Nat) : Int) ∧ (1 ≤ W ∧ W ≤ 16) ∧ (1 ≤ H ∧ H ≤ 16) ∧ (modulesI m s c).1.length = W * H ∧ (m.w / s).toNat = W := by
  rw [modulesI_def] at h ⊢
  by_cases h1 : m.Camera
  · rw [if_pos h1] at h ⊢
    by_cases h2 : 1 ≤ s ∧ s ≤ 2 ∧ c.Ok
    · rw [if_pos h2] at h ⊢
      by_cases h3 : m.w % s = 0 ∧ m.h % s = 0
      · rw [if_pos h3] at h ⊢
        obtain ⟨⟨hw, hh, -⟩, -⟩ := h1
        obtain ⟨S, rfl⟩ := Int.eq_ofNat_of_zero_le (show 0 ≤ s by omega)
        obtain ⟨ww, hww⟩ := Int.eq_ofNat_of_zero_le (show 0 ≤ m.w by omega)
        obtain ⟨hn, hhn⟩ := Int.eq_ofNat_of_zero_le (show 0 ≤ m.h by omega)
        rw [hww] at hw h3
        rw [hhn] at hh h3
        have a1 : ww % S = 0 ∧ hn % S = 0 := by
          obtain ⟨a, b⟩ := h3
          rw [← Int.natCast_emod] at a b
          omega
        have ew : ww / S * S = ww := Nat.div_mul_cancel (Nat.dvd_of_mod_eq_zero a1.1)
        have eh : hn / S * S = hn := Nat.div_mul_cancel (Nat.dvd_of_mod_eq_zero a1.2)
        have b1 := Nat.div_le_self ww S
        have b2 := Nat.div_le_self hn S
        have d1 : ((ww : Int) / (S : Int)).toNat = ww / S := by rw [← Int.natCast_ediv]; rfl
        have d2 : ((hn : Int) / (S : Int)).toNat = hn / S := by rw [← Int.natCast_ediv]; rfl
        refine ⟨ww / S, hn / S, S, by omega, rfl, by rw [ew]; exact hww, by rw [eh]; exact hhn, ⟨Nat.pos_of_ne_zero (fun h0 => by rw [h0] at ew; omega), by omega⟩, ⟨Nat.pos_of_ne_zero (fun h0 => by rw [h0] at eh; omega), by omega⟩, ?_, ?_⟩
        · dsimp only
          rw [seenR_length, hww, hhn, d1, d2]
        · rw [hww, d1]
      · rw [if_neg h3] at h; exact absurd h (by decide)
    · rw [if_neg h2] at h; exact absurd h (by decide)
  · rw [if_neg h1] at h; exact absurd h (by decide)
theorem bld_ext {T e : TypeId} {B b : Nat} {bs : List Value} {w w' : World} (h : Lib.IsBuilder T e B b bs w) (hE : Ext w w') : Lib.IsBuilder T e B b bs w' := by
  have key : ∀ p, Lib.BuilderAt T e B b p bs w → Lib.BuilderAt T e B b p bs w' := by
    rintro p ⟨h1, v, h2, h3, h4⟩
    exact ⟨h1, v, (hE.block b (Array.getElem?_eq_some_iff.1 h2).1).trans h2, owns_ext h3 hE, h4⟩
  exact h.imp (key _) (key _)
theorem bld_new (w : World) (T e : TypeId) : Lib.IsBuilder T e w.heap.size w.heap.size [] (w.alloc (.cells #[.pointer none, .slice none 0 0] T)) :=
  .inl ⟨Nat.le_refl _, _, heap_alloc_new w _, ⟨rfl, .inl ⟨rfl, rfl⟩⟩, by simp [Value.ownBlock]⟩
def StrErr (r : List Nat × Int) (w : World) (e : Ending) (w' : World) : Prop := e = .returned (.tuple #[.string (strN r.1), .int .i64 r.2]) ∧ Ext w w'
end Go.Proofs.YtlnofbdhamingaaDoor

/- Lines of digits: the program's. -/
namespace Go.Proofs.YtlnofbdhamingaaDoor
open Go.RowKit Go.Sort

theorem Ext.trans_below {a b c : World} (h : Ext a b) (k : Below a.heap.size b c) : Ext a c := Below.trans h k
set_option maxRecDepth 100000 in
set_option maxHeartbeats 16000000 in
theorem c_ReadLine (m : Img) (v : Value) (s : Int) (c : Con) (need : Int) (w : World) (hv : IntsAt w v m.pix) (hl : m.pix.length ≤ maxLen) :
    Calls Tryd.prog 46 #[imgVal m v, .int .i64 s, conVal c, .int .i64 need] w (StrErr (lineI m s c need) w) := by
  obtain ⟨i1, ki, kz0, kz1, kz2⟩ := info_parts3 info_byte
  have K1 := Lib.hid (fun w' (h : Ext w w') => c_Modules m v s c w' (hv.ext h) hl)
  unfold BytesErr at K1
  have HD := Lib.hid (lineI_def m s c need)
  have HM := Lib.hid (fun h => modules_ok (m := m) (s := s) (c := c) h)
  obtain ⟨ao, cap, rfl, -, -⟩ := hv.form
  clear hv
  obtain ⟨mr, hmr⟩ : ∃ mr, modulesI m s c = mr := ⟨_, rfl⟩
  rw [hmr] at K1 HD
  simp only [hmr] at HM
  clear hmr
  obtain ⟨ms, er⟩ := mr
  obtain ⟨mw, mh, pix⟩ := m
  obtain ⟨lo, hi'⟩ := c
  dsimp only at HD HM K1
  unfold imgVal conVal at *
  dsimp only at *
  by_cases he : er = 0
  case neg =>
    have q : ((er : Int) != 0) = true := by rw [bne_iff_ne]; exact he
    have HI := Lib.hid (show lineI ⟨mw, mh, pix⟩ s ⟨lo, hi'⟩ need = ([], er) by rw [HD.out, if_neg he])
    clear he
    go_enter Tryd.func46, Tryd.ntmps46
    go_wp2_with (go_at_call 28; (with_reducible refine (K1.out _ (by repeat (first | exact Ext.refl _ | assumption | refine Ext.alloc ?_ _ | refine Ext.drewN ?_ _ | refine ext_grow ?_ _ _ | refine Ext.trans ?_ (by assumption)))).mono ?_); rintro E w1 ⟨v1, rfl, h0, h1⟩; obtain ⟨⟨c0, c1, c2⟩, -⟩ := run_3 (h1.blk (heap_alloc2_old w _ _)); obtain ⟨⟨d0, d1⟩, -⟩ := run_2 (h1.blk (heap_alloc2_new w _ _)))
    go_ret2
    exact ⟨by rw [HI.out]; rfl, (by repeat (first | exact Ext.refl _ | assumption | refine Ext.alloc ?_ _ | refine Ext.drewN ?_ _ | refine ext_grow ?_ _ _ | refine Ext.trans ?_ (by assumption)))⟩
  subst he
  have HD2 := Lib.hid (show lineI ⟨mw, mh, pix⟩ s ⟨lo, hi'⟩ need = _ from HD.out.trans (if_pos rfl))
  by_cases n1 : need < 0
  · have HI := Lib.hid (show lineI ⟨mw, mh, pix⟩ s ⟨lo, hi'⟩ need = ([], 2) by rw [HD2.out, if_neg (by omega)])
    go_enter Tryd.func46, Tryd.ntmps46
    go_wp2_with (go_at_call 28; (with_reducible refine (K1.out _ (by repeat (first | exact Ext.refl _ | assumption | refine Ext.alloc ?_ _ | refine Ext.drewN ?_ _ | refine ext_grow ?_ _ _ | refine Ext.trans ?_ (by assumption)))).mono ?_); rintro E w1 ⟨v1, rfl, h0, h1⟩; obtain ⟨⟨c0, c1, c2⟩, -⟩ := run_3 (h1.blk (heap_alloc2_old w _ _)); obtain ⟨⟨d0, d1⟩, -⟩ := run_2 (h1.blk (heap_alloc2_new w _ _)))
    go_ret2
    exact ⟨by rw [HI.out]; rfl, (by repeat (first | exact Ext.refl _ | assumption | refine Ext.alloc ?_ _ | refine Ext.drewN ?_ _ | refine ext_grow ?_ _ _ | refine Ext.trans ?_ (by assumption)))⟩
  by_cases n2 : 15 < need
  · have HI := Lib.hid (show lineI ⟨mw, mh, pix⟩ s ⟨lo, hi'⟩ need = ([], 2) by rw [HD2.out, if_neg (by omega)])
    go_enter Tryd.func46, Tryd.ntmps46
    go_wp2_with (go_at_call 28; (with_reducible refine (K1.out _ (by repeat (first | exact Ext.refl _ | assumption | refine Ext.alloc ?_ _ | refine Ext.drewN ?_ _ | refine ext_grow ?_ _ _ | refine Ext.trans ?_ (by assumption)))).mono ?_); rintro E w1 ⟨v1, rfl, h0, h1⟩; obtain ⟨⟨c0, c1, c2⟩, -⟩ := run_3 (h1.blk (heap_alloc2_old w _ _)); obtain ⟨⟨d0, d1⟩, -⟩ := run_2 (h1.blk (heap_alloc2_new w _ _)))
    go_ret2
    exact ⟨by rw [HI.out]; rfl, (by repeat (first | exact Ext.refl _ | assumption | refine Ext.alloc ?_ _ | refine Ext.drewN ?_ _ | refine ext_grow ?_ _ _ | refine Ext.trans ?_ (by assumption)))⟩
  obtain ⟨W, H, S, hS, rfl, hmw, hmh, hW, hH, hlen, hdiv⟩ := HM.out rfl
  subst hmw hmh
  clear HM HD
  obtain ⟨nd, rfl⟩ := Int.eq_ofNat_of_zero_le (show 0 ≤ need by omega)
  have hnd : nd ≤ 15 := by omega
  have q1 : ((W * S : Nat) : Int) / (S : Int) = W := by rw [Int.natCast_mul]; exact Int.mul_ediv_cancel _ (by omega)
  have HD3 := Lib.hid (show lineI ⟨((W * S : Nat) : Int), ((H * S : Nat) : Int), pix⟩ (S : Int) ⟨lo, hi'⟩ (nd : Int) = if H = 5 ∧ W % 4 = 3 then (textR ms W nd ((W + 1) / 4), 0) else ([], 21) by
    have a1 : (((H * S : Nat) : Int) = 5 * (S : Int) ∧ (W : Int) % 4 = 3) ↔ (H = 5 ∧ W % 4 = 3) := by
      constructor
      · rintro ⟨a, b⟩
        exact ⟨Nat.eq_of_mul_eq_mul_right (show 0 < S by omega) (by rw [Int.natCast_mul] at a; exact_mod_cast a), by omega⟩
      · rintro ⟨rfl, b⟩
        exact ⟨by rw [Int.natCast_mul]; rfl, by omega⟩
    rw [HD2.out, if_pos ⟨by omega, by omega⟩]
    rw [q1, Int.toNat_natCast, Int.toNat_natCast]
    by_cases a2 : H = 5 ∧ W % 4 = 3
    · rw [if_pos a2, if_pos (a1.2 a2)]
    · rw [if_neg a2, if_neg (fun h => a2 (a1.1 h))])
  have q3 : ((W * S : Nat) : Int).tdiv (S : Int) = W := by rw [← q1]; exact Int.tdiv_eq_ediv_of_nonneg (by omega)
  have hwb : W * S ≤ 32 := Nat.mul_le_mul hW.2 hS.2
  have hhb : H * S ≤ 32 := Nat.mul_le_mul hH.2 hS.2
  have t1 : (W : Int).tmod 4 = ((W % 4 : Nat) : Int) := by rw [Int.tmod_eq_emod_of_nonneg (by omega)]; exact (Int.natCast_emod W 4).symm
  have HH5 : Hid (H * S = 5 * S ↔ H = 5) := Lib.hid ⟨fun h => Nat.eq_of_mul_eq_mul_right (show 0 < S by omega) h, fun h => by rw [h]⟩
  obtain ⟨ww, hww⟩ : ∃ ww, W * S = ww := ⟨_, rfl⟩
  obtain ⟨hn, hhn⟩ : ∃ hn, H * S = hn := ⟨_, rfl⟩
  rw [hww] at q1 q3 hwb HD3
  rw [hhn] at hhb HD3 HH5
  simp only [hww, hhn] at K1 ⊢
  obtain ⟨r4, hr4⟩ : ∃ r, W % 4 = r := ⟨_, rfl⟩
  rw [hr4] at t1 HD3
  have HR4 := Lib.hid hr4
  have HLN := Lib.hid hlen
  clear HD2 hr4 hww hhn hdiv hlen q1
  by_cases h5 : H = 5
  case neg =>
    have q : ((hn : Int) != 5 * (S : Int)) = true := by rw [bne_iff_ne]; intro h; exact h5 (HH5.out.1 (by omega))
    have HI := Lib.hid (show lineI ⟨(ww : Int), (hn : Int), pix⟩ (S : Int) ⟨lo, hi'⟩ (nd : Int) = ([], 21) by rw [HD3.out, if_neg (fun h => h5 h.1)])
    clear h5
    go_enter Tryd.func46, Tryd.ntmps46
    go_wp2_with (go_at_call 28; (with_reducible refine (K1.out _ (by repeat (first | exact Ext.refl _ | assumption | refine Ext.alloc ?_ _ | refine Ext.drewN ?_ _ | refine ext_grow ?_ _ _ | refine Ext.trans ?_ (by assumption)))).mono ?_); rintro E w1 ⟨v1, rfl, h0, h1⟩; obtain ⟨⟨c0, c1, c2⟩, -⟩ := run_3 (h1.blk (heap_alloc2_old w _ _)); obtain ⟨⟨d0, d1⟩, -⟩ := run_2 (h1.blk (heap_alloc2_new w _ _)))
    go_ret2
    exact ⟨by rw [HI.out]; rfl, (by repeat (first | exact Ext.refl _ | assumption | refine Ext.alloc ?_ _ | refine Ext.drewN ?_ _ | refine ext_grow ?_ _ _ | refine Ext.trans ?_ (by assumption)))⟩
  have q5 : ((hn : Int) != 5 * (S : Int)) = false := by rw [bne_eq_false_iff_eq]; have := HH5.out.2 h5; omega
  by_cases h3 : r4 = 3
  case neg =>
    have q : ((r4 : Int) != 3) = true := by rw [bne_iff_ne]; omega
    have HI := Lib.hid (show lineI ⟨(ww : Int), (hn : Int), pix⟩ (S : Int) ⟨lo, hi'⟩ (nd : Int) = ([], 21) by rw [HD3.out, if_neg (fun h => h3 h.2)])
    clear h3 h5
    go_enter Tryd.func46, Tryd.ntmps46
    go_wp2_with (go_at_call 28; (with_reducible refine (K1.out _ (by repeat (first | exact Ext.refl _ | assumption | refine Ext.alloc ?_ _ | refine Ext.drewN ?_ _ | refine ext_grow ?_ _ _ | refine Ext.trans ?_ (by assumption)))).mono ?_); rintro E w1 ⟨v1, rfl, h0, h1⟩; obtain ⟨⟨c0, c1, c2⟩, -⟩ := run_3 (h1.blk (heap_alloc2_old w _ _)); obtain ⟨⟨d0, d1⟩, -⟩ := run_2 (h1.blk (heap_alloc2_new w _ _)))
    go_ret2
    exact ⟨by rw [HI.out]; rfl, (by repeat (first | exact Ext.refl _ | assumption | refine Ext.alloc ?_ _ | refine Ext.drewN ?_ _ | refine ext_grow ?_ _ _ | refine Ext.trans ?_ (by assumption)))⟩
  subst h3
  have HI := Lib.hid (show lineI ⟨(ww : Int), (hn : Int), pix⟩ (S : Int) ⟨lo, hi'⟩ (nd : Int) = (textR ms W nd ((W + 1) / 4), 0) by rw [HD3.out, if_pos ⟨h5, rfl⟩])
  obtain ⟨n, hn4⟩ : ∃ n, W + 1 = 4 * n := ⟨(W + 1) / 4, by have := HR4.out; omega⟩
  have hn0 : (W + 1) / 4 = n := by omega
  rw [hn0] at HI
  subst h5
  have HN := Lib.hid hn4
  have hn5 : n ≤ 4 := by omega
  clear HD3 hn0 hn4 HH5
  go_enter Tryd.func46, Tryd.ntmps46
  go_wp2_with (go_at_call 28; (with_reducible refine (K1.out _ (by repeat (first | exact Ext.refl _ | assumption | refine Ext.alloc ?_ _ | refine Ext.drewN ?_ _ | refine ext_grow ?_ _ _ | refine Ext.trans ?_ (by assumption)))).mono ?_); rintro E w1 ⟨v1, rfl, h0, h1⟩; obtain ⟨⟨c0, c1, c2⟩, -⟩ := run_3 (h1.blk (heap_alloc2_old w _ _)); obtain ⟨⟨d0, d1⟩, -⟩ := run_2 (h1.blk (heap_alloc2_new w _ _)))
  obtain ⟨bm, om, capm, rfl, hcm⟩ := h0.some HLN.out (by omega)
  have HC := Lib.hid hcm
  have hE1 : Ext w w1 := (by repeat (first | exact Ext.refl _ | assumption | refine Ext.alloc ?_ _ | refine Ext.drewN ?_ _ | refine ext_grow ?_ _ _ | refine Ext.trans ?_ (by assumption)))
  have hB0 := bld_new w1 117 5
  have HB0 := Lib.hid hB0
  clear hcm c0 c1 c2 d0 d1 hB0 h0
  go_loopw [14, 15, 16, 17, 18] (fun a _ _ _ _ wr => ∃ i : Nat, i ≤ n ∧ a = .int .i64 ((4 * i : Nat) : Int) ∧ Ext w1 wr ∧ Hid (Lib.IsBuilder 117 5 w1.heap.size w1.heap.size (bytesL (textR ms W nd i)) wr)) (fun a _ _ _ _ _ => 4 * n - (intOf a).toNat)
  case atStart => exact ⟨0, Nat.zero_le _, rfl, (Ext.refl w1).alloc _, HB0⟩
  case round =>
    clear HB0
    obtain ⟨i, hin, rfl, hE, hB⟩ := hrel
    have hNN := HN.out
    obtain ⟨at4, hat⟩ : ∃ a, 4 * i = a := ⟨_, rfl⟩
    rw [hat]
    have HAT := Lib.hid hat
    by_cases hi : i < n
    · have hab : at4 < W := by omega
      have hab2 : at4 + 3 ≤ W := by omega
      clear hat hNN
      obtain ⟨own, hown⟩ : ∃ own, ownR ms W i = own := ⟨_, rfl⟩
      have HOL : Hid (15 = own.length) := Lib.hid (by rw [← hown, ownR_length])
      have HOG : Hid (∀ k, k < 15 → own.getD k 0 = ms.getD (k / 3 * W + at4 + k % 3) 0) := Lib.hid (fun k hk => by rw [← hown, ownR_get hk, HAT.out])
      have HO := Lib.hid hown
      clear hown
      go_wp2_with (at_make; refine wpList_make_full _ rfl _ _ 22 rfl w1.heap.size 5 i1 (.int .u8 0) 1 Tryd.underlying22 ki kz0 kz1 .i64 .i64 _ _ 15 rfl rfl rfl rfl (by rw [kz2]; omega) (by unfold maxLen; omega) hE.size ?_; intro w2 ho2 hg2)
      rw [made_zero own] at ho2
      have hG2 : Ext wr w2 := ext_of_grownNone hg2
      have HO2 := Lib.hid ho2
      obtain ⟨W0, hW0⟩ : ∃ W0, W0 = wr := ⟨_, rfl⟩
      subst hW0
      obtain ⟨g, hg⟩ : ∃ g, W0.heap.size = g := ⟨_, rfl⟩
      have HGB := Lib.hid hg
      rw [hg] at HO2 ⊢
      clear ho2 hg2 hg
      go_loopw [59, 16] (fun k _ wi => ∃ j : Nat, j ≤ 15 ∧ k = .int .i64 (j : Int) ∧ Ext W0 wi ∧ Hid (wi.ownsRow w1.heap.size 5 1 (.slice (some ⟨g, 0, none⟩) 15 15) 15 (rowK own 15 j))) (fun k _ _ => 15 - (intOf k).toNat)
      case atStart => exact ⟨0, Nat.zero_le _, rfl, hG2, HO2⟩
      case round =>
        clear HO2 hG2
        obtain ⟨j, hj, rfl, hEi, hO⟩ := hrel
        by_cases hj15 : j < 15
        · have ha : j / 3 ≤ 4 := by omega
          have hd3 : j % 3 ≤ 2 := by omega
          have HPL : Hid (j / 3 * W + at4 + j % 3 < W * 5) := Lib.hid (by
            have := Nat.mul_le_mul_right W ha
            omega)
          have r0 : wr.cell? ⟨g, j, none⟩ = some (.int .u8 0) := by rw [hO.out.cellAt j (by omega)]; exact rowK_get hj15 HOL.out
          have r1 := hO.out.frozenAt j
          have c0 := (hE.trans hEi).get (HC.out (j / 3 * W + at4 + j % 3) HPL.out)
          rw [← HOG.out j hj15] at c0
          have HV := Lib.hid (rowK_set (l := own) (n := 15) hj15 HOL.out)
          obtain ⟨x, hx⟩ : ∃ x, own.getD j 0 = x := ⟨_, rfl⟩
          rw [hx] at c0 HV
          have t2 : (j : Int).tdiv 3 = ((j / 3 : Nat) : Int) := by rw [Int.tdiv_eq_ediv_of_nonneg (by omega)]; rfl
          have t3 : (j : Int).tmod 3 = ((j % 3 : Nat) : Int) := by rw [Int.tmod_eq_emod_of_nonneg (by omega)]; rfl
          obtain ⟨a, haa⟩ : ∃ a, j / 3 = a := ⟨_, rfl⟩
          obtain ⟨d, hdd⟩ : ∃ d, j % 3 = d := ⟨_, rfl⟩
          rw [haa] at t2 ha c0 HPL
          rw [hdd] at t3 hd3 c0 HPL
          obtain ⟨p, hp⟩ : ∃ p, a * W = p := ⟨_, rfl⟩
          rw [hp] at c0 HPL
          have t4 : (a : Int) * (W : Int) = (p : Int) := by rw [← hp]; exact (Int.natCast_mul a W).symm
          obtain ⟨u, hu⟩ : ∃ u, p + at4 + d = u := ⟨_, rfl⟩
          have t5 : (p : Int) + (at4 : Int) + (d : Int) = (u : Int) := by omega
          have hpb : p ≤ 64 := by rw [← hp]; exact Nat.mul_le_mul ha hW.2
          have hub : u < W * 5 := by rw [← hu]; exact HPL.out
          rw [hu] at c0
          have HX := Lib.hid (And.intro hx (And.intro haa (And.intro hdd (And.intro hp hu))))
          clear hx haa hdd hp hu HPL
          go_wp2
          exact ⟨⟨j + 1, by omega, by go_num, hEi.setCell (p := ⟨g, j, none⟩) (by show W0.heap.size ≤ g; have := HGB.out; omega) _, Lib.hid (by
            have h := (hO.out.stored j (.int .u8 (x : Int))).1
            rw [HV.out] at h
            exact h)⟩, by simp [intOf]; omega⟩
        · obtain rfl : j = 15 := by omega
          have ho := hO.out
          have HF := rowK_full (l := own)
          rw [← HOL.out] at HF
          rw [HF] at ho
          have hbo : BytesAt wr (.slice (some ⟨g, 0, none⟩) 15 15) own := by
            refine BytesAt.of_owns (base := w1.heap.size) (e := 5) ?_
            rw [← HOL.out]
            exact ho
          have K2 := Lib.hid (c_nearest _ own wr hbo HOL.out.symm)
          have HBx := Lib.hid (bld_ext hB.out hEi)
          have HT := Lib.hid (textR_succ ms W nd i)
          have hnb := nearest_bd own
          have HCH := Lib.hid (show charR nd own = if nd ≤ (nearestR own).2 then 48 + (nearestR own).1 else 63 from rfl)
          obtain ⟨nr, hnr⟩ : ∃ nr, nearestR own = nr := ⟨_, rfl⟩
          rw [hnr] at K2 hnb HCH
          obtain ⟨dg, mg⟩ := nr
          dsimp only at K2 hnb HCH
          have HNR := Lib.hid hnr
          have hEo := hE.trans hEi
          have hsz := hEo.size
          have HWB : Hid (∀ (ch : Nat) (w' : World), Ext wr w' → Calls Tryd.prog 86 #[.pointer (some ⟨w1.heap.size, 0, none⟩), .int .u8 (ch : Int)] w' fun e w'' => e = .returned .nilIface ∧ (Lib.BuilderAt 117 5 w1.heap.size w1.heap.size (.pointer (some ⟨w1.heap.size, 0, none⟩)) (bytesL (textR ms W nd i) ++ [.int .u8 (ch : Int)]) w'' ∧ Below w1.heap.size w' w'')) :=
            Lib.hid (fun ch w' h => c_WriteByte _ _ _ _ w' (bld_ext HBx.out h) (by rw [bytesL_length, textR_length]; omega) (Nat.le_trans hsz h.size))
          clear hO ho HF hbo hnr
          by_cases hm : nd ≤ mg
          · have qm : (nd : Int) ≤ (mg : Int) := by omega
            have HCV := Lib.hid (show charR nd own = 48 + dg by rw [HCH.out, if_pos hm])
            have KW := Lib.hid (HWB.out (48 + dg))
            clear hm HWB
            have q7 : ((48 + dg : Nat) : Int) = 48 + (dg : Int) := by omega
            rw [q7] at KW
            go_wp2_with (first
              | (go_at_call 85; (with_reducible refine K2.out.mono ?_); rintro E w3 ⟨rfl, h3⟩)
              | (go_at_call 86; (with_reducible refine (KW.out _ h3).mono ?_); rintro E w4 ⟨rfl, h4, h5⟩))
            exact ⟨⟨i + 1, by omega, congrArg (Value.int .i64) (by have h9 := HAT.out; omega), (hEo.trans h3).trans_below h5, Lib.hid (by
              rw [HT.out, HO.out, HCV.out]
              have h : Lib.IsBuilder 117 5 w1.heap.size w1.heap.size _ _ := .inr h4
              simpa [bytesL] using h)⟩, by have h9 := HAT.out; simp [intOf]; omega⟩
          · have qm : ¬ (nd : Int) ≤ (mg : Int) := by omega
            have HCV := Lib.hid (show charR nd own = 63 by rw [HCH.out, if_neg hm])
            have KW := Lib.hid (HWB.out 63)
            have q7 : ((63 : Nat) : Int) = 63 := rfl
            rw [q7] at KW
            clear hm HWB q7
            go_wp2_with (first
              | (go_at_call 85; (with_reducible refine K2.out.mono ?_); rintro E w3 ⟨rfl, h3⟩)
              | (go_at_call 86; (with_reducible refine (KW.out _ h3).mono ?_); rintro E w4 ⟨rfl, h4, h5⟩))
            exact ⟨⟨i + 1, by omega, congrArg (Value.int .i64) (by have h9 := HAT.out; omega), (hEo.trans h3).trans_below h5, Lib.hid (by
              rw [HT.out, HO.out, HCV.out]
              have h : Lib.IsBuilder 117 5 w1.heap.size w1.heap.size _ _ := .inr h4
              simpa [bytesL] using h)⟩, by have h9 := HAT.out; simp [intOf]; omega⟩
    · obtain rfl : i = n := by omega
      have hab : ¬ at4 < W := by omega
      clear hat hNN
      have KS := Lib.hid (fun (w' : World) (h : Ext wr w') => Tryd.Builder_String_any w1.heap.size w1.heap.size ((textR ms W nd i).map UInt8.ofNat) w' (byteCells_of (textR_lt ms W nd i) ▸ bld_ext hB.out h) (Nat.le_trans hE.size h.size))
      go_wp2_with (go_at_call 87; (with_reducible refine (KS.out _ (Ext.refl _)).mono ?_); rintro E w4 ⟨rfl, h5⟩)
      go_ret2
      exact ⟨by rw [HI.out]; rfl, hE1.trans (hE.trans_below h5)⟩
end Go.Proofs.YtlnofbdhamingaaDoor

/- Slices of bytes compared as strings. -/
namespace Go.Proofs.YtlnofbdhamingaaDoor
open Go.RowKit Go.Sort

def strL (l : List Nat) : ByteArray := strOfNums (l.map fun (n : Nat) => (n : Int))
theorem convert_bytes {w : World} {v : Value} {l : List Nat} (h : BytesAt w v l) : (convert 22 9 v).run Tryd.prog w = .ok (.string (strL l)) w := by
  rcases h.cases with ⟨rfl, ao, cap, rfl, -, -⟩ | ⟨h0, b, off, cap, rfl, -, -, hc⟩
  · cases ao with
    | none => exact run_convert_bytes_nil w 22 5 (by kernel_rfl) (by kernel_rfl) 0 cap 9 (by kernel_rfl)
    | some a =>
      rw [run_convert_bytes_string w 22 9 5 _ 0 cap (by kernel_rfl) (by kernel_rfl) (by kernel_rfl), run_bytesToString w _ 0 cap [] (by simp [loadCells, loadCellsFrom])]
      rfl
  · refine run_convert_bytes_arg w 22 5 (by kernel_rfl) (by kernel_rfl) b off l.length cap (l.map fun (n : Nat) => (n : Int)) (by simp) (fun i hi => ?_) 9 (by kernel_rfl)
    rw [hc i hi]
    simp [List.getD_eq_getElem?_getD, List.getElem?_eq_getElem hi]
set_option maxHeartbeats 1000000 in
theorem r_SameBytes (v1 v2 : Value) (a b : List Nat) (w : World) (h1 : BytesAt w v1 a) (h2 : BytesAt w v2 b) :
    Calls Tryd.prog 24 #[v1, v2] w fun e w' => e = .returned (.bool ((strL a).toList == (strL b).toList)) ∧ Ext w w' := by
  have k1 := convert_bytes h1
  have k2 := convert_bytes h2
  obtain ⟨a1, c1, rfl, -⟩ := h1.form
  obtain ⟨a2, c2, rfl, -⟩ := h2.form
  go_enter Tryd.func24, Tryd.ntmps24
  go_wp2
  go_ret
  exact ⟨rfl, Ext.refl _⟩
theorem r_SameBytes_eq (v1 v2 : Value) (a : List Nat) (w : World) (h1 : BytesAt w v1 a) (h2 : BytesAt w v2 a) :
    Calls Tryd.prog 24 #[v1, v2] w fun e w' => e = .returned (.bool true) ∧ Ext w w' := by
  have h := r_SameBytes v1 v2 a a w h1 h2
  rw [show ((strL a).toList == (strL a).toList) = true from beq_self_eq_true _] at h
  exact h
end Go.Proofs.YtlnofbdhamingaaDoor

/- Strings of bytes, put together. -/
namespace Go.Proofs.YtlnofbdhamingaaDoor
open Go.RowKit Go.Sort

theorem strN_nil : strN [] = ⟨#[]⟩ := rfl
theorem strN_append (a b : List Nat) : strN a ++ strN b = strN (a ++ b) := by
  apply ByteArray.ext
  simp [strN]
theorem strN_size (l : List Nat) : (strN l).size = l.length := by simp [strN, ByteArray.size]
theorem strL_strN (l : List Nat) : strL l = strN l := by
  unfold strL strN strOfNums
  simp
theorem convert_one (w : World) (x : Nat) : (convert 22 9 (.slice (some ⟨w.heap.size, 0, none⟩) 1 1)).run Tryd.prog (w.alloc (.cells #[.int .u8 (x : Int)] 5)) = .ok (.string (strN [x])) (w.alloc (.cells #[.int .u8 (x : Int)] 5)) := by
  have h : BytesAt (w.alloc (.cells #[.int .u8 (x : Int)] 5)) (.slice (some ⟨w.heap.size, 0, none⟩) 1 1) [x] := BytesAt.of_owns (owns_lit w [.int .u8 (x : Int)] 5 1 1 w.heap.size (Nat.le_refl _) (by unfold maxLen; omega) rfl)
  rw [convert_bytes h, strL_strN]
end Go.Proofs.YtlnofbdhamingaaDoor
