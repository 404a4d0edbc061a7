/- Lines that are printed and read: plain. No program in sight. -/
import Derived.Test.YtlnofbdhamingaaDoorPaintSeen
import Derived.Test.YtlnofbdhamingaaDoorGLine
import Derived.Test.YtlnofbdhamingaaDoorGPrint
import Derived.Test.YtlnofbdhamingaaDoorSharpPlain
set_option linter.unusedVariables false
set_option linter.unusedSimpArgs false
namespace Go.Proofs.YtlnofbdhamingaaDoor
open Go.RowKit Go.Sort

theorem near_glyph : ∀ d, d < 10 → (nearestR (glyphR d)).1 = d ∧ 1 ≤ (nearestR (glyphR d)).2 := by decide +kernel
theorem char_glyph {d need : Nat} (hd : d < 10) : charR need (glyphR d) = 48 + d ∨ charR need (glyphR d) = 63 := by
  unfold charR
  rw [(near_glyph d hd).1]
  split
  · exact .inl rfl
  · exact .inr rfl
theorem char_one {d need : Nat} (hd : d < 10) (hn : need ≤ 1) : charR need (glyphR d) = 48 + d := by
  unfold charR
  rw [(near_glyph d hd).1, if_pos (Nat.le_trans hn (near_glyph d hd).2)]
theorem ge_of_lt {W n i : Nat} (hW : W + 1 = 4 * n) (hi : i < n) {k : Nat} (hk : k < 15) : k / 3 * W + 4 * i + k % 3 < 5 * W ∧ (k / 3 * W + 4 * i + k % 3) / W = k / 3 ∧ (k / 3 * W + 4 * i + k % 3) % W = 4 * i + k % 3 := by
  have := atP_is (W := W) (n := i) (i := k) (L := n) hW hi hk
  unfold atP at this
  exact this
theorem own_print {ds : List Nat} {W n i : Nat} (hn : ds.length = n) (hW : W + 1 = 4 * n) (hi : i < n) : ownR (printR ds W) W i = glyphR (ds.getD i 0) ∨ 10 ≤ ds.getD i 0 := by
  rcases Nat.lt_or_ge (ds.getD i 0) 10 with hd | hd
  · refine .inl (List.ext_getElem? fun k => ?_)
    have hg := glyphR_length (ds.getD i 0) hd
    rcases Nat.lt_or_ge k 15 with hk | hk
    · obtain ⟨h1, h2, h3⟩ := ge_of_lt hW hi hk
      unfold ownR
      rw [List.getElem?_map, List.getElem?_range hk, Option.map_some]
      unfold printR
      rw [printK_get h1]
      unfold printE
      rw [h2, h3, show (4 * i + k % 3) % 4 = k % 3 by omega, show (4 * i + k % 3) / 4 = i by omega, if_pos ⟨by omega, .inl (by omega)⟩, show k / 3 * 3 + k % 3 = k by omega, List.getD_eq_getElem?_getD, List.getElem?_eq_getElem (by omega)]; rfl
    · rw [List.getElem?_eq_none (by rw [ownR_length]; exact hk), List.getElem?_eq_none (by omega)]
  · exact .inr hd
theorem printR_lt {ds : List Nat} (hd : ∀ i, ds.getD i 0 < 10) (W i : Nat) : (printR ds W).getD i 0 < 2 := by
  rcases Nat.lt_or_ge i (5 * W) with h | h
  · unfold printR
    rw [printK_get h]
    unfold printE
    split
    · exact Nat.lt_succ_of_le (glyph_bits (hd _) _)
    · decide
  · rw [List.getD_eq_getElem?_getD, List.getElem?_eq_none (by unfold printR; rw [printK_len]; exact h)]; decide
theorem digs_all {s : ByteArray} (hs : LineOk s) (i : Nat) : (digsOf s).getD i 0 < 10 := by
  rcases Nat.lt_or_ge i s.size with h | h
  · exact (digs_lt hs i h).1
  · rw [List.getD_eq_getElem?_getD, List.getElem?_eq_none (by rw [digsOf_len]; exact h)]; decide
theorem paint_bd {ms : List Nat} {ww S : Nat} {ink paper : Int} (h1 : 0 ≤ ink) (h2 : ink < paper) (h3 : paper ≤ 255) (k : Nat) : allIn 0 255 (paintedR ms ww S ink paper k) := by
  intro x hx
  unfold paintedR at hx
  obtain ⟨i, _, rfl⟩ := List.mem_map.1 hx
  split <;> omega
/-- what Modules answers of an image that is painted -/
theorem modules_painted {ms : List Nat} {W H S : Nat} {ink paper : Int} (hS : 1 ≤ S ∧ S ≤ 2) (hW : 1 ≤ W ∧ W * S ≤ 16) (hH : 1 ≤ H ∧ H * S ≤ 16) (h1 : 0 ≤ ink) (h2 : ink < paper) (h3 : paper ≤ 255) {c : Con} (hc : c.Ok) :
    modulesI ⟨((W * S : Nat) : Int), ((H * S : Nat) : Int), paintedR ms (W * S) S ink paper (W * S * (H * S))⟩ (S : Int) c = (seenR (paintedR ms (W * S) S ink paper (W * S * (H * S))) W H S c.lo c.hi, 0) := by
  have hS0 : 0 < S := by omega
  have aw : W ≤ W * S := Nat.le_mul_of_pos_right W hS0
  have ah : H ≤ H * S := Nat.le_mul_of_pos_right H hS0
  rw [modulesI_def, if_pos ⟨⟨⟨by show (1 : Int) ≤ ((W * S : Nat) : Int); omega, by show ((W * S : Nat) : Int) ≤ 16; omega⟩, ⟨by show (1 : Int) ≤ ((H * S : Nat) : Int); omega, by show ((H * S : Nat) : Int) ≤ 16; omega⟩, by
    show ((paintedR ms (W * S) S ink paper (W * S * (H * S))).length : Int) = ((W * S : Nat) : Int) * ((H * S : Nat) : Int)
    rw [paintedR_length]; exact Int.natCast_mul _ _⟩, paint_bd h1 h2 h3 _⟩, if_pos ⟨by omega, by omega, hc⟩]
  have m1 : ((W * S : Nat) : Int) % (S : Int) = 0 := by rw [← Int.natCast_emod, Nat.mul_mod_left]; rfl
  have m2 : ((H * S : Nat) : Int) % (S : Int) = 0 := by rw [← Int.natCast_emod, Nat.mul_mod_left]; rfl
  rw [if_pos ⟨m1, m2⟩]
  show (seenR _ (((W * S : Nat) : Int) / (S : Int)).toNat (((H * S : Nat) : Int) / (S : Int)).toNat ((S : Int)).toNat c.lo c.hi, (0 : Int)) = _
  rw [← Int.natCast_ediv, ← Int.natCast_ediv, Int.toNat_natCast, Int.toNat_natCast, Int.toNat_natCast, Nat.mul_div_cancel _ hS0, Nat.mul_div_cancel _ hS0]
/-- what is read of an image whose modules are known -/
theorem line_mods {m : Img} {W S : Nat} {c : Con} {ms : List Nat} {n need : Nat} (hS : 1 ≤ S ∧ S ≤ 2) (hw : m.w = ((W * S : Nat) : Int)) (hh : m.h = ((5 * S : Nat) : Int)) (hm : modulesI m (S : Int) c = (ms, 0)) (hW : W + 1 = 4 * n) (hn : need ≤ 15) :
    lineI m (S : Int) c (need : Int) = (textR ms W need n, 0) := by
  have hS0 : 0 < S := by omega
  have hd : m.w / (S : Int) = (W : Int) := by rw [hw, ← Int.natCast_ediv, Nat.mul_div_cancel _ hS0]
  rw [lineI_def, hm, if_pos rfl, if_pos ⟨by omega, by omega⟩, if_pos ⟨by rw [hh]; exact Int.natCast_mul 5 S, by rw [hd]; omega⟩, hd, Int.toNat_natCast, Int.toNat_natCast, show (W + 1) / 4 = n by omega]
theorem line_bad {m : Img} {s : Int} {c : Con} {ms : List Nat} {need : Int} (hm : modulesI m s c = (ms, 0)) (hn : ¬ (0 ≤ need ∧ need ≤ 15)) : lineI m s c need = ([], 2) := by
  rw [lineI_def, hm, if_pos rfl, if_neg hn]
theorem size_digs (s : ByteArray) : s.data.toList.length = s.size := Array.length_toList
/-- the text of a line, as numbers -/
def numsOf (s : ByteArray) : List Nat := s.data.toList.map fun b => b.toNat
theorem numsOf_len (s : ByteArray) : (numsOf s).length = s.size := by simp [numsOf]
theorem strN_nums (s : ByteArray) : strN (numsOf s) = s := by
  unfold strN numsOf
  rw [List.map_map]
  have : (s.data.toList.map (UInt8.ofNat ∘ fun b => b.toNat)) = s.data.toList := by
    conv => rhs; rw [← List.map_id s.data.toList]
    exact List.map_congr_left fun b _ => by simp
  rw [this]
theorem nums_digs {s : ByteArray} (hs : LineOk s) {i : Nat} (h : i < s.size) : (numsOf s).getD i 0 = 48 + (digsOf s).getD i 0 := by
  have e1 : (numsOf s).getD i 0 = (s[i]'h).toNat := by
    rw [List.getD_eq_getElem?_getD, numsOf, List.getElem?_map, List.getElem?_eq_getElem (by rw [size_digs]; exact h)]
    rfl
  obtain ⟨h1, h2, h3⟩ := digs_lt hs i h
  rw [digsOf_get h] at h1 ⊢
  rw [e1]
  omega
theorem text_all {ms : List Nat} {W need n : Nat} {l : List Nat} (hl : l.length = n) (h : ∀ i, i < n → charR need (ownR ms W i) = l.getD i 0) : textR ms W need n = l := by
  refine List.ext_getElem? fun i => ?_
  rcases Nat.lt_or_ge i n with hi | hi
  · unfold textR
    rw [List.getElem?_map, List.getElem?_range hi, Option.map_some, h i hi, List.getD_eq_getElem?_getD, List.getElem?_eq_getElem (by omega)]; rfl
  · rw [List.getElem?_eq_none (by rw [textR_length]; exact hi), List.getElem?_eq_none (by omega)]
/-- a line that is printed, and read with a contrast between ink and paper -/
theorem line_printed {s : ByteArray} {sz ink paper : Int} {p : Img} (hp : printI s sz ink paper = (p, 0)) {c : Con} (hc : c.Ok) (h1 : ink ≤ c.lo) (h2 : c.hi ≤ paper) :
    LineOk s ∧ ∃ ms : List Nat, modulesI p sz c = (ms, 0) ∧ (∀ need : Nat, need ≤ 15 → ∃ t : List Nat, lineI p sz c (need : Int) = (t, 0) ∧ t.length = s.size ∧ (∀ i, i < s.size → t.getD i 0 = (numsOf s).getD i 0 ∨ t.getD i 0 = 63) ∧ (need ≤ 1 → t = numsOf s)) := by
  rw [printI_def] at hp
  by_cases hL : LineOk s
  · rw [if_pos hL] at hp
    refine ⟨hL, ?_⟩
    by_cases hC : ColOk sz ink paper
    · rw [if_pos hC] at hp
      by_cases hz : (4 * (s.size : Int) - 1) * sz ≤ 16
      · rw [if_pos hz] at hp
        obtain ⟨⟨s1, s2⟩, c1, c2, c3⟩ := hC
        obtain ⟨S, rfl⟩ := Int.eq_ofNat_of_zero_le (show 0 ≤ sz by omega)
        rw [Int.toNat_natCast] at hp
        obtain ⟨W, hW⟩ : ∃ W, 4 * s.size - 1 = W := ⟨_, rfl⟩
        have hs4 := hL.2
        have hW1 : W + 1 = 4 * s.size := by omega
        rw [hW] at hp
        have hWS : W * S ≤ 16 := by
          have : ((W * S : Nat) : Int) ≤ 16 := by
            rw [Int.natCast_mul, show (W : Int) = 4 * (s.size : Int) - 1 by omega]; exact hz
          omega
        have hS : 1 ≤ S ∧ S ≤ 2 := by omega
        have e : p = ⟨((W * S : Nat) : Int), ((5 * S : Nat) : Int), paintedR (printR (digsOf s) W) (W * S) S ink paper (W * S * (5 * S))⟩ := (congrArg Prod.fst hp).symm
        have hmod := modules_painted (ms := printR (digsOf s) W) (W := W) (H := 5) (S := S) hS ⟨by omega, hWS⟩ ⟨by omega, by omega⟩ c1 c2 c3 hc
        rw [seen_ink hS h1 hc.2.1 h2 (by unfold printR; rw [printK_len]; exact Nat.mul_comm _ _) (printR_lt (digs_all hL) W) (Nat.mul_comm _ _), ← e] at hmod
        refine ⟨_, hmod, fun need hn => ?_⟩
        have hline := line_mods (n := s.size) hS (by rw [e]) (by rw [e]) hmod hW1 hn
        have hown : ∀ i, i < s.size → ownR (printR (digsOf s) W) W i = glyphR ((digsOf s).getD i 0) := fun i hi => by
          rcases own_print (digsOf_len s) hW1 hi with h | h
          · exact h
          · have := digs_all hL i; omega
        refine ⟨_, hline, textR_length _ _ _ _, fun i hi => ?_, fun hn1 => text_all (numsOf_len s) fun i hi => ?_⟩
        · rw [List.getD_eq_getElem?_getD, textR, List.getElem?_map, List.getElem?_range hi, Option.map_some, Option.getD_some, hown i hi, nums_digs hL hi]
          exact char_glyph (digs_all hL i)
        · rw [hown i hi, char_one (digs_all hL i) hn1, nums_digs hL hi]
      · rw [if_neg hz] at hp; exact absurd (congrArg Prod.snd hp) (by dsimp only; omega)
    · rw [if_neg hC] at hp; exact absurd (congrArg Prod.snd hp) (by dsimp only; omega)
  · rw [if_neg hL] at hp; exact absurd (congrArg Prod.snd hp) (by dsimp only; omega)
/-! ### one digit of another line -/
/-- a pixel of the first line with one digit of the other, with noise between the digits -/
def apartP (x y : List Int) (W at_ i : Nat) : Int := if i % W / 4 = at_ ∧ i % W % 4 < 3 then y.getD i 0 else if i % W % 4 = 3 then 128 else x.getD i 0
def apartK (x y : List Int) (W at_ n : Nat) : List Int := (List.range (5 * W)).map fun i => if i < n then apartP x y W at_ i else x.getD i 0
theorem apartK_len (x y : List Int) (W at_ n : Nat) : (apartK x y W at_ n).length = 5 * W := by simp [apartK]
theorem apartK_get {x y : List Int} {W at_ n i : Nat} (h : i < 5 * W) : (apartK x y W at_ n).getD i 0 = if i < n then apartP x y W at_ i else x.getD i 0 := by
  rw [List.getD_eq_getElem?_getD, apartK, List.getElem?_map, List.getElem?_range h]; rfl
theorem apartK_zero {x y : List Int} {W at_ : Nat} (h : x.length = 5 * W) : apartK x y W at_ 0 = x := by
  refine List.ext_getElem? fun i => ?_
  unfold apartK
  rcases Nat.lt_or_ge i (5 * W) with hi | hi
  · rw [List.getElem?_map, List.getElem?_range hi, Option.map_some, if_neg (Nat.not_lt_zero _), List.getD_eq_getElem?_getD, List.getElem?_eq_getElem (by omega)]; rfl
  · rw [List.getElem?_eq_none (by simpa using hi), List.getElem?_eq_none (by omega)]
theorem apartK_set {x y : List Int} {W at_ n : Nat} (h : n < 5 * W) : (apartK x y W at_ n).set n (apartP x y W at_ n) = apartK x y W at_ (n + 1) := by
  refine List.ext_getElem? fun i => ?_
  rcases Nat.lt_or_ge i (5 * W) with hi | hi
  · by_cases e : n = i
    · subst e
      rw [List.getElem?_set_self (by rw [apartK_len]; exact hi)]
      unfold apartK
      rw [List.getElem?_map, List.getElem?_range hi, Option.map_some, if_pos (Nat.lt_succ_self n)]
    · rw [List.getElem?_set_ne e]
      unfold apartK
      rw [List.getElem?_map, List.getElem?_map, List.getElem?_range hi, Option.map_some, Option.map_some]
      congr 1
      by_cases h2 : i < n
      · rw [if_pos h2, if_pos (by omega)]
      · rw [if_neg h2, if_neg (by omega)]
  · rw [List.getElem?_eq_none (by rw [List.length_set, apartK_len]; exact hi), List.getElem?_eq_none (by rw [apartK_len]; exact hi)]
theorem apartK_same {x y : List Int} {W at_ n : Nat} (h0 : apartP x y W at_ n = x.getD n 0) : apartK x y W at_ (n + 1) = apartK x y W at_ n := by
  unfold apartK
  refine List.map_congr_left fun i hi => ?_
  by_cases h1 : i < n
  · rw [if_pos h1, if_pos (by omega)]
  · by_cases h2 : i = n
    · subst h2
      rw [if_neg h1, if_pos (by omega), h0]
    · rw [if_neg h1, if_neg (by omega)]
theorem psum_one {pix : List Int} {W t : Nat} (ht : t < W * 5) (hl : pix.length = 5 * W) : psum pix (W * 1) 1 (5 * 1 * (W * 1)) t = pix.getD t 0 := by
  have hW : 0 < W := Nat.pos_of_ne_zero fun h => by subst h; simp at ht
  have e : t / W * W + t % W = t := by rw [Nat.mul_comm]; exact Nat.div_add_mod t W
  have h1 : t % W < W := Nat.mod_lt _ hW
  have h2 : t / W < 5 := Nat.div_lt_of_lt_mul ht
  have hp := psum_full pix (W := W) (H := 5) (S := 1) (i := t % W) (j := t / W) (by omega) h1 h2
  rw [e, sum2_one] at hp
  rw [hp, Nat.mul_one, Nat.mul_one, Nat.mul_one, e]
/-- the numbers of the text with one digit of another -/
def mixN (a b : List Nat) (at_ : Nat) : List Nat := a.take at_ ++ (b.drop at_).take 1 ++ a.drop (at_ + 1)
theorem mixN_len {a b : List Nat} {at_ n : Nat} (ha : a.length = n) (hb : b.length = n) (h : at_ < n) : (mixN a b at_).length = n := by
  unfold mixN
  simp
  omega
theorem mixN_get {a b : List Nat} {at_ n i : Nat} (ha : a.length = n) (hb : b.length = n) (h : at_ < n) (hi : i < n) : (mixN a b at_).getD i 0 = if i = at_ then b.getD i 0 else a.getD i 0 := by
  unfold mixN
  rw [List.getD_eq_getElem?_getD, List.getD_eq_getElem?_getD, List.getD_eq_getElem?_getD]
  by_cases h1 : i < at_
  · rw [if_neg (by omega), List.append_assoc, List.getElem?_append_left (by simp; omega), List.getElem?_take_of_lt h1]
  · by_cases h2 : i = at_
    · subst h2
      rw [if_pos rfl, List.append_assoc, List.getElem?_append_right (by simp; omega), List.length_take, Nat.min_eq_left (by omega), Nat.sub_self, List.getElem?_append_left (by simp; omega), List.getElem?_take_of_lt (by omega), List.getElem?_drop]
      rfl
    · rw [if_neg h2, List.getElem?_append_right (by simp; omega), List.length_append, List.length_take, List.length_take, List.length_drop, Nat.min_eq_left (by omega), Nat.min_eq_left (by omega), List.getElem?_drop]
      congr 2
      omega
theorem ink_pix {ds : List Nat} {W i : Nat} (hi : i < 5 * W) : (paintedR (printR ds W) (W * 1) 1 0 255 (W * 1 * (5 * 1))).getD i 0 = if (printR ds W).getD i 0 = 1 then 0 else 255 := by
  have hW : 0 < W := Nat.pos_of_ne_zero fun h => by subst h; simp at hi
  rw [List.getD_eq_getElem?_getD, paintedR, List.getElem?_map, List.getElem?_range (by omega), Option.map_some, Option.getD_some]
  congr 2
  congr 1
  unfold cellOf
  rw [Nat.mul_one, Nat.div_one, Nat.div_one, Nat.div_one, Nat.mul_comm]
  exact Nat.div_add_mod i W
/-- what is read of the line with one digit of the other one -/
theorem apart_line {a b : ByteArray} {n W at_ : Nat} (ha : LineOk a) (hb : LineOk b) (na : a.size = n) (nb : b.size = n) (hW : W + 1 = 4 * n) (hat : at_ < n) :
    lineI ⟨(W : Int), 5, apartK (paintedR (printR (digsOf a) W) (W * 1) 1 0 255 (W * 1 * (5 * 1))) (paintedR (printR (digsOf b) W) (W * 1) 1 0 255 (W * 1 * (5 * 1))) W at_ (5 * W)⟩ 1 ⟨50, 100⟩ 1 = (mixN (numsOf a) (numsOf b) at_, 0) := by
  have hn4 : 1 ≤ n ∧ n ≤ 4 := by have := ha.2; omega
  obtain ⟨pix, hpix⟩ : ∃ p, apartK (paintedR (printR (digsOf a) W) (W * 1) 1 0 255 (W * 1 * (5 * 1))) (paintedR (printR (digsOf b) W) (W * 1) 1 0 255 (W * 1 * (5 * 1))) W at_ (5 * W) = p := ⟨_, rfl⟩
  have hl : pix.length = 5 * W := by rw [← hpix, apartK_len]
  have hv : ∀ i, i < 5 * W → pix.getD i 0 = if i % W / 4 = at_ ∧ i % W % 4 < 3 then (if (printR (digsOf b) W).getD i 0 = 1 then 0 else 255) else if i % W % 4 = 3 then 128 else (if (printR (digsOf a) W).getD i 0 = 1 then 0 else 255) := fun i hi => by
    rw [← hpix, apartK_get hi, if_pos hi]
    unfold apartP
    rw [ink_pix hi, ink_pix hi]
  rw [hpix]
  have hcam : (⟨(W : Int), 5, pix⟩ : Img).Camera := by
    refine ⟨⟨⟨by show (1 : Int) ≤ (W : Int); omega, by show (W : Int) ≤ 16; omega⟩, ⟨by show (1 : Int) ≤ 5; omega, by show (5 : Int) ≤ 16; omega⟩, by show (pix.length : Int) = (W : Int) * 5; omega⟩, fun x hx => ?_⟩
    obtain ⟨i, hi, rfl⟩ := List.getElem_of_mem hx
    have h9 := hv i (by rw [← hl]; exact hi)
    rw [List.getD_eq_getElem?_getD, List.getElem?_eq_getElem hi, Option.getD_some] at h9
    rw [h9]
    repeat' split
    all_goals omega
  have hm : modulesI ⟨(W : Int), 5, pix⟩ 1 ⟨50, 100⟩ = (seenR pix W 5 1 50 100, 0) := by
    rw [modulesI_def, if_pos hcam, if_pos ⟨by decide, by decide, by decide⟩, if_pos ⟨Int.emod_one _, Int.emod_one _⟩]
    show (seenR pix ((W : Int) / 1).toNat ((5 : Int) / 1).toNat (1 : Int).toNat 50 100, (0 : Int)) = _
    rw [Int.ediv_one, Int.ediv_one, Int.toNat_natCast]; rfl
  have hms : ∀ j, j < 5 * W → (seenR pix W 5 1 50 100).getD j 0 = if j % W / 4 = at_ ∧ j % W % 4 < 3 then (printR (digsOf b) W).getD j 0 else if j % W % 4 = 3 then 0 else (printR (digsOf a) W).getD j 0 := fun j hj => by
    have hj2 : j < W * 5 := by omega
    rw [seenR_get hj2, psum_one hj2 hl, hv j hj]
    have k1 : ∀ v, colR 50 100 1 v = clsR 50 100 v := fun v => by
      have := col_mul (S := 1) ⟨by omega, by omega⟩ 50 100 v
      rw [show v * ((1 : Nat) : Int) * ((1 : Nat) : Int) = v by omega] at this
      exact this
    rw [k1]
    have b1 := printR_lt (digs_all hb) W j
    have b2 := printR_lt (digs_all ha) W j
    split
    · exact cls_ink (by omega) (by omega) (by omega) _ b1
    · split
      · decide
      · exact cls_ink (by omega) (by omega) (by omega) _ b2
  have hmsl : (seenR pix W 5 1 50 100).length = W * 5 := seenR_length _ _ _ _ _ _
  obtain ⟨ms, hmse⟩ : ∃ ms, seenR pix W 5 1 50 100 = ms := ⟨_, rfl⟩
  rw [hmse] at hm hms hmsl
  have hline := line_mods (n := n) (need := 1) (S := 1) (m := ⟨(W : Int), 5, pix⟩) (W := W) (c := ⟨50, 100⟩) ⟨by omega, by omega⟩ (by rw [Nat.mul_one]) rfl hm hW (by omega)
  refine hline.trans ?_
  congr 1
  refine text_all (mixN_len (by rw [numsOf_len, na]) (by rw [numsOf_len, nb]) hat) fun i hi => ?_
  rw [mixN_get (by rw [numsOf_len, na]) (by rw [numsOf_len, nb]) hat hi]
  have hown : ownR ms W i = glyphR (if i = at_ then (digsOf b).getD i 0 else (digsOf a).getD i 0) := by
    have key : ∀ s : ByteArray, LineOk s → s.size = n → (∀ k, k < 15 → ms.getD (k / 3 * W + 4 * i + k % 3) 0 = (printR (digsOf s) W).getD (k / 3 * W + 4 * i + k % 3) 0) → ownR ms W i = glyphR ((digsOf s).getD i 0) := fun s hs hsn h => by
      have e : ownR ms W i = ownR (printR (digsOf s) W) W i := by
        unfold ownR
        exact List.map_congr_left fun k hk => h k (List.mem_range.1 hk)
      rw [e]
      rcases own_print (ds := digsOf s) (n := n) (by rw [digsOf_len, hsn]) hW hi with h9 | h9
      · exact h9
      · have := digs_all hs i; omega
    by_cases e : i = at_
    · rw [if_pos e]
      refine key b hb nb fun k hk => ?_
      obtain ⟨g1, g2, g3⟩ := ge_of_lt hW hi hk
      rw [hms _ g1, g3, if_pos ⟨by omega, by omega⟩]
    · rw [if_neg e]
      refine key a ha na fun k hk => ?_
      obtain ⟨g1, g2, g3⟩ := ge_of_lt hW hi hk
      rw [hms _ g1, g3, if_neg (by omega), if_neg (by omega)]
  rw [hown]
  by_cases e : i = at_
  · rw [if_pos e, if_pos e, char_one (digs_all hb i) (by omega), nums_digs hb (by omega)]
  · rw [if_neg e, if_neg e, char_one (digs_all ha i) (by omega), nums_digs ha (by omega)]
theorem strN_mix (a b : ByteArray) (at_ : Nat) : strN (mixN (numsOf a) (numsOf b) at_) = a.extract 0 at_ ++ b.extract at_ (at_ + 1) ++ a.extract (at_ + 1) a.size := by
  have key : ∀ l : List UInt8, l.map (UInt8.ofNat ∘ fun b => b.toNat) = l := fun l => by
    conv => rhs; rw [← List.map_id l]
    exact List.map_congr_left fun b _ => by simp
  apply ByteArray.ext
  apply Array.toList_inj.1
  simp only [ByteArray.data_append, ByteArray.data_extract, Array.toList_append, Array.toList_extract]
  unfold strN mixN numsOf
  simp only [List.map_append, List.map_take, List.map_drop, List.map_map, key, List.extract_eq_take_drop, List.drop_zero, Nat.sub_zero]
  rw [show at_ + 1 - at_ = 1 by omega]
  congr 1
  rw [List.take_of_length_le]
  rw [List.length_drop, size_digs]
  exact Nat.le_refl _
end Go.Proofs.YtlnofbdhamingaaDoor
