/- Parse and Text are inverse, in plain Lean. -/
import Derived.Test.YtodoimeiklilhaaDoorParse
import Derived.Lib.IndexBytes
set_option linter.unusedVariables false
set_option linter.unusedSimpArgs false
namespace Go.Proofs.YtodoimeiklilhaaDoor
open Go.RowKit Go.Sort

theorem digit_nat {k : Nat} (h : k < 10) : (UInt8.ofNat (48 + k)).toNat = 48 + k := by
  rw [UInt8.toNat_ofNat']; omega
theorem decDigits_digits : ∀ (u : Nat), ∀ c ∈ Lib.decDigits u, 48 ≤ c.toNat ∧ c.toNat ≤ 57 := by
  intro u
  induction u using Nat.strongRecOn with
  | _ u ih =>
    intro c hc
    rw [Lib.decDigits] at hc
    split at hc
    · rename_i h
      simp only [List.mem_singleton] at hc
      rw [hc, digit_nat h]; omega
    · rename_i h
      rcases List.mem_append.1 hc with hc | hc
      · exact ih (u / 10) (by omega) c hc
      · simp only [List.mem_singleton] at hc
        rw [hc, digit_nat (by omega)]; omega
theorem decDigits_ne (u : Nat) : Lib.decDigits u ≠ [] := by
  rw [Lib.decDigits]; split <;> simp
theorem parse_append (l : List UInt8) (c : UInt8) : ∀ (acc v : Nat), Lib.parseUint10 acc l = .ok v → Lib.parseUint10 acc (l ++ [c]) = Lib.parseUint10 v [c] := by
  induction l with
  | nil => intro acc v h; simp only [Lib.parseUint10] at h; injection h with h; rw [h]; rfl
  | cons b l ih =>
    intro acc v h
    simp only [Lib.parseUint10, List.cons_append] at h ⊢
    split at h
    · split at h
      · cases h
      · split at h
        · cases h
        · rename_i h1 h2 h3
          rw [if_pos h1, if_neg h2, if_neg h3]
          exact ih _ _ h
    · cases h
theorem parse_digits : ∀ (u : Nat), u < 9223372036854775808 → Lib.parseUint10 0 (Lib.decDigits u) = .ok u := by
  intro u
  induction u using Nat.strongRecOn with
  | _ u ih =>
    intro hu
    rw [Lib.decDigits]
    split
    · rename_i h
      simp only [Lib.parseUint10, digit_nat h]
      rw [if_pos (by omega), if_neg (by omega), if_neg (by omega)]
      congr 1; omega
    · rename_i h
      rw [parse_append _ _ _ _ (ih (u / 10) (by omega) (by omega))]
      simp only [Lib.parseUint10, digit_nat (show u % 10 < 10 by omega)]
      rw [if_pos (by omega), if_neg (by omega), if_neg (by omega)]
      congr 1; omega
theorem parseMag_digits (u : Nat) (h : u < 9223372036854775808) : Lib.parseMag (Lib.decDigits u) = .ok u := by
  unfold Lib.parseMag
  rw [if_neg (decDigits_ne u), parse_digits u h]
theorem atoi_itoa {n : Int} (h : -4611686018427387903 ≤ n ∧ n ≤ 4611686018427387903) : Lib.atoiAll (Lib.itoa n) = .ok n := by
  unfold Lib.itoa
  split
  · rename_i hn
    rw [Lib.atoiAll_minus, parseMag_digits _ (by omega)]
    unfold Lib.signed
    simp only
    rw [if_neg (by omega)]
    congr 1; omega
  · rename_i hn
    obtain ⟨c, r, e⟩ := List.exists_cons_of_ne_nil (decDigits_ne n.toNat)
    have hc := decDigits_digits n.toNat c (by rw [e]; simp)
    have hm := parseMag_digits n.toNat (by omega)
    rw [e] at hm ⊢
    rw [Lib.atoiAll_plain c r (by omega) (by omega), hm]
    unfold Lib.signless
    simp only
    rw [if_neg (by omega)]
    congr 1; omega
theorem itoa_no_slash (n : Int) : ∀ c ∈ Lib.itoa n, c ≠ 47 := by
  intro c hc
  unfold Lib.itoa at hc
  split at hc
  · rcases List.mem_cons.1 hc with rfl | hc
    · decide
    · have := decDigits_digits _ c hc
      rintro rfl
      exact absurd this.1 (by decide)
  · have := decDigits_digits _ c hc
    rintro rfl
    exact absurd this.1 (by decide)
theorem index_no : ∀ (x : List UInt8), (∀ c ∈ x, c ≠ 47) → Lib.index x [47] = -1
  | [], _ => rfl
  | b :: l, h => by
    have hb : b ≠ 47 := h b (by simp)
    have ih := index_no l (fun c hc => h c (by simp [hc]))
    unfold Lib.index
    rw [ih]
    have : ([47] : List UInt8).isPrefixOf (b :: l) = false := by
      simp [List.isPrefixOf, Ne.symm hb]
    rw [this]
    rfl
theorem index_at : ∀ (x y : List UInt8), (∀ c ∈ x, c ≠ 47) → Lib.index (x ++ 47 :: y) [47] = (x.length : Int)
  | [], y, _ => by
    show Lib.index (47 :: y) [47] = 0
    unfold Lib.index
    rw [show ([47] : List UInt8).isPrefixOf (47 :: y) = true by simp [List.isPrefixOf]]
    rfl
  | b :: l, y, h => by
    have hb : b ≠ 47 := h b (by simp)
    have ih := index_at l y (fun c hc => h c (by simp [hc]))
    show Lib.index (b :: (l ++ 47 :: y)) [47] = _
    unfold Lib.index
    rw [ih, show ([47] : List UInt8).isPrefixOf (b :: (l ++ 47 :: y)) = false by simp [List.isPrefixOf, Ne.symm hb]]
    simp only [Bool.false_eq_true, if_false, List.length_cons]
    rw [if_neg (by first | (simp; done) | (simp; omega))]
    omega
theorem cut_no {x : List UInt8} (h : ∀ c ∈ x, c ≠ 47) : Lib.cut x [47] = (x, [], false) := by
  unfold Lib.cut
  rw [index_no x h, if_neg (by decide)]
theorem cut_at {x y : List UInt8} (h : ∀ c ∈ x, c ≠ 47) : Lib.cut (x ++ 47 :: y) [47] = (x, y, true) := by
  unfold Lib.cut
  rw [index_at x y h, if_pos (by omega)]
  simp
theorem ok_parts {n d : Int} (h : Frac.ok ⟨n, d⟩) : -4611686018427387903 ≤ n ∧ n ≤ 4611686018427387903 ∧ 1 ≤ d ∧ d ≤ 4611686018427387903 := by
  obtain ⟨h1, h2, h3, h4, -⟩ := (Frac.ok_iff ⟨n, d⟩).1 h
  simp only at h1 h2 h3 h4
  omega
theorem one_atoi : Lib.atoiAll [49] = .ok 1 := by decide
/-- 'Parse' of the text of a valid fraction is the fraction -/
theorem parse_text {a : Frac} (h : a.ok) : parseR (textR a).1 = (a, 0) := by
  obtain ⟨p, hp, rfl⟩ := Frac.of_ok h
  have et : textR (fracOf p) = (ratText p, 0) := by unfold textR; rw [if_pos h, fracOf_val]
  rw [et]
  have hb := ok_parts (n := nm p) (d := dn p) h
  have fin : parseOf (ratText p) (.ok (nm p)) (.ok (dn p)) = (fracOf p, 0) := by
    show (if (textR (fracOf p)).2 = 0 ∧ (textR (fracOf p)).1.data = (ratText p).data then (fracOf p, (0 : Int)) else (⟨0, 0⟩, 11)) = (fracOf p, 0)
    rw [if_pos (by rw [et]; exact ⟨rfl, rfl⟩)]
  unfold parseR
  by_cases h1 : 1 < dn p
  · have e : (ratText p).data.toList = Lib.itoa (nm p) ++ 47 :: Lib.itoa (dn p) := by
      unfold ratText
      rw [if_pos h1]
      simp [numText]
    have er : rightOf (ratText p).data.toList = Lib.itoa (dn p) := by
      unfold rightOf
      rw [e, cut_at (itoa_no_slash _)]
      rfl
    rw [er, e, cut_at (itoa_no_slash _)]
    simp only
    rw [atoi_itoa ⟨hb.1, hb.2.1⟩, atoi_itoa (by omega), fin]
  · have e : (ratText p).data.toList = Lib.itoa (nm p) := by
      unfold ratText
      rw [if_neg h1]
      simp [numText]
    have er : rightOf (ratText p).data.toList = [49] := by
      unfold rightOf
      rw [e, cut_no (itoa_no_slash _)]
      rfl
    rw [er, e, cut_no (itoa_no_slash _)]
    simp only
    have ed : (dn p) = 1 := by omega
    rw [atoi_itoa ⟨hb.1, hb.2.1⟩, one_atoi, ← ed, fin]
/-- what 'Parse' returned has the string as its text -/
theorem text_parse {s : ByteArray} (h : (parseR s).2 = 0) : textR (parseR s).1 = (s, 0) ∧ (parseR s).1.ok := by
  unfold parseR at h ⊢
  revert h
  unfold parseOf
  split
  · rename_i n d _ _
    split
    · rename_i hc
      intro _
      have hs : (textR ⟨n, d⟩).1 = s := ByteArray.ext hc.2
      refine ⟨Prod.ext hs hc.1, ?_⟩
      rcases Classical.em (Frac.ok ⟨n, d⟩) with k | k
      · exact k
      · have := hc.1
        unfold textR at this
        rw [if_neg k] at this
        exact absurd this (by decide)
    · intro h; exact absurd h (by decide)
  · intro h; exact absurd h (by decide)
theorem parse_not {s : ByteArray} (h : (parseR s).2 ≠ 0) : parseR s = (⟨0, 0⟩, 11) := by
  unfold parseR at h ⊢
  revert h
  unfold parseOf
  split
  · split
    · intro h; exact absurd rfl h
    · intro _; rfl
  · intro _; rfl
theorem parse_wide (s : ByteArray) : (parseR s).1.wide := by
  rcases Classical.em ((parseR s).2 = 0) with h | h
  · have := (text_parse h).2
    obtain ⟨p, hp, e⟩ := Frac.of_ok this
    rw [e]; exact wide_of hp
  · rw [parse_not h]; exact ⟨(by show InI64 0; unfold InI64; omega), (by show InI64 0; unfold InI64; omega)⟩
theorem ratText_size {p : Rat} (h : Fits p) : (ratText p).size ≤ 43 := by
  have l1 := Lib.itoa_length_le (nm p) (fits_i64 h).1.1 (fits_i64 h).1.2
  have l2 := Lib.itoa_length_le (dn p) (fits_i64 h).2.1 (fits_i64 h).2.2
  have : (ratText p).data.toList.length ≤ 43 := by
    unfold ratText
    split <;> simp [numText] <;> omega
  rw [Array.length_toList] at this
  exact this
theorem text_size (a : Frac) : (textR a).1.size ≤ 43 := by
  unfold textR
  split
  · rename_i h
    obtain ⟨p, hp, rfl⟩ := Frac.of_ok h
    rw [fracOf_val]
    exact ratText_size hp
  · decide
end Go.Proofs.YtodoimeiklilhaaDoor
