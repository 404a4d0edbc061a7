/- What the reference's Floor, Ceil, Show, Text, Parse answer: what layer 1's do. -/
import Derived.Test.YtodoimeiklilhaaDoorRefParse
set_option linter.unusedVariables false
set_option linter.unusedSimpArgs false
namespace Go.Proofs.YtodoimeiklilhaaDoor
open Go.RowKit Go.Sort

theorem r_Floor (a : Frac) (ha : a.wide) (w : World) :
    Calls Tryd.prog 42 #[fracV a] w fun E w' => E = .returned (.tuple #[.int .i64 (floorR a).1, .int .i64 (floorR a).2]) ∧ Ext w w' := by
  by_cases hn : a.ok
  · rw [show floorR a = (a.val.floor, 0) from if_pos hn]
    obtain ⟨p, hp, rfl⟩ := Frac.of_ok hn
    have k1 := r_Valid (fracOf p) (wide_of hp)
    rw [decide_eq_true hn] at k1
    rw [fracOf_val]
    exact rFloor_walk (nm p) (dn p) _ _ w k1 (fun _ => r_Down p hp)
  · rw [show floorR a = (0, 8) from if_neg hn]
    have k1 := r_Valid a ha
    rw [decide_eq_false hn] at k1
    obtain ⟨a1, a2⟩ := a
    exact rFloor_walk a1 a2 0 _ w k1 (fun h => by cases h)
theorem r_NegW (q : Rat) (hq : Fits q) (w : World) : Calls Tryd.prog 76 #[ratV q] w fun E w' => E = .returned (ratV (-q)) ∧ Ext w w' := by
  have h := r_Neg (fracOf q) w
  have e2 : wrap64 (-(fracOf q).num) = nm (-q) := by
    have k := (fits_i64 (fits_neg hq)).1
    rw [show nm (-q) = -(fracOf q).num from Rat.neg_num q] at k ⊢
    exact IntWalk.wrap64_in _ k
  rw [e2] at h
  exact h
theorem r_Ceil (a : Frac) (ha : a.wide) (w : World) :
    Calls Tryd.prog 43 #[fracV a] w fun E w' => E = .returned (.tuple #[.int .i64 (ceilR a).1, .int .i64 (ceilR a).2]) ∧ Ext w w' := by
  by_cases hn : a.ok
  · rw [show ceilR a = (a.val.ceil, 0) from if_pos hn]
    obtain ⟨p, hp, rfl⟩ := Frac.of_ok hn
    have k1 := r_Valid (fracOf p) (wide_of hp)
    rw [decide_eq_true hn] at k1
    rw [fracOf_val, Rat.ceil_eq_neg_floor_neg]
    have hs := floor_small (fits_neg hp)
    exact rCeil_walk (nm p) (dn p) _ _ _ _ w (by omega) (by omega) k1 (fun _ => r_NegW p hp) (fun _ => r_Down (-p) (fits_neg hp))
  · rw [show ceilR a = (0, 8) from if_neg hn]
    have k1 := r_Valid a ha
    rw [decide_eq_false hn] at k1
    obtain ⟨a1, a2⟩ := a
    exact rCeil_walk a1 a2 0 0 0 _ w (by omega) (by omega) k1 (fun h => by cases h) (fun h => by cases h)
theorem itoa_abs (n : Int) : Lib.itoa n = if n < 0 then 45 :: Lib.decDigits n.natAbs else Lib.decDigits n.natAbs := by
  unfold Lib.itoa
  split
  · rfl
  · rw [show n.toNat = n.natAbs by omega]
theorem dec_size (n : Nat) (h : n < 18446744073709551616) : (⟨(Lib.decDigits n).toArray⟩ : ByteArray).size ≤ 30 := by
  show (Lib.decDigits n).toArray.size ≤ 30
  rw [List.size_toArray, Lib.decDigits_length]
  have := Lib.nDigits_le20 n h
  omega
theorem r_Show (p : Rat) (hp : Fits p) (w : World) :
    Calls Tryd.prog 77 #[ratV p] w fun E w' => E = .returned (.string (ratText p)) ∧ Ext w w' := by
  have h64 := fits_i64 hp
  have b1 : (nm p).natAbs < 18446744073709551616 := by have := h64.1; unfold InI64 at this; omega
  have b2 : (dn p).natAbs < 18446744073709551616 := by have := h64.2; unfold InI64 at this; omega
  have h := rShow_walk (nm p) (dn p) _ _ _ _ w (dec_size _ b1) (dec_size _ b2) (r_size _ h64.1) (r_decimal _ b1) (r_size _ h64.2) (r_decimal _ b2)
  have e1 : (if nm p < 0 then (⟨#[45]⟩ : ByteArray) ++ ⟨(Lib.decDigits (nm p).natAbs).toArray⟩ else ⟨(Lib.decDigits (nm p).natAbs).toArray⟩) = numText (nm p) := by
    unfold numText
    rw [itoa_abs]
    split
    · apply ByteArray.ext; simp
    · rfl
  have e2 : 1 < dn p → (⟨(Lib.decDigits (dn p).natAbs).toArray⟩ : ByteArray) = numText (dn p) := fun k => by
    unfold numText
    rw [itoa_abs, if_neg (by omega)]
  rw [e1] at h
  have e3 : (if 1 < dn p then numText (nm p) ++ ⟨#[47]⟩ ++ ⟨(Lib.decDigits (dn p).natAbs).toArray⟩ else numText (nm p)) = ratText p := by
    unfold ratText
    split
    · rename_i k
      rw [e2 k]
      apply ByteArray.ext; simp
    · rfl
  rw [e3] at h
  exact h
theorem r_Text (a : Frac) (ha : a.wide) (w : World) :
    Calls Tryd.prog 44 #[fracV a] w fun E w' => E = .returned (.tuple #[.string (textR a).1, .int .i64 (textR a).2]) ∧ Ext w w' := by
  by_cases hn : a.ok
  · rw [show textR a = (ratText a.val, 0) from if_pos hn]
    obtain ⟨p, hp, rfl⟩ := Frac.of_ok hn
    have k1 := r_Valid (fracOf p) (wide_of hp)
    rw [decide_eq_true hn] at k1
    rw [fracOf_val]
    exact rText_walk (nm p) (dn p) _ _ w k1 (fun _ => r_Show p hp)
  · rw [show textR a = (⟨#[]⟩, 8) from if_neg hn]
    have k1 := r_Valid a ha
    rw [decide_eq_false hn] at k1
    obtain ⟨a1, a2⟩ := a
    exact rText_walk a1 a2 ⟨#[]⟩ _ w k1 (fun h => by cases h)
/-- the number that digits spell -/
def valF (acc : Nat) (l : List UInt8) : Nat := l.foldl (fun a c => 10 * a + (c.toNat - 48)) acc
theorem valF_ge : ∀ (l : List UInt8) (acc : Nat), acc ≤ valF acc l
  | [], _ => Nat.le_refl _
  | c :: l, acc => by
    have := valF_ge l (10 * acc + (c.toNat - 48))
    show acc ≤ valF (10 * acc + (c.toNat - 48)) l
    omega
theorem numF_val : ∀ (l : List UInt8) (acc : Nat), (∀ c ∈ l, 48 ≤ c.toNat ∧ c.toNat ≤ 57) → valF acc l ≤ 4611686018427387909 → numF acc l = valF acc l
  | [], _, _, _ => rfl
  | c :: l, acc, hd, hb => by
    have hb' : valF (10 * acc + (c.toNat - 48)) l ≤ 4611686018427387909 := hb
    have h1 := valF_ge l (10 * acc + (c.toNat - 48))
    have h2 := hd c (by simp)
    show numF acc (c :: l) = valF (10 * acc + (c.toNat - 48)) l
    unfold numF
    rw [if_neg (by omega)]
    exact numF_val l _ (fun x hx => hd x (by simp [hx])) hb'
theorem valF_digits : ∀ u : Nat, valF 0 (Lib.decDigits u) = u := by
  intro u
  induction u using Nat.strongRecOn with
  | _ u ih =>
    rw [Lib.decDigits]
    split
    · rename_i h
      show 10 * 0 + ((UInt8.ofNat (48 + u)).toNat - 48) = u
      rw [digit_nat h]; omega
    · rename_i h
      unfold valF
      rw [List.foldl_append]
      show 10 * valF 0 (Lib.decDigits (u / 10)) + ((UInt8.ofNat (48 + u % 10)).toNat - 48) = u
      rw [ih (u / 10) (by omega), digit_nat (show u % 10 < 10 by omega)]
      omega
theorem numF_digits {u : Nat} (h : u ≤ 4611686018427387903) : numF 0 (Lib.decDigits u) = u := by
  rw [numF_val _ 0 (decDigits_digits u) (by rw [valF_digits]; omega), valF_digits]
theorem digits_no_slash (u : Nat) : ∀ c ∈ Lib.decDigits u, c ≠ 47 := by
  intro c hc
  have := decDigits_digits u c hc
  rintro rfl
  exact absurd this.1 (by decide)
theorem idxOf_no : ∀ {x : List UInt8}, (∀ c ∈ x, c ≠ 47) → ∀ y, (x ++ y).idxOf 47 = x.length + y.idxOf 47
  | [], _, y => by simp
  | b :: l, h, y => by
    have hb : (b == (47 : UInt8)) = false := by simpa using h b (by simp)
    rw [List.cons_append, List.idxOf_cons, hb, cond_false, idxOf_no (fun c hc => h c (by simp [hc])) y, List.length_cons]
    omega
theorem take_data (s : ByteArray) (b : Nat) : (s.extract 0 b).data.toList = s.data.toList.take b := by simp
/-- the two numbers of a text of digits -/
theorem parts_of {t : ByteArray} {u d : Nat} (hu : u ≤ 4611686018427387903) (hd : d ≤ 4611686018427387903) (h : t.data.toList = Lib.decDigits u ++ (if 1 < d then 47 :: Lib.decDigits d else [])) :
    numF 0 (t.extract 0 (t.data.toList.idxOf 47)).data.toList = u ∧ (t.data.toList.idxOf 47 < t.size ↔ 1 < d) ∧ (1 < d → numF 0 (t.extract (t.data.toList.idxOf 47 + 1) t.size).data.toList = d) := by
  have hz : t.size = t.data.toList.length := by rw [Array.length_toList]; rfl
  have hi := idxOf_no (digits_no_slash u) (if 1 < d then 47 :: Lib.decDigits d else [])
  rw [← h] at hi
  by_cases h1 : 1 < d
  · rw [if_pos h1] at h hi
    have e : (47 :: Lib.decDigits d).idxOf 47 = 0 := by simp
    rw [e, Nat.add_zero] at hi
    rw [hi, hz, h]
    refine ⟨?_, ⟨fun _ => h1, fun _ => by simp⟩, fun _ => ?_⟩
    · rw [take_data, h, List.take_left]; exact numF_digits hu
    · have : (t.extract ((Lib.decDigits u).length + 1) (Lib.decDigits u ++ 47 :: Lib.decDigits d).length).data.toList = Lib.decDigits d := by
        rw [← h, ← hz, Lib.extract_to_end, h]
        simp
      rw [this]; exact numF_digits hd
  · rw [if_neg h1] at h hi
    rw [List.append_nil] at h
    have e : ([] : List UInt8).idxOf 47 = 0 := rfl
    rw [e, Nat.add_zero] at hi
    rw [hi, hz, h]
    refine ⟨?_, ⟨fun k => absurd k (Nat.lt_irrefl _), fun k => absurd k h1⟩, fun k => absurd k h1⟩
    rw [take_data, h, List.take_length]; exact numF_digits hu
theorem text_list {a : Frac} (h : a.ok) : (textR a).1.data.toList = (if a.num < 0 then [45] else []) ++ (Lib.decDigits a.num.natAbs ++ (if 1 < a.den.natAbs then 47 :: Lib.decDigits a.den.natAbs else [])) ∧ a.num.natAbs ≤ 4611686018427387903 ∧ a.den.natAbs ≤ 4611686018427387903 ∧ 1 ≤ a.den := by
  obtain ⟨p, hp, rfl⟩ := Frac.of_ok h
  have hb := ok_parts (n := nm p) (d := dn p) h
  have et : textR (fracOf p) = (ratText p, 0) := by unfold textR; rw [if_pos h, fracOf_val]
  refine ⟨?_, by show (nm p).natAbs ≤ _; omega, by show (dn p).natAbs ≤ _; omega, by show 1 ≤ dn p; omega⟩
  rw [et]
  show (ratText p).data.toList = (if nm p < 0 then [45] else []) ++ (Lib.decDigits (nm p).natAbs ++ (if 1 < (dn p).natAbs then 47 :: Lib.decDigits (dn p).natAbs else []))
  have e1 : (numText (nm p)).data.toList = (if nm p < 0 then [45] else []) ++ Lib.decDigits (nm p).natAbs := by
    unfold numText
    rw [itoa_abs]
    split <;> simp
  have e2 : (numText (dn p)).data.toList = Lib.decDigits (dn p).natAbs := by
    unfold numText
    rw [itoa_abs, if_neg (by omega)]
  unfold ratText
  by_cases h1 : 1 < dn p
  · rw [if_pos h1, if_pos (show 1 < (dn p).natAbs by omega)]
    simp [e1, e2]
  · rw [if_neg h1, if_neg (show ¬ 1 < (dn p).natAbs by omega), e1, List.append_nil]
/-- a string that the text of no valid fraction is has no fraction -/
theorem parse_none {s : ByteArray} (h : ∀ a : Frac, a.ok → (textR a).1 ≠ s) : parseR s = (⟨0, 0⟩, 11) := by
  rcases Classical.em ((parseR s).2 = 0) with k | k
  · have := text_parse k
    exact absurd (congrArg Prod.fst this.1) (h _ this.2)
  · exact parse_not k
theorem one_frac {s : ByteArray} {b : Frac} (hb : b.ok) (h : (textR b).1 = s) : parseR s = (b, 0) := by rw [← h]; exact parse_text hb
/-- the last step: what the numbers of a string make is what 'Parse' answers -/
theorem parse_end {s : ByteArray} (N D : Int) (hkey : ∀ a : Frac, a.ok → (textR a).1 = s → a = ⟨N, D⟩) :
    (Frac.ok ⟨N, D⟩ → (textR ⟨N, D⟩).1 = s → parseR s = (⟨N, D⟩, 0)) ∧ (¬ (Frac.ok ⟨N, D⟩ ∧ (textR ⟨N, D⟩).1 = s) → parseR s = (⟨0, 0⟩, 11)) := by
  refine ⟨fun h1 h2 => one_frac h1 h2, fun h => parse_none fun a ha he => h ?_⟩
  have e := hkey a ha he
  rw [← e]
  exact ⟨ha, he⟩
theorem text_ok {p : Rat} (hp : Fits p) (h : (fracOf p).ok) : (textR (fracOf p)).1 = ratText p := by
  unfold textR; rw [if_pos h, fracOf_val]
theorem head_list {s : ByteArray} (h0 : 0 < s.size) : s.data.toList = s[0] :: s.data.toList.drop 1 := by
  have e := (List.getElem?_eq_some_iff.1 (Lib.data_getElem? s 0 h0))
  obtain ⟨h, e⟩ := e
  rw [← e]
  conv => lhs; rw [← List.drop_zero (l := s.data.toList), List.drop_eq_getElem_cons h]
theorem digits_head (u : Nat) (r : List UInt8) : ∃ c l, Lib.decDigits u ++ r = c :: l ∧ c.toNat ≠ 45 := by
  obtain ⟨c, l, e⟩ := List.exists_cons_of_ne_nil (decDigits_ne u)
  have := decDigits_digits u c (by rw [e]; simp)
  exact ⟨c, l ++ r, by rw [e]; rfl, by omega⟩
theorem wide_num {n d : Nat} (hn : n ≤ 4611686018427387909) (hd : d ≤ 4611686018427387909) : Frac.wide ⟨(n : Int), (d : Int)⟩ ∧ Frac.wide ⟨-(n : Int), (d : Int)⟩ ∧ Frac.wide ⟨(n : Int), 1⟩ ∧ Frac.wide ⟨-(n : Int), 1⟩ := by
  unfold Frac.wide InI64
  refine ⟨⟨?_, ?_⟩, ⟨?_, ?_⟩, ⟨?_, ?_⟩, ⟨?_, ?_⟩⟩ <;> simp only <;> omega
set_option maxHeartbeats 1000000 in
theorem r_Parse (s : ByteArray) (hs : s.size ≤ 1000) (w : World) :
    Calls Tryd.prog 45 #[.string s] w fun E w' => E = .returned (fansV (parseR s)) ∧ Ext w w' := by
  -- the string behind its sign
  have key : ∀ (t : ByteArray) (neg : Bool), t.size ≤ 1000 → (∀ a : Frac, a.ok → (textR a).1 = s → ((a.num < 0 ↔ neg = true) ∧ t.data.toList = Lib.decDigits a.num.natAbs ++ (if 1 < a.den.natAbs then 47 :: Lib.decDigits a.den.natAbs else []))) →
      ∀ (n1 d1 : Nat), n1 = numF 0 (t.extract 0 (t.data.toList.idxOf 47)).data.toList → d1 = numF 0 (t.extract (t.data.toList.idxOf 47 + 1) t.size).data.toList →
      ∀ N D : Int, (N = if neg = true then -(n1 : Int) else n1) → (D = if t.data.toList.idxOf 47 < t.size then (d1 : Int) else 1) → ∀ a : Frac, a.ok → (textR a).1 = s → a = ⟨N, D⟩ := by
    intro t neg _ hsign n1 d1 hn1 hd1 N D hN hD a ha he
    obtain ⟨g1, g2⟩ := hsign a ha he
    obtain ⟨-, u1, u2, u3⟩ := text_list ha
    obtain ⟨q1, q2, q3⟩ := parts_of u1 u2 g2
    obtain ⟨n, d⟩ := a
    simp only at g1 u1 u2 u3 q1 q2 q3
    rw [q1] at hn1
    have eN : n = N := by
      rw [hN, hn1]
      by_cases hb : neg = true
      · rw [if_pos hb]; have := g1.2 hb; omega
      · rw [if_neg hb]; have : ¬ n < 0 := fun k => hb (g1.1 k); omega
    have eD : d = D := by
      rw [hD]
      by_cases h1 : 1 < d.natAbs
      · rw [if_pos (q2.2 h1), hd1, q3 h1]; omega
      · rw [if_neg (fun k => h1 (q2.1 k))]; omega
    rw [eN, eD]
  have bn : ∀ l, numF 0 l ≤ 4611686018427387909 := fun l => numF_le l 0 (by omega)
  have ex : ∀ (t : ByteArray) (a b : Nat), t.size ≤ 1000 → (t.extract a b).size ≤ 1000 := fun t a b h => by simp; omega
  have il : ∀ t : ByteArray, t.data.toList.idxOf 47 ≤ t.size := fun t => by
    have := List.idxOf_le_length (a := (47 : UInt8)) (l := t.data.toList)
    rw [Array.length_toList] at this
    exact this
  have fin : ∀ (N D : Int), Frac.wide ⟨N, D⟩ → (∀ a : Frac, a.ok → (textR a).1 = s → a = ⟨N, D⟩) →
      (∀ C : Prop, ((∀ w, Calls Tryd.prog 50 #[fracV ⟨N, D⟩] w fun E w' => E = .returned (.bool false) ∧ Ext w w') → parseR s = (⟨0, 0⟩, 11) → C) →
        (∀ tx : ByteArray, (∀ w, Calls Tryd.prog 50 #[fracV ⟨N, D⟩] w fun E w' => E = .returned (.bool true) ∧ Ext w w') → (∀ w, Calls Tryd.prog 77 #[fracV ⟨N, D⟩] w fun E w' => E = .returned (.string tx) ∧ Ext w w') → (tx.toList == s.toList) = false → parseR s = (⟨0, 0⟩, 11) → C) →
        (∀ tx : ByteArray, (∀ w, Calls Tryd.prog 50 #[fracV ⟨N, D⟩] w fun E w' => E = .returned (.bool true) ∧ Ext w w') → (∀ w, Calls Tryd.prog 77 #[fracV ⟨N, D⟩] w fun E w' => E = .returned (.string tx) ∧ Ext w w') → (tx.toList == s.toList) = true → parseR s = (⟨N, D⟩, 0) → C) → C) := by
    intro N D hw hk C c1 c2 c3
    have kv := r_Valid ⟨N, D⟩ hw
    obtain ⟨p1, p2⟩ := parse_end N D hk
    by_cases hok : Frac.ok ⟨N, D⟩
    · rw [decide_eq_true hok] at kv
      obtain ⟨p, hp, ep⟩ := Frac.of_ok hok
      have ks := r_Show p hp
      have et : (textR ⟨N, D⟩).1 = ratText p := by rw [ep]; exact text_ok hp (ep ▸ hok)
      have e : ratV p = fracV ⟨N, D⟩ := by rw [ep]; rfl
      rw [e] at ks
      by_cases hx : ratText p = s
      · exact c3 _ kv ks (by rw [hx]; exact beq_self_eq_true _) (p1 hok (by rw [et]; exact hx))
      · exact c2 _ kv ks (by rw [ByteArray.toList_eq, ByteArray.toList_eq]; exact beq_eq_false_iff_ne.2 (fun h => hx (ByteArray.ext (Array.toList_inj.1 h)))) (p2 (fun h => hx (by rw [← et]; exact h.2)))
    · rw [decide_eq_false hok] at kv
      exact c1 kv (p2 (fun h => hok h.1))
  by_cases hm : ∃ h0 : 0 < s.size, s[0].toNat = 45
  · obtain ⟨h0, hb⟩ := hm
    obtain ⟨t, ht⟩ : ∃ t, s.extract 1 s.size = t := ⟨_, rfl⟩
    have hts : t.size ≤ 1000 := by rw [← ht]; exact ex _ _ _ hs
    have htl : t.data.toList = s.data.toList.drop 1 := by rw [← ht, Lib.extract_to_end]
    have hsign : ∀ a : Frac, a.ok → (textR a).1 = s → ((a.num < 0 ↔ true = true) ∧ t.data.toList = Lib.decDigits a.num.natAbs ++ (if 1 < a.den.natAbs then 47 :: Lib.decDigits a.den.natAbs else [])) := by
      intro a ha he
      have hl := (text_list ha).1
      rw [he, head_list h0] at hl
      by_cases hn : a.num < 0
      · rw [if_pos hn] at hl
        refine ⟨⟨fun _ => rfl, fun _ => hn⟩, ?_⟩
        rw [htl]
        exact (List.cons.inj hl).2
      · rw [if_neg hn] at hl
        obtain ⟨c, l, ec, hc⟩ := digits_head a.num.natAbs (if 1 < a.den.natAbs then 47 :: Lib.decDigits a.den.natAbs else [])
        rw [ec] at hl
        exact absurd (by rw [← (List.cons.inj hl).1]; exact hb) hc
    have hk := key t true hts hsign _ _ rfl rfl
    have b1 := bn (t.extract 0 (t.data.toList.idxOf 47)).data.toList
    have b2 := bn (t.extract (t.data.toList.idxOf 47 + 1) t.size).data.toList
    have hw := wide_num b1 b2
    have kn := r_number (t.extract 0 (t.data.toList.idxOf 47)) (ex _ _ _ hts)
    have kd := r_number (t.extract (t.data.toList.idxOf 47 + 1) t.size) (ex _ _ _ hts)
    by_cases hf : t.data.toList.idxOf 47 < t.size
    · refine fin _ _ hw.2.1 (hk _ _ rfl (by rw [if_pos hf])) _ (fun kv e => ?_) (fun tx kv ks hx e => ?_) (fun tx kv ks hx e => ?_)
      · rw [e]; exact rParse_mf_no s t ⟨#[]⟩ _ _ _ w hs b1 rfl (il t) (decide_eq_true (by omega)) hf h0 hb ht kn kd kv
      · rw [e]; exact rParse_mf_other s t tx _ _ _ w hs b1 rfl (il t) (decide_eq_true (by omega)) hf hx h0 hb ht kn kd kv ks
      · rw [e]; exact rParse_mf_yes s t tx _ _ _ w hs b1 rfl (il t) (decide_eq_true (by omega)) hf hx h0 hb ht kn kd kv ks
    · refine fin _ _ hw.2.2.2 (hk _ _ rfl (by rw [if_neg hf])) _ (fun kv e => ?_) (fun tx kv ks hx e => ?_) (fun tx kv ks hx e => ?_)
      · rw [e]; exact rParse_mn_no s t ⟨#[]⟩ _ _ 0 w hs b1 rfl (il t) (decide_eq_false (by omega)) hf h0 hb ht kn kv
      · rw [e]; exact rParse_mn_other s t tx _ _ 0 w hs b1 rfl (il t) (decide_eq_false (by omega)) hf hx h0 hb ht kn kv ks
      · rw [e]; exact rParse_mn_yes s t tx _ _ 0 w hs b1 rfl (il t) (decide_eq_false (by omega)) hf hx h0 hb ht kn kv ks
  · have hb : (h0 : 0 < s.size) → s[0].toNat ≠ 45 := fun h0 hb => hm ⟨h0, hb⟩
    have hsign : ∀ a : Frac, a.ok → (textR a).1 = s → ((a.num < 0 ↔ false = true) ∧ s.data.toList = Lib.decDigits a.num.natAbs ++ (if 1 < a.den.natAbs then 47 :: Lib.decDigits a.den.natAbs else [])) := by
      intro a ha he
      have hl := (text_list ha).1
      rw [he] at hl
      by_cases hn : a.num < 0
      · rw [if_pos hn] at hl
        have h0 : 0 < s.size := by
          show 0 < s.data.size
          rw [← Array.length_toList, hl]
          simp
        rw [head_list h0] at hl
        exact absurd (by rw [(List.cons.inj hl).1]; rfl) (hb h0)
      · rw [if_neg hn] at hl
        exact ⟨⟨fun k => absurd k hn, fun k => by cases k⟩, hl⟩
    have hk := key s false hs hsign _ _ rfl rfl
    have b1 := bn (s.extract 0 (s.data.toList.idxOf 47)).data.toList
    have b2 := bn (s.extract (s.data.toList.idxOf 47 + 1) s.size).data.toList
    have hw := wide_num b1 b2
    have kn := r_number (s.extract 0 (s.data.toList.idxOf 47)) (ex _ _ _ hs)
    have kd := r_number (s.extract (s.data.toList.idxOf 47 + 1) s.size) (ex _ _ _ hs)
    by_cases hf : s.data.toList.idxOf 47 < s.size
    · refine fin _ _ hw.1 (hk _ _ rfl (by rw [if_pos hf])) _ (fun kv e => ?_) (fun tx kv ks hx e => ?_) (fun tx kv ks hx e => ?_)
      · rw [e]; exact rParse_pf_no s s ⟨#[]⟩ _ _ _ w hs b1 rfl (il s) (decide_eq_true (by omega)) hf hb rfl kn kd kv
      · rw [e]; exact rParse_pf_other s s tx _ _ _ w hs b1 rfl (il s) (decide_eq_true (by omega)) hf hx hb rfl kn kd kv ks
      · rw [e]; exact rParse_pf_yes s s tx _ _ _ w hs b1 rfl (il s) (decide_eq_true (by omega)) hf hx hb rfl kn kd kv ks
    · refine fin _ _ hw.2.2.1 (hk _ _ rfl (by rw [if_neg hf])) _ (fun kv e => ?_) (fun tx kv ks hx e => ?_) (fun tx kv ks hx e => ?_)
      · rw [e]; exact rParse_pn_no s s ⟨#[]⟩ _ _ 0 w hs b1 rfl (il s) (decide_eq_false (by omega)) hf hb rfl kn kv
      · rw [e]; exact rParse_pn_other s s tx _ _ 0 w hs b1 rfl (il s) (decide_eq_false (by omega)) hf hx hb rfl kn kv ks
      · rw [e]; exact rParse_pn_yes s s tx _ _ 0 w hs b1 rfl (il s) (decide_eq_false (by omega)) hf hx hb rfl kn kv ks
end Go.Proofs.YtodoimeiklilhaaDoor
