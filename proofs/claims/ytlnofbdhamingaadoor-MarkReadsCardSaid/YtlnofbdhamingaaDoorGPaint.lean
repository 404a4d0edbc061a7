/- Joined from the parts PaintP, DrawPlain, DrawC. -/
import Derived.Test.YtlnofbdhamingaaDoorGDraw
import Derived.Test.YtlnofbdhamingaaDoorGMath
import Derived.Test.YtlnofbdhamingaaDoorGPoly
set_option linter.unusedVariables false
set_option linter.unusedSimpArgs false
/- Images of modules: the program's walk. -/
namespace Go.Proofs.YtlnofbdhamingaaDoor
open Go.RowKit Go.Sort

set_option maxRecDepth 100000 in
set_option maxHeartbeats 4000000 in
theorem c_paint (W H S ww hh N : Nat) (ink paper : Int) (ms : List Nat) (v : Value) (w : World) (hv : BytesAt w v ms) (hl : ms.length = W * H) (hS : 1 ≤ S ∧ S ≤ 2) (hW : 1 ≤ W ∧ W ≤ 16) (hH : 1 ≤ H ∧ H ≤ 16) (hww : W * S = ww) (hhh : H * S = hh) (hN : ww * hh = N) :
    Calls Tryd.prog 77 #[v, .int .i64 (W : Int), .int .i64 (S : Int), .int .i64 ink, .int .i64 paper] w
      fun e w' => ∃ v', e = .returned (imgVal ⟨(ww : Int), (hh : Int), paintedR ms ww S ink paper N⟩ v') ∧ w'.ownsRow w.heap.size 3 1 v' N (ints (paintedR ms ww S ink paper N)) ∧ Ext w w' := by
  obtain ⟨i0, hi, hz0, hz1, hz2⟩ := info_parts3 info_int
  obtain ⟨n0, hn0⟩ : ∃ n, W * H = n := ⟨_, rfl⟩
  have hwb : ww ≤ 32 := by rw [← hww]; exact Nat.mul_le_mul hW.2 hS.2
  have hhb : hh ≤ 32 := by rw [← hhh]; exact Nat.mul_le_mul hH.2 hS.2
  have hNb : N ≤ 1024 := by rw [← hN]; exact Nat.mul_le_mul hwb hhb
  have hn1 : 1 ≤ n0 := by rw [← hn0]; exact Nat.mul_pos hW.1 hH.1
  have q0 : (W : Int) * (S : Int) = (ww : Int) := by rw [← hww]; exact (Int.natCast_mul W S).symm
  have q1 : (H : Int) * (S : Int) = (hh : Int) := by rw [← hhh]; exact (Int.natCast_mul H S).symm
  have q3 : (ww : Int) * (hh : Int) = (N : Int) := by rw [← hN]; exact (Int.natCast_mul ww hh).symm
  have q2 : (n0 : Int).tdiv (W : Int) = (H : Int) := by
    rw [Int.tdiv_eq_ediv_of_nonneg (by omega), ← hn0, Int.natCast_mul, Int.mul_comm]
    exact Int.mul_ediv_cancel _ (by omega)
  rw [hn0] at hl
  obtain ⟨bo, oo, cp, rfl, hc⟩ := hv.some hl (by omega)
  have HC := Lib.hid hc
  have HX := Lib.hid (And.intro hl (And.intro hn0 (And.intro hww (And.intro hhh hN))))
  clear hc hv hl hn0 hww hhh hN
  go_enter Tryd.func77, Tryd.ntmps77
  go_wp2
  obtain ⟨B0, hB0⟩ : ∃ B, w.heap.size = B := ⟨_, rfl⟩
  obtain ⟨W0, hW0⟩ : ∃ W0, (w.alloc (.cells #[.int .i64 0, .int .i64 0, .slice none 0 0] 44)).alloc (.cells #[.int .i64 (ww : Int), .int .i64 (hh : Int), .slice none 0 0] 44) = W0 := ⟨_, rfl⟩
  have hA : At W0 [(B0, .cells #[.int .i64 0, .int .i64 0, .slice none 0 0] 44), (B0 + 1, .cells #[.int .i64 (ww : Int), .int .i64 (hh : Int), .slice none 0 0] 44)] := by
    rw [← hW0, ← hB0]
    exact ⟨heap_alloc2_old w _ _, heap_alloc2_new w _ _, trivial⟩
  have hE0 : Ext w W0 := by rw [← hW0]; exact ((Ext.refl w).alloc _).alloc _
  have HA := Lib.hid hA
  have HB0 := Lib.hid hB0
  have hBz : W0.heap.size = B0 + 2 := by rw [← hW0, ← hB0]; simp [size_one]
  have HBZ := Lib.hid hBz
  rw [hB0, hW0]
  clear hA hB0 hW0 hBz
  go_loopw [29] (fun i wr => ∃ (k : Nat) (pv : Value), k ≤ N ∧ i = .int .i64 (k : Int) ∧ Ext w wr ∧ Hid (At wr [(B0, .cells #[.int .i64 0, .int .i64 0, .slice none 0 0] 44), (B0 + 1, .cells #[.int .i64 (ww : Int), .int .i64 (hh : Int), pv] 44)]) ∧ Hid (wr.ownsRow (B0 + 2) 3 1 pv k (ints (paintedR ms ww S ink paper k))) ∧ Hid (B0 + 2 ≤ wr.heap.size)) (fun i _ => N - (intOf i).toNat)
  case atStart => exact ⟨0, _, Nat.zero_le _, rfl, hE0, HA, Lib.hid ⟨rfl, .inl ⟨rfl, rfl⟩⟩, Lib.hid (by rw [HBZ.out]; exact Nat.le_refl _)⟩
  case round =>
    clear HA hE0
    obtain ⟨k, pv, hk, rfl, hE, hA, hO, hZ⟩ := hrel
    obtain ⟨⟨c0, c1, c2⟩, f0, f1, f2⟩ := run_3 (At.at hA.out 1 rfl)
    obtain ⟨⟨d0, d1, d2⟩, g0, g1, g2⟩ := run_3 (At.at hA.out 0 rfl)
    by_cases hkN : k < N
    · have hcl : cellOf ww S k < n0 := by
        obtain ⟨x1, x2, x3, x4, x5⟩ := HX.out
        have h := cellOf_lt (W := W) (H := H) (S := S) (k := k) hS.1 hW.1 (by rw [x3, x4, x5]; exact hkN)
        rw [x3, x2] at h
        exact h
      have HCE := Lib.hid (show cellOf ww S k = k / ww / S * W + k % ww / S by
        unfold cellOf
        rw [← HX.out.2.2.1, Nat.mul_div_cancel _ hS.1])
      have HS := Lib.hid (paintedR_succ ms ww S ink paper k)
      have K0 := hE.get (HC.out (cellOf ww S k) hcl)
      have hw1 : 1 ≤ ww := by rw [← HX.out.2.2.1]; exact Nat.mul_pos hW.1 hS.1
      obtain ⟨t, ht⟩ : ∃ t, cellOf ww S k = t := ⟨_, rfl⟩
      rw [ht] at K0 hcl HS HCE
      obtain ⟨y, hy⟩ : ∃ y, ms.getD t 0 = y := ⟨_, rfl⟩
      rw [hy] at K0 HS
      have hm1 := Nat.mod_lt k (show 0 < ww by omega)
      have t1 : (k : Int).tdiv (ww : Int) = ((k / ww : Nat) : Int) := by rw [Int.tdiv_eq_ediv_of_nonneg (by omega)]; exact (Int.natCast_ediv k ww).symm
      have t4 : (k : Int).tmod (ww : Int) = ((k % ww : Nat) : Int) := by rw [Int.tmod_eq_emod_of_nonneg (by omega)]; exact (Int.natCast_emod k ww).symm
      have ha : k / ww ≤ k := Nat.div_le_self _ _
      obtain ⟨a, haa⟩ : ∃ a, k / ww = a := ⟨_, rfl⟩
      obtain ⟨d, hdd⟩ : ∃ d, k % ww = d := ⟨_, rfl⟩
      rw [haa] at t1 HCE ha
      rw [hdd] at t4 HCE hm1
      have t2 : (a : Int).tdiv (S : Int) = ((a / S : Nat) : Int) := by rw [Int.tdiv_eq_ediv_of_nonneg (by omega)]; exact (Int.natCast_ediv a S).symm
      have t5 : (d : Int).tdiv (S : Int) = ((d / S : Nat) : Int) := by rw [Int.tdiv_eq_ediv_of_nonneg (by omega)]; exact (Int.natCast_ediv d S).symm
      have hb : a / S ≤ a := Nat.div_le_self _ _
      have he : d / S ≤ d := Nat.div_le_self _ _
      obtain ⟨a2, ha2⟩ : ∃ a2, a / S = a2 := ⟨_, rfl⟩
      obtain ⟨d2', hd2⟩ : ∃ d2, d / S = d2 := ⟨_, rfl⟩
      rw [ha2] at t2 HCE hb
      rw [hd2] at t5 HCE he
      obtain ⟨p, hp⟩ : ∃ p, a2 * W = p := ⟨_, rfl⟩
      rw [hp] at HCE
      have t3 : (a2 : Int) * (W : Int) = (p : Int) := by rw [← hp]; exact (Int.natCast_mul a2 W).symm
      have t6 : (p : Int) + (d2' : Int) = (t : Int) := by have := HCE.out; omega
      have hpt : p ≤ t ∧ d2' ≤ t := by have := HCE.out; omega
      have hn0b : n0 ≤ 256 := by rw [← HX.out.2.1]; exact Nat.mul_le_mul hW.2 hH.2
      have HZ := Lib.hid (And.intro ht (And.intro hy (And.intro haa (And.intro hdd (And.intro ha2 (And.intro hd2 hp))))))
      have zk := World.block_lt_of_cell? _ _ K0
      have zb := World.block_lt_of_cell? _ _ c0
      simp only at zk zb
      clear ht hy haa hdd ha2 hd2 hp d0 d1 d2 g0 g1 g2
      have key : ∀ (wn : World), Ext wr wn → (∀ col : Int, (if y = 1 then ink else paper) = col → ∀ w3 : World, ∀ v', w3.ownsRow (B0 + 2) 3 1 v' (k + 1) (ints (paintedR ms ww S ink paper k) ++ [.int .i64 col]) → (wn.alloc (.cells #[.int .i64 col] 3)).grownBy w3 pv.ownBlock →
          ∃ pv', Ext w (w3.setCell ⟨B0 + 1, 2, none⟩ v') ∧ Hid (At (w3.setCell ⟨B0 + 1, 2, none⟩ v') [(B0, .cells #[.int .i64 0, .int .i64 0, .slice none 0 0] 44), (B0 + 1, .cells #[.int .i64 (ww : Int), .int .i64 (hh : Int), pv'] 44)]) ∧ Hid ((w3.setCell ⟨B0 + 1, 2, none⟩ v').ownsRow (B0 + 2) 3 1 pv' (k + 1) (ints (paintedR ms ww S ink paper (k + 1)))) ∧ Hid (B0 + 2 ≤ (w3.setCell ⟨B0 + 1, 2, none⟩ v').heap.size)) := by
        intro wn hEn col hcol w3 v' ho hg
        have hEa : Ext wr (wn.alloc (.cells #[.int .i64 col] 3)) := hEn.alloc _
        have hne : ∀ j, pv.ownBlock = some j → B0 + 2 ≤ j := fun j hj => (hO.out.lt j hj).1
        have hA3 := At.grown hg (At.ext hEa hA.out) (fun j hj h9 => by
          have := hne j h9
          simp at hj
          omega)
        have hE3 := (hE.trans hEa).grown hg (fun j hj => by have := hne j hj; have := HB0.out; omega)
        refine ⟨v', hE3.setCell (p := ⟨B0 + 1, 2, none⟩) (by show w.heap.size ≤ B0 + 1; have := HB0.out; omega) _, Lib.hid ⟨(set_at _ _ _ _ B0 (by omega)).trans (At.at hA3 0 rfl), (st_one (At.at hA3 1 rfl) 2 v').1, trivial⟩, Lib.hid ?_, Lib.hid ?_⟩
        · rw [HS.out, hcol, show ints (paintedR ms ww S ink paper k ++ [col]) = ints (paintedR ms ww S ink paper k) ++ [.int .i64 col] by simp [ints]]
          exact own_set ho (by omega)
        · exact Nat.le_trans (Nat.le_trans hZ.out hEa.size) (Nat.le_trans hg.size (gb_set _ _ _ _).size)
      have HKey := Lib.hid key
      have hple := paintedR_length ms ww S ink paper k
      clear key
      by_cases h1 : y = 1
      · subst h1
        go_wp2
        go_quiet (fail)
        go_wp2_with (at_builtin; refine wpList_append_sl rfl _ _ 42 rfl (B0 + 2) 3 i0 (.int .i64 0) 1 8 Tryd.underlying42 hi hz0 hz1 hz2 rfl (by omega) pv k (ints (paintedR ms ww S ink paper k)) rfl (owns_ext hO.out (((Ext.refl wr).drewN nq).alloc _)) _ 1 [.int .i64 ink] rfl (SlAt.of_owns (owns_lit (wr.drewN nq) [.int .i64 ink] 3 1 1 0 (Nat.zero_le _) (by unfold maxLen; omega) rfl)) (ints_oneCell' [ink]) (by unfold maxLen; omega) (by omega) (Nat.le_trans hZ.out (((Ext.refl wr).drewN nq).alloc _).size) ?_; intro v' w3 ho hg; obtain ⟨-, vo, vc, rfl, -⟩ := SlAt.of_owns ho; have c2x : w3.heap[B0 + 1]? = some (.cells #[.int .i64 (ww : Int), .int .i64 (hh : Int), pv] 44) := (by
          have h9 := At.grown hg (At.ext (((Ext.refl wr).drewN nq).alloc (.cells #[.int .i64 ink] 3)) hA.out) (fun j hj h9 => by
            have := (hO.out.lt j h9).1
            simp at hj
            omega)
          exact At.at h9 1 rfl); obtain ⟨⟨m0, m1, m2⟩, n0', n1', n2'⟩ := run_3 c2x)
        obtain ⟨pv', p1, p2, p3, p4⟩ := HKey.out (wr.drewN nq) ((Ext.refl wr).drewN nq) ink (by simp) w3 _ ho hg
        exact ⟨⟨k + 1, pv', by omega, by go_num, p1, p2, p3, p4⟩, by simp [intOf]; omega⟩
      · have q9 : ((y : Int) == 1) = false := by rw [beq_eq_false_iff_ne]; omega
        have H1 := Lib.hid h1
        clear h1
        go_wp2
        go_quiet (fail)
        go_wp2_with (at_builtin; refine wpList_append_sl rfl _ _ 42 rfl (B0 + 2) 3 i0 (.int .i64 0) 1 8 Tryd.underlying42 hi hz0 hz1 hz2 rfl (by omega) pv k (ints (paintedR ms ww S ink paper k)) rfl (owns_ext hO.out (((Ext.refl wr).drewN nq).alloc _)) _ 1 [.int .i64 paper] rfl (SlAt.of_owns (owns_lit (wr.drewN nq) [.int .i64 paper] 3 1 1 0 (Nat.zero_le _) (by unfold maxLen; omega) rfl)) (ints_oneCell' [paper]) (by unfold maxLen; omega) (by omega) (Nat.le_trans hZ.out (((Ext.refl wr).drewN nq).alloc _).size) ?_; intro v' w3 ho hg; obtain ⟨-, vo, vc, rfl, -⟩ := SlAt.of_owns ho; have c2x : w3.heap[B0 + 1]? = some (.cells #[.int .i64 (ww : Int), .int .i64 (hh : Int), pv] 44) := (by
          have h9 := At.grown hg (At.ext (((Ext.refl wr).drewN nq).alloc (.cells #[.int .i64 paper] 3)) hA.out) (fun j hj h9 => by
            have := (hO.out.lt j h9).1
            simp at hj
            omega)
          exact At.at h9 1 rfl); obtain ⟨⟨m0, m1, m2⟩, n0', n1', n2'⟩ := run_3 c2x)
        obtain ⟨pv', p1, p2, p3, p4⟩ := HKey.out (wr.drewN nq) ((Ext.refl wr).drewN nq) paper (if_neg H1.out) w3 _ ho hg
        exact ⟨⟨k + 1, pv', by omega, by go_num, p1, p2, p3, p4⟩, by simp [intOf]; omega⟩
    · obtain rfl : k = N := by omega
      obtain ⟨-, ao, ac, rfl, -⟩ := SlAt.of_owns hO.out
      have hth : wr.there B0 0 3 := fun j hj => by
        rcases (show j = 0 ∨ j = 1 ∨ j = 2 by omega) with rfl | rfl | rfl
        · exact ⟨by rw [d0]; rfl, g0⟩
        · exact ⟨by rw [d1]; rfl, g1⟩
        · exact ⟨by rw [d2]; rfl, g2⟩
      have hrg := World.rangeAt_setCells_same wr B0 0 [.int .i64 (ww : Int), .int .i64 (hh : Int), .slice ao k ac] hth
      simp only [World.setCells, Nat.reduceAdd] at hrg
      have HRG := Lib.hid hrg
      have HNE := Lib.hid (show ∀ j, (Value.slice ao k ac).ownBlock = some j → B0 + 2 ≤ j from fun j hj => (hO.out.lt j hj).1)
      clear hth hrg hkN
      go_wp2
      (try simp only [Exit.inBlock, Exit.then])
      refine bodyPost_ret (v := .agg [.int .i64 (ww : Int), .int .i64 (hh : Int), .slice ao k ac].toArray) ?_ rfl ⟨_, rfl, ?_, ?_⟩
      · exact results_cell_mid rfl _ _ B0 _ _ rfl HRG.out Tryd.underlying44 rfl info_img3
      · have := HB0.out
        exact owns_base (own_set (own_set (own_set hO.out (by omega)) (by omega)) (by omega)) (by omega)
      · have := HB0.out
        iterate 3 refine Ext.setCell ?_ (by show w.heap.size ≤ B0; omega) _
        exact hE
end Go.Proofs.YtlnofbdhamingaaDoor

/- The modules of a mark, one after another: plain. -/
namespace Go.Proofs.YtlnofbdhamingaaDoor
open Go.RowKit Go.Sort

theorem data_atD : ∀ t, t < 60 → isData (atD t) = true ∧ tOf (atD t) = t := by decide
theorem atD_tOf : ∀ i, i < 64 → isData i = true → atD (tOf i) = i := by decide
theorem dataK_atD : dataK 64 = (List.range 60).map fun t => ((atD t : Nat) : Int) := by decide
/-- the modules with the first t symbols' bits -/
def drawE (w : List Nat) (t i : Nat) : Nat := if isData i = true then (if tOf i < t then bitR w (tOf i) else 0) else (cornerR i).1
def drawK (w : List Nat) (t : Nat) : List Nat := (List.range 64).map (drawE w t)
theorem drawK_len (w : List Nat) (t : Nat) : (drawK w t).length = 64 := by simp [drawK]
theorem drawK_get {w : List Nat} {t i : Nat} (h : i < 64) : (drawK w t).getD i 0 = drawE w t i := by
  rw [List.getD_eq_getElem?_getD, drawK, List.getElem?_map, List.getElem?_range h]; rfl
theorem drawK_zero (w : List Nat) : (((List.replicate 64 0).set 0 1).set 56 1).set 63 1 = drawK w 0 := by
  have h : drawK w 0 = (List.range 64).map fun i => if isData i = true then 0 else (cornerR i).1 := by
    unfold drawK
    refine List.map_congr_left fun i _ => ?_
    unfold drawE
    rw [if_neg (Nat.not_lt_zero _)]
  rw [h]
  decide
theorem drawK_set {w : List Nat} {t : Nat} (h : t < 60) : (drawK w t).set (atD t) (bitR w t) = drawK w (t + 1) := by
  obtain ⟨h1, h2⟩ := data_atD t h
  have ha := atD_lt h
  refine List.ext_getElem? fun i => ?_
  rcases Nat.lt_or_ge i 64 with hi | hi
  · by_cases e : atD t = i
    · subst e
      rw [List.getElem?_set_self (by rw [drawK_len]; exact hi)]
      unfold drawK
      rw [List.getElem?_map, List.getElem?_range hi, Option.map_some]
      unfold drawE
      rw [if_pos h1, h2, if_pos (Nat.lt_succ_self t)]
    · rw [List.getElem?_set_ne e]
      unfold drawK
      rw [List.getElem?_map, List.getElem?_map, List.getElem?_range hi, Option.map_some, Option.map_some]
      congr 1
      unfold drawE
      by_cases hd : isData i = true
      · rw [if_pos hd, if_pos hd]
        have hne : tOf i ≠ t := fun h9 => e (by rw [← h9]; exact atD_tOf i hi hd)
        by_cases h3 : tOf i < t
        · rw [if_pos h3, if_pos (by omega)]
        · rw [if_neg h3, if_neg (by omega)]
      · rw [if_neg hd, if_neg hd]
  · rw [List.getElem?_eq_none (by rw [List.length_set, drawK_len]; exact hi), List.getElem?_eq_none (by rw [drawK_len]; exact hi)]
theorem drawK_full (w : List Nat) : drawK w 60 = markedR w 64 := by
  unfold drawK markedR
  refine List.map_congr_left fun i hi => ?_
  have hi := List.mem_range.1 hi
  unfold drawE modR
  by_cases hd : isData i = true
  · rw [if_pos hd, if_pos hd, if_pos (tOf_lt i hi hd)]
  · rw [if_neg hd, if_neg hd]
/-- what is drawn -/
def drawOk (l : List Nat) (s ink paper : Int) : Prop := isMessage l = true ∧ ColOk s ink paper
instance (l : List Nat) (s ink paper : Int) : Decidable (drawOk l s ink paper) := by unfold drawOk; infer_instance
def drawI (l : List Nat) (s ink paper : Int) : Img × Int :=
  if drawOk l s ink paper then (⟨((8 * s.toNat : Nat) : Int), ((8 * s.toNat : Nat) : Int), paintedR (markedR (encR l) 64) (8 * s.toNat) s.toNat ink paper (8 * s.toNat * (8 * s.toNat))⟩, 0) else (⟨0, 0, []⟩, 2)
theorem drawI_yes {l : List Nat} {S : Nat} {s ink paper : Int} (h : drawOk l s ink paper) (hs : s = (S : Int)) : drawI l s ink paper = (⟨((8 * S : Nat) : Int), ((8 * S : Nat) : Int), paintedR (markedR (encR l) 64) (8 * S) S ink paper (8 * S * (8 * S))⟩, 0) := by
  subst hs
  exact if_pos h
theorem drawI_no {l : List Nat} {s ink paper : Int} (h : ¬ drawOk l s ink paper) : drawI l s ink paper = (⟨0, 0, []⟩, 2) := if_neg h
def ImgErr (r : Img × Int) (w : World) (e : Ending) (w' : World) : Prop := ∃ v', e = .returned (.tuple #[imgVal r.1 v', .int .i64 r.2]) ∧ IntsAt w' v' r.1.pix ∧ Ext w w'
end Go.Proofs.YtlnofbdhamingaaDoor

/- The image of a mark: the program's walk. -/
namespace Go.Proofs.YtlnofbdhamingaaDoor
open Go.RowKit Go.Sort

set_option maxRecDepth 100000 in
set_option maxHeartbeats 8000000 in
theorem c_Draw (v : Value) (l : List Nat) (s ink paper : Int) (w : World) (hT : Tabs w) (hv : BytesAt w v l) (hl : l.length ≤ maxLen) :
    Calls Tryd.prog 34 #[v, .int .i64 s, .int .i64 ink, .int .i64 paper] w (ImgErr (drawI l s ink paper) w) := by
  obtain ⟨i0, hi, hz0, hz1, hz2⟩ := info_parts3 info_byte
  have HT := Lib.hid hT
  have HV := Lib.hid hv
  have K1 := Lib.hid (fun w' (h : Ext w w') => c_message v l w' (hv.ext h) hl)
  have K2 := Lib.hid (fun w' => c_colours s ink paper w')
  have HN := Lib.hid (fun h => drawI_no (l := l) (s := s) (ink := ink) (paper := paper) h)
  have HY := Lib.hid (fun (S : Nat) h hs => drawI_yes (l := l) (s := s) (ink := ink) (paper := paper) (S := S) h hs)
  unfold drawOk at HN HY
  obtain ⟨-, ao, cap, rfl, -⟩ := hv
  obtain ⟨m, hm⟩ : ∃ b, isMessage l = b := ⟨_, rfl⟩
  rw [hm] at K1
  simp only [hm] at HN HY
  have HM := Lib.hid hm
  clear hT hm
  cases m
  case false =>
    have HI := Lib.hid (HN.out (fun h => by have := h.1; cases this))
    go_enter Tryd.func34, Tryd.ntmps34
    go_wp2_with (go_at_call 57; (with_reducible refine (K1.out _ ((Ext.refl w).alloc _)).mono ?_); rintro E w1 ⟨rfl, h1⟩; have hb := h1.blk (heap_alloc_new w _); obtain ⟨⟨c0, c1, c2⟩, f0, f1, f2⟩ := run_3 hb; have zb := World.block_lt_of_cell? _ _ c0; simp only at zb)
    have st := store_3 (v0 := .int .i64 0) (v1 := .int .i64 0) (v2 := .slice none 0 0) hb
    refine bodyPost_ret (results_row2 rfl _ _ _ _ _ (0, 0) _ rfl st.1 Tryd.underlying44 rfl (by kernel_rfl)) rfl ?_
    exact ⟨_, by rw [HI.out]; rfl, by rw [HI.out]; exact SlAt.nil _ 1, st.2.2 w (Nat.le_refl _) (((Ext.refl w).alloc _).trans h1)⟩
  by_cases hc : ColOk s ink paper
  case neg =>
    have HI := Lib.hid (HN.out (fun h => hc h.2))
    rw [decide_eq_false hc] at K2
    clear hc
    go_enter Tryd.func34, Tryd.ntmps34
    go_wp2_with (first
      | (go_at_call 57; (with_reducible refine (K1.out _ ((Ext.refl w).alloc _)).mono ?_); rintro E w1 ⟨rfl, h1⟩)
      | (go_at_call 76; (with_reducible refine (K2.out _).mono ?_); rintro E w2 ⟨rfl, h2⟩; have hb := (h1.trans h2).blk (heap_alloc_new w _); obtain ⟨⟨c0, c1, c2⟩, f0, f1, f2⟩ := run_3 hb; have zb := World.block_lt_of_cell? _ _ c0; simp only at zb))
    have st := store_3 (v0 := .int .i64 0) (v1 := .int .i64 0) (v2 := .slice none 0 0) hb
    refine bodyPost_ret (results_row2 rfl _ _ _ _ _ (0, 0) _ rfl st.1 Tryd.underlying44 rfl (by kernel_rfl)) rfl ?_
    exact ⟨_, by rw [HI.out]; rfl, by rw [HI.out]; exact SlAt.nil _ 1, st.2.2 w (Nat.le_refl _) ((((Ext.refl w).alloc _).trans h1).trans h2)⟩
  obtain ⟨S, rfl⟩ := Int.eq_ofNat_of_zero_le (show 0 ≤ s by have := hc.1; omega)
  have hS : 1 ≤ S ∧ S ≤ 2 := by have := hc.1; omega
  have HI := Lib.hid (HY.out S ⟨rfl, hc⟩ rfl)
  rw [decide_eq_true hc] at K2
  have hms := message_syms HM.out
  have K3 := Lib.hid (fun w' (h : Ext w w') => c_encode _ l w' (HT.out.ext h) (HV.out.ext h) (by have := hms.2; omega) hms.1)
  have K4 := Lib.hid (fun w' => c_data w')
  have HEL := Lib.hid (encR_length l)
  have HES := Lib.hid (show ∀ i, i < 15 → (encR l).getD i 0 < 16 from fun i hi => by
    have e : (encR l).getD i 0 = gval l (powN i) := by simp [encR, List.getD_eq_getElem?_getD, List.getElem?_map, List.getElem?_range hi]
    rw [e]
    exact gval_lt hms.1 (pow_lt hi))
  obtain ⟨wd, hwd⟩ : ∃ x, encR l = x := ⟨_, rfl⟩
  rw [hwd] at HI K3 HEL HES
  clear hc hms hwd HN HY
  unfold OwnBytes at K3
  go_enter Tryd.func34, Tryd.ntmps34
  go_wp2_with (first
      | (go_at_call 57; (with_reducible refine (K1.out _ ((Ext.refl w).alloc _)).mono ?_); rintro E w1 ⟨rfl, h1⟩)
      | (go_at_call 76; (with_reducible refine (K2.out _).mono ?_); rintro E w2 ⟨rfl, h2⟩; have hA2 := Lib.hid (show At w2 [(w.heap.size, .cells #[.int .i64 0, .int .i64 0, .slice none 0 0] 44)] from ⟨(h1.trans h2).blk (heap_alloc_new w _), trivial⟩); have hE2 : Ext w w2 := (((Ext.refl w).alloc _).trans h1).trans h2)
      | (at_make; refine wpList_make_full _ rfl _ _ 22 rfl w2.heap.size 5 i0 (.int .u8 0) 1 Tryd.underlying22 hi hz0 hz1 .i64 .i64 _ _ 64 rfl rfl rfl rfl (by rw [hz2]; omega) (by unfold maxLen; omega) (Nat.le_refl _) ?_; intro w3 ho3 hg3; rw [made_zero (List.replicate 64 0) 64, rowK_zero, show List.replicate 64 (Value.int .u8 0) = bytesL (List.replicate 64 0) by simp [bytesL]] at ho3; have h3 : Ext w2 w3 := ext_of_grownNone hg3; have HO3 := Lib.hid ho3; clear ho3 hg3; have m0 : w3.cell? ⟨w2.heap.size, 0, none⟩ = some (.int .u8 0) := (by rw [HO3.out.cellAt 0 (by omega)]; rfl); have m1 : w3.cell? ⟨w2.heap.size, 56, none⟩ = some (.int .u8 0) := (by rw [HO3.out.cellAt 56 (by omega)]; rfl); have m2 : w3.cell? ⟨w2.heap.size, 63, none⟩ = some (.int .u8 0) := (by rw [HO3.out.cellAt 63 (by omega)]; rfl); have n0 := HO3.out.frozenAt 0; have n1 := HO3.out.frozenAt 56; have n2 := HO3.out.frozenAt 63))
  obtain ⟨G, hG⟩ : ∃ G, w2.heap.size = G := ⟨_, rfl⟩
  have hE3 := hE2.trans h3
  have hA3 := At.ext h3 hA2.out
  rw [hG] at HO3 m0 m1 m2 n0 n1 n2 ⊢
  obtain ⟨W4, hW4⟩ : ∃ W4, ((w3.setCell ⟨G, 0, none⟩ (.int .u8 1)).setCell ⟨G, 56, none⟩ (.int .u8 1)).setCell ⟨G, 63, none⟩ (.int .u8 1) = W4 := ⟨_, rfl⟩
  have hgw : w.heap.size < G := by rw [← hG]; exact At.lt hA2.out 0 rfl
  have hG4 : w3.grownBy W4 (some G) := by rw [← hW4]; exact gb_trans (gb_trans (gb_set _ _ _ _) (gb_set _ _ _ _)) (gb_set _ _ _ _)
  have hM4 : W4.ownsRow G 5 1 (.slice (some ⟨G, 0, none⟩) 64 64) 64 (bytesL (drawK wd 0)) := by
    have h := (((HO3.out.stored 0 (.int .u8 ((1 : Nat) : Int))).1.stored 56 (.int .u8 ((1 : Nat) : Int))).1.stored 63 (.int .u8 ((1 : Nat) : Int))).1
    rw [bytesL_set, bytesL_set, bytesL_set, drawK_zero] at h
    rw [← hW4]
    exact h
  have HE4 := Lib.hid (hE3.gb hG4 (by omega))
  have HA4 := Lib.hid (At.grown hG4 hA3 (fun k hk h9 => by simp at hk; have := Option.some.inj h9; omega))
  have HM4 := Lib.hid hM4
  have HGW := Lib.hid hgw
  have hGz : G < W4.heap.size := (hM4.lt G rfl).2
  rw [hW4]
  clear hM4 hG4 hW4 hA3 hE3 HO3 m0 m1 m2 n0 n1 n2 h3 hA2 hE2 h1 h2 hG K1 K2
  go_wp2_with (first
      | (go_at_call 58; (with_reducible refine (K3.out _ HE4.out).mono ?_); rintro E w5 ⟨v5, rfl, h5, h5'⟩)
      | (go_at_call 71; (with_reducible refine (K4.out _).mono ?_); rintro E w6 ⟨v6, rfl, h6, h6'⟩; obtain ⟨-, do_, dc, rfl, -⟩ := SlAt.of_owns h6))
  have hd60 := dataK_full
  rw [hd60] at h6 ⊢
  have HV5 := Lib.hid (show BytesAt w6 v5 wd from (show BytesAt w5 v5 wd from SlAt.of_owns h5).ext h6')
  have HN5 := Lib.hid (show ∀ k, v5.ownBlock = some k → some k ≠ some G from fun k hk h9 => by have := (h5.lt k hk).1; have := Option.some.inj h9; omega)
  have HV6 := Lib.hid (show IntsAt w6 (.slice do_ 60 dc) (dataK 64) from by unfold IntsAt; rw [hd60]; exact SlAt.of_owns h6)
  have HN6 := Lib.hid (show ∀ k, (Value.slice do_ 60 dc).ownBlock = some k → some k ≠ some G from fun k hk h9 => by have := (h6.lt k hk).1; have := Option.some.inj h9; have := h5'.size; omega)
  have hE56 := h5'.trans h6'
  have HE6 := Lib.hid (HE4.out.trans hE56)
  have HA6 := Lib.hid (At.ext hE56 HA4.out)
  have HM6 := Lib.hid (owns_ext HM4.out hE56)
  obtain ⟨vo, vc, hv5⟩ : ∃ vo vc, v5 = .slice vo 15 vc := by
    obtain ⟨-, vo, vc, h, -⟩ := HV5.out
    exact ⟨vo, vc, by rw [h, HEL.out]⟩
  subst hv5
  clear h5 h6 h5' h6' hE56 HE4 HA4 HM4 hd60 hGz
  go_loopw [36] (fun ii wi => ∃ t : Nat, t ≤ 60 ∧ ii = .int .i64 (t : Int) ∧ Hid (w6.grownBy wi (some G)) ∧ Hid (wi.ownsRow G 5 1 (.slice (some ⟨G, 0, none⟩) 64 64) 64 (bytesL (drawK wd t)))) (fun ii _ => 60 - (intOf ii).toNat)
  case atStart => exact ⟨0, Nat.zero_le _, rfl, Lib.hid (World.grownBy.refl _ _), HM6⟩
  case round =>
    clear HM6
    obtain ⟨t, ht, rfl, hB, hM⟩ := hrel
    by_cases ht60 : t < 60
    · have hda := atD_lt ht60
      have HS := Lib.hid (drawK_set (w := wd) ht60)
      obtain ⟨db, df, rfl, c0⟩ : ∃ b off, do_ = some ⟨b, off, none⟩ ∧ wr.cell? ⟨b, off + t, none⟩ = some (.int .i64 ((atD t : Nat) : Int)) := by
        have h := (show IntsAt wr (.slice do_ 60 dc) (dataK 64) from SlAt.gb HV6.out hB.out HN6.out)
        obtain ⟨ao2, cap2, he9, -, hc9⟩ := h.form
        injection he9 with e1 _ e2
        subst e1
        obtain ⟨b, off, hb, hc⟩ := hc9 t (by rw [dataK_full]; exact ht60)
        refine ⟨b, off, hb, ?_⟩
        rw [hc, dataK_atD]
        simp [List.getD_eq_getElem?_getD, List.getElem?_range ht60]
      have ha : t / 4 < 15 := by omega
      obtain ⟨wb, wf, rfl, c1⟩ : ∃ b off, vo = some ⟨b, off, none⟩ ∧ wr.cell? ⟨b, off + t / 4, none⟩ = some (.int .u8 ((wd.getD (t / 4) 0 : Nat) : Int)) := by
        obtain ⟨b, off, c9, he9, h9⟩ := (HV5.out.gb hB.out HN5.out).some HEL.out (by omega)
        injection he9 with e1 _ _
        exact ⟨b, off, e1, h9 _ ha⟩
      have m0 : ∃ x, wr.cell? ⟨G, atD t, none⟩ = some (.int .u8 x) := ⟨_, by rw [hM.out.cellAt (atD t) (by omega), bytesL_get (by rw [drawK_len]; exact hda)]⟩
      obtain ⟨x0, m0⟩ := m0
      have m1 := hM.out.frozenAt (atD t)
      have hx := HES.out (t / 4) ha
      unfold bitR at HS
      obtain ⟨x, hxx⟩ : ∃ x, wd.getD (t / 4) 0 = x := ⟨_, rfl⟩
      rw [hxx] at c1 hx HS
      have t2 : (t : Int).tdiv 4 = ((t / 4 : Nat) : Int) := by rw [Int.tdiv_eq_ediv_of_nonneg (by omega)]; rfl
      have t3 : (t : Int).tmod 4 = ((t % 4 : Nat) : Int) := by rw [Int.tmod_eq_emod_of_nonneg (by omega)]; rfl
      have hr := Nat.mod_lt t (show 0 < 4 by omega)
      obtain ⟨a, haa⟩ : ∃ a, t / 4 = a := ⟨_, rfl⟩
      obtain ⟨r, hrr⟩ : ∃ r, t % 4 = r := ⟨_, rfl⟩
      rw [haa] at t2 ha c1
      rw [hrr] at t3 hr HS
      have hbit := bit_at hx hr
      obtain ⟨y, hy⟩ : ∃ y, x / 2 ^ (3 - r) % 2 = y := ⟨_, rfl⟩
      rw [hy] at hbit HS
      obtain ⟨d, hd⟩ : ∃ d, atD t = d := ⟨_, rfl⟩
      rw [hd] at hda c0 m0 m1 HS
      have HX := Lib.hid (And.intro hxx (And.intro haa (And.intro hrr (And.intro hy hd))))
      clear hxx haa hrr hy hd
      go_wp2
      refine ⟨⟨t + 1, by omega, by go_num, Lib.hid (gb_trans hB.out (gb_set _ _ _ _)), Lib.hid ?_⟩, by simp [intOf]; omega⟩
      have h := (hM.out.stored d (.int .u8 (y : Int))).1
      rw [bytesL_set, HS.out] at h
      exact h
    · obtain rfl : t = 60 := by omega
      have hMM := hM.out
      rw [drawK_full] at hMM
      have hEr := HE6.out.gb hB.out (by have := HGW.out; omega)
      have HAr := Lib.hid (At.grown hB.out HA6.out (fun k hk h9 => by simp at hk; have := Option.some.inj h9; have := HGW.out; omega))
      have HBM := Lib.hid (show BytesAt wr (.slice (some ⟨G, 0, none⟩) 64 64) (markedR wd 64) by
        unfold BytesAt
        rw [markedR_length]
        exact SlAt.of_owns hMM)
      have KP := Lib.hid (c_paint 8 8 S (8 * S) (8 * S) (8 * S * (8 * S)) ink paper (markedR wd 64) _ wr HBM.out (by rw [markedR_length]) hS ⟨by omega, by omega⟩ ⟨by omega, by omega⟩ rfl rfl rfl)
      have KP2 : Hid (Calls Tryd.prog 77 #[.slice (some ⟨G, 0, none⟩) 64 64, .int .i64 8, .int .i64 (S : Int), .int .i64 ink, .int .i64 paper] wr _) := KP
      obtain ⟨N8, hN8⟩ : ∃ n, 8 * S = n := ⟨_, rfl⟩
      rw [hN8] at KP2 HI
      obtain ⟨np, hnp⟩ : ∃ n, N8 * N8 = n := ⟨_, rfl⟩
      rw [hnp] at KP2 HI
      have HPL := Lib.hid (paintedR_length (markedR wd 64) N8 S ink paper np)
      obtain ⟨px, hpx⟩ : ∃ p, paintedR (markedR wd 64) N8 S ink paper np = p := ⟨_, rfl⟩
      rw [hpx] at KP2 HI HPL
      unfold imgVal at KP2
      dsimp only at KP2
      clear hM hMM hB hpx hN8 KP hnp
      go_wp2_with (go_at_call 77; (with_reducible refine KP2.out.mono ?_); rintro E w8 ⟨v8, rfl, h8, h9⟩; obtain ⟨-, po, pc, rfl, -⟩ := SlAt.of_owns h8; have hb := At.at (At.ext h9 HAr.out) 0 rfl; obtain ⟨⟨c0, c1, c2⟩, f0, f1, f2⟩ := run_3 hb; have zb := World.block_lt_of_cell? _ _ c0; simp only at zb)
      have st := store_3 (v0 := .int .i64 (N8 : Int)) (v1 := .int .i64 (N8 : Int)) (v2 := .slice po np pc) hb
      refine bodyPost_ret (results_row2 rfl _ _ _ _ _ (0, 0) _ rfl st.1 Tryd.underlying44 rfl (by kernel_rfl)) rfl ?_
      refine ⟨.slice po np pc, by rw [HI.out]; rfl, ?_, st.2.2 w (Nat.le_refl _) (hEr.trans h9)⟩
      rw [HI.out]
      have hwz : w.heap.size < wr.heap.size := At.lt HAr.out 0 rfl
      have h := own_set (own_set (own_set h8 hwz (o := 0) (u := .int .i64 (N8 : Int))) hwz (o := 1) (u := .int .i64 (N8 : Int))) hwz (o := 2) (u := .slice po np pc)
      show IntsAt _ _ px
      unfold IntsAt
      rw [HPL.out]
      exact SlAt.of_owns h
end Go.Proofs.YtlnofbdhamingaaDoor
