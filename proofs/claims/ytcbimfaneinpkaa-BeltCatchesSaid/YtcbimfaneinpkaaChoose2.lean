/- The closure in Match: what it puts into 'out'. -/
import Derived.Test.YtcbimfaneinpkaaChoose
set_option linter.unusedVariables false
set_option linter.unusedSimpArgs false
namespace Go.Proofs.Ytcbimfaneinpkaa
open Go.RowKit Go.Sort

/-- What the first rounds give: for the indices below 'i'. -/
def part (b : Belt) (fi se : List Int) (k : Nat) (x : List Nat) (i : Nat) : List (List Nat) :=
  (List.range' (from_ x) (i - from_ x)).flatMap fun i => if fits b fi se x i x.length then choose b fi se k (x ++ [i]) else []
theorem part_zero (b : Belt) (fi se : List Int) (k : Nat) (x : List Nat) : part b fi se k x (from_ x) = [] := by simp [part]
theorem part_succ (b : Belt) (fi se : List Int) (k : Nat) (x : List Nat) (i : Nat) (h : from_ x ≤ i) :
    part b fi se k x (i + 1) = part b fi se k x i ++ (if fits b fi se x i x.length then choose b fi se k (x ++ [i]) else []) := by
  unfold part
  have : i + 1 - from_ x = (i - from_ x) + 1 := by omega
  rw [this, List.range'_concat, List.flatMap_append]
  have : from_ x + 1 * (i - from_ x) = i := by omega
  rw [show [from_ x + 1 * (i - from_ x)] = [i] from by rw [this]]
  simp
theorem part_last (b : Belt) (fi se : List Int) (k : Nat) (x : List Nat) : part b fi se k x fi.length = choose b fi se (k + 1) x := rfl
theorem part_mono (b : Belt) (fi se : List Int) (k : Nat) (x : List Nat) (i : Nat) (h : from_ x ≤ i) : ∀ j, (part b fi se k x i).length ≤ (part b fi se k x (i + j)).length := by
  intro j
  induction j with
  | zero => exact Nat.le_refl _
  | succ j ih =>
    rw [← Nat.add_assoc, part_succ b fi se k x (i + j) (by omega), List.length_append]
    omega
theorem part_le (b : Belt) (fi se : List Int) (k : Nat) (x : List Nat) (i : Nat) (h : from_ x ≤ i) (hi : i ≤ fi.length) : (part b fi se k x i).length ≤ (choose b fi se (k + 1) x).length := by
  have := part_mono b fi se k x i h (fi.length - i)
  rw [show i + (fi.length - i) = fi.length from by omega, part_last] at this
  exact this

theorem Out.ext {D bo : Nat} {w w' : World} {outs : List (List Nat)} (h : Out D bo w outs) (hb : Ext w w') : Out D bo w' outs := by
  obtain ⟨vo, vs, h1, h2, h3⟩ := h
  refine ⟨vo, vs, ?_, owns_ext h2 hb, h3.ext hb⟩
  have hlt : bo < w.heap.size := by
    rcases Nat.lt_or_ge bo w.heap.size with h | h
    · exact h
    · simp [Array.getElem?_eq_none h] at h1
  rw [hb.block bo hlt]
  exact h1
theorem Out.cells {D bo : Nat} {w : World} {outs : List (List Nat)} (h : Out D bo w outs) : ∃ cur fr, w.heap[bo]? = some (.cells cur 38 fr) := by
  obtain ⟨vo, vs, h1, h2, h3⟩ := h
  exact ⟨_, _, h1⟩

/-- 'choose(append(slices.Clone(x), i))': what the operations ahead of the call promise. -/
def gs58 (vc vx : Value) (N : Nat) (xs : List Nat) (i : Nat) : List (Value → World → Prop) :=
  [fun v _ => v = vc, fun v _ => v = vx, fun v w => w.ownsRow N 3 1 v xs.length (ints (idx xs)), fun v _ => v = .int .i64 i, fun v w => SlAt w 1 v 1 [.int .i64 i],
    fun v w => w.ownsRow N 3 1 v (xs.length + 1) (ints (idx (xs ++ [i])))]
theorem gs58_stab (vc vx : Value) (N : Nat) (xs : List Nat) (i : Nat) : ∀ g ∈ gs58 vc vx N xs i, ∀ v w w', g v w → Ext w w' → g v w' := by
  intro g hg v w w' h hb
  simp only [gs58, List.mem_cons, List.not_mem_nil, or_false] at hg
  rcases hg with rfl | rfl | rfl | rfl | rfl | rfl
  · exact h
  · exact h
  · exact owns_ext h hb
  · exact h
  · exact SlAt.ext h hb
  · exact owns_ext h hb

theorem fits_succ (b : Belt) (fi se : List Int) (x : List Nat) (i m : Nat) : fits b fi se x i (m + 1) ↔ fits b fi se x i m ∧ agree b (fi.getD i 0 - fi.getD (x.getD m 0) 0) (se.getD x.length 0 - se.getD m 0) := by
  unfold fits
  constructor
  · intro h
    exact ⟨fun k hk => h k (by omega), h m (by omega)⟩
  · rintro ⟨h1, h2⟩ k hk
    rcases Nat.lt_or_ge k m with h | h
    · exact h1 k h
    · obtain rfl : k = m := by omega
      exact h2

set_option maxRecDepth 100000 in
set_option maxHeartbeats 4000000 in
theorem w58 (b : Belt) (hok : b.ok) (fi se : List Int) (v1 v2 : Value) (B bs bo bf bp bc D : Nat) (i1 : Incr fi) (i2 : Incr se) (l1 : fi.length ≤ 10) (l2 : se.length ≤ 10) :
    ∀ (k : Nat) (xs : List Nat) (vx : Value) (w : World) (outs : List (List Nat)), St b fi se v1 v2 B bs bo bf bp bc D w → IntRow w vx (idx xs) → Out D bo w outs →
      outs.length + (choose b fi se k xs).length ≤ 10000000000 → xs.length + k = se.length → (∀ m, m < xs.length → xs.getD m 0 < fi.length) →
      Calls Try.prog 58 #[vx, .pointer (some ⟨bs, 0, none⟩), .pointer (some ⟨bo, 0, none⟩), .pointer (some ⟨bf, 0, none⟩), .pointer (some ⟨bp, 0, none⟩), .pointer (some ⟨bc, 0, none⟩)] w (Chosen D bo (outs ++ choose b fi se k xs) w) := by
  intro k
  induction k with
  | zero =>
    intro xs vx w outs hS hx hO hl hk hlt
    exact w58_leaf b fi se v1 v2 B bs bo bf bp bc D xs vx w outs hS hx hO (by simp [choose] at hl; omega) (by omega) l2
  | succ k ih0 =>
    intro xs vx w outs hS hx hO hl hk hlt
    have ih := Lib.hid ih0
    clear ih0
    have hxx := hx.at_
    obtain ⟨qx, ax, cx, rfl, -⟩ := hxx
    obtain ⟨q1, a1, c1, rfl, -⟩ := hS.in1.1
    obtain ⟨q2, a2, c2, rfl, -⟩ := hS.in2.1
    rw [idx_length] at *
    have hne : ((xs.length : Int) == (se.length : Int)) = false := by simp; omega
    have hfrom : from_ xs ≤ fi.length := by
      unfold from_
      split
      · omega
      · have := hlt (xs.length - 1) (by omega)
        omega
    have hsec := hS.second
    have HF : Hid (from_ xs = from_ xs) := rfl
    have hstart : ∃ f : Nat, Hid (from_ xs = f) := ⟨_, rfl⟩
    obtain ⟨f, hf⟩ := hstart
    rw [hf.out] at hfrom
    have hf' : (xs.length = 0 ∧ f = 0) ∨ (0 < xs.length ∧ ∃ bx ox n : Nat, ax = some ⟨bx, ox, none⟩ ∧ w.cell? ⟨bx, ox + (xs.length - 1), none⟩ = some (.int .i64 n) ∧ f = n + 1 ∧ n < 1000000) := by
      have hfo := hf.out
      rcases hx.at_.cases with ⟨h0, -⟩ | ⟨h0, bx, ox, cx', hv, -, -, h3⟩
      · have h0' : xs.length = 0 := by have := congrArg List.length h0; rw [idx_length] at this; exact this
        refine .inl ⟨h0', ?_⟩
        rw [← hfo]
        simp [from_, h0']
      · rw [idx_length] at h0
        refine .inr ⟨h0, bx, ox, xs.getD (xs.length - 1) 0, ?_, ?_, ?_, ?_⟩
        · injection hv
        · have := h3 (xs.length - 1) (by rw [idx_length]; omega)
          rw [idx_get] at this
          exact this
        · rw [← hfo]
          simp [from_, show xs.length ≠ 0 by omega]
        · have := hlt (xs.length - 1) (by omega)
          omega
    have HS0 := Lib.hid hS
    have hOut0 := Lib.hid (hO.cells)
    have HO := Lib.hid hO
    have hX := Lib.hid hx
    clear hS hO hx
    have hS := HS0
    have hx := hX
    clear HS0 hX
    rcases hf' with ⟨hx0, rfl⟩ | ⟨hx0, bx, ox, n, rfl, hcn, rfl, hn⟩
    · have hgt : decide (0 < xs.length) = false := decide_eq_false (by omega)
      have hxz := Lib.hid hx0
      clear hx0
      go_enter Try.func58, Try.ntmps58
      go_wp2

      go_loopw [9] (fun v9 wr => Kp D bo w wr ∧ ∃ i : Nat, from_ xs ≤ i ∧ i ≤ fi.length ∧ v9 = .int .i64 i ∧ Hid (Out D bo wr (outs ++ part b fi se k xs i))) (fun v _ => fi.length - (intOf v).toNat)
      case atStart =>
        refine ⟨Kp.refl _ _ _, 0, by rw [hf.out]; exact Nat.le_refl _, hfrom, by go_num, ?_⟩
        have : part b fi se k xs (0) = [] := by rw [← hf.out]; exact part_zero _ _ _ _ _
        rw [this, List.append_nil]
        exact HO.out
      case round =>
        obtain ⟨hK, i, hi1, hi2, rfl, hOut⟩ := hrel
        have hSr := hS.out.kp hK
        have d1 := hSr.first
        by_cases hif : i < fi.length
        · rcases hSr.in1.1.cases with ⟨h0, -⟩ | ⟨f0, bfi, ofi, cf, hv, f1, f2, f3⟩
          · rw [h0] at hif
            simp at hif
          rcases hSr.in2.1.cases with ⟨h0, -⟩ | ⟨s0, bse, ose, cs, hv2, s1, s2, s3⟩
          · have hk' := hk
            rw [h0] at hk'
            simp at hk'
          injection hv with hv3 hv4 hv5
          subst hv3
          injection hv2 with hv6 hv7 hv8
          subst hv6
          clear hv4 hv5 hv7 hv8
          have hsec' := hSr.second
          obtain ⟨p0, p1, p2, p3, p4, p5⟩ := hSr.pace
          have F3 := Lib.hid f3
          have S3 := Lib.hid s3
          have hSr0 := Lib.hid hSr
          have hxr := Lib.hid ((hK.intRow hx.out hOut0.out).at_)
          clear f3 s3 hSr
          have hch := Lib.hid hSr0.out.choose
          go_wp2
          obtain ⟨wo, rfl⟩ : ∃ wo : World, wo = wr := ⟨_, rfl⟩
          go_loopw [10, 41] (fun v10 v41 wr => Ext wo wr ∧ ∃ (m : Nat) (fb : Bool), m ≤ xs.length ∧ v41 = .int .i64 m ∧ v10 = .bool fb ∧ Hid (fb = decide (fits b fi se xs i m))) (fun _ v _ => xs.length - (intOf v).toNat)
          case atStart => exact ⟨Ext.refl _, 0, true, Nat.zero_le _, rfl, rfl, by simp [fits, Hid]⟩
          case round =>
            obtain ⟨hE, m, fb, hm, rfl, rfl, hfb⟩ := hrel
            by_cases hml : m < xs.length
            · rcases hxr.out.cases with ⟨h0, -⟩ | ⟨h0, bxx, oxx, cxx, hv, x1, x2, x3⟩
              · have := congrArg List.length h0
                rw [idx_length] at this
                simp only [List.length_nil] at this
                omega
              injection hv with hv3 hv4 hv5
              first | subst hv3 | cases hv3
              clear hv4 hv5
              obtain ⟨n', p, e1, e2, e3, e4, e5, HN⟩ := one_of x3 F3.out hlt i1 hml
              obtain ⟨t, t1, HT⟩ := hid_cell (S3.out m (by omega))
              obtain ⟨r, r1, HR⟩ := hid_cell (S3.out xs.length (by omega))
              obtain ⟨q, g1, HQ⟩ := hid_cell (F3.out i hif)
              have hr := (i2 xs.length (by omega)).1
              have ht := (i2 m (by omega)).1
              have hq := (i1 i hif).1
              rw [HR.out] at hr
              rw [HT.out] at ht
              rw [HQ.out] at hq
              obtain ⟨hr1, hr2⟩ := hr
              obtain ⟨ht1, ht2⟩ := ht
              obtain ⟨hq1, hq2⟩ := hq
              replace e1 := hE.get e1
              replace e3 := hE.get e3
              replace t1 := hE.get t1
              replace r1 := hE.get r1
              replace g1 := hE.get g1
              have d1 := hE.get d1
              have hsec' := hE.get hsec'
              have p0 := hE.get p0
              have p1 := hE.get p1
              have p2 := hE.get p2
              have p3 := hE.get p3
              have p4 := hE.get p4
              have p5 := hE.get p5
              have z1 := World.block_lt_of_cell? _ _ e3
              have z2 := World.block_lt_of_cell? _ _ r1
              have z3 := World.block_lt_of_cell? _ _ d1
              have z4 := World.block_lt_of_cell? _ _ hsec'
              have z5 := World.block_lt_of_cell? _ _ p0
              clear x3
              have hfs := Lib.hid (fits_succ b fi se xs i m)
              cases fb
              · go_wp2_with fail
                refine wp_region_quiet_below (by kernel_rfl) (by kernel_rfl) ?_
                repeat (go_big_quiet_step (fail))
                refine wpQuiet_nil ?_
                intro _ hw'
                obtain ⟨⟨dq, osq⟩, hw''⟩ := hw'
                subst hw''
                have hE2 : Ext wo (grow (redrawn wr dq) osq) := hE.trans (Ext.grow _ _ _)
                go_wp2
                go_roundw
                case rel =>
                  refine ⟨hE2, m + 1, false, by omega, by go_num, rfl, (decide_eq_false fun h => ?_).symm⟩
                  have := (hfs.out.1 h).1
                  have h9 := hfb.out
                  simp [this] at h9
                case measure => simp [intOf]; omega
              · by_cases ca : agree b (q - p) (r - t)
                · go_wp2_with fail
                  refine wp_region_quiet_below (by kernel_rfl) (by kernel_rfl) ?_
                  repeat (go_big_quiet_step ((go_at_call 60; exact Calls.ext_of (w60 b hok (q - p) (r - t) (by omega) (by omega) (by omega) (by omega) _))))
                  refine wpQuiet_nil ?_
                  intro _ hw'
                  obtain ⟨⟨dq, osq⟩, hw''⟩ := hw'
                  subst hw''
                  have hE2 : Ext wo (grow (redrawn wr dq) osq) := hE.trans (Ext.grow _ _ _)
                  go_wp2
                  go_roundw
                  case rel =>
                    refine ⟨hE2, m + 1, true, by omega, by go_num, rfl, (decide_eq_true (hfs.out.2 ⟨?_, ?_⟩)).symm⟩
                    · have h9 := hfb.out
                      simpa using h9
                    · rw [HN.out.1, HN.out.2, HR.out, HT.out, HQ.out]
                      exact ca
                  case measure => simp [intOf]; omega
                · go_wp2_with fail
                  refine wp_region_quiet_below (by kernel_rfl) (by kernel_rfl) ?_
                  repeat (go_big_quiet_step ((go_at_call 60; exact Calls.ext_of (w60 b hok (q - p) (r - t) (by omega) (by omega) (by omega) (by omega) _))))
                  refine wpQuiet_nil ?_
                  intro _ hw'
                  obtain ⟨⟨dq, osq⟩, hw''⟩ := hw'
                  subst hw''
                  have hE2 : Ext wo (grow (redrawn wr dq) osq) := hE.trans (Ext.grow _ _ _)
                  go_wp2
                  go_roundw
                  case rel =>
                    refine ⟨hE2, m + 1, false, by omega, by go_num, rfl, (decide_eq_false fun h => ?_).symm⟩
                    have := (hfs.out.1 h).2
                    rw [HN.out.1, HN.out.2, HR.out, HT.out, HQ.out] at this
                    exact ca this
                  case measure => simp [intOf]; omega
            · obtain rfl : m = xs.length := by omega
              have hK2 : Kp D bo w wr := hK.trans (Kp.of_ext hE)
              have hps := part_succ b fi se k xs i hi1
              cases fb
              · have hnf : ¬ fits b fi se xs i xs.length := fun h => by have h9 := hfb.out; simp [h] at h9
                rw [if_neg hnf, List.append_nil] at hps
                have HP := Lib.hid hps
                clear hps
                go_wp2
                go_roundw
                case rel =>
                  refine ⟨hK2, i + 1, by omega, by omega, by go_num, ?_⟩
                  rw [HP.out]
                  exact hOut.out.ext hE
                case measure => simp [intOf]; omega
              · have hyf : fits b fi se xs i xs.length := by have h9 := hfb.out; simpa using h9
                rw [if_pos hyf] at hps
                have hle := part_le b fi se k xs (i + 1) (by omega) (by omega)
                rw [hps, List.length_append] at hle
                have HP := Lib.hid hps
                clear hps
                go_wp2_with fail
                have hst := RG.stab_of (gs58_stab (.func (.func 58) #[] #[.pointer (some ⟨bs, 0, none⟩), .pointer (some ⟨bo, 0, none⟩), .pointer (some ⟨bf, 0, none⟩), .pointer (some ⟨bp, 0, none⟩), .pointer (some ⟨bc, 0, none⟩)]) (.slice ax xs.length cx) wr.heap.size xs i)
                have hX2 := Lib.hid ((hK2.intRow hx.out hOut0.out))
                obtain ⟨i0, hi0, hz0, hz1, hz2⟩ := info_parts info3
                refine RG.wp_rg (gs58 (.func (.func 58) #[] #[.pointer (some ⟨bs, 0, none⟩), .pointer (some ⟨bo, 0, none⟩), .pointer (some ⟨bf, 0, none⟩), .pointer (some ⟨bp, 0, none⟩), .pointer (some ⟨bc, 0, none⟩)]) (.slice ax xs.length cx) wr.heap.size xs i)
                  (fun i => if i = 5 then [2, 4] else []) (by kernel_rfl) (by kernel_rfl) (by kernel_rfl) ?_ ?_
                · simp only [gs58, List.length_cons, List.length_nil, List.take_succ_cons, List.take_zero, RG.Steps, and_true, Nat.reduceAdd]
                  refine ⟨?_, ?_, ?_, ?_, ?_, ?_⟩
                  · refine RG.st_run rfl (fun a w hw hr => ⟨_, w, ?_, Ext.refl _, rfl⟩) hst
                    have e := RG.read_out (t := 5) hr (by kernel_rfl) (by kernel_rfl)
                    have e' : a.tmps[5]?.getD undef = .pointer (some ⟨_, 0, none⟩) := (Array.getD_eq_getD_getElem? ..).symm.trans e
                    have f0 := hw.get (hE.get hch.out)
                    clear hr hst e
                    simp [execOp, go_sem, e', f0]
                  · exact RG.st_move rfl rfl (by kernel_rfl) (fun _ _ => rfl) hst
                  · refine RG.st_call rfl 59 _ _ rfl Try.func59 (by kernel_rfl) rfl (fun a w1 hw hr => ?_) hst
                    have e1 := RG.read_in (t := 72) (j := 1) hr (by kernel_rfl) (by kernel_rfl)
                    have hargs : (#[Operand.tmp 72].map a.eval) = #[.slice ax xs.length cx] := by
                      simp only [List.map_toArray, List.map_cons, List.map_nil]
                      rw [show a.eval (.tmp 72) = _ from e1]
                    rw [hargs]
                    refine (w59 (idx xs) _ w1 (hX2.out.at_.ext hw) (by rw [idx_length]; omega)).mono ?_
                    rintro e w' ⟨v', rfl, q1, q2⟩
                    rw [idx_length] at q1
                    exact ⟨v', rfl, q2, owns_base q1 hw.size⟩
                  · exact RG.st_move rfl rfl (by kernel_rfl) (fun _ _ => rfl) hst
                  · refine RG.st_run rfl (fun a w hw hr => ⟨.slice (some ⟨w.heap.size, 0, none⟩) 1 1, w.alloc (.cells #[.int .i64 i] 3), ?_, (Ext.refl _).alloc _, SlAt.of_owns (owns_lit w [.int .i64 i] 3 1 1 0 (Nat.zero_le _) (by unfold maxLen; omega) rfl)⟩) hst
                    have e3 := RG.read_in (t := 74) (j := 3) hr (by kernel_rfl) (by kernel_rfl)
                    have e' : a.tmps[74]?.getD undef = .int .i64 i := (Array.getD_eq_getD_getElem? ..).symm.trans e3
                    clear hr hst e3
                    simp [execOp, go_sem, e']
                  · refine RG.st_wp rfl (fun a w Q hw hr => ?_)
                    have e1 := RG.read_in (t := 73) (j := 2) hr (by kernel_rfl) (by kernel_rfl)
                    have e3 := RG.read_in (t := 75) (j := 4) hr (by kernel_rfl) (by kernel_rfl)
                    refine wp_append_sl (.tmp 73) (.tmp 75) 37 rfl _ 3 i0 (.int .i64 0) 1 8 Try.underlying37 hi0 hz0 hz1 hz2 rfl (by omega) _ xs.length (ints (idx xs)) rfl e1 _ 1 [.int .i64 i] rfl e3 (ints_oneCell' [(i : Int)]) (by unfold maxLen; omega) (by omega) hw.size ?_
                    intro v' w' ho hg
                    have hb : Ext wr w' := hw.grown hg (fun k hk => (owns_block e1 k hk).1)
                    refine ⟨_, rfl, hb, fun j v n1 n2 n3 h => ?_, ?_⟩
                    · match j with
                      | 0 => exact h
                      | 1 => exact h
                      | 3 => exact h
                      | 2 => simp at n1
                      | 4 => simp at n1
                      | 5 => simp at n2
                      | n + 6 => trivial
                    · show w'.ownsRow _ 3 1 _ (xs.length + 1) (ints (idx (xs ++ [i])))
                      rw [idx_snoc]
                      simpa [ints] using ho
                · intro wq hwq
                  simp only [gs58, List.length_cons, List.length_nil, List.take_succ_cons, List.take_zero, RG.Fin, RG.goneBy, Nat.reduceAdd, List.drop_succ_cons, List.drop_zero]
                  intro v0 h0 v1 h1 v2 _ v3 h3 v4 _ v5 h5
                  obtain rfl := h0 (by decide)
                  obtain rfl := h1 (by decide)
                  obtain rfl := h3 (by decide)
                  have o5 := h5 (by decide)
                  clear h0 h1 h3 h5
                  simp only [Act.put, List.setIfInBounds_toArray, List.set_cons_zero, List.set_cons_succ]
                  have hXn : IntRow wq v5 (idx (xs ++ [i])) := by
                    have := owns_base o5 (Nat.zero_le _)
                    show wq.ownsRow 0 3 1 _ (idx (xs ++ [i])).length _
                    rw [idx_length, List.length_append]
                    exact this
                  have hK3 : Kp D bo w wq := hK2.trans (Kp.of_ext hwq)
                  have hcall := ih.out (xs ++ [i]) v5 wq (outs ++ part b fi se k xs i) (hS.out.kp hK3) hXn ((hOut.out.ext hE).ext hwq) (by rw [List.length_append]; omega) (by simp; omega) (by
                    intro m hm
                    simp at hm
                    rcases Nat.lt_or_ge m xs.length with h5 | h5
                    · rw [getD_snoc_lt xs i 0 h5]; exact hlt m h5
                    · obtain rfl : m = xs.length := by omega
                      rw [getD_snoc_eq]; exact hif)
                  have HC := Lib.hid hcall
                  clear hcall hst hXn o5
                  go_wp2_with (go_at_call 58; refine HC.out.mono ?_; rintro e w' ⟨rfl, ho2, hk2⟩)
                  go_roundw
                  case rel =>
                    refine ⟨hK3.trans hk2, i + 1, by omega, by omega, by go_num, ?_⟩
                    rw [HP.out, ← List.append_assoc]
                    exact ho2
                  case measure => simp [intOf]; omega
        · obtain rfl : i = fi.length := by omega
          have hR : Chosen D bo (outs ++ choose b fi se (k + 1) xs) w (.returned (.tuple #[])) wr := ⟨rfl, by rw [← part_last]; exact hOut.out, hK⟩
          have HR := Lib.hid hR
          clear hR
          go_wp2
          exact bodyPost_end (results_none rfl _ _ _) rfl HR.out
    · have hgt : decide (0 < xs.length) = true := by simpa using hx0
      go_enter Try.func58, Try.ntmps58
      go_wp2

      go_loopw [9] (fun v9 wr => Kp D bo w wr ∧ ∃ i : Nat, from_ xs ≤ i ∧ i ≤ fi.length ∧ v9 = .int .i64 i ∧ Hid (Out D bo wr (outs ++ part b fi se k xs i))) (fun v _ => fi.length - (intOf v).toNat)
      case atStart =>
        refine ⟨Kp.refl _ _ _, n + 1, by rw [hf.out]; exact Nat.le_refl _, hfrom, by go_num, ?_⟩
        have : part b fi se k xs (n + 1) = [] := by rw [← hf.out]; exact part_zero _ _ _ _ _
        rw [this, List.append_nil]
        exact HO.out
      case round =>
        obtain ⟨hK, i, hi1, hi2, rfl, hOut⟩ := hrel
        have hSr := hS.out.kp hK
        have d1 := hSr.first
        by_cases hif : i < fi.length
        · rcases hSr.in1.1.cases with ⟨h0, -⟩ | ⟨f0, bfi, ofi, cf, hv, f1, f2, f3⟩
          · rw [h0] at hif
            simp at hif
          rcases hSr.in2.1.cases with ⟨h0, -⟩ | ⟨s0, bse, ose, cs, hv2, s1, s2, s3⟩
          · have hk' := hk
            rw [h0] at hk'
            simp at hk'
          injection hv with hv3 hv4 hv5
          subst hv3
          injection hv2 with hv6 hv7 hv8
          subst hv6
          clear hv4 hv5 hv7 hv8
          have hsec' := hSr.second
          obtain ⟨p0, p1, p2, p3, p4, p5⟩ := hSr.pace
          have F3 := Lib.hid f3
          have S3 := Lib.hid s3
          have hSr0 := Lib.hid hSr
          have hxr := Lib.hid ((hK.intRow hx.out hOut0.out).at_)
          clear f3 s3 hSr
          have hch := Lib.hid hSr0.out.choose
          go_wp2
          obtain ⟨wo, rfl⟩ : ∃ wo : World, wo = wr := ⟨_, rfl⟩
          go_loopw [10, 41] (fun v10 v41 wr => Ext wo wr ∧ ∃ (m : Nat) (fb : Bool), m ≤ xs.length ∧ v41 = .int .i64 m ∧ v10 = .bool fb ∧ Hid (fb = decide (fits b fi se xs i m))) (fun _ v _ => xs.length - (intOf v).toNat)
          case atStart => exact ⟨Ext.refl _, 0, true, Nat.zero_le _, rfl, rfl, by simp [fits, Hid]⟩
          case round =>
            obtain ⟨hE, m, fb, hm, rfl, rfl, hfb⟩ := hrel
            by_cases hml : m < xs.length
            · rcases hxr.out.cases with ⟨h0, -⟩ | ⟨h0, bxx, oxx, cxx, hv, x1, x2, x3⟩
              · have := congrArg List.length h0
                rw [idx_length] at this
                simp only [List.length_nil] at this
                omega
              injection hv with hv3 hv4 hv5
              first | subst hv3 | cases hv3
              clear hv4 hv5
              obtain ⟨n', p, e1, e2, e3, e4, e5, HN⟩ := one_of x3 F3.out hlt i1 hml
              obtain ⟨t, t1, HT⟩ := hid_cell (S3.out m (by omega))
              obtain ⟨r, r1, HR⟩ := hid_cell (S3.out xs.length (by omega))
              obtain ⟨q, g1, HQ⟩ := hid_cell (F3.out i hif)
              have hr := (i2 xs.length (by omega)).1
              have ht := (i2 m (by omega)).1
              have hq := (i1 i hif).1
              rw [HR.out] at hr
              rw [HT.out] at ht
              rw [HQ.out] at hq
              obtain ⟨hr1, hr2⟩ := hr
              obtain ⟨ht1, ht2⟩ := ht
              obtain ⟨hq1, hq2⟩ := hq
              replace e1 := hE.get e1
              replace e3 := hE.get e3
              replace t1 := hE.get t1
              replace r1 := hE.get r1
              replace g1 := hE.get g1
              have d1 := hE.get d1
              have hsec' := hE.get hsec'
              have p0 := hE.get p0
              have p1 := hE.get p1
              have p2 := hE.get p2
              have p3 := hE.get p3
              have p4 := hE.get p4
              have p5 := hE.get p5
              have z1 := World.block_lt_of_cell? _ _ e3
              have z2 := World.block_lt_of_cell? _ _ r1
              have z3 := World.block_lt_of_cell? _ _ d1
              have z4 := World.block_lt_of_cell? _ _ hsec'
              have z5 := World.block_lt_of_cell? _ _ p0
              clear x3
              have hfs := Lib.hid (fits_succ b fi se xs i m)
              cases fb
              · go_wp2_with fail
                refine wp_region_quiet_below (by kernel_rfl) (by kernel_rfl) ?_
                repeat (go_big_quiet_step (fail))
                refine wpQuiet_nil ?_
                intro _ hw'
                obtain ⟨⟨dq, osq⟩, hw''⟩ := hw'
                subst hw''
                have hE2 : Ext wo (grow (redrawn wr dq) osq) := hE.trans (Ext.grow _ _ _)
                go_wp2
                go_roundw
                case rel =>
                  refine ⟨hE2, m + 1, false, by omega, by go_num, rfl, (decide_eq_false fun h => ?_).symm⟩
                  have := (hfs.out.1 h).1
                  have h9 := hfb.out
                  simp [this] at h9
                case measure => simp [intOf]; omega
              · by_cases ca : agree b (q - p) (r - t)
                · go_wp2_with fail
                  refine wp_region_quiet_below (by kernel_rfl) (by kernel_rfl) ?_
                  repeat (go_big_quiet_step ((go_at_call 60; exact Calls.ext_of (w60 b hok (q - p) (r - t) (by omega) (by omega) (by omega) (by omega) _))))
                  refine wpQuiet_nil ?_
                  intro _ hw'
                  obtain ⟨⟨dq, osq⟩, hw''⟩ := hw'
                  subst hw''
                  have hE2 : Ext wo (grow (redrawn wr dq) osq) := hE.trans (Ext.grow _ _ _)
                  go_wp2
                  go_roundw
                  case rel =>
                    refine ⟨hE2, m + 1, true, by omega, by go_num, rfl, (decide_eq_true (hfs.out.2 ⟨?_, ?_⟩)).symm⟩
                    · have h9 := hfb.out
                      simpa using h9
                    · rw [HN.out.1, HN.out.2, HR.out, HT.out, HQ.out]
                      exact ca
                  case measure => simp [intOf]; omega
                · go_wp2_with fail
                  refine wp_region_quiet_below (by kernel_rfl) (by kernel_rfl) ?_
                  repeat (go_big_quiet_step ((go_at_call 60; exact Calls.ext_of (w60 b hok (q - p) (r - t) (by omega) (by omega) (by omega) (by omega) _))))
                  refine wpQuiet_nil ?_
                  intro _ hw'
                  obtain ⟨⟨dq, osq⟩, hw''⟩ := hw'
                  subst hw''
                  have hE2 : Ext wo (grow (redrawn wr dq) osq) := hE.trans (Ext.grow _ _ _)
                  go_wp2
                  go_roundw
                  case rel =>
                    refine ⟨hE2, m + 1, false, by omega, by go_num, rfl, (decide_eq_false fun h => ?_).symm⟩
                    have := (hfs.out.1 h).2
                    rw [HN.out.1, HN.out.2, HR.out, HT.out, HQ.out] at this
                    exact ca this
                  case measure => simp [intOf]; omega
            · obtain rfl : m = xs.length := by omega
              have hK2 : Kp D bo w wr := hK.trans (Kp.of_ext hE)
              have hps := part_succ b fi se k xs i hi1
              cases fb
              · have hnf : ¬ fits b fi se xs i xs.length := fun h => by have h9 := hfb.out; simp [h] at h9
                rw [if_neg hnf, List.append_nil] at hps
                have HP := Lib.hid hps
                clear hps
                go_wp2
                go_roundw
                case rel =>
                  refine ⟨hK2, i + 1, by omega, by omega, by go_num, ?_⟩
                  rw [HP.out]
                  exact hOut.out.ext hE
                case measure => simp [intOf]; omega
              · have hyf : fits b fi se xs i xs.length := by have h9 := hfb.out; simpa using h9
                rw [if_pos hyf] at hps
                have hle := part_le b fi se k xs (i + 1) (by omega) (by omega)
                rw [hps, List.length_append] at hle
                have HP := Lib.hid hps
                clear hps
                go_wp2_with fail
                have hst := RG.stab_of (gs58_stab (.func (.func 58) #[] #[.pointer (some ⟨bs, 0, none⟩), .pointer (some ⟨bo, 0, none⟩), .pointer (some ⟨bf, 0, none⟩), .pointer (some ⟨bp, 0, none⟩), .pointer (some ⟨bc, 0, none⟩)]) (.slice (some ⟨bx, ox, none⟩) xs.length cx) wr.heap.size xs i)
                have hX2 := Lib.hid ((hK2.intRow hx.out hOut0.out))
                obtain ⟨i0, hi0, hz0, hz1, hz2⟩ := info_parts info3
                refine RG.wp_rg (gs58 (.func (.func 58) #[] #[.pointer (some ⟨bs, 0, none⟩), .pointer (some ⟨bo, 0, none⟩), .pointer (some ⟨bf, 0, none⟩), .pointer (some ⟨bp, 0, none⟩), .pointer (some ⟨bc, 0, none⟩)]) (.slice (some ⟨bx, ox, none⟩) xs.length cx) wr.heap.size xs i)
                  (fun i => if i = 5 then [2, 4] else []) (by kernel_rfl) (by kernel_rfl) (by kernel_rfl) ?_ ?_
                · simp only [gs58, List.length_cons, List.length_nil, List.take_succ_cons, List.take_zero, RG.Steps, and_true, Nat.reduceAdd]
                  refine ⟨?_, ?_, ?_, ?_, ?_, ?_⟩
                  · refine RG.st_run rfl (fun a w hw hr => ⟨_, w, ?_, Ext.refl _, rfl⟩) hst
                    have e := RG.read_out (t := 5) hr (by kernel_rfl) (by kernel_rfl)
                    have e' : a.tmps[5]?.getD undef = .pointer (some ⟨_, 0, none⟩) := (Array.getD_eq_getD_getElem? ..).symm.trans e
                    have f0 := hw.get (hE.get hch.out)
                    clear hr hst e
                    simp [execOp, go_sem, e', f0]
                  · exact RG.st_move rfl rfl (by kernel_rfl) (fun _ _ => rfl) hst
                  · refine RG.st_call rfl 59 _ _ rfl Try.func59 (by kernel_rfl) rfl (fun a w1 hw hr => ?_) hst
                    have e1 := RG.read_in (t := 72) (j := 1) hr (by kernel_rfl) (by kernel_rfl)
                    have hargs : (#[Operand.tmp 72].map a.eval) = #[.slice (some ⟨bx, ox, none⟩) xs.length cx] := by
                      simp only [List.map_toArray, List.map_cons, List.map_nil]
                      rw [show a.eval (.tmp 72) = _ from e1]
                    rw [hargs]
                    refine (w59 (idx xs) _ w1 (hX2.out.at_.ext hw) (by rw [idx_length]; omega)).mono ?_
                    rintro e w' ⟨v', rfl, q1, q2⟩
                    rw [idx_length] at q1
                    exact ⟨v', rfl, q2, owns_base q1 hw.size⟩
                  · exact RG.st_move rfl rfl (by kernel_rfl) (fun _ _ => rfl) hst
                  · refine RG.st_run rfl (fun a w hw hr => ⟨.slice (some ⟨w.heap.size, 0, none⟩) 1 1, w.alloc (.cells #[.int .i64 i] 3), ?_, (Ext.refl _).alloc _, SlAt.of_owns (owns_lit w [.int .i64 i] 3 1 1 0 (Nat.zero_le _) (by unfold maxLen; omega) rfl)⟩) hst
                    have e3 := RG.read_in (t := 74) (j := 3) hr (by kernel_rfl) (by kernel_rfl)
                    have e' : a.tmps[74]?.getD undef = .int .i64 i := (Array.getD_eq_getD_getElem? ..).symm.trans e3
                    clear hr hst e3
                    simp [execOp, go_sem, e']
                  · refine RG.st_wp rfl (fun a w Q hw hr => ?_)
                    have e1 := RG.read_in (t := 73) (j := 2) hr (by kernel_rfl) (by kernel_rfl)
                    have e3 := RG.read_in (t := 75) (j := 4) hr (by kernel_rfl) (by kernel_rfl)
                    refine wp_append_sl (.tmp 73) (.tmp 75) 37 rfl _ 3 i0 (.int .i64 0) 1 8 Try.underlying37 hi0 hz0 hz1 hz2 rfl (by omega) _ xs.length (ints (idx xs)) rfl e1 _ 1 [.int .i64 i] rfl e3 (ints_oneCell' [(i : Int)]) (by unfold maxLen; omega) (by omega) hw.size ?_
                    intro v' w' ho hg
                    have hb : Ext wr w' := hw.grown hg (fun k hk => (owns_block e1 k hk).1)
                    refine ⟨_, rfl, hb, fun j v n1 n2 n3 h => ?_, ?_⟩
                    · match j with
                      | 0 => exact h
                      | 1 => exact h
                      | 3 => exact h
                      | 2 => simp at n1
                      | 4 => simp at n1
                      | 5 => simp at n2
                      | n + 6 => trivial
                    · show w'.ownsRow _ 3 1 _ (xs.length + 1) (ints (idx (xs ++ [i])))
                      rw [idx_snoc]
                      simpa [ints] using ho
                · intro wq hwq
                  simp only [gs58, List.length_cons, List.length_nil, List.take_succ_cons, List.take_zero, RG.Fin, RG.goneBy, Nat.reduceAdd, List.drop_succ_cons, List.drop_zero]
                  intro v0 h0 v1 h1 v2 _ v3 h3 v4 _ v5 h5
                  obtain rfl := h0 (by decide)
                  obtain rfl := h1 (by decide)
                  obtain rfl := h3 (by decide)
                  have o5 := h5 (by decide)
                  clear h0 h1 h3 h5
                  simp only [Act.put, List.setIfInBounds_toArray, List.set_cons_zero, List.set_cons_succ]
                  have hXn : IntRow wq v5 (idx (xs ++ [i])) := by
                    have := owns_base o5 (Nat.zero_le _)
                    show wq.ownsRow 0 3 1 _ (idx (xs ++ [i])).length _
                    rw [idx_length, List.length_append]
                    exact this
                  have hK3 : Kp D bo w wq := hK2.trans (Kp.of_ext hwq)
                  have hcall := ih.out (xs ++ [i]) v5 wq (outs ++ part b fi se k xs i) (hS.out.kp hK3) hXn ((hOut.out.ext hE).ext hwq) (by rw [List.length_append]; omega) (by simp; omega) (by
                    intro m hm
                    simp at hm
                    rcases Nat.lt_or_ge m xs.length with h5 | h5
                    · rw [getD_snoc_lt xs i 0 h5]; exact hlt m h5
                    · obtain rfl : m = xs.length := by omega
                      rw [getD_snoc_eq]; exact hif)
                  have HC := Lib.hid hcall
                  clear hcall hst hXn o5
                  go_wp2_with (go_at_call 58; refine HC.out.mono ?_; rintro e w' ⟨rfl, ho2, hk2⟩)
                  go_roundw
                  case rel =>
                    refine ⟨hK3.trans hk2, i + 1, by omega, by omega, by go_num, ?_⟩
                    rw [HP.out, ← List.append_assoc]
                    exact ho2
                  case measure => simp [intOf]; omega
        · obtain rfl : i = fi.length := by omega
          have hR : Chosen D bo (outs ++ choose b fi se (k + 1) xs) w (.returned (.tuple #[])) wr := ⟨rfl, by rw [← part_last]; exact hOut.out, hK⟩
          have HR := Lib.hid hR
          clear hR
          go_wp2
          exact bodyPost_end (results_none rfl _ _ _) rfl HR.out
end Go.Proofs.Ytcbimfaneinpkaa
