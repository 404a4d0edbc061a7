/- The walk of the reference's 'assigned'. -/
import Derived.Test.YtcbimfaneinpkaaAgree
namespace Go.Proofs.Ytcbimfaneinpkaa
open Go.RowKit Go.Sort

def idx (l : List Nat) : List Int := l.map fun n : Nat => (n : Int)
theorem idx_length (l : List Nat) : (idx l).length = l.length := by simp [idx]
theorem idx_get (l : List Nat) (j : Nat) : (idx l).getD j 0 = (l.getD j 0 : Nat) := by
  unfold idx
  simp only [List.getD_eq_getElem?_getD, List.getElem?_map]
  cases l[j]? <;> rfl
theorem idx_snoc (l : List Nat) (i : Nat) : idx (l ++ [i]) = idx l ++ [(i : Int)] := by simp [idx]

/-- One index of an assignment, and the count that it stands for. -/
theorem one_of {w : World} {bx ox bf of_ : Nat} {xs : List Nat} {fi : List Int}
    (hx : ∀ j, j < (idx xs).length → w.cell? ⟨bx, ox + j, none⟩ = some (.int .i64 ((idx xs).getD j 0)))
    (hf : ∀ j, j < fi.length → w.cell? ⟨bf, of_ + j, none⟩ = some (.int .i64 (fi.getD j 0)))
    (hlt : ∀ m, m < xs.length → xs.getD m 0 < fi.length) (hi : Incr fi) {j : Nat} (hj : j < xs.length) :
    ∃ (n : Nat) (p : Int), w.cell? ⟨bx, ox + j, none⟩ = some (.int .i64 n) ∧ n < fi.length ∧ w.cell? ⟨bf, of_ + n, none⟩ = some (.int .i64 p) ∧ 0 ≤ p ∧ p ≤ 1099511627776 ∧ Hid (xs.getD j 0 = n ∧ fi.getD n 0 = p) := by
  have h1 := hx j (by rw [idx_length]; exact hj)
  rw [idx_get] at h1
  have h2 := hlt j hj
  have h3 := hi (xs.getD j 0) h2
  exact ⟨xs.getD j 0, fi.getD (xs.getD j 0) 0, h1, h2, hf _ h2, h3.1.1, h3.1.2, rfl, rfl⟩

set_option maxHeartbeats 2000000 in
theorem w74 (b : Belt) (hok : b.ok) (fi se : List Int) (xs : List Nat) (v1 v2 vx : Value) (w : World) (h1 : IntsAt w v1 fi) (h2 : IntsAt w v2 se) (hx : IntsAt w vx (idx xs))
    (i1 : Incr fi) (i2 : Incr se) (l1 : fi.length ≤ 10) (l2 : se.length ≤ 10) (lx : xs.length ≤ se.length) (hlt : ∀ m, m < xs.length → xs.getD m 0 < fi.length) :
    Calls Try.prog 74 #[.agg #[.int .i64 b.step, .int .i64 b.slip, .int .i64 b.gate, .int .i64 b.length], v1, v2, vx] w fun e w' => e = .returned (.bool (decide (assigned b fi se xs))) ∧ Ext w w' := by
  have hil := idx_length xs
  rcases hx.cases with ⟨e0, ao, cap, rfl, _⟩ | ⟨h0, bx, ox, cx, rfl, x1, x2, x3⟩
  · have hx0 : xs = [] := List.eq_nil_of_length_eq_zero (by rw [← hil, e0]; rfl)
    subst hx0
    go_enter Try.func74, Try.ntmps74
    go_wp2
    go_loop [9] (fun i => i = .int .i64 0) (fun _ => 0)
    case atStart => rfl
    case round =>
      subst hrel
      go_wp2
      go_ret
      refine ⟨ret_bool (dec_true ?_), (Ext.refl _).alloc _⟩
      intro j hj
      simp at hj
  · have h00 := hlt 0 (by omega)
    rcases h1.cases with ⟨rfl, _⟩ | ⟨f0, bf, of_, cf, rfl, f1, f2, f3⟩
    · simp at h00
    rcases h2.cases with ⟨rfl, _⟩ | ⟨s0, bs, os_, cs, rfl, s1, s2, s3⟩
    · have lx' : xs.length ≤ 0 := lx
      omega
    rw [hil] at h0 x1
    have hxl : 0 < xs.length := h0
    have X3 := Lib.hid x3
    have F3 := Lib.hid f3
    have S3 := Lib.hid s3
    have Lx := Lib.hid hil
    rw [hil]
    clear x3 f3 s3 hil hx h1 h2
    go_enter Try.func74, Try.ntmps74
    go_wp2
    go_loopw [9] (fun v wr => Ext w wr ∧ wr.cell? ⟨w.heap.size, 0, none⟩ = some (.int .i64 b.step) ∧ wr.cell? ⟨w.heap.size, 1, none⟩ = some (.int .i64 b.slip) ∧ wr.cell? ⟨w.heap.size, 2, none⟩ = some (.int .i64 b.gate) ∧ wr.cell? ⟨w.heap.size, 3, none⟩ = some (.int .i64 b.length) ∧
        ∃ j : Nat, j ≤ xs.length ∧ v = .int .i64 j ∧ Hid (∀ j', j' < j → ∀ i, i < j' → xs.getD i 0 < xs.getD j' 0 ∧ agree b (fi.getD (xs.getD j' 0) 0 - fi.getD (xs.getD i 0) 0) (se.getD j' 0 - se.getD i 0))) (fun v _ => xs.length - (intOf v).toNat)
    case atStart => exact ⟨(Ext.refl _).alloc _, by simp, by simp, by simp, by simp, 0, Nat.zero_le _, rfl, fun j hj => by omega⟩
    case round =>
      obtain ⟨hE, c0, c1, c2, c3, j, hj, rfl, hd⟩ := hrel
      by_cases hlj : j < xs.length
      · go_wp2
        obtain ⟨wo, rfl⟩ : ∃ wo : World, wo = wr := ⟨_, rfl⟩
        go_loopw [10] (fun v wr => Ext w wr ∧ wr.cell? ⟨w.heap.size, 0, none⟩ = some (.int .i64 b.step) ∧ wr.cell? ⟨w.heap.size, 1, none⟩ = some (.int .i64 b.slip) ∧ wr.cell? ⟨w.heap.size, 2, none⟩ = some (.int .i64 b.gate) ∧ wr.cell? ⟨w.heap.size, 3, none⟩ = some (.int .i64 b.length) ∧
            ∃ i : Nat, i ≤ j ∧ v = .int .i64 i ∧ Hid (∀ i', i' < i → xs.getD i' 0 < xs.getD j 0 ∧ agree b (fi.getD (xs.getD j 0) 0 - fi.getD (xs.getD i' 0) 0) (se.getD j 0 - se.getD i' 0))) (fun v _ => j - (intOf v).toNat)
        case atStart => exact ⟨hE, c0, c1, c2, c3, 0, Nat.zero_le _, rfl, fun j hj => by omega⟩
        case round =>
          obtain ⟨hE, c0, c1, c2, c3, i, hi, rfl, hd2⟩ := hrel
          by_cases hli : i < j
          · have hlj' : i < xs.length := by omega
            obtain ⟨n, p, e1, e2, e3, e4, e5, HN⟩ := one_of X3.out F3.out hlt i1 hlj
            obtain ⟨m, q, g1, g2, g3, g4, g5, HM⟩ := one_of X3.out F3.out hlt i1 hlj'
            obtain ⟨r, r1, HR⟩ := hid_cell (S3.out j (by omega))
            obtain ⟨t, t1, HT⟩ := hid_cell (S3.out i (by omega))
            have hr := (i2 j (by omega)).1
            have ht := (i2 i (by omega)).1
            rw [HR.out] at hr
            rw [HT.out] at ht
            obtain ⟨hr1, hr2⟩ := hr
            obtain ⟨ht1, ht2⟩ := ht
            replace e1 := hE.get e1
            replace e3 := hE.get e3
            replace g1 := hE.get g1
            replace g3 := hE.get g3
            replace r1 := hE.get r1
            replace t1 := hE.get t1
            have z1 := World.block_lt_of_cell? _ _ e1
            have z2 := World.block_lt_of_cell? _ _ e3
            have z3 := World.block_lt_of_cell? _ _ r1
            have z4 := World.block_lt_of_cell? _ _ c0
            by_cases hnm : n ≤ m
            · have hk : decide (n ≤ m) = true := by simpa using hnm
              go_wp2_with fail
              refine wp_region_quiet_below (by kernel_rfl) (by kernel_rfl) ?_
              repeat (go_big_quiet_step ((go_at_call 50; exact Calls.ext_of (w50 b hok (p - q) (r - t) (by omega) (by omega) (by omega) (by omega) _))))
              refine wpQuiet_nil ?_
              intro _ hw'
              obtain ⟨⟨dq, osq⟩, hw''⟩ := hw'
              subst hw''
              have hE2 : Ext w (grow (redrawn wr dq) osq) := hE.trans (Ext.grow _ _ _)
              go_wp2
              go_ret
              refine ⟨ret_bool (dec_false (fun h => ?_)), hE2⟩
              have h5 := (h j hlj i hli).1
              rw [HN.out.1, HM.out.1] at h5
              omega
            · have hk : decide (n ≤ m) = false := by simpa using hnm
              by_cases ca : agree b (p - q) (r - t)
              · go_wp2_with fail
                refine wp_region_quiet_below (by kernel_rfl) (by kernel_rfl) ?_
                repeat (go_big_quiet_step ((go_at_call 50; exact Calls.ext_of (w50 b hok (p - q) (r - t) (by omega) (by omega) (by omega) (by omega) _))))
                refine wpQuiet_nil ?_
                intro _ hw'
                obtain ⟨⟨dq, osq⟩, hw''⟩ := hw'
                subst hw''
                have hE2 : Ext w (grow (redrawn wr dq) osq) := hE.trans (Ext.grow _ _ _)
                go_wp2
                go_roundw
                case rel =>
                  refine ⟨hE2, (Ext.grow _ _ _).get c0, (Ext.grow _ _ _).get c1, (Ext.grow _ _ _).get c2, (Ext.grow _ _ _).get c3, i + 1, by omega, by go_num, fun i' hi' => ?_⟩
                  rcases Nat.lt_or_ge i' i with h5 | h5
                  · exact hd2.out i' h5
                  · obtain rfl : i' = i := by omega
                    rw [HN.out.1, HM.out.1, HN.out.2, HM.out.2, HR.out, HT.out]
                    exact ⟨by omega, ca⟩
                case measure => simp [intOf]; omega
              · go_wp2_with fail
                refine wp_region_quiet_below (by kernel_rfl) (by kernel_rfl) ?_
                repeat (go_big_quiet_step ((go_at_call 50; exact Calls.ext_of (w50 b hok (p - q) (r - t) (by omega) (by omega) (by omega) (by omega) _))))
                refine wpQuiet_nil ?_
                intro _ hw'
                obtain ⟨⟨dq, osq⟩, hw''⟩ := hw'
                subst hw''
                have hE2 : Ext w (grow (redrawn wr dq) osq) := hE.trans (Ext.grow _ _ _)
                go_wp2
                go_ret
                refine ⟨ret_bool (dec_false (fun h => ?_)), hE2⟩
                have h5 := (h j hlj i hli).2
                rw [HN.out.1, HM.out.1, HN.out.2, HM.out.2, HR.out, HT.out] at h5
                exact ca h5
          · go_wp2
            go_roundw
            case rel =>
              refine ⟨hE, c0, c1, c2, c3, j + 1, by omega, by go_num, fun j' hj' => ?_⟩
              rcases Nat.lt_or_ge j' j with h5 | h5
              · exact hd.out j' h5
              · obtain rfl : j' = j := by omega
                intro i' hi'
                exact hd2.out i' (by omega)
            case measure => simp [intOf]; omega
      · go_wp2
        go_ret
        refine ⟨ret_bool (dec_true (fun j' hj' => hd.out j' (by omega))), hE⟩
end Go.Proofs.Ytcbimfaneinpkaa
