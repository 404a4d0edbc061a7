/- The walk of the reference's CheckTrack. -/
import Derived.Test.YtcbimfaneinpkaaTrackSpec
import Derived.Test.YtcbimfaneinpkaaWindowWalks
set_option linter.unusedVariables false
set_option linter.unusedSimpArgs false
namespace Go.Proofs.Ytcbimfaneinpkaa
open Go.RowKit Go.Sort

set_option maxRecDepth 100000 in
set_option maxHeartbeats 4000000 in
theorem w36 (t : Track) (v : Value) (w : World) (hv : SeensAt w v t.parts) :
    Calls Try.prog 36 #[.agg #[.int .i64 t.belt.step, .int .i64 t.belt.slip, .int .i64 t.belt.gate, .int .i64 t.belt.length, .int .i64 t.count, .int .i64 t.next, v]] w fun e w' => e = .returned (.int .i64 (checkTrack t)) ∧ Ext w w' := by
  have HV := Lib.hid hv
  obtain ⟨q1, ao, cap, rfl, k1, k2, -⟩ := hv
  by_cases hok : t.belt.ok
  · have hcb : decide t.belt.ok = true := decide_eq_true hok
    have hg : 1 ≤ t.belt.gate ∧ t.belt.gate ≤ 1000000 := ⟨hok.2.2.2.2.1, hok.2.2.2.2.2.1⟩
    by_cases hs : sane t
    · obtain ⟨s1, s2, s3, s4, s5⟩ := hs
      have g1 : decide (0 ≤ t.count ∧ t.count ≤ 1099511627776) = true := decide_eq_true (by omega)
      have g2 : decide (0 ≤ t.next ∧ t.next ≤ 1099511627776) = true := decide_eq_true (by omega)
      have g5 : decide ((32 : Int) < (t.parts.length : Int)) = false := decide_eq_false (by omega)
      go_enter Try.func36, Try.ntmps36
      go_wp2_with (first | (go_at_call 44; refine (Ext.lift (w44 t.belt _) (by first | assumption | exact Ext.refl _)).mono ?_; rintro e w' ⟨rfl, hb⟩; have hc := hb.cell) | (have z := m1; go_at_call 56; refine (Ext.lift (w56 t.next 0 1099511627776 _) (by first | assumption | exact Ext.refl _)).mono ?_; rintro e w' ⟨rfl, hb⟩; have hc := hb.cell) | (go_at_call 56; refine (Ext.lift (w56 t.count 0 1099511627776 _) (by first | assumption | exact Ext.refl _)).mono ?_; rintro e w' ⟨rfl, hb⟩; have hc := hb.cell; have m1 := trivial) | (go_at_call 53; refine (Ext.lift (w53 t.belt hok t.belt.gate hg.1 hg.2 _) (by first | assumption | exact Ext.refl _)).mono ?_; rintro e w' ⟨rfl, hb⟩; have hc := hb.cell))
      have hE0 : Ext w w' := ((Ext.refl _).alloc _).trans hb
      have z0 : w.heap.size < w'.heap.size := by have := hb.size; simp at this; omega
      have d4 : w'.cell? ⟨w.heap.size, 4, none⟩ = some (.int .i64 t.count) := by rw [hc w.heap.size 4 (by simp)]; simp
      have d5 : w'.cell? ⟨w.heap.size, 5, none⟩ = some (.int .i64 t.next) := by rw [hc w.heap.size 5 (by simp)]; simp
      have d6 : w'.cell? ⟨w.heap.size, 6, none⟩ = some (.slice ao t.parts.length cap) := by rw [hc w.heap.size 6 (by simp)]; simp
      clear hc g1 g2
      go_loopw [5] (fun v wr => Ext w wr ∧ wr.cell? ⟨w.heap.size, 4, none⟩ = some (.int .i64 t.count) ∧ wr.cell? ⟨w.heap.size, 5, none⟩ = some (.int .i64 t.next) ∧ wr.cell? ⟨w.heap.size, 6, none⟩ = some (.slice ao t.parts.length cap) ∧
          ∃ (i : Nat) (l : Seen), i ≤ t.parts.length ∧ -1 ≤ l.id ∧ -1 ≤ l.at_ ∧ v = .int .i64 i ∧ Hid (l = lastOf t.parts i) ∧ Hid (∀ j, j < i → partOk t (lastOf t.parts j) (t.parts.getD j seen0))) (fun v _ => t.parts.length - (intOf v).toNat)
      case atStart => exact ⟨hE0, d4, d5, d6, 0, seen0, Nat.zero_le _, by decide, by decide, rfl, rfl, fun j hj => by omega⟩
      case round =>
        obtain ⟨hE, f4, f5, f6, i, l, hi, hli, hla, rfl, hl2, hd⟩ := hrel
        by_cases hil : i < t.parts.length
        · rcases HV.out.cases with ⟨h0, -⟩ | ⟨h0, b, off, cap', hv3, -, -, x3⟩
          · rw [h0] at hil; simp at hil
          injection hv3 with hv4 hv5 hv6
          subst hv4
          clear hv5 hv6
          have hprev : i = 0 ∧ l.id = -1 ∧ l.at_ = -1 ∨ 0 < i ∧ w.cell? ⟨b, off + (i - 1) * 4, none⟩ = some (.int .i64 l.id) ∧ w.cell? ⟨b, off + (i - 1) * 4 + 1, none⟩ = some (.int .i64 l.at_) := by
            rcases Nat.eq_zero_or_pos i with h | h
            · subst h
              rw [hl2.out]
              exact .inl ⟨rfl, rfl, rfl⟩
            · have := x3 (i - 1) (by omega)
              rw [hl2.out, show lastOf t.parts i = t.parts.getD (i - 1) seen0 from by unfold lastOf; rw [if_neg (by omega)]]
              exact .inr ⟨h, this.1, this.2.1⟩
          obtain ⟨y0, y1, y2, y3⟩ := x3 i hil
          generalize hx : t.parts.getD i seen0 = x at y0 y1 y2 y3
          have HX := Lib.hid hx
          replace y0 := hE.get y0
          replace y1 := hE.get y1
          replace y2 := hE.get y2
          replace y3 := hE.get y3
          clear x3 hx
          have z4 := World.block_lt_of_cell? _ _ f4
          have z5 := World.block_lt_of_cell? _ _ y0
          simp only at z4 z5
          have z6 : w.heap.size < (wr.alloc (.cells #[.int .i64 x.id, .int .i64 x.at_, .int .u8 x.verdict, .bool x.hit] 63)).heap.size := by simp; omega
          have z7 : b < (wr.alloc (.cells #[.int .i64 x.id, .int .i64 x.at_, .int .u8 x.verdict, .bool x.hit] 63)).heap.size := by simp; omega
          have z8 : wr.heap.size < (wr.alloc (.cells #[.int .i64 x.id, .int .i64 x.at_, .int .u8 x.verdict, .bool x.hit] 63)).heap.size := by simp
          have HB : Hid (partOk t (lastOf t.parts i) (t.parts.getD i seen0) ↔ (l.id < x.id ∧ x.id < t.next ∧ l.at_ < x.at_ ∧ x.at_ ≤ t.count ∧ t.count < x.at_ + winTo t.belt t.belt.gate ∧ x.verdict ≤ 3 ∧ (x.hit = true → x.at_ + winFrom t.belt t.belt.gate ≤ t.count))) := by
            rw [← hl2.out, HX.out]
            exact Iff.rfl
          clear hl2
          obtain ⟨w1, w2⟩ := to_bd hok hg.1 hg.2
          obtain ⟨w3, w4⟩ := from_bd hok hg.1 hg.2
          by_cases a1 : 0 ≤ x.id ∧ x.id ≤ t.next - 1
          case neg =>
            have q1 : decide (0 ≤ x.id ∧ x.id ≤ t.next - 1) = false := decide_eq_false a1
            go_wp2_with fail
            have hE1 : Ext w (wr.alloc (.cells #[.int .i64 x.id, .int .i64 x.at_, .int .u8 x.verdict, .bool x.hit] 63)) := hE.alloc _
            refine wp_region_quiet_below (by kernel_rfl) (by kernel_rfl) ?_
            repeat (go_big_quiet_step ((first | (go_at_call 56; with_reducible exact Calls.ext_of (w56 x.id 0 (t.next - 1) _)) | (go_at_call 56; with_reducible exact Calls.ext_of (w56 x.at_ 0 t.count _)))))
            refine wpQuiet_nil ?_
            intro _ hw'
            obtain ⟨⟨dq, osq⟩, hw''⟩ := hw'
            subst hw''
            have hE2 : Ext w (grow (redrawn (wr.alloc (.cells #[.int .i64 x.id, .int .i64 x.at_, .int .u8 x.verdict, .bool x.hit] 63)) dq) osq) := hE1.trans (Ext.grow _ _ _)
            (go_wp2; go_ret; exact ⟨ret_int (checkTrack_parts hok hil (fun h => by have h9 := HB.out.1 h; obtain ⟨p1, p2, p3, p4, p5, p6, p7⟩ := h9; omega)).symm, hE2⟩)
          have q1 : decide (0 ≤ x.id ∧ x.id ≤ t.next - 1) = true := decide_eq_true a1
          by_cases a2 : 0 ≤ x.at_ ∧ x.at_ ≤ t.count
          case neg =>
            have q2 : decide (0 ≤ x.at_ ∧ x.at_ ≤ t.count) = false := decide_eq_false a2
            have m2 := trivial
            go_wp2_with fail
            have hE1 : Ext w (wr.alloc (.cells #[.int .i64 x.id, .int .i64 x.at_, .int .u8 x.verdict, .bool x.hit] 63)) := hE.alloc _
            refine wp_region_quiet_below (by kernel_rfl) (by kernel_rfl) ?_
            repeat (go_big_quiet_step ((first | (go_at_call 56; with_reducible exact Calls.ext_of (w56 x.id 0 (t.next - 1) _)) | (go_at_call 56; with_reducible exact Calls.ext_of (w56 x.at_ 0 t.count _)))))
            refine wpQuiet_nil ?_
            intro _ hw'
            obtain ⟨⟨dq, osq⟩, hw''⟩ := hw'
            subst hw''
            have hE2 : Ext w (grow (redrawn (wr.alloc (.cells #[.int .i64 x.id, .int .i64 x.at_, .int .u8 x.verdict, .bool x.hit] 63)) dq) osq) := hE1.trans (Ext.grow _ _ _)
            (go_wp2; go_ret; exact ⟨ret_int (checkTrack_parts hok hil (fun h => by have h9 := HB.out.1 h; obtain ⟨p1, p2, p3, p4, p5, p6, p7⟩ := h9; omega)).symm, hE2⟩)
          have q2 : decide (0 ≤ x.at_ ∧ x.at_ ≤ t.count) = true := decide_eq_true a2
          rcases hprev with ⟨hi0, hp0, hp1⟩ | ⟨hi0, hp0, hp1⟩
          · have q3 : decide ((0 : Int) < (i : Int)) = false := decide_eq_false (by omega)
            have q5 : decide (0 < i) = false := decide_eq_false (by omega)
            have q4 : l.id < x.id ∧ l.at_ < x.at_ := by omega
            clear hp0 hp1
            have HI0 := Lib.hid hi0
            clear hi0
            have q7 : decide (x.at_ ≤ l.at_) = false := decide_eq_false (by omega)
            go_wp2_with fail
            have hE1 : Ext w (wr.alloc (.cells #[.int .i64 x.id, .int .i64 x.at_, .int .u8 x.verdict, .bool x.hit] 63)) := hE.alloc _
            refine wp_region_quiet_below (by kernel_rfl) (by kernel_rfl) ?_
            repeat (go_big_quiet_step ((first | (go_at_call 56; with_reducible exact Calls.ext_of (w56 x.id 0 (t.next - 1) _)) | (go_at_call 56; with_reducible exact Calls.ext_of (w56 x.at_ 0 t.count _)))))
            refine wpQuiet_nil ?_
            intro _ hw'
            obtain ⟨⟨dq, osq⟩, hw''⟩ := hw'
            subst hw''
            have hE2 : Ext w (grow (redrawn (wr.alloc (.cells #[.int .i64 x.id, .int .i64 x.at_, .int .u8 x.verdict, .bool x.hit] 63)) dq) osq) := hE1.trans (Ext.grow _ _ _)
            by_cases b1 : x.at_ + winTo t.belt t.belt.gate ≤ t.count
            case pos => (go_wp2; go_ret; exact ⟨ret_int (checkTrack_parts hok hil (fun h => by have h9 := HB.out.1 h; obtain ⟨p1, p2, p3, p4, p5, p6, p7⟩ := h9; omega)).symm, hE2⟩)
            by_cases b2 : 3 < x.verdict
            case pos => (go_wp2; go_ret; exact ⟨ret_int (checkTrack_parts hok hil (fun h => by have h9 := HB.out.1 h; obtain ⟨p1, p2, p3, p4, p5, p6, p7⟩ := h9; omega)).symm, hE2⟩)
            by_cases b3 : x.hit = true
            · by_cases b4 : t.count < x.at_ + winFrom t.belt t.belt.gate
              case pos =>
                rw [b3] at hE2
                (go_wp2; go_ret; exact ⟨ret_int (checkTrack_parts hok hil (fun h => by have h9 := HB.out.1 h; obtain ⟨p1, p2, p3, p4, p5, p6, p7⟩ := h9; have := p7 b3; omega)).symm, hE2⟩)
              have hgood := Lib.hid (HB.out.2 ⟨by omega, by omega, by omega, by omega, by omega, by omega, fun _ => by omega⟩)
              have HG := hgood
              clear HB hgood
              have r4 := (Ext.grow (wr.alloc (.cells #[.int .i64 x.id, .int .i64 x.at_, .int .u8 x.verdict, .bool x.hit] 63)) dq osq).get (((Ext.refl wr).alloc (.cells #[.int .i64 x.id, .int .i64 x.at_, .int .u8 x.verdict, .bool x.hit] 63)).get f4)
              have r5 := (Ext.grow (wr.alloc (.cells #[.int .i64 x.id, .int .i64 x.at_, .int .u8 x.verdict, .bool x.hit] 63)) dq osq).get (((Ext.refl wr).alloc (.cells #[.int .i64 x.id, .int .i64 x.at_, .int .u8 x.verdict, .bool x.hit] 63)).get f5)
              have r6 := (Ext.grow (wr.alloc (.cells #[.int .i64 x.id, .int .i64 x.at_, .int .u8 x.verdict, .bool x.hit] 63)) dq osq).get (((Ext.refl wr).alloc (.cells #[.int .i64 x.id, .int .i64 x.at_, .int .u8 x.verdict, .bool x.hit] 63)).get f6)
              rw [b3] at hE2 r4 r5 r6
              go_wp2
              go_roundw
              case rel =>
                refine ⟨hE2, r4, r5, r6, i + 1, x, by omega, by omega, by omega, by go_num, ?_, ?_⟩
                · rw [lastOf_succ]
                  exact HX.out.symm
                · intro j hj
                  rcases Nat.lt_or_ge j i with h5 | h5
                  · exact hd.out j h5
                  · obtain rfl : j = i := by omega
                    exact HG.out
              case measure => simp [intOf]; omega
            · have hgood := Lib.hid (HB.out.2 ⟨by omega, by omega, by omega, by omega, by omega, by omega, fun h => absurd h b3⟩)
              have b3' : x.hit = false := by simpa using b3
              have HG := hgood
              clear HB hgood
              have r4 := (Ext.grow (wr.alloc (.cells #[.int .i64 x.id, .int .i64 x.at_, .int .u8 x.verdict, .bool x.hit] 63)) dq osq).get (((Ext.refl wr).alloc (.cells #[.int .i64 x.id, .int .i64 x.at_, .int .u8 x.verdict, .bool x.hit] 63)).get f4)
              have r5 := (Ext.grow (wr.alloc (.cells #[.int .i64 x.id, .int .i64 x.at_, .int .u8 x.verdict, .bool x.hit] 63)) dq osq).get (((Ext.refl wr).alloc (.cells #[.int .i64 x.id, .int .i64 x.at_, .int .u8 x.verdict, .bool x.hit] 63)).get f5)
              have r6 := (Ext.grow (wr.alloc (.cells #[.int .i64 x.id, .int .i64 x.at_, .int .u8 x.verdict, .bool x.hit] 63)) dq osq).get (((Ext.refl wr).alloc (.cells #[.int .i64 x.id, .int .i64 x.at_, .int .u8 x.verdict, .bool x.hit] 63)).get f6)
              rw [b3'] at hE2 r4 r5 r6
              go_wp2
              go_roundw
              case rel =>
                refine ⟨hE2, r4, r5, r6, i + 1, x, by omega, by omega, by omega, by go_num, ?_, ?_⟩
                · rw [lastOf_succ]
                  exact HX.out.symm
                · intro j hj
                  rcases Nat.lt_or_ge j i with h5 | h5
                  · exact hd.out j h5
                  · obtain rfl : j = i := by omega
                    exact HG.out
              case measure => simp [intOf]; omega
          · have q3 : decide ((0 : Int) < (i : Int)) = true := decide_eq_true (by omega)
            have q5 : decide (0 < i) = true := decide_eq_true (by omega)
            replace hp0 := hE.get hp0
            replace hp1 := hE.get hp1
            by_cases c1 : x.id ≤ l.id
            case pos =>
              have q6 : decide (x.id ≤ l.id) = true := decide_eq_true c1
              go_wp2_with fail
              have hE1 : Ext w (wr.alloc (.cells #[.int .i64 x.id, .int .i64 x.at_, .int .u8 x.verdict, .bool x.hit] 63)) := hE.alloc _
              refine wp_region_quiet_below (by kernel_rfl) (by kernel_rfl) ?_
              repeat (go_big_quiet_step ((first | (go_at_call 56; with_reducible exact Calls.ext_of (w56 x.id 0 (t.next - 1) _)) | (go_at_call 56; with_reducible exact Calls.ext_of (w56 x.at_ 0 t.count _)))))
              refine wpQuiet_nil ?_
              intro _ hw'
              obtain ⟨⟨dq, osq⟩, hw''⟩ := hw'
              subst hw''
              have hE2 : Ext w (grow (redrawn (wr.alloc (.cells #[.int .i64 x.id, .int .i64 x.at_, .int .u8 x.verdict, .bool x.hit] 63)) dq) osq) := hE1.trans (Ext.grow _ _ _)
              (go_wp2; go_ret; exact ⟨ret_int (checkTrack_parts hok hil (fun h => by have h9 := HB.out.1 h; obtain ⟨p1, p2, p3, p4, p5, p6, p7⟩ := h9; omega)).symm, hE2⟩)
            have q6 : decide (x.id ≤ l.id) = false := decide_eq_false c1
            by_cases c2 : x.at_ ≤ l.at_
            case pos =>
              have q7 : decide (x.at_ ≤ l.at_) = true := decide_eq_true c2
              go_wp2_with fail
              have hE1 : Ext w (wr.alloc (.cells #[.int .i64 x.id, .int .i64 x.at_, .int .u8 x.verdict, .bool x.hit] 63)) := hE.alloc _
              refine wp_region_quiet_below (by kernel_rfl) (by kernel_rfl) ?_
              repeat (go_big_quiet_step ((first | (go_at_call 56; with_reducible exact Calls.ext_of (w56 x.id 0 (t.next - 1) _)) | (go_at_call 56; with_reducible exact Calls.ext_of (w56 x.at_ 0 t.count _)))))
              refine wpQuiet_nil ?_
              intro _ hw'
              obtain ⟨⟨dq, osq⟩, hw''⟩ := hw'
              subst hw''
              have hE2 : Ext w (grow (redrawn (wr.alloc (.cells #[.int .i64 x.id, .int .i64 x.at_, .int .u8 x.verdict, .bool x.hit] 63)) dq) osq) := hE1.trans (Ext.grow _ _ _)
              (go_wp2; go_ret; exact ⟨ret_int (checkTrack_parts hok hil (fun h => by have h9 := HB.out.1 h; obtain ⟨p1, p2, p3, p4, p5, p6, p7⟩ := h9; omega)).symm, hE2⟩)
            have q7 : decide (x.at_ ≤ l.at_) = false := decide_eq_false (by omega)
            go_wp2_with fail
            have hE1 : Ext w (wr.alloc (.cells #[.int .i64 x.id, .int .i64 x.at_, .int .u8 x.verdict, .bool x.hit] 63)) := hE.alloc _
            refine wp_region_quiet_below (by kernel_rfl) (by kernel_rfl) ?_
            repeat (go_big_quiet_step ((first | (go_at_call 56; with_reducible exact Calls.ext_of (w56 x.id 0 (t.next - 1) _)) | (go_at_call 56; with_reducible exact Calls.ext_of (w56 x.at_ 0 t.count _)))))
            refine wpQuiet_nil ?_
            intro _ hw'
            obtain ⟨⟨dq, osq⟩, hw''⟩ := hw'
            subst hw''
            have hE2 : Ext w (grow (redrawn (wr.alloc (.cells #[.int .i64 x.id, .int .i64 x.at_, .int .u8 x.verdict, .bool x.hit] 63)) dq) osq) := hE1.trans (Ext.grow _ _ _)
            by_cases b1 : x.at_ + winTo t.belt t.belt.gate ≤ t.count
            case pos => (go_wp2; go_ret; exact ⟨ret_int (checkTrack_parts hok hil (fun h => by have h9 := HB.out.1 h; obtain ⟨p1, p2, p3, p4, p5, p6, p7⟩ := h9; omega)).symm, hE2⟩)
            by_cases b2 : 3 < x.verdict
            case pos => (go_wp2; go_ret; exact ⟨ret_int (checkTrack_parts hok hil (fun h => by have h9 := HB.out.1 h; obtain ⟨p1, p2, p3, p4, p5, p6, p7⟩ := h9; omega)).symm, hE2⟩)
            by_cases b3 : x.hit = true
            · by_cases b4 : t.count < x.at_ + winFrom t.belt t.belt.gate
              case pos =>
                rw [b3] at hE2
                (go_wp2; go_ret; exact ⟨ret_int (checkTrack_parts hok hil (fun h => by have h9 := HB.out.1 h; obtain ⟨p1, p2, p3, p4, p5, p6, p7⟩ := h9; have := p7 b3; omega)).symm, hE2⟩)
              have hgood := Lib.hid (HB.out.2 ⟨by omega, by omega, by omega, by omega, by omega, by omega, fun _ => by omega⟩)
              have HG := hgood
              clear HB hgood
              have r4 := (Ext.grow (wr.alloc (.cells #[.int .i64 x.id, .int .i64 x.at_, .int .u8 x.verdict, .bool x.hit] 63)) dq osq).get (((Ext.refl wr).alloc (.cells #[.int .i64 x.id, .int .i64 x.at_, .int .u8 x.verdict, .bool x.hit] 63)).get f4)
              have r5 := (Ext.grow (wr.alloc (.cells #[.int .i64 x.id, .int .i64 x.at_, .int .u8 x.verdict, .bool x.hit] 63)) dq osq).get (((Ext.refl wr).alloc (.cells #[.int .i64 x.id, .int .i64 x.at_, .int .u8 x.verdict, .bool x.hit] 63)).get f5)
              have r6 := (Ext.grow (wr.alloc (.cells #[.int .i64 x.id, .int .i64 x.at_, .int .u8 x.verdict, .bool x.hit] 63)) dq osq).get (((Ext.refl wr).alloc (.cells #[.int .i64 x.id, .int .i64 x.at_, .int .u8 x.verdict, .bool x.hit] 63)).get f6)
              rw [b3] at hE2 r4 r5 r6
              go_wp2
              go_roundw
              case rel =>
                refine ⟨hE2, r4, r5, r6, i + 1, x, by omega, by omega, by omega, by go_num, ?_, ?_⟩
                · rw [lastOf_succ]
                  exact HX.out.symm
                · intro j hj
                  rcases Nat.lt_or_ge j i with h5 | h5
                  · exact hd.out j h5
                  · obtain rfl : j = i := by omega
                    exact HG.out
              case measure => simp [intOf]; omega
            · have hgood := Lib.hid (HB.out.2 ⟨by omega, by omega, by omega, by omega, by omega, by omega, fun h => absurd h b3⟩)
              have b3' : x.hit = false := by simpa using b3
              have HG := hgood
              clear HB hgood
              have r4 := (Ext.grow (wr.alloc (.cells #[.int .i64 x.id, .int .i64 x.at_, .int .u8 x.verdict, .bool x.hit] 63)) dq osq).get (((Ext.refl wr).alloc (.cells #[.int .i64 x.id, .int .i64 x.at_, .int .u8 x.verdict, .bool x.hit] 63)).get f4)
              have r5 := (Ext.grow (wr.alloc (.cells #[.int .i64 x.id, .int .i64 x.at_, .int .u8 x.verdict, .bool x.hit] 63)) dq osq).get (((Ext.refl wr).alloc (.cells #[.int .i64 x.id, .int .i64 x.at_, .int .u8 x.verdict, .bool x.hit] 63)).get f5)
              have r6 := (Ext.grow (wr.alloc (.cells #[.int .i64 x.id, .int .i64 x.at_, .int .u8 x.verdict, .bool x.hit] 63)) dq osq).get (((Ext.refl wr).alloc (.cells #[.int .i64 x.id, .int .i64 x.at_, .int .u8 x.verdict, .bool x.hit] 63)).get f6)
              rw [b3'] at hE2 r4 r5 r6
              go_wp2
              go_roundw
              case rel =>
                refine ⟨hE2, r4, r5, r6, i + 1, x, by omega, by omega, by omega, by go_num, ?_, ?_⟩
                · rw [lastOf_succ]
                  exact HX.out.symm
                · intro j hj
                  rcases Nat.lt_or_ge j i with h5 | h5
                  · exact hd.out j h5
                  · obtain rfl : j = i := by omega
                    exact HG.out
              case measure => simp [intOf]; omega
        · go_wp2
          go_ret
          exact ⟨ret_int (checkTrack_ok ⟨hok, ⟨s1, s2, s3, s4, s5⟩, fun j hj => hd.out j (by omega)⟩).symm, hE⟩
    · have hm : checkTrack t = 8 := checkTrack_bad hok hs
      rw [hm]
      clear hm
      have hs' : ¬ (0 ≤ t.count ∧ t.count ≤ 1099511627776) ∨ ((0 ≤ t.count ∧ t.count ≤ 1099511627776) ∧ ¬ (0 ≤ t.next ∧ t.next ≤ 1099511627776)) ∨ ((0 ≤ t.count ∧ t.count ≤ 1099511627776) ∧ (0 ≤ t.next ∧ t.next ≤ 1099511627776) ∧ 32 < t.parts.length) := by
        unfold sane at hs
        omega
      clear hs
      rcases hs' with h | ⟨h1, h⟩ | ⟨h1, h2, h⟩
      · have g1 : decide (0 ≤ t.count ∧ t.count ≤ 1099511627776) = false := decide_eq_false h
        go_enter Try.func36, Try.ntmps36
        go_wp2_with (first | (go_at_call 44; refine (Ext.lift (w44 t.belt _) (by first | assumption | exact Ext.refl _)).mono ?_; rintro e w' ⟨rfl, hb⟩; have hc := hb.cell) | (have z := m1; go_at_call 56; refine (Ext.lift (w56 t.next 0 1099511627776 _) (by first | assumption | exact Ext.refl _)).mono ?_; rintro e w' ⟨rfl, hb⟩; have hc := hb.cell) | (go_at_call 56; refine (Ext.lift (w56 t.count 0 1099511627776 _) (by first | assumption | exact Ext.refl _)).mono ?_; rintro e w' ⟨rfl, hb⟩; have hc := hb.cell; have m1 := trivial) | (go_at_call 53; refine (Ext.lift (w53 t.belt hok t.belt.gate hg.1 hg.2 _) (by first | assumption | exact Ext.refl _)).mono ?_; rintro e w' ⟨rfl, hb⟩; have hc := hb.cell))
        go_ret
        exact ⟨rfl, ((Ext.refl _).alloc _).trans hb⟩
      · have g1 : decide (0 ≤ t.count ∧ t.count ≤ 1099511627776) = true := decide_eq_true h1
        have g2 : decide (0 ≤ t.next ∧ t.next ≤ 1099511627776) = false := decide_eq_false h
        go_enter Try.func36, Try.ntmps36
        go_wp2_with (first | (go_at_call 44; refine (Ext.lift (w44 t.belt _) (by first | assumption | exact Ext.refl _)).mono ?_; rintro e w' ⟨rfl, hb⟩; have hc := hb.cell) | (have z := m1; go_at_call 56; refine (Ext.lift (w56 t.next 0 1099511627776 _) (by first | assumption | exact Ext.refl _)).mono ?_; rintro e w' ⟨rfl, hb⟩; have hc := hb.cell) | (go_at_call 56; refine (Ext.lift (w56 t.count 0 1099511627776 _) (by first | assumption | exact Ext.refl _)).mono ?_; rintro e w' ⟨rfl, hb⟩; have hc := hb.cell; have m1 := trivial) | (go_at_call 53; refine (Ext.lift (w53 t.belt hok t.belt.gate hg.1 hg.2 _) (by first | assumption | exact Ext.refl _)).mono ?_; rintro e w' ⟨rfl, hb⟩; have hc := hb.cell))
        go_ret
        exact ⟨rfl, ((Ext.refl _).alloc _).trans hb⟩
      · have g1 : decide (0 ≤ t.count ∧ t.count ≤ 1099511627776) = true := decide_eq_true h1
        have g2 : decide (0 ≤ t.next ∧ t.next ≤ 1099511627776) = true := decide_eq_true h2
        have g3 : decide ((32 : Int) < (t.parts.length : Int)) = true := decide_eq_true (by omega)
        go_enter Try.func36, Try.ntmps36
        go_wp2_with (first | (go_at_call 44; refine (Ext.lift (w44 t.belt _) (by first | assumption | exact Ext.refl _)).mono ?_; rintro e w' ⟨rfl, hb⟩; have hc := hb.cell) | (have z := m1; go_at_call 56; refine (Ext.lift (w56 t.next 0 1099511627776 _) (by first | assumption | exact Ext.refl _)).mono ?_; rintro e w' ⟨rfl, hb⟩; have hc := hb.cell) | (go_at_call 56; refine (Ext.lift (w56 t.count 0 1099511627776 _) (by first | assumption | exact Ext.refl _)).mono ?_; rintro e w' ⟨rfl, hb⟩; have hc := hb.cell; have m1 := trivial) | (go_at_call 53; refine (Ext.lift (w53 t.belt hok t.belt.gate hg.1 hg.2 _) (by first | assumption | exact Ext.refl _)).mono ?_; rintro e w' ⟨rfl, hb⟩; have hc := hb.cell))
        go_ret
        exact ⟨rfl, ((Ext.refl _).alloc _).trans hb⟩
  · have hcb : decide t.belt.ok = false := decide_eq_false hok
    have hm : checkTrack t = 90 := checkTrack_no hok
    rw [hm]
    clear hm
    go_enter Try.func36, Try.ntmps36
    go_wp2_with (first | (go_at_call 44; refine (Ext.lift (w44 t.belt _) (by first | assumption | exact Ext.refl _)).mono ?_; rintro e w' ⟨rfl, hb⟩; have hc := hb.cell) | (have z := m1; go_at_call 56; refine (Ext.lift (w56 t.next 0 1099511627776 _) (by first | assumption | exact Ext.refl _)).mono ?_; rintro e w' ⟨rfl, hb⟩; have hc := hb.cell) | (go_at_call 56; refine (Ext.lift (w56 t.count 0 1099511627776 _) (by first | assumption | exact Ext.refl _)).mono ?_; rintro e w' ⟨rfl, hb⟩; have hc := hb.cell; have m1 := trivial) | (go_at_call 53; refine (Ext.lift (w53 t.belt hok t.belt.gate hg.1 hg.2 _) (by first | assumption | exact Ext.refl _)).mono ?_; rintro e w' ⟨rfl, hb⟩; have hc := hb.cell))
    go_ret
    exact ⟨rfl, ((Ext.refl _).alloc _).trans hb⟩
end Go.Proofs.Ytcbimfaneinpkaa
