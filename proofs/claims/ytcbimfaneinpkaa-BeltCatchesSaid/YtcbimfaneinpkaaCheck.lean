/- The walk of the program's CheckTrack. -/
import Derived.Test.YtcbimfaneinpkaaBlocks
import Derived.Test.YtcbimfaneinpkaaTrackSpec
import Derived.Test.YtcbimfaneinpkaaWindowWalks
namespace Go.Proofs.Ytcbimfaneinpkaa
open Go.RowKit Go.Sort

set_option maxRecDepth 100000 in
set_option maxHeartbeats 4000000 in
theorem w35 (t : Track) (v : Value) (w : World) (hv : SeensAt w v t.parts) :
    Calls Try.prog 35 #[.agg #[.int .i64 t.belt.step, .int .i64 t.belt.slip, .int .i64 t.belt.gate, .int .i64 t.belt.length, .int .i64 t.count, .int .i64 t.next, v]] w fun e w' => e = .returned (.int .i64 (checkTrack t)) ∧ Ext w w' := by
  have HV := Lib.hid hv
  obtain ⟨q1, ao, cap, rfl, k1, k2, -⟩ := hv
  by_cases hok : t.belt.ok
  · have hcb : checkBelt t.belt = 0 := checkBelt_ok hok
    have hg : 1 ≤ t.belt.gate ∧ t.belt.gate ≤ 1000000 := ⟨hok.2.2.2.2.1, hok.2.2.2.2.2.1⟩
    by_cases hs : sane t
    · obtain ⟨s1, s2, s3, s4, s5⟩ := hs
      have g1 : decide (t.count < 0) = false := decide_eq_false (by omega)
      have g2 : decide (t.next < 0) = false := decide_eq_false (by omega)
      have g3 : decide (1099511627776 < t.count) = false := decide_eq_false (by omega)
      have g4 : decide (1099511627776 < t.next) = false := decide_eq_false (by omega)
      have g5 : decide ((32 : Int) < (t.parts.length : Int)) = false := decide_eq_false (by omega)
      have g6 : t.count < t.next ∧ ¬ t.next < t.count ∨ ¬ t.count < t.next ∧ t.next < t.count ∨ ¬ t.count < t.next ∧ ¬ t.next < t.count := by omega
      rcases g6 with ⟨g6, g7⟩ | ⟨g6, g7⟩ | ⟨g6, g7⟩
      · go_enter Try.func35, Try.ntmps35
        go_wp2_with (first | (go_at_call 23; refine (Ext.lift (w23 t.belt _) (by first | assumption | exact Ext.refl _)).mono ?_; rintro e w' ⟨rfl, hb⟩; have hc := hb.cell))
        have hE0 : Ext w w' := ((Ext.refl _).alloc _).trans hb
        have z0 : w.heap.size < w'.heap.size := by have := hb.size; simp at this; omega
        have d4 : w'.cell? ⟨w.heap.size, 4, none⟩ = some (.int .i64 t.count) := by rw [hc w.heap.size 4 (by simp)]; simp
        have d5 : w'.cell? ⟨w.heap.size, 5, none⟩ = some (.int .i64 t.next) := by rw [hc w.heap.size 5 (by simp)]; simp
        have d6 : w'.cell? ⟨w.heap.size, 6, none⟩ = some (.slice ao t.parts.length cap) := by rw [hc w.heap.size 6 (by simp)]; simp
        refine wp_region_quiet_below (by kernel_rfl) (by kernel_rfl) ?_
        repeat (go_big_quiet_step ((first | (go_at_call 54; exact Calls.ext_of (w54 t.belt hok _)) | (go_at_call 55; exact Calls.ext_of (w55 t.belt hok t.belt.gate hg.1 hg.2 _)))))
        refine wpQuiet_nil ?_
        intro _ hw'
        obtain ⟨⟨dq, osq⟩, hw''⟩ := hw'
        subst hw''
        have hE1 : Ext w (grow (redrawn w' dq) osq) := hE0.trans (Ext.grow _ _ _)
        have e4 := (Ext.grow w' dq osq).get d4
        have e5 := (Ext.grow w' dq osq).get d5
        have e6 := (Ext.grow w' dq osq).get d6
        have z1 : w.heap.size < (grow (redrawn w' dq) osq).heap.size := Nat.lt_of_lt_of_le z0 (Ext.grow w' dq osq).size
        generalize grow (redrawn w' dq) osq = wg at hE1 e4 e5 e6 z1
        clear d4 d5 d6 hc
        go_wp2
        go_loopw [50] (fun v wr => Ext w wr ∧ wr.cell? ⟨w.heap.size, 4, none⟩ = some (.int .i64 t.count) ∧ wr.cell? ⟨w.heap.size, 5, none⟩ = some (.int .i64 t.next) ∧
            ∃ (i : Nat) (l : Seen), i ≤ t.parts.length ∧ -1 ≤ l.at_ ∧ v = .int .i64 i ∧ wr.heap[wg.heap.size]? = some (.cells #[.int .i64 l.id, .int .i64 l.at_, .int .u8 l.verdict, .bool l.hit] 63 (0, 0)) ∧ Hid (l = lastOf t.parts i) ∧ Hid (∀ j, j < i → partOk t (lastOf t.parts j) (t.parts.getD j seen0))) (fun v _ => t.parts.length - (intOf v).toNat)
        case atStart =>
          refine ⟨hE1.alloc _, ((Ext.refl _).alloc _).get e4, ((Ext.refl _).alloc _).get e5, 0, seen0, Nat.zero_le _, by decide, rfl, ?_, rfl, fun j hj => by omega⟩
          exact blk_at _ _ rfl
        case round =>
          obtain ⟨hE, f4, f5, i, l, hi, hla, rfl, hl, hl2, hd⟩ := hrel
          by_cases hil : i < t.parts.length
          · rcases HV.out.cases with ⟨h0, -⟩ | ⟨h0, b, off, cap', hv3, -, -, x3⟩
            · rw [h0] at hil; simp at hil
            injection hv3 with hv4 hv5 hv6
            subst hv4
            clear hv5 hv6
            obtain ⟨y0, y1, y2, y3⟩ := x3 i hil
            generalize hx : t.parts.getD i seen0 = x at y0 y1 y2 y3
            have HX := Lib.hid hx
            replace y0 := hE.get y0
            replace y1 := hE.get y1
            replace y2 := hE.get y2
            replace y3 := hE.get y3
            clear x3 hx
            have c0 := cell_of_at hl 0 rfl
            have c1 := cell_of_at hl 1 rfl
            have c2 := cell_of_at hl 2 rfl
            have c3 := cell_of_at hl 3 rfl
            have n0 := free_of_at hl 0
            have n1 := free_of_at hl 1
            have n2 := free_of_at hl 2
            have n3 := free_of_at hl 3
            have HL := Lib.hid hl
            have z3 := World.block_lt_of_cell? _ _ c0
            have z4 := World.block_lt_of_cell? _ _ f4
            have z5 := World.block_lt_of_cell? _ _ y0
            clear hl
            have HB : Hid (partOk t (lastOf t.parts i) (t.parts.getD i seen0) ↔ (l.id < x.id ∧ x.id < t.next ∧ l.at_ < x.at_ ∧ x.at_ ≤ t.count ∧ t.count < x.at_ + winTo t.belt t.belt.gate ∧ x.verdict ≤ 3 ∧ (x.hit = true → x.at_ + winFrom t.belt t.belt.gate ≤ t.count))) := by
              rw [← hl2.out, HX.out]
              exact Iff.rfl
            clear hl2
            obtain ⟨w1, w2⟩ := to_bd hok hg.1 hg.2
            obtain ⟨w3, w4⟩ := from_bd hok hg.1 hg.2
            by_cases a1 : l.id < x.id
            case neg => (go_wp2; go_ret; exact ⟨ret_int (checkTrack_parts hok hil (fun h => by have h9 := HB.out.1 h; obtain ⟨p1, p2, p3, p4, p5, p6, p7⟩ := h9; omega)).symm, hE.alloc _⟩)
            by_cases a2 : x.id < t.next
            case neg => (go_wp2; go_ret; exact ⟨ret_int (checkTrack_parts hok hil (fun h => by have h9 := HB.out.1 h; obtain ⟨p1, p2, p3, p4, p5, p6, p7⟩ := h9; omega)).symm, hE.alloc _⟩)
            by_cases a3 : l.at_ < x.at_
            case neg => (go_wp2; go_ret; exact ⟨ret_int (checkTrack_parts hok hil (fun h => by have h9 := HB.out.1 h; obtain ⟨p1, p2, p3, p4, p5, p6, p7⟩ := h9; omega)).symm, hE.alloc _⟩)
            by_cases a4 : x.at_ ≤ t.count
            case neg => (go_wp2; go_ret; exact ⟨ret_int (checkTrack_parts hok hil (fun h => by have h9 := HB.out.1 h; obtain ⟨p1, p2, p3, p4, p5, p6, p7⟩ := h9; omega)).symm, hE.alloc _⟩)
            by_cases b1 : x.at_ + winTo t.belt t.belt.gate ≤ t.count
            case pos => (go_wp2; go_ret; exact ⟨ret_int (checkTrack_parts hok hil (fun h => by have h9 := HB.out.1 h; obtain ⟨p1, p2, p3, p4, p5, p6, p7⟩ := h9; omega)).symm, hE.alloc _⟩)
            by_cases b2 : 3 < x.verdict
            case pos => (go_wp2; go_ret; exact ⟨ret_int (checkTrack_parts hok hil (fun h => by have h9 := HB.out.1 h; obtain ⟨p1, p2, p3, p4, p5, p6, p7⟩ := h9; omega)).symm, hE.alloc _⟩)
            by_cases b3 : x.hit = true
            · by_cases b4 : t.count < x.at_ + winFrom t.belt t.belt.gate
              case pos => (go_wp2; go_ret; exact ⟨ret_int (checkTrack_parts hok hil (fun h => by have h9 := HB.out.1 h; obtain ⟨p1, p2, p3, p4, p5, p6, p7⟩ := h9; have := p7 b3; omega)).symm, hE.alloc _⟩)
              have hgood := Lib.hid (HB.out.2 ⟨a1, a2, a3, a4, by omega, by omega, fun _ => by omega⟩)
              clear HB
              go_wp2
              go_roundw
              case rel =>
                have hzz : w.heap.size ≠ wg.heap.size := by omega
                refine ⟨((((hE.setCell (Nat.le_of_lt z1) _).setCell (Nat.le_of_lt z1) _).setCell (Nat.le_of_lt z1) _).setCell (Nat.le_of_lt z1) _).alloc _, ?_, ?_, i + 1, x, by omega, by omega, by go_num, ?_, ?_, ?_⟩
                · exact ((Ext.refl _).alloc _).get (set_other (set_other (set_other (set_other f4 hzz) hzz) hzz) hzz)
                · exact ((Ext.refl _).alloc _).get (set_other (set_other (set_other (set_other f5 hzz) hzz) hzz) hzz)
                · rw [blk_past _ _ (by simpa using z3), show Value.bool true = Value.bool x.hit from by rw [b3]]
                  exact set_four HL.out
                · rw [lastOf_succ]
                  exact HX.out.symm
                · intro j hj
                  rcases Nat.lt_or_ge j i with h5 | h5
                  · exact hd.out j h5
                  · obtain rfl : j = i := by omega
                    exact hgood.out
              case measure => simp [intOf]; omega
            · have hgood := Lib.hid (HB.out.2 ⟨a1, a2, a3, a4, by omega, by omega, fun h => absurd h b3⟩)
              clear HB
              have b3' : x.hit = false := by simpa using b3
              go_wp2
              go_roundw
              case rel =>
                have hzz : w.heap.size ≠ wg.heap.size := by omega
                refine ⟨((((hE.setCell (Nat.le_of_lt z1) _).setCell (Nat.le_of_lt z1) _).setCell (Nat.le_of_lt z1) _).setCell (Nat.le_of_lt z1) _).alloc _, ?_, ?_, i + 1, x, by omega, by omega, by go_num, ?_, ?_, ?_⟩
                · exact ((Ext.refl _).alloc _).get (set_other (set_other (set_other (set_other f4 hzz) hzz) hzz) hzz)
                · exact ((Ext.refl _).alloc _).get (set_other (set_other (set_other (set_other f5 hzz) hzz) hzz) hzz)
                · rw [blk_past _ _ (by simpa using z3), show Value.bool false = Value.bool x.hit from by rw [b3']]
                  exact set_four HL.out
                · rw [lastOf_succ]
                  exact HX.out.symm
                · intro j hj
                  rcases Nat.lt_or_ge j i with h5 | h5
                  · exact hd.out j h5
                  · obtain rfl : j = i := by omega
                    exact hgood.out
              case measure => simp [intOf]; omega
          · go_wp2
            go_ret
            refine ⟨ret_int (checkTrack_ok ⟨hok, ⟨s1, s2, s3, s4, s5⟩, fun j hj => hd.out j (by omega)⟩).symm, hE⟩
      · go_enter Try.func35, Try.ntmps35
        go_wp2_with (first | (go_at_call 23; refine (Ext.lift (w23 t.belt _) (by first | assumption | exact Ext.refl _)).mono ?_; rintro e w' ⟨rfl, hb⟩; have hc := hb.cell))
        have hE0 : Ext w w' := ((Ext.refl _).alloc _).trans hb
        have z0 : w.heap.size < w'.heap.size := by have := hb.size; simp at this; omega
        have d4 : w'.cell? ⟨w.heap.size, 4, none⟩ = some (.int .i64 t.count) := by rw [hc w.heap.size 4 (by simp)]; simp
        have d5 : w'.cell? ⟨w.heap.size, 5, none⟩ = some (.int .i64 t.next) := by rw [hc w.heap.size 5 (by simp)]; simp
        have d6 : w'.cell? ⟨w.heap.size, 6, none⟩ = some (.slice ao t.parts.length cap) := by rw [hc w.heap.size 6 (by simp)]; simp
        refine wp_region_quiet_below (by kernel_rfl) (by kernel_rfl) ?_
        repeat (go_big_quiet_step ((first | (go_at_call 54; exact Calls.ext_of (w54 t.belt hok _)) | (go_at_call 55; exact Calls.ext_of (w55 t.belt hok t.belt.gate hg.1 hg.2 _)))))
        refine wpQuiet_nil ?_
        intro _ hw'
        obtain ⟨⟨dq, osq⟩, hw''⟩ := hw'
        subst hw''
        have hE1 : Ext w (grow (redrawn w' dq) osq) := hE0.trans (Ext.grow _ _ _)
        have e4 := (Ext.grow w' dq osq).get d4
        have e5 := (Ext.grow w' dq osq).get d5
        have e6 := (Ext.grow w' dq osq).get d6
        have z1 : w.heap.size < (grow (redrawn w' dq) osq).heap.size := Nat.lt_of_lt_of_le z0 (Ext.grow w' dq osq).size
        generalize grow (redrawn w' dq) osq = wg at hE1 e4 e5 e6 z1
        clear d4 d5 d6 hc
        go_wp2
        go_loopw [50] (fun v wr => Ext w wr ∧ wr.cell? ⟨w.heap.size, 4, none⟩ = some (.int .i64 t.count) ∧ wr.cell? ⟨w.heap.size, 5, none⟩ = some (.int .i64 t.next) ∧
            ∃ (i : Nat) (l : Seen), i ≤ t.parts.length ∧ -1 ≤ l.at_ ∧ v = .int .i64 i ∧ wr.heap[wg.heap.size]? = some (.cells #[.int .i64 l.id, .int .i64 l.at_, .int .u8 l.verdict, .bool l.hit] 63 (0, 0)) ∧ Hid (l = lastOf t.parts i) ∧ Hid (∀ j, j < i → partOk t (lastOf t.parts j) (t.parts.getD j seen0))) (fun v _ => t.parts.length - (intOf v).toNat)
        case atStart =>
          refine ⟨hE1.alloc _, ((Ext.refl _).alloc _).get e4, ((Ext.refl _).alloc _).get e5, 0, seen0, Nat.zero_le _, by decide, rfl, ?_, rfl, fun j hj => by omega⟩
          exact blk_at _ _ rfl
        case round =>
          obtain ⟨hE, f4, f5, i, l, hi, hla, rfl, hl, hl2, hd⟩ := hrel
          by_cases hil : i < t.parts.length
          · rcases HV.out.cases with ⟨h0, -⟩ | ⟨h0, b, off, cap', hv3, -, -, x3⟩
            · rw [h0] at hil; simp at hil
            injection hv3 with hv4 hv5 hv6
            subst hv4
            clear hv5 hv6
            obtain ⟨y0, y1, y2, y3⟩ := x3 i hil
            generalize hx : t.parts.getD i seen0 = x at y0 y1 y2 y3
            have HX := Lib.hid hx
            replace y0 := hE.get y0
            replace y1 := hE.get y1
            replace y2 := hE.get y2
            replace y3 := hE.get y3
            clear x3 hx
            have c0 := cell_of_at hl 0 rfl
            have c1 := cell_of_at hl 1 rfl
            have c2 := cell_of_at hl 2 rfl
            have c3 := cell_of_at hl 3 rfl
            have n0 := free_of_at hl 0
            have n1 := free_of_at hl 1
            have n2 := free_of_at hl 2
            have n3 := free_of_at hl 3
            have HL := Lib.hid hl
            have z3 := World.block_lt_of_cell? _ _ c0
            have z4 := World.block_lt_of_cell? _ _ f4
            have z5 := World.block_lt_of_cell? _ _ y0
            clear hl
            have HB : Hid (partOk t (lastOf t.parts i) (t.parts.getD i seen0) ↔ (l.id < x.id ∧ x.id < t.next ∧ l.at_ < x.at_ ∧ x.at_ ≤ t.count ∧ t.count < x.at_ + winTo t.belt t.belt.gate ∧ x.verdict ≤ 3 ∧ (x.hit = true → x.at_ + winFrom t.belt t.belt.gate ≤ t.count))) := by
              rw [← hl2.out, HX.out]
              exact Iff.rfl
            clear hl2
            obtain ⟨w1, w2⟩ := to_bd hok hg.1 hg.2
            obtain ⟨w3, w4⟩ := from_bd hok hg.1 hg.2
            by_cases a1 : l.id < x.id
            case neg => (go_wp2; go_ret; exact ⟨ret_int (checkTrack_parts hok hil (fun h => by have h9 := HB.out.1 h; obtain ⟨p1, p2, p3, p4, p5, p6, p7⟩ := h9; omega)).symm, hE.alloc _⟩)
            by_cases a2 : x.id < t.next
            case neg => (go_wp2; go_ret; exact ⟨ret_int (checkTrack_parts hok hil (fun h => by have h9 := HB.out.1 h; obtain ⟨p1, p2, p3, p4, p5, p6, p7⟩ := h9; omega)).symm, hE.alloc _⟩)
            by_cases a3 : l.at_ < x.at_
            case neg => (go_wp2; go_ret; exact ⟨ret_int (checkTrack_parts hok hil (fun h => by have h9 := HB.out.1 h; obtain ⟨p1, p2, p3, p4, p5, p6, p7⟩ := h9; omega)).symm, hE.alloc _⟩)
            by_cases a4 : x.at_ ≤ t.count
            case neg => (go_wp2; go_ret; exact ⟨ret_int (checkTrack_parts hok hil (fun h => by have h9 := HB.out.1 h; obtain ⟨p1, p2, p3, p4, p5, p6, p7⟩ := h9; omega)).symm, hE.alloc _⟩)
            by_cases b1 : x.at_ + winTo t.belt t.belt.gate ≤ t.count
            case pos => (go_wp2; go_ret; exact ⟨ret_int (checkTrack_parts hok hil (fun h => by have h9 := HB.out.1 h; obtain ⟨p1, p2, p3, p4, p5, p6, p7⟩ := h9; omega)).symm, hE.alloc _⟩)
            by_cases b2 : 3 < x.verdict
            case pos => (go_wp2; go_ret; exact ⟨ret_int (checkTrack_parts hok hil (fun h => by have h9 := HB.out.1 h; obtain ⟨p1, p2, p3, p4, p5, p6, p7⟩ := h9; omega)).symm, hE.alloc _⟩)
            by_cases b3 : x.hit = true
            · by_cases b4 : t.count < x.at_ + winFrom t.belt t.belt.gate
              case pos => (go_wp2; go_ret; exact ⟨ret_int (checkTrack_parts hok hil (fun h => by have h9 := HB.out.1 h; obtain ⟨p1, p2, p3, p4, p5, p6, p7⟩ := h9; have := p7 b3; omega)).symm, hE.alloc _⟩)
              have hgood := Lib.hid (HB.out.2 ⟨a1, a2, a3, a4, by omega, by omega, fun _ => by omega⟩)
              clear HB
              go_wp2
              go_roundw
              case rel =>
                have hzz : w.heap.size ≠ wg.heap.size := by omega
                refine ⟨((((hE.setCell (Nat.le_of_lt z1) _).setCell (Nat.le_of_lt z1) _).setCell (Nat.le_of_lt z1) _).setCell (Nat.le_of_lt z1) _).alloc _, ?_, ?_, i + 1, x, by omega, by omega, by go_num, ?_, ?_, ?_⟩
                · exact ((Ext.refl _).alloc _).get (set_other (set_other (set_other (set_other f4 hzz) hzz) hzz) hzz)
                · exact ((Ext.refl _).alloc _).get (set_other (set_other (set_other (set_other f5 hzz) hzz) hzz) hzz)
                · rw [blk_past _ _ (by simpa using z3), show Value.bool true = Value.bool x.hit from by rw [b3]]
                  exact set_four HL.out
                · rw [lastOf_succ]
                  exact HX.out.symm
                · intro j hj
                  rcases Nat.lt_or_ge j i with h5 | h5
                  · exact hd.out j h5
                  · obtain rfl : j = i := by omega
                    exact hgood.out
              case measure => simp [intOf]; omega
            · have hgood := Lib.hid (HB.out.2 ⟨a1, a2, a3, a4, by omega, by omega, fun h => absurd h b3⟩)
              clear HB
              have b3' : x.hit = false := by simpa using b3
              go_wp2
              go_roundw
              case rel =>
                have hzz : w.heap.size ≠ wg.heap.size := by omega
                refine ⟨((((hE.setCell (Nat.le_of_lt z1) _).setCell (Nat.le_of_lt z1) _).setCell (Nat.le_of_lt z1) _).setCell (Nat.le_of_lt z1) _).alloc _, ?_, ?_, i + 1, x, by omega, by omega, by go_num, ?_, ?_, ?_⟩
                · exact ((Ext.refl _).alloc _).get (set_other (set_other (set_other (set_other f4 hzz) hzz) hzz) hzz)
                · exact ((Ext.refl _).alloc _).get (set_other (set_other (set_other (set_other f5 hzz) hzz) hzz) hzz)
                · rw [blk_past _ _ (by simpa using z3), show Value.bool false = Value.bool x.hit from by rw [b3']]
                  exact set_four HL.out
                · rw [lastOf_succ]
                  exact HX.out.symm
                · intro j hj
                  rcases Nat.lt_or_ge j i with h5 | h5
                  · exact hd.out j h5
                  · obtain rfl : j = i := by omega
                    exact hgood.out
              case measure => simp [intOf]; omega
          · go_wp2
            go_ret
            refine ⟨ret_int (checkTrack_ok ⟨hok, ⟨s1, s2, s3, s4, s5⟩, fun j hj => hd.out j (by omega)⟩).symm, hE⟩
      · go_enter Try.func35, Try.ntmps35
        go_wp2_with (first | (go_at_call 23; refine (Ext.lift (w23 t.belt _) (by first | assumption | exact Ext.refl _)).mono ?_; rintro e w' ⟨rfl, hb⟩; have hc := hb.cell))
        have hE0 : Ext w w' := ((Ext.refl _).alloc _).trans hb
        have z0 : w.heap.size < w'.heap.size := by have := hb.size; simp at this; omega
        have d4 : w'.cell? ⟨w.heap.size, 4, none⟩ = some (.int .i64 t.count) := by rw [hc w.heap.size 4 (by simp)]; simp
        have d5 : w'.cell? ⟨w.heap.size, 5, none⟩ = some (.int .i64 t.next) := by rw [hc w.heap.size 5 (by simp)]; simp
        have d6 : w'.cell? ⟨w.heap.size, 6, none⟩ = some (.slice ao t.parts.length cap) := by rw [hc w.heap.size 6 (by simp)]; simp
        refine wp_region_quiet_below (by kernel_rfl) (by kernel_rfl) ?_
        repeat (go_big_quiet_step ((first | (go_at_call 54; exact Calls.ext_of (w54 t.belt hok _)) | (go_at_call 55; exact Calls.ext_of (w55 t.belt hok t.belt.gate hg.1 hg.2 _)))))
        refine wpQuiet_nil ?_
        intro _ hw'
        obtain ⟨⟨dq, osq⟩, hw''⟩ := hw'
        subst hw''
        have hE1 : Ext w (grow (redrawn w' dq) osq) := hE0.trans (Ext.grow _ _ _)
        have e4 := (Ext.grow w' dq osq).get d4
        have e5 := (Ext.grow w' dq osq).get d5
        have e6 := (Ext.grow w' dq osq).get d6
        have z1 : w.heap.size < (grow (redrawn w' dq) osq).heap.size := Nat.lt_of_lt_of_le z0 (Ext.grow w' dq osq).size
        generalize grow (redrawn w' dq) osq = wg at hE1 e4 e5 e6 z1
        clear d4 d5 d6 hc
        go_wp2
        go_loopw [50] (fun v wr => Ext w wr ∧ wr.cell? ⟨w.heap.size, 4, none⟩ = some (.int .i64 t.count) ∧ wr.cell? ⟨w.heap.size, 5, none⟩ = some (.int .i64 t.next) ∧
            ∃ (i : Nat) (l : Seen), i ≤ t.parts.length ∧ -1 ≤ l.at_ ∧ v = .int .i64 i ∧ wr.heap[wg.heap.size]? = some (.cells #[.int .i64 l.id, .int .i64 l.at_, .int .u8 l.verdict, .bool l.hit] 63 (0, 0)) ∧ Hid (l = lastOf t.parts i) ∧ Hid (∀ j, j < i → partOk t (lastOf t.parts j) (t.parts.getD j seen0))) (fun v _ => t.parts.length - (intOf v).toNat)
        case atStart =>
          refine ⟨hE1.alloc _, ((Ext.refl _).alloc _).get e4, ((Ext.refl _).alloc _).get e5, 0, seen0, Nat.zero_le _, by decide, rfl, ?_, rfl, fun j hj => by omega⟩
          exact blk_at _ _ rfl
        case round =>
          obtain ⟨hE, f4, f5, i, l, hi, hla, rfl, hl, hl2, hd⟩ := hrel
          by_cases hil : i < t.parts.length
          · rcases HV.out.cases with ⟨h0, -⟩ | ⟨h0, b, off, cap', hv3, -, -, x3⟩
            · rw [h0] at hil; simp at hil
            injection hv3 with hv4 hv5 hv6
            subst hv4
            clear hv5 hv6
            obtain ⟨y0, y1, y2, y3⟩ := x3 i hil
            generalize hx : t.parts.getD i seen0 = x at y0 y1 y2 y3
            have HX := Lib.hid hx
            replace y0 := hE.get y0
            replace y1 := hE.get y1
            replace y2 := hE.get y2
            replace y3 := hE.get y3
            clear x3 hx
            have c0 := cell_of_at hl 0 rfl
            have c1 := cell_of_at hl 1 rfl
            have c2 := cell_of_at hl 2 rfl
            have c3 := cell_of_at hl 3 rfl
            have n0 := free_of_at hl 0
            have n1 := free_of_at hl 1
            have n2 := free_of_at hl 2
            have n3 := free_of_at hl 3
            have HL := Lib.hid hl
            have z3 := World.block_lt_of_cell? _ _ c0
            have z4 := World.block_lt_of_cell? _ _ f4
            have z5 := World.block_lt_of_cell? _ _ y0
            clear hl
            have HB : Hid (partOk t (lastOf t.parts i) (t.parts.getD i seen0) ↔ (l.id < x.id ∧ x.id < t.next ∧ l.at_ < x.at_ ∧ x.at_ ≤ t.count ∧ t.count < x.at_ + winTo t.belt t.belt.gate ∧ x.verdict ≤ 3 ∧ (x.hit = true → x.at_ + winFrom t.belt t.belt.gate ≤ t.count))) := by
              rw [← hl2.out, HX.out]
              exact Iff.rfl
            clear hl2
            obtain ⟨w1, w2⟩ := to_bd hok hg.1 hg.2
            obtain ⟨w3, w4⟩ := from_bd hok hg.1 hg.2
            by_cases a1 : l.id < x.id
            case neg => (go_wp2; go_ret; exact ⟨ret_int (checkTrack_parts hok hil (fun h => by have h9 := HB.out.1 h; obtain ⟨p1, p2, p3, p4, p5, p6, p7⟩ := h9; omega)).symm, hE.alloc _⟩)
            by_cases a2 : x.id < t.next
            case neg => (go_wp2; go_ret; exact ⟨ret_int (checkTrack_parts hok hil (fun h => by have h9 := HB.out.1 h; obtain ⟨p1, p2, p3, p4, p5, p6, p7⟩ := h9; omega)).symm, hE.alloc _⟩)
            by_cases a3 : l.at_ < x.at_
            case neg => (go_wp2; go_ret; exact ⟨ret_int (checkTrack_parts hok hil (fun h => by have h9 := HB.out.1 h; obtain ⟨p1, p2, p3, p4, p5, p6, p7⟩ := h9; omega)).symm, hE.alloc _⟩)
            by_cases a4 : x.at_ ≤ t.count
            case neg => (go_wp2; go_ret; exact ⟨ret_int (checkTrack_parts hok hil (fun h => by have h9 := HB.out.1 h; obtain ⟨p1, p2, p3, p4, p5, p6, p7⟩ := h9; omega)).symm, hE.alloc _⟩)
            by_cases b1 : x.at_ + winTo t.belt t.belt.gate ≤ t.count
            case pos => (go_wp2; go_ret; exact ⟨ret_int (checkTrack_parts hok hil (fun h => by have h9 := HB.out.1 h; obtain ⟨p1, p2, p3, p4, p5, p6, p7⟩ := h9; omega)).symm, hE.alloc _⟩)
            by_cases b2 : 3 < x.verdict
            case pos => (go_wp2; go_ret; exact ⟨ret_int (checkTrack_parts hok hil (fun h => by have h9 := HB.out.1 h; obtain ⟨p1, p2, p3, p4, p5, p6, p7⟩ := h9; omega)).symm, hE.alloc _⟩)
            by_cases b3 : x.hit = true
            · by_cases b4 : t.count < x.at_ + winFrom t.belt t.belt.gate
              case pos => (go_wp2; go_ret; exact ⟨ret_int (checkTrack_parts hok hil (fun h => by have h9 := HB.out.1 h; obtain ⟨p1, p2, p3, p4, p5, p6, p7⟩ := h9; have := p7 b3; omega)).symm, hE.alloc _⟩)
              have hgood := Lib.hid (HB.out.2 ⟨a1, a2, a3, a4, by omega, by omega, fun _ => by omega⟩)
              clear HB
              go_wp2
              go_roundw
              case rel =>
                have hzz : w.heap.size ≠ wg.heap.size := by omega
                refine ⟨((((hE.setCell (Nat.le_of_lt z1) _).setCell (Nat.le_of_lt z1) _).setCell (Nat.le_of_lt z1) _).setCell (Nat.le_of_lt z1) _).alloc _, ?_, ?_, i + 1, x, by omega, by omega, by go_num, ?_, ?_, ?_⟩
                · exact ((Ext.refl _).alloc _).get (set_other (set_other (set_other (set_other f4 hzz) hzz) hzz) hzz)
                · exact ((Ext.refl _).alloc _).get (set_other (set_other (set_other (set_other f5 hzz) hzz) hzz) hzz)
                · rw [blk_past _ _ (by simpa using z3), show Value.bool true = Value.bool x.hit from by rw [b3]]
                  exact set_four HL.out
                · rw [lastOf_succ]
                  exact HX.out.symm
                · intro j hj
                  rcases Nat.lt_or_ge j i with h5 | h5
                  · exact hd.out j h5
                  · obtain rfl : j = i := by omega
                    exact hgood.out
              case measure => simp [intOf]; omega
            · have hgood := Lib.hid (HB.out.2 ⟨a1, a2, a3, a4, by omega, by omega, fun h => absurd h b3⟩)
              clear HB
              have b3' : x.hit = false := by simpa using b3
              go_wp2
              go_roundw
              case rel =>
                have hzz : w.heap.size ≠ wg.heap.size := by omega
                refine ⟨((((hE.setCell (Nat.le_of_lt z1) _).setCell (Nat.le_of_lt z1) _).setCell (Nat.le_of_lt z1) _).setCell (Nat.le_of_lt z1) _).alloc _, ?_, ?_, i + 1, x, by omega, by omega, by go_num, ?_, ?_, ?_⟩
                · exact ((Ext.refl _).alloc _).get (set_other (set_other (set_other (set_other f4 hzz) hzz) hzz) hzz)
                · exact ((Ext.refl _).alloc _).get (set_other (set_other (set_other (set_other f5 hzz) hzz) hzz) hzz)
                · rw [blk_past _ _ (by simpa using z3), show Value.bool false = Value.bool x.hit from by rw [b3']]
                  exact set_four HL.out
                · rw [lastOf_succ]
                  exact HX.out.symm
                · intro j hj
                  rcases Nat.lt_or_ge j i with h5 | h5
                  · exact hd.out j h5
                  · obtain rfl : j = i := by omega
                    exact hgood.out
              case measure => simp [intOf]; omega
          · go_wp2
            go_ret
            refine ⟨ret_int (checkTrack_ok ⟨hok, ⟨s1, s2, s3, s4, s5⟩, fun j hj => hd.out j (by omega)⟩).symm, hE⟩
    · have hm : checkTrack t = 8 := checkTrack_bad hok hs
      rw [hm]
      clear hm
      have g6 : t.count < t.next ∧ ¬ t.next < t.count ∨ ¬ t.count < t.next ∧ t.next < t.count ∨ ¬ t.count < t.next ∧ ¬ t.next < t.count := by omega
      have hs' : (t.count < 0 ∨ t.next < 0) ∨ (0 ≤ t.count ∧ 0 ≤ t.next ∧ (1099511627776 < t.count ∨ 1099511627776 < t.next)) ∨ (0 ≤ t.count ∧ 0 ≤ t.next ∧ t.count ≤ 1099511627776 ∧ t.next ≤ 1099511627776 ∧ 32 < t.parts.length) := by
        unfold sane at hs
        omega
      clear hs
      rcases g6 with ⟨g6, g7⟩ | ⟨g6, g7⟩ | ⟨g6, g7⟩ <;> rcases hs' with h | ⟨h1, h2, h⟩ | ⟨h1, h2, h3, h4, h⟩
      · have g1 : decide (t.count < 0) = true := decide_eq_true (by omega)
        go_enter Try.func35, Try.ntmps35
        go_wp2_with (first | (go_at_call 23; refine (Ext.lift (w23 t.belt _) (by first | assumption | exact Ext.refl _)).mono ?_; rintro e w' ⟨rfl, hb⟩; have hc := hb.cell))
        go_ret
        exact ⟨rfl, ((Ext.refl _).alloc _).trans hb⟩
      · have g1 : decide (t.count < 0) = false := decide_eq_false (by omega)
        have g2 : decide (1099511627776 < t.next) = true := decide_eq_true (by omega)
        go_enter Try.func35, Try.ntmps35
        go_wp2_with (first | (go_at_call 23; refine (Ext.lift (w23 t.belt _) (by first | assumption | exact Ext.refl _)).mono ?_; rintro e w' ⟨rfl, hb⟩; have hc := hb.cell))
        go_ret
        exact ⟨rfl, ((Ext.refl _).alloc _).trans hb⟩
      · have g1 : decide (t.count < 0) = false := decide_eq_false (by omega)
        have g2 : decide (1099511627776 < t.next) = false := decide_eq_false (by omega)
        have g3 : decide ((32 : Int) < (t.parts.length : Int)) = true := decide_eq_true (by omega)
        go_enter Try.func35, Try.ntmps35
        go_wp2_with (first | (go_at_call 23; refine (Ext.lift (w23 t.belt _) (by first | assumption | exact Ext.refl _)).mono ?_; rintro e w' ⟨rfl, hb⟩; have hc := hb.cell))
        go_ret
        exact ⟨rfl, ((Ext.refl _).alloc _).trans hb⟩
      · have g1 : decide (t.next < 0) = true := decide_eq_true (by omega)
        go_enter Try.func35, Try.ntmps35
        go_wp2_with (first | (go_at_call 23; refine (Ext.lift (w23 t.belt _) (by first | assumption | exact Ext.refl _)).mono ?_; rintro e w' ⟨rfl, hb⟩; have hc := hb.cell))
        go_ret
        exact ⟨rfl, ((Ext.refl _).alloc _).trans hb⟩
      · have g1 : decide (t.next < 0) = false := decide_eq_false (by omega)
        have g2 : decide (1099511627776 < t.count) = true := decide_eq_true (by omega)
        go_enter Try.func35, Try.ntmps35
        go_wp2_with (first | (go_at_call 23; refine (Ext.lift (w23 t.belt _) (by first | assumption | exact Ext.refl _)).mono ?_; rintro e w' ⟨rfl, hb⟩; have hc := hb.cell))
        go_ret
        exact ⟨rfl, ((Ext.refl _).alloc _).trans hb⟩
      · have g1 : decide (t.next < 0) = false := decide_eq_false (by omega)
        have g2 : decide (1099511627776 < t.count) = false := decide_eq_false (by omega)
        have g3 : decide ((32 : Int) < (t.parts.length : Int)) = true := decide_eq_true (by omega)
        go_enter Try.func35, Try.ntmps35
        go_wp2_with (first | (go_at_call 23; refine (Ext.lift (w23 t.belt _) (by first | assumption | exact Ext.refl _)).mono ?_; rintro e w' ⟨rfl, hb⟩; have hc := hb.cell))
        go_ret
        exact ⟨rfl, ((Ext.refl _).alloc _).trans hb⟩
      · have g1 : decide (t.count < 0) = true := decide_eq_true (by omega)
        go_enter Try.func35, Try.ntmps35
        go_wp2_with (first | (go_at_call 23; refine (Ext.lift (w23 t.belt _) (by first | assumption | exact Ext.refl _)).mono ?_; rintro e w' ⟨rfl, hb⟩; have hc := hb.cell))
        go_ret
        exact ⟨rfl, ((Ext.refl _).alloc _).trans hb⟩
      · have g1 : decide (t.count < 0) = false := decide_eq_false (by omega)
        have g2 : decide (1099511627776 < t.count) = true := decide_eq_true (by omega)
        go_enter Try.func35, Try.ntmps35
        go_wp2_with (first | (go_at_call 23; refine (Ext.lift (w23 t.belt _) (by first | assumption | exact Ext.refl _)).mono ?_; rintro e w' ⟨rfl, hb⟩; have hc := hb.cell))
        go_ret
        exact ⟨rfl, ((Ext.refl _).alloc _).trans hb⟩
      · have g1 : decide (t.count < 0) = false := decide_eq_false (by omega)
        have g2 : decide (1099511627776 < t.count) = false := decide_eq_false (by omega)
        have g3 : decide ((32 : Int) < (t.parts.length : Int)) = true := decide_eq_true (by omega)
        go_enter Try.func35, Try.ntmps35
        go_wp2_with (first | (go_at_call 23; refine (Ext.lift (w23 t.belt _) (by first | assumption | exact Ext.refl _)).mono ?_; rintro e w' ⟨rfl, hb⟩; have hc := hb.cell))
        go_ret
        exact ⟨rfl, ((Ext.refl _).alloc _).trans hb⟩
  · have hcb : checkBelt t.belt = 90 := checkBelt_no hok
    have hm : checkTrack t = 90 := checkTrack_no hok
    rw [hm]
    clear hm
    go_enter Try.func35, Try.ntmps35
    go_wp2_with (first | (go_at_call 23; refine (Ext.lift (w23 t.belt _) (by first | assumption | exact Ext.refl _)).mono ?_; rintro e w' ⟨rfl, hb⟩; have hc := hb.cell))
    go_ret
    exact ⟨rfl, ((Ext.refl _).alloc _).trans hb⟩
end Go.Proofs.Ytcbimfaneinpkaa
