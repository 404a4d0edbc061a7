/- The walks of the reference's Match, of SameLists, and of the law. -/
import Derived.Test.YtcbimfaneinpkaaMatch
set_option linter.unusedVariables false
set_option linter.unusedSimpArgs false
namespace Go.Proofs.Ytcbimfaneinpkaa
open Go.RowKit Go.Sort

set_option maxRecDepth 100000 in
set_option maxHeartbeats 1000000 in
theorem w26 (b : Belt) (fi se : List Int) (v1 v2 : Value) (w : World) (h1 : IntsAt w v1 fi) (h2 : IntsAt w v2 se) (l1 : fi.length ≤ 50) (l2 : se.length ≤ 50) :
    Calls Try.prog 26 #[.agg #[.int .i64 b.step, .int .i64 b.slip, .int .i64 b.gate, .int .i64 b.length], v1, v2] w (OwnMatch (matched b fi se) w) := by
  have H1 := Lib.hid h1
  have H2 := Lib.hid h2
  obtain ⟨q1, a1, c1, rfl, -⟩ := h1
  obtain ⟨q2, a2, c2, rfl, -⟩ := h2
  by_cases hok : b.ok
  · have hcb : decide b.ok = true := decide_eq_true hok
    by_cases hlen : fi.length ≤ 10 ∧ se.length ≤ 10
    · obtain ⟨l1', l2'⟩ := hlen
      have g1 : decide ((10 : Int) < (fi.length : Int)) = false := decide_eq_false (by omega)
      have g2 : decide ((10 : Int) < (se.length : Int)) = false := decide_eq_false (by omega)
      by_cases i1 : Incr fi
      · by_cases i2 : Incr se
        · have hm : matched b fi se = if choose b fi se se.length [] = [] then ([], 6) else (choose b fi se se.length [], 0) := by simp [matched, hok, l1', l2', i1, i2]
          obtain ⟨r, hr⟩ : ∃ r, r = matched b fi se := ⟨_, rfl⟩
          rw [← hr]
          rw [← hr] at hm
          have HM := Lib.hid hm
          clear hm hr
          have hi1 : decide (Incr fi) = true := decide_eq_true i1
          have hi2 : decide (Incr se) = true := decide_eq_true i2
          have I1 := Lib.hid i1
          have I2 := Lib.hid i2
          clear i1 i2
          have hxe := extended_eq b fi se se.length [] (by intro j hj; simp at hj) (by intro j hj; simp at hj)
          have hcs : ∃ cs, choose b fi se se.length [] = cs := ⟨_, rfl⟩
          obtain ⟨cs, hcs⟩ := hcs
          rw [hcs] at HM hxe
          have HC := Lib.hid hxe
          have hz : cs.length = 0 ∨ cs.length ≠ 0 := by omega
          clear hcs hxe
          rcases hz with hz | hz
          · have hz2 : ((cs.length : Int) == 0) = true := by simp; exact List.eq_nil_of_length_eq_zero hz
            have hr : r = ([], 6) := by rw [HM.out, if_pos (List.eq_nil_of_length_eq_zero hz)]
            subst hr
            clear hz HM
            go_enter Try.func26, Try.ntmps26
            go_wp2_with (first | (go_at_call 44; refine (Ext.lift (w44 b _) (by first | assumption | exact Ext.refl _)).mono ?_; rintro e w' ⟨rfl, hb⟩; have y1 := H1.out.ext (((Ext.refl w).alloc _).trans hb); have hc := hb.cell) | (have y4 := y3; go_at_call 61; refine (Ext.lift (w61 se _ _ y3 (by omega)) (by first | assumption | exact Ext.refl _)).mono ?_; rintro e w' ⟨rfl, hb⟩; have hc := hb.cell) | (go_at_call 61; refine (Ext.lift (w61 fi _ _ y1 (by omega)) (by first | assumption | exact Ext.refl _)).mono ?_; rintro e w' ⟨rfl, hb⟩; have y3 := H2.out.ext (((Ext.refl w).alloc _).trans hb); have hc := hb.cell) | (go_at_call 62; refine (w62 b hok fi se _ _ I1.out I2.out l1' l2' se.length [] _ w' (H1.out.ext (((Ext.refl w).alloc _).trans hb)) (H2.out.ext (((Ext.refl w).alloc _).trans hb)) ⟨rfl, .inl ⟨rfl, rfl⟩⟩ (by simp) (by intro m hm; simp at hm)).mono ?_; rw [HC.out]; rintro e w2 ⟨v', vs, rfl, ho', hL', hE'⟩; have hE := (((Ext.refl w).alloc _).trans hb).trans hE'; have hsl := SlAt.of_owns ho'; obtain ⟨-, sa, sc, rfl, -⟩ := hsl; have ho := Lib.hid (owns_base ho' (Nat.zero_le _)); have hL := Lib.hid hL'; clear ho' hL'))
            all_goals (go_ret2; exact OwnMatch.none hE)
          · have hz2 : ((cs.length : Int) == 0) = false := by simp; intro h; simp [h] at hz
            have hr : r = (cs, 0) := by rw [HM.out, if_neg (fun h => hz (by simp [h]))]
            subst hr
            clear hz HM
            go_enter Try.func26, Try.ntmps26
            go_wp2_with (first | (go_at_call 44; refine (Ext.lift (w44 b _) (by first | assumption | exact Ext.refl _)).mono ?_; rintro e w' ⟨rfl, hb⟩; have y1 := H1.out.ext (((Ext.refl w).alloc _).trans hb); have hc := hb.cell) | (have y4 := y3; go_at_call 61; refine (Ext.lift (w61 se _ _ y3 (by omega)) (by first | assumption | exact Ext.refl _)).mono ?_; rintro e w' ⟨rfl, hb⟩; have hc := hb.cell) | (go_at_call 61; refine (Ext.lift (w61 fi _ _ y1 (by omega)) (by first | assumption | exact Ext.refl _)).mono ?_; rintro e w' ⟨rfl, hb⟩; have y3 := H2.out.ext (((Ext.refl w).alloc _).trans hb); have hc := hb.cell) | (go_at_call 62; refine (w62 b hok fi se _ _ I1.out I2.out l1' l2' se.length [] _ w' (H1.out.ext (((Ext.refl w).alloc _).trans hb)) (H2.out.ext (((Ext.refl w).alloc _).trans hb)) ⟨rfl, .inl ⟨rfl, rfl⟩⟩ (by simp) (by intro m hm; simp at hm)).mono ?_; rw [HC.out]; rintro e w2 ⟨v', vs, rfl, ho', hL', hE'⟩; have hE := (((Ext.refl w).alloc _).trans hb).trans hE'; have hsl := SlAt.of_owns ho'; obtain ⟨-, sa, sc, rfl, -⟩ := hsl; have ho := Lib.hid (owns_base ho' (Nat.zero_le _)); have hL := Lib.hid hL'; clear ho' hL'))
            all_goals (go_ret2; exact ⟨_, vs, rfl, ho.out, hL.out, hE⟩)
        · have hm : matched b fi se = ([], 2) := by simp [matched, hok, l1', l2', i1, i2]
          rw [hm]
          clear hm
          have hi1 : decide (Incr fi) = true := decide_eq_true i1
          have hi2 : decide (Incr se) = false := decide_eq_false i2
          clear i1 i2
          go_enter Try.func26, Try.ntmps26
          go_wp2_with (first | (go_at_call 44; refine (Ext.lift (w44 b _) (by first | assumption | exact Ext.refl _)).mono ?_; rintro e w' ⟨rfl, hb⟩; have y1 := H1.out.ext (((Ext.refl w).alloc _).trans hb); have hc := hb.cell) | (have y4 := y3; go_at_call 61; refine (Ext.lift (w61 se _ _ y3 (by omega)) (by first | assumption | exact Ext.refl _)).mono ?_; rintro e w' ⟨rfl, hb⟩; have hc := hb.cell) | (go_at_call 61; refine (Ext.lift (w61 fi _ _ y1 (by omega)) (by first | assumption | exact Ext.refl _)).mono ?_; rintro e w' ⟨rfl, hb⟩; have y3 := H2.out.ext (((Ext.refl w).alloc _).trans hb); have hc := hb.cell))
          all_goals (go_ret2; exact OwnMatch.none (((Ext.refl _).alloc _).trans (by assumption)))
      · have hm : matched b fi se = ([], 2) := by simp [matched, hok, l1', l2', i1]
        rw [hm]
        clear hm
        have hi1 : decide (Incr fi) = false := decide_eq_false i1
        clear i1
        go_enter Try.func26, Try.ntmps26
        go_wp2_with (first | (go_at_call 44; refine (Ext.lift (w44 b _) (by first | assumption | exact Ext.refl _)).mono ?_; rintro e w' ⟨rfl, hb⟩; have y1 := H1.out.ext (((Ext.refl w).alloc _).trans hb); have hc := hb.cell) | (go_at_call 61; refine (Ext.lift (w61 fi _ _ y1 (by omega)) (by first | assumption | exact Ext.refl _)).mono ?_; rintro e w' ⟨rfl, hb⟩; have y3 := H2.out.ext (((Ext.refl w).alloc _).trans hb); have hc := hb.cell))
        all_goals (go_ret2; exact OwnMatch.none (((Ext.refl _).alloc _).trans (by assumption)))
    · have hm : matched b fi se = ([], 4) := by simp [matched, hok, hlen]
      rw [hm]
      clear hm
      rcases Nat.lt_or_ge 10 fi.length with e1 | e1 <;> rcases Nat.lt_or_ge 10 se.length with e2 | e2
      · have g1 : decide ((10 : Int) < (fi.length : Int)) = true := decide_eq_true (by omega)
        have g2 : decide ((10 : Int) < (se.length : Int)) = true := decide_eq_true (by omega)
        go_enter Try.func26, Try.ntmps26
        go_wp2_with (first | (go_at_call 44; refine (Ext.lift (w44 b _) (by first | assumption | exact Ext.refl _)).mono ?_; rintro e w' ⟨rfl, hb⟩; have y1 := H1.out.ext (((Ext.refl w).alloc _).trans hb); have hc := hb.cell))
        all_goals (go_ret2; exact OwnMatch.none (((Ext.refl _).alloc _).trans (by assumption)))
      · have g1 : decide ((10 : Int) < (fi.length : Int)) = true := decide_eq_true (by omega)
        have g2 : decide ((10 : Int) < (se.length : Int)) = false := decide_eq_false (by omega)
        go_enter Try.func26, Try.ntmps26
        go_wp2_with (first | (go_at_call 44; refine (Ext.lift (w44 b _) (by first | assumption | exact Ext.refl _)).mono ?_; rintro e w' ⟨rfl, hb⟩; have y1 := H1.out.ext (((Ext.refl w).alloc _).trans hb); have hc := hb.cell))
        all_goals (go_ret2; exact OwnMatch.none (((Ext.refl _).alloc _).trans (by assumption)))
      · have g1 : decide ((10 : Int) < (fi.length : Int)) = false := decide_eq_false (by omega)
        have g2 : decide ((10 : Int) < (se.length : Int)) = true := decide_eq_true (by omega)
        go_enter Try.func26, Try.ntmps26
        go_wp2_with (first | (go_at_call 44; refine (Ext.lift (w44 b _) (by first | assumption | exact Ext.refl _)).mono ?_; rintro e w' ⟨rfl, hb⟩; have y1 := H1.out.ext (((Ext.refl w).alloc _).trans hb); have hc := hb.cell))
        all_goals (go_ret2; exact OwnMatch.none (((Ext.refl _).alloc _).trans (by assumption)))
      · exact absurd ⟨by omega, by omega⟩ hlen
  · have hcb : decide b.ok = false := decide_eq_false hok
    have hm : matched b fi se = ([], 90) := by simp [matched, hok]
    rw [hm]
    clear hm
    go_enter Try.func26, Try.ntmps26
    go_wp2_with (first | (go_at_call 44; refine (Ext.lift (w44 b _) (by first | assumption | exact Ext.refl _)).mono ?_; rintro e w' ⟨rfl, hb⟩; have y1 := H1.out.ext (((Ext.refl w).alloc _).trans hb); have hc := hb.cell))
    go_ret2
    exact OwnMatch.none (((Ext.refl _).alloc _).trans (by assumption))

set_option maxRecDepth 100000 in
set_option maxHeartbeats 1000000 in
theorem w27 (r : List (List Nat)) (v1 v2 : Value) (vs1 vs2 : List Value) (w : World) (o1 : w.ownsRow 0 37 1 v1 r.length vs1) (l1 : Ls w vs1 r) (o2 : w.ownsRow 0 37 1 v2 r.length vs2) (l2 : Ls w vs2 r) (hr : r.length ≤ 10000000000) (hrl : ∀ i, i < r.length → (r.getD i []).length ≤ 10000000000) :
    Calls Try.prog 27 #[v1, v2] w fun e w' => e = .returned (.bool true) ∧ Ext w w' := by
  rcases SlAt.cases (by omega) (SlAt.of_owns o1) with ⟨e0, -, a1, c1, rfl, -⟩ | ⟨h0, b1, f1, c1, rfl, -, -, x1⟩
  · rcases SlAt.cases (by omega) (SlAt.of_owns o2) with ⟨-, -, a2, c2, rfl, -⟩ | ⟨h0, -⟩
    · go_enter Try.func27, Try.ntmps27
      go_wp2
      go_loop [5] (fun i => i = .int .i64 0) (fun _ => 0)
      case atStart => rfl
      case round =>
        subst hrel
        go_wp2
        go_ret
        exact ⟨rfl, Ext.refl _⟩
    · omega
  · rcases SlAt.cases (by omega) (SlAt.of_owns o2) with ⟨h1, -⟩ | ⟨-, b2, f2, c2, rfl, -, -, x2⟩
    · omega
    have X1 := Lib.hid x1
    have X2 := Lib.hid x2
    have L1 := Lib.hid l1
    have L2 := Lib.hid l2
    have RL := Lib.hid hrl
    clear x1 x2 l1 l2 o1 o2 hrl
    go_enter Try.func27, Try.ntmps27
    go_wp2
    go_loopw [5] (fun v wr => Ext w wr ∧ ∃ i : Nat, i ≤ r.length ∧ v = .int .i64 i) (fun v _ => r.length - (intOf v).toNat)
    case atStart => exact ⟨Ext.refl _, 0, Nat.zero_le _, rfl⟩
    case round =>
      obtain ⟨hE, i, hi, rfl⟩ := hrel
      by_cases hil : i < r.length
      · have y1 := L1.out.2 i hil
        have y2 := L2.out.2 i hil
        have z1 : vs1[i]? = some (vs1.getD i undef) := by rw [List.getD_eq_getElem?_getD, List.getElem?_eq_getElem (by rw [L1.out.1]; exact hil)]; rfl
        have z2 : vs2[i]? = some (vs2.getD i undef) := by rw [List.getD_eq_getElem?_getD, List.getElem?_eq_getElem (by rw [L2.out.1]; exact hil)]; rfl
        have D1 := X1.out i _ z1
        have D2 := X2.out i _ z2
        have hxl := RL.out i hil
        generalize vs1.getD i undef = u1 at y1 z1 D1
        generalize vs2.getD i undef = u2 at y2 z2 D2
        generalize r.getD i [] = x at y1 y2 hxl
        clear z1 z2
        have t1 := y1.at_
        have t2 := y2.at_
        obtain ⟨-, p1, k1, rfl, -⟩ := t1
        obtain ⟨-, p2, k2, rfl, -⟩ := t2
        rw [idx_length] at *
        have Y1 := Lib.hid y1
        have Y2 := Lib.hid y2
        clear y1 y2
        have d1 := hE.get D1
        have d2 := hE.get D2
        go_wp2_with fail
        go_quiet (fail)
        have hE1 : Ext w (wr.drewN nq) := hE.drewN _
        generalize wr.drewN nq = wo at hE1
        clear d1 d2
        go_wp2
        go_loopw [6] (fun v wr => Ext w wr ∧ ∃ j : Nat, j ≤ x.length ∧ v = .int .i64 j) (fun v _ => x.length - (intOf v).toNat)
        case atStart => exact ⟨hE1, 0, Nat.zero_le _, rfl⟩
        case round =>
          obtain ⟨hE, j, hj, rfl⟩ := hrel
          have d1 := hE.get D1
          have d2 := hE.get D2
          by_cases hjl : j < x.length
          · rcases Y1.out.at_.cases with ⟨h0, -⟩ | ⟨-, bx, ox, cx, hv, -, -, m1⟩
            · have := congrArg List.length h0
              rw [idx_length] at this
              simp only [List.length_nil] at this
              omega
            rcases Y2.out.at_.cases with ⟨h0, -⟩ | ⟨-, by_, oy, cy, hv2, -, -, m2⟩
            · have := congrArg List.length h0
              rw [idx_length] at this
              simp only [List.length_nil] at this
              omega
            injection hv with hv3 hv4 hv5
            subst hv3
            injection hv2 with hv6 hv7 hv8
            subst hv6
            clear hv4 hv5 hv7 hv8
            have e1 := hE.get (m1 j (by rw [idx_length]; exact hjl))
            have e2 := hE.get (m2 j (by rw [idx_length]; exact hjl))
            generalize (idx x).getD j 0 = n at e1 e2
            clear m1 m2
            go_wp2_with fail
            go_quiet (fail)
            go_wp2
            go_roundw
            case rel => exact ⟨hE.drewN _, j + 1, by omega, by go_num⟩
            case measure => simp [intOf]; omega
          · go_wp2
            go_roundw
            case rel => exact ⟨hE, i + 1, by omega, by go_num⟩
            case measure => simp [intOf]; omega
      · go_wp2
        go_ret
        exact ⟨rfl, hE⟩

theorem matched_len (b : Belt) (fi se : List Int) : (matched b fi se).1.length ≤ 10000000000 := by
  unfold matched
  split
  · split
    · rename_i h
      have h1 := choose_len b fi se se.length []
      have h2 := pow_bd (n := fi.length) (k := se.length) h.1 h.2
      split
      · split
        · simp
        · simp only; omega
      · simp
    · simp
  · simp
theorem choose_each (b : Belt) (fi se : List Int) : ∀ (k : Nat) (x : List Nat), ∀ y ∈ choose b fi se k x, y.length = x.length + k := by
  intro k
  induction k with
  | zero => intro x y h; simp [choose] at h; simp [h]
  | succ k ih =>
    intro x y h
    simp only [choose, List.mem_flatMap] at h
    obtain ⟨i, -, h⟩ := h
    split at h
    · have := ih _ _ h
      simp at this
      omega
    · simp at h
theorem matched_each (b : Belt) (fi se : List Int) (i : Nat) (hi : i < (matched b fi se).1.length) : ((matched b fi se).1.getD i []).length ≤ 10000000000 := by
  have hm : (matched b fi se).1.getD i [] ∈ (matched b fi se).1 := by
    rw [List.getD_eq_getElem?_getD, List.getElem?_eq_getElem hi]
    exact List.getElem_mem _
  generalize (matched b fi se).1.getD i [] = y at hm
  clear hi
  unfold matched at hm
  split at hm
  · split at hm
    · rename_i h
      split at hm
      · split at hm
        · simp at hm
        · have := choose_each b fi se _ _ y hm
          simp at this
          omega
      · simp at hm
    · simp at hm
  · simp at hm

set_option maxRecDepth 100000 in
set_option maxHeartbeats 1000000 in
theorem w4 (b : Belt) (fi se : List Int) (v1 v2 : Value) (w : World) (h1 : IntsAt w v1 fi) (h2 : IntsAt w v2 se) (m1 : fi.length ≤ maxLen) (m2 : se.length ≤ maxLen) :
    Calls Try.prog 4 #[.agg #[.int .i64 b.step, .int .i64 b.slip, .int .i64 b.gate, .int .i64 b.length], v1, v2] w fun e w' => e = .returned (.bool true) ∧ Ext w w' := by
  have H1 := Lib.hid h1
  have H2 := Lib.hid h2
  obtain ⟨q1, a1, c1, rfl, -⟩ := h1
  obtain ⟨q2, a2, c2, rfl, -⟩ := h2
  by_cases e1 : 50 < fi.length
  · have g1 : decide ((50 : Int) < (fi.length : Int)) = true := decide_eq_true (by omega)
    go_enter Try.func4, Try.ntmps4
    go_wp2
    go_ret
    exact ⟨rfl, (Ext.refl _).alloc _⟩
  · have g1 : decide ((50 : Int) < (fi.length : Int)) = false := decide_eq_false (by omega)
    by_cases e2 : 50 < se.length
    · have g2 : decide ((50 : Int) < (se.length : Int)) = true := decide_eq_true (by omega)
      go_enter Try.func4, Try.ntmps4
      go_wp2
      go_ret
      exact ⟨rfl, (Ext.refl _).alloc _⟩
    · have g2 : decide ((50 : Int) < (se.length : Int)) = false := decide_eq_false (by omega)
      have l1 : fi.length ≤ 50 := by omega
      have l2 : se.length ≤ 50 := by omega
      have hz := matched_len b fi se
      have hy := Lib.hid (matched_each b fi se)
      have hb0 : ∀ o, Ext w (w.alloc o) := fun o => (Ext.refl _).alloc o
      go_enter Try.func4, Try.ntmps4
      go_wp2_with (first | (go_at_call 25; refine (w25 b fi se _ _ _ (H1.out.ext (hb0 _)) (H2.out.ext (hb0 _)) l1 l2).mono ?_; rintro e w1 ⟨v', vs, rfl, ho', hL', hE'⟩; have hE1 := (hb0 _).trans hE'; have hsl := SlAt.of_owns ho'; obtain ⟨-, sa, sc, rfl, -⟩ := hsl; have ho := Lib.hid ho'; have hL := Lib.hid hL'; have hc := hE'.cell; clear ho' hL') | (go_at_call 26; refine (w26 b fi se _ _ _ (H1.out.ext hE1) (H2.out.ext hE1) l1 l2).mono ?_; rintro e w2 ⟨v', vs2, rfl, ho', hL', hE2⟩; have hE3 := hE1.trans hE2; have hsl := SlAt.of_owns ho'; obtain ⟨-, sa2, sc2, rfl, -⟩ := hsl; have ho2 := Lib.hid ho'; have hL2 := Lib.hid hL'; clear ho' hL') | (go_at_call 27; refine (w27 _ _ _ _ _ _ (owns_ext ho.out hE2) (hL.out.ext hE2) ho2.out hL2.out hz hy.out).mono ?_; rintro e w3 ⟨rfl, hE4⟩; have hE5 := hE3.trans hE4))
      all_goals (go_ret; exact ⟨rfl, hE5⟩)
end Go.Proofs.Ytcbimfaneinpkaa
