/- Joined from the parts ReadM, ReadC, ReadReg. -/
import Derived.Test.YtlnofbdhamingaaDoorTurnMath
import Derived.Test.YtlnofbdhamingaaDoorGSee
import Derived.Test.YtlnofbdhamingaaDoorGDecode
import Derived.Test.YtlnofbdhamingaaDoorGDraw
import Derived.Test.YtlnofbdhamingaaDoorRegion
import Derived.Test.YtlnofbdhamingaaDoorTail
import Derived.Test.YtlnofbdhamingaaDoorGPaint
import Derived.Test.YtlnofbdhamingaaDoorRegionN
set_option linter.unusedVariables false
set_option linter.unusedSimpArgs false
/- Reading of a mark: the program's, behind the checks. -/
namespace Go.Proofs.YtlnofbdhamingaaDoor
open Go.RowKit Go.Sort

def rd0 : Rd := ⟨[], 0, 0, 0⟩
def rdV (v : Value) (r : Rd) : Value := .agg #[v, .int .i64 (r.turns : Int), .int .i64 (r.errs : Int), .int .i64 (r.gone : Int)]
def rdCells (v : Value) (r : Rd) : Array Value := #[v, .int .i64 (r.turns : Int), .int .i64 (r.errs : Int), .int .i64 (r.gone : Int)]
def ReadOk (m : Img) (c : Con) (k : Int) : Prop := m.Camera ∧ (c.Ok ∧ 1 ≤ k ∧ k ≤ 13) ∧ m.w = m.h ∧ (m.w = 8 ∨ m.w = 16)
/-- what Read answers -/
noncomputable def readA (m : Img) (c : Con) (k : Int) : Rd × Int :=
  if m.Camera then (if c.Ok ∧ 1 ≤ k ∧ k ≤ 13 then (if m.w = m.h ∧ (m.w = 8 ∨ m.w = 16) then (match readI m (m.w / 8).toNat c.lo c.hi k.toNat with | none => (rd0, 60) | some r => (r, 0)) else (rd0, 21)) else (rd0, 2)) else (rd0, 20)
theorem readA_def (m : Img) (c : Con) (k : Int) : readA m c k = if m.Camera then (if c.Ok ∧ 1 ≤ k ∧ k ≤ 13 then (if m.w = m.h ∧ (m.w = 8 ∨ m.w = 16) then (match readI m (m.w / 8).toNat c.lo c.hi k.toNat with | none => (rd0, (60 : Int)) | some r => (r, (0 : Int))) else (rd0, (21 : Int))) else (rd0, (2 : Int))) else (rd0, (20 : Int)) := rfl
/-- the answer behind the checks -/
def ansR : Option Rd → Rd × Int
  | none => (rd0, 60)
  | some r => (r, 0)
def RdErr (r : Rd × Int) (w : World) (e : Ending) (w' : World) : Prop := ∃ v, e = .returned (.tuple #[rdV v r.1, .int .i64 r.2]) ∧ BytesAt w' v r.1.msg ∧ Ext w w'
def leastOf : Option Rd → Int
  | none => -1
  | some r => (r.cost : Int)
def bestD (o : Option Rd) : Rd := o.getD rd0
theorem info_bool : (Tryd.prog.info? 4).map (fun i => (i.zero, i.size, i.bytes)) = some (some (.bool false), 1, 1) := by kernel_rfl
theorem made_bools : (madeCells (Value.bool false).cells (15 * 1)).toList = boolsL (List.replicate 15 false) := by
  rw [Nat.mul_one]
  exact toList_madeCells_one _ _
theorem or_list : ((List.range 16).all fun y => (List.range 4).all fun r => (List.range 2).all fun x => y % 2 ^ (4 - r) != 0 || bits BinOp.or IntKind.u8 (y : Int) ((x : Int) * 2 ^ (3 - r) % 256) == ((y + x * 2 ^ (3 - r) : Nat) : Int)) = true := by kernel_rfl
theorem or_at {y r x : Nat} (hy : y < 16) (hr : r < 4) (hx : x < 2) (h : y % 2 ^ (4 - r) = 0) : bits BinOp.or IntKind.u8 (y : Int) ((x : Int) * 2 ^ (3 - r) % 256) = ((y + x * 2 ^ (3 - r) : Nat) : Int) := by
  have h1 := List.all_eq_true.1 (List.all_eq_true.1 (List.all_eq_true.1 or_list y (List.mem_range.2 hy)) r (List.mem_range.2 hr)) x (List.mem_range.2 hx)
  rw [Bool.or_eq_true] at h1
  rcases h1 with h1 | h1
  · rw [bne_iff_ne] at h1; exact absurd h h1
  · exact beq_iff_eq.1 h1
def gsM (N : Nat) : List (Value → World → Prop) :=
  [fun v w => w.ownsRow N 5 1 v 15 (bytesL (List.replicate 15 0)), fun v w => w.ownsRow N 4 1 v 15 (boolsL (List.replicate 15 false)),
   fun v w => w.ownsRow N 5 1 v 15 (bytesL (List.replicate 15 0)), fun v w => w.ownsRow N 4 1 v 15 (boolsL (List.replicate 15 false))]
theorem gsM_stab (N : Nat) : ∀ g ∈ gsM N, ∀ v w w', g v w → Ext w w' → g v w' := by
  intro g hg v w w' h hb
  simp only [gsM, List.mem_cons, List.not_mem_nil, or_false] at hg
  rcases hg with rfl | rfl | rfl | rfl
  · exact owns_ext h hb
  · exact owns_ext h hb
  · exact owns_ext h hb
  · exact owns_ext h hb
theorem cand_cost {k t : Nat} {ms : List Nat} {r : Rd} (h : candR k t ms = some r) : r.cost ≤ 100 := by
  unfold candR at h
  split at h
  · split at h
    · rename_i l hl
      have e := Option.some.inj h
      rw [← e]
      show 2 * errN l (wordK ms 60) (eraK ms 60) + goneN (eraK ms 60) ≤ 100
      have h1 : errN l (wordK ms 60) (eraK ms 60) ≤ 15 := by rw [errN_eq, eraK_len]; exact errK_le _ _ _ _
      have h2 : goneN (eraK ms 60) ≤ 15 := by
        have := goneK_le (eraK ms 60) (eraK ms 60).length
        unfold goneN
        rw [eraK_len] at this ⊢
        exact this
      omega
    · cases h
  · cases h
theorem best_cost {k : Nat} {mods : Nat → List Nat} : ∀ (t : Nat) (b : Rd), bestR k mods t = some b → b.cost ≤ 100
  | 0, b, h => by cases h
  | t + 1, b, h => by
    have h1 : better (bestR k mods t) (candR k t (mods t)) = some b := h
    cases hc : candR k t (mods t) with
    | none => rw [hc] at h1; exact best_cost t b h1
    | some r =>
      rw [hc] at h1
      cases hb : bestR k mods t with
      | none => rw [hb] at h1; have e : r = b := Option.some.inj h1; rw [← e]; exact cand_cost hc
      | some x =>
        rw [hb] at h1
        have h2 : (if r.cost < x.cost then some r else some x) = some b := h1
        by_cases h9 : r.cost < x.cost
        · rw [if_pos h9] at h2; have e : r = b := Option.some.inj h2; rw [← e]; exact cand_cost hc
        · rw [if_neg h9] at h2; have e : x = b := Option.some.inj h2; rw [← e]; exact best_cost t x hb
theorem own_types {w : World} {b1 b2 e1 e2 s1 s2 n1 n2 : Nat} {v1 v2 : Value} {c1 c2 : List Value} (h1 : w.ownsRow b1 e1 s1 v1 n1 c1) (h2 : w.ownsRow b2 e2 s2 v2 n2 c2) (hne : e1 ≠ e2) : ∀ k, v1.ownBlock = some k → v2.ownBlock ≠ some k := by
  intro k hk1 hk2
  rcases h1.2 with ⟨rfl, -⟩ | ⟨g, cap, cur, rfl, -, hh, -⟩
  · cases hk1
  · rcases h2.2 with ⟨rfl, -⟩ | ⟨g2, cap2, cur2, rfl, -, hh2, -⟩
    · cases hk2
    · have e1' : g = k := Option.some.inj hk1
      have e2' : g2 = k := Option.some.inj hk2
      subst e1'
      subst e2'
      rw [hh] at hh2
      injection hh2 with h9
      injection h9 with _ h10 _
      exact hne h10
theorem turn_sq {S t ww : Nat} (hS : 1 ≤ S ∧ S ≤ 2) {m : Img} (h : SqCam S m) (hw : 8 * S = ww) (pv : Value) (w : World) (hv : IntsAt w pv (turnN t m).pix) :
    Calls Tryd.prog 70 #[.agg #[.int .i64 (ww : Int), .int .i64 (ww : Int), pv]] w fun e w' => ∃ v', e = .returned (.tuple #[.agg #[.int .i64 (ww : Int), .int .i64 (ww : Int), v'], .int .i64 0]) ∧ IntsAt w' v' (turnN (t + 1) m).pix ∧ (∀ j, v'.ownBlock = some j → w.heap.size ≤ j) ∧ Ext w w' := by
  subst hw
  have hc := turnN_cam hS h t
  have hl := hc.len
  have h2 := c_Turn (turnN t m) pv w hv (by rw [hl]; have : 8 * S * (8 * S) ≤ 16 * 16 := Nat.mul_le_mul (by omega) (by omega); unfold maxLen; omega)
  obtain ⟨c1, c2, c3⟩ := hc
  unfold imgVal at h2
  rw [c1, c2] at h2
  refine h2.mono ?_
  intro e w' h3
  unfold turnIs at h3
  rw [if_pos ((Img.camera_iff _).1 c3).1] at h3
  obtain ⟨v', e1, e2, e3, e4⟩ := h3
  rw [turnN_succ]
  have e5 : (turnI (turnN t m)).w = ((8 * S : Nat) : Int) := c2
  have e6 : (turnI (turnN t m)).h = ((8 * S : Nat) : Int) := c1
  refine ⟨v', ?_, e2, e3, e4⟩
  rw [e1]
  unfold imgVal
  rw [e5, e6]
theorem see_sq {S t ww : Nat} (hS : 1 ≤ S ∧ S ≤ 2) {m : Img} (h : SqCam S m) (hw : 8 * S = ww) (pv : Value) (lo hi : Int) (hc : (⟨lo, hi⟩ : Con).Ok) (w : World) (hv : IntsAt w pv (turnN t m).pix) :
    Calls Tryd.prog 67 #[.agg #[.int .i64 (ww : Int), .int .i64 (ww : Int), pv], .int .i64 (S : Int), .agg #[.int .i64 lo, .int .i64 hi]] w (OwnBytes (seenR (turnN t m).pix 8 8 S lo hi) w) := by
  subst hw
  have hcm := turnN_cam hS h t
  exact c_see 8 8 S (turnN t m).pix pv ⟨lo, hi⟩ w hv hS ⟨by omega, by omega⟩ ⟨by omega, by omega⟩ hcm.len hcm.2.2.2 hc
def readL (B0 B3 ww : Nat) (lo hi : Int) (pv bv : Value) (r : Rd) : List (Nat × Obj) :=
  [(B0, Obj.cells #[.int .i64 (ww : Int), .int .i64 (ww : Int), pv] 44), (B0 + 1, Obj.cells #[.int .i64 lo, .int .i64 hi] 46), (B0 + 1 + 1, Obj.cells #[.slice none 0 0, .int .i64 0, .int .i64 0, .int .i64 0] 51), (B3, Obj.cells (rdCells bv r) 51)]
set_option maxRecDepth 100000 in
set_option maxHeartbeats 16000000 in
theorem c_Read_main (S ww kn cap : Nat) (pix : List Int) (ao : Option Addr) (lo hi' : Int) (w : World) (hT : Tabs w) (hS : 1 ≤ S ∧ S ≤ 2) (hww : 8 * S = ww) (hSC : SqCam S ⟨(ww : Int), (ww : Int), pix⟩) (hcc : (⟨lo, hi'⟩ : Con).Ok) (hk1 : 1 ≤ kn) (hk2 : kn ≤ 13) (hv : IntsAt w (.slice ao pix.length cap) pix) :
    Calls Tryd.prog 30 #[.agg #[.int .i64 (ww : Int), .int .i64 (ww : Int), .slice ao pix.length cap], .agg #[.int .i64 lo, .int .i64 hi'], .int .i64 (kn : Int)] w (RdErr (ansR (readI ⟨(ww : Int), (ww : Int), pix⟩ S lo hi' kn)) w) := by
  obtain ⟨i3, bi, bz0, bz1, bz2⟩ := info_parts3 info_byte
  obtain ⟨i4, ci, cz0, cz1, cz2⟩ := info_parts3 info_bool
  have HT := Lib.hid hT
  have K1 := Lib.hid (fun w' (h : Ext w w') => c_camera ⟨(ww : Int), (ww : Int), pix⟩ (.slice ao pix.length cap) w' (hv.ext h) (by
    rw [hSC.len]
    have : 8 * S * (8 * S) ≤ 16 * 16 := Nat.mul_le_mul (by omega) (by omega)
    unfold maxLen
    omega))
  rw [decide_eq_true hSC.2.2] at K1
  have K2 := Lib.hid (fun w' => c_contrast ⟨lo, hi'⟩ w')
  rw [decide_eq_true hcc] at K2
  have HV := Lib.hid hv
  have hnk1 : ¬ (kn : Int) < 1 := by omega
  have hnk2 : ¬ (13 : Int) < (kn : Int) := by omega
  obtain ⟨Rd9, hR9⟩ : ∃ R, readI ⟨(ww : Int), (ww : Int), pix⟩ S lo hi' kn = R := ⟨_, rfl⟩
  rw [hR9]
  have HR9 := Lib.hid hR9
  clear hR9
  have HSC := Lib.hid hSC
  have HCO := Lib.hid hcc
  have HL := Lib.hid (show pix.length = ww * ww by have := hSC.len; rw [hww] at this; exact this)
  have q1 : ((ww : Int) != (ww : Int)) = false := by rw [bne_eq_false_iff_eq]
  have HWW := Lib.hid hww
  have hw16 : ww ≤ 16 ∧ 8 ≤ ww := by omega
  have qd : (ww : Int).tdiv 8 = (S : Int) := by rw [Int.tdiv_eq_ediv_of_nonneg (by omega)]; omega
  have hsz : ww = 8 ∨ (ww = 16 ∧ ¬ ww = 8) := by omega
  unfold imgVal conVal at *
  dsimp only at *
  clear hcc hSC hww hv hT
  go_enter Tryd.func30, Tryd.ntmps30
  rcases hsz with h8 | ⟨h16, h8⟩
  case' inl =>
    have q2 : ((ww : Int) != 8) = false := by rw [bne_eq_false_iff_eq]; omega
    clear h8
  case' inr =>
    have q2 : ((ww : Int) != 8) = true := by rw [bne_iff_ne]; omega
    have q3 : ((ww : Int) != 16) = false := by rw [bne_eq_false_iff_eq]; omega
    clear h16 h8
  all_goals
    go_wp2_with (first | (go_at_call 65; (with_reducible refine (K1.out _ (by repeat (first | exact Ext.refl _ | assumption | refine Ext.alloc ?_ _ | refine Ext.drewN ?_ _ | refine ext_grow ?_ _ _ | refine Ext.trans ?_ (by assumption)))).mono ?_); rintro E w1 ⟨rfl, h1⟩; have A1 := Lib.hid (show At w1 [(w.heap.size, Obj.cells #[.int .i64 (ww : Int), .int .i64 (ww : Int), .slice ao pix.length cap] 44), (w.heap.size + 1, Obj.cells #[.int .i64 lo, .int .i64 hi'] 46), (w.heap.size + 1 + 1, Obj.cells #[.slice none 0 0, .int .i64 0, .int .i64 0, .int .i64 0] 51)] from At.ext h1 ⟨three_first _ _ _ _, three_second _ _ _ _, three_third _ _ _ _, trivial⟩); have E1 := Lib.hid (show Ext w w1 from (by repeat (first | exact Ext.refl _ | assumption | refine Ext.alloc ?_ _ | refine Ext.drewN ?_ _ | refine ext_grow ?_ _ _ | refine Ext.trans ?_ (by assumption)))); obtain ⟨⟨x0, x1, x2⟩, -⟩ := run_3 (At.at A1.out 0 rfl); obtain ⟨⟨y0, y1⟩, -⟩ := run_2 (At.at A1.out 1 rfl); obtain ⟨⟨z0, z1, z2, z3⟩, zf0, zf1, zf2, zf3⟩ := run_4 (At.at A1.out 2 rfl); have b0 := At.lt A1.out 0 rfl; have b1 := At.lt A1.out 1 rfl; have b2 := At.lt A1.out 2 rfl) | (go_at_call 66; (with_reducible refine (K2.out _).mono ?_); rintro E w2 ⟨rfl, h2⟩; have A2 := Lib.hid (At.ext h2 A1.out); have E2 := Lib.hid (E1.out.trans h2); clear x0 x1 x2 y0 y1 z0 z1 z2 z3 zf0 zf1 zf2 zf3; obtain ⟨⟨x0, x1, x2⟩, -⟩ := run_3 (At.at A2.out 0 rfl); obtain ⟨⟨y0, y1⟩, -⟩ := run_2 (At.at A2.out 1 rfl); obtain ⟨⟨z0, z1, z2, z3⟩, zf0, zf1, zf2, zf3⟩ := run_4 (At.at A2.out 2 rfl)))
    obtain ⟨B0, hB0⟩ : ∃ B, w.heap.size = B := ⟨_, rfl⟩
    obtain ⟨B3, hB3⟩ : ∃ B, w2.heap.size = B := ⟨_, rfl⟩
    have hB03 : B0 + 1 + 1 < B3 := by rw [← hB3, ← hB0]; exact Nat.lt_of_lt_of_le b2 h2.size
    have hEa : Ext w2 (w2.alloc (Obj.cells #[.slice none 0 0, .int .i64 0, .int .i64 0, .int .i64 0] 51)) := (Ext.refl w2).alloc _
    obtain ⟨m0, hm0⟩ : ∃ x, (⟨(ww : Int), (ww : Int), pix⟩ : Img) = x := ⟨_, rfl⟩
    have hpm : pix = m0.pix := by rw [← hm0]
    rw [hm0] at HR9 HSC
    obtain ⟨mods, hmods⟩ : ∃ f : Nat → List Nat, (fun t => seenR (turnN t m0).pix 8 8 S lo hi') = f := ⟨_, rfl⟩
    have HRI := Lib.hid (show Rd9 = bestR kn mods 4 by rw [← HR9.out, ← hmods]; rfl)
    have HMD := Lib.hid (fun t => congrFun hmods t)
    obtain ⟨W3, hW3⟩ : ∃ W, w2.alloc (Obj.cells #[.slice none 0 0, .int .i64 0, .int .i64 0, .int .i64 0] 51) = W := ⟨_, rfl⟩
    have hnew := heap_alloc_new w2 (Obj.cells #[.slice none 0 0, .int .i64 0, .int .i64 0, .int .i64 0] 51)
    rw [hW3] at hEa hnew
    have hA3 := At.ext hEa A2.out
    rw [hB0] at hA3
    rw [hB3] at hnew
    have HA3 := Lib.hid (show At W3 (readL B0 B3 ww lo hi' (.slice ao pix.length cap) (.slice none 0 0) (bestD (bestR kn mods 0))) from ⟨At.at hA3 0 rfl, At.at hA3 1 rfl, At.at hA3 2 rfl, hnew, trivial⟩)
    have HE3 := Lib.hid (E2.out.trans hEa)
    have HP3 := Lib.hid (show IntsAt W3 (.slice ao pix.length cap) (turnN 0 m0).pix from by show IntsAt W3 _ m0.pix; rw [← hpm]; exact HV.out.ext HE3.out)
    have HPB := Lib.hid (show ∀ j, (Value.slice ao pix.length cap).ownBlock = some j → j < B0 ∨ B3 < j from fun j hj => .inl (by
      rcases HV.out.cases with ⟨h1, -⟩ | ⟨hl1, b, off, cp, h1, -, -, h3⟩
      · exfalso
        have h5 := HL.out
        have h6 : ww * ww = 0 := by rw [← h5]; simp [h1]
        rcases Nat.mul_eq_zero.1 h6 with h7 | h7 <;> omega
      · injection h1 with e1 _ _
        rw [e1] at hj
        have e2 : b = j := Option.some.inj hj
        have := World.block_lt_of_cell? _ _ (h3 0 hl1)
        rw [← hB0, ← e2]
        exact this))
    have HBB := Lib.hid (And.intro hB0 hB3)
    have HSS := Lib.hid hS
    rw [hB0, hW3, hB3]
    clear hA3 hnew hEa hW3 hB0 hB3 hpm hm0 hmods HV HL K1 K2 h1 h2 A1 A2 E1 E2 x0 x1 x2 y0 y1 z0 z1 z2 z3 zf0 zf1 zf2 zf3 b0 b1 b2
    go_loopw [9, 53] (fun ls tt wr => ∃ (t : Nat) (pv bv : Value), t ≤ 4 ∧ tt = .int .i64 (t : Int) ∧ ls = .int .i64 (leastOf (bestR kn mods t)) ∧ Ext w wr ∧ Hid (At wr (readL B0 B3 ww lo hi' pv bv (bestD (bestR kn mods t)))) ∧ Hid (IntsAt wr pv (turnN t m0).pix) ∧ Hid (∀ j, pv.ownBlock = some j → j < B0 ∨ B3 < j) ∧ Hid (BytesAt wr bv (bestD (bestR kn mods t)).msg) ∧ Hid (∀ j, bv.ownBlock = some j → B3 < j)) (fun _ tt _ => 4 - (intOf tt).toNat)
    case atStart => exact ⟨0, _, _, Nat.zero_le _, rfl, rfl, HE3.out, HA3, HP3, HPB, Lib.hid (bytes_nil _), Lib.hid (fun j hj => by cases hj)⟩
    case round =>
      clear HA3 HE3 HP3 HPB
      obtain ⟨t, pv, bv, ht, rfl, rfl, hE, hA, hP, hPB, hBv, hBB⟩ := hrel
      by_cases ht4 : t < 4
      · have K3 := Lib.hid (fun w' (h : Ext wr w') => see_sq (t := t) HSS.out HSC.out HWW.out pv lo hi' HCO.out w' (hP.out.ext h))
        have K4 := Lib.hid (fun w' (h : Ext wr w') => turn_sq (t := t) HSS.out HSC.out HWW.out pv w' (hP.out.ext h))
        have hmd := HMD.out t
        rw [hmd] at K3
        obtain ⟨ms, hms⟩ : ∃ x, mods t = x := ⟨_, rfl⟩
        rw [hms] at K3
        have HML := Lib.hid (show ms.length = 64 by rw [← hms, ← hmd, seenR_length])
        have HMS := Lib.hid hms
        obtain ⟨px, hpx⟩ : ∃ x, (turnN t m0).pix = x := ⟨_, rfl⟩
        rw [hpx] at hP
        obtain ⟨po, pc, rfl, -, -⟩ := hP.out.form
        obtain ⟨o, ho⟩ : ∃ o, bestR kn mods t = o := ⟨_, rfl⟩
        rw [ho] at hA hBv ⊢
        have HO := Lib.hid ho
        obtain ⟨⟨x0, x1, x2⟩, xf0, xf1, xf2⟩ := run_3 (At.at hA.out 0 rfl)
        obtain ⟨⟨y0, y1⟩, -⟩ := run_2 (At.at hA.out 1 rfl)
        have b0 := At.lt hA.out 0 rfl
        have b1 := At.lt hA.out 1 rfl
        unfold OwnBytes at K3
        clear hpx ho hms hmd
        go_upto_region 14 with (first
          | (go_at_call 67; (with_reducible refine (K3.out _ (Ext.refl _)).mono ?_); rintro E w3 ⟨v3, rfl, h3, h3'⟩; rw [HML.out] at h3; obtain ⟨mb, mc, rfl, hmb, -⟩ := owns_some h3 (by decide); have hA3 := Lib.hid (At.ext h3' hA.out); clear x0 x1 x2 xf0 xf1 xf2 y0 y1; obtain ⟨⟨x0, x1, x2⟩, xf0, xf1, xf2⟩ := run_3 (At.at hA3.out 0 rfl); have b30 := At.lt hA3.out 0 rfl)
          | (go_at_call 70; (with_reducible refine (K4.out _ h3').mono ?_); rintro E w4 ⟨v4, rfl, h4, h4b, h4'⟩; have hP4 := Lib.hid h4; clear h4; obtain ⟨-, qo, qc, rfl, -⟩ := hP4.out; have hA4 := Lib.hid (At.ext h4' hA3.out); clear x0 x1 x2 xf0 xf1 xf2; obtain ⟨⟨x0, x1, x2⟩, xf0, xf1, xf2⟩ := run_3 (At.at hA4.out 0 rfl)))
        have hB0n : ∀ j, (Value.slice qo (turnN (t + 1) m0).pix.length qc).ownBlock = some j → B0 ≠ j := fun j hj h9 => by
          have h1 := h4b j hj
          have h2 := h3'.size
          have := At.lt hA.out 0 rfl
          omega
        obtain ⟨n5, hn5⟩ : ∃ n, (turnN (t + 1) m0).pix.length = n := ⟨_, rfl⟩
        have HN5 := Lib.hid hn5
        rw [hn5] at hB0n hP4 h4b ⊢
        have st := store_3 (v0 := .int .i64 (ww : Int)) (v1 := .int .i64 (ww : Int)) (v2 := .slice qo n5 qc) (At.at hA4.out 0 rfl)
        obtain ⟨W5, hW5⟩ : ∃ W, ((w4.setCell ⟨B0, 0, none⟩ (.int .i64 (ww : Int))).setCell ⟨B0, 1, none⟩ (.int .i64 (ww : Int))).setCell ⟨B0, 2, none⟩ (.slice qo n5 qc) = W := ⟨_, rfl⟩
        have hgb : w4.grownBy W5 (some B0) := by rw [← hW5]; exact gb_trans (gb_trans (gb_set _ _ _ _) (gb_set _ _ _ _)) (gb_set _ _ _ _)
        have hw34 : Ext wr w4 := h3'.trans h4'
        rw [hW5] at st ⊢
        have HE5 := Lib.hid (st.2.2 w (by rw [HBB.out.1]; exact Nat.le_refl _) (hE.trans hw34))
        have HA5 := Lib.hid (show At W5 (readL B0 B3 ww lo hi' (.slice qo n5 qc) bv (bestD o)) from ⟨st.1, (st.2.1 _ (by omega)).trans (At.at hA4.out 1 rfl), (st.2.1 _ (by omega)).trans (At.at hA4.out 2 rfl), (st.2.1 _ (by omega)).trans (At.at hA4.out 3 rfl), trivial⟩)
        have HP5 := Lib.hid (show IntsAt W5 (.slice qo n5 qc) (turnN (t + 1) m0).pix from SlAt.gb hP4.out hgb (fun j hj h9 => hB0n j hj (Option.some.inj h9).symm))
        have HPB5 := Lib.hid (show ∀ j, (Value.slice qo n5 qc).ownBlock = some j → j < B0 ∨ B3 < j from fun j hj => .inr (by
          have h1 := h4b j hj
          have h2 := h3'.size
          have := At.lt hA.out 3 rfl
          omega))
        have HBv5 := Lib.hid (show BytesAt W5 bv (bestD o).msg from (hBv.out.ext hw34).gb hgb (fun j hj h9 => by have := hBB.out j hj; have := Option.some.inj h9; omega))
        have HM5 := Lib.hid (show BytesAt W5 (.slice (some ⟨mb, 0, none⟩) 64 mc) ms from by
          have h := own_gb (owns_ext h3 h4') hgb (fun j hj h9 => by have e1 : mb = j := Option.some.inj hj; have e2 : j = B0 := Option.some.inj h9; have := At.lt hA.out 0 rfl; omega)
          unfold BytesAt
          rw [HML.out]
          exact SlAt.of_owns h)
        have FIN := Lib.hid (show ∀ wz, Ext W5 wz → bestR kn mods (t + 1) = o → ∃ (t' : Nat) (pv bv : Value), t' ≤ 4 ∧ Value.int .i64 ((t : Int) + 1) = .int .i64 (t' : Int) ∧ Value.int .i64 (leastOf o) = .int .i64 (leastOf (bestR kn mods t')) ∧ Ext w wz ∧ Hid (At wz (readL B0 B3 ww lo hi' pv bv (bestD (bestR kn mods t')))) ∧ Hid (IntsAt wz pv (turnN t' m0).pix) ∧ Hid (∀ j, pv.ownBlock = some j → j < B0 ∨ B3 < j) ∧ Hid (BytesAt wz bv (bestD (bestR kn mods t')).msg) ∧ Hid (∀ j, bv.ownBlock = some j → B3 < j) from fun wz hz hb => by
            refine ⟨t + 1, .slice qo n5 qc, bv, by omega, by go_num, ?_⟩
            rw [hb]
            exact ⟨rfl, HE5.out.trans hz, Lib.hid (At.ext hz HA5.out), Lib.hid (HP5.out.ext hz), HPB5, Lib.hid (HBv5.out.ext hz), hBB⟩)
        obtain ⟨mB, mO, mC, hme, hcm⟩ := HM5.out.some HML.out (by omega)
        injection hme with e1 e2 e3
        injection e1 with e1
        injection e1 with e1 e4
        subst e1 e4 e3
        have HCM := Lib.hid (show ∀ j, j < 64 → W5.cell? ⟨mb, j, none⟩ = some (.int .u8 ((ms.getD j 0 : Nat) : Int)) from fun j hj => by
          have h := hcm j hj
          rw [Nat.zero_add] at h
          exact h)
        clear hW5 hgb st hw34 hn5 h3 h3' h4' h4b hA hP hPB hBv hA3 hA4 hP4 K3 K4 hcm hB0n hE b0 b1 b30 x0 x1 x2 xf0 xf1 xf2
        by_cases hup : upright ms = true
        case neg =>
          have HB := Lib.hid (show bestR kn mods (t + 1) = o by
            show better (bestR kn mods t) (candR kn t (mods t)) = o
            rw [HMS.out]
            unfold candR
            rw [if_neg hup, HO.out]
            rfl)
          have c0 := HCM.out 0 (by omega)
          have c7 := HCM.out 7 (by omega)
          have c56 := HCM.out 56 (by omega)
          have c63 := HCM.out 63 (by omega)
          unfold upright at hup
          obtain ⟨a0, ha0⟩ : ∃ x, ms.getD 0 0 = x := ⟨_, rfl⟩
          obtain ⟨a7, ha7⟩ : ∃ x, ms.getD 7 0 = x := ⟨_, rfl⟩
          obtain ⟨a56, ha56⟩ : ∃ x, ms.getD 56 0 = x := ⟨_, rfl⟩
          obtain ⟨a63, ha63⟩ : ∃ x, ms.getD 63 0 = x := ⟨_, rfl⟩
          rw [ha0] at hup c0
          rw [ha7] at hup c7
          rw [ha56] at hup c56
          rw [ha63] at hup c63
          have hcs : a0 = 0 ∨ (a0 ≠ 0 ∧ a7 = 1) ∨ (a0 ≠ 0 ∧ a7 ≠ 1 ∧ a56 = 0) ∨ (a0 ≠ 0 ∧ a7 ≠ 1 ∧ a56 ≠ 0 ∧ a63 = 0) := by
            simp only [Bool.and_eq_true, decide_eq_true_eq] at hup
            omega
          clear hup ha0 ha7 ha56 ha63
          rcases hcs with h | ⟨n0, h⟩ | ⟨n0, n7, h⟩ | ⟨n0, n7, n56, h⟩
          · subst h
            go_wp2
            exact ⟨FIN.out _ (Ext.refl _) HB.out, by simp [intOf]; omega⟩
          · subst h
            have r0 : ((a0 : Int) == 0) = false := by rw [beq_eq_false_iff_ne]; omega
            clear n0
            go_wp2
            exact ⟨FIN.out _ (Ext.refl _) HB.out, by simp [intOf]; omega⟩
          · subst h
            have r0 : ((a0 : Int) == 0) = false := by rw [beq_eq_false_iff_ne]; omega
            have r7 : ((a7 : Int) == 1) = false := by rw [beq_eq_false_iff_ne]; omega
            clear n0 n7
            go_wp2
            exact ⟨FIN.out _ (Ext.refl _) HB.out, by simp [intOf]; omega⟩
          · subst h
            have r0 : ((a0 : Int) == 0) = false := by rw [beq_eq_false_iff_ne]; omega
            have r7 : ((a7 : Int) == 1) = false := by rw [beq_eq_false_iff_ne]; omega
            have r56 : ((a56 : Int) == 0) = false := by rw [beq_eq_false_iff_ne]; omega
            clear n0 n7 n56
            go_wp2
            exact ⟨FIN.out _ (Ext.refl _) HB.out, by simp [intOf]; omega⟩
        have HUP := Lib.hid hup
        have HB := Lib.hid (show bestR kn mods (t + 1) = better o (candR kn t ms) by
          show better (bestR kn mods t) (candR kn t (mods t)) = _
          rw [HMS.out, HO.out])
        have c0 := HCM.out 0 (by omega)
        have c7 := HCM.out 7 (by omega)
        have c56 := HCM.out 56 (by omega)
        have c63 := HCM.out 63 (by omega)
        unfold upright at hup
        simp only [Bool.and_eq_true, decide_eq_true_eq] at hup
        obtain ⟨⟨⟨n0, n7⟩, n56⟩, n63⟩ := hup
        obtain ⟨a0, ha0⟩ : ∃ x, ms.getD 0 0 = x := ⟨_, rfl⟩
        obtain ⟨a7, ha7⟩ : ∃ x, ms.getD 7 0 = x := ⟨_, rfl⟩
        obtain ⟨a56, ha56⟩ : ∃ x, ms.getD 56 0 = x := ⟨_, rfl⟩
        obtain ⟨a63, ha63⟩ : ∃ x, ms.getD 63 0 = x := ⟨_, rfl⟩
        rw [ha0] at n0 c0
        rw [ha7] at n7 c7
        rw [ha56] at n56 c56
        rw [ha63] at n63 c63
        have r0 : ((a0 : Int) == 0) = false := by rw [beq_eq_false_iff_ne]; omega
        have r7 : ((a7 : Int) == 1) = false := by rw [beq_eq_false_iff_ne]; omega
        have r56 : ((a56 : Int) == 0) = false := by rw [beq_eq_false_iff_ne]; omega
        have r63 : ((a63 : Int) == 0) = false := by rw [beq_eq_false_iff_ne]; omega
        clear n0 n7 n56 n63 ha0 ha7 ha56 ha63
        go_wp2
        have hst := RG.stab_of (gsM_stab W5.heap.size)
        refine RG.wp_rg (gsM W5.heap.size) (fun _ => []) (by kernel_rfl) (by kernel_rfl) (by kernel_rfl) ?_ ?_
        · simp only [gsM, List.length_cons, List.length_nil, List.take_succ_cons, List.take_zero, RG.Steps, and_true, Nat.reduceAdd]
          refine ⟨?_, ?_, ?_, ?_⟩
          · refine RG.st_run rfl (fun A W hW hr => ?_) hst
            obtain ⟨W', hrun, u1, u2⟩ := run_make_full (P := Tryd.prog) W W5.heap.size 22 5 i3 (.int .u8 0) 1 Tryd.underlying22 bi bz0 bz1 .i64 .i64 15 (by rw [bz2]; omega) (by unfold maxLen; omega) hW.size
            refine ⟨.slice (some ⟨W.heap.size, 0, none⟩) 15 15, W', ?_, ext_of_grownNone u2, ?_⟩
            · have hrun2 : Sem.run Tryd.prog (Instr.makeSlice 22 (.int .i64 15) (.int .i64 15)) W = .ok (.slice (some ⟨W.heap.size, 0, none⟩) 15 15) W' := hrun
              simp [execOp, show ∀ v, A.eval (Operand.const v) = v from fun _ => rfl, hrun2, Result.andThen]
            · rw [made_zero (List.replicate 15 0) 15, rowK_zero] at u1
              exact u1
          · refine RG.st_run rfl (fun A W hW hr => ?_) hst
            obtain ⟨W', hrun, u1, u2⟩ := run_make_full (P := Tryd.prog) W W5.heap.size 36 4 i4 (.bool false) 1 Tryd.underlying36 ci cz0 cz1 .i64 .i64 15 (by rw [cz2]; omega) (by unfold maxLen; omega) hW.size
            refine ⟨.slice (some ⟨W.heap.size, 0, none⟩) 15 15, W', ?_, ext_of_grownNone u2, ?_⟩
            · have hrun2 : Sem.run Tryd.prog (Instr.makeSlice 36 (.int .i64 15) (.int .i64 15)) W = .ok (.slice (some ⟨W.heap.size, 0, none⟩) 15 15) W' := hrun
              simp [execOp, show ∀ v, A.eval (Operand.const v) = v from fun _ => rfl, hrun2, Result.andThen]
            · rw [made_bools] at u1
              exact u1
          · refine RG.st_run rfl (fun A W hW hr => ⟨A.tmps.getD 89 undef, W, ?_, Ext.refl _, ?_⟩) hst
            · rfl
            · exact RG.read_in (t := 89) (j := 0) hr (by kernel_rfl) (by kernel_rfl)
          · refine RG.st_run rfl (fun A W hW hr => ⟨A.tmps.getD 90 undef, W, ?_, Ext.refl _, ?_⟩) hst
            · rfl
            · exact RG.read_in (t := 90) (j := 1) hr (by kernel_rfl) (by kernel_rfl)
        · intro wq hwq
          simp only [gsM, List.length_cons, List.length_nil, List.take_succ_cons, List.take_zero, RG.Fin, RG.goneBy, Nat.reduceAdd, List.drop_succ_cons, List.drop_zero, List.drop_nil]
          intro v0 _ v1 _ v2 h2 v3 h3
          have h2 := h2 (by decide)
          have h3 := h3 (by decide)
          simp only [Act.put, List.setIfInBounds_toArray, List.set_cons_zero, List.set_cons_succ]
          obtain ⟨gw, cw, rfl, hgw, -⟩ := owns_some h2 (by decide)
          obtain ⟨ge, ce, rfl, hge, -⟩ := owns_some h3 (by decide)
          have HWD := Lib.hid h2
          have HED := Lib.hid h3
          have K5 := Lib.hid (fun w' => c_data w')
          clear h2 h3 hst r0 r7 r56 r63 c0 c7 c56 c63
          go_wp2_with (go_at_call 71; (with_reducible refine (K5.out _).mono ?_); rintro E w6 ⟨v6, rfl, h6, h6'⟩; rw [dataK_full] at h6; obtain ⟨gd, cd, rfl, hgd, -⟩ := owns_some h6 (by decide))
          have hE6 := hwq.trans h6'
          have HW6 := Lib.hid (show w6.ownsRow W5.heap.size 5 1 (.slice (some ⟨gw, 0, none⟩) 15 cw) 15 (bytesL (wordK ms 0)) by rw [wordK_zero]; exact owns_ext HWD.out h6')
          have HE6 := Lib.hid (show w6.ownsRow W5.heap.size 4 1 (.slice (some ⟨ge, 0, none⟩) 15 ce) 15 (boolsL (eraK ms 0)) by rw [eraK_zero]; exact owns_ext HED.out h6')
          have HD6 := Lib.hid (show w6.ownsRow W5.heap.size 3 1 (.slice (some ⟨gd, 0, none⟩) 60 cd) 60 (ints (dataK 64)) from owns_base h6 hwq.size)
          have HG0 := Lib.hid (show goneN (eraK ms 0) = 0 by rw [eraK_zero]; rfl)
          clear HWD HED h6 h6' hwq K5
          go_loopw [14, 93] (fun gg ii wi => ∃ n : Nat, n ≤ 60 ∧ ii = .int .i64 (n : Int) ∧ gg = .int .i64 ((goneN (eraK ms n) : Nat) : Int) ∧ Ext W5 wi ∧ Hid (wi.ownsRow W5.heap.size 5 1 (.slice (some ⟨gw, 0, none⟩) 15 cw) 15 (bytesL (wordK ms n))) ∧ Hid (wi.ownsRow W5.heap.size 4 1 (.slice (some ⟨ge, 0, none⟩) 15 ce) 15 (boolsL (eraK ms n))) ∧ Hid (wi.ownsRow W5.heap.size 3 1 (.slice (some ⟨gd, 0, none⟩) 60 cd) 60 (ints (dataK 64)))) (fun _ ii _ => 60 - (intOf ii).toNat)
          case atStart => exact ⟨0, Nat.zero_le _, rfl, by rw [HG0.out]; rfl, hE6, HW6, HE6, HD6⟩
          case round =>
            clear HW6 HE6 HD6 hE6 HG0
            obtain ⟨n, hn, rfl, rfl, hE6, hW, hEr, hDa⟩ := hrel
            by_cases hn60 : n < 60
            · have had := atD_lt hn60
              have c0 : wr.cell? ⟨gd, n, none⟩ = some (.int .i64 ((atD n : Nat) : Int)) := by
                rw [hDa.out.cellAt n (by omega), dataK_atD, ints_get (by simp; omega)]
                simp [List.getD_eq_getElem?_getD, List.getElem?_range hn60]
              have c1 := hE6.get (HCM.out (atD n) had)
              have ha : n / 4 < 15 := by omega
              have t2 : (n : Int).tdiv 4 = ((n / 4 : Nat) : Int) := by rw [Int.tdiv_eq_ediv_of_nonneg (by omega)]; rfl
              have t3 : (n : Int).tmod 4 = ((n % 4 : Nat) : Int) := by rw [Int.tmod_eq_emod_of_nonneg (by omega)]; rfl
              have hr := Nat.mod_lt n (show 0 < 4 by omega)
              have hwl := (wordAt_step ms (q := n / 4) (r := n % 4) hr).2
              rw [show 4 * (n / 4) + n % 4 = n by omega] at hwl
              have hwg := wordK_get (ms := ms) (n := n) ha
              rw [← hwg] at hwl
              have hw16' : (wordK ms n).getD (n / 4) 0 < 16 := by rw [hwg]; exact wordAt_lt _ _ _
              have d0 : wr.cell? ⟨gw, n / 4, none⟩ = some (.int .u8 (((wordK ms n).getD (n / 4) 0 : Nat) : Int)) := by rw [hW.out.cellAt (n / 4) (by omega), bytesL_get (by rw [wordK_len]; exact ha)]
              have d1 := hW.out.frozenAt (n / 4)
              have e0 : wr.cell? ⟨ge, n / 4, none⟩ = some (.bool ((eraK ms n).getD (n / 4) false)) := by rw [hEr.out.cellAt (n / 4) (by omega), boolsL_get (by rw [eraK_len]; exact ha)]
              have e1 := hEr.out.frozenAt (n / 4)
              by_cases hx2 : ms.getD (atD n) 0 < 2
              · have HWS := Lib.hid (wordK_step (ms := ms) hn60)
                have HES := Lib.hid (eraK_stay (ms := ms) hn60 (.inl (show lostD ms n = false from decide_eq_false (by omega))))
                have hwb : wbit ms n = ms.getD (atD n) 0 := if_pos hx2
                rw [hwb] at HWS
                obtain ⟨x, hx⟩ : ∃ x, ms.getD (atD n) 0 = x := ⟨_, rfl⟩
                rw [hx] at c1 hx2 HWS
                obtain ⟨d, hd⟩ : ∃ d, atD n = d := ⟨_, rfl⟩
                rw [hd] at c0 c1 had
                obtain ⟨y, hy⟩ : ∃ y, (wordK ms n).getD (n / 4) 0 = y := ⟨_, rfl⟩
                rw [hy] at d0 hwl hw16' HWS
                obtain ⟨a, haa⟩ : ∃ a, n / 4 = a := ⟨_, rfl⟩
                obtain ⟨r, hrr⟩ : ∃ r, n % 4 = r := ⟨_, rfl⟩
                rw [haa] at t2 ha d0 d1 HWS e0 e1
                rw [hrr] at t3 hr HWS hwl
                have HXX := Lib.hid (And.intro hx (And.intro hd (And.intro hy (And.intro haa hrr))))
                clear hx hd hy haa hrr hwb hwg e0 e1
                go_wp2
                refine RG.region_tail (aq := ?_) 12 (by kernel_rfl) (by kernel_rfl) (by kernel_rfl) (by kernel_rfl) ?_ ?_
                rotate_left
                · intro wq hEq
                  have p0 := hEq.get d0
                  have zq := hEq.size
                  have z1 := World.block_lt_of_cell? _ _ p0
                  simp only at z1
                  simp only [List.take_succ_cons, List.take_zero]
                  repeat (go_big_quiet_step (fail))
                  refine wpQuiet_nil ?_
                  exact rfl
                · intro wt hEt
                  simp only [List.drop_succ_cons, List.drop_zero]
                  have hWt := Lib.hid (owns_ext hW.out hEt)
                  have hEt2 := Lib.hid (owns_ext hEr.out hEt)
                  have hDt := Lib.hid (owns_ext hDa.out hEt)
                  have hEE := Lib.hid (hE6.trans hEt)
                  have s0 := hEt.get d0
                  have s1 := hWt.out.frozenAt a
                  have HOR := Lib.hid (or_at hw16' hr hx2 hwl)
                  have hgwW : W5.heap.size ≤ gw := hgw
                  clear hEt hW hEr hDa hE6 d0 d1 c0 c1
                  go_wp2
                  refine ⟨⟨n + 1, by omega, by go_num, by rw [HES.out], hEE.out.setCell (p := ⟨gw, a, none⟩) hgwW _, Lib.hid ?_, Lib.hid ?_, Lib.hid ?_⟩, by simp [intOf]; omega⟩
                  · have h := (hWt.out.stored a (.int .u8 ((y + x * 2 ^ (3 - r) : Nat) : Int))).1
                    rw [bytesL_set, HWS.out] at h
                    rw [HOR.out]
                    exact h
                  · rw [HES.out]
                    exact ownsRow_setCell_other hEt2.out (fun h => own_types hWt.out hEt2.out (by decide) gw rfl h) _
                  · exact ownsRow_setCell_other hDt.out (fun h => own_types hWt.out hDt.out (by decide) gw rfl h) _
              · have hld : lostD ms n = true := decide_eq_true (by omega)
                have HWS := Lib.hid (wordK_stay (ms := ms) hn60 hld)
                obtain ⟨x, hx⟩ : ∃ x, ms.getD (atD n) 0 = x := ⟨_, rfl⟩
                rw [hx] at c1 hx2
                obtain ⟨d, hd⟩ : ∃ d, atD n = d := ⟨_, rfl⟩
                rw [hd] at c0 c1 had
                have HES := Lib.hid (fun h => eraK_stay (ms := ms) (n := n) hn60 (.inr h))
                have HEG := Lib.hid (fun h => era_gone (ms := ms) (n := n) hn60 hld h)
                have hgl := goneK_le (eraK ms n) (eraK ms n).length
                rw [eraK_len] at hgl
                have hgl2 : goneN (eraK ms n) ≤ 15 := by unfold goneN; rw [eraK_len]; exact hgl
                obtain ⟨g, hg⟩ : ∃ g, goneN (eraK ms n) = g := ⟨_, rfl⟩
                rw [hg] at HEG hgl2 ⊢
                obtain ⟨y, hy⟩ : ∃ y, (eraK ms n).getD (n / 4) false = y := ⟨_, rfl⟩
                rw [hy] at e0
                simp only [hy] at HES HEG
                obtain ⟨a, haa⟩ : ∃ a, n / 4 = a := ⟨_, rfl⟩
                rw [haa] at t2 ha e0 e1
                simp only [haa] at HEG
                have hgeW : W5.heap.size ≤ ge := hge
                have HXX := Lib.hid (And.intro hx (And.intro hd (And.intro hy (And.intro haa hg))))
                clear hx hd hy haa hg hwg d0 d1 hwl hw16' hld hgl hr t3
                cases y with
                | true =>
                  have HE2 := Lib.hid (HES.out rfl)
                  go_wp2
                  refine ⟨⟨n + 1, by omega, by go_num, by rw [HE2.out, HXX.out.2.2.2.2], hE6, Lib.hid (by rw [HWS.out]; exact hW.out), Lib.hid (by rw [HE2.out]; exact hEr.out), hDa⟩, by simp [intOf]; omega⟩
                | false =>
                  have HE2 := Lib.hid (HEG.out rfl)
                  go_wp2
                  refine ⟨⟨n + 1, by omega, by go_num, by rw [HE2.out.2]; go_num, hE6.setCell (p := ⟨ge, a, none⟩) hgeW _, Lib.hid ?_, Lib.hid ?_, Lib.hid ?_⟩, by simp [intOf]; omega⟩
                  · rw [HWS.out]
                    exact ownsRow_setCell_other hW.out (fun h => own_types hEr.out hW.out (by decide) ge rfl h) _
                  · have h := (hEr.out.stored a (.bool true)).1
                    rw [boolsL_set, HE2.out.1] at h
                    exact h
                  · exact ownsRow_setCell_other hDa.out (fun h => own_types hEr.out hDa.out (by decide) ge rfl h) _
            · obtain rfl : n = 60 := by omega
              have KD := Lib.hid (c_decode (.slice (some ⟨gw, 0, none⟩) 15 cw) (.slice (some ⟨ge, 0, none⟩) 15 ce) (wordK ms 60) (eraK ms 60) kn wr (HT.out.ext (HE5.out.trans hE6))
                (by have h := SlAt.of_owns hW.out; unfold BytesAt; rw [wordK_len]; exact h) (by have h := SlAt.of_owns hEr.out; unfold BoolsAt; rw [eraK_len]; exact h) (recv_of hk1 hk2 ms 60))
              unfold DecIs at KD
              have HCD := Lib.hid (show candR kn t ms = match decR (wordK ms 60) (eraK ms 60) kn with | some l => some ⟨l, t, errN l (wordK ms 60) (eraK ms 60), goneN (eraK ms 60)⟩ | none => none from if_pos HUP.out)
              obtain ⟨dr, hdr⟩ : ∃ d, decR (wordK ms 60) (eraK ms 60) kn = d := ⟨_, rfl⟩
              rw [hdr] at KD HCD
              have HDR := Lib.hid hdr
              have hgl := goneK_le (eraK ms 60) (eraK ms 60).length
              have hgl2 : goneN (eraK ms 60) ≤ 15 := by unfold goneN; rw [eraK_len] at hgl ⊢; exact hgl
              obtain ⟨g, hg⟩ : ∃ g, goneN (eraK ms 60) = g := ⟨_, rfl⟩
              rw [hg] at hgl2 HCD ⊢
              clear hg hgl hdr hn hn60
              cases dr with
              | none =>
                have HBn := Lib.hid (show bestR kn mods (t + 1) = o by rw [HB.out, HCD.out]; rfl)
                go_wp2_with (go_at_call 61; (with_reducible refine KD.out.mono ?_); rintro E w9 ⟨h9, h9e⟩; have h9' : E = .returned (.tuple #[.slice none 0 0, .int .i64 0, .int .i64 60]) := h9e; clear h9e; subst h9')
                exact ⟨FIN.out _ (hE6.trans h9) HBn.out, by simp [intOf]; omega⟩
              | some M =>
                have hel : errN M (wordK ms 60) (eraK ms 60) ≤ 15 := by rw [errN_eq, eraK_len]; exact errK_le _ _ _ _
                obtain ⟨e, he⟩ : ∃ e, errN M (wordK ms 60) (eraK ms 60) = e := ⟨_, rfl⟩
                have HEE := Lib.hid he
                have HCD2 := Lib.hid (show candR kn t ms = some ⟨M, t, errN M (wordK ms 60) (eraK ms 60), g⟩ from HCD.out)
                rw [he] at HCD2 hel
                have HML2 := Lib.hid (show M.length = kn from (decR_fits HDR.out).2.1)
                obtain ⟨ls, hls⟩ : ∃ x, leastOf o = x := ⟨_, rfl⟩
                rw [hls]
                have HLS := Lib.hid hls
                have hlb : ls = -1 ∨ (0 ≤ ls ∧ ls ≤ 1000000) := by
                  rw [← hls]
                  cases ho9 : o with
                  | none => exact .inl rfl
                  | some b =>
                    right
                    have hb := best_cost (k := kn) (mods := mods) t b (by rw [HO.out]; exact ho9)
                    show 0 ≤ (b.cost : Int) ∧ (b.cost : Int) ≤ 1000000
                    omega
                clear he HCD hls
                by_cases htk : ls < 0 ∨ (2 * (e : Int) + (g : Int)) < ls
                · have HBt := Lib.hid (show bestR kn mods (t + 1) = some ⟨M, t, e, g⟩ by
                    rw [HB.out, HCD2.out]
                    have h := HLS.out
                    cases o with
                    | none => rfl
                    | some b =>
                      have h2 : (b.cost : Int) = ls := h
                      show (if (Rd.cost ⟨M, t, e, g⟩) < b.cost then _ else _) = _
                      rw [if_pos]
                      show 2 * e + g < b.cost
                      omega)
                  have hA9 := Lib.hid (At.ext hE6 HA5.out)
                  have hB3z := At.lt hA9.out 3 rfl
                  have TAKE := Lib.hid (show ∀ (w9 : World) (vo : Option Addr) (vc : Nat), Ext wr w9 → w9.ownsRow wr.heap.size 5 1 (.slice vo kn vc) kn (bytesL M) → ∀ W9, W9 = (((w9.setCell ⟨B3, 0, none⟩ (.slice vo kn vc)).setCell ⟨B3, 1, none⟩ (.int .i64 (t : Int))).setCell ⟨B3, 2, none⟩ (.int .i64 (e : Int))).setCell ⟨B3, 3, none⟩ (.int .i64 (g : Int)) →
                      ∃ (t' : Nat) (pv bv : Value), t' ≤ 4 ∧ Value.int .i64 ((t : Int) + 1) = .int .i64 (t' : Int) ∧ Value.int .i64 (2 * (e : Int) + (g : Int)) = .int .i64 (leastOf (bestR kn mods t')) ∧ Ext w W9 ∧ Hid (At W9 (readL B0 B3 ww lo hi' pv bv (bestD (bestR kn mods t')))) ∧ Hid (IntsAt W9 pv (turnN t' m0).pix) ∧ Hid (∀ j, pv.ownBlock = some j → j < B0 ∨ B3 < j) ∧ Hid (BytesAt W9 bv (bestD (bestR kn mods t')).msg) ∧ Hid (∀ j, bv.ownBlock = some j → B3 < j) from by
                    intro w9 vo vc h9 ho9 W9 hW9
                    have hA := At.ext h9 hA9.out
                    have st := store_4 (v0 := .slice vo kn vc) (v1 := .int .i64 (t : Int)) (v2 := .int .i64 (e : Int)) (v3 := .int .i64 (g : Int)) (At.at hA 3 rfl)
                    have hgb : w9.grownBy W9 (some B3) := by rw [hW9]; exact gb_trans (gb_trans (gb_trans (gb_set _ _ _ _) (gb_set _ _ _ _)) (gb_set _ _ _ _)) (gb_set _ _ _ _)
                    rw [← hW9] at st
                    have hw9 := (HE5.out.trans hE6).trans h9
                    refine ⟨t + 1, .slice qo n5 qc, .slice vo kn vc, by omega, by go_num, ?_⟩
                    rw [HBt.out]
                    refine ⟨congrArg (Value.int .i64) (by show _ = ((2 * e + g : Nat) : Int); omega), st.2.2 w (by rw [HBB.out.1]; omega) hw9, Lib.hid ⟨(st.2.1 _ (by omega)).trans (At.at hA 0 rfl), (st.2.1 _ (by omega)).trans (At.at hA 1 rfl), (st.2.1 _ (by omega)).trans (At.at hA 2 rfl), st.1, trivial⟩, Lib.hid (SlAt.gb (HP5.out.ext (hE6.trans h9)) hgb (fun j hj h8 => by have := HPB5.out j hj; have := Option.some.inj h8; omega)), HPB5, Lib.hid ?_, Lib.hid (fun j hj => by have := (ho9.lt j hj).1; omega)⟩
                    have hb := (show BytesAt w9 (.slice vo kn vc) M by unfold BytesAt; rw [HML2.out]; exact SlAt.of_owns ho9)
                    exact hb.gb hgb (fun j hj h8 => by have := (ho9.lt j hj).1; have := Option.some.inj h8; omega))
                  have hcs : ls < 0 ∨ (¬ ls < 0 ∧ (2 * (e : Int) + (g : Int)) < ls) := by omega
                  clear htk
                  rcases hcs with hl0 | ⟨hl0, hl1⟩
                  · go_wp2_with (go_at_call 61; (with_reducible refine KD.out.mono ?_); rintro E w9 ⟨h9, h9e⟩; obtain ⟨v9, h9', ho9⟩ : ∃ v, E = .returned (.tuple #[v, .int .i64 ((errN M (wordK ms 60) (eraK ms 60) : Nat) : Int), .int .i64 0]) ∧ w9.ownsRow wr.heap.size 5 1 v kn (bytesL M) := h9e; (try clear h9e); rw [HEE.out] at h9'; subst h9'; obtain ⟨-, vo, vc, rfl, -⟩ := SlAt.of_owns ho9; have hb := At.at (At.ext h9 hA9.out) 3 rfl; unfold rdCells at hb; obtain ⟨⟨p0, p1, p2, p3⟩, pf0, pf1, pf2, pf3⟩ := run_4 hb; have pz := World.block_lt_of_cell? _ _ p0; simp only at pz)
                    exact ⟨TAKE.out _ _ _ h9 ho9 _ rfl, by simp [intOf]; omega⟩
                  · go_wp2_with (go_at_call 61; (with_reducible refine KD.out.mono ?_); rintro E w9 ⟨h9, h9e⟩; obtain ⟨v9, h9', ho9⟩ : ∃ v, E = .returned (.tuple #[v, .int .i64 ((errN M (wordK ms 60) (eraK ms 60) : Nat) : Int), .int .i64 0]) ∧ w9.ownsRow wr.heap.size 5 1 v kn (bytesL M) := h9e; (try clear h9e); rw [HEE.out] at h9'; subst h9'; obtain ⟨-, vo, vc, rfl, -⟩ := SlAt.of_owns ho9; have hb := At.at (At.ext h9 hA9.out) 3 rfl; unfold rdCells at hb; obtain ⟨⟨p0, p1, p2, p3⟩, pf0, pf1, pf2, pf3⟩ := run_4 hb; have pz := World.block_lt_of_cell? _ _ p0; simp only at pz)
                    exact ⟨TAKE.out _ _ _ h9 ho9 _ rfl, by simp [intOf]; omega⟩
                · have HBt := Lib.hid (show bestR kn mods (t + 1) = o by
                    rw [HB.out, HCD2.out]
                    have h := HLS.out
                    cases o with
                    | none => exact absurd (show ls < 0 by rw [← h]; show (-1 : Int) < 0; omega) (fun h9 => htk (.inl h9))
                    | some b =>
                      have h2 : (b.cost : Int) = ls := h
                      show (if (Rd.cost ⟨M, t, e, g⟩) < b.cost then _ else _) = _
                      rw [if_neg]
                      show ¬ 2 * e + g < b.cost
                      omega)
                  have hl0 : ¬ ls < 0 := fun h => htk (.inl h)
                  have hl1 : ¬ (2 * (e : Int) + (g : Int)) < ls := fun h => htk (.inr h)
                  have hA9 := Lib.hid (At.ext hE6 HA5.out)
                  clear htk
                  go_wp2_with (go_at_call 61; (with_reducible refine KD.out.mono ?_); rintro E w9 ⟨h9, h9e⟩; obtain ⟨v9, h9', ho9⟩ : ∃ v, E = .returned (.tuple #[v, .int .i64 ((errN M (wordK ms 60) (eraK ms 60) : Nat) : Int), .int .i64 0]) ∧ w9.ownsRow wr.heap.size 5 1 v kn (bytesL M) := h9e; (try clear h9e); rw [HEE.out] at h9'; subst h9'; obtain ⟨-, vo, vc, rfl, -⟩ := SlAt.of_owns ho9; have hb := At.at (At.ext h9 hA9.out) 3 rfl; unfold rdCells at hb; obtain ⟨⟨p0, p1, p2, p3⟩, pf0, pf1, pf2, pf3⟩ := run_4 hb; have pz := World.block_lt_of_cell? _ _ p0; simp only at pz)
                  have h := FIN.out _ (hE6.trans h9) HBt.out
                  rw [HLS.out] at h
                  exact ⟨h, by simp [intOf]; omega⟩
      · obtain rfl : t = 4 := by omega
        obtain ⟨o, ho⟩ : ∃ o, bestR kn mods 4 = o := ⟨_, rfl⟩
        have hro := HRI.out
        rw [ho] at hA hBv hro ⊢
        have HRO := Lib.hid hro
        obtain ⟨⟨z0, z1, z2, z3⟩, zf0, zf1, zf2, zf3⟩ := run_4 (At.at hA.out 2 rfl)
        have b0 := At.lt hA.out 2 rfl
        have b3 := At.lt hA.out 3 rfl
        have hwb : w.heap.size ≤ B0 + 1 + 1 := by rw [HBB.out.1]; omega
        clear hro ht4
        cases o with
        | none =>
          have hl : leastOf none = -1 := rfl
          rw [hl]
          clear hl
          go_wp2
          have st := store_4 (v0 := .slice none 0 0) (v1 := .int .i64 0) (v2 := .int .i64 0) (v3 := .int .i64 0) (At.at hA.out 2 rfl)
          refine bodyPost_ret (results_row2 rfl _ _ _ _ _ (0, 0) _ rfl st.1 Tryd.underlying51 rfl (by kernel_rfl)) rfl ?_
          exact ⟨_, by rw [HRO.out]; rfl, by rw [HRO.out]; exact bytes_nil _, st.2.2 w hwb hE⟩
        | some b =>
          have hcb := best_cost 4 b ho
          obtain ⟨cb, hcb2⟩ : ∃ n, b.cost = n := ⟨_, rfl⟩
          have hl : leastOf (some b) = (cb : Int) := by rw [← hcb2]; rfl
          rw [hl]
          have hbm : BytesAt wr bv b.msg := hBv.out
          obtain ⟨-, bo, bc, rfl, -⟩ := id hbm
          have HBM := Lib.hid hbm
          obtain ⟨bl, hbl⟩ : ∃ n, b.msg.length = n := ⟨_, rfl⟩
          have hA1 : wr.heap[B3]? = some (Obj.cells #[.slice bo b.msg.length bc, .int .i64 (b.turns : Int), .int .i64 (b.errs : Int), .int .i64 (b.gone : Int)] 51) := At.at hA.out 3 rfl
          rw [hbl] at HBM hA1
          obtain ⟨⟨p0, p1, p2, p3⟩, -⟩ := run_4 hA1
          have hcn : ¬ ((cb : Int) < 0) := by omega
          have st := store_4 (v0 := .slice bo bl bc) (v1 := .int .i64 (b.turns : Int)) (v2 := .int .i64 (b.errs : Int)) (v3 := .int .i64 (b.gone : Int)) (At.at hA.out 2 rfl)
          have ST := Lib.hid st
          have HBK := Lib.hid (show ∀ j, (Value.slice bo bl bc).ownBlock = some j → j ≠ B0 + 1 + 1 from fun j hj h9 => by
            have h1 : (Value.slice bo b.msg.length bc).ownBlock = some j := by rw [hbl]; exact hj
            have h2 := hBB.out j h1
            omega)
          have HB03 := Lib.hid hB03
          clear hl hcb2 hbl hA1 hbm st ho hB03
          go_wp2
          refine bodyPost_ret (results_row2 rfl _ _ _ _ _ (0, 0) _ rfl ST.out.1 Tryd.underlying51 rfl (by kernel_rfl)) rfl ?_
          refine ⟨.slice bo bl bc, by rw [HRO.out]; rfl, ?_, ST.out.2.2 w hwb hE⟩
          rw [HRO.out]
          show BytesAt _ _ b.msg
          exact HBM.out.keep fun b' o' u hb' hc' => by
            rw [World.cell?_of_block (ST.out.2.1 b' (HBK.out b' hb'))]
            exact hc'
end Go.Proofs.YtlnofbdhamingaaDoor

/- Reading of a mark: the program's. -/
namespace Go.Proofs.YtlnofbdhamingaaDoor
open Go.RowKit Go.Sort

set_option maxRecDepth 100000 in
set_option maxHeartbeats 16000000 in
theorem c_Read (m : Img) (v : Value) (c : Con) (k : Int) (w : World) (hT : Tabs w) (hv : IntsAt w v m.pix) (hl : m.pix.length ≤ maxLen) :
    Calls Tryd.prog 30 #[imgVal m v, conVal c, .int .i64 k] w (RdErr (readA m c k) w) := by
  have HT := Lib.hid hT
  have K1 := Lib.hid (fun w' (h : Ext w w') => c_camera m v w' (hv.ext h) hl)
  have K2 := Lib.hid (fun w' => c_contrast c w')
  have HV := Lib.hid hv
  obtain ⟨ao, cap, rfl, -, -⟩ := hv.form
  clear hv hT
  obtain ⟨mw, mh, pix⟩ := m
  obtain ⟨lo, hi'⟩ := c
  have HD := Lib.hid (readA_def ⟨mw, mh, pix⟩ ⟨lo, hi'⟩ k)
  by_cases hcm : (⟨mw, mh, pix⟩ : Img).Camera
  case neg =>
    have HI := Lib.hid (show readA ⟨mw, mh, pix⟩ ⟨lo, hi'⟩ k = (rd0, 20) by rw [HD.out, if_neg hcm])
    rw [decide_eq_false hcm] at K1
    unfold imgVal conVal at *
    dsimp only at *
    clear hcm
    go_enter Tryd.func30, Tryd.ntmps30
    go_wp2_with ((go_at_call 65; (with_reducible refine (K1.out _ (by repeat (first | exact Ext.refl _ | assumption | refine Ext.alloc ?_ _ | refine Ext.drewN ?_ _ | refine ext_grow ?_ _ _ | refine Ext.trans ?_ (by assumption)))).mono ?_); rintro E w1 ⟨rfl, h1⟩; have A1 := Lib.hid (show At w1 [(w.heap.size, Obj.cells #[.int .i64 mw, .int .i64 mh, .slice ao pix.length cap] 44), (w.heap.size + 1, Obj.cells #[.int .i64 lo, .int .i64 hi'] 46), (w.heap.size + 1 + 1, Obj.cells #[.slice none 0 0, .int .i64 0, .int .i64 0, .int .i64 0] 51)] from At.ext h1 ⟨three_first _ _ _ _, three_second _ _ _ _, three_third _ _ _ _, trivial⟩); have E1 := Lib.hid (show Ext w w1 from (by repeat (first | exact Ext.refl _ | assumption | refine Ext.alloc ?_ _ | refine Ext.drewN ?_ _ | refine ext_grow ?_ _ _ | refine Ext.trans ?_ (by assumption)))); obtain ⟨⟨x0, x1, x2⟩, -⟩ := run_3 (At.at A1.out 0 rfl); obtain ⟨⟨y0, y1⟩, -⟩ := run_2 (At.at A1.out 1 rfl); obtain ⟨⟨z0, z1, z2, z3⟩, zf0, zf1, zf2, zf3⟩ := run_4 (At.at A1.out 2 rfl); have b0 := At.lt A1.out 0 rfl; have b1 := At.lt A1.out 1 rfl; have b2 := At.lt A1.out 2 rfl))
    (have st := store_4 (v0 := .slice none 0 0) (v1 := .int .i64 0) (v2 := .int .i64 0) (v3 := .int .i64 0) (At.at A1.out 2 rfl); refine bodyPost_ret (results_row2 rfl _ _ _ _ _ (0, 0) _ rfl st.1 Tryd.underlying51 rfl (by kernel_rfl)) rfl ?_; exact ⟨_, by rw [HI.out]; rfl, by rw [HI.out]; exact bytes_nil _, st.2.2 w (Nat.le_succ_of_le (Nat.le_succ _)) E1.out⟩)
  have HC := Lib.hid hcm
  rw [decide_eq_true hcm] at K1
  have hD1 : readA ⟨mw, mh, pix⟩ ⟨lo, hi'⟩ k = _ := HD.out.trans (if_pos hcm)
  by_cases hco : (⟨lo, hi'⟩ : Con).Ok ∧ 1 ≤ k ∧ k ≤ 13
  case neg =>
    have HI := Lib.hid (show readA ⟨mw, mh, pix⟩ ⟨lo, hi'⟩ k = (rd0, 2) by rw [hD1, if_neg hco])
    by_cases hoo : (⟨lo, hi'⟩ : Con).Ok
    · rw [decide_eq_true hoo] at K2
      have hk : k < 1 ∨ 13 < k := by
        rcases Int.lt_or_le k 1 with h | h
        · exact .inl h
        · exact .inr (Classical.byContradiction fun h9 => hco ⟨hoo, h, by omega⟩)
      unfold imgVal conVal at *
      dsimp only at *
      clear hcm hco hoo hD1 HD
      rcases hk with hk | hk
      · go_enter Tryd.func30, Tryd.ntmps30
        go_wp2_with (first | (go_at_call 65; (with_reducible refine (K1.out _ (by repeat (first | exact Ext.refl _ | assumption | refine Ext.alloc ?_ _ | refine Ext.drewN ?_ _ | refine ext_grow ?_ _ _ | refine Ext.trans ?_ (by assumption)))).mono ?_); rintro E w1 ⟨rfl, h1⟩; have A1 := Lib.hid (show At w1 [(w.heap.size, Obj.cells #[.int .i64 mw, .int .i64 mh, .slice ao pix.length cap] 44), (w.heap.size + 1, Obj.cells #[.int .i64 lo, .int .i64 hi'] 46), (w.heap.size + 1 + 1, Obj.cells #[.slice none 0 0, .int .i64 0, .int .i64 0, .int .i64 0] 51)] from At.ext h1 ⟨three_first _ _ _ _, three_second _ _ _ _, three_third _ _ _ _, trivial⟩); have E1 := Lib.hid (show Ext w w1 from (by repeat (first | exact Ext.refl _ | assumption | refine Ext.alloc ?_ _ | refine Ext.drewN ?_ _ | refine ext_grow ?_ _ _ | refine Ext.trans ?_ (by assumption)))); obtain ⟨⟨x0, x1, x2⟩, -⟩ := run_3 (At.at A1.out 0 rfl); obtain ⟨⟨y0, y1⟩, -⟩ := run_2 (At.at A1.out 1 rfl); obtain ⟨⟨z0, z1, z2, z3⟩, zf0, zf1, zf2, zf3⟩ := run_4 (At.at A1.out 2 rfl); have b0 := At.lt A1.out 0 rfl; have b1 := At.lt A1.out 1 rfl; have b2 := At.lt A1.out 2 rfl) | (go_at_call 66; (with_reducible refine (K2.out _).mono ?_); rintro E w2 ⟨rfl, h2⟩; have A2 := Lib.hid (At.ext h2 A1.out); have E2 := Lib.hid (E1.out.trans h2); clear x0 x1 x2 y0 y1 z0 z1 z2 z3 zf0 zf1 zf2 zf3; obtain ⟨⟨x0, x1, x2⟩, -⟩ := run_3 (At.at A2.out 0 rfl); obtain ⟨⟨y0, y1⟩, -⟩ := run_2 (At.at A2.out 1 rfl); obtain ⟨⟨z0, z1, z2, z3⟩, zf0, zf1, zf2, zf3⟩ := run_4 (At.at A2.out 2 rfl)))
        (have st := store_4 (v0 := .slice none 0 0) (v1 := .int .i64 0) (v2 := .int .i64 0) (v3 := .int .i64 0) (At.at A2.out 2 rfl); refine bodyPost_ret (results_row2 rfl _ _ _ _ _ (0, 0) _ rfl st.1 Tryd.underlying51 rfl (by kernel_rfl)) rfl ?_; exact ⟨_, by rw [HI.out]; rfl, by rw [HI.out]; exact bytes_nil _, st.2.2 w (Nat.le_succ_of_le (Nat.le_succ _)) E2.out⟩)
      · have hk0 : ¬ k < 1 := by omega
        go_enter Tryd.func30, Tryd.ntmps30
        go_wp2_with (first | (go_at_call 65; (with_reducible refine (K1.out _ (by repeat (first | exact Ext.refl _ | assumption | refine Ext.alloc ?_ _ | refine Ext.drewN ?_ _ | refine ext_grow ?_ _ _ | refine Ext.trans ?_ (by assumption)))).mono ?_); rintro E w1 ⟨rfl, h1⟩; have A1 := Lib.hid (show At w1 [(w.heap.size, Obj.cells #[.int .i64 mw, .int .i64 mh, .slice ao pix.length cap] 44), (w.heap.size + 1, Obj.cells #[.int .i64 lo, .int .i64 hi'] 46), (w.heap.size + 1 + 1, Obj.cells #[.slice none 0 0, .int .i64 0, .int .i64 0, .int .i64 0] 51)] from At.ext h1 ⟨three_first _ _ _ _, three_second _ _ _ _, three_third _ _ _ _, trivial⟩); have E1 := Lib.hid (show Ext w w1 from (by repeat (first | exact Ext.refl _ | assumption | refine Ext.alloc ?_ _ | refine Ext.drewN ?_ _ | refine ext_grow ?_ _ _ | refine Ext.trans ?_ (by assumption)))); obtain ⟨⟨x0, x1, x2⟩, -⟩ := run_3 (At.at A1.out 0 rfl); obtain ⟨⟨y0, y1⟩, -⟩ := run_2 (At.at A1.out 1 rfl); obtain ⟨⟨z0, z1, z2, z3⟩, zf0, zf1, zf2, zf3⟩ := run_4 (At.at A1.out 2 rfl); have b0 := At.lt A1.out 0 rfl; have b1 := At.lt A1.out 1 rfl; have b2 := At.lt A1.out 2 rfl) | (go_at_call 66; (with_reducible refine (K2.out _).mono ?_); rintro E w2 ⟨rfl, h2⟩; have A2 := Lib.hid (At.ext h2 A1.out); have E2 := Lib.hid (E1.out.trans h2); clear x0 x1 x2 y0 y1 z0 z1 z2 z3 zf0 zf1 zf2 zf3; obtain ⟨⟨x0, x1, x2⟩, -⟩ := run_3 (At.at A2.out 0 rfl); obtain ⟨⟨y0, y1⟩, -⟩ := run_2 (At.at A2.out 1 rfl); obtain ⟨⟨z0, z1, z2, z3⟩, zf0, zf1, zf2, zf3⟩ := run_4 (At.at A2.out 2 rfl)))
        (have st := store_4 (v0 := .slice none 0 0) (v1 := .int .i64 0) (v2 := .int .i64 0) (v3 := .int .i64 0) (At.at A2.out 2 rfl); refine bodyPost_ret (results_row2 rfl _ _ _ _ _ (0, 0) _ rfl st.1 Tryd.underlying51 rfl (by kernel_rfl)) rfl ?_; exact ⟨_, by rw [HI.out]; rfl, by rw [HI.out]; exact bytes_nil _, st.2.2 w (Nat.le_succ_of_le (Nat.le_succ _)) E2.out⟩)
    · rw [decide_eq_false hoo] at K2
      unfold imgVal conVal at *
      dsimp only at *
      clear hcm hco hoo hD1 HD
      go_enter Tryd.func30, Tryd.ntmps30
      go_wp2_with (first | (go_at_call 65; (with_reducible refine (K1.out _ (by repeat (first | exact Ext.refl _ | assumption | refine Ext.alloc ?_ _ | refine Ext.drewN ?_ _ | refine ext_grow ?_ _ _ | refine Ext.trans ?_ (by assumption)))).mono ?_); rintro E w1 ⟨rfl, h1⟩; have A1 := Lib.hid (show At w1 [(w.heap.size, Obj.cells #[.int .i64 mw, .int .i64 mh, .slice ao pix.length cap] 44), (w.heap.size + 1, Obj.cells #[.int .i64 lo, .int .i64 hi'] 46), (w.heap.size + 1 + 1, Obj.cells #[.slice none 0 0, .int .i64 0, .int .i64 0, .int .i64 0] 51)] from At.ext h1 ⟨three_first _ _ _ _, three_second _ _ _ _, three_third _ _ _ _, trivial⟩); have E1 := Lib.hid (show Ext w w1 from (by repeat (first | exact Ext.refl _ | assumption | refine Ext.alloc ?_ _ | refine Ext.drewN ?_ _ | refine ext_grow ?_ _ _ | refine Ext.trans ?_ (by assumption)))); obtain ⟨⟨x0, x1, x2⟩, -⟩ := run_3 (At.at A1.out 0 rfl); obtain ⟨⟨y0, y1⟩, -⟩ := run_2 (At.at A1.out 1 rfl); obtain ⟨⟨z0, z1, z2, z3⟩, zf0, zf1, zf2, zf3⟩ := run_4 (At.at A1.out 2 rfl); have b0 := At.lt A1.out 0 rfl; have b1 := At.lt A1.out 1 rfl; have b2 := At.lt A1.out 2 rfl) | (go_at_call 66; (with_reducible refine (K2.out _).mono ?_); rintro E w2 ⟨rfl, h2⟩; have A2 := Lib.hid (At.ext h2 A1.out); have E2 := Lib.hid (E1.out.trans h2); clear x0 x1 x2 y0 y1 z0 z1 z2 z3 zf0 zf1 zf2 zf3; obtain ⟨⟨x0, x1, x2⟩, -⟩ := run_3 (At.at A2.out 0 rfl); obtain ⟨⟨y0, y1⟩, -⟩ := run_2 (At.at A2.out 1 rfl); obtain ⟨⟨z0, z1, z2, z3⟩, zf0, zf1, zf2, zf3⟩ := run_4 (At.at A2.out 2 rfl)))
      (have st := store_4 (v0 := .slice none 0 0) (v1 := .int .i64 0) (v2 := .int .i64 0) (v3 := .int .i64 0) (At.at A2.out 2 rfl); refine bodyPost_ret (results_row2 rfl _ _ _ _ _ (0, 0) _ rfl st.1 Tryd.underlying51 rfl (by kernel_rfl)) rfl ?_; exact ⟨_, by rw [HI.out]; rfl, by rw [HI.out]; exact bytes_nil _, st.2.2 w (Nat.le_succ_of_le (Nat.le_succ _)) E2.out⟩)
  have hD2 : readA ⟨mw, mh, pix⟩ ⟨lo, hi'⟩ k = _ := hD1.trans (if_pos hco)
  rw [decide_eq_true hco.1] at K2
  obtain ⟨hcc, hk1, hk2⟩ := hco
  have hnk1 : ¬ k < 1 := by omega
  have hnk2 : ¬ 13 < k := by omega
  by_cases hsz : mw = mh ∧ (mw = 8 ∨ mw = 16)
  case neg =>
    have HI := Lib.hid (show readA ⟨mw, mh, pix⟩ ⟨lo, hi'⟩ k = (rd0, 21) by rw [hD2, if_neg hsz])
    unfold imgVal conVal at *
    dsimp only at *
    by_cases h1 : mw = mh
    · have q1 : (mw != mh) = false := by rw [bne_eq_false_iff_eq]; exact h1
      have q2 : (mw != 8) = true := by rw [bne_iff_ne]; exact fun h => hsz ⟨h1, .inl h⟩
      have q3 : (mw != 16) = true := by rw [bne_iff_ne]; exact fun h => hsz ⟨h1, .inr h⟩
      clear hcm hcc hD1 hD2 HD hsz h1
      go_enter Tryd.func30, Tryd.ntmps30
      go_wp2_with (first | (go_at_call 65; (with_reducible refine (K1.out _ (by repeat (first | exact Ext.refl _ | assumption | refine Ext.alloc ?_ _ | refine Ext.drewN ?_ _ | refine ext_grow ?_ _ _ | refine Ext.trans ?_ (by assumption)))).mono ?_); rintro E w1 ⟨rfl, h1⟩; have A1 := Lib.hid (show At w1 [(w.heap.size, Obj.cells #[.int .i64 mw, .int .i64 mh, .slice ao pix.length cap] 44), (w.heap.size + 1, Obj.cells #[.int .i64 lo, .int .i64 hi'] 46), (w.heap.size + 1 + 1, Obj.cells #[.slice none 0 0, .int .i64 0, .int .i64 0, .int .i64 0] 51)] from At.ext h1 ⟨three_first _ _ _ _, three_second _ _ _ _, three_third _ _ _ _, trivial⟩); have E1 := Lib.hid (show Ext w w1 from (by repeat (first | exact Ext.refl _ | assumption | refine Ext.alloc ?_ _ | refine Ext.drewN ?_ _ | refine ext_grow ?_ _ _ | refine Ext.trans ?_ (by assumption)))); obtain ⟨⟨x0, x1, x2⟩, -⟩ := run_3 (At.at A1.out 0 rfl); obtain ⟨⟨y0, y1⟩, -⟩ := run_2 (At.at A1.out 1 rfl); obtain ⟨⟨z0, z1, z2, z3⟩, zf0, zf1, zf2, zf3⟩ := run_4 (At.at A1.out 2 rfl); have b0 := At.lt A1.out 0 rfl; have b1 := At.lt A1.out 1 rfl; have b2 := At.lt A1.out 2 rfl) | (go_at_call 66; (with_reducible refine (K2.out _).mono ?_); rintro E w2 ⟨rfl, h2⟩; have A2 := Lib.hid (At.ext h2 A1.out); have E2 := Lib.hid (E1.out.trans h2); clear x0 x1 x2 y0 y1 z0 z1 z2 z3 zf0 zf1 zf2 zf3; obtain ⟨⟨x0, x1, x2⟩, -⟩ := run_3 (At.at A2.out 0 rfl); obtain ⟨⟨y0, y1⟩, -⟩ := run_2 (At.at A2.out 1 rfl); obtain ⟨⟨z0, z1, z2, z3⟩, zf0, zf1, zf2, zf3⟩ := run_4 (At.at A2.out 2 rfl)))
      (have st := store_4 (v0 := .slice none 0 0) (v1 := .int .i64 0) (v2 := .int .i64 0) (v3 := .int .i64 0) (At.at A2.out 2 rfl); refine bodyPost_ret (results_row2 rfl _ _ _ _ _ (0, 0) _ rfl st.1 Tryd.underlying51 rfl (by kernel_rfl)) rfl ?_; exact ⟨_, by rw [HI.out]; rfl, by rw [HI.out]; exact bytes_nil _, st.2.2 w (Nat.le_succ_of_le (Nat.le_succ _)) E2.out⟩)
    · have q1 : (mw != mh) = true := by rw [bne_iff_ne]; exact h1
      clear hcm hcc hD1 hD2 HD hsz h1
      go_enter Tryd.func30, Tryd.ntmps30
      go_wp2_with (first | (go_at_call 65; (with_reducible refine (K1.out _ (by repeat (first | exact Ext.refl _ | assumption | refine Ext.alloc ?_ _ | refine Ext.drewN ?_ _ | refine ext_grow ?_ _ _ | refine Ext.trans ?_ (by assumption)))).mono ?_); rintro E w1 ⟨rfl, h1⟩; have A1 := Lib.hid (show At w1 [(w.heap.size, Obj.cells #[.int .i64 mw, .int .i64 mh, .slice ao pix.length cap] 44), (w.heap.size + 1, Obj.cells #[.int .i64 lo, .int .i64 hi'] 46), (w.heap.size + 1 + 1, Obj.cells #[.slice none 0 0, .int .i64 0, .int .i64 0, .int .i64 0] 51)] from At.ext h1 ⟨three_first _ _ _ _, three_second _ _ _ _, three_third _ _ _ _, trivial⟩); have E1 := Lib.hid (show Ext w w1 from (by repeat (first | exact Ext.refl _ | assumption | refine Ext.alloc ?_ _ | refine Ext.drewN ?_ _ | refine ext_grow ?_ _ _ | refine Ext.trans ?_ (by assumption)))); obtain ⟨⟨x0, x1, x2⟩, -⟩ := run_3 (At.at A1.out 0 rfl); obtain ⟨⟨y0, y1⟩, -⟩ := run_2 (At.at A1.out 1 rfl); obtain ⟨⟨z0, z1, z2, z3⟩, zf0, zf1, zf2, zf3⟩ := run_4 (At.at A1.out 2 rfl); have b0 := At.lt A1.out 0 rfl; have b1 := At.lt A1.out 1 rfl; have b2 := At.lt A1.out 2 rfl) | (go_at_call 66; (with_reducible refine (K2.out _).mono ?_); rintro E w2 ⟨rfl, h2⟩; have A2 := Lib.hid (At.ext h2 A1.out); have E2 := Lib.hid (E1.out.trans h2); clear x0 x1 x2 y0 y1 z0 z1 z2 z3 zf0 zf1 zf2 zf3; obtain ⟨⟨x0, x1, x2⟩, -⟩ := run_3 (At.at A2.out 0 rfl); obtain ⟨⟨y0, y1⟩, -⟩ := run_2 (At.at A2.out 1 rfl); obtain ⟨⟨z0, z1, z2, z3⟩, zf0, zf1, zf2, zf3⟩ := run_4 (At.at A2.out 2 rfl)))
      (have st := store_4 (v0 := .slice none 0 0) (v1 := .int .i64 0) (v2 := .int .i64 0) (v3 := .int .i64 0) (At.at A2.out 2 rfl); refine bodyPost_ret (results_row2 rfl _ _ _ _ _ (0, 0) _ rfl st.1 Tryd.underlying51 rfl (by kernel_rfl)) rfl ?_; exact ⟨_, by rw [HI.out]; rfl, by rw [HI.out]; exact bytes_nil _, st.2.2 w (Nat.le_succ_of_le (Nat.le_succ _)) E2.out⟩)
  obtain ⟨rfl, hsz⟩ := hsz
  obtain ⟨S, hS, rfl⟩ : ∃ S : Nat, (1 ≤ S ∧ S ≤ 2) ∧ mw = ((8 * S : Nat) : Int) := by
    rcases hsz with h | h
    · exact ⟨1, by omega, h⟩
    · exact ⟨2, by omega, h⟩
  have hSC : SqCam S ⟨((8 * S : Nat) : Int), ((8 * S : Nat) : Int), pix⟩ := ⟨rfl, rfl, hcm⟩
  have hS8 : (((8 * S : Nat) : Int) / 8).toNat = S := by omega
  have hD3 : readA ⟨((8 * S : Nat) : Int), ((8 * S : Nat) : Int), pix⟩ ⟨lo, hi'⟩ k = match readI ⟨((8 * S : Nat) : Int), ((8 * S : Nat) : Int), pix⟩ S lo hi' k.toNat with | none => (rd0, (60 : Int)) | some r => (r, (0 : Int)) := by
    rw [hD2, if_pos ⟨rfl, hsz⟩, hS8]
    try rfl
  obtain ⟨kn, rfl⟩ := Int.eq_ofNat_of_zero_le (show 0 ≤ k by omega)
  rw [Int.toNat_natCast] at hD3
  have h9 := c_Read_main S (8 * S) kn cap pix ao lo hi' w HT.out hS rfl hSC hcc (by omega) (by omega) HV.out
  have e : readA ⟨((8 * S : Nat) : Int), ((8 * S : Nat) : Int), pix⟩ ⟨lo, hi'⟩ (kn : Int) = ansR (readI ⟨((8 * S : Nat) : Int), ((8 * S : Nat) : Int), pix⟩ S lo hi' kn) := by
    rw [hD3]
    cases readI ⟨((8 * S : Nat) : Int), ((8 * S : Nat) : Int), pix⟩ S lo hi' kn <;> rfl
  rw [e]
  exact h9
end Go.Proofs.YtlnofbdhamingaaDoor

/- A region that draws its order: a reading that is taken and stored: what its store does. -/
namespace Go.Proofs.YtlnofbdhamingaaDoor
open Go.RowKit Go.Sort

def rdZero : Array Value := #[.slice none 0 0, .int .i64 0, .int .i64 0, .int .i64 0]
/-- a slice of bytes lies in no block of a reading -/
theorem bytes_not {w : World} {v : Value} {l : List Nat} {b : Nat} {fr : Nat × Nat} (h : BytesAt w v l) (hl : 1 ≤ l.length) (hb : w.heap[b]? = some (.cells rdZero 51 fr)) : v.ownBlock ≠ some b := by
  intro h9
  obtain ⟨b0, off, cap, rfl, hc⟩ := h.some rfl hl
  have e : b0 = b := Option.some.inj h9
  subst e
  have h0 := hc 0 hl
  simp only [World.cell?, hb, Nat.add_zero] at h0
  unfold rdZero at h0
  match off, h0 with
  | 0, h0 => simp at h0
  | 1, h0 => simp at h0
  | 2, h0 => simp at h0
  | 3, h0 => simp at h0
  | n + 4, h0 => simp at h0
theorem reading_store {a : Act} {w : World} {o : Oper} {ta tv b n z : Nat} {s : Option Addr} {t1 t2 t3 : Int} (ho : o.op = .store 51 (.tmp ta) (.tmp tv)) (h0 : a.tmps.getD ta undef = .pointer (some ⟨b, 0, none⟩)) (h1 : a.tmps.getD tv undef = .agg #[.slice s n z, .int .i64 t1, .int .i64 t2, .int .i64 t3])
    (hz : w.heap[b]? = some (.cells rdZero 51)) :
    (execOp a.eval o).run Tryd.prog w = .ok .skip ((((w.setCell ⟨b, 0, none⟩ (.slice s n z)).setCell ⟨b, 1, none⟩ (.int .i64 t1)).setCell ⟨b, 2, none⟩ (.int .i64 t2)).setCell ⟨b, 3, none⟩ (.int .i64 t3)) := by
  unfold rdZero at hz
  obtain ⟨⟨c0, c1, c2, c3⟩, f0, f1, f2, f3⟩ := run_4 hz
  have e0 : a.eval (.tmp ta) = .pointer (some ⟨b, 0, none⟩) := h0
  have e1 : a.eval (.tmp tv) = .agg #[.slice s n z, .int .i64 t1, .int .i64 t2, .int .i64 t3] := h1
  unfold execOp
  rw [ho]
  simp only [e0, e1]
  clear hz e0 e1 h0 h1 ho
  simp [go_sem, c0, c1, c2, c3, f0, f1, f2, f3, Tryd.underlying51]
end Go.Proofs.YtlnofbdhamingaaDoor
