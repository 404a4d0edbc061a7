/- 'MarkDamaged' returns true. -/
import Derived.Test.YtlnofbdhamingaaDoorAliveC
import Derived.Test.YtlnofbdhamingaaDoorDrawO
import Derived.Test.YtlnofbdhamingaaDoorTurnedFn
import Derived.Test.YtlnofbdhamingaaDoorSpoilFn
import Derived.Test.YtlnofbdhamingaaDoorReadPlain
import Derived.Test.YtlnofbdhamingaaDoorFitPlain
set_option linter.unusedVariables false
set_option linter.unusedSimpArgs false
namespace Go.Proofs.YtlnofbdhamingaaDoor
open Go.RowKit Go.Sort

theorem rowI_set (l : List Int) (k : Nat) (x : Int) : (ints l).set k (.int .i64 x) = ints (l.set k x) := by unfold ints; rw [List.map_set]
theorem rowI_get {l : List Int} {j : Nat} (h : j < l.length) : (ints l)[j]? = some (.int .i64 (l.getD j 0)) := by
  unfold ints
  rw [List.getElem?_map, List.getElem?_eq_getElem h, List.getD_eq_getElem?_getD, List.getElem?_eq_getElem h]; rfl
set_option maxRecDepth 100000 in
set_option maxHeartbeats 16000000 in
theorem damaged_walk (v1 : Value) (M : List Nat) (v2 : Value) (ch : List Nat) (times : Nat) (w : World) (hT : Tabs w) (h1 : BytesAt w v1 M) (n1 : M.length ≤ 140737488351232) (h2 : BytesAt w v2 ch) (n2 : ch.length ≤ 140737488351232) :
    Calls Tryd.prog 12 #[v1, v2, .int .u8 (times : Int)] w fun e w' => e = .returned (.bool true) ∧ Ext w w' := by
  obtain ⟨i0, hi, hz0, hz1, hz2⟩ := info_parts3 info_byte
  have K0 := Lib.hid (fun w' (h : Ext w w') => l_alive w' (hT.ext h))
  have HT := Lib.hid hT
  have HV := Lib.hid h1
  have H2 := Lib.hid h2
  have KD0 := Lib.hid (fun w' (h : Ext w w') => c_Draw v1 M 1 0 255 w' (hT.ext h) (h1.ext h) (by unfold maxLen; omega))
  have KD1 := Lib.hid (fun hok w' (h : Ext w w') => c_DrawO v1 M 1 0 255 w' (hT.ext h) (h1.ext h) (by unfold maxLen; omega) hok)
  have KS := Lib.hid (fun w' v (hz : BytesAt w' v (List.replicate 15 0)) (h : Ext w w') => l_spoiled v v2 (List.replicate 15 0) ch w' hz (by decide) (fun x hx => by have := (List.mem_replicate.1 hx).2; omega) (h2.ext h) (by unfold maxLen; omega))
  obtain ⟨ao, ac, rfl, -⟩ := h1.form
  obtain ⟨bo, bc, rfl, -, hc0⟩ := h2.form
  have HC := Lib.hid hc0
  have hcl : ch.length ≤ 140737488351232 := n2
  clear hT h1 h2 hc0 n1 n2
  by_cases hd : drawOk M 1 0 255
  case neg =>
    have KD : Hid (∀ w', Ext w w' → Calls Tryd.prog 34 #[.slice ao M.length ac, .int .i64 1, .int .i64 0, .int .i64 255] w' fun e w'' => ∃ v', e = .returned (.tuple #[.agg #[.int .i64 0, .int .i64 0, v'], .int .i64 2]) ∧ IntsAt w'' v' [] ∧ Ext w' w'') := Lib.hid (fun w' h => by
      have k := KD0.out w' h
      rw [drawI_no hd] at k
      exact k)
    clear hd KD0 KD1 KS hcl
    as_aux_lemma =>
      go_enter Tryd.func12, Tryd.ntmps12
      go_wp2_with (first
          | (go_at_call 34; (with_reducible refine (KD.out _ E1.out).mono ?_); rintro E w2 ⟨v2, rfl, i2, hb2⟩; have A2 := Lib.hid (show At w2 [] from At.ext hb2 A1.out); have E2 := Lib.hid ((E1.out).trans hb2); obtain ⟨-, po2, pc2, rfl, -⟩ := id i2)
          | (go_at_call 38; (with_reducible refine (K0.out _ (show Ext w w from (by repeat (first | exact Ext.refl _ | assumption | refine Ext.alloc ?_ _ | refine Ext.drewN ?_ _ | refine ext_grow ?_ _ _ | refine Ext.setCell ?_ (by first | exact Nat.le_refl _ | omega | (simp; done) | (simp; omega)) _ | refine Ext.trans ?_ (by assumption))))).mono ?_); rintro E w1 ⟨rfl, hb1⟩; have A1 := Lib.hid (show At w1 [] from At.ext hb1 (show At _ [] from trivial)); have E1 := Lib.hid (((show Ext w w from (by repeat (first | exact Ext.refl _ | assumption | refine Ext.alloc ?_ _ | refine Ext.drewN ?_ _ | refine ext_grow ?_ _ _ | refine Ext.setCell ?_ (by first | exact Nat.le_refl _ | omega | (simp; done) | (simp; omega)) _ | refine Ext.trans ?_ (by assumption))))).trans hb1)))
      go_ret
      exact ⟨rfl, ((E2.out).alloc _)⟩
  have hm := hd.1
  obtain ⟨hMs, -⟩ := message_syms hm
  have hml := message_len hm
  have KD : Hid (∀ w', Ext w w' → Calls Tryd.prog 34 #[.slice ao M.length ac, .int .i64 1, .int .i64 0, .int .i64 255] w' fun e w'' => ∃ v', e = .returned (.tuple #[.agg #[.int .i64 8, .int .i64 8, v'], .int .i64 0]) ∧ w''.ownsRow w'.heap.size 3 1 v' 64 (ints (dmgK (encR M) ch 0)) ∧ Ext w' w'') := Lib.hid (fun w' h => by
    have k := KD1.out hd w' h
    rw [drawI_yes (S := 1) hd (show (1 : Int) = ((1 : Nat) : Int) from rfl), dmgK_zero (encR M) ch] at k
    unfold ImgOwn at k
    dsimp only at k
    rw [dmgK_len] at k
    exact k)
  have hsq := dmgI_sq (encR M) ch
  obtain ⟨T, hTT⟩ : ∃ T, times % 4 = T := ⟨_, rfl⟩
  have hT4 : T < 4 := by rw [← hTT]; exact Nat.mod_lt _ (by omega)
  have K3 := Lib.hid (fun w' pv hp => l_turned (S := 1) (ww := 8) ⟨by omega, by omega⟩ hsq rfl pv times T hTT w' hp)
  have hturn := turnN_cam (S := 1) ⟨by omega, by omega⟩ hsq T
  have HRd := Lib.hid (fun hf => read_damaged (M := M) (ch := ch) (k := M.length) (n := T) hMs rfl hml.1 hml.2 hf hT4)
  have K4 := Lib.hid (fun hf w' pv (hE : Ext w w') (hp : IntsAt w' pv (turnN T (dmgI (encR M) ch)).pix) => by
    have k := c_Read (turnN T (dmgI (encR M) ch)) pv ⟨100, 150⟩ (M.length : Int) w' (HT.out.ext hE) hp (by rw [hturn.len]; decide)
    rw [HRd.out hf] at k
    unfold imgVal at k
    rw [hturn.1, hturn.2.1] at k
    exact (show Calls Tryd.prog 30 #[.agg #[.int .i64 8, .int .i64 8, pv], .agg #[.int .i64 100, .int .i64 150], .int .i64 (M.length : Int)] w' fun e w'' => ∃ v', e = .returned (.tuple #[.agg #[v', .int .i64 (((4 - T) % 4 : Nat) : Int), .int .i64 ((wrongK ch 15 : Nat) : Int), .int .i64 ((lostK ch 15 : Nat) : Int)], .int .i64 0]) ∧ BytesAt w'' v' M ∧ Ext w' w'' from k))
  have K3 : Hid (∀ w' pv, IntsAt w' pv (dmgK (encR M) ch 64) → Calls Tryd.prog 45 #[.agg #[.int .i64 8, .int .i64 8, pv], .int .u8 (times : Int)] w' fun e w'' => ∃ v', e = .returned (.tuple #[.agg #[.int .i64 8, .int .i64 8, v'], .bool true]) ∧ IntsAt w'' v' (turnN T (dmgI (encR M) ch)).pix ∧ Ext w' w'') := Lib.hid (fun w' pv hp => K3.out w' pv hp)
  have m4 : (times : Int).tmod 4 = (T : Int) := by rw [← hTT]; rfl
  have m5 : ((4 : Int) - (T : Int)).tmod 4 = (((4 - T) % 4 : Nat) : Int) := by
    rcases (show T = 0 ∨ T = 1 ∨ T = 2 ∨ T = 3 by omega) with h | h | h | h <;> rw [h] <;> rfl
  obtain ⟨tt, htt⟩ : ∃ tt, (4 - T) % 4 = tt := ⟨_, rfl⟩
  rw [htt] at K4 m5
  obtain ⟨wr_, hwr⟩ : ∃ n, wrongK ch 15 = n := ⟨_, rfl⟩
  obtain ⟨lo, hlo⟩ : ∃ n, lostK ch 15 = n := ⟨_, rfl⟩
  have hwl := wrong_lost_le ch 15
  rw [hwr, hlo] at KS K4 hwl
  have K5 : Hid (∀ w' v1, Ext w w' → BytesAt w' v1 M → Calls Tryd.prog 32 #[.agg #[v1, .int .i64 (tt : Int), .int .i64 (wr_ : Int), .int .i64 (lo : Int)], .agg #[.slice ao M.length ac, .int .i64 (tt : Int), .int .i64 (wr_ : Int), .int .i64 (lo : Int)]] w' fun e w'' => e = .returned (.bool true) ∧ Ext w' w'') := Lib.hid (fun w' v1 hE h1 => r_SameReading v1 _ ⟨M, tt, wr_, lo⟩ w' h1 (HV.out.ext hE))
  obtain ⟨pxT, hp1⟩ : ∃ p, (turnN T (dmgI (encR M) ch)).pix = p := ⟨_, rfl⟩
  rw [hp1] at K3 K4
  obtain ⟨W, hW⟩ : ∃ W, encR M = W := ⟨_, rfl⟩
  rw [hW] at K3 KD
  have HX := Lib.hid (And.intro hp1 (And.intro hW (And.intro htt (And.intro hwr hlo))))
  clear KD0 KD1 hd hm hMs hsq hTT hturn HRd hp1 hW htt hwr hlo
  by_cases hf : 2 * wr_ + lo ≤ 15 - M.length
  case neg =>
    have q : decide ((15 : Int) - (M.length : Int) < 2 * (wr_ : Int) + (lo : Int)) = true := decide_eq_true (by omega)
    clear hf K3 K4 K5 hcl
    as_aux_lemma =>
      go_enter Tryd.func12, Tryd.ntmps12
      go_wp2_with (first
          | (go_at_call 40; (with_reducible refine (KS.out _ _ Z3.out E3.out).mono ?_); rintro E w4 ⟨s1, t1, s2, t2, rfl, -, -, hb4⟩; have A4 := Lib.hid (show At w4 [(w2.heap.size, Obj.cells #[.int .i64 8, .int .i64 8, .slice (some ⟨gm, 0, none⟩) 64 cm] 44)] from At.ext hb4 A3.out); have E4 := Lib.hid ((E3.out).trans hb4); obtain ⟨⟨c4_0_0, c4_0_1, c4_0_2⟩, f4_0_0, f4_0_1, f4_0_2⟩ := run_3 (At.at A4.out 0 rfl); have s4_0 : w2.heap.size < w4.heap.size := At.lt A4.out 0 rfl; (try clear c3_0_0 c3_0_1 c3_0_2 f3_0_0 f3_0_1 f3_0_2 s3_0); have O_4 := Lib.hid (owns_ext (O_3.out) hb4); have Z_4 := Lib.hid (BytesAt.ext (Z3.out) hb4))
          | (at_make; refine wpList_make_full _ rfl _ _ 22 rfl w.heap.size 5 i0 (.int .u8 0) 1 Tryd.underlying22 hi hz0 hz1 .i64 .i64 _ _ 15 rfl rfl rfl rfl (by rw [hz2]; omega) (by unfold maxLen; omega) (by rw [size_one]; have := E2.out.size; omega) ?_; intro w3 ho3 hg3; have hb3 := ext_of_grownNone hg3; rw [made_zero (List.replicate 15 0) 15, rowK_zero, show List.replicate 15 (Value.int .u8 0) = bytesL (List.replicate 15 0) by simp [bytesL]] at ho3; obtain ⟨gz, cz, hvz, -, -⟩ := owns_some ho3 (by decide); have Z3 := Lib.hid (show BytesAt w3 (.slice (some ⟨w2.heap.size + 1, 0, none⟩) 15 15) (List.replicate 15 0) from (by have h9 := SlAt.of_owns ho3; rw [size_one] at h9; exact h9)); clear ho3 hg3; have A3 := Lib.hid (show At w3 [(w2.heap.size, Obj.cells #[.int .i64 8, .int .i64 8, .slice (some ⟨gm, 0, none⟩) 64 cm] 44)] from At.ext hb3 (show At (World.alloc w2 (Obj.cells #[.int .i64 8, .int .i64 8, .slice (some ⟨gm, 0, none⟩) 64 cm] 44)) [(w2.heap.size, Obj.cells #[.int .i64 8, .int .i64 8, .slice (some ⟨gm, 0, none⟩) 64 cm] 44)] from ⟨one_first _ _, At.alloc A2.out _⟩)); have E3 := Lib.hid ((((E2.out).alloc _)).trans hb3); obtain ⟨⟨c3_0_0, c3_0_1, c3_0_2⟩, f3_0_0, f3_0_1, f3_0_2⟩ := run_3 (At.at A3.out 0 rfl); have s3_0 : w2.heap.size < w3.heap.size := At.lt A3.out 0 rfl; have O_3 := Lib.hid (owns_ext ((owns_ext OM.out ((Ext.refl _).alloc _))) hb3))
          | (go_at_call 34; (with_reducible refine (KD.out _ E1.out).mono ?_); rintro E w2 ⟨v2, rfl, o2, hb2⟩; have A2 := Lib.hid (show At w2 [] from At.ext hb2 A1.out); have E2 := Lib.hid ((E1.out).trans hb2); obtain ⟨gm, cm, rfl, hgm, -⟩ := owns_some o2 (by decide); have OM := Lib.hid o2; have hgl := (o2.lt gm rfl).2)
          | (go_at_call 38; (with_reducible refine (K0.out _ (show Ext w w from (by repeat (first | exact Ext.refl _ | assumption | refine Ext.alloc ?_ _ | refine Ext.drewN ?_ _ | refine ext_grow ?_ _ _ | refine Ext.setCell ?_ (by first | exact Nat.le_refl _ | omega | (simp; done) | (simp; omega)) _ | refine Ext.trans ?_ (by assumption))))).mono ?_); rintro E w1 ⟨rfl, hb1⟩; have A1 := Lib.hid (show At w1 [] from At.ext hb1 (show At _ [] from trivial)); have E1 := Lib.hid (((show Ext w w from (by repeat (first | exact Ext.refl _ | assumption | refine Ext.alloc ?_ _ | refine Ext.drewN ?_ _ | refine ext_grow ?_ _ _ | refine Ext.setCell ?_ (by first | exact Nat.le_refl _ | omega | (simp; done) | (simp; omega)) _ | refine Ext.trans ?_ (by assumption))))).trans hb1)))
      go_ret
      exact ⟨rfl, E4.out⟩
  have q : decide ((15 : Int) - (M.length : Int) < 2 * (wr_ : Int) + (lo : Int)) = false := decide_eq_false (by omega)
  have K4 := Lib.hid (K4.out hf)
  have HCL := Lib.hid hcl
  clear hf hcl
  as_aux_lemma =>
    go_enter Tryd.func12, Tryd.ntmps12
    go_wp2_with (first
      | (go_at_call 40; (with_reducible refine (KS.out _ _ Z3.out E3.out).mono ?_); rintro E w4 ⟨s1, t1, s2, t2, rfl, -, -, hb4⟩; have A4 := Lib.hid (show At w4 [(w2.heap.size, Obj.cells #[.int .i64 8, .int .i64 8, .slice (some ⟨gm, 0, none⟩) 64 cm] 44)] from At.ext hb4 A3.out); have E4 := Lib.hid ((E3.out).trans hb4); obtain ⟨⟨c4_0_0, c4_0_1, c4_0_2⟩, f4_0_0, f4_0_1, f4_0_2⟩ := run_3 (At.at A4.out 0 rfl); have s4_0 : w2.heap.size < w4.heap.size := At.lt A4.out 0 rfl; (try clear c3_0_0 c3_0_1 c3_0_2 f3_0_0 f3_0_1 f3_0_2 s3_0); have O_4 := Lib.hid (owns_ext (O_3.out) hb4); have Z_4 := Lib.hid (BytesAt.ext (Z3.out) hb4))
      | (at_make; refine wpList_make_full _ rfl _ _ 22 rfl w.heap.size 5 i0 (.int .u8 0) 1 Tryd.underlying22 hi hz0 hz1 .i64 .i64 _ _ 15 rfl rfl rfl rfl (by rw [hz2]; omega) (by unfold maxLen; omega) (by rw [size_one]; have := E2.out.size; omega) ?_; intro w3 ho3 hg3; have hb3 := ext_of_grownNone hg3; rw [made_zero (List.replicate 15 0) 15, rowK_zero, show List.replicate 15 (Value.int .u8 0) = bytesL (List.replicate 15 0) by simp [bytesL]] at ho3; obtain ⟨gz, cz, hvz, -, -⟩ := owns_some ho3 (by decide); have Z3 := Lib.hid (show BytesAt w3 (.slice (some ⟨w2.heap.size + 1, 0, none⟩) 15 15) (List.replicate 15 0) from (by have h9 := SlAt.of_owns ho3; rw [size_one] at h9; exact h9)); clear ho3 hg3; have A3 := Lib.hid (show At w3 [(w2.heap.size, Obj.cells #[.int .i64 8, .int .i64 8, .slice (some ⟨gm, 0, none⟩) 64 cm] 44)] from At.ext hb3 (show At (World.alloc w2 (Obj.cells #[.int .i64 8, .int .i64 8, .slice (some ⟨gm, 0, none⟩) 64 cm] 44)) [(w2.heap.size, Obj.cells #[.int .i64 8, .int .i64 8, .slice (some ⟨gm, 0, none⟩) 64 cm] 44)] from ⟨one_first _ _, At.alloc A2.out _⟩)); have E3 := Lib.hid ((((E2.out).alloc _)).trans hb3); obtain ⟨⟨c3_0_0, c3_0_1, c3_0_2⟩, f3_0_0, f3_0_1, f3_0_2⟩ := run_3 (At.at A3.out 0 rfl); have s3_0 : w2.heap.size < w3.heap.size := At.lt A3.out 0 rfl; have O_3 := Lib.hid (owns_ext ((owns_ext OM.out ((Ext.refl _).alloc _))) hb3))
      | (go_at_call 34; (with_reducible refine (KD.out _ E1.out).mono ?_); rintro E w2 ⟨v2, rfl, o2, hb2⟩; have A2 := Lib.hid (show At w2 [] from At.ext hb2 A1.out); have E2 := Lib.hid ((E1.out).trans hb2); obtain ⟨gm, cm, rfl, hgm, -⟩ := owns_some o2 (by decide); have OM := Lib.hid o2; have hgl := (o2.lt gm rfl).2)
      | (go_at_call 38; (with_reducible refine (K0.out _ (show Ext w w from (by repeat (first | exact Ext.refl _ | assumption | refine Ext.alloc ?_ _ | refine Ext.drewN ?_ _ | refine ext_grow ?_ _ _ | refine Ext.setCell ?_ (by first | exact Nat.le_refl _ | omega | (simp; done) | (simp; omega)) _ | refine Ext.trans ?_ (by assumption))))).mono ?_); rintro E w1 ⟨rfl, hb1⟩; have A1 := Lib.hid (show At w1 [] from At.ext hb1 (show At _ [] from trivial)); have E1 := Lib.hid (((show Ext w w from (by repeat (first | exact Ext.refl _ | assumption | refine Ext.alloc ?_ _ | refine Ext.drewN ?_ _ | refine ext_grow ?_ _ _ | refine Ext.setCell ?_ (by first | exact Nat.le_refl _ | omega | (simp; done) | (simp; omega)) _ | refine Ext.trans ?_ (by assumption))))).trans hb1)))
    have A8 := Lib.hid (show At w4 [(w2.heap.size, Obj.cells #[.int .i64 8, .int .i64 8, .slice (some ⟨gm, 0, none⟩) 64 cm] 44)] from A4.out)
    have E8 := Lib.hid (show Ext w w4 from E4.out)
    have hwg : w.heap.size ≤ gm := by have := E1.out.size; omega
    have O8 := Lib.hid (show World.ownsRow w4 w.heap.size 3 1 (.slice (some ⟨gm, 0, none⟩) 64 cm) 64 (ints (dmgK W ch 0)) from owns_base O_4.out (E1.out.size))
    obtain ⟨V8, hV8⟩ : ∃ V, w4 = V := ⟨_, rfl⟩
    obtain ⟨bM, hbM⟩ : ∃ b, w2.heap.size = b := ⟨_, rfl⟩
    rw [hV8] at A8 E8 O8 ⊢
    rw [hbM] at A8 hgl ⊢
    clear hV8 hbM
    go_loopw [15, 16] (fun tn ii wi => ∃ i : Nat, i ≤ 64 ∧ ii = .int .i64 (i : Int) ∧ tn = .int .i64 ((tOf i : Nat) : Int) ∧ Hid (V8.grownBy wi (some gm)) ∧ Hid (wi.ownsRow w.heap.size 3 1 (.slice (some ⟨gm, 0, none⟩) 64 cm) 64 (ints (dmgK W ch i)))) (fun _ ii _ => 64 - (intOf ii).toNat)
    case atStart => exact ⟨0, Nat.zero_le _, rfl, rfl, Lib.hid (World.grownBy.refl _ _), O8⟩
    case round =>
      clear O8
      obtain ⟨i, hi, rfl, rfl, hB, hO⟩ := hrel
      have hA := Lib.hid (At.grown hB.out A8.out (fun k hk h9 => by simp at hk; have := Option.some.inj h9; omega))
      obtain ⟨⟨m0, m1, m2⟩, mf0, mf1, mf2⟩ := run_3 (At.at hA.out 0 rfl)
      have mz := At.lt hA.out 0 rfl
      by_cases h : i < 64
      · rcases hd : isData i with _ | _
        · have HP := Lib.hid (dmgK_same (w := W) (ch := ch) (n := i) (dmgP_corner hd))
          have HT0 := Lib.hid (tOf_no hd)
          have hcor : i = 0 ∨ (i ≠ 0 ∧ (i = 7 ∨ (i ≠ 7 ∧ (i = 56 ∨ (i ≠ 56 ∧ i = 63))))) := by
            unfold isData at hd
            simp at hd
            omega
          clear hd
          rcases hcor with hc | ⟨hc0, hc | ⟨hc1, hc | ⟨hc2, hc⟩⟩⟩
          · have e0 : ((i : Int) == 0) = true := by rw [hc]; rfl
            clear hc
            go_wp2
            exact ⟨⟨i + 1, by omega, by go_num, by rw [HT0.out], hB, Lib.hid (by rw [HP.out]; exact hO.out)⟩, by simp [intOf]; omega⟩
          · have e0 : ((i : Int) == 0) = false := by simp; omega
            have e1 : ((i : Int) == 7) = true := by rw [hc]; rfl
            clear hc hc0
            go_wp2
            exact ⟨⟨i + 1, by omega, by go_num, by rw [HT0.out], hB, Lib.hid (by rw [HP.out]; exact hO.out)⟩, by simp [intOf]; omega⟩
          · have e0 : ((i : Int) == 0) = false := by simp; omega
            have e1 : ((i : Int) == 7) = false := by simp; omega
            have e2 : ((i : Int) == 56) = true := by rw [hc]; rfl
            clear hc hc0 hc1
            go_wp2
            exact ⟨⟨i + 1, by omega, by go_num, by rw [HT0.out], hB, Lib.hid (by rw [HP.out]; exact hO.out)⟩, by simp [intOf]; omega⟩
          · have e0 : ((i : Int) == 0) = false := by simp; omega
            have e1 : ((i : Int) == 7) = false := by simp; omega
            have e2 : ((i : Int) == 56) = false := by simp; omega
            have e3 : ((i : Int) == 63) = true := by rw [hc]; rfl
            clear hc hc0 hc1 hc2
            go_wp2
            exact ⟨⟨i + 1, by omega, by go_num, by rw [HT0.out], hB, Lib.hid (by rw [HP.out]; exact hO.out)⟩, by simp [intOf]; omega⟩
        · have hne : i ≠ 0 ∧ i ≠ 7 ∧ i ≠ 56 ∧ i ≠ 63 := by
            unfold isData at hd
            simpa [and_assoc] using hd
          have e0 : ((i : Int) == 0) = false := by simp; omega
          have e1 : ((i : Int) == 7) = false := by simp; omega
          have e2 : ((i : Int) == 56) = false := by simp; omega
          have e3 : ((i : Int) == 63) = false := by simp; omega
          have ht60 := tOf_lt i h hd
          have HT1 := Lib.hid (tOf_yes hd)
          have HDef := Lib.hid (dmgP_data (w := W) (ch := ch) hd)
          have HS := Lib.hid (dmgK_set (w := W) (ch := ch) h)
          have HSm := Lib.hid (dmgK_same (w := W) (ch := ch) (n := i))
          have cx : wr.cell? ⟨gm, i, none⟩ = some (.int .i64 (inkOf (modR W i))) := by
            rw [hO.out.cellAt i (by omega), rowI_get (by rw [dmgK_len]; exact h), dmgK_get h, if_neg (Nat.lt_irrefl _)]
          have cf := hO.out.frozenAt i
          have hpb := inkOf_bd (modR W i)
          obtain ⟨pv, hpv⟩ : ∃ p, inkOf (modR W i) = p := ⟨_, rfl⟩
          rw [hpv] at cx hpb HDef
          have HPV := Lib.hid hpv.symm
          have hpb2 : 0 ≤ pv ∧ pv ≤ 255 := by omega
          clear hpb hpv hne hd
          obtain ⟨t, ht⟩ : ∃ t, tOf i = t := ⟨_, rfl⟩
          rw [ht] at ht60 HT1 HDef ⊢
          have d4 : (t : Int).tdiv 4 = ((t / 4 : Nat) : Int) := rfl
          have m4 : (t : Int).tmod 4 = ((t % 4 : Nat) : Int) := rfl
          have d4' : (t : Int) / 4 = ((t / 4 : Nat) : Int) := rfl
          have m4' : (t : Int) % 4 = ((t % 4 : Nat) : Int) := rfl
          have hr := Nat.mod_lt t (show 0 < 4 by omega)
          have ha15 : t / 4 < 15 := by omega
          obtain ⟨a, haa⟩ : ∃ a, t / 4 = a := ⟨_, rfl⟩
          obtain ⟨r, hrr⟩ : ∃ r, t % 4 = r := ⟨_, rfl⟩
          rw [haa] at d4 d4' ha15 HDef
          rw [hrr] at m4 m4' hr HDef
          have HZ1 := Lib.hid (And.intro ht (And.intro haa hrr))
          clear ht haa hrr
          by_cases hal : a < ch.length
          · have p1 : decide ((a : Int) < (ch.length : Int)) = true := decide_eq_true (by omega)
            have p2 : (a : Int) < (ch.length : Int) := by omega
            obtain ⟨cb, co, rfl, c0'⟩ := HC.out a hal
            have hEr := Lib.hid (E8.out.gb hB.out hwg)
            have c0 := hEr.out.get c0'
            obtain ⟨x, hx⟩ : ∃ x, ch.getD a 0 = x := ⟨_, rfl⟩
            rw [hx] at c0 HDef
            have x16 : (x : Int).tmod 16 = ((x % 16 : Nat) : Int) := rfl
            have y16 : (x : Int).tdiv 16 = ((x / 16 : Nat) : Int) := rfl
            have y32 : (x : Int).tdiv 32 = ((x / 32 : Nat) : Int) := rfl
            have z2 : ((x / 16 : Nat) : Int) % 2 = ((x / 16 % 2 : Nat) : Int) := rfl
            have z4 : ((x / 32 : Nat) : Int) % 4 = ((x / 32 % 4 : Nat) : Int) := rfl
            have hx16 := Nat.mod_lt x (show 0 < 16 by omega)
            have hb2 := Nat.mod_lt (x / 16) (show 0 < 2 by omega)
            have hr4 := Nat.mod_lt (x / 32) (show 0 < 4 by omega)
            have hbit := bit_at hx16 hr
            obtain ⟨xa, hxa⟩ : ∃ z, x % 16 = z := ⟨_, rfl⟩
            obtain ⟨xb, hxb⟩ : ∃ z, x / 16 = z := ⟨_, rfl⟩
            obtain ⟨xc, hxc⟩ : ∃ z, x / 32 = z := ⟨_, rfl⟩
            rw [hxa] at x16 hx16 hbit HDef
            rw [hxb] at y16 z2 hb2 HDef
            rw [hxc] at y32 z4 hr4 HDef
            obtain ⟨b1, hb1⟩ : ∃ z, xb % 2 = z := ⟨_, rfl⟩
            obtain ⟨r2, hr2⟩ : ∃ z, xc % 4 = z := ⟨_, rfl⟩
            obtain ⟨y, hy⟩ : ∃ z, xa / 2 ^ (3 - r) % 2 = z := ⟨_, rfl⟩
            have hy2 : y < 2 := by rw [← hy]; exact Nat.mod_lt _ (by omega)
            rw [hb1] at z2 hb2 HDef
            rw [hr2] at z4 hr4 HDef
            rw [hy] at hbit HDef
            have HZ2 := Lib.hid (And.intro hx (And.intro hxa (And.intro hxb (And.intro hxc (And.intro hb1 (And.intro hr2 hy))))))
            clear hx hxa hxb hxc hb1 hr2 hy c0'
            by_cases hy1 : y = 1
            · have k0 : ((y : Int) == 1) = true := by rw [hy1]; rfl
              have HY := Lib.hid hy1
              clear hy1
              go_wp2
              refine RG.region_tail (aq := ?aqn) 10 (by kernel_rfl) (by kernel_rfl) (by kernel_rfl) (by kernel_rfl) ?_ ?_
              rotate_left
              · intro wq hEq
                have q3 := hEq.get m2
                have q5 := hEq.get cx
                have z3 := World.block_lt_of_cell? _ _ q3
                have z5 := World.block_lt_of_cell? _ _ q5
                simp only at z5 z3
                simp only [List.take_succ_cons, List.take_zero]
                repeat (go_big_quiet_step (fail))
                refine wpQuiet_nil ?_
                exact rfl
              · intro wt hEt
                simp only [List.drop_succ_cons, List.drop_zero]
                have hOt := Lib.hid (owns_ext hO.out hEt)
                have hBt := Lib.hid (gb_trans hB.out (gb_ext hEt (some gm)))
                have hAt := Lib.hid (At.ext hEt hA.out)
                have t1 := hEt.get cx
                have t2 := hOt.out.frozenAt i
                clear hEt m0 m1 m2 mf0 mf1 mf2 cx cf mz
                go_upto_region 20 with fail
                have hO9 := Lib.hid (show (wt.setCell ⟨gm, i, none⟩ (.int .i64 (255 - pv))).ownsRow w.heap.size 3 1 (.slice (some ⟨gm, 0, none⟩) 64 cm) 64 (ints ((dmgK W ch i).set i (255 - pv))) by
                  have h := (hOt.out.stored i (.int .i64 (255 - pv))).1
                  rw [rowI_set] at h
                  exact h)
                have hB9 := Lib.hid (gb_trans hBt.out (gb_set wt gm i (.int .i64 (255 - pv))))
                obtain ⟨W9, hW9⟩ : ∃ W, wt.setCell ⟨gm, i, none⟩ (.int .i64 (255 - pv)) = W := ⟨_, rfl⟩
                rw [hW9] at hO9 hB9 ⊢
                have hA9 := Lib.hid (At.grown hB9.out A8.out (fun k hk h9 => by simp at hk; have := Option.some.inj h9; omega))
                obtain ⟨⟨m0, m1, m2⟩, mf0, mf1, mf2⟩ := run_3 (At.at hA9.out 0 rfl)
                have mz := At.lt hA9.out 0 rfl
                obtain ⟨p9, cx9⟩ : ∃ p, W9.cell? ⟨gm, i, none⟩ = some (.int .i64 p) := ⟨_, by rw [hO9.out.cellAt i (by omega), rowI_get (by rw [List.length_set, dmgK_len]; exact h)]⟩
                have cf9 := hO9.out.frozenAt i
                clear hW9 t1 t2 hOt hBt hAt
                by_cases hl1 : b1 = 1
                · have k1 : ((b1 : Int) == 1) = true := by rw [hl1]; rfl
                  by_cases hl2 : r = r2
                  · have k2 : ((r : Int) == (r2 : Int)) = true := by rw [hl2]; exact beq_self_eq_true _
                    have HP := Lib.hid (show dmgP W ch i = 128 by rw [HDef.out, if_pos ⟨hl1, hl2⟩])
                    clear hl1 hl2
                    go_wp2
                    exact ⟨⟨i + 1, by omega, by go_num, by rw [HT1.out]; go_num, Lib.hid (gb_trans hB9.out (gb_set _ _ _ _)), Lib.hid (by
                      have h := (hO9.out.stored i (.int .i64 128)).1
                      rw [rowI_set, List.set_set, ← HP.out, HS.out] at h
                      rw [← HP.out]
                      exact h)⟩, by simp [intOf]; omega⟩
                  · have k2 : ((r : Int) == (r2 : Int)) = false := by simp; omega
                    have HL := Lib.hid (show ¬ (b1 = 1 ∧ r = r2) from fun h => hl2 h.2)
                    clear hl1 hl2
                    have HP := Lib.hid (show dmgP W ch i = 255 - pv by rw [HDef.out, if_neg HL.out, if_pos HY.out, HPV.out])
                    go_wp2
                    exact ⟨⟨i + 1, by omega, by go_num, by rw [HT1.out]; go_num, hB9, Lib.hid (by rw [← HS.out, HP.out]; exact hO9.out)⟩, by simp [intOf]; omega⟩
                · have k1 : ((b1 : Int) == 1) = false := by simp; omega
                  have HL := Lib.hid (show ¬ (b1 = 1 ∧ r = r2) from fun h => hl1 h.1)
                  clear hl1
                  have HP := Lib.hid (show dmgP W ch i = 255 - pv by rw [HDef.out, if_neg HL.out, if_pos HY.out, HPV.out])
                  go_wp2
                  exact ⟨⟨i + 1, by omega, by go_num, by rw [HT1.out]; go_num, hB9, Lib.hid (by rw [← HS.out, HP.out]; exact hO9.out)⟩, by simp [intOf]; omega⟩
            · have k0 : ((y : Int) == 1) = false := by simp; omega
              have HY := Lib.hid hy1
              clear hy1
              by_cases hl1 : b1 = 1
              · have k1 : ((b1 : Int) == 1) = true := by rw [hl1]; rfl
                by_cases hl2 : r = r2
                · have k2 : ((r : Int) == (r2 : Int)) = true := by rw [hl2]; exact beq_self_eq_true _
                  have HP := Lib.hid (show dmgP W ch i = 128 by rw [HDef.out, if_pos ⟨hl1, hl2⟩])
                  clear hl1 hl2
                  go_wp2
                  exact ⟨⟨i + 1, by omega, by go_num, by rw [HT1.out]; go_num, Lib.hid (gb_trans hB.out (gb_set _ _ _ _)), Lib.hid (by
                    have h := (hO.out.stored i (.int .i64 128)).1
                    rw [rowI_set, ← HP.out, HS.out] at h
                    rw [← HP.out]
                    exact h)⟩, by simp [intOf]; omega⟩
                · have k2 : ((r : Int) == (r2 : Int)) = false := by simp; omega
                  have HL := Lib.hid (show ¬ (b1 = 1 ∧ r = r2) from fun h => hl2 h.2)
                  clear hl1 hl2
                  have HP := Lib.hid (HSm.out (by rw [HDef.out, if_neg HL.out, if_neg HY.out]; exact HPV.out))
                  go_wp2
                  exact ⟨⟨i + 1, by omega, by go_num, by rw [HT1.out]; go_num, hB, Lib.hid (by rw [HP.out]; exact hO.out)⟩, by simp [intOf]; omega⟩
              · have k1 : ((b1 : Int) == 1) = false := by simp; omega
                have HL := Lib.hid (show ¬ (b1 = 1 ∧ r = r2) from fun h => hl1 h.1)
                clear hl1
                have HP := Lib.hid (HSm.out (by rw [HDef.out, if_neg HL.out, if_neg HY.out]; exact HPV.out))
                go_wp2
                exact ⟨⟨i + 1, by omega, by go_num, by rw [HT1.out]; go_num, hB, Lib.hid (by rw [HP.out]; exact hO.out)⟩, by simp [intOf]; omega⟩
          · have p1 : decide ((a : Int) < (ch.length : Int)) = false := decide_eq_false (by omega)
            have hx : ch.getD a 0 = 0 := by rw [List.getD_eq_getElem?_getD, List.getElem?_eq_none (by omega)]; rfl
            rw [hx] at HDef
            have HP := Lib.hid (HSm.out (by rw [HDef.out, if_neg (fun h => absurd h.1 (by decide)), if_neg (by rw [Nat.zero_mod, Nat.zero_div]; decide)]; exact HPV.out))
            clear hx
            go_wp2
            exact ⟨⟨i + 1, by omega, by go_num, by rw [HT1.out]; go_num, hB, Lib.hid (by rw [HP.out]; exact hO.out)⟩, by simp [intOf]; omega⟩
      · have ei : i = 64 := by omega
        have p1 : decide ((i : Int) < 64) = false := decide_eq_false (by omega)
        rw [ei] at hO
        clear ei
        have HI := Lib.hid (show IntsAt wr (.slice (some ⟨gm, 0, none⟩) 64 cm) (dmgK W ch 64) from by
          have h9 := SlAt.of_owns hO.out
          show SlAt wr 1 _ (dmgK W ch 64).length _
          rw [dmgK_len]
          exact h9)
        have HE := Lib.hid (E8.out.gb hB.out hwg)
        clear hO hB
        as_aux_lemma =>
          go_wp2_with (first
              | (go_at_call 32; (with_reducible refine (K5.out _ _ ((E32.out).alloc _) (BytesAt.ext B32.out ((Ext.refl _).alloc _))).mono ?_); rintro E w33 ⟨rfl, hb33⟩; have A33 := Lib.hid (show At w33 [(w32.heap.size, Obj.cells #[.slice so32 M.length sc32, .int .i64 (tt : Int), .int .i64 (wr_ : Int), .int .i64 (lo : Int)] 51), (w31.heap.size, Obj.cells #[.int .i64 8, .int .i64 8, .slice po31 pxT.length pc31] 44), (bM, Obj.cells #[.int .i64 8, .int .i64 8, .slice (some ⟨gm, 0, none⟩) 64 cm] 44)] from At.ext hb33 (show At (World.alloc w32 (Obj.cells #[.slice so32 M.length sc32, .int .i64 (tt : Int), .int .i64 (wr_ : Int), .int .i64 (lo : Int)] 51)) [(w32.heap.size, Obj.cells #[.slice so32 M.length sc32, .int .i64 (tt : Int), .int .i64 (wr_ : Int), .int .i64 (lo : Int)] 51), (w31.heap.size, Obj.cells #[.int .i64 8, .int .i64 8, .slice po31 pxT.length pc31] 44), (bM, Obj.cells #[.int .i64 8, .int .i64 8, .slice (some ⟨gm, 0, none⟩) 64 cm] 44)] from ⟨one_first _ _, At.alloc A32.out _⟩)); have E33 := Lib.hid ((((E32.out).alloc _)).trans hb33); obtain ⟨⟨c33_0_0, c33_0_1, c33_0_2, c33_0_3⟩, f33_0_0, f33_0_1, f33_0_2, f33_0_3⟩ := run_4 (At.at A33.out 0 rfl); have s33_0 : w32.heap.size < w33.heap.size := At.lt A33.out 0 rfl; obtain ⟨⟨c33_1_0, c33_1_1, c33_1_2⟩, f33_1_0, f33_1_1, f33_1_2⟩ := run_3 (At.at A33.out 1 rfl); have s33_1 : w31.heap.size < w33.heap.size := At.lt A33.out 1 rfl; obtain ⟨⟨c33_2_0, c33_2_1, c33_2_2⟩, f33_2_0, f33_2_1, f33_2_2⟩ := run_3 (At.at A33.out 2 rfl); have s33_2 : bM < w33.heap.size := At.lt A33.out 2 rfl; (try clear c32_0_0 c32_0_1 c32_0_2 f32_0_0 f32_0_1 f32_0_2 c32_1_0 c32_1_1 c32_1_2 f32_1_0 f32_1_1 f32_1_2); have J_33 := Lib.hid (IntsAt.ext ((IntsAt.ext (J_32.out) ((Ext.refl _).alloc _))) hb33); have B_33 := Lib.hid (BytesAt.ext ((BytesAt.ext B32.out ((Ext.refl _).alloc _))) hb33))
              | (go_at_call 30; (with_reducible refine (K4.out _ _ ((E31.out).alloc _) (IntsAt.ext J31.out ((Ext.refl _).alloc _))).mono ?_); rintro E w32 ⟨v32, rfl, b32, hb32⟩; have A32 := Lib.hid (show At w32 [(w31.heap.size, Obj.cells #[.int .i64 8, .int .i64 8, .slice po31 pxT.length pc31] 44), (bM, Obj.cells #[.int .i64 8, .int .i64 8, .slice (some ⟨gm, 0, none⟩) 64 cm] 44)] from At.ext hb32 (show At (World.alloc w31 (Obj.cells #[.int .i64 8, .int .i64 8, .slice po31 pxT.length pc31] 44)) [(w31.heap.size, Obj.cells #[.int .i64 8, .int .i64 8, .slice po31 pxT.length pc31] 44), (bM, Obj.cells #[.int .i64 8, .int .i64 8, .slice (some ⟨gm, 0, none⟩) 64 cm] 44)] from ⟨one_first _ _, At.alloc A31.out _⟩)); have E32 := Lib.hid ((((E31.out).alloc _)).trans hb32); obtain ⟨⟨c32_0_0, c32_0_1, c32_0_2⟩, f32_0_0, f32_0_1, f32_0_2⟩ := run_3 (At.at A32.out 0 rfl); have s32_0 : w31.heap.size < w32.heap.size := At.lt A32.out 0 rfl; obtain ⟨⟨c32_1_0, c32_1_1, c32_1_2⟩, f32_1_0, f32_1_1, f32_1_2⟩ := run_3 (At.at A32.out 1 rfl); have s32_1 : bM < w32.heap.size := At.lt A32.out 1 rfl; (try clear c31_0_0 c31_0_1 c31_0_2 f31_0_0 f31_0_1 f31_0_2); have J_32 := Lib.hid (IntsAt.ext ((IntsAt.ext J31.out ((Ext.refl _).alloc _))) hb32); obtain ⟨-, so32, sc32, rfl, -⟩ := id b32; have B32 := Lib.hid b32)
              | (go_at_call 45; (with_reducible refine (K3.out _ _ HI.out).mono ?_); rintro E w31 ⟨v31, rfl, i31, hb31⟩; have A31 := Lib.hid (show At w31 [(bM, Obj.cells #[.int .i64 8, .int .i64 8, .slice (some ⟨gm, 0, none⟩) 64 cm] 44)] from At.ext hb31 hA.out); have E31 := Lib.hid ((HE.out).trans hb31); obtain ⟨⟨c31_0_0, c31_0_1, c31_0_2⟩, f31_0_0, f31_0_1, f31_0_2⟩ := run_3 (At.at A31.out 0 rfl); have s31_0 : bM < w31.heap.size := At.lt A31.out 0 rfl; have D_31 := Lib.hid (IntsAt.ext (HI.out) hb31); obtain ⟨-, po31, pc31, rfl, -⟩ := id i31; have J31 := Lib.hid i31))
          go_ret
          exact ⟨rfl, E33.out⟩
end Go.Proofs.YtlnofbdhamingaaDoor
