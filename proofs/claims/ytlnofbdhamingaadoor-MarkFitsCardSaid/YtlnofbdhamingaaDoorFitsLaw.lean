/- 'MarkFits' returns true. -/
import Derived.Test.YtlnofbdhamingaaDoorAliveC
import Derived.Test.YtlnofbdhamingaaDoorGLine
import Derived.Test.YtlnofbdhamingaaDoorFitFn
set_option linter.unusedVariables false
set_option linter.unusedSimpArgs false
namespace Go.Proofs.YtlnofbdhamingaaDoor
open Go.RowKit Go.Sort

set_option maxRecDepth 100000 in
set_option maxHeartbeats 8000000 in
theorem fits_walk (v : Value) (wd : List Nat) (ve : Value) (er : List Bool) (k : Int) (vm : Value) (M : List Nat) (w : World) (hT : Tabs w) (hv : BytesAt w v wd) (nv : wd.length ≤ 140737488351232) (he : BoolsAt w ve er) (ne : er.length ≤ maxLen) (hm : BytesAt w vm M) (nm : M.length ≤ 140737488351232) :
    Calls Tryd.prog 10 #[v, ve, .int .i64 k, vm] w fun e w' => e = .returned (.bool true) ∧ Ext w w' := by
  have K0 := Lib.hid (fun w' (h : Ext w w') => l_alive w' (hT.ext h))
  have K1 := Lib.hid (fun w' (h : Ext w w') => c_Decode v ve wd er k w' (hT.ext h) (hv.ext h) (he.ext h) (by unfold maxLen; omega) ne)
  have K2 := Lib.hid (fun w' (h : Ext w w') => r_Received v ve wd er k w' (hv.ext h) (by unfold maxLen; omega) (he.ext h))
  have K3 := Lib.hid (fun w' (h : Ext w w') => r_Message vm M w' (hm.ext h) (by unfold maxLen; omega))
  have K5 := Lib.hid (fun w' (h : Ext w w') => l_gone ve er w' (he.ext h) ne)
  have HT := Lib.hid hT
  have HM := Lib.hid hm
  have HV := Lib.hid hv
  have HE := Lib.hid he
  by_cases hD : DecOk wd er k
  case neg =>
    have hd := decode_bad hD
    rw [hd] at K1
    rw [decide_eq_false hD] at K2
    unfold DecAns at K1
    obtain ⟨ao, ac, rfl, -⟩ := hv.form
    obtain ⟨bo, bc, rfl, -⟩ := bools_cells he
    obtain ⟨mo, mc, rfl, -⟩ := hm.form
    clear hT hv he hm nv ne nm hD hd
    go_enter Tryd.func10, Tryd.ntmps10
    go_wp2_with (first
          | (have _q := e1; go_at_call 41; (with_reducible refine (K2.out _ e1).mono ?_); rintro E w2 ⟨rfl, h2⟩; have e2 := Ext.trans e1 h2)
          | (have _q := e0; go_at_call 25; (with_reducible refine (K1.out _ e0).mono ?_); rintro E w1 ⟨v1, rfl, b1, -, h1⟩; have e1 := Ext.trans e0 h1)
          | (go_at_call 38; (with_reducible refine (K0.out _ (Ext.refl w)).mono ?_); rintro E w0 ⟨rfl, h0⟩; have e0 := Ext.trans (Ext.refl w) h0))
    go_ret
    exact ⟨rfl, e2⟩
  rw [decide_eq_true hD] at K2
  have h15 := hD.1
  have e15 := hD.2.2.1
  have hk1 := hD.2.2.2
  have K5' : Hid (∀ w', Ext w w' → Calls Tryd.prog 43 #[ve] w' fun e w'' => e = .returned (.int .i64 ((goneK er 15 : Nat) : Int)) ∧ Ext w' w'') := Lib.hid (fun w' h => by
    have := K5.out w' h
    rw [goneN, e15] at this
    exact this)
  have K4a := Lib.hid (fun (hM : isMessage M = true) w' (h : Ext w w') => l_errors vm v ve M wd er w' (hT.ext h) hM (hm.ext h) (hv.ext h) (he.ext h) h15 e15)
  have KE0 := Lib.hid (fun (L : List Nat) (hL : isMessage L = true) w' vl (h : Ext w w') (hl : BytesAt w' vl L) => l_errors vl v ve L wd er w' (hT.ext h) hL hl (hv.ext h) (he.ext h) h15 e15)
  have HLaw := decode_law hD
  obtain ⟨g, hg⟩ : ∃ g, goneK er 15 = g := ⟨_, rfl⟩
  obtain ⟨n, hn⟩ : ∃ n, errK M wd er 15 = n := ⟨_, rfl⟩
  have hgl : g ≤ 15 := by rw [← hg]; exact goneK_le er 15
  have hnl : n ≤ 15 := by rw [← hn]; exact errK_le M wd er 15
  rw [hn] at K4a
  simp only [hg] at HLaw K5'
  obtain ⟨kn, rfl⟩ := Int.eq_ofNat_of_zero_le (show 0 ≤ k by omega)
  rw [Int.toNat_natCast] at HLaw
  have K5 := K5'
  clear K5'
  obtain ⟨ao, ac, rfl⟩ := form_len hv h15
  obtain ⟨bo, bc, rfl, -⟩ := bools_cells he
  rw [e15] at *
  obtain ⟨mo, mc, rfl, -⟩ := hm.form
  obtain ⟨ml, hml⟩ : ∃ ml, M.length = ml := ⟨_, rfl⟩
  have HML := Lib.hid hml
  rw [hml] at K3 K4a nm ⊢
  obtain ⟨bm, hbm⟩ : ∃ b, isMessage M = b := ⟨_, rfl⟩
  have HBM := Lib.hid hbm
  rw [hbm] at K3
  have K4b := Lib.hid (fun hb => K4a.out (hbm.trans hb))
  clear K4a
  have HFit : Hid (isMessage M = true ∧ (M.length : Int) = (kn : Int) ∧ 2 * errK M wd er 15 + g ≤ 15 - kn ↔ bm = true ∧ ml = kn ∧ 2 * n + g ≤ 15 - kn) := Lib.hid (by rw [hbm, hml, hn]; constructor <;> rintro ⟨a, b, c⟩ <;> exact ⟨a, by omega, c⟩)
  have hmb : bm = true → 1 ≤ ml ∧ ml ≤ 13 := fun h => by rw [← hml]; exact message_len (hbm.trans h)
  have HGN := Lib.hid (And.intro hg hn)
  clear hT hv he hm nv ne hD h15 e15 hml hbm hg hn
  rcases HLaw with ⟨hd, hno⟩ | ⟨L, nl, hd, hLm, hLl, hLe, hLf, hLu⟩
  · rw [hd] at K1
    unfold DecAns at K1
    have hno := fun h => hno M (HFit.out.2 h)
    clear hd
    by_cases f1 : ml = kn
    case neg =>
      have q1 : ((ml : Int) == (kn : Int)) = false := by simp; omega
      clear f1 hno
      go_enter Tryd.func10, Tryd.ntmps10
      go_wp2_with (first
            | (have _q := e1; go_at_call 41; (with_reducible refine (K2.out _ e1).mono ?_); rintro E w2 ⟨rfl, h2⟩; have e2 := Ext.trans e1 h2)
            | (have _q := e0; go_at_call 25; (with_reducible refine (K1.out _ e0).mono ?_); rintro E w1 ⟨v1, rfl, b1, -, h1⟩; have e1 := Ext.trans e0 h1)
            | (go_at_call 38; (with_reducible refine (K0.out _ (Ext.refl w)).mono ?_); rintro E w0 ⟨rfl, h0⟩; have e0 := Ext.trans (Ext.refl w) h0))
      go_ret
      exact ⟨rfl, e2⟩
    have q1 : ((ml : Int) == (kn : Int)) = true := by rw [f1]; exact beq_self_eq_true _
    rcases bm with _ | _
    · clear hno f1 K4b HFit
      go_enter Tryd.func10, Tryd.ntmps10
      go_wp2_with (first
            | (have _q := e2; go_at_call 39; (with_reducible refine (K3.out _ e2).mono ?_); rintro E w3 ⟨rfl, h3⟩; have e3 := Ext.trans e2 h3)
            | (have _q := e1; go_at_call 41; (with_reducible refine (K2.out _ e1).mono ?_); rintro E w2 ⟨rfl, h2⟩; have e2 := Ext.trans e1 h2)
            | (have _q := e0; go_at_call 25; (with_reducible refine (K1.out _ e0).mono ?_); rintro E w1 ⟨v1, rfl, b1, -, h1⟩; have e1 := Ext.trans e0 h1)
            | (go_at_call 38; (with_reducible refine (K0.out _ (Ext.refl w)).mono ?_); rintro E w0 ⟨rfl, h0⟩; have e0 := Ext.trans (Ext.refl w) h0))
      go_ret
      exact ⟨rfl, e3⟩
    · have q2 : decide (2 * (n : Int) + (g : Int) ≤ 15 - (kn : Int)) = false := decide_eq_false (fun h => hno ⟨rfl, f1, by omega⟩)
      have K4 := Lib.hid (K4b.out rfl)
      clear K4b
      clear hno f1 HFit hmb
      go_enter Tryd.func10, Tryd.ntmps10
      go_wp2_with (first
            | (have _q := e4; go_at_call 43; (with_reducible refine (K5.out _ e4).mono ?_); rintro E w5 ⟨rfl, h5⟩; have e5 := Ext.trans e4 h5)
            | (have _q := e3; go_at_call 42; (with_reducible refine (K4.out _ e3).mono ?_); rintro E w4 ⟨rfl, h4⟩; have e4 := Ext.trans e3 h4)
            | (have _q := e2; go_at_call 39; (with_reducible refine (K3.out _ e2).mono ?_); rintro E w3 ⟨rfl, h3⟩; have e3 := Ext.trans e2 h3)
            | (have _q := e1; go_at_call 41; (with_reducible refine (K2.out _ e1).mono ?_); rintro E w2 ⟨rfl, h2⟩; have e2 := Ext.trans e1 h2)
            | (have _q := e0; go_at_call 25; (with_reducible refine (K1.out _ e0).mono ?_); rintro E w1 ⟨v1, rfl, b1, -, h1⟩; have e1 := Ext.trans e0 h1)
            | (go_at_call 38; (with_reducible refine (K0.out _ (Ext.refl w)).mono ?_); rintro E w0 ⟨rfl, h0⟩; have e0 := Ext.trans (Ext.refl w) h0))
      go_ret
      exact ⟨rfl, e5⟩
  · rw [hd] at K1
    unfold DecAns at K1
    have HLL := Lib.hid (show L.length = kn by omega)
    have hLl13 : L.length ≤ 13 := by omega
    have KM := Lib.hid (fun w' vl (hl : BytesAt w' vl L) => by
      have := r_Message vl L w' hl (by unfold maxLen; omega)
      rw [hLm] at this
      exact this)
    have KE := Lib.hid (KE0.out L hLm)
    rw [hLe] at KE
    have hLu := Lib.hid (fun h => hLu M (HFit.out.2 h))
    have q3 : decide (15 - (kn : Int) < 2 * (nl : Int) + (g : Int)) = false := decide_eq_false (by omega)
    have hnl2 : nl ≤ 15 := by omega
    clear hd hLm hLl hLe hLf KE0
    by_cases f1 : ml = kn
    case neg =>
      have q1 : ((ml : Int) == (kn : Int)) = false := by simp; omega
      clear f1 hLu
      go_enter Tryd.func10, Tryd.ntmps10
      go_wp2_with (first
            | (have _q := e4; go_at_call 43; (with_reducible refine (K5.out _ e4).mono ?_); rintro E w5 ⟨rfl, h5⟩; have e5 := Ext.trans e4 h5; have x5 := Ext.trans x4 h5)
            | (have _q := e3; go_at_call 42; (with_reducible refine (KE.out _ _ e3 (b1.ext x3)).mono ?_); rintro E w4 ⟨rfl, h4⟩; have e4 := Ext.trans e3 h4; have x4 := Ext.trans x3 h4)
            | (have _q := e2; go_at_call 39; (with_reducible refine (KM.out _ _ (b1.ext x2)).mono ?_); rintro E w3 ⟨rfl, h3⟩; have e3 := Ext.trans e2 h3; have x3 := Ext.trans x2 h3)
            | (have _q := e1; go_at_call 41; (with_reducible refine (K2.out _ e1).mono ?_); rintro E w2 ⟨rfl, h2⟩; have e2 := Ext.trans e1 h2; have x2 := Ext.trans (Ext.refl w1) h2)
            | (have _q := e0; go_at_call 25; (with_reducible refine (K1.out _ e0).mono ?_); rintro E w1 ⟨v1, rfl, b1, -, h1⟩; have e1 := Ext.trans e0 h1; obtain ⟨o1, z1, rfl⟩ := form_len b1 HLL.out)
            | (go_at_call 38; (with_reducible refine (K0.out _ (Ext.refl w)).mono ?_); rintro E w0 ⟨rfl, h0⟩; have e0 := Ext.trans (Ext.refl w) h0))
      go_ret
      exact ⟨rfl, e5⟩
    have q1 : ((ml : Int) == (kn : Int)) = true := by rw [f1]; exact beq_self_eq_true _
    rcases bm with _ | _
    · clear hLu f1 K4b HFit
      go_enter Tryd.func10, Tryd.ntmps10
      go_wp2_with (first
            | (have _q := e5; go_at_call 43; (with_reducible refine (K5.out _ e5).mono ?_); rintro E w6 ⟨rfl, h6⟩; have e6 := Ext.trans e5 h6; have x6 := Ext.trans x5 h6)
            | (have _q := e4; go_at_call 42; (with_reducible refine (KE.out _ _ e4 (b1.ext x4)).mono ?_); rintro E w5 ⟨rfl, h5⟩; have e5 := Ext.trans e4 h5; have x5 := Ext.trans x4 h5)
            | (have _q := e3; go_at_call 39; (with_reducible refine (KM.out _ _ (b1.ext x3)).mono ?_); rintro E w4 ⟨rfl, h4⟩; have e4 := Ext.trans e3 h4; have x4 := Ext.trans x3 h4)
            | (have _q := e2; go_at_call 39; (with_reducible refine (K3.out _ e2).mono ?_); rintro E w3 ⟨rfl, h3⟩; have e3 := Ext.trans e2 h3; have x3 := Ext.trans x2 h3)
            | (have _q := e1; go_at_call 41; (with_reducible refine (K2.out _ e1).mono ?_); rintro E w2 ⟨rfl, h2⟩; have e2 := Ext.trans e1 h2; have x2 := Ext.trans (Ext.refl w1) h2)
            | (have _q := e0; go_at_call 25; (with_reducible refine (K1.out _ e0).mono ?_); rintro E w1 ⟨v1, rfl, b1, -, h1⟩; have e1 := Ext.trans e0 h1; obtain ⟨o1, z1, rfl⟩ := form_len b1 HLL.out)
            | (go_at_call 38; (with_reducible refine (K0.out _ (Ext.refl w)).mono ?_); rintro E w0 ⟨rfl, h0⟩; have e0 := Ext.trans (Ext.refl w) h0))
      go_ret
      exact ⟨rfl, e6⟩
    · have K4 := Lib.hid (K4b.out rfl)
      clear K4b
      by_cases f2 : 2 * n + g ≤ 15 - kn
      case neg =>
        have q2 : decide (2 * (n : Int) + (g : Int) ≤ 15 - (kn : Int)) = false := decide_eq_false (by omega)
        clear hLu f1 f2 HFit hmb
        go_enter Tryd.func10, Tryd.ntmps10
        go_wp2_with (first
              | (have _q := e7; go_at_call 43; (with_reducible refine (K5.out _ e7).mono ?_); rintro E w8 ⟨rfl, h8⟩; have e8 := Ext.trans e7 h8; have x8 := Ext.trans x7 h8)
              | (have _q := e6; go_at_call 42; (with_reducible refine (KE.out _ _ e6 (b1.ext x6)).mono ?_); rintro E w7 ⟨rfl, h7⟩; have e7 := Ext.trans e6 h7; have x7 := Ext.trans x6 h7)
              | (have _q := e5; go_at_call 39; (with_reducible refine (KM.out _ _ (b1.ext x5)).mono ?_); rintro E w6 ⟨rfl, h6⟩; have e6 := Ext.trans e5 h6; have x6 := Ext.trans x5 h6)
              | (have _q := e4; go_at_call 43; (with_reducible refine (K5.out _ e4).mono ?_); rintro E w5 ⟨rfl, h5⟩; have e5 := Ext.trans e4 h5; have x5 := Ext.trans x4 h5)
              | (have _q := e3; go_at_call 42; (with_reducible refine (K4.out _ e3).mono ?_); rintro E w4 ⟨rfl, h4⟩; have e4 := Ext.trans e3 h4; have x4 := Ext.trans x3 h4)
              | (have _q := e2; go_at_call 39; (with_reducible refine (K3.out _ e2).mono ?_); rintro E w3 ⟨rfl, h3⟩; have e3 := Ext.trans e2 h3; have x3 := Ext.trans x2 h3)
              | (have _q := e1; go_at_call 41; (with_reducible refine (K2.out _ e1).mono ?_); rintro E w2 ⟨rfl, h2⟩; have e2 := Ext.trans e1 h2; have x2 := Ext.trans (Ext.refl w1) h2)
              | (have _q := e0; go_at_call 25; (with_reducible refine (K1.out _ e0).mono ?_); rintro E w1 ⟨v1, rfl, b1, -, h1⟩; have e1 := Ext.trans e0 h1; obtain ⟨o1, z1, rfl⟩ := form_len b1 HLL.out)
              | (go_at_call 38; (with_reducible refine (K0.out _ (Ext.refl w)).mono ?_); rintro E w0 ⟨rfl, h0⟩; have e0 := Ext.trans (Ext.refl w) h0))
        go_ret
        exact ⟨rfl, e8⟩
      have q2 : decide (2 * (n : Int) + (g : Int) ≤ 15 - (kn : Int)) = true := decide_eq_true (by omega)
      have hLM := hLu.out ⟨rfl, f1, f2⟩
      have KS := Lib.hid (fun w' vl (h : Ext w w') (hl : BytesAt w' vl L) => r_SameBytes_eq vl _ L w' hl (by rw [hLM]; exact HM.out.ext h))
      rw [HML.out] at KS
      clear hLu f1 f2 HFit hmb hLM
      go_enter Tryd.func10, Tryd.ntmps10
      go_wp2_with (first
            | (have _q := e8; go_at_call 24; (with_reducible refine (KS.out _ _ e8 (b1.ext x8)).mono ?_); rintro E w9 ⟨rfl, h9⟩; have e9 := Ext.trans e8 h9)
            | (have _q := e7; go_at_call 43; (with_reducible refine (K5.out _ e7).mono ?_); rintro E w8 ⟨rfl, h8⟩; have e8 := Ext.trans e7 h8; have x8 := Ext.trans x7 h8)
            | (have _q := e6; go_at_call 42; (with_reducible refine (KE.out _ _ e6 (b1.ext x6)).mono ?_); rintro E w7 ⟨rfl, h7⟩; have e7 := Ext.trans e6 h7; have x7 := Ext.trans x6 h7)
            | (have _q := e5; go_at_call 39; (with_reducible refine (KM.out _ _ (b1.ext x5)).mono ?_); rintro E w6 ⟨rfl, h6⟩; have e6 := Ext.trans e5 h6; have x6 := Ext.trans x5 h6)
            | (have _q := e4; go_at_call 43; (with_reducible refine (K5.out _ e4).mono ?_); rintro E w5 ⟨rfl, h5⟩; have e5 := Ext.trans e4 h5; have x5 := Ext.trans x4 h5)
            | (have _q := e3; go_at_call 42; (with_reducible refine (K4.out _ e3).mono ?_); rintro E w4 ⟨rfl, h4⟩; have e4 := Ext.trans e3 h4; have x4 := Ext.trans x3 h4)
            | (have _q := e2; go_at_call 39; (with_reducible refine (K3.out _ e2).mono ?_); rintro E w3 ⟨rfl, h3⟩; have e3 := Ext.trans e2 h3; have x3 := Ext.trans x2 h3)
            | (have _q := e1; go_at_call 41; (with_reducible refine (K2.out _ e1).mono ?_); rintro E w2 ⟨rfl, h2⟩; have e2 := Ext.trans e1 h2; have x2 := Ext.trans (Ext.refl w1) h2)
            | (have _q := e0; go_at_call 25; (with_reducible refine (K1.out _ e0).mono ?_); rintro E w1 ⟨v1, rfl, b1, -, h1⟩; have e1 := Ext.trans e0 h1; obtain ⟨o1, z1, rfl⟩ := form_len b1 HLL.out)
            | (go_at_call 38; (with_reducible refine (K0.out _ (Ext.refl w)).mono ?_); rintro E w0 ⟨rfl, h0⟩; have e0 := Ext.trans (Ext.refl w) h0))
      go_ret
      exact ⟨rfl, e9⟩
end Go.Proofs.YtlnofbdhamingaaDoor
