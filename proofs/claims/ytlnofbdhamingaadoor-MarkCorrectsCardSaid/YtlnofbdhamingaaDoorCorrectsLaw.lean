/- 'MarkCorrects' returns true. -/
import Derived.Test.YtlnofbdhamingaaDoorAliveC
import Derived.Test.YtlnofbdhamingaaDoorGLine
import Derived.Test.YtlnofbdhamingaaDoorEncFn
import Derived.Test.YtlnofbdhamingaaDoorSpoilFn
set_option linter.unusedVariables false
set_option linter.unusedSimpArgs false
namespace Go.Proofs.YtlnofbdhamingaaDoor
open Go.RowKit Go.Sort

set_option maxRecDepth 100000 in
set_option maxHeartbeats 8000000 in
theorem corrects_walk (v1 : Value) (M : List Nat) (v2 : Value) (ch : List Nat) (w : World) (hT : Tabs w) (h1 : BytesAt w v1 M) (n1 : M.length ≤ 140737488351232) (h2 : BytesAt w v2 ch) (n2 : ch.length ≤ 140737488351232) :
    Calls Tryd.prog 9 #[v1, v2] w fun e w' => e = .returned (.bool true) ∧ Ext w w' := by
  have K0 := Lib.hid (l_alive w hT)
  have K2 := Lib.hid (fun w' (h : Ext w w') => r_Message v1 M w' (h1.ext h) (by unfold maxLen; omega))
  have HT := Lib.hid hT
  have H1 := Lib.hid h1
  have H2 := Lib.hid h2
  have N2 := Lib.hid n2
  rcases hm : isMessage M with _ | _
  · rw [hm] at K2
    have K1 := Lib.hid (encE hT h1 n1 hm)
    obtain ⟨ao, ac, rfl, -⟩ := h1.form
    obtain ⟨bo, bc, rfl, -⟩ := h2.form
    clear hT h1 h2 n1 n2 hm
    go_enter Tryd.func9, Tryd.ntmps9
    go_wp2_with (first
      | (go_at_call 38; (with_reducible refine K0.out.mono ?_); rintro E w0 ⟨rfl, e0⟩)
      | (go_at_call 22; (with_reducible refine (K1.out _ e0).mono ?_); rintro E w1 ⟨v', rfl, h1⟩; have e1 := e0.trans h1)
      | (go_at_call 39; (with_reducible refine (K2.out _ e1).mono ?_); rintro E w2 ⟨rfl, h2⟩; have e2 := e1.trans h2))
    go_ret
    exact ⟨rfl, e2⟩
  rw [hm] at K2
  have hs := message_syms hm
  have hl := message_len hm
  have K1 := Lib.hid (encK hT h1 hm)
  obtain ⟨k, hk⟩ : ∃ k, M.length = k := ⟨_, rfl⟩
  have HLaw := Lib.hid (fun hf => corrects_law (M := M) (ch := ch) (k := k) hm hk hf)
  have HWS := Lib.hid (encR_lt hs.1)
  have HWL := Lib.hid (encR_length M)
  have hwl := wrong_lost_le ch 15
  have K3 := Lib.hid (fun w' v (h : Ext w w') (hv : BytesAt w' v (encR M)) => l_spoiled v v2 (encR M) ch w' hv (encR_length M) (encR_lt hs.1) (H2.out.ext h) (by unfold maxLen; omega))
  have HSL := Lib.hid (And.intro (outK_len (encR M) ch 15) (erK_len ch 15 15))
  have K4 := Lib.hid (fun w' v ve (h : Ext w w') (hv : BytesAt w' v (outK (encR M) ch 15)) (he : BoolsAt w' ve (erK ch 15 15)) => c_Decode v ve _ _ (k : Int) w' (HT.out.ext h) hv he (by rw [outK_len, encR_length]; decide) (by rw [erK_len]; decide))
  obtain ⟨W, hW⟩ : ∃ W, encR M = W := ⟨_, rfl⟩
  unfold EncK at K1
  rw [hW] at K1 HWS HWL K3 K4 HSL HLaw
  obtain ⟨wr, hwr⟩ : ∃ n, wrongK ch 15 = n := ⟨_, rfl⟩
  obtain ⟨lo, hlo⟩ : ∃ n, lostK ch 15 = n := ⟨_, rfl⟩
  rw [hwr, hlo] at K3 HLaw hwl
  obtain ⟨ao, ac, rfl⟩ := form_len h1 hk
  obtain ⟨bo, bc, rfl, -⟩ := h2.form
  have hk13 : k ≤ 13 := by omega
  have HM := Lib.hid (And.intro hk (And.intro hW (And.intro hwr hlo)))
  clear hT h1 h2 n1 n2 hm hs hl hk hW hwr hlo
  by_cases hf : 2 * wr + lo ≤ 15 - k
  · have q : decide ((15 : Int) - (k : Int) < 2 * (wr : Int) + (lo : Int)) = false := decide_eq_false (by omega)
    have hla := HLaw.out hf
    rw [hla] at K4
    unfold DecAns at K4
    clear hf hla HLaw
    go_enter Tryd.func9, Tryd.ntmps9
    go_wp2_with (first
      | (go_at_call 38; (with_reducible refine K0.out.mono ?_); rintro E w0 ⟨rfl, e0⟩)
      | (go_at_call 22; (with_reducible refine (K1.out _ e0).mono ?_); rintro E w1 ⟨v', rfl, o1, h1⟩; have e1 := e0.trans h1; have b1 : BytesAt w1 v' W := (by show SlAt w1 1 v' W.length (bytesL W); rw [HWL.out]; exact SlAt.of_owns o1); obtain ⟨g1, c1, rfl, -, -⟩ := owns_some o1 (by decide))
      | (go_at_call 39; (with_reducible refine (K2.out _ e1).mono ?_); rintro E w2 ⟨rfl, h2⟩; have e2 := e1.trans h2; have b2 := b1.ext h2)
      | (go_at_call 40; (with_reducible refine (K3.out _ _ e2 b2).mono ?_); rintro E w3 ⟨g3, c3, g4, c4, rfl, o3, o4, h3⟩; have e3 := e2.trans h3)
      | (go_at_call 25; (with_reducible refine (K4.out _ _ _ e3 o3 o4).mono ?_); rintro E w4 ⟨v5, rfl, b5, -, h4⟩; have e4 := e3.trans h4)
      | (go_at_call 24; (with_reducible refine (r_SameBytes_eq _ _ M _ b5 (H1.out.ext e4)).mono ?_); rintro E w5 ⟨rfl, h5⟩; have e5 := e4.trans h5))
    go_ret
    exact ⟨rfl, e5⟩
  · have q : decide ((15 : Int) - (k : Int) < 2 * (wr : Int) + (lo : Int)) = true := decide_eq_true (by omega)
    clear hf HLaw K4
    go_enter Tryd.func9, Tryd.ntmps9
    go_wp2_with (first
      | (go_at_call 38; (with_reducible refine K0.out.mono ?_); rintro E w0 ⟨rfl, e0⟩)
      | (go_at_call 22; (with_reducible refine (K1.out _ e0).mono ?_); rintro E w1 ⟨v', rfl, o1, h1⟩; have e1 := e0.trans h1; have b1 : BytesAt w1 v' W := (by show SlAt w1 1 v' W.length (bytesL W); rw [HWL.out]; exact SlAt.of_owns o1); obtain ⟨g1, c1, rfl, -, -⟩ := owns_some o1 (by decide))
      | (go_at_call 39; (with_reducible refine (K2.out _ e1).mono ?_); rintro E w2 ⟨rfl, h2⟩; have e2 := e1.trans h2; have b2 := b1.ext h2)
      | (go_at_call 40; (with_reducible refine (K3.out _ _ e2 b2).mono ?_); rintro E w3 ⟨g3, c3, g4, c4, rfl, o3, o4, h3⟩; have e3 := e2.trans h3))
    go_ret
    exact ⟨rfl, e3⟩
end Go.Proofs.YtlnofbdhamingaaDoor
