/- Decoding: the reference's. -/
import Derived.Test.YtlnofbdhamingaaDoorSearchFn
import Derived.Test.YtlnofbdhamingaaDoorGDecode
set_option linter.unusedVariables false
set_option linter.unusedSimpArgs false
namespace Go.Proofs.YtlnofbdhamingaaDoor
open Go.RowKit Go.Sort

theorem srch_dec {wd : List Nat} {er : List Bool} {k : Nat} (hR : RecvOk wd er k) : (srchB wd er k [] (enoughK er k 15) = false ∧ decR wd er k = none) ∨ (srchB wd er k [] (enoughK er k 15) = true ∧ decR wd er k = some (bestM wd er k) ∧ FitsW wd er k (bestM wd er k)) := by
  cases hb : srchB wd er k [] (enoughK er k 15) with
  | false => exact .inl ⟨rfl, enough_none hR (srch_no.1 hb)⟩
  | true =>
    obtain ⟨M, h1, -, -⟩ := srchB_iff.1 hb
    rw [bestM_of hR h1]
    exact .inr ⟨rfl, decR_some hR h1, h1⟩
def DecAnsR (r : (List Nat × Nat) × Int) (w : World) (e : Ending) (w' : World) : Prop :=
  ∃ v, e = .returned (.tuple #[v, .int .i64 (r.1.2 : Nat), .int .i64 r.2]) ∧ BytesAt w' v r.1.1 ∧ Ext w w'
set_option maxRecDepth 100000 in
set_option maxHeartbeats 8000000 in
theorem r_Decode (v ve : Value) (wd : List Nat) (er : List Bool) (k : Int) (w : World) (hv : BytesAt w v wd) (he : BoolsAt w ve er) (hl : wd.length ≤ maxLen) :
    Calls Tryd.prog 26 #[v, ve, .int .i64 k] w (DecAnsR (decA wd er k) w) := by
  have K1 := Lib.hid (r_Received v ve wd er k w hv hl he)
  by_cases hD : DecOk wd er k
  case neg =>
    have HI := Lib.hid (show decA wd er k = (([], 0), 2) by rw [decA_def, if_neg hD])
    rw [decide_eq_false hD] at K1
    obtain ⟨ao, ac, rfl, -⟩ := hv.form
    obtain ⟨bo, bc, rfl, -⟩ := bools_cells he
    clear hD hv he hl
    go_enter Tryd.func26, Tryd.ntmps26
    go_wp2_with (go_at_call 41; (with_reducible refine K1.out.mono ?_); rintro E w1 ⟨rfl, h1⟩)
    go_ret3
    exact ⟨_, by rw [HI.out]; rfl, by rw [HI.out]; exact bytes_nil _, h1⟩
  rw [decide_eq_true hD] at K1
  have hR := hD.recv
  have h15 := hD.1
  have e15 := hD.2.2.1
  have hk := hD.2.2.2
  obtain ⟨kn, rfl⟩ := Int.eq_ofNat_of_zero_le (show 0 ≤ k by omega)
  rw [Int.toNat_natCast] at hR
  have hDe : decA wd er (kn : Int) = _ := (decA_def wd er (kn : Int)).trans (if_pos hD)
  rw [Int.toNat_natCast] at hDe
  have K2 := Lib.hid (fun w' (h : Ext w w') => r_enough ve er kn w' (by omega) (by omega) (he.ext h) e15)
  have K3 := Lib.hid (fun w' vo (h : Ext w w') (ho : IntsAt w' vo (natI (enoughK er kn 15))) => r_search wd er kn hR kn [] (enoughK er kn 15) v ve (.slice none 0 0) vo w' (by simp) (by rw [List.nil_append]; exact enough_places hR) (by
    unfold enoughK
    rw [List.length_take]
    have := places_gone er 15
    omega) (hv.ext h) (he.ext h) (show IntsAt w' (.slice none 0 0) (natI []) from SlAt.nil _ 1) ho)
  unfold SearchIs at K3
  rcases srch_dec hR with ⟨hb, hd⟩ | ⟨hb, hd, hf⟩
  · rw [hb] at K3
    rw [hd] at hDe
    have HI := Lib.hid hDe
    obtain ⟨ao, ac, rfl⟩ := form_len hv h15
    obtain ⟨bo, bc, rfl, -⟩ := bools_cells he
    clear hD hv he hl hR hk hb hd hDe h15 e15
    go_enter Tryd.func26, Tryd.ntmps26
    go_wp2_with (first
      | (go_at_call 41; (with_reducible refine K1.out.mono ?_); rintro E w1 ⟨rfl, h1⟩)
      | (go_at_call 63; (with_reducible refine (K2.out _ h1).mono ?_); rintro E w2 ⟨v2, rfl, i2, h2⟩; have e2 := h1.trans h2)
      | (go_at_call 62; (with_reducible refine (K3.out _ _ e2 i2).mono ?_); rintro E w3 ⟨v3, rfl, -, h3⟩; have e3 := e2.trans h3))
    go_ret3
    exact ⟨_, by rw [HI.out]; rfl, by rw [HI.out]; exact bytes_nil _, e3⟩
  · rw [hb] at K3
    rw [hd] at hDe
    have K4 := Lib.hid (fun w' v1 (h : Ext w w') (h1 : BytesAt w' v1 (bestM wd er kn)) => r_Errors v1 v ve (bestM wd er kn) wd er w' hf.1 (by have := hf.2.1; omega) h1 (hv.ext h) (he.ext h) h15 e15)
    have hML := hf.2.1
    have hee : errN (bestM wd er kn) wd er = errK (bestM wd er kn) wd er 15 := by rw [errN_eq, e15]
    have hDe : decA wd er (kn : Int) = ((bestM wd er kn, errN (bestM wd er kn) wd er), 0) := hDe
    rw [hee] at hDe
    obtain ⟨M, hM⟩ : ∃ M, bestM wd er kn = M := ⟨_, rfl⟩
    rw [hM] at K3 K4 hDe hML
    obtain ⟨n, hn⟩ : ∃ n, errK M wd er 15 = n := ⟨_, rfl⟩
    rw [hn] at K4 hDe
    have HI := Lib.hid hDe
    have HML := Lib.hid hML
    obtain ⟨ao, ac, rfl⟩ := form_len hv h15
    obtain ⟨bo, bc, rfl, -⟩ := bools_cells he
    have HX := Lib.hid (And.intro hM hn)
    clear hD hv he hl hR hk hb hd hf hDe h15 e15 hML hee hM hn
    go_enter Tryd.func26, Tryd.ntmps26
    go_wp2_with (first
      | (go_at_call 41; (with_reducible refine K1.out.mono ?_); rintro E w1 ⟨rfl, h1⟩)
      | (go_at_call 63; (with_reducible refine (K2.out _ h1).mono ?_); rintro E w2 ⟨v2, rfl, i2, h2⟩; have e2 := h1.trans h2)
      | (go_at_call 62; (with_reducible refine (K3.out _ _ e2 i2).mono ?_); rintro E w3 ⟨v3, rfl, o3, h3⟩; have e3 := e2.trans h3; have b3 : BytesAt w3 v3 M := (by show SlAt w3 1 v3 M.length (bytesL M); rw [HML.out]; exact SlAt.of_owns (o3 trivial)))
      | (go_at_call 64; (with_reducible refine (K4.out _ _ e3 b3).mono ?_); rintro E w4 ⟨rfl, h4⟩))
    go_ret3
    exact ⟨_, by rw [HI.out]; rfl, by rw [HI.out]; exact b3.ext h4, e3.trans h4⟩
end Go.Proofs.YtlnofbdhamingaaDoor
