/- The search of a message that fits: the reference's walk. -/
import Derived.Test.YtlnofbdhamingaaDoorSearchP
import Derived.Test.YtlnofbdhamingaaDoorThroughFn
import Derived.Test.YtlnofbdhamingaaDoorFitR
import Derived.Test.YtlnofbdhamingaaDoorGRead
import Derived.Test.YtlnofbdhamingaaDoorRegion
import Derived.Deep.DeepCutAuto
import Derived.Deep.Cut
set_option linter.unusedVariables false
set_option linter.unusedSimpArgs false
namespace Go.Proofs.YtlnofbdhamingaaDoor
open Go.RowKit Go.Sort

def SearchIs (wd : List Nat) (er : List Bool) (k : Nat) (ps os : List Nat) (w : World) (e : Ending) (w' : World) : Prop :=
  ∃ v', e = .returned (.tuple #[v', .bool (srchB wd er k ps os)]) ∧ (srchB wd er k ps os = true → w'.ownsRow w.heap.size 5 1 v' k (bytesL (bestM wd er k))) ∧ Ext w w'
theorem ints_drop {w : World} {b off cap n o : Nat} {l : List Nat} (h : IntsAt w (.slice (some ⟨b, off, none⟩) n cap) (natI l)) (hn : l.length = n) (hm : o ≤ n) : IntsAt w (.slice (some ⟨b, off + o, none⟩) (n - o) (cap - o)) (natI (l.drop o)) := by
  obtain ⟨h1, ao, cap', he, h2, h3, h4, h5⟩ := h
  injection he with e1 e2 e3
  subst e1 e3
  have hl : (natI (l.drop o)).length = n - o := by rw [natI_len, List.length_drop, hn]
  refine ⟨by simp [ints], some ⟨b, off + o, none⟩, cap - o, by rw [hl], by rw [hl]; rw [natI_len, hn] at h2; omega, by omega, (fun h => (by cases h)), fun j u hj => ?_⟩
  have hjl : j < n - o := by
    have := (List.getElem?_eq_some_iff.1 hj).1
    simp only [ints, List.length_map] at this
    rw [hl] at this
    exact this
  obtain ⟨b', off', e, hc⟩ := h5 (o + j) u (by
    rw [natI_get (by omega)]
    rw [natI_get (by rw [List.length_drop, hn]; omega)] at hj
    have e : l.getD (o + j) 0 = (l.drop o).getD j 0 := by rw [List.getD_eq_getElem?_getD, List.getD_eq_getElem?_getD, List.getElem?_drop]
    rw [e]
    exact hj)
  cases e
  exact ⟨b, off + o, rfl, by rw [Nat.add_assoc]; exact hc⟩
theorem ints_rest {w : World} {b off cap n o : Nat} {l : List Nat} (h : IntsAt w (.slice (some ⟨b, off, none⟩) n cap) (natI l)) (hn : l.length = n) (hm : o ≤ n) : IntsAt w (.slice (if cap = o then some ⟨b, off, none⟩ else some ⟨b, off + o, none⟩) (n - o) (cap - o)) (natI (l.drop o)) := by
  by_cases hc : cap = o
  · rw [if_pos hc]
    obtain ⟨h1, ao, cap', he, h2, h3, h4, h5⟩ := h
    injection he with e1 e2 e3
    subst e1 e3
    rw [natI_len, hn] at h2
    have hz : l.drop o = [] := List.drop_eq_nil_of_le (by omega)
    rw [hz, show n - o = 0 by omega]
    exact ⟨rfl, _, _, rfl, Nat.zero_le _, by omega, (fun h => (by cases h)), fun j u hj => by simp [ints, natI] at hj⟩
  · rw [if_neg hc]
    exact ints_drop h hn hm
/-- what the operations of one try promise -/
def gsS (wd : List Nat) (er : List Bool) (k : Nat) (ps os : List Nat) (i d n N : Nat) (V VE VP VO VS A : Value) (b : Bool) : List (Value → World → Prop) :=
  [fun v _ => v = V, fun v _ => v = VE, fun v _ => v = .int .i64 (k : Int),
   fun v w => (∃ c, v = .slice (some ⟨c, 0, none⟩) 0 0) ∧ w.ownsRow N 3 1 v 0 [], fun v _ => v = VP,
   fun v w => w.ownsRow N 3 1 v d (ints (natI ps)), fun v _ => v = VO, fun v _ => v = .int .i64 (i : Int), fun v _ => v = A,
   fun v _ => v = .int .i64 ((os.getD i 0 : Nat) : Int), fun v w => w.ownsRow N 3 1 v 1 [.int .i64 ((os.getD i 0 : Nat) : Int)],
   fun v w => w.ownsRow N 3 1 v (d + 1) (ints (natI (ps ++ [os.getD i 0]))),
   fun v _ => v = VO, fun v _ => v = .int .i64 (i : Int), fun v _ => v = .int .i64 ((i + 1 : Nat) : Int), fun v _ => v = VS,
   fun v w => ∃ v', v = .tuple #[v', .bool b] ∧ (b = true → w.ownsRow N 5 1 v' k (bytesL (bestM wd er k))),
   fun v w => ∃ v', v = .tuple #[v', .bool b] ∧ (b = true → w.ownsRow N 5 1 v' k (bytesL (bestM wd er k))),
   fun v w => b = true → w.ownsRow N 5 1 v k (bytesL (bestM wd er k)), fun v _ => v = .bool b,
   fun v w => b = true → w.ownsRow N 5 1 v k (bytesL (bestM wd er k))]
theorem gsS_stab {wd : List Nat} {er : List Bool} {k : Nat} {ps os : List Nat} {i d n N : Nat} {V VE VP VO VS A : Value} {b : Bool} : ∀ g ∈ gsS wd er k ps os i d n N V VE VP VO VS A b, ∀ v w w', g v w → Ext w w' → g v w' := by
  intro g hg v w w' h hb
  simp only [gsS, List.mem_cons, List.not_mem_nil, or_false] at hg
  rcases hg with rfl | rfl | rfl | rfl | rfl | rfl | rfl | rfl | rfl | rfl | rfl | rfl | rfl | rfl | rfl | rfl | rfl | rfl | rfl | rfl | rfl
  · exact h
  · exact h
  · exact h
  · exact ⟨h.1, owns_ext h.2 hb⟩
  · exact h
  · exact owns_ext h hb
  · exact h
  · exact h
  · exact h
  · exact h
  · exact owns_ext h hb
  · exact owns_ext h hb
  · exact h
  · exact h
  · exact h
  · exact h
  · obtain ⟨v', h1, h2⟩ := h; exact ⟨v', h1, fun e => owns_ext (h2 e) hb⟩
  · obtain ⟨v', h1, h2⟩ := h; exact ⟨v', h1, fun e => owns_ext (h2 e) hb⟩
  · exact fun e => owns_ext (h e) hb
  · exact h
  · exact fun e => owns_ext (h e) hb
set_option maxRecDepth 100000 in
set_option maxHeartbeats 16000000 in
theorem r_search (wd : List Nat) (er : List Bool) (k : Nat) (hR : RecvOk wd er k) : ∀ (D : Nat) (ps os : List Nat) (v ve vp vo : Value) (w : World), ps.length + D = k → Places (ps ++ os) → os.length ≤ 15 → BytesAt w v wd → BoolsAt w ve er → IntsAt w vp (natI ps) → IntsAt w vo (natI os) →
    Calls Tryd.prog 62 #[v, ve, .int .i64 (k : Int), vp, vo] w (SearchIs wd er k ps os w) := by
  intro D
  induction D with
  | zero =>
    intro ps os v ve vp vo w hk hP ho hv he hp hvo
    have hk13 : k ≤ 13 := hR.2.2.2.2
    have hpk : ps.length = k := by omega
    have hPl := places_left hP
    have K1 := Lib.hid (r_through v vp wd ps w hv hR.2.1 hR.1 hp hPl (by omega))
    have hsy : Syms (throughR wd ps) := throughK_syms hR.1 hPl (Nat.le_refl _)
    have htl : (throughR wd ps).length = k := by unfold throughR; rw [throughK_len wd ps (Nat.le_refl _), hpk]
    have K2 := Lib.hid (fun w' v1 (hE : Ext w w') (h1 : BytesAt w' v1 (throughR wd ps)) => r_Fits v1 v ve (throughR wd ps) wd er k w' hsy htl hk13 h1 (hv.ext hE) (he.ext hE) hR.2.1 hR.2.2.1)
    have HB := Lib.hid (srch_base (er := er) (os := os) hR.1 hPl hpk)
    have HM := Lib.hid (fun h => bestM_of (M := throughR wd ps) hR h)
    obtain ⟨b, hb⟩ : ∃ b, srchB wd er k ps os = b := ⟨_, rfl⟩
    obtain ⟨po, pc, rfl, -⟩ := places_cells hp hpk
    obtain ⟨vo', vc, rfl, -⟩ := bytes_cells hv
    obtain ⟨eo, ec, rfl, -⟩ := bools_cells he
    rw [hpk] at K1
    obtain ⟨T, hT⟩ : ∃ T, throughR wd ps = T := ⟨_, rfl⟩
    rw [hT] at K1 K2 HB HM htl
    have HTL := Lib.hid htl
    have q1 : ((k : Int) == (k : Int)) = true := beq_self_eq_true _
    unfold SearchIs
    rw [hb] at HB ⊢
    have HX := Lib.hid (And.intro hb hT)
    clear hk hP ho hv he hp hvo hk13 hpk hPl hsy htl hb hT hR
    go_enter Tryd.func62, Tryd.ntmps62
    go_wp2_with (first
      | (go_at_call 98; (with_reducible refine K1.out.mono ?_); rintro E w1 ⟨v1, rfl, o1, h1⟩; have b1 : BytesAt w1 v1 T := (by show SlAt w1 1 v1 T.length (bytesL T); rw [HTL.out]; exact SlAt.of_owns o1))
      | (go_at_call 99; (with_reducible refine (K2.out _ _ h1 b1).mono ?_); rintro E w2 ⟨b2, rfl, hb2, h2⟩))
    go_ret2
    have e : b2 = b := by
      have h := hb2.trans HB.out.symm
      cases b <;> cases b2 <;> simp_all
    refine ⟨v1, by rw [e]; rfl, fun hbt => ?_, h1.trans h2⟩
    rw [HM.out (HB.out.1 hbt)]
    exact owns_ext o1 h2
  | succ D ih =>
    intro ps os v ve vp vo w hk hP ho hv he hp hvo
    have hk13 : k ≤ 13 := hR.2.2.2.2
    obtain ⟨d, hd⟩ : ∃ d, ps.length = d := ⟨_, rfl⟩
    obtain ⟨n, hn⟩ : ∃ n, os.length = n := ⟨_, rfl⟩
    have hdk : d < k := by omega
    have IH := Lib.hid (fun i (hi : i < n) v9 w' (hE : Ext w w') (h1 : IntsAt w' v9 (natI (ps ++ [os.getD i 0]))) v8 (h2 : IntsAt w' v8 (natI (os.drop (i + 1)))) => ih (ps ++ [os.getD i 0]) (os.drop (i + 1)) v ve v9 v8 w' (by rw [List.length_append]; simp only [List.length_cons, List.length_nil]; omega) (places_app hP (by omega)) (by rw [List.length_drop]; omega) (hv.ext hE) (he.ext hE) h1 h2)
    have HUp := Lib.hid (fun i (hi : i < n) => srch_up (wd := wd) (er := er) (k := k) (ps := ps) (os := os) (i := i) (by omega))
    have HNo := Lib.hid (fun ps os => srch_no (wd := wd) (er := er) (k := k) (ps := ps) (os := os))
    have HS1 := Lib.hid (fun i (hi : i < n) => noFitK_succ (w := wd) (er := er) (k := k) (ps := ps) (os := os) (i := i) (by omega))
    have HEnd := Lib.hid (fun h => noFitK_end (w := wd) (er := er) (k := k) (ps := ps) (os := os) (by omega) h)
    have HZ := Lib.hid (noFitK_zero wd er k ps os)
    rw [hn] at HEnd
    obtain ⟨po, pc, rfl, -⟩ := places_cells hp hd
    obtain ⟨vo', vc, rfl, -⟩ := bytes_cells hv
    obtain ⟨eo, ec, rfl, -⟩ := bools_cells he
    obtain ⟨oo, oc, rfl, hoc⟩ := places_cells hvo hn
    have HOC := Lib.hid hoc
    have HPS := Lib.hid hp
    have HOS := Lib.hid hvo
    have HDN := Lib.hid (And.intro hd hn)
    have q1 : ((d : Int) == (k : Int)) = false := by simp; omega
    have hn15 : n ≤ 15 := by omega
    have hd13 : d ≤ 13 := by omega
    obtain ⟨i3, ii, iz0, iz1, iz2⟩ := info_parts3 info_int
    clear hk hP ho hv he hp hvo hd hn hR hoc ih
    go_enter Tryd.func62, Tryd.ntmps62
    go_wp2
    go_loopw [13] (fun jj wi => ∃ i : Nat, i ≤ n ∧ jj = .int .i64 (i : Int) ∧ Ext w wi ∧ Hid (NoFitK wd er k ps os i)) (fun jj _ => n - (intOf jj).toNat)
    case atStart => exact ⟨0, Nat.zero_le _, rfl, Ext.refl _, HZ⟩
    case round =>
      obtain ⟨i, hi, rfl, hE, hF⟩ := hrel
      by_cases hin : i < n
      · have p1 : decide ((i : Int) < (n : Int)) = true := decide_eq_true (by omega)
        have p2 : (i : Int) < (n : Int) := by omega
        obtain ⟨ob, of, rfl, c0'⟩ := HOC.out i hin
        have c0 := hE.get c0'
        have HPw := Lib.hid (IntsAt.ext HPS.out hE)
        have HOw := Lib.hid (IntsAt.ext HOS.out hE)
        have HUi := Lib.hid (HUp.out i hin)
        have HSi := Lib.hid (HS1.out i hin)
        have IHi := Lib.hid (fun v9 w' (hE2 : Ext wr w') h1 v8 h2 => IH.out i hin v9 w' (hE.trans hE2) h1 v8 h2)
        unfold SearchIs at IHi
        obtain ⟨b, hb⟩ : ∃ b, srchB wd er k (ps ++ [os.getD i 0]) (os.drop (i + 1)) = b := ⟨_, rfl⟩
        rw [hb] at IHi HUi
        have HB := Lib.hid hb
        clear hb c0' IH HUp HS1
        obtain ⟨sp, hsp⟩ : ∃ sp, (if oc = i + 1 then some (⟨ob, of, none⟩ : Addr) else some ⟨ob, of + (i + 1), none⟩) = sp := ⟨_, rfl⟩
        have HSp := Lib.hid hsp
        have hi0 : (0 : Int) ≤ (i : Int) + 1 := by omega
        have hi1 : (i : Int) + 1 ≤ (n : Int) := by omega
        have hwr : IntKind.i64.wrap ((i : Int) + 1) = (i : Int) + 1 := by rw [IntKind.wrap_i64]; omega
        clear hsp
        go_upto_region 7 with fail
        have hst := RG.stab_of (gsS_stab (wd := wd) (er := er) (k := k) (ps := ps) (os := os) (i := i) (d := d) (n := n) (N := wr.heap.size) (V := .slice vo' wd.length vc) (VE := .slice eo er.length ec) (VP := .slice po d pc) (VO := .slice (some ⟨ob, of, none⟩) n oc) (VS := .slice sp (n - (i + 1)) (oc - (i + 1))) (A := .pointer (some ⟨ob, of + i, none⟩)) (b := b))
        refine RG.wp_rg (gsS wd er k ps os i d n wr.heap.size (.slice vo' wd.length vc) (.slice eo er.length ec) (.slice po d pc) (.slice (some ⟨ob, of, none⟩) n oc) (.slice sp (n - (i + 1)) (oc - (i + 1))) (.pointer (some ⟨ob, of + i, none⟩)) b) (fun i => if i = 11 then [3, 5, 10] else []) (by kernel_rfl) (by kernel_rfl) (by kernel_rfl) ?_ ?_
        · simp only [gsS, List.length_cons, List.length_nil, List.take_succ_cons, List.take_zero, RG.Steps, and_true, Nat.reduceAdd]
          refine ⟨?_, ?_, ?_, ?_, ?_, ?_, ?_, ?_, ?_, ?_, ?_, ?_, ?_, ?_, ?_, ?_, ?_, ?_, ?_, ?_, ?_⟩
          · refine RG.st_move rfl rfl (by kernel_rfl) (fun _ _ => rfl) hst
          · refine RG.st_move rfl rfl (by kernel_rfl) (fun _ _ => rfl) hst
          · refine RG.st_move rfl rfl (by kernel_rfl) (fun _ _ => rfl) hst
          · refine RG.st_run rfl (fun a w' hw hr => ⟨.slice (some ⟨w'.heap.size, 0, none⟩) 0 0, w'.alloc (.cells #[] 3), ?_, (Ext.refl _).alloc _, ⟨_, rfl⟩, owns_lit w' [] 3 0 1 _ hw.size (Nat.zero_le _) rfl⟩) hst
            clear hr hst
            simp [execOp, go_sem]
          · refine RG.st_move rfl rfl (by kernel_rfl) (fun _ _ => rfl) hst
          · refine RG.st_wp rfl (fun a w' Q hw hr => ?_)
            obtain ⟨⟨ao, e1⟩, e2⟩ := RG.read_in (t := 38) (j := 3) hr (by kernel_rfl) (by kernel_rfl)
            rw [e1] at e2
            have e3 := RG.read_in (t := 39) (j := 4) hr (by kernel_rfl) (by kernel_rfl)
            have hsl : SlAt w' 1 (.slice po d pc) d (ints (natI ps)) := by
              have h9 := HPw.out.ext hw
              unfold IntsAt at h9
              rw [natI_len, HDN.out.1] at h9
              exact h9
            refine wp_append_full (.tmp 38) (.tmp 39) 42 rfl 3 i3 (.int .i64 0) 1 8 Tryd.underlying42 ii iz0 iz1 iz2 rfl (by omega) _ 0 [] e1 ⟨rfl, some ⟨ao, 0, none⟩, 0, rfl, Nat.le_refl _, Nat.zero_le _, (fun h => by cases h), fun j u h => by simp at h⟩ ⟨some ⟨ao, 0, none⟩, rfl⟩ _ d (ints (natI ps)) e3 hsl (ints_oneCell' _) (by unfold maxLen; omega) (by omega) ?_
            rintro v' w2 hb9 (⟨h0, rfl⟩ | ⟨h0, ho9⟩)
            · refine ⟨_, rfl, hw.trans hb9, fun j v _ _ _ h => hst j v _ _ h hb9, ?_⟩
              have hx0 : ps = [] := List.eq_nil_of_length_eq_zero (by rw [HDN.out.1]; exact h0)
              show w2.ownsRow _ 3 1 _ d (ints (natI ps))
              rw [h0, hx0]
              exact owns_ext e2 hb9
            · refine ⟨_, rfl, hw.trans hb9, fun j v _ _ _ h => hst j v _ _ h hb9, ?_⟩
              show w2.ownsRow _ 3 1 _ d (ints (natI ps))
              have := owns_base ho9 hw.size
              rwa [Nat.zero_add, List.nil_append] at this
          · refine RG.st_move rfl rfl (by kernel_rfl) (fun _ _ => rfl) hst
          · refine RG.st_move rfl rfl (by kernel_rfl) (fun _ _ => rfl) hst
          · refine RG.st_run rfl (fun a w' hw hr => ⟨_, w', ?_, Ext.refl _, rfl⟩) hst
            have e1 := RG.read_in (t := 41) (j := 6) hr (by kernel_rfl) (by kernel_rfl)
            have e1' : a.tmps[41]?.getD undef = _ := (Array.getD_eq_getD_getElem? ..).symm.trans e1
            have e2 := RG.read_in (t := 42) (j := 7) hr (by kernel_rfl) (by kernel_rfl)
            have e2' : a.tmps[42]?.getD undef = _ := (Array.getD_eq_getD_getElem? ..).symm.trans e2
            clear hr hst e1 e2
            simp [execOp, go_sem, e1', e2', hin]
          · refine RG.st_run rfl (fun a w' hw hr => ⟨_, w', ?_, Ext.refl _, rfl⟩) hst
            have e1 := RG.read_in (t := 43) (j := 8) hr (by kernel_rfl) (by kernel_rfl)
            have e1' : a.tmps[43]?.getD undef = _ := (Array.getD_eq_getD_getElem? ..).symm.trans e1
            have f0 := hw.get c0
            clear hr hst e1
            simp [execOp, go_sem, e1', f0]
          · refine RG.st_run rfl (fun a w' hw hr => ⟨.slice (some ⟨w'.heap.size, 0, none⟩) 1 1, w'.alloc (.cells #[.int .i64 ((os.getD i 0 : Nat) : Int)] 3), ?_, (Ext.refl _).alloc _, owns_lit w' [.int .i64 ((os.getD i 0 : Nat) : Int)] 3 1 1 _ hw.size (by unfold maxLen; omega) rfl⟩) hst
            have e1 := RG.read_in (t := 44) (j := 9) hr (by kernel_rfl) (by kernel_rfl)
            have e1' : a.tmps[44]?.getD undef = _ := (Array.getD_eq_getD_getElem? ..).symm.trans e1
            clear hr hst e1
            simp [execOp, go_sem, e1']
          · refine RG.st_wp rfl (fun a w' Q hw hr => ?_)
            have e2 := RG.read_in (t := 40) (j := 5) hr (by kernel_rfl) (by kernel_rfl)
            have e3 := RG.read_in (t := 45) (j := 10) hr (by kernel_rfl) (by kernel_rfl)
            have e2 : w'.ownsRow wr.heap.size 3 1 (a.tmps.getD 40 undef) d (ints (natI ps)) := e2
            have e3 : w'.ownsRow wr.heap.size 3 1 (a.tmps.getD 45 undef) 1 [.int .i64 ((os.getD i 0 : Nat) : Int)] := e3
            refine wp_append_sl (.tmp 40) (.tmp 45) 42 rfl wr.heap.size 3 i3 (.int .i64 0) 1 8 Tryd.underlying42 ii iz0 iz1 iz2 rfl (by omega) _ d (ints (natI ps)) rfl e2 _ 1 [.int .i64 ((os.getD i 0 : Nat) : Int)] rfl (SlAt.of_owns e3) (ints_oneCell' [((os.getD i 0 : Nat) : Int)]) (by unfold maxLen; omega) (by omega) hw.size ?_
            intro v' w2 ho9 hg9
            have hE9 := hw.grown hg9 (fun q hq => (e2.lt q hq).1)
            have keep : ∀ v9, w'.ownsRow wr.heap.size 5 1 v9 k (bytesL (bestM wd er k)) → w2.ownsRow wr.heap.size 5 1 v9 k (bytesL (bestM wd er k)) := fun v9 h9 => own_gb h9 hg9 (fun q hq h8 => own_types h9 e2 (by decide) q hq h8.symm)
            refine ⟨_, rfl, hE9, ?_, ?_⟩
            · intro j v hj hji hjd hG
              match j with
              | 0 => have hG' : v = _ := hG; exact hG'
              | 1 => have hG' : v = _ := hG; exact hG'
              | 2 => have hG' : v = _ := hG; exact hG'
              | 3 => exact absurd (by simp) hj
              | 4 => have hG' : v = _ := hG; exact hG'
              | 5 => exact absurd (by simp) hj
              | 6 => have hG' : v = _ := hG; exact hG'
              | 7 => have hG' : v = _ := hG; exact hG'
              | 8 => have hG' : v = _ := hG; exact hG'
              | 9 => have hG' : v = _ := hG; exact hG'
              | 10 => exact absurd (by simp) hj
              | 11 => exact absurd rfl hji
              | 12 => have hG' : v = _ := hG; exact hG'
              | 13 => have hG' : v = _ := hG; exact hG'
              | 14 => have hG' : v = _ := hG; exact hG'
              | 15 => have hG' : v = _ := hG; exact hG'
              | 16 => obtain ⟨v9, h9, ho⟩ := hG; exact ⟨v9, h9, fun e => keep _ (ho e)⟩
              | 17 => obtain ⟨v9, h9, ho⟩ := hG; exact ⟨v9, h9, fun e => keep _ (ho e)⟩
              | 18 => have hG' : b = true → w'.ownsRow wr.heap.size 5 1 v k (bytesL (bestM wd er k)) := hG; exact fun e => keep _ (hG' e)
              | 19 => have hG' : v = _ := hG; exact hG'
              | 20 => have hG' : b = true → w'.ownsRow wr.heap.size 5 1 v k (bytesL (bestM wd er k)) := hG; exact fun e => keep _ (hG' e)
              | j + 21 => exact (show True from trivial)
            · show w2.ownsRow wr.heap.size 3 1 v' (d + 1) (ints (natI (ps ++ [os.getD i 0])))
              have e9 : ints (natI (ps ++ [os.getD i 0])) = ints (natI ps) ++ [.int .i64 ((os.getD i 0 : Nat) : Int)] := by simp [ints, natI]
              rw [e9]
              exact ho9
          · refine RG.st_move rfl rfl (by kernel_rfl) (fun _ _ => rfl) hst
          · refine RG.st_move rfl rfl (by kernel_rfl) (fun _ _ => rfl) hst
          · refine RG.st_run rfl (fun a w' hw hr => ⟨_, w', ?_, Ext.refl _, rfl⟩) hst
            have e1 := RG.read_in (t := 48) (j := 13) hr (by kernel_rfl) (by kernel_rfl)
            have e1' : a.tmps[48]?.getD undef = _ := (Array.getD_eq_getD_getElem? ..).symm.trans e1
            clear hr hst e1
            simp [execOp, go_sem, e1', hwr]
          · refine RG.st_run rfl (fun a w' hw hr => ⟨_, w', ?_, Ext.refl _, rfl⟩) hst
            have e1 := RG.read_in (t := 47) (j := 12) hr (by kernel_rfl) (by kernel_rfl)
            have e1' : a.tmps[47]?.getD undef = _ := (Array.getD_eq_getD_getElem? ..).symm.trans e1
            have e2 := RG.read_in (t := 49) (j := 14) hr (by kernel_rfl) (by kernel_rfl)
            have e2' : a.tmps[49]?.getD undef = _ := (Array.getD_eq_getD_getElem? ..).symm.trans e2
            clear hr hst e1 e2
            simp [execOp, go_sem, e1', e2', hi0, hi1, HSp.out]
          · refine RG.st_call rfl 62 #[Operand.tmp 35, Operand.tmp 36, Operand.tmp 37, Operand.tmp 46, Operand.tmp 50] _ rfl Tryd.func62 (by kernel_rfl) (by kernel_rfl) (fun a w' hw hr => ?_) hst
            have p0 := RG.read_in (t := 35) (j := 0) hr (by kernel_rfl) (by kernel_rfl)
            have p1' := RG.read_in (t := 36) (j := 1) hr (by kernel_rfl) (by kernel_rfl)
            have p2' := RG.read_in (t := 37) (j := 2) hr (by kernel_rfl) (by kernel_rfl)
            have p3 := RG.read_in (t := 46) (j := 11) hr (by kernel_rfl) (by kernel_rfl)
            have p4 := RG.read_in (t := 50) (j := 15) hr (by kernel_rfl) (by kernel_rfl)
            have p3 : w'.ownsRow wr.heap.size 3 1 (a.tmps.getD 46 undef) (d + 1) (ints (natI (ps ++ [os.getD i 0]))) := p3
            have hargs : (#[Operand.tmp 35, Operand.tmp 36, Operand.tmp 37, Operand.tmp 46, Operand.tmp 50].map a.eval) = #[.slice vo' wd.length vc, .slice eo er.length ec, .int .i64 (k : Int), a.tmps.getD 46 undef, .slice sp (n - (i + 1)) (oc - (i + 1))] := by
              simp only [List.map_toArray, List.map_cons, List.map_nil]
              rw [show a.eval (.tmp 35) = _ from p0, show a.eval (.tmp 36) = _ from p1', show a.eval (.tmp 37) = _ from p2', show a.eval (.tmp 50) = _ from p4]
              rfl
            rw [hargs]
            have hi46 : IntsAt w' (a.tmps.getD 46 undef) (natI (ps ++ [os.getD i 0])) := by
              show SlAt w' 1 _ (natI (ps ++ [os.getD i 0])).length _
              rw [natI_len, List.length_append, HDN.out.1]
              exact SlAt.of_owns p3
            have hrest := ints_rest (o := i + 1) (IntsAt.ext HOw.out hw) HDN.out.2 hin
            rw [HSp.out] at hrest
            refine (IHi.out _ w' hw hi46 _ hrest).mono ?_
            rintro e w2 ⟨v9, rfl, ho9, hb9⟩
            exact ⟨_, rfl, hb9, v9, rfl, fun h => owns_base (ho9 h) hw.size⟩
          · refine RG.st_run rfl (fun a w' hw hr => ?_) hst
            obtain ⟨v9, p0, ho9⟩ := RG.read_in (t := 51) (j := 16) hr (by kernel_rfl) (by kernel_rfl)
            have r0 : a.tmps[51]?.getD undef = _ := (Array.getD_eq_getD_getElem? ..).symm.trans p0
            refine ⟨_, w', ?_, Ext.refl _, v9, rfl, ho9⟩
            clear hr hst p0
            simp [execOp, go_sem, r0]
          · refine RG.st_run rfl (fun a w' hw hr => ?_) hst
            obtain ⟨v9, p0, ho9⟩ := RG.read_in (t := 34) (j := 17) hr (by kernel_rfl) (by kernel_rfl)
            have r0 : a.tmps[34]?.getD undef = _ := (Array.getD_eq_getD_getElem? ..).symm.trans p0
            refine ⟨_, w', ?_, Ext.refl _, ho9⟩
            clear hr hst p0
            simp [execOp, go_sem, r0]
          · refine RG.st_run rfl (fun a w' hw hr => ?_) hst
            obtain ⟨v9, p0, ho9⟩ := RG.read_in (t := 34) (j := 17) hr (by kernel_rfl) (by kernel_rfl)
            have r0 : a.tmps[34]?.getD undef = _ := (Array.getD_eq_getD_getElem? ..).symm.trans p0
            refine ⟨_, w', ?_, Ext.refl _, rfl⟩
            clear hr hst p0
            simp [execOp, go_sem, r0]
          · refine RG.st_run rfl (fun a w' hw hr => ?_) hst
            have ho9 := RG.read_in (t := 52) (j := 18) hr (by kernel_rfl) (by kernel_rfl)
            refine ⟨a.tmps.getD 52 undef, w', ?_, Ext.refl _, ho9⟩
            clear hr hst ho9
            simp [execOp, go_sem]
        · intro wt hEt
          simp only [gsS, List.length_cons, List.length_nil, List.take_succ_cons, List.take_zero, RG.Fin, RG.goneBy, Nat.reduceAdd, List.drop_succ_cons, List.drop_zero]
          intro v0r h0r v1r h1r v2r h2r v3r h3r v4r h4r v5r h5r v6r h6r v7r h7r v8r h8r v9r h9r v10r h10r v11r h11r v12r h12r v13r h13r v14r h14r v15r h15r v16r h16r v17r h17r v18r h18r v19r h19r v20r h20r
          have h18 := h20r (by decide)
          obtain rfl := h19r (by decide)
          have H18 := Lib.hid h18
          have hEw := Lib.hid (hE.trans hEt)
          clear h0r h1r h2r h3r h4r h5r h6r h7r h8r h9r h10r h11r h12r h13r h14r h15r h16r h17r h18r h20r h18 hst
          simp only [Act.put, List.setIfInBounds_toArray, List.set_cons_zero, List.set_cons_succ]
          cases b
          case false =>
            have HN9 := Lib.hid (HSi.out hF.out ((HNo.out _ _).1 HB.out))
            go_wp2
            exact ⟨⟨i + 1, by omega, by go_num, hEw.out, HN9⟩, by simp [intOf]; omega⟩
          case true =>
            have HT := Lib.hid (HUi.out rfl)
            have HO9 := Lib.hid (H18.out rfl)
            have hwz := hE.size
            go_wp2
            go_ret2
            exact ⟨_, by rw [HT.out]; rfl, fun _ => owns_base HO9.out hwz, hEw.out⟩
      · have p1 : decide ((i : Int) < (n : Int)) = false := decide_eq_false (by omega)
        have ei : i = n := by omega
        rw [ei] at hF
        have hb := (HNo.out ps os).2 (HEnd.out hF.out)
        have HBf := Lib.hid hb
        clear hb ei hF HEnd HNo
        go_wp2
        go_ret2
        exact ⟨_, by rw [HBf.out]; rfl, (fun h => (by rw [HBf.out] at h; cases h)), hE⟩
end Go.Proofs.YtlnofbdhamingaaDoor
