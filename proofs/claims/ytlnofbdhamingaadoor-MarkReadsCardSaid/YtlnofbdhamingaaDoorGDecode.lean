/- Joined from the parts DecodeFn, DecodeW. -/
import Derived.Test.YtlnofbdhamingaaDoorGKernel
import Derived.Test.YtlnofbdhamingaaDoorGPoly
import Derived.Test.YtlnofbdhamingaaDoorGMath
import Derived.Test.YtlnofbdhamingaaDoorRegion
import Derived.Deep.DeepCutAuto
import Derived.Deep.Cut
import Derived.Lib.SliceRun
import Derived.Test.YtlnofbdhamingaaDoorGDraw
set_option linter.unusedVariables false
set_option linter.unusedSimpArgs false
/- Decoding of a received word: the program's. -/
namespace Go.Proofs.YtlnofbdhamingaaDoor
open Go.RowKit Go.Sort

theorem info_rowD : (Tryd.prog.info? 129).map (fun i => (i.zero, i.size, i.bytes)) = some (some (.slice none 0 0), 1, 24) := by kernel_rfl
def natI (l : List Nat) : List Int := l.map Int.ofNat
theorem natI_len (l : List Nat) : (natI l).length = l.length := by simp [natI]
theorem natI_get {l : List Nat} {k : Nat} (h : k < l.length) : (ints (natI l))[k]? = some (.int .i64 ((l.getD k 0 : Nat) : Int)) := by
  rw [ints_get (by rw [natI_len]; exact h)]
  simp [natI, List.getD_eq_getElem?_getD, h]
theorem rowK_skip' {l : List Nat} {n k : Nat} (hk : k < n) (hn : n = l.length) (h0 : l.getD k 0 = 0) : rowK l n (k + 1) = rowK l n k := by
  have h := rowK_set hk hn
  rw [h0] at h
  rw [← h]
  refine List.ext_getElem? fun i => ?_
  by_cases e : k = i
  · subst e
    have hl : (rowK l n k).length = n := by unfold rowK; rw [List.length_append, bytesL_length, List.length_replicate, List.length_take]; omega
    rw [List.getElem?_set_self (by omega), rowK_get hk hn]
    rfl
  · rw [List.getElem?_set_ne e]
theorem wrongs_step (M w ps : List Nat) {j : Nat} (hj : j < ps.length) : (wrongs M w (ps.take (j + 1))).length = if gval M (powN (ps.getD j 0)) = w.getD (ps.getD j 0) 0 then (wrongs M w (ps.take j)).length else (wrongs M w (ps.take j)).length + 1 := by
  rw [take_grow hj]
  unfold wrongs
  rw [List.filter_append, List.length_append]
  by_cases h : gval M (powN (ps.getD j 0)) = w.getD (ps.getD j 0) 0
  · rw [if_pos h, List.filter_cons_of_neg (by rw [h]; simp)]; rfl
  · rw [if_neg h, List.filter_cons_of_pos (by rw [bne_iff_ne]; exact h)]; rfl
theorem wrongs_le (M w ps : List Nat) : (wrongs M w ps).length ≤ ps.length := List.length_filter_le _ _
/-- what each way behind the equations says -/
theorem dec_end {w ps : List Nat} {er : List Bool} {k ms n1 n2 u : Nat} (h : RecvOk w er k) (hps : placesOf er = ps) (hms : mostOf er k = ms) (hn1 : k + ms = n1) (hn2 : ms + 1 = n2) (hu : n1 + n2 = u) (hk : k ≤ ps.length) :
    (KerOk (eqs w ps n1 n2) u none → decR w er k = none) ∧ ∀ v, KerOk (eqs w ps n1 n2) u (some v) → Syms v ∧ v.length = u ∧ (overR (v.take n1) (v.drop n1) = none → decR w er k = none) ∧
      ∀ q r, overR (v.take n1) (v.drop n1) = some (q, r) → Syms q ∧ q.length ≤ 15 ∧ ((¬ AllZ r ∨ (k : Int) ≤ degR q) → decR w er k = none) ∧ (ms < errN (firstK q k) w er → decR w er k = none) ∧ (errN (firstK q k) w er ≤ ms → decR w er k = some (firstK q k)) := by
  subst hps hms hn1 hn2 hu
  refine ⟨fun hn => dec_nil h hn, fun v hv => ?_⟩
  have hv' := hv
  obtain ⟨v1, v2, v3, v4⟩ := hv
  have sN := syms_take v1 (k + mostOf er k)
  have sE := syms_drop v1 (k + mostOf er k)
  have lN : (v.take (k + mostOf er k)).length = k + mostOf er k := by simp; omega
  have lE : (v.drop (k + mostOf er k)).length = mostOf er k + 1 := by simp; omega
  have e : v = v.take (k + mostOf er k) ++ v.drop (k + mostOf er k) := (List.take_append_drop _ _).symm
  have hk' : KerOk (eqs w (placesOf er) (k + mostOf er k) (mostOf er k + 1)) (k + mostOf er k + (mostOf er k + 1)) (some (v.take (k + mostOf er k) ++ v.drop (k + mostOf er k))) := by rw [← e]; exact hv'
  refine ⟨v1, v2, fun ho => dec_zero h lN lE hk' (overR_none ho), fun q r ho => ?_⟩
  obtain ⟨n, d1, d2, d3⟩ := overR_some sN sE ho
  have hpl := places_gone er er.length
  refine ⟨d2.1, ?_, fun hb => dec_rest h lN lE hk' d1 d2 d3 (hb.imp id fun h9 => ?_), fun hb => dec_many h lN lE hk' d1 d2 d3 hb, fun hb => dec_ok h hk d2.1 hb⟩
  · rw [d2.2.2.2.1, lN]
    have := h.2.2.1
    unfold mostOf
    unfold placesOf at hk ⊢
    omega
  · obtain ⟨x, hx⟩ := Int.eq_ofNat_of_zero_le (show 0 ≤ degR q by omega)
    have := (degR_is q).2.1 (by omega)
    rw [hx] at this
    exact ⟨x, by omega, by simpa using this⟩
/-- what the operations of 'q, whole := both[:n1].over(both[n1:])' promise -/
def gs32 (bv : Value) (k ms n1 : Nat) (a b : Value) (Q : Value → World → Prop) (Bp : Bool → Prop) : List (Value → World → Prop) :=
  [fun v _ => v = bv, fun v _ => v = .int .i64 (k : Int), fun v _ => v = .int .i64 (ms : Int), fun v _ => v = .int .i64 (n1 : Int), fun v _ => v = a,
    fun v _ => v = bv, fun v _ => v = .int .i64 (k : Int), fun v _ => v = .int .i64 (ms : Int), fun v _ => v = .int .i64 (n1 : Int), fun v _ => v = b,
    fun v w => ∃ x c, v = .tuple #[x, .bool c] ∧ Q x w ∧ Bp c, fun v w => ∃ x c, v = .tuple #[x, .bool c] ∧ Q x w ∧ Bp c,
    fun v w => Q v w, fun v _ => ∃ c, v = .bool c ∧ Bp c, fun v w => Q v w, fun v _ => ∃ c, v = .bool c ∧ Bp c]
theorem gs32_stab (bv : Value) (k ms n1 : Nat) (a b : Value) (Q : Value → World → Prop) (Bp : Bool → Prop) (hQ : ∀ v w w', Q v w → Ext w w' → Q v w') : ∀ g ∈ gs32 bv k ms n1 a b Q Bp, ∀ v w w', g v w → Ext w w' → g v w' := by
  intro g hg v w w' h hb
  simp only [gs32, List.mem_cons, List.not_mem_nil, or_false] at hg
  rcases hg with rfl | rfl | rfl | rfl | rfl | rfl | rfl | rfl | rfl | rfl | rfl | rfl | rfl | rfl | rfl | rfl
  · exact h
  · exact h
  · exact h
  · exact h
  · exact h
  · exact h
  · exact h
  · exact h
  · exact h
  · exact h
  · obtain ⟨x, c, h1, h2, h3⟩ := h
    exact ⟨x, c, h1, hQ _ _ _ h2 hb, h3⟩
  · obtain ⟨x, c, h1, h2, h3⟩ := h
    exact ⟨x, c, h1, hQ _ _ _ h2 hb, h3⟩
  · exact hQ _ _ _ h hb
  · exact h
  · exact hQ _ _ _ h hb
  · exact h
/-- what 'decode' answers -/
def DecIs (wd : List Nat) (er : List Bool) (k : Nat) (w : World) (e : Ending) (w' : World) : Prop :=
  Ext w w' ∧ match decR wd er k with
    | none => e = .returned (.tuple #[.slice none 0 0, .int .i64 0, .int .i64 60])
    | some M => ∃ v, e = .returned (.tuple #[v, .int .i64 (errN M wd er : Nat), .int .i64 0]) ∧ w'.ownsRow w.heap.size 5 1 v k (bytesL M)
theorem DecIs.none {wd : List Nat} {er : List Bool} {k : Nat} {w w' : World} {e : Ending} (h : decR wd er k = none) (hE : Ext w w') (he : e = .returned (.tuple #[.slice none 0 0, .int .i64 0, .int .i64 60])) : DecIs wd er k w e w' := ⟨hE, by rw [h]; exact he⟩
theorem DecIs.some {wd M : List Nat} {er : List Bool} {k : Nat} {w w' : World} {e : Ending} (h : decR wd er k = some M) (hE : Ext w w') (he : ∃ v, e = .returned (.tuple #[v, .int .i64 (errN M wd er : Nat), .int .i64 0]) ∧ w'.ownsRow w.heap.size 5 1 v k (bytesL M)) : DecIs wd er k w e w' := ⟨hE, by rw [h]; exact he⟩
set_option maxRecDepth 100000 in
set_option maxHeartbeats 32000000 in
theorem c_decode (v ve : Value) (wd : List Nat) (er : List Bool) (k : Nat) (w : World) (hT : Tabs w) (hv : BytesAt w v wd) (he : BoolsAt w ve er) (hR : RecvOk wd er k) :
    Calls Tryd.prog 61 #[v, ve, .int .i64 (k : Int)] w (DecIs wd er k w) := by
  obtain ⟨i0, hi, hz0, hz1, hz2⟩ := info_parts3 info_intK
  obtain ⟨i1, ki, kz0, kz1, kz2⟩ := info_parts3 info_symS
  obtain ⟨i2, ri, rz0, rz1, rz2⟩ := info_parts3 info_rowD
  obtain ⟨i3, bi, bz0, bz1, bz2⟩ := info_parts3 info_byte
  have HT := Lib.hid hT
  have HR := Lib.hid hR
  have HV := Lib.hid hv
  obtain ⟨-, hwl, hel, hk1, hk2⟩ := hR
  obtain ⟨bw, ow, cw, rfl, hcw⟩ := hv.some hwl (by omega)
  obtain ⟨be, oe, ce, rfl, hce⟩ := he.some hel (by omega)
  have HCW := Lib.hid hcw
  have HCE := Lib.hid hce
  have HEL := Lib.hid hel
  have HPG := Lib.hid (show ∀ j, (placesK er j).length ≤ j from fun j => by have := places_gone er j; omega)
  have HPO := Lib.hid (show placesOf er = placesK er 15 by unfold placesOf; rw [hel])
  clear hT hv he hcw hce hwl hel
  go_enter Tryd.func61, Tryd.ntmps61
  go_wp2
  go_loopw [9, 34] (fun pl ii wr => ∃ j : Nat, j ≤ 15 ∧ ii = .int .i64 (j : Int) ∧ Ext w wr ∧ Hid (wr.ownsRow w.heap.size 3 1 pl (placesK er j).length (ints (natI (placesK er j))))) (fun _ ii _ => 15 - (intOf ii).toNat)
  case atStart => exact ⟨0, Nat.zero_le _, rfl, Ext.refl _, Lib.hid ⟨rfl, .inl ⟨rfl, rfl⟩⟩⟩
  case round =>
    obtain ⟨j, hj, rfl, hE, hP⟩ := hrel
    by_cases hjl : j < 15
    · have c0 := hE.get (HCE.out j hjl)
      have HS := Lib.hid (placesK_succ er j)
      have hpl := HPG.out j
      obtain ⟨pl, hpe⟩ : ∃ p, placesK er j = p := ⟨_, rfl⟩
      rw [hpe] at HS hpl hP
      obtain ⟨g, hg⟩ : ∃ g, er.getD j false = g := ⟨_, rfl⟩
      rw [hg] at c0 HS
      clear hpe hg
      cases g
      · have HS2 := Lib.hid (show placesK er (j + 1) = pl ++ [j] by rw [HS.out]; simp)
        go_wp2_with (at_builtin; refine wpList_append_sl rfl _ _ 42 rfl w.heap.size 3 i0 (.int .i64 0) 1 8 Tryd.underlying42 hi hz0 hz1 hz2 rfl (by omega) u9 pl.length (ints (natI pl)) rfl (owns_ext hP.out ((Ext.refl _).alloc _)) _ 1 [.int .i64 (j : Int)] rfl (SlAt.of_owns (owns_lit wr [.int .i64 (j : Int)] 3 1 1 0 (Nat.zero_le _) (by unfold maxLen; omega) rfl)) (ints_oneCell' [(j : Int)]) (by unfold maxLen; omega) (by omega) (hE.alloc _).size ?_; intro v' w' ho hg)
        exact ⟨⟨j + 1, by omega, by go_num, (hE.alloc _).grown hg (fun g hk => (owns_block hP.out g hk).1), Lib.hid (by
          rw [HS2.out, List.length_append, show ints (natI (pl ++ [j])) = ints (natI pl) ++ [.int .i64 (j : Int)] by simp [ints, natI]]
          exact ho)⟩, by simp [intOf]; omega⟩
      · have HS2 := Lib.hid (show placesK er (j + 1) = pl by rw [HS.out]; simp)
        go_wp2
        exact ⟨⟨j + 1, by omega, by go_num, hE, Lib.hid (by rw [HS2.out]; exact hP.out)⟩, by simp [intOf]; omega⟩
    · obtain rfl : j = 15 := by omega
      rw [← HPO.out] at hP
      have hnp := HPG.out 15
      rw [← HPO.out] at hnp
      have HPL := Lib.hid (show ∀ i ∈ placesOf er, i < 15 from placesOf_lt HR.out)
      have HMO := Lib.hid (show mostOf er k = ((placesOf er).length - k) / 2 from rfl)
      have HSH := Lib.hid (fun h => dec_short HR.out (k := k) h)
      have HER := Lib.hid (errN_eq)
      obtain ⟨ps, hps⟩ : ∃ p, placesOf er = p := ⟨_, rfl⟩
      rw [hps] at hP hnp HPL HMO HSH
      have HPS := Lib.hid hps
      obtain ⟨np, hnpe⟩ : ∃ n, ps.length = n := ⟨_, rfl⟩
      rw [hnpe] at hP hnp HMO HSH
      have HNP := Lib.hid hnpe
      obtain ⟨-, po, pc, rfl, -⟩ := SlAt.of_owns hP.out
      clear hps hnpe hjl
      by_cases hsh : np < k
      · have HD := Lib.hid (HSH.out hsh)
        go_wp2
        go_ret3
        exact DecIs.none HD.out hE rfl
      · obtain ⟨ms, hms⟩ : ∃ m, mostOf er k = m := ⟨_, rfl⟩
        rw [hms] at HMO
        have hmo := HMO.out
        have q1 : (np : Int) - (k : Int) = ((np - k : Nat) : Int) := by omega
        have HMS := Lib.hid hms
        have q2 : ((np - k : Nat) : Int) / 2 = (ms : Int) := by omega
        have hm7 : ms ≤ 7 := by omega
        have hnp1 : 0 < np := by omega
        obtain ⟨pg, pcp, hpe, hpg1, -⟩ := owns_some hP.out hnp1
        injection hpe with e1 e2 e3
        subst e1 e3
        obtain ⟨n1, hn1⟩ : ∃ n, k + ms = n := ⟨_, rfl⟩
        obtain ⟨n2, hn2⟩ : ∃ n, ms + 1 = n := ⟨_, rfl⟩
        obtain ⟨u, hu⟩ : ∃ n, n1 + n2 = n := ⟨_, rfl⟩
        have hN : n1 + ms ≤ 15 := by omega
        have HU := Lib.hid (And.intro hn1 (And.intro hn2 hu))
        have qn1 : (k : Int) + (ms : Int) = (n1 : Int) := by omega
        have hu16 : u ≤ 16 := by omega
        have hu1 : 0 < u := by omega
        have hn2a : n2 ≤ 8 ∧ 1 ≤ n2 ∧ n1 ≤ 15 ∧ 1 ≤ n1 := by omega
        have HER2 := Lib.hid (eqs_len wd ps n1 n2)
        have HDE := Lib.hid (dec_end HR.out HPS.out HMS.out hn1 hn2 hu (by rw [HNP.out]; omega))
        have HEK := Lib.hid (eqs_ok (n1 := n1) (n2 := n2) HR.out.1 HPL.out)
        have HEG := Lib.hid (show ∀ j, j < np → (eqs wd ps n1 n2).take (j + 1) = (eqs wd ps n1 n2).take j ++ [eqRow (powN (ps.getD j 0)) (wd.getD (ps.getD j 0) 0) n1 n2] from fun j hj => by
          have hj' : j < ps.length := by rw [HNP.out]; exact hj
          rw [List.take_add_one]
          unfold eqs
          rw [List.getElem?_map, List.getElem?_eq_getElem hj']
          simp [List.getD_eq_getElem?_getD, hj'])
        obtain ⟨W1, hW1⟩ : ∃ W1, W1 = wr := ⟨_, rfl⟩
        subst hW1
        clear hms hmo hn1 hn2 hu hsh hj HPG HPO
        go_wp2
        go_loopw [13, 57] (fun rv ii wi => ∃ (j : Nat) (gs : List (Nat × Nat)), j ≤ np ∧ ii = .int .i64 (j : Int) ∧ Ext W1 wi ∧ Hid (RowsUp wi W1.heap.size rv gs ((eqs wd ps n1 n2).take j) j u)) (fun _ ii _ => np - (intOf ii).toNat)
        case atStart => exact ⟨0, [], Nat.zero_le _, rfl, Ext.refl _, Lib.hid (RowsUp.nil _ _ _)⟩
        case round =>
          obtain ⟨j, gs, hj, rfl, hE1, hU⟩ := hrel
          by_cases hjn : j < np
          · have hpj : (ps.getD j 0) < 15 := HPL.out _ (by rw [List.getD_eq_getElem?_getD, List.getElem?_eq_getElem (by rw [HNP.out]; exact hjn)]; exact List.getElem_mem _)
            have c0 := hE1.get (show W1.cell? ⟨pg, j, none⟩ = some (.int .i64 ((ps.getD j 0 : Nat) : Int)) by rw [hP.out.cellAt j (by omega), natI_get (by rw [HNP.out]; exact hjn)])
            have c1 := (hE.trans hE1).get (HCW.out (ps.getD j 0) hpj)
            have HGJ := Lib.hid (HEG.out j hjn)
            have hyl := syms_get HR.out.1 (ps.getD j 0)
            have hxl := pow_lt hpj
            obtain ⟨p, hp⟩ : ∃ p, ps.getD j 0 = p := ⟨_, rfl⟩
            rw [hp] at hpj c0 c1 HGJ hyl hxl
            have CP := Lib.hid (fun (w' : World) (h : Ext wr w') => c_point p (by omega) w' (HT.out.ext ((hE.trans hE1).trans h)))
            obtain ⟨x, hx⟩ : ∃ x, powN p = x := ⟨_, rfl⟩
            obtain ⟨y, hy⟩ : ∃ y, wd.getD p 0 = y := ⟨_, rfl⟩
            rw [hx] at CP hxl HGJ
            rw [hy] at c1 hyl HGJ
            have HXY := Lib.hid (And.intro hp (And.intro hx hy))
            have zp := World.block_lt_of_cell? _ _ c0
            have zw := World.block_lt_of_cell? _ _ c1
            simp only at zp zw
            clear hp hx hy
            go_wp2
            refine wp_region_quiet_below (by kernel_rfl) (by kernel_rfl) ?_
            repeat (go_big_quiet_step ((go_at_call 90; with_reducible exact Calls.ext_of (CP.out _ (Ext.grow _ _ _)))))
            refine wpQuiet_nil ?_
            intro W2 hw'
            obtain ⟨pq, hw''⟩ := hw'
            have h2 := ext_of_regrown hw''
            clear hw'' pq
            have hE2 := hE1.trans h2
            have hU2 := Lib.hid (hU.out.ext h2)
            have HEL2 := Lib.hid (eqRow_len x y n1 n2)
            have HE1 := Lib.hid (fun m h => eqRow_get1 (x := x) (y := y) (n1 := n1) (n2 := n2) (j := m) hxl h)
            have HE2 := Lib.hid (fun m h => eqRow_get2 (x := x) (y := y) (n1 := n1) (n2 := n2) (j := m) hxl hyl h)
            obtain ⟨er2, her2⟩ : ∃ e, eqRow x y n1 n2 = e := ⟨_, rfl⟩
            rw [her2] at HEL2 HE1 HE2 HGJ
            have HGP := Lib.hid (gpow_lt hxl)
            have hTW : Hid (∀ w', Ext W2 w' → Tabs w') := Lib.hid (fun w' h => HT.out.ext ((hE.trans hE2).trans h))
            clear hU hE1 c0 c1 CP her2 zp zw
            go_wp2
            go_loopw [16, 19, 20] (fun rv pp nn wi => ∃ m : Nat, m ≤ n1 ∧ nn = .int .i64 (m : Int) ∧ pp = .int .u8 ((gpow x m : Nat) : Int) ∧ Ext W2 wi ∧ Hid (wi.ownsRow W2.heap.size 92 1 rv m (bytesL (er2.take m)))) (fun _ _ nn _ => n1 - (intOf nn).toNat)
            case atStart => exact ⟨0, Nat.zero_le _, rfl, rfl, Ext.refl _, Lib.hid ⟨rfl, .inl ⟨rfl, rfl⟩⟩⟩
            case round =>
              obtain ⟨m, hm, rfl, rfl, hE3, hO⟩ := hrel
              by_cases hmn : m < n1
              · have HTG := Lib.hid (show er2.take (m + 1) = er2.take m ++ [gpow x m] by rw [take_grow (by rw [HEL2.out]; omega), HE1.out m hmn])
                have HGS := Lib.hid (show gpow x (m + 1) = gmul (gpow x m) x from rfl)
                have hgl := HGP.out m
                obtain ⟨g, hg⟩ : ∃ g, gpow x m = g := ⟨_, rfl⟩
                rw [hg] at HTG HGS hgl ⊢
                have CM := Lib.hid (fun (w' : World) (h : Ext W2 w') => c_mul g x hgl hxl w' (hTW.out _ h))
                have hEa : Ext wr (wr.alloc (.cells #[.int .u8 (g : Int)] 92)) := (Ext.refl wr).alloc _
                clear hg
                go_wp2_with (first
                  | (at_builtin; refine wpList_append_sl rfl _ _ 129 rfl W2.heap.size 92 i1 (.int .u8 0) 1 1 Tryd.underlying129 ki kz0 kz1 kz2 rfl (by omega) u16 m (bytesL (er2.take m)) rfl (owns_ext hO.out hEa) _ 1 [.int .u8 (g : Int)] rfl (SlAt.of_owns (owns_lit wr [.int .u8 (g : Int)] 92 1 1 0 (Nat.zero_le _) (by unfold maxLen; omega) rfl)) (bytes_oneCell' [g]) (by unfold maxLen; omega) (by omega) (hE3.trans hEa).size ?_; intro v' w' ho hg; have hE4 := (hE3.trans hEa).grown hg (fun g hk => (hO.out.lt g hk).1))
                  | (go_at_call 53; (with_reducible refine (CM.out _ hE4).mono ?_); rintro E w5 ⟨rfl, h5⟩))
                refine ⟨⟨m + 1, by omega, by go_num, by rw [HGS.out], hE4.trans h5, Lib.hid ?_⟩, by simp [intOf]; omega⟩
                rw [HTG.out, show bytesL (er2.take m ++ [g]) = bytesL (er2.take m) ++ [.int .u8 (g : Int)] by simp [bytesL]]
                exact owns_ext ho h5
              · obtain rfl : n1 = m := by omega
                clear hmn
                go_wp2
                go_loopw [16, 21, 22] (fun rv pp nn wi => ∃ m : Nat, m ≤ n2 ∧ nn = .int .i64 (m : Int) ∧ pp = .int .u8 ((gpow x m : Nat) : Int) ∧ Ext W2 wi ∧ Hid (wi.ownsRow W2.heap.size 92 1 rv (n1 + m) (bytesL (er2.take (n1 + m))))) (fun _ _ nn _ => n2 - (intOf nn).toNat)
                case atStart => exact ⟨0, Nat.zero_le _, rfl, rfl, hE3, hO⟩
                case round =>
                  clear hO hE3
                  obtain ⟨m, hm, rfl, rfl, hE3, hO⟩ := hrel
                  by_cases hmn : m < n2
                  · have HTG := Lib.hid (show er2.take (n1 + (m + 1)) = er2.take (n1 + m) ++ [gmul (gpow x m) y] by rw [← Nat.add_assoc, take_grow (by rw [HEL2.out]; omega), HE2.out m hmn])
                    have HGS := Lib.hid (show gpow x (m + 1) = gmul (gpow x m) x from rfl)
                    have hgl := HGP.out m
                    obtain ⟨g, hg⟩ : ∃ g, gpow x m = g := ⟨_, rfl⟩
                    rw [hg] at HTG HGS hgl ⊢
                    have CY := Lib.hid (fun (w' : World) (h : Ext W2 w') => c_mul g y hgl hyl w' (hTW.out _ h))
                    have CM := Lib.hid (fun (w' : World) (h : Ext W2 w') => c_mul g x hgl hxl w' (hTW.out _ h))
                    obtain ⟨z, hz⟩ : ∃ z, gmul g y = z := ⟨_, rfl⟩
                    rw [hz] at HTG CY
                    have q7 : (m : Int) ≤ (ms : Int) := by have := HU.out.2.1; omega
                    clear hg hz
                    go_wp2_with (first
                      | (have _q := hE4; go_at_call 53; (with_reducible refine (CM.out _ hE4).mono ?_); rintro E w5 ⟨rfl, h5⟩)
                      | (go_at_call 53; (with_reducible refine (CY.out _ hE3).mono ?_); rintro E w3 ⟨rfl, h3⟩; have hEa : Ext wr (w3.alloc (.cells #[.int .u8 (z : Int)] 92)) := h3.alloc _)
                      | (at_builtin; refine wpList_append_sl rfl _ _ 129 rfl W2.heap.size 92 i1 (.int .u8 0) 1 1 Tryd.underlying129 ki kz0 kz1 kz2 rfl (by omega) u16 (n1 + m) (bytesL (er2.take (n1 + m))) rfl (owns_ext hO.out hEa) _ 1 [.int .u8 (z : Int)] rfl (SlAt.of_owns (owns_lit w3 [.int .u8 (z : Int)] 92 1 1 0 (Nat.zero_le _) (by unfold maxLen; omega) rfl)) (bytes_oneCell' [z]) (by unfold maxLen; omega) (by omega) (hE3.trans hEa).size ?_; intro v' w' ho hg; have hE4 := (hE3.trans hEa).grown hg (fun g hk => (hO.out.lt g hk).1)))
                    refine ⟨⟨m + 1, by omega, by go_num, by rw [HGS.out], hE4.trans h5, Lib.hid ?_⟩, by simp [intOf]; omega⟩
                    rw [HTG.out, show bytesL (er2.take (n1 + m) ++ [z]) = bytesL (er2.take (n1 + m)) ++ [.int .u8 (z : Int)] by simp [bytesL]]
                    exact owns_ext ho h5
                  · obtain rfl : n2 = m := by omega
                    have q7 : ¬ ((n2 : Int) ≤ (ms : Int)) := by have := HU.out.2.1; omega
                    have huu := HU.out.2.2
                    rw [huu] at hO
                    have hrw : er2.take u = er2 := by rw [List.take_of_length_le (by rw [HEL2.out]; omega)]
                    rw [hrw] at hO
                    obtain ⟨gg, gc, rfl, hgg, -⟩ := owns_some hO.out hu1
                    have hEa : Ext wr (wr.alloc (.cells #[.slice (some ⟨gg, 0, none⟩) u gc] 129)) := (Ext.refl wr).alloc _
                    have hU3 := Lib.hid ((hU2.out.ext hE3).ext hEa)
                    have hbb := hE2.size
                    clear hmn huu hrw
                    go_wp2_with (at_builtin; refine wpList_append_at rfl _ _ 135 rfl W1.heap.size 129 i2 (.slice none 0 0) 1 24 Tryd.underlying135 ri rz0 rz1 rz2 rfl (by omega) u13 j (gs.map (RowV u)) rfl hU3.out.top _ 1 [.slice (some ⟨gg, 0, none⟩) u gc] rfl (SlAt.of_owns (owns_lit wr [.slice (some ⟨gg, 0, none⟩) u gc] 129 1 1 0 (Nat.zero_le _) (by unfold maxLen; omega) rfl)) (by intro u hu; simp at hu; subst hu; rfl) (by unfold maxLen; omega) (by omega) (Nat.le_trans hbb (hE3.trans hEa).size) ?_; intro v' w' ho hg ha)
                    refine ⟨⟨j + 1, gs ++ [(gg, gc)], by omega, by go_num, ((hE2.trans hE3).trans hEa).grown hg (fun g hk => (hU3.out.top.lt g hk).1), Lib.hid ?_⟩, by simp [intOf]; omega⟩
                    rw [HGJ.out]
                    exact RowsUp.push hU2.out (hE3.trans hEa) (owns_ext hO.out hEa) (by rw [HEL2.out]; exact HU.out.2.2) hbb ho hg ha
          · obtain rfl : np = j := by omega
            have hU2 := Lib.hid (show RowsUp wr W1.heap.size u13 gs (eqs wd ps n1 n2) np u by
              have h := hU.out
              rw [List.take_of_length_le (by rw [HER2.out, HNP.out]; exact Nat.le_refl _)] at h
              exact h)
            obtain ⟨R, rc, rfl, hRA⟩ := hU2.out.done hnp1
            have HRA := Lib.hid hRA
            have KK := Lib.hid (fun (hok : (eqs wd ps n1 n2).Ok (n1 + n2)) => c_kernel W1 wr R rc np u gs (eqs wd ps n1 n2) (HT.out.ext hE) hE1 hRA hnp1 (by omega) hu1 (by omega) (HU.out.2.2 ▸ hok))
            have KK2 := Lib.hid (KK.out HEK.out)
            obtain ⟨R0, hR0⟩ : ∃ m, eqs wd ps n1 n2 = m := ⟨_, rfl⟩
            rw [hR0] at KK2 HDE
            have qu : (k : Int) + 2 * (ms : Int) + 1 = (u : Int) := by have := HU.out; omega
            clear hRA KK hU hU2 HEG HEK HER2 hjn hj HRA hR0
            unfold KernelIs at KK2
            have ut0 : ∀ W, (binOp .eql 129 (.slice none 0 0) (.slice none 0 0)).run Tryd.prog W = .ok (.bool true) W := fun W => Lib.run_eql_slice_nil W 129 92 none 0 0 0 0 Tryd.underlying129
            have ut1 : ∀ W b c, (binOp .eql 129 (.slice (some ⟨b, 0, none⟩) u c) (.slice none 0 0)).run Tryd.prog W = .ok (.bool false) W := fun W b c => Lib.run_eql_slice_nil W 129 92 (some ⟨b, 0, none⟩) u c 0 0 Tryd.underlying129
            go_wp2_with (go_at_call 95; (with_reducible refine KK2.out.mono ?_); rintro E w3 ⟨h3, (⟨k1, rfl⟩ | ⟨vb, vv, k1, rfl, ho3⟩)⟩; all_goals (try (obtain ⟨gb, cb, rfl, hgb, hucb⟩ := owns_some ho3 hu1)))
            · have HD := Lib.hid (HDE.out.1 k1)
              go_ret3
              exact DecIs.none HD.out (hE.trans h3) rfl
            · obtain ⟨sv, vl, hz, hq⟩ := HDE.out.2 vb k1
              have HO3 := Lib.hid ho3
              have HSV := Lib.hid sv
              have HVL := Lib.hid vl
              have HZ := Lib.hid hz
              have HQ := Lib.hid hq
              have hE3 := hE.trans h3
              have hPW := Lib.hid (owns_ext hP.out h3)
              clear ho3 sv vl hz hq k1 HDE KK2 h3
              have qw : IntKind.i64.wrap ((k : Int) + (ms : Int)) = (n1 : Int) := by rw [IntKind.wrap_i64]; omega
              have hN1u : n1 ≤ u ∧ n1 < cb ∧ u - n1 = n2 := by have := HU.out.2.2; omega
              have hBV : BytesAt w3 (.slice (some ⟨gb, 0, none⟩) vb.length cb) vb := by
                have h := HO3.out
                rw [← HVL.out] at h
                exact SlAt.of_owns h
              have HBT := Lib.hid (show BytesAt w3 (.slice (some ⟨gb, 0, none⟩) n1 cb) (vb.take n1) from bytes_take (m := n1) hBV (by rw [HVL.out]; exact hN1u.1))
              have HBD := Lib.hid (show BytesAt w3 (.slice (some ⟨gb, n1, none⟩) (u - n1) (cb - n1)) (vb.drop n1) by
                have h := bytes_drop (o := n1) hBV (by rw [HVL.out]; exact hN1u.1)
                rw [HVL.out, Nat.zero_add] at h
                exact h)
              have KO := Lib.hid (fun (W : World) (h : Ext w3 W) => c_over _ _ (vb.take n1) (vb.drop n1) W (HT.out.ext (hE3.trans h)) (HBT.out.ext h) (HBD.out.ext h) (syms_take HSV.out _) (syms_drop HSV.out _) (by rw [List.length_drop, HVL.out]; omega) (by rw [List.length_drop, List.length_take, HVL.out]; omega) (by rw [List.length_take, HVL.out]; omega))
              obtain ⟨Q, Bp, hQB⟩ : ∃ (Q : Value → World → Prop) (Bp : Bool → Prop), (∀ v w w', Q v w → Ext w w' → Q v w') ∧ (∀ v c W, Q v W → Bp c → match overR (vb.take n1) (vb.drop n1) with
                  | none => v = .slice none 0 0 ∧ c = false
                  | some (q, r) => W.ownsRow w3.heap.size 92 1 v q.length (bytesL q) ∧ (c = true ↔ AllZ r)) ∧
                  ∀ W, Ext w3 W → Calls Tryd.prog 96 #[.slice (some ⟨gb, 0, none⟩) n1 cb, .slice (some ⟨gb, n1, none⟩) (u - n1) (cb - n1)] W fun e W' => ∃ x c, e = .returned (.tuple #[x, .bool c]) ∧ Q x W' ∧ Bp c ∧ Ext W W' := by
                cases hov : overR (vb.take n1) (vb.drop n1) with
                | none =>
                  refine ⟨fun v _ => v = .slice none 0 0, fun c => c = false, fun v w w' h _ => h, fun v c W h1 h2 => ⟨h1, h2⟩, fun W hW => (KO.out W hW).mono ?_⟩
                  rintro e W' ⟨h1, h2⟩
                  rw [hov] at h2
                  exact ⟨_, _, h2, rfl, rfl, h1⟩
                | some qr =>
                  obtain ⟨q, r⟩ := qr
                  refine ⟨fun v W => W.ownsRow w3.heap.size 92 1 v q.length (bytesL q), fun c => (c = true ↔ AllZ r), fun v w w' h h9 => owns_ext h h9, fun v c W h1 h2 => ⟨h1, h2⟩, fun W hW => (KO.out W hW).mono ?_⟩
                  rintro e W' ⟨h1, h2⟩
                  rw [hov] at h2
                  obtain ⟨v, b, h3, h4, h5⟩ := h2
                  exact ⟨v, b, h4, owns_base h5 hW.size, h3, h1⟩
              obtain ⟨hQs, hQe, hQc⟩ := hQB
              have HQE := Lib.hid hQe
              have HQC := Lib.hid hQc
              have hst := RG.stab_of (gs32_stab (.slice (some ⟨gb, 0, none⟩) u cb) k ms n1 (.slice (some ⟨gb, 0, none⟩) n1 cb) (.slice (some ⟨gb, n1, none⟩) (u - n1) (cb - n1)) Q Bp hQs)
              clear KO hQe hQc
              refine RG.wp_rg (gs32 (.slice (some ⟨gb, 0, none⟩) u cb) k ms n1 (.slice (some ⟨gb, 0, none⟩) n1 cb) (.slice (some ⟨gb, n1, none⟩) (u - n1) (cb - n1)) Q Bp) (fun _ => []) (by kernel_rfl) (by kernel_rfl) (by kernel_rfl) ?_ ?_
              · simp only [gs32, List.length_cons, List.length_nil, List.take_succ_cons, List.take_zero, RG.Steps, and_true, Nat.reduceAdd]
                refine ⟨?_, ?_, ?_, ?_, ?_, ?_, ?_, ?_, ?_, ?_, ?_, ?_, ?_, ?_, ?_, ?_⟩
                · refine RG.st_move rfl rfl (by kernel_rfl) (fun W hW => rfl) hst
                · refine RG.st_move rfl rfl (by kernel_rfl) (fun W hW => rfl) hst
                · refine RG.st_move rfl rfl (by kernel_rfl) (fun W hW => rfl) hst
                · refine RG.st_run rfl (fun A W hW hr => ⟨_, W, ?_, Ext.refl _, rfl⟩) hst
                  have e1 := RG.read_in (t := 111) (j := 1) hr (by kernel_rfl) (by kernel_rfl)
                  have e2 := RG.read_in (t := 112) (j := 2) hr (by kernel_rfl) (by kernel_rfl)
                  have e1' : A.tmps[111]?.getD undef = .int .i64 (k : Int) := (Array.getD_eq_getD_getElem? ..).symm.trans e1
                  have e2' : A.tmps[112]?.getD undef = .int .i64 (ms : Int) := (Array.getD_eq_getD_getElem? ..).symm.trans e2
                  clear hr hst e1 e2
                  simp [execOp, go_sem, e1', e2', qw]
                · refine RG.st_run rfl (fun A W hW hr => ⟨_, W, ?_, Ext.refl _, rfl⟩) hst
                  have e1 := RG.read_in (t := 110) (j := 0) hr (by kernel_rfl) (by kernel_rfl)
                  have e2 := RG.read_in (t := 113) (j := 3) hr (by kernel_rfl) (by kernel_rfl)
                  have e1' : A.tmps[110]?.getD undef = .slice (some ⟨gb, 0, none⟩) u cb := (Array.getD_eq_getD_getElem? ..).symm.trans e1
                  have e2' : A.tmps[113]?.getD undef = .int .i64 (n1 : Int) := (Array.getD_eq_getD_getElem? ..).symm.trans e2
                  clear hr hst e1 e2
                  simp [execOp, go_sem, e1', e2', Tryd.underlying129]
                  intro h9
                  omega
                · refine RG.st_move rfl rfl (by kernel_rfl) (fun W hW => rfl) hst
                · refine RG.st_move rfl rfl (by kernel_rfl) (fun W hW => rfl) hst
                · refine RG.st_move rfl rfl (by kernel_rfl) (fun W hW => rfl) hst
                · refine RG.st_run rfl (fun A W hW hr => ⟨_, W, ?_, Ext.refl _, rfl⟩) hst
                  have e1 := RG.read_in (t := 116) (j := 6) hr (by kernel_rfl) (by kernel_rfl)
                  have e2 := RG.read_in (t := 117) (j := 7) hr (by kernel_rfl) (by kernel_rfl)
                  have e1' : A.tmps[116]?.getD undef = .int .i64 (k : Int) := (Array.getD_eq_getD_getElem? ..).symm.trans e1
                  have e2' : A.tmps[117]?.getD undef = .int .i64 (ms : Int) := (Array.getD_eq_getD_getElem? ..).symm.trans e2
                  clear hr hst e1 e2
                  simp [execOp, go_sem, e1', e2', qw]
                · refine RG.st_run rfl (fun A W hW hr => ⟨_, W, ?_, Ext.refl _, rfl⟩) hst
                  have e1 := RG.read_in (t := 115) (j := 5) hr (by kernel_rfl) (by kernel_rfl)
                  have e2 := RG.read_in (t := 118) (j := 8) hr (by kernel_rfl) (by kernel_rfl)
                  have e1' : A.tmps[115]?.getD undef = .slice (some ⟨gb, 0, none⟩) u cb := (Array.getD_eq_getD_getElem? ..).symm.trans e1
                  have e2' : A.tmps[118]?.getD undef = .int .i64 (n1 : Int) := (Array.getD_eq_getD_getElem? ..).symm.trans e2
                  clear hr hst e1 e2
                  simp [execOp, go_sem, e1', e2', Tryd.underlying129]
                  rw [if_pos hN1u.1, if_neg (show ¬ cb = n1 by omega)]
                · refine RG.st_call rfl 96 _ _ rfl Tryd.func96 (by kernel_rfl) rfl (fun A W hW hr => ?_) hst
                  have e1 := RG.read_in (t := 114) (j := 4) hr (by kernel_rfl) (by kernel_rfl)
                  have e2 := RG.read_in (t := 119) (j := 9) hr (by kernel_rfl) (by kernel_rfl)
                  have hargs : (#[Operand.tmp 114, Operand.tmp 119].map A.eval) = #[.slice (some ⟨gb, 0, none⟩) n1 cb, .slice (some ⟨gb, n1, none⟩) (u - n1) (cb - n1)] := by
                    simp only [List.map_toArray, List.map_cons, List.map_nil]
                    rw [show A.eval (.tmp 114) = _ from e1, show A.eval (.tmp 119) = _ from e2]
                  rw [hargs]
                  refine (HQC.out W hW).mono ?_
                  rintro e W2 ⟨x, c, rfl, g1, g2, g3⟩
                  exact ⟨_, rfl, g3, x, c, rfl, g1, g2⟩
                · refine RG.st_run rfl (fun A W hW hr => ⟨A.tmps.getD 120 undef, W, ?_, Ext.refl _, ?_⟩) hst
                  · rfl
                  · exact RG.read_in (t := 120) (j := 10) hr (by kernel_rfl) (by kernel_rfl)
                · refine RG.st_run rfl (fun A W hW hr => ?_) hst
                  obtain ⟨x, c, e1, e2, e3⟩ := RG.read_in (t := 109) (j := 11) hr (by kernel_rfl) (by kernel_rfl)
                  have e1' : A.tmps[109]?.getD undef = .tuple #[x, .bool c] := (Array.getD_eq_getD_getElem? ..).symm.trans e1
                  have e9 : A.eval (.tmp 109) = .tuple #[x, .bool c] := e1
                  refine ⟨x, W, ?_, Ext.refl _, e2⟩
                  clear hr hst
                  simp [execOp, go_sem, e1']
                · refine RG.st_run rfl (fun A W hW hr => ?_) hst
                  obtain ⟨x, c, e1, e2, e3⟩ := RG.read_in (t := 109) (j := 11) hr (by kernel_rfl) (by kernel_rfl)
                  have e1' : A.tmps[109]?.getD undef = .tuple #[x, .bool c] := (Array.getD_eq_getD_getElem? ..).symm.trans e1
                  have e9 : A.eval (.tmp 109) = .tuple #[x, .bool c] := e1
                  refine ⟨.bool c, W, ?_, Ext.refl _, ⟨c, rfl, e3⟩⟩
                  clear hr hst
                  simp [execOp, go_sem, e1']
                · refine RG.st_run rfl (fun A W hW hr => ⟨A.tmps.getD 121 undef, W, ?_, Ext.refl _, ?_⟩) hst
                  · rfl
                  · exact RG.read_in (t := 121) (j := 12) hr (by kernel_rfl) (by kernel_rfl)
                · refine RG.st_run rfl (fun A W hW hr => ⟨A.tmps.getD 122 undef, W, ?_, Ext.refl _, ?_⟩) hst
                  · rfl
                  · exact RG.read_in (t := 122) (j := 13) hr (by kernel_rfl) (by kernel_rfl)
              · intro wq hwq
                simp only [gs32, List.length_cons, List.length_nil, List.take_succ_cons, List.take_zero, RG.Fin, RG.goneBy, Nat.reduceAdd, List.drop_succ_cons, List.drop_zero, List.drop_nil]
                intro v0 _ v1 _ v2 _ v3 _ v4 _ v5 _ v6 _ v7 _ v8 _ v9 _ v10 _ v11 _ v12 _ v13 _ v14 h14 v15 h15
                have h14 := h14 (by decide)
                obtain ⟨c15, rfl, g15⟩ := h15 (by decide)
                have hqe := HQE.out v14 c15 wq h14 g15
                clear h14 h15 g15 hst HQE HQC hQs
                simp only [Act.put, List.setIfInBounds_toArray, List.set_cons_zero, List.set_cons_succ]
                have hEq := hE3.trans hwq
                have hPq := Lib.hid (owns_ext hPW.out hwq)
                cases hov : overR (vb.take n1) (vb.drop n1) with
                | none =>
                  rw [hov] at hqe
                  obtain ⟨rfl, rfl⟩ := hqe
                  have HD := Lib.hid (HZ.out hov)
                  clear hov
                  go_wp2
                  go_ret3
                  exact DecIs.none HD.out hEq rfl
                | some qr =>
                  obtain ⟨q, r⟩ := qr
                  rw [hov] at hqe
                  obtain ⟨ho14, hb15⟩ := hqe
                  obtain ⟨z1, z2, z3, z4, z5⟩ := HQ.out q r hov
                  have HQB := Lib.hid (show BytesAt wq v14 q from SlAt.of_owns ho14)
                  obtain ⟨-, qo, qc, rfl, -⟩ := SlAt.of_owns ho14
                  have HZ3 := Lib.hid z3
                  have HZ4 := Lib.hid z4
                  have HZ5 := Lib.hid z5
                  clear hov ho14 HZ HQ z3 z4 z5
                  cases c15 with
                  | false =>
                    have HD := Lib.hid (HZ3.out (.inl fun h => by have := hb15.2 h; cases this))
                    clear hb15
                    go_wp2
                    go_ret3
                    exact DecIs.none HD.out hEq rfl
                  | true =>
                    have KD := Lib.hid (c_degree _ q wq HQB.out (by omega))
                    obtain ⟨dq, hdq⟩ : ∃ n, degR q = n := ⟨_, rfl⟩
                    rw [hdq] at KD HZ3
                    clear hb15 hdq
                    by_cases hdk : (k : Int) ≤ dq
                    · have HD := Lib.hid (HZ3.out (.inr hdk))
                      go_wp2_with (go_at_call 97; (with_reducible refine KD.out.mono ?_); rintro E w4 ⟨rfl, h4⟩)
                      go_ret3
                      exact DecIs.none HD.out (hEq.trans h4) rfl
                    · clear HZ3
                      obtain ⟨ql, hql⟩ : ∃ n, q.length = n := ⟨_, rfl⟩
                      rw [hql] at KD z2 ⊢
                      have HQL := Lib.hid hql
                      clear hql
                      go_wp2_with (first
                        | (go_at_call 97; (with_reducible refine KD.out.mono ?_); rintro E w4 ⟨rfl, h4⟩; have hE4 := hEq.trans h4)
                        | (at_make; refine wpList_make_full _ rfl _ _ 22 rfl w.heap.size 5 i3 (.int .u8 0) 1 Tryd.underlying22 bi bz0 bz1 .i64 .i64 _ _ k rfl rfl rfl rfl (by rw [bz2]; omega) (by unfold maxLen; omega) hE4.size ?_; intro w5 ho5 hg5; rw [made_zero (firstK q k) k] at ho5; have h5 : Ext w4 w5 := ext_of_grownNone hg5; have HO5 := Lib.hid ho5; clear ho5 hg5))
                      obtain ⟨G, hG⟩ : ∃ G, w4.heap.size = G := ⟨_, rfl⟩
                      have hGw : w.heap.size ≤ G := by rw [← hG]; exact hE4.size
                      rw [hG] at HO5 ⊢
                      have hGz : w4.heap.size ≤ G := by rw [hG]; exact Nat.le_refl _
                      have hE5 := hE4.trans h5
                      have hP5 := Lib.hid (owns_ext hPq.out h4)
                      have hQ5 := Lib.hid (HQB.out.ext h4)
                      have hPl := Lib.hid (show ∀ k, (Value.slice (some ⟨pg, 0, none⟩) np pc).ownBlock = some k → k < G from fun k hk => by have := ((owns_ext hPq.out h4).lt k hk).2; omega)
                      have hFL := Lib.hid (firstK_len q k)
                      have hFS := Lib.hid (firstK_syms z1 k)
                      have hFG := Lib.hid (fun i (h : i < k) => firstK_get (q := q) h)
                      obtain ⟨M, hM⟩ : ∃ M, firstK q k = M := ⟨_, rfl⟩
                      rw [hM] at HO5 hFL hFS hFG HZ4 HZ5
                      clear hPq hPW KD HQB hG hM
                      go_loopw [135] (fun ii wi => ∃ j : Nat, j ≤ k ∧ ii = .int .i64 (j : Int) ∧ Ext w4 wi ∧ Hid (wi.ownsRow w.heap.size 5 1 (.slice (some ⟨G, 0, none⟩) k k) k (rowK M k j))) (fun ii _ => k - (intOf ii).toNat)
                      case atStart => exact ⟨0, Nat.zero_le _, rfl, h5, HO5⟩
                      case round =>
                        clear HO5
                        obtain ⟨j, hj, rfl, hE6, hO⟩ := hrel
                        by_cases hjk : j < k
                        · have r0 : wr.cell? ⟨G, j, none⟩ = some (.int .u8 0) := by rw [hO.out.cellAt j (by omega)]; exact rowK_get hjk hFL.out.symm
                          have r1 := hO.out.frozenAt j
                          have hMj := hFG.out j hjk
                          by_cases hjq : j < ql
                          · have hq6 := hQ5.out.ext hE6
                            obtain ⟨ao2, cap2, he9, -, hc9⟩ := hq6.form
                            injection he9 with e1 _ e2
                            subst e1
                            subst e2
                            obtain ⟨qb, qf, rfl, c0⟩ := hc9 j (by rw [HQL.out]; exact hjq)
                            have HS := Lib.hid (rowK_set hjk hFL.out.symm)
                            rw [hMj] at HS
                            obtain ⟨x, hx⟩ : ∃ x, q.getD j 0 = x := ⟨_, rfl⟩
                            rw [hx] at c0 HS
                            clear hx hMj hc9 hq6
                            go_wp2
                            refine ⟨⟨j + 1, by omega, by go_num, hE6.setCell (p := ⟨G, j, none⟩) hGz _, Lib.hid ?_⟩, by simp [intOf]; omega⟩
                            have h := (hO.out.stored j (.int .u8 (x : Int))).1
                            rw [HS.out] at h
                            exact h
                          · have HS := Lib.hid (rowK_skip' hjk hFL.out.symm (by rw [hMj, List.getD_eq_getElem?_getD, List.getElem?_eq_none (by rw [HQL.out]; omega)]; rfl))
                            clear hMj
                            go_wp2
                            exact ⟨⟨j + 1, by omega, by go_num, hE6, Lib.hid (by rw [HS.out]; exact hO.out)⟩, by simp [intOf]; omega⟩
                        · obtain rfl : k = j := by omega
                          have HOM := Lib.hid (show wr.ownsRow w.heap.size 5 1 (.slice (some ⟨G, 0, none⟩) k k) k (bytesL M) by
                            have h := hO.out
                            have h2 := rowK_full (l := M)
                            rw [hFL.out] at h2
                            rw [h2] at h
                            exact h)
                          have HBM := Lib.hid (show BytesAt wr (.slice (some ⟨G, 0, none⟩) k k) M by
                            have h := HOM.out
                            unfold BytesAt
                            rw [hFL.out]
                            exact SlAt.of_owns h)
                          have KE := Lib.hid (c_encode _ M wr (HT.out.ext (hE4.trans hE6)) HBM.out (by rw [hFL.out]; omega) hFS.out)
                          unfold OwnBytes at KE
                          have HEL := Lib.hid (encR_length M)
                          clear hO hjk
                          go_wp2_with (go_at_call 58; (with_reducible refine KE.out.mono ?_); rintro E w7 ⟨v7, rfl, h7, h8⟩)
                          have hE7 : Ext w4 w7 := hE6.trans h8
                          have hP7 := Lib.hid (owns_ext hP5.out hE7)
                          have hB7 := Lib.hid (show BytesAt w7 v7 (encR M) from SlAt.of_owns h7)
                          have hM7 := Lib.hid (owns_ext HOM.out h8)
                          have hV7 := Lib.hid (HV.out.ext (hE4.trans hE7))
                          have HEG := Lib.hid (show ∀ i, i < 15 → (encR M).getD i 0 = gval M (powN i) from fun i hi => by simp [encR, List.getD_eq_getElem?_getD, List.getElem?_map, List.getElem?_range hi])
                          have HWS := Lib.hid (fun j (h : j < np) => wrongs_step M wd ps (j := j) (by rw [HNP.out]; exact h))
                          have HWL := Lib.hid (fun j => wrongs_le M wd (ps.take j))
                          have HEN := Lib.hid (show errN M wd er = (wrongs M wd (ps.take np)).length by
                            rw [List.take_of_length_le (by rw [HNP.out]; exact Nat.le_refl _)]
                            unfold errN
                            rw [HPS.out])
                          have hw7 : w.heap.size ≤ w.heap.size := Nat.le_refl _
                          clear h7 KE HBM HOM hE6 h8 hP5
                          go_loopw [28, 154] (fun ee ii wi => ∃ j : Nat, j ≤ np ∧ ii = .int .i64 (j : Int) ∧ ee = .int .i64 (((wrongs M wd (ps.take j)).length : Nat) : Int) ∧ Ext w7 wi) (fun _ ii _ => np - (intOf ii).toNat)
                          case atStart => exact ⟨0, Nat.zero_le _, rfl, rfl, Ext.refl _⟩
                          case round =>
                            obtain ⟨j, hj, rfl, rfl, hE8⟩ := hrel
                            by_cases hjn : j < np
                            · have hpj : (ps.getD j 0) < 15 := HPL.out _ (by rw [List.getD_eq_getElem?_getD, List.getElem?_eq_getElem (by rw [HNP.out]; exact hjn)]; exact List.getElem_mem _)
                              have c0 := hE8.get (show w7.cell? ⟨pg, j, none⟩ = some (.int .i64 ((ps.getD j 0 : Nat) : Int)) by rw [hP7.out.cellAt j (by omega), natI_get (by rw [HNP.out]; exact hjn)])
                              have hS := HWS.out j hjn
                              have hL := HWL.out j
                              rw [List.length_take] at hL
                              have hg := HEG.out _ hpj
                              obtain ⟨p, hp⟩ : ∃ p, ps.getD j 0 = p := ⟨_, rfl⟩
                              rw [hp] at hpj c0 hS hg
                              obtain ⟨ob, of, oc, rfl, ho9⟩ := hB7.out.some HEL.out (by omega)
                              have c1 := hE8.get (ho9 p hpj)
                              rw [hg] at c1
                              have c2 := ((hE4.trans hE7).trans hE8).get (HCW.out p hpj)
                              obtain ⟨x, hx⟩ : ∃ x, gval M (powN p) = x := ⟨_, rfl⟩
                              obtain ⟨y, hy⟩ : ∃ y, wd.getD p 0 = y := ⟨_, rfl⟩
                              rw [hx] at c1 hS
                              rw [hy] at c2 hS
                              obtain ⟨e, hee⟩ : ∃ e, (wrongs M wd (ps.take j)).length = e := ⟨_, rfl⟩
                              rw [hee] at hS hL ⊢
                              have zp := World.block_lt_of_cell? _ _ c0
                              have zo := World.block_lt_of_cell? _ _ c1
                              have zw := World.block_lt_of_cell? _ _ c2
                              simp only at zp zo zw
                              have HPP := Lib.hid (And.intro hp (And.intro hx (And.intro hy hee)))
                              clear hp hx hy hee ho9 hg
                              by_cases hxy : x = y
                              · rw [if_pos hxy] at hS
                                have HS := Lib.hid hS
                                have q9 : ((x : Int) != (y : Int)) = false := by rw [bne_eq_false_iff_eq]; omega
                                clear hS hxy
                                go_wp2
                                go_quiet (fail)
                                go_wp2
                                exact ⟨⟨j + 1, by omega, by go_num, by rw [HS.out], hE8.drewN _⟩, by simp [intOf]; omega⟩
                              · rw [if_neg hxy] at hS
                                have HS := Lib.hid hS
                                have q9 : ((x : Int) != (y : Int)) = true := by rw [bne_iff_ne]; omega
                                clear hS hxy
                                go_wp2
                                go_quiet (fail)
                                go_wp2
                                exact ⟨⟨j + 1, by omega, by go_num, by rw [HS.out]; go_num, hE8.drewN _⟩, by simp [intOf]; omega⟩
                            · obtain rfl : np = j := by omega
                              rw [← HEN.out]
                              obtain ⟨e, hee⟩ : ∃ e, errN M wd er = e := ⟨_, rfl⟩
                              rw [hee] at HEN HZ4 HZ5 ⊢
                              have HEE := Lib.hid hee
                              have hEE := (hE4.trans hE7).trans hE8
                              clear hee
                              by_cases hme : ms < e
                              · have HD := Lib.hid (HZ4.out hme)
                                go_wp2
                                go_ret3
                                exact DecIs.none HD.out hEE rfl
                              · have HD := Lib.hid (HZ5.out (by omega))
                                go_wp2
                                go_ret3
                                exact DecIs.some HD.out hEE ⟨_, by rw [HEE.out]; rfl, owns_ext hM7.out hE8⟩
end Go.Proofs.YtlnofbdhamingaaDoor

/- Decoding with its checks: the program's. -/
namespace Go.Proofs.YtlnofbdhamingaaDoor
open Go.RowKit Go.Sort

def DecOk (wd : List Nat) (er : List Bool) (k : Int) : Prop := wd.length = 15 ∧ allSym wd = true ∧ er.length = 15 ∧ 1 ≤ k ∧ k ≤ 13
instance (wd : List Nat) (er : List Bool) (k : Int) : Decidable (DecOk wd er k) := by unfold DecOk; infer_instance
/-- what Decode answers: the message, its errors, the number of the error -/
noncomputable def decA (wd : List Nat) (er : List Bool) (k : Int) : (List Nat × Nat) × Int :=
  if DecOk wd er k then (match decR wd er k.toNat with | none => (([], 0), 60) | some M => ((M, errN M wd er), 0)) else (([], 0), 2)
theorem decA_def (wd : List Nat) (er : List Bool) (k : Int) : decA wd er k = if DecOk wd er k then (match decR wd er k.toNat with | none => (([], 0), (60 : Int)) | some M => ((M, errN M wd er), (0 : Int))) else (([], 0), (2 : Int)) := rfl
def DecAns (r : (List Nat × Nat) × Int) (w : World) (e : Ending) (w' : World) : Prop :=
  ∃ v, e = .returned (.tuple #[v, .int .i64 (r.1.2 : Nat), .int .i64 r.2]) ∧ BytesAt w' v r.1.1 ∧ (∀ j, v.ownBlock = some j → w.heap.size ≤ j) ∧ Ext w w'
theorem DecOk.recv {wd : List Nat} {er : List Bool} {k : Int} (h : DecOk wd er k) : RecvOk wd er k.toNat := ⟨syms_of h.2.1, h.1, h.2.2.1, by have := h.2.2.2; omega, by have := h.2.2.2; omega⟩
set_option maxRecDepth 100000 in
set_option maxHeartbeats 4000000 in
theorem c_Decode (v ve : Value) (wd : List Nat) (er : List Bool) (k : Int) (w : World) (hT : Tabs w) (hv : BytesAt w v wd) (he : BoolsAt w ve er) (hl : wd.length ≤ maxLen) (hel : er.length ≤ maxLen) :
    Calls Tryd.prog 25 #[v, ve, .int .i64 k] w (DecAns (decA wd er k) w) := by
  have HT := Lib.hid hT
  have HV := Lib.hid hv
  have HE := Lib.hid he
  have HD := Lib.hid (decA_def wd er k)
  have K1 := Lib.hid (fun w' (h : Ext w w') => c_symbols v wd w' (hv.ext h) hl)
  obtain ⟨-, ao, cap, rfl, -⟩ := hv
  obtain ⟨-, bo, ecap, rfl, -⟩ := he
  obtain ⟨wl, hwl⟩ : ∃ n, wd.length = n := ⟨_, rfl⟩
  obtain ⟨el, hee⟩ : ∃ n, er.length = n := ⟨_, rfl⟩
  obtain ⟨s, hs⟩ : ∃ b, allSym wd = b := ⟨_, rfl⟩
  rw [hs] at K1
  rw [hwl] at K1 hl ⊢
  rw [hee] at hel ⊢
  have HX := Lib.hid (And.intro hwl (And.intro hee hs))
  have HN : Hid (¬ (wl = 15 ∧ s = true ∧ el = 15 ∧ 1 ≤ k ∧ k ≤ 13) → decA wd er k = (([], 0), 2)) := Lib.hid (fun h => by
    rw [HD.out, if_neg]
    intro h9
    unfold DecOk at h9
    rw [hwl, hee, hs] at h9
    exact h h9)
  clear hT hwl hee hs
  by_cases h1 : wl = 15
  case neg =>
    have HI := Lib.hid (HN.out (fun h => h1 h.1))
    have q : ((wl : Int) != 15) = true := by rw [bne_iff_ne]; omega
    go_enter Tryd.func25, Tryd.ntmps25
    go_wp2
    go_ret3
    exact ⟨_, by rw [HI.out]; rfl, by rw [HI.out]; exact bytes_nil _, (fun j hj => by cases hj), Ext.refl _⟩
  subst h1
  cases s
  case false =>
    have HI := Lib.hid (HN.out (fun h => by have := h.2.1; cases this))
    go_enter Tryd.func25, Tryd.ntmps25
    go_wp2_with (go_at_call 60; (with_reducible refine (K1.out _ (Ext.refl _)).mono ?_); rintro E w1 ⟨rfl, h1⟩)
    go_ret3
    exact ⟨_, by rw [HI.out]; rfl, by rw [HI.out]; exact bytes_nil _, (fun j hj => by cases hj), by assumption⟩
  by_cases h2 : el = 15
  case neg =>
    have HI := Lib.hid (HN.out (fun h => h2 h.2.2.1))
    have q : ((el : Int) != 15) = true := by rw [bne_iff_ne]; omega
    go_enter Tryd.func25, Tryd.ntmps25
    go_wp2_with (go_at_call 60; (with_reducible refine (K1.out _ (Ext.refl _)).mono ?_); rintro E w1 ⟨rfl, h1⟩)
    go_ret3
    exact ⟨_, by rw [HI.out]; rfl, by rw [HI.out]; exact bytes_nil _, (fun j hj => by cases hj), by assumption⟩
  subst h2
  by_cases h3 : k < 1
  · have HI := Lib.hid (HN.out (fun h => by omega))
    go_enter Tryd.func25, Tryd.ntmps25
    go_wp2_with (go_at_call 60; (with_reducible refine (K1.out _ (Ext.refl _)).mono ?_); rintro E w1 ⟨rfl, h1⟩)
    go_ret3
    exact ⟨_, by rw [HI.out]; rfl, by rw [HI.out]; exact bytes_nil _, (fun j hj => by cases hj), by assumption⟩
  by_cases h4 : 13 < k
  · have HI := Lib.hid (HN.out (fun h => by omega))
    go_enter Tryd.func25, Tryd.ntmps25
    go_wp2_with (go_at_call 60; (with_reducible refine (K1.out _ (Ext.refl _)).mono ?_); rintro E w1 ⟨rfl, h1⟩)
    go_ret3
    exact ⟨_, by rw [HI.out]; rfl, by rw [HI.out]; exact bytes_nil _, (fun j hj => by cases hj), by assumption⟩
  obtain ⟨kn, rfl⟩ := Int.eq_ofNat_of_zero_le (show 0 ≤ k by omega)
  have hok : DecOk wd er (kn : Int) := ⟨HX.out.1, HX.out.2.2, HX.out.2.1, by omega, by omega⟩
  have HRR := Lib.hid hok.recv
  rw [if_pos hok] at HD
  rw [Int.toNat_natCast] at HRR HD
  have K2 := Lib.hid (fun w' (h : Ext w w') => c_decode (.slice ao 15 cap) (.slice bo 15 ecap) wd er kn w' (HT.out.ext h) (show BytesAt w' (.slice ao 15 cap) wd by have := HV.out.ext h; rw [HX.out.1] at this; exact this) (show BoolsAt w' (.slice bo 15 ecap) er by have := HE.out.ext h; rw [HX.out.2.1] at this; exact this) HRR.out)
  unfold DecIs at K2
  obtain ⟨o, ho⟩ : ∃ o, decR wd er kn = o := ⟨_, rfl⟩
  rw [ho] at K2 HD
  have HO := Lib.hid ho
  clear hok ho
  cases o with
  | none =>
    have HI := Lib.hid (show decA wd er (kn : Int) = (([], 0), 60) from HD.out)
    clear HD
    go_enter Tryd.func25, Tryd.ntmps25
    go_wp2_with (first
      | (go_at_call 61; (with_reducible refine (K2.out _ h1).mono ?_); rintro E w2 ⟨h2, h3⟩; have h3' : E = .returned (.tuple #[.slice none 0 0, .int .i64 0, .int .i64 60]) := h3; clear h3; subst h3')
      | (go_at_call 60; (with_reducible refine (K1.out _ (Ext.refl _)).mono ?_); rintro E w1 ⟨rfl, h1⟩))
    go_ret3
    exact ⟨_, by rw [HI.out]; rfl, by rw [HI.out]; exact bytes_nil _, (fun j hj => by cases hj), h1.trans h2⟩
  | some M =>
    have HI := Lib.hid (show decA wd er (kn : Int) = ((M, errN M wd er), 0) from HD.out)
    have HML := Lib.hid (show M.length = kn from (decR_fits HO.out).2.1)
    obtain ⟨e, he⟩ : ∃ e, errN M wd er = e := ⟨_, rfl⟩
    rw [he] at HI
    have HEE := Lib.hid he
    clear HD he
    go_enter Tryd.func25, Tryd.ntmps25
    go_wp2_with (first
      | (go_at_call 61; (with_reducible refine (K2.out _ h1).mono ?_); rintro E w2 ⟨h2, h3⟩; obtain ⟨v3, h3', h4⟩ : ∃ v, E = .returned (.tuple #[v, .int .i64 (errN M wd er : Nat), .int .i64 0]) ∧ w2.ownsRow w1.heap.size 5 1 v kn (bytesL M) := h3; clear h3; rw [HEE.out] at h3'; subst h3')
      | (go_at_call 60; (with_reducible refine (K1.out _ (Ext.refl _)).mono ?_); rintro E w1 ⟨rfl, h1⟩))
    go_ret3
    exact ⟨_, by rw [HI.out]; rfl, by rw [HI.out]; unfold BytesAt; rw [HML.out]; exact SlAt.of_owns h4, fun j hj => Nat.le_trans h1.size (h4.lt j hj).1, h1.trans h2⟩
end Go.Proofs.YtlnofbdhamingaaDoor
