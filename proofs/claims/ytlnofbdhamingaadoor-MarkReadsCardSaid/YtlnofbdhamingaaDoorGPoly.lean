/- Joined from the parts Value, ScaledFn, DegFn, OverFn, RowsT, Encode, Encode2. -/
import Derived.Test.YtlnofbdhamingaaDoorGField
import Derived.Test.YtlnofbdhamingaaDoorGDraw
import Derived.Test.YtlnofbdhamingaaDoorGMath
import Derived.Test.YtlnofbdhamingaaDoorTail
import Derived.Test.YtlnofbdhamingaaDoorAppendAt
import Derived.OwnWalk
import Derived.OneCell
import Derived.WalkSpells
set_option linter.unusedVariables false
set_option linter.unusedSimpArgs false
/- Values of polynomials: the program's. -/
namespace Go.Proofs.YtlnofbdhamingaaDoor
open Go.RowKit Go.Sort

set_option maxRecDepth 100000 in
set_option maxHeartbeats 4000000 in
theorem c_at (v : Value) (l : List Nat) (x : Nat) (w : World) (hT : Tabs w) (hv : BytesAt w v l) (hl : l.length ≤ 1000) (hs : Syms l) (hx : x < 16) :
    Calls Tryd.prog 89 #[v, .int .u8 (x : Int)] w fun e w' => e = .returned (.int .u8 (gval l x : Int)) ∧ Ext w w' := by
  obtain ⟨ao, cap, rfl, -, hc⟩ := hv.form
  have HC := Lib.hid hc
  have HT := Lib.hid hT
  clear hc hv hT
  go_enter Tryd.func89, Tryd.ntmps89
  go_wp2
  go_loopw [5, 6] (fun o i wr => ∃ k : Nat, k ≤ l.length ∧ i = .int .i64 ((k : Int) - 1) ∧ o = .int .u8 (gval (l.drop k) x : Int) ∧ Ext w wr) (fun _ i _ => (intOf i + 1).toNat)
  case atStart => exact ⟨l.length, by omega, rfl, congrArg (Value.int .u8) (by rw [List.drop_length]; rfl), Ext.refl _⟩
  case round =>
    obtain ⟨k, hk, hi1, rfl, hE⟩ := hrel
    by_cases hk0 : k = 0
    · subst hk0
      obtain rfl : u6 = .int .i64 (-1) := hi1
      go_wp2
      go_ret
      exact ⟨rfl, hE⟩
    · obtain ⟨j, rfl⟩ : ∃ j, k = j + 1 := ⟨k - 1, by omega⟩
      obtain rfl : u6 = .int .i64 (j : Int) := by rw [hi1]; exact congrArg (Value.int .i64) (by omega)
      have hj : j < l.length := by omega
      obtain ⟨b, off, rfl, c0⟩ := HC.out j hj
      have c0 := hE.get c0
      have z0 := World.block_lt_of_cell? _ _ c0
      simp only at z0
      have hy := getD_mem hs hj
      have hd := drop_get hj
      obtain ⟨y, hyy⟩ : ∃ y, l.getD j 0 = y := ⟨_, rfl⟩
      rw [hyy] at c0 hy hd
      have hl2 : Syms (l.drop (j + 1)) := fun z hz => hs z (List.mem_of_mem_drop hz)
      have ho := gval_lt hl2 hx
      obtain ⟨o, hoo⟩ : ∃ o, gval (l.drop (j + 1)) x = o := ⟨_, rfl⟩
      rw [hoo] at ho ⊢
      have HD := Lib.hid (And.intro hd hoo)
      clear hd hyy hoo hi1 hk hk0 hl2
      have CM := Lib.hid (fun (w' : World) (h : Ext wr w') => c_mul o x ho hx w' (HT.out.ext (hE.trans h)))
      have g1 := gmul_lt ho hx
      have x1 := Lib.hid (u8_xor_nat (gmul o x) y (by omega) (by omega))
      go_wp2
      refine wp_region_quiet_below (by kernel_rfl) (by kernel_rfl) ?_
      repeat (go_big_quiet_step ((go_at_call 53; with_reducible exact Calls.ext_of (CM.out _ (Ext.grow _ _ _)))))
      refine wpQuiet_nil ?_
      intro w1 hw'
      obtain ⟨pq, hw''⟩ := hw'
      have hb1 := ext_of_regrown hw''
      clear hw'' pq
      go_wp2
      go_roundw
      case rel => exact ⟨j, by omega, rfl, congrArg (Value.int .u8) (by
        rw [x1.out, HD.out.1]
        show _ = ((gmul (gval (l.drop (j + 1)) x) x ^^^ y : Nat) : Int)
        rw [HD.out.2]), (by repeat (first | exact Ext.refl _ | assumption | refine Ext.alloc ?_ _ | refine Ext.drewN ?_ _ | refine ext_grow ?_ _ _ | refine Ext.setCell ?_ (by first | exact Nat.le_refl _ | omega | (simp; done) | (simp; omega)) _ | refine Ext.trans ?_ (by assumption)))⟩
      case measure => simp [intOf]; try omega
end Go.Proofs.YtlnofbdhamingaaDoor

/- A row, times a symbol, added to a row: the program's. -/
namespace Go.Proofs.YtlnofbdhamingaaDoor
open Go.RowKit Go.Sort

/-- what 'scaled' does: one row has changed -/
def AddedAt (g N C base : Nat) (q : List Nat) (o s : Nat) (l : List Nat) (w : World) (e : Ending) (w' : World) : Prop :=
  e = .returned (.tuple #[]) ∧ w'.ownsRow base 92 1 (.slice (some ⟨g, 0, none⟩) N C) N (bytesL (addAt q o s l)) ∧ w.grownBy w' (some g)
set_option maxRecDepth 100000 in
set_option maxHeartbeats 4000000 in
theorem c_scaled (w0 : World) (g o np cp N C base s : Nat) (q l : List Nat) (vb : Value) (w : World) (hT : Tabs w0) (hE0 : Ext w0 w) (hb : w0.heap.size ≤ base)
    (hq : w.ownsRow base 92 1 (.slice (some ⟨g, 0, none⟩) N C) N (bytesL q)) (hql : q.length = N) (hqs : Syms q) (hN : N ≤ 1000) (hv : BytesAt w vb l) (hvn : ∀ k, vb.ownBlock = some k → some k ≠ some g) (hls : Syms l) (hs : s < 16) (ho : o + np ≤ N) (hl : l.length ≤ np) :
    Calls Tryd.prog 122 #[.slice (some ⟨g, o, none⟩) np cp, vb, .int .u8 (s : Int)] w (AddedAt g N C base q o s l w) := by
  have HT := Lib.hid hT
  have HV := Lib.hid hv
  have HVN := Lib.hid hvn
  have hgb : base ≤ g := (hq.lt g rfl).1
  have HQ0 := Lib.hid (show w.ownsRow base 92 1 (.slice (some ⟨g, 0, none⟩) N C) N (bytesL (addK q o s l 0)) by rw [addK_zero]; exact hq)
  obtain ⟨vo, vc, rfl, -, -⟩ := hv.form
  have HQL := Lib.hid hql
  clear hT hv hvn hq hql
  go_enter Tryd.func122, Tryd.ntmps122
  go_wp2
  go_loopw [13] (fun i wr => ∃ k : Nat, k ≤ l.length ∧ i = .int .i64 (k : Int) ∧ Ext w0 wr ∧ Hid (w.grownBy wr (some g)) ∧ Hid (wr.ownsRow base 92 1 (.slice (some ⟨g, 0, none⟩) N C) N (bytesL (addK q o s l k)))) (fun i _ => l.length - (intOf i).toNat)
  case atStart => exact ⟨0, Nat.zero_le _, rfl, hE0, Lib.hid (World.grownBy.refl _ _), HQ0⟩
  case round =>
    clear HQ0
    obtain ⟨k, hk, rfl, hE, hG, hO⟩ := hrel
    by_cases hkl : k < l.length
    · have hvk := HV.out.gb hG.out HVN.out
      obtain ⟨ao2, cap2, he, -, hc2⟩ := hvk.form
      injection he with e1 _ e2
      subst e1
      subst e2
      obtain ⟨b, off, rfl, c0⟩ := hc2 k hkl
      have hx := getD_mem hls hkl
      have hlq : o + l.length ≤ q.length := by rw [HQL.out]; omega
      have r0 : wr.cell? ⟨g, o + k, none⟩ = some (.int .u8 ((q.getD (o + k) 0 : Nat) : Int)) := by
        rw [hO.out.cellAt (o + k) (by omega), bytesL_get (by rw [addK_len hlq, HQL.out]; omega), addK_get hs hlq hkl]
      have r1 := hO.out.frozenAt (o + k)
      have hy := syms_get hqs (o + k)
      have HS := Lib.hid (addK_set (p := q) (o := o) hs hlq hkl)
      obtain ⟨x, hxx⟩ : ∃ x, l.getD k 0 = x := ⟨_, rfl⟩
      obtain ⟨y, hyy⟩ : ∃ y, q.getD (o + k) 0 = y := ⟨_, rfl⟩
      rw [hxx] at c0 hx HS
      rw [hyy] at r0 hy HS
      have hm := gmul_lt hs hx
      have CM := Lib.hid (fun (w' : World) (h : Ext wr w') => c_mul s x hs hx w' (HT.out.ext (hE.trans h)))
      have x1 := u8_xor_nat y (gmul s x) (by omega) (by omega)
      obtain ⟨z, hz⟩ : ∃ z, gmul s x = z := ⟨_, rfl⟩
      rw [hz] at CM x1 hm HS
      obtain ⟨u, hu⟩ : ∃ u, y ^^^ z = u := ⟨_, rfl⟩
      rw [hu] at x1 HS
      have HZ := Lib.hid (And.intro hxx (And.intro hyy (And.intro hz hu)))
      clear hxx hyy hz hu hc2 hvk hlq
      go_wp2
      refine RG.region_tail (aq := ?aqn) 9 (by kernel_rfl) (by kernel_rfl) (by kernel_rfl) (by kernel_rfl) ?_ ?_
      rotate_left
      · intro wq hEq
        have q1 := hEq.get c0
        have q3 := hEq.get r0
        have zq := hEq.size
        have z0 := World.block_lt_of_cell? _ _ q1
        have z1 := World.block_lt_of_cell? _ _ q3
        simp only at z0 z1
        simp only [List.take_succ_cons, List.take_zero]
        repeat (go_big_quiet_step ((go_at_call 53; with_reducible exact Calls.ext_of (CM.out _ (hEq.trans (Ext.grow _ _ _))))))
        refine wpQuiet_nil ?_
        exact rfl
      · intro wt hEt
        simp only [List.drop_succ_cons, List.drop_zero]
        have hOt := Lib.hid (owns_ext hO.out hEt)
        have hE9 := Lib.hid (hE.trans hEt)
        have hG9 := Lib.hid (gb_trans hG.out (gb_ext hEt _))
        have s0 := hEt.get r0
        have s1 := hOt.out.frozenAt (o + k)
        clear hEt
        go_wp2
        exact ⟨⟨k + 1, by omega, by go_num, hE9.out.setCell (p := ⟨_, o + k, none⟩) (by show w0.heap.size ≤ g; omega) _, Lib.hid (gb_trans hG9.out (gb_set _ _ _ _)), Lib.hid (by
          have h := (hOt.out.stored (o + k) (.int .u8 (u : Int))).1
          rw [bytesL_set, HS.out] at h
          exact h)⟩, by simp [intOf]; omega⟩
    · obtain rfl : k = l.length := by omega
      have ho := hO.out
      rw [addK_full] at ho
      have HO := Lib.hid ho
      clear ho hO
      go_wp2
      (try simp only [Exit.inBlock, Exit.then])
      refine bodyPost_end (results_none rfl _ _ _) rfl ?_
      exact ⟨rfl, HO.out, hG.out⟩
end Go.Proofs.YtlnofbdhamingaaDoor

/- Degrees of polynomials: the program's. -/
namespace Go.Proofs.YtlnofbdhamingaaDoor
open Go.RowKit Go.Sort

def degK (l : List Nat) : Nat → Int
  | 0 => -1
  | k + 1 => if l.getD k 0 = 0 then degK l k else (k : Int)
def degR (l : List Nat) : Int := degK l l.length
theorem degK_is (l : List Nat) : ∀ k, (-1 ≤ degK l k ∧ degK l k < (k : Int)) ∧ (0 ≤ degK l k → l.getD (degK l k).toNat 0 ≠ 0) ∧ ∀ j : Nat, degK l k < j → j < k → l.getD j 0 = 0
  | 0 => ⟨⟨Int.le_refl _, by show (-1 : Int) < 0; omega⟩, fun h => absurd h (by show ¬ (0 : Int) ≤ -1; omega), fun j _ h => absurd h (Nat.not_lt_zero _)⟩
  | k + 1 => by
    obtain ⟨h1, h2, h3⟩ := degK_is l k
    by_cases h : l.getD k 0 = 0
    · have e : degK l (k + 1) = degK l k := if_pos h
      rw [e]
      refine ⟨⟨h1.1, by omega⟩, h2, fun j hj hk => ?_⟩
      rcases Nat.lt_or_ge j k with h9 | h9
      · exact h3 j hj h9
      · obtain rfl : j = k := by omega
        exact h
    · have e : degK l (k + 1) = (k : Int) := if_neg h
      rw [e]
      refine ⟨⟨by omega, by omega⟩, fun _ => by simpa using h, fun j hj hk => by omega⟩
theorem degR_is (l : List Nat) : IsDeg l (degR l) := by
  obtain ⟨h1, h2, h3⟩ := degK_is l l.length
  refine ⟨h1, h2, fun j hj => ?_⟩
  rcases Nat.lt_or_ge j l.length with h | h
  · exact h3 j hj h
  · rw [List.getD_eq_getElem?_getD, List.getElem?_eq_none h]; rfl
theorem degR_lt {l : List Nat} {k : Nat} (h : ∀ j : Nat, k ≤ j → l.getD j 0 = 0) : degR l < k := by
  have hd := degR_is l
  refine Classical.byContradiction fun hn => hd.2.1 (by omega) (h _ (by omega))
/-- the division, round by round -/
def divGo (d : List Nat) (n : Nat) : Nat → List Nat → List Nat → List Nat × List Nat
  | 0, out, rest => (out, rest)
  | f + 1, out, rest => if (n : Int) ≤ degR rest then divGo d n f (out.set ((degR rest).toNat - n) (divS d rest n (degR rest).toNat)) (addAt rest ((degR rest).toNat - n) (divS d rest n (degR rest).toNat) (d.take (n + 1))) else (out, rest)
def divFin (p d : List Nat) (n : Nat) : List Nat × List Nat := divGo d n (p.length + 1) (List.replicate (max (p.length - n) 1) 0) p
theorem divGo_end {d out rest : List Nat} {n f : Nat} (h : degR rest < n) : divGo d n f out rest = (out, rest) := by
  cases f with
  | zero => rfl
  | succ f => exact if_neg (by omega)
theorem divGo_step {d out rest : List Nat} {n f k : Nat} (h : degR rest = k) (hk : n ≤ k) : divGo d n (f + 1) out rest = divGo d n f (out.set (k - n) (divS d rest n k)) (addAt rest (k - n) (divS d rest n k) (d.take (n + 1))) := by
  have e : (degR rest).toNat = k := by omega
  show (if (n : Int) ≤ degR rest then _ else _) = _
  rw [if_pos (by omega), e]
theorem divGo_ok {p d : List Nat} {n : Nat} (hd : Syms d) (hn : IsDeg d n) : ∀ (f : Nat) (out rest : List Nat), DivInv p d n out rest → (∀ j : Nat, (n : Int) + (j : Int) ≤ degR rest → out.getD j 0 = 0) → degR rest < f →
    DivInv p d n (divGo d n f out rest).1 (divGo d n f out rest).2 ∧ degR (divGo d n f out rest).2 < n
  | 0, out, rest, h, _, hf => ⟨h, by show degR rest < n; omega⟩
  | f + 1, out, rest, h, hz, hf => by
    by_cases hk : (n : Int) ≤ degR rest
    · obtain ⟨k, hkk⟩ := Int.eq_ofNat_of_zero_le (show 0 ≤ degR rest by omega)
      have hdr := degR_is rest
      rw [hkk] at hdr
      have hst := div_step hd (by have := hn.1.2; omega) (by have := hn.2.1 (by omega); simpa using this) (fun j hj => hn.2.2 j (by omega)) hdr (by omega) (fun j hj => hz j (by omega)) h
      obtain ⟨s1, s2, s3, s4, s5⟩ := hst
      have hlt := degR_lt s4
      rw [divGo_step hkk (by omega)]
      refine divGo_ok hd hn f _ _ s3 (fun j hj => ?_) (by omega)
      obtain ⟨x, hx⟩ := Int.eq_ofNat_of_zero_le (show 0 ≤ degR (addAt rest (k - n) (divS d rest n k) (d.take (n + 1))) by omega)
      exact s5 x j (by omega) (by omega)
    · rw [divGo_end (by omega)]
      exact ⟨h, by show degR rest < n; omega⟩
theorem divFin_ok {p d : List Nat} {n : Nat} (hp : Syms p) (hd : Syms d) (hn : IsDeg d n) : DivInv p d n (divFin p d n).1 (divFin p d n).2 ∧ ∀ i, n ≤ i → (divFin p d n).2.getD i 0 = 0 := by
  have h := divGo_ok hd hn (p.length + 1) _ _ (div_start hp hd) (fun j _ => by rw [List.getD_eq_getElem?_getD, List.getElem?_replicate]; split <;> rfl) (by have := (degR_is p).1.2; omega)
  refine ⟨h.1, fun i hi => (degR_is _).2.2 i ?_⟩
  have := h.2
  show degR (divGo d n (p.length + 1) _ p).2 < _
  omega
/-- what 'over' answers: none, or a quotient and a rest -/
def overR (p d : List Nat) : Option (List Nat × List Nat) := if degR d < 0 then none else some (divFin p d (degR d).toNat)
theorem overR_none {p d : List Nat} (h : overR p d = none) : AllZ d := by
  unfold overR at h
  split at h
  · rename_i h1; exact (deg_zero (degR_is d)).1 h1
  · cases h
theorem overR_some {p d q r : List Nat} (hp : Syms p) (hd : Syms d) (h : overR p d = some (q, r)) : ∃ n : Nat, IsDeg d n ∧ DivInv p d n q r ∧ ∀ i, n ≤ i → r.getD i 0 = 0 := by
  unfold overR at h
  split at h
  · cases h
  · rename_i h1
    obtain ⟨n, hn⟩ := Int.eq_ofNat_of_zero_le (show 0 ≤ degR d by omega)
    have hdg := degR_is d
    rw [hn] at h hdg
    have := divFin_ok hp hd hdg
    simp only [Int.toNat_natCast, Option.some.injEq] at h
    rw [show divFin p d n = (q, r) from h] at this
    exact ⟨n, hdg, this⟩
set_option maxRecDepth 100000 in
set_option maxHeartbeats 4000000 in
theorem c_degree (v : Value) (l : List Nat) (w : World) (hv : BytesAt w v l) (hl : l.length ≤ 1000) : Calls Tryd.prog 97 #[v] w fun e w' => e = .returned (.int .i64 (degR l)) ∧ Ext w w' := by
  obtain ⟨ao, cap, rfl, -, hc⟩ := hv.form
  have HC := Lib.hid hc
  clear hc hv
  go_enter Tryd.func97, Tryd.ntmps97
  go_wp2
  go_loopw [3] (fun i wr => ∃ k : Nat, k ≤ l.length ∧ i = .int .i64 ((k : Int) - 1) ∧ Ext w wr ∧ Hid (degR l = degK l k)) (fun i _ => (intOf i + 1).toNat)
  case atStart => exact ⟨l.length, Nat.le_refl _, rfl, Ext.refl _, Lib.hid rfl⟩
  case round =>
    obtain ⟨k, hk, hi1, hE, hD⟩ := hrel
    by_cases hk0 : k = 0
    · subst hk0
      obtain rfl : u3 = .int .i64 (-1) := hi1
      go_wp2
      go_ret
      exact ⟨ret_int hD.out.symm, hE⟩
    · obtain ⟨j, rfl⟩ : ∃ j, k = j + 1 := ⟨k - 1, by omega⟩
      obtain rfl : u3 = .int .i64 (j : Int) := by rw [hi1]; exact congrArg (Value.int .i64) (by omega)
      have hj : j < l.length := by omega
      obtain ⟨b, off, rfl, c0⟩ := HC.out j hj
      have c0 := hE.get c0
      by_cases h0 : l.getD j 0 = 0
      · rw [h0] at c0
        have HD := Lib.hid (show degR l = degK l j by rw [hD.out]; exact if_pos h0)
        clear hD hi1 hk0
        go_wp2
        exact ⟨⟨j, by omega, rfl, hE, HD⟩, by simp [intOf]⟩
      · have HD := Lib.hid (show (j : Int) = degR l by rw [hD.out]; exact (if_neg h0).symm)
        obtain ⟨y, hy⟩ : ∃ y, l.getD j 0 = y := ⟨_, rfl⟩
        rw [hy] at c0 h0
        have q : ((y : Int) == 0) = false := by rw [beq_eq_false_iff_ne]; omega
        clear hD hi1 hk0 hy h0
        go_wp2
        go_ret
        exact ⟨ret_int HD.out, hE⟩
end Go.Proofs.YtlnofbdhamingaaDoor

/- Quotients of polynomials: the program's. -/
namespace Go.Proofs.YtlnofbdhamingaaDoor
open Go.RowKit Go.Sort

theorem info_symS : (Tryd.prog.info? 92).map (fun i => (i.zero, i.size, i.bytes)) = some (some (.int .u8 0), 1, 1) := by kernel_rfl
theorem bytes_take {w : World} {ao : Option Addr} {cap m : Nat} {l : List Nat} (h : BytesAt w (.slice ao l.length cap) l) (hm : m ≤ l.length) : BytesAt w (.slice ao m cap) (l.take m) := by
  obtain ⟨h1, ao', cap', h2, h3, h4, h5, h6⟩ := h
  injection h2 with e1 e2 e3
  subst e1 e3
  unfold BytesAt
  have hl : (l.take m).length = m := by simp; omega
  rw [hl]
  refine ⟨by rw [bytesL_length, hl]; omega, ao, cap, rfl, by omega, h4, h5, fun j u hj => h6 j u ?_⟩
  have hjm : j < m := by
    have := (List.getElem?_eq_some_iff.1 hj).1
    rw [bytesL_length, hl] at this
    exact this
  rw [bytesL_get (by omega), ← hj, bytesL_get (by omega)]
  congr 2
  rw [List.getD_eq_getElem?_getD, List.getD_eq_getElem?_getD, List.getElem?_take_of_lt hjm]
theorem bytes_drop {w : World} {b off cap o : Nat} {l : List Nat} (h : BytesAt w (.slice (some ⟨b, off, none⟩) l.length cap) l) (hm : o ≤ l.length) : BytesAt w (.slice (some ⟨b, off + o, none⟩) (l.length - o) (cap - o)) (l.drop o) := by
  obtain ⟨h1, ao', cap', h2, h3, h4, h5, h6⟩ := h
  injection h2 with e1 e2 e3
  subst e1 e3
  unfold BytesAt
  have hl : (l.drop o).length = l.length - o := by simp
  rw [hl]
  refine ⟨by rw [bytesL_length, hl]; omega, _, _, rfl, by omega, by omega, (fun h => by cases h), fun j u hj => ⟨b, off + o, rfl, ?_⟩⟩
  have hjm : j < l.length - o := by
    have := (List.getElem?_eq_some_iff.1 hj).1
    rw [bytesL_length, hl] at this
    exact this
  obtain ⟨b2, off2, e, hc⟩ := h6 (o + j) u (by
    rw [bytesL_get (by omega), ← hj, bytesL_get (by omega)]
    congr 2
    rw [List.getD_eq_getElem?_getD, List.getD_eq_getElem?_getD, List.getElem?_drop])
  cases e
  rw [Nat.add_assoc]
  exact hc
/-- what 'over' answers -/
def OverIs (p d : List Nat) (w : World) (e : Ending) (w' : World) : Prop :=
  Ext w w' ∧ match overR p d with
    | none => e = .returned (.tuple #[.slice none 0 0, .bool false])
    | some (q, r) => ∃ (v : Value) (b : Bool), (b = true ↔ AllZ r) ∧ e = .returned (.tuple #[v, .bool b]) ∧ w'.ownsRow w.heap.size 92 1 v q.length (bytesL q)
theorem OverIs.none {p d : List Nat} {w w' : World} {e : Ending} (h : overR p d = none) (hE : Ext w w') (he : e = .returned (.tuple #[.slice none 0 0, .bool false])) : OverIs p d w e w' := ⟨hE, by rw [h]; exact he⟩
theorem OverIs.some {p d q r : List Nat} {w w' : World} {e : Ending} (h : overR p d = some (q, r)) (hE : Ext w w') (he : ∃ (v : Value) (b : Bool), (b = true ↔ AllZ r) ∧ e = .returned (.tuple #[v, .bool b]) ∧ w'.ownsRow w.heap.size 92 1 v q.length (bytesL q)) : OverIs p d w e w' := ⟨hE, by rw [h]; exact he⟩
set_option maxRecDepth 100000 in
set_option maxHeartbeats 8000000 in
theorem c_over (vp vd : Value) (p d : List Nat) (w : World) (hT : Tabs w) (hp : BytesAt w vp p) (hd : BytesAt w vd d) (sp : Syms p) (sd : Syms d) (hd1 : 1 ≤ d.length) (hdp : d.length ≤ p.length) (hpl : p.length ≤ 100) :
    Calls Tryd.prog 96 #[vp, vd] w (OverIs p d w) := by
  obtain ⟨i0, hi, hz0, hz1, hz2⟩ := info_parts3 info_symS
  have HP := Lib.hid hp
  have HD := Lib.hid hd
  have HT := Lib.hid hT
  have HSP := Lib.hid sp
  have HSD := Lib.hid sd
  obtain ⟨po, pc, rfl, -, -⟩ := hp.form
  obtain ⟨bd, od, cd, rfl, hcd⟩ : ∃ b off cap, vd = .slice (some ⟨b, off, none⟩) d.length cap ∧ ∀ j, j < d.length → w.cell? ⟨b, off + j, none⟩ = some (.int .u8 ((d.getD j 0 : Nat) : Int)) := by
    rcases hd.cases with ⟨h1, -⟩ | ⟨-, b, off, cap, h1, -, -, h2⟩
    · rw [h1] at hd1; simp at hd1
    · exact ⟨b, off, cap, h1, h2⟩
  have hbd := World.block_lt_of_cell? _ _ (hcd 0 hd1)
  simp only at hbd
  have hcap : d.length ≤ cd := by
    obtain ⟨-, _, _, e, h, -⟩ := hd
    injection e with e1 e2 e3
    omega
  have HC := Lib.hid hcd
  have K1 := Lib.hid (fun (w' : World) (h : Ext w w') => c_degree _ d w' (HD.out.ext h) (by omega))
  have hdeg := degR_is d
  clear hp hd hT sp sd hcd
  obtain ⟨nd, hnd⟩ : ∃ n, degR d = n := ⟨_, rfl⟩
  rw [hnd] at K1 hdeg
  go_enter Tryd.func96, Tryd.ntmps96
  by_cases h0 : nd < 0
  · have HZ := Lib.hid (show overR p d = none from if_pos (by rw [hnd]; exact h0))
    clear hnd hdeg
    go_wp2_with (first
      | (at_builtin; refine wpList_append_sl rfl _ _ 129 rfl w.heap.size 92 i0 (.int .u8 0) 1 1 Tryd.underlying129 hi hz0 hz1 hz2 rfl (by omega) (.slice none 0 0) 0 [] rfl (World.ownsRow_nil _ _ _ _) _ p.length (bytesL p) rfl HP.out (bytes_oneCell' p) (by unfold maxLen; omega) (by omega) (Nat.le_refl _) ?_; intro v1 w1 ho1 hg1; have hE1 : Ext w w1 := ext_of_grownNone hg1; clear ho1 hg1)
      | (go_at_call 97; (with_reducible refine (K1.out _ hE1).mono ?_); rintro E w2 ⟨rfl, h2⟩))
    go_ret2
    exact OverIs.none HZ.out (hE1.trans h2) rfl
  obtain ⟨n, rfl⟩ := Int.eq_ofNat_of_zero_le (show 0 ≤ nd by omega)
  have hnl : n < d.length := by have := hdeg.1.2; omega
  have HDG := Lib.hid hdeg
  have HDN := Lib.hid (show overR p d = some (divFin p d n) by unfold overR; rw [if_neg (by rw [hnd]; exact h0), hnd]; rfl)
  obtain ⟨m, hm⟩ : ∃ m, p.length = n + m := ⟨p.length - n, by omega⟩
  have hm1 : 1 ≤ m := by omega
  have hmm : p.length - n = m := by omega
  have hmx : max (p.length - n) 1 = m := by omega
  have HM := Lib.hid (And.intro hm hmx)
  obtain ⟨L, hL⟩ : ∃ L, p.length = L := ⟨_, rfl⟩
  have HL := Lib.hid hL
  have q1 : (L : Int) - (n : Int) = (m : Int) := by omega
  have q2 : (if (m : Int) < 1 then (1 : Int) else (m : Int)) = m := by rw [if_neg (by omega)]
  have q3 : (if (1 : Int) < (m : Int) then (m : Int) else (1 : Int)) = m := by
    by_cases h : (1 : Int) < m
    · rw [if_pos h]
    · rw [if_neg h]; omega
  rw [hL] at hpl hdp ⊢
  clear hnd hdeg hm hmm hmx hL h0
  have hL1 : 0 < L := by omega
  go_wp2_with (first
      | (have _q := HO3; go_at_call 97; (with_reducible refine (c_degree _ p _ HB3.out (by rw [HL.out]; omega)).mono ?_); rintro E w4 ⟨rfl, h4⟩)
      | (at_builtin; refine wpList_append_sl rfl _ _ 129 rfl w.heap.size 92 i0 (.int .u8 0) 1 1 Tryd.underlying129 hi hz0 hz1 hz2 rfl (by omega) (.slice none 0 0) 0 [] rfl (World.ownsRow_nil _ _ _ _) _ L (bytesL p) rfl (HL.out ▸ HP.out) (bytes_oneCell' p) (by unfold maxLen; omega) (by omega) (Nat.le_refl _) ?_; intro v1 w1 ho1 hg1; rw [Nat.zero_add, List.nil_append] at ho1; have hE1 : Ext w w1 := ext_of_grownNone hg1; obtain ⟨g1, C1, rfl, hgb1, hC1⟩ := owns_some ho1 hL1; have HO1 := Lib.hid ho1; clear ho1 hg1)
      | (go_at_call 97; (with_reducible refine (K1.out _ hE1).mono ?_); rintro E w2 ⟨rfl, h2⟩)
      | (at_make; refine wpList_make_full _ rfl _ _ 129 rfl w.heap.size 92 i0 (.int .u8 0) 1 Tryd.underlying129 hi hz0 hz1 .i64 .i64 _ _ m rfl rfl rfl rfl (by rw [hz2]; omega) (by unfold maxLen; omega) (hE1.trans h2).size ?_; intro w3 ho3 hg3; rw [made_zero (List.replicate m 0) m, rowK_zero, show List.replicate m (Value.int .u8 0) = bytesL (List.replicate m 0) by simp [bytesL]] at ho3; have h3 : Ext w2 w3 := ext_of_grownNone hg3; have HO3 := Lib.hid ho3; have HR3 := Lib.hid (owns_ext (owns_ext HO1.out h2) h3); have HB3 := Lib.hid (show BytesAt w3 (.slice (some ⟨g1, 0, none⟩) L C1) p from HL.out ▸ (SlAt.of_owns (HL.out ▸ HR3.out))); clear ho3 hg3))
  have hgz := (owns_block HO1.out g1 rfl).2
  obtain ⟨G2, hG2⟩ : ∃ G, w2.heap.size = G := ⟨_, rfl⟩
  rw [hG2] at HO3 ⊢
  have hg12 : g1 < G2 := by have := h2.size; omega
  have hwg : w.heap.size ≤ g1 := hgb1
  have hE4 : Ext w w4 := ((hE1.trans h2).trans h3).trans h4
  have HO4 := Lib.hid (owns_ext HO3.out h4)
  have HR4 := Lib.hid (owns_ext HR3.out h4)
  have HS0 := Lib.hid (div_start (n := n) HSP.out HSD.out)
  rw [HM.out.2] at HS0
  have HF0 : Hid (∃ f : Nat, degR p < (f : Int) ∧ divGo d n f (List.replicate m 0) p = divFin p d n) := Lib.hid ⟨p.length + 1, by have := (degR_is p).1.2; omega, by unfold divFin; rw [HM.out.2]⟩
  have hbg : bd < w.heap.size := hbd
  clear hE1 h2 h3 h4 HO1 HO3 HR3 HB3 hG2 hgz hgb1 K1
  go_loopw [9, 10] (fun k _ wr => ∃ out rest : List Nat, k = .int .i64 (degR rest) ∧ Ext w wr ∧ Hid (DivInv p d n out rest) ∧ Hid (∃ f : Nat, degR rest < (f : Int) ∧ divGo d n f out rest = divFin p d n) ∧ Hid (∀ j : Nat, (n : Int) + (j : Int) ≤ degR rest → out.getD j 0 = 0) ∧ Hid (wr.ownsRow w.heap.size 92 1 (.slice (some ⟨g1, 0, none⟩) L C1) L (bytesL rest)) ∧ Hid (wr.ownsRow w.heap.size 92 1 (.slice (some ⟨G2, 0, none⟩) m m) m (bytesL out))) (fun k _ _ => (intOf k + 1).toNat)
  case atStart => exact ⟨_, p, rfl, hE4, HS0, HF0, Lib.hid (fun j _ => by rw [List.getD_eq_getElem?_getD, List.getElem?_replicate]; split <;> rfl), HR4, HO4⟩
  case round =>
    clear HO4 HR4 HS0 HF0 hE4
    obtain ⟨out, rest, rfl, hE, hI, hF, hz, hR, hO⟩ := hrel
    have hdr := degR_is rest
    obtain ⟨i1, i2, i3, i4, i5⟩ := hI.out
    rw [HL.out] at i3
    rw [HM.out.2] at i4
    by_cases hkn : (n : Int) ≤ degR rest
    · obtain ⟨kk, hkk⟩ := Int.eq_ofNat_of_zero_le (show 0 ≤ degR rest by omega)
      rw [hkk] at hz hkn hdr ⊢
      have hkn : n ≤ kk := by omega
      have hkl : kk < L := by have := hdr.1.2; omega
      have hstep := div_step HSD.out hnl (by have := HDG.out.2.1 (by omega); simpa using this) (fun j hj => HDG.out.2.2 j (by omega)) hdr hkn (fun j hj => hz.out j (by omega)) hI.out
      obtain ⟨s1, s2, s3, s4, s5⟩ := hstep
      have s6 : ∃ f : Nat, (kk : Int) ≤ (f : Int) ∧ divGo d n f (out.set (kk - n) (divS d rest n kk)) (addAt rest (kk - n) (divS d rest n kk) (d.take (n + 1))) = divFin p d n := by
        obtain ⟨f, f1, f2⟩ := hF.out
        obtain ⟨f', rfl⟩ : ∃ f', f = f' + 1 := ⟨f - 1, by omega⟩
        exact ⟨f', by omega, by rw [← f2, divGo_step hkk hkn]⟩
      obtain ⟨o, ho⟩ : ∃ o, kk - n = o := ⟨_, rfl⟩
      rw [ho] at s2 s3 s4 s5 s6
      have q5 : (kk : Int) - (n : Int) = (o : Int) := by omega
      rw [i4] at s2
      have c0 : wr.cell? ⟨g1, kk, none⟩ = some (.int .u8 ((rest.getD kk 0 : Nat) : Int)) := by rw [hR.out.cellAt kk (by omega), bytesL_get (by omega)]
      have c1 := hE.get (HC.out n hnl)
      have c2 : wr.cell? ⟨G2, o, none⟩ = some (.int .u8 ((out.getD o 0 : Nat) : Int)) := by rw [hO.out.cellAt o (by omega), bytesL_get (by omega)]
      have f2 := hO.out.frozenAt o
      have ha := syms_get i2 kk
      have hb := syms_get HSD.out n
      unfold divS at s1 s3 s4 s5 s6
      obtain ⟨a, haa⟩ : ∃ a, rest.getD kk 0 = a := ⟨_, rfl⟩
      obtain ⟨b, hbb⟩ : ∃ b, d.getD n 0 = b := ⟨_, rfl⟩
      rw [haa] at c0 ha s1 s3 s4 s5 s6
      rw [hbb] at c1 hb s1 s3 s4 s5 s6
      have hib : ginv b < 16 := by
        have : ∀ x : Fin 16, ginv x < 16 := by decide
        exact this ⟨b, hb⟩
      have CI := Lib.hid (fun (w' : World) (h : Ext wr w') => c_inverse b hb w' (HT.out.ext (hE.trans h)))
      have CM := Lib.hid (fun (w' : World) (h : Ext wr w') => c_mul a (ginv b) ha hib w' (HT.out.ext (hE.trans h)))
      obtain ⟨ib, hibb⟩ : ∃ x, ginv b = x := ⟨_, rfl⟩
      rw [hibb] at CI CM hib s1 s3 s4 s5 s6
      obtain ⟨s, hss⟩ : ∃ x, gmul a ib = x := ⟨_, rfl⟩
      rw [hss] at CM s1 s3 s4 s5 s6
      have HS3 := Lib.hid s3
      have HS4 := Lib.hid s4
      have HS5 := Lib.hid s5
      have HS6 := Lib.hid s6
      have HI2 := Lib.hid i2
      have HI3 := Lib.hid i3
      have HZZ := Lib.hid (And.intro haa (And.intro hbb (And.intro hibb (And.intro hss (And.intro ho hkk)))))
      clear haa hbb hibb hss s3 s4 s5 s6 hF i1 i2 i3 i4 i5 hdr hz ho hkk
      have zg1 := World.block_lt_of_cell? _ _ c0
      have zbd := World.block_lt_of_cell? _ _ c1
      simp only at zg1 zbd
      go_wp2
      refine wp_region_quiet_below (by kernel_rfl) (by kernel_rfl) ?_
      repeat (go_big_quiet_step (first
        | (go_at_call 55; with_reducible exact Calls.ext_of (CI.out _ (Ext.grow _ _ _)))
        | (go_at_call 53; with_reducible exact Calls.ext_of (CM.out _ (Ext.grow _ _ _)))))
      refine wpQuiet_nil ?_
      intro w5 hw'
      obtain ⟨pq, hw''⟩ := hw'
      have h5 := ext_of_regrown hw''
      clear hw'' pq
      have d0 := h5.get c0
      have d1 := h5.get c1
      have d2 := h5.get c2
      have e2 := (h5.frozen G2 o (World.block_lt_of_cell? _ _ c2)).trans f2
      have hE5 := Lib.hid (hE.trans h5)
      have hR5 := Lib.hid (owns_ext hR.out h5)
      have hO5 := Lib.hid (owns_ext hO.out h5)
      clear hR hO h5 c0 c1 c2 f2
      go_wp2
      obtain ⟨wn, hwn⟩ : ∃ wn, w5.setCell ⟨G2, o, none⟩ (.int .u8 (s : Int)) = wn := ⟨_, rfl⟩
      have hE6 := Lib.hid (show Ext w wn by rw [← hwn]; exact hE5.out.setCell (p := ⟨G2, o, none⟩) (by show w.heap.size ≤ G2; omega) _)
      have hO6 := Lib.hid (show wn.ownsRow w.heap.size 92 1 (.slice (some ⟨G2, 0, none⟩) m m) m (bytesL (out.set o s)) by rw [← hwn, ← bytesL_set]; exact (hO5.out.stored o (.int .u8 (s : Int))).1)
      have hR6 := Lib.hid (show wn.ownsRow w.heap.size 92 1 (.slice (some ⟨g1, 0, none⟩) L C1) L (bytesL rest) by rw [← hwn]; exact ownsRow_setCell_other hR5.out (by simp [Value.ownBlock]; omega) _)
      rw [hwn]
      clear hE5 hO5 hR5 hwn d0 d1 d2 e2
      have hC1' : L ≤ C1 := hC1
      refine RG.region_tail (aq := ?aqn) 10 (by kernel_rfl) (by kernel_rfl) (by kernel_rfl) (by kernel_rfl) ?_ ?_
      rotate_left
      · intro wq hEq
        have zq := hEq.size
        simp only [List.take_succ_cons, List.take_zero]
        repeat (go_big_quiet_step (fail))
        refine wpQuiet_nil ?_
        exact rfl
      · intro wt hEt
        simp only [List.drop_succ_cons, List.drop_zero]
        have hE7 := Lib.hid (hE6.out.trans hEt)
        have hR7 := Lib.hid (owns_ext hR6.out hEt)
        have hO7 := Lib.hid (owns_ext hO6.out hEt)
        have hD7 := Lib.hid (bytes_take (m := n + 1) (HD.out.ext hE7.out) (by omega))
        have hN7 : Hid (∀ k, (Value.slice (some ⟨bd, od, none⟩) (n + 1) cd).ownBlock = some k → some k ≠ some g1) := Lib.hid (fun k hk h9 => by have e1 : bd = k := Option.some.inj hk; have e2 : k = g1 := Option.some.inj h9; omega)
        clear hEt hE6 hR6 hO6
        go_wp2_with (first
          | (go_at_call 122
             (with_reducible refine (c_scaled w g1 o (L - o) (C1 - o) L C1 w.heap.size s rest (d.take (n + 1)) _ wt HT.out hE7.out (Nat.le_refl _) hR7.out HI3.out HI2.out (by omega) hD7.out hN7.out (syms_take HSD.out _) s1 (by omega) (by rw [List.length_take]; omega)).mono ?_)
             rintro E w8 ⟨rfl, a1, a2⟩
             have hE8 := hE7.out.gb a2 hwg
             have hR8 := Lib.hid a1
             have hO8 := Lib.hid (own_gb hO7.out a2 (fun k hk h9 => by have e1 : G2 = k := Option.some.inj hk; have e2 : k = g1 := Option.some.inj h9; omega))
             have hlen := HS3.out.2.2.1
             rw [HL.out] at hlen
             have hB8 := Lib.hid (show BytesAt w8 (.slice (some ⟨g1, 0, none⟩) L C1) (addAt rest o s (d.take (n + 1))) from hlen ▸ (SlAt.of_owns (hlen.symm ▸ hR8.out)))
             clear a1 a2 hE7 hR7 hO7 hD7)
          | (go_at_call 97; (with_reducible refine (c_degree _ _ _ hB8.out (by rw [hlen]; omega)).mono ?_); rintro E w9 ⟨rfl, h9⟩))
        have hlt := degR_lt HS4.out
        refine ⟨⟨_, _, rfl, hE8.trans h9, HS3, Lib.hid (by obtain ⟨f, f1, f2⟩ := HS6.out; exact ⟨f, by omega, f2⟩), Lib.hid (fun j hj => ?_), Lib.hid (owns_ext hR8.out h9), Lib.hid (owns_ext hO8.out h9)⟩, by simp [intOf]; omega⟩
        obtain ⟨x, hx⟩ := Int.eq_ofNat_of_zero_le (show 0 ≤ degR (addAt rest o s (d.take (n + 1))) by omega)
        exact HS5.out x j (by omega) (by omega)
    · have HI9 := Lib.hid (show overR p d = some (out, rest) by
        obtain ⟨f, f1, f2⟩ := hF.out
        rw [HDN.out, ← f2, divGo_end (by omega)])
      have HA := Lib.hid (deg_zero hdr)
      have HB := Lib.hid (show BytesAt wr (.slice (some ⟨g1, 0, none⟩) L C1) rest from i3 ▸ (SlAt.of_owns (i3.symm ▸ hR.out)))
      have HI4 := Lib.hid i4
      have hi3 := i3
      clear hdr i1 i2 i3 i4 i5 hz hR hF
      go_wp2_with (go_at_call 97; (with_reducible refine (c_degree _ _ _ HB.out (by rw [hi3]; omega)).mono ?_); rintro E w9 ⟨rfl, h9⟩)
      go_ret2
      refine OverIs.some HI9.out (hE.trans h9) ⟨_, _, ?_, rfl, ?_⟩
      · rw [decide_eq_true_iff]; exact HA.out
      · rw [HI4.out]; exact owns_ext hO.out h9
end Go.Proofs.YtlnofbdhamingaaDoor

/- Rows of rows in memory: matrices. Generic but for the types' numbers. -/
namespace Go.Proofs.YtlnofbdhamingaaDoor
open Go.RowKit Go.Sort

def RowV (u : Nat) (p : Nat × Nat) : Value := .slice (some ⟨p.1, 0, none⟩) u p.2
def gAt (gs : List (Nat × Nat)) (i : Nat) : Nat × Nat := gs.getD i (0, 0)
/-- a matrix in memory: a row R of n rows; R and the rows are the call's own, apart, and below B -/
structure RowsAt (w : World) (base B R cap : Nat) (gs : List (Nat × Nat)) (M : Mat) (n u : Nat) : Prop where
  glen : gs.length = n
  len : M.length = n
  top : w.ownsRow base 129 1 (.slice (some ⟨R, 0, none⟩) n cap) n (gs.map (RowV u))
  row : ∀ i, i < n → w.ownsRow base 92 1 (RowV u (gAt gs i)) u (bytesL (M.row i))
  rlen : ∀ i, i < n → (M.row i).length = u
  low : R < B ∧ ∀ i, i < n → (gAt gs i).1 < B
  apart : (∀ i, i < n → (gAt gs i).1 ≠ R) ∧ ∀ i j, i < n → j < n → i ≠ j → (gAt gs i).1 ≠ (gAt gs j).1
theorem RowsAt.ext {w w' : World} {base B R cap n u : Nat} {gs : List (Nat × Nat)} {M : Mat} (h : RowsAt w base B R cap gs M n u) (hE : Ext w w') : RowsAt w' base B R cap gs M n u :=
  ⟨h.glen, h.len, owns_ext h.top hE, fun i hi => owns_ext (h.row i hi) hE, h.rlen, h.low, h.apart⟩
theorem rowV_block {u : Nat} {p : Nat × Nat} {k : Nat} (h : (RowV u p).ownBlock = some k) : p.1 = k := Option.some.inj h
/-- another row has grown -/
theorem RowsAt.gb {w w' : World} {base B R cap n u : Nat} {gs : List (Nat × Nat)} {M : Mat} {row : Option Nat} (h : RowsAt w base B R cap gs M n u) (hg : w.grownBy w' row) (hr : ∀ k, row = some k → B ≤ k) : RowsAt w' base B R cap gs M n u :=
  ⟨h.glen, h.len, own_gb h.top hg fun k hk h9 => by have e1 : R = k := Option.some.inj hk; have := hr k h9.symm; have := h.low.1; omega,
    fun i hi => own_gb (h.row i hi) hg fun k hk h9 => by have e1 := rowV_block hk; have := hr k h9.symm; have := h.low.2 i hi; omega, h.rlen, h.low, h.apart⟩
theorem gAt_map {gs : List (Nat × Nat)} {u i : Nat} (h : i < gs.length) : (gs.map (RowV u))[i]? = some (RowV u (gAt gs i)) := by
  rw [List.getElem?_map, List.getElem?_eq_getElem h]
  unfold gAt
  rw [List.getD_eq_getElem?_getD, List.getElem?_eq_getElem h]; rfl
theorem RowsAt.cellTop {w : World} {base B R cap n u : Nat} {gs : List (Nat × Nat)} {M : Mat} (h : RowsAt w base B R cap gs M n u) {i : Nat} (hi : i < n) : w.cell? ⟨R, i, none⟩ = some (RowV u (gAt gs i)) := by
  rw [h.top.cellAt i (by omega), gAt_map (by rw [h.glen]; exact hi)]
theorem RowsAt.cell {w : World} {base B R cap n u : Nat} {gs : List (Nat × Nat)} {M : Mat} (h : RowsAt w base B R cap gs M n u) {i j : Nat} (hi : i < n) (hj : j < u) : w.cell? ⟨(gAt gs i).1, j, none⟩ = some (.int .u8 ((M.at i j : Nat) : Int)) := by
  rw [(h.row i hi).cellAt j (by omega), bytesL_get (by rw [h.rlen i hi]; exact hj)]; rfl
theorem RowsAt.free {w : World} {base B R cap n u : Nat} {gs : List (Nat × Nat)} {M : Mat} (h : RowsAt w base B R cap gs M n u) {i : Nat} (hi : i < n) (j : Nat) : w.frozen? ⟨(gAt gs i).1, j, none⟩ = false := (h.row i hi).frozenAt j
theorem RowsAt.base_le {w : World} {base B R cap n u : Nat} {gs : List (Nat × Nat)} {M : Mat} (h : RowsAt w base B R cap gs M n u) : base ≤ R ∧ ∀ i, i < n → base ≤ (gAt gs i).1 := ⟨(h.top.lt R rfl).1, fun i hi => ((h.row i hi).lt _ rfl).1⟩
theorem gAt_set {gs : List (Nat × Nat)} {k i : Nat} {p : Nat × Nat} (hk : k < gs.length) : gAt (gs.set k p) i = if i = k then p else gAt gs i := by
  unfold gAt
  rw [List.getD_eq_getElem?_getD, List.getElem?_set]
  by_cases h : k = i
  · subst h; simp [hk]
  · rw [if_neg h, if_neg (by omega), List.getD_eq_getElem?_getD]
def gSwap (gs : List (Nat × Nat)) (a b : Nat) : List (Nat × Nat) := (gs.set a (gAt gs b)).set b (gAt gs a)
theorem gSwap_get {gs : List (Nat × Nat)} {a b i : Nat} (ha : a < gs.length) (hb : b < gs.length) : gAt (gSwap gs a b) i = if i = b then gAt gs a else if i = a then gAt gs b else gAt gs i := by
  unfold gSwap
  rw [gAt_set (by simpa using hb), gAt_set ha]
/-- two rows exchanged -/
theorem RowsAt.swap {w : World} {base B R cap n u : Nat} {gs : List (Nat × Nat)} {M : Mat} (h : RowsAt w base B R cap gs M n u) {a b : Nat} (ha : a < n) (hb : b < n) :
    RowsAt ((w.setCell ⟨R, a, none⟩ (RowV u (gAt gs b))).setCell ⟨R, b, none⟩ (RowV u (gAt gs a))) base B R cap (gSwap gs a b) (M.swap a b) n u := by
  have gl := h.glen
  have ml := h.len
  have hne : ∀ i, i < n → (RowV u (gAt gs i)).ownBlock ≠ some R := fun i hi h9 => h.apart.1 i hi (rowV_block h9)
  have hrow : ∀ i, i < n → ((w.setCell ⟨R, a, none⟩ (RowV u (gAt gs b))).setCell ⟨R, b, none⟩ (RowV u (gAt gs a))).ownsRow base 92 1 (RowV u (gAt gs i)) u (bytesL (M.row i)) := fun i hi =>
    ownsRow_setCell_other (ownsRow_setCell_other (h.row i hi) (hne i hi) _) (hne i hi) _
  have key : ∀ i, i < n → ∃ j, j < n ∧ gAt (gSwap gs a b) i = gAt gs j ∧ (M.swap a b).row i = M.row j ∧ j = (if i = b then a else if i = a then b else i) := fun i hi => by
    rw [gSwap_get (by omega) (by omega), Mat.row_swap (by omega) (by omega)]
    by_cases h1 : i = b
    · exact ⟨a, ha, by rw [if_pos h1], by rw [if_pos h1], by rw [if_pos h1]⟩
    · by_cases h2 : i = a
      · exact ⟨b, hb, by rw [if_neg h1, if_pos h2], by rw [if_neg h1, if_pos h2], by rw [if_neg h1, if_pos h2]⟩
      · exact ⟨i, hi, by rw [if_neg h1, if_neg h2], by rw [if_neg h1, if_neg h2], by rw [if_neg h1, if_neg h2]⟩
  refine ⟨by simp [gSwap, gl], by rw [Mat.swap_len, ml], ?_, fun i hi => ?_, fun i hi => ?_, ⟨h.low.1, fun i hi => ?_⟩, fun i hi => ?_, fun i j hi hj hij => ?_⟩
  · have h1 := ((h.top.stored a (RowV u (gAt gs b))).1.stored b (RowV u (gAt gs a))).1
    rw [show ((gs.map (RowV u)).set a (RowV u (gAt gs b))).set b (RowV u (gAt gs a)) = (gSwap gs a b).map (RowV u) by unfold gSwap; rw [List.map_set, List.map_set]] at h1
    exact h1
  · obtain ⟨j, hj, e1, e2, -⟩ := key i hi
    rw [e1, e2]
    exact hrow j hj
  · obtain ⟨j, hj, e1, e2, -⟩ := key i hi
    rw [e2]
    exact h.rlen j hj
  · obtain ⟨j, hj, e1, -, -⟩ := key i hi
    rw [e1]
    exact h.low.2 j hj
  · obtain ⟨j, hj, e1, -, -⟩ := key i hi
    rw [e1]
    exact h.apart.1 j hj
  · obtain ⟨i', hi', e1, -, d1⟩ := key i hi
    obtain ⟨j', hj', e2, -, d2⟩ := key j hj
    rw [e1, e2]
    refine h.apart.2 i' j' hi' hj' fun h9 => hij ?_
    rw [d1, d2] at h9
    revert h9
    repeat' split
    all_goals (intro h9; omega)
/-- one row has changed -/
theorem RowsAt.put {w w' : World} {base B R cap n u : Nat} {gs : List (Nat × Nat)} {M : Mat} (h : RowsAt w base B R cap gs M n u) {k : Nat} (hk : k < n) {r : List Nat} (hr : w'.ownsRow base 92 1 (RowV u (gAt gs k)) u (bytesL r)) (hl : r.length = u)
    (hg : w.grownBy w' (some (gAt gs k).1)) : RowsAt w' base B R cap gs (M.set k r) n u := by
  have gl := h.glen
  have ml := h.len
  have hrow : ∀ i, Mat.row (M.set k r) i = if i = k then r else M.row i := fun i => Mat.row_set (by omega)
  refine ⟨gl, by simp [ml], own_gb h.top hg fun j hj h9 => ?_, fun i hi => ?_, fun i hi => ?_, h.low, h.apart⟩
  · have e1 : R = j := Option.some.inj hj
    have e2 : j = (gAt gs k).1 := Option.some.inj h9
    exact h.apart.1 k hk (by omega)
  · rw [hrow i]
    by_cases e : i = k
    · subst e
      rw [if_pos rfl]; exact hr
    · rw [if_neg e]
      exact own_gb (h.row i hi) hg fun j hj h9 => by
        have e1 := rowV_block hj
        have e2 : j = (gAt gs k).1 := Option.some.inj h9
        exact h.apart.2 i k hi hk e (by omega)
  · rw [hrow i]
    by_cases e : i = k
    · rw [if_pos e]; exact hl
    · rw [if_neg e]; exact h.rlen i hi
end Go.Proofs.YtlnofbdhamingaaDoor

/- Words of messages: the reference's. -/
namespace Go.Proofs.YtlnofbdhamingaaDoor
open Go.RowKit Go.Sort

/-- the word of a message -/
def encR (l : List Nat) : List Nat := (List.range 15).map fun i => gval l (powN i)
theorem encR_length (l : List Nat) : (encR l).length = 15 := by simp [encR]
theorem encR_take {l : List Nat} {k : Nat} (h : k < 15) : (encR l).take (k + 1) = (encR l).take k ++ [gval l (powN k)] := by
  rw [List.take_add_one, show (encR l)[k]? = some (gval l (powN k)) by simp [encR, h]]
  rfl
set_option maxRecDepth 100000 in
set_option maxHeartbeats 4000000 in
theorem r_Encoded (v : Value) (l : List Nat) (w : World) (hv : BytesAt w v l) (hl : l.length ≤ 1000) (hs : Syms l) :
    Calls Tryd.prog 59 #[v] w (OwnBytes (encR l) w) := by
  obtain ⟨i0, hi, hz0, hz1, hz2⟩ := info_parts3 info_byte
  have HV := Lib.hid hv
  clear hv
  go_enter Tryd.func59, Tryd.ntmps59
  go_wp2
  go_loopw [3, 4] (fun o i wr => ∃ k : Nat, k ≤ 15 ∧ i = .int .i64 (k : Int) ∧ Ext w wr ∧ Hid (wr.ownsRow w.heap.size 5 1 o k (bytesL ((encR l).take k)))) (fun _ i _ => 15 - (intOf i).toNat)
  case atStart => exact ⟨0, by omega, rfl, Ext.refl _, Lib.hid ⟨rfl, .inl ⟨rfl, rfl⟩⟩⟩
  case round =>
    obtain ⟨k, hk, rfl, hE, hO⟩ := hrel
    by_cases hk15 : k < 15
    · have hp := (pow_at (i := k) (by omega)).2
      have CP := Lib.hid (fun w => r_Point k (by omega) w)
      obtain ⟨p, hpp⟩ : ∃ p, powN k = p := ⟨_, rfl⟩
      rw [hpp] at CP hp
      have CV := Lib.hid (fun (w' : World) (h : Ext w w') => r_valueOf v l p w' (HV.out.ext h) hl hs hp)
      have hy := gval_lt hs hp
      obtain ⟨y, hyy⟩ : ∃ y, gval l p = y := ⟨_, rfl⟩
      rw [hyy] at CV hy
      have HY := Lib.hid (show gval l (powN k) = y by rw [hpp]; exact hyy)
      clear hpp hyy
      go_wp2_with (first
        | (go_at_call 92; (with_reducible refine (CP.out _).mono ?_); rintro E w1 ⟨rfl, h1⟩; have E1 := Lib.hid (hE.trans h1); have O1 := Lib.hid (owns_ext hO.out h1))
        | (go_at_call 91; (with_reducible refine (CV.out _ E1.out).mono ?_); rintro E w2 ⟨rfl, h2⟩; have E2 := Lib.hid (E1.out.trans h2); have O2 := Lib.hid (owns_ext O1.out h2))
        | (at_builtin; refine wpList_append_sl rfl _ _ 22 rfl w.heap.size 5 i0 (.int .u8 0) 1 1 Tryd.underlying22 hi hz0 hz1 hz2 rfl (by omega) u3 k (bytesL ((encR l).take k)) rfl (owns_ext O2.out ((Ext.refl _).alloc _)) _ 1 [.int .u8 (y : Int)] rfl (SlAt.of_owns (owns_lit w2 [.int .u8 (y : Int)] 5 1 1 0 (Nat.zero_le _) (by unfold maxLen; omega) rfl)) (bytes_oneCell' [y]) (by unfold maxLen; omega) (by omega) ((E2.out.alloc _).size) ?_; intro v' w' ho hg))
      go_roundw
      case rel => exact ⟨k + 1, by omega, by go_num, (E2.out.alloc _).grown hg (fun g hk => (owns_block O2.out g hk).1), Lib.hid (by
        rw [encR_take hk15, HY.out, show bytesL (List.take k (encR l) ++ [y]) = bytesL (List.take k (encR l)) ++ [.int .u8 (y : Int)] by simp [bytesL]]
        exact ho)⟩
      case measure => simp [intOf]; omega
    · obtain rfl : k = 15 := by omega
      go_wp2
      go_ret
      refine ⟨_, rfl, ?_, hE⟩
      have h := hO.out
      rw [List.take_of_length_le (by rw [encR_length]; exact Nat.le_refl _)] at h
      rw [encR_length]
      exact h
theorem encR_lt {l : List Nat} (hs : Syms l) : Syms (encR l) := by
  intro x hx
  obtain ⟨i, hi, rfl⟩ := List.mem_map.1 hx
  exact gval_lt hs (pow_at (by have := List.mem_range.1 hi; omega)).2
/-- what 'Encode' answers: the word, and the error -/
def encodeR (l : List Nat) : Option (List Nat) × Int := if isMessage l = true then (some (encR l), 0) else (none, 2)
def OwnWord (l : List Nat) (w : World) (e : Ending) (w' : World) : Prop := ∃ v', e = .returned (.tuple #[v', .int .i64 (encodeR l).2]) ∧ w'.ownsRow w.heap.size 5 1 v' ((encodeR l).1.getD []).length (bytesL ((encodeR l).1.getD [])) ∧ Ext w w'
set_option maxHeartbeats 2000000 in
theorem encode_any (f g h : FuncId) (hf : (f = 22 ∧ g = 57 ∧ h = 58) ∨ (f = 23 ∧ g = 39 ∧ h = 59)) (v : Value) (l : List Nat) (w : World)
    (k1 : Calls Tryd.prog g #[v] w fun e w' => e = .returned (.bool (isMessage l)) ∧ Ext w w')
    (k2 : isMessage l = true → ∀ w', Ext w w' → Calls Tryd.prog h #[v] w' (OwnBytes (encR l) w')) :
    Calls Tryd.prog f #[v] w (OwnWord l w) := by
  obtain ⟨t, ht⟩ : ∃ t, isMessage l = t := ⟨_, rfl⟩
  rw [ht] at k1 k2
  have K1 := Lib.hid k1
  have K2 := Lib.hid k2
  have HT := Lib.hid ht
  clear k1 k2 ht
  cases t
  · have e : encodeR l = (none, 2) := if_neg (by rw [HT.out]; decide)
    have HE := Lib.hid e
    clear e
    rcases hf with ⟨rfl, rfl, rfl⟩ | ⟨rfl, rfl, rfl⟩
    · go_enter Tryd.func22, Tryd.ntmps22
      go_wp2_with (go_at_call 57; (with_reducible refine K1.out.mono ?_); rintro E w1 ⟨rfl, h1⟩)
      go_ret2
      exact ⟨_, by rw [HE.out]; rfl, by rw [HE.out]; exact ⟨rfl, .inl ⟨rfl, rfl⟩⟩, h1⟩
    · go_enter Tryd.func23, Tryd.ntmps23
      go_wp2_with (go_at_call 39; (with_reducible refine K1.out.mono ?_); rintro E w1 ⟨rfl, h1⟩)
      go_ret2
      exact ⟨_, by rw [HE.out]; rfl, by rw [HE.out]; exact ⟨rfl, .inl ⟨rfl, rfl⟩⟩, h1⟩
  · have e : encodeR l = (some (encR l), 0) := if_pos HT.out
    have HE := Lib.hid e
    have K2x := Lib.hid (K2.out rfl)
    clear e K2
    rcases hf with ⟨rfl, rfl, rfl⟩ | ⟨rfl, rfl, rfl⟩
    · go_enter Tryd.func22, Tryd.ntmps22
      go_wp2_with (first | (go_at_call 57; (with_reducible refine K1.out.mono ?_); rintro E w1 ⟨rfl, h1⟩) | (go_at_call 58; (with_reducible refine (K2x.out _ h1).mono ?_); rintro E w2 ⟨v', rfl, ho, h2⟩))
      go_ret2
      exact ⟨_, by rw [HE.out]; rfl, by rw [HE.out]; exact owns_base ho h1.size, h1.trans h2⟩
    · go_enter Tryd.func23, Tryd.ntmps23
      go_wp2_with (first | (go_at_call 39; (with_reducible refine K1.out.mono ?_); rintro E w1 ⟨rfl, h1⟩) | (go_at_call 59; (with_reducible refine (K2x.out _ h1).mono ?_); rintro E w2 ⟨v', rfl, ho, h2⟩))
      go_ret2
      exact ⟨_, by rw [HE.out]; rfl, by rw [HE.out]; exact owns_base ho h1.size, h1.trans h2⟩
theorem message_syms {l : List Nat} (h : isMessage l = true) : Syms l ∧ l.length ≤ 13 := by
  unfold isMessage at h
  simp only [Bool.and_eq_true, decide_eq_true_eq] at h
  exact ⟨syms_of h.2, h.1.2⟩
theorem r_Encode (v : Value) (l : List Nat) (w : World) (hv : BytesAt w v l) (hl : l.length ≤ maxLen) : Calls Tryd.prog 23 #[v] w (OwnWord l w) :=
  encode_any _ _ _ (.inr ⟨rfl, rfl, rfl⟩) v l w (r_Message v l w hv hl) (fun h w' hE => r_Encoded v l w' (hv.ext hE) (by have := (message_syms h).2; omega) (message_syms h).1)
end Go.Proofs.YtlnofbdhamingaaDoor

/- Words of messages: the program's. -/
namespace Go.Proofs.YtlnofbdhamingaaDoor
open Go.RowKit Go.Sort

theorem info_sym : (Tryd.prog.info? 92).map (fun i => (i.zero, i.size, i.bytes)) = some (some (.int .u8 0), 1, 1) := by kernel_rfl
set_option maxRecDepth 100000 in
set_option maxHeartbeats 4000000 in
theorem c_encode (v : Value) (l : List Nat) (w : World) (hT : Tabs w) (hv : BytesAt w v l) (hl : l.length ≤ 1000) (hs : Syms l) :
    Calls Tryd.prog 58 #[v] w (OwnBytes (encR l) w) := by
  obtain ⟨i0, hi, hz0, hz1, hz2⟩ := info_parts3 info_sym
  obtain ⟨i1, ki, kz0, kz1, kz2⟩ := info_parts3 info_byte
  obtain ⟨ao, cap, rfl, -, hc⟩ := hv.form
  have HC := Lib.hid hc
  have HT := Lib.hid hT
  clear hc hv hT
  go_enter Tryd.func58, Tryd.ntmps58
  go_wp2_with (at_make; refine wpList_make_full _ rfl _ _ 129 rfl w.heap.size 92 i0 (.int .u8 0) 1 Tryd.underlying129 hi hz0 hz1 .i64 .i64 _ _ l.length rfl rfl rfl rfl (by rw [hz2]; omega) (by unfold maxLen; omega) (Nat.le_refl _) ?_; intro w1 ho1 hg1)
  rw [made_zero l] at ho1
  have hE1 : Ext w w1 := (Ext.refl w).grownNone hg1
  have HO1 := Lib.hid ho1
  clear ho1 hg1
  go_loopw [13] (fun i wr => ∃ k : Nat, k ≤ l.length ∧ i = .int .i64 (k : Int) ∧ Ext w wr ∧ Hid (wr.ownsRow w.heap.size 92 1 (.slice (some ⟨w.heap.size, 0, none⟩) l.length l.length) l.length (rowK l l.length k))) (fun i _ => l.length - (intOf i).toNat)
  case atStart => exact ⟨0, by omega, rfl, hE1, HO1⟩
  case round =>
    obtain ⟨k, hk, rfl, hE, hO⟩ := hrel
    by_cases hkl : k < l.length
    · obtain ⟨b, off, rfl, c0⟩ := HC.out k hkl
      have c0 := hE.get c0
      have r0 : wr.cell? ⟨w.heap.size, k, none⟩ = some (.int .u8 0) := by rw [hO.out.cellAt k (by omega)]; exact rowK_get hkl rfl
      have r1 := hO.out.frozenAt k
      obtain ⟨y, hyy⟩ : ∃ y, l.getD k 0 = y := ⟨_, rfl⟩
      rw [hyy] at c0
      have HY := Lib.hid hyy
      clear hyy
      go_wp2
      go_roundw
      case rel => exact ⟨k + 1, by omega, by go_num, hE.setCell (Nat.le_refl _) _, Lib.hid (by
        have h := (hO.out.stored k (.int .u8 (y : Int))).1
        rw [← HY.out, rowK_set hkl rfl] at h
        rw [← HY.out]
        exact h)⟩
      case measure => simp [intOf]; omega
    · obtain rfl : k = l.length := by omega
      have ho := hO.out
      rw [rowK_full] at ho
      have HR := Lib.hid ho
      obtain ⟨wa, hwa⟩ : ∃ wa : World, wa = wr := ⟨_, rfl⟩
      subst hwa
      clear ho hO hk hkl
      go_wp2_with (at_make; refine wpList_make_full _ rfl _ _ 22 rfl w.heap.size 5 i1 (.int .u8 0) 1 Tryd.underlying22 ki kz0 kz1 .i64 .i64 _ _ 15 rfl rfl rfl rfl (by rw [kz2]; omega) (by unfold maxLen; omega) hE.size ?_; intro w2 ho2 hg2)
      rw [made_zero (encR l), ← encR_length l] at ho2
      have hB := owns_block HR.out w.heap.size rfl
      have hE2 : Ext w w2 := hE.grownNone hg2
      have HR2 := Lib.hid (owns_ext HR.out (ext_of_grownNone hg2))
      have HO2 := Lib.hid ho2
      obtain ⟨wc, hwc⟩ : ∃ wc : World, wc = w2 := ⟨_, rfl⟩
      obtain ⟨B, hB2⟩ : ∃ B, wa.heap.size = B := ⟨_, rfl⟩
      rw [hB2] at hB HO2 ⊢
      have hBw : w.heap.size < B := by omega
      clear ho2 hg2 HR hE HO1 hE1
      go_loopw [26] (fun i wr => ∃ k : Nat, k ≤ 15 ∧ i = .int .i64 (k : Int) ∧ Ext w wr ∧ Hid (wr.ownsRow w.heap.size 92 1 (.slice (some ⟨w.heap.size, 0, none⟩) l.length l.length) l.length (bytesL l)) ∧ Hid (wr.ownsRow w.heap.size 5 1 (.slice (some ⟨B, 0, none⟩) (encR l).length (encR l).length) (encR l).length (rowK (encR l) (encR l).length k))) (fun i _ => 15 - (intOf i).toNat)
      case atStart => exact ⟨0, by omega, rfl, hE2, HR2, HO2⟩
      case round =>
        obtain ⟨k, hk, rfl, hE, hR, hO⟩ := hrel
        by_cases hk15 : k < 15
        · have hel : (encR l).length = 15 := encR_length l
          have hp := (pow_at (i := k) (by omega)).2
          have hrow : BytesAt wr (.slice (some ⟨w.heap.size, 0, none⟩) l.length l.length) l := SlAt.of_owns hR.out
          have CP := Lib.hid (fun w' (h : Ext wr w') => c_point k (by omega) w' (HT.out.ext (hE.trans h)))
          have r0 : wr.cell? ⟨B, k, none⟩ = some (.int .u8 0) := by rw [hO.out.cellAt k (by omega)]; exact rowK_get (by omega) rfl
          have r1 := hO.out.frozenAt k
          obtain ⟨p, hpp⟩ : ∃ p, powN k = p := ⟨_, rfl⟩
          rw [hpp] at CP hp
          have CV := Lib.hid (fun (w' : World) (h : Ext wr w') => c_at _ l p w' (HT.out.ext (hE.trans h)) (hrow.ext h) hl hs hp)
          obtain ⟨y, hyy⟩ : ∃ y, gval l p = y := ⟨_, rfl⟩
          rw [hyy] at CV
          have HY := Lib.hid (show (encR l).getD k 0 = y by
            rw [← hyy, ← hpp]
            simp [encR, List.getD_eq_getElem?_getD, List.getElem?_map, List.getElem?_range hk15])
          have HEL := Lib.hid hel
          have zB := World.block_lt_of_cell? _ _ r0
          simp only at zB
          clear hpp hyy hrow hel
          rw [HEL.out]
          go_wp2_with (first
            | (go_at_call 90; (with_reducible refine (CP.out _ (Ext.refl _)).mono ?_); rintro E w3 ⟨rfl, h1⟩)
            | (go_at_call 89; (with_reducible refine (CV.out _ h1).mono ?_); rintro E w4 ⟨rfl, h2⟩; have h3 := h1.trans h2; have r2 := h3.get r0; have r3 := (h3.frozen B k zB).trans r1))
          refine ⟨⟨k + 1, by omega, by go_num, (hE.trans h3).setCell (by simp; omega) _, Lib.hid (ownsRow_setCell_other (owns_ext hR.out h3) (by simp [Value.ownBlock]; omega) _), Lib.hid ?_⟩, by simp [intOf]; omega⟩
          have h := ((owns_ext hO.out h3).stored k (.int .u8 (y : Int))).1
          rw [← HY.out, rowK_set (by have := HEL.out; omega) rfl, HEL.out] at h
          rw [← HY.out]
          exact h
        · obtain rfl : k = 15 := by omega
          have hel : (encR l).length = 15 := encR_length l
          have ho := hO.out
          have HF := rowK_full (l := encR l)
          rw [hel] at HF ho ⊢
          rw [HF] at ho
          have HO := Lib.hid ho
          clear hO HF hR HO2 ho
          go_wp2
          go_ret
          exact ⟨_, rfl, by rw [hel]; exact HO.out, hE⟩
theorem c_Encode (v : Value) (l : List Nat) (w : World) (hT : Tabs w) (hv : BytesAt w v l) (hl : l.length ≤ maxLen) : Calls Tryd.prog 22 #[v] w (OwnWord l w) :=
  encode_any _ _ _ (.inl ⟨rfl, rfl, rfl⟩) v l w (c_message v l w hv hl) (fun h w' hE => c_encode v l w' (hT.ext hE) (hv.ext hE) (by have := (message_syms h).2; omega) (message_syms h).1)
end Go.Proofs.YtlnofbdhamingaaDoor
