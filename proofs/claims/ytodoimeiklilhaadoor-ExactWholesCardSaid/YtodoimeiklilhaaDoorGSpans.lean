/- Joined from the parts Spans, Spans2, EndsBase. -/
import Derived.Test.YtodoimeiklilhaaDoorGOps
import Derived.Test.YtodoimeiklilhaaDoorGRegions
set_option linter.unusedVariables false
set_option linter.unusedSimpArgs false
/- The walks of layer 1's lesser, greater, has. -/
namespace Go.Proofs.YtodoimeiklilhaaDoor
open Go.RowKit Go.Sort

theorem cmp_neg_iff (p q : Rat) : cmp p q < 0 ↔ p < q := by
  unfold cmp; split
  · simp [*]
  · split <;> simp [*]
theorem cmp_pos_iff (p q : Rat) : 0 < cmp p q ↔ q < p := by
  unfold cmp
  by_cases h1 : p < q
  · rw [if_pos h1]; simp; exact Rat.not_lt.2 (Rat.le_of_lt h1)
  · rw [if_neg h1]
    by_cases h2 : p = q
    · rw [if_pos h2]; subst h2; simp
    · rw [if_neg h2]; simp; exact Rat.lt_of_le_of_ne (Rat.not_lt.1 h1) (fun e => h2 e.symm)
def ratMin (p q : Rat) : Rat := if q < p then q else p
def ratMax (p q : Rat) : Rat := if p < q then q else p
set_option maxHeartbeats 2000000 in
theorem c_lesser (p q : Rat) (hp : Fits p) (hq : Fits q) (w : World) :
    Calls Tryd.prog 68 #[ratV p, ratV q] w fun e w' => e = .returned (ratV (ratMin p q)) ∧ Ext w w' := by
  have CO := Lib.hid (fun w => c_order q p hq hp w)
  obtain ⟨m, hm⟩ : ∃ m, cmp q p = m := ⟨_, rfl⟩
  have hlt : m < 0 ↔ q < p := hm ▸ cmp_neg_iff q p
  rw [hm] at CO
  have HLT := Lib.hid hlt
  clear hm hlt
  by_cases h : m < 0
  · have t : decide (m < 0) = true := decide_eq_true h
    rw [show ratMin p q = q from if_pos (HLT.out.1 h)]
    go_enter Tryd.func68, Tryd.ntmps68
    go_wp2_with (go_at_call 61; refine (CO.out _).mono ?_; rintro e w' ⟨rfl, hb⟩; have hc := hb.cell; have hf := hb.frozen; have hz := hb.size; (try simp at hz); have z0 : w.heap.size < w'.heap.size := (by omega); have z1 : w.heap.size + 1 < w'.heap.size := (by omega); have z2 : w.heap.size + 1 + 1 < w'.heap.size := (by omega))
    have hB := hb.blk (three_third _ _ _ _)
    refine bodyPost_ret (RT.results_row1 rfl _ _ (w.heap.size + 1 + 1) 23 _ (0, 0) _ rfl (store_pair hB).1 Tryd.underlying23 rfl info_frac) rfl ?_
    exact ⟨rfl, (store_pair hB).2.2 w (by omega) (by repeat (first | exact Ext.refl _ | assumption | refine Ext.alloc ?_ _ | refine Ext.drewN ?_ _ | refine ext_grow ?_ _ _ | refine Ext.setCell ?_ (by first | exact Nat.le_refl _ | omega | (simp; done) | (simp; omega)) _ | refine Ext.trans ?_ (by assumption)))⟩
  · have t : decide (m < 0) = false := decide_eq_false h
    rw [show ratMin p q = p from if_neg (fun k => h (HLT.out.2 k))]
    go_enter Tryd.func68, Tryd.ntmps68
    go_wp2_with (go_at_call 61; refine (CO.out _).mono ?_; rintro e w' ⟨rfl, hb⟩; have hc := hb.cell; have hf := hb.frozen; have hz := hb.size; (try simp at hz); have z0 : w.heap.size < w'.heap.size := (by omega); have z1 : w.heap.size + 1 < w'.heap.size := (by omega); have z2 : w.heap.size + 1 + 1 < w'.heap.size := (by omega))
    have hB := hb.blk (three_third _ _ _ _)
    refine bodyPost_ret (RT.results_row1 rfl _ _ (w.heap.size + 1 + 1) 23 _ (0, 0) _ rfl (store_pair hB).1 Tryd.underlying23 rfl info_frac) rfl ?_
    exact ⟨rfl, (store_pair hB).2.2 w (by omega) (by repeat (first | exact Ext.refl _ | assumption | refine Ext.alloc ?_ _ | refine Ext.drewN ?_ _ | refine ext_grow ?_ _ _ | refine Ext.setCell ?_ (by first | exact Nat.le_refl _ | omega | (simp; done) | (simp; omega)) _ | refine Ext.trans ?_ (by assumption)))⟩
set_option maxHeartbeats 2000000 in
theorem c_greater (p q : Rat) (hp : Fits p) (hq : Fits q) (w : World) :
    Calls Tryd.prog 67 #[ratV p, ratV q] w fun e w' => e = .returned (ratV (ratMax p q)) ∧ Ext w w' := by
  have CO := Lib.hid (fun w => c_order q p hq hp w)
  obtain ⟨m, hm⟩ : ∃ m, cmp q p = m := ⟨_, rfl⟩
  have hlt : 0 < m ↔ p < q := hm ▸ cmp_pos_iff q p
  rw [hm] at CO
  have HLT := Lib.hid hlt
  clear hm hlt
  by_cases h : 0 < m
  · have t : decide (0 < m) = true := decide_eq_true h
    rw [show ratMax p q = q from if_pos (HLT.out.1 h)]
    go_enter Tryd.func67, Tryd.ntmps67
    go_wp2_with (go_at_call 61; refine (CO.out _).mono ?_; rintro e w' ⟨rfl, hb⟩; have hc := hb.cell; have hf := hb.frozen; have hz := hb.size; (try simp at hz); have z0 : w.heap.size < w'.heap.size := (by omega); have z1 : w.heap.size + 1 < w'.heap.size := (by omega); have z2 : w.heap.size + 1 + 1 < w'.heap.size := (by omega))
    have hB := hb.blk (three_third _ _ _ _)
    refine bodyPost_ret (RT.results_row1 rfl _ _ (w.heap.size + 1 + 1) 23 _ (0, 0) _ rfl (store_pair hB).1 Tryd.underlying23 rfl info_frac) rfl ?_
    exact ⟨rfl, (store_pair hB).2.2 w (by omega) (by repeat (first | exact Ext.refl _ | assumption | refine Ext.alloc ?_ _ | refine Ext.drewN ?_ _ | refine ext_grow ?_ _ _ | refine Ext.setCell ?_ (by first | exact Nat.le_refl _ | omega | (simp; done) | (simp; omega)) _ | refine Ext.trans ?_ (by assumption)))⟩
  · have t : decide (0 < m) = false := decide_eq_false h
    rw [show ratMax p q = p from if_neg (fun k => h (HLT.out.2 k))]
    go_enter Tryd.func67, Tryd.ntmps67
    go_wp2_with (go_at_call 61; refine (CO.out _).mono ?_; rintro e w' ⟨rfl, hb⟩; have hc := hb.cell; have hf := hb.frozen; have hz := hb.size; (try simp at hz); have z0 : w.heap.size < w'.heap.size := (by omega); have z1 : w.heap.size + 1 < w'.heap.size := (by omega); have z2 : w.heap.size + 1 + 1 < w'.heap.size := (by omega))
    have hB := hb.blk (three_third _ _ _ _)
    refine bodyPost_ret (RT.results_row1 rfl _ _ (w.heap.size + 1 + 1) 23 _ (0, 0) _ rfl (store_pair hB).1 Tryd.underlying23 rfl info_frac) rfl ?_
    exact ⟨rfl, (store_pair hB).2.2 w (by omega) (by repeat (first | exact Ext.refl _ | assumption | refine Ext.alloc ?_ _ | refine Ext.drewN ?_ _ | refine ext_grow ?_ _ _ | refine Ext.setCell ?_ (by first | exact Nat.le_refl _ | omega | (simp; done) | (simp; omega)) _ | refine Ext.trans ?_ (by assumption)))⟩
/-- an enclosure's value -/
abbrev spanV (lo hi : Rat) : Value := .agg #[.int .i64 (nm lo), .int .i64 (dn lo), .int .i64 (nm hi), .int .i64 (dn hi)]
set_option maxHeartbeats 2000000 in
theorem c_has (lo hi x : Rat) (hl : Fits lo) (hh : Fits hi) (hx : Fits x) (w : World) :
    Calls Tryd.prog 64 #[spanV lo hi, ratV x] w fun e w' => e = .returned (.bool (decide (lo ≤ x ∧ x ≤ hi))) ∧ Ext w w' := by
  have CA := Lib.hid (fun w => c_order lo x hl hx w)
  have CB := Lib.hid (fun w => c_order x hi hx hh w)
  obtain ⟨m, hm⟩ : ∃ m, cmp lo x = m := ⟨_, rfl⟩
  obtain ⟨k, hk⟩ : ∃ k, cmp x hi = k := ⟨_, rfl⟩
  have h1 : lo ≤ x ↔ m ≤ 0 := by rw [← hm, ← Rat.not_lt, ← cmp_pos_iff]; omega
  have h2 : x ≤ hi ↔ k ≤ 0 := by rw [← hk, ← Rat.not_lt, ← cmp_pos_iff]; omega
  rw [hm] at CA
  rw [hk] at CB
  have HA := Lib.hid h1
  have HB := Lib.hid h2
  clear h1 h2 hm hk
  by_cases g1 : m ≤ 0
  · have t1 : decide (m ≤ 0) = true := decide_eq_true g1
    go_enter Tryd.func64, Tryd.ntmps64
    go_wp2_with (first | (have tok : m ≤ 0 := g1; go_at_call 61; with_reducible refine (CA.out _).mono ?_; rintro e w' ⟨rfl, hb⟩; have hc := hb.cell; have hz := hb.size; (try simp at hz); have z0 : w.heap.size < w'.heap.size := (by omega); have z1 : w.heap.size + 1 < w'.heap.size := (by omega)) | (go_at_call 61; with_reducible refine (CB.out _).mono ?_; rintro e w' ⟨rfl, hb2⟩))
    go_ret
    refine ⟨ret_bool ?_, (by repeat (first | exact Ext.refl _ | assumption | refine Ext.alloc ?_ _ | refine Ext.drewN ?_ _ | refine ext_grow ?_ _ _ | refine Ext.setCell ?_ (by first | exact Nat.le_refl _ | omega | (simp; done) | (simp; omega)) _ | refine Ext.trans ?_ (by assumption)))⟩
    rw [Bool.eq_iff_iff]
    simp [HA.out, HB.out, g1]
  · have t1 : decide (m ≤ 0) = false := decide_eq_false g1
    go_enter Tryd.func64, Tryd.ntmps64
    go_wp2_with (go_at_call 61; with_reducible refine (CA.out _).mono ?_; rintro e w' ⟨rfl, hb⟩; have hc := hb.cell; have hz := hb.size; (try simp at hz); have z0 : w.heap.size < w'.heap.size := (by omega); have z1 : w.heap.size + 1 < w'.heap.size := (by omega))
    go_ret
    refine ⟨ret_bool ?_, (by repeat (first | exact Ext.refl _ | assumption | refine Ext.alloc ?_ _ | refine Ext.drewN ?_ _ | refine ext_grow ?_ _ _ | refine Ext.setCell ?_ (by first | exact Nat.le_refl _ | omega | (simp; done) | (simp; omega)) _ | refine Ext.trans ?_ (by assumption)))⟩
    exact (decide_eq_false (fun h => by have := HA.out.1 h.1; omega)).symm
end Go.Proofs.YtodoimeiklilhaaDoor

/- The walks of layer 1's spans, CheckSpan, In. -/
namespace Go.Proofs.YtodoimeiklilhaaDoor
open Go.RowKit Go.Sort

structure Span where
  lo : Frac
  hi : Frac
  deriving DecidableEq
abbrev fspanV (s : Span) : Value := .agg #[.int .i64 s.lo.num, .int .i64 s.lo.den, .int .i64 s.hi.num, .int .i64 s.hi.den]
def span0 : Span := ⟨frac0, frac0⟩
def Span.wide (s : Span) : Prop := s.lo.wide ∧ s.hi.wide
def Span.ok (s : Span) : Prop := s.lo.ok ∧ s.hi.ok ∧ s.lo.val ≤ s.hi.val
instance (s : Span) : Decidable s.ok := by unfold Span.ok; infer_instance
def spanCells (s : Span) : Array Value := #[.int .i64 s.lo.num, .int .i64 s.lo.den, .int .i64 s.hi.num, .int .i64 s.hi.den]
def SpanCells (w : World) (b off : Nat) (l : List Span) : Prop := ∀ j, j < l.length → w.cell? ⟨b, off + j * 4, none⟩ = some (.int .i64 (l.getD j span0).lo.num) ∧ w.cell? ⟨b, off + j * 4 + 1, none⟩ = some (.int .i64 (l.getD j span0).lo.den) ∧
  w.cell? ⟨b, off + j * 4 + 2, none⟩ = some (.int .i64 (l.getD j span0).hi.num) ∧ w.cell? ⟨b, off + j * 4 + 3, none⟩ = some (.int .i64 (l.getD j span0).hi.den)
theorem sall_no {l : List Span} {k : Nat} (hk : k < l.length) (h : ¬ (l.getD k span0).ok) : l.all (fun a => decide a.ok) = false := by
  rw [List.all_eq_false]
  refine ⟨l.getD k span0, ?_, by simpa using h⟩
  rw [List.getD_eq_getElem?_getD, List.getElem?_eq_getElem hk]
  exact List.getElem_mem hk
theorem sall_yes {l : List Span} (h : ∀ j, j < l.length → (l.getD j span0).ok) : l.all (fun a => decide a.ok) = true := by
  rw [List.all_eq_true]
  intro a ha
  obtain ⟨j, hj, rfl⟩ := List.getElem_of_mem ha
  have := h j hj
  rw [List.getD_eq_getElem?_getD, List.getElem?_eq_getElem hj] at this
  simpa using this
set_option maxRecDepth 100000 in
set_option maxHeartbeats 4000000 in
theorem c_spans (l : List Span) (b off : Nat) (hl : l.length ≤ 100) (hw : ∀ a ∈ l, a.wide) (w : World) (hc : SpanCells w b off l) :
    Calls Tryd.prog 63 #[.slice (some ⟨b, off, none⟩) l.length l.length] w fun e w' => e = .returned (.bool (l.all fun a => decide a.ok)) ∧ Ext w w' := by
  have HC := Lib.hid hc
  have HW := Lib.hid hw
  clear hc hw
  go_enter Tryd.func63, Tryd.ntmps63
  go_wp2
  go_loopw [7] (fun i wr => Ext w wr ∧ ∃ k : Nat, k ≤ l.length ∧ i = .int .i64 k ∧ Hid (∀ j, j < k → (l.getD j span0).ok)) (fun i _ => l.length - (intOf i).toNat)
  case atStart => exact ⟨Ext.refl _, 0, Nat.zero_le _, rfl, fun j hj => by omega⟩
  case round =>
    obtain ⟨hE, k, hk, rfl, hd⟩ := hrel
    by_cases hkl : k < l.length
    · obtain ⟨g0, g1, g2, g3⟩ := HC.out k hkl
      obtain ⟨s, hs⟩ : ∃ s, l.getD k span0 = s := ⟨_, rfl⟩
      have hws : s.wide := HW.out s (by rw [← hs, List.getD_eq_getElem?_getD, List.getElem?_eq_getElem hkl]; exact List.getElem_mem hkl)
      rw [hs] at g0 g1 g2 g3
      replace g0 := hE.get g0
      replace g1 := hE.get g1
      replace g2 := hE.get g2
      replace g3 := hE.get g3
      have zb := World.block_lt_of_cell? _ _ g0
      simp only at zb
      have HS := Lib.hid hs
      clear hs
      have zw : wr.heap.size < (wr.alloc (.cells #[.int .i64 s.lo.num, .int .i64 s.lo.den, .int .i64 s.hi.num, .int .i64 s.hi.den] 41)).heap.size := by rw [size_one]; omega
      by_cases hv : s.lo.ok ∧ s.hi.ok
      · obtain ⟨⟨ln, ld⟩, ⟨hn, hd2⟩⟩ := s
        obtain ⟨p, hp, ep⟩ := Frac.of_ok hv.1
        obtain ⟨q, hq, eq⟩ := Frac.of_ok hv.2
        simp only at ep eq
        cases ep
        cases eq
        obtain ⟨m, hm⟩ : ∃ m, cmp p q = m := ⟨_, rfl⟩
        have HM := Lib.hid (show (m ≤ 0 ↔ p ≤ q) by rw [← hm, ← Rat.not_lt, ← cmp_pos_iff]; omega)
        have CO := Lib.hid (fun w => (hm ▸ c_order p q hp hq w : Calls Tryd.prog 61 #[ratV p, ratV q] w fun e w' => e = .returned (.int .i64 m) ∧ Ext w w'))
        have tv : decide ((fracOf p).ok ∧ (fracOf q).ok) = true := decide_eq_true ⟨fracOf_ok hp, fracOf_ok hq⟩
        have g0' : wr.cell? ⟨b, off + k * 4, none⟩ = some (.int .i64 (nm p)) := g0
        have g1' : wr.cell? ⟨b, off + k * 4 + 1, none⟩ = some (.int .i64 (dn p)) := g1
        have g2' : wr.cell? ⟨b, off + k * 4 + 2, none⟩ = some (.int .i64 (nm q)) := g2
        have g3' : wr.cell? ⟨b, off + k * 4 + 3, none⟩ = some (.int .i64 (dn q)) := g3
        clear hv hm g0 g1 g2 g3 zw
        by_cases hmz : m ≤ 0
        · have t1 : decide (0 < m) = false := decide_eq_false (by omega)
          have HOK := Lib.hid (show (l.getD k span0).ok by rw [HS.out]; exact ⟨fracOf_ok hp, fracOf_ok hq, by show (fracOf p).val ≤ (fracOf q).val; rw [fracOf_val, fracOf_val]; exact HM.out.1 hmz⟩)
          clear hmz
          go_wp2_with (first | (go_at_call 48; refine (c_valid2 (fracOf p) (fracOf q) (wide_of hp) (wide_of hq) _ _ (by exact blk_at _ _ (by simp))).mono ?_; rintro e w' ⟨rfl, hb⟩; have hc := hb.cell; have hf := hb.frozen; have hz := hb.size; (try simp at hz); have z5 : wr.heap.size < w'.heap.size := (by omega)) | (go_at_call 61; refine (CO.out _).mono ?_; rintro e w' ⟨rfl, hb2⟩))
          go_roundw
          case rel => exact ⟨hE.trans (by repeat (first | exact Ext.refl _ | assumption | refine Ext.alloc ?_ _ | refine Ext.drewN ?_ _ | refine ext_grow ?_ _ _ | refine Ext.setCell ?_ (by first | exact Nat.le_refl _ | omega | (simp; done) | (simp; omega)) _ | refine Ext.trans ?_ (by assumption))), k + 1, by omega, by go_num, fun j hj => by
            rcases Nat.lt_or_ge j k with h | h
            · exact hd.out j h
            · obtain rfl : j = k := by omega
              exact HOK.out⟩
          case measure => simp [intOf]; omega
        · have t1 : decide (0 < m) = true := decide_eq_true (by omega)
          have HNO := Lib.hid (show ¬ (l.getD k span0).ok by
            rw [HS.out]; rintro ⟨_, _, h⟩
            have h' : (fracOf p).val ≤ (fracOf q).val := h
            rw [fracOf_val, fracOf_val] at h'
            exact hmz (HM.out.2 h'))
          clear hmz
          go_wp2_with (first | (go_at_call 48; refine (c_valid2 (fracOf p) (fracOf q) (wide_of hp) (wide_of hq) _ _ (by exact blk_at _ _ (by simp))).mono ?_; rintro e w' ⟨rfl, hb⟩; have hc := hb.cell; have hf := hb.frozen; have hz := hb.size; (try simp at hz); have z5 : wr.heap.size < w'.heap.size := (by omega)) | (go_at_call 61; refine (CO.out _).mono ?_; rintro e w' ⟨rfl, hb2⟩))
          go_ret
          exact ⟨ret_bool (sall_no hkl HNO.out).symm, hE.trans (by repeat (first | exact Ext.refl _ | assumption | refine Ext.alloc ?_ _ | refine Ext.drewN ?_ _ | refine ext_grow ?_ _ _ | refine Ext.setCell ?_ (by first | exact Nat.le_refl _ | omega | (simp; done) | (simp; omega)) _ | refine Ext.trans ?_ (by assumption)))⟩
      · have HNO := Lib.hid (show ¬ (l.getD k span0).ok by rw [HS.out]; rintro ⟨h1, h2, _⟩; exact hv ⟨h1, h2⟩)
        have tv : decide (s.lo.ok ∧ s.hi.ok) = false := decide_eq_false hv
        clear hv
        go_wp2_with (go_at_call 48; refine (c_valid2 s.lo s.hi hws.1 hws.2 _ _ (by exact blk_at _ _ (by simp))).mono ?_; rintro e w' ⟨rfl, hb⟩; have hc := hb.cell; have hf := hb.frozen; have hz := hb.size; (try simp at hz); have z5 : wr.heap.size < w'.heap.size := (by omega))
        go_ret
        exact ⟨ret_bool (sall_no hkl HNO.out).symm, hE.trans (by repeat (first | exact Ext.refl _ | assumption | refine Ext.alloc ?_ _ | refine Ext.drewN ?_ _ | refine ext_grow ?_ _ _ | refine Ext.setCell ?_ (by first | exact Nat.le_refl _ | omega | (simp; done) | (simp; omega)) _ | refine Ext.trans ?_ (by assumption)))⟩
    · have HD := Lib.hid (sall_yes (l := l) fun j hj => hd.out j (by omega))
      go_wp2
      go_ret
      exact ⟨ret_bool HD.out.symm, hE⟩
theorem c_spans1 (a : Span) (ha : a.wide) (k : Nat) (w : World) (h : w.heap[k]? = some (.cells #[.int .i64 a.lo.num, .int .i64 a.lo.den, .int .i64 a.hi.num, .int .i64 a.hi.den] 41)) :
    Calls Tryd.prog 63 #[.slice (some ⟨k, 0, none⟩) 1 1] w fun e w' => e = .returned (.bool (decide a.ok)) ∧ Ext w w' := by
  have := c_spans [a] k 0 (by simp) (by simpa using ha) w (fun j hj => by
    simp at hj
    subst hj
    exact ⟨cell_of_at h 0 rfl, cell_of_at h 1 rfl, cell_of_at h 2 rfl, cell_of_at h 3 rfl⟩)
  simpa using this
theorem c_spans2 (a b : Span) (ha : a.wide) (hb : b.wide) (k : Nat) (w : World) (h : w.heap[k]? = some (.cells #[.int .i64 a.lo.num, .int .i64 a.lo.den, .int .i64 a.hi.num, .int .i64 a.hi.den, .int .i64 b.lo.num, .int .i64 b.lo.den, .int .i64 b.hi.num, .int .i64 b.hi.den] 41)) :
    Calls Tryd.prog 63 #[.slice (some ⟨k, 0, none⟩) 2 2] w fun e w' => e = .returned (.bool (decide (a.ok ∧ b.ok))) ∧ Ext w w' := by
  have := c_spans [a, b] k 0 (by simp) (by simpa using ⟨ha, hb⟩) w (fun j hj => by
    match j, hj with
    | 0, _ => exact ⟨cell_of_at h 0 rfl, cell_of_at h 1 rfl, cell_of_at h 2 rfl, cell_of_at h 3 rfl⟩
    | 1, _ => exact ⟨cell_of_at h 4 rfl, cell_of_at h 5 rfl, cell_of_at h 6 rfl, cell_of_at h 7 rfl⟩)
  simpa [Bool.decide_and] using this
end Go.Proofs.YtodoimeiklilhaaDoor

/- What 'ends' answers, in plain Lean; and blocks of four cells. -/
namespace Go.Proofs.YtodoimeiklilhaaDoor
open Go.RowKit Go.Sort

abbrev Box := Option (Rat × Rat)
def stepBox (s : Box) (x : Rat) : Rat × Rat := match s with | none => (x, x) | some (lo, hi) => (ratMin lo x, ratMax hi x)
/-- the enclosure of the results, or the first error -/
def endsR (f : Rat → Rat → Frac × Int) : Box → List (Rat × Rat) → Box × Int
  | s, [] => (s, 0)
  | s, (p, q) :: l => if (f p q).2 = 0 then endsR f (some (stepBox s (f p q).1.val)) l else (none, (f p q).2)
def boxCells : Box → Array Value
  | none => #[.int .i64 0, .int .i64 0, .int .i64 0, .int .i64 0]
  | some (lo, hi) => #[.int .i64 (nm lo), .int .i64 (dn lo), .int .i64 (nm hi), .int .i64 (dn hi)]
abbrev boxV (s : Box) : Value := .agg (boxCells s)
abbrev sansV (r : Box × Int) : Value := .tuple #[boxV r.1, .int .i64 r.2]
def BoxFits (s : Box) : Prop := ∀ b, s = some b → Fits b.1 ∧ Fits b.2
/-- an operation: where it does not err it answers a number that fits; where it errs, nought -/
def GoodOp (f : Rat → Rat → Frac × Int) : Prop := ∀ p q, Fits p → Fits q → ((f p q).2 = 0 → ∃ x, Fits x ∧ (f p q).1 = fracOf x) ∧ ((f p q).2 ≠ 0 → (f p q).1 = ⟨0, 0⟩)
theorem answer_good (g : Rat → Rat → Rat) : GoodOp (fun p q => answer (g p q)) := by
  intro p q _ _
  show ((answer (g p q)).2 = 0 → ∃ x, Fits x ∧ (answer (g p q)).1 = fracOf x) ∧ ((answer (g p q)).2 ≠ 0 → (answer (g p q)).1 = ⟨0, 0⟩)
  unfold answer
  by_cases h : Fits (g p q)
  · rw [if_pos h]; exact ⟨fun _ => ⟨_, h, rfl⟩, fun h => absurd rfl h⟩
  · rw [if_neg h]; exact ⟨fun h => by simp at h, fun _ => rfl⟩
theorem quotR_good : GoodOp quotR := by
  intro p q _ _
  unfold quotR
  by_cases h0 : nm q = 0
  · rw [if_pos h0]; exact ⟨fun h => by simp at h, fun _ => rfl⟩
  · rw [if_neg h0]
    unfold answer
    by_cases h : Fits (p / q)
    · rw [if_pos h]; exact ⟨fun _ => ⟨_, h, rfl⟩, fun h => absurd rfl h⟩
    · rw [if_neg h]; exact ⟨fun h => by simp at h, fun _ => rfl⟩
theorem min_fits {p q : Rat} (hp : Fits p) (hq : Fits q) : Fits (ratMin p q) := by unfold ratMin; split <;> assumption
theorem max_fits {p q : Rat} (hp : Fits p) (hq : Fits q) : Fits (ratMax p q) := by unfold ratMax; split <;> assumption
theorem step_fits {s : Box} {x : Rat} (hs : BoxFits s) (hx : Fits x) : BoxFits (some (stepBox s x)) := by
  intro b hb
  obtain rfl : stepBox s x = b := by simpa using hb
  cases s with
  | none => exact ⟨hx, hx⟩
  | some b => exact ⟨min_fits (hs b rfl).1 hx, max_fits (hs b rfl).2 hx⟩
theorem drop_cons {l : List (Rat × Rat)} {k : Nat} (hk : k < l.length) : l.drop k = l.getD k (0, 0) :: l.drop (k + 1) := by
  rw [List.drop_eq_getElem_cons hk, List.getD_eq_getElem?_getD, List.getElem?_eq_getElem hk]; rfl
theorem ends_err {f : Rat → Rat → Frac × Int} {l : List (Rat × Rat)} {s : Box} {k : Nat} {p q : Rat} (hk : k < l.length) (hg : l.getD k (0, 0) = (p, q)) (h : endsR f none l = endsR f s (l.drop k)) (he : (f p q).2 ≠ 0) : endsR f none l = (none, (f p q).2) := by
  rw [h, drop_cons hk, hg]; show (if _ then _ else _) = _; rw [if_neg he]
theorem ends_ok {f : Rat → Rat → Frac × Int} {l : List (Rat × Rat)} {s : Box} {k : Nat} {p q x : Rat} (hk : k < l.length) (hg : l.getD k (0, 0) = (p, q)) (h : endsR f none l = endsR f s (l.drop k)) (he : (f p q).2 = 0) (hx : (f p q).1 = fracOf x) :
    endsR f none l = endsR f (some (stepBox s x)) (l.drop (k + 1)) := by
  rw [h, drop_cons hk, hg]; show (if _ then _ else _) = _; rw [if_pos he, hx, fracOf_val]
theorem ends_done {f : Rat → Rat → Frac × Int} {l : List (Rat × Rat)} {s : Box} {k : Nat} (hk : ¬ k < l.length) (h : endsR f none l = endsR f s (l.drop k)) : endsR f none l = (s, 0) := by
  rw [h, List.drop_eq_nil_of_le (by omega)]; rfl
theorem run_four {w : World} {b : Nat} {c0 c1 c2 c3 : Value} {e : TypeId} (h : w.heap[b]? = some (.cells #[c0, c1, c2, c3] e)) :
    (w.cell? ⟨b, 0, none⟩ = some c0 ∧ w.cell? ⟨b, 1, none⟩ = some c1 ∧ w.cell? ⟨b, 2, none⟩ = some c2 ∧ w.cell? ⟨b, 3, none⟩ = some c3) ∧ w.frozen? ⟨b, 0, none⟩ = false ∧ w.frozen? ⟨b, 1, none⟩ = false ∧ w.frozen? ⟨b, 2, none⟩ = false ∧ w.frozen? ⟨b, 3, none⟩ = false := by
  simp [World.cell?, World.frozen?, h]
theorem store_four {w : World} {b : Nat} {c0 c1 c2 c3 v0 v1 v2 v3 : Value} {e : TypeId} {fr : Nat × Nat} (h : w.heap[b]? = some (.cells #[c0, c1, c2, c3] e fr)) :
    ((((w.setCell ⟨b, 0, none⟩ v0).setCell ⟨b, 1, none⟩ v1).setCell ⟨b, 2, none⟩ v2).setCell ⟨b, 3, none⟩ v3).heap[b]? = some (.cells #[v0, v1, v2, v3] e fr) ∧
    (∀ k, k ≠ b → ((((w.setCell ⟨b, 0, none⟩ v0).setCell ⟨b, 1, none⟩ v1).setCell ⟨b, 2, none⟩ v2).setCell ⟨b, 3, none⟩ v3).heap[k]? = w.heap[k]?) ∧
      ∀ wb : World, wb.heap.size ≤ b → Ext wb w → Ext wb ((((w.setCell ⟨b, 0, none⟩ v0).setCell ⟨b, 1, none⟩ v1).setCell ⟨b, 2, none⟩ v2).setCell ⟨b, 3, none⟩ v3) := by
  refine ⟨by simp [World.setCell, Array.getElem?_modify, h], fun k hk => ?_, fun wb hb hE => (((hE.setCell hb _).setCell hb _).setCell hb _).setCell hb _⟩
  rw [Below.heap_setCell _ _ _ _ hk, Below.heap_setCell _ _ _ _ hk, Below.heap_setCell _ _ _ _ hk, Below.heap_setCell _ _ _ _ hk]
theorem info_span : (Tryd.prog.info? 41).map (·.size) = some 4 := by kernel_rfl
def PairCells (w : World) (b : Nat) (l : List (Rat × Rat)) : Prop := ∀ j, j < l.length → w.cell? ⟨b, j * 4, none⟩ = some (.int .i64 (nm (l.getD j (0, 0)).1)) ∧ w.cell? ⟨b, j * 4 + 1, none⟩ = some (.int .i64 (dn (l.getD j (0, 0)).1)) ∧
  w.cell? ⟨b, j * 4 + 2, none⟩ = some (.int .i64 (nm (l.getD j (0, 0)).2)) ∧ w.cell? ⟨b, j * 4 + 3, none⟩ = some (.int .i64 (dn (l.getD j (0, 0)).2))
end Go.Proofs.YtodoimeiklilhaaDoor
