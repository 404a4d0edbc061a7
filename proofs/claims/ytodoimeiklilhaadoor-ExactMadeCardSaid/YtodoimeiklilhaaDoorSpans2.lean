/- The walks of layer 1's spans, CheckSpan, In. -/
import Derived.Test.YtodoimeiklilhaaDoorSpans
set_option linter.unusedVariables false
set_option linter.unusedSimpArgs false
namespace Go.Proofs.YtodoimeiklilhaaDoor
open Go.RowKit Go.Sort

structure Span where
  lo : Frac
  hi : Frac
  deriving DecidableEq
abbrev fspanV (s : Span) : Value := .agg #[.int .i64 s.lo.num, .int .i64 s.lo.den, .int .i64 s.hi.num, .int .i64 s.hi.den]
def span0 : Span := ⟨frac0, frac0⟩
def Span.wide (s : Span) : Prop := s.lo.wide ∧ s.hi.wide
def Span.ok (s : Span) : Prop := s.lo.ok ∧ s.hi.ok ∧ s.lo.val ≤ s.hi.val
instance (s : Span) : Decidable s.ok := by unfold Span.ok; infer_instance
def spanCells (s : Span) : Array Value := #[.int .i64 s.lo.num, .int .i64 s.lo.den, .int .i64 s.hi.num, .int .i64 s.hi.den]
def SpanCells (w : World) (b off : Nat) (l : List Span) : Prop := ∀ j, j < l.length → w.cell? ⟨b, off + j * 4, none⟩ = some (.int .i64 (l.getD j span0).lo.num) ∧ w.cell? ⟨b, off + j * 4 + 1, none⟩ = some (.int .i64 (l.getD j span0).lo.den) ∧
  w.cell? ⟨b, off + j * 4 + 2, none⟩ = some (.int .i64 (l.getD j span0).hi.num) ∧ w.cell? ⟨b, off + j * 4 + 3, none⟩ = some (.int .i64 (l.getD j span0).hi.den)
theorem sall_no {l : List Span} {k : Nat} (hk : k < l.length) (h : ¬ (l.getD k span0).ok) : l.all (fun a => decide a.ok) = false := by
  rw [List.all_eq_false]
  refine ⟨l.getD k span0, ?_, by simpa using h⟩
  rw [List.getD_eq_getElem?_getD, List.getElem?_eq_getElem hk]
  exact List.getElem_mem hk
theorem sall_yes {l : List Span} (h : ∀ j, j < l.length → (l.getD j span0).ok) : l.all (fun a => decide a.ok) = true := by
  rw [List.all_eq_true]
  intro a ha
  obtain ⟨j, hj, rfl⟩ := List.getElem_of_mem ha
  have := h j hj
  rw [List.getD_eq_getElem?_getD, List.getElem?_eq_getElem hj] at this
  simpa using this
set_option maxRecDepth 100000 in
set_option maxHeartbeats 4000000 in
theorem c_spans (l : List Span) (b off : Nat) (hl : l.length ≤ 100) (hw : ∀ a ∈ l, a.wide) (w : World) (hc : SpanCells w b off l) :
    Calls Tryd.prog 63 #[.slice (some ⟨b, off, none⟩) l.length l.length] w fun e w' => e = .returned (.bool (l.all fun a => decide a.ok)) ∧ Ext w w' := by
  have HC := Lib.hid hc
  have HW := Lib.hid hw
  clear hc hw
  go_enter Tryd.func63, Tryd.ntmps63
  go_wp2
  go_loopw [7] (fun i wr => Ext w wr ∧ ∃ k : Nat, k ≤ l.length ∧ i = .int .i64 k ∧ Hid (∀ j, j < k → (l.getD j span0).ok)) (fun i _ => l.length - (intOf i).toNat)
  case atStart => exact ⟨Ext.refl _, 0, Nat.zero_le _, rfl, fun j hj => by omega⟩
  case round =>
    obtain ⟨hE, k, hk, rfl, hd⟩ := hrel
    by_cases hkl : k < l.length
    · obtain ⟨g0, g1, g2, g3⟩ := HC.out k hkl
      obtain ⟨s, hs⟩ : ∃ s, l.getD k span0 = s := ⟨_, rfl⟩
      have hws : s.wide := HW.out s (by rw [← hs, List.getD_eq_getElem?_getD, List.getElem?_eq_getElem hkl]; exact List.getElem_mem hkl)
      rw [hs] at g0 g1 g2 g3
      replace g0 := hE.get g0
      replace g1 := hE.get g1
      replace g2 := hE.get g2
      replace g3 := hE.get g3
      have zb := World.block_lt_of_cell? _ _ g0
      simp only at zb
      have HS := Lib.hid hs
      clear hs
      have zw : wr.heap.size < (wr.alloc (.cells #[.int .i64 s.lo.num, .int .i64 s.lo.den, .int .i64 s.hi.num, .int .i64 s.hi.den] 41)).heap.size := by rw [size_one]; omega
      by_cases hv : s.lo.ok ∧ s.hi.ok
      · obtain ⟨⟨ln, ld⟩, ⟨hn, hd2⟩⟩ := s
        obtain ⟨p, hp, ep⟩ := Frac.of_ok hv.1
        obtain ⟨q, hq, eq⟩ := Frac.of_ok hv.2
        simp only at ep eq
        cases ep
        cases eq
        obtain ⟨m, hm⟩ : ∃ m, cmp p q = m := ⟨_, rfl⟩
        have HM := Lib.hid (show (m ≤ 0 ↔ p ≤ q) by rw [← hm, ← Rat.not_lt, ← cmp_pos_iff]; omega)
        have CO := Lib.hid (fun w => (hm ▸ c_order p q hp hq w : Calls Tryd.prog 61 #[ratV p, ratV q] w fun e w' => e = .returned (.int .i64 m) ∧ Ext w w'))
        have tv : decide ((fracOf p).ok ∧ (fracOf q).ok) = true := decide_eq_true ⟨fracOf_ok hp, fracOf_ok hq⟩
        have g0' : wr.cell? ⟨b, off + k * 4, none⟩ = some (.int .i64 (nm p)) := g0
        have g1' : wr.cell? ⟨b, off + k * 4 + 1, none⟩ = some (.int .i64 (dn p)) := g1
        have g2' : wr.cell? ⟨b, off + k * 4 + 2, none⟩ = some (.int .i64 (nm q)) := g2
        have g3' : wr.cell? ⟨b, off + k * 4 + 3, none⟩ = some (.int .i64 (dn q)) := g3
        clear hv hm g0 g1 g2 g3 zw
        by_cases hmz : m ≤ 0
        · have t1 : decide (0 < m) = false := decide_eq_false (by omega)
          have HOK := Lib.hid (show (l.getD k span0).ok by rw [HS.out]; exact ⟨fracOf_ok hp, fracOf_ok hq, by show (fracOf p).val ≤ (fracOf q).val; rw [fracOf_val, fracOf_val]; exact HM.out.1 hmz⟩)
          clear hmz
          go_wp2_with (first | (go_at_call 48; refine (c_valid2 (fracOf p) (fracOf q) (wide_of hp) (wide_of hq) _ _ (by exact blk_at _ _ (by simp))).mono ?_; rintro e w' ⟨rfl, hb⟩; have hc := hb.cell; have hf := hb.frozen; have hz := hb.size; (try simp at hz); have z5 : wr.heap.size < w'.heap.size := (by omega)) | (go_at_call 61; refine (CO.out _).mono ?_; rintro e w' ⟨rfl, hb2⟩))
          go_roundw
          case rel => exact ⟨hE.trans (by repeat (first | exact Ext.refl _ | assumption | refine Ext.alloc ?_ _ | refine Ext.drewN ?_ _ | refine ext_grow ?_ _ _ | refine Ext.setCell ?_ (by first | exact Nat.le_refl _ | omega | (simp; done) | (simp; omega)) _ | refine Ext.trans ?_ (by assumption))), k + 1, by omega, by go_num, fun j hj => by
            rcases Nat.lt_or_ge j k with h | h
            · exact hd.out j h
            · obtain rfl : j = k := by omega
              exact HOK.out⟩
          case measure => simp [intOf]; omega
        · have t1 : decide (0 < m) = true := decide_eq_true (by omega)
          have HNO := Lib.hid (show ¬ (l.getD k span0).ok by
            rw [HS.out]; rintro ⟨_, _, h⟩
            have h' : (fracOf p).val ≤ (fracOf q).val := h
            rw [fracOf_val, fracOf_val] at h'
            exact hmz (HM.out.2 h'))
          clear hmz
          go_wp2_with (first | (go_at_call 48; refine (c_valid2 (fracOf p) (fracOf q) (wide_of hp) (wide_of hq) _ _ (by exact blk_at _ _ (by simp))).mono ?_; rintro e w' ⟨rfl, hb⟩; have hc := hb.cell; have hf := hb.frozen; have hz := hb.size; (try simp at hz); have z5 : wr.heap.size < w'.heap.size := (by omega)) | (go_at_call 61; refine (CO.out _).mono ?_; rintro e w' ⟨rfl, hb2⟩))
          go_ret
          exact ⟨ret_bool (sall_no hkl HNO.out).symm, hE.trans (by repeat (first | exact Ext.refl _ | assumption | refine Ext.alloc ?_ _ | refine Ext.drewN ?_ _ | refine ext_grow ?_ _ _ | refine Ext.setCell ?_ (by first | exact Nat.le_refl _ | omega | (simp; done) | (simp; omega)) _ | refine Ext.trans ?_ (by assumption)))⟩
      · have HNO := Lib.hid (show ¬ (l.getD k span0).ok by rw [HS.out]; rintro ⟨h1, h2, _⟩; exact hv ⟨h1, h2⟩)
        have tv : decide (s.lo.ok ∧ s.hi.ok) = false := decide_eq_false hv
        clear hv
        go_wp2_with (go_at_call 48; refine (c_valid2 s.lo s.hi hws.1 hws.2 _ _ (by exact blk_at _ _ (by simp))).mono ?_; rintro e w' ⟨rfl, hb⟩; have hc := hb.cell; have hf := hb.frozen; have hz := hb.size; (try simp at hz); have z5 : wr.heap.size < w'.heap.size := (by omega))
        go_ret
        exact ⟨ret_bool (sall_no hkl HNO.out).symm, hE.trans (by repeat (first | exact Ext.refl _ | assumption | refine Ext.alloc ?_ _ | refine Ext.drewN ?_ _ | refine ext_grow ?_ _ _ | refine Ext.setCell ?_ (by first | exact Nat.le_refl _ | omega | (simp; done) | (simp; omega)) _ | refine Ext.trans ?_ (by assumption)))⟩
    · have HD := Lib.hid (sall_yes (l := l) fun j hj => hd.out j (by omega))
      go_wp2
      go_ret
      exact ⟨ret_bool HD.out.symm, hE⟩
theorem c_spans1 (a : Span) (ha : a.wide) (k : Nat) (w : World) (h : w.heap[k]? = some (.cells #[.int .i64 a.lo.num, .int .i64 a.lo.den, .int .i64 a.hi.num, .int .i64 a.hi.den] 41)) :
    Calls Tryd.prog 63 #[.slice (some ⟨k, 0, none⟩) 1 1] w fun e w' => e = .returned (.bool (decide a.ok)) ∧ Ext w w' := by
  have := c_spans [a] k 0 (by simp) (by simpa using ha) w (fun j hj => by
    simp at hj
    subst hj
    exact ⟨cell_of_at h 0 rfl, cell_of_at h 1 rfl, cell_of_at h 2 rfl, cell_of_at h 3 rfl⟩)
  simpa using this
theorem c_spans2 (a b : Span) (ha : a.wide) (hb : b.wide) (k : Nat) (w : World) (h : w.heap[k]? = some (.cells #[.int .i64 a.lo.num, .int .i64 a.lo.den, .int .i64 a.hi.num, .int .i64 a.hi.den, .int .i64 b.lo.num, .int .i64 b.lo.den, .int .i64 b.hi.num, .int .i64 b.hi.den] 41)) :
    Calls Tryd.prog 63 #[.slice (some ⟨k, 0, none⟩) 2 2] w fun e w' => e = .returned (.bool (decide (a.ok ∧ b.ok))) ∧ Ext w w' := by
  have := c_spans [a, b] k 0 (by simp) (by simpa using ⟨ha, hb⟩) w (fun j hj => by
    match j, hj with
    | 0, _ => exact ⟨cell_of_at h 0 rfl, cell_of_at h 1 rfl, cell_of_at h 2 rfl, cell_of_at h 3 rfl⟩
    | 1, _ => exact ⟨cell_of_at h 4 rfl, cell_of_at h 5 rfl, cell_of_at h 6 rfl, cell_of_at h 7 rfl⟩)
  simpa [Bool.decide_and] using this
end Go.Proofs.YtodoimeiklilhaaDoor
