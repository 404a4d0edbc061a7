/- What comes in: tracks. -/
import Derived.Test.YtcbimfaneinpkaaOpen
import Derived.Test.YtcbimfaneinpkaaTwin
import Derived.Deep.Slices
import Derived.Deep.Fields
import Derived.ChangeSame
set_option linter.unusedVariables false
set_option linter.unusedSimpArgs false
namespace Go.Proofs.Ytcbimfaneinpkaa
open Go.RowKit Go.Sort Go.ChangeShapes Go.WideShapes Go.ChangeAt Go.Deep

section
variable {H : Type} {enc : TypeId × Value → H} {P : Program} {w : World} {base : Nat} {spare : Nat → Bool} {held : Bool}
theorem open_slice_fields {t e : TypeId} {fs : Array Field} {fuel : Nat} {cs : List Value} {x : DataW H × List MemPlace} (ht : P.underlying t = some (.slice e)) (he : P.underlying e = some (.struct fs))
    (hone : oneCellFields P fs = true) (hC : P.cellsOf e = fs.size) (h : DataW.trod enc P w base spare held fuel t cs = some x) :
    cs = [.slice none 0 0] ∨
    ∃ (a : Addr) (len cap m : Nat), cs = [.slice (some a) len cap] ∧ len ≤ cap ∧ cap ≤ maxLen ∧ m = (if spare a.block then cap else len) ∧
      ∀ i, i < m → ∃ (ys : List (DataW H × List MemPlace)) (n : Nat), ys.length = fs.size ∧
        ∀ (j : Nat) (f : Field), fs[j]? = some f → ∃ (v : Value) (y : DataW H × List MemPlace), w.cell? (a.add (i * fs.size + j)) = some v ∧ ys[j]? = some y ∧ DataW.trod enc P w base spare held n f.type [v] = some y := by
  rcases open_slice ht h with h0 | ⟨a, len, cap, m, n, D, Pl, hcs, hb, hl, hm, hmm, hx, hi⟩
  · exact .inl h0.1
  · refine .inr ⟨a, len, cap, m, hcs, hl, hm, hmm, fun i him => ?_⟩
    obtain ⟨cs', hc, ht'⟩ := hi i him
    rw [hC] at hc
    obtain ⟨ys, n', hn', hy, hlen, hyl, hf⟩ := DataW.trod_struct he ht'
    obtain ⟨_, hcl, hat⟩ := World.cells?_some hc
    refine ⟨ys, n', hyl, fun j f hj => ?_⟩
    obtain ⟨ho, hk⟩ := hone_of hone j f hj
    have hjl : j < fs.size := (Array.getElem?_eq_some_iff.1 hj).1
    have hcell := hat j hjl
    have hv : cs'[j]? = some (cs'[j]'(by omega)) := List.getElem?_eq_getElem (by omega)
    have h1 := hf j f hj
    rw [ho, hk] at h1
    have hone' : (cs'.drop j).take 1 = [cs'[j]'(by omega)] := by
      rw [List.drop_eq_getElem_cons (by omega)]
      rfl
    rw [hone'] at h1
    have hys : ys[j]? = some (ys[j]'(by omega)) := List.getElem?_eq_getElem (by omega)
    refine ⟨_, _, ?_, hys, h1.trans hys⟩
    rw [← Go.Deep.add_add, hcell, hv]
end
set_option maxRecDepth 100000 in
/-- a slice of parts that came in -/
theorem read_seens {H : Type} {enc : TypeId × Value → H} {W : World} {fuel : Nat} {c : Value} {y : DataW H × List MemPlace} (h : DataW.trod enc Try.prog W 0 (fun _ => true) true fuel 45 [c] = some y) :
    ∃ l : List Seen, SeensAt W c l ∧ l.length ≤ maxLen ∧ ∀ x ∈ l, 0 ≤ x.verdict ∧ x.verdict ≤ 255 := by
  rcases open_slice_fields (fs := _) Try.underlying45 Try.underlying63 (by kernel_rfl) (by kernel_rfl) h with h0 | ⟨a, len, cap, m, hcs, hl, hm, hmm, hi⟩
  · simp only [List.cons.injEq, and_true] at h0
    subst h0
    exact ⟨[], SlAt.nil W 4, by simp [maxLen], fun x hx => by simp at hx⟩
  · simp only [List.cons.injEq, and_true] at hcs
    subst hcs
    simp only [if_true] at hmm
    obtain rfl : cap = m := hmm.symm
    have hget : ∀ i, i < len → ∃ x : Seen, (0 ≤ x.verdict ∧ x.verdict ≤ 255) ∧ W.cell? (a.add (i * 4)) = some (.int .i64 x.id) ∧ W.cell? (a.add (i * 4 + 1)) = some (.int .i64 x.at_) ∧ W.cell? (a.add (i * 4 + 2)) = some (.int .u8 x.verdict) ∧ W.cell? (a.add (i * 4 + 3)) = some (.bool x.hit) := by
      intro i hlt
      obtain ⟨ys, n, hyl, hf⟩ := hi i (by omega)
      obtain ⟨v0, y0, c0, -, t0⟩ := hf 0 _ rfl
      obtain ⟨v1, y1, c1, -, t1⟩ := hf 1 _ rfl
      obtain ⟨v2, y2, c2, -, t2⟩ := hf 2 _ rfl
      obtain ⟨v3, y3, c3, -, t3⟩ := hf 3 _ rfl
      obtain ⟨a0, e0, _⟩ := DataW.trod_int Try.underlying3 t0
      obtain ⟨a1, e1, _⟩ := DataW.trod_int Try.underlying3 t1
      obtain ⟨a2, e2, -, w2⟩ := DataW.trod_int Try.underlying5 t2
      obtain ⟨a3, e3, _⟩ := DataW.trod_bool Try.underlying4 t3
      simp only [List.cons.injEq, and_true] at e0 e1 e2 e3
      subst e0 e1 e2 e3
      exact ⟨⟨a0, a1, a2, a3⟩, bounds_u8 w2, c0, c1, c2, c3⟩
    rcases Nat.eq_zero_or_pos len with h0 | h0
    · subst h0
      exact ⟨[], ⟨rfl, some a, cap, rfl, Nat.zero_le _, hm, (fun h => (by cases h)), (fun j u hj => (by simp [seens] at hj))⟩, by simp [maxLen], (fun x hx => (by simp at hx))⟩
    · obtain ⟨b, off, spot⟩ := a
      have hspot : spot = none := by
        obtain ⟨x, -, hc, -⟩ := hget 0 h0
        simpa [Addr.add] using World.cell?_spot hc
      subst hspot
      let f : Nat → Seen := fun i => if h : i < len then (hget i h).choose else seen0
      have hfs : ∀ i, i < len → (0 ≤ (f i).verdict ∧ (f i).verdict ≤ 255) ∧ W.cell? ⟨b, off + i * 4, none⟩ = some (.int .i64 (f i).id) ∧ W.cell? ⟨b, off + (i * 4 + 1), none⟩ = some (.int .i64 (f i).at_) ∧ W.cell? ⟨b, off + (i * 4 + 2), none⟩ = some (.int .u8 (f i).verdict) ∧ W.cell? ⟨b, off + (i * 4 + 3), none⟩ = some (.bool (f i).hit) := by
        intro i h
        have hh := (hget i h).choose_spec
        have e : f i = (hget i h).choose := dif_pos h
        rw [e]
        simpa only [Addr.add_lit] using hh
      refine ⟨(List.range len).map f, ⟨by simp [seens_length], some ⟨b, off, none⟩, cap, by simp, by simpa using hl, hm, (fun h => (by cases h)), fun j u hj => ⟨b, off, rfl, ?_⟩⟩, by simp; omega, fun x hx => ?_⟩
      · obtain ⟨q, r, hr, rfl⟩ : ∃ q r, r < 4 ∧ j = q * 4 + r := ⟨j / 4, j % 4, by omega, by omega⟩
        have hq : q < len := by
          have := (List.getElem?_eq_some_iff.1 hj).1
          rw [seens_length] at this
          simp at this
          omega
        rw [seens_get _ q r (by simpa using hq) hr] at hj
        have eg : ((List.range len).map f).getD q seen0 = f q := by simp [List.getD_eq_getElem?_getD, List.getElem?_map, List.getElem?_range hq]
        rw [eg] at hj
        obtain ⟨-, c0, c1, c2, c3⟩ := hfs q hq
        match r, hr with
        | 0, _ => simp [seenCells] at hj; subst hj; exact c0
        | 1, _ => simp [seenCells] at hj; subst hj; exact c1
        | 2, _ => simp [seenCells] at hj; subst hj; exact c2
        | 3, _ => simp [seenCells] at hj; subst hj; exact c3
      · obtain ⟨i, hi2, rfl⟩ := List.mem_map.1 hx
        exact (hfs i (List.mem_range.1 hi2)).1
set_option maxRecDepth 100000 in
/-- a track that came in -/
theorem read_track {H : Type} {enc : TypeId × Value → H} {W : World} {base : Nat} {v : Value} {d : DataW H} {p : List MemPlace}
    (hv : Value.okWide Try.prog W .any base 47 v) (h : DataW.Trod enc Try.prog W 0 (fun _ => true) true 47 v d p) :
    ∃ (t : Track) (u : Value), v = trackVal t u ∧ SeensAt W u t.parts ∧ t.parts.length ≤ maxLen ∧ ∀ x ∈ t.parts, 0 ≤ x.verdict ∧ x.verdict ≤ 255 := by
  obtain ⟨cs, rfl, hsz⟩ := okWide_struct Try.underlying47 hv
  have hsz7 : cs.size = 7 := hsz.trans (by kernel_rfl)
  obtain ⟨l⟩ := cs
  match l, hsz7 with
  | [c0, c1, c2, c3, c4, c5, c6], _ =>
    obtain ⟨fuel, hf⟩ := h
    obtain ⟨xs, n, -, -, -, hlen, hg⟩ := DataW.trod_struct Try.underlying47 hf
    have g0 := hg 0 _ rfl
    have g1 := hg 1 _ rfl
    have g2 := hg 2 _ rfl
    have g3 := hg 3 _ rfl
    match xs, hlen with
    | [y0, y1, y2, y3], _ =>
      have k23 : Try.prog.cellsOf 23 = 4 := by kernel_rfl
      have k3 : Try.prog.cellsOf 3 = 1 := by kernel_rfl
      have k45 : Try.prog.cellsOf 45 = 1 := by kernel_rfl
      simp [Value.cells, k23, k3, k45] at g0 g1 g2 g3
      obtain ⟨a4, e4, _⟩ := DataW.trod_int Try.underlying3 g1
      obtain ⟨a5, e5, _⟩ := DataW.trod_int Try.underlying3 g2
      obtain ⟨zs, n2, -, -, -, hlen2, hg2⟩ := DataW.trod_struct Try.underlying23 g0
      have q0 := hg2 0 _ rfl
      have q1 := hg2 1 _ rfl
      have q2 := hg2 2 _ rfl
      have q3 := hg2 3 _ rfl
      match zs, hlen2 with
      | [z0, z1, z2, z3], _ =>
        simp [k3] at q0 q1 q2 q3
        obtain ⟨a0, e0, _⟩ := DataW.trod_int Try.underlying3 q0
        obtain ⟨a1, e1, _⟩ := DataW.trod_int Try.underlying3 q1
        obtain ⟨a2, e2, _⟩ := DataW.trod_int Try.underlying3 q2
        obtain ⟨a3, e3, _⟩ := DataW.trod_int Try.underlying3 q3
        simp only [List.cons.injEq, and_true] at e0 e1 e2 e3 e4 e5
        subst e0 e1 e2 e3 e4 e5
        obtain ⟨l, hl, hm, hx⟩ := read_seens g3
        exact ⟨⟨⟨a0, a1, a2, a3⟩, a4, a5, l⟩, c6, rfl, hl, hm, hx⟩
end Go.Proofs.Ytcbimfaneinpkaa
