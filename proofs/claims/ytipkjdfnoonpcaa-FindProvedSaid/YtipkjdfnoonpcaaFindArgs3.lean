/- Searches that come in. -/
import Derived.Test.YtipkjdfnoonpcaaFindArgs2
import Derived.Test.YtipkjdfnoonpcaaGE
import Derived.Deep.Slices
set_option linter.unusedVariables false
set_option linter.unusedSimpArgs false
namespace Go.Proofs.Ytipkjdfnoonpcaa
open Go.RowKit Go.Sort Go.ChangeShapes Go.WideShapes Go.ChangeAt Go.Deep

/-- a slice of structs that came in, whatever a struct reads as -/
theorem read_rows {H : Type} {enc : TypeId × Value → H} {W : World} {P : Program} {α : Type} (f : α → List Value) (k : Nat) (hk : ∀ x, (f x).length = k) (hp : 0 < k) {t e : TypeId} {fuel : Nat} {c : Value} {y : DataW H × List MemPlace}
    (ht : P.underlying t = some (.slice e)) (hC : P.cellsOf e = k) (hread : ∀ n cs y, DataW.trod enc P W 0 (fun _ => true) true n e cs = some y → ∃ x, cs = f x)
    (h : DataW.trod enc P W 0 (fun _ => true) true fuel t [c] = some y) : ∃ l : List α, SlAt W k c l.length (l.flatMap f) := by
  rcases open_slice ht h with h0 | ⟨a, len, cap, m, n, D, Pl, hcs, hb, hl, hm, hmm, hx, hi⟩
  · have h0 := h0.1
    simp only [List.cons.injEq, and_true] at h0
    subst h0
    exact ⟨[], SlAt.nil W k⟩
  simp only [List.cons.injEq, and_true] at hcs
  subst hcs
  simp only [if_true] at hmm
  obtain rfl : cap = m := hmm.symm
  have hget : ∀ i, i < len → ∃ x : α, ∀ j, j < k → W.cell? (a.add (i * k + j)) = (f x)[j]? := by
    intro i hlt
    obtain ⟨cs', hc, ht'⟩ := hi i (by omega)
    rw [hC] at hc
    obtain ⟨x, rfl⟩ := hread _ _ _ ht'
    obtain ⟨_, hcl, hat⟩ := World.cells?_some hc
    refine ⟨x, fun j hj => ?_⟩
    rw [← Go.Deep.add_add]
    exact hat j hj
  rcases Nat.eq_zero_or_pos len with h0 | h0
  · subst h0
    exact ⟨[], (by simp), some a, cap, rfl, Nat.zero_le _, hm, (fun h => (by cases h)), fun j u hj => (by simp at hj)⟩
  · obtain ⟨x0, hx0⟩ := hget 0 h0
    obtain ⟨b, off, spot⟩ := a
    have hspot : spot = none := by
      have h1 := hx0 0 hp
      rw [List.getElem?_eq_getElem (by rw [hk]; exact hp)] at h1
      simpa [Addr.add] using World.cell?_spot h1
    subst hspot
    let g : Nat → α := fun i => if h : i < len then (hget i h).choose else x0
    have hg : ∀ i, i < len → ∀ j, j < k → W.cell? ⟨b, off + (i * k + j), none⟩ = (f (g i))[j]? := by
      intro i h j hj
      have hh := (hget i h).choose_spec j hj
      have e : g i = (hget i h).choose := dif_pos h
      rw [e]
      simpa only [Addr.add_lit] using hh
    have hlen : ((List.range len).map g).length = len := by simp
    refine ⟨(List.range len).map g, ?_, some ⟨b, off, none⟩, cap, by rw [hlen], by rw [hlen]; exact hl, hm, (fun h => (by cases h)), fun j u hj => ⟨b, off, rfl, ?_⟩⟩
    · rw [len_const f k _ hk]
    · obtain ⟨q, r, hr, rfl⟩ : ∃ q r, r < k ∧ j = q * k + r := ⟨j / k, j % k, Nat.mod_lt _ hp, by rw [Nat.mul_comm]; exact (Nat.div_add_mod j k).symm⟩
      have hq : q < len := by
        have := (List.getElem?_eq_some_iff.1 hj).1
        rw [len_const f k _ hk, hlen] at this
        rcases Nat.lt_or_ge q len with h | h
        · exact h
        · have := Nat.mul_le_mul_right k h
          omega
      rw [flat_get f k x0 hk _ q r (by rw [hlen]; exact hq) hr] at hj
      have eg : ((List.range len).map g).getD q x0 = g q := by simp [List.getD_eq_getElem?_getD, List.getElem?_map, List.getElem?_range hq]
      rw [eg] at hj
      rw [hg q hq r hr]
      exact hj
set_option maxRecDepth 100000 in
theorem read_match {H : Type} {enc : TypeId × Value → H} {W : World} (n : Nat) (cs : List Value) (y : DataW H × List MemPlace) (h : DataW.trod enc Try.prog W 0 (fun _ => true) true n 80 cs = some y) : ∃ x : Match, cs = matchCells x := by
  obtain ⟨ys, n', hn', hy, hlen, hyl, hf⟩ := DataW.trod_struct Try.underlying80 h
  have k80 : cs.length = 5 := hlen.trans (by kernel_rfl)
  match cs, k80 with
  | [c0, c1, c2, c3, c4], _ =>
    have g0 := hf 0 _ rfl
    have g1 := hf 1 _ rfl
    match ys, hyl with
    | [y0, y1], _ =>
      have k45 : Try.prog.cellsOf 45 = 4 := by kernel_rfl
      have k3 : Try.prog.cellsOf 3 = 1 := by kernel_rfl
      simp [k45, k3] at g0 g1
      obtain ⟨a4, e4, _⟩ := DataW.trod_int Try.underlying3 g1
      obtain ⟨zs, n2, -, -, -, hlen2, hg2⟩ := DataW.trod_struct Try.underlying45 g0
      have q0 := hg2 0 _ rfl
      have q1 := hg2 1 _ rfl
      have q2 := hg2 2 _ rfl
      have q3 := hg2 3 _ rfl
      match zs, hlen2 with
      | [z0, z1, z2, z3], _ =>
        simp [k3] at q0 q1 q2 q3
        obtain ⟨a0, e0, _⟩ := DataW.trod_int Try.underlying3 q0
        obtain ⟨a1, e1, _⟩ := DataW.trod_int Try.underlying3 q1
        obtain ⟨a2, e2, _⟩ := DataW.trod_int Try.underlying3 q2
        obtain ⟨a3, e3, _⟩ := DataW.trod_int Try.underlying3 q3
        simp only [List.cons.injEq, and_true] at e0 e1 e2 e3 e4
        subst e0 e1 e2 e3 e4
        exact ⟨⟨⟨a0, a1, a2, a3⟩, a4⟩, rfl⟩
set_option maxRecDepth 100000 in
theorem read_area6 {H : Type} {enc : TypeId × Value → H} {W : World} (n : Nat) (cs : List Value) (y : DataW H × List MemPlace) (h : DataW.trod enc Try.prog W 0 (fun _ => true) true n 47 cs = some y) : ∃ x : Area, cs = areaCells x := by
  obtain ⟨ys, n', hn', hy, hlen, hyl, hf⟩ := DataW.trod_struct Try.underlying47 h
  have k47 : cs.length = 6 := hlen.trans (by kernel_rfl)
  match cs, k47 with
  | [c0, c1, c2, c3, c4, c5], _ =>
    have g0 := hf 0 _ rfl
    have g1 := hf 1 _ rfl
    have g2 := hf 2 _ rfl
    have g3 := hf 3 _ rfl
    have g4 := hf 4 _ rfl
    have g5 := hf 5 _ rfl
    match ys, hyl with
    | [y0, y1, y2, y3, y4, y5], _ =>
      have k3 : Try.prog.cellsOf 3 = 1 := by kernel_rfl
      simp [k3] at g0 g1 g2 g3 g4 g5
      obtain ⟨a0, e0, _⟩ := DataW.trod_int Try.underlying3 g0
      obtain ⟨a1, e1, _⟩ := DataW.trod_int Try.underlying3 g1
      obtain ⟨a2, e2, _⟩ := DataW.trod_int Try.underlying3 g2
      obtain ⟨a3, e3, _⟩ := DataW.trod_int Try.underlying3 g3
      obtain ⟨a4, e4, _⟩ := DataW.trod_int Try.underlying3 g4
      obtain ⟨a5, e5, _⟩ := DataW.trod_int Try.underlying3 g5
      simp only [List.cons.injEq, and_true] at e0 e1 e2 e3 e4 e5
      subst e0 e1 e2 e3 e4 e5
      exact ⟨⟨a0, a1, a2, a3, a4, a5⟩, rfl⟩
set_option maxRecDepth 100000 in
theorem read_search {H : Type} {enc : TypeId × Value → H} {W : World} {base : Nat} {v : Value} {d : DataW H} {p : List MemPlace}
    (hv : Value.okWide Try.prog W .any base 63 v) (h : DataW.Trod enc Try.prog W 0 (fun _ => true) true 63 v d p) : ∃ (ms : List Match) (ar : List Area) (mv av : Value), v = searchVal mv av ∧ MatchesAt W mv ms ∧ AreasAt W av ar := by
  obtain ⟨cs, rfl, hsz⟩ := okWide_struct Try.underlying63 hv
  have hsz2 : cs.size = 2 := hsz.trans (by kernel_rfl)
  obtain ⟨l⟩ := cs
  match l, hsz2 with
  | [c0, c1], _ =>
    obtain ⟨fuel, hf⟩ := h
    obtain ⟨xs, n, -, -, -, hlen, hg⟩ := DataW.trod_struct Try.underlying63 hf
    have g0 := hg 0 _ rfl
    have g1 := hg 1 _ rfl
    match xs, hlen with
    | [y0, y1], _ =>
      have k60 : Try.prog.cellsOf 60 = 1 := by kernel_rfl
      have k61 : Try.prog.cellsOf 61 = 1 := by kernel_rfl
      simp [Value.cells, k60, k61] at g0 g1
      obtain ⟨ms, h1⟩ := read_rows matchCells 5 (fun _ => rfl) (by omega) Try.underlying60 (by kernel_rfl) read_match g0
      obtain ⟨ar, h2⟩ := read_rows areaCells 6 (fun _ => rfl) (by omega) Try.underlying61 (by kernel_rfl) read_area6 g1
      exact ⟨ms, ar, c0, c1, rfl, h1, h2⟩
end Go.Proofs.Ytipkjdfnoonpcaa
