/- What comes in: texts, images, contrasts, rows of truth values. -/
import Derived.Test.YtlnofbdhamingaaDoorGFrame
import Derived.Test.YtlnofbdhamingaaDoorGSee
import Derived.Test.YtlnofbdhamingaaDoorByteArgs
import Derived.Test.YtlnofbdhamingaaDoorGDraw
import Derived.ChangeSlices
import Derived.ChangeMaps5
import Derived.SizedLaws
import Derived.ChangeArms
import Derived.Deep.Slices
import Derived.Test.YtlnofbdhamingaaDoorGKernel
set_option linter.unusedVariables false
set_option linter.unusedSimpArgs false
namespace Go.Proofs.YtlnofbdhamingaaDoor
open Go.RowKit Go.Sort Go.ChangeShapes Go.WideShapes Go.ChangeAt Go.Deep

theorem ints_of_cell {H : Type} {enc : TypeId × Value → H} {W : World} {n t : Nat} {c : Value} {y : DataW H × List MemPlace} {P : Program} {e : TypeId} (ht : P.underlying t = some (.slice e)) (he : P.underlying e = some (.int .i64)) (hc : P.cellsOf e = 1)
    (hf : DataW.trod enc P W 0 (fun _ => true) true n t [c] = some y) :
    ∃ l : List Int, IntsAt W c l ∧ l.length ≤ maxLen ∧ (∀ n ∈ l, (Lit.int .i64 n).wf = true) ∧ (l = [] ∨ ∃ es sp, y.1 = .slice es sp ∧ es.length = l.length) := by
  rcases open_ints ht he hc hf with ⟨h1, -⟩ | ⟨a', len', cap', zs, h1, hb, hl, hm, hz, hdd, hcell, hwf⟩
  · simp at h1
    subst h1
    exact ⟨[], ⟨rfl, none, 0, rfl, Nat.le_refl _, by simp [maxLen], fun _ => rfl, fun j u hj => by simp [ints] at hj⟩, by simp [maxLen], fun n hn => by simp at hn, .inl rfl⟩
  · simp at h1
    subst h1
    simp only [if_true] at hz
    have hlen : (zs.take len').length = len' := by rw [List.length_take]; omega
    refine ⟨zs.take len', ⟨by simp [ints], some a', cap', by rw [hlen], by rw [hlen]; exact hl, hm, fun h => (by cases h), fun j u hj => ?_⟩, by rw [hlen]; omega, fun n hn => hwf n (List.mem_of_mem_take hn), .inr ⟨_, _, congrArg Prod.fst hdd, by simp [lits]⟩⟩
    have hj' : j < len' := by
      have := (List.getElem?_eq_some_iff.1 hj).1
      simp [ints] at this
      omega
    obtain ⟨b, off, rfl, hc2⟩ := ints_at hcell (by omega)
    refine ⟨b, off, rfl, ?_⟩
    rw [hc2 j (by omega)]
    simp only [ints, List.getElem?_map, List.getElem?_take_of_lt hj', List.getElem?_eq_getElem (show j < zs.length by omega), Option.map_some, Option.some.injEq] at hj
    rw [← hj, List.getD_eq_getElem?_getD, List.getElem?_eq_getElem (show j < zs.length by omega)]
    rfl
set_option maxRecDepth 100000 in
theorem read_img {H : Type} {enc : TypeId × Value → H} {W : World} {base : Nat} {v : Value} {d : DataW H} {p : List MemPlace}
    (hv : Value.okWide Tryd.prog W .any base 44 v) (h : DataW.Trod enc Tryd.prog W 0 (fun _ => true) true 44 v d p) :
    ∃ (m : Img) (u : Value), v = imgVal m u ∧ IntsAt W u m.pix ∧ m.pix.length ≤ maxLen := by
  have key : ∃ (v0 v1 v2 : Value) (y0 y1 y2 : DataW H × List MemPlace) (n : Nat), v = .agg #[v0, v1, v2] ∧ d = .agg [y0.1, y1.1, y2.1] ∧ p = y0.2 ++ (y1.2 ++ y2.2) ∧
      DataW.trod enc Tryd.prog W 0 (fun _ => true) true n 3 [v0] = some y0 ∧ DataW.trod enc Tryd.prog W 0 (fun _ => true) true n 3 [v1] = some y1 ∧ DataW.trod enc Tryd.prog W 0 (fun _ => true) true n 42 [v2] = some y2 := by
    exact Joins.open_agg3 Tryd.underlying44 (by kernel_rfl) (by kernel_rfl) hv h
  obtain ⟨v0, v1, v2, y0, y1, y2, n, rfl, hd, -, h0, h1, h2⟩ := key
  obtain ⟨a, ha, wa⟩ := DataW.trod_int Tryd.underlying3 h0
  obtain ⟨b, hb, wb⟩ := DataW.trod_int Tryd.underlying3 h1
  simp only [List.cons.injEq, and_true] at ha hb
  subst ha hb
  obtain ⟨l, hl, hm, -, -⟩ := ints_of_cell Tryd.underlying42 Tryd.underlying3 (by kernel_rfl) h2
  exact ⟨⟨a, b, l⟩, v2, rfl, hl, hm⟩
set_option maxRecDepth 100000 in
theorem read_con {H : Type} {enc : TypeId × Value → H} {W : World} {base : Nat} {v : Value} {d : DataW H} {p : List MemPlace}
    (hv : Value.okWide Tryd.prog W .any base 46 v) (h : DataW.Trod enc Tryd.prog W 0 (fun _ => true) true 46 v d p) : ∃ c : Con, v = conVal c := by
  obtain ⟨v0, v1, y0, y1, n, rfl, -, -, h0, h1⟩ := Joins.open_agg2 Tryd.underlying46 (by kernel_rfl) (by kernel_rfl) hv h
  obtain ⟨a, ha, _⟩ := DataW.trod_int Tryd.underlying3 h0
  obtain ⟨b, hb, _⟩ := DataW.trod_int Tryd.underlying3 h1
  simp only [List.cons.injEq, and_true] at ha hb
  subst ha hb
  exact ⟨⟨a, b⟩, rfl⟩
theorem len_const {α β : Type} (f : α → List β) (n : Nat) : ∀ l : List α, (∀ x, (f x).length = n) → (l.flatMap f).length = l.length * n
  | [], _ => by simp
  | x :: l, h => by
    rw [List.flatMap_cons, List.length_append, h x, len_const f n l h, List.length_cons, Nat.add_mul]
    omega
theorem flat_get {α : Type} (f : α → List Value) (n : Nat) (d : α) (hf : ∀ x, (f x).length = n) (l : List α) : ∀ (i k : Nat), i < l.length → k < n → (l.flatMap f)[i * n + k]? = (f (l.getD i d))[k]? := by
  induction l with
  | nil => intro i k h; simp at h
  | cons x l ih =>
    intro i k hi hk
    rw [List.flatMap_cons]
    match i with
    | 0 =>
      rw [List.getElem?_append_left (by rw [hf]; omega)]
      simp
    | i + 1 =>
      have e : (i + 1) * n + k = n + (i * n + k) := by rw [Nat.add_mul]; omega
      rw [List.getElem?_append_right (by rw [hf]; omega)]
      have := ih i k (by simpa using hi) hk
      rw [hf, e, Nat.add_sub_cancel_left, this]
      simp
theorem read_rows {H : Type} {enc : TypeId × Value → H} {W : World} {P : Program} {α : Type} (f : α → List Value) (k : Nat) (hk : ∀ x, (f x).length = k) (hp : 0 < k) {t e : TypeId} {fuel : Nat} {c : Value} {y : DataW H × List MemPlace}
    (ht : P.underlying t = some (.slice e)) (hC : P.cellsOf e = k) (hread : ∀ n cs y, DataW.trod enc P W 0 (fun _ => true) true n e cs = some y → ∃ x, cs = f x)
    (h : DataW.trod enc P W 0 (fun _ => true) true fuel t [c] = some y) : ∃ l : List α, SlAt W k c l.length (l.flatMap f) := by
  rcases open_slice ht h with h0 | ⟨a, len, cap, m, n, D, Pl, hcs, hb, hl, hm, hmm, hx, hi⟩
  · have h0 := h0.1
    simp only [List.cons.injEq, and_true] at h0
    subst h0
    exact ⟨[], SlAt.nil W k⟩
  simp only [List.cons.injEq, and_true] at hcs
  subst hcs
  simp only [if_true] at hmm
  obtain rfl : cap = m := hmm.symm
  have hget : ∀ i, i < len → ∃ x : α, ∀ j, j < k → W.cell? (a.add (i * k + j)) = (f x)[j]? := by
    intro i hlt
    obtain ⟨cs', hc, ht'⟩ := hi i (by omega)
    rw [hC] at hc
    obtain ⟨x, rfl⟩ := hread _ _ _ ht'
    obtain ⟨_, hcl, hat⟩ := World.cells?_some hc
    refine ⟨x, fun j hj => ?_⟩
    rw [← Go.Deep.add_add]
    exact hat j hj
  rcases Nat.eq_zero_or_pos len with h0 | h0
  · subst h0
    exact ⟨[], (by simp), some a, cap, rfl, Nat.zero_le _, hm, (fun h => (by cases h)), fun j u hj => (by simp at hj)⟩
  · obtain ⟨x0, hx0⟩ := hget 0 h0
    obtain ⟨b, off, spot⟩ := a
    have hspot : spot = none := by
      have h1 := hx0 0 hp
      rw [List.getElem?_eq_getElem (by rw [hk]; exact hp)] at h1
      simpa [Addr.add] using World.cell?_spot h1
    subst hspot
    let g : Nat → α := fun i => if h : i < len then (hget i h).choose else x0
    have hg : ∀ i, i < len → ∀ j, j < k → W.cell? ⟨b, off + (i * k + j), none⟩ = (f (g i))[j]? := by
      intro i h j hj
      have hh := (hget i h).choose_spec j hj
      have e : g i = (hget i h).choose := dif_pos h
      rw [e]
      simpa only [Addr.add_lit] using hh
    have hlen : ((List.range len).map g).length = len := by simp
    refine ⟨(List.range len).map g, ?_, some ⟨b, off, none⟩, cap, by rw [hlen], by rw [hlen]; exact hl, hm, (fun h => (by cases h)), fun j u hj => ⟨b, off, rfl, ?_⟩⟩
    · rw [len_const f k _ hk]
    · obtain ⟨q, r, hr, rfl⟩ : ∃ q r, r < k ∧ j = q * k + r := ⟨j / k, j % k, Nat.mod_lt _ hp, by rw [Nat.mul_comm]; exact (Nat.div_add_mod j k).symm⟩
      have hq : q < len := by
        have := (List.getElem?_eq_some_iff.1 hj).1
        rw [len_const f k _ hk, hlen] at this
        rcases Nat.lt_or_ge q len with h | h
        · exact h
        · have := Nat.mul_le_mul_right k h
          omega
      rw [flat_get f k x0 hk _ q r (by rw [hlen]; exact hq) hr] at hj
      have eg : ((List.range len).map g).getD q x0 = g q := by simp [List.getD_eq_getElem?_getD, List.getElem?_map, List.getElem?_range hq]
      rw [eg] at hj
      rw [hg q hq r hr]
      exact hj
theorem bools_flat (l : List Bool) : l.flatMap (fun b => [Value.bool b]) = boolsL l := by
  induction l with
  | nil => rfl
  | cons a l ih => rw [List.flatMap_cons, ih]; rfl
set_option maxRecDepth 100000 in
theorem read_bools {H : Type} {enc : TypeId × Value → H} {W : World} {base : Nat} {v : Value} {d : DataW H} {p : List MemPlace}
    (hv : Value.okWide Tryd.prog W .any base 36 v) (h : DataW.Trod enc Tryd.prog W 0 (fun _ => true) true 36 v d p) :
    ∃ l : List Bool, BoolsAt W v l ∧ l.length ≤ maxLen := by
  obtain ⟨a, len, cap, rfl⟩ := okWide_slice Tryd.underlying36 hv
  obtain ⟨fuel, hf⟩ := h
  obtain ⟨l, hl⟩ := read_rows (fun b : Bool => [Value.bool b]) 1 (fun _ => rfl) (by omega) Tryd.underlying36 (by kernel_rfl) (fun n cs y hy => by
    obtain ⟨b, rfl, -⟩ := DataW.trod_bool Tryd.underlying4 hy
    exact ⟨b, rfl⟩) hf
  rw [bools_flat] at hl
  refine ⟨l, hl, ?_⟩
  obtain ⟨-, ao, cap', he, h1, h2, -⟩ := hl
  omega
end Go.Proofs.YtlnofbdhamingaaDoor
