/- What comes in: slices of bytes, read as lists of numbers. Generic: no program in sight. -/
import Derived.Test.YtcbimfaneinpkaaBytes
import Derived.OpenShut
import Derived.ChangeSlices
import Derived.Maps.OwnSet
set_option linter.unusedVariables false
set_option linter.unusedSimpArgs false
namespace Go.Proofs.Ytcbimfaneinpkaa
open Go.RowKit Go.Sort Go.ChangeShapes Go.WideShapes

theorem u8_nats : ∀ {l : List Int}, (∀ n ∈ l, (Lit.int .u8 n).wf = true) → ∃ m : List Nat, l = m.map (fun (x : Nat) => (x : Int)) ∧ ∀ x ∈ m, x < 256
  | [], _ => ⟨[], rfl, fun x h => by simp at h⟩
  | n :: l, h => by
    obtain ⟨m, e, hm⟩ := u8_nats (l := l) (fun k hk => h k (by simp [hk]))
    have := bounds_u8 (h n (by simp))
    refine ⟨n.toNat :: m, ?_, ?_⟩
    · rw [List.map_cons, ← e, Int.toNat_of_nonneg this.1]
    · intro x hx
      rcases List.mem_cons.1 hx with rfl | hx
      · omega
      · exact hm x hx
theorem bytes_of_arg {H : Type} {enc : TypeId × Value → H} {W : World} {base t : Nat} {v : Value} {d : DataW H} {p : List MemPlace} {P : Program} {e : TypeId} (ht : P.underlying t = some (.slice e)) (he : P.underlying e = some (.int .u8)) (hc : P.cellsOf e = 1)
    (hv : Value.okWide P W .any base t v) (h : DataW.Trod enc P W 0 (fun _ => true) true t v d p) :
    ∃ l : List Nat, BytesAt W v l ∧ l.length ≤ maxLen ∧ (∀ x ∈ l, x < 256) ∧ (l = [] ∨ ∃ es sp, d = .slice es sp ∧ es.length = l.length) := by
  obtain ⟨a, len, cap, rfl⟩ := okWide_slice ht hv
  obtain ⟨fuel, hf⟩ := h
  rcases open_ints ht he hc hf with ⟨h1, -⟩ | ⟨a', len', cap', zs, h1, hb, hl, hm, hz, hdd, hcell, hwf⟩
  · simp [Value.cells] at h1
    obtain ⟨rfl, rfl, rfl⟩ := h1
    exact ⟨[], ⟨rfl, none, 0, rfl, Nat.le_refl _, by simp [maxLen], fun _ => rfl, fun j u hj => by simp [bytesL] at hj⟩, by simp [maxLen], fun n hn => by simp at hn, .inl rfl⟩
  · simp [Value.cells] at h1
    obtain ⟨rfl, rfl, rfl⟩ := h1
    simp only [if_true] at hz
    have hlen : (zs.take len).length = len := by rw [List.length_take]; omega
    obtain ⟨m, em, hm2⟩ := u8_nats (l := zs.take len) (fun n hn => hwf n (List.mem_of_mem_take hn))
    have hml : m.length = len := by rw [em] at hlen; simpa using hlen
    refine ⟨m, ⟨by simp [bytesL], some a', cap, by rw [hml], by omega, hm, fun h => (by cases h), fun j u hj => ?_⟩, by omega, hm2, .inr ⟨_, _, (Prod.mk.inj hdd).1, by rw [hml]; simp [lits]; omega⟩⟩
    have hj' : j < len := by
      have := (List.getElem?_eq_some_iff.1 hj).1
      simp [bytesL] at this
      omega
    obtain ⟨b, off, rfl, hc2⟩ := ints_at hcell (by omega)
    refine ⟨b, off, rfl, ?_⟩
    rw [hc2 j (by omega)]
    have e1 : (zs.take len)[j]? = some (zs.getD j 0) := by rw [List.getElem?_take_of_lt hj', List.getElem?_eq_getElem (show j < zs.length by omega), List.getD_eq_getElem?_getD, List.getElem?_eq_getElem (show j < zs.length by omega)]; rfl
    rw [em, List.getElem?_map] at e1
    simp only [bytesL, List.getElem?_map] at hj
    cases hmj : m[j]? with
    | none => rw [hmj] at hj; simp at hj
    | some x =>
      rw [hmj] at e1 hj
      simp only [Option.map_some, Option.some.injEq] at e1 hj
      rw [← e1, hj]
end Go.Proofs.Ytcbimfaneinpkaa
