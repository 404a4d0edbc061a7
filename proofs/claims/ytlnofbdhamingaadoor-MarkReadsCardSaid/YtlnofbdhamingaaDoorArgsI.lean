/- An image that comes in, with its size. -/
import Derived.Test.YtlnofbdhamingaaDoorArgsM
set_option linter.unusedVariables false
set_option linter.unusedSimpArgs false
namespace Go.Proofs.YtlnofbdhamingaaDoor
open Go.RowKit Go.Sort Go.ChangeShapes Go.WideShapes Go.ChangeAt Go.Deep

set_option maxRecDepth 100000 in
theorem read_imgs {H : Type} {enc : TypeId × Value → H} {W : World} {base : Nat} {v : Value} {d : DataW H} {p : List MemPlace}
    (hv : Value.okWide Tryd.prog W .any base 44 v) (h : DataW.Trod enc Tryd.prog W 0 (fun _ => true) true 44 v d p) :
    ∃ (m : Img) (u : Value), v = imgVal m u ∧ IntsAt W u m.pix ∧ (m.pix = [] ∨ ∃ d0 d1 es sp, d = .agg [d0, d1, .slice es sp] ∧ es.length = m.pix.length) := by
  have key : ∃ (v0 v1 v2 : Value) (y0 y1 y2 : DataW H × List MemPlace) (n : Nat), v = .agg #[v0, v1, v2] ∧ d = .agg [y0.1, y1.1, y2.1] ∧ p = y0.2 ++ (y1.2 ++ y2.2) ∧
      DataW.trod enc Tryd.prog W 0 (fun _ => true) true n 3 [v0] = some y0 ∧ DataW.trod enc Tryd.prog W 0 (fun _ => true) true n 3 [v1] = some y1 ∧ DataW.trod enc Tryd.prog W 0 (fun _ => true) true n 42 [v2] = some y2 := by
    exact Joins.open_agg3 Tryd.underlying44 (by kernel_rfl) (by kernel_rfl) hv h
  obtain ⟨v0, v1, v2, y0, y1, y2, n, rfl, hd, -, h0, h1, h2⟩ := key
  obtain ⟨a, ha, wa⟩ := DataW.trod_int Tryd.underlying3 h0
  obtain ⟨b, hb, wb⟩ := DataW.trod_int Tryd.underlying3 h1
  simp only [List.cons.injEq, and_true] at ha hb
  subst ha hb
  obtain ⟨l, hl, hm, -, hsp⟩ := ints_of_cell Tryd.underlying42 Tryd.underlying3 (by kernel_rfl) h2
  refine ⟨⟨a, b, l⟩, v2, rfl, hl, ?_⟩
  rcases hsp with h9 | ⟨es, sp, h9, h8⟩
  · exact .inl h9
  · exact .inr ⟨_, _, es, sp, by rw [hd, h9], h8⟩
theorem imgs_size {H : Type} {ts : List TypeId} {ds : List (DataW H)} {d0 d1 : DataW H} {es sp : List (DataW H)} {j : Nat} (h : (DataW.weightsEach Tryd.prog ts ds).all (· ≤ reachBytes) = true) (ht : ts[j]? = some 44) (hd : ds[j]? = some (.agg [d0, d1, .slice es sp])) : es.length ≤ 17592186044000 := by
  have hb : Tryd.prog.bytesOf 3 = 8 := by kernel_rfl
  have hm := List.all_eq_true.1 h _ (DataW.weights_mem_each ht hd ((es.length + sp.length) * 8) (by
    simp [DataW.weights, Tryd.underlying44, DataW.weightsEach, Tryd.underlying42, hb]))
  have h3 : (es.length + sp.length) * 8 ≤ reachBytes := of_decide_eq_true hm
  have h4 : reachBytes = 140737488351232 := by decide
  omega
end Go.Proofs.YtlnofbdhamingaaDoor
