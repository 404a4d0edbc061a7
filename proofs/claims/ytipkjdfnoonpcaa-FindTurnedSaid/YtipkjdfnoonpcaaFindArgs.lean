/- Tools, grasps, poses, areas that come in; the size of an image that comes in. -/
import Derived.Test.YtipkjdfnoonpcaaFindFrame
import Derived.Test.YtipkjdfnoonpcaaGA
set_option linter.unusedVariables false
set_option linter.unusedSimpArgs false
namespace Go.Proofs.Ytipkjdfnoonpcaa
open Go.RowKit Go.Sort Go.ChangeShapes Go.WideShapes Go.ChangeAt

theorem img_size {H : Type} {ts : List TypeId} {ds : List (DataW H)} {d0 d1 : DataW H} {es sp : List (DataW H)} {j t : Nat} (h : (DataW.weightsEach Try.prog ts ds).all (· ≤ reachBytes) = true) (h24 : t = 24 ∨ t = 43) (ht : ts[j]? = some t) (hd : ds[j]? = some (.agg [d0, d1, .slice es sp])) : es.length * 8 ≤ 140737488351232 := by
  have hb : Try.prog.bytesOf 3 = 8 := by kernel_rfl
  have hm := List.all_eq_true.1 h _ (DataW.weights_mem_each ht hd ((es.length + sp.length) * 8) (by
    rcases h24 with rfl | rfl
    · simp [DataW.weights, Try.underlying24, DataW.weightsEach, Try.underlying22, hb]
    · simp [DataW.weights, Try.underlying43, DataW.weightsEach, Try.underlying22, hb]))
  have h3 : (es.length + sp.length) * 8 ≤ reachBytes := of_decide_eq_true hm
  have h4 : reachBytes = 140737488351232 := by decide
  omega
set_option maxRecDepth 100000 in
theorem read_tool {H : Type} {enc : TypeId × Value → H} {W : World} {base : Nat} {v : Value} {d : DataW H} {p : List MemPlace}
    (hv : Value.okWide Try.prog W .any base 26 v) (h : DataW.Trod enc Try.prog W 0 (fun _ => true) true 26 v d p) : ∃ t : Tool, v = toolVal t := by
  obtain ⟨v0, v1, v2, y0, y1, y2, n, rfl, -, -, h0, h1, h2⟩ := Joins.open_agg3 Try.underlying26 (by kernel_rfl) (by kernel_rfl) hv h
  obtain ⟨a, ha, _⟩ := DataW.trod_int Try.underlying3 h0
  obtain ⟨b, hb, _⟩ := DataW.trod_int Try.underlying3 h1
  obtain ⟨c, hc, _⟩ := DataW.trod_int Try.underlying3 h2
  simp only [List.cons.injEq, and_true] at ha hb hc
  subst ha hb hc
  exact ⟨⟨a, b, c⟩, rfl⟩
theorem trod_bool1 {H : Type} {enc : TypeId × Value → H} {W : World} {n t : Nat} {c : Value} {y : DataW H × List MemPlace} (ht : Try.prog.underlying t = some .bool) (h : DataW.trod enc Try.prog W 0 (fun _ => true) true n t [c] = some y) : ∃ b, c = .bool b := by
  cases n with
  | zero => simp [DataW.trod] at h
  | succ n =>
    simp only [DataW.trod, ht] at h
    cases c <;> first | exact ⟨_, rfl⟩ | (exfalso; simp at h)
set_option maxRecDepth 100000 in
theorem read_grasp {H : Type} {enc : TypeId × Value → H} {W : World} {base : Nat} {v : Value} {d : DataW H} {p : List MemPlace}
    (hv : Value.okWide Try.prog W .any base 28 v) (h : DataW.Trod enc Try.prog W 0 (fun _ => true) true 28 v d p) : ∃ g : Grasp, v = graspVal g := by
  obtain ⟨cs, rfl, hsz⟩ := okWide_struct Try.underlying28 hv
  have hsz5 : cs.size = 5 := hsz.trans (by kernel_rfl)
  obtain ⟨l⟩ := cs
  match l, hsz5 with
  | [c0, c1, c2, c3, c4], _ =>
    obtain ⟨fuel, hf⟩ := h
    obtain ⟨xs, n, -, -, -, hlen, hg⟩ := DataW.trod_struct Try.underlying28 hf
    have g0 := hg 0 _ rfl
    have g1 := hg 1 _ rfl
    have g2 := hg 2 _ rfl
    have g3 := hg 3 _ rfl
    have g4 := hg 4 _ rfl
    match xs, hlen with
    | [y0, y1, y2, y3, y4], _ =>
      have k3 : Try.prog.cellsOf 3 = 1 := by kernel_rfl
      have k4 : Try.prog.cellsOf 4 = 1 := by kernel_rfl
      simp [Value.cells, k3, k4] at g0 g1 g2 g3 g4
      obtain ⟨a0, e0, _⟩ := DataW.trod_int Try.underlying3 g0
      obtain ⟨a1, e1, _⟩ := DataW.trod_int Try.underlying3 g1
      obtain ⟨a2, rfl⟩ := trod_bool1 Try.underlying4 g2
      obtain ⟨a3, e3, _⟩ := DataW.trod_int Try.underlying3 g3
      obtain ⟨a4, e4, _⟩ := DataW.trod_int Try.underlying3 g4
      simp only [List.cons.injEq, and_true] at e0 e1 e3 e4
      subst e0 e1 e3 e4
      exact ⟨⟨a0, a1, a2, a3, a4⟩, rfl⟩
end Go.Proofs.Ytipkjdfnoonpcaa
