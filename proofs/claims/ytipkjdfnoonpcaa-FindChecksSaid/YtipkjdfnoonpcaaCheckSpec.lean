/- Matches and areas in memory; what a proved search is. -/
import Derived.Test.YtipkjdfnoonpcaaRefBound
set_option linter.unusedVariables false
set_option linter.unusedSimpArgs false
namespace Go.Proofs.Ytipkjdfnoonpcaa
open Go.RowKit Go.Sort

theorem flat_get {α : Type} (f : α → List Value) (n : Nat) (d : α) (hf : ∀ x, (f x).length = n) (l : List α) : ∀ (i k : Nat), i < l.length → k < n → (l.flatMap f)[i * n + k]? = (f (l.getD i d))[k]? := by
  induction l with
  | nil => intro i k h; simp at h
  | cons x l ih =>
    intro i k hi hk
    rw [List.flatMap_cons]
    match i with
    | 0 =>
      rw [List.getElem?_append_left (by rw [hf]; omega)]
      simp
    | i + 1 =>
      have e : (i + 1) * n + k = n + (i * n + k) := by rw [Nat.add_mul]; omega
      rw [List.getElem?_append_right (by rw [hf]; omega)]
      have := ih i k (by simpa using hi) hk
      rw [hf, e, Nat.add_sub_cancel_left, this]
      simp
structure Match where
  pose : Pose
  dist : Int
def matchCells (x : Match) : List Value := [.int .i64 x.pose.x, .int .i64 x.pose.y, .int .i64 x.pose.turn, .int .i64 x.pose.scale, .int .i64 x.dist]
def match0 : Match := ⟨⟨0, 0, 0, 0⟩, 0⟩
theorem matchCells_one (x : Match) : ∀ u ∈ matchCells x, u.oneCell' = true := by
  intro u hu
  simp only [matchCells, List.mem_cons, List.not_mem_nil, or_false] at hu
  rcases hu with rfl | rfl | rfl | rfl | rfl <;> rfl
def MatchesAt (w : World) (v : Value) (l : List Match) : Prop := SlAt w 5 v l.length (l.flatMap matchCells)
theorem MatchesAt.ext {w w' : World} {v : Value} {l : List Match} (h : MatchesAt w v l) (hb : Ext w w') : MatchesAt w' v l := SlAt.ext h hb
theorem MatchesAt.le {w : World} {v : Value} {l : List Match} (h : MatchesAt w v l) : l.length ≤ maxLen := by
  obtain ⟨h1, ao, cap, h2, h3, h4, h5, h6⟩ := h
  exact Nat.le_trans h3 h4
theorem MatchesAt.form {w : World} {v : Value} {l : List Match} (h : MatchesAt w v l) :
    ∃ ao cap, v = .slice ao l.length cap ∧ cap ≤ maxLen ∧ ∀ j, j < l.length → ∃ b off, ao = some ⟨b, off, none⟩ ∧ w.cell? ⟨b, off + j * 5, none⟩ = some (.int .i64 (l.getD j match0).pose.x) ∧ w.cell? ⟨b, off + j * 5 + 1, none⟩ = some (.int .i64 (l.getD j match0).pose.y) ∧ w.cell? ⟨b, off + j * 5 + 2, none⟩ = some (.int .i64 (l.getD j match0).pose.turn) ∧ w.cell? ⟨b, off + j * 5 + 3, none⟩ = some (.int .i64 (l.getD j match0).pose.scale) ∧ w.cell? ⟨b, off + j * 5 + 4, none⟩ = some (.int .i64 (l.getD j match0).dist) := by
  obtain ⟨h1, ao, cap, h2, h3, h4, h5, h6⟩ := h
  refine ⟨ao, cap, h2, h4, fun j hj => ?_⟩
  obtain ⟨b0, off0, e0, c0⟩ := h6 (j * 5 + 0) _ (by rw [flat_get matchCells 5 match0 (fun _ => rfl) l j 0 hj (by omega)]; rfl)
  obtain ⟨b1, off1, e1, c1⟩ := h6 (j * 5 + 1) _ (by rw [flat_get matchCells 5 match0 (fun _ => rfl) l j 1 hj (by omega)]; rfl)
  obtain ⟨b2, off2, e2, c2⟩ := h6 (j * 5 + 2) _ (by rw [flat_get matchCells 5 match0 (fun _ => rfl) l j 2 hj (by omega)]; rfl)
  obtain ⟨b3, off3, e3, c3⟩ := h6 (j * 5 + 3) _ (by rw [flat_get matchCells 5 match0 (fun _ => rfl) l j 3 hj (by omega)]; rfl)
  obtain ⟨b4, off4, e4, c4⟩ := h6 (j * 5 + 4) _ (by rw [flat_get matchCells 5 match0 (fun _ => rfl) l j 4 hj (by omega)]; rfl)
  rw [e0] at e1 e2 e3 e4
  cases e1
  cases e2
  cases e3
  cases e4
  exact ⟨b0, off0, e0, c0, c1, c2, c3, c4⟩
def areaCells (x : Area) : List Value := [.int .i64 x.x0, .int .i64 x.y0, .int .i64 x.x1, .int .i64 x.y1, .int .i64 x.turn, .int .i64 x.scale]
def area0 : Area := ⟨0, 0, 0, 0, 0, 0⟩
theorem areaCells_one (x : Area) : ∀ u ∈ areaCells x, u.oneCell' = true := by
  intro u hu
  simp only [areaCells, List.mem_cons, List.not_mem_nil, or_false] at hu
  rcases hu with rfl | rfl | rfl | rfl | rfl | rfl <;> rfl
def AreasAt (w : World) (v : Value) (l : List Area) : Prop := SlAt w 6 v l.length (l.flatMap areaCells)
theorem AreasAt.ext {w w' : World} {v : Value} {l : List Area} (h : AreasAt w v l) (hb : Ext w w') : AreasAt w' v l := SlAt.ext h hb
theorem AreasAt.le {w : World} {v : Value} {l : List Area} (h : AreasAt w v l) : l.length ≤ maxLen := by
  obtain ⟨h1, ao, cap, h2, h3, h4, h5, h6⟩ := h
  exact Nat.le_trans h3 h4
theorem AreasAt.form {w : World} {v : Value} {l : List Area} (h : AreasAt w v l) :
    ∃ ao cap, v = .slice ao l.length cap ∧ cap ≤ maxLen ∧ ∀ j, j < l.length → ∃ b off, ao = some ⟨b, off, none⟩ ∧ w.cell? ⟨b, off + j * 6, none⟩ = some (.int .i64 (l.getD j area0).x0) ∧ w.cell? ⟨b, off + j * 6 + 1, none⟩ = some (.int .i64 (l.getD j area0).y0) ∧ w.cell? ⟨b, off + j * 6 + 2, none⟩ = some (.int .i64 (l.getD j area0).x1) ∧ w.cell? ⟨b, off + j * 6 + 3, none⟩ = some (.int .i64 (l.getD j area0).y1) ∧ w.cell? ⟨b, off + j * 6 + 4, none⟩ = some (.int .i64 (l.getD j area0).turn) ∧ w.cell? ⟨b, off + j * 6 + 5, none⟩ = some (.int .i64 (l.getD j area0).scale) := by
  obtain ⟨h1, ao, cap, h2, h3, h4, h5, h6⟩ := h
  refine ⟨ao, cap, h2, h4, fun j hj => ?_⟩
  obtain ⟨b0, off0, e0, c0⟩ := h6 (j * 6 + 0) _ (by rw [flat_get areaCells 6 area0 (fun _ => rfl) l j 0 hj (by omega)]; rfl)
  obtain ⟨b1, off1, e1, c1⟩ := h6 (j * 6 + 1) _ (by rw [flat_get areaCells 6 area0 (fun _ => rfl) l j 1 hj (by omega)]; rfl)
  obtain ⟨b2, off2, e2, c2⟩ := h6 (j * 6 + 2) _ (by rw [flat_get areaCells 6 area0 (fun _ => rfl) l j 2 hj (by omega)]; rfl)
  obtain ⟨b3, off3, e3, c3⟩ := h6 (j * 6 + 3) _ (by rw [flat_get areaCells 6 area0 (fun _ => rfl) l j 3 hj (by omega)]; rfl)
  obtain ⟨b4, off4, e4, c4⟩ := h6 (j * 6 + 4) _ (by rw [flat_get areaCells 6 area0 (fun _ => rfl) l j 4 hj (by omega)]; rfl)
  obtain ⟨b5, off5, e5, c5⟩ := h6 (j * 6 + 5) _ (by rw [flat_get areaCells 6 area0 (fun _ => rfl) l j 5 hj (by omega)]; rfl)
  rw [e0] at e1 e2 e3 e4 e5
  cases e1
  cases e2
  cases e3
  cases e4
  cases e5
  exact ⟨b0, off0, e0, c0, c1, c2, c3, c4, c5⟩
deriving instance DecidableEq for Pose
def searchVal (mv av : Value) : Value := .agg #[mv, av]
/-- an area has a pose -/
def Area.Has (a : Area) (p : Pose) : Prop := (a.turn = p.turn ∧ a.scale = p.scale) ∧ (a.x0 ≤ p.x ∧ p.x ≤ a.x1) ∧ (a.y0 ≤ p.y ∧ p.y ≤ a.y1)
instance areaHasDec (a : Area) (p : Pose) : Decidable (a.Has p) := by unfold Area.Has; infer_instance
/-- in how many of the matches and areas a pose is -/
def hits (ms : List Match) (p : Pose) : Nat := ms.countP fun x => decide (x.pose = p)
def hasN (ar : List Area) (p : Pose) : Nat := ar.countP fun a => decide (a.Has p)
def MatchOk (m : Img) (t : Tpl) (limit : Int) (x : Match) : Prop := x.pose.area.Ok m ∧ x.dist ≤ limit ∧ bound m t x.pose.area = x.dist
def AreaOk (m : Img) (t : Tpl) (limit : Int) (a : Area) : Prop := a.Ok m ∧ limit < bound m t a
def poseAt (m : Img) (turn scale : Int) (i : Nat) : Pose := ⟨(i : Int) % m.w, (i : Int) / m.w, turn, scale⟩
def Proved (m : Img) (t : Tpl) (limit : Int) (ms : List Match) (ar : List Area) : Prop :=
  (∀ x ∈ ms, MatchOk m t limit x) ∧ (∀ a ∈ ar, AreaOk m t limit a) ∧ ∀ turn scale : Int, 0 ≤ turn → turn < 12 → 1 ≤ scale → scale ≤ 4 → ∀ i : Nat, i < m.pix.length → hits ms (poseAt m turn scale i) + hasN ar (poseAt m turn scale i) = 1
theorem countP_snoc {α : Type} (p : α → Bool) (l : List α) (x : α) : (l ++ [x]).countP p = l.countP p + (if p x then 1 else 0) := by
  rw [List.countP_append]; simp [List.countP_cons]
theorem take_snoc_at {α : Type} {l : List α} {k : Nat} (d : α) (h : k < l.length) : l.take (k + 1) = l.take k ++ [l.getD k d] := by
  rw [List.take_succ_eq_append_getElem h, List.getD_eq_getElem?_getD, List.getElem?_eq_getElem h]; rfl
theorem getD_mem_at {α : Type} {l : List α} {k : Nat} (d : α) (h : k < l.length) : l.getD k d ∈ l := by
  rw [List.getD_eq_getElem?_getD, List.getElem?_eq_getElem h]
  exact List.getElem_mem h
end Go.Proofs.Ytipkjdfnoonpcaa
