/- When every pose of an image is counted once. No walk. -/
import Derived.Test.YtipkjdfnoonpcaaCover
set_option linter.unusedVariables false
set_option linter.unusedSimpArgs false
namespace Go.Proofs.Ytipkjdfnoonpcaa
open Go.RowKit Go.Sort

def CovIs (D : DataW Unit) (f : Pose → Nat) : Prop := (∀ p : Pose, p.Wf → D.atKey (poseLit p) (.lit (.int .i64 0)) = .lit (.int .i64 (f p))) ∧
    (∀ k, Maps.has D k = true → ∃ p : Pose, p.Wf ∧ k = poseLit p ∧ 0 < f p) ∧ ∀ p : Pose, p.Wf → 0 < f p → Maps.has D (poseLit p) = true
open Classical in
theorem nodup_le {α : Type} : ∀ {l1 l2 : List α}, l1.Nodup → (∀ x ∈ l1, x ∈ l2) → l1.length ≤ l2.length
  | [], _, _, _ => Nat.zero_le _
  | a :: l1, l2, h, hs => by
    rw [List.nodup_cons] at h
    have h1 := nodup_le (l2 := l2.erase a) h.2 (fun x hx => (List.mem_erase_of_ne (fun (e : x = a) => h.1 (e ▸ hx))).2 (hs x (by simp [hx])))
    have h2 : a ∈ l2 := hs a (by simp)
    have h3 := List.length_erase_of_mem h2
    have h4 := List.length_pos_of_mem h2
    simp only [List.length_cons]
    omega
open Classical in
theorem nodup_full {α : Type} {l1 l2 : List α} (h : l1.Nodup) (hs : ∀ x ∈ l1, x ∈ l2) (hl : l2.length ≤ l1.length) : ∀ x ∈ l2, x ∈ l1 := by
  intro x hx
  by_cases g : x ∈ l1
  · exact g
  · exfalso
    have h1 := nodup_le (l2 := l2.erase x) h (fun y hy => (List.mem_erase_of_ne (fun (e : y = x) => g (e ▸ hy))).2 (hs y hy))
    have h3 := List.length_erase_of_mem hx
    have h4 := List.length_pos_of_mem hx
    omega
/-- all poses of an image -/
def univ (m : Img) : List Pose := (List.range 12).flatMap fun (T : Nat) => (List.range 4).flatMap fun (S : Nat) => (List.range m.pix.length).map fun i => poseAt m (T : Int) ((S : Int) + 1) i
theorem univ_mem {m : Img} {p : Pose} : p ∈ univ m ↔ ∃ T S i : Nat, T < 12 ∧ S < 4 ∧ i < m.pix.length ∧ p = poseAt m T ((S : Int) + 1) i := by
  unfold univ
  simp only [List.mem_flatMap, List.mem_range, List.mem_map]
  constructor
  · rintro ⟨T, h1, S, h2, i, h3, rfl⟩
    exact ⟨T, S, i, h1, h2, h3, rfl⟩
  · rintro ⟨T, S, i, h1, h2, h3, rfl⟩
    exact ⟨T, h1, S, h2, i, h3, rfl⟩
theorem len_const {α β : Type} (f : α → List β) (n : Nat) : ∀ l : List α, (∀ x, (f x).length = n) → (l.flatMap f).length = l.length * n
  | [], _ => by simp
  | x :: l, h => by
    rw [List.flatMap_cons, List.length_append, h x, len_const f n l h, List.length_cons, Nat.add_mul]
    omega
theorem univ_len (m : Img) : (univ m).length = 48 * m.pix.length := by
  unfold univ
  rw [len_const _ (4 * m.pix.length)]
  · simp; omega
  · intro T
    rw [len_const _ m.pix.length]
    · simp
    · intro S; simp
theorem nodup_flat {α β : Type} {f : α → List β} : ∀ {l : List α}, l.Nodup → (∀ x ∈ l, (f x).Nodup) → (∀ x ∈ l, ∀ y ∈ l, x ≠ y → ∀ z ∈ f x, z ∉ f y) → (l.flatMap f).Nodup
  | [], _, _, _ => by simp
  | x :: l, h, h1, h2 => by
    rw [List.nodup_cons] at h
    rw [List.flatMap_cons, List.nodup_append]
    refine ⟨h1 x (by simp), nodup_flat h.2 (fun y hy => h1 y (by simp [hy])) (fun y hy z hz => h2 y (by simp [hy]) z (by simp [hz])), ?_⟩
    intro z hz z' hz' e
    obtain ⟨y, hy, hy2⟩ := List.mem_flatMap.1 hz'
    exact h2 x (by simp) y (by simp [hy]) (fun e' => h.1 (e' ▸ hy)) z hz (e ▸ hy2)
theorem poseAt_inj {m : Img} {T S T' S' : Int} {i i' : Nat} (h : poseAt m T S i = poseAt m T' S' i') : T = T' ∧ S = S' ∧ i = i' := by
  unfold poseAt at h
  injection h with h1 h2 h3 h4
  refine ⟨h3, h4, ?_⟩
  have e1 := Int.emod_add_mul_ediv (i : Int) m.w
  have e2 := Int.emod_add_mul_ediv (i' : Int) m.w
  rw [h1, h2, e2] at e1
  omega
theorem univ_nodup (m : Img) : (univ m).Nodup := by
  unfold univ
  refine nodup_flat List.nodup_range (fun T _ => nodup_flat List.nodup_range (fun S _ => ?_) ?_) ?_
  · exact List.Pairwise.map _ (fun i j hij e => hij (poseAt_inj e).2.2) List.nodup_range
  · intro S _ S' _ hne z hz hz'
    obtain ⟨i, _, rfl⟩ := List.mem_map.1 hz
    obtain ⟨j, _, e⟩ := List.mem_map.1 hz'
    have := (poseAt_inj e).2.1
    omega
  · intro T _ T' _ hne z hz hz'
    obtain ⟨S, _, hz⟩ := List.mem_flatMap.1 hz
    obtain ⟨i, _, rfl⟩ := List.mem_map.1 hz
    obtain ⟨S', _, hz'⟩ := List.mem_flatMap.1 hz'
    obtain ⟨j, _, e⟩ := List.mem_map.1 hz'
    have := (poseAt_inj e).1
    omega
theorem in_univ {m : Img} (hm : m.Sized) {p : Pose} (h1 : m.In p.x p.y) (h2 : Posed p.turn p.scale) : p ∈ univ m := by
  obtain ⟨i1, i2, -, -⟩ := Img.idx hm h1
  obtain ⟨⟨x1, x2⟩, y1, y2⟩ := h1
  obtain ⟨⟨t1, t2⟩, s1, s2⟩ := h2
  refine univ_mem.2 ⟨p.turn.toNat, (p.scale - 1).toNat, (p.y * m.w + p.x).toNat, by omega, by omega, by omega, ?_⟩
  unfold poseAt
  have e : (((p.y * m.w + p.x).toNat : Nat) : Int) = p.x + m.w * p.y := by rw [Int.toNat_of_nonneg i1, Int.mul_comm]; omega
  have q1 : (p.x + m.w * p.y) % m.w = p.x := by rw [Int.add_mul_emod_self_left, Int.emod_eq_of_lt x1 (by omega)]
  have q2 : (p.x + m.w * p.y) / m.w = p.y := by rw [Int.add_mul_ediv_left _ _ (by omega), Int.ediv_eq_zero_of_lt x1 (by omega), Int.zero_add]
  rw [e, q1, q2]
  obtain ⟨p0, p1, p2, p3⟩ := p
  dsimp only at *
  rw [Pose.mk.injEq]
  exact ⟨rfl, rfl, by omega, by omega⟩
theorem univ_wf {m : Img} (hm : m.Sized) {p : Pose} (h : p ∈ univ m) : p.Wf := by
  obtain ⟨T, S, i, h1, h2, h3, rfl⟩ := univ_mem.1 h
  obtain ⟨l1, l2⟩ := Img.len_bd hm
  obtain ⟨⟨w1, w2⟩, -, -⟩ := hm
  have e1 := Int.emod_nonneg (i : Int) (show m.w ≠ 0 by omega)
  have e2 := Int.emod_lt_of_pos (i : Int) (show 0 < m.w by omega)
  have e3 : 0 ≤ (i : Int) / m.w := Int.ediv_nonneg (by omega) (by omega)
  have e4 : (i : Int) / m.w ≤ i := Int.ediv_le_self _ (by omega)
  refine ⟨WalkArith.wf_i64 ?_, WalkArith.wf_i64 ?_, WalkArith.wf_i64 ?_, WalkArith.wf_i64 ?_⟩ <;> unfold poseAt <;> dsimp only <;> omega
theorem hits_univ {m : Img} {t : Tpl} {limit : Int} {ms : List Match} {ar : List Area} (hm : m.Sized) (h1 : ∀ x ∈ ms, MatchOk m t limit x) (h2 : ∀ a ∈ ar, AreaOk m t limit a) {p : Pose} (h : 0 < hits ms p + hasN ar p) : p ∈ univ m := by
  by_cases g : 0 < hits ms p
  · unfold hits at g
    obtain ⟨x, hx, e⟩ := List.countP_pos_iff.1 g
    have e := of_decide_eq_true e
    have := pose_ok.1 (h1 x hx).1
    rw [e] at this
    exact in_univ hm this.1 this.2
  · have g : 0 < hasN ar p := by omega
    unfold hasN at g
    obtain ⟨a, ha, e⟩ := List.countP_pos_iff.1 g
    obtain ⟨⟨e1, e2⟩, ⟨e3, e4⟩, e5, e6⟩ := of_decide_eq_true e
    obtain ⟨⟨k1, k2, k3⟩, ⟨k4, k5, k6⟩, k7⟩ := (h2 a ha).1
    exact in_univ hm ⟨⟨by omega, by omega⟩, by omega, by omega⟩ (e1 ▸ e2 ▸ k7)
theorem cov_keys {m : Img} {D : DataW Unit} {f : Pose → Nat} (hm : m.Sized) (hT : ∃ es, D = .map es ∧ es.Pairwise (fun p q => p.1 ≠ q.1) ∧ ∀ p ∈ es, WideAt.IsKeyLit p.1) (hI : CovIs D f) (hU : ∀ p, 0 < f p → p ∈ univ m) :
    ((∀ p ∈ univ m, f p = 1) → Maps.size D = 48 * m.pix.length) ∧ (Maps.size D = 48 * m.pix.length → ∀ p ∈ univ m, 0 < f p) := by
  obtain ⟨es, rfl, hp, hk⟩ := hT
  obtain ⟨h1, h2, h3⟩ := hI
  have hin : ∀ k, k ∈ es.map (·.1) ↔ Maps.has (DataW.map es) k = true := by
    intro k
    rw [Maps.has_eq, List.any_eq_true]
    constructor
    · intro h
      obtain ⟨x, hx, rfl⟩ := List.mem_map.1 h
      exact ⟨x, hx, WideAt.sameKey_self (hk x hx)⟩
    · rintro ⟨x, hx, e⟩
      exact List.mem_map.2 ⟨x, hx, WideAt.sameKey_eq e⟩
  have hn : (es.map (·.1)).Nodup := List.pairwise_map.2 hp
  have hl : ((univ m).map poseLit).length = 48 * m.pix.length := by rw [List.length_map, univ_len]
  have hn2 : ((univ m).map poseLit).Nodup := List.pairwise_map.2 (List.Pairwise.imp_of_mem (fun ha hb hne e => hne (poseLit_inj (univ_wf hm ha) (univ_wf hm hb) e)) (univ_nodup m))
  have hs : ∀ k ∈ es.map (·.1), k ∈ (univ m).map poseLit := by
    intro k hk
    obtain ⟨p, hpw, rfl, hf⟩ := h2 k ((hin k).1 hk)
    exact List.mem_map.2 ⟨p, hU p hf, rfl⟩
  constructor
  · intro h
    have hs2 : ∀ k ∈ (univ m).map poseLit, k ∈ es.map (·.1) := by
      intro k hk
      obtain ⟨p, hpu, rfl⟩ := List.mem_map.1 hk
      exact (hin _).2 (h3 p (univ_wf hm hpu) (by rw [h p hpu]; omega))
    have a1 := nodup_le hn hs
    have a2 := nodup_le hn2 hs2
    rw [hl] at a1 a2
    rw [List.length_map] at a1 a2
    show es.length = _
    omega
  · intro h p hpu
    have h' : es.length = 48 * m.pix.length := h
    have hs2 := nodup_full hn hs (by rw [hl, List.length_map, h']; exact Nat.le_refl _)
    obtain ⟨q, hq, e, hf⟩ := h2 _ ((hin _).1 (hs2 _ (List.mem_map.2 ⟨p, hpu, rfl⟩)))
    rw [poseLit_inj (univ_wf hm hpu) hq e]
    exact hf
/-- what the program's count says is what the reference asks of every pose -/
theorem counted_iff {m : Img} {D : DataW Unit} {f : Pose → Nat} (hm : m.Sized) (hT : ∃ es, D = .map es ∧ es.Pairwise (fun p q => p.1 ≠ q.1) ∧ ∀ p ∈ es, WideAt.IsKeyLit p.1) (hI : CovIs D f) (hU : ∀ p, 0 < f p → p ∈ univ m) :
    ((∀ k, Maps.has D k = true → D.atKey k (.lit (.int .i64 0)) = .lit (.int .i64 1)) ∧ Maps.size D = 48 * m.pix.length) ↔ ∀ p ∈ univ m, f p = 1 := by
  obtain ⟨a1, a2⟩ := cov_keys hm hT hI hU
  constructor
  · rintro ⟨g1, g2⟩ p hp
    have h1 := a2 g2 p hp
    have h2 := g1 _ (hI.2.2 p (univ_wf hm hp) h1)
    rw [hI.1 p (univ_wf hm hp)] at h2
    simp at h2
    omega
  · intro g
    refine ⟨fun k hk => ?_, a1 g⟩
    obtain ⟨p, hp, rfl, hf⟩ := hI.2.1 k hk
    rw [hI.1 p hp, g p (hU p hf)]
    rfl
theorem proved_iff {m : Img} {t : Tpl} {limit : Int} {ms : List Match} {ar : List Area} (h1 : ∀ x ∈ ms, MatchOk m t limit x) (h2 : ∀ a ∈ ar, AreaOk m t limit a) : Proved m t limit ms ar ↔ ∀ p ∈ univ m, hits ms p + hasN ar p = 1 := by
  constructor
  · rintro ⟨-, -, h⟩ p hp
    obtain ⟨T, S, i, k1, k2, k3, rfl⟩ := univ_mem.1 hp
    exact h _ _ (by omega) (by omega) (by omega) (by omega) i k3
  · intro h
    refine ⟨h1, h2, fun T S t1 t2 s1 s2 i hi => h _ (univ_mem.2 ⟨T.toNat, (S - 1).toNat, i, by omega, by omega, hi, ?_⟩)⟩
    rw [show ((T.toNat : Nat) : Int) = T by omega, show (((S - 1).toNat : Nat) : Int) + 1 = S by omega]
theorem hits_step {ms : List Match} {x : Match} {i : Nat} (hi : i < ms.length) (hx : ms.getD i match0 = x) : (fun p => hits (ms.take i) p + if x.pose.area.Has p then 1 else 0) = fun p => hits (ms.take (i + 1)) p := by
  funext p
  rw [take_snoc_at match0 hi, hx]
  unfold hits
  rw [countP_snoc]
  congr 1
  have : x.pose.area.Has p ↔ x.pose = p := by
    unfold Area.Has Pose.area
    dsimp only
    constructor
    · rintro ⟨⟨a1, a2⟩, ⟨a3, a4⟩, a5, a6⟩
      obtain ⟨⟨p0, p1, p2, p3⟩, d⟩ := x
      obtain ⟨q0, q1, q2, q3⟩ := p
      dsimp only at *
      rw [Pose.mk.injEq]
      exact ⟨by omega, by omega, a1, a2⟩
    · intro e
      rw [e]
      exact ⟨⟨rfl, rfl⟩, ⟨Int.le_refl _, Int.le_refl _⟩, Int.le_refl _, Int.le_refl _⟩
  by_cases g : x.pose = p
  · rw [if_pos (this.2 g), if_pos (by simpa using g)]
  · rw [if_neg (fun h => g (this.1 h)), if_neg (by simpa using g)]
theorem has_step {ms : List Match} {ar : List Area} {x : Area} {i : Nat} (hi : i < ar.length) (hx : ar.getD i area0 = x) : (fun p => (hits ms p + hasN (ar.take i) p) + if x.Has p then 1 else 0) = fun p => hits ms p + hasN (ar.take (i + 1)) p := by
  funext p
  rw [take_snoc_at area0 hi, hx]
  unfold hasN
  rw [countP_snoc, Nat.add_assoc]
  congr 2
  by_cases g : x.Has p
  · rw [if_pos g, if_pos (by simpa using g)]
  · rw [if_neg g, if_neg (by simpa using g)]
theorem hits_le (ms : List Match) (p : Pose) : hits ms p ≤ ms.length := List.countP_le_length
theorem hasN_le (ar : List Area) (p : Pose) : hasN ar p ≤ ar.length := List.countP_le_length
end Go.Proofs.Ytipkjdfnoonpcaa
