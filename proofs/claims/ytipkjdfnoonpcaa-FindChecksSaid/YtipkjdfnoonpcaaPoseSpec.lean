/- Layer 7's templates, poses, areas, offsets, distances and bounds as plain data. No program in sight. -/
import Derived.Test.YtipkjdfnoonpcaaGraspSpec
set_option linter.unusedVariables false
set_option linter.unusedSimpArgs false
namespace Go.Proofs.Ytipkjdfnoonpcaa
open Go.RowKit Go.Sort

structure Tpl where
  w : Int
  h : Int
  pix : List Int
def Tpl.Ok (t : Tpl) : Prop := ((1 ≤ t.w ∧ t.w ≤ 8) ∧ (1 ≤ t.h ∧ t.h ≤ 8) ∧ (t.pix.length : Int) = t.w * t.h) ∧ allIn (-1) 255 t.pix ∧ ∃ n ∈ t.pix, 0 ≤ n
instance tplOkDec (t : Tpl) : Decidable t.Ok := by unfold Tpl.Ok; infer_instance
theorem Tpl.len_bd {t : Tpl} (h : t.Ok) : 1 ≤ t.pix.length ∧ t.pix.length ≤ 64 := by
  obtain ⟨⟨⟨h1, h2⟩, ⟨h3, h4⟩, h5⟩, _⟩ := h
  have a : 1 * 1 ≤ t.w * t.h := Int.mul_le_mul h1 h3 (by omega) (by omega)
  have b : t.w * t.h ≤ 8 * 8 := Int.mul_le_mul h2 h4 (by omega) (by omega)
  omega
theorem Tpl.pix_bd {t : Tpl} (h : t.Ok) {k : Nat} (hk : k < t.pix.length) : -1 ≤ t.pix.getD k 0 ∧ t.pix.getD k 0 ≤ 255 := by
  refine h.2.1 _ ?_
  rw [List.getD_eq_getElem?_getD, List.getElem?_eq_getElem hk]
  exact List.getElem_mem _
/-- a turn and a scale are allowed -/
def Posed (turn scale : Int) : Prop := (0 ≤ turn ∧ turn ≤ 11) ∧ (1 ≤ scale ∧ scale ≤ 4)
instance (turn scale : Int) : Decidable (Posed turn scale) := by unfold Posed; infer_instance
def dirBase (r : Int) : Int × Int := if r = 0 then (5, 0) else if r = 1 then (4, 3) else (3, 4)
def rot : Nat → Int × Int → Int × Int
  | 0, d => d
  | n + 1, d => (-(rot n d).2, (rot n d).1)
def dirOf (turn : Int) : Int × Int := rot (turn / 3).toNat (dirBase (turn % 3))
theorem rot_bd : ∀ (n : Nat) (d : Int × Int), -5 ≤ d.1 → d.1 ≤ 5 → -5 ≤ d.2 → d.2 ≤ 5 → (-5 ≤ (rot n d).1 ∧ (rot n d).1 ≤ 5) ∧ -5 ≤ (rot n d).2 ∧ (rot n d).2 ≤ 5
  | 0, _, h1, h2, h3, h4 => ⟨⟨h1, h2⟩, h3, h4⟩
  | n + 1, d, h1, h2, h3, h4 => by
    have := rot_bd n d h1 h2 h3 h4
    simp only [rot]
    omega
theorem dirBase_bd (r : Int) : (-5 ≤ (dirBase r).1 ∧ (dirBase r).1 ≤ 5) ∧ -5 ≤ (dirBase r).2 ∧ (dirBase r).2 ≤ 5 := by
  unfold dirBase
  split
  · omega
  · split <;> omega
theorem dirOf_bd (turn : Int) : (-5 ≤ (dirOf turn).1 ∧ (dirOf turn).1 ≤ 5) ∧ -5 ≤ (dirOf turn).2 ∧ (dirOf turn).2 ≤ 5 := by
  obtain ⟨⟨h1, h2⟩, h3, h4⟩ := dirBase_bd (turn % 3)
  exact rot_bd _ _ h1 h2 h3 h4
def offX (t : Tpl) (turn scale i j : Int) : Int := (scale * ((dirOf turn).1 * (2 * i - t.w + 1) - (dirOf turn).2 * (2 * j - t.h + 1)) + 10) / 20
def offY (t : Tpl) (turn scale i j : Int) : Int := (scale * ((dirOf turn).2 * (2 * i - t.w + 1) + (dirOf turn).1 * (2 * j - t.h + 1)) + 10) / 20
theorem mul_bd {a b A B : Int} (ha : -A ≤ a ∧ a ≤ A) (hb : -B ≤ b ∧ b ≤ B) : -(A * B) ≤ a * b ∧ a * b ≤ A * B := by
  have hA : 0 ≤ A := by omega
  have hB : 0 ≤ B := by omega
  have h : (a * b).natAbs ≤ (A * B).natAbs := by
    rw [Int.natAbs_mul, Int.natAbs_mul]
    exact Nat.mul_le_mul (by omega) (by omega)
  have := Int.mul_nonneg hA hB
  omega
theorem off_bd {a b u v scale : Int} (ha : -5 ≤ a ∧ a ≤ 5) (hb : -5 ≤ b ∧ b ≤ 5) (hu : -8 ≤ u ∧ u ≤ 8) (hv : -8 ≤ v ∧ v ≤ 8) (hs : 1 ≤ scale ∧ scale ≤ 4) :
    (-40 ≤ a * u ∧ a * u ≤ 40) ∧ (-40 ≤ b * v ∧ b * v ≤ 40) ∧ (-320 ≤ scale * (a * u - b * v) ∧ scale * (a * u - b * v) ≤ 320) ∧ -320 ≤ scale * (a * u + b * v) ∧ scale * (a * u + b * v) ≤ 320 := by
  have h1 := mul_bd (A := 5) (B := 8) ha hu
  have h2 := mul_bd (A := 5) (B := 8) hb hv
  have h3 := mul_bd (a := scale) (b := a * u - b * v) (A := 4) (B := 80) (by omega) (by omega)
  have h4 := mul_bd (a := scale) (b := a * u + b * v) (A := 4) (B := 80) (by omega) (by omega)
  omega
/-- rounded down, by the quotient that Go gives -/
theorem tdiv_two {a b : Int} (hb : 0 < b) : a.tdiv b = a / b ∨ a.tdiv b = a / b + 1 := by
  rw [Int.tdiv_eq_ediv, Int.sign_eq_one_of_pos hb]
  split
  · left; omega
  · right; rfl
theorem ediv_bd {a b : Int} (hb : 0 < b) : a / b * b ≤ a ∧ a < (a / b + 1) * b := by
  have e2 := Int.mul_ediv_add_emod a b
  have m1 := Int.emod_nonneg a (by omega : b ≠ 0)
  have m2 := Int.emod_lt_of_pos a hb
  rw [Int.add_mul, Int.mul_comm (a / b) b]
  omega
theorem floor_yes {a b : Int} (hb : 0 < b) (h : a < a.tdiv b * b) : a.tdiv b - 1 = a / b := by
  have h1 := ediv_bd (a := a) hb
  rcases tdiv_two (a := a) hb with e | e
  · rw [e] at h; omega
  · omega
theorem floor_no {a b : Int} (hb : 0 < b) (h : a.tdiv b * b ≤ a) : a.tdiv b = a / b := by
  have h1 := ediv_bd (a := a) hb
  rcases tdiv_two (a := a) hb with e | e
  · exact e
  · rw [e] at h; omega

/-! ### the least over a range -/
def minR (f : Int → Int) (lo : Int) : Nat → Int
  | 0 => 255
  | n + 1 => min (minR f lo n) (f (lo + n))
theorem le_minR {f : Int → Int} {lo c : Int} : ∀ {n : Nat}, c ≤ minR f lo n ↔ c ≤ 255 ∧ ∀ x, lo ≤ x → x < lo + n → c ≤ f x
  | 0 => ⟨fun h => ⟨h, fun x h1 h2 => by omega⟩, fun h => h.1⟩
  | n + 1 => by
    rw [minR, Int.le_min, le_minR]
    constructor
    · rintro ⟨⟨h1, h2⟩, h3⟩
      refine ⟨h1, fun x e1 e2 => ?_⟩
      by_cases hx : x = lo + n
      · rw [hx]; exact h3
      · exact h2 x e1 (by omega)
    · rintro ⟨h1, h2⟩
      exact ⟨⟨h1, fun x e1 e2 => h2 x e1 (by omega)⟩, h2 _ (by omega) (by omega)⟩
theorem eq_of_le_iff {a b : Int} (h : ∀ c, c ≤ a ↔ c ≤ b) : a = b := by
  have h1 := (h a).1 (Int.le_refl _)
  have h2 := (h b).2 (Int.le_refl _)
  omega
structure Area where
  x0 : Int
  y0 : Int
  x1 : Int
  y1 : Int
  turn : Int
  scale : Int
def Area.Ok (m : Img) (a : Area) : Prop := (0 ≤ a.x0 ∧ a.x0 ≤ a.x1 ∧ a.x1 ≤ m.w - 1) ∧ (0 ≤ a.y0 ∧ a.y0 ≤ a.y1 ∧ a.y1 ≤ m.h - 1) ∧ Posed a.turn a.scale
instance areaOkDec (m : Img) (a : Area) : Decidable (a.Ok m) := by unfold Area.Ok; infer_instance
structure Pt where
  x : Int
  y : Int
  v : Int
/-- what a pixel that counts adds at a place -/
def adds (m : Img) (p : Pt) (x y : Int) : Int := if m.In (x + p.x) (y + p.y) then max (p.v - m.at (x + p.x) (y + p.y)) (-(p.v - m.at (x + p.x) (y + p.y))) else 255
def least (m : Img) (p : Pt) (x0 y0 x1 y1 : Int) : Int := minR (fun y => minR (fun x => adds m p x y) x0 (x1 - x0 + 1).toNat) y0 (y1 - y0 + 1).toNat
theorem le_least {m : Img} {p : Pt} {x0 y0 x1 y1 c : Int} (hc : c ≤ 255) : c ≤ least m p x0 y0 x1 y1 ↔ ∀ y, y0 ≤ y → y ≤ y1 → ∀ x, x0 ≤ x → x ≤ x1 → c ≤ adds m p x y := by
  unfold least
  rw [le_minR]
  constructor
  · rintro ⟨_, h⟩ y h1 h2 x h3 h4
    exact ((le_minR).1 (h y h1 (by omega))).2 x h3 (by omega)
  · intro h
    exact ⟨hc, fun y h1 h2 => le_minR.2 ⟨hc, fun x h3 h4 => h y h1 (by omega) x h3 (by omega)⟩⟩
theorem least_le (m : Img) (p : Pt) (x0 y0 x1 y1 : Int) : least m p x0 y0 x1 y1 ≤ 255 := ((le_minR).1 (Int.le_refl (least m p x0 y0 x1 y1))).1
theorem adds_bd {m : Img} {p : Pt} (hm : m.Camera) (hp : 0 ≤ p.v ∧ p.v ≤ 255) (x y : Int) : 0 ≤ adds m p x y ∧ adds m p x y ≤ 255 := by
  unfold adds
  split
  · have := Img.at_bd hm (by assumption)
    omega
  · omega
theorem least_nn {m : Img} {p : Pt} (hm : m.Camera) (hp : 0 ≤ p.v ∧ p.v ≤ 255) (x0 y0 x1 y1 : Int) : 0 ≤ least m p x0 y0 x1 y1 :=
  (le_least (by omega)).2 fun y _ _ x _ _ => (adds_bd hm hp x y).1
/-- the pixels that count, with their offsets -/
def ptOf (t : Tpl) (turn scale : Int) (n : Nat) : Pt := ⟨offX t turn scale ((n : Int) % t.w) ((n : Int) / t.w), offY t turn scale ((n : Int) % t.w) ((n : Int) / t.w), t.pix.getD n 0⟩
def stencil (t : Tpl) (turn scale : Int) : Nat → List Pt
  | 0 => []
  | n + 1 => if 0 ≤ t.pix.getD n 0 then stencil t turn scale n ++ [ptOf t turn scale n] else stencil t turn scale n
theorem stencil_len (t : Tpl) (turn scale : Int) : ∀ n, (stencil t turn scale n).length ≤ n
  | 0 => by simp [stencil]
  | n + 1 => by
    have := stencil_len t turn scale n
    unfold stencil
    split <;> simp <;> omega
def sumL (f : Pt → Int) (l : List Pt) : Int := l.foldl (fun s p => s + f p) 0
theorem sumL_snoc (f : Pt → Int) (l : List Pt) (p : Pt) : sumL f (l ++ [p]) = sumL f l + f p := by simp [sumL]
theorem sumL_bd {f : Pt → Int} : ∀ {l : List Pt}, (∀ p ∈ l, 0 ≤ f p ∧ f p ≤ 255) → 0 ≤ sumL f l ∧ sumL f l ≤ 255 * l.length := by
  intro l
  have gen : ∀ (l : List Pt) (s : Int), (∀ p ∈ l, 0 ≤ f p ∧ f p ≤ 255) → s ≤ l.foldl (fun s p => s + f p) s ∧ l.foldl (fun s p => s + f p) s ≤ s + 255 * l.length := by
    intro l
    induction l with
    | nil => intro s _; simp
    | cons p l ih =>
      intro s h
      have h1 := ih (s + f p) fun q hq => h q (by simp [hq])
      have h2 := h p (by simp)
      simp only [List.foldl_cons, List.length_cons]
      omega
  intro h
  have := gen l 0 h
  unfold sumL
  omega
def bound (m : Img) (t : Tpl) (a : Area) : Int := sumL (fun p => least m p a.x0 a.y0 a.x1 a.y1) (stencil t a.turn a.scale t.pix.length)
/-- the limit's range -/
theorem stencil_mem {t : Tpl} {turn scale : Int} : ∀ {n : Nat} {p : Pt}, p ∈ stencil t turn scale n → ∃ k, k < n ∧ 0 ≤ t.pix.getD k 0 ∧ p = ptOf t turn scale k
  | 0, p, h => by simp [stencil] at h
  | n + 1, p, h => by
    unfold stencil at h
    split at h
    · rcases List.mem_append.1 h with h | h
      · obtain ⟨k, h1, h2⟩ := stencil_mem h
        exact ⟨k, by omega, h2⟩
      · simp at h
        exact ⟨n, by omega, by assumption, h⟩
    · obtain ⟨k, h1, h2⟩ := stencil_mem h
      exact ⟨k, by omega, h2⟩
theorem stencil_v {t : Tpl} (h : t.Ok) {turn scale : Int} {p : Pt} (hp : p ∈ stencil t turn scale t.pix.length) : 0 ≤ p.v ∧ p.v ≤ 255 := by
  obtain ⟨k, h1, h2, rfl⟩ := stencil_mem hp
  exact ⟨h2, (Tpl.pix_bd h h1).2⟩
theorem bound_bd {m : Img} {t : Tpl} {a : Area} (hm : m.Camera) (ht : t.Ok) : 0 ≤ bound m t a ∧ bound m t a ≤ 16320 := by
  have h1 := stencil_len t a.turn a.scale t.pix.length
  have h2 := Tpl.len_bd ht
  have := sumL_bd (f := fun p => least m p a.x0 a.y0 a.x1 a.y1) (l := stencil t a.turn a.scale t.pix.length) fun p hp => ⟨least_nn hm (stencil_v ht hp) _ _ _ _, least_le _ _ _ _ _ _⟩
  unfold bound
  omega
end Go.Proofs.Ytipkjdfnoonpcaa
