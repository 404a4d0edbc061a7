/- Plans of an image with columns and rows exchanged. -/
import Derived.Test.YtipkjdfnoonpcaaTurnImg
import Derived.Test.YtipkjdfnoonpcaaHoldsPlain
import Derived.Test.YtipkjdfnoonpcaaCntGrasp
set_option linter.unusedVariables false
set_option linter.unusedSimpArgs false
namespace Go.Proofs.Ytipkjdfnoonpcaa
open Go.RowKit Go.Sort

theorem gridL_len (ww hh : Nat) (g : Nat → Nat → Int) : (gridL ww hh g).length = ww * hh := by simp [gridL]
theorem gridL_get {ww hh : Nat} (g : Nat → Nat → Int) {x y : Nat} (hx : x < ww) (hy : y < hh) : (gridL ww hh g).getD (y * ww + x) 0 = g x y := by
  have h1 : y * ww + x < ww * hh := by
    have : (y + 1) * ww ≤ hh * ww := Nat.mul_le_mul_right _ hy
    rw [Nat.add_mul, Nat.one_mul] at this
    rw [Nat.mul_comm ww hh]
    omega
  unfold gridL
  rw [List.getD_eq_getElem?_getD, List.getElem?_map, List.getElem?_range h1]
  simp only [Option.map_some, Option.getD_some]
  have e1 : (y * ww + x) / ww = y := by rw [Nat.mul_comm, Nat.mul_add_div (by omega), Nat.div_eq_of_lt hx, Nat.add_zero]
  have e2 : (y * ww + x) % ww = x := by rw [Nat.mul_comm, Nat.mul_add_mod, Nat.mod_eq_of_lt hx]
  rw [e1, e2, Nat.mod_eq_of_lt hy]
theorem grid_at {ww hh : Int} (h1 : 0 ≤ ww) (h2 : 0 ≤ hh) (g : Nat → Nat → Int) {x y : Int} (hi : (⟨ww, hh, gridL ww.toNat hh.toNat g⟩ : Img).In x y) : (⟨ww, hh, gridL ww.toNat hh.toNat g⟩ : Img).at x y = g x.toNat y.toNat := by
  obtain ⟨⟨a1, a2⟩, a3, a4⟩ := hi
  simp only at a2 a4
  unfold Img.at
  simp only
  have e : (y * ww + x).toNat = y.toNat * ww.toNat + x.toNat := by
    have h3 : y * ww = ((y.toNat * ww.toNat : Nat) : Int) := by rw [Int.natCast_mul, Int.toNat_of_nonneg a3, Int.toNat_of_nonneg h1]
    omega
  rw [e]
  exact gridL_get g (by omega) (by omega)
theorem grid_sized {ww hh : Int} (h1 : 1 ≤ ww ∧ ww ≤ 16) (h2 : 1 ≤ hh ∧ hh ≤ 16) (g : Nat → Nat → Int) : (⟨ww, hh, gridL ww.toNat hh.toNat g⟩ : Img).Sized := by
  refine ⟨h1, h2, ?_⟩
  rw [gridL_len, Int.natCast_mul]
  simp only
  rw [Int.toNat_of_nonneg (by omega), Int.toNat_of_nonneg (by omega)]
theorem gridL_all {ww hh : Nat} {g : Nat → Nat → Int} {lo hi : Int} (h : ∀ x y, x < ww → y < hh → lo ≤ g x y ∧ g x y ≤ hi) : allIn lo hi (gridL ww hh g) := by
  intro n hn
  unfold gridL at hn
  obtain ⟨k, hk, rfl⟩ := List.mem_map.1 hn
  have hk2 := List.mem_range.1 hk
  have hw : 0 < ww := Nat.pos_of_ne_zero fun e => by rw [e] at hk2; simp at hk2
  have hh0 : 0 < hh := Nat.pos_of_ne_zero fun e => by rw [e] at hk2; simp at hk2
  exact h _ _ (Nat.mod_lt _ hw) (Nat.mod_lt _ hh0)
theorem turn_at {m : Img} (hm : m.Sized) {x y : Int} (hi : (turnI m).In x y) : (turnI m).at x y = m.at y (m.h - 1 - x) := by
  obtain ⟨⟨w1, w2⟩, ⟨w3, w4⟩, -⟩ := hm
  have h := grid_at (ww := m.h) (hh := m.w) (by omega) (by omega) (fun x y => m.at (y : Int) (m.h - 1 - (x : Int))) hi
  unfold turnI
  rw [h, Int.toNat_of_nonneg hi.2.1, Int.toNat_of_nonneg hi.1.1]
theorem flip_at {m : Img} (hm : m.Sized) {x y : Int} (hi : (flipI m).In x y) : (flipI m).at x y = m.at (m.w - 1 - x) y := by
  obtain ⟨⟨w1, w2⟩, ⟨w3, w4⟩, -⟩ := hm
  have h := grid_at (ww := m.w) (hh := m.h) (by omega) (by omega) (fun x y => m.at (m.w - 1 - (x : Int)) (y : Int)) hi
  unfold flipI
  rw [h, Int.toNat_of_nonneg hi.2.1, Int.toNat_of_nonneg hi.1.1]
theorem turn_camera {m : Img} (hm : m.Camera) : (turnI m).Camera := by
  obtain ⟨⟨w1, w2⟩, ⟨w3, w4⟩, -⟩ := hm.1
  exact ⟨grid_sized ⟨w3, w4⟩ ⟨w1, w2⟩ _, show allIn 0 255 (gridL m.h.toNat m.w.toNat fun x y => m.at (y : Int) (m.h - 1 - (x : Int))) from gridL_all fun x y hx hy => Img.at_bd hm ⟨⟨by omega, by omega⟩, by omega, by omega⟩⟩
theorem flip_camera {m : Img} (hm : m.Camera) : (flipI m).Camera := by
  obtain ⟨⟨w1, w2⟩, ⟨w3, w4⟩, -⟩ := hm.1
  exact ⟨grid_sized ⟨w1, w2⟩ ⟨w3, w4⟩ _, show allIn 0 255 (gridL m.w.toNat m.h.toNat fun x y => m.at (m.w - 1 - (x : Int)) (y : Int)) from gridL_all fun x y hx hy => Img.at_bd hm ⟨⟨by omega, by omega⟩, by omega, by omega⟩⟩
def trI (m : Img) : Img := flipI (turnI m)
theorem tr_in {m : Img} {x y : Int} : (trI m).In x y ↔ m.In y x := by
  unfold Img.In
  rw [show (trI m).w = m.h from rfl, show (trI m).h = m.w from rfl]
  exact ⟨fun h => ⟨h.2, h.1⟩, fun h => ⟨h.2, h.1⟩⟩
theorem tr_at {m : Img} (hm : m.Camera) {x y : Int} (hi : (trI m).In x y) : (trI m).at x y = m.at y x := by
  have h1 := flip_at (turn_camera hm).1 hi
  have hi2 : (turnI m).In ((turnI m).w - 1 - x) y := by
    obtain ⟨⟨a1, a2⟩, a3, a4⟩ := hi
    rw [show (trI m).w = (turnI m).w from rfl] at a2
    exact ⟨⟨by omega, by omega⟩, a3, a4⟩
  have h2 := turn_at hm.1 hi2
  rw [show (turnI m).w = m.h from rfl] at h1 h2
  rw [show trI m = flipI (turnI m) from rfl, h1, h2]
  congr 1
  omega
theorem tr_camera {m : Img} (hm : m.Camera) : (trI m).Camera := flip_camera (turn_camera hm)
theorem tr_len {m : Img} (hm : m.Camera) : (trI m).pix.length = m.pix.length := by
  have h1 := (tr_camera hm).1.2.2
  have h2 := hm.1.2.2
  rw [show (trI m).w = m.h from rfl, show (trI m).h = m.w from rfl, Int.mul_comm] at h1
  omega
theorem tr_vin {m : Img} {a : Bool} {x y : Int} : (trI m).vin (!a) x y ↔ m.vin a x y := by
  cases a
  · exact tr_in
  · exact tr_in
theorem tr_vat {m : Img} (hm : m.Camera) {a : Bool} {x y : Int} (h : m.vin a x y) : (trI m).vat (!a) x y = m.vat a x y := by
  cases a
  · exact tr_at hm (tr_in.2 h)
  · exact tr_at hm (tr_in.2 h)
theorem tr_row {m : Img} (hm : m.Camera) {a : Bool} {palm grip width z x y : Int} (hw : 0 ≤ width) : (trI m).row (!a) palm grip width z x y ↔ m.row a palm grip width z x y := by
  unfold Img.row
  constructor
  · rintro ⟨h1, h2, h3, h4, o, o1, o2, h5⟩
    have hv : ∀ o, -1 ≤ o → o ≤ width → m.vin a (x + o) y := fun o o1 o2 => tr_vin.1 (h1 o o1 o2)
    refine ⟨hv, ?_, ?_, fun o o1 o2 => ?_, o, o1, o2, ?_⟩
    · rwa [tr_vat hm (hv _ (by omega) (by omega))] at h2
    · rwa [tr_vat hm (hv _ (by omega) (by omega))] at h3
    · have := h4 o o1 o2; rwa [tr_vat hm (hv _ (by omega) (by omega))] at this
    · rwa [tr_vat hm (hv _ (by omega) (by omega))] at h5
  · rintro ⟨hv, h2, h3, h4, o, o1, o2, h5⟩
    refine ⟨fun o o1 o2 => tr_vin.2 (hv o o1 o2), ?_, ?_, fun o o1 o2 => ?_, o, o1, o2, ?_⟩
    · rwa [tr_vat hm (hv _ (by omega) (by omega))]
    · rwa [tr_vat hm (hv _ (by omega) (by omega))]
    · rw [tr_vat hm (hv _ (by omega) (by omega))]; exact h4 o o1 o2
    · rwa [tr_vat hm (hv _ (by omega) (by omega))]
def swapG (g : Grasp) : Grasp := ⟨g.y, g.x, !g.across, g.width, g.z⟩
theorem swap_swap (g : Grasp) : swapG (swapG g) = g := by
  unfold swapG
  simp
theorem swap_vx (g : Grasp) : (swapG g).vx = g.vx ∧ (swapG g).vy = g.vy := by
  unfold swapG Grasp.vx Grasp.vy
  cases g.across <;> simp
theorem tr_holds {m : Img} (hm : m.Camera) {t : Tool} {g : Grasp} {slack : Int} : HoldsB (trI m) t (swapG g) slack = HoldsB m t g slack := by
  rw [Bool.eq_iff_iff, HoldsB_iff, HoldsB_iff]
  unfold Img.Holds Img.holds
  rw [(swap_vx g).1, (swap_vx g).2]
  show ((1 ≤ g.width ∧ g.width ≤ 8) ∧ (0 ≤ g.z ∧ g.z ≤ 255) ∧ _) ↔ _
  constructor
  · rintro ⟨h1, h2, h3⟩
    exact ⟨h1, h2, fun dy d1 d2 dx x1 x2 => (tr_row hm (show 0 ≤ g.width by omega)).1 (h3 dy d1 d2 dx x1 x2)⟩
  · rintro ⟨h1, h2, h3⟩
    exact ⟨h1, h2, fun dy d1 d2 dx x1 x2 => (tr_row hm (show 0 ≤ g.width by omega)).2 (h3 dy d1 d2 dx x1 x2)⟩
theorem mem_plan {m : Img} {t : Tool} {g : Grasp} {slack : Int} (hm : m.Sized) (hl : 1 ≤ t.len) (hs : 0 ≤ slack) :
    g ∈ planB m t slack ↔ HoldsB m t g slack = true ∧ ∀ z, HoldsB m t { g with z := z } slack = true → g.z ≤ z := by
  constructor
  · intro hg
    refine ⟨(plan_mem hm hl hs hg).1, fun z hz => ?_⟩
    obtain ⟨k, -, hk⟩ := Gath.mem (planB_plan m t slack) hg
    rcases hk with ⟨u, h1, h2, h3⟩ | ⟨-, h3⟩
    · cases h3
      exact h2 z (HoldsB_iff.1 hz)
    · cases h3
  · rintro ⟨h1, h2⟩
    obtain ⟨h3, h4⟩ := (plan_all hm hl hs g).2 (HoldsB_iff.1 h1)
    obtain ⟨x, hx, hlx⟩ := List.countP_pos_iff.1 (show 0 < (planB m t slack).countP (like g) by omega)
    obtain ⟨e1, e2, e3, e4⟩ := like_iff.1 hlx
    have e : x = { g with z := x.z } := Grasp.ext e1 e2 e3 e4 rfl
    have h5 := (plan_mem hm hl hs hx).1
    rw [e] at h5
    have h6 := h2 _ h5
    have h7 := h3 x hx hlx
    have : x = g := Grasp.ext e1 e2 e3 e4 (by omega)
    rw [← this]
    exact hx
theorem plan_nodup {m : Img} {t : Tool} {slack : Int} (hm : m.Sized) (hl : 1 ≤ t.len) (hs : 0 ≤ slack) : (planB m t slack).Nodup := by
  rw [List.nodup_iff_count]
  intro g
  refine Nat.le_trans ?_ (plan_all hm hl hs g).1
  unfold List.count
  refine List.countP_mono_left fun x _ h => ?_
  rw [beq_iff_eq] at h
  rw [h, like_iff]
  exact ⟨rfl, rfl, rfl, rfl⟩
theorem tr_mem {m : Img} (hm : m.Camera) {t : Tool} {g : Grasp} {slack : Int} (hl : 1 ≤ t.len) (hs : 0 ≤ slack) : swapG g ∈ planB (trI m) t slack ↔ g ∈ planB m t slack := by
  rw [mem_plan (tr_camera hm).1 hl hs, mem_plan hm.1 hl hs, tr_holds hm]
  have key : ∀ z, HoldsB (trI m) t { swapG g with z := z } slack = HoldsB m t { g with z := z } slack := fun z => tr_holds (g := { g with z := z }) hm
  constructor
  · rintro ⟨h1, h2⟩; exact ⟨h1, fun z hz => h2 z ((key z).trans hz)⟩
  · rintro ⟨h1, h2⟩; exact ⟨h1, fun z hz => h2 z ((key z).symm.trans hz)⟩
theorem tr_perm {m : Img} (hm : m.Camera) {t : Tool} {slack : Int} (hl : 1 ≤ t.len) (hs : 0 ≤ slack) : ((planB m t slack).map swapG).Perm (planB (trI m) t slack) := by
  have inj : ∀ a b : Grasp, swapG a = swapG b → a = b := fun a b h => by rw [← swap_swap a, h, swap_swap]
  rw [List.perm_iff_count]
  intro g
  have n1 : ((planB m t slack).map swapG).Nodup := List.pairwise_map.2 ((plan_nodup hm.1 hl hs).imp fun hne e => hne (inj _ _ e))
  have n2 := plan_nodup (t := t) (slack := slack) (tr_camera hm).1 hl hs
  have hmem : g ∈ (planB m t slack).map swapG ↔ g ∈ planB (trI m) t slack := by
    rw [List.mem_map]
    constructor
    · rintro ⟨a, ha, rfl⟩; exact (tr_mem hm hl hs).2 ha
    · intro h
      refine ⟨swapG g, (tr_mem hm hl hs).1 (by rw [swap_swap]; exact h), swap_swap g⟩
  have c1 := List.nodup_iff_count.1 n1 g
  have c2 := List.nodup_iff_count.1 n2 g
  by_cases h : g ∈ planB (trI m) t slack
  · have p1 := List.count_pos_iff.2 h
    have p2 := List.count_pos_iff.2 (hmem.2 h)
    omega
  · rw [List.count_eq_zero.2 h, List.count_eq_zero.2 fun h9 => h (hmem.1 h9)]
theorem tr_count {m : Img} (hm : m.Camera) {t : Tool} {slack : Int} (hl : 1 ≤ t.len) (hs : 0 ≤ slack) {g : Grasp} (hg : g ∈ planB m t slack) : (planB (trI m) t slack).count (swapG g) = 1 := by
  have p := List.count_pos_iff.2 ((tr_mem hm hl hs).2 hg)
  have := List.nodup_iff_count.1 (plan_nodup (t := t) (slack := slack) (tr_camera hm).1 hl hs) (swapG g)
  omega
theorem cntG_step {ms : List Grasp} {i : Nat} (hi : i < ms.length) : (fun q => (ms.take i).count q + if q = ms.getD i grasp0 then 1 else 0) = fun q => (ms.take (i + 1)).count q := by
  funext q
  rw [take_snoc_at grasp0 hi, List.count_append, List.count_singleton]
  congr 1
  by_cases h : q = ms.getD i grasp0
  · rw [if_pos h, h]; simp
  · rw [if_neg h, if_neg]
    intro h2
    exact h (by simpa using h2 : ms.getD i grasp0 = q).symm
theorem grasp_wf {m : Img} {t : Tool} {g : Grasp} {slack : Int} (hm : m.Sized) (hl : 1 ≤ t.len) (hs : 0 ≤ slack) (hg : g ∈ planB m t slack) : g.Wf := by
  obtain ⟨-, ⟨⟨a1, a2⟩, a3, a4⟩, ⟨⟨b1, b2⟩, b3, b4⟩, -⟩ := plan_mem hm hl hs hg
  exact ⟨WalkArith.wf_i64 (by omega), WalkArith.wf_i64 (by omega), WalkArith.wf_i64 (by omega), WalkArith.wf_i64 (by omega)⟩
end Go.Proofs.Ytipkjdfnoonpcaa
