/- Holds and Plan as functions: what the calls answer; the plain laws of plans. -/
import Derived.Test.YtipkjdfnoonpcaaAliveF
set_option linter.unusedVariables false
set_option linter.unusedSimpArgs false
namespace Go.Proofs.Ytipkjdfnoonpcaa
open Go.RowKit Go.Sort

def holdsD (m : Img) (t : Tool) (g : Grasp) (slack : Int) : Bool := if readyE m t slack = 0 then HoldsB m t g slack else false
def planD (m : Img) (t : Tool) (slack : Int) : List Grasp := if readyE m t slack = 0 then planB m t slack else []
theorem c19b (m : Img) (v : Value) (t : Tool) (g : Grasp) (slack : Int) (w : World) (hv : IntsAt w v m.pix) (hl : m.pix.length ≤ maxLen) :
    Calls Try.prog 19 #[imgVal m v, toolVal t, graspVal g, .int .i64 slack] w fun e w' => e = .returned (.tuple #[.bool (holdsD m t g slack), .int .i64 (readyE m t slack)]) ∧ Ext w w' := by
  refine (c19 m v t g slack w hv hl).mono ?_
  rintro e w' ⟨b, rfl, h1, hE⟩
  have h2 : b = holdsD m t g slack := by
    unfold holdsD
    rw [Bool.eq_iff_iff, h1]
    by_cases h : readyE m t slack = 0
    · rw [if_pos h, HoldsB_iff]
      exact ⟨fun k => k.2, fun k => ⟨h, k⟩⟩
    · rw [if_neg h]
      exact ⟨fun k => absurd k.1 h, fun k => by cases k⟩
  subst h2
  exact ⟨rfl, hE⟩
theorem c21b (m : Img) (v : Value) (t : Tool) (slack : Int) (w : World) (hv : IntsAt w v m.pix) (hl : m.pix.length ≤ maxLen) :
    Calls Try.prog 21 #[imgVal m v, toolVal t, .int .i64 slack] w fun e w' => ∃ o c, e = .returned (.tuple #[.slice o (planD m t slack).length c, .int .i64 (readyE m t slack)]) ∧ GraspsAt w' (.slice o (planD m t slack).length c) (planD m t slack) ∧ Ext w w' := by
  refine (c21 m v t slack w hv hl).mono ?_
  rintro e w' ⟨v', gs, rfl, ho, h1, h0, hE⟩
  have h2 : gs = planD m t slack := by
    unfold planD
    by_cases h : readyE m t slack = 0
    · rw [if_pos h]; exact plan_eq (h1 h)
    · rw [if_neg h]; exact h0 h
  subst h2
  have hs := SlAt.of_owns ho
  obtain ⟨o, c, hv, -, -⟩ := GraspsAt.form hs
  subst hv
  exact ⟨o, c, rfl, hs, hE⟩
theorem At.drewN {w : World} {l : List (Nat × Obj)} (h : At w l) (n : Nat) : At (w.drewN n) l := At.ext ((Ext.refl _).drewN n) h
theorem getD_in {α : Type} {l : List α} {i : Nat} (d : α) (h : i < l.length) : l.getD i d ∈ l := by
  rw [List.getD_eq_getElem?_getD, List.getElem?_eq_getElem h]
  exact List.getElem_mem _
theorem count_step {α : Type} (p : α → Bool) {l : List α} {i : Nat} (d : α) (h : i < l.length) : (l.take (i + 1)).countP p = (l.take i).countP p + (if p (l.getD i d) = true then 1 else 0) := by
  rw [take_snoc_at d h, List.countP_append, List.countP_cons, List.countP_nil, Nat.zero_add]
theorem planD_len (m : Img) (t : Tool) (slack : Int) : (planD m t slack).length ≤ 5000 := by
  unfold planD
  by_cases h : readyE m t slack = 0
  · rw [if_pos h]
    have h1 := Gath.len (planB_plan m t slack)
    have h2 := (Img.len_bd (ready_ok h).1.1).2
    omega
  · rw [if_neg h]; simp
theorem GraspsAt.ext {w w' : World} {v : Value} {l : List Grasp} (h : GraspsAt w v l) (hb : Ext w w') : GraspsAt w' v l := SlAt.ext h hb
def like (g x : Grasp) : Bool := (x.x == g.x) && ((x.y == g.y) && ((x.across == g.across) && (x.width == g.width)))
theorem like_iff {g x : Grasp} : like g x = true ↔ x.x = g.x ∧ x.y = g.y ∧ x.across = g.across ∧ x.width = g.width := by
  unfold like
  simp only [Bool.and_eq_true, beq_iff_eq]
theorem key_inj {m : Img} (hm : m.Sized) {g : Grasp} {k n : Nat} (hk : k < 16 * m.pix.length) (hn : n < 16 * m.pix.length) (h1 : like g (m.key k) = true) (h2 : like g (m.key n) = true) : k = n := by
  obtain ⟨a1, a2, a3, a4⟩ := like_iff.1 h1
  obtain ⟨b1, b2, b3, b4⟩ := like_iff.1 h2
  unfold Img.key at a1 a2 a3 a4 b1 b2 b3 b4
  simp only at a1 a2 a3 a4 b1 b2 b3 b4
  have e1 := Int.mul_ediv_add_emod ((k % m.pix.length : Nat) : Int) m.w
  have e2 := Int.mul_ediv_add_emod ((n % m.pix.length : Nat) : Int) m.w
  rw [a1, a2] at e1
  rw [b1, b2] at e2
  have e3 : k % m.pix.length = n % m.pix.length := by omega
  have q1 : k / m.pix.length < 16 := Nat.div_lt_of_lt_mul (by rw [Nat.mul_comm]; exact hk)
  have q2 : n / m.pix.length < 16 := Nat.div_lt_of_lt_mul (by rw [Nat.mul_comm]; exact hn)
  have q3 : decide (8 ≤ k / m.pix.length) = decide (8 ≤ n / m.pix.length) := a3.trans b3.symm
  have q4 : (8 ≤ k / m.pix.length) ↔ (8 ≤ n / m.pix.length) := decide_eq_decide.1 q3
  have e4 : k / m.pix.length = n / m.pix.length := by
    clear e1 e2 a3 b3 q3
    generalize k / m.pix.length = p at *
    generalize n / m.pix.length = q at *
    omega
  rw [← Nat.div_add_mod k m.pix.length, ← Nat.div_add_mod n m.pix.length, e3, e4]
theorem key_of {m : Img} (hm : m.Sized) {g : Grasp} (hi : m.In g.x g.y) (hw : 1 ≤ g.width ∧ g.width ≤ 8) : ∃ k, k < 16 * m.pix.length ∧ m.key k = { g with z := 0 } := by
  obtain ⟨⟨i1, i2⟩, i3, i4⟩ := hi
  have hm' := hm
  obtain ⟨⟨w1, w2⟩, ⟨h1, h2⟩, h3⟩ := hm
  have k1 : 0 ≤ g.y * m.w := Int.mul_nonneg i3 (by omega)
  have k2 : g.y * m.w + m.w ≤ m.h * m.w := by
    have := Int.mul_le_mul_of_nonneg_right (show g.y + 1 ≤ m.h by omega) (show 0 ≤ m.w by omega)
    rwa [Int.add_mul, Int.one_mul] at this
  have k3 : m.h * m.w = m.w * m.h := Int.mul_comm _ _
  have hk : (g.y * m.w + g.x).toNat < m.pix.length := by omega
  have e0 : (((g.y * m.w + g.x).toNat : Nat) : Int) = g.y * m.w + g.x := by omega
  refine ⟨((if g.across then 8 else 0) + (g.width - 1).toNat) * m.pix.length + (g.y * m.w + g.x).toNat, ?_, ?_⟩
  · have hq : (if g.across then 8 else 0) + (g.width - 1).toNat ≤ 15 := by split <;> omega
    have := Nat.mul_le_mul_right m.pix.length hq
    omega
  · rw [key_at hk, e0]
    have e1 : (g.y * m.w + g.x) % m.w = g.x := by
      rw [Int.add_comm, Int.add_mul_emod_self_right]
      exact Int.emod_eq_of_lt (by omega) (by omega)
    have e2 : (g.y * m.w + g.x) / m.w = g.y := by
      rw [Int.add_comm, Int.add_mul_ediv_right _ _ (by omega), Int.ediv_eq_zero_of_lt (by omega) (by omega)]
      omega
    rw [e1, e2]
    obtain ⟨gx, gy, ga, gw, gz⟩ := g
    simp only at hw ⊢
    congr 1
    · cases ga <;> simp <;> omega
    · cases ga <;> simp <;> omega
theorem holds_in {m : Img} {t : Tool} {g : Grasp} {slack : Int} (hl : 1 ≤ t.len) (hs : 0 ≤ slack) (h : m.Holds t g slack) : m.In g.x g.y := by
  obtain ⟨h1, h2, h3⟩ := h
  have := (h3 0 (by omega) (by omega) 0 (by omega) (by omega)).1 0 (by omega) (by omega)
  unfold Grasp.vx Grasp.vy Img.vin at this
  cases ha : g.across with
  | false => rw [ha] at this; simpa using this
  | true => rw [ha] at this; simpa using this
theorem gath_like {m : Img} (hm : m.Sized) {t : Tool} {slack : Int} (g : Grasp) : ∀ {n : Nat} {gs : List Grasp}, n ≤ 16 * m.pix.length → Gath (m.Try t slack) n gs → gs.countP (like g) ≤ 1 ∧ (1 ≤ gs.countP (like g) → ∃ k, k < n ∧ like g (m.key k) = true)
  | 0, gs, _, h => by
    have h : gs = [] := h
    subst h
    simp
  | n + 1, gs, hn, ⟨g1, o, a1, a2, a3⟩ => by
    obtain ⟨h1, h2⟩ := gath_like hm g (show n ≤ _ by omega) a1
    subst a3
    rw [List.countP_append]
    rcases a2 with ⟨z, b1, b2, rfl⟩ | ⟨b1, rfl⟩
    · have e : like g { m.key n with z := z } = like g (m.key n) := rfl
      simp only [Option.toList, List.countP_cons, List.countP_nil, e]
      by_cases hk : like g (m.key n) = true
      · have h0 : g1.countP (like g) = 0 := by
          rcases Nat.eq_zero_or_pos (g1.countP (like g)) with h9 | h9
          · exact h9
          · obtain ⟨k, k1, k2⟩ := h2 h9
            have := key_inj hm (by omega) (by omega) k2 hk
            omega
        rw [h0, if_pos hk]
        exact ⟨by omega, fun _ => ⟨n, by omega, hk⟩⟩
      · rw [if_neg hk]
        refine ⟨by omega, fun h9 => ?_⟩
        obtain ⟨k, k1, k2⟩ := h2 (by omega)
        exact ⟨k, by omega, k2⟩
    · simp only [Option.toList, List.countP_nil]
      refine ⟨by omega, fun h9 => ?_⟩
      obtain ⟨k, k1, k2⟩ := h2 (by omega)
      exact ⟨k, by omega, k2⟩
/-- **one grasp for each place, width and direction, with the least z** -/
theorem plan_all {m : Img} {t : Tool} {slack : Int} (hm : m.Sized) (hl : 1 ≤ t.len) (hs : 0 ≤ slack) (g : Grasp) :
    (planB m t slack).countP (like g) ≤ 1 ∧ (m.Holds t g slack → (∀ x ∈ planB m t slack, like g x = true → x.z ≤ g.z) ∧ (planB m t slack).countP (like g) = 1) := by
  have hp := planB_plan m t slack
  have h1 := gath_like hm g (Nat.le_refl _) hp
  refine ⟨h1.1, fun hg => ⟨fun x hx hlx => ?_, ?_⟩⟩
  · obtain ⟨k, k1, k2⟩ := Gath.mem hp hx
    rcases k2 with ⟨z, b1, b2, b3⟩ | ⟨b1, b2⟩
    · cases b3
      refine b2 g.z ?_
      obtain ⟨e1, e2, e3, e4⟩ := like_iff.1 hlx
      have e : ({ m.key k with z := g.z } : Grasp) = g := by
        obtain ⟨gx, gy, ga, gw, gz⟩ := g
        simp only at e1 e2 e3 e4
        simp only [e1, e2, e3, e4]
      rw [e]
      exact hg
    · cases b2
  · obtain ⟨k, k1, k2⟩ := key_of hm (holds_in hl hs hg) hg.1
    have e : ({ m.key k with z := g.z } : Grasp) = g := by rw [k2]
    have ht : m.Try t slack k (tryB m t slack k) := tryB_try m t slack k
    have hc : 0 < (planB m t slack).countP (like g) := by
      rcases ht with ⟨z, b1, b2, b3⟩ | ⟨b1, b2⟩
      · refine List.countP_pos_iff.2 ⟨_, Gath.got try_unique hp k1 (Or.inl ⟨z, b1, b2, rfl⟩), ?_⟩
        rw [k2]
        exact like_iff.2 ⟨rfl, rfl, rfl, rfl⟩
      · exact absurd (by rw [e]; exact hg) (b1 g.z)
    omega
end Go.Proofs.Ytipkjdfnoonpcaa
