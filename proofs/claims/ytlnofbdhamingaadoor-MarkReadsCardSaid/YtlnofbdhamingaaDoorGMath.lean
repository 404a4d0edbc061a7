/- Joined from the parts Bw, Elim, Divide, DecMath, KerMath, LawMath, TakeMath. -/
import Derived.Test.YtlnofbdhamingaaDoorGField
set_option linter.unusedVariables false
set_option linter.unusedSimpArgs false
/- Decoding: what a solution of the equations says of a message that fits; and that there is one if a message fits. No program in sight. -/
namespace Go.Proofs.YtlnofbdhamingaaDoor
open Go.RowKit Go.Sort

theorem pow_inj {i j : Nat} (hi : i < 15) (hj : j < 15) (h : powN i = powN j) : i = j := by
  have : ∀ i j : Fin 15, powN i = powN j → i.1 = j.1 := by decide
  exact this ⟨i, hi⟩ ⟨j, hj⟩ h
theorem pow_lt {i : Nat} (hi : i < 15) : powN i < 16 := by
  have : ∀ i : Fin 15, powN i < 16 := by decide
  exact this ⟨i, hi⟩
/-- the places at which a message is not what was received -/
def wrongs (M w : List Nat) (ps : List Nat) : List Nat := ps.filter fun i => gval M (powN i) != w.getD i 0
def rights (M w : List Nat) (ps : List Nat) : List Nat := ps.filter fun i => gval M (powN i) == w.getD i 0
theorem wrongs_rights (M w ps : List Nat) : (wrongs M w ps).length + (rights M w ps).length = ps.length := by
  unfold wrongs rights
  induction ps with
  | nil => rfl
  | cons i ps ih =>
    rw [List.filter_cons, List.filter_cons]
    cases h : (gval M (powN i) == w.getD i 0)
    · have h2 : (gval M (powN i) != w.getD i 0) = true := by unfold bne; rw [h]; rfl
      rw [if_pos h2, if_neg (by simp), List.length_cons, List.length_cons]
      omega
    · have h2 : (gval M (powN i) != w.getD i 0) = false := by unfold bne; rw [h]; rfl
      rw [if_neg (by rw [h2]; simp), if_pos rfl, List.length_cons, List.length_cons]
      omega
/-- a message of k symbols that is wrong at not more than e of the places -/
def FitsAt (w ps : List Nat) (k e : Nat) (M : List Nat) : Prop := Syms M ∧ M.length = k ∧ (wrongs M w ps).length ≤ e
/-- the equations of the places -/
def Solves (w ps N E : List Nat) : Prop := ∀ i ∈ ps, gval N (powN i) = gmul (w.getD i 0) (gval E (powN i))
theorem bw {w ps N E M : List Nat} {k e : Nat} (hw : Syms w) (hp : ∀ i ∈ ps, i < 15) (hn : ps.Nodup) (hN : Syms N) (hE : Syms E) (lN : N.length = k + e) (lE : E.length = e + 1) (hk : 0 < k) (hl : k + 2 * e ≤ ps.length)
    (hs : Solves w ps N E) (hM : FitsAt w ps k e M) : AllZ (padd N (pmul E M)) := by
  obtain ⟨m1, m2, m3⟩ := hM
  have hwr := wrongs_rights M w ps
  refine roots_zero ((rights M w ps).map powN) _ (padd_syms hN (pmul_syms hE m1)) ?_ ?_ ?_
  · have h1 : (rights M w ps).Nodup := hn.sublist List.filter_sublist
    rw [List.Nodup, List.pairwise_map]
    refine List.Pairwise.imp_of_mem (fun {a b} ha hb hab he => hab ?_) h1
    exact pow_inj (hp a (List.mem_filter.1 ha).1) (hp b (List.mem_filter.1 hb).1) he
  · intro r hr
    obtain ⟨i, hi, rfl⟩ := List.mem_map.1 hr
    obtain ⟨i1, i2⟩ := List.mem_filter.1 hi
    have hx := pow_lt (hp i i1)
    refine ⟨hx, ?_⟩
    rw [padd_val hx hN (pmul_syms hE m1), pmul_val hx hE m1, hs i i1, show gval M (powN i) = w.getD i 0 by simpa using i2]
    have : w.getD i 0 < 16 := by
      rw [List.getD_eq_getElem?_getD]
      cases h : w[i]? with
      | none => simp
      | some c => exact hw c (List.mem_of_getElem? h)
    rw [gmul_comm this (gval_lt hE hx), Nat.xor_self]
  · rw [padd_len, pmul_len _ _ (by intro h; rw [h] at lE; simp at lE) (by intro h; rw [h] at m2; simp at m2; omega), List.length_map]
    omega
theorem pmul_zero {a b : List Nat} (ha : Syms a) (hb : Syms b) (h : AllZ a) {x : Nat} (hx : x < 16) : gval (pmul a b) x = 0 := by
  rw [pmul_val hx ha hb, gval_zero h hx, (gmul_zero (gval_lt hb hx)).2]
/-- the first factors are not all 0 unless the others are -/
theorem bw_ne {N E M : List Nat} (hN : Syms N) (hE : Syms E) (hM : Syms M) (lN : N.length ≤ 16) (h : AllZ (padd N (pmul E M))) (hz : AllZ E) : AllZ N := by
  refine roots_zero (List.range 16) _ hN List.nodup_range (fun r hr => ?_) (by simpa using lN)
  have hx := List.mem_range.1 hr
  have := gval_zero h hx
  rw [padd_val hx hN (pmul_syms hE hM), pmul_zero hE hM hz hx, Nat.xor_zero] at this
  exact ⟨hx, this⟩
/-! ### the other way -/
/-- a polynomial with these roots, and the factor 1 at the top -/
def rooted : List Nat → List Nat
  | [] => [1]
  | r :: rs => pmul [r, 1] (rooted rs)
theorem rooted_syms : ∀ {rs : List Nat}, (∀ r ∈ rs, r < 16) → Syms (rooted rs)
  | [], _ => fun x hx => by simp [rooted] at hx; omega
  | r :: rs, h => pmul_syms (fun x hx => by simp at hx; rcases hx with rfl | rfl; exact h _ (by simp); omega) (rooted_syms fun s hs => h s (by simp [hs]))
theorem rooted_ne : ∀ rs, rooted rs ≠ []
  | [] => by simp [rooted]
  | r :: rs => by
    intro h
    have := pmul_len [r, 1] (rooted rs) (by simp) (rooted_ne rs)
    rw [rooted] at h
    rw [h] at this
    have := List.length_pos_iff.2 (rooted_ne rs)
    simp at *
    omega
theorem rooted_len : ∀ rs, (rooted rs).length = rs.length + 1
  | [] => rfl
  | r :: rs => by rw [rooted, pmul_len _ _ (by simp) (rooted_ne rs), rooted_len rs]; simp; omega
theorem rooted_val {x : Nat} (hx : x < 16) : ∀ {rs : List Nat}, (∀ r ∈ rs, r < 16) → x ∈ rs → gval (rooted rs) x = 0
  | r :: rs, h, hm => by
    have h1 : ∀ s ∈ rs, s < 16 := fun s hs => h s (by simp [hs])
    have hr := h r (by simp)
    have h2 : Syms [r, 1] := fun x hx => by simp at hx; rcases hx with rfl | rfl; exact hr; omega
    rw [rooted, pmul_val hx h2 (rooted_syms h1)]
    rcases List.mem_cons.1 hm with rfl | hm
    · have : gval [x, 1] x = 0 := by
        show gmul (gmul 0 x ^^^ 1) x ^^^ x = 0
        rw [(gmul_zero hx).2, Nat.zero_xor, gmul_one hx, Nat.xor_self]
      rw [this, (gmul_zero (gval_lt (rooted_syms h1) hx)).2]
    · rw [rooted_val hx h1 hm, (gmul_zero (gval_lt h2 hx)).1]
theorem rooted_top : ∀ {rs : List Nat}, (∀ r ∈ rs, r < 16) → (rooted rs).getD rs.length 0 = 1 ∧ Low rs.length (rooted rs)
  | [], _ => ⟨rfl, fun k hk => by cases k; omega; simp [rooted]⟩
  | r :: rs, h => by
    have h1 : ∀ s ∈ rs, s < 16 := fun s hs => h s (by simp [hs])
    have h2 : Syms [r, 1] := fun x hx => by simp at hx; rcases hx with rfl | rfl; exact h _ (by simp); omega
    have ih := rooted_top h1
    have := pmul_top (i := 1) (j := rs.length) h2 (rooted_syms h1) (fun k hk => by match k, hk with | k + 2, _ => simp) ih.2
    rw [ih.1] at this
    refine ⟨?_, by rw [List.length_cons, Nat.add_comm]; exact this.2⟩
    rw [List.length_cons, Nat.add_comm, rooted, this.1]
    show gmul 1 1 = 1
    decide
def padTo (n : Nat) (l : List Nat) : List Nat := l ++ List.replicate (n - l.length) 0
theorem padTo_len {n : Nat} {l : List Nat} (h : l.length ≤ n) : (padTo n l).length = n := by simp [padTo]; omega
theorem padTo_syms {n : Nat} {l : List Nat} (h : Syms l) : Syms (padTo n l) := fun x hx => by
  rcases List.mem_append.1 hx with h1 | h1
  · exact h x h1
  · have := (List.mem_replicate.1 h1).2; omega
theorem gval_append (a b : List Nat) (x : Nat) : gval (a ++ b) x = a.foldr (fun c acc => gmul acc x ^^^ c) (gval b x) := by simp [gval]
theorem padTo_val {n x : Nat} (hx : x < 16) (l : List Nat) : gval (padTo n l) x = gval l x := by
  unfold padTo
  rw [gval_append, gval_zero (fun y hy => (List.mem_replicate.1 hy).2) hx]
  rfl
theorem padTo_get (n : Nat) (l : List Nat) (i : Nat) : (padTo n l).getD i 0 = l.getD i 0 := by
  unfold padTo
  rcases Nat.lt_or_ge i l.length with h | h
  · simp [List.getD_eq_getElem?_getD, List.getElem?_append_left h]
  · simp only [List.getD_eq_getElem?_getD, List.getElem?_append_right h, List.getElem?_eq_none h, List.getElem?_replicate]
    split <;> rfl
theorem bw_exists {w ps M : List Nat} {k e : Nat} (hw : Syms w) (hp : ∀ i ∈ ps, i < 15) (hk : 0 < k) (hM : FitsAt w ps k e M) :
    ∃ N E : List Nat, Syms N ∧ Syms E ∧ N.length = k + e ∧ E.length = e + 1 ∧ Solves w ps N E ∧ ¬ AllZ E := by
  obtain ⟨m1, m2, m3⟩ := hM
  have hr : ∀ r ∈ (wrongs M w ps).map powN, r < 16 := fun r hr => by
    obtain ⟨i, hi, rfl⟩ := List.mem_map.1 hr
    exact pow_lt (hp i (List.mem_filter.1 hi).1)
  have hsy := rooted_syms hr
  have hlen := rooted_len ((wrongs M w ps).map powN)
  rw [List.length_map] at hlen
  have hne : M ≠ [] := by intro h; rw [h] at m2; simp at m2; omega
  refine ⟨padTo (k + e) (pmul (rooted ((wrongs M w ps).map powN)) M), padTo (e + 1) (rooted ((wrongs M w ps).map powN)), padTo_syms (pmul_syms hsy m1), padTo_syms hsy, padTo_len ?_, padTo_len (by omega), fun i hi => ?_, fun hz => ?_⟩
  · rw [pmul_len _ _ (rooted_ne _) hne]; omega
  · have hx := pow_lt (hp i hi)
    have hy : w.getD i 0 < 16 := by
      rw [List.getD_eq_getElem?_getD]
      cases h : w[i]? with
      | none => simp
      | some c => exact hw c (List.mem_of_getElem? h)
    rw [padTo_val hx, padTo_val hx, pmul_val hx hsy m1]
    by_cases h : gval M (powN i) = w.getD i 0
    · rw [h, gmul_comm hy (gval_lt hsy hx)]
    · rw [rooted_val hx hr (List.mem_map.2 ⟨i, List.mem_filter.2 ⟨hi, by simpa using h⟩, rfl⟩), (gmul_zero hy).1, (gmul_zero (gval_lt m1 hx)).2]
  · have h1 := (rooted_top hr).1
    rw [← padTo_get (e + 1)] at h1
    have : (padTo (e + 1) (rooted ((wrongs M w ps).map powN))).getD ((wrongs M w ps).map powN).length 0 = 0 := by
      rw [List.getD_eq_getElem?_getD]
      cases h : (padTo (e + 1) (rooted ((wrongs M w ps).map powN)))[((wrongs M w ps).map powN).length]? with
      | none => rfl
      | some c => exact hz c (List.mem_of_getElem? h)
    omega
/-! ### two messages that fit are one; division -/
theorem eq_of_xor_zero : ∀ {a b : List Nat}, a.length = b.length → AllZ (padd a b) → a = b
  | [], [], _, _ => rfl
  | x :: a, y :: b, hl, h => by
    have h1 := xor_eq_zero (h (x ^^^ y) (by simp [padd]))
    have h2 := eq_of_xor_zero (by simpa using hl) fun z hz => h z (by simp [padd, hz])
    rw [h1, h2]
theorem fits_unique {w ps M L : List Nat} {k e : Nat} (hp : ∀ i ∈ ps, i < 15) (hn : ps.Nodup) (hl : k + 2 * e ≤ ps.length) (hM : FitsAt w ps k e M) (hL : FitsAt w ps k e L) : M = L := by
  obtain ⟨m1, m2, m3⟩ := hM
  obtain ⟨l1, l2, l3⟩ := hL
  refine eq_of_xor_zero (by omega) (roots_zero (((rights M w ps).filter fun i => gval L (powN i) == w.getD i 0).map powN) _ (padd_syms m1 l1) ?_ ?_ ?_)
  · have h1 : ((rights M w ps).filter fun i => gval L (powN i) == w.getD i 0).Nodup := (hn.sublist List.filter_sublist).sublist List.filter_sublist
    rw [List.Nodup, List.pairwise_map]
    refine List.Pairwise.imp_of_mem (fun {a b} ha hb hab he => hab ?_) h1
    exact pow_inj (hp a (List.mem_filter.1 (List.mem_filter.1 ha).1).1) (hp b (List.mem_filter.1 (List.mem_filter.1 hb).1).1) he
  · intro r hr
    obtain ⟨i, hi, rfl⟩ := List.mem_map.1 hr
    obtain ⟨i1, i2⟩ := List.mem_filter.1 hi
    obtain ⟨i3, i4⟩ := List.mem_filter.1 i1
    have hx := pow_lt (hp i i3)
    refine ⟨hx, ?_⟩
    rw [padd_val hx m1 l1, show gval M (powN i) = w.getD i 0 by simpa using i4, show gval L (powN i) = w.getD i 0 by simpa using i2, Nat.xor_self]
  · have h1 := wrongs_rights M w ps
    have h2 := wrongs_rights L w (rights M w ps)
    have h3 : (wrongs L w (rights M w ps)).length ≤ (wrongs L w ps).length := by
      unfold wrongs rights
      exact (List.Sublist.filter _ List.filter_sublist).length_le
    rw [padd_len, List.length_map]
    have h4 : ((rights M w ps).filter fun i => gval L (powN i) == w.getD i 0).length = (rights L w (rights M w ps)).length := rfl
    omega
/-- exact division: where a polynomial is d times M, a quotient and a smaller rest are M and 0 -/
theorem div_exact {p d M q r : List Nat} {n : Nat} (hd : Syms d) (hM : Syms M) (hq : Syms q) (hr : Syms r) (hn : d.getD n 0 ≠ 0) (hlow : Low n d) (hrl : ∀ i, n ≤ i → r.getD i 0 = 0) (h1 : d.length + max M.length q.length ≤ 17) (h2 : r.length ≤ 16) (hMl : M ≠ []) (hdl : d ≠ [])
    (e1 : ∀ x, x < 16 → gval p x = gmul (gval d x) (gval M x)) (e2 : ∀ x, x < 16 → gval p x = gmul (gval d x) (gval q x) ^^^ gval r x) : AllZ (padd M q) ∧ AllZ r := by
  have hD := padd_syms hM hq
  have hZ : AllZ (padd (pmul d (padd M q)) r) := by
    refine roots_zero (List.range 16) _ (padd_syms (pmul_syms hd hD) hr) List.nodup_range (fun x hx => ?_) ?_
    · have hx := List.mem_range.1 hx
      refine ⟨hx, ?_⟩
      have g1 := gval_lt hd hx
      have g2 := gval_lt hM hx
      have g3 := gval_lt hq hx
      rw [padd_val hx (pmul_syms hd hD) hr, pmul_val hx hd hD, padd_val hx hM hq, gmul_xor g1 g2 g3, ← e1 x hx, e2 x hx]
      generalize gmul (gval d x) (gval q x) = A
      generalize gval r x = R
      rw [show A ^^^ R ^^^ A ^^^ R = (A ^^^ R) ^^^ (A ^^^ R) by simp only [Nat.xor_assoc], Nat.xor_self]
    · rw [padd_len, pmul_len _ _ hdl (by intro h; have := padd_len M q; rw [h] at this; have := List.length_pos_iff.2 hMl; simp at *; omega), padd_len]
      simp
      omega
  have hDZ : AllZ (padd M q) := by
    refine Classical.byContradiction fun hne => ?_
    obtain ⟨j, j1, j2⟩ : ∃ j, (padd M q).getD j 0 ≠ 0 ∧ Low j (padd M q) := by
      have : ∀ l : List Nat, ¬ AllZ l → ∃ j, l.getD j 0 ≠ 0 ∧ Low j l := by
        intro l
        induction l with
        | nil => intro h; exact absurd (fun x hx => by simp at hx) h
        | cons c l ih =>
          intro h
          by_cases hl : AllZ l
          · refine ⟨0, fun h0 => h fun x hx => ?_, fun k hk => ?_⟩
            · rcases List.mem_cons.1 hx with rfl | hx
              · simpa using h0
              · exact hl x hx
            · cases k with
              | zero => omega
              | succ k =>
                rw [List.getD_cons_succ, List.getD_eq_getElem?_getD]
                cases h9 : l[k]? with
                | none => rfl
                | some c => exact hl c (List.mem_of_getElem? h9)
          · obtain ⟨j, j1, j2⟩ := ih hl
            refine ⟨j + 1, by simpa using j1, fun k hk => ?_⟩
            cases k with
            | zero => omega
            | succ k => simpa using j2 k (by omega)
      exact this _ hne
    have ht := (pmul_top (i := n) (j := j) hd hD hlow j2).1
    have hz : (padd (pmul d (padd M q)) r).getD (n + j) 0 = 0 := by
      rw [List.getD_eq_getElem?_getD]
      cases h9 : (padd (pmul d (padd M q)) r)[n + j]? with
      | none => rfl
      | some c => exact hZ c (List.mem_of_getElem? h9)
    rw [padd_get, hrl (n + j) (by omega), Nat.xor_zero, ht] at hz
    have b1 : ∀ (l : List Nat), Syms l → ∀ i, l.getD i 0 < 16 := fun l hl i => by
      rw [List.getD_eq_getElem?_getD]
      cases h9 : l[i]? with
      | none => simp
      | some c => exact hl c (List.mem_of_getElem? h9)
    rcases gmul_ne (b1 d hd n) (b1 _ hD j) hz with h9 | h9
    · exact hn h9
    · exact j1 h9
  refine ⟨hDZ, roots_zero (List.range 16) _ hr List.nodup_range (fun x hx => ?_) (by simpa using h2)⟩
  have hx := List.mem_range.1 hx
  refine ⟨hx, ?_⟩
  have h9 := gval_zero hDZ hx
  rw [padd_val hx hM hq] at h9
  have h8 := xor_eq_zero h9
  have := e2 x hx
  rw [e1 x hx, h8] at this
  have h7 := congrArg (fun z => gmul (gval d x) (gval q x) ^^^ z) this
  simp only [xor_xor, Nat.xor_self] at h7
  exact h7.symm
end Go.Proofs.YtlnofbdhamingaaDoor

/- Elimination with rows that are exchanged, over the sixteen symbols. No program in sight. -/
namespace Go.Proofs.YtlnofbdhamingaaDoor
open Go.RowKit Go.Sort

/-- the sum of the products, place by place -/
def dot : List Nat → List Nat → Nat
  | x :: a, y :: b => gmul x y ^^^ dot a b
  | _, _ => 0
theorem dot_lt : ∀ {a b : List Nat}, Syms a → Syms b → dot a b < 16
  | [], _, _, _ => by simp [dot]
  | _ :: _, [], _, _ => by simp [dot]
  | x :: a, y :: b, ha, hb => xor_lt (gmul_lt ha.head hb.head) (dot_lt ha.tail hb.tail)
theorem dot_scale {s : Nat} (hs : s < 16) : ∀ {a b : List Nat}, Syms a → Syms b → dot (pscale s a) b = gmul s (dot a b)
  | [], _, _, _ => by simp [dot, pscale, (gmul_zero hs).1]
  | _ :: _, [], _, _ => by simp [dot, pscale, (gmul_zero hs).1]
  | x :: a, y :: b, ha, hb => by
    show gmul (gmul s x) y ^^^ dot (pscale s a) b = gmul s (gmul x y ^^^ dot a b)
    rw [dot_scale hs ha.tail hb.tail, gmul_assoc hs ha.head hb.head, gmul_xor hs (gmul_lt ha.head hb.head) (dot_lt ha.tail hb.tail)]
theorem dot_add : ∀ {a c b : List Nat}, a.length = c.length → Syms a → Syms c → Syms b → dot (padd a c) b = dot a b ^^^ dot c b
  | [], [], _, _, _, _, _ => by simp [dot, padd]
  | _ :: _, _ :: _, [], _, _, _, _ => by simp [dot]
  | x :: a, z :: c, y :: b, hl, ha, hc, hb => by
    show gmul (x ^^^ z) y ^^^ dot (padd a c) b = (gmul x y ^^^ dot a b) ^^^ (gmul z y ^^^ dot c b)
    rw [dot_add (by simpa using hl) ha.tail hc.tail hb.tail, gmul_xor' hb.head ha.head hc.head]
    generalize gmul x y = A
    generalize gmul z y = B
    generalize dot a b = C
    generalize dot c b = D
    rw [show A ^^^ C ^^^ (B ^^^ D) = A ^^^ (C ^^^ B) ^^^ D by simp only [Nat.xor_assoc], Nat.xor_comm C B]
    simp only [Nat.xor_assoc]
theorem dot_zero : ∀ {a b : List Nat}, Syms a → AllZ b → dot a b = 0
  | [], _, _, _ => by simp [dot]
  | _ :: _, [], _, _ => by simp [dot]
  | x :: a, y :: b, ha, hz => by
    show gmul x y ^^^ dot a b = 0
    rw [hz y (by simp), (gmul_zero ha.head).1, dot_zero ha.tail fun z h => hz z (by simp [h])]; rfl
/-- a row of powers of x -/
def powers (x : Nat) : Nat → Nat → List Nat
  | _, 0 => []
  | p, n + 1 => p :: powers x (gmul p x) n
theorem powers_len (x : Nat) : ∀ (n p : Nat), (powers x p n).length = n
  | 0, _ => rfl
  | n + 1, p => by simp [powers, powers_len x n]
theorem powers_syms {x : Nat} (hx : x < 16) : ∀ {n p : Nat}, p < 16 → Syms (powers x p n)
  | 0, _, _ => fun z h => by simp [powers] at h
  | n + 1, p, hp => Syms.cons hp (powers_syms hx (gmul_lt hp hx))
theorem dot_powers {x : Nat} (hx : x < 16) : ∀ {n p : Nat} {l : List Nat}, p < 16 → Syms l → l.length = n → dot (powers x p n) l = gmul p (gval l x)
  | 0, p, [], hp, _, _ => (gmul_zero hp).1.symm
  | n + 1, p, c :: l, hp, hl, hn => by
    show gmul p c ^^^ dot (powers x (gmul p x) n) l = gmul p (gmul (gval l x) x ^^^ c)
    rw [dot_powers hx (gmul_lt hp hx) hl.tail (by simpa using hn)]
    have g := gval_lt hl.tail hx
    rw [gmul_xor hp (gmul_lt g hx) hl.head, gmul_assoc hp hx g, gmul_comm hx g, Nat.xor_comm]
theorem dot_append : ∀ {a c b d : List Nat}, a.length = b.length → dot (a ++ c) (b ++ d) = dot a b ^^^ dot c d
  | [], c, [], d, _ => by simp [dot]
  | x :: a, c, y :: b, d, h => by
    show gmul x y ^^^ dot (a ++ c) (b ++ d) = (gmul x y ^^^ dot a b) ^^^ dot c d
    rw [dot_append (by simpa using h), Nat.xor_assoc]
/-- the equation of one place -/
def eqRow (x y n1 n2 : Nat) : List Nat := powers x 1 n1 ++ pscale y (powers x 1 n2)
theorem eqRow_len (x y n1 n2 : Nat) : (eqRow x y n1 n2).length = n1 + n2 := by simp [eqRow, pscale, powers_len]
theorem eqRow_syms {x y : Nat} (hx : x < 16) (hy : y < 16) (n1 n2 : Nat) : Syms (eqRow x y n1 n2) := fun z h => by
  rcases List.mem_append.1 h with h | h
  · exact powers_syms hx (by omega) z h
  · exact pscale_syms hy (powers_syms hx (by omega)) z h
theorem eqRow_dot {x y : Nat} (hx : x < 16) (hy : y < 16) {N E : List Nat} (hN : Syms N) (hE : Syms E) : dot (eqRow x y N.length E.length) (N ++ E) = gval N x ^^^ gmul y (gval E x) := by
  unfold eqRow
  rw [dot_append (powers_len x _ _), dot_scale hy (powers_syms hx (by omega)) hE, dot_powers hx (by omega) hN rfl, dot_powers hx (by omega) hE rfl, gmul_one (gval_lt hN hx), gmul_one (gval_lt hE hx)]

/-! ### matrices -/
abbrev Mat := List (List Nat)
def Mat.Ok (R : Mat) (u : Nat) : Prop := ∀ r ∈ R, Syms r ∧ r.length = u
def Mat.row (R : Mat) (i : Nat) : List Nat := R.getD i []
def Mat.at (R : Mat) (i j : Nat) : Nat := (R.row i).getD j 0
def Mat.Sol (R : Mat) (s : List Nat) : Prop := ∀ r ∈ R, dot r s = 0
theorem Mat.row_mem {R : Mat} {i : Nat} (h : i < R.length) : R.row i ∈ R := by
  unfold Mat.row
  rw [List.getD_eq_getElem?_getD, List.getElem?_eq_getElem h]
  exact List.getElem_mem h
theorem Mat.sol_iff {R : Mat} {s : List Nat} : R.Sol s ↔ ∀ i, i < R.length → dot (R.row i) s = 0 := by
  constructor
  · intro h i hi
    exact h _ (Mat.row_mem hi)
  · intro h r hr
    obtain ⟨i, hi, rfl⟩ := List.getElem_of_mem hr
    have := h i hi
    unfold Mat.row at this
    rwa [List.getD_eq_getElem?_getD, List.getElem?_eq_getElem hi] at this
def Mat.swap (R : Mat) (n i : Nat) : Mat := (R.set n (R.row i)).set i (R.row n)
theorem Mat.row_set {R : Mat} {i j : Nat} {r : List Nat} (hi : i < R.length) : Mat.row (R.set i r) j = if j = i then r else R.row j := by
  unfold Mat.row
  rw [List.getD_eq_getElem?_getD, List.getElem?_set]
  by_cases h : i = j
  · subst h; simp [hi]
  · rw [if_neg h, if_neg (by omega), List.getD_eq_getElem?_getD]
theorem Mat.row_swap {R : Mat} {n i j : Nat} (hn : n < R.length) (hi : i < R.length) : (R.swap n i).row j = if j = i then R.row n else if j = n then R.row i else R.row j := by
  unfold Mat.swap
  rw [Mat.row_set (by simpa using hi), Mat.row_set hn]
theorem Mat.ok_row {R : Mat} {u i : Nat} (h : R.Ok u) (hi : i < R.length) : Syms (R.row i) ∧ (R.row i).length = u := h _ (Mat.row_mem hi)
theorem Mat.ok_of {R : Mat} {u : Nat} (h : ∀ i, i < R.length → Syms (R.row i) ∧ (R.row i).length = u) : R.Ok u := fun r hr => by
  obtain ⟨i, hi, rfl⟩ := List.getElem_of_mem hr
  have := h i hi
  unfold Mat.row at this
  rwa [List.getD_eq_getElem?_getD, List.getElem?_eq_getElem hi] at this
theorem Mat.at_lt {R : Mat} {u i j : Nat} (h : R.Ok u) : R.at i j < 16 := by
  unfold Mat.at
  rcases Nat.lt_or_ge i R.length with hi | hi
  · have hs := (Mat.ok_row h hi).1
    rw [List.getD_eq_getElem?_getD]
    cases h9 : (R.row i)[j]? with
    | none => simp
    | some c => exact hs c (List.mem_of_getElem? h9)
  · unfold Mat.row
    rw [List.getD_eq_getElem?_getD (l := R), List.getElem?_eq_none hi]
    simp
def Mat.scale (R : Mat) (n s : Nat) : Mat := R.set n (pscale s (R.row n))
/-- row k plus row n times what is in row k at the column -/
def Mat.clear (R : Mat) (n c k : Nat) : Mat := if k = n then R else R.set k (padd (R.row k) (pscale (R.at k c) (R.row n)))
def Mat.clears (R : Mat) (n c : Nat) : Nat → Mat
  | 0 => R
  | k + 1 => (R.clears n c k).clear n c k
theorem Mat.clear_len (R : Mat) (n c k : Nat) : (R.clear n c k).length = R.length := by unfold Mat.clear; split <;> simp
theorem Mat.clears_len (R : Mat) (n c : Nat) : ∀ k, (R.clears n c k).length = R.length
  | 0 => rfl
  | k + 1 => by rw [Mat.clears, Mat.clear_len, Mat.clears_len R n c k]
theorem Mat.clear_row {R : Mat} {n c k j : Nat} (hk : k < R.length) : (R.clear n c k).row j = if j = k ∧ k ≠ n then padd (R.row k) (pscale (R.at k c) (R.row n)) else R.row j := by
  unfold Mat.clear
  by_cases h : k = n
  · rw [if_pos h, if_neg (by omega)]
  · rw [if_neg h, Mat.row_set hk]
    by_cases h2 : j = k
    · rw [if_pos h2, if_pos ⟨h2, h⟩]
    · rw [if_neg h2, if_neg (fun h9 => h2 h9.1)]
theorem Mat.clears_row {R : Mat} {n c : Nat} (hn : n < R.length) : ∀ {k : Nat}, k ≤ R.length → ∀ j, (R.clears n c k).row j = if j < k ∧ j ≠ n then padd (R.row j) (pscale (R.at j c) (R.row n)) else R.row j
  | 0, _, j => by rw [if_neg (by omega)]; rfl
  | k + 1, hk, j => by
    have ih := Mat.clears_row (c := c) hn (k := k) (by omega)
    rw [Mat.clears, Mat.clear_row (by rw [Mat.clears_len]; omega)]
    have e : (R.clears n c k).at k c = R.at k c := by
      unfold Mat.at
      rw [ih k, if_neg (by omega)]
    have ek : (R.clears n c k).row k = R.row k := by rw [ih k, if_neg (by omega)]
    have en : (R.clears n c k).row n = R.row n := by rw [ih n, if_neg (by omega)]
    rw [e, ek, en, ih j]
    by_cases h : j = k ∧ k ≠ n
    · rw [if_pos h, if_pos (by omega), h.1]
    · rw [if_neg h]
      by_cases h2 : j < k ∧ j ≠ n
      · rw [if_pos h2, if_pos (by omega)]
      · rw [if_neg h2, if_neg (by omega)]
/-- one column: the row i comes to n, is scaled, and clears the others -/
def Mat.pivot (R : Mat) (n i : Nat) : Mat :=
  let S := (R.swap n i).scale n (ginv (R.at i n))
  S.clears n n S.length
theorem Mat.swap_len (R : Mat) (n i : Nat) : (R.swap n i).length = R.length := by simp [Mat.swap]
theorem Mat.scale_len (R : Mat) (n s : Nat) : (R.scale n s).length = R.length := by simp [Mat.scale]
theorem Mat.pivot_len (R : Mat) (n i : Nat) : (R.pivot n i).length = R.length := by
  unfold Mat.pivot
  rw [Mat.clears_len, Mat.scale_len, Mat.swap_len]
theorem Mat.pivot_row {R : Mat} {n i : Nat} (hn : n < R.length) (hi : i < R.length) (j : Nat) (hj : j < R.length) :
    (R.pivot n i).row j = let P := pscale (ginv (R.at i n)) (R.row i); if j = n then P else let r := (R.swap n i).row j; padd r (pscale (r.getD n 0) P) := by
  unfold Mat.pivot
  have hl : ((R.swap n i).scale n (ginv (R.at i n))).length = R.length := by rw [Mat.scale_len, Mat.swap_len]
  have hrow : ∀ j, ((R.swap n i).scale n (ginv (R.at i n))).row j = if j = n then pscale (ginv (R.at i n)) (R.row i) else (R.swap n i).row j := by
    intro j
    unfold Mat.scale
    rw [Mat.row_set (by rw [Mat.swap_len]; exact hn)]
    by_cases h : j = n
    · rw [if_pos h, if_pos h, Mat.row_swap hn hi]
      by_cases h2 : n = i
      · rw [if_pos h2, h2]
      · rw [if_neg h2, if_pos rfl]
    · rw [if_neg h, if_neg h]
  dsimp only
  rw [Mat.clears_row (by rw [hl]; exact hn) (Nat.le_refl _), hl]
  by_cases h : j = n
  · rw [if_pos h, if_neg (by omega), hrow, if_pos h]
  · rw [if_neg h, if_pos ⟨hj, h⟩]
    rw [show ((R.swap n i).scale n (ginv (R.at i n))).at j n = (((R.swap n i).scale n (ginv (R.at i n))).row j).getD n 0 from rfl, hrow j, if_neg h, hrow n, if_pos rfl]
theorem Mat.swap_ok {R : Mat} {u n i : Nat} (h : R.Ok u) (hn : n < R.length) (hi : i < R.length) : (R.swap n i).Ok u := Mat.ok_of fun j hj => by
  rw [Mat.swap_len] at hj
  rw [Mat.row_swap hn hi]
  split
  · exact Mat.ok_row h hn
  · split
    · exact Mat.ok_row h hi
    · exact Mat.ok_row h hj
theorem Mat.pivot_ok {R : Mat} {u n i : Nat} (h : R.Ok u) (hn : n < R.length) (hi : i < R.length) (hz : R.at i n ≠ 0) : (R.pivot n i).Ok u := Mat.ok_of fun j hj => by
  rw [Mat.pivot_len] at hj
  have hg := gmul_inv (Mat.at_lt h) hz
  have hi1 := Mat.ok_row h hi
  have hs := Mat.swap_ok h hn hi
  have hj1 := Mat.ok_row hs (i := j) (by rw [Mat.swap_len]; exact hj)
  rw [Mat.pivot_row hn hi j hj]
  dsimp only
  have hP : Syms (pscale (ginv (R.at i n)) (R.row i)) := pscale_syms hg.2.1 hi1.1
  split
  · exact ⟨hP, by simp [pscale, hi1.2]⟩
  · have ha : ((R.swap n i).row j).getD n 0 < 16 := Mat.at_lt (i := j) (j := n) hs
    exact ⟨padd_syms hj1.1 (pscale_syms ha hP), by rw [padd_len]; simp [pscale, hi1.2, hj1.2]⟩
theorem Mat.swap_sol {R : Mat} {n i : Nat} (hn : n < R.length) (hi : i < R.length) (s : List Nat) : (R.swap n i).Sol s ↔ R.Sol s := by
  rw [Mat.sol_iff, Mat.sol_iff, Mat.swap_len]
  constructor
  · intro h j hj
    by_cases h1 : j = n
    · have := h i hi; rw [Mat.row_swap hn hi, if_pos rfl] at this; rw [h1]; exact this
    · by_cases h2 : j = i
      · have := h n hn
        rw [Mat.row_swap hn hi] at this
        by_cases h3 : n = i
        · omega
        · rw [if_neg h3, if_pos rfl] at this; rw [h2]; exact this
      · have := h j hj; rw [Mat.row_swap hn hi, if_neg h2, if_neg h1] at this; exact this
  · intro h j hj
    rw [Mat.row_swap hn hi]
    split
    · exact h n hn
    · split
      · exact h i hi
      · exact h j hj
theorem Mat.pivot_sol {R : Mat} {u n i : Nat} (h : R.Ok u) (hn : n < R.length) (hi : i < R.length) (hz : R.at i n ≠ 0) {s : List Nat} (hs : Syms s) : (R.pivot n i).Sol s ↔ R.Sol s := by
  rw [← Mat.swap_sol hn hi s, Mat.sol_iff, Mat.sol_iff, Mat.pivot_len, Mat.swap_len]
  have hg := gmul_inv (Mat.at_lt h) hz
  have hi1 := Mat.ok_row h hi
  have hS := Mat.swap_ok h hn hi
  have hn0 : (R.swap n i).row n = R.row i := by
    rw [Mat.row_swap hn hi]
    by_cases h2 : n = i
    · rw [if_pos h2, h2]
    · rw [if_neg h2, if_pos rfl]
  have hP : Syms (pscale (ginv (R.at i n)) (R.row i)) := pscale_syms hg.2.1 hi1.1
  have hrow := Mat.pivot_row hn hi
  have key : ∀ j, j < R.length → j ≠ n → dot ((R.pivot n i).row j) s = dot ((R.swap n i).row j) s ^^^ gmul (((R.swap n i).row j).getD n 0) (gmul (ginv (R.at i n)) (dot (R.row i) s)) := by
    intro j hj hjn
    have hj1 := Mat.ok_row hS (i := j) (by rw [Mat.swap_len]; exact hj)
    have ha : ((R.swap n i).row j).getD n 0 < 16 := Mat.at_lt (i := j) (j := n) hS
    rw [hrow j hj]
    dsimp only
    rw [if_neg hjn, dot_add (by simp [pscale, hi1.2, hj1.2]) hj1.1 (pscale_syms ha hP) hs, dot_scale ha hP hs, dot_scale hg.2.1 hi1.1 hs]
  constructor
  · intro h9
    have h0 := h9 n hn
    rw [hrow n hn] at h0
    dsimp only at h0
    rw [if_pos rfl, dot_scale hg.2.1 hi1.1 hs] at h0
    have h1 : dot (R.row i) s = 0 := by
      rcases gmul_ne hg.2.1 (dot_lt hi1.1 hs) h0 with e | e
      · exact absurd e hg.2.2
      · exact e
    intro j hj
    by_cases hjn : j = n
    · rw [hjn, hn0]; exact h1
    · have := h9 j hj
      have ha : ((R.swap n i).row j).getD n 0 < 16 := Mat.at_lt (i := j) (j := n) hS
      rw [key j hj hjn, h1, (gmul_zero hg.2.1).1, (gmul_zero ha).1, Nat.xor_zero] at this
      exact this
  · intro h9
    have h1 : dot (R.row i) s = 0 := by have := h9 n hn; rwa [hn0] at this
    intro j hj
    by_cases hjn : j = n
    · rw [hjn, hrow n hn]
      dsimp only
      rw [if_pos rfl, dot_scale hg.2.1 hi1.1 hs, h1, (gmul_zero hg.2.1).1]
    · have ha : ((R.swap n i).row j).getD n 0 < 16 := Mat.at_lt (i := j) (j := n) hS
      rw [key j hj hjn, h1, (gmul_zero hg.2.1).1, (gmul_zero ha).1, Nat.xor_zero]
      exact h9 j hj
/-- the columns before c are those of the identity -/
def Mat.Unit (R : Mat) (c : Nat) : Prop := c ≤ R.length ∧ ∀ j, j < c → ∀ i, i < R.length → R.at i j = if i = j then 1 else 0
theorem Mat.pivot_unit {R : Mat} {u c i : Nat} (h : R.Ok u) (hU : R.Unit c) (hc : c ≤ i) (hi : i < R.length) (hz : R.at i c ≠ 0) : (R.pivot c i).Unit (c + 1) := by
  have hn : c < R.length := by omega
  have hg := gmul_inv (Mat.at_lt h) hz
  refine ⟨by rw [Mat.pivot_len]; omega, fun j hj k hk => ?_⟩
  rw [Mat.pivot_len] at hk
  have hS := Mat.swap_ok h hn hi
  have a1 : ((R.swap c i).row k).getD c 0 < 16 := Mat.at_lt (i := k) (j := c) hS
  have a2 : ((R.swap c i).row k).getD j 0 < 16 := Mat.at_lt (i := k) (j := j) hS
  have hP : ∀ j, (pscale (ginv (R.at i c)) (R.row i)).getD j 0 = gmul (ginv (R.at i c)) (R.at i j) := fun j => pscale_get hg.2.1 _ _
  unfold Mat.at
  rw [Mat.pivot_row hn hi k hk]
  dsimp only
  rcases Nat.lt_or_ge j c with hjc | hjc
  · have hij : R.at i j = 0 := by rw [hU.2 j hjc i hi, if_neg (by omega)]
    by_cases hkc : k = c
    · rw [if_pos hkc, if_neg (by omega), hP, hij, (gmul_zero hg.2.1).1]
    · rw [if_neg hkc, padd_get, pscale_get a1, hP, hij, (gmul_zero hg.2.1).1, (gmul_zero a1).1, Nat.xor_zero, Mat.row_swap hn hi]
      by_cases h2 : k = i
      · rw [if_pos h2, if_neg (by omega)]
        have := hU.2 j hjc c hn
        rw [if_neg (by omega)] at this
        exact this
      · rw [if_neg h2, if_neg hkc]
        exact hU.2 j hjc k hk
  · obtain rfl : j = c := by omega
    have h1 : gmul (ginv (R.at i j)) (R.at i j) = 1 := by rw [gmul_comm hg.2.1 (Mat.at_lt h)]; exact hg.1
    by_cases hkc : k = j
    · rw [if_pos hkc, if_pos hkc, hP, h1]
    · rw [if_neg hkc, if_neg hkc, padd_get, pscale_get a1, hP, h1, gmul_comm a1 (by omega), gmul_one a1, Nat.xor_self]
theorem syms_get {l : List Nat} (h : Syms l) (i : Nat) : l.getD i 0 < 16 := by
  rw [List.getD_eq_getElem?_getD]
  cases h9 : l[i]? with
  | none => simp
  | some c => exact h c (List.mem_of_getElem? h9)
theorem dot_unit : ∀ {a s : List Nat} {i : Nat}, Syms s → a.length = s.length → (∀ j, j < a.length → a.getD j 0 = if i = j then 1 else 0) → dot a s = if i < s.length then s.getD i 0 else 0
  | [], [], i, _, _, _ => by simp [dot]
  | x :: a, y :: s, i, hs, hl, h => by
    have h0 := h 0 (by simp)
    show gmul x y ^^^ dot a s = _
    cases i with
    | zero =>
      have hx : x = 1 := by simpa using h0
      have hz : AllZ a := fun z hz => by
        obtain ⟨n, hn, rfl⟩ := List.getElem_of_mem hz
        have := h (n + 1) (by simp; omega)
        simpa [List.getD_eq_getElem?_getD, hn] using this
      have : dot a s = 0 := by
        have gen : ∀ (a s : List Nat), Syms s → AllZ a → dot a s = 0 := by
          intro a
          induction a with
          | nil => intro s _ _; simp [dot]
          | cons z a ih =>
            intro s hs hz
            cases s with
            | nil => simp [dot]
            | cons t s =>
              show gmul z t ^^^ dot a s = 0
              rw [hz z (by simp), (gmul_zero hs.head).2, ih s hs.tail fun q hq => hz q (by simp [hq])]; rfl
        exact gen a s hs.tail hz
      rw [this, hx, gmul_one hs.head]
      simp
    | succ i =>
      have hx : x = 0 := by simpa using h0
      rw [hx, (gmul_zero hs.head).2, Nat.zero_xor, dot_unit (i := i) hs.tail (by simpa using hl) fun j hj => by
        have := h (j + 1) (by simp; omega)
        simpa using this]
      simp
/-- what the program answers where column c is free -/
def nullVec (R : Mat) (c u : Nat) : List Nat := (List.range c).map (fun i => R.at i c) ++ 1 :: List.replicate (u - c - 1) 0
theorem nullVec_len {R : Mat} {c u : Nat} (h : c < u) : (nullVec R c u).length = u := by simp [nullVec]; omega
theorem nullVec_syms {R : Mat} {c u : Nat} (h : R.Ok u) : Syms (nullVec R c u) := fun x hx => by
  unfold nullVec at hx
  rcases List.mem_append.1 hx with h1 | h1
  · obtain ⟨i, _, rfl⟩ := List.mem_map.1 h1
    exact Mat.at_lt h
  · rcases List.mem_cons.1 h1 with rfl | h1
    · omega
    · have := (List.mem_replicate.1 h1).2; omega
theorem nullVec_ne (R : Mat) (c u : Nat) : ¬ AllZ (nullVec R c u) := fun h => by
  have := h 1 (by simp [nullVec])
  omega
theorem nullVec_sol {R : Mat} {c u : Nat} (h : R.Ok u) (hU : R.Unit c) (hc : c < u) (hz : ∀ i, c ≤ i → i < R.length → R.at i c = 0) : R.Sol (nullVec R c u) := by
  rw [Mat.sol_iff]
  intro i hi
  obtain ⟨r1, r2⟩ := Mat.ok_row h hi
  have e : R.row i = (R.row i).take c ++ (R.at i c :: (R.row i).drop (c + 1)) := by
    have hg : R.at i c = (R.row i)[c] := by
      unfold Mat.at
      rw [List.getD_eq_getElem?_getD, List.getElem?_eq_getElem (by omega)]; rfl
    rw [hg, ← List.drop_eq_getElem_cons (by omega), List.take_append_drop]
  have hA : Syms ((List.range c).map fun i => R.at i c) := fun x hx => by
    obtain ⟨i, _, rfl⟩ := List.mem_map.1 hx
    exact Mat.at_lt h
  rw [e]
  unfold nullVec
  rw [dot_append (by simp; omega)]
  show _ ^^^ (gmul (R.at i c) 1 ^^^ dot _ _) = 0
  rw [dot_zero (fun x hx => r1 x (List.mem_of_mem_drop hx)) (fun x hx => (List.mem_replicate.1 hx).2), Nat.xor_zero, gmul_comm (Mat.at_lt h) (by omega), gmul_one (Mat.at_lt h),
    dot_unit (i := i) hA (by simp; omega) fun j hj => by
      have hj' : j < c := by simp at hj; omega
      have := hU.2 j hj' i hi
      unfold Mat.at at this
      rw [List.getD_eq_getElem?_getD, List.getElem?_take_of_lt hj', ← List.getD_eq_getElem?_getD]
      exact this]
  by_cases hic : i < c
  · rw [if_pos (by simpa using hic)]
    simp [List.getD_eq_getElem?_getD, hic]
  · rw [if_neg (by simpa using hic), hz i (by omega) hi]; rfl
/-- where all columns are those of the identity there is no other solution than 0 -/
theorem unit_only {R : Mat} {u : Nat} (h : R.Ok u) (hU : R.Unit u) {s : List Nat} (hs : Syms s) (hl : s.length = u) (hS : R.Sol s) : AllZ s := fun x hx => by
  obtain ⟨i, hi, rfl⟩ := List.getElem_of_mem hx
  have hi' : i < R.length := by have := hU.1; omega
  have h1 := (Mat.sol_iff.1 hS) i hi'
  obtain ⟨r1, r2⟩ := Mat.ok_row h hi'
  rw [dot_unit (i := i) hs (by omega) fun j hj => hU.2 j (by omega) i hi', if_pos hi] at h1
  simpa [List.getD_eq_getElem?_getD, hi] using h1
end Go.Proofs.YtlnofbdhamingaaDoor

/- Division of polynomials over the sixteen symbols, step by step. No program in sight. -/
namespace Go.Proofs.YtlnofbdhamingaaDoor
open Go.RowKit Go.Sort

def gpow (x : Nat) : Nat → Nat
  | 0 => 1
  | n + 1 => gmul (gpow x n) x
theorem gpow_lt {x : Nat} (hx : x < 16) : ∀ n, gpow x n < 16
  | 0 => by show 1 < 16; omega
  | n + 1 => gmul_lt (gpow_lt hx n) hx
theorem gval_split {x : Nat} (hx : x < 16) : ∀ {a b : List Nat}, Syms a → Syms b → gval (a ++ b) x = gval a x ^^^ gmul (gpow x a.length) (gval b x)
  | [], b, _, hb => by
    show gval b x = 0 ^^^ gmul 1 (gval b x)
    rw [gmul_one (gval_lt hb hx), Nat.zero_xor]
  | c :: a, b, ha, hb => by
    have g1 := gval_lt ha.tail hx
    have g2 := gval_lt hb hx
    have g3 := gpow_lt hx a.length
    rw [List.cons_append, gval_cons, gval_cons, gval_split hx ha.tail hb, gmul_xor' hx g1 (gmul_lt g3 g2), List.length_cons, gpow, gmul_assoc g3 g2 hx, gmul_comm g2 hx, ← gmul_assoc g3 hx g2]
    generalize gmul (gval a x) x = A
    generalize gmul (gmul (gpow x a.length) x) (gval b x) = B
    rw [Nat.xor_assoc, Nat.xor_assoc, Nat.xor_comm B c]
theorem syms_take {l : List Nat} (h : Syms l) (n : Nat) : Syms (l.take n) := fun x hx => h x (List.mem_of_mem_take hx)
theorem syms_drop {l : List Nat} (h : Syms l) (n : Nat) : Syms (l.drop n) := fun x hx => h x (List.mem_of_mem_drop hx)
/-- l times s, added from the place o on -/
def addAt (p : List Nat) (o s : Nat) (l : List Nat) : List Nat := p.take o ++ padd (p.drop o) (pscale s l)
theorem addAt_len {p l : List Nat} {o s : Nat} (h : o + l.length ≤ p.length) : (addAt p o s l).length = p.length := by
  unfold addAt
  rw [List.length_append, padd_len]
  simp [pscale]
  omega
theorem addAt_syms {p l : List Nat} {o s : Nat} (hp : Syms p) (hs : s < 16) (hl : Syms l) : Syms (addAt p o s l) := fun x hx => by
  rcases List.mem_append.1 hx with h | h
  · exact syms_take hp o x h
  · exact padd_syms (syms_drop hp o) (pscale_syms hs hl) x h
theorem addAt_val {p l : List Nat} {o s x : Nat} (hx : x < 16) (hp : Syms p) (hs : s < 16) (hl : Syms l) (ho : o ≤ p.length) : gval (addAt p o s l) x = gval p x ^^^ gmul (gpow x o) (gmul s (gval l x)) := by
  have e : gval p x = gval (p.take o) x ^^^ gmul (gpow x o) (gval (p.drop o) x) := by
    have := gval_split hx (syms_take hp o) (syms_drop hp o)
    rw [List.take_append_drop, List.length_take, Nat.min_eq_left ho] at this
    exact this
  unfold addAt
  rw [gval_split hx (syms_take hp o) (padd_syms (syms_drop hp o) (pscale_syms hs hl)), padd_val hx (syms_drop hp o) (pscale_syms hs hl), pscale_val hs hx hl, e, List.length_take, Nat.min_eq_left ho,
    gmul_xor (gpow_lt hx o) (gval_lt (syms_drop hp o) hx) (gmul_lt hs (gval_lt hl hx)), Nat.xor_assoc]
theorem addAt_get {p l : List Nat} {o s : Nat} (hs : s < 16) (ho : o ≤ p.length) (i : Nat) : (addAt p o s l).getD i 0 = if i < o then p.getD i 0 else p.getD i 0 ^^^ gmul s (l.getD (i - o) 0) := by
  unfold addAt
  by_cases h : i < o
  · rw [if_pos h, List.getD_eq_getElem?_getD, List.getElem?_append_left (by simp; omega), List.getElem?_take_of_lt h, ← List.getD_eq_getElem?_getD]
  · rw [if_neg h, List.getD_eq_getElem?_getD, List.getElem?_append_right (by simp; omega), ← List.getD_eq_getElem?_getD, padd_get, pscale_get hs, List.length_take, Nat.min_eq_left ho]
    congr 1
    simp only [List.getD_eq_getElem?_getD, List.getElem?_drop]
    rw [show o + (i - o) = i by omega]
theorem set_val {l : List Nat} {j c x : Nat} (hx : x < 16) (hl : Syms l) (hc : c < 16) (hj : j < l.length) (h0 : l.getD j 0 = 0) : gval (l.set j c) x = gval l x ^^^ gmul (gpow x j) c := by
  have e : l = l.take j ++ (0 :: l.drop (j + 1)) := by
    have h1 : l[j] = 0 := by simpa [List.getD_eq_getElem?_getD, hj] using h0
    rw [← h1, ← List.drop_eq_getElem_cons hj, List.take_append_drop]
  have e2 : l.set j c = l.take j ++ (c :: l.drop (j + 1)) := by
    rw [List.set_eq_take_append_cons_drop, if_pos hj]
  have hd := syms_drop hl (j + 1)
  have g1 := gval_lt hd hx
  rw [e2]
  conv => rhs; rw [e]
  rw [gval_split hx (syms_take hl j) (Syms.cons hc hd), gval_split hx (syms_take hl j) (Syms.cons (by omega) hd), gval_cons, gval_cons, Nat.xor_zero, List.length_take, Nat.min_eq_left (by omega),
    gmul_xor (gpow_lt hx j) (gmul_lt g1 hx) hc]
  simp only [Nat.xor_assoc]
/-- the degree, or -1 -/
def IsDeg (p : List Nat) (n : Int) : Prop := (-1 ≤ n ∧ n < p.length) ∧ (0 ≤ n → p.getD n.toNat 0 ≠ 0) ∧ ∀ j : Nat, n < j → p.getD j 0 = 0
theorem deg_zero {p : List Nat} {n : Int} (h : IsDeg p n) : n < 0 ↔ AllZ p := by
  constructor
  · intro hn x hx
    obtain ⟨i, hi, rfl⟩ := List.getElem_of_mem hx
    have := h.2.2 i (by omega)
    simpa [List.getD_eq_getElem?_getD, hi] using this
  · intro hz
    refine Classical.byContradiction fun hn => h.2.1 (by omega) ?_
    rw [List.getD_eq_getElem?_getD]
    cases h9 : p[n.toNat]? with
    | none => rfl
    | some c => exact hz c (List.mem_of_getElem? h9)
theorem gval_low {d : List Nat} (hd : Syms d) {n x : Nat} (hx : x < 16) (h : Low n d) : gval (d.take (n + 1)) x = gval d x := by
  have := gval_split hx (syms_take hd (n + 1)) (syms_drop hd (n + 1))
  rw [List.take_append_drop] at this
  rw [this, gval_zero (l := d.drop (n + 1)) (fun y hy => by
    obtain ⟨i, hi, rfl⟩ := List.getElem_of_mem hy
    have := h (n + 1 + i) (by omega)
    simp at hi
    rw [List.getElem_drop]
    simpa [List.getD_eq_getElem?_getD, show n + 1 + i < d.length by omega] using this) hx, (gmul_zero (gpow_lt hx _)).1, Nat.xor_zero]
/-- what holds at the head of each round of the division -/
def DivInv (p d : List Nat) (n : Nat) (out rest : List Nat) : Prop :=
  Syms out ∧ Syms rest ∧ rest.length = p.length ∧ out.length = max (p.length - n) 1 ∧ (∀ x, x < 16 → gval p x = gmul (gval d x) (gval out x) ^^^ gval rest x)
theorem div_start {p d : List Nat} {n : Nat} (hp : Syms p) (hd : Syms d) : DivInv p d n (List.replicate (max (p.length - n) 1) 0) p := by
  have hz : AllZ (List.replicate (max (p.length - n) 1) 0) := fun x hx => (List.mem_replicate.1 hx).2
  refine ⟨fun x hx => by have := hz x hx; omega, hp, rfl, by simp, fun x hx => ?_⟩
  rw [gval_zero hz hx, (gmul_zero (gval_lt hd hx)).1, Nat.zero_xor]
/-- the factor of a round -/
def divS (d rest : List Nat) (n k : Nat) : Nat := gmul (rest.getD k 0) (ginv (d.getD n 0))
theorem div_step {p d out rest : List Nat} {n k : Nat} (hd : Syms d) (hn : n < d.length) (hdn : d.getD n 0 ≠ 0) (hlow : Low n d) (hk : IsDeg rest k) (hnk : n ≤ k) (h0 : ∀ j, n + j ≤ k → out.getD j 0 = 0) (h : DivInv p d n out rest) :
    divS d rest n k < 16 ∧ k - n < out.length ∧ DivInv p d n (out.set (k - n) (divS d rest n k)) (addAt rest (k - n) (divS d rest n k) (d.take (n + 1))) ∧ (∀ j : Nat, k ≤ j → (addAt rest (k - n) (divS d rest n k) (d.take (n + 1))).getD j 0 = 0) ∧
      ∀ k' j, k' < k → n + j ≤ k' → (out.set (k - n) (divS d rest n k)).getD j 0 = 0 := by
  obtain ⟨i1, i2, i3, i4, i5⟩ := h
  have hg := gmul_inv (syms_get hd n) hdn
  have hs : divS d rest n k < 16 := gmul_lt (syms_get i2 k) hg.2.1
  have hkl : k < rest.length := by have := hk.1.2; omega
  have hkn : k - n < out.length := by omega
  have ht := syms_take hd (n + 1)
  refine ⟨hs, hkn, ⟨fun x hx => ?_, addAt_syms i2 hs ht, ?_, by simpa using i4, fun x hx => ?_⟩, fun j hj => ?_, fun k' j h1 h2 => ?_⟩
  · rcases List.mem_or_eq_of_mem_set hx with h9 | rfl
    · exact i1 x h9
    · exact hs
  · rw [addAt_len (by simp; omega), i3]
  · rw [set_val hx i1 hs hkn (h0 _ (by omega)), addAt_val hx i2 hs ht (by omega), gval_low hd hx hlow, i5 x hx]
    have g1 := gval_lt hd hx
    have g2 := gval_lt i1 hx
    have g3 := gpow_lt hx (k - n)
    rw [gmul_xor g1 g2 (gmul_lt g3 hs), gmul_comm hs g1, ← gmul_assoc g3 g1 hs, gmul_comm g3 g1, gmul_assoc g1 g3 hs]
    generalize gmul (gval d x) (gval out x) = A
    generalize gmul (gval d x) (gmul (gpow x (k - n)) (divS d rest n k)) = B
    generalize gval rest x = C
    rw [show A ^^^ B ^^^ (C ^^^ B) = A ^^^ (B ^^^ (C ^^^ B)) by rw [Nat.xor_assoc], Nat.xor_comm C B, xor_xor]
  · rw [addAt_get hs (by omega), if_neg (by omega)]
    rcases Nat.eq_or_lt_of_le hj with rfl | hj
    · rw [show k - (k - n) = n by omega, List.getD_eq_getElem?_getD (l := d.take (n + 1)), List.getElem?_take_of_lt (by omega), ← List.getD_eq_getElem?_getD]
      unfold divS
      rw [gmul_assoc (syms_get i2 k) hg.2.1 (syms_get hd n), gmul_comm hg.2.1 (syms_get hd n), hg.1, gmul_comm (syms_get i2 k) (by omega), gmul_one (syms_get i2 k), Nat.xor_self]
    · rw [hk.2.2 j (by omega), List.getD_eq_getElem?_getD (l := d.take (n + 1)), List.getElem?_eq_none (by simp; omega)]
      show 0 ^^^ gmul _ 0 = 0
      rw [(gmul_zero hs).1]; rfl
  · rw [List.getD_eq_getElem?_getD, List.getElem?_set, if_neg (by omega), ← List.getD_eq_getElem?_getD]
    exact h0 j (by omega)
end Go.Proofs.YtlnofbdhamingaaDoor

/- Decoding: what is decoded, and what each way of the program says of it. No program in sight. -/
namespace Go.Proofs.YtlnofbdhamingaaDoor
open Go.RowKit Go.Sort

/-- the places before k that are not erased -/
def placesK (er : List Bool) (k : Nat) : List Nat := (List.range k).filter fun i => !(er.getD i false)
def placesOf (er : List Bool) : List Nat := placesK er er.length
def goneK (er : List Bool) (k : Nat) : Nat := ((List.range k).filter fun i => er.getD i false).length
def goneN (er : List Bool) : Nat := goneK er er.length
theorem placesK_succ (er : List Bool) (k : Nat) : placesK er (k + 1) = if er.getD k false = true then placesK er k else placesK er k ++ [k] := by
  unfold placesK
  rw [List.range_succ, List.filter_append]
  cases h : er.getD k false <;> simp [-List.getD_eq_getElem?_getD, h]
theorem goneK_succ (er : List Bool) (k : Nat) : goneK er (k + 1) = if er.getD k false = true then goneK er k + 1 else goneK er k := by
  unfold goneK
  rw [List.range_succ, List.filter_append]
  cases h : er.getD k false <;> simp [-List.getD_eq_getElem?_getD, h]
theorem places_gone (er : List Bool) : ∀ k, (placesK er k).length + goneK er k = k
  | 0 => rfl
  | k + 1 => by
    have ih := places_gone er k
    rw [placesK_succ, goneK_succ]
    cases h : er.getD k false <;> simp <;> omega
theorem places_lt {er : List Bool} {k i : Nat} (h : i ∈ placesK er k) : i < k := List.mem_range.1 (List.mem_filter.1 h).1
theorem places_nodup (er : List Bool) (k : Nat) : (placesK er k).Nodup := List.nodup_range.sublist List.filter_sublist
def errN (M w : List Nat) (er : List Bool) : Nat := (wrongs M w (placesOf er)).length
/-- a message of k symbols that fits -/
def FitsW (w : List Nat) (er : List Bool) (k : Nat) (M : List Nat) : Prop := Syms M ∧ M.length = k ∧ 2 * errN M w er + goneN er ≤ 15 - k
noncomputable def decR (w : List Nat) (er : List Bool) (k : Nat) : Option (List Nat) := open Classical in if h : ∃ M, FitsW w er k M then some h.choose else none
/-- a word that was received -/
def RecvOk (w : List Nat) (er : List Bool) (k : Nat) : Prop := Syms w ∧ w.length = 15 ∧ er.length = 15 ∧ 1 ≤ k ∧ k ≤ 13
theorem fitsAt_of {w : List Nat} {er : List Bool} {k : Nat} (h : RecvOk w er k) {M : List Nat} : FitsW w er k M ↔ k ≤ (placesOf er).length ∧ FitsAt w (placesOf er) k (((placesOf er).length - k) / 2) M := by
  obtain ⟨-, -, h2, h3, h4⟩ := h
  have hp := places_gone er er.length
  unfold FitsW FitsAt errN goneN placesOf
  constructor
  · rintro ⟨a, b, c⟩; exact ⟨by omega, a, b, by omega⟩
  · rintro ⟨a, b, c, d⟩; exact ⟨b, c, by omega⟩
theorem placesOf_lt {w : List Nat} {er : List Bool} {k : Nat} (h : RecvOk w er k) : ∀ i ∈ placesOf er, i < 15 := fun i hi => by
  have := places_lt hi; have := h.2.2.1; omega
theorem fitsW_unique {w : List Nat} {er : List Bool} {k : Nat} (h : RecvOk w er k) {M L : List Nat} (hM : FitsW w er k M) (hL : FitsW w er k L) : M = L := by
  rw [fitsAt_of h] at hM hL
  exact fits_unique (placesOf_lt h) (places_nodup _ _) (by omega) hM.2 hL.2
theorem decR_some {w : List Nat} {er : List Bool} {k : Nat} (h : RecvOk w er k) {M : List Nat} (hM : FitsW w er k M) : decR w er k = some M := by
  have hex : ∃ M, FitsW w er k M := ⟨M, hM⟩
  unfold decR
  rw [dif_pos hex]
  rw [fitsW_unique h hex.choose_spec hM]
theorem decR_none {w : List Nat} {er : List Bool} {k : Nat} (h : ∀ M, ¬ FitsW w er k M) : decR w er k = none := by
  unfold decR
  rw [dif_neg (fun ⟨M, hM⟩ => h M hM)]
theorem decR_fits {w : List Nat} {er : List Bool} {k : Nat} {M : List Nat} (h : decR w er k = some M) : FitsW w er k M := by
  unfold decR at h
  split at h
  · rename_i hex
    cases h
    exact hex.choose_spec
  · cases h
theorem decR_no {w : List Nat} {er : List Bool} {k : Nat} (h : decR w er k = none) : ∀ M, ¬ FitsW w er k M := fun M hM => by
  unfold decR at h
  rw [dif_pos ⟨M, hM⟩] at h
  cases h
/-! ### the equations of the program -/
def mostOf (er : List Bool) (k : Nat) : Nat := ((placesOf er).length - k) / 2
def eqs (w ps : List Nat) (n1 n2 : Nat) : Mat := ps.map fun i => eqRow (powN i) (w.getD i 0) n1 n2
theorem eqs_len (w ps : List Nat) (n1 n2 : Nat) : (eqs w ps n1 n2).length = ps.length := by simp [eqs]
theorem eqs_ok {w ps : List Nat} (hw : Syms w) (hp : ∀ i ∈ ps, i < 15) (n1 n2 : Nat) : (eqs w ps n1 n2).Ok (n1 + n2) := fun r hr => by
  obtain ⟨i, hi, rfl⟩ := List.mem_map.1 hr
  exact ⟨eqRow_syms (pow_lt (hp i hi)) (syms_get hw i) _ _, eqRow_len _ _ _ _⟩
theorem eqs_sol {w ps N E : List Nat} (hw : Syms w) (hp : ∀ i ∈ ps, i < 15) (hN : Syms N) (hE : Syms E) : (eqs w ps N.length E.length).Sol (N ++ E) ↔ Solves w ps N E := by
  unfold Mat.Sol Solves eqs
  constructor
  · intro h i hi
    have := h _ (List.mem_map.2 ⟨i, hi, rfl⟩)
    rw [eqRow_dot (pow_lt (hp i hi)) (syms_get hw i) hN hE] at this
    exact xor_eq_zero this
  · intro h r hr
    obtain ⟨i, hi, rfl⟩ := List.mem_map.1 hr
    rw [eqRow_dot (pow_lt (hp i hi)) (syms_get hw i) hN hE, h i hi, Nat.xor_self]
/-- a solution that is not 0, or none where there is none -/
def KerOk (R : Mat) (u : Nat) : Option (List Nat) → Prop
  | none => ∀ s, Syms s → s.length = u → R.Sol s → AllZ s
  | some v => Syms v ∧ v.length = u ∧ R.Sol v ∧ ¬ AllZ v
theorem dec_short {w : List Nat} {er : List Bool} {k : Nat} (h : RecvOk w er k) (hs : (placesOf er).length < k) : decR w er k = none :=
  decR_none fun M hM => by have := ((fitsAt_of h).1 hM).1; omega
theorem dec_nil {w : List Nat} {er : List Bool} {k : Nat} (h : RecvOk w er k) (hk : KerOk (eqs w (placesOf er) (k + mostOf er k) (mostOf er k + 1)) (k + mostOf er k + (mostOf er k + 1)) none) : decR w er k = none :=
  decR_none fun M hM => by
    obtain ⟨h1, h2⟩ := (fitsAt_of h).1 hM
    obtain ⟨N, E, n1, n2, n3, n4, n5, n6⟩ := bw_exists h.1 (placesOf_lt h) h.2.2.2.1 h2
    have e1 : N.length = k + mostOf er k := n3
    have e2 : E.length = mostOf er k + 1 := n4
    have hz := hk (N ++ E) (fun x hx => by
      rcases List.mem_append.1 hx with h9 | h9
      · exact n1 x h9
      · exact n2 x h9) (by rw [List.length_append, e1, e2]) (by rw [← e1, ← e2]; exact (eqs_sol h.1 (placesOf_lt h) n1 n2).2 n5)
    exact n6 fun x hx => hz x (List.mem_append_right _ hx)
/-- what a solution says of a message that fits -/
theorem dec_bw {w : List Nat} {er : List Bool} {k : Nat} (h : RecvOk w er k) {N E : List Nat} (lN : N.length = k + mostOf er k) (lE : E.length = mostOf er k + 1)
    (hk : KerOk (eqs w (placesOf er) (k + mostOf er k) (mostOf er k + 1)) (k + mostOf er k + (mostOf er k + 1)) (some (N ++ E))) {M : List Nat} (hM : FitsW w er k M) : Syms N ∧ Syms E ∧ AllZ (padd N (pmul E M)) ∧ ¬ AllZ E := by
  obtain ⟨h1, h2⟩ := (fitsAt_of h).1 hM
  obtain ⟨k1, k2, k3, k4⟩ := hk
  have sN : Syms N := fun x hx => k1 x (List.mem_append_left _ hx)
  have sE : Syms E := fun x hx => k1 x (List.mem_append_right _ hx)
  rw [← lN, ← lE] at k3
  have hS := (eqs_sol h.1 (placesOf_lt h) sN sE).1 k3
  have hp := places_gone er er.length
  have hz := bw h.1 (placesOf_lt h) (places_nodup _ _) sN sE lN lE h.2.2.2.1 (by unfold mostOf; omega) hS h2
  refine ⟨sN, sE, hz, fun hE => k4 fun x hx => ?_⟩
  have hm : mostOf er k ≤ 7 := by
    have := h.2.2.1; have := h.2.2.2.1
    unfold mostOf
    unfold placesOf
    omega
  have hkm : k + mostOf er k ≤ 15 := by
    have := h.2.2.1; have := h.2.2.2.1
    unfold mostOf
    unfold placesOf at h1 ⊢
    omega
  rcases List.mem_append.1 hx with h9 | h9
  · exact bw_ne sN sE hM.1 (by omega) hz hE x h9
  · exact hE x h9
theorem dec_zero {w : List Nat} {er : List Bool} {k : Nat} (h : RecvOk w er k) {N E : List Nat} (lN : N.length = k + mostOf er k) (lE : E.length = mostOf er k + 1)
    (hk : KerOk (eqs w (placesOf er) (k + mostOf er k) (mostOf er k + 1)) (k + mostOf er k + (mostOf er k + 1)) (some (N ++ E))) (hz : AllZ E) : decR w er k = none :=
  decR_none fun M hM => (dec_bw h lN lE hk hM).2.2.2 hz
/-- the first k factors -/
def firstK (q : List Nat) (k : Nat) : List Nat := (List.range k).map fun i => q.getD i 0
theorem firstK_len (q : List Nat) (k : Nat) : (firstK q k).length = k := by simp [firstK]
theorem firstK_syms {q : List Nat} (h : Syms q) (k : Nat) : Syms (firstK q k) := fun x hx => by
  obtain ⟨i, _, rfl⟩ := List.mem_map.1 hx
  exact syms_get h i
theorem firstK_get {q : List Nat} {k i : Nat} (h : i < k) : (firstK q k).getD i 0 = q.getD i 0 := by
  unfold firstK
  rw [List.getD_eq_getElem?_getD, List.getElem?_map, List.getElem?_range h]; rfl
theorem getD_of_allz {l : List Nat} (h : AllZ l) (i : Nat) : l.getD i 0 = 0 := by
  rw [List.getD_eq_getElem?_getD]
  cases h9 : l[i]? with
  | none => rfl
  | some c => exact h c (List.mem_of_getElem? h9)
theorem dec_div {w : List Nat} {er : List Bool} {k n : Nat} (h : RecvOk w er k) {N E : List Nat} (lN : N.length = k + mostOf er k) (lE : E.length = mostOf er k + 1)
    (hk : KerOk (eqs w (placesOf er) (k + mostOf er k) (mostOf er k + 1)) (k + mostOf er k + (mostOf er k + 1)) (some (N ++ E))) (hn : IsDeg E n) {q r : List Nat} (hD : DivInv N E n q r) (hr : ∀ i, n ≤ i → r.getD i 0 = 0)
    {M : List Nat} (hM : FitsW w er k M) : AllZ r ∧ (∀ i, k ≤ i → q.getD i 0 = 0) ∧ firstK q k = M := by
  obtain ⟨b1, b2, b3, b4⟩ := dec_bw h lN lE hk hM
  obtain ⟨d1, d2, d3, d4, d5⟩ := hD
  obtain ⟨f1, f2⟩ := (fitsAt_of h).1 hM
  have hm : k + 2 * mostOf er k ≤ 15 := by
    have := h.2.2.1; have := h.2.2.2.1
    have hp := places_gone er er.length
    unfold mostOf
    unfold placesOf at f1 ⊢
    omega
  obtain ⟨m1, m2, m3⟩ := hM
  have hk1 := h.2.2.2.1
  have hdn : E.getD n 0 ≠ 0 := by have := hn.2.1 (by omega); simpa using this
  have hlow : Low n E := fun j hj => hn.2.2 j (by omega)
  have hnE : n ≤ mostOf er k := by have := hn.1.2; omega
  have hM0 : M ≠ [] := fun h9 => by rw [h9] at m2; simp at m2; omega
  have hE0 : E ≠ [] := fun h9 => by rw [h9] at lE; simp at lE
  have e1 : ∀ x, x < 16 → gval N x = gmul (gval E x) (gval M x) := fun x hx => by
    have h9 := gval_zero b3 hx
    rw [padd_val hx b1 (pmul_syms b2 m1), pmul_val hx b2 m1] at h9
    exact xor_eq_zero h9
  have := div_exact b2 m1 d1 d2 hdn hlow hr (by rw [d4]; omega) (by omega) hM0 hE0 e1 d5
  have hq : ∀ i, q.getD i 0 = M.getD i 0 := fun i => by
    have h9 := getD_of_allz this.1 i
    rw [padd_get] at h9
    exact (xor_eq_zero h9).symm
  refine ⟨this.2, fun i hi => ?_, ?_⟩
  · rw [hq, List.getD_eq_getElem?_getD, List.getElem?_eq_none (by omega)]; rfl
  · refine List.ext_getElem? fun i => ?_
    rcases Nat.lt_or_ge i k with hi | hi
    · unfold firstK
      rw [List.getElem?_map, List.getElem?_range hi]
      have h8 := hq i
      show some (q.getD i 0) = _
      rw [h8, List.getD_eq_getElem?_getD, List.getElem?_eq_getElem (by omega)]; rfl
    · rw [List.getElem?_eq_none (by rw [firstK_len]; omega), List.getElem?_eq_none (by omega)]
theorem dec_rest {w : List Nat} {er : List Bool} {k n : Nat} (h : RecvOk w er k) {N E : List Nat} (lN : N.length = k + mostOf er k) (lE : E.length = mostOf er k + 1)
    (hk : KerOk (eqs w (placesOf er) (k + mostOf er k) (mostOf er k + 1)) (k + mostOf er k + (mostOf er k + 1)) (some (N ++ E))) (hn : IsDeg E n) {q r : List Nat} (hD : DivInv N E n q r) (hr : ∀ i, n ≤ i → r.getD i 0 = 0)
    (hb : ¬ AllZ r ∨ ∃ i, k ≤ i ∧ q.getD i 0 ≠ 0) : decR w er k = none :=
  decR_none fun M hM => by
    obtain ⟨a, b, c⟩ := dec_div h lN lE hk hn hD hr hM
    rcases hb with hb | ⟨i, h1, h2⟩
    · exact hb a
    · exact h2 (b i h1)
theorem dec_many {w : List Nat} {er : List Bool} {k n : Nat} (h : RecvOk w er k) {N E : List Nat} (lN : N.length = k + mostOf er k) (lE : E.length = mostOf er k + 1)
    (hk : KerOk (eqs w (placesOf er) (k + mostOf er k) (mostOf er k + 1)) (k + mostOf er k + (mostOf er k + 1)) (some (N ++ E))) (hn : IsDeg E n) {q r : List Nat} (hD : DivInv N E n q r) (hr : ∀ i, n ≤ i → r.getD i 0 = 0)
    (hb : mostOf er k < errN (firstK q k) w er) : decR w er k = none :=
  decR_none fun M hM => by
    obtain ⟨a, b, c⟩ := dec_div h lN lE hk hn hD hr hM
    have h2 := ((fitsAt_of h).1 hM).2.2.2
    rw [c] at hb
    exact absurd hb (Nat.not_lt.2 h2)
theorem dec_ok {w : List Nat} {er : List Bool} {k : Nat} (h : RecvOk w er k) (hs : k ≤ (placesOf er).length) {q : List Nat} (hq : Syms q) (hb : errN (firstK q k) w er ≤ mostOf er k) : decR w er k = some (firstK q k) :=
  decR_some h ((fitsAt_of h).2 ⟨hs, firstK_syms hq k, firstK_len q k, hb⟩)
/-! ### the row of one place, symbol by symbol -/
theorem gpow_succ_left {x : Nat} (hx : x < 16) : ∀ n, gpow x (n + 1) = gmul x (gpow x n)
  | 0 => by show gmul 1 x = gmul x 1; rw [gmul_comm (by omega) hx]
  | n + 1 => by
    show gmul (gpow x (n + 1)) x = gmul x (gpow x (n + 1))
    rw [gmul_comm (gpow_lt hx _) hx]
theorem powers_get {x : Nat} (hx : x < 16) : ∀ {n p j : Nat}, p < 16 → j < n → (powers x p n).getD j 0 = gmul p (gpow x j)
  | n + 1, p, 0, hp, _ => by show p = gmul p 1; rw [gmul_comm hp (by omega), gmul_one hp]
  | n + 1, p, j + 1, hp, hj => by
    show (powers x (gmul p x) n).getD j 0 = _
    rw [powers_get hx (gmul_lt hp hx) (by omega), gpow_succ_left hx, gmul_assoc hp hx (gpow_lt hx j)]
theorem eqRow_get1 {x y n1 n2 j : Nat} (hx : x < 16) (hj : j < n1) : (eqRow x y n1 n2).getD j 0 = gpow x j := by
  unfold eqRow
  rw [List.getD_eq_getElem?_getD, List.getElem?_append_left (by rw [powers_len]; exact hj), ← List.getD_eq_getElem?_getD, powers_get hx (by omega) hj, gmul_one (gpow_lt hx j)]
theorem eqRow_get2 {x y n1 n2 j : Nat} (hx : x < 16) (hy : y < 16) (hj : j < n2) : (eqRow x y n1 n2).getD (n1 + j) 0 = gmul (gpow x j) y := by
  unfold eqRow
  rw [List.getD_eq_getElem?_getD, List.getElem?_append_right (by rw [powers_len]; omega), powers_len, Nat.add_sub_cancel_left, ← List.getD_eq_getElem?_getD, pscale_get hy, powers_get hx (by omega) hj, gmul_one (gpow_lt hx j), gmul_comm hy (gpow_lt hx j)]
theorem take_grow {l : List Nat} {n : Nat} (h : n < l.length) : l.take (n + 1) = l.take n ++ [l.getD n 0] := by
  rw [List.take_add_one, List.getElem?_eq_getElem h, List.getD_eq_getElem?_getD, List.getElem?_eq_getElem h]; rfl
end Go.Proofs.YtlnofbdhamingaaDoor

/- Elimination, column by column: what holds at the head of each column, and what it ends in. No program in sight. -/
namespace Go.Proofs.YtlnofbdhamingaaDoor
open Go.RowKit Go.Sort

def Kin (R0 R : Mat) (u c : Nat) : Prop := R.Ok u ∧ R.Unit c ∧ R.length = R0.length ∧ ∀ s, Syms s → (R.Sol s ↔ R0.Sol s)
theorem kin_start {R : Mat} {u : Nat} (h : R.Ok u) : Kin R R u 0 := ⟨h, ⟨Nat.zero_le _, fun j hj => by omega⟩, rfl, fun _ _ => Iff.rfl⟩
theorem kin_step {R0 R : Mat} {u c i : Nat} (h : Kin R0 R u c) (h1 : c ≤ i) (h2 : i < R.length) (h3 : R.at i c ≠ 0) : Kin R0 (R.pivot c i) u (c + 1) := by
  obtain ⟨a, b, d, e⟩ := h
  refine ⟨Mat.pivot_ok a (by omega) h2 h3, Mat.pivot_unit a b h1 h2 h3, by rw [Mat.pivot_len, d], fun s hs => ?_⟩
  rw [Mat.pivot_sol a (by omega) h2 h3 hs]
  exact e s hs
theorem kin_none {R0 R : Mat} {u : Nat} (h : Kin R0 R u u) : KerOk R0 u none := fun s h1 h2 h3 => unit_only h.1 h.2.1 h1 h2 ((h.2.2.2 s h1).2 h3)
theorem kin_some {R0 R : Mat} {u c : Nat} (h : Kin R0 R u c) (hc : c < u) (hz : ∀ i, c ≤ i → i < R.length → R.at i c = 0) : KerOk R0 u (some (nullVec R c u)) :=
  ⟨nullVec_syms h.1, nullVec_len hc, (h.2.2.2 _ (nullVec_syms h.1)).1 (nullVec_sol h.1 h.2.1 hc hz), nullVec_ne _ _ _⟩
/-- the answer as far as it is filled -/
def nullK (R : Mat) (c u k : Nat) : List Nat := (List.range k).map (fun i => R.at i c) ++ (List.replicate (c - k) 0 ++ 1 :: List.replicate (u - c - 1) 0)
theorem nullK_full (R : Mat) (c u : Nat) : nullK R c u c = nullVec R c u := by simp [nullK, nullVec]
theorem nullK_zero (R : Mat) {c u : Nat} (h : c < u) : (List.replicate u 0).set c 1 = nullK R c u 0 := by
  unfold nullK
  simp only [List.range_zero, List.map_nil, List.nil_append, Nat.sub_zero]
  rw [show List.replicate u 0 = List.replicate c 0 ++ (0 :: List.replicate (u - c - 1) 0) by rw [← List.replicate_succ, List.replicate_append_replicate]; congr 1; omega,
    List.set_append_right _ _ (by simp)]
  simp
theorem nullK_len {R : Mat} {c u k : Nat} (h : c < u) (hk : k ≤ c) : (nullK R c u k).length = u := by simp [nullK]; omega
theorem nullK_set {R : Mat} {c u k : Nat} (h : k < c) : (nullK R c u k).set k (R.at k c) = nullK R c u (k + 1) := by
  unfold nullK
  rw [List.set_append_right _ _ (by simp), List.length_map, List.length_range, Nat.sub_self, show c - k = (c - (k + 1)) + 1 by omega, List.replicate_succ, List.range_succ, List.map_append]
  simp
theorem nullK_get {R : Mat} {c u k : Nat} (h : k < c) : (nullK R c u k).getD k 0 = 0 := by
  unfold nullK
  rw [List.getD_eq_getElem?_getD, List.getElem?_append_right (by simp), List.length_map, List.length_range, Nat.sub_self, show c - k = (c - (k + 1)) + 1 by omega, List.replicate_succ]
  simp
/-- a list of which the first k are turned -/
def mapK (f : Nat → Nat) (l : List Nat) (k : Nat) : List Nat := (l.take k).map f ++ l.drop k
theorem mapK_zero (f : Nat → Nat) (l : List Nat) : mapK f l 0 = l := by simp [mapK]
theorem mapK_full (f : Nat → Nat) (l : List Nat) : mapK f l l.length = l.map f := by simp [mapK]
theorem mapK_len (f : Nat → Nat) (l : List Nat) (k : Nat) : (mapK f l k).length = l.length := by simp [mapK]; omega
theorem mapK_get {f : Nat → Nat} {l : List Nat} {k : Nat} (h : k < l.length) : (mapK f l k).getD k 0 = l.getD k 0 := by
  unfold mapK
  rw [List.getD_eq_getElem?_getD, List.getElem?_append_right (by simp; omega)]
  simp [List.getD_eq_getElem?_getD, Nat.min_eq_left (Nat.le_of_lt h)]
theorem mapK_set {f : Nat → Nat} {l : List Nat} {k : Nat} (h : k < l.length) : (mapK f l k).set k (f (l.getD k 0)) = mapK f l (k + 1) := by
  unfold mapK
  rw [take_grow h, List.map_append, List.drop_eq_getElem_cons h, List.set_append_right _ _ (by simp; omega), show k - ((l.take k).map f).length = 0 by simp; omega, List.set_cons_zero, List.append_assoc]
  rfl
/-- what has been added as far as k -/
def addK (p : List Nat) (o s : Nat) (l : List Nat) (k : Nat) : List Nat := addAt p o s (l.take k)
theorem addK_zero (p : List Nat) (o s : Nat) (l : List Nat) : addK p o s l 0 = p := by
  unfold addK addAt
  simp only [List.take_zero, pscale, List.map_nil]
  have : ∀ q : List Nat, padd q [] = q := fun q => by cases q <;> rfl
  rw [this, List.take_append_drop]
theorem addK_full (p : List Nat) (o s : Nat) (l : List Nat) : addK p o s l l.length = addAt p o s l := by simp [addK]
theorem addK_len {p l : List Nat} {o s k : Nat} (h : o + l.length ≤ p.length) : (addK p o s l k).length = p.length := by
  unfold addK
  exact addAt_len (by simp; omega)
theorem addK_get {p l : List Nat} {o s k : Nat} (hs : s < 16) (h : o + l.length ≤ p.length) (hk : k < l.length) : (addK p o s l k).getD (o + k) 0 = p.getD (o + k) 0 := by
  unfold addK
  rw [addAt_get hs (by omega), if_neg (by omega), Nat.add_sub_cancel_left, List.getD_eq_getElem?_getD (l := l.take k), List.getElem?_eq_none (by simp; omega)]
  show _ ^^^ gmul s 0 = _
  rw [(gmul_zero hs).1, Nat.xor_zero]
theorem addK_set {p l : List Nat} {o s k : Nat} (hs : s < 16) (h : o + l.length ≤ p.length) (hk : k < l.length) : (addK p o s l k).set (o + k) (p.getD (o + k) 0 ^^^ gmul s (l.getD k 0)) = addK p o s l (k + 1) := by
  refine List.ext_getElem? fun i => ?_
  have e1 : ((addK p o s l k).set (o + k) (p.getD (o + k) 0 ^^^ gmul s (l.getD k 0))).length = p.length := by rw [List.length_set, addK_len h]
  have e2 : (addK p o s l (k + 1)).length = p.length := addK_len h
  rcases Nat.lt_or_ge i p.length with hi | hi
  · have g : ∀ m : List Nat, i < m.length → m[i]? = some (m.getD i 0) := fun m hm => by rw [List.getElem?_eq_getElem hm, List.getD_eq_getElem?_getD, List.getElem?_eq_getElem hm]; rfl
    rw [g _ (by omega), g _ (by omega)]
    congr 1
    by_cases h1 : i = o + k
    · subst h1
      rw [List.getD_eq_getElem?_getD, List.getElem?_set_self (by rw [addK_len h]; exact hi)]
      unfold addK
      rw [addAt_get hs (by omega), if_neg (by omega), Nat.add_sub_cancel_left, List.getD_eq_getElem?_getD (l := l.take (k + 1)), List.getElem?_take_of_lt (by omega), ← List.getD_eq_getElem?_getD]
      rfl
    · rw [List.getD_eq_getElem?_getD, List.getElem?_set_ne (by omega), ← List.getD_eq_getElem?_getD]
      unfold addK
      rw [addAt_get hs (by omega), addAt_get hs (by omega)]
      by_cases h2 : i < o
      · rw [if_pos h2, if_pos h2]
      · rw [if_neg h2, if_neg h2]
        congr 2
        simp only [List.getD_eq_getElem?_getD, List.getElem?_take]
        by_cases h3 : i - o < k
        · rw [if_pos h3, if_pos (by omega)]
        · rw [if_neg h3, if_neg (by omega)]
  · rw [List.getElem?_eq_none (by omega), List.getElem?_eq_none (by omega)]
theorem set_same {α : Type} {l : List α} {i : Nat} {d : α} : l.set i (l.getD i d) = l := by
  refine List.ext_getElem? fun j => ?_
  rcases Nat.lt_or_ge j l.length with hj | hj
  · by_cases e : i = j
    · subst e
      rw [List.getElem?_set_self hj, List.getD_eq_getElem?_getD, List.getElem?_eq_getElem hj]; rfl
    · rw [List.getElem?_set_ne e]
  · rw [List.getElem?_eq_none (by rw [List.length_set]; exact hj), List.getElem?_eq_none hj]
theorem Mat.scale_row {R : Mat} {n s j : Nat} (hn : n < R.length) : (R.scale n s).row j = if j = n then pscale s (R.row n) else R.row j := by
  unfold Mat.scale
  exact Mat.row_set hn
theorem Mat.scale_ok {R : Mat} {u n s : Nat} (h : R.Ok u) (hn : n < R.length) (hs : s < 16) : (R.scale n s).Ok u := Mat.ok_of fun j hj => by
  rw [Mat.scale_len] at hj
  rw [Mat.scale_row hn]
  split
  · exact ⟨pscale_syms hs (Mat.ok_row h hn).1, by simp [pscale, (Mat.ok_row h hn).2]⟩
  · exact Mat.ok_row h hj
theorem Mat.clears_ok {R : Mat} {u n c k : Nat} (h : R.Ok u) (hn : n < R.length) (hk : k ≤ R.length) : (R.clears n c k).Ok u := Mat.ok_of fun j hj => by
  rw [Mat.clears_len] at hj
  rw [Mat.clears_row hn hk]
  split
  · exact ⟨padd_syms (Mat.ok_row h hj).1 (pscale_syms (Mat.at_lt h) (Mat.ok_row h hn).1), by rw [padd_len]; simp [pscale, (Mat.ok_row h hj).2, (Mat.ok_row h hn).2]⟩
  · exact Mat.ok_row h hj
theorem addAt_all (q : List Nat) (s : Nat) (l : List Nat) : addAt q 0 s l = padd q (pscale s l) := by simp [addAt]
end Go.Proofs.YtlnofbdhamingaaDoor

/- The plain side of the outright laws on words: sums, distances, what is spoiled. No program in sight. -/
namespace Go.Proofs.YtlnofbdhamingaaDoor
open Go.RowKit Go.Sort

/-- at how many of the first n points two messages have other values -/
def diffK (a b : List Nat) (n : Nat) : Nat := ((List.range n).filter fun i => gval a (powN i) != gval b (powN i)).length
theorem diffK_succ (a b : List Nat) (n : Nat) : diffK a b (n + 1) = if gval a (powN n) = gval b (powN n) then diffK a b n else diffK a b n + 1 := by
  unfold diffK
  rw [List.range_succ, List.filter_append]
  by_cases h : gval a (powN n) = gval b (powN n)
  · rw [if_pos h, List.filter_cons_of_neg (by simpa using h)]; simp
  · rw [if_neg h, List.filter_cons_of_pos (by simpa using h)]; simp
theorem diffK_le (a b : List Nat) (n : Nat) : diffK a b n ≤ n := by
  unfold diffK
  exact Nat.le_trans (List.length_filter_le _ _) (by simp)
theorem same_diff (a b : List Nat) (n : Nat) : ((List.range n).filter fun i => gval a (powN i) == gval b (powN i)).length + diffK a b n = n := by
  have h := wrongs_rights a ((List.range n).map fun i => gval b (powN i)) (List.range n)
  have e : ∀ i, i ∈ List.range n → ((List.range n).map fun i => gval b (powN i)).getD i 0 = gval b (powN i) := fun i hi => by
    rw [List.getD_eq_getElem?_getD, List.getElem?_map, List.getElem?_range (List.mem_range.1 hi)]; rfl
  unfold wrongs rights at h
  rw [List.filter_congr fun i hi => by rw [e i hi], List.filter_congr (p := fun i => gval a (powN i) == _) (q := fun i => gval a (powN i) == gval b (powN i)) fun i hi => by rw [e i hi], List.length_range] at h
  unfold diffK
  omega
theorem far_words {a b : List Nat} {k : Nat} (ha : Syms a) (hb : Syms b) (la : a.length = k) (lb : b.length = k) (hne : a ≠ b) : 16 ≤ diffK a b 15 + k := by
  refine Classical.byContradiction fun hlt => hne (eq_of_xor_zero (by omega) (roots_zero (((List.range 15).filter fun i => gval a (powN i) == gval b (powN i)).map powN) _ (padd_syms ha hb) ?_ ?_ ?_))
  · rw [List.Nodup, List.pairwise_map]
    exact List.Pairwise.imp_of_mem (fun {x y} hx hy hab he => hab (pow_inj (List.mem_range.1 (List.mem_filter.1 hx).1) (List.mem_range.1 (List.mem_filter.1 hy).1) he)) (List.nodup_range.sublist List.filter_sublist)
  · intro r hr
    obtain ⟨i, hi, rfl⟩ := List.mem_map.1 hr
    obtain ⟨h1, h2⟩ := List.mem_filter.1 hi
    have hx := pow_lt (List.mem_range.1 h1)
    refine ⟨hx, ?_⟩
    rw [padd_val hx ha hb, show gval a (powN i) = gval b (powN i) by simpa using h2, Nat.xor_self]
  · have := same_diff a b 15
    rw [padd_len, List.length_map]
    omega
theorem sum_words {a b : List Nat} (ha : Syms a) (hb : Syms b) {i : Nat} (hi : i < 15) : gval (padd a b) (powN i) = gval a (powN i) ^^^ gval b (powN i) := padd_val (pow_lt hi) ha hb
/-- how many of the first n symbols are not erased and wrong -/
def errK (M w : List Nat) (er : List Bool) (n : Nat) : Nat := ((List.range n).filter fun i => !er.getD i false && (gval M (powN i) != w.getD i 0)).length
theorem errK_succ (M w : List Nat) (er : List Bool) (n : Nat) : errK M w er (n + 1) = if er.getD n false = false ∧ gval M (powN n) ≠ w.getD n 0 then errK M w er n + 1 else errK M w er n := by
  unfold errK
  rw [List.range_succ, List.filter_append]
  by_cases h : er.getD n false = false ∧ gval M (powN n) ≠ w.getD n 0
  · rw [if_pos h, List.filter_cons_of_pos (by rw [h.1]; simpa using h.2)]; simp
  · rw [if_neg h, List.filter_cons_of_neg (by
      intro h9
      simp only [Bool.and_eq_true, Bool.not_eq_true', bne_iff_ne] at h9
      exact h h9)]; simp
theorem errK_le (M w : List Nat) (er : List Bool) (n : Nat) : errK M w er n ≤ n := by
  unfold errK
  exact Nat.le_trans (List.length_filter_le _ _) (by simp)
theorem errN_eq (M w : List Nat) (er : List Bool) : errN M w er = errK M w er er.length := by
  unfold errN errK wrongs placesOf placesK
  rw [List.filter_filter]
  congr 1
  exact List.filter_congr fun i _ => Bool.and_comm _ _
theorem goneK_le (er : List Bool) (n : Nat) : goneK er n ≤ n := by
  unfold goneK
  exact Nat.le_trans (List.length_filter_le _ _) (by simp)
/-! ### what is spoiled -/
def outK (w ch : List Nat) (n : Nat) : List Nat := (List.range w.length).map fun i => if i < n then w.getD i 0 ^^^ ch.getD i 0 % 16 else w.getD i 0
def erK (ch : List Nat) (l n : Nat) : List Bool := (List.range l).map fun i => decide (i < n) && decide (ch.getD i 0 / 16 % 2 = 1)
theorem outK_len (w ch : List Nat) (n : Nat) : (outK w ch n).length = w.length := by simp [outK]
theorem erK_len (ch : List Nat) (l n : Nat) : (erK ch l n).length = l := by simp [erK]
theorem outK_get {w ch : List Nat} {n i : Nat} (h : i < w.length) : (outK w ch n).getD i 0 = if i < n then w.getD i 0 ^^^ ch.getD i 0 % 16 else w.getD i 0 := by
  unfold outK
  rw [List.getD_eq_getElem?_getD, List.getElem?_map, List.getElem?_range h]; rfl
theorem erK_get {ch : List Nat} {l n i : Nat} (h : i < l) : (erK ch l n).getD i false = (decide (i < n) && decide (ch.getD i 0 / 16 % 2 = 1)) := by
  unfold erK
  rw [List.getD_eq_getElem?_getD, List.getElem?_map, List.getElem?_range h]; rfl
theorem outK_zero (w ch : List Nat) : outK w ch 0 = w := by
  refine List.ext_getElem? fun i => ?_
  unfold outK
  rcases Nat.lt_or_ge i w.length with h | h
  · rw [List.getElem?_map, List.getElem?_range h, List.getElem?_eq_getElem h]
    simp [List.getD_eq_getElem?_getD, h]
  · rw [List.getElem?_eq_none (by simpa using h), List.getElem?_eq_none h]
theorem outK_set {w ch : List Nat} {n : Nat} (h : n < w.length) : (outK w ch n).set n (w.getD n 0 ^^^ ch.getD n 0 % 16) = outK w ch (n + 1) := by
  refine List.ext_getElem? fun i => ?_
  rcases Nat.lt_or_ge i w.length with hi | hi
  · by_cases e : n = i
    · subst e
      rw [List.getElem?_set_self (by rw [outK_len]; exact hi)]
      unfold outK
      rw [List.getElem?_map, List.getElem?_range hi]
      simp
    · rw [List.getElem?_set_ne e]
      unfold outK
      rw [List.getElem?_map, List.getElem?_map, List.getElem?_range hi]
      simp only [Option.map_some]
      congr 1
      by_cases h2 : i < n
      · rw [if_pos h2, if_pos (by omega)]
      · rw [if_neg h2, if_neg (by omega)]
  · rw [List.getElem?_eq_none (by rw [List.length_set, outK_len]; exact hi), List.getElem?_eq_none (by rw [outK_len]; exact hi)]
theorem erK_zero (ch : List Nat) (l : Nat) : erK ch l 0 = List.replicate l false := by
  refine List.ext_getElem? fun i => ?_
  unfold erK
  rcases Nat.lt_or_ge i l with h | h
  · rw [List.getElem?_map, List.getElem?_range h, List.getElem?_replicate, if_pos h]; simp
  · rw [List.getElem?_eq_none (by simpa using h), List.getElem?_replicate, if_neg (by omega)]
theorem erK_yes {ch : List Nat} {l n : Nat} (h : n < l) (h1 : ch.getD n 0 / 16 % 2 = 1) : (erK ch l n).set n true = erK ch l (n + 1) := by
  refine List.ext_getElem? fun i => ?_
  rcases Nat.lt_or_ge i l with hi | hi
  · by_cases e : n = i
    · subst e
      rw [List.getElem?_set_self (by rw [erK_len]; exact hi)]
      unfold erK
      rw [List.getElem?_map, List.getElem?_range hi]
      simp only [Option.map_some, h1]
      simp
    · rw [List.getElem?_set_ne e]
      unfold erK
      rw [List.getElem?_map, List.getElem?_map, List.getElem?_range hi]
      simp only [Option.map_some]
      congr 2
      simp only [decide_eq_decide]
      omega
  · rw [List.getElem?_eq_none (by rw [List.length_set, erK_len]; exact hi), List.getElem?_eq_none (by rw [erK_len]; exact hi)]
theorem erK_no {ch : List Nat} {l n : Nat} (h1 : ¬ ch.getD n 0 / 16 % 2 = 1) : erK ch l (n + 1) = erK ch l n := by
  unfold erK
  refine List.map_congr_left fun i hi => ?_
  by_cases e : i = n
  · subst e
    rw [decide_eq_false h1, Bool.and_false, Bool.and_false]
  · congr 1
    simp only [decide_eq_decide]
    omega
def wrongK (ch : List Nat) (n : Nat) : Nat := ((List.range n).filter fun i => decide (ch.getD i 0 / 16 % 2 ≠ 1) && decide (ch.getD i 0 % 16 ≠ 0)).length
def lostK (ch : List Nat) (n : Nat) : Nat := ((List.range n).filter fun i => decide (ch.getD i 0 / 16 % 2 = 1)).length
theorem wrongK_succ (ch : List Nat) (n : Nat) : wrongK ch (n + 1) = if ch.getD n 0 / 16 % 2 ≠ 1 ∧ ch.getD n 0 % 16 ≠ 0 then wrongK ch n + 1 else wrongK ch n := by
  unfold wrongK
  rw [List.range_succ, List.filter_append]
  by_cases h : ch.getD n 0 / 16 % 2 ≠ 1 ∧ ch.getD n 0 % 16 ≠ 0
  · rw [if_pos h, List.filter_cons_of_pos (by rw [decide_eq_true h.1, decide_eq_true h.2]; rfl)]; simp
  · rw [if_neg h, List.filter_cons_of_neg (by
      intro h9
      simp only [Bool.and_eq_true, decide_eq_true_eq] at h9
      exact h h9)]; simp
theorem lostK_succ (ch : List Nat) (n : Nat) : lostK ch (n + 1) = if ch.getD n 0 / 16 % 2 = 1 then lostK ch n + 1 else lostK ch n := by
  unfold lostK
  rw [List.range_succ, List.filter_append]
  by_cases h : ch.getD n 0 / 16 % 2 = 1
  · rw [if_pos h, List.filter_cons_of_pos (by simpa using h)]; simp
  · rw [if_neg h, List.filter_cons_of_neg (by simpa using h)]; simp
theorem wrong_lost_le (ch : List Nat) (n : Nat) : wrongK ch n ≤ n ∧ lostK ch n ≤ n := by
  unfold wrongK lostK
  exact ⟨Nat.le_trans (List.length_filter_le _ _) (by simp), Nat.le_trans (List.length_filter_le _ _) (by simp)⟩
/-- behind the end of the changes nothing is spoiled -/
theorem spoil_end {w ch : List Nat} {n : Nat} (h : ch.length ≤ n) (hn : n ≤ 15) (hl : w.length = 15) : outK w ch n = outK w ch 15 ∧ erK ch 15 n = erK ch 15 15 ∧ wrongK ch n = wrongK ch 15 ∧ lostK ch n = lostK ch 15 := by
  have hz : ∀ i, n ≤ i → ch.getD i 0 = 0 := fun i hi => by rw [List.getD_eq_getElem?_getD, List.getElem?_eq_none (by omega)]; rfl
  refine ⟨?_, ?_, ?_, ?_⟩
  · unfold outK
    refine List.map_congr_left fun i hi => ?_
    have hi := List.mem_range.1 hi
    by_cases h1 : i < n
    · rw [if_pos h1, if_pos (by omega)]
    · rw [if_neg h1, if_pos (by omega), hz i (by omega)]
      simp
  · unfold erK
    refine List.map_congr_left fun i hi => ?_
    by_cases h1 : i < n
    · rw [decide_eq_true h1, decide_eq_true (show i < 15 by omega)]
    · rw [hz i (by omega)]
      simp
  · have : ∀ d, n + d ≤ 15 → wrongK ch (n + d) = wrongK ch n := by
      intro d
      induction d with
      | zero => intro _; rfl
      | succ d ih =>
        intro hd
        rw [← Nat.add_assoc, wrongK_succ, hz (n + d) (by omega), if_neg (by decide), ih (by omega)]
    rw [← this (15 - n) (by omega), show n + (15 - n) = 15 by omega]
  · have : ∀ d, n + d ≤ 15 → lostK ch (n + d) = lostK ch n := by
      intro d
      induction d with
      | zero => intro _; rfl
      | succ d ih =>
        intro hd
        rw [← Nat.add_assoc, lostK_succ, hz (n + d) (by omega), if_neg (by decide), ih (by omega)]
    rw [← this (15 - n) (by omega), show n + (15 - n) = 15 by omega]
theorem xor_ne {a b : Nat} : a = a ^^^ b ↔ b = 0 := by
  constructor
  · intro h
    have := congrArg (fun z => a ^^^ z) h
    simp only [xor_xor, Nat.xor_self] at this
    exact this.symm
  · rintro rfl; simp
/-- a word that is spoiled: how many errors, how many erasures -/
theorem spoil_err {M w ch : List Nat} (hw : w = (List.range 15).map fun i => gval M (powN i)) : errN M (outK w ch 15) (erK ch 15 15) = wrongK ch 15 ∧ goneN (erK ch 15 15) = lostK ch 15 := by
  have hl : w.length = 15 := by rw [hw]; simp
  have hg : ∀ i, i < 15 → w.getD i 0 = gval M (powN i) := fun i hi => by
    rw [hw, List.getD_eq_getElem?_getD, List.getElem?_map, List.getElem?_range hi]; rfl
  constructor
  · rw [errN_eq, erK_len]
    unfold errK wrongK
    congr 1
    refine List.filter_congr fun i hi => ?_
    have hi := List.mem_range.1 hi
    rw [erK_get hi, outK_get (by omega), if_pos hi, hg i hi, decide_eq_true hi, Bool.true_and]
    by_cases h1 : ch.getD i 0 / 16 % 2 = 1
    · rw [decide_eq_true h1, decide_eq_false (by omega)]; rfl
    · rw [decide_eq_false h1, decide_eq_true (by omega)]
      congr 1
      by_cases h2 : ch.getD i 0 % 16 = 0
      · rw [h2, Nat.xor_zero]; simp
      · rw [decide_eq_true h2, bne_iff_ne]
        exact fun h9 => h2 (xor_ne.1 h9)
  · unfold goneN goneK lostK
    rw [erK_len]
    refine congrArg List.length (List.filter_congr fun i hi => ?_)
    have hi := List.mem_range.1 hi
    rw [erK_get hi, decide_eq_true hi, Bool.true_and]
end Go.Proofs.YtlnofbdhamingaaDoor

/- What is taken from the 64 modules of a mark: symbols and erasures. No program in sight. -/
namespace Go.Proofs.YtlnofbdhamingaaDoor
open Go.RowKit Go.Sort

/-- the index of the data module i -/
def atD (i : Nat) : Nat := ([1, 2, 3, 4, 5, 6, 8, 9, 10, 11, 12, 13, 14, 15, 16, 17, 18, 19, 20, 21, 22, 23, 24, 25, 26, 27, 28, 29, 30, 31, 32, 33, 34, 35, 36, 37, 38, 39, 40, 41, 42, 43, 44, 45, 46, 47, 48, 49, 50, 51, 52, 53, 54, 55, 57, 58, 59, 60, 61, 62] : List Nat).getD i 0
theorem atD_lt {i : Nat} (h : i < 60) : atD i < 64 := by
  have : ∀ i : Fin 60, atD i < 64 := by decide
  exact this ⟨i, h⟩
def wbit (ms : List Nat) (i : Nat) : Nat := if ms.getD (atD i) 0 < 2 then ms.getD (atD i) 0 else 0
theorem wbit_lt (ms : List Nat) (i : Nat) : wbit ms i < 2 := by unfold wbit; split <;> omega
def lostD (ms : List Nat) (i : Nat) : Bool := decide (2 ≤ ms.getD (atD i) 0)
def wordAt (ms : List Nat) (n t : Nat) : Nat := (if 4 * t < n then wbit ms (4 * t) else 0) * 8 + (if 4 * t + 1 < n then wbit ms (4 * t + 1) else 0) * 4 + (if 4 * t + 2 < n then wbit ms (4 * t + 2) else 0) * 2 + (if 4 * t + 3 < n then wbit ms (4 * t + 3) else 0)
def eraAt (ms : List Nat) (n t : Nat) : Bool := (decide (4 * t < n) && lostD ms (4 * t)) || (decide (4 * t + 1 < n) && lostD ms (4 * t + 1)) || (decide (4 * t + 2 < n) && lostD ms (4 * t + 2)) || (decide (4 * t + 3 < n) && lostD ms (4 * t + 3))
def wordK (ms : List Nat) (n : Nat) : List Nat := (List.range 15).map (wordAt ms n)
def eraK (ms : List Nat) (n : Nat) : List Bool := (List.range 15).map (eraAt ms n)
theorem wordK_len (ms : List Nat) (n : Nat) : (wordK ms n).length = 15 := by simp [wordK]
theorem eraK_len (ms : List Nat) (n : Nat) : (eraK ms n).length = 15 := by simp [eraK]
theorem wordK_get {ms : List Nat} {n t : Nat} (h : t < 15) : (wordK ms n).getD t 0 = wordAt ms n t := by
  rw [List.getD_eq_getElem?_getD, wordK, List.getElem?_map, List.getElem?_range h]; rfl
theorem eraK_get {ms : List Nat} {n t : Nat} (h : t < 15) : (eraK ms n).getD t false = eraAt ms n t := by
  rw [List.getD_eq_getElem?_getD, eraK, List.getElem?_map, List.getElem?_range h]; rfl
theorem wordK_zero (ms : List Nat) : wordK ms 0 = List.replicate 15 0 := by
  refine List.ext_getElem? fun i => ?_
  unfold wordK
  rcases Nat.lt_or_ge i 15 with h | h
  · rw [List.getElem?_map, List.getElem?_range h, List.getElem?_replicate, if_pos h]; simp [wordAt]
  · rw [List.getElem?_eq_none (by simpa using h), List.getElem?_replicate, if_neg (by omega)]
theorem eraK_zero (ms : List Nat) : eraK ms 0 = List.replicate 15 false := by
  refine List.ext_getElem? fun i => ?_
  unfold eraK
  rcases Nat.lt_or_ge i 15 with h | h
  · rw [List.getElem?_map, List.getElem?_range h, List.getElem?_replicate, if_pos h]; simp [eraAt]
  · rw [List.getElem?_eq_none (by simpa using h), List.getElem?_replicate, if_neg (by omega)]
theorem wordAt_lt (ms : List Nat) (n t : Nat) : wordAt ms n t < 16 := by
  have h0 := wbit_lt ms (4 * t)
  have h1 := wbit_lt ms (4 * t + 1)
  have h2 := wbit_lt ms (4 * t + 2)
  have h3 := wbit_lt ms (4 * t + 3)
  unfold wordAt
  repeat' split
  all_goals omega
theorem wordK_syms (ms : List Nat) (n : Nat) : Syms (wordK ms n) := fun x hx => by
  obtain ⟨t, _, rfl⟩ := List.mem_map.1 hx
  exact wordAt_lt ms n t
/-- the step of one module, at its symbol -/
theorem wordAt_step (ms : List Nat) {q r : Nat} (hr : r < 4) : wordAt ms (4 * q + r + 1) q = wordAt ms (4 * q + r) q + wbit ms (4 * q + r) * 2 ^ (3 - r) ∧ wordAt ms (4 * q + r) q % 2 ^ (4 - r) = 0 := by
  have h0 := wbit_lt ms (4 * q)
  have h1 := wbit_lt ms (4 * q + 1)
  have h2 := wbit_lt ms (4 * q + 2)
  have h3 := wbit_lt ms (4 * q + 3)
  unfold wordAt
  rcases (show r = 0 ∨ r = 1 ∨ r = 2 ∨ r = 3 by omega) with rfl | rfl | rfl | rfl
  · rw [if_pos (by omega), if_neg (by omega), if_neg (by omega), if_neg (by omega), if_neg (by omega), if_neg (by omega), if_neg (by omega), if_neg (by omega)]
    refine ⟨?_, rfl⟩
    show _ = _ + wbit ms (4 * q) * 8
    omega
  · rw [if_pos (by omega), if_pos (by omega), if_neg (by omega), if_neg (by omega), if_pos (by omega), if_neg (by omega), if_neg (by omega), if_neg (by omega)]
    omega
  · rw [if_pos (by omega), if_pos (by omega), if_pos (by omega), if_neg (by omega), if_pos (by omega), if_pos (by omega), if_neg (by omega), if_neg (by omega)]
    omega
  · rw [if_pos (by omega), if_pos (by omega), if_pos (by omega), if_pos (by omega), if_pos (by omega), if_pos (by omega), if_pos (by omega), if_neg (by omega)]
    omega
theorem wordAt_other (ms : List Nat) {n t : Nat} (h : n / 4 ≠ t) : wordAt ms (n + 1) t = wordAt ms n t := by
  have key : ∀ c, c < 4 → (4 * t + c < n + 1 ↔ 4 * t + c < n) := fun c hc => by omega
  unfold wordAt
  simp only [show (4 * t < n + 1 ↔ 4 * t < n) from key 0 (by omega), key 1 (by omega), key 2 (by omega), key 3 (by omega)]
theorem wordK_step {ms : List Nat} {n : Nat} (h : n < 60) : (wordK ms n).set (n / 4) ((wordK ms n).getD (n / 4) 0 + wbit ms n * 2 ^ (3 - n % 4)) = wordK ms (n + 1) := by
  have hq : n / 4 < 15 := by omega
  refine List.ext_getElem? fun i => ?_
  rcases Nat.lt_or_ge i 15 with hi | hi
  · by_cases e : n / 4 = i
    · subst e
      rw [List.getElem?_set_self (by rw [wordK_len]; exact hi), wordK_get hi]
      unfold wordK
      rw [List.getElem?_map, List.getElem?_range hi, Option.map_some]
      have := (wordAt_step ms (q := n / 4) (r := n % 4) (by omega)).1
      rw [show 4 * (n / 4) + n % 4 = n by omega] at this
      rw [this]
    · rw [List.getElem?_set_ne e]
      unfold wordK
      rw [List.getElem?_map, List.getElem?_map, List.getElem?_range hi, Option.map_some, Option.map_some, wordAt_other ms e]
  · rw [List.getElem?_eq_none (by rw [List.length_set, wordK_len]; exact hi), List.getElem?_eq_none (by rw [wordK_len]; exact hi)]
theorem wordK_stay {ms : List Nat} {n : Nat} (h : n < 60) (h1 : lostD ms n = true) : wordK ms (n + 1) = wordK ms n := by
  have h2 : wbit ms n = 0 := by
    unfold lostD at h1
    have := of_decide_eq_true h1
    unfold wbit
    rw [if_neg (by omega)]
  have h3 := wordK_step (ms := ms) h
  rw [h2, Nat.zero_mul, Nat.add_zero] at h3
  rw [← h3]
  refine List.ext_getElem? fun i => ?_
  by_cases e : n / 4 = i
  · subst e
    rw [List.getElem?_set_self (by rw [wordK_len]; omega), List.getD_eq_getElem?_getD, List.getElem?_eq_getElem (by rw [wordK_len]; omega)]; rfl
  · rw [List.getElem?_set_ne e]
theorem eraAt_other (ms : List Nat) {n t : Nat} (h : n / 4 ≠ t) : eraAt ms (n + 1) t = eraAt ms n t := by
  have key : ∀ c, c < 4 → decide (4 * t + c < n + 1) = decide (4 * t + c < n) := fun c hc => decide_eq_decide.2 (by omega)
  unfold eraAt
  rw [show decide (4 * t < n + 1) = decide (4 * t < n) from key 0 (by omega), key 1 (by omega), key 2 (by omega), key 3 (by omega)]
theorem eraAt_step (ms : List Nat) {q r : Nat} (hr : r < 4) : eraAt ms (4 * q + r + 1) q = (eraAt ms (4 * q + r) q || lostD ms (4 * q + r)) := by
  have T : ∀ a b : Nat, a < b → decide (a < b) = true := fun a b h => decide_eq_true h
  have F : ∀ a b : Nat, ¬ a < b → decide (a < b) = false := fun a b h => decide_eq_false h
  unfold eraAt
  rcases (show r = 0 ∨ r = 1 ∨ r = 2 ∨ r = 3 by omega) with rfl | rfl | rfl | rfl
  · rw [T _ _ (show 4 * q < 4 * q + 0 + 1 by omega), F _ _ (show ¬ 4 * q + 1 < 4 * q + 0 + 1 by omega), F _ _ (show ¬ 4 * q + 2 < 4 * q + 0 + 1 by omega), F _ _ (show ¬ 4 * q + 3 < 4 * q + 0 + 1 by omega), F _ _ (show ¬ 4 * q < 4 * q + 0 by omega), F _ _ (show ¬ 4 * q + 1 < 4 * q + 0 by omega), F _ _ (show ¬ 4 * q + 2 < 4 * q + 0 by omega), F _ _ (show ¬ 4 * q + 3 < 4 * q + 0 by omega)]
    simp
  · rw [T _ _ (show 4 * q < 4 * q + 1 + 1 by omega), T _ _ (show 4 * q + 1 < 4 * q + 1 + 1 by omega), F _ _ (show ¬ 4 * q + 2 < 4 * q + 1 + 1 by omega), F _ _ (show ¬ 4 * q + 3 < 4 * q + 1 + 1 by omega), T _ _ (show 4 * q < 4 * q + 1 by omega), F _ _ (show ¬ 4 * q + 1 < 4 * q + 1 by omega), F _ _ (show ¬ 4 * q + 2 < 4 * q + 1 by omega), F _ _ (show ¬ 4 * q + 3 < 4 * q + 1 by omega)]
    simp
  · rw [T _ _ (show 4 * q < 4 * q + 2 + 1 by omega), T _ _ (show 4 * q + 1 < 4 * q + 2 + 1 by omega), T _ _ (show 4 * q + 2 < 4 * q + 2 + 1 by omega), F _ _ (show ¬ 4 * q + 3 < 4 * q + 2 + 1 by omega), T _ _ (show 4 * q < 4 * q + 2 by omega), T _ _ (show 4 * q + 1 < 4 * q + 2 by omega), F _ _ (show ¬ 4 * q + 2 < 4 * q + 2 by omega), F _ _ (show ¬ 4 * q + 3 < 4 * q + 2 by omega)]
    simp
  · rw [T _ _ (show 4 * q < 4 * q + 3 + 1 by omega), T _ _ (show 4 * q + 1 < 4 * q + 3 + 1 by omega), T _ _ (show 4 * q + 2 < 4 * q + 3 + 1 by omega), T _ _ (show 4 * q + 3 < 4 * q + 3 + 1 by omega), T _ _ (show 4 * q < 4 * q + 3 by omega), T _ _ (show 4 * q + 1 < 4 * q + 3 by omega), T _ _ (show 4 * q + 2 < 4 * q + 3 by omega), F _ _ (show ¬ 4 * q + 3 < 4 * q + 3 by omega)]
    simp
theorem eraK_step {ms : List Nat} {n : Nat} (h : n < 60) : (eraK ms n).set (n / 4) ((eraK ms n).getD (n / 4) false || lostD ms n) = eraK ms (n + 1) := by
  have hq : n / 4 < 15 := by omega
  refine List.ext_getElem? fun i => ?_
  rcases Nat.lt_or_ge i 15 with hi | hi
  · by_cases e : n / 4 = i
    · subst e
      rw [List.getElem?_set_self (by rw [eraK_len]; exact hi), eraK_get hi]
      unfold eraK
      rw [List.getElem?_map, List.getElem?_range hi, Option.map_some]
      have := eraAt_step ms (q := n / 4) (r := n % 4) (by omega)
      rw [show 4 * (n / 4) + n % 4 = n by omega] at this
      rw [this]
    · rw [List.getElem?_set_ne e]
      unfold eraK
      rw [List.getElem?_map, List.getElem?_map, List.getElem?_range hi, Option.map_some, Option.map_some, eraAt_other ms e]
  · rw [List.getElem?_eq_none (by rw [List.length_set, eraK_len]; exact hi), List.getElem?_eq_none (by rw [eraK_len]; exact hi)]
theorem eraK_stay {ms : List Nat} {n : Nat} (h : n < 60) (h1 : lostD ms n = false ∨ (eraK ms n).getD (n / 4) false = true) : eraK ms (n + 1) = eraK ms n := by
  rw [← eraK_step h]
  rcases h1 with h1 | h1
  · rw [h1, Bool.or_false, set_same]
  · have h2 : ((eraK ms n).getD (n / 4) false || lostD ms n) = (eraK ms n).getD (n / 4) false := by rw [h1]; rfl
    rw [h2, set_same]
theorem gone_set : ∀ {l : List Bool} {i : Nat}, i < l.length → l.getD i false = false → goneN (l.set i true) = goneN l + 1 := by
  intro l i hi h
  have gen : ∀ n, n ≤ l.length → goneK (l.set i true) n = if i < n then goneK l n + 1 else goneK l n := by
    intro n
    induction n with
    | zero => intro _; rw [if_neg (by omega)]; rfl
    | succ n ih =>
      intro hn
      rw [goneK_succ, goneK_succ, ih (by omega)]
      by_cases e : i = n
      · subst e
        rw [List.getD_eq_getElem?_getD (l := l.set i true), List.getElem?_set_self hi, h]
        simp
      · rw [List.getD_eq_getElem?_getD (l := l.set i true), List.getElem?_set_ne e, ← List.getD_eq_getElem?_getD]
        by_cases h2 : i < n
        · have a1 : i < n + 1 := by omega
          simp only [h2, a1, if_true]
          split <;> omega
        · have a1 : ¬ i < n + 1 := by omega
          simp only [h2, a1, if_false]
  unfold goneN
  rw [List.length_set, gen _ (Nat.le_refl _), if_pos hi]
theorem era_gone {ms : List Nat} {n : Nat} (h : n < 60) (h1 : lostD ms n = true) (h2 : (eraK ms n).getD (n / 4) false = false) : (eraK ms n).set (n / 4) true = eraK ms (n + 1) ∧ goneN (eraK ms (n + 1)) = goneN (eraK ms n) + 1 := by
  have e : (eraK ms n).set (n / 4) true = eraK ms (n + 1) := by
    rw [← eraK_step h, h1, Bool.or_true]
  exact ⟨e, by rw [← e, gone_set (by rw [eraK_len]; omega) h2]⟩
/-! ### what is read -/
structure Rd where
  msg : List Nat
  turns : Nat
  errs : Nat
  gone : Nat
def Rd.cost (r : Rd) : Nat := 2 * r.errs + r.gone
/-- the corners are those of a mark that is upright, or unreadable -/
def upright (ms : List Nat) : Bool := decide (ms.getD 0 0 ≠ 0) && decide (ms.getD 7 0 ≠ 1) && decide (ms.getD 56 0 ≠ 0) && decide (ms.getD 63 0 ≠ 0)
/-- what the mark says after t turns, if it says something -/
noncomputable def candR (k t : Nat) (ms : List Nat) : Option Rd :=
  if upright ms = true then
    match decR (wordK ms 60) (eraK ms 60) k with
    | some l => some ⟨l, t, errN l (wordK ms 60) (eraK ms 60), goneN (eraK ms 60)⟩
    | none => none
  else none
def better (b : Option Rd) (c : Option Rd) : Option Rd :=
  match c with
  | none => b
  | some r => match b with
    | none => some r
    | some x => if r.cost < x.cost then some r else some x
/-- the best of the first n turns -/
noncomputable def bestR (k : Nat) (mods : Nat → List Nat) : Nat → Option Rd
  | 0 => none
  | n + 1 => better (bestR k mods n) (candR k n (mods n))
theorem recv_of {k : Nat} (h1 : 1 ≤ k) (h2 : k ≤ 13) (ms : List Nat) (n : Nat) : RecvOk (wordK ms n) (eraK ms n) k := ⟨wordK_syms ms n, wordK_len ms n, eraK_len ms n, h1, h2⟩
/-- only one of four turns is upright -/
theorem best_one {k : Nat} {mods : Nat → List Nat} {t : Nat} (ht : t < 4) (h : ∀ s, s < 4 → s ≠ t → upright (mods s) = false) : bestR k mods 4 = candR k t (mods t) := by
  have hn : ∀ s, s < 4 → s ≠ t → candR k s (mods s) = none := fun s h1 h2 => by unfold candR; rw [h s h1 h2]; simp
  have b0 : ∀ c, better none c = c := fun c => by cases c <;> rfl
  have b1 : ∀ b, better b none = b := fun b => rfl
  show better (better (better (better none (candR k 0 (mods 0))) (candR k 1 (mods 1))) (candR k 2 (mods 2))) (candR k 3 (mods 3)) = _
  rcases (show t = 0 ∨ t = 1 ∨ t = 2 ∨ t = 3 by omega) with rfl | rfl | rfl | rfl
  · rw [hn 1 (by omega) (by omega), hn 2 (by omega) (by omega), hn 3 (by omega) (by omega), b1, b1, b1, b0]
  · rw [hn 0 (by omega) (by omega), hn 2 (by omega) (by omega), hn 3 (by omega) (by omega), b1, b1, b0, b0]
  · rw [hn 0 (by omega) (by omega), hn 1 (by omega) (by omega), hn 3 (by omega) (by omega), b1, b0, b0, b0]
  · rw [hn 0 (by omega) (by omega), hn 1 (by omega) (by omega), hn 2 (by omega) (by omega), b0, b0, b0, b0]
theorem cand_of {k t : Nat} {ms M : List Nat} (h1 : 1 ≤ k) (h2 : k ≤ 13) (hu : upright ms = true) (hf : FitsW (wordK ms 60) (eraK ms 60) k M) : candR k t ms = some ⟨M, t, errN M (wordK ms 60) (eraK ms 60), goneN (eraK ms 60)⟩ := by
  unfold candR
  rw [if_pos hu, decR_some (recv_of h1 h2 ms 60) hf]
end Go.Proofs.YtlnofbdhamingaaDoor
