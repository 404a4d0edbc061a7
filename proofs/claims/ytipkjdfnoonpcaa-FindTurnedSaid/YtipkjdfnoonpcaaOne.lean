/- A region that draws its order: 'x, y := f(..)' for a struct and a number: quiet calls, one new block, and a store into it. Generic: no program in sight. -/
import Derived.Test.YtipkjdfnoonpcaaTwo
set_option linter.unusedVariables false
set_option linter.unusedSimpArgs false
namespace Go.Proofs.Ytipkjdfnoonpcaa.RT
open Go Go.RowKit Go.Sort

theorem region_one {P : Program} {id n : Nat} {qs1 qs2 : List Oper} {ax st : Oper} {sx vx : Tmp} {oz ox : Obj} {Q : Exit → Act → World → Prop} {a0 aq : Act} {w0 : World}
    (hm : P.follows .mixedOrders = true) (hn : qs1.length = n) (hs : sound (qs1 ++ ax :: st :: qs2).toArray = true)
    (hdst : ((qs1 ++ qs2).all fun o => match o.dst with | some t => decide (t < a0.tmps.size) | none => false) = true)
    (hax : ax.dst = some sx) (hsx : sx < a0.tmps.size) (hst : st.dst = none) (hox : st.op.operands.toList = [.tmp sx, .tmp vx]) (hvx : (qs1.any fun o => o.dst == some vx) = true)
    (hno : ((List.range (qs1 ++ ax :: st :: qs2).toArray.size).all fun i => i == n + 1 || (((qs1 ++ ax :: st :: qs2).toArray[i]?).map fun o => !(o.op.operands.toList.any fun x => match x with | .tmp t => t == sx | _ => false)).getD true) = true)
    (hpx : (direct (qs1 ++ ax :: st :: qs2).toArray (n + 1)).contains n = true)
    (runax : ∀ (e : Operand → Value) (w : World), (execOp e ax).run P w = .ok (.value (.pointer (some ⟨w.heap.size, 0, none⟩))) (w.alloc oz))
    (h : ∀ w1 : World, Ext w0 w1 → wpQuiet P (qs1 ++ ax :: st :: qs2).toArray (fun w' => ∃ p : Regrown, w' = grow (redrawn w1 p.d) p.os) (fun a => a = aq) (qs1 ++ qs2) a0)
    (runs : ∀ (e : Operand → Value) (w : World) (b : Nat), e (.tmp sx) = .pointer (some ⟨b, 0, none⟩) → e (.tmp vx) = aq.tmps.getD vx undef → w.heap[b]? = some oz →
      ∃ w', (execOp e st).run P w = .ok .skip w' ∧ w'.heap[b]? = some ox ∧ (∀ k, k ≠ b → w'.heap[k]? = w.heap[k]?) ∧ ∀ wb : World, wb.heap.size ≤ b → Ext wb w → Ext wb w')
    (final : ∀ (b : Nat) (w' : World), Ext w0 w' → w0.heap.size ≤ b → w'.heap[b]? = some ox → Q .normal (aq.put (some sx) (.pointer (some ⟨b, 0, none⟩))) w') :
    (Code.region id (qs1 ++ ax :: st :: qs2).toArray true).wp P Q a0 w0 := by
  generalize hops : (qs1 ++ ax :: st :: qs2).toArray = ops at *
  have hl : ∀ i : Nat, ops[i]? = (qs1 ++ ax :: st :: qs2)[i]? := by intro i; rw [← hops]; simp
  have h1 : ops[n]? = some ax := by rw [hl]; simp [List.getElem?_append_right, hn]
  have h2 : ops[n + 1]? = some st := by rw [hl]; simp [List.getElem?_append_right, hn]
  have hq : ∀ (j : Nat) (o : Oper), (qs1 ++ qs2)[j]? = some o → ops[if j < n then j else j + 2]? = some o := by
    intro j o h
    rw [hl]
    split
    · rename_i hj
      rw [List.getElem?_append_left (by omega)] at h ⊢
      exact h
    · rename_i hj
      rw [List.getElem?_append_right (by omega)] at h ⊢
      rw [show j + 2 - qs1.length = (j - qs1.length) + 1 + 1 from by omega]
      simpa using h
  have hqi : ∀ (i : Nat) (o : Oper), ops[i]? = some o → i ≠ n → i ≠ n + 1 → (qs1 ++ qs2)[if i < n then i else i - 2]? = some o := by
    intro i o h hi hi'
    rw [hl] at h
    split
    · rename_i hj
      rw [List.getElem?_append_left (by omega)] at h ⊢
      exact h
    · rename_i hj
      rw [List.getElem?_append_right (by omega)] at h ⊢
      rw [show i - qs1.length = (i - 2 - qs1.length) + 1 + 1 from by omega] at h
      simpa using h
  simp only [sound, Bool.and_eq_true, List.all_eq_true, List.mem_range, decide_eq_true_eq] at hs
  obtain ⟨⟨⟨down, plain⟩, uniq0⟩, reads0⟩ := hs
  have hguard : ∀ (i : Nat) (o : Oper), ops[i]? = some o → o.guard = none ∧ ∀ cs b, o.op ≠ .select cs b := by
    intro i o ho
    have := plain o (by
      have := Array.mem_of_getElem? ho
      simpa using this)
    obtain ⟨g1, g2⟩ := this
    refine ⟨by simpa using g1, fun cs b e => ?_⟩
    rw [e] at g2
    simp at g2
  have uniq : ∀ (i k : Nat) (o o' : Oper) (t : Tmp), ops[i]? = some o → ops[k]? = some o' → o.dst = some t → o'.dst = some t → i = k := by
    intro i k o o' t hi hk hd hd'
    have hi' : i < ops.size := (Array.getElem?_eq_some_iff.1 hi).1
    have hk' : k < ops.size := (Array.getElem?_eq_some_iff.1 hk).1
    rcases Nat.decEq i k with hne | he
    · have := uniq0 i hi' k hk'
      have hw := writer_iff.2 ⟨o', hk, hd'⟩
      rw [hi] at this
      simp [hne, hd, hw] at this
    · exact he
  have reads : ∀ (i : Nat) (o : Oper) (t : Tmp), ops[i]? = some o → (.tmp t) ∈ o.op.operands.toList → ∀ (k : Nat) (o' : Oper), ops[k]? = some o' → o'.dst = some t → (k < i ∧ k ∈ direct ops i) ∨ (i < k ∧ i ∈ direct ops k) := by
    intro i o t hi ht k o' hk hd
    have hi' : i < ops.size := (Array.getElem?_eq_some_iff.1 hi).1
    have hk' : k < ops.size := (Array.getElem?_eq_some_iff.1 hk).1
    have := reads0 i hi' t (by rw [hi]; simp only [Option.map_some, Option.getD_some, List.mem_filterMap]; exact ⟨_, ht, rfl⟩) k hk'
    rw [writer_iff.2 ⟨o', hk, hd⟩] at this
    simpa using this
  have hchain := fun w1 hw1 => chain (qs1 ++ qs2) a0 (fun o ho => by
      obtain ⟨i, hi, rfl⟩ := List.getElem_of_mem ho
      exact (hguard _ (qs1 ++ qs2)[i] (hq i _ (List.getElem?_eq_getElem hi))).1) (fun i k o o' t a b c d => by
      have := uniq _ _ o o' t (hq i o a) (hq k o' b) c d
      split at this <;> split at this <;> omega) (fun o ho => by
      have := List.all_eq_true.1 hdst o ho
      cases hd : o.dst with
      | none => rw [hd] at this; simp at this
      | some t => rw [hd] at this; exact ⟨t, rfl, by simpa using this⟩) (h w1 hw1)
  have hvx' : ∃ (j : Nat) (o : Oper), ops[j]? = some o ∧ j < n ∧ o.dst = some vx := by
    obtain ⟨o, ho, hd⟩ := List.any_eq_true.1 hvx
    obtain ⟨j, hj, rfl⟩ := List.getElem_of_mem ho
    exact ⟨j, qs1[j], by rw [hl, List.getElem?_append_left hj]; simp, by omega, by simpa using hd⟩
  have hnosx : ∀ (i : Nat) (o : Oper), ops[i]? = some o → i ≠ n → i ≠ n + 1 → (.tmp sx) ∈ o.op.operands → False := by
    intro i o ho _ hi' hmem
    simp only [List.all_eq_true, List.mem_range] at hno
    have := hno i (Array.getElem?_eq_some_iff.1 ho).1
    have h9 : (o.op.operands.toList.any fun x => match x with | .tmp t => t == sx | _ => false) = true := List.any_eq_true.2 ⟨.tmp sx, by simpa using hmem, by simp⟩
    rw [ho] at this
    simp [hi'] at this h9
    obtain ⟨x, hx, hm⟩ := h9
    have := this x hx
    rw [hm] at this
    cases this
  have hpx' : n ∈ direct ops (n + 1) := by simpa using hpx
  refine wp_inv hm (fun i hi j hj => down i hi j hj) (fun L a w => Ext w0 w ∧ a.defers = a0.defers ∧ a.tmps.size = a0.tmps.size ∧
      (∀ (j : Nat) (o : Oper) (t : Tmp), ops[j]? = some o → o.dst = some t → j ≠ n → L j = true → a.tmps.getD t undef = aq.tmps.getD t undef) ∧
      (∀ t, (∀ (j : Nat) (o : Oper), ops[j]? = some o → Oper.dst o = some t → L j = false) → a.tmps.getD t undef = a0.tmps.getD t undef) ∧
      (L n = true → ∃ b, a.tmps.getD sx undef = .pointer (some ⟨b, 0, none⟩) ∧ w0.heap.size ≤ b ∧ b < w.heap.size ∧ w.heap[b]? = some (cond (L (n + 1)) ox oz))) ?_ ?_ ?_
  · exact ⟨(Ext.refl _).drew, rfl, rfl, (fun j o t _ _ _ h => by cases h), (fun t _ => rfl), fun h => by cases h⟩
  · intro L i o a w ho hun hpre hcl ⟨hE, hdf, hts, hfact, hslot, hX⟩
    have hi : i < ops.size := (Array.getElem?_eq_some_iff.1 ho).1
    obtain ⟨hg1, hg2⟩ := hguard i o ho
    rw [if_pos (by simp [Region.wanted, hg1])]
    have hL : ∀ k, k ≠ i → (decide (k = i) || L k) = L k := fun k hk => by simp [hk]
    have slotOf : ∀ (t : Tmp) (k : Nat) (ok : Oper), ops[k]? = some ok → ok.dst = some t → L k = false → a.tmps.getD t undef = a0.tmps.getD t undef := fun t k ok hk hd hl => hslot t fun j oj hj hjd => by
      rw [uniq j k oj ok t hj hk hjd hd]; exact hl
    have facts' : ∀ (u : Value), (∀ t, o.dst = some t → i ≠ n → t < a0.tmps.size ∧ u = aq.tmps.getD t undef) → ∀ (j : Nat) (oj : Oper) (tj : Tmp), ops[j]? = some oj → oj.dst = some tj → j ≠ n → (decide (j = i) || L j) = true → (a.put o.dst u).tmps.getD tj undef = aq.tmps.getD tj undef := by
      intro u hu j oj tj hj hjd hjn hl
      by_cases hji : j = i
      · subst hji
        rw [ho] at hj
        cases hj
        rw [hjd, put_same _ _ _ (by rw [hts]; exact (hu tj hjd hjn).1), (hu tj hjd hjn).2]
      · rw [put_other _ _ _ _ fun e => hji (uniq j i oj o tj hj ho hjd e)]
        exact hfact j oj tj hj hjd hjn (by rw [hL j hji] at hl; exact hl)
    have slots' : ∀ (v : Value) (tj : Tmp), (∀ (j : Nat) (oj : Oper), ops[j]? = some oj → Oper.dst oj = some tj → (decide (j = i) || L j) = false) → (a.put o.dst v).tmps.getD tj undef = a0.tmps.getD tj undef := by
      intro v tj hall
      have hne' : o.dst ≠ some tj := fun e => by have := hall i o ho e; simp at this
      rw [put_other _ _ _ _ hne']
      exact hslot tj fun j oj hj hjd => by have := hall j oj hj hjd; simp at this; exact this.2
    have i3 : i = n ∨ i = n + 1 ∨ (i ≠ n ∧ i ≠ n + 1) := by omega
    rcases i3 with hin | hin | ⟨hin, hin'⟩
    · subst hin
      rw [h1] at ho
      obtain rfl : ax = o := by simpa using ho
      have unl : L (i + 1) = false := by
        cases hlk : L (i + 1) with
        | false => rfl
        | true => have := hcl (i + 1) hlk i hpx'; rw [hun] at this; cases this
      unfold Oper.wp
      rw [runax, Oper.upon_value]
      dsimp only
      refine ⟨hE.alloc _, by rw [put_defers, hdf], by rw [put_size, hts], facts' _ (fun t _ h => absurd rfl h), slots' _, fun _ => ?_⟩
      refine ⟨w.heap.size, by rw [hax, put_same _ _ _ (by rw [hts]; exact hsx)], hE.size, by show w.heap.size < (w.heap.push oz).size; simp, ?_⟩
      rw [hL (i + 1) (by omega), unl]
      show (w.heap.push oz)[w.heap.size]? = _
      simp
    · subst hin
      rw [h2] at ho
      obtain rfl : st = o := by simpa using ho
      obtain ⟨b, e, b1, b2, b3⟩ := hX (hpre n hpx')
      rw [hun, cond_false] at b3
      have evx : a.tmps.getD vx undef = aq.tmps.getD vx undef := by
        obtain ⟨j, oj, hj, hji, hjd⟩ := hvx'
        rcases reads (n + 1) st vx h2 (by rw [hox]; simp) j oj hj hjd with ⟨_, h5⟩ | ⟨h5, _⟩
        · exact hfact j oj vx hj hjd (by omega) (hpre j h5)
        · omega
      obtain ⟨w2, r1, r2, r3, r4⟩ := runs a.eval w b e evx b3
      unfold Oper.wp
      rw [r1, Oper.upon_skip]
      dsimp only
      refine ⟨r4 w0 b1 hE, by rw [put_defers, hdf], by rw [put_size, hts], facts' _ (fun t e => by rw [hst] at e; cases e), slots' _, fun _ => ?_⟩
      rw [hst]
      exact ⟨b, e, b1, (Array.getElem?_eq_some_iff.1 r2).1, by simpa using r2⟩
    · have hoq := hqi i o ho hin hin'
      generalize hj : (if i < n then i else i - 2) = j at hoq
      obtain ⟨t, hd, htl⟩ : ∃ t, o.dst = some t ∧ t < a0.tmps.size := by
        have := List.all_eq_true.1 hdst o (List.mem_of_getElem? hoq)
        cases hd : o.dst with
        | none => rw [hd] at this; simp at this
        | some t => rw [hd] at this; exact ⟨t, rfl, by simpa using this⟩
      have qa := (hchain w hE).2 j o t hoq hd w ⟨⟨w.drawn, #[]⟩, by rw [grow_empty]; rfl⟩
      have intake : ∀ (k : Nat) (ok : Oper), ops[k]? = some ok → k < i → k ≠ n → k ≠ n + 1 → ok ∈ (qs1 ++ qs2).take j := by
        intro k ok hk hki hkn hkn'
        have h9 := hqi k ok hk hkn hkn'
        refine List.mem_of_getElem? (i := if k < n then k else k - 2) ?_
        rw [List.getElem?_take_of_lt (by split <;> split at hj <;> omega)]
        exact h9
      have ofake : ∀ (o' : Oper), o' ∈ (qs1 ++ qs2).take j → ∃ k, k < i ∧ ops[k]? = some o' := by
        intro o' hm'
        obtain ⟨m, hml, rfl⟩ := List.getElem_of_mem hm'
        have hmj : m < j := by rw [List.length_take] at hml; omega
        have hmq : (qs1 ++ qs2)[m]? = some ((qs1 ++ qs2).take j)[m] := by
          rw [← List.getElem?_take_of_lt hmj]; exact List.getElem?_eq_getElem hml
        exact ⟨_, by split at hj <;> split <;> omega, hq m _ hmq⟩
      have he : execOp a.eval o = execOp (puts aq ((qs1 ++ qs2).take j) a0).eval o := execOp_congr o hg2 fun x hx => by
        cases x with
        | tmp t' =>
          show a.tmps.getD t' undef = (puts aq ((qs1 ++ qs2).take j) a0).tmps.getD t' undef
          by_cases hw : ∃ (k : Nat) (ok : Oper), ops[k]? = some ok ∧ ok.dst = some t'
          · obtain ⟨k, ok, hk, hkd⟩ := hw
            have hkn' : k ≠ n + 1 := fun e => by subst e; rw [h2] at hk; cases hk; rw [hst] at hkd; cases hkd
            rcases reads i o t' ho (by simpa using hx) k ok hk hkd with ⟨h4, h5⟩ | ⟨h4, h5⟩
            · have hkn : k ≠ n := fun e => by
                subst e
                rw [h1] at hk
                cases hk
                rw [hax] at hkd
                cases hkd
                exact hnosx i o ho hin hin' hx
              have hts' : t' < a0.tmps.size := by
                have := List.all_eq_true.1 hdst ok (List.mem_of_getElem? (hqi k ok hk hkn hkn'))
                rw [hkd] at this
                simpa using this
              rw [hfact k ok t' hk hkd hkn (hpre k h5), puts_writer aq t' _ _ hts' ⟨ok, intake k ok hk h4 hkn hkn', hkd⟩]
            · have hlk : L k = false := by
                cases hlk : L k with
                | false => rfl
                | true => have := hcl k hlk i h5; rw [hun] at this; cases this
              rw [slotOf t' k ok hk hkd hlk, puts_none]
              rintro ⟨o', hm', hd'⟩
              obtain ⟨m, hmi, hmq⟩ := ofake o' hm'
              have := uniq m k _ ok t' hmq hk hd' hkd
              omega
          · rw [hslot t' fun j oj hj hjd => absurd ⟨j, oj, hj, hjd⟩ hw, puts_none]
            rintro ⟨o', hm', hd'⟩
            obtain ⟨m, hmi, hmq⟩ := ofake o' hm'
            exact hw ⟨m, _, hmq, hd'⟩
        | _ => rfl
      have upd : ∀ (u : Value) (w2 : World), Ext w w2 → u = aq.tmps.getD t undef → (fun (L : Nat → Bool) (a : Act) (w : World) => Ext w0 w ∧ a.defers = a0.defers ∧ a.tmps.size = a0.tmps.size ∧
          (∀ (j : Nat) (o : Oper) (t : Tmp), ops[j]? = some o → o.dst = some t → j ≠ n → L j = true → a.tmps.getD t undef = aq.tmps.getD t undef) ∧
          (∀ t, (∀ (j : Nat) (o : Oper), ops[j]? = some o → Oper.dst o = some t → L j = false) → a.tmps.getD t undef = a0.tmps.getD t undef) ∧
          (L n = true → ∃ b, a.tmps.getD sx undef = .pointer (some ⟨b, 0, none⟩) ∧ w0.heap.size ≤ b ∧ b < w.heap.size ∧ w.heap[b]? = some (cond (L (n + 1)) ox oz))) (fun j => decide (j = i) || L j) (a.put o.dst u) w2 := by
        intro u w2 hE2 hu
        dsimp only
        have hnx : o.dst ≠ some sx := fun e => by have := uniq i n o ax sx ho h1 e hax; omega
        refine ⟨hE.trans hE2, by rw [put_defers, hdf], by rw [put_size, hts], facts' _ (fun t' e _ => ?_), slots' _, fun hl => ?_⟩
        · rw [hd] at e; cases e; exact ⟨htl, hu⟩
        · rw [hL n (by omega)] at hl
          obtain ⟨b, e, b1, b2, b3⟩ := hX hl
          exact ⟨b, by rw [put_other _ _ _ _ hnx]; exact e, b1, Nat.lt_of_lt_of_le b2 hE2.size, by rw [hL (n + 1) (by omega), Below.block hE2 b b2]; exact b3⟩
      unfold Oper.quietAt at qa
      unfold Oper.wp
      rw [he]
      generalize (execOp (puts aq ((qs1 ++ qs2).take j) a0).eval o).run P w = r at qa
      match r, qa with
      | .ok (.value u) w', qa =>
        obtain ⟨rfl, rfl⟩ := qa
        exact upd _ _ (Ext.refl _) rfl
      | .ok .skip w', qa =>
        obtain ⟨rfl, hv⟩ := qa
        exact upd _ _ (Ext.refl _) hv.symm
      | .ok (.enter f args) w', qa =>
        obtain ⟨rfl, hc⟩ := qa
        rw [Oper.upon_enter]
        refine hc.mono ?_
        rintro e w2 ⟨rfl, p, rfl⟩
        exact upd _ _ (Ext.grow _ _ _) rfl
  · intro a w ⟨hE, hdf, hts, hfact, hslot, hX⟩
    have hnsz : n + 1 < ops.size := (Array.getElem?_eq_some_iff.1 h2).1
    have haq := (hchain w0 (Ext.refl _)).1
    have tsz : aq.tmps.size = a0.tmps.size := by rw [haq]; exact (puts_size ..).1
    have tdf : aq.defers = a0.defers := by rw [haq]; exact (puts_size ..).2
    obtain ⟨b, e, b1, b2, b3⟩ := hX (by simp; omega)
    have ha : a = aq.put (some sx) (.pointer (some ⟨b, 0, none⟩)) := by
      have t1 : a.defers = (aq.put (some sx) (.pointer (some ⟨b, 0, none⟩))).defers := by rw [put_defers, hdf, tdf]
      have t2 : a.tmps = (aq.put (some sx) (.pointer (some ⟨b, 0, none⟩))).tmps := by
        apply Array.ext
        · rw [put_size, hts, tsz]
        · intro t l1 l2
          have e1 : ∀ (b : Act) (h : t < b.tmps.size), b.tmps[t] = b.tmps.getD t undef := fun b h => by simp [Array.getD_eq_getD_getElem?, h]
          have lt0 : t < a0.tmps.size := by rw [← hts]; exact l1
          rw [e1 _ l1, e1 _ l2]
          by_cases htx : t = sx
          · subst htx
            rw [put_same _ _ _ (by rw [tsz]; exact lt0), e]
          · rw [put_other _ _ _ _ (by simpa using fun e => htx e.symm)]
            by_cases hw : ∃ (k : Nat) (ok : Oper), ops[k]? = some ok ∧ ok.dst = some t
            · obtain ⟨k, ok, hk, hkd⟩ := hw
              refine hfact k ok t hk hkd (fun e => ?_) (by simpa using (Array.getElem?_eq_some_iff.1 hk).1)
              subst e
              rw [h1] at hk
              cases hk
              rw [hax] at hkd
              cases hkd
              exact htx rfl
            · rw [hslot t fun j oj hj hjd => absurd ⟨j, oj, hj, hjd⟩ hw]
              have e0 : aq.tmps.getD t undef = a0.tmps.getD t undef := by
                rw [haq]
                exact puts_none _ _ _ _ fun ⟨o', hm', hd'⟩ => by
                  obtain ⟨m, hm2, rfl⟩ := List.getElem_of_mem hm'
                  exact hw ⟨_, _, hq m _ (List.getElem?_eq_getElem hm2), hd'⟩
              rw [e0]
      cases a
      simp only at t1 t2
      rw [t1, t2]
    rw [ha]
    exact final b w hE b1 (by simpa [hnsz] using b3)
end Go.Proofs.Ytipkjdfnoonpcaa.RT
