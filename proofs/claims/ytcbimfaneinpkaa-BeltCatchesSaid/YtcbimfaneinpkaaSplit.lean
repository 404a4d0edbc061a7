/- The walks of split, and of the condition that Advance hands to it. -/
import Derived.Test.YtcbimfaneinpkaaGate2
import Derived.Test.YtcbimfaneinpkaaAtB
import Derived.Test.YtcbimfaneinpkaaAppendAt
set_option linter.unusedVariables false
set_option linter.unusedSimpArgs false
namespace Go.Proofs.Ytcbimfaneinpkaa
open Go.RowKit Go.Sort

/-- the rows of the parts that meet a condition, and of the others -/
def OwnSplit (p : Seen → Bool) (l : List Seen) (w : World) (e : Ending) (w' : World) : Prop :=
  ∃ v1 v2, e = .returned (.tuple #[v1, v2]) ∧ w'.ownsRow w.heap.size 63 4 v1 (l.filter p).length (seens (l.filter p)) ∧ w'.ownsRow w.heap.size 63 4 v2 (l.filter fun x => !p x).length (seens (l.filter fun x => !p x)) ∧ Ext w w'
theorem take_get {l : List Seen} {k : Nat} (hk : k < l.length) : l.take (k + 1) = l.take k ++ [l.getD k seen0] := by
  rw [List.take_add_one, List.getElem?_eq_getElem hk, getD_get hk]; rfl
def Apart2 (y n : Value) : Prop := ∀ g, y.ownBlock = some g → n.ownBlock ≠ some g
set_option maxRecDepth 100000 in
set_option maxHeartbeats 4000000 in
theorem w70 (l : List Seen) (v : Value) (p : Seen → Bool) (g : FuncId) (lb : Array Value) (w : World) (hv : SeensAt w v l) (hl : l.length ≤ 1000000)
    (eg : ∀ args w, (callFunc g args).run Try.prog w = .ok (.enter g args) w) (hp : ∀ x ∈ l, ∀ w', Ext w w' → Calls Try.prog g (#[seenV x] ++ lb) w' fun e w'' => e = .returned (.bool (p x)) ∧ Ext w' w'') :
    Calls Try.prog 70 #[v, .func (.func g) #[] lb] w (OwnSplit p l w) := by
  obtain ⟨i0, hi, hz0, hz1, hz2⟩ := info_parts info63
  obtain ⟨ao, cap, rfl, -, hc⟩ := hv.form
  have HC := Lib.hid hc
  have HP := Lib.hid hp
  clear hc hp hv
  go_enter Try.func70, Try.ntmps70
  go_wp2
  go_loopw [4, 5, 10] (fun y n i wr => ∃ k : Nat, k ≤ l.length ∧ i = .int .i64 (k : Int) ∧ Ext w wr ∧ Hid (wr.ownsRow w.heap.size 63 4 y ((l.take k).filter p).length (seens ((l.take k).filter p))) ∧ Hid (wr.ownsRow w.heap.size 63 4 n ((l.take k).filter fun x => !p x).length (seens ((l.take k).filter fun x => !p x))) ∧ Hid (Apart2 y n)) (fun _ _ i _ => l.length - (intOf i).toNat)
  case atStart => exact ⟨0, by omega, rfl, Ext.refl _, Lib.hid ⟨rfl, .inl ⟨rfl, rfl⟩⟩, Lib.hid ⟨rfl, .inl ⟨rfl, rfl⟩⟩, Lib.hid (fun g h => by cases h)⟩
  case round =>
    obtain ⟨k, hk, rfl, hE, hY, hN, hA⟩ := hrel
    by_cases hkl : k < l.length
    · obtain ⟨b, off, rfl, c0, c1, c2, c3⟩ := HC.out k hkl
      have c0 := hE.get c0
      have c1 := hE.get c1
      have c2 := hE.get c2
      have c3 := hE.get c3
      have z0 := World.block_lt_of_cell? _ _ c0
      simp only at z0
      have hm : l.getD k seen0 ∈ l := by rw [getD_get hkl]; exact List.getElem_mem hkl
      have hcall := fun w' (h : Ext w w') => HP.out _ hm w' h
      have ht := take_get hkl
      have hle1 := List.length_filter_le p (l.take k)
      have hle2 := List.length_filter_le (fun x => !p x) (l.take k)
      rw [List.length_take] at hle1 hle2
      obtain ⟨x, hx⟩ : ∃ x, l.getD k seen0 = x := ⟨_, rfl⟩
      rw [hx] at c0 c1 c2 c3 hcall ht
      obtain ⟨q, hq⟩ : ∃ q, p x = q := ⟨_, rfl⟩
      rw [hq] at hcall
      have e1 : (l.take (k + 1)).filter p = (l.take k).filter p ++ if q then [x] else [] := by rw [ht, List.filter_append]; congr 1; simp [List.filter_cons, hq]
      have e2 : (l.take (k + 1)).filter (fun x => !p x) = (l.take k).filter (fun x => !p x) ++ if q then [] else [x] := by rw [ht, List.filter_append]; congr 1; cases q <;> simp [List.filter_cons, hq]
      have HF := Lib.hid (And.intro e1 e2)
      have HCL := Lib.hid hcall
      clear hcall hx hq hm ht e1 e2
      obtain ⟨ly, hly⟩ : ∃ ly, (l.take k).filter p = ly := ⟨_, rfl⟩
      obtain ⟨ln, hln⟩ : ∃ ln, (l.take k).filter (fun x => !p x) = ln := ⟨_, rfl⟩
      rw [hly] at hle1
      rw [hln] at hle2
      have hOY := Lib.hid (show wr.ownsRow w.heap.size 63 4 u4 ly.length (seens ly) by rw [← hly]; exact hY.out)
      have hON := Lib.hid (show wr.ownsRow w.heap.size 63 4 u5 ln.length (seens ln) by rw [← hln]; exact hN.out)
      have HLY := Lib.hid hly
      have HLN := Lib.hid hln
      clear hly hln hY hN
      have hwz := hE.size
      cases q
      · go_wp2_with (first
          | (go_at_fn g; (with_reducible refine (HCL.out _ (hE.alloc _)).mono ?_); rintro e w1 ⟨rfl, h1⟩; have E1 := Lib.hid ((hE.alloc _).trans h1); have O1 := Lib.hid (owns_ext (owns_ext hOY.out ((Ext.refl _).alloc _)) h1); have O2 := Lib.hid (owns_ext (owns_ext hON.out ((Ext.refl _).alloc _)) h1); have b1 := h1.block wr.heap.size (by simp); have b2 := b1.trans (blk_at wr _ rfl); have c0 := cell_of_at b2 0 rfl; have c1 := cell_of_at b2 1 rfl; have c2 := cell_of_at b2 2 rfl; have c3 := cell_of_at b2 3 rfl; clear b1 b2)
          | (at_builtin; refine wpList_append_at rfl _ _ 45 rfl w.heap.size 63 i0 (.agg #[.int .i64 0, .int .i64 0, .int .u8 0, .bool false]) 4 24 Try.underlying45 hi hz0 hz1 hz2 rfl (by omega) u5 ln.length (seens ln) rfl (owns_ext O2.out ((Ext.refl _).alloc _)) _ 1 (seens [x]) rfl (SlAt.lit w1 (seens [x]) 63 4 rfl) (seens_one [x]) (by unfold maxLen; omega) (by omega) ((E1.out.alloc _).size) ?_; intro v' w' ho hg hat))
        go_roundw
        case rel =>
          refine ⟨k + 1, by omega, by go_num, (E1.out.alloc _).grown hg (fun g hk => (owns_block O2.out g hk).1), Lib.hid ?_, Lib.hid ?_, Lib.hid ?_⟩
          · rw [HF.out.1, HLY.out]
            simp only [Bool.false_eq_true, if_false, List.append_nil]
            refine owns_at (owns_ext O1.out ((Ext.refl _).alloc _)) fun g hg2 => hg.block g ?_ fun e => hA.out g hg2 e.symm
            have := (owns_block O1.out g hg2).2
            simp; omega
          · rw [HF.out.2, HLN.out]
            simp only [Bool.false_eq_true, if_false, List.length_append, List.length_singleton]
            rw [seens_append]
            exact ho
          · intro g hg2 e
            rcases hat with hat | hat
            · rw [hat] at e; exact hA.out g hg2 e
            · rw [hat] at e
              injection e with e
              have := (owns_block O1.out g hg2).2
              simp at e; omega
        case measure => simp [intOf]; omega
      · go_wp2_with (first
          | (go_at_fn g; (with_reducible refine (HCL.out _ (hE.alloc _)).mono ?_); rintro e w1 ⟨rfl, h1⟩; have E1 := Lib.hid ((hE.alloc _).trans h1); have O1 := Lib.hid (owns_ext (owns_ext hOY.out ((Ext.refl _).alloc _)) h1); have O2 := Lib.hid (owns_ext (owns_ext hON.out ((Ext.refl _).alloc _)) h1); have b1 := h1.block wr.heap.size (by simp); have b2 := b1.trans (blk_at wr _ rfl); have c0 := cell_of_at b2 0 rfl; have c1 := cell_of_at b2 1 rfl; have c2 := cell_of_at b2 2 rfl; have c3 := cell_of_at b2 3 rfl; clear b1 b2)
          | (at_builtin; refine wpList_append_at rfl _ _ 45 rfl w.heap.size 63 i0 (.agg #[.int .i64 0, .int .i64 0, .int .u8 0, .bool false]) 4 24 Try.underlying45 hi hz0 hz1 hz2 rfl (by omega) u4 ly.length (seens ly) rfl (owns_ext O1.out ((Ext.refl _).alloc _)) _ 1 (seens [x]) rfl (SlAt.lit w1 (seens [x]) 63 4 rfl) (seens_one [x]) (by unfold maxLen; omega) (by omega) ((E1.out.alloc _).size) ?_; intro v' w' ho hg hat))
        go_roundw
        case rel =>
          refine ⟨k + 1, by omega, by go_num, (E1.out.alloc _).grown hg (fun g hk => (owns_block O1.out g hk).1), Lib.hid ?_, Lib.hid ?_, Lib.hid ?_⟩
          · rw [HF.out.1, HLY.out]
            simp only [if_true, List.length_append, List.length_singleton]
            rw [seens_append]
            exact ho
          · rw [HF.out.2, HLN.out]
            simp only [if_true, List.append_nil]
            refine owns_at (owns_ext O2.out ((Ext.refl _).alloc _)) fun g hg2 => hg.block g ?_ fun e => hA.out g e.symm hg2
            have := (owns_block O2.out g hg2).2
            simp; omega
          · intro g hg2 e
            rcases hat with hat | hat
            · rw [hat] at hg2; exact hA.out g hg2 e
            · rw [hat] at hg2
              injection hg2 with hg2
              have := (owns_block O2.out g e).2
              simp at hg2; omega
        case measure => simp [intOf]; omega
    · obtain rfl : k = l.length := by omega
      have h1 := hY.out
      have h2 := hN.out
      rw [List.take_length] at h1 h2
      have H1 := Lib.hid h1
      have H2 := Lib.hid h2
      clear h1 h2 hY hN
      go_wp2
      go_ret2
      exact ⟨_, _, rfl, H1.out, H2.out, hE⟩
set_option maxHeartbeats 1000000 in
theorem w71 (b pb : Nat) (x : Seen) (n fl : Int) (w : World) (h1 : w.cell? ⟨b, 4, none⟩ = some (.int .i64 n)) (h2 : w.cell? ⟨b, 8, none⟩ = some (.int .i64 fl))
    (k1 : w.cell? ⟨pb, 0, none⟩ = some (.pointer (some ⟨b, 0, none⟩)))
    (a0 : 0 ≤ x.at_) (a1 : x.at_ ≤ 1099511627776) (c0 : 0 ≤ fl) (c1 : fl ≤ 3000000) :
    Calls Try.prog 71 #[seenV x, .pointer (some ⟨pb, 0, none⟩)] w fun e w' => e = .returned (.bool (decide (x.at_ + fl = n))) ∧ Ext w w' := by
  obtain ⟨i, at_, v, h⟩ := x
  simp only at a0 a1 ⊢
  have z := World.block_lt_of_cell? _ _ h1
  have zp := World.block_lt_of_cell? _ _ k1
  simp only at z zp
  go_enter Try.func71, Try.ntmps71
  go_wp2_with fail
  go_quiet (fail)
  go_wp2
  go_ret
  exact ⟨ret_bool (by first | rfl | (simp; done) | (rw [Bool.eq_iff_iff]; simp)), ((Ext.refl _).alloc _).drewN _⟩
end Go.Proofs.Ytcbimfaneinpkaa
