/- The walks of the gate: whether a part is there, whether it is open. -/
import Derived.Test.YtcbimfaneinpkaaSteps
import Derived.Test.YtcbimfaneinpkaaTwin
import Derived.Test.YtcbimfaneinpkaaWindowWalks
import Derived.Test.YtcbimfaneinpkaaRegion
import Derived.Shelf.Abstract
set_option linter.unusedVariables false
set_option linter.unusedSimpArgs false
namespace Go.Proofs.Ytcbimfaneinpkaa
open Go.RowKit Go.Sort

abbrev seenV (x : Seen) : Value := .agg #[.int .i64 x.id, .int .i64 x.at_, .int .u8 x.verdict, .bool x.hit]
def inWin (fi fl : Int) (n : Int) (x : Seen) : Bool := decide (x.at_ + fi ≤ n) && decide (n ≤ x.at_ + fl)
set_option maxHeartbeats 1000000 in
theorem w69 (b : Nat) (x : Seen) (n fi fl : Int) (w : World) (h1 : w.cell? ⟨b, 7, none⟩ = some (.int .i64 fi)) (h2 : w.cell? ⟨b, 8, none⟩ = some (.int .i64 fl))
    (a0 : 0 ≤ x.at_) (a1 : x.at_ ≤ 1099511627776) (b0 : 0 ≤ fi) (b1 : fi ≤ 3000000) (c0 : 0 ≤ fl) (c1 : fl ≤ 3000000) :
    Calls Try.prog 69 #[.pointer (some ⟨b, 0, none⟩), seenV x, .int .i64 n] w fun e w' => e = .returned (.bool (inWin fi fl n x)) ∧ Ext w w' := by
  obtain ⟨i, at_, v, h⟩ := x
  unfold inWin
  simp only at a0 a1 ⊢
  have z := World.block_lt_of_cell? _ _ h1
  simp only at z
  have hne : ((some (⟨b, 0, none⟩ : Addr)) == none) = false := rfl
  by_cases g1 : at_ + fi ≤ n
  · have t1 : decide (at_ + fi ≤ n) = true := decide_eq_true g1
    have G1 := Lib.hid g1
    clear g1
    rw [t1, Bool.true_and]
    obtain ⟨r, hr⟩ : ∃ r, decide (n ≤ at_ + fl) = r := ⟨_, rfl⟩
    rw [hr]
    go_enter Try.func69, Try.ntmps69
    go_wp2_with fail
    go_quiet (fail)
    go_wp2
    go_ret
    exact ⟨rfl, ((Ext.refl _).alloc _).drewN _⟩
  · have t1 : decide (at_ + fi ≤ n) = false := decide_eq_false g1
    clear g1
    rw [t1, Bool.false_and]
    go_enter Try.func69, Try.ntmps69
    go_wp2_with fail
    go_quiet (fail)
    go_wp2
    go_ret
    exact ⟨rfl, ((Ext.refl _).alloc _).drewN _⟩
set_option maxHeartbeats 1000000 in
theorem w76 (b pb cb : Nat) (x : Seen) (n fi fl : Int) (w : World) (h1 : w.cell? ⟨b, 7, none⟩ = some (.int .i64 fi)) (h2 : w.cell? ⟨b, 8, none⟩ = some (.int .i64 fl))
    (k1 : w.cell? ⟨pb, 0, none⟩ = some (.pointer (some ⟨b, 0, none⟩))) (k2 : w.cell? ⟨cb, 0, none⟩ = some (.int .i64 n))
    (a0 : 0 ≤ x.at_) (a1 : x.at_ ≤ 1099511627776) (b0 : 0 ≤ fi) (b1 : fi ≤ 3000000) (c0 : 0 ≤ fl) (c1 : fl ≤ 3000000) :
    Calls Try.prog 76 #[seenV x, .pointer (some ⟨pb, 0, none⟩), .pointer (some ⟨cb, 0, none⟩)] w fun e w' => e = .returned (.bool (decide (x.verdict ≠ 1) && inWin fi fl n x)) ∧ Ext w w' := by
  have K := Lib.hid (fun w' (h : Ext w w') => w69 b x n fi fl w' (h.get h1) (h.get h2) a0 a1 b0 b1 c0 c1)
  obtain ⟨r, hr⟩ : ∃ r, inWin fi fl n x = r := ⟨_, rfl⟩
  rw [hr] at K ⊢
  obtain ⟨i, at_, v, h⟩ := x
  simp only at K ⊢
  clear h1 h2 a0 a1 b0 b1 c0 c1 hr
  have z1 := World.block_lt_of_cell? _ _ k1
  have z2 := World.block_lt_of_cell? _ _ k2
  simp only at z1 z2
  by_cases g1 : v = 1
  · subst g1
    go_enter Try.func76, Try.ntmps76
    go_wp2
    go_ret
    exact ⟨by simp, (Ext.refl _).alloc _⟩
  · have t1 : (v == 1) = false := by simpa using g1
    have t2 : decide (v ≠ 1) = true := decide_eq_true g1
    rw [t2, Bool.true_and]
    clear t2
    go_enter Try.func76, Try.ntmps76
    go_wp2_with (go_at_call 69; (with_reducible refine (K.out _ ((Ext.refl _).alloc _)).mono ?_); rintro e w' ⟨rfl, hb⟩)
    go_ret
    exact ⟨(by show Ending.returned (.bool (v != 1 && r)) = _; simp [g1]), ((Ext.refl _).alloc _).trans hb⟩
/-- a slice of parts, part by part -/
theorem SeensAt.form {w : World} {v : Value} {l : List Seen} (h : SeensAt w v l) :
    ∃ ao cap, v = .slice ao l.length cap ∧ cap ≤ maxLen ∧ ∀ j, j < l.length → ∃ b off, ao = some ⟨b, off, none⟩ ∧ w.cell? ⟨b, off + j * 4, none⟩ = some (.int .i64 (l.getD j seen0).id) ∧ w.cell? ⟨b, off + j * 4 + 1, none⟩ = some (.int .i64 (l.getD j seen0).at_) ∧
        w.cell? ⟨b, off + j * 4 + 2, none⟩ = some (.int .u8 (l.getD j seen0).verdict) ∧ w.cell? ⟨b, off + j * 4 + 3, none⟩ = some (.bool (l.getD j seen0).hit) := by
  rcases h.cases with ⟨rfl, ao, cap, rfl, h1, h2⟩ | ⟨h0, b, off, cap, rfl, h1, h2, h3⟩
  · exact ⟨ao, cap, rfl, h1, fun j hj => by simp at hj⟩
  · exact ⟨_, cap, rfl, h2, fun j hj => ⟨b, off, rfl, h3 j hj⟩⟩
set_option maxRecDepth 100000 in
set_option maxHeartbeats 2000000 in
theorem w78 (l : List Seen) (v : Value) (p : Seen → Bool) (g : FuncId) (lb : Array Value) (w : World) (hv : SeensAt w v l) (hl : l.length ≤ 1000000)
    (eg : ∀ args w, (callFunc g args).run Try.prog w = .ok (.enter g args) w) (hp : ∀ x ∈ l, ∀ w', Ext w w' → Calls Try.prog g (#[seenV x] ++ lb) w' fun e w'' => e = .returned (.bool (p x)) ∧ Ext w' w'') :
    Calls Try.prog 78 #[v, .func (.func g) #[] lb] w fun e w' => e = .returned (.int .i64 (if l.any p then ((l.findIdx p : Nat) : Int) else -1)) ∧ Ext w w' := by
  obtain ⟨ao, cap, rfl, -, hc⟩ := hv.form
  have HC := Lib.hid hc
  have HP := Lib.hid hp
  clear hc hp hv
  obtain ⟨r, hr⟩ : ∃ r : Int, (if l.any p then ((l.findIdx p : Nat) : Int) else -1) = r := ⟨_, rfl⟩
  rw [hr]
  have HR := Lib.hid hr
  clear hr
  go_enter Try.func78, Try.ntmps78
  go_wp2
  go_loopw [8] (fun i wr => ∃ k : Nat, k ≤ l.length ∧ i = .int .i64 (k : Int) ∧ Ext w wr ∧ Hid (∀ j, j < k → p (l.getD j seen0) = false)) (fun i _ => l.length - (intOf i).toNat)
  case atStart => exact ⟨0, by omega, rfl, Ext.refl _, Lib.hid (fun j hj => by omega)⟩
  case round =>
    obtain ⟨k, hk, rfl, hE, hno⟩ := hrel
    by_cases hkl : k < l.length
    · obtain ⟨b, off, rfl, c0, c1, c2, c3⟩ := HC.out k hkl
      have c0 := hE.get c0
      have c1 := hE.get c1
      have c2 := hE.get c2
      have c3 := hE.get c3
      have hm : l.getD k seen0 ∈ l := by rw [getD_get hkl]; exact List.getElem_mem hkl
      have hcall := HP.out _ hm wr hE
      obtain ⟨x, hx⟩ : ∃ x, l.getD k seen0 = x := ⟨_, rfl⟩
      rw [hx] at c0 c1 c2 c3 hcall
      obtain ⟨q, hq⟩ : ∃ q, p x = q := ⟨_, rfl⟩
      rw [hq] at hcall
      have HQ := Lib.hid (show p (l.getD k seen0) = q by rw [hx]; exact hq)
      have HCL := Lib.hid hcall
      clear hcall hx hq hm
      cases q
      · go_wp2_with (go_at_fn g; (with_reducible refine HCL.out.mono ?_); rintro e w1 ⟨rfl, h1⟩)
        go_roundw
        case rel => exact ⟨k + 1, by omega, by go_num, hE.trans h1, Lib.hid (fun j hj => by
          rcases Nat.lt_or_ge j k with h9 | h9
          · exact hno.out j h9
          · obtain rfl : j = k := by omega
            exact HQ.out)⟩
        case measure => simp [intOf]; omega
      · go_wp2_with (go_at_fn g; (with_reducible refine HCL.out.mono ?_); rintro e w1 ⟨rfl, h1⟩)
        go_ret
        refine ⟨ret_int ?_, hE.trans h1⟩
        rw [← HR.out]
        have hany : l.any p = true := List.any_eq_true.2 ⟨l.getD k seen0, by rw [getD_get hkl]; exact List.getElem_mem hkl, HQ.out⟩
        rw [if_pos hany]
        have : l.findIdx p = k := by
          rw [List.findIdx_eq hkl]
          refine ⟨by rw [← getD_get hkl]; exact HQ.out, fun j hj => ?_⟩
          have h9 := hno.out j hj
          rw [getD_get (by omega)] at h9
          exact h9
        rw [this]
    · obtain rfl : k = l.length := by omega
      go_wp2
      go_ret
      refine ⟨ret_int ?_, hE⟩
      rw [← HR.out, if_neg]
      intro h9
      obtain ⟨x, hx, h8⟩ := List.any_eq_true.1 h9
      obtain ⟨j, hj, rfl⟩ := List.getElem_of_mem hx
      have h7 := hno.out j hj
      rw [getD_get hj] at h7
      rw [h7] at h8
      cases h8
end Go.Proofs.Ytcbimfaneinpkaa
