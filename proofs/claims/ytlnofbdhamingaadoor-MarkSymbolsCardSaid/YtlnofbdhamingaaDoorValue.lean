/- Values of polynomials: the program's. -/
import Derived.Test.YtlnofbdhamingaaDoorHorner
set_option linter.unusedVariables false
set_option linter.unusedSimpArgs false
namespace Go.Proofs.YtlnofbdhamingaaDoor
open Go.RowKit Go.Sort

set_option maxRecDepth 100000 in
set_option maxHeartbeats 4000000 in
theorem c_at (v : Value) (l : List Nat) (x : Nat) (w : World) (hT : Tabs w) (hv : BytesAt w v l) (hl : l.length ≤ 1000) (hs : Syms l) (hx : x < 16) :
    Calls Tryd.prog 89 #[v, .int .u8 (x : Int)] w fun e w' => e = .returned (.int .u8 (gval l x : Int)) ∧ Ext w w' := by
  obtain ⟨ao, cap, rfl, -, hc⟩ := hv.form
  have HC := Lib.hid hc
  have HT := Lib.hid hT
  clear hc hv hT
  go_enter Tryd.func89, Tryd.ntmps89
  go_wp2
  go_loopw [5, 6] (fun o i wr => ∃ k : Nat, k ≤ l.length ∧ i = .int .i64 ((k : Int) - 1) ∧ o = .int .u8 (gval (l.drop k) x : Int) ∧ Ext w wr) (fun _ i _ => (intOf i + 1).toNat)
  case atStart => exact ⟨l.length, by omega, rfl, congrArg (Value.int .u8) (by rw [List.drop_length]; rfl), Ext.refl _⟩
  case round =>
    obtain ⟨k, hk, hi1, rfl, hE⟩ := hrel
    by_cases hk0 : k = 0
    · subst hk0
      obtain rfl : u6 = .int .i64 (-1) := hi1
      go_wp2
      go_ret
      exact ⟨rfl, hE⟩
    · obtain ⟨j, rfl⟩ : ∃ j, k = j + 1 := ⟨k - 1, by omega⟩
      obtain rfl : u6 = .int .i64 (j : Int) := by rw [hi1]; exact congrArg (Value.int .i64) (by omega)
      have hj : j < l.length := by omega
      obtain ⟨b, off, rfl, c0⟩ := HC.out j hj
      have c0 := hE.get c0
      have z0 := World.block_lt_of_cell? _ _ c0
      simp only at z0
      have hy := getD_mem hs hj
      have hd := drop_get hj
      obtain ⟨y, hyy⟩ : ∃ y, l.getD j 0 = y := ⟨_, rfl⟩
      rw [hyy] at c0 hy hd
      have hl2 : Syms (l.drop (j + 1)) := fun z hz => hs z (List.mem_of_mem_drop hz)
      have ho := gval_lt hl2 hx
      obtain ⟨o, hoo⟩ : ∃ o, gval (l.drop (j + 1)) x = o := ⟨_, rfl⟩
      rw [hoo] at ho ⊢
      have HD := Lib.hid (And.intro hd hoo)
      clear hd hyy hoo hi1 hk hk0 hl2
      have CM := Lib.hid (fun (w' : World) (h : Ext wr w') => c_mul o x ho hx w' (HT.out.ext (hE.trans h)))
      have g1 := gmul_lt ho hx
      have x1 := Lib.hid (u8_xor_nat (gmul o x) y (by omega) (by omega))
      go_wp2
      refine wp_region_quiet_below (by kernel_rfl) (by kernel_rfl) ?_
      repeat (go_big_quiet_step ((go_at_call 53; with_reducible exact Calls.ext_of (CM.out _ (Ext.grow _ _ _)))))
      refine wpQuiet_nil ?_
      intro w1 hw'
      obtain ⟨pq, hw''⟩ := hw'
      have hb1 := ext_of_regrown hw''
      clear hw'' pq
      go_wp2
      go_roundw
      case rel => exact ⟨j, by omega, rfl, congrArg (Value.int .u8) (by
        rw [x1.out, HD.out.1]
        show _ = ((gmul (gval (l.drop (j + 1)) x) x ^^^ y : Nat) : Int)
        rw [HD.out.2]), (by repeat (first | exact Ext.refl _ | assumption | refine Ext.alloc ?_ _ | refine Ext.drewN ?_ _ | refine ext_grow ?_ _ _ | refine Ext.setCell ?_ (by first | exact Nat.le_refl _ | omega | (simp; done) | (simp; omega)) _ | refine Ext.trans ?_ (by assumption)))⟩
      case measure => simp [intOf]; try omega
end Go.Proofs.YtlnofbdhamingaaDoor
