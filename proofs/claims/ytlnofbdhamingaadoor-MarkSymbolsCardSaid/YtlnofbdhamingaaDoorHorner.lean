/- Values of polynomials: the program's and the reference's. -/
import Derived.Test.YtlnofbdhamingaaDoorSymLists
set_option linter.unusedVariables false
set_option linter.unusedSimpArgs false
namespace Go.Proofs.YtlnofbdhamingaaDoor
open Go.RowKit Go.Sort

def Syms (l : List Nat) : Prop := ∀ x ∈ l, x < 16
theorem syms_of {l : List Nat} (h : allSym l = true) : Syms l := by
  intro x hx
  have := List.all_eq_true.1 h x hx
  have := of_decide_eq_true this
  omega
/-- the value of a polynomial, the lowest factor first -/
def gval (l : List Nat) (x : Nat) : Nat := l.foldr (fun c acc => gmul acc x ^^^ c) 0
theorem xor_lt {a b : Nat} (ha : a < 16) (hb : b < 16) : a ^^^ b < 16 := Nat.xor_lt_two_pow (n := 4) ha hb
theorem gval_lt {l : List Nat} {x : Nat} (hl : Syms l) (hx : x < 16) : gval l x < 16 := by
  induction l with
  | nil => show 0 < 16; omega
  | cons c l ih => exact xor_lt (gmul_lt (ih (fun y hy => hl y (by simp [hy]))) hx) (hl c (by simp))
theorem gmul_comm {a b : Nat} (ha : a < 16) (hb : b < 16) : gmul a b = gmul b a := by
  have : ∀ a b : Fin 16, gmul a b = gmul b a := by decide
  exact this ⟨a, ha⟩ ⟨b, hb⟩
theorem gmul_assoc {a b c : Nat} (ha : a < 16) (hb : b < 16) (hc : c < 16) : gmul (gmul a b) c = gmul a (gmul b c) := by
  have : ∀ a b c : Fin 16, gmul (gmul a b) c = gmul a (gmul b c) := by decide +kernel
  exact this ⟨a, ha⟩ ⟨b, hb⟩ ⟨c, hc⟩
theorem gmul_xor {a b c : Nat} (ha : a < 16) (hb : b < 16) (hc : c < 16) : gmul a (b ^^^ c) = gmul a b ^^^ gmul a c := by
  have : ∀ a b c : Fin 16, gmul a (b ^^^ c) = gmul a b ^^^ gmul a c := by decide +kernel
  exact this ⟨a, ha⟩ ⟨b, hb⟩ ⟨c, hc⟩
theorem gmul_one {a : Nat} (ha : a < 16) : gmul 1 a = a := by
  have : ∀ a : Fin 16, gmul 1 a = a := by decide
  exact this ⟨a, ha⟩
/-- the sum of the factors times powers, from a power on -/
def gsum (pw x : Nat) : List Nat → Nat
  | [] => 0
  | c :: l => gmul c pw ^^^ gsum (gmul pw x) x l
theorem gsum_val : ∀ (l : List Nat) (pw x : Nat), Syms l → pw < 16 → x < 16 → gsum pw x l = gmul pw (gval l x)
  | [], pw, x, _, hp, _ => (gmul_zero hp).1.symm
  | c :: l, pw, x, hl, hp, hx => by
    have hc : c < 16 := hl c (by simp)
    have hl' : Syms l := fun y hy => hl y (by simp [hy])
    have hg := gval_lt hl' hx
    show gmul c pw ^^^ gsum (gmul pw x) x l = gmul pw (gmul (gval l x) x ^^^ c)
    rw [gsum_val l _ x hl' (gmul_lt hp hx) hx, gmul_xor hp (gmul_lt hg hx) hc, gmul_comm hc hp, gmul_assoc hp hx hg, gmul_comm hx hg, Nat.xor_comm]
theorem getD_mem {l : List Nat} (hl : Syms l) {k : Nat} (hk : k < l.length) : l.getD k 0 < 16 := by
  rw [List.getD_eq_getElem?_getD, List.getElem?_eq_getElem hk]
  exact hl _ (List.getElem_mem hk)
theorem drop_get {l : List Nat} {k : Nat} (hk : k < l.length) : l.drop k = l.getD k 0 :: l.drop (k + 1) := by
  rw [List.drop_eq_getElem_cons hk, List.getD_eq_getElem?_getD, List.getElem?_eq_getElem hk]; rfl
set_option maxRecDepth 100000 in
set_option maxHeartbeats 4000000 in
theorem r_valueOf (v : Value) (l : List Nat) (x : Nat) (w : World) (hv : BytesAt w v l) (hl : l.length ≤ 1000) (hs : Syms l) (hx : x < 16) :
    Calls Tryd.prog 91 #[v, .int .u8 (x : Int)] w fun e w' => e = .returned (.int .u8 (gval l x : Int)) ∧ Ext w w' := by
  have htot : gsum 1 x l = gval l x := by rw [gsum_val l 1 x hs (by omega) hx, gmul_one (gval_lt hs hx)]
  have HT := Lib.hid htot
  clear htot
  obtain ⟨ao, cap, rfl, -, hc⟩ := hv.form
  have HC := Lib.hid hc
  have HV := Lib.hid hv
  clear hc hv
  go_enter Tryd.func91, Tryd.ntmps91
  go_wp2
  go_loopw [5, 6, 7] (fun o p i wr => ∃ k out pw : Nat, k ≤ l.length ∧ i = .int .i64 (k : Int) ∧ o = .int .u8 (out : Int) ∧ p = .int .u8 (pw : Int) ∧ out < 16 ∧ pw < 16 ∧ Ext w wr ∧ Hid (out ^^^ gsum pw x (l.drop k) = gsum 1 x l)) (fun _ _ i _ => l.length - (intOf i).toNat)
  case atStart => exact ⟨0, 0, 1, by omega, rfl, rfl, rfl, by omega, by omega, Ext.refl _, Lib.hid (by simp)⟩
  case round =>
    obtain ⟨k, out, pw, hk, rfl, rfl, rfl, ho, hp, hE, hI⟩ := hrel
    by_cases hkl : k < l.length
    · obtain ⟨b, off, rfl, c0⟩ := HC.out k hkl
      have c0 := hE.get c0
      have hy := getD_mem hs hkl
      have hd := drop_get hkl
      obtain ⟨y, hyy⟩ : ∃ y, l.getD k 0 = y := ⟨_, rfl⟩
      rw [hyy] at c0 hy hd
      have HD := Lib.hid hd
      clear hd hyy
      have CT := Lib.hid (fun w => r_Times y pw hy hp w)
      have CP := Lib.hid (fun w => r_Times pw x hp hx w)
      have g1 := gmul_lt hy hp
      have g2 := gmul_lt hp hx
      have x1 : bits .xor .u8 (out : Int) (gmul y pw : Int) = ((out ^^^ gmul y pw : Nat) : Int) := u8_xor_nat _ _ (by omega) (by omega)
      have X1 := Lib.hid x1
      have g3 := xor_lt ho g1
      clear x1
      go_wp2_with (first | (go_at_call 54; (with_reducible refine (CT.out _).mono ?_); rintro E w1 ⟨rfl, h1⟩) | (go_at_call 54; (with_reducible refine (CP.out _).mono ?_); rintro E w2 ⟨rfl, h2⟩))
      go_roundw
      case rel => exact ⟨k + 1, out ^^^ gmul y pw, gmul pw x, by omega, by go_num, congrArg (Value.int .u8) X1.out, rfl, g3, g2, (by repeat (first | exact Ext.refl _ | assumption | refine Ext.alloc ?_ _ | refine Ext.drewN ?_ _ | refine ext_grow ?_ _ _ | refine Ext.setCell ?_ (by first | exact Nat.le_refl _ | omega | (simp; done) | (simp; omega)) _ | refine Ext.trans ?_ (by assumption))), Lib.hid (by
        rw [← hI.out, HD.out]
        show _ = out ^^^ (gmul y pw ^^^ gsum (gmul pw x) x (l.drop (k + 1)))
        rw [Nat.xor_assoc])⟩
      case measure => simp [intOf]; omega
    · go_wp2
      go_ret
      have e : l.drop k = [] := List.drop_eq_nil_of_le (by omega)
      exact ⟨ret_int (by
        have h := hI.out
        rw [e, HT.out] at h
        rw [← h]; simp [gsum]), hE⟩
end Go.Proofs.YtlnofbdhamingaaDoor
