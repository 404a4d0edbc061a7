/- What Encode answers, as the laws want it. -/
import Derived.Test.YtlnofbdhamingaaDoorGPoly
import Derived.Test.YtlnofbdhamingaaDoorFitPlain
set_option linter.unusedVariables false
set_option linter.unusedSimpArgs false
namespace Go.Proofs.YtlnofbdhamingaaDoor
open Go.RowKit Go.Sort

theorem form_len {w : World} {v : Value} {l : List Nat} {k : Nat} (h : BytesAt w v l) (hk : l.length = k) : ∃ ao c, v = .slice ao k c := by
  obtain ⟨ao, c, rfl, -⟩ := h.form
  exact ⟨ao, c, by rw [hk]⟩
abbrev EncK (w : World) (v : Value) (l : List Nat) : Prop := ∀ w', Ext w w' → Calls Tryd.prog 22 #[v] w' fun e w'' => ∃ v', e = .returned (.tuple #[v', .int .i64 0]) ∧ w''.ownsRow w'.heap.size 5 1 v' 15 (bytesL (encR l)) ∧ Ext w' w''
theorem encK {w : World} (hT : Tabs w) {v : Value} {l : List Nat} (hv : BytesAt w v l) (hm : isMessage l = true) : EncK w v l := fun w' h => by
  have k := c_Encode v l w' (hT.ext h) (hv.ext h) (by have := (message_syms hm).2; unfold maxLen; omega)
  unfold OwnWord at k
  rw [show encodeR l = (some (encR l), 0) from if_pos hm] at k
  exact k.mono (by
    rintro e w2 ⟨v', h1, h2, h3⟩
    rw [show ((some (encR l), (0 : Int)).1.getD []) = encR l from rfl, encR_length] at h2
    exact ⟨v', h1, h2, h3⟩)
theorem encE {w : World} (hT : Tabs w) {v : Value} {l : List Nat} (hv : BytesAt w v l) (hl : l.length ≤ 140737488351232) (hm : isMessage l = false) : ∀ w', Ext w w' → Calls Tryd.prog 22 #[v] w' fun e w'' => ∃ v', e = .returned (.tuple #[v', .int .i64 2]) ∧ Ext w' w'' := fun w' h => by
  have k := c_Encode v l w' (hT.ext h) (hv.ext h) (by unfold maxLen; omega)
  unfold OwnWord at k
  rw [show encodeR l = (none, 2) from if_neg (by rw [hm]; exact Bool.false_ne_true)] at k
  exact k.mono (by
    rintro e w2 ⟨v', h1, -, h3⟩
    exact ⟨v', h1, h3⟩)
theorem of_owns_enc {w : World} {base : Nat} {e : TypeId} {v : Value} {l : List Nat} (h : w.ownsRow base e 1 v 15 (bytesL (encR l))) : BytesAt w v (encR l) := by
  show SlAt w 1 v (encR l).length (bytesL (encR l))
  rw [encR_length]
  exact SlAt.of_owns h
end Go.Proofs.YtlnofbdhamingaaDoor
