/- Tracks: the plain data, and when a track is valid. No program in sight but for how the data lie in memory. -/
import Derived.Test.YtcbimfaneinpkaaSpec
import Derived.Test.YtcbimfaneinpkaaLists
namespace Go.Proofs.Ytcbimfaneinpkaa
open Go.RowKit Go.Sort

structure Seen where
  id : Int
  at_ : Int
  verdict : Int
  hit : Bool
  deriving DecidableEq
instance : Inhabited Seen := ⟨⟨-1, -1, 0, false⟩⟩
abbrev seen0 : Seen := ⟨-1, -1, 0, false⟩

structure Track where
  belt : Belt
  count : Int
  next : Int
  parts : List Seen
  deriving DecidableEq

def partOk (t : Track) (last x : Seen) : Prop :=
  last.id < x.id ∧ x.id < t.next ∧ last.at_ < x.at_ ∧ x.at_ ≤ t.count ∧ t.count < x.at_ + final t.belt ∧ x.verdict ≤ 3 ∧ (x.hit = true → x.at_ + first t.belt ≤ t.count)
instance (t : Track) (last x : Seen) : Decidable (partOk t last x) := by unfold partOk; infer_instance
/-- the part before the i-th -/
def lastOf (l : List Seen) (i : Nat) : Seen := if i = 0 then seen0 else l.getD (i - 1) seen0
theorem lastOf_zero (l : List Seen) : lastOf l 0 = seen0 := rfl
theorem lastOf_succ (l : List Seen) (i : Nat) : lastOf l (i + 1) = l.getD i seen0 := by simp [lastOf]
def partsOk (t : Track) : Prop := ∀ i, i < t.parts.length → partOk t (lastOf t.parts i) (t.parts.getD i seen0)
instance (t : Track) : Decidable (partsOk t) := by unfold partsOk; infer_instance
def sane (t : Track) : Prop := 0 ≤ t.count ∧ t.count ≤ 1099511627776 ∧ 0 ≤ t.next ∧ t.next ≤ 1099511627776 ∧ t.parts.length ≤ 32
instance (t : Track) : Decidable (sane t) := by unfold sane; infer_instance
def Track.ok (t : Track) : Prop := t.belt.ok ∧ sane t ∧ partsOk t
instance (t : Track) : Decidable t.ok := by unfold Track.ok; infer_instance
def checkTrack (t : Track) : Int := if t.belt.ok then if sane t ∧ partsOk t then 0 else 8 else 90
theorem checkTrack_no {t : Track} (h : ¬ t.belt.ok) : checkTrack t = 90 := if_neg h
theorem checkTrack_bad {t : Track} (h : t.belt.ok) (g : ¬ sane t) : checkTrack t = 8 := by simp [checkTrack, h, g]
theorem checkTrack_parts {t : Track} (h : t.belt.ok) {i : Nat} (hi : i < t.parts.length) (g : ¬ partOk t (lastOf t.parts i) (t.parts.getD i seen0)) : checkTrack t = 8 := by
  unfold checkTrack
  rw [if_pos h, if_neg (fun k => g (k.2 i hi))]
theorem checkTrack_ok {t : Track} (h : t.ok) : checkTrack t = 0 := by simp [checkTrack, h.1, h.2.1, h.2.2]
theorem checkTrack_zero {t : Track} : checkTrack t = 0 ↔ t.ok := by
  constructor
  · intro h
    unfold checkTrack at h
    split at h
    · split at h
      · rename_i h1 h2
        exact ⟨h1, h2.1, h2.2⟩
      · omega
    · omega
  · exact checkTrack_ok

/-- how a part lies in memory -/
def seenCells (x : Seen) : List Value := [.int .i64 x.id, .int .i64 x.at_, .int .u8 x.verdict, .bool x.hit]
def seens (l : List Seen) : List Value := l.flatMap seenCells
theorem seens_length (l : List Seen) : (seens l).length = l.length * 4 := by
  induction l with
  | nil => rfl
  | cons x l ih => simp only [seens, List.flatMap_cons, List.length_append, List.length_cons] at ih ⊢; simp [seenCells, ih]; omega
theorem seens_append (l m : List Seen) : seens (l ++ m) = seens l ++ seens m := List.flatMap_append
theorem seens_get (l : List Seen) : ∀ (i f : Nat), i < l.length → f < 4 → (seens l)[i * 4 + f]? = (seenCells (l.getD i seen0))[f]? := by
  induction l with
  | nil => intro i f h; simp at h
  | cons x l ih =>
    intro i f hi hf
    rw [seens, List.flatMap_cons]
    match i with
    | 0 =>
      rw [List.getElem?_append_left (by simp [seenCells]; omega)]
      simp
    | i + 1 =>
      rw [List.getElem?_append_right (by simp [seenCells]; omega)]
      have := ih i f (by simpa using hi) hf
      simp only [seens] at this
      simpa [seenCells, show (i + 1) * 4 + f - 4 = i * 4 + f by omega] using this
/-- 'v' is a slice of these parts. -/
def SeensAt (w : World) (v : Value) (l : List Seen) : Prop := SlAt w 4 v l.length (seens l)
theorem SeensAt.ext {w w' : World} {v : Value} {l : List Seen} (h : SeensAt w v l) (hb : Ext w w') : SeensAt w' v l := SlAt.ext h hb
theorem SeensAt.cases {w : World} {v : Value} {l : List Seen} (h : SeensAt w v l) :
    (l = [] ∧ ∃ ao cap, v = .slice ao 0 cap ∧ cap ≤ maxLen ∧ (ao = none → cap = 0)) ∨
    (0 < l.length ∧ ∃ b off cap, v = .slice (some ⟨b, off, none⟩) l.length cap ∧ l.length ≤ cap ∧ cap ≤ maxLen ∧
      ∀ j, j < l.length → w.cell? ⟨b, off + j * 4, none⟩ = some (.int .i64 (l.getD j seen0).id) ∧ w.cell? ⟨b, off + j * 4 + 1, none⟩ = some (.int .i64 (l.getD j seen0).at_) ∧
        w.cell? ⟨b, off + j * 4 + 2, none⟩ = some (.int .u8 (l.getD j seen0).verdict) ∧ w.cell? ⟨b, off + j * 4 + 3, none⟩ = some (.bool (l.getD j seen0).hit)) := by
  rcases SlAt.cases (by omega) h with ⟨h0, _, h1⟩ | ⟨h0, b, off, cap, h1, h2, h3, h4⟩
  · exact .inl ⟨List.eq_nil_of_length_eq_zero h0, h1⟩
  · refine .inr ⟨h0, b, off, cap, h1, h2, h3, fun j hj => ⟨?_, ?_, ?_, ?_⟩⟩
    · exact h4 (j * 4 + 0) _ (by rw [seens_get l j 0 hj (by omega)]; rfl)
    · exact h4 (j * 4 + 1) _ (by rw [seens_get l j 1 hj (by omega)]; rfl)
    · exact h4 (j * 4 + 2) _ (by rw [seens_get l j 2 hj (by omega)]; rfl)
    · exact h4 (j * 4 + 3) _ (by rw [seens_get l j 3 hj (by omega)]; rfl)
end Go.Proofs.Ytcbimfaneinpkaa
