/-
  The layer of names: strings, in their order, and lists of them.
-/
import Derived.Test.YtnahbfmbmpoljaaGreatDoorIdent3
import Derived.Test.YtnahbfmbmpoljaaGreatDoorWords
import Derived.Test.YtnahbfmbmpoljaaGreatDoorSrt

namespace Go.Proofs.YtnahbfmbmpoljaaGreatDoor
open Go.RowKit
open Go.Sort hiding Below

/-- A string, as Go has it. -/
abbrev Str : Type := { s : ByteArray // s.size ≤ 9223372036854775807 }
instance : Inhabited Str := ⟨⟨ByteArray.empty, by decide⟩⟩
theorem toList_inj {a b : ByteArray} (h : a.toList = b.toList) : a = b := by
  rw [Lib.toList_data, Lib.toList_data] at h
  rw [← Lib.mk_data a, ← Lib.mk_data b, h]
def cmpS (a b : Str) : Int := Id.cmpN a.1.toList b.1.toList
theorem ord_str : Ord3 cmpS where
  zero a b := by unfold cmpS; rw [Id.cmpN_zero]; exact ⟨fun h => Subtype.ext (toList_inj h), fun h => by rw [h]⟩
  neg a b := Id.cmpN_neg _ _
  trans a b c h1 h2 := Id.cmpN_trans h1 h2
/-- A list of strings, ascending, without repetitions. -/
def srt (l : List Str) : List Str := srtOf cmpS l
def sE (s : Str) : List Value := [.string s.1]
theorem sE_len (s : Str) : (sE s).length = 1 := rfl
theorem sE_one (s : Str) : ∀ u ∈ sE s, u.oneCell' = true := by intro u hu; simp [sE] at hu; subst hu; rfl
theorem flat_sE (l : List Str) : l.flatMap sE = l.map fun s => Value.string s.1 := by
  induction l with
  | nil => rfl
  | cons s l ih => rw [List.flatMap_cons, ih]; rfl
theorem Rw.str {w : World} {B : Nat} {A : Option Addr} {l : List Str} (h : Rw sE 1 w B A l) (hn : 0 < l.length) :
    ∃ g o, A = some ⟨g, o, none⟩ ∧ g < B ∧ ∀ i x, l[i]? = some x → w.cell? ⟨g, o + i, none⟩ = some (.string x.1) := by
  obtain ⟨g, o, e, hb, hc⟩ := h hn
  exact ⟨g, o, e, hb, fun i x hx => by have := hc i x hx 0 (.string x.1) rfl; rwa [Nat.mul_one, Nat.add_zero] at this⟩

theorem eq_str (x y : Str) : (x.1.toList == y.1.toList) = decide (x = y) := by
  rw [Bool.eq_iff_iff]; simp
  exact ⟨fun h => Subtype.ext (toList_inj h), fun h => by rw [h]⟩
end Go.Proofs.YtnahbfmbmpoljaaGreatDoor
