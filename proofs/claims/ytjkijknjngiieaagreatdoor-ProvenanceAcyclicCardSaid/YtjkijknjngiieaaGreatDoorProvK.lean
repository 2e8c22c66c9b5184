/-
  Provenance: the keys of the program's map, and what it knows behind a list of links.
-/
import Derived.Test.YtjkijknjngiieaaGreatDoorProvP
import Derived.Test.YtjkijknjngiieaaGreatDoorMapBI
import Derived.DeepKeys4
import Derived.MapViews
namespace Go.Proofs.YtjkijknjngiieaaGreatDoor
open Go.RowKit Go.Maps

theorem laidOutK : laidOutB Tryz.prog = true := by kernel_rfl
theorem lawK : WideMaps.KeyLaw Tryz.prog 86 := deep_law_laid laidOutK (m := 3) (by omega) (of_decide_eq_true (by kernel_rfl)) (by kernel_rfl) (by kernel_rfl)
theorem keyedK : Keyed Tryz.prog 86 := Keyed.of_law lawK
def keyK (a b : Str) : Lit := .string (keyBytes [.string a.1.data.toList, .string b.1.data.toList])
theorem keyK_lit (a b : Str) : WideAt.IsKeyLit (keyK a b) := trivial
theorem key_at (a b : Str) : keyOf Tryz.prog 86 (.agg #[.string a.1, .string b.1]) = some (keyK a b) := by
  have e0 : Tryz.prog.keyType 86 = true := by kernel_rfl
  have e1 : (Value.agg #[.string a.1, .string b.1]).formed Tryz.prog 86 = true := by
    simp [Value.formed, Tryz.underlying86, show Tryz.prog.cellsOf 86 = 2 by kernel_rfl]
  have hs1 : a.1.size ≤ maxLen := by have := a.2; unfold maxLen; omega
  have hs2 : b.1.size ≤ maxLen := by have := b.2; unfold maxLen; omega
  have e2 : Tryz.prog.keyLits (Tryz.prog.types.size + 1) 86 [.string a.1, .string b.1] = some [.string a.1.data.toList, .string b.1.data.toList] := by
    obtain ⟨n, hn⟩ : ∃ n, Tryz.prog.types.size = n + 1 := ⟨Tryz.prog.types.size - 1, by have : 0 < Tryz.prog.types.size := of_decide_eq_true (by kernel_rfl); omega⟩
    rw [hn]
    simp [Program.keyLits, Tryz.underlying86, Tryz.underlying9, show Tryz.prog.cellsOf 86 = 2 by kernel_rfl, show Tryz.prog.cellsOf 9 = 1 by kernel_rfl, hs1, hs2]
  unfold keyOf
  rw [Tryz.underlying86]
  simp only [e0, e1, Bool.and_self, if_true]
  show (Tryz.prog.keyLits _ _ [.string a.1, .string b.1]).map _ = _
  rw [e2]
  rfl
theorem key_inj {a b c d : Str} (h : keyK a b = keyK c d) : a = c ∧ b = d := by
  have := keyedK.inj (key_at a b) (by rw [h]; exact key_at c d)
  simp only [Value.agg.injEq] at this
  simp at this
  exact ⟨Subtype.ext this.1, Subtype.ext this.2⟩
open Classical in
/-- What the map knows behind a list of links. -/
noncomputable def ixF (ls : List Lnk) (x : Lit) : Option Int := (ls.findIdx? fun l => decide (keyK l.run (nameL l) = x)).map fun n => (n : Int)
theorem ixF_nil (x : Lit) : ixF [] x = none := rfl
theorem ixF_pred (run nm : Str) : (fun l : Lnk => @decide (keyK l.run (nameL l) = keyK run nm) (Classical.propDecidable _)) = isL run nm := by
  funext l
  by_cases h : keyK l.run (nameL l) = keyK run nm
  · rw [@decide_eq_true _ (Classical.propDecidable _) h]
    exact (isL_iff.2 (key_inj h)).symm
  · rw [@decide_eq_false _ (Classical.propDecidable _) h]
    symm
    rw [Bool.eq_false_iff]
    intro h2
    obtain ⟨e1, e2⟩ := isL_iff.1 h2
    rw [e1, e2] at h
    exact h rfl
theorem ixF_at (ls : List Lnk) (run nm : Str) : ixF ls (keyK run nm) = if hasL ls run nm = true then some (idxL ls run nm : Int) else none := by
  unfold ixF
  rw [ixF_pred]
  by_cases h : hasL ls run nm = true
  · rw [if_pos h]
    have hlt := idx_lt h
    have : ls.findIdx? (isL run nm) = some (idxL ls run nm) := by
      rw [List.findIdx?_eq_some_iff_findIdx_eq]
      exact ⟨hlt, rfl⟩
    rw [this]
    rfl
  · rw [if_neg h]
    have : ls.findIdx? (isL run nm) = none := by
      rw [List.findIdx?_eq_none_iff]
      intro x hx
      rw [Bool.eq_false_iff]
      intro e
      exact h (by unfold hasL; rw [List.any_eq_true]; exact ⟨x, hx, e⟩)
    rw [this]
    rfl
theorem ixF_snoc (ls : List Lnk) (l : Lnk) (x : Lit) (h : x ≠ keyK l.run (nameL l)) : ixF (ls ++ [l]) x = ixF ls x := by
  unfold ixF
  rw [List.findIdx?_append]
  have : List.findIdx? (fun l => @decide (keyK l.run (nameL l) = x) (Classical.propDecidable _)) [l] = none := by
    rw [List.findIdx?_eq_none_iff]
    intro y hy
    obtain rfl := List.mem_singleton.1 hy
    exact @decide_eq_false _ (Classical.propDecidable _) (fun e => h e.symm)
  rw [this]
  simp
theorem ixF_old (ls : List Lnk) (l : Lnk) (h : hasL ls l.run (nameL l) = true) (x : Lit) : ixF (ls ++ [l]) x = ixF ls x := by
  by_cases hx : x = keyK l.run (nameL l)
  · subst hx
    have h2 : hasL (ls ++ [l]) l.run (nameL l) = true := by unfold hasL at h ⊢; rw [List.any_append, h]; rfl
    rw [ixF_at, ixF_at, if_pos h, if_pos h2]
    have hlt := idx_lt h
    unfold idxL at hlt ⊢
    rw [List.findIdx_append, if_pos hlt]
  · exact ixF_snoc ls l x hx
theorem ixF_new (ls : List Lnk) (l : Lnk) (h : hasL ls l.run (nameL l) = false) : ixF (ls ++ [l]) (keyK l.run (nameL l)) = some (ls.length : Int) := by
  have h1 : isL l.run (nameL l) l = true := isL_iff.2 ⟨rfl, rfl⟩
  have h2 : (ls ++ [l])[ls.length]? = some l := by simp
  obtain ⟨e1, e2⟩ := idx_first h2 h1 fun j x hj hx => by
    rw [List.getElem?_append_left hj] at hx
    unfold hasL at h
    rw [List.any_eq_false] at h
    exact Bool.eq_false_iff.2 (h x (List.mem_of_getElem? hx))
  rw [ixF_at, if_pos e2, e1]
end Go.Proofs.YtjkijknjngiieaaGreatDoor
