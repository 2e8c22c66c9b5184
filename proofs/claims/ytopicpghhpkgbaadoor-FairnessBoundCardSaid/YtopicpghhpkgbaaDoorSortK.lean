/-
  slices.SortFunc at elements of k cells, over any program: a slice of the call's own is sorted in place; what it holds after is a permutation, ascending.
-/
import Derived.Test.YtopicpghhpkgbaaDoorWords
import Derived.Shelf.SlSortCmp.NoneTotal
import Derived.Shelf.SlSortCmp.WholeK
import Derived.Shelf.SlicesQ.Reverse
import Derived.Shelf.SlSortFuncK.SWK
namespace Go.Proofs.YtopicpghhpkgbaaDoor
open Go.RowKit Go.Shelf
open Go.Sort hiding Below

section
variable {α : Type} [Inhabited α] {enc : α → List Value} {k : Nat} {e : TypeId}

theorem holdsK_of (hk : ∀ x, (enc x).length = k) (h0 : 0 < k) {w : World} {base g cap : Nat} {l : List α} (h : Own enc k e w base (.slice (some ⟨g, 0, none⟩) l.length cap) l) : HoldsK enc k w g 0 l.toArray := by
  intro j hj
  have hj' : j < l.length * k := by simpa using hj
  refine ⟨?_, by rw [Nat.zero_add]; exact h.frozenAt j⟩
  rw [Nat.zero_add, h.cellAt j hj', get_flatK _ _ _ _ (by simpa using hj')]
  have h1 : j / k < l.length := Nat.div_lt_of_lt_mul (by rw [Nat.mul_comm]; exact hj')
  have h2' : j % k < k := Nat.mod_lt _ h0
  have hx : l[j / k]? = some l[j / k] := List.getElem?_eq_getElem h1
  have h2 : j % k < (enc l[j / k]).length := by rw [hk]; exact h2'
  have := flat_at hk (u := (enc l[j / k])[j % k]) hx (List.getElem?_eq_getElem h2)
  rw [show j / k * k + j % k = j by rw [Nat.mul_comm]; exact Nat.div_add_mod j k] at this
  rw [this]
  have e : l.toArray[j / k]! = l[j / k] := by rw [getElem!_pos _ _ (by simpa using h1)]; simp
  rw [e, getElem!_def, List.getElem?_eq_getElem h2]
  rfl
theorem below_sortK {w : World} {B g off n : Nat} {d : Array α} {os : Array Obj} (hg : B ≤ g) (hB : B ≤ w.heap.size) : Below B w (sortWorldK enc k w g off n d os) :=
  ⟨rfl, rfl, rfl, by unfold sortWorldK; rw [size_grow, size_putRowK]; show w.heap.size ≤ w.heap.size + _; omega, fun b hb => by
    unfold sortWorldK
    rw [heap_grow_old _ _ (by rw [size_putRowK]; show b < w.heap.size; omega)]
    have : g ≠ b := by omega
    simp [putRowK, putRow, mapBlock, Sort.ahead, Array.getElem?_modify, this]⟩

theorem sorted_own {P : Program} {ρ : Ren} (L : SlLaysF0.n6 P ρ) (aE : ∀ w, (isAgg (ρ.t 24)).run P w = .ok true w) (zE : ∀ w, (Go.sizeOf (ρ.t 24)).run P w = .ok k w) (hk : ∀ x, (enc x).length = k) (h1 : ∀ x, ∀ v ∈ enc x, v.oneCell' = true) (h0 : 0 < k)
    (cf : α → α → Int) (hO : SWO (ltOf cf)) (f : Nat) (cb : Array Value) (eg : ∀ args w, (callFunc f args).run P w = .ok (.enter f args) w)
    {w : World} {H : Nat} {v : Value} {l : List α} (hcmp : ∀ g size, H ≤ g → CmpLays P f cb enc k cf g 0 size w) (hown : Own enc k e w H v l) (hH : H ≤ w.heap.size) (hn : l.length < 4611686018427387904) :
    Calls P (ρ.f 6) #[v, .func (.func f) #[] cb] w fun ex w' => ex = .returned (.tuple #[]) ∧ ∃ A c l', v = .slice A l'.length c ∧ l'.length ≤ c ∧ l'.Perm l ∧ l'.Pairwise (fun a b => ltOf cf b a = false) ∧ Rw enc k w' w'.heap.size A l' ∧ Below H w w' := by
  rcases Nat.eq_zero_or_pos l.length with hl0 | hl0
  · obtain rfl : l = [] := List.eq_nil_of_length_eq_zero hl0
    obtain ⟨A, c, rfl, hc, _, _⟩ := hown.form
    refine (AnyF.slices_SortFunc_none L A c _ w).mono ?_
    rintro ex w1 ⟨rfl, rfl⟩
    exact ⟨rfl, A, c, [], rfl, hc, List.Perm.refl _, List.Pairwise.nil, Rw.nil, Below.refl _ _⟩
  · obtain ⟨g, cap, hv, hg1, hg2⟩ := World.ownsRow.form hown hl0
    subst hv
    have hcap : l.length ≤ cap := by
      obtain ⟨A, c, e1, h, _⟩ := hown.form
      simp only [Value.slice.injEq] at e1
      obtain ⟨_, _, rfl⟩ := e1
      exact h
    have hHo := holdsK_of hk h0 hown
    have hsz : l.toArray.size = l.length := by simp
    have hs := AnyQ.slices_SortFunc L k aE zE enc hk h1 cf hO f cb g 0 cap l.toArray w eg (hcmp g _ hg1) hHo hg2 (by rw [hsz]; exact hn)
    rw [hsz] at hs
    refine hs.mono ?_
    rintro ex w1 ⟨rfl, d, n, os, hp, hso, hw⟩
    have hds : d.size = l.length := by rw [hp.1, hsz]
    have hSW : SWK enc k w g 0 d w1 := ⟨n, os, hw⟩
    have hH2 := hSW.holds hg2 hHo (by rw [hds, hsz])
    have hbl : Below H w w1 := by rw [hw]; exact below_sortK hg1 hH
    have hpm : d.toList.Perm l := by
      have := hp.2.2
      rw [← hds] at this
      rw [show d.extract 0 d.size = d by simp, show l.toArray.extract 0 d.size = l.toArray by rw [hds]; simp] at this
      simpa using this
    refine ⟨rfl, some ⟨g, 0, none⟩, cap, d.toList, by simp [hds], by simp [hds]; exact hcap, hpm, ?_, ?_, hbl⟩
    · rw [List.pairwise_iff_getElem]
      intro i j hi hj hij
      have hi' : i < d.size := by simpa using hi
      have hj' : j < d.size := by simpa using hj
      have := hso i j (Nat.zero_le _) hij (by omega)
      rw [getElem!_pos d j hj', getElem!_pos d i hi'] at this
      simpa using this
    · intro _
      refine ⟨g, 0, rfl, Nat.lt_of_lt_of_le hg2 hbl.size, fun i x hx j u hu => ?_⟩
      obtain ⟨hi, hxe⟩ := List.getElem?_eq_some_iff.1 hx
      have hi' : i < d.size := by simpa using hi
      have hc := HoldsK.cells hH2 hk hi' j u (by
        rw [getElem!_pos d i hi']
        rw [← Array.getElem_toList, hxe]; exact hu)
      rw [addr_plain] at hc
      exact hc
end
end Go.Proofs.YtopicpghhpkgbaaDoor
