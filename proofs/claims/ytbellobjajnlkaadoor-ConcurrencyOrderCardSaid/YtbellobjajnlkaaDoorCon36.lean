/-
  Arguments opened with the form's own reach: how long a slice within a slice of structs can be.
-/
import Derived.Test.YtbellobjajnlkaaDoorConSt
import Derived.SizedLaws
namespace Go.Proofs.YtbellobjajnlkaaDoor
open Go.ChangeShapes Go.WideShapes Go.ChangeAt Go.RowKit

section
variable {H : Type} {enc : TypeId × Value → H} {P : Program} {w : World}

theorem weightsAll_mem {e : TypeId} {d : DataW H} {n : Nat} : ∀ {l : List (DataW H)}, d ∈ l → n ∈ d.weights P e → n ∈ DataW.weightsAll P e l
  | d0 :: r, hd, hn => by
    simp only [DataW.weightsAll, List.mem_append]
    rcases List.mem_cons.1 hd with rfl | h
    · exact .inl hn
    · exact .inr (weightsAll_mem h hn)
theorem trod_fieldsW {t : TypeId} {fs : Array Field} {fuel : Nat} {cs : List Value} {x : DataW H × List MemPlace} {base : Nat} {sp : Nat → Bool} {hd : Bool} (ht : P.underlying t = some (.struct fs)) (h : DataW.trod enc P w base sp hd fuel t cs = some x) :
    ∀ (i : Nat) (f : Field), fs[i]? = some f → ∃ n y, DataW.trod enc P w base sp hd n f.type ((cs.drop f.offset).take (P.cellsOf f.type)) = some y ∧ ∀ k ∈ y.1.weights P f.type, k ∈ x.1.weights P t := by
  obtain ⟨xs, n, _, rfl, hl, hxl, hf⟩ := DataW.trod_struct ht h
  intro i f hi
  have hlt : i < xs.length := by rw [hxl]; exact (Array.getElem?_eq_some_iff.1 hi).1
  refine ⟨n, xs[i], by rw [hf i f hi]; exact List.getElem?_eq_getElem hlt, fun k hk => ?_⟩
  show k ∈ DataW.weights P t (.agg (xs.map (·.1)))
  unfold DataW.weights
  rw [ht]
  refine DataW.weights_mem_each (j := i) (t := f.type) (d := xs[i].1) ?_ ?_ k hk
  · rw [List.getElem?_map, Array.getElem?_toList, hi]; rfl
  · rw [List.getElem?_map, List.getElem?_eq_getElem hlt]; rfl
theorem cells_readW {t e : TypeId} {fuel : Nat} {cs : List Value} {x : DataW H × List MemPlace} (ht : P.underlying t = some (.slice e)) (hs : 0 < P.cellsOf e) {R : Nat}
    (h : DataW.trod enc P w 0 (fun _ => true) true fuel t cs = some x) (hR : ∀ n ∈ x.1.weights P t, n ≤ R) :
    ∃ A n c, cs = [.slice A n c] ∧ n ≤ c ∧ c ≤ maxLen ∧ c * P.bytesOf e ≤ R ∧ (0 < n → ∃ g o fuel, A = some ⟨g, o, none⟩ ∧ g < w.heap.size ∧
      ∀ i, i < n → ∃ cs x, cs.length = P.cellsOf e ∧ (∀ j, j < P.cellsOf e → w.cell? ⟨g, o + i * P.cellsOf e + j, none⟩ = cs[j]?) ∧ DataW.trod enc P w 0 (fun _ => true) true fuel e cs = some x ∧ ∀ n ∈ x.1.weights P e, n ≤ R) := by
  rcases Go.Deep.open_slice ht h with ⟨rfl, _⟩ | ⟨a, len, cap, m, k, D, Pl, rfl, _, hl, hm, hmm, rfl, hx⟩
  · exact ⟨none, 0, 0, rfl, Nat.le_refl _, Nat.zero_le _, by rw [Nat.zero_mul]; exact Nat.zero_le _, fun h => absurd h (by omega)⟩
  · simp only [if_true] at hmm
    subst hmm
    have hw : DataW.weights P t (DataW.slice ((List.range len).map D) ((List.range (m - len)).map fun j => D (len + j))) = (((List.range len).map D).length + ((List.range (m - len)).map fun j => D (len + j)).length) * P.bytesOf e :: (DataW.weightsAll P e ((List.range len).map D) ++ DataW.weightsAll P e ((List.range (m - len)).map fun j => D (len + j))) := by
      conv => lhs; unfold DataW.weights
      rw [ht]
    refine ⟨some a, _, _, rfl, hl, hm, ?_, fun hn => ?_⟩
    · have := hR _ (by rw [hw]; exact List.mem_cons_self)
      simp only [List.length_map, List.length_range] at this
      rwa [show len + (m - len) = m by omega] at this
    obtain ⟨cs0, h0, _⟩ := hx 0 (by omega)
    obtain ⟨_, hlen0, hc0⟩ := World.cells?_some h0
    have hz := hc0 0 hs
    rw [List.getElem?_eq_getElem (by omega)] at hz
    have hsp := World.cell?_spot hz
    have hlt := World.block_lt_of_cell? w _ hz
    simp only [Nat.zero_mul, Go.Deep.add_add, Nat.zero_add] at hsp hlt
    simp [Addr.add] at hsp hlt
    obtain ⟨g, o, s⟩ := a
    simp at hsp hlt
    subst hsp
    refine ⟨g, o, k, rfl, hlt, fun i hi => ?_⟩
    obtain ⟨cs', h1, h2⟩ := hx i (by omega)
    obtain ⟨_, hlen, hc⟩ := World.cells?_some h1
    refine ⟨cs', _, hlen, fun j hj => ?_, h2, fun n hn2 => hR n ?_⟩
    · have := hc j hj
      rwa [Go.Deep.add_add, add_plain, ← Nat.add_assoc] at this
    · rw [hw]
      refine List.mem_cons_of_mem _ (List.mem_append_left _ (weightsAll_mem (d := D i) ?_ hn2))
      exact List.mem_map.2 ⟨i, List.mem_range.2 hi, rfl⟩
theorem open_rowsW {α : Type} [Inhabited α] {E : α → List Value} {Q : α → Prop} {k : Nat} (hk : ∀ x : α, (E x).length = k) (h0 : 0 < k) {t e : TypeId} {r : Reach} {b0 : Nat} {v : Value} {d : DataW H} {p : List MemPlace} (ht : P.underlying t = some (.slice e)) (hc : P.cellsOf e = k) {R : Nat}
    (hel : ∀ fuel cs (x : DataW H × List MemPlace), DataW.trod enc P w 0 (fun _ => true) true fuel e cs = some x → (∀ n ∈ x.1.weights P e, n ≤ R) → ∃ y : α, cs = E y ∧ Q y) (hv : Value.okWide P w r b0 t v) (h : DataW.Trod enc P w 0 (fun _ => true) true t v d p) (hR : ∀ n ∈ d.weights P t, n ≤ R) :
    ∃ (A : Option Addr) (l : List α) (c : Nat), v = .slice A l.length c ∧ l.length ≤ c ∧ c ≤ maxLen ∧ Rw E k w w.heap.size A l ∧ ∀ y ∈ l, Q y := by
  obtain ⟨A0, n0, c0, rfl⟩ := okWide_slice ht hv
  obtain ⟨fuel, hf⟩ := h
  obtain ⟨A, n, c, e1, hn, hcm, _, hrd⟩ := cells_readW ht (by omega) hf hR
  simp [Value.cells] at e1
  obtain ⟨rfl, rfl, rfl⟩ := e1
  rw [hc] at hrd
  by_cases hpos : 0 < n0
  · obtain ⟨g, o, fuel, rfl, hg, hx⟩ := hrd hpos
    have hx2 : ∀ i, ∃ y : α, i < n0 → Q y ∧ ∀ j u, (E y)[j]? = some u → w.cell? ⟨g, o + i * k + j, none⟩ = some u := by
      intro i
      by_cases hi : i < n0
      · obtain ⟨cs, x, hl, hcell, htr, hRx⟩ := hx i hi
        obtain ⟨y, e, q⟩ := hel _ _ _ htr hRx
        refine ⟨y, fun _ => ⟨q, fun j u hu => ?_⟩⟩
        rw [hcell j (by rw [← hk y]; exact (List.getElem?_eq_some_iff.1 hu).1), e]
        exact hu
      · exact ⟨default, fun h => absurd h hi⟩
    refine ⟨_, (List.range n0).map fun i => (hx2 i).choose, _, by simp, by simpa using hn, hcm, fun _ => ⟨g, o, rfl, hg, fun i x hxi j u hu => ?_⟩, fun y hy => ?_⟩
    · rw [List.getElem?_map] at hxi
      by_cases hi : i < n0
      · rw [List.getElem?_range hi] at hxi
        simp only [Option.map_some, Option.some.injEq] at hxi
        rw [← hxi] at hu
        exact ((hx2 i).choose_spec hi).2 j u hu
      · rw [List.getElem?_eq_none (by simp; omega)] at hxi
        cases hxi
    · obtain ⟨i, hi, rfl⟩ := List.mem_map.1 hy
      exact ((hx2 i).choose_spec (List.mem_range.1 hi)).1
  · obtain rfl : n0 = 0 := by omega
    exact ⟨_, [], _, rfl, by simp, hcm, Rw.nil, fun _ h => absurd h (by simp)⟩
end
theorem refs_waitW {H : Type} {enc : TypeId × Value → H} {w : World} {R : Nat} (fuel : Nat) (cs : List Value) (x : DataW H × List MemPlace) (h : DataW.trod enc Tryd.prog w 0 (fun _ => true) true fuel 45 cs = some x) (hR : ∀ n ∈ x.1.weights Tryd.prog 45, n ≤ R) : ∃ y : Grp, cs = grpE y ∧ LabGrp w w.heap.size y ∧ y.waitC * 32 ≤ R := by
  obtain ⟨y, rfl, hl⟩ := grpE_of fuel cs x h
  refine ⟨y, rfl, hl, ?_⟩
  obtain ⟨n, z, h3, hz⟩ := trod_fieldsW Tryd.underlying45 h 2 _ rfl
  change DataW.trod _ _ _ _ _ _ _ 33 (List.take (Tryd.prog.cellsOf 33) (List.drop 3 _)) = _ at h3
  rw [show Tryd.prog.cellsOf 33 = 1 by kernel_rfl] at h3
  obtain ⟨A, m, c, e, _, _, hb, _⟩ := cells_readW Tryd.underlying33 (by rw [show Tryd.prog.cellsOf 29 = 2 by kernel_rfl]; omega) h3 (fun n hn => hR n (hz n hn))
  rw [show Tryd.prog.bytesOf 29 = 32 by kernel_rfl] at hb
  simp [grpE] at e
  obtain ⟨-, -, rfl⟩ := e
  exact hb
end Go.Proofs.YtbellobjajnlkaaDoor
