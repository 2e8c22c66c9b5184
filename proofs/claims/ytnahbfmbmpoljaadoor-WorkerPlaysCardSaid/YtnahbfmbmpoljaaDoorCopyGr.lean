/-
  Rows of elements of k cells: 'copy' between them, a row written in part, and who owns it after.
  A row with one more element: what else an insertion leaves as it was.
-/
import Derived.Test.YtnahbfmbmpoljaaDoorBase1
import Derived.Laws.IdiomCopy
import Derived.Shelf.Spec.SlicesInsert
import Derived.Lib.AppendZerosOnto
import Derived.Maps.AppendAt
import Derived.Maps.Range
import Derived.Maps.RangeWalk

namespace Go.Proofs.YtnahbfmbmpoljaaDoor
open Go.RowKit
section
variable {P : Program} {α : Type} {enc : α → List Value} {k : Nat}

theorem run_copy_k (w : World) (dT sT ty elem : TypeId) (b o dLen dCap : Nat) (a : Addr) (sLen sCap : Nat) (cs : List Value)
    (hu : P.underlying dT = some (.slice elem)) (hs : (P.info? elem).map (·.size) = some k) (hn : cs.length = Nat.min sLen dLen * k)
    (hsrc : ∀ j v, cs[j]? = some v → w.cell? (a.add j) = some v) (hc : ∀ j, j < cs.length → (w.cell? ⟨b, o + j, none⟩).isSome = true) (hf : ∀ j, j < cs.length → w.frozen? ⟨b, o + j, none⟩ = false) (h1 : ∀ v ∈ cs, v.oneCell' = true) :
    (Builtin.copy_ #[dT, sT] ty #[.slice (some ⟨b, o, none⟩) dLen dCap, .slice (some a) sLen sCap]).run P w = .ok (goInt (Nat.min sLen dLen)) (w.setCells b o cs) := by
  have hl := run_loadCells_list (P := P) w a cs hsrc
  have hst := run_storeCells_cells (P := P) b o cs 0 w (by simpa using hc) (by simpa using hf) h1
  cases hq : P.info? elem with
  | none => simp [hq] at hs
  | some i =>
    have hi : i.size = k := by simpa [hq] using hs
    simp [Builtin.copy_, run_underlying hu, Builtin.lenOf, Builtin.firstCells, sizeOf, typeInfo, hq, hi, ← hn, hl, hst]

theorem setCell_block {w : World} {p : Addr} {v : Value} {g : Nat} {cur : Array Value} {e : TypeId} {fz : Nat × Nat} (h : w.heap[g]? = some (.cells cur e fz)) : ∃ cur', (w.setCell p v).heap[g]? = some (.cells cur' e fz) ∧ cur'.size = cur.size := by
  unfold World.setCell
  rw [Array.getElem?_modify, h]
  by_cases hg : p.block = g
  · rw [if_pos hg]
    refine ⟨if p.spot.isSome then cur else cur.setIfInBounds p.off v, rfl, ?_⟩
    split <;> simp
  · rw [if_neg hg]; exact ⟨cur, rfl, rfl⟩
theorem setCells_block {g b : Nat} {e : TypeId} {fz : Nat × Nat} : ∀ (vs : List Value) (o : Nat) (w : World) (cur : Array Value), w.heap[g]? = some (.cells cur e fz) → ∃ cur', (w.setCells b o vs).heap[g]? = some (.cells cur' e fz) ∧ cur'.size = cur.size
  | [], _, _, cur, h => ⟨cur, h, rfl⟩
  | v :: r, o, w, cur, h => by
    obtain ⟨c1, h1, s1⟩ := setCell_block (p := ⟨b, o, none⟩) (v := v) h
    obtain ⟨c2, h2, s2⟩ := setCells_block r (o + 1) (w.setCell ⟨b, o, none⟩ v) c1 h1
    exact ⟨c2, h2, s2.trans s1⟩
/-- A row whose cells hold a list's is that list's. -/
theorem own_of_cells (hk : ∀ x : α, (enc x).length = k) {w : World} {H g cap : Nat} {cur : Array Value} {e : TypeId} {l : List α} (hH : H ≤ g) (hg : w.heap[g]? = some (.cells cur e (0, 0))) (hs : cur.size = cap * k) (hn : l.length ≤ cap) (hm : cap ≤ maxLen)
    (hc : ∀ t u, (l.flatMap enc)[t]? = some u → w.cell? ⟨g, t, none⟩ = some u) : Own enc k e w H (.slice (some ⟨g, 0, none⟩) l.length cap) l := by
  refine ⟨flat_len hk l, .inr ⟨g, cap, cur, rfl, hH, hg, hn, hm, hs, ?_⟩⟩
  have hle : l.length * k ≤ cur.size := by rw [hs]; exact Nat.mul_le_mul_right k hn
  apply List.ext_getElem?
  intro t
  rw [List.getElem?_take]
  by_cases ht : t < l.length * k
  · rw [if_pos ht]
    obtain ⟨u, hu⟩ : ∃ u, (l.flatMap enc)[t]? = some u := ⟨_, List.getElem?_eq_getElem (by rw [flat_len hk]; exact ht)⟩
    have := hc t u hu
    rw [hu, Array.getElem?_toList, ← this, cell_of_row _ _ _ cur e (0, 0) hg]
  · rw [if_neg ht, List.getElem?_eq_none (by rw [flat_len hk]; omega)]
theorem below_setCells {B : Nat} {a : World} (g : Nat) (hg : B ≤ g) : ∀ (vs : List Value) (o : Nat) (w : World), Below B a w → Below B a (w.setCells g o vs)
  | [], _, _, h => h
  | v :: r, o, w, h => by rw [World.setCells]; exact below_setCells g hg r (o + 1) _ (h.setCell hg v)
/-- The cells of a list with one more. -/
theorem ins_cells (hk : ∀ x : α, (enc x).length = k) {l : List α} {i : Nat} {x : α} (hi : i ≤ l.length) {t : Nat} {u : Value} (h : ((l.take i ++ x :: l.drop i).flatMap enc)[t]? = some u) :
    (t < i * k ∧ (l.flatMap enc)[t]? = some u) ∨ (∃ j, t = i * k + j ∧ (enc x)[j]? = some u) ∨ (∃ j, t = (i + 1) * k + j ∧ ((l.drop i).flatMap enc)[j]? = some u) := by
  rw [List.flatMap_append, List.flatMap_cons] at h
  have hl : ((l.take i).flatMap enc).length = i * k := by rw [flat_len hk, List.length_take, Nat.min_eq_left hi]
  by_cases h1 : t < i * k
  · refine .inl ⟨h1, ?_⟩
    rw [List.getElem?_append_left (by omega)] at h
    have e : l.flatMap enc = (l.take i).flatMap enc ++ (l.drop i).flatMap enc := by rw [← List.flatMap_append, List.take_append_drop]
    rw [e, List.getElem?_append_left (by omega)]
    exact h
  · rw [List.getElem?_append_right (by omega), hl] at h
    by_cases h2 : t - i * k < k
    · rw [List.getElem?_append_left (by rw [hk]; exact h2)] at h
      exact .inr (.inl ⟨_, by omega, h⟩)
    · rw [List.getElem?_append_right (by rw [hk]; omega), hk] at h
      refine .inr (.inr ⟨t - i * k - k, ?_, h⟩)
      rw [Nat.add_mul, Nat.one_mul]; omega
theorem drop_cells (hk : ∀ x : α, (enc x).length = k) {l : List α} {i t : Nat} {u : Value} (h : ((l.drop i).flatMap enc)[t]? = some u) : (l.flatMap enc)[i * k + t]? = some u := by
  obtain ⟨a, b, x, rfl, hx, hb⟩ := flat_get hk h
  rw [List.getElem?_drop] at hx
  have := flat_at hk hx hb
  rw [Nat.add_mul] at this
  rw [← Nat.add_assoc]; exact this
theorem mem_flat_one (h1 : ∀ x : α, ∀ u ∈ enc x, u.oneCell' = true) (l : List α) : ∀ u ∈ l.flatMap enc, u.oneCell' = true := fun u hu => by
  obtain ⟨x, _, hx⟩ := List.mem_flatMap.1 hu
  exact h1 x u hx
theorem own_block {e : TypeId} {w : World} {H g n cap : Nat} {l : List α} (h : Own enc k e w H (.slice (some ⟨g, 0, none⟩) n cap) l) : H ≤ g ∧ l.length ≤ cap ∧ cap ≤ maxLen ∧ ∃ cur, w.heap[g]? = some (.cells cur e (0, 0)) ∧ cur.size = cap * k := by
  rcases h.2 with ⟨e0, _⟩ | ⟨g', cap', cur, e0, hb, hg, hn, hm, hs, _⟩
  · cases e0
  · injection e0 with e1 _ e3
    injection e1 with e1
    injection e1 with e1
    subst e1; subst e3
    exact ⟨hb, hn, hm, cur, hg, hs⟩

/-! ### What a row is after one more is put into it -/
/-- In place. -/
theorem shift_row (hk : ∀ x : α, (enc x).length = k) {e : TypeId} {w : World} {H g cap i : Nat} {l : List α} {x : α} (hown : Own enc k e w H (.slice (some ⟨g, 0, none⟩) l.length cap) l) (hi : i ≤ l.length) (hroom : l.length + 1 ≤ cap) :
    Own enc k e ((w.drew.setCells g ((i + 1) * k) ((l.drop i).flatMap enc)).setCells g (i * k) (enc x)) H (.slice (some ⟨g, 0, none⟩) (l.length + 1) cap) (l.take i ++ x :: l.drop i) ∧
      Below H w ((w.drew.setCells g ((i + 1) * k) ((l.drop i).flatMap enc)).setCells g (i * k) (enc x)) ∧
      (∀ t, t < (l.length + 1) * k → (w.drew.cell? ⟨g, t, none⟩).isSome = true ∧ ((w.drew.setCells g ((i + 1) * k) ((l.drop i).flatMap enc)).cell? ⟨g, t, none⟩).isSome = true) := by
  obtain ⟨hH, _, hm, cur, hg, hs⟩ := own_block hown
  have hcell : ∀ t u, (l.flatMap enc)[t]? = some u → w.cell? ⟨g, t, none⟩ = some u := fun t u hu => by
    have ht := (List.getElem?_eq_some_iff.1 hu).1
    rw [flat_len hk] at ht
    rw [hown.cellAt t ht]; exact hu
  have hsz : (l.length + 1) * k ≤ cur.size := by rw [hs]; exact Nat.mul_le_mul_right k hroom
  have hex : ∀ t, t < (l.length + 1) * k → (w.drew.cell? ⟨g, t, none⟩).isSome = true := fun t ht => by
    rw [cell_of_row w.drew _ _ cur e (0, 0) hg, Array.getElem?_eq_getElem (by omega)]; rfl
  have hdl : ((l.drop i).flatMap enc).length = (l.length - i) * k := by rw [flat_len hk, List.length_drop]
  have hsum : (i + 1) * k + (l.length - i) * k = (l.length + 1) * k := by rw [← Nat.add_mul]; congr 1; omega
  have hik : i * k + k = (i + 1) * k := by rw [Nat.add_mul, Nat.one_mul]
  have hex1 : ∀ t, t < (l.length + 1) * k → ((w.drew.setCells g ((i + 1) * k) ((l.drop i).flatMap enc)).cell? ⟨g, t, none⟩).isSome = true := fun t ht =>
    isSome_setCells g _ _ _ (fun j hj => hex _ (by omega)) t (hex t ht)
  refine ⟨?_, below_setCells g hH _ _ _ (below_setCells g hH _ _ _ ((Below.refl _ _).drew)), fun t ht => ⟨hex t ht, hex1 t ht⟩⟩
  obtain ⟨c1, h1, s1⟩ := setCells_block (b := g) ((l.drop i).flatMap enc) ((i + 1) * k) w.drew cur hg
  obtain ⟨c2, h2, s2⟩ := setCells_block (b := g) (enc x) (i * k) _ c1 h1
  have hlen : (l.take i ++ x :: l.drop i).length = l.length + 1 := by simp; omega
  rw [← hlen]
  refine own_of_cells hk hH h2 (by omega) (by omega) hm ?_
  intro t u hu
  rcases ins_cells hk hi hu with ⟨ht, h⟩ | ⟨j, rfl, h⟩ | ⟨j, rfl, h⟩
  · rw [World.cell?_setCells_out g _ _ _ _ (fun _ _ => .inl (by show t < _; omega)), World.cell?_setCells_out g _ _ _ _ (fun _ _ => .inl (by show t < _; omega))]
    exact hcell t u h
  · have hj := (List.getElem?_eq_some_iff.1 h)
    obtain ⟨hj, he⟩ := hj
    rw [World.cell?_setCells_in g (enc x) (i * k) _ (fun j hj => hex1 _ (by rw [hk] at hj; omega)) j hj, he]
  · obtain ⟨hj, he⟩ := List.getElem?_eq_some_iff.1 h
    rw [World.cell?_setCells_out g _ _ _ _ (fun _ _ => .inr (by rw [hk]; show _ ≤ (i + 1) * k + j; omega)),
      World.cell?_setCells_in g _ ((i + 1) * k) _ (fun j hj => hex _ (by omega)) j hj, he]
/-- In a new row. -/
theorem grow_row (hk : ∀ x : α, (enc x).length = k) {e : TypeId} {w : World} {H G i : Nat} {ROW : Array Value} {l : List α} {x : α} (hH : H ≤ w.heap.size) (hi : i ≤ l.length) (hG : l.length + 1 ≤ G) (hm : G ≤ maxLen) (hs : ROW.size = G * k)
    (hold : ∀ (t : Nat) (u : Value), ((l.take i).flatMap enc)[t]? = some u → ROW[t]? = some u) :
    Own enc k e ((((w.drew.alloc (.cells ROW e)).setCells w.heap.size (i * k) (enc x)).drew).setCells w.heap.size ((i + 1) * k) ((l.drop i).flatMap enc)) H (.slice (some ⟨w.heap.size, 0, none⟩) (l.length + 1) G) (l.take i ++ x :: l.drop i) ∧
      Below H w ((((w.drew.alloc (.cells ROW e)).setCells w.heap.size (i * k) (enc x)).drew).setCells w.heap.size ((i + 1) * k) ((l.drop i).flatMap enc)) ∧
      (∀ t, t < (l.length + 1) * k → ((w.drew.alloc (.cells ROW e)).cell? ⟨w.heap.size, t, none⟩).isSome = true ∧ (((w.drew.alloc (.cells ROW e)).setCells w.heap.size (i * k) (enc x)).drew.cell? ⟨w.heap.size, t, none⟩).isSome = true) := by
  have hg : (w.drew.alloc (.cells ROW e)).heap[w.heap.size]? = some (.cells ROW e (0, 0)) := heap_alloc_new w.drew _
  have hsz : (l.length + 1) * k ≤ ROW.size := by rw [hs]; exact Nat.mul_le_mul_right k hG
  have hex : ∀ t, t < (l.length + 1) * k → ((w.drew.alloc (.cells ROW e)).cell? ⟨w.heap.size, t, none⟩).isSome = true := fun t ht => by
    rw [cell_of_row _ _ _ ROW e (0, 0) hg, Array.getElem?_eq_getElem (by omega)]; rfl
  have hdl : ((l.drop i).flatMap enc).length = (l.length - i) * k := by rw [flat_len hk, List.length_drop]
  have hsum : (i + 1) * k + (l.length - i) * k = (l.length + 1) * k := by rw [← Nat.add_mul]; congr 1; omega
  have hik : i * k + k = (i + 1) * k := by rw [Nat.add_mul, Nat.one_mul]
  have hex1 : ∀ t, t < (l.length + 1) * k → (((w.drew.alloc (.cells ROW e)).setCells w.heap.size (i * k) (enc x)).drew.cell? ⟨w.heap.size, t, none⟩).isSome = true := fun t ht =>
    isSome_setCells w.heap.size _ _ _ (fun j hj => hex _ (by rw [hk] at hj; omega)) t (hex t ht)
  refine ⟨?_, below_setCells _ hH _ _ _ ((below_setCells _ hH _ _ _ (((Below.refl _ _).drew).alloc hH _)).drew), fun t ht => ⟨hex t ht, hex1 t ht⟩⟩
  obtain ⟨c1, h1, s1⟩ := setCells_block (b := w.heap.size) (enc x) (i * k) _ ROW hg
  obtain ⟨c2, h2, s2⟩ := setCells_block (b := w.heap.size) ((l.drop i).flatMap enc) ((i + 1) * k) (((w.drew.alloc (.cells ROW e)).setCells w.heap.size (i * k) (enc x)).drew) c1 h1
  have hlen : (l.take i ++ x :: l.drop i).length = l.length + 1 := by simp; omega
  rw [← hlen]
  refine own_of_cells hk hH h2 (by omega) (by omega) hm ?_
  intro t u hu
  rcases ins_cells hk hi hu with ⟨ht, h⟩ | ⟨j, rfl, h⟩ | ⟨j, rfl, h⟩
  · rw [World.cell?_setCells_out w.heap.size _ _ _ _ (fun _ _ => .inl (by show t < _; omega))]
    show ((w.drew.alloc (.cells ROW e)).setCells w.heap.size (i * k) (enc x)).cell? _ = _
    rw [World.cell?_setCells_out w.heap.size _ _ _ _ (fun _ _ => .inl (by show t < _; omega)), cell_of_row _ _ _ ROW e (0, 0) hg]
    refine hold t u ?_
    have e : l.flatMap enc = (l.take i).flatMap enc ++ (l.drop i).flatMap enc := by rw [← List.flatMap_append, List.take_append_drop]
    rw [e, List.getElem?_append_left (by rw [flat_len hk, List.length_take, Nat.min_eq_left hi]; exact ht)] at h
    exact h
  · obtain ⟨hj, he⟩ := List.getElem?_eq_some_iff.1 h
    have hj' := hj
    rw [hk] at hj'
    rw [World.cell?_setCells_out w.heap.size _ _ _ _ (fun _ _ => .inl (by show i * k + j < _; omega))]
    show ((w.drew.alloc (.cells ROW e)).setCells w.heap.size (i * k) (enc x)).cell? _ = _
    rw [World.cell?_setCells_in w.heap.size (enc x) (i * k) _ (fun j hj => hex _ (by rw [hk] at hj; omega)) j hj, he]
  · obtain ⟨hj, he⟩ := List.getElem?_eq_some_iff.1 h
    rw [World.cell?_setCells_in w.heap.size _ ((i + 1) * k) _ (fun j hj => hex1 _ (by omega)) j hj, he]
/-! ### One element of a row rewritten -/
theorem set_cells (hk : ∀ x : α, (enc x).length = k) {l : List α} {i : Nat} {x : α} {t : Nat} {u : Value} (h : ((l.set i x).flatMap enc)[t]? = some u) :
    (∃ j, t = i * k + j ∧ (enc x)[j]? = some u) ∨ ((t < i * k ∨ i * k + k ≤ t) ∧ (l.flatMap enc)[t]? = some u) := by
  obtain ⟨a, b, y, rfl, hy, hb⟩ := flat_get hk h
  have hbk := (List.getElem?_eq_some_iff.1 hb).1
  rw [hk] at hbk
  rw [List.getElem?_set] at hy
  by_cases e : i = a
  · subst e
    rw [if_pos rfl] at hy
    split at hy
    · obtain rfl : x = y := by simpa using hy
      exact .inl ⟨b, rfl, hb⟩
    · cases hy
  · rw [if_neg e] at hy
    refine .inr ⟨?_, flat_at hk hy hb⟩
    rcases Nat.lt_or_ge a i with h1 | h1
    · left
      have := Nat.mul_le_mul_right k (show a + 1 ≤ i from h1)
      rw [Nat.add_mul, Nat.one_mul] at this
      omega
    · right
      have := Nat.mul_le_mul_right k (show i + 1 ≤ a by omega)
      rw [Nat.add_mul, Nat.one_mul] at this
      omega
theorem set_row (hk : ∀ x : α, (enc x).length = k) {e : TypeId} {w : World} {H g cap i : Nat} {l : List α} {x : α} (hown : Own enc k e w H (.slice (some ⟨g, 0, none⟩) l.length cap) l) (hi : i < l.length) :
    Own enc k e (w.setCells g (i * k) (enc x)) H (.slice (some ⟨g, 0, none⟩) l.length cap) (l.set i x) := by
  obtain ⟨hH, hn, hm, cur, hg, hs⟩ := own_block hown
  obtain ⟨c1, h1, s1⟩ := setCells_block (b := g) (enc x) (i * k) w cur hg
  have hcell : ∀ t u, (l.flatMap enc)[t]? = some u → w.cell? ⟨g, t, none⟩ = some u := fun t u hu => by
    have ht := (List.getElem?_eq_some_iff.1 hu).1
    rw [flat_len hk] at ht
    rw [hown.cellAt t ht]; exact hu
  have hmul := Nat.mul_le_mul_right k (show i + 1 ≤ l.length from hi)
  rw [Nat.add_mul, Nat.one_mul] at hmul
  rw [show (l.length) = (l.set i x).length by simp]
  refine own_of_cells hk hH h1 (by omega) (by simpa using hn) hm ?_
  intro t u hu
  rcases set_cells hk hu with ⟨j, rfl, h⟩ | ⟨ht, h⟩
  · obtain ⟨hj, he⟩ := List.getElem?_eq_some_iff.1 h
    have hj' := hj
    rw [hk] at hj'
    rw [World.cell?_setCells_in g (enc x) (i * k) _ (fun j hj => by
      rw [hk] at hj
      obtain ⟨v, hv⟩ : ∃ v, (l.flatMap enc)[i * k + j]? = some v := ⟨_, List.getElem?_eq_getElem (by rw [flat_len hk]; omega)⟩
      rw [hcell _ _ hv]; rfl) j hj, he]
  · rw [World.cell?_setCells_out g _ _ _ _ (fun _ _ => by show t < _ ∨ _; rw [hk]; omega)]
    exact hcell t u h
theorem set_cell (hk : ∀ x : α, (enc x).length = k) {e : TypeId} {w : World} {H g cap i j : Nat} {l : List α} {x y : α} {u : Value} (hown : Own enc k e w H (.slice (some ⟨g, 0, none⟩) l.length cap) l) (hx : l[i]? = some x) (hj : j < k) (hy : enc y = (enc x).set j u) :
    Own enc k e (w.setCell ⟨g, i * k + j, none⟩ u) H (.slice (some ⟨g, 0, none⟩) l.length cap) (l.set i y) := by
  obtain ⟨hH, hn, hm, cur, hg, hs⟩ := own_block hown
  obtain ⟨c1, h1, s1⟩ := setCell_block (p := ⟨g, i * k + j, none⟩) (v := u) hg
  have hi := (List.getElem?_eq_some_iff.1 hx).1
  have hcell : ∀ t u, (l.flatMap enc)[t]? = some u → w.cell? ⟨g, t, none⟩ = some u := fun t u hu => by
    have ht := (List.getElem?_eq_some_iff.1 hu).1
    rw [flat_len hk] at ht
    rw [hown.cellAt t ht]; exact hu
  rw [show (l.length) = (l.set i y).length by simp]
  refine own_of_cells hk hH h1 (by omega) (by simpa using hn) hm ?_
  intro t v hv
  rcases set_cells hk hv with ⟨a, rfl, h⟩ | ⟨ht, h⟩
  · rw [hy, List.getElem?_set] at h
    by_cases ea : j = a
    · subst ea
      rw [if_pos rfl, if_pos (by rw [hk]; exact hj)] at h
      obtain rfl : u = v := by simpa using h
      obtain ⟨z, hz⟩ : ∃ z, (enc x)[j]? = some z := ⟨_, List.getElem?_eq_getElem (by rw [hk]; exact hj)⟩
      exact World.cell?_setCell_same _ _ _ (hcell _ _ (flat_at hk hx hz))
    · rw [if_neg ea] at h
      rw [World.cell?_setCell_other _ _ _ _ (by simp <;> omega)]
      exact hcell _ _ (flat_at hk hx h)
  · rw [World.cell?_setCell_other _ _ _ _ (by simp <;> omega)]
    exact hcell t v h
end
end Go.Proofs.YtnahbfmbmpoljaaDoor

namespace Go.Proofs.YtnahbfmbmpoljaaDoor
open Go.RowKit

theorem drew_cell (w : World) (a : Addr) : w.drew.cell? a = w.cell? a := rfl
theorem drew_frozen (w : World) (a : Addr) : w.drew.frozen? a = w.frozen? a := rfl
theorem grown_setCell (w : World) (b i : Nat) (v : Value) : w.grownBy (w.setCell ⟨b, i, none⟩ v) (some b) :=
  ⟨rfl, rfl, rfl, by simp [World.setCell], fun k _ hk => Below.heap_setCell _ _ _ _ (fun e => hk (by simp [e]))⟩
theorem grown_setCells (g : Nat) : ∀ (vs : List Value) (o : Nat) (w : World), w.grownBy (w.setCells g o vs) (some g)
  | [], _, w => World.grownBy.refl w _
  | v :: r, o, w => by
    rw [World.setCells]
    exact (grown_setCell w g o v).trans (grown_setCells g r (o + 1) _)
theorem grown_shift (w : World) (g i j : Nat) (us vs : List Value) : w.grownBy ((w.drew.setCells g i us).setCells g j vs) (some g) :=
  (show w.grownBy w.drew (some g) from ⟨rfl, rfl, rfl, Nat.le_refl _, fun _ _ _ => rfl⟩).trans ((grown_setCells g us i w.drew).trans (grown_setCells g vs j _))
theorem grown_grow (w : World) (row : Option Nat) (ob : Obj) (i j : Nat) (us vs : List Value) : w.grownBy ((((w.drew.alloc ob).setCells w.heap.size i us).drew).setCells w.heap.size j vs) row := by
  have h0 : w.grownBy (w.drew.alloc ob) none := (show w.grownBy w.drew none from ⟨rfl, rfl, rfl, Nat.le_refl _, fun _ _ _ => rfl⟩).trans (World.grownBy_alloc _ _ _)
  have h1 : (w.drew.alloc ob).grownBy (((w.drew.alloc ob).setCells w.heap.size i us).drew) (some w.heap.size) := (grown_setCells w.heap.size us i _).trans ⟨rfl, rfl, rfl, Nat.le_refl _, fun _ _ _ => rfl⟩
  have h2 := h1.trans (grown_setCells w.heap.size vs j _)
  exact (h0.andThen h2 (fun k hk => .inl (by simp at hk; omega))).but row
end Go.Proofs.YtnahbfmbmpoljaaDoor
