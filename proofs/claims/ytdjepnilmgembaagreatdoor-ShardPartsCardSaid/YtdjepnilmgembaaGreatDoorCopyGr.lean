/-
  Rows of elements of k cells: 'copy' between them, a row written in part, and who owns it after.
  A row with one more element: what else an insertion leaves as it was.
  'copy' into a slice that the call itself has made as long as the source; an append onto a full slice: what lies elsewhere stays.
-/
import Derived.Test.YtdjepnilmgembaaGreatDoorBase1
import Derived.Laws.IdiomCopy
import Derived.Shelf.Spec.SlicesInsert
import Derived.Lib.AppendZerosOnto
import Derived.Maps.AppendAt
import Derived.Maps.Range
import Derived.Maps.RangeWalk
import Derived.ArgAppend

namespace Go.Proofs.YtdjepnilmgembaaGreatDoor
open Go.RowKit
section
variable {P : Program} {α : Type} {enc : α → List Value} {k : Nat}

theorem run_copy_k (w : World) (dT sT ty elem : TypeId) (b o dLen dCap : Nat) (a : Addr) (sLen sCap : Nat) (cs : List Value)
    (hu : P.underlying dT = some (.slice elem)) (hs : (P.info? elem).map (·.size) = some k) (hn : cs.length = Nat.min sLen dLen * k)
    (hsrc : ∀ j v, cs[j]? = some v → w.cell? (a.add j) = some v) (hc : ∀ j, j < cs.length → (w.cell? ⟨b, o + j, none⟩).isSome = true) (hf : ∀ j, j < cs.length → w.frozen? ⟨b, o + j, none⟩ = false) (h1 : ∀ v ∈ cs, v.oneCell' = true) :
    (Builtin.copy_ #[dT, sT] ty #[.slice (some ⟨b, o, none⟩) dLen dCap, .slice (some a) sLen sCap]).run P w = .ok (goInt (Nat.min sLen dLen)) (w.setCells b o cs) := by
  have hl := run_loadCells_list (P := P) w a cs hsrc
  have hst := run_storeCells_cells (P := P) b o cs 0 w (by simpa using hc) (by simpa using hf) h1
  cases hq : P.info? elem with
  | none => simp [hq] at hs
  | some i =>
    have hi : i.size = k := by simpa [hq] using hs
    simp [Builtin.copy_, run_underlying hu, Builtin.lenOf, Builtin.firstCells, sizeOf, typeInfo, hq, hi, ← hn, hl, hst]

theorem setCell_block {w : World} {p : Addr} {v : Value} {g : Nat} {cur : Array Value} {e : TypeId} {fz : Nat × Nat} (h : w.heap[g]? = some (.cells cur e fz)) : ∃ cur', (w.setCell p v).heap[g]? = some (.cells cur' e fz) ∧ cur'.size = cur.size := by
  unfold World.setCell
  rw [Array.getElem?_modify, h]
  by_cases hg : p.block = g
  · rw [if_pos hg]
    refine ⟨if p.spot.isSome then cur else cur.setIfInBounds p.off v, rfl, ?_⟩
    split <;> simp
  · rw [if_neg hg]; exact ⟨cur, rfl, rfl⟩
theorem setCells_block {g b : Nat} {e : TypeId} {fz : Nat × Nat} : ∀ (vs : List Value) (o : Nat) (w : World) (cur : Array Value), w.heap[g]? = some (.cells cur e fz) → ∃ cur', (w.setCells b o vs).heap[g]? = some (.cells cur' e fz) ∧ cur'.size = cur.size
  | [], _, _, cur, h => ⟨cur, h, rfl⟩
  | v :: r, o, w, cur, h => by
    obtain ⟨c1, h1, s1⟩ := setCell_block (p := ⟨b, o, none⟩) (v := v) h
    obtain ⟨c2, h2, s2⟩ := setCells_block r (o + 1) (w.setCell ⟨b, o, none⟩ v) c1 h1
    exact ⟨c2, h2, s2.trans s1⟩
/-- A row whose cells hold a list's is that list's. -/
theorem own_of_cells (hk : ∀ x : α, (enc x).length = k) {w : World} {H g cap : Nat} {cur : Array Value} {e : TypeId} {l : List α} (hH : H ≤ g) (hg : w.heap[g]? = some (.cells cur e (0, 0))) (hs : cur.size = cap * k) (hn : l.length ≤ cap) (hm : cap ≤ maxLen)
    (hc : ∀ t u, (l.flatMap enc)[t]? = some u → w.cell? ⟨g, t, none⟩ = some u) : Own enc k e w H (.slice (some ⟨g, 0, none⟩) l.length cap) l := by
  refine ⟨flat_len hk l, .inr ⟨g, cap, cur, rfl, hH, hg, hn, hm, hs, ?_⟩⟩
  have hle : l.length * k ≤ cur.size := by rw [hs]; exact Nat.mul_le_mul_right k hn
  apply List.ext_getElem?
  intro t
  rw [List.getElem?_take]
  by_cases ht : t < l.length * k
  · rw [if_pos ht]
    obtain ⟨u, hu⟩ : ∃ u, (l.flatMap enc)[t]? = some u := ⟨_, List.getElem?_eq_getElem (by rw [flat_len hk]; exact ht)⟩
    have := hc t u hu
    rw [hu, Array.getElem?_toList, ← this, cell_of_row _ _ _ cur e (0, 0) hg]
  · rw [if_neg ht, List.getElem?_eq_none (by rw [flat_len hk]; omega)]
theorem below_setCells {B : Nat} {a : World} (g : Nat) (hg : B ≤ g) : ∀ (vs : List Value) (o : Nat) (w : World), Below B a w → Below B a (w.setCells g o vs)
  | [], _, _, h => h
  | v :: r, o, w, h => by rw [World.setCells]; exact below_setCells g hg r (o + 1) _ (h.setCell hg v)
/-- The cells of a list with one more. -/
theorem ins_cells (hk : ∀ x : α, (enc x).length = k) {l : List α} {i : Nat} {x : α} (hi : i ≤ l.length) {t : Nat} {u : Value} (h : ((l.take i ++ x :: l.drop i).flatMap enc)[t]? = some u) :
    (t < i * k ∧ (l.flatMap enc)[t]? = some u) ∨ (∃ j, t = i * k + j ∧ (enc x)[j]? = some u) ∨ (∃ j, t = (i + 1) * k + j ∧ ((l.drop i).flatMap enc)[j]? = some u) := by
  rw [List.flatMap_append, List.flatMap_cons] at h
  have hl : ((l.take i).flatMap enc).length = i * k := by rw [flat_len hk, List.length_take, Nat.min_eq_left hi]
  by_cases h1 : t < i * k
  · refine .inl ⟨h1, ?_⟩
    rw [List.getElem?_append_left (by omega)] at h
    have e : l.flatMap enc = (l.take i).flatMap enc ++ (l.drop i).flatMap enc := by rw [← List.flatMap_append, List.take_append_drop]
    rw [e, List.getElem?_append_left (by omega)]
    exact h
  · rw [List.getElem?_append_right (by omega), hl] at h
    by_cases h2 : t - i * k < k
    · rw [List.getElem?_append_left (by rw [hk]; exact h2)] at h
      exact .inr (.inl ⟨_, by omega, h⟩)
    · rw [List.getElem?_append_right (by rw [hk]; omega), hk] at h
      refine .inr (.inr ⟨t - i * k - k, ?_, h⟩)
      rw [Nat.add_mul, Nat.one_mul]; omega
theorem drop_cells (hk : ∀ x : α, (enc x).length = k) {l : List α} {i t : Nat} {u : Value} (h : ((l.drop i).flatMap enc)[t]? = some u) : (l.flatMap enc)[i * k + t]? = some u := by
  obtain ⟨a, b, x, rfl, hx, hb⟩ := flat_get hk h
  rw [List.getElem?_drop] at hx
  have := flat_at hk hx hb
  rw [Nat.add_mul] at this
  rw [← Nat.add_assoc]; exact this
theorem mem_flat_one (h1 : ∀ x : α, ∀ u ∈ enc x, u.oneCell' = true) (l : List α) : ∀ u ∈ l.flatMap enc, u.oneCell' = true := fun u hu => by
  obtain ⟨x, _, hx⟩ := List.mem_flatMap.1 hu
  exact h1 x u hx
theorem own_block {e : TypeId} {w : World} {H g n cap : Nat} {l : List α} (h : Own enc k e w H (.slice (some ⟨g, 0, none⟩) n cap) l) : H ≤ g ∧ l.length ≤ cap ∧ cap ≤ maxLen ∧ ∃ cur, w.heap[g]? = some (.cells cur e (0, 0)) ∧ cur.size = cap * k := by
  rcases h.2 with ⟨e0, _⟩ | ⟨g', cap', cur, e0, hb, hg, hn, hm, hs, _⟩
  · cases e0
  · injection e0 with e1 _ e3
    injection e1 with e1
    injection e1 with e1
    subst e1; subst e3
    exact ⟨hb, hn, hm, cur, hg, hs⟩

/-! ### What a row is after one more is put into it -/
/-- In place. -/
theorem shift_row (hk : ∀ x : α, (enc x).length = k) {e : TypeId} {w : World} {H g cap i : Nat} {l : List α} {x : α} (hown : Own enc k e w H (.slice (some ⟨g, 0, none⟩) l.length cap) l) (hi : i ≤ l.length) (hroom : l.length + 1 ≤ cap) :
    Own enc k e ((w.drew.setCells g ((i + 1) * k) ((l.drop i).flatMap enc)).setCells g (i * k) (enc x)) H (.slice (some ⟨g, 0, none⟩) (l.length + 1) cap) (l.take i ++ x :: l.drop i) ∧
      Below H w ((w.drew.setCells g ((i + 1) * k) ((l.drop i).flatMap enc)).setCells g (i * k) (enc x)) ∧
      (∀ t, t < (l.length + 1) * k → (w.drew.cell? ⟨g, t, none⟩).isSome = true ∧ ((w.drew.setCells g ((i + 1) * k) ((l.drop i).flatMap enc)).cell? ⟨g, t, none⟩).isSome = true) := by
  obtain ⟨hH, _, hm, cur, hg, hs⟩ := own_block hown
  have hcell : ∀ t u, (l.flatMap enc)[t]? = some u → w.cell? ⟨g, t, none⟩ = some u := fun t u hu => by
    have ht := (List.getElem?_eq_some_iff.1 hu).1
    rw [flat_len hk] at ht
    rw [hown.cellAt t ht]; exact hu
  have hsz : (l.length + 1) * k ≤ cur.size := by rw [hs]; exact Nat.mul_le_mul_right k hroom
  have hex : ∀ t, t < (l.length + 1) * k → (w.drew.cell? ⟨g, t, none⟩).isSome = true := fun t ht => by
    rw [cell_of_row w.drew _ _ cur e (0, 0) hg, Array.getElem?_eq_getElem (by omega)]; rfl
  have hdl : ((l.drop i).flatMap enc).length = (l.length - i) * k := by rw [flat_len hk, List.length_drop]
  have hsum : (i + 1) * k + (l.length - i) * k = (l.length + 1) * k := by rw [← Nat.add_mul]; congr 1; omega
  have hik : i * k + k = (i + 1) * k := by rw [Nat.add_mul, Nat.one_mul]
  have hex1 : ∀ t, t < (l.length + 1) * k → ((w.drew.setCells g ((i + 1) * k) ((l.drop i).flatMap enc)).cell? ⟨g, t, none⟩).isSome = true := fun t ht =>
    isSome_setCells g _ _ _ (fun j hj => hex _ (by omega)) t (hex t ht)
  refine ⟨?_, below_setCells g hH _ _ _ (below_setCells g hH _ _ _ ((Below.refl _ _).drew)), fun t ht => ⟨hex t ht, hex1 t ht⟩⟩
  obtain ⟨c1, h1, s1⟩ := setCells_block (b := g) ((l.drop i).flatMap enc) ((i + 1) * k) w.drew cur hg
  obtain ⟨c2, h2, s2⟩ := setCells_block (b := g) (enc x) (i * k) _ c1 h1
  have hlen : (l.take i ++ x :: l.drop i).length = l.length + 1 := by simp; omega
  rw [← hlen]
  refine own_of_cells hk hH h2 (by omega) (by omega) hm ?_
  intro t u hu
  rcases ins_cells hk hi hu with ⟨ht, h⟩ | ⟨j, rfl, h⟩ | ⟨j, rfl, h⟩
  · rw [World.cell?_setCells_out g _ _ _ _ (fun _ _ => .inl (by show t < _; omega)), World.cell?_setCells_out g _ _ _ _ (fun _ _ => .inl (by show t < _; omega))]
    exact hcell t u h
  · have hj := (List.getElem?_eq_some_iff.1 h)
    obtain ⟨hj, he⟩ := hj
    rw [World.cell?_setCells_in g (enc x) (i * k) _ (fun j hj => hex1 _ (by rw [hk] at hj; omega)) j hj, he]
  · obtain ⟨hj, he⟩ := List.getElem?_eq_some_iff.1 h
    rw [World.cell?_setCells_out g _ _ _ _ (fun _ _ => .inr (by rw [hk]; show _ ≤ (i + 1) * k + j; omega)),
      World.cell?_setCells_in g _ ((i + 1) * k) _ (fun j hj => hex _ (by omega)) j hj, he]
/-- In a new row. -/
theorem grow_row (hk : ∀ x : α, (enc x).length = k) {e : TypeId} {w : World} {H G i : Nat} {ROW : Array Value} {l : List α} {x : α} (hH : H ≤ w.heap.size) (hi : i ≤ l.length) (hG : l.length + 1 ≤ G) (hm : G ≤ maxLen) (hs : ROW.size = G * k)
    (hold : ∀ (t : Nat) (u : Value), ((l.take i).flatMap enc)[t]? = some u → ROW[t]? = some u) :
    Own enc k e ((((w.drew.alloc (.cells ROW e)).setCells w.heap.size (i * k) (enc x)).drew).setCells w.heap.size ((i + 1) * k) ((l.drop i).flatMap enc)) H (.slice (some ⟨w.heap.size, 0, none⟩) (l.length + 1) G) (l.take i ++ x :: l.drop i) ∧
      Below H w ((((w.drew.alloc (.cells ROW e)).setCells w.heap.size (i * k) (enc x)).drew).setCells w.heap.size ((i + 1) * k) ((l.drop i).flatMap enc)) ∧
      (∀ t, t < (l.length + 1) * k → ((w.drew.alloc (.cells ROW e)).cell? ⟨w.heap.size, t, none⟩).isSome = true ∧ (((w.drew.alloc (.cells ROW e)).setCells w.heap.size (i * k) (enc x)).drew.cell? ⟨w.heap.size, t, none⟩).isSome = true) := by
  have hg : (w.drew.alloc (.cells ROW e)).heap[w.heap.size]? = some (.cells ROW e (0, 0)) := heap_alloc_new w.drew _
  have hsz : (l.length + 1) * k ≤ ROW.size := by rw [hs]; exact Nat.mul_le_mul_right k hG
  have hex : ∀ t, t < (l.length + 1) * k → ((w.drew.alloc (.cells ROW e)).cell? ⟨w.heap.size, t, none⟩).isSome = true := fun t ht => by
    rw [cell_of_row _ _ _ ROW e (0, 0) hg, Array.getElem?_eq_getElem (by omega)]; rfl
  have hdl : ((l.drop i).flatMap enc).length = (l.length - i) * k := by rw [flat_len hk, List.length_drop]
  have hsum : (i + 1) * k + (l.length - i) * k = (l.length + 1) * k := by rw [← Nat.add_mul]; congr 1; omega
  have hik : i * k + k = (i + 1) * k := by rw [Nat.add_mul, Nat.one_mul]
  have hex1 : ∀ t, t < (l.length + 1) * k → (((w.drew.alloc (.cells ROW e)).setCells w.heap.size (i * k) (enc x)).drew.cell? ⟨w.heap.size, t, none⟩).isSome = true := fun t ht =>
    isSome_setCells w.heap.size _ _ _ (fun j hj => hex _ (by rw [hk] at hj; omega)) t (hex t ht)
  refine ⟨?_, below_setCells _ hH _ _ _ ((below_setCells _ hH _ _ _ (((Below.refl _ _).drew).alloc hH _)).drew), fun t ht => ⟨hex t ht, hex1 t ht⟩⟩
  obtain ⟨c1, h1, s1⟩ := setCells_block (b := w.heap.size) (enc x) (i * k) _ ROW hg
  obtain ⟨c2, h2, s2⟩ := setCells_block (b := w.heap.size) ((l.drop i).flatMap enc) ((i + 1) * k) (((w.drew.alloc (.cells ROW e)).setCells w.heap.size (i * k) (enc x)).drew) c1 h1
  have hlen : (l.take i ++ x :: l.drop i).length = l.length + 1 := by simp; omega
  rw [← hlen]
  refine own_of_cells hk hH h2 (by omega) (by omega) hm ?_
  intro t u hu
  rcases ins_cells hk hi hu with ⟨ht, h⟩ | ⟨j, rfl, h⟩ | ⟨j, rfl, h⟩
  · rw [World.cell?_setCells_out w.heap.size _ _ _ _ (fun _ _ => .inl (by show t < _; omega))]
    show ((w.drew.alloc (.cells ROW e)).setCells w.heap.size (i * k) (enc x)).cell? _ = _
    rw [World.cell?_setCells_out w.heap.size _ _ _ _ (fun _ _ => .inl (by show t < _; omega)), cell_of_row _ _ _ ROW e (0, 0) hg]
    refine hold t u ?_
    have e : l.flatMap enc = (l.take i).flatMap enc ++ (l.drop i).flatMap enc := by rw [← List.flatMap_append, List.take_append_drop]
    rw [e, List.getElem?_append_left (by rw [flat_len hk, List.length_take, Nat.min_eq_left hi]; exact ht)] at h
    exact h
  · obtain ⟨hj, he⟩ := List.getElem?_eq_some_iff.1 h
    have hj' := hj
    rw [hk] at hj'
    rw [World.cell?_setCells_out w.heap.size _ _ _ _ (fun _ _ => .inl (by show i * k + j < _; omega))]
    show ((w.drew.alloc (.cells ROW e)).setCells w.heap.size (i * k) (enc x)).cell? _ = _
    rw [World.cell?_setCells_in w.heap.size (enc x) (i * k) _ (fun j hj => hex _ (by rw [hk] at hj; omega)) j hj, he]
  · obtain ⟨hj, he⟩ := List.getElem?_eq_some_iff.1 h
    rw [World.cell?_setCells_in w.heap.size _ ((i + 1) * k) _ (fun j hj => hex1 _ (by omega)) j hj, he]
/-! ### One element of a row rewritten -/
theorem set_cells (hk : ∀ x : α, (enc x).length = k) {l : List α} {i : Nat} {x : α} {t : Nat} {u : Value} (h : ((l.set i x).flatMap enc)[t]? = some u) :
    (∃ j, t = i * k + j ∧ (enc x)[j]? = some u) ∨ ((t < i * k ∨ i * k + k ≤ t) ∧ (l.flatMap enc)[t]? = some u) := by
  obtain ⟨a, b, y, rfl, hy, hb⟩ := flat_get hk h
  have hbk := (List.getElem?_eq_some_iff.1 hb).1
  rw [hk] at hbk
  rw [List.getElem?_set] at hy
  by_cases e : i = a
  · subst e
    rw [if_pos rfl] at hy
    split at hy
    · obtain rfl : x = y := by simpa using hy
      exact .inl ⟨b, rfl, hb⟩
    · cases hy
  · rw [if_neg e] at hy
    refine .inr ⟨?_, flat_at hk hy hb⟩
    rcases Nat.lt_or_ge a i with h1 | h1
    · left
      have := Nat.mul_le_mul_right k (show a + 1 ≤ i from h1)
      rw [Nat.add_mul, Nat.one_mul] at this
      omega
    · right
      have := Nat.mul_le_mul_right k (show i + 1 ≤ a by omega)
      rw [Nat.add_mul, Nat.one_mul] at this
      omega
theorem set_row (hk : ∀ x : α, (enc x).length = k) {e : TypeId} {w : World} {H g cap i : Nat} {l : List α} {x : α} (hown : Own enc k e w H (.slice (some ⟨g, 0, none⟩) l.length cap) l) (hi : i < l.length) :
    Own enc k e (w.setCells g (i * k) (enc x)) H (.slice (some ⟨g, 0, none⟩) l.length cap) (l.set i x) := by
  obtain ⟨hH, hn, hm, cur, hg, hs⟩ := own_block hown
  obtain ⟨c1, h1, s1⟩ := setCells_block (b := g) (enc x) (i * k) w cur hg
  have hcell : ∀ t u, (l.flatMap enc)[t]? = some u → w.cell? ⟨g, t, none⟩ = some u := fun t u hu => by
    have ht := (List.getElem?_eq_some_iff.1 hu).1
    rw [flat_len hk] at ht
    rw [hown.cellAt t ht]; exact hu
  have hmul := Nat.mul_le_mul_right k (show i + 1 ≤ l.length from hi)
  rw [Nat.add_mul, Nat.one_mul] at hmul
  rw [show (l.length) = (l.set i x).length by simp]
  refine own_of_cells hk hH h1 (by omega) (by simpa using hn) hm ?_
  intro t u hu
  rcases set_cells hk hu with ⟨j, rfl, h⟩ | ⟨ht, h⟩
  · obtain ⟨hj, he⟩ := List.getElem?_eq_some_iff.1 h
    have hj' := hj
    rw [hk] at hj'
    rw [World.cell?_setCells_in g (enc x) (i * k) _ (fun j hj => by
      rw [hk] at hj
      obtain ⟨v, hv⟩ : ∃ v, (l.flatMap enc)[i * k + j]? = some v := ⟨_, List.getElem?_eq_getElem (by rw [flat_len hk]; omega)⟩
      rw [hcell _ _ hv]; rfl) j hj, he]
  · rw [World.cell?_setCells_out g _ _ _ _ (fun _ _ => by show t < _ ∨ _; rw [hk]; omega)]
    exact hcell t u h
theorem set_cell (hk : ∀ x : α, (enc x).length = k) {e : TypeId} {w : World} {H g cap i j : Nat} {l : List α} {x y : α} {u : Value} (hown : Own enc k e w H (.slice (some ⟨g, 0, none⟩) l.length cap) l) (hx : l[i]? = some x) (hj : j < k) (hy : enc y = (enc x).set j u) :
    Own enc k e (w.setCell ⟨g, i * k + j, none⟩ u) H (.slice (some ⟨g, 0, none⟩) l.length cap) (l.set i y) := by
  obtain ⟨hH, hn, hm, cur, hg, hs⟩ := own_block hown
  obtain ⟨c1, h1, s1⟩ := setCell_block (p := ⟨g, i * k + j, none⟩) (v := u) hg
  have hi := (List.getElem?_eq_some_iff.1 hx).1
  have hcell : ∀ t u, (l.flatMap enc)[t]? = some u → w.cell? ⟨g, t, none⟩ = some u := fun t u hu => by
    have ht := (List.getElem?_eq_some_iff.1 hu).1
    rw [flat_len hk] at ht
    rw [hown.cellAt t ht]; exact hu
  rw [show (l.length) = (l.set i y).length by simp]
  refine own_of_cells hk hH h1 (by omega) (by simpa using hn) hm ?_
  intro t v hv
  rcases set_cells hk hv with ⟨a, rfl, h⟩ | ⟨ht, h⟩
  · rw [hy, List.getElem?_set] at h
    by_cases ea : j = a
    · subst ea
      rw [if_pos rfl, if_pos (by rw [hk]; exact hj)] at h
      obtain rfl : u = v := by simpa using h
      obtain ⟨z, hz⟩ : ∃ z, (enc x)[j]? = some z := ⟨_, List.getElem?_eq_getElem (by rw [hk]; exact hj)⟩
      exact World.cell?_setCell_same _ _ _ (hcell _ _ (flat_at hk hx hz))
    · rw [if_neg ea] at h
      rw [World.cell?_setCell_other _ _ _ _ (by simp <;> omega)]
      exact hcell _ _ (flat_at hk hx h)
  · rw [World.cell?_setCell_other _ _ _ _ (by simp <;> omega)]
    exact hcell t v h
end
end Go.Proofs.YtdjepnilmgembaaGreatDoor

namespace Go.Proofs.YtdjepnilmgembaaGreatDoor
open Go.RowKit

theorem drew_cell (w : World) (a : Addr) : w.drew.cell? a = w.cell? a := rfl
theorem drew_frozen (w : World) (a : Addr) : w.drew.frozen? a = w.frozen? a := rfl
theorem grown_setCell (w : World) (b i : Nat) (v : Value) : w.grownBy (w.setCell ⟨b, i, none⟩ v) (some b) :=
  ⟨rfl, rfl, rfl, by simp [World.setCell], fun k _ hk => Below.heap_setCell _ _ _ _ (fun e => hk (by simp [e]))⟩
theorem grown_setCells (g : Nat) : ∀ (vs : List Value) (o : Nat) (w : World), w.grownBy (w.setCells g o vs) (some g)
  | [], _, w => World.grownBy.refl w _
  | v :: r, o, w => by
    rw [World.setCells]
    exact (grown_setCell w g o v).trans (grown_setCells g r (o + 1) _)
theorem grown_shift (w : World) (g i j : Nat) (us vs : List Value) : w.grownBy ((w.drew.setCells g i us).setCells g j vs) (some g) :=
  (show w.grownBy w.drew (some g) from ⟨rfl, rfl, rfl, Nat.le_refl _, fun _ _ _ => rfl⟩).trans ((grown_setCells g us i w.drew).trans (grown_setCells g vs j _))
theorem grown_grow (w : World) (row : Option Nat) (ob : Obj) (i j : Nat) (us vs : List Value) : w.grownBy ((((w.drew.alloc ob).setCells w.heap.size i us).drew).setCells w.heap.size j vs) row := by
  have h0 : w.grownBy (w.drew.alloc ob) none := (show w.grownBy w.drew none from ⟨rfl, rfl, rfl, Nat.le_refl _, fun _ _ _ => rfl⟩).trans (World.grownBy_alloc _ _ _)
  have h1 : (w.drew.alloc ob).grownBy (((w.drew.alloc ob).setCells w.heap.size i us).drew) (some w.heap.size) := (grown_setCells w.heap.size us i _).trans ⟨rfl, rfl, rfl, Nat.le_refl _, fun _ _ _ => rfl⟩
  have h2 := h1.trans (grown_setCells w.heap.size vs j _)
  exact (h0.andThen h2 (fun k hk => .inl (by simp at hk; omega))).but row
end Go.Proofs.YtdjepnilmgembaaGreatDoor

namespace Go.Proofs.YtdjepnilmgembaaGreatDoor
open Go.RowKit
section
variable {P : Program} {α : Type} {enc : α → List Value} {k : Nat}

theorem run_copy_zeroK (w : World) (dT sT ty elem : TypeId) (d a : Option Addr) (dLen dCap sLen sCap : Nat) (hu : P.underlying dT = some (.slice elem)) (hs : (P.info? elem).map (·.size) = some k) (hn : Nat.min sLen dLen = 0) :
    (Builtin.copy_ #[dT, sT] ty #[.slice d dLen dCap, .slice a sLen sCap]).run P w = .ok (goInt 0) w := by
  cases hq : P.info? elem with
  | none => simp [hq] at hs
  | some i =>
    have hl : ∀ (x : Addr), (loadCells x 0).run P w = .ok #[] w := fun x => by simpa using run_loadCells_list (P := P) w x [] (by simp)
    cases d <;> cases a <;> simp [Builtin.copy_, run_underlying hu, Builtin.lenOf, Builtin.firstCells, sizeOf, typeInfo, hq, hn, storeCells, hl]
theorem run_copy_made (hk : ∀ x : α, (enc x).length = k) (h1 : ∀ x : α, ∀ u ∈ enc x, u.oneCell' = true) (w : World) {e : TypeId} {base g n : Nat} {xs : List Value} (hown : w.ownsRow base e k (.slice (some ⟨g, 0, none⟩) n n) n xs) {B : Nat} {A : Option Addr} {c : Nat} {l : List α} (hr : Rw enc k w B A l) (hl : l.length = n)
    (dT sT ty : TypeId) (hu : P.underlying dT = some (.slice e)) (hs : (P.info? e).map (·.size) = some k) :
    ∃ w', (Builtin.copy_ #[dT, sT] ty #[.slice (some ⟨g, 0, none⟩) n n, .slice A n c]).run P w = .ok (goInt (n : Int)) w' ∧ Own enc k e w' base (.slice (some ⟨g, 0, none⟩) n n) l ∧ w.grownBy w' (some g) := by
  subst hl
  rcases hown.2 with ⟨e0, _⟩ | ⟨g', cap, cur, e0, hb, hg, hn, hm, hz, _⟩
  · cases e0
  · simp only [Value.slice.injEq, Option.some.injEq, Addr.mk.injEq, true_and] at e0
    obtain ⟨⟨rfl, _⟩, rfl⟩ := e0
    rcases Nat.eq_zero_or_pos l.length with h0 | h0
    · obtain rfl := List.eq_nil_of_length_eq_zero h0
      exact ⟨w, run_copy_zeroK w dT sT ty e _ _ _ _ _ _ hu hs (by simp), own_of_cells hk hb hg hz (Nat.le_refl _) hm (fun t u hu => by simp at hu), World.grownBy.refl _ _⟩
    · obtain ⟨g0, o0, rfl, _, hc⟩ := hr.flat hk h0
      have hlen := flat_len hk l
      have hcell : ∀ j, j < (l.flatMap enc).length → (w.cell? ⟨g, 0 + j, none⟩).isSome = true := fun j hj => by
        rw [Nat.zero_add, cell_of_row w _ _ cur e (0, 0) hg, Array.getElem?_eq_getElem (by omega)]; rfl
      have hmin : Nat.min l.length l.length = l.length := by simp only [Nat.min_def]; split <;> rfl
      have hrun := run_copy_k (P := P) w dT sT ty e g 0 l.length l.length ⟨g0, o0, none⟩ l.length c (l.flatMap enc) hu hs (by rw [hlen, hmin])
        (fun j v hj => by rw [addr_plain]; exact hc j v hj) hcell (fun j _ => by simp [World.frozen?, hg]) (mem_flat_one h1 l)
      rw [hmin] at hrun
      obtain ⟨c1, hg1, s1⟩ := setCells_block (b := g) (l.flatMap enc) 0 w cur hg
      refine ⟨_, hrun, own_of_cells hk hb hg1 (by omega) (Nat.le_refl _) hm ?_, grown_setCells g _ _ _⟩
      intro t u hu
      obtain ⟨ht, e1⟩ := List.getElem?_eq_some_iff.1 hu
      have := World.cell?_setCells_in g (l.flatMap enc) 0 w hcell t ht
      rw [Nat.zero_add] at this
      rw [this, e1]
theorem wpList_copy_made {w : World} {ops : Array Oper} {rest : List Oper} {o : Oper} {a : Act} {Q : Exit → Act → World → Prop} (hgd : o.guard = none) (d s : Operand) (dT sT : TypeId)
    (ho : o.op = .call { callee := .builtin .copy, args := #[d, s], argTypes := #[dT, sT] })
    (hk : ∀ x : α, (enc x).length = k) (h1 : ∀ x : α, ∀ u ∈ enc x, u.oneCell' = true) (e : TypeId) (hu : P.underlying dT = some (.slice e)) (hs : (P.info? e).map (·.size) = some k)
    (base g n : Nat) (xs : List Value) (hown : w.ownsRow base e k (.slice (some ⟨g, 0, none⟩) n n) n xs) (B : Nat) (A : Option Addr) (c : Nat) (l : List α) (hr : Rw enc k w B A l) (hl : l.length = n)
    (hd : a.eval d = .slice (some ⟨g, 0, none⟩) n n) (hsr : a.eval s = .slice A n c)
    (h : ∀ w', Own enc k e w' base (.slice (some ⟨g, 0, none⟩) n n) l → w.grownBy w' (some g) → wpList P ops Q rest (a.put o.dst (goInt (n : Int))) w') : wpList P ops Q (o :: rest) a w := by
  obtain ⟨w', hrun, h2, h3⟩ := run_copy_made (P := P) hk h1 w hown hr hl dT sT o.type hu hs
  exact wpList_copy_runI w hgd d s dT sT ho _ _ hd hsr hrun (h w' h2 h3)
theorem grown_blk {W W' : World} {row : Option Nat} (hg : W.grownBy W' row) (b : Nat) (hlt : b < W.heap.size) (hne : some b ≠ row) : (∀ o, W'.cell? ⟨b, o, none⟩ = W.cell? ⟨b, o, none⟩) ∧ (∀ o, W'.frozen? ⟨b, o, none⟩ = W.frozen? ⟨b, o, none⟩) :=
  ⟨fun _o => World.cell?_of_block (hg.block b hlt hne), fun _o => World.frozen?_of_block (hg.block b hlt hne)⟩
/-- An append onto a full slice: the list lies in new memory, all else stays. -/
theorem run_append_full (w : World) (hk : ∀ x : α, (enc x).length = k) (h1 : ∀ x : α, ∀ u ∈ enc x, u.oneCell' = true) (t ty e : TypeId) (i : TypeInfo) (z : Value) (bytes : Nat) (ht : P.underlying t = some (.slice e)) (hi : P.info? e = some i) (hz : i.zero = some z)
    (hsize : i.size = k) (hby : i.bytes = bytes) (hzs : z.cells.size = k) (hsz : 0 < k)
    (B : Nat) (A : Option Addr) (l : List α) (hr : Rw enc k w B A l)
    (hA : A = none → l.length = 0) (B' : Nat) (A' : Option Addr) (c : Nat) (ys : List α) (h0 : 0 < ys.length) (hr' : Rw enc k w B' A' ys)
    (h63 : l.length + ys.length ≤ maxLen) (hbytes : (l.length + ys.length) * bytes ≤ 140737488355328) :
    ∃ v' w', (Builtin.append_ #[t, t] ty #[.slice A l.length l.length, .slice A' ys.length c]).run P w = .ok v' w' ∧ Own enc k e w' w.heap.size v' (l ++ ys) ∧ w.grownBy w' none := by
  obtain ⟨g', o', rfl, _, hc'⟩ := hr'.flat hk h0
  have hnews : ∀ j u, (ys.flatMap enc)[j]? = some u → w.cell? ((⟨g', o', none⟩ : Addr).add j) = some u := fun j u hu => by rw [addr_plain]; exact hc' j u hu
  have hget : ∀ v' w', w'.ownsRow w.heap.size e k v' (l.length + ys.length) (l.flatMap enc ++ ys.flatMap enc) → Own enc k e w' w.heap.size v' (l ++ ys) := fun v' w' h2 => by
    unfold Own
    rw [List.length_append, List.flatMap_append]
    exact h2
  cases A with
  | none =>
    have h2 := hA rfl
    obtain rfl := List.eq_nil_of_length_eq_zero h2
    obtain ⟨v', w', hrun, r1, r2, _⟩ := run_append_own (P := P) w w.heap.size t ty e i z k bytes ht hi hz hsize hby hzs hsz (.slice none 0 0) 0 [] (World.ownsRow_nil w _ e k) ⟨g', o', none⟩ ys.length c (ys.flatMap enc) (flat_len hk ys) hnews (mem_flat_one h1 ys) (by simpa using h63) (by simpa using hbytes) (Nat.le_refl _)
    exact ⟨v', w', hrun, hget v' w' (by simpa using r1), r2⟩
  | some b =>
    have holds : ∀ j u, (l.flatMap enc)[j]? = some u → w.cell? (b.add j) = some u := fun j u hu => by
      rcases Nat.eq_zero_or_pos l.length with h | h
      · rw [List.eq_nil_of_length_eq_zero h] at hu; simp at hu
      · obtain ⟨g, oo, e, _, hc⟩ := hr.flat hk h
        simp only [Option.some.injEq] at e
        subst e
        rw [addr_plain]
        exact hc j u hu
    obtain ⟨v', w', hrun, r1, r2⟩ := run_append_arg_grows (P := P) w t ty e i z k bytes ht hi hz hsize hby hzs hsz b l.length l.length (l.flatMap enc) (flat_len hk l) holds ⟨g', o', none⟩ ys.length c (ys.flatMap enc) (flat_len hk ys) hnews (by omega) h63 hbytes
    exact ⟨v', w', hrun, hget v' w' r1, r2⟩
theorem wp_append_full {w : World} {o : Oper} {a : Act} {K : Act → World → Prop} {Q : Exit → Act → World → Prop}
    (s x : Operand) (t : TypeId) (ho : o.op = .call { callee := .builtin .append, args := #[s, x], argTypes := #[t, t] })
    (hk : ∀ x : α, (enc x).length = k) (h1 : ∀ x : α, ∀ u ∈ enc x, u.oneCell' = true) (e : TypeId) (i : TypeInfo) (z : Value) (bytes : Nat) (ht : P.underlying t = some (.slice e)) (hi : P.info? e = some i) (hz : i.zero = some z)
    (hsize : i.size = k) (hby : i.bytes = bytes) (hzs : z.cells.size = k) (hsz : 0 < k)
    (B : Nat) (A : Option Addr) (n : Nat) (l : List α) (hl : l.length = n) (hs : a.eval s = .slice A n n) (hr : Rw enc k w B A l)
    (hA : A = none → n = 0) (B' : Nat) (A' : Option Addr) (m c : Nat) (ys : List α) (hm : ys.length = m) (h0 : 0 < m) (hx : a.eval x = .slice A' m c) (hr' : Rw enc k w B' A' ys)
    (h63 : n + m ≤ maxLen) (hbytes : (n + m) * bytes ≤ 140737488355328)
    (h : ∀ v' w', Own enc k e w' w.heap.size v' (l ++ ys) → w.grownBy w' none → K (a.put o.dst v') w') : o.wp P a w K Q := by
  subst hl hm
  obtain ⟨v', w', hrun, h2, h3⟩ := run_append_full (P := P) w hk h1 t o.type e i z bytes ht hi hz hsize hby hzs hsz B A l hr hA B' A' c ys h0 hr' h63 hbytes
  unfold Oper.wp execOp
  simp only [ho, resolve, invoke, builtin, Sem.run_bind, Sem.run_pure, Result.andThen_ok, List.map_toArray, List.map_cons, List.map_nil, hs, hx, hrun]
  exact h v' w' h2 h3
theorem step_append_full {ops : Array Oper} {o : Oper} {a : Act} {w : World} {K : Act → World → Prop} {Q : Exit → Act → World → Prop} {E : Prop} (hgd : o.guard = none)
    (s x : Operand) (t : TypeId) (ho : o.op = .call { callee := .builtin .append, args := #[s, x], argTypes := #[t, t] })
    (hk : ∀ x : α, (enc x).length = k) (h1 : ∀ x : α, ∀ u ∈ enc x, u.oneCell' = true) (e : TypeId) (i : TypeInfo) (z : Value) (bytes : Nat) (ht : P.underlying t = some (.slice e)) (hi : P.info? e = some i) (hz : i.zero = some z)
    (hsize : i.size = k) (hby : i.bytes = bytes) (hzs : z.cells.size = k) (hsz : 0 < k)
    (B : Nat) (A : Option Addr) (n : Nat) (l : List α) (hl : l.length = n) (hs : a.eval s = .slice A n n) (hr : Rw enc k w B A l)
    (hA : A = none → n = 0) (B' : Nat) (A' : Option Addr) (m c : Nat) (ys : List α) (hm : ys.length = m) (h0 : 0 < m) (hx : a.eval x = .slice A' m c) (hr' : Rw enc k w B' A' ys)
    (h63 : n + m ≤ maxLen) (hbytes : (n + m) * bytes ≤ 140737488355328)
    (h : ∀ v' w', Own enc k e w' w.heap.size v' (l ++ ys) → w.grownBy w' none → K (a.put o.dst v') w') :
    if Region.wanted o (yielded ops a.tmps) = true then Oper.wp P o a w K Q else E := by
  have hw : Region.wanted o (yielded ops a.tmps) = true := by simp [Region.wanted, hgd]
  rw [if_pos hw]
  exact wp_append_full s x t ho hk h1 e i z bytes ht hi hz hsize hby hzs hsz B A n l hl hs hr hA B' A' m c ys hm h0 hx hr' h63 hbytes h
theorem rw_none {w : World} {B : Nat} {l : List α} (hr : Rw enc k w B none l) : l = [] := by
  rcases Nat.eq_zero_or_pos l.length with h0 | h0
  · exact List.eq_nil_of_length_eq_zero h0
  · obtain ⟨g, o, e, _⟩ := hr h0
    cases e
theorem step_append_rw {ops : Array Oper} {o : Oper} {a : Act} {w : World} {K : Act → World → Prop} {Q : Exit → Act → World → Prop} {E : Prop} (hgd : o.guard = none) (s x : Operand) (t : TypeId)
    (ho : o.op = .call { callee := .builtin .append, args := #[s, x], argTypes := #[t, t] })
    (hk : ∀ x : α, (enc x).length = k) (h1 : ∀ x : α, ∀ u ∈ enc x, u.oneCell' = true) (base : Nat) (e : TypeId) (i : TypeInfo) (z : Value) (bytes : Nat) (ht : P.underlying t = some (.slice e)) (hi : P.info? e = some i) (hz : i.zero = some z)
    (hsize : i.size = k) (hby : i.bytes = bytes) (hzs : z.cells.size = k) (hsz : 0 < k)
    (v : Value) (xs : List α) (hs : a.eval s = v) (hown : Own enc k e w base v xs)
    (B : Nat) (A : Option Addr) (m c : Nat) (ys : List α) (hm : ys.length = m) (hx : a.eval x = .slice A m c) (hr : Rw enc k w B A ys)
    (h63 : xs.length + m ≤ maxLen) (hbytes : (xs.length + m) * bytes ≤ 140737488355328) (hbase : base ≤ w.heap.size)
    (h : ∀ v' w', Own enc k e w' base v' (xs ++ ys) → w.grownBy w' v.ownBlock → (v'.ownBlock = v.ownBlock ∨ v'.ownBlock = some w.heap.size) → K (a.put o.dst v') w') :
    if Region.wanted o (yielded ops a.tmps) = true then Oper.wp P o a w K Q else E := by
  have hw : Region.wanted o (yielded ops a.tmps) = true := by simp [Region.wanted, hgd]
  rw [if_pos hw]
  exact wp_append_rw w s x t ho hk h1 base e i z bytes ht hi hz hsize hby hzs hsz v xs hs hown B A m c ys hm hx hr h63 hbytes hbase h
end
end Go.Proofs.YtdjepnilmgembaaGreatDoor
