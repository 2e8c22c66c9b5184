/-
  Words for slices whose elements are read as values of a type: 'Rw': a slice that reads as a list, below a block; 'Own': a slice of the call's own that holds a list; an append of the one onto the other.
-/
import Derived.Below
import Derived.Laws.OwnMore
import Derived.Maps.AppendAt
import Derived.Deep.AppendLies
import Derived.Deep.Draws
import Derived.Tactics
import Derived.OwnWalk
namespace Go.Proofs.YtnahbfmbmpoljaaGreatDoor
open Go.RowKit

section
variable {α : Type} {enc : α → List Value} {k : Nat} {w w' : World} {B B' : Nat} {A : Option Addr} {l : List α}

/-- The slice at A reads as l: element i's cells from place i * k on; its block lies below block B. -/
def Rw (enc : α → List Value) (k : Nat) (w : World) (B : Nat) (A : Option Addr) (l : List α) : Prop :=
  0 < l.length → ∃ g o, A = some ⟨g, o, none⟩ ∧ g < B ∧ ∀ i x, l[i]? = some x → ∀ j u, (enc x)[j]? = some u → w.cell? ⟨g, o + i * k + j, none⟩ = some u

theorem Rw.nil : Rw enc k w B A [] := fun h => absurd h (by simp)
theorem Rw.keep (h : Rw enc k w B A l) (hk : ∀ p : Addr, p.block < B → w'.cell? p = w.cell? p) : Rw enc k w' B A l := fun hn => by
  obtain ⟨g, o, e, hb, hc⟩ := h hn
  exact ⟨g, o, e, hb, fun i x hx j u hu => (hk _ hb).trans (hc i x hx j u hu)⟩
theorem Rw.more (h : Rw enc k w B A l) (hB : B ≤ B') : Rw enc k w B' A l := fun hn => by
  obtain ⟨g, o, e, hb, hc⟩ := h hn
  exact ⟨g, o, e, by omega, hc⟩
theorem Rw.below (h : Rw enc k w B A l) {C : Nat} (hb : Below C w w') (hB : B ≤ C) : Rw enc k w' B A l := h.keep fun _ hp => hb.cell (by omega)
theorem Rw.drew (h : Rw enc k w B A l) : Rw enc k w.drew B A l := h
theorem Rw.drewN (h : Rw enc k w B A l) (n : Nat) : Rw enc k (w.drewN n) B A l := h
theorem Rw.alloc (h : Rw enc k w B A l) (hB : B ≤ w.heap.size) (o : Obj) : Rw enc k (w.alloc o) B A l := h.keep fun p hp => World.cell?_alloc_lt w o p (by omega)
theorem Rw.setCell (h : Rw enc k w B A l) {p : Addr} (hB : B ≤ p.block) (u : Value) : Rw enc k (w.setCell p u) B A l :=
  h.keep fun q hq => World.cell?_setCell_other w p q u (fun e => by subst e; omega)
theorem Rw.grown (h : Rw enc k w B A l) {row : Option Nat} (hg : w.grownBy w' row) (hB : B ≤ w.heap.size) (hr : ∀ g, row = some g → B ≤ g) : Rw enc k w' B A l :=
  h.keep fun p hp => World.cell?_of_block (hg.block p.block (by omega) (fun e => by have := hr _ e.symm; omega))

/-- The cells, one behind the other. -/
theorem flat_get (hk : ∀ x : α, (enc x).length = k) : ∀ {l : List α} {t : Nat} {u : Value}, (l.flatMap enc)[t]? = some u → ∃ i j x, t = i * k + j ∧ l[i]? = some x ∧ (enc x)[j]? = some u
  | [], _, _, h => by simp at h
  | x :: l, t, u, h => by
    rw [List.flatMap_cons] at h
    by_cases ht : t < (enc x).length
    · rw [List.getElem?_append_left ht] at h
      exact ⟨0, t, x, by omega, rfl, h⟩
    · rw [List.getElem?_append_right (by omega)] at h
      obtain ⟨i, j, y, e, hy, hu⟩ := flat_get hk h
      rw [hk x] at e ht
      exact ⟨i + 1, j, y, by rw [Nat.add_mul]; omega, by simpa using hy, hu⟩
theorem flat_at (hk : ∀ x : α, (enc x).length = k) : ∀ {l : List α} {i j : Nat} {x : α} {u : Value}, l[i]? = some x → (enc x)[j]? = some u → (l.flatMap enc)[i * k + j]? = some u
  | [], _, _, _, _, h, _ => by simp at h
  | y :: l, 0, j, x, u, h, hu => by
    obtain rfl : y = x := by simpa using h
    rw [List.flatMap_cons, Nat.zero_mul, Nat.zero_add, List.getElem?_append_left (List.getElem?_eq_some_iff.1 hu).1]
    exact hu
  | y :: l, i + 1, j, x, u, h, hu => by
    rw [List.flatMap_cons, List.getElem?_append_right (by rw [hk y, Nat.add_mul]; omega), hk y]
    have e : (i + 1) * k + j - k = i * k + j := by rw [Nat.add_mul]; omega
    rw [e]
    exact flat_at hk (by simpa using h) hu
theorem flat_len (hk : ∀ x : α, (enc x).length = k) : ∀ (l : List α), (l.flatMap enc).length = l.length * k
  | [] => by simp
  | x :: l => by rw [List.flatMap_cons, List.length_append, flat_len hk l, hk x, List.length_cons, Nat.add_mul]; omega

theorem Rw.flat (hk : ∀ x : α, (enc x).length = k) (h : Rw enc k w B A l) (hn : 0 < l.length) : ∃ g o, A = some ⟨g, o, none⟩ ∧ g < B ∧ ∀ t u, (l.flatMap enc)[t]? = some u → w.cell? ⟨g, o + t, none⟩ = some u := by
  obtain ⟨g, o, e, hb, hc⟩ := h hn
  refine ⟨g, o, e, hb, fun t u hu => ?_⟩
  obtain ⟨i, j, x, rfl, hx, hj⟩ := flat_get hk hu
  rw [← Nat.add_assoc]
  exact hc i x hx j u hj

/-- A cut s[a:b]. -/
theorem Rw.cut {g0 o0 : Nat} (h : Rw enc k w B (some ⟨g0, o0, none⟩) l) {a b : Nat} : Rw enc k w B (some ⟨g0, o0 + a * k, none⟩) ((l.take b).drop a) := fun hn => by
  obtain ⟨g, o, e, hb, hc⟩ := h (by rw [List.length_drop, List.length_take] at hn; omega)
  simp only [Option.some.injEq, Addr.mk.injEq, and_true] at e
  obtain ⟨rfl, rfl⟩ := e
  refine ⟨_, _, rfl, hb, fun i x hx j u hu => ?_⟩
  rw [List.getElem?_drop] at hx
  have hab : a + i < b := by
    rcases Nat.lt_or_ge (a + i) b with hlt | hge
    · exact hlt
    · rw [List.getElem?_take_eq_none hge] at hx; cases hx
  rw [List.getElem?_take_of_lt hab] at hx
  have := hc (a + i) x hx j u hu
  rw [Nat.add_mul] at this
  rw [show o0 + a * k + i * k + j = o0 + (a * k + i * k) + j by omega]
  exact this

/-- A cut s[:b]. -/
theorem Rw.take (h : Rw enc k w B A l) {b : Nat} : Rw enc k w B A (l.take b) := fun hn => by
  obtain ⟨g, o, e, hb, hc⟩ := h (by rw [List.length_take] at hn; omega)
  refine ⟨g, o, e, hb, fun i x hx => hc i x ?_⟩
  rcases Nat.lt_or_ge i b with hlt | hge
  · rwa [List.getElem?_take_of_lt hlt] at hx
  · rw [List.getElem?_take_eq_none hge] at hx; cases hx
theorem addr_plain (g o j : Nat) : (⟨g, o, none⟩ : Addr).add j = ⟨g, o + j, none⟩ := by
  unfold Addr.add
  by_cases h : j = 0
  · subst h; simp
  · simp [h]
/-- A cut s[a:], as the model spells its address. -/
theorem Rw.drop (h : Rw enc k w B A l) {a c : Nat} (hc : l.length ≤ c) : Rw enc k w B (if c = a then A else A.map (·.add (a * k))) (l.drop a) := fun hn => by
  rw [List.length_drop] at hn
  obtain ⟨g, o, rfl, hb, hcell⟩ := h (by omega)
  rw [if_neg (by omega)]
  refine ⟨g, o + a * k, by simp [addr_plain], hb, fun i x hx j u hu => ?_⟩
  rw [List.getElem?_drop] at hx
  have := hcell (a + i) x hx j u hu
  rw [Nat.add_mul] at this
  rw [show o + a * k + i * k + j = o + (a * k + i * k) + j by omega]
  exact this

/-- A slice of the call's own that holds l. -/
def Own (enc : α → List Value) (k : Nat) (e : TypeId) (w : World) (base : Nat) (v : Value) (l : List α) : Prop := w.ownsRow base e k v l.length (l.flatMap enc)

theorem Own.nil (w : World) (base : Nat) (e : TypeId) : Own enc k e w base (.slice none 0 0) [] := World.ownsRow_nil w base e k
variable {e : TypeId} {base : Nat} {v : Value}
theorem Own.drew (h : Own enc k e w base v l) : Own enc k e w.drew base v l := h
theorem Own.drewN (h : Own enc k e w base v l) (n : Nat) : Own enc k e (w.drewN n) base v l := h
theorem Own.form (h : Own enc k e w base v l) : ∃ A c, v = .slice A l.length c ∧ l.length ≤ c ∧ c ≤ maxLen ∧ ∀ g, v.ownBlock = some g → base ≤ g ∧ g < w.heap.size := by
  have hlt := h.lt
  rcases h.2 with ⟨e, h0⟩ | ⟨g, cap, cur, hv, hb, hg, hn, hm, _⟩
  · exact ⟨none, 0, by rw [e, h0], by omega, Nat.zero_le _, hlt⟩
  · exact ⟨some ⟨g, 0, none⟩, cap, hv, hn, hm, hlt⟩
theorem Own.reads {n c : Nat} (hk : ∀ x : α, (enc x).length = k) (h : Own enc k e w base (.slice A n c) l) : Rw enc k w w.heap.size A l := fun hn => by
  obtain ⟨g, cap, hv, _, hlt⟩ := World.ownsRow.form h hn
  simp only [Value.slice.injEq] at hv
  obtain ⟨rfl, rfl, rfl⟩ := hv
  refine ⟨g, 0, rfl, hlt, fun i x hx j u hu => ?_⟩
  have hf := flat_at hk hx hu
  have hil := (List.getElem?_eq_some_iff.1 hf).1
  rw [flat_len hk] at hil
  rw [Nat.zero_add, World.ownsRow.cellAt h _ hil]
  exact hf
theorem Own.below (h : Own enc k e w base v l) {C : Nat} (hb : Below C w w') (hB : ∀ g, v.ownBlock = some g → g < C) : Own enc k e w' base v l := by
  refine ⟨h.1, ?_⟩
  rcases h.2 with hn | ⟨g, cap, cur, rfl, hb1, hg, r⟩
  · exact .inl hn
  · exact .inr ⟨g, cap, cur, rfl, hb1, (hb.block g (hB g rfl)).trans hg, r⟩
theorem Own.all (h : Own enc k e w base v l) (hb : Below w.heap.size w w') : Own enc k e w' base v l := h.below hb fun g hg => (h.lt g hg).2
theorem Own.alloc (h : Own enc k e w base v l) (o : Obj) : Own enc k e (w.alloc o) base v l := h.all ((Below.refl _ _).alloc (Nat.le_refl _) o)
theorem Own.setCell (h : Own enc k e w base v l) {p : Addr} (hp : ∀ g, v.ownBlock = some g → g ≠ p.block) (u : Value) : Own enc k e (w.setCell p u) base v l := by
  refine ⟨h.1, ?_⟩
  rcases h.2 with hn | ⟨g, cap, cur, rfl, hb1, hg, r⟩
  · exact .inl hn
  · exact .inr ⟨g, cap, cur, rfl, hb1, (Below.heap_setCell w p u g (hp g rfl)).trans hg, r⟩
theorem Own.grown (h : Own enc k e w base v l) {row : Option Nat} (hg : w.grownBy w' row) (hne : ∀ g, v.ownBlock = some g → some g ≠ row) : Own enc k e w' base v l := by
  refine h.kept hg ?_
  cases hv : v.ownBlock with
  | none => exact .inl rfl
  | some g => exact .inr (hne g hv)
theorem Own.lit (cs : Array Value) (hb : base ≤ w.heap.size) (hm : l.length ≤ maxLen) (hs : cs.toList = l.flatMap enc) (hk : ∀ x : α, (enc x).length = k) :
    Own enc k e (w.alloc (.cells cs e)) base (.slice (some ⟨w.heap.size, 0, none⟩) l.length l.length) l := by
  have h := World.ownsRow_lit (base := base) (e := e) (size := k) w cs l.length hb hm (by rw [← Array.length_toList, hs, flat_len hk])
  unfold Own
  rw [← hs]
  exact h
end

section
variable {P : Program} (w : World) {α : Type} {enc : α → List Value} {k : Nat}

theorem run_append_none (base : Nat) (t ty e : TypeId) (i : TypeInfo) (size : Nat) (ht : P.underlying t = some (.slice e)) (hi : P.info? e = some i)
    (v : Value) (n : Nat) (xs : List Value) (hown : w.ownsRow base e size v n xs) (A : Option Addr) (c : Nat) : (Builtin.append_ #[t, t] ty #[v, .slice A 0 c]).run P w = .ok v w := by
  rcases hown.2 with ⟨rfl, rfl⟩ | ⟨g, cap, cur, rfl, _, _, hnc, _⟩
  · cases A <;> simp [Builtin.append_, run_underlying ht, sizeOf, typeInfo, hi, Builtin.lenOf, Builtin.firstCells, loadCells, loadCellsFrom]
  · cases A <;> simp [Builtin.append_, run_underlying ht, sizeOf, typeInfo, hi, Builtin.lenOf, Builtin.firstCells, hnc, storeCells, loadCells, loadCellsFrom]

theorem run_append_rw (hk : ∀ x : α, (enc x).length = k) (h1 : ∀ x : α, ∀ u ∈ enc x, u.oneCell' = true) (base : Nat) (t ty e : TypeId) (i : TypeInfo) (z : Value) (bytes : Nat) (ht : P.underlying t = some (.slice e)) (hi : P.info? e = some i) (hz : i.zero = some z)
    (hsize : i.size = k) (hby : i.bytes = bytes) (hzs : z.cells.size = k) (hsz : 0 < k)
    (v : Value) (xs : List α) (hown : Own enc k e w base v xs)
    (B : Nat) (A : Option Addr) (c : Nat) (ys : List α) (hr : Rw enc k w B A ys)
    (h63 : xs.length + ys.length ≤ maxLen) (hbytes : (xs.length + ys.length) * bytes ≤ 140737488355328) (hbase : base ≤ w.heap.size) :
    ∃ v' w', (Builtin.append_ #[t, t] ty #[v, .slice A ys.length c]).run P w = .ok v' w' ∧ Own enc k e w' base v' (xs ++ ys) ∧ w.grownBy w' v.ownBlock ∧
      (v'.ownBlock = v.ownBlock ∨ v'.ownBlock = some w.heap.size) := by
  rcases Nat.eq_zero_or_pos ys.length with h0 | h0
  · have hy : ys = [] := List.eq_nil_of_length_eq_zero h0
    subst hy
    exact ⟨v, w, run_append_none w base t ty e i k ht hi v xs.length _ hown A c, by simpa using hown, World.grownBy.refl w _, .inl rfl⟩
  · obtain ⟨g, o, rfl, _, hc⟩ := hr.flat hk h0
    obtain ⟨v', w', hrun, h2, h3, _, h5⟩ := run_append_own_at (P := P) w base t ty e i z k bytes ht hi hz hsize hby hzs hsz v xs.length _ hown ⟨g, o, none⟩ ys.length c (ys.flatMap enc) (flat_len hk ys)
      (fun j u hu => by rw [addr_plain]; exact hc j u hu) (fun u hu => by obtain ⟨x, _, hx⟩ := List.mem_flatMap.1 hu; exact h1 x u hx) h63 hbytes hbase
    refine ⟨v', w', hrun, ?_, h3, h5⟩
    unfold Own
    rw [List.length_append, List.flatMap_append]
    exact h2

theorem wp_append_rw {o : Oper} {a : Act} {K : Act → World → Prop} {Q : Exit → Act → World → Prop} (s x : Operand) (t : TypeId)
    (ho : o.op = .call { callee := .builtin .append, args := #[s, x], argTypes := #[t, t] })
    (hk : ∀ x : α, (enc x).length = k) (h1 : ∀ x : α, ∀ u ∈ enc x, u.oneCell' = true) (base : Nat) (e : TypeId) (i : TypeInfo) (z : Value) (bytes : Nat) (ht : P.underlying t = some (.slice e)) (hi : P.info? e = some i) (hz : i.zero = some z)
    (hsize : i.size = k) (hby : i.bytes = bytes) (hzs : z.cells.size = k) (hsz : 0 < k)
    (v : Value) (xs : List α) (hs : a.eval s = v) (hown : Own enc k e w base v xs)
    (B : Nat) (A : Option Addr) (m c : Nat) (ys : List α) (hm : ys.length = m) (hx : a.eval x = .slice A m c) (hr : Rw enc k w B A ys)
    (h63 : xs.length + m ≤ maxLen) (hbytes : (xs.length + m) * bytes ≤ 140737488355328) (hbase : base ≤ w.heap.size)
    (h : ∀ v' w', Own enc k e w' base v' (xs ++ ys) → w.grownBy w' v.ownBlock → (v'.ownBlock = v.ownBlock ∨ v'.ownBlock = some w.heap.size) → K (a.put o.dst v') w') : o.wp P a w K Q := by
  subst hm
  obtain ⟨v', w', hrun, h2, h3, h4⟩ := run_append_rw (P := P) w hk h1 base t o.type e i z bytes ht hi hz hsize hby hzs hsz v xs hown B A c ys hr h63 hbytes hbase
  unfold Oper.wp execOp
  simp only [ho, resolve, invoke, builtin, Sem.run_bind, Sem.run_pure, Result.andThen_ok, List.map_toArray, List.map_cons, List.map_nil, hs, hx, hrun]
  exact h v' w' h2 h3 h4

theorem wpList_append_rw {ops : Array Oper} {rest : List Oper} {o : Oper} {a : Act} {Q : Exit → Act → World → Prop} (hgd : o.guard = none) (s x : Operand) (t : TypeId)
    (ho : o.op = .call { callee := .builtin .append, args := #[s, x], argTypes := #[t, t] })
    (hk : ∀ x : α, (enc x).length = k) (h1 : ∀ x : α, ∀ u ∈ enc x, u.oneCell' = true) (base : Nat) (e : TypeId) (i : TypeInfo) (z : Value) (bytes : Nat) (ht : P.underlying t = some (.slice e)) (hi : P.info? e = some i) (hz : i.zero = some z)
    (hsize : i.size = k) (hby : i.bytes = bytes) (hzs : z.cells.size = k) (hsz : 0 < k)
    (v : Value) (xs : List α) (hs : a.eval s = v) (hown : Own enc k e w base v xs)
    (B : Nat) (A : Option Addr) (m c : Nat) (ys : List α) (hm : ys.length = m) (hx : a.eval x = .slice A m c) (hr : Rw enc k w B A ys)
    (h63 : xs.length + m ≤ maxLen) (hbytes : (xs.length + m) * bytes ≤ 140737488355328) (hbase : base ≤ w.heap.size)
    (h : ∀ v' w', Own enc k e w' base v' (xs ++ ys) → w.grownBy w' v.ownBlock → (v'.ownBlock = v.ownBlock ∨ v'.ownBlock = some w.heap.size) → wpList P ops Q rest (a.put o.dst v') w') : wpList P ops Q (o :: rest) a w :=
  wpList_plain hgd fun _ hK => wp_append_rw w s x t ho hk h1 base e i z bytes ht hi hz hsize hby hzs hsz v xs hs hown B A m c ys hm hx hr h63 hbytes hbase fun v' w' h2 h3 h4 => hK _ _ (h v' w' h2 h3 h4)
end
end Go.Proofs.YtnahbfmbmpoljaaGreatDoor
