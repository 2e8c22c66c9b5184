/-
  Shards: lists of lists in memory: each in a block of its own (plain).
-/
import Derived.Test.YtdjepnilmgembaaGreatDoorShw7

namespace Go.Proofs.YtdjepnilmgembaaGreatDoor
open Go.RowKit

/-- Rows of different element types never lie in one block. -/
theorem own_apart {α β : Type} {enc : α → List Value} {enc' : β → List Value} {k k' : Nat} {e e' : TypeId} {w : World} {H H' : Nat} {v v' : Value} {l : List α} {l' : List β} (h : Own enc k e w H v l) (h' : Own enc' k' e' w H' v' l') (hne : e ≠ e') : ∀ g, v.ownBlock = some g → v'.ownBlock ≠ some g := by
  intro g hg hg'
  rcases h.2 with ⟨rfl, _⟩ | ⟨b, cap, cur, rfl, _, hb, _⟩
  · cases hg
  · rcases h'.2 with ⟨rfl, _⟩ | ⟨b', cap', cur', rfl, _, hb', _⟩
    · cases hg'
    · simp only [Value.ownBlock, Option.some.injEq] at hg hg'
      subst hg
      subst hg'
      rw [hb] at hb'
      simp at hb'
      exact hne hb'.2
/-- Lists of strings that the call owns, each in a block of its own. -/
structure OwnT {α : Type} (tv : α → Value) (ts : α → List Str) (w : World) (base : Nat) (L : List α) : Prop where
  each : ∀ x ∈ L, Own sE 1 9 w base (tv x) (ts x)
  apart : L.Pairwise fun x y => ∀ g, (tv x).ownBlock = some g → (tv y).ownBlock ≠ some g
section
variable {α : Type} {tv : α → Value} {ts : α → List Str} {w w' : World} {base : Nat} {L L2 : List α}
theorem OwnT.perm (h : OwnT tv ts w base L) (hp : L2.Perm L) : OwnT tv ts w base L2 :=
  ⟨fun x hx => h.each x (hp.mem_iff.1 hx), hp.symm.pairwise h.apart fun {_x _y} hxy g hy hx => hxy g hx hy⟩
theorem OwnT.all (h : OwnT tv ts w base L) (hb : Below w.heap.size w w') : OwnT tv ts w' base L := ⟨fun x hx => (h.each x hx).all hb, h.apart⟩
theorem OwnT.grown (h : OwnT tv ts w base L) {row : Option Nat} (hg : w.grownBy w' row) (hne : ∀ x ∈ L, ∀ g, (tv x).ownBlock = some g → some g ≠ row) : OwnT tv ts w' base L := ⟨fun x hx => (h.each x hx).grown hg (hne x hx), h.apart⟩
/-- The rows' own row written. -/
theorem OwnT.row (h : OwnT tv ts w base L) {β : Type} {enc : β → List Value} {k : Nat} {e : TypeId} {H g n c : Nat} {l : List β} (ho : Own enc k e w H (.slice (some ⟨g, 0, none⟩) n c) l) (hne : e ≠ 9) (hg : w.grownBy w' (some g)) : OwnT tv ts w' base L :=
  h.grown hg fun x hx q hq e2 => by
    simp only [Option.some.injEq] at e2
    subst e2
    exact own_apart (h.each x hx) ho (fun e3 => hne e3.symm) q hq rfl
theorem OwnT.setCell (h : OwnT tv ts w base L) {p : Addr} (hp : ∀ x ∈ L, ∀ g, (tv x).ownBlock = some g → g ≠ p.block) (u : Value) : OwnT tv ts (w.setCell p u) base L := ⟨fun x hx => (h.each x hx).setCell (hp x hx) u, h.apart⟩
theorem OwnT.rowCell (h : OwnT tv ts w base L) {β : Type} {enc : β → List Value} {k : Nat} {e : TypeId} {H n c : Nat} {p : Addr} {l : List β} (ho : Own enc k e w H (.slice (some ⟨p.block, 0, none⟩) n c) l) (hne : e ≠ 9) (u : Value) : OwnT tv ts (w.setCell p u) base L :=
  h.setCell (fun x hx q hq e2 => by
    subst e2
    exact own_apart (h.each x hx) ho (fun e3 => hne e3.symm) _ hq rfl) u
/-- One of them made longer. -/
theorem OwnT.set {k : Nat} {x y : α} (h : OwnT tv ts w base L) (hx : L[k]? = some x) (ho : Own sE 1 9 w' base (tv y) (ts y)) (hg : w.grownBy w' (tv x).ownBlock) (hat : (tv y).ownBlock = (tv x).ownBlock ∨ (tv y).ownBlock = some w.heap.size) : OwnT tv ts w' base (L.set k y) := by
  obtain ⟨hk, ex⟩ := List.getElem?_eq_some_iff.1 hx
  have hp := List.pairwise_iff_getElem.1 h.apart
  have hd : ∀ j z, L[j]? = some z → j ≠ k → ∀ g, (tv z).ownBlock = some g → (tv x).ownBlock ≠ some g := fun j z hz hjk g hgz hgx => by
    obtain ⟨hj, ez⟩ := List.getElem?_eq_some_iff.1 hz
    rcases Nat.lt_or_ge j k with h1 | h1
    · have := hp j k hj hk h1 g
      rw [ez, ex] at this
      exact this hgz hgx
    · have := hp k j hk hj (by omega) g
      rw [ez, ex] at this
      exact this hgx hgz
  have hy : ∀ j z, L[j]? = some z → j ≠ k → ∀ g, (tv z).ownBlock = some g → (tv y).ownBlock ≠ some g := fun j z hz hjk g hgz hgy => by
    rcases hat with e | e
    · rw [e] at hgy; exact hd j z hz hjk g hgz hgy
    · rw [e] at hgy
      simp only [Option.some.injEq] at hgy
      have := ((h.each z (List.mem_of_getElem? hz)).lt g hgz).2
      omega
  refine ⟨fun z hz => ?_, ?_⟩
  · obtain ⟨j, hj⟩ := List.getElem?_of_mem hz
    rw [List.getElem?_set] at hj
    by_cases hjk : k = j
    · rw [if_pos hjk, if_pos (by omega)] at hj
      obtain rfl : y = z := by simpa using hj
      exact ho
    · rw [if_neg hjk] at hj
      exact (h.each z (List.mem_of_getElem? hj)).grown hg fun g hgz e => hd j z hj (fun e2 => hjk e2.symm) g hgz e.symm
  · rw [List.pairwise_iff_getElem]
    intro i j hi hj hij g hgi
    rw [List.length_set] at hi hj
    rw [List.getElem_set] at hgi ⊢
    by_cases h1 : k = i
    · subst h1
      rw [if_pos rfl] at hgi
      rw [if_neg (by omega)]
      exact fun e => hy j _ (List.getElem?_eq_getElem hj) (by omega) g e hgi
    · rw [if_neg h1] at hgi
      by_cases h2 : k = j
      · subst h2
        rw [if_pos rfl]
        exact hy i _ (List.getElem?_eq_getElem hi) (by omega) g hgi
      · rw [if_neg h2]
        exact hp i j hi hj hij g hgi
end
/-- A list of strings in its cell. -/
structure SlR where
  A : Option Addr
  c : Nat
  l : List Str
deriving Inhabited
def slE (x : SlR) : List Value := [.slice x.A x.l.length x.c]
theorem slE_len (x : SlR) : (slE x).length = 1 := rfl
theorem slE_one (x : SlR) : ∀ u ∈ slE x, u.oneCell' = true := by
  intro u hu
  obtain rfl := List.mem_singleton.1 hu
  rfl
def slV (x : SlR) : Value := .slice x.A x.l.length x.c
/-- A list of lists of strings that reads as one. -/
structure RwS (w : World) (B : Nat) (A : Option Addr) (L : List SlR) : Prop where
  row : Rw slE 1 w B A L
  labs : ∀ x ∈ L, Rw sE 1 w B x.A x.l
theorem RwS.below {w w' : World} {B C : Nat} {A : Option Addr} {L : List SlR} (h : RwS w B A L) (hb : Below C w w') (hB : B ≤ C) : RwS w' B A L := ⟨h.row.below hb hB, fun x hx => (h.labs x hx).below hb hB⟩
theorem RwS.more {w : World} {B B' : Nat} {A : Option Addr} {L : List SlR} (h : RwS w B A L) (hB : B ≤ B') : RwS w B' A L := ⟨h.row.more hB, fun x hx => (h.labs x hx).more hB⟩
/-- A list of strings does not lie in a row of lists. -/
theorem rws_apart {w w' : World} {B B' : Nat} {A : Option Addr} {l : List Str} {e : TypeId} {H g n c : Nat} {O : List SlR} (hr : Rw sE 1 w B A l) (ho : Own slE 1 e w H (.slice (some ⟨g, 0, none⟩) n c) O) (hg : w.grownBy w' (some g)) (hB : B ≤ w.heap.size) (hB' : B ≤ B') (hfull : ∀ t u, w.cell? ⟨g, t, none⟩ = some u → ∃ A n c, u = .slice A n c) : Rw sE 1 w' B' A l := fun hn => by
  obtain ⟨q, o, e, hb, hc⟩ := hr hn
  refine ⟨q, o, e, by omega, fun i x hx j u hu => ?_⟩
  have h1 := hc i x hx j u hu
  have hqg : q ≠ g := fun e => by
    subst e
    obtain ⟨_, _, _, e2⟩ := hfull _ _ h1
    have hj : j = 0 := by have := (List.getElem?_eq_some_iff.1 hu).1; simp [sE] at this; exact this
    subst hj
    obtain rfl : Value.string x.1 = u := by simpa [sE] using hu
    cases e2
  exact (World.cell?_of_block (hg.block q (by omega) (by simpa using hqg))).trans h1
theorem flat_sl (n : Nat) : (List.replicate n (⟨none, 0, []⟩ : SlR)).flatMap slE = List.replicate n (.slice none 0 0) := by
  induction n with
  | zero => rfl
  | succ n ih => rw [List.replicate_succ, List.flatMap_cons, ih, List.replicate_succ]; rfl
/-- A row of lists holds lists alone. -/
theorem full_sl {w : World} {e : TypeId} {H g n : Nat} {O : List SlR} (h : Own slE 1 e w H (.slice (some ⟨g, 0, none⟩) n n) O) : ∀ t u, w.cell? ⟨g, t, none⟩ = some u → ∃ A m c, u = .slice A m c := fun t u hu => by
  have hn : O.length = n := by
    obtain ⟨_, _, e1, _⟩ := h.form
    simp only [Value.slice.injEq] at e1
    exact e1.2.1.symm
  subst hn
  obtain ⟨_, _, _, cur, hg, hs⟩ := own_block h
  have hlt : t < O.length := by
    rw [cell_of_row _ _ _ cur e (0, 0) hg] at hu
    have := (Array.getElem?_eq_some_iff.1 hu).1
    omega
  obtain ⟨x, hx⟩ := get_some hlt
  have hc := flat_at slE_len hx (j := 0) (u := .slice x.A x.l.length x.c) rfl
  rw [Nat.mul_one, Nat.add_zero] at hc
  rw [h.cellAt t (by omega), hc] at hu
  exact ⟨_, _, _, (by simpa using hu.symm)⟩
end Go.Proofs.YtdjepnilmgembaaGreatDoor
