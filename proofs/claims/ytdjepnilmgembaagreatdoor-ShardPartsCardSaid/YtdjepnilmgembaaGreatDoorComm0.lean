/-
  Small facts that every walk shares: blocks that a call leaves alone, a new block's cells, what the library says of a type.
  Paths: a string cut at its slashes, by the program's library and by the reference alike (plain).
-/
import Derived.Test.YtdjepnilmgembaaGreatDoorNames4
import Derived.Laws.StructEq
import Derived.Lib.QuietBelow
import Derived.Lib.Split
import Derived.Lib.SplitLaws

namespace Go.Proofs.YtdjepnilmgembaaGreatDoor
open Go.RowKit

theorem blk_at {W w1 : World} (hb : Below W.heap.size W w1) (g : Nat) (hg : g < W.heap.size) : (∀ o, w1.cell? ⟨g, o, none⟩ = W.cell? ⟨g, o, none⟩) ∧ (∀ o, w1.frozen? ⟨g, o, none⟩ = W.frozen? ⟨g, o, none⟩) :=
  ⟨fun o => hb.cell (p := ⟨g, o, none⟩) hg, fun o => hb.frozen (p := ⟨g, o, none⟩) hg⟩
theorem below_of_regrown {w w' : World} (h : ∃ p : Regrown, w' = Sort.grow (redrawn w p.d) p.os) : Below w.heap.size w w' := by
  obtain ⟨p, rfl⟩ := h
  exact below_regrown w p.d p.os
theorem box_cells (w : World) (cs : Array Value) (T : TypeId) (j : Nat) (u : Value) (h : cs.toList[j]? = some u) : (w.alloc (.cells cs T)).cell? ⟨w.heap.size, j, none⟩ = some u := by
  rw [cell_of_row _ _ _ cs T (0, 0) (heap_alloc_new w _), ← Array.getElem?_toList]
  exact h
theorem info_three {P : Program} {t : TypeId} {z : Value} {k b : Nat} (h : (P.info? t).map (fun i => (i.zero, i.size, i.bytes)) = some (some z, k, b)) : ∃ i, P.info? t = some i ∧ i.zero = some z ∧ i.size = k ∧ i.bytes = b := by
  cases hi : P.info? t with
  | none => rw [hi] at h; cases h
  | some i =>
    rw [hi] at h
    simp at h
    exact ⟨i, rfl, h.1, h.2.1, h.2.2⟩
/-- A slice whose block is let alone reads as before. -/
theorem rw_apart {α : Type} {enc : α → List Value} {k : Nat} {w w' : World} {B : Nat} {A : Option Addr} {l : List α} (h : Rw enc k w B A l) (hk : ∀ g o, A = some ⟨g, o, none⟩ → ∀ q, w'.cell? ⟨g, q, none⟩ = w.cell? ⟨g, q, none⟩) : Rw enc k w' B A l := fun hn => by
  obtain ⟨g, o, e, hb, hc⟩ := h hn
  exact ⟨g, o, e, hb, fun i x hx j u hu => (hk g o e _).trans (hc i x hx j u hu)⟩
end Go.Proofs.YtdjepnilmgembaaGreatDoor

namespace Go.Proofs.YtdjepnilmgembaaGreatDoor
open Go.RowKit

/-- A list of bytes, cut at each 47. -/
def splL : List UInt8 → List (List UInt8)
  | [] => [[]]
  | c :: l => if c = 47 then [] :: splL l else (splL l).modifyHead (c :: ·)
theorem splL_ne : ∀ (l : List UInt8), splL l ≠ []
  | [] => by simp [splL]
  | c :: l => by
    have := splL_ne l
    unfold splL
    split
    · simp
    · cases h : splL l with
      | nil => exact absurd h this
      | cons p ps => simp
theorem splL_hit : ∀ {l : List UInt8} {n : Nat}, (∀ j, j < n → l[j]? ≠ some 47) → l[n]? = some 47 → splL l = l.take n :: splL (l.drop (n + 1))
  | [], n, _, h => by simp at h
  | c :: l, 0, _, h => by
    obtain rfl : c = 47 := by simpa using h
    simp [splL]
  | c :: l, n + 1, hn, h => by
    have hc : c ≠ 47 := fun e => hn 0 (by omega) (by simp [e])
    have ih := splL_hit (l := l) (n := n) (fun j hj => by have := hn (j + 1) (by omega); simpa using this) (by simpa using h)
    rw [splL, if_neg hc, ih]
    simp
theorem splL_end : ∀ {l : List UInt8}, (∀ j, j < l.length → l[j]? ≠ some 47) → splL l = [l]
  | [], _ => rfl
  | c :: l, hn => by
    have hc : c ≠ 47 := fun e => hn 0 (by simp) (by simp [e])
    have ih := splL_end (l := l) (fun j hj => by have := hn (j + 1) (by simpa using hj); simpa using this)
    rw [splL, if_neg hc, ih]
    simp
theorem splitK_spl : ∀ (l : List UInt8), Lib.splitK [47] 0 (Lib.count l [47]) l = splL l
  | [] => by decide
  | c :: l => by
    by_cases hc : c = 47
    · subst hc
      rw [Lib.count_cons_eq, Nat.add_comm, splL, if_pos rfl]
      have hi : Lib.index (47 :: l) [47] = 0 := by unfold Lib.index; simp
      rw [Lib.splitK, hi, if_neg (by decide)]
      simp [splitK_spl l]
    · have hcc : Lib.count (c :: l) [47] = Lib.count l [47] := Lib.count_cons_ne _ _ _ hc
      have ih := splitK_spl l
      rw [hcc, splL, if_neg hc, ← ih]
      rcases hn : Lib.count l [47] with _ | n
      · simp [Lib.splitK]
      · have hp : Lib.index l [47] ≠ -1 := fun e => by rw [Lib.count_miss e] at hn; cases hn
        obtain ⟨i, hi⟩ : ∃ i : Nat, Lib.index l [47] = i := ⟨(Lib.index l [47]).toNat, by have := Lib.index_ge l [47]; omega⟩
        have hi2 : Lib.index (c :: l) [47] = ((i + 1 : Nat) : Int) := by
          unfold Lib.index
          rw [if_neg (by simp [Ne.symm hc]), hi, if_neg (by simp <;> omega)]
          omega
        have h1 : ¬ (((i + 1 : Nat) : Int) == -1) = true  := by simp <;> omega
        have h2 : ¬ ((i : Int) == -1) = true := by simp <;> omega
        rw [Lib.splitK, Lib.splitK, hi2, hi, if_neg h1, if_neg h2]
        simp
theorem splL_len_le : ∀ (l : List UInt8), ∀ p ∈ splL l, p.length ≤ l.length
  | [] => by simp [splL]
  | c :: l => by
    intro p hp
    unfold splL at hp
    split at hp
    · rcases List.mem_cons.1 hp with h | h
      · subst h; simp
      · have := splL_len_le l p h
        simp only [List.length_cons]; omega
    · cases h : splL l with
      | nil => exact absurd h (splL_ne l)
      | cons q qs =>
        rw [h, List.modifyHead_cons] at hp
        rcases List.mem_cons.1 hp with h2 | h2
        · subst h2
          have := splL_len_le l q (by rw [h]; simp)
          simp only [List.length_cons]; omega
        · have := splL_len_le l p (by rw [h]; simp [h2])
          simp only [List.length_cons]; omega
theorem splL_count : ∀ (l : List UInt8), (splL l).length ≤ l.length + 1
  | [] => by simp [splL]
  | c :: l => by
    have := splL_count l
    unfold splL
    split <;> simp only [List.length_cons, List.length_modifyHead] <;> omega

/-- A list of bytes as a string. -/
def mkS (l : List UInt8) : Str := ⟨⟨(l.take 9223372036854775807).toArray⟩, by show (List.toArray _).size ≤ _; rw [List.size_toArray, List.length_take]; omega⟩
theorem mkS_bytes {l : List UInt8} (h : l.length ≤ 9223372036854775807) : (mkS l).1 = ⟨l.toArray⟩ := by
  show (⟨(l.take 9223372036854775807).toArray⟩ : ByteArray) = _
  rw [List.take_of_length_le h]
theorem mkS_of {s : ByteArray} (h : s.size ≤ 9223372036854775807) : (mkS s.data.toList).1 = s := mkS_bytes h
/-- The parts of a path. -/
def parts (s : Str) : List Str := (splL s.1.data.toList).map mkS
theorem parts_lib (s : Str) : (Lib.splitB ⟨#[47]⟩ 0 (Lib.countB s.1 ⟨#[47]⟩) s.1) = (parts s).map (·.1) := by
  have h := Lib.splitB_data ⟨#[47]⟩ 0 (Lib.countB s.1 ⟨#[47]⟩) s.1
  have h2 : Lib.splitK [47] 0 (Lib.count s.1.data.toList [47]) s.1.data.toList = splL s.1.data.toList := splitK_spl _
  have e : (Lib.splitB ⟨#[47]⟩ 0 (Lib.countB s.1 ⟨#[47]⟩) s.1).map (·.data.toList) = splL s.1.data.toList := h.trans h2
  unfold parts
  rw [List.map_map, ← e, List.map_map]
  refine (List.map_id _).symm.trans (List.map_congr_left fun p hp => ?_)
  show p = (mkS p.data.toList).1
  refine (mkS_of ?_).symm
  have hm : p.data.toList ∈ splL s.1.data.toList := by rw [← e]; exact List.mem_map.2 ⟨p, hp, rfl⟩
  have := splL_len_le _ _ hm
  have h3 := s.2
  simp only [Array.length_toList] at this ⊢
  have e1 : p.data.size = p.size := rfl
  have e2 : s.1.data.size = s.1.size := rfl
  omega
theorem parts_len (s : Str) : (parts s).length = Lib.countB s.1 ⟨#[47]⟩ + 1 := by
  have h := congrArg List.length (parts_lib s)
  rw [List.length_map, Lib.splitB_all ⟨#[47]⟩ (by decide) 0 _ _ rfl] at h
  exact h.symm
theorem parts_le (s : Str) : (parts s).length ≤ s.1.size + 1 := by
  unfold parts
  rw [List.length_map]
  have := splL_count s.1.data.toList
  rwa [Array.length_toList] at this
theorem parts_ne (s : Str) : parts s ≠ [] := by unfold parts; simp [splL_ne]
/-- The error of a path; whether a string is one. -/
def namesB (l : List Str) : Bool := l.all fun p => nameB p.1
def pathE (s : Str) : Int := if 512 < s.1.size then 3 else if namesB (parts s) then 0 else 1
def pathB (s : Str) : Bool := decide (pathE s = 0)
theorem pathE_big {s : Str} (h : 512 < s.1.size) : pathE s = 3 := by unfold pathE; rw [if_pos h]
theorem pathE_yes {s : Str} (h : ¬ 512 < s.1.size) (h2 : namesB (parts s) = true) : pathE s = 0 := by unfold pathE; rw [if_neg h, if_pos h2]
theorem pathE_no {s : Str} (h : ¬ 512 < s.1.size) (h2 : namesB (parts s) = false) : pathE s = 1 := by unfold pathE; rw [if_neg h, if_neg (by rw [h2]; decide)]
/-- What Parts returns. -/
def partsR (s : Str) : List Str := if pathE s = 0 then parts s else []
end Go.Proofs.YtdjepnilmgembaaGreatDoor
