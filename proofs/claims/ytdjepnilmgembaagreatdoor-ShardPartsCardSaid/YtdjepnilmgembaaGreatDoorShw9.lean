/-
  Shards: what the program's split leaves (plain).
-/
import Derived.Test.YtdjepnilmgembaaGreatDoorShw8
import Derived.Test.YtdjepnilmgembaaGreatDoorShdP

namespace Go.Proofs.YtdjepnilmgembaaGreatDoor
open Go.RowKit

def tvR (x : HR) : Value := .slice x.tA x.ts.length x.tC
def startR (k : Nat) : List HR := (List.range k).map fun i => ⟨i, 0, none, 0, []⟩
theorem startR_len (k : Nat) : (startR k).length = k := by unfold startR; simp
theorem startR_succ (k : Nat) : startR (k + 1) = startR k ++ [⟨k, 0, none, 0, []⟩] := by unfold startR; rw [List.range_succ, List.map_append]; rfl
theorem startR_h (k : Nat) : hrs (startR k) = heap0 k := by unfold hrs startR heap0; rw [List.map_map]; rfl
theorem startR_own (w : World) (base k : Nat) : OwnT tvR HR.ts w base (startR k) := by
  have h : ∀ x ∈ startR k, tvR x = .slice none 0 0 ∧ x.ts = [] := fun x hx => by
    obtain ⟨i, _, rfl⟩ := List.mem_map.1 hx
    exact ⟨rfl, rfl⟩
  refine ⟨fun x hx => by rw [(h x hx).1, (h x hx).2]; exact Own.nil _ _ _, ?_⟩
  rw [List.pairwise_iff_getElem]
  intro i j hi hj _ g hg
  rw [(h _ (List.getElem_mem hi)).1] at hg
  cases hg
/-- How much is in a shard. -/
theorem fill_small {ts : List Tm} {n : Nat} (hn : 0 < n) (l : List Str) {b : Bin} (hb : b ∈ fillB (clockT ts) n l) : b.1.length ≤ l.length ∧ 0 ≤ b.2 ∧ b.2 ≤ 1125899906842624 * l.length := by
  have hF := filled (clock_nn ts) hn l
  have h1 : b.1.length ≤ l.length := by
    rw [← hF.all.length_eq]
    obtain ⟨a, c, e⟩ := List.append_of_mem hb
    rw [e, List.flatMap_append, List.flatMap_cons, List.length_append, List.length_append]
    omega
  have h2 := load_in b.1 ts
  unfold loadT at h2
  rw [← hF.load b hb] at h2
  omega
theorem holds_small {ts : List Tm} {n : Nat} (hn : 0 < n) {l : List Str} {L : List HR} (h : Holds (fillB (clockT ts) n l) (hrs L)) {x : HR} (hx : x ∈ L) : x.ts.length ≤ l.length ∧ 0 ≤ x.load ∧ x.load ≤ 1125899906842624 * l.length ∧ x.no < n := by
  have h1 := h.at_ x.h (List.mem_map.2 ⟨x, hx, rfl⟩)
  have h2 := fill_small hn l (List.mem_of_getElem? h1)
  have h3 := (List.getElem?_eq_some_iff.1 h1).1
  rw [fill_len] at h3
  exact ⟨h2.1, h2.2.1, h2.2.2, h3⟩
theorem holds_len {bins : List Bin} {L : List HR} (h : Holds bins (hrs L)) : L.length = bins.length := by rw [← h.len, hrs_len]
/-- Numbers are one shard's each. -/
theorem holds_no {bins : List Bin} {L : List HR} (h : Holds bins (hrs L)) {i j : Nat} {x y : HR} (hx : L[i]? = some x) (hy : L[j]? = some y) (e : x.no = y.no) : i = j := by
  have h1 := h.one
  unfold hrs at h1
  rw [List.map_map] at h1
  obtain ⟨hi, ex⟩ := List.getElem?_eq_some_iff.1 hx
  obtain ⟨hj, ey⟩ := List.getElem?_eq_some_iff.1 hy
  have h2 := List.pairwise_iff_getElem.1 h1
  have hg : ∀ k (hk : k < L.length), (L.map (HB.no ∘ HR.h))[k]'(by simpa using hk) = (L[k]).no := fun k hk => by rw [List.getElem_map]; rfl
  rcases Nat.lt_trichotomy i j with hlt | rfl | hlt
  · have := h2 i j (by simpa using hi) (by simpa using hj) hlt
    rw [hg i hi, hg j hj, ex, ey] at this
    exact absurd e this
  · rfl
  · have := h2 j i (by simpa using hj) (by simpa using hi) hlt
    rw [hg i hi, hg j hj, ex, ey] at this
    exact absurd e.symm this
/-- The first shards have been laid out. -/
def Laid (L : List HR) (O : List SlR) (k : Nat) : Prop := ∀ i x, i < k → L[i]? = some x → ∃ y, O[x.no]? = some y ∧ y.l = srt x.ts
theorem laid_next {bins : List Bin} {L : List HR} {O : List SlR} {k : Nat} {x : HR} {y : SlR} (h : Holds bins (hrs L)) (hL : Laid L O k) (hx : L[k]? = some x) (hy : y.l = srt x.ts) (hn : x.no < O.length) : Laid L (O.set x.no y) (k + 1) := fun i z hi hz => by
  by_cases e : i = k
  · subst e
    rw [hx] at hz
    obtain rfl : x = z := by simpa using hz
    exact ⟨y, List.getElem?_set_self hn, hy⟩
  · obtain ⟨u, hu, hl⟩ := hL i z (by omega) hz
    refine ⟨u, ?_, hl⟩
    rw [List.getElem?_set_ne (fun e2 => e (holds_no h hz hx e2.symm))]
    exact hu
theorem laid_all {bins : List Bin} {L : List HR} {O : List SlR} (h : Holds bins (hrs L)) (hL : Laid L O L.length) (hO : O.length = bins.length) : O.map SlR.l = bins.map fun b => srt b.1 := by
  apply List.ext_getElem?
  intro j
  rw [List.getElem?_map, List.getElem?_map]
  rcases Nat.lt_or_ge j bins.length with hj | hj
  · obtain ⟨b, hb⟩ := get_some hj
    obtain ⟨y, hy, e1, e2⟩ := holds_all h hb
    obtain ⟨x, hx, rfl⟩ := List.mem_map.1 hy
    obtain ⟨i, hi⟩ := List.getElem?_of_mem hx
    obtain ⟨z, hz, hl⟩ := hL i x (List.getElem?_eq_some_iff.1 hi).1 hi
    change x.no = j at e1
    change x.ts = b.1 at e2
    rw [e1] at hz
    rw [hz, hb]
    show some z.l = some (srt b.1)
    rw [hl, e2]
  · rw [List.getElem?_eq_none (by omega), List.getElem?_eq_none hj]
    rfl
theorem list_info : (Tryz.prog.info? 22).map (fun i => (i.zero, i.size, i.bytes)) = some (some (.slice none 0 0), 1, 24) := by kernel_rfl
theorem bin_info : (Tryz.prog.info? 63).map (fun i => (i.zero, i.size, i.bytes)) = some (some (.agg #[.int .i64 0, .int .i64 0, .slice none 0 0]), 3, 40) := by kernel_rfl
theorem rw_bin1 {w : World} {B k : Nat} (hB : w.heap.size < B) : Rw hrE 3 (w.alloc (.cells #[.int .i64 (k : Int), .int .i64 0, .slice none 0 0] 63)) B (some ⟨w.heap.size, 0, none⟩) [⟨k, 0, none, 0, []⟩] := fun _ => ⟨w.heap.size, 0, rfl, hB, fun i z hz j u hu => by
  rcases i with _ | i
  · obtain rfl : (⟨k, 0, none, 0, []⟩ : HR) = z := by simpa using hz
    simp only [Nat.zero_mul, Nat.zero_add]
    exact box_cells w _ _ j _ hu
  · simp at hz⟩
theorem rw_str1 {w : World} {B : Nat} {x : Str} (hB : w.heap.size < B) : Rw sE 1 (w.alloc (.cells #[.string x.1] 9)) B (some ⟨w.heap.size, 0, none⟩) [x] := fun _ => ⟨w.heap.size, 0, rfl, hB, fun i z hz j u hu => by
  rcases i with _ | i
  · obtain rfl : x = z := by simpa using hz
    simp only [Nat.zero_mul, Nat.zero_add]
    exact box_cells w _ _ j _ hu
  · simp at hz⟩
theorem own_made_sl {w : World} {base g n : Nat} (h : w.ownsRow base 22 1 (.slice (some ⟨g, 0, none⟩) n n) n (madeCells (Value.slice none 0 0).cells (n * 1)).toList) : Own slE 1 22 w base (.slice (some ⟨g, 0, none⟩) n n) (List.replicate n (⟨none, 0, []⟩ : SlR)) := by
  unfold Own
  rw [List.length_replicate, flat_sl]
  rw [show (Value.slice none 0 0).cells = #[.slice none 0 0] from rfl, toList_madeCells_one, Nat.mul_one] at h
  exact h
end Go.Proofs.YtdjepnilmgembaaGreatDoor
