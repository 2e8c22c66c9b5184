/-
  The walks of labels: whether labels are valid, by the program.
-/
import Derived.Test.YtnahbfmbmpoljaaDoorLab3
import Derived.Test.YtnahbfmbmpoljaaDoorMapB
import Derived.Test.YtnahbfmbmpoljaaDoorNames4


namespace Go.Proofs.YtnahbfmbmpoljaaDoor
open Go.RowKit

theorem get_bang {α : Type} [Inhabited α] {l : List α} {k : Nat} {x : α} (h : l[k]? = some x) : l[k]! = x := by
  rw [getElem!_def, h]
theorem below_of_regrown {w w' : World} (h : ∃ p : Regrown, w' = Sort.grow (redrawn w p.d) p.os) : Below w.heap.size w w' := by
  obtain ⟨p, rfl⟩ := h
  exact below_regrown w p.d p.os
theorem box_cells (w : World) (cs : Array Value) (T : TypeId) (j : Nat) (u : Value) (h : cs.toList[j]? = some u) : (w.alloc (.cells cs T)).cell? ⟨w.heap.size, j, none⟩ = some u := by
  rw [cell_of_row _ _ _ cs T (0, 0) (heap_alloc_new w _), ← Array.getElem?_toList]
  exact h

/-- A label as it was read; whether it is one. -/
def labP (s : Str) : Part := parseL s.1.toList
def labB (s : Str) : Bool := decide ((labP s).1 = 1) || decide ((labP s).1 = 5)
def isB (s : Str) : Bool := decide ((labP s).1 = 5)
set_option maxRecDepth 100000 in
theorem labelof_any (s : Str) (w : World) (hs : s.1.size < 4294967281) (hG : Glob w) : Calls Tryd.prog 55 #[.string s.1] w fun e w' => e = .returned (.tuple #[tv (labP s), .bool (isB s), .bool (labB s)]) ∧ Below w.heap.size w w' := by
  have hp0 : Hid (∀ W, Below w.heap.size w W → Calls Tryd.prog 76 #[.string s.1] W fun e w' => e = .returned (tv (parseL s.1.toList)) ∧ Below W.heap.size W w') := Lib.hid fun W hb => (parse_any s.1 W hs (hG.keep hb)).mono fun _ _ h => ⟨h.1, h.2.toBelow⟩
  unfold labB isB labP
  obtain ⟨⟨f, nm, n⟩, hp⟩ : ∃ p, parseL s.1.toList = p := ⟨_, rfl⟩
  rw [hp] at hp0 ⊢
  replace hp := Lib.hid hp
  have hp1 : Hid (∀ W, Below w.heap.size w W → Calls Tryd.prog 76 #[.string s.1] W fun e w' => e = .returned (.agg #[.int .i64 (f : Int), .string ⟨nm.toArray⟩, .int .i64 (n : Int)]) ∧ Below W.heap.size W w') := Lib.hid hp0.out
  clear hp0
  have e5 : ((f : Int) == 5) = decide (f = 5) := by rw [Bool.eq_iff_iff, beq_iff_eq, decide_eq_true_eq]; omega
  have e1 : ((f : Int) == 1) = decide (f = 1) := by rw [Bool.eq_iff_iff, beq_iff_eq, decide_eq_true_eq]; omega
  obtain ⟨b5, h5⟩ : ∃ b, decide (f = 5) = b := ⟨_, rfl⟩
  obtain ⟨b1, h1⟩ : ∃ b, decide (f = 1) = b := ⟨_, rfl⟩
  rw [h5] at e5
  rw [h1] at e1
  have hfin : Hid ((.tuple #[tv (f, nm, n), .bool (decide (f = 5)), .bool (decide (f = 1) || decide (f = 5))] : Value) = .tuple #[.agg #[.int .i64 (f : Int), .string ⟨nm.toArray⟩, .int .i64 (n : Int)], .bool b5, .bool (b1 || b5)]) := Lib.hid (by rw [h5, h1]; rfl)
  replace h5 := Lib.hid h5
  replace h1 := Lib.hid h1
  rcases b1 with _ | _ <;> rcases b5 with _ | _
  all_goals
    go_enter Tryd.func55, Tryd.ntmps55
    go_wp2_with (go_at_call 76; go_must (refine (hp1.out _ (by repeat (first | (with_reducible exact Below.refl _ _) | (with_reducible refine Below.drew ?_) | (with_reducible refine below_drewN ?_ _) | ((with_reducible refine Below.alloc ?_ ?_ _); rotate_left; focus ((try simp) <;> omega)) | ((with_reducible refine Below.setCell ?_ ?_ _); rotate_left; focus ((try simp) <;> omega)) | ((with_reducible refine Below.trans ?_ (Below.mono (by assumption) ?_)); rotate_left; focus ((try simp) <;> omega))))).mono ?_; rintro e w1 ⟨rfl, hb1⟩; have hz1 := hb1.size; (try simp at hz1); obtain ⟨hc1, hf1⟩ := blk_at hb1 w.heap.size (by (try simp) <;> omega)))
  · have n0 : w1.cell? ⟨w.heap.size, 0, none⟩ = some (.int .i64 0) := by go_simp
    have n1 : w1.cell? ⟨w.heap.size, 1, none⟩ = some (.string ⟨#[]⟩) := by go_simp
    have n2 : w1.cell? ⟨w.heap.size, 2, none⟩ = some (.int .i64 0) := by go_simp
    obtain ⟨s0, s1, s2⟩ := set3_cells (a := .int .i64 (f : Int)) (b := .string ⟨nm.toArray⟩) (c := .int .i64 (n : Int)) n0 n1 n2
    obtain ⟨t0, t1, t2⟩ := set3_cells (a := .int .i64 (f : Int)) (b := .string ⟨nm.toArray⟩) (c := .int .i64 (n : Int)) s0 s1 s2
    exact bodyPost_ret (v := .tuple #[.agg #[.int .i64 (f : Int), .string ⟨nm.toArray⟩, .int .i64 (n : Int)], .bool false, .bool false]) (by simp [results, Tryd.results55, go_sem, t0, t1, t2]) rfl ⟨by rw [hfin.out]; rfl, (by repeat (first | (with_reducible exact Below.refl _ _) | (with_reducible refine Below.drew ?_) | (with_reducible refine below_drewN ?_ _) | ((with_reducible refine Below.alloc ?_ ?_ _); rotate_left; focus ((try simp) <;> omega)) | ((with_reducible refine Below.setCell ?_ ?_ _); rotate_left; focus ((try simp) <;> omega)) | ((with_reducible refine Below.trans ?_ (Below.mono (by assumption) ?_)); rotate_left; focus ((try simp) <;> omega))))⟩
  · have n0 : w1.cell? ⟨w.heap.size, 0, none⟩ = some (.int .i64 0) := by go_simp
    have n1 : w1.cell? ⟨w.heap.size, 1, none⟩ = some (.string ⟨#[]⟩) := by go_simp
    have n2 : w1.cell? ⟨w.heap.size, 2, none⟩ = some (.int .i64 0) := by go_simp
    obtain ⟨s0, s1, s2⟩ := set3_cells (a := .int .i64 (f : Int)) (b := .string ⟨nm.toArray⟩) (c := .int .i64 (n : Int)) n0 n1 n2
    obtain ⟨t0, t1, t2⟩ := set3_cells (a := .int .i64 (f : Int)) (b := .string ⟨nm.toArray⟩) (c := .int .i64 (n : Int)) s0 s1 s2
    exact bodyPost_ret (v := .tuple #[.agg #[.int .i64 (f : Int), .string ⟨nm.toArray⟩, .int .i64 (n : Int)], .bool true, .bool true]) (by simp [results, Tryd.results55, go_sem, t0, t1, t2]) rfl ⟨by rw [hfin.out]; rfl, (by repeat (first | (with_reducible exact Below.refl _ _) | (with_reducible refine Below.drew ?_) | (with_reducible refine below_drewN ?_ _) | ((with_reducible refine Below.alloc ?_ ?_ _); rotate_left; focus ((try simp) <;> omega)) | ((with_reducible refine Below.setCell ?_ ?_ _); rotate_left; focus ((try simp) <;> omega)) | ((with_reducible refine Below.trans ?_ (Below.mono (by assumption) ?_)); rotate_left; focus ((try simp) <;> omega))))⟩
  · have n0 : w1.cell? ⟨w.heap.size, 0, none⟩ = some (.int .i64 0) := by go_simp
    have n1 : w1.cell? ⟨w.heap.size, 1, none⟩ = some (.string ⟨#[]⟩) := by go_simp
    have n2 : w1.cell? ⟨w.heap.size, 2, none⟩ = some (.int .i64 0) := by go_simp
    obtain ⟨s0, s1, s2⟩ := set3_cells (a := .int .i64 (f : Int)) (b := .string ⟨nm.toArray⟩) (c := .int .i64 (n : Int)) n0 n1 n2
    obtain ⟨t0, t1, t2⟩ := set3_cells (a := .int .i64 (f : Int)) (b := .string ⟨nm.toArray⟩) (c := .int .i64 (n : Int)) s0 s1 s2
    exact bodyPost_ret (v := .tuple #[.agg #[.int .i64 (f : Int), .string ⟨nm.toArray⟩, .int .i64 (n : Int)], .bool false, .bool true]) (by simp [results, Tryd.results55, go_sem, t0, t1, t2]) rfl ⟨by rw [hfin.out]; rfl, (by repeat (first | (with_reducible exact Below.refl _ _) | (with_reducible refine Below.drew ?_) | (with_reducible refine below_drewN ?_ _) | ((with_reducible refine Below.alloc ?_ ?_ _); rotate_left; focus ((try simp) <;> omega)) | ((with_reducible refine Below.setCell ?_ ?_ _); rotate_left; focus ((try simp) <;> omega)) | ((with_reducible refine Below.trans ?_ (Below.mono (by assumption) ?_)); rotate_left; focus ((try simp) <;> omega))))⟩
  · have n0 : w1.cell? ⟨w.heap.size, 0, none⟩ = some (.int .i64 0) := by go_simp
    have n1 : w1.cell? ⟨w.heap.size, 1, none⟩ = some (.string ⟨#[]⟩) := by go_simp
    have n2 : w1.cell? ⟨w.heap.size, 2, none⟩ = some (.int .i64 0) := by go_simp
    obtain ⟨s0, s1, s2⟩ := set3_cells (a := .int .i64 (f : Int)) (b := .string ⟨nm.toArray⟩) (c := .int .i64 (n : Int)) n0 n1 n2
    obtain ⟨t0, t1, t2⟩ := set3_cells (a := .int .i64 (f : Int)) (b := .string ⟨nm.toArray⟩) (c := .int .i64 (n : Int)) s0 s1 s2
    exact bodyPost_ret (v := .tuple #[.agg #[.int .i64 (f : Int), .string ⟨nm.toArray⟩, .int .i64 (n : Int)], .bool true, .bool true]) (by simp [results, Tryd.results55, go_sem, t0, t1, t2]) rfl ⟨by rw [hfin.out]; rfl, (by repeat (first | (with_reducible exact Below.refl _ _) | (with_reducible refine Below.drew ?_) | (with_reducible refine below_drewN ?_ _) | ((with_reducible refine Below.alloc ?_ ?_ _); rotate_left; focus ((try simp) <;> omega)) | ((with_reducible refine Below.setCell ?_ ?_ _); rotate_left; focus ((try simp) <;> omega)) | ((with_reducible refine Below.trans ?_ (Below.mono (by assumption) ?_)); rotate_left; focus ((try simp) <;> omega))))⟩
/-- The i-th label's error. -/
def errL (ls : List Str) (i : Nat) : Int :=
  if labB ls[i]! = false then 5 else if (ls.take i).any (fun x => (labP x).2.1 == (labP ls[i]!).2.1) = true then 7 else if i ≠ 0 ∧ ¬ cmpS ls[i - 1]! ls[i]! < 0 then 22 else 0
/-- The first of n numbers that is not 0. -/
def firstE (f : Nat → Int) (n : Nat) : Int := ((List.range n).find? fun i => decide (f i ≠ 0)).elim 0 f
theorem first_at {f : Nat → Int} {n k : Nat} (hk : k < n) (h : ∀ j, j < k → f j = 0) (hf : f k ≠ 0) : firstE f n = f k := by
  unfold firstE
  have : (List.range n).find? (fun i => decide (f i ≠ 0)) = some k := by
    rw [List.find?_range_eq_some]
    refine ⟨by simpa using hf, List.mem_range.2 hk, fun j hj => by simpa using h j hj⟩
  rw [this]; rfl
theorem first_none {f : Nat → Int} {n : Nat} (h : ∀ j, j < n → f j = 0) : firstE f n = 0 := by
  unfold firstE
  have : (List.range n).find? (fun i => decide (f i ≠ 0)) = none := by
    rw [List.find?_eq_none]
    intro i hi
    simpa using h i (List.mem_range.1 hi)
  rw [this]; rfl
def labE (ls : List Str) : Int := if 32 < ls.length then 3 else firstE (errL ls) ls.length

def ascB (ls : List Str) (i : Nat) : Bool := decide (i = 0) || decide (cmpS ls[i - 1]! ls[i]! < 0)
set_option maxRecDepth 100000 in
set_option maxHeartbeats 2000000 in
theorem ascends_any (A : Option Addr) (c : Nat) (ls : List Str) (i : Nat) (w : World) (hr : Rw sE 1 w w.heap.size A ls) (hi : i < ls.length) (hn : ls.length ≤ 9223372036854775807) :
    Calls Tryd.prog 56 #[.slice A ls.length c, .int .i64 (i : Int)] w fun e w' => e = .returned (.bool (ascB ls i)) ∧ Below w.heap.size w w' := by
  rcases Nat.eq_zero_or_pos i with h0 | h0
  · have hf : ascB ls i = true := by unfold ascB; rw [decide_eq_true h0]; rfl
    rw [hf]
    subst h0
    replace hf := Lib.hid hf
    replace hr := Lib.hid hr
    go_enter Tryd.func56, Tryd.ntmps56
    go_wp2_with fail
    refine wp_region_quiet_below (by kernel_rfl) (by kernel_rfl) ?_
    repeat (go_big_quiet_step (fail))
    refine wpQuiet_nil ?_
    intro w2 hw2
    have hb2 := below_of_regrown hw2
    clear hw2
    go_wp2_with fail
    go_ret
    exact ⟨rfl, hb2⟩
  · obtain ⟨j, hj⟩ : ∃ j, j + 1 = i := ⟨i - 1, by omega⟩
    obtain ⟨x, hx⟩ := get_some (show j < ls.length by omega)
    obtain ⟨y, hy⟩ := get_some hi
    have hf : ascB ls i = decide (cmpS x y < 0) := by
      unfold ascB
      rw [decide_eq_false (by omega), show i - 1 = j by omega, get_bang hx, get_bang hy]; rfl
    rw [hf]
    obtain ⟨g, o, rfl, hg, hq⟩ := hr.str (by omega)
    have q0 := fun d os => cell_regrown (hq j x hx) d os
    have q1 := fun d os => cell_regrown (hq i y hy) d os
    have i0 : (0 : Int) ≤ (i : Int) := by omega
    have i1 : (i : Int) < (ls.length : Int) := by omega
    have j0 : (0 : Int) ≤ (j : Int) := by omega
    have j1 : (j : Int) < (ls.length : Int) := by omega
    have hiz : ((i : Int) == 0) = false := by rw [beq_eq_false_iff_ne]; omega
    have hi2 : decide (i = 0) = false := decide_eq_false (by omega)
    have hi3 : ¬ i = 0 := by omega
    have hw : IntKind.i64.wrap ((i : Int) - 1) = (j : Int) := by
      rw [show (i : Int) - 1 = (j : Int) by omega]; exact IntWalk.i64_in _ (by omega)
    have hcm : Hid (∀ W, Calls Tryd.prog 38 #[.string x.1, .string y.1] W fun e w' => e = .returned (.int .i64 (cmpS x y)) ∧ Below W.heap.size W w') := Lib.hid fun W => (compare_any _ _ x.2 y.2 W).mono fun _ _ h => ⟨h.1, h.2.toBelow⟩
    generalize cmpS x y = C at hcm hf ⊢
    replace hf := Lib.hid hf
    replace hr := Lib.hid hr
    replace hx := Lib.hid hx
    replace hy := Lib.hid hy
    replace hj := Lib.hid hj
    clear hq
    go_enter Tryd.func56, Tryd.ntmps56
    go_wp2_with fail
    refine wp_region_quiet_below (by kernel_rfl) (by kernel_rfl) ?_
    repeat (go_big_quiet_step ((go_at_call 38; exact Calls.regrown_of (hcm.out _))))
    refine wpQuiet_nil ?_
    intro w2 hw2
    have hb2 := below_of_regrown hw2
    clear hw2
    go_wp2_with fail
    go_ret
    exact ⟨rfl, hb2⟩

/-- The keys of the first k labels. -/
def Seen (ls : List Str) (k : Nat) (x : Lit) : Prop := ∃ (j : Nat) (y : Str), j < k ∧ ls[j]? = some y ∧ x = .string (labP y).2.1
theorem seen_iff {ls : List Str} {k : Nat} {nm : List UInt8} : ((ls.take k).any (fun x => (labP x).2.1 == nm) = true) ↔ Seen ls k (.string nm) := by
  rw [List.any_eq_true]
  constructor
  · rintro ⟨x, hx, h⟩
    obtain ⟨j, hj⟩ := List.getElem?_of_mem hx
    rw [List.getElem?_take] at hj
    split at hj
    · rename_i hjk
      exact ⟨j, x, hjk, hj, by rw [beq_iff_eq.1 h]⟩
    · cases hj
  · rintro ⟨j, y, hj, hy, e⟩
    refine ⟨y, List.mem_of_getElem? (i := j) (by rw [List.getElem?_take_of_lt hj]; exact hy), ?_⟩
    rw [beq_iff_eq]
    exact (Lit.string.inj e).symm
theorem seen_succ {ls : List Str} {k : Nat} {y : Str} (hy : ls[k]? = some y) (x : Lit) : Seen ls (k + 1) x ↔ x = .string (labP y).2.1 ∨ Seen ls k x := by
  constructor
  · rintro ⟨j, z, hj, hz, e⟩
    by_cases h : j = k
    · subst h
      rw [hy] at hz
      obtain rfl : y = z := by simpa using hz
      exact Or.inl e
    · exact Or.inr ⟨j, z, by omega, hz, e⟩
  · rintro (e | ⟨j, z, hj, hz, e⟩)
    · exact ⟨k, y, by omega, hy, e⟩
    · exact ⟨j, z, by omega, hz, e⟩
theorem MapB.congr {P : Program} {k e : TypeId} {w : World} {b n : Nat} {S T : Lit → Prop} (h : MapB P k e w b n S) (hst : ∀ x, T x ↔ S x) : MapB P k e w b n T := by
  obtain ⟨D, h1, h2, h3⟩ := h
  exact ⟨D, h1, h2, fun x => ⟨fun h => (h3 x).1 ((hst x).1 h), fun h => (h3 x).2 fun h' => h ((hst x).2 h')⟩⟩
theorem nm_small {s : Str} (h : labB s = true) : (labP s).2.1.length ≤ 64 := by
  unfold labB at h
  rw [Bool.or_eq_true, decide_eq_true_eq, decide_eq_true_eq] at h
  have hn : nL (labP s).2.1 = true := by
    unfold labP at h ⊢
    have hpart : ∀ f nm r, (partL f nm r).1 ≠ 0 → nL (partL f nm r).2.1 = true := fun f nm r h => by
      unfold partL at h ⊢
      split
      · rename_i h2; exact h2.2
      · rename_i h2; rw [if_neg h2] at h; exact absurd rfl h
    have hcomp : ∀ l, (compL l).1 ≠ 0 → nL (compL l).2.1 = true := fun l h => by
      unfold compL at h ⊢
      split
      · rename_i h2; rw [if_pos h2] at h; exact hpart _ _ _ h
      · rename_i h2
        rw [if_neg h2] at h
        split
        · rename_i h3; rw [if_pos h3] at h; exact hpart _ _ _ h
        · rename_i h3
          rw [if_neg h3] at h
          split
          · rename_i h4; rw [if_pos h4] at h; exact hpart _ _ _ h
          · rename_i h4; rw [if_neg h4] at h; exact absurd rfl h
    unfold parseL at h ⊢
    split
    · rename_i h1; exact h1
    · rename_i h1
      rw [if_neg h1] at h
      split
      · rename_i h2; exact h2.2
      · rename_i h2
        rw [if_neg h2] at h
        exact hcomp _ (by omega)
  unfold nL nameB at hn
  simp only [Bool.and_eq_true, decide_eq_true_eq] at hn
  exact hn.1.2
end Go.Proofs.YtnahbfmbmpoljaaDoor
