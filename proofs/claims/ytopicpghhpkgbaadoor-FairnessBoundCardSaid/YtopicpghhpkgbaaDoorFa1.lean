/-
  The walks of fairness: whether shares are valid, by the program and by the reference; few shares.
-/
import Derived.Test.YtopicpghhpkgbaaDoorShareSt
import Derived.Test.YtopicpghhpkgbaaDoorIdentn
import Derived.Test.YtopicpghhpkgbaaDoorIdent5p
import Derived.Laws.StructEq
import Derived.Lib.QuietBelow



namespace Go.Proofs.YtopicpghhpkgbaaDoor
open Go.RowKit

theorem blk_at {W w1 : World} (hb : Below W.heap.size W w1) (g : Nat) (hg : g < W.heap.size) : (∀ o, w1.cell? ⟨g, o, none⟩ = W.cell? ⟨g, o, none⟩) ∧ (∀ o, w1.frozen? ⟨g, o, none⟩ = W.frozen? ⟨g, o, none⟩) :=
  ⟨fun o => hb.cell (p := ⟨g, o, none⟩) hg, fun o => hb.frozen (p := ⟨g, o, none⟩) hg⟩
theorem below_of_regrown {w w' : World} (h : ∃ p : Regrown, w' = Sort.grow (redrawn w p.d) p.os) : Below w.heap.size w w' := by
  obtain ⟨p, rfl⟩ := h
  exact below_regrown w p.d p.os
def okS (x : Share) : Bool := nameB x.proj.1 && decide (1 ≤ x.weight.1) && decide (x.weight.1 ≤ 1000) && decide (0 ≤ x.served.1) && decide (x.served.1 ≤ 1125899906842624)
/-- A share at its place: valid, and behind the one before. -/
def okAt (l : List Share) (i : Nat) : Bool := okS l[i]! && (decide (i = 0) || decide (cmpS l[i - 1]!.proj l[i]!.proj < 0))
def validS (l : List Share) : Bool := decide (l.length ≤ 64) && (List.range l.length).all (okAt l)
theorem get_bang {α : Type} [Inhabited α] {l : List α} {k : Nat} {x : α} (h : l[k]? = some x) : l[k]! = x := by
  rw [getElem!_def, h]

set_option maxHeartbeats 1000000 in
theorem right_any (x : Share) (w : World) : Calls Tryd.prog 38 #[.agg #[.string x.proj.1, .int .i64 x.weight.1, .int .i64 x.served.1]] w fun e w' => e = .returned (.bool (okS x)) ∧ Below w.heap.size w w' := by
  have hn : Hid (∀ W, Calls Tryd.prog 31 #[.string x.proj.1] W fun e w' => e = .returned (.bool (nameB x.proj.1)) ∧ W = w') := Lib.hid fun W => rname_any _ W x.proj.2
  go_enter Tryd.func38, Tryd.ntmps38
  go_wp2_with (go_at_call 31; go_must (refine (hn.out _).mono ?_; rintro e w' ⟨rfl, rfl⟩))
  all_goals
    go_ret
    exact ⟨ret_bool (by unfold okS; first | (simp [*]; done) | (simp_all; done) | (rw [Bool.eq_iff_iff]; simp_all; try omega)), (by repeat (first | (with_reducible exact Below.refl _ _) | (with_reducible refine Below.drew ?_) | (with_reducible refine below_drewN ?_ _) | ((with_reducible refine Below.alloc ?_ ?_ _); rotate_left; focus ((try simp) <;> omega)) | ((with_reducible refine Below.setCell ?_ ?_ _); rotate_left; focus ((try simp) <;> omega)) | ((with_reducible refine Below.trans ?_ (Below.mono (by assumption) ?_)); rotate_left; focus ((try simp) <;> omega))))⟩

theorem okAt_zero {l : List Share} {x : Share} (hx : l[0]? = some x) : okAt l 0 = okS x := by
  unfold okAt; rw [get_bang hx]; simp
theorem okAt_succ {l : List Share} {k : Nat} {x y : Share} (hx : l[k + 1]? = some x) (hy : l[k]? = some y) : okAt l (k + 1) = (okS x && decide (cmpS y.proj x.proj < 0)) := by
  unfold okAt; rw [get_bang hx, Nat.add_sub_cancel, get_bang hy]; simp
theorem valid_false {l : List Share} {k : Nat} (hk : k < l.length) (h : okAt l k = false) : validS l = false := by
  unfold validS; rw [range_false _ hk h, Bool.and_false]
theorem valid_all {l : List Share} (h : (List.range l.length).all (okAt l) = true) : validS l = decide (l.length ≤ 64) := by
  unfold validS; rw [h, Bool.and_true]

set_option maxRecDepth 100000 in
set_option maxHeartbeats 4000000 in
theorem rvalid_any (A : Option Addr) (c : Nat) (l : List Share) (w : World) (hr : Rw shareE 3 w w.heap.size A l) (hn : l.length ≤ 9223372036854775807) :
    Calls Tryd.prog 19 #[.slice A l.length c] w fun e w' => e = .returned (.bool (validS l)) ∧ Below w.heap.size w w' := by
  obtain ⟨B, hB⟩ : ∃ B, w.heap.size = B := ⟨_, rfl⟩
  rw [hB] at hr ⊢
  have hB2 := Nat.le_of_eq hB
  have hB3 := Nat.le_of_eq hB.symm
  replace hB := Lib.hid hB
  replace hr := Lib.hid hr
  go_enter Tryd.func19, Tryd.ntmps19
  go_wp2_with fail
  go_loopw [3] (fun vi wr => ∃ k : Nat, k ≤ l.length ∧ vi = .int .i64 (k : Int) ∧ (List.range k).all (okAt l) = true ∧ Below B w wr) (fun vi _ => l.length - (intOf vi).toNat)
  case atStart => exact ⟨0, Nat.zero_le _, rfl, rfl, Below.refl _ _⟩
  case round =>
    obtain ⟨k, hk, rfl, ht, hbw⟩ := hrel
    have hz := hbw.size
    replace ht := Lib.hid ht
    by_cases hkl : k < l.length
    · obtain ⟨x, hx⟩ := get_some hkl
      obtain ⟨g, o, rfl, hg, hq⟩ := hr.out (by omega)
      have q : ∀ j u, (shareE x)[j]? = some u → wr.cell? ⟨g, o + k * 3 + j, none⟩ = some u := fun j u hu => (hbw.cell (p := ⟨g, o + k * 3 + j, none⟩) hg).trans (hq k x hx j u hu)
      have q0 := q 0 (.string x.proj.1) rfl
      try rw [Nat.add_zero] at q0
      have q1 := q 1 (.int .i64 x.weight.1) rfl
      have q2 := q 2 (.int .i64 x.served.1) rfl
      clear q
      have i0 : (0 : Int) ≤ (k : Int) := by omega
      have i1 : (k : Int) < (l.length : Int) := by omega
      have hrt := fun W => right_any x W
      rcases hs : okS x with _ | _
      · have hf : Hid (validS l = false) := Lib.hid (by
          refine valid_false hkl ?_
          rcases k with _ | b
          · rw [okAt_zero hx]; exact hs
          · obtain ⟨y, hy⟩ := get_some (show b < l.length by omega)
            rw [okAt_succ hx hy, hs]; rfl)
        rw [hs] at hrt
        replace hrt := Lib.hid hrt
        replace q0 := fun d os => cell_regrown q0 d os
        replace q1 := fun d os => cell_regrown q1 d os
        replace q2 := fun d os => cell_regrown q2 d os
        go_wp2_with fail
        refine wp_region_quiet_below (by kernel_rfl) (by kernel_rfl) ?_
        repeat (go_big_quiet_step ((go_at_call 38; exact Calls.regrown_of (hrt.out _))))
        refine wpQuiet_nil ?_
        intro w2 hw2
        have hb2 := below_of_regrown hw2
        clear hw2
        have hz2 := hb2.size
        go_wp2_with fail
        go_ret
        exact ⟨ret_bool hf.out.symm, (by repeat (first | (with_reducible exact Below.refl _ _) | (with_reducible refine Below.drew ?_) | (with_reducible refine below_drewN ?_ _) | ((with_reducible refine Below.alloc ?_ ?_ _); rotate_left; focus ((try simp) <;> omega)) | ((with_reducible refine Below.setCell ?_ ?_ _); rotate_left; focus ((try simp) <;> omega)) | ((with_reducible refine Below.trans ?_ (Below.mono (by assumption) ?_)); rotate_left; focus ((try simp) <;> omega))))⟩
      · rw [hs] at hrt
        replace hrt := Lib.hid hrt
        rcases Nat.eq_zero_or_pos k with hk0 | hk0
        · have hok : Hid (okAt l k = true) := Lib.hid (by rw [hk0] at hx ⊢; rw [okAt_zero hx]; exact hs)
          have hgd : decide ((k : Int) > 0) = false := decide_eq_false (by omega)
          have hgn : ¬ 0 < k := by omega
          have hgd2 : decide (0 < k) = false := decide_eq_false hgn
          replace hk0 := Lib.hid hk0
          replace q0 := fun d os => cell_regrown q0 d os
          replace q1 := fun d os => cell_regrown q1 d os
          replace q2 := fun d os => cell_regrown q2 d os
          go_wp2_with fail
          refine wp_region_quiet_below (by kernel_rfl) (by kernel_rfl) ?_
          repeat (go_big_quiet_step ((go_at_call 38; exact Calls.regrown_of (hrt.out _))))
          refine wpQuiet_nil ?_
          intro w2 hw2
          have hb2 := below_of_regrown hw2
          clear hw2
          have hz2 := hb2.size
          go_wp2_with fail
          go_roundw
          case rel => exact ⟨k + 1, by omega, by go_num, by rw [range_take _ hkl ht.out]; exact hok.out, hbw.trans (hb2.mono (by omega))⟩
          case measure => simp [intOf]; omega
        · obtain ⟨b, rfl⟩ : ∃ b, k = b + 1 := ⟨k - 1, by omega⟩
          clear hk0
          obtain ⟨y, hy⟩ := get_some (show b < l.length by omega)
          have p0 : wr.cell? ⟨g, o + b * 3, none⟩ = some (.string y.proj.1) := by
            have := (hbw.cell (p := ⟨g, o + b * 3 + 0, none⟩) hg).trans (hq b y hy 0 (.string y.proj.1) rfl)
            simpa using this
          have i2 : (0 : Int) ≤ (b : Int) := by omega
          have i3 : (b : Int) < (l.length : Int) := by omega
          have i4 : (0 : Int) < (b : Int) + 1 := by omega
          obtain ⟨C, hC⟩ : ∃ C, cmpS y.proj x.proj = C := ⟨_, rfl⟩
          have hcm : Hid (∀ W, Calls Tryd.prog 39 #[.string y.proj.1, .string x.proj.1] W fun e w' => e = .returned (.int .i64 C) ∧ Below W.heap.size W w') := Lib.hid fun W => (rcompare_any _ _ y.proj.2 x.proj.2 W).mono fun _ _ h => ⟨by rw [h.1, ← hC]; rfl, by obtain ⟨n, e⟩ := h.2; rw [e]; exact below_drewN (Below.refl _ _) _⟩
          by_cases hneg : C < 0
          · have hok : Hid (okAt l (b + 1) = true) := Lib.hid (by rw [okAt_succ hx hy, hs, hC, decide_eq_true hneg]; rfl)
            have hnd : decide (C ≥ 0) = false := decide_eq_false (by omega)
            replace hC := Lib.hid hC
            replace hx := Lib.hid hx
            replace hy := Lib.hid hy
            replace q0 := fun d os => cell_regrown q0 d os
            replace q1 := fun d os => cell_regrown q1 d os
            replace q2 := fun d os => cell_regrown q2 d os
            replace p0 := fun d os => cell_regrown p0 d os
            go_wp2_with fail
            refine wp_region_quiet_below (by kernel_rfl) (by kernel_rfl) ?_
            repeat (go_big_quiet_step ((first | (go_at_call 38; exact Calls.regrown_of (hrt.out _)) | (go_at_call 39; exact Calls.regrown_of (hcm.out _)))))
            refine wpQuiet_nil ?_
            intro w2 hw2
            have hb2 := below_of_regrown hw2
            clear hw2
            have hz2 := hb2.size
            go_wp2_with fail
            go_roundw
            case rel => exact ⟨b + 1 + 1, by omega, by go_num, by rw [range_take _ hkl ht.out]; exact hok.out, hbw.trans (hb2.mono (by omega))⟩
            case measure => simp [intOf]; omega
          · have hf : Hid (validS l = false) := Lib.hid (valid_false hkl (by rw [okAt_succ hx hy, hC, decide_eq_false hneg, Bool.and_false]))
            have hnd : decide (C ≥ 0) = true := decide_eq_true (by omega)
            replace hC := Lib.hid hC
            replace hx := Lib.hid hx
            replace hy := Lib.hid hy
            replace q0 := fun d os => cell_regrown q0 d os
            replace q1 := fun d os => cell_regrown q1 d os
            replace q2 := fun d os => cell_regrown q2 d os
            replace p0 := fun d os => cell_regrown p0 d os
            go_wp2_with fail
            refine wp_region_quiet_below (by kernel_rfl) (by kernel_rfl) ?_
            repeat (go_big_quiet_step ((first | (go_at_call 38; exact Calls.regrown_of (hrt.out _)) | (go_at_call 39; exact Calls.regrown_of (hcm.out _)))))
            refine wpQuiet_nil ?_
            intro w2 hw2
            have hb2 := below_of_regrown hw2
            clear hw2
            have hz2 := hb2.size
            go_wp2_with fail
            go_ret
            exact ⟨ret_bool hf.out.symm, (by repeat (first | (with_reducible exact Below.refl _ _) | (with_reducible refine Below.drew ?_) | (with_reducible refine below_drewN ?_ _) | ((with_reducible refine Below.alloc ?_ ?_ _); rotate_left; focus ((try simp) <;> omega)) | ((with_reducible refine Below.setCell ?_ ?_ _); rotate_left; focus ((try simp) <;> omega)) | ((with_reducible refine Below.trans ?_ (Below.mono (by assumption) ?_)); rotate_left; focus ((try simp) <;> omega))))⟩
    · have i1 : ¬ (k : Int) < (l.length : Int) := by omega
      obtain rfl : k = l.length := by omega
      have hf : Hid (validS l = decide (l.length ≤ 64)) := Lib.hid (valid_all ht.out)
      go_wp2_with fail
      go_ret
      exact ⟨ret_bool (by rw [hf.out]; simp; omega), hbw⟩

theorem box_cells (w : World) (cs : Array Value) (T : TypeId) (j : Nat) (u : Value) (h : cs.toList[j]? = some u) : (w.alloc (.cells cs T)).cell? ⟨w.heap.size, j, none⟩ = some u := by
  rw [cell_of_row _ _ _ cs T (0, 0) (heap_alloc_new w _), ← Array.getElem?_toList]
  exact h
set_option maxRecDepth 100000 in
set_option maxHeartbeats 8000000 in
theorem valid_any (A : Option Addr) (c : Nat) (l : List Share) (w : World) (hr : Rw shareE 3 w w.heap.size A l) (hn : l.length ≤ 9223372036854775807) :
    Calls Tryd.prog 23 #[.slice A l.length c] w fun e w' => e = .returned (.bool (validS l)) ∧ Below w.heap.size w w' := by
  by_cases h64 : l.length > 64
  · have hf : validS l = false := by unfold validS; rw [decide_eq_false (by omega)]; rfl
    rw [hf]
    have h64z : (l.length : Int) > 64 := by omega
    go_enter Tryd.func23, Tryd.ntmps23
    go_wp2_with fail
    go_ret
    exact ⟨rfl, Below.refl _ _⟩
  have h64z : ¬ (l.length : Int) > 64 := by omega
  obtain ⟨B, hB⟩ : ∃ B, w.heap.size = B := ⟨_, rfl⟩
  rw [hB] at hr ⊢
  have hB2 := Nat.le_of_eq hB
  have hB3 := Nat.le_of_eq hB.symm
  replace hB := Lib.hid hB
  replace hr := Lib.hid hr
  go_enter Tryd.func23, Tryd.ntmps23
  go_wp2_with fail
  go_loopw [10] (fun vi wr => ∃ k : Nat, k ≤ l.length ∧ vi = .int .i64 (k : Int) ∧ (List.range k).all (okAt l) = true ∧ Below B w wr) (fun vi _ => l.length - (intOf vi).toNat)
  case atStart => exact ⟨0, Nat.zero_le _, rfl, rfl, Below.refl _ _⟩
  case round =>
    obtain ⟨k, hk, rfl, ht, hbw⟩ := hrel
    have hz := hbw.size
    replace ht := Lib.hid ht
    by_cases hkl : k < l.length
    · obtain ⟨x, hx⟩ := get_some hkl
      obtain ⟨g, o, rfl, hg, hq⟩ := hr.out (by omega)
      have q : ∀ j u, (shareE x)[j]? = some u → wr.cell? ⟨g, o + k * 3 + j, none⟩ = some u := fun j u hu => (hbw.cell (p := ⟨g, o + k * 3 + j, none⟩) hg).trans (hq k x hx j u hu)
      have q0 := q 0 (.string x.proj.1) rfl
      try rw [Nat.add_zero] at q0
      have q1 := q 1 (.int .i64 x.weight.1) rfl
      have q2 := q 2 (.int .i64 x.served.1) rfl
      clear q
      have i0 : (0 : Int) ≤ (k : Int) := by omega
      have i1 : (k : Int) < (l.length : Int) := by omega
      rcases Nat.eq_zero_or_pos k with hk0 | hk0
      · have hx0 : l[0]? = some x := by rw [hk0] at hx; exact hx
        have hgood : Hid (okS x = true → okAt l k = true) := Lib.hid (fun h => by rw [hk0, okAt_zero hx0]; exact h)
        have hbad : Hid (okS x = false → validS l = false) := Lib.hid (fun h => valid_false hkl (by rw [hk0, okAt_zero hx0]; exact h))
        have hgn : ¬ 0 < k := by omega
        have hgd2 : decide (0 < k) = false := decide_eq_false hgn
        replace hk0 := Lib.hid hk0
        clear hx0
        replace hx := Lib.hid hx
        obtain ⟨W1, hW1⟩ : ∃ W, wr.alloc (.cells #[.string x.proj.1, .int .i64 x.weight.1, .int .i64 x.served.1] 39) = W := ⟨_, rfl⟩
        have hb1 : Below wr.heap.size wr W1 := by rw [← hW1]; exact (Below.refl _ _).alloc (Nat.le_refl _) _
        have hz1 : W1.heap.size = wr.heap.size + 1 := by rw [← hW1]; simp
        have hz1a := Nat.le_of_eq hz1
        have hz1b := Nat.le_of_eq hz1.symm
        have a0 := box_cells wr #[.string x.proj.1, .int .i64 x.weight.1, .int .i64 x.served.1] 39 0 _ rfl
        have a1 := box_cells wr #[.string x.proj.1, .int .i64 x.weight.1, .int .i64 x.served.1] 39 1 _ rfl
        have a2 := box_cells wr #[.string x.proj.1, .int .i64 x.weight.1, .int .i64 x.served.1] 39 2 _ rfl
        rw [hW1] at a0 a1 a2
        replace hz1 := Lib.hid hz1
        have A0 := Lib.hid a0
        have A1 := Lib.hid a1
        have A2 := Lib.hid a2
        go_wp2_with fail
        clear hW1 q0 q1 q2
        replace a0 := fun d os => cell_regrown a0 d os
        clear a1 a2
        refine wp_region_quiet_below (by kernel_rfl) (by kernel_rfl) ?_
        repeat (go_big_quiet_step (fail))
        refine wpQuiet_nil ?_
        intro w2 hw2
        have hb2 := below_of_regrown hw2
        clear hw2
        have hz2 := hb2.size
        clear a0
        have a0 := (hb2.cell (p := ⟨wr.heap.size, 0, none⟩) (by show wr.heap.size < _; omega)).trans A0.out
        have a1 := (hb2.cell (p := ⟨wr.heap.size, 1, none⟩) (by show wr.heap.size < _; omega)).trans A1.out
        have a2 := (hb2.cell (p := ⟨wr.heap.size, 2, none⟩) (by show wr.heap.size < _; omega)).trans A2.out
        have hbw2 : Below B w w2 := (hbw.trans (hb1.mono (by omega))).trans (hb2.mono (by omega))
        rcases hn1 : nameB x.proj.1 with _ | _
        · have hf : Hid (validS l = false) := Lib.hid (hbad.out (by unfold okS; rw [hn1]; rfl))
          have hnm : Hid (∀ W, Calls Tryd.prog 24 #[.string x.proj.1] W fun e w' => e = .returned (.bool false) ∧ Bel W.heap.size W w') := Lib.hid fun W => by rw [← hn1]; exact name_any _ W x.proj.2
          replace hn1 := Lib.hid hn1
          go_wp2_with (go_at_call 24; go_must (refine (hnm.out _).mono ?_; rintro e w3 ⟨rfl, hb3⟩; have hz3 := hb3.size; obtain ⟨hc3, hf3⟩ := blk_at hb3.toBelow wr.heap.size (by omega)))
          go_ret
          exact ⟨ret_bool hf.out.symm, hbw2.trans (hb3.toBelow.mono (by omega))⟩
        by_cases h1 : x.weight.1 < 1
        · have hf : Hid (validS l = false) := Lib.hid (hbad.out (by unfold okS; rw [decide_eq_false (show ¬ 1 ≤ x.weight.1 by omega)]; simp))
          have hnm : Hid (∀ W, Calls Tryd.prog 24 #[.string x.proj.1] W fun e w' => e = .returned (.bool true) ∧ Bel W.heap.size W w') := Lib.hid fun W => by rw [← hn1]; exact name_any _ W x.proj.2
          replace hn1 := Lib.hid hn1
          go_wp2_with (go_at_call 24; go_must (refine (hnm.out _).mono ?_; rintro e w3 ⟨rfl, hb3⟩; have hz3 := hb3.size; obtain ⟨hc3, hf3⟩ := blk_at hb3.toBelow wr.heap.size (by omega)))
          go_ret
          exact ⟨ret_bool hf.out.symm, hbw2.trans (hb3.toBelow.mono (by omega))⟩
        by_cases h2 : x.weight.1 > 1000
        · have hf : Hid (validS l = false) := Lib.hid (hbad.out (by unfold okS; rw [decide_eq_false (show ¬ x.weight.1 ≤ 1000 by omega)]; simp))
          have hnm : Hid (∀ W, Calls Tryd.prog 24 #[.string x.proj.1] W fun e w' => e = .returned (.bool true) ∧ Bel W.heap.size W w') := Lib.hid fun W => by rw [← hn1]; exact name_any _ W x.proj.2
          replace hn1 := Lib.hid hn1
          go_wp2_with (go_at_call 24; go_must (refine (hnm.out _).mono ?_; rintro e w3 ⟨rfl, hb3⟩; have hz3 := hb3.size; obtain ⟨hc3, hf3⟩ := blk_at hb3.toBelow wr.heap.size (by omega)))
          go_ret
          exact ⟨ret_bool hf.out.symm, hbw2.trans (hb3.toBelow.mono (by omega))⟩
        by_cases h3 : x.served.1 < 0
        · have hf : Hid (validS l = false) := Lib.hid (hbad.out (by unfold okS; rw [decide_eq_false (show ¬ 0 ≤ x.served.1 by omega)]; simp))
          have hnm : Hid (∀ W, Calls Tryd.prog 24 #[.string x.proj.1] W fun e w' => e = .returned (.bool true) ∧ Bel W.heap.size W w') := Lib.hid fun W => by rw [← hn1]; exact name_any _ W x.proj.2
          replace hn1 := Lib.hid hn1
          go_wp2_with (go_at_call 24; go_must (refine (hnm.out _).mono ?_; rintro e w3 ⟨rfl, hb3⟩; have hz3 := hb3.size; obtain ⟨hc3, hf3⟩ := blk_at hb3.toBelow wr.heap.size (by omega)))
          go_ret
          exact ⟨ret_bool hf.out.symm, hbw2.trans (hb3.toBelow.mono (by omega))⟩
        by_cases h4 : x.served.1 > 1125899906842624
        · have hf : Hid (validS l = false) := Lib.hid (hbad.out (by unfold okS; rw [decide_eq_false (show ¬ x.served.1 ≤ 1125899906842624 by omega)]; simp))
          have hnm : Hid (∀ W, Calls Tryd.prog 24 #[.string x.proj.1] W fun e w' => e = .returned (.bool true) ∧ Bel W.heap.size W w') := Lib.hid fun W => by rw [← hn1]; exact name_any _ W x.proj.2
          replace hn1 := Lib.hid hn1
          go_wp2_with (go_at_call 24; go_must (refine (hnm.out _).mono ?_; rintro e w3 ⟨rfl, hb3⟩; have hz3 := hb3.size; obtain ⟨hc3, hf3⟩ := blk_at hb3.toBelow wr.heap.size (by omega)))
          go_ret
          exact ⟨ret_bool hf.out.symm, hbw2.trans (hb3.toBelow.mono (by omega))⟩
        have hok : Hid (okAt l k = true) := Lib.hid (hgood.out (by unfold okS; rw [hn1, decide_eq_true (show 1 ≤ x.weight.1 by omega), decide_eq_true (show x.weight.1 ≤ 1000 by omega), decide_eq_true (show 0 ≤ x.served.1 by omega), decide_eq_true (show x.served.1 ≤ 1125899906842624 by omega)]; rfl))
        have hnm : Hid (∀ W, Calls Tryd.prog 24 #[.string x.proj.1] W fun e w' => e = .returned (.bool true) ∧ Bel W.heap.size W w') := Lib.hid fun W => by rw [← hn1]; exact name_any _ W x.proj.2
        replace hn1 := Lib.hid hn1
        go_wp2_with (go_at_call 24; go_must (refine (hnm.out _).mono ?_; rintro e w3 ⟨rfl, hb3⟩; have hz3 := hb3.size; obtain ⟨hc3, hf3⟩ := blk_at hb3.toBelow wr.heap.size (by omega)))
        go_roundw
        case rel => exact ⟨k + 1, by omega, by go_num, by rw [range_take _ hkl ht.out]; exact hok.out, hbw2.trans (hb3.toBelow.mono (by omega))⟩
        case measure => simp [intOf]; omega
      · obtain ⟨b, hb⟩ : ∃ b, k = b + 1 := ⟨k - 1, by omega⟩
        subst hb
        obtain ⟨y, hy⟩ := get_some (show b < l.length by omega)
        have p0 : wr.cell? ⟨g, o + b * 3, none⟩ = some (.string y.proj.1) := by
          have := (hbw.cell (p := ⟨g, o + b * 3 + 0, none⟩) hg).trans (hq b y hy 0 (.string y.proj.1) rfl)
          simpa using this
        have i2 : (0 : Int) ≤ (b : Int) := by omega
        have i3 : (b : Int) < (l.length : Int) := by omega
        have i4 : (0 : Int) < (b : Int) + 1 := by omega
        obtain ⟨C, hC⟩ : ∃ C, cmpS y.proj x.proj = C := ⟨_, rfl⟩
        have hcm : Hid (∀ W, Calls Tryd.prog 43 #[.string y.proj.1, .string x.proj.1] W fun e w' => e = .returned (.int .i64 C) ∧ Below W.heap.size W w') := Lib.hid fun W => (compare_any _ _ y.proj.2 x.proj.2 W).mono fun _ _ h => ⟨by rw [h.1, ← hC]; rfl, h.2.toBelow⟩
        clear hk0
        by_cases hneg : C < 0
        · have hgood : Hid (okS x = true → okAt l (b + 1) = true) := Lib.hid (fun h => by rw [okAt_succ hx hy, hC, decide_eq_true hneg, h]; rfl)
          have hbad : Hid (okS x = false → validS l = false) := Lib.hid (fun h => valid_false hkl (by rw [okAt_succ hx hy, h]; rfl))
          have hnd : decide (C ≥ 0) = false := decide_eq_false (by omega)
          replace hC := Lib.hid hC
          replace hx := Lib.hid hx
          replace hy := Lib.hid hy
          obtain ⟨W1, hW1⟩ : ∃ W, wr.alloc (.cells #[.string x.proj.1, .int .i64 x.weight.1, .int .i64 x.served.1] 39) = W := ⟨_, rfl⟩
          have hb1 : Below wr.heap.size wr W1 := by rw [← hW1]; exact (Below.refl _ _).alloc (Nat.le_refl _) _
          have hz1 : W1.heap.size = wr.heap.size + 1 := by rw [← hW1]; simp
          have hz1a := Nat.le_of_eq hz1
          have hz1b := Nat.le_of_eq hz1.symm
          have a0 := box_cells wr #[.string x.proj.1, .int .i64 x.weight.1, .int .i64 x.served.1] 39 0 _ rfl
          have a1 := box_cells wr #[.string x.proj.1, .int .i64 x.weight.1, .int .i64 x.served.1] 39 1 _ rfl
          have a2 := box_cells wr #[.string x.proj.1, .int .i64 x.weight.1, .int .i64 x.served.1] 39 2 _ rfl
          rw [hW1] at a0 a1 a2
          replace hz1 := Lib.hid hz1
          have A0 := Lib.hid a0
          have A1 := Lib.hid a1
          have A2 := Lib.hid a2
          go_wp2_with fail
          clear hW1 q0 q1 q2
          replace a0 := fun d os => cell_regrown a0 d os
          clear a1 a2
          replace p0 := fun d os => cell_regrown ((hb1.cell (p := ⟨g, o + b * 3, none⟩) (by show g < wr.heap.size; omega)).trans p0) d os
          refine wp_region_quiet_below (by kernel_rfl) (by kernel_rfl) ?_
          repeat (go_big_quiet_step ((go_at_call 43; exact Calls.regrown_of (hcm.out _))))
          refine wpQuiet_nil ?_
          intro w2 hw2
          have hb2 := below_of_regrown hw2
          clear hw2
          have hz2 := hb2.size
          clear a0
          have a0 := (hb2.cell (p := ⟨wr.heap.size, 0, none⟩) (by show wr.heap.size < _; omega)).trans A0.out
          have a1 := (hb2.cell (p := ⟨wr.heap.size, 1, none⟩) (by show wr.heap.size < _; omega)).trans A1.out
          have a2 := (hb2.cell (p := ⟨wr.heap.size, 2, none⟩) (by show wr.heap.size < _; omega)).trans A2.out
          have hbw2 : Below B w w2 := (hbw.trans (hb1.mono (by omega))).trans (hb2.mono (by omega))
          clear p0
          rcases hn1 : nameB x.proj.1 with _ | _
          · have hf : Hid (validS l = false) := Lib.hid (hbad.out (by unfold okS; rw [hn1]; rfl))
            have hnm : Hid (∀ W, Calls Tryd.prog 24 #[.string x.proj.1] W fun e w' => e = .returned (.bool false) ∧ Bel W.heap.size W w') := Lib.hid fun W => by rw [← hn1]; exact name_any _ W x.proj.2
            replace hn1 := Lib.hid hn1
            go_wp2_with (go_at_call 24; go_must (refine (hnm.out _).mono ?_; rintro e w3 ⟨rfl, hb3⟩; have hz3 := hb3.size; obtain ⟨hc3, hf3⟩ := blk_at hb3.toBelow wr.heap.size (by omega)))
            go_ret
            exact ⟨ret_bool hf.out.symm, hbw2.trans (hb3.toBelow.mono (by omega))⟩
          by_cases h1 : x.weight.1 < 1
          · have hf : Hid (validS l = false) := Lib.hid (hbad.out (by unfold okS; rw [decide_eq_false (show ¬ 1 ≤ x.weight.1 by omega)]; simp))
            have hnm : Hid (∀ W, Calls Tryd.prog 24 #[.string x.proj.1] W fun e w' => e = .returned (.bool true) ∧ Bel W.heap.size W w') := Lib.hid fun W => by rw [← hn1]; exact name_any _ W x.proj.2
            replace hn1 := Lib.hid hn1
            go_wp2_with (go_at_call 24; go_must (refine (hnm.out _).mono ?_; rintro e w3 ⟨rfl, hb3⟩; have hz3 := hb3.size; obtain ⟨hc3, hf3⟩ := blk_at hb3.toBelow wr.heap.size (by omega)))
            go_ret
            exact ⟨ret_bool hf.out.symm, hbw2.trans (hb3.toBelow.mono (by omega))⟩
          by_cases h2 : x.weight.1 > 1000
          · have hf : Hid (validS l = false) := Lib.hid (hbad.out (by unfold okS; rw [decide_eq_false (show ¬ x.weight.1 ≤ 1000 by omega)]; simp))
            have hnm : Hid (∀ W, Calls Tryd.prog 24 #[.string x.proj.1] W fun e w' => e = .returned (.bool true) ∧ Bel W.heap.size W w') := Lib.hid fun W => by rw [← hn1]; exact name_any _ W x.proj.2
            replace hn1 := Lib.hid hn1
            go_wp2_with (go_at_call 24; go_must (refine (hnm.out _).mono ?_; rintro e w3 ⟨rfl, hb3⟩; have hz3 := hb3.size; obtain ⟨hc3, hf3⟩ := blk_at hb3.toBelow wr.heap.size (by omega)))
            go_ret
            exact ⟨ret_bool hf.out.symm, hbw2.trans (hb3.toBelow.mono (by omega))⟩
          by_cases h3 : x.served.1 < 0
          · have hf : Hid (validS l = false) := Lib.hid (hbad.out (by unfold okS; rw [decide_eq_false (show ¬ 0 ≤ x.served.1 by omega)]; simp))
            have hnm : Hid (∀ W, Calls Tryd.prog 24 #[.string x.proj.1] W fun e w' => e = .returned (.bool true) ∧ Bel W.heap.size W w') := Lib.hid fun W => by rw [← hn1]; exact name_any _ W x.proj.2
            replace hn1 := Lib.hid hn1
            go_wp2_with (go_at_call 24; go_must (refine (hnm.out _).mono ?_; rintro e w3 ⟨rfl, hb3⟩; have hz3 := hb3.size; obtain ⟨hc3, hf3⟩ := blk_at hb3.toBelow wr.heap.size (by omega)))
            go_ret
            exact ⟨ret_bool hf.out.symm, hbw2.trans (hb3.toBelow.mono (by omega))⟩
          by_cases h4 : x.served.1 > 1125899906842624
          · have hf : Hid (validS l = false) := Lib.hid (hbad.out (by unfold okS; rw [decide_eq_false (show ¬ x.served.1 ≤ 1125899906842624 by omega)]; simp))
            have hnm : Hid (∀ W, Calls Tryd.prog 24 #[.string x.proj.1] W fun e w' => e = .returned (.bool true) ∧ Bel W.heap.size W w') := Lib.hid fun W => by rw [← hn1]; exact name_any _ W x.proj.2
            replace hn1 := Lib.hid hn1
            go_wp2_with (go_at_call 24; go_must (refine (hnm.out _).mono ?_; rintro e w3 ⟨rfl, hb3⟩; have hz3 := hb3.size; obtain ⟨hc3, hf3⟩ := blk_at hb3.toBelow wr.heap.size (by omega)))
            go_ret
            exact ⟨ret_bool hf.out.symm, hbw2.trans (hb3.toBelow.mono (by omega))⟩
          have hok : Hid (okAt l (b + 1) = true) := Lib.hid (hgood.out (by unfold okS; rw [hn1, decide_eq_true (show 1 ≤ x.weight.1 by omega), decide_eq_true (show x.weight.1 ≤ 1000 by omega), decide_eq_true (show 0 ≤ x.served.1 by omega), decide_eq_true (show x.served.1 ≤ 1125899906842624 by omega)]; rfl))
          have hnm : Hid (∀ W, Calls Tryd.prog 24 #[.string x.proj.1] W fun e w' => e = .returned (.bool true) ∧ Bel W.heap.size W w') := Lib.hid fun W => by rw [← hn1]; exact name_any _ W x.proj.2
          replace hn1 := Lib.hid hn1
          go_wp2_with (go_at_call 24; go_must (refine (hnm.out _).mono ?_; rintro e w3 ⟨rfl, hb3⟩; have hz3 := hb3.size; obtain ⟨hc3, hf3⟩ := blk_at hb3.toBelow wr.heap.size (by omega)))
          go_roundw
          case rel => exact ⟨(b + 1) + 1, by omega, by go_num, by rw [range_take _ hkl ht.out]; exact hok.out, hbw2.trans (hb3.toBelow.mono (by omega))⟩
          case measure => simp [intOf]; omega
        · have hf : Hid (validS l = false) := Lib.hid (valid_false hkl (by rw [okAt_succ hx hy, hC, decide_eq_false hneg, Bool.and_false]))
          have hnd : decide (C ≥ 0) = true := decide_eq_true (by omega)
          replace hC := Lib.hid hC
          replace hx := Lib.hid hx
          replace hy := Lib.hid hy
          obtain ⟨W1, hW1⟩ : ∃ W, wr.alloc (.cells #[.string x.proj.1, .int .i64 x.weight.1, .int .i64 x.served.1] 39) = W := ⟨_, rfl⟩
          have hb1 : Below wr.heap.size wr W1 := by rw [← hW1]; exact (Below.refl _ _).alloc (Nat.le_refl _) _
          have hz1 : W1.heap.size = wr.heap.size + 1 := by rw [← hW1]; simp
          have hz1a := Nat.le_of_eq hz1
          have hz1b := Nat.le_of_eq hz1.symm
          have a0 := box_cells wr #[.string x.proj.1, .int .i64 x.weight.1, .int .i64 x.served.1] 39 0 _ rfl
          have a1 := box_cells wr #[.string x.proj.1, .int .i64 x.weight.1, .int .i64 x.served.1] 39 1 _ rfl
          have a2 := box_cells wr #[.string x.proj.1, .int .i64 x.weight.1, .int .i64 x.served.1] 39 2 _ rfl
          rw [hW1] at a0 a1 a2
          replace hz1 := Lib.hid hz1
          have A0 := Lib.hid a0
          have A1 := Lib.hid a1
          have A2 := Lib.hid a2
          go_wp2_with fail
          clear hW1 q0 q1 q2
          replace a0 := fun d os => cell_regrown a0 d os
          clear a1 a2
          replace p0 := fun d os => cell_regrown ((hb1.cell (p := ⟨g, o + b * 3, none⟩) (by show g < wr.heap.size; omega)).trans p0) d os
          refine wp_region_quiet_below (by kernel_rfl) (by kernel_rfl) ?_
          repeat (go_big_quiet_step ((go_at_call 43; exact Calls.regrown_of (hcm.out _))))
          refine wpQuiet_nil ?_
          intro w2 hw2
          have hb2 := below_of_regrown hw2
          clear hw2
          have hz2 := hb2.size
          go_wp2_with fail
          go_ret
          exact ⟨ret_bool hf.out.symm, (hbw.trans (hb1.mono (by omega))).trans (hb2.mono (by omega))⟩
    · have i1 : ¬ (k : Int) < (l.length : Int) := by omega
      obtain rfl : k = l.length := by omega
      have hf : Hid (validS l = true) := Lib.hid (by rw [valid_all ht.out, decide_eq_true (by omega)])
      go_wp2_with fail
      go_ret
      exact ⟨ret_bool hf.out.symm, hbw⟩
end Go.Proofs.YtopicpghhpkgbaaDoor
