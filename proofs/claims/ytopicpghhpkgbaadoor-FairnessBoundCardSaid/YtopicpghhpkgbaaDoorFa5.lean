/-
  The walks of fairness: the smallest share, by the program and by the reference.
-/
import Derived.Test.YtopicpghhpkgbaaDoorFa4



namespace Go.Proofs.YtopicpghhpkgbaaDoor
open Go.RowKit

/-- The first of the smallest among the first k + 1 shares. -/
def mnK (f : Share → Share → Bool) (l : List Share) : Nat → Share
  | 0 => l[0]!
  | k + 1 => if f l[k + 1]! (mnK f l k) = true then l[k + 1]! else mnK f l k
theorem mnK_take {f : Share → Share → Bool} {l : List Share} {k : Nat} {x : Share} (hx : l[k + 1]? = some x) (h : f x (mnK f l k) = true) : mnK f l (k + 1) = x := by rw [mnK, get_bang hx, if_pos h]
theorem mnK_keep {f : Share → Share → Bool} {l : List Share} {k : Nat} {x : Share} (hx : l[k + 1]? = some x) (h : f x (mnK f l k) = false) : mnK f l (k + 1) = mnK f l k := by rw [mnK, get_bang hx, h]; simp

theorem mnK_mem {f : Share → Share → Bool} {l : List Share} : ∀ k, k < l.length → mnK f l k ∈ l
  | 0, h => by
    obtain ⟨y, hy⟩ := get_some h
    rw [mnK, get_bang hy]; exact List.mem_of_getElem? hy
  | k + 1, h => by
    obtain ⟨x, hx⟩ := get_some h
    rcases hf : f x (mnK f l k) with _ | _
    · rw [mnK_keep hx hf]; exact mnK_mem k (by omega)
    · rw [mnK_take hx hf]; exact List.mem_of_getElem? hx
theorem set3_cells {w : World} {g : Nat} {u0 u1 u2 a b c : Value} (h0 : w.cell? ⟨g, 0, none⟩ = some u0) (h1 : w.cell? ⟨g, 1, none⟩ = some u1) (h2 : w.cell? ⟨g, 2, none⟩ = some u2) :
    ((((w.setCell ⟨g, 0, none⟩ a).setCell ⟨g, 1, none⟩ b).setCell ⟨g, 2, none⟩ c).cell? ⟨g, 0, none⟩ = some a ∧ (((w.setCell ⟨g, 0, none⟩ a).setCell ⟨g, 1, none⟩ b).setCell ⟨g, 2, none⟩ c).cell? ⟨g, 1, none⟩ = some b ∧ (((w.setCell ⟨g, 0, none⟩ a).setCell ⟨g, 1, none⟩ b).setCell ⟨g, 2, none⟩ c).cell? ⟨g, 2, none⟩ = some c) := by
  refine ⟨?_, ?_, ?_⟩
  · rw [World.cell?_setCell_other _ _ _ _ (by simp), World.cell?_setCell_other _ _ _ _ (by simp), World.cell?_setCell_same _ _ _ h0]
  · rw [World.cell?_setCell_other _ _ _ _ (by simp), World.cell?_setCell_same _ _ _ (by rw [World.cell?_setCell_other _ _ _ _ (by simp)]; exact h1)]
  · rw [World.cell?_setCell_same _ _ _ (by rw [World.cell?_setCell_other _ _ _ _ (by simp), World.cell?_setCell_other _ _ _ _ (by simp)]; exact h2)]

set_option maxRecDepth 100000 in
set_option maxHeartbeats 4000000 in
theorem rleast_any (A : Option Addr) (c : Nat) (l : List Share) (wt : Int) (w : World) (hr : Rw shareE 3 w w.heap.size A l) (hok : ∀ x ∈ l, okS x = true) (h1 : 1 ≤ wt) (h2 : wt ≤ 1000) (h0 : 0 < l.length) (hn : l.length ≤ 1000000) :
    Calls Tryd.prog 32 #[.slice A l.length c, .int .i64 wt] w fun e w' => e = .returned (.int .i64 (scaS (mnK lesS l (l.length - 1)) wt)) ∧ Below w.heap.size w w' := by
  obtain ⟨B, hB⟩ : ∃ B, w.heap.size = B := ⟨_, rfl⟩
  rw [hB] at hr ⊢
  have hB2 := Nat.le_of_eq hB
  have hB3 := Nat.le_of_eq hB.symm
  have hB4 : w.heap.size = B := hB
  replace hr := Lib.hid hr
  replace hok := Lib.hid hok
  have hne2 : ((l.length : Int) == 0) = false := by rw [beq_eq_false_iff_ne]; omega
  obtain ⟨y, hy⟩ := get_some h0
  have hy0 : Hid (mnK lesS l 0 = y) := Lib.hid (by rw [mnK, get_bang hy])
  have p0 : ∃ g o, A = some ⟨g, o, none⟩ ∧ g < B ∧ w.cell? ⟨g, o, none⟩ = some (.string y.proj.1) ∧ w.cell? ⟨g, o + 1, none⟩ = some (.int .i64 y.weight.1) ∧ w.cell? ⟨g, o + 2, none⟩ = some (.int .i64 y.served.1) := by
    obtain ⟨g, o, e, hg, hq⟩ := hr.out h0
    refine ⟨g, o, e, hg, ?_, ?_, ?_⟩
    · simpa using hq 0 y hy 0 (.string y.proj.1) rfl
    · simpa using hq 0 y hy 1 (.int .i64 y.weight.1) rfl
    · simpa using hq 0 y hy 2 (.int .i64 y.served.1) rfl
  obtain ⟨g, o, rfl, hgB, p0, p1, p2⟩ := p0
  have hr2 : Hid (∀ k x, l[k]? = some x → ∀ j u, (shareE x)[j]? = some u → w.cell? ⟨g, o + k * 3 + j, none⟩ = some u) := Lib.hid (fun k x hx j u hu => by
    obtain ⟨g', o', e, _, hq⟩ := hr.out (by have := (List.getElem?_eq_some_iff.1 hx).1; omega)
    obtain ⟨rfl, rfl⟩ : g = g' ∧ o = o' := by simpa using e
    exact hq k x hx j u hu)
  clear hr hy
  go_enter Tryd.func32, Tryd.ntmps32
  go_wp2_with fail
  have hb0 : Below B w (w.alloc (.cells #[.string y.proj.1, .int .i64 y.weight.1, .int .i64 y.served.1] 39)) := (Below.refl _ _).alloc hB3 _
  replace hB4 := Lib.hid hB4
  go_loopw [6] (fun vi wr => ∃ k : Nat, k < l.length ∧ vi = .int .i64 ((k : Int) + 1) ∧ (wr.cell? ⟨B, 0, none⟩ = some (.string (mnK lesS l k).proj.1) ∧ wr.cell? ⟨B, 1, none⟩ = some (.int .i64 (mnK lesS l k).weight.1) ∧ wr.cell? ⟨B, 2, none⟩ = some (.int .i64 (mnK lesS l k).served.1)) ∧ (∀ j, wr.frozen? ⟨B, j, none⟩ = false) ∧ B < wr.heap.size ∧ Below B w wr) (fun vi _ => l.length - (intOf vi).toNat)
  case atStart =>
    refine ⟨0, by omega, rfl, ?_, fun j => ?_, by simp; omega, hb0⟩
    · rw [hy0.out, ← hB4.out]
      exact ⟨box_cells w _ _ 0 _ rfl, box_cells w _ _ 1 _ rfl, box_cells w _ _ 2 _ rfl⟩
    · exact World.frozen?_alloc_at _ _ B j hB4.out.symm
  case round =>
    obtain ⟨k, hk, rfl, ⟨m0, m1, m2⟩, hfz, hBw, hbw⟩ := hrel
    have hz := hbw.size
    have hcellsB : ∀ (w2 : World), Below wr.heap.size wr w2 → (∀ j u, wr.cell? ⟨B, j, none⟩ = some u → w2.cell? ⟨B, j, none⟩ = some u) ∧ ∀ j, w2.frozen? ⟨B, j, none⟩ = false := fun w2 hb2 => ⟨fun j u h => ((blk_at hb2 B hBw).1 j).trans h, fun j => ((blk_at hb2 B hBw).2 j).trans (hfz j)⟩
    have hokm := Lib.hid (hok.out _ (mnK_mem (f := lesS) k hk))
    obtain ⟨m, hm⟩ : ∃ m, mnK lesS l k = m := ⟨_, rfl⟩
    rw [hm] at m0 m1 m2 hokm
    replace hm := Lib.hid hm
    by_cases hkl : k + 1 < l.length
    · obtain ⟨x, hx⟩ := get_some hkl
      have q : ∀ j u, (shareE x)[j]? = some u → wr.cell? ⟨g, o + (k + 1) * 3 + j, none⟩ = some u := fun j u hu => (hbw.cell (p := ⟨g, o + (k + 1) * 3 + j, none⟩) hgB).trans (hr2.out (k + 1) x hx j u hu)
      have q0 := q 0 (.string x.proj.1) rfl
      try rw [Nat.add_zero] at q0
      have q1 := q 1 (.int .i64 x.weight.1) rfl
      have q2 := q 2 (.int .i64 x.served.1) rfl
      clear q
      have i0 : (0 : Int) ≤ (k : Int) + 1 := by omega
      have i1 : (k : Int) + 1 < (l.length : Int) := by omega
      have i2 : ((k : Int) + 1).toNat = k + 1 := by omega
      have hls := fun W => rless_any x m W
      replace m0 := Lib.hid m0
      replace m1 := Lib.hid m1
      replace m2 := Lib.hid m2
      have a0 := fun d os => cell_regrown m0.out d os
      have a1 := fun d os => cell_regrown m1.out d os
      have a2 := fun d os => cell_regrown m2.out d os
      have b0 := fun d os => cell_regrown q0 d os
      have b1 := fun d os => cell_regrown q1 d os
      have b2 := fun d os => cell_regrown q2 d os
      rcases hs : lesS x m with _ | _
      · have hnx : Hid (mnK lesS l (k + 1) = m) := Lib.hid (by rw [mnK_keep hx (by rw [hm.out]; exact hs)]; exact hm.out)
        rw [hs] at hls
        replace hls := Lib.hid hls
        replace hx := Lib.hid hx
        go_wp2_with fail
        refine wp_region_quiet_below (by kernel_rfl) (by kernel_rfl) ?_
        repeat (go_big_quiet_step ((go_at_call 21; exact Calls.regrown_of (hls.out _))))
        refine wpQuiet_nil ?_
        intro w2 hw2
        have hb2 := below_of_regrown hw2
        clear hw2
        have hz2 := hb2.size
        obtain ⟨hc2, hf2⟩ := hcellsB _ hb2
        go_wp2_with fail
        go_roundw
        case rel => exact ⟨k + 1, hkl, by go_num, by rw [hnx.out]; exact ⟨hc2 _ _ m0.out, hc2 _ _ m1.out, hc2 _ _ m2.out⟩, hf2, by omega, hbw.trans (hb2.mono (by omega))⟩
        case measure => simp [intOf]; omega
      · have hnx : Hid (mnK lesS l (k + 1) = x) := Lib.hid (mnK_take hx (by rw [hm.out]; exact hs))
        rw [hs] at hls
        replace hls := Lib.hid hls
        replace hx := Lib.hid hx
        go_wp2_with fail
        refine wp_region_quiet_below (by kernel_rfl) (by kernel_rfl) ?_
        repeat (go_big_quiet_step ((go_at_call 21; exact Calls.regrown_of (hls.out _))))
        refine wpQuiet_nil ?_
        intro w2 hw2
        have hb2 := below_of_regrown hw2
        clear hw2
        have hz2 := hb2.size
        obtain ⟨hc2, hf2⟩ := hcellsB _ hb2
        have c0 := hc2 _ _ m0.out
        have c1 := hc2 _ _ m1.out
        have c2 := hc2 _ _ m2.out
        have f0 := hf2 0
        have f1 := hf2 1
        have f2 := hf2 2
        have d0 := (hb2.cell (p := ⟨g, o + (k + 1) * 3, none⟩) (by show g < _; omega)).trans q0
        have d1 := (hb2.cell (p := ⟨g, o + (k + 1) * 3 + 1, none⟩) (by show g < _; omega)).trans q1
        have d2 := (hb2.cell (p := ⟨g, o + (k + 1) * 3 + 2, none⟩) (by show g < _; omega)).trans q2
        clear hcellsB
        go_wp2_with fail
        go_roundw
        case rel => exact ⟨k + 1, hkl, by go_num, by rw [hnx.out]; exact set3_cells c0 c1 c2, fun j => by simp only [World.frozen?_setCell]; exact hf2 j, by simp; omega, (((hbw.trans (hb2.mono (by omega))).setCell (Nat.le_refl _) _).setCell (Nat.le_refl _) _).setCell (Nat.le_refl _) _⟩
        case measure => simp [intOf]; omega
    · have i1 : ¬ (k : Int) + 1 < (l.length : Int) := by omega
      have hfin : Hid (mnK lesS l (l.length - 1) = m) := Lib.hid (by rw [← hm.out]; congr 1; omega)
      have hsc := fun W => rscaled_any m wt hokm.out h1 h2 W
      replace hsc := Lib.hid hsc
      replace hokm := Lib.hid hokm
      go_wp2_with (go_at_call 33; go_must (refine (hsc.out _).mono ?_; rintro e w2 ⟨rfl, hb2⟩))
      go_ret
      exact ⟨ret_int (by rw [hfin.out]), hbw.trans (hb2.mono (by omega))⟩
/-- Whether a share comes before another. -/
def befB (x y : Share) : Bool := decide (befS x y < 0)
set_option maxRecDepth 100000 in
set_option maxHeartbeats 4000000 in
theorem min_any (A : Option Addr) (c : Nat) (l : List Share) (w : World) (hr : Rw shareE 3 w w.heap.size A l) (h0 : 0 < l.length) (hn : l.length ≤ 1000000) :
    Calls Tryd.prog 27 #[.slice A l.length c, .func (.func 28) #[] #[]] w fun e w' => ∃ m, m = mnK befB l (l.length - 1) ∧ e = .returned (.agg #[.string m.proj.1, .int .i64 m.weight.1, .int .i64 m.served.1]) ∧ Below w.heap.size w w' := by
  have e28 : ∀ args w, (callFunc 28 args).run Tryd.prog w = .ok (.enter 28 args) w := enters_of Tryd.func28 (by kernel_rfl) rfl
  obtain ⟨B, hB⟩ : ∃ B, w.heap.size = B := ⟨_, rfl⟩
  rw [hB] at hr ⊢
  have hB2 := Nat.le_of_eq hB
  have hB3 := Nat.le_of_eq hB.symm
  have hB4 : w.heap.size = B := hB
  replace hB := Lib.hid hB
  replace hr := Lib.hid hr
  have hne2 : decide ((l.length : Int) < 1) = false := decide_eq_false (by omega)
  have hne3 : ¬ (l.length : Int) < 1 := by omega
  have hne4 : ¬ (l.length = 0) := by omega
  obtain ⟨y, hy⟩ := get_some h0
  have hy0 : Hid (mnK befB l 0 = y) := Lib.hid (by rw [mnK, get_bang hy])
  have p0 : ∃ g o, A = some ⟨g, o, none⟩ ∧ g < B ∧ w.cell? ⟨g, o, none⟩ = some (.string y.proj.1) ∧ w.cell? ⟨g, o + 1, none⟩ = some (.int .i64 y.weight.1) ∧ w.cell? ⟨g, o + 2, none⟩ = some (.int .i64 y.served.1) := by
    obtain ⟨g, o, e, hg, hq⟩ := hr.out h0
    refine ⟨g, o, e, hg, ?_, ?_, ?_⟩
    · simpa using hq 0 y hy 0 (.string y.proj.1) rfl
    · simpa using hq 0 y hy 1 (.int .i64 y.weight.1) rfl
    · simpa using hq 0 y hy 2 (.int .i64 y.served.1) rfl
  obtain ⟨g, o, rfl, hgB, p0, p1, p2⟩ := p0
  have hr2 : Hid (∀ k x, l[k]? = some x → ∀ j u, (shareE x)[j]? = some u → w.cell? ⟨g, o + k * 3 + j, none⟩ = some u) := Lib.hid (fun k x hx j u hu => by
    obtain ⟨g', o', e, _, hq⟩ := hr.out (by have := (List.getElem?_eq_some_iff.1 hx).1; omega)
    obtain ⟨rfl, rfl⟩ : g = g' ∧ o = o' := by simpa using e
    exact hq k x hx j u hu)
  clear hr hy
  obtain ⟨W0, hW0⟩ : ∃ W0, w.alloc (.cells #[.string ⟨#[]⟩, .int .i64 0, .int .i64 0] 39) = W0 := ⟨_, rfl⟩
  have hbW : Below B w W0 := by rw [← hW0]; exact (Below.refl _ _).alloc hB3 _
  have hzW : W0.heap.size = B + 1 := by rw [← hW0]; simp [hB4]
  have t0 : W0.cell? ⟨B, 0, none⟩ = some (.string ⟨#[]⟩) := by rw [← hW0, ← hB4]; exact box_cells w _ _ 0 _ rfl
  have t1 : W0.cell? ⟨B, 1, none⟩ = some (.int .i64 0) := by rw [← hW0, ← hB4]; exact box_cells w _ _ 1 _ rfl
  have t2 : W0.cell? ⟨B, 2, none⟩ = some (.int .i64 0) := by rw [← hW0, ← hB4]; exact box_cells w _ _ 2 _ rfl
  have tf : ∀ j, W0.frozen? ⟨B, j, none⟩ = false := fun j => by rw [← hW0]; exact World.frozen?_alloc_at _ _ B j hB4.symm
  replace p0 := (hbW.cell (p := ⟨g, o, none⟩) hgB).trans p0
  replace p1 := (hbW.cell (p := ⟨g, o + 1, none⟩) hgB).trans p1
  replace p2 := (hbW.cell (p := ⟨g, o + 2, none⟩) hgB).trans p2
  have hgB1 : g ≠ B := by omega
  replace t0 := Lib.hid t0
  replace t1 := Lib.hid t1
  replace t2 := Lib.hid t2
  replace tf := Lib.hid tf
  have hr3 := Lib.hid (fun k x hx j u hu => (hbW.cell (p := ⟨g, o + k * 3 + j, none⟩) hgB).trans (hr2.out k x hx j u hu))
  replace hr2 := Lib.hid hr2
  go_enter Tryd.func27, Tryd.ntmps27
  go_wp2_with fail
  have hb0 : Below B w (W0.alloc (.cells #[.string y.proj.1, .int .i64 y.weight.1, .int .i64 y.served.1] 39)) := hbW.alloc (by omega) _
  have hb0' : Below W0.heap.size W0 (W0.alloc (.cells #[.string y.proj.1, .int .i64 y.weight.1, .int .i64 y.served.1] 39)) := (Below.refl _ _).alloc (Nat.le_refl _) _
  have hzW2 := Lib.hid hzW
  have hzW3 := Nat.le_of_eq hzW
  have hzW4 := Nat.le_of_eq hzW.symm
  replace hB4 := Lib.hid hB4
  clear hW0 hzW
  go_loopw [6] (fun vi wr => ∃ k : Nat, k < l.length ∧ vi = .int .i64 ((k : Int) + 1) ∧ (wr.cell? ⟨(B + 1), 0, none⟩ = some (.string (mnK befB l k).proj.1) ∧ wr.cell? ⟨(B + 1), 1, none⟩ = some (.int .i64 (mnK befB l k).weight.1) ∧ wr.cell? ⟨(B + 1), 2, none⟩ = some (.int .i64 (mnK befB l k).served.1)) ∧ (∀ j, wr.frozen? ⟨B + 1, j, none⟩ = false) ∧ B + 1 < wr.heap.size ∧ Below (B + 1) W0 wr) (fun vi _ => l.length - (intOf vi).toNat)
  case atStart =>
    refine ⟨0, by omega, rfl, ?_, fun j => ?_, by simp; omega, hb0'.mono (by omega)⟩
    · rw [hy0.out, ← hzW2.out]
      exact ⟨box_cells W0 _ _ 0 _ rfl, box_cells W0 _ _ 1 _ rfl, box_cells W0 _ _ 2 _ rfl⟩
    · exact World.frozen?_alloc_at _ _ (B + 1) j hzW2.out.symm
  case round =>
    obtain ⟨k, hk, rfl, ⟨m0, m1, m2⟩, hfz, hBw, hbw⟩ := hrel
    have hz := hbw.size
    have hcellsB : ∀ (w2 : World), Below wr.heap.size wr w2 → (∀ j u, wr.cell? ⟨B + 1, j, none⟩ = some u → w2.cell? ⟨B + 1, j, none⟩ = some u) ∧ ∀ j, w2.frozen? ⟨B + 1, j, none⟩ = false := fun w2 hb2 => ⟨fun j u h => ((blk_at hb2 (B + 1) hBw).1 j).trans h, fun j => ((blk_at hb2 (B + 1) hBw).2 j).trans (hfz j)⟩
    obtain ⟨m, hm⟩ : ∃ m, mnK befB l k = m := ⟨_, rfl⟩
    rw [hm] at m0 m1 m2
    replace hm := Lib.hid hm
    by_cases hkl : k + 1 < l.length
    · obtain ⟨x, hx⟩ := get_some hkl
      have q : ∀ j u, (shareE x)[j]? = some u → wr.cell? ⟨g, o + (k + 1) * 3 + j, none⟩ = some u := fun j u hu => (hbw.cell (p := ⟨g, o + (k + 1) * 3 + j, none⟩) (by show g < _; omega)).trans (hr3.out (k + 1) x hx j u hu)
      have q0 := q 0 (.string x.proj.1) rfl
      try rw [Nat.add_zero] at q0
      have q1 := q 1 (.int .i64 x.weight.1) rfl
      have q2 := q 2 (.int .i64 x.served.1) rfl
      clear q
      have i0 : (0 : Int) ≤ (k : Int) + 1 := by omega
      have i1 : (k : Int) + 1 < (l.length : Int) := by omega
      have i2 : ((k : Int) + 1).toNat = k + 1 := by omega
      have hls : ∀ W, Calls Tryd.prog 28 #[.agg #[.string x.proj.1, .int .i64 x.weight.1, .int .i64 x.served.1], .agg #[.string m.proj.1, .int .i64 m.weight.1, .int .i64 m.served.1]] W fun e w' => e = .returned (.int .i64 (befS x m)) ∧ Below W.heap.size W w' := fun W => (before_any x m W).mono fun _ _ h => ⟨h.1, h.2.toBelow⟩
      replace m0 := Lib.hid m0
      replace m1 := Lib.hid m1
      replace m2 := Lib.hid m2
      have a0 := fun d os => cell_regrown m0.out d os
      have a1 := fun d os => cell_regrown m1.out d os
      have a2 := fun d os => cell_regrown m2.out d os
      have b0 := fun d os => cell_regrown q0 d os
      have b1 := fun d os => cell_regrown q1 d os
      have b2 := fun d os => cell_regrown q2 d os
      obtain ⟨C, hC⟩ : ∃ C, befS x m = C := ⟨_, rfl⟩
      rw [hC] at hls
      by_cases hs : C < 0
      · have hnx : Hid (mnK befB l (k + 1) = x) := Lib.hid (mnK_take hx (by rw [hm.out]; unfold befB; rw [hC]; exact decide_eq_true hs))
        replace hC := Lib.hid hC
        replace hls := Lib.hid hls
        replace hx := Lib.hid hx
        go_wp2_with fail
        refine wp_region_quiet_below (by kernel_rfl) (by kernel_rfl) ?_
        repeat (go_big_quiet_step ((go_at_fn 28; exact Calls.regrown_of (hls.out _))))
        refine wpQuiet_nil ?_
        intro w2 hw2
        have hb2 := below_of_regrown hw2
        clear hw2
        have hz2 := hb2.size
        obtain ⟨hc2, hf2⟩ := hcellsB _ hb2
        have c0 := hc2 _ _ m0.out
        have c1 := hc2 _ _ m1.out
        have c2 := hc2 _ _ m2.out
        have f0 := hf2 0
        have f1 := hf2 1
        have f2 := hf2 2
        have d0 := (hb2.cell (p := ⟨g, o + (k + 1) * 3, none⟩) (by show g < _; omega)).trans q0
        have d1 := (hb2.cell (p := ⟨g, o + (k + 1) * 3 + 1, none⟩) (by show g < _; omega)).trans q1
        have d2 := (hb2.cell (p := ⟨g, o + (k + 1) * 3 + 2, none⟩) (by show g < _; omega)).trans q2
        clear hcellsB
        go_wp2_with fail
        go_roundw
        case rel => exact ⟨k + 1, hkl, by go_num, by rw [hnx.out]; exact set3_cells c0 c1 c2, fun j => by simp only [World.frozen?_setCell]; exact hf2 j, by simp; omega, (((hbw.trans (hb2.mono (by omega))).setCell (Nat.le_refl _) _).setCell (Nat.le_refl _) _).setCell (Nat.le_refl _) _⟩
        case measure => simp [intOf]; omega
      · have hnx : Hid (mnK befB l (k + 1) = m) := Lib.hid (by rw [mnK_keep hx (by rw [hm.out]; unfold befB; rw [hC]; exact decide_eq_false hs)]; exact hm.out)
        replace hC := Lib.hid hC
        replace hls := Lib.hid hls
        replace hx := Lib.hid hx
        go_wp2_with fail
        refine wp_region_quiet_below (by kernel_rfl) (by kernel_rfl) ?_
        repeat (go_big_quiet_step ((go_at_fn 28; exact Calls.regrown_of (hls.out _))))
        refine wpQuiet_nil ?_
        intro w2 hw2
        have hb2 := below_of_regrown hw2
        clear hw2
        have hz2 := hb2.size
        obtain ⟨hc2, hf2⟩ := hcellsB _ hb2
        go_wp2_with fail
        go_roundw
        case rel => exact ⟨k + 1, hkl, by go_num, by rw [hnx.out]; exact ⟨hc2 _ _ m0.out, hc2 _ _ m1.out, hc2 _ _ m2.out⟩, hf2, by omega, hbw.trans (hb2.mono (by omega))⟩
        case measure => simp [intOf]; omega
    · have i1 : ¬ (k : Int) + 1 < (l.length : Int) := by omega
      have hfin : Hid (mnK befB l (l.length - 1) = m) := Lib.hid (by rw [← hm.out]; congr 1; omega)
      have n0 := (hbw.cell (p := ⟨B, 0, none⟩) (by show B < B + 1; omega)).trans t0.out
      have n1 := (hbw.cell (p := ⟨B, 1, none⟩) (by show B < B + 1; omega)).trans t1.out
      have n2 := (hbw.cell (p := ⟨B, 2, none⟩) (by show B < B + 1; omega)).trans t2.out
      have nf : ∀ j, wr.frozen? ⟨B, j, none⟩ = false := fun j => (hbw.frozen (p := ⟨B, j, none⟩) (by show B < B + 1; omega)).trans (tf.out j)
      have hs3 := set3_cells (a := .string m.proj.1) (b := .int .i64 m.weight.1) (c := .int .i64 m.served.1) n0 n1 n2
      obtain ⟨s0, s1, s2⟩ := hs3
      have hbb := ((((hbW.trans (hbw.mono (by omega))).setCell (p := ⟨B, 0, none⟩) (Nat.le_refl _) (.string m.proj.1)).setCell (p := ⟨B, 1, none⟩) (Nat.le_refl _) (.int .i64 m.weight.1)).setCell (p := ⟨B, 2, none⟩) (Nat.le_refl _) (.int .i64 m.served.1))
      go_wp2_with fail
      exact bodyPost_ret (v := .agg #[.string m.proj.1, .int .i64 m.weight.1, .int .i64 m.served.1]) (by simp [results, Tryd.results27, go_sem, s0, s1, s2]) rfl ⟨by rw [hfin.out], hbb⟩
end Go.Proofs.YtopicpghhpkgbaaDoor
