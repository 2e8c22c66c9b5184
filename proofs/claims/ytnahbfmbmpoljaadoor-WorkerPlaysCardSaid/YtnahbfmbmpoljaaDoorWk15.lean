/-
  The walks of workers: whether a list of workers is valid, by the program.
-/
import Derived.Test.YtnahbfmbmpoljaaDoorWk2
import Derived.Test.YtnahbfmbmpoljaaDoorWk12
import Derived.Test.YtnahbfmbmpoljaaDoorWk13




namespace Go.Proofs.YtnahbfmbmpoljaaDoor
open Go.RowKit

set_option maxRecDepth 100000 in
set_option maxHeartbeats 8000000 in
theorem right_any (A : Option Addr) (c : Nat) (l : List Work) (w : World) (hr : RwW w w.heap.size A l) (hn : l.length ≤ 9223372036854775807) (ho : ∀ x ∈ l, LabOk x) (hG : Glob w) :
    Calls Tryd.prog 35 #[.slice A l.length c] w fun e w' => e = .returned (.bool (rightB l)) ∧ Below w.heap.size w w' := by
  by_cases h64 : l.length > 256
  · have hf : rightB l = false := by unfold rightB; rw [decide_eq_false (by omega)]; rfl
    rw [hf]
    have h64z : (l.length : Int) > 256 := by omega
    go_enter Tryd.func35, Tryd.ntmps35
    go_wp2_with fail
    go_ret
    exact ⟨rfl, Below.refl _ _⟩
  have h64z : ¬ (l.length : Int) > 256 := by omega
  replace hG := Lib.hid hG
  obtain ⟨B, hB⟩ : ∃ B, w.heap.size = B := ⟨_, rfl⟩
  rw [hB] at hr ⊢
  have hB2 := Nat.le_of_eq hB
  have hB3 := Nat.le_of_eq hB.symm
  replace hB := Lib.hid hB
  replace hr := Lib.hid hr
  have hlo := Lib.hid ho
  clear ho
  go_enter Tryd.func35, Tryd.ntmps35
  go_wp2_with fail
  go_loopw [10] (fun vi wr => ∃ k : Nat, k ≤ l.length ∧ vi = .int .i64 (k : Int) ∧ (List.range k).all (okAt l) = true ∧ Below B w wr) (fun vi _ => l.length - (intOf vi).toNat)
  case atStart => exact ⟨0, Nat.zero_le _, rfl, rfl, Below.refl _ _⟩
  case round =>
    obtain ⟨k, hk, rfl, ht, hbw⟩ := hrel
    have hz := hbw.size
    replace ht := Lib.hid ht
    by_cases hkl : k < l.length
    · obtain ⟨x, hx⟩ := get_some hkl
      obtain ⟨g, o, rfl, hg, hq⟩ := hr.out.row (by omega)
      have q : ∀ j u, (workE x)[j]? = some u → wr.cell? ⟨g, o + k * 9 + j, none⟩ = some u := fun j u hu => (hbw.cell (p := ⟨g, o + k * 9 + j, none⟩) hg).trans (hq k x hx j u hu)
      have q0 := q 0 (.string x.id.1) rfl
      try rw [Nat.add_zero] at q0
      have q1 := q 1 (.slice x.labsA x.labs.length x.labsC) rfl
      have q2 := q 2 (.int .i64 x.trust.1) rfl
      have q3 := q 3 (.int .i64 x.slots.1) rfl
      have q4 := q 4 (.bool x.pre) rfl
      have q5 := q 5 (.int .i64 x.phase.1) rfl
      have q6 := q 6 (.int .i64 x.beat.1) rfl
      have q7 := q 7 (.int .i64 x.till.1) rfl
      have q8 := q 8 (.slice x.toksA x.toks.length x.toksC) rfl
      clear q
      have i0 : (0 : Int) ≤ (k : Int) := by omega
      have i1 : (k : Int) < (l.length : Int) := by omega
      have hox := hlo.out x (List.mem_of_getElem? hx)
      have lx0 : LabWork wr wr.heap.size x := (((hr.out.labs x (List.mem_of_getElem? hx)).below hbw (Nat.le_refl _)).more (by omega))
      obtain ⟨W1, hW1⟩ : ∃ W, wr.alloc (.cells #[.string x.id.1, .slice x.labsA x.labs.length x.labsC, .int .i64 x.trust.1, .int .i64 x.slots.1, .bool x.pre, .int .i64 x.phase.1, .int .i64 x.beat.1, .int .i64 x.till.1, .slice x.toksA x.toks.length x.toksC] 25) = W := ⟨_, rfl⟩
      have hbA : Below wr.heap.size wr W1 := by rw [← hW1]; exact (Below.refl _ _).alloc (Nat.le_refl _) _
      have hz1 : W1.heap.size = wr.heap.size + 1 := by rw [← hW1]; simp
      have hz1a := Nat.le_of_eq hz1
      have hz1b := Nat.le_of_eq hz1.symm
      have hbW : Below B w W1 := hbw.trans (hbA.mono (by omega))
      have a : ∀ j u, (workE x)[j]? = some u → W1.cell? ⟨wr.heap.size, j, none⟩ = some u := fun j u hu => by rw [← hW1]; exact box_cells wr #[.string x.id.1, .slice x.labsA x.labs.length x.labsC, .int .i64 x.trust.1, .int .i64 x.slots.1, .bool x.pre, .int .i64 x.phase.1, .int .i64 x.beat.1, .int .i64 x.till.1, .slice x.toksA x.toks.length x.toksC] 25 j u hu
      have a0 := a 0 (.string x.id.1) rfl
      try rw [Nat.add_zero] at a0
      have a1 := a 1 (.slice x.labsA x.labs.length x.labsC) rfl
      have a2 := a 2 (.int .i64 x.trust.1) rfl
      have a3 := a 3 (.int .i64 x.slots.1) rfl
      have a4 := a 4 (.bool x.pre) rfl
      have a5 := a 5 (.int .i64 x.phase.1) rfl
      have a6 := a 6 (.int .i64 x.beat.1) rfl
      have a7 := a 7 (.int .i64 x.till.1) rfl
      have a8 := a 8 (.slice x.toksA x.toks.length x.toksC) rfl
      clear a
      replace hz1 := Lib.hid hz1
      go_wp2_with fail
      have hrt : Hid (∀ d os, Calls Tryd.prog 10 #[(.agg #[.string x.id.1, .slice x.labsA x.labs.length x.labsC, .int .i64 x.trust.1, .int .i64 x.slots.1, .bool x.pre, .int .i64 x.phase.1, .int .i64 x.beat.1, .int .i64 x.till.1, .slice x.toksA x.toks.length x.toksC])] (Sort.grow (redrawn W1 d) os) fun e w' => e = .returned (.int .i64 (wErr x)) ∧ Below (Sort.grow (redrawn W1 d) os).heap.size (Sort.grow (redrawn W1 d) os) w') := Lib.hid fun d os => wvalid_any x _ (((lx0.below hbA (Nat.le_refl _)).below (below_regrown W1 d os) (by omega)).more (by have := (below_regrown W1 d os).size; omega)) hox (hG.out.keep (((hbW.mono (by omega)).trans ((below_regrown W1 d os).mono (by omega))))) 
      clear lx0 hox hW1 q0 q1 q2 q3 q4 q5 q6 q7 q8
      replace a0 := fun d os => cell_regrown a0 d os
      replace a1 := fun d os => cell_regrown a1 d os
      replace a2 := fun d os => cell_regrown a2 d os
      replace a3 := fun d os => cell_regrown a3 d os
      replace a4 := fun d os => cell_regrown a4 d os
      replace a5 := fun d os => cell_regrown a5 d os
      replace a6 := fun d os => cell_regrown a6 d os
      replace a7 := fun d os => cell_regrown a7 d os
      replace a8 := fun d os => cell_regrown a8 d os
      by_cases hs : wErr x = 0
      · rw [hs] at hrt
        rcases Nat.eq_zero_or_pos k with hk0 | hk0
        · have hok : Hid (okAt l k = true) := Lib.hid (by rw [hk0] at hx ⊢; rw [okAt_zero hx, hs]; rfl)
          have hgd : decide ((k : Int) > 0) = false := decide_eq_false (by omega)
          have hgn : ¬ 0 < k := by omega
          have hgd2 : decide (0 < k) = false := decide_eq_false hgn
          replace hk0 := Lib.hid hk0
          replace hx := Lib.hid hx
          replace hs := Lib.hid hs
          refine wp_region_quiet_below (by kernel_rfl) (by kernel_rfl) ?_
          repeat (go_big_quiet_step ((go_at_call 10; exact Calls.regrown_of (hrt.out _ _))))
          refine wpQuiet_nil ?_
          intro w2 hw2
          have hb2 := below_of_regrown hw2
          clear hw2
          have hz2 := hb2.size
          go_wp2_with fail
          go_roundw
          case rel => exact ⟨k + 1, by omega, by go_num, by rw [range_take _ hkl ht.out]; exact hok.out, hbW.trans (hb2.mono (by omega))⟩
          case measure => simp [intOf]; omega
        · obtain ⟨b, rfl⟩ : ∃ b, k = b + 1 := ⟨k - 1, by omega⟩
          clear hk0
          obtain ⟨y, hy⟩ := get_some (show b < l.length by omega)
          have p0 : wr.cell? ⟨g, o + b * 9, none⟩ = some (.string y.id.1) := by
            have := (hbw.cell (p := ⟨g, o + b * 9 + 0, none⟩) hg).trans (hq b y hy 0 (.string y.id.1) rfl)
            simpa using this
          have i2 : (0 : Int) ≤ (b : Int) := by omega
          have i3 : (b : Int) < (l.length : Int) := by omega
          have i4 : (0 : Int) < (b : Int) + 1 := by omega
          obtain ⟨C, hC⟩ : ∃ C, cmpS y.id x.id = C := ⟨_, rfl⟩
          have hcm : Hid (∀ W, Calls Tryd.prog 38 #[.string y.id.1, .string x.id.1] W fun e w' => e = .returned (.int .i64 C) ∧ Below W.heap.size W w') := Lib.hid fun W => (compare_any _ _ y.id.2 x.id.2 W).mono fun _ _ h => ⟨by rw [h.1, ← hC]; rfl, h.2.toBelow⟩
          have p0' := (hbA.cell (p := ⟨g, o + b * 9, none⟩) (by show g < _; omega)).trans p0
          clear p0
          replace p0 := fun d os => cell_regrown p0' d os
          clear p0'
          by_cases hneg : C < 0
          · have hok : Hid (okAt l (b + 1) = true) := Lib.hid (by rw [okAt_succ hx hy, hs, hC, decide_eq_true hneg]; rfl)
            have hnd : decide (C ≥ 0) = false := decide_eq_false (by omega)
            replace hC := Lib.hid hC
            replace hx := Lib.hid hx
            replace hy := Lib.hid hy
            replace hs := Lib.hid hs
            refine wp_region_quiet_below (by kernel_rfl) (by kernel_rfl) ?_
            repeat (go_big_quiet_step ((first | (go_at_call 10; exact Calls.regrown_of (hrt.out _ _)) | (go_at_call 38; exact Calls.regrown_of (hcm.out _)))))
            refine wpQuiet_nil ?_
            intro w2 hw2
            have hb2 := below_of_regrown hw2
            clear hw2
            have hz2 := hb2.size
            go_wp2_with fail
            go_roundw
            case rel => exact ⟨b + 1 + 1, by omega, by go_num, by rw [range_take _ hkl ht.out]; exact hok.out, hbW.trans (hb2.mono (by omega))⟩
            case measure => simp [intOf]; omega
          · have hf : Hid (rightB l = false) := Lib.hid (right_false hkl (by rw [okAt_succ hx hy, hC, decide_eq_false hneg, Bool.and_false]))
            have hnd : decide (C ≥ 0) = true := decide_eq_true (by omega)
            replace hC := Lib.hid hC
            replace hx := Lib.hid hx
            replace hy := Lib.hid hy
            replace hs := Lib.hid hs
            refine wp_region_quiet_below (by kernel_rfl) (by kernel_rfl) ?_
            repeat (go_big_quiet_step ((first | (go_at_call 10; exact Calls.regrown_of (hrt.out _ _)) | (go_at_call 38; exact Calls.regrown_of (hcm.out _)))))
            refine wpQuiet_nil ?_
            intro w2 hw2
            have hb2 := below_of_regrown hw2
            clear hw2
            have hz2 := hb2.size
            go_wp2_with fail
            go_ret
            exact ⟨ret_bool hf.out.symm, hbW.trans (hb2.mono (by omega))⟩
      · have hf : Hid (rightB l = false) := Lib.hid (by
          refine right_false hkl ?_
          have he : (wErr x == 0) = false := by rw [beq_eq_false_iff_ne]; exact hs
          rcases k with _ | b
          · rw [okAt_zero hx]; exact he
          · obtain ⟨y, hy⟩ := get_some (show b < l.length by omega)
            rw [okAt_succ hx hy, he]; rfl)
        have hne : (wErr x != 0) = true := by rw [bne_iff_ne]; exact hs
        obtain ⟨E, hE⟩ : ∃ E, wErr x = E := ⟨_, rfl⟩
        rw [hE] at hrt hne
        replace hE := Lib.hid hE
        replace hs := Lib.hid hs
        replace hx := Lib.hid hx
        refine wp_region_quiet_below (by kernel_rfl) (by kernel_rfl) ?_
        repeat (go_big_quiet_step ((go_at_call 10; exact Calls.regrown_of (hrt.out _ _))))
        refine wpQuiet_nil ?_
        intro w2 hw2
        have hb2 := below_of_regrown hw2
        clear hw2
        have hz2 := hb2.size
        go_wp2_with fail
        go_ret
        exact ⟨ret_bool hf.out.symm, hbW.trans (hb2.mono (by omega))⟩
    · have i1 : ¬ (k : Int) < (l.length : Int) := by omega
      obtain rfl : k = l.length := by omega
      have hf : Hid (rightB l = decide (l.length ≤ 256)) := Lib.hid (right_all ht.out)
      have hf2 : Hid (rightB l = true) := Lib.hid (by rw [hf.out]; exact decide_eq_true (by omega))
      go_wp2_with fail
      go_ret
      exact ⟨ret_bool hf2.out.symm, hbw⟩
end Go.Proofs.YtnahbfmbmpoljaaDoor
