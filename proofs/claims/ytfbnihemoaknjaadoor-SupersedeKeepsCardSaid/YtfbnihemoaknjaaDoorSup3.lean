/-
  The walks of the reference's superseding: the runs that a run supersedes, and whether it is the latest one.
-/
import Derived.Test.YtfbnihemoaknjaaDoorSup2
import Derived.Lib.QuietBelow


namespace Go.Proofs.YtfbnihemoaknjaaDoor
open Go.RowKit

theorem filter_snoc_no {α : Type} {p : α → Bool} {l : List α} {x : α} (h : p x = false) : (l ++ [x]).filter p = l.filter p := by
  rw [List.filter_append, List.filter_cons, h]; simp
theorem below_of_regrown {w w' : World} (h : ∃ p : Regrown, w' = Sort.grow (redrawn w p.d) p.os) : Below w.heap.size w w' := by
  obtain ⟨p, rfl⟩ := h
  exact below_regrown w p.d p.os

set_option maxRecDepth 100000 in
set_option maxHeartbeats 4000000 in
theorem rolder_any (A : Option Addr) (c : Nat) (l : List Sum) (s : Sum) (w : World) (hr : Rw sumE 8 w w.heap.size A l) (hn : l.length * 16 ≤ 140737488355328) :
    Calls Tryd.prog 11 #[.slice A l.length c, .agg #[.string s.run.1, .string s.proj.1, .string s.ref.1, .bool s.fork, .string s.pipe.1, .int .i64 s.number.1, .bool s.done, .bool s.keep]] w fun e w' => ∃ A' c', e = .returned (.slice A' (olderS s l).length c') ∧ Rw sE 1 w' w'.heap.size A' (olderS s l) ∧ Below w.heap.size w w' := by
  obtain ⟨i0, hi0, iz0, iz1, iz2⟩ := info_parts cloneS_any_info
  go_enter Tryd.func11, Tryd.ntmps11
  go_wp2_with fail
  have hbox := fun j u hu => box_cells w (sumE s).toArray 26 j u hu
  have hb0 : Below w.heap.size w (w.alloc (.cells (sumE s).toArray 26)) := (Below.refl _ _).alloc (Nat.le_refl _) _
  have hz0 : (w.alloc (.cells (sumE s).toArray 26)).heap.size = w.heap.size + 1 := by simp
  simp only [sumE] at hbox hb0 hz0
  generalize w.alloc (.cells #[.string s.run.1, .string s.proj.1, .string s.ref.1, .bool s.fork, .string s.pipe.1, .int .i64 s.number.1, .bool s.done, .bool s.keep] 26) = W0 at *
  have hz0' := Nat.le_of_eq hz0
  have hz0'' := Nat.le_of_eq hz0.symm
  replace hz0 := Lib.hid hz0
  replace hbox := Lib.hid hbox
  go_loopw [5, 6] (fun vo vi wr => ∃ k : Nat, vi = .int .i64 (k : Int) ∧ k ≤ l.length ∧ Own sE 1 9 wr W0.heap.size vo (((l.take k).filter (goesB s)).map (·.run)) ∧ Below W0.heap.size W0 wr) (fun _ vi _ => l.length - (intOf vi).toNat)
  case atStart => exact ⟨0, rfl, Nat.zero_le _, Own.nil _ _ _, Below.refl _ _⟩
  case round =>
    obtain ⟨k, rfl, hk, hown, hbw⟩ := hrel
    have hzw := hbw.size
    by_cases hkl : k < l.length
    · obtain ⟨x, hx⟩ := get_some hkl
      have hx' := Lib.hid hx
      obtain ⟨g, o, rfl, hgB, hq⟩ := hr (by omega)
      have hq' : ∀ j u, (sumE x)[j]? = some u → wr.cell? ⟨g, o + k * 8 + j, none⟩ = some u := fun j u hu => by
        rw [hbw.cell (show g < W0.heap.size by omega), hb0.cell hgB]; exact hq k x hx j u hu
      have hp' : ∀ j u, (sumE s)[j]? = some u → wr.cell? ⟨w.heap.size, j, none⟩ = some u := fun j u hu => by
        rw [hbw.cell (show w.heap.size < W0.heap.size by omega)]; exact hbox.out j u hu
      clear hq hx
      have q0 := hq' 0 (.string x.run.1) rfl
      try rw [Nat.add_zero] at q0
      have q1 := hq' 1 (.string x.proj.1) rfl
      have q2 := hq' 2 (.string x.ref.1) rfl
      have q3 := hq' 3 (.bool x.fork) rfl
      have q4 := hq' 4 (.string x.pipe.1) rfl
      have q5 := hq' 5 (.int .i64 x.number.1) rfl
      have q6 := hq' 6 (.bool x.done) rfl
      have q7 := hq' 7 (.bool x.keep) rfl
      have p0 := hp' 0 (.string s.run.1) rfl
      try rw [Nat.add_zero] at p0
      have p1 := hp' 1 (.string s.proj.1) rfl
      have p2 := hp' 2 (.string s.ref.1) rfl
      have p3 := hp' 3 (.bool s.fork) rfl
      have p4 := hp' 4 (.string s.pipe.1) rfl
      have p5 := hp' 5 (.int .i64 s.number.1) rfl
      have p6 := hp' 6 (.bool s.done) rfl
      have p7 := hp' 7 (.bool s.keep) rfl
      clear hq' hp'
      have i0' : (0 : Int) ≤ (k : Int) := by omega
      have i1' : (k : Int) < (l.length : Int) := by omega
      have hgne : g ≠ wr.heap.size := by omega
      have hq0 := Lib.hid q0
      have hcall := fun W => rsamesum_any x s W
      rcases hsm : sameB x s with _ | _
      · have hp : goesB s x = false := by unfold goesB; rw [hsm]; rfl
        simp only [hsm] at hcall
        replace hcall := Lib.hid hcall
        replace q0 := fun d os => cell_regrown q0 d os
        replace q1 := fun d os => cell_regrown q1 d os
        replace q2 := fun d os => cell_regrown q2 d os
        replace q3 := fun d os => cell_regrown q3 d os
        replace q4 := fun d os => cell_regrown q4 d os
        replace q5 := fun d os => cell_regrown q5 d os
        replace q6 := fun d os => cell_regrown q6 d os
        replace q7 := fun d os => cell_regrown q7 d os
        replace p0 := fun d os => cell_regrown p0 d os
        replace p1 := fun d os => cell_regrown p1 d os
        replace p2 := fun d os => cell_regrown p2 d os
        replace p3 := fun d os => cell_regrown p3 d os
        replace p4 := fun d os => cell_regrown p4 d os
        replace p5 := fun d os => cell_regrown p5 d os
        replace p6 := fun d os => cell_regrown p6 d os
        replace p7 := fun d os => cell_regrown p7 d os
        go_wp2_with fail
        refine wp_region_quiet_below (by kernel_rfl) (by kernel_rfl) ?_
        repeat (go_big_quiet_step ((go_at_call 15; exact Calls.regrown_of (hcall.out _))))
        refine wpQuiet_nil ?_
        intro w2 hw2
        have hb2 := below_of_regrown hw2
        clear hw2
        have hz2 := hb2.size
        try have q2' : w2.cell? ⟨g, o + k * 8, none⟩ = some (.string x.run.1) := by rw [hb2.cell (p := ⟨g, o + k * 8, none⟩) (by show g < wr.heap.size; omega)]; exact hq0.out
        go_wp2_with fail
        go_roundw
        case rel => exact ⟨k + 1, by go_num, by omega, by
          rw [List.take_add_one, hx'.out, Option.toList_some, filter_snoc_no hp]
          exact hown.all hb2, hbw.trans (hb2.mono (by omega))⟩
        case measure => simp [intOf]; omega
      · simp only [hsm] at hcall
        by_cases hlt : x.number.1 < s.number.1
        · obtain ⟨dn, hdn⟩ : ∃ d, x.done = d := ⟨_, rfl⟩
          obtain ⟨kp, hkp⟩ : ∃ d, x.keep = d := ⟨_, rfl⟩
          have hp : goesB s x = (!dn && !kp) := by unfold goesB; rw [hsm, hdn, hkp]; simp [hlt]
          rw [hdn] at q6 hcall
          rw [hkp] at q7 hcall
          replace hdn := Lib.hid hdn
          replace hkp := Lib.hid hkp
          rcases dn with _ | _
          · rcases kp with _ | _
            · replace hcall := Lib.hid hcall
              replace q0 := fun d os => cell_regrown q0 d os
              replace q1 := fun d os => cell_regrown q1 d os
              replace q2 := fun d os => cell_regrown q2 d os
              replace q3 := fun d os => cell_regrown q3 d os
              replace q4 := fun d os => cell_regrown q4 d os
              replace q5 := fun d os => cell_regrown q5 d os
              replace q6 := fun d os => cell_regrown q6 d os
              replace q7 := fun d os => cell_regrown q7 d os
              replace p0 := fun d os => cell_regrown p0 d os
              replace p1 := fun d os => cell_regrown p1 d os
              replace p2 := fun d os => cell_regrown p2 d os
              replace p3 := fun d os => cell_regrown p3 d os
              replace p4 := fun d os => cell_regrown p4 d os
              replace p5 := fun d os => cell_regrown p5 d os
              replace p6 := fun d os => cell_regrown p6 d os
              replace p7 := fun d os => cell_regrown p7 d os
              go_wp2_with fail
              refine wp_region_quiet_below (by kernel_rfl) (by kernel_rfl) ?_
              repeat (go_big_quiet_step ((go_at_call 15; exact Calls.regrown_of (hcall.out _))))
              refine wpQuiet_nil ?_
              intro w2 hw2
              have hb2 := below_of_regrown hw2
              clear hw2
              have hz2 := hb2.size
              try have q2' : w2.cell? ⟨g, o + k * 8, none⟩ = some (.string x.run.1) := by rw [hb2.cell (p := ⟨g, o + k * 8, none⟩) (by show g < wr.heap.size; omega)]; exact hq0.out
              go_wp2_with (first
                | (at_builtin
                   go_must (refine wpList_append_rw _ rfl (.tmp 45) (.tmp 51) _ rfl sE_len sE_one W0.heap.size 9 i0 _ 16 Tryd.underlying30 hi0 iz0 iz1 iz2 rfl (by omega) u5 _ rfl ((hown.all hb2).alloc _) _ (some ⟨w2.heap.size, 0, none⟩) 1 1 [x.run] rfl rfl ((Own.lit (enc := sE) (l := [x.run]) (base := 0) #[.string x.run.1] (Nat.zero_le _) (by simp [maxLen]) (by simp [sE]) sE_len).reads sE_len) ?_ ?_ ?_ ?_)
                   · have h1 := List.length_filter_le (goesB s) (l.take k)
                     rw [List.length_map]
                     rw [List.length_take] at h1
                     simp only [maxLen]; omega
                   · have h1 := List.length_filter_le (goesB s) (l.take k)
                     rw [List.length_map]
                     rw [List.length_take] at h1
                     omega
                   · simp; omega
                   intro v1 w1 hown1 hg1 hat1))
              go_roundw
              case rel => exact ⟨k + 1, by go_num, by omega, by
                rw [List.take_add_one, hx'.out, List.filter_append, List.map_append]
                simp only [Option.toList_some, List.filter_cons, List.filter_nil, hp, Bool.not_false, Bool.and_self, if_true, List.map_cons, List.map_nil]
                exact hown1, ((hbw.trans (hb2.mono (by omega))).alloc (by omega) _).grown hg1 (by simp; omega) (fun g hg => (hown.lt g hg).1)⟩
              case measure => simp [intOf]; omega
            · replace hcall := Lib.hid hcall
              replace q0 := fun d os => cell_regrown q0 d os
              replace q1 := fun d os => cell_regrown q1 d os
              replace q2 := fun d os => cell_regrown q2 d os
              replace q3 := fun d os => cell_regrown q3 d os
              replace q4 := fun d os => cell_regrown q4 d os
              replace q5 := fun d os => cell_regrown q5 d os
              replace q6 := fun d os => cell_regrown q6 d os
              replace q7 := fun d os => cell_regrown q7 d os
              replace p0 := fun d os => cell_regrown p0 d os
              replace p1 := fun d os => cell_regrown p1 d os
              replace p2 := fun d os => cell_regrown p2 d os
              replace p3 := fun d os => cell_regrown p3 d os
              replace p4 := fun d os => cell_regrown p4 d os
              replace p5 := fun d os => cell_regrown p5 d os
              replace p6 := fun d os => cell_regrown p6 d os
              replace p7 := fun d os => cell_regrown p7 d os
              go_wp2_with fail
              refine wp_region_quiet_below (by kernel_rfl) (by kernel_rfl) ?_
              repeat (go_big_quiet_step ((go_at_call 15; exact Calls.regrown_of (hcall.out _))))
              refine wpQuiet_nil ?_
              intro w2 hw2
              have hb2 := below_of_regrown hw2
              clear hw2
              have hz2 := hb2.size
              try have q2' : w2.cell? ⟨g, o + k * 8, none⟩ = some (.string x.run.1) := by rw [hb2.cell (p := ⟨g, o + k * 8, none⟩) (by show g < wr.heap.size; omega)]; exact hq0.out
              go_wp2_with fail
              go_roundw
              case rel => exact ⟨k + 1, by go_num, by omega, by
                rw [List.take_add_one, hx'.out, Option.toList_some, filter_snoc_no hp]
                exact hown.all hb2, hbw.trans (hb2.mono (by omega))⟩
              case measure => simp [intOf]; omega
          · replace hcall := Lib.hid hcall
            replace q0 := fun d os => cell_regrown q0 d os
            replace q1 := fun d os => cell_regrown q1 d os
            replace q2 := fun d os => cell_regrown q2 d os
            replace q3 := fun d os => cell_regrown q3 d os
            replace q4 := fun d os => cell_regrown q4 d os
            replace q5 := fun d os => cell_regrown q5 d os
            replace q6 := fun d os => cell_regrown q6 d os
            replace q7 := fun d os => cell_regrown q7 d os
            replace p0 := fun d os => cell_regrown p0 d os
            replace p1 := fun d os => cell_regrown p1 d os
            replace p2 := fun d os => cell_regrown p2 d os
            replace p3 := fun d os => cell_regrown p3 d os
            replace p4 := fun d os => cell_regrown p4 d os
            replace p5 := fun d os => cell_regrown p5 d os
            replace p6 := fun d os => cell_regrown p6 d os
            replace p7 := fun d os => cell_regrown p7 d os
            go_wp2_with fail
            refine wp_region_quiet_below (by kernel_rfl) (by kernel_rfl) ?_
            repeat (go_big_quiet_step ((go_at_call 15; exact Calls.regrown_of (hcall.out _))))
            refine wpQuiet_nil ?_
            intro w2 hw2
            have hb2 := below_of_regrown hw2
            clear hw2
            have hz2 := hb2.size
            try have q2' : w2.cell? ⟨g, o + k * 8, none⟩ = some (.string x.run.1) := by rw [hb2.cell (p := ⟨g, o + k * 8, none⟩) (by show g < wr.heap.size; omega)]; exact hq0.out
            go_wp2_with fail
            go_roundw
            case rel => exact ⟨k + 1, by go_num, by omega, by
              rw [List.take_add_one, hx'.out, Option.toList_some, filter_snoc_no hp]
              exact hown.all hb2, hbw.trans (hb2.mono (by omega))⟩
            case measure => simp [intOf]; omega
        · have hp : goesB s x = false := by unfold goesB; rw [hsm]; simp; omega
          have hdf : decide (x.number.1 < s.number.1) = false := by simp; omega
          replace hcall := Lib.hid hcall
          replace q0 := fun d os => cell_regrown q0 d os
          replace q1 := fun d os => cell_regrown q1 d os
          replace q2 := fun d os => cell_regrown q2 d os
          replace q3 := fun d os => cell_regrown q3 d os
          replace q4 := fun d os => cell_regrown q4 d os
          replace q5 := fun d os => cell_regrown q5 d os
          replace q6 := fun d os => cell_regrown q6 d os
          replace q7 := fun d os => cell_regrown q7 d os
          replace p0 := fun d os => cell_regrown p0 d os
          replace p1 := fun d os => cell_regrown p1 d os
          replace p2 := fun d os => cell_regrown p2 d os
          replace p3 := fun d os => cell_regrown p3 d os
          replace p4 := fun d os => cell_regrown p4 d os
          replace p5 := fun d os => cell_regrown p5 d os
          replace p6 := fun d os => cell_regrown p6 d os
          replace p7 := fun d os => cell_regrown p7 d os
          go_wp2_with fail
          refine wp_region_quiet_below (by kernel_rfl) (by kernel_rfl) ?_
          repeat (go_big_quiet_step ((go_at_call 15; exact Calls.regrown_of (hcall.out _))))
          refine wpQuiet_nil ?_
          intro w2 hw2
          have hb2 := below_of_regrown hw2
          clear hw2
          have hz2 := hb2.size
          try have q2' : w2.cell? ⟨g, o + k * 8, none⟩ = some (.string x.run.1) := by rw [hb2.cell (p := ⟨g, o + k * 8, none⟩) (by show g < wr.heap.size; omega)]; exact hq0.out
          go_wp2_with fail
          go_roundw
          case rel => exact ⟨k + 1, by go_num, by omega, by
            rw [List.take_add_one, hx'.out, Option.toList_some, filter_snoc_no hp]
            exact hown.all hb2, hbw.trans (hb2.mono (by omega))⟩
          case measure => simp [intOf]; omega
    · obtain rfl : k = l.length := by omega
      rw [List.take_length] at hown
      have hle : ((l.filter (goesB s)).map (·.run)).length ≤ l.length := by rw [List.length_map]; exact List.length_filter_le _ _
      obtain ⟨L, hL⟩ : ∃ L, (l.filter (goesB s)).map (·.run) = L := ⟨_, rfl⟩
      rw [hL] at hown hle
      replace hL := Lib.hid hL
      obtain ⟨A1, c1, rfl, hc1, hm1, _⟩ := hown.form
      have hrd := hown.reads sE_len
      go_wp2_with fail
      refine (rsorted_any A1 c1 L _ hrd (by omega)).mono ?_
      rintro e w2 ⟨A2, c2, rfl, hr2, hb2⟩
      go_wp2_with fail
      go_ret
      unfold olderS
      rw [hL.out]
      exact ⟨A2, c2, rfl, hr2, (hb0.trans (hbw.mono (by omega))).trans (hb2.mono (by omega))⟩

set_option maxRecDepth 100000 in
set_option maxHeartbeats 4000000 in
theorem rlatest_any (A : Option Addr) (c : Nat) (l : List Sum) (s : Sum) (w : World) (hr : Rw sumE 8 w w.heap.size A l) (hn : l.length * 16 ≤ 140737488355328) :
    Calls Tryd.prog 13 #[.slice A l.length c, .agg #[.string s.run.1, .string s.proj.1, .string s.ref.1, .bool s.fork, .string s.pipe.1, .int .i64 s.number.1, .bool s.done, .bool s.keep]] w fun e w' => e = .returned (.bool (latestB s l)) ∧ Below w.heap.size w w' := by
  go_enter Tryd.func13, Tryd.ntmps13
  go_wp2_with fail
  have hbox := fun j u hu => box_cells w (sumE s).toArray 26 j u hu
  have hb0 : Below w.heap.size w (w.alloc (.cells (sumE s).toArray 26)) := (Below.refl _ _).alloc (Nat.le_refl _) _
  have hz0 : (w.alloc (.cells (sumE s).toArray 26)).heap.size = w.heap.size + 1 := by simp
  simp only [sumE] at hbox hb0 hz0
  generalize w.alloc (.cells #[.string s.run.1, .string s.proj.1, .string s.ref.1, .bool s.fork, .string s.pipe.1, .int .i64 s.number.1, .bool s.done, .bool s.keep] 26) = W0 at *
  have hz0' := Nat.le_of_eq hz0
  have hz0'' := Nat.le_of_eq hz0.symm
  replace hz0 := Lib.hid hz0
  replace hbox := Lib.hid hbox
  go_loopw [5] (fun vi wr => ∃ k : Nat, vi = .int .i64 (k : Int) ∧ k ≤ l.length ∧ (l.take k).filter (laterB s) = [] ∧ Below W0.heap.size W0 wr) (fun vi _ => l.length - (intOf vi).toNat)
  case atStart => exact ⟨0, rfl, Nat.zero_le _, rfl, Below.refl _ _⟩
  case round =>
    obtain ⟨k, rfl, hk, hno, hbw⟩ := hrel
    replace hno := Lib.hid hno
    have hzw := hbw.size
    by_cases hkl : k < l.length
    · obtain ⟨x, hx⟩ := get_some hkl
      have hx' := Lib.hid hx
      obtain ⟨g, o, rfl, hgB, hq⟩ := hr (by omega)
      have hq' : ∀ j u, (sumE x)[j]? = some u → wr.cell? ⟨g, o + k * 8 + j, none⟩ = some u := fun j u hu => by
        rw [hbw.cell (show g < W0.heap.size by omega), hb0.cell hgB]; exact hq k x hx j u hu
      have hp' : ∀ j u, (sumE s)[j]? = some u → wr.cell? ⟨w.heap.size, j, none⟩ = some u := fun j u hu => by
        rw [hbw.cell (show w.heap.size < W0.heap.size by omega)]; exact hbox.out j u hu
      clear hq hx
      have q0 := hq' 0 (.string x.run.1) rfl
      try rw [Nat.add_zero] at q0
      have q1 := hq' 1 (.string x.proj.1) rfl
      have q2 := hq' 2 (.string x.ref.1) rfl
      have q3 := hq' 3 (.bool x.fork) rfl
      have q4 := hq' 4 (.string x.pipe.1) rfl
      have q5 := hq' 5 (.int .i64 x.number.1) rfl
      have q6 := hq' 6 (.bool x.done) rfl
      have q7 := hq' 7 (.bool x.keep) rfl
      have p0 := hp' 0 (.string s.run.1) rfl
      try rw [Nat.add_zero] at p0
      have p1 := hp' 1 (.string s.proj.1) rfl
      have p2 := hp' 2 (.string s.ref.1) rfl
      have p3 := hp' 3 (.bool s.fork) rfl
      have p4 := hp' 4 (.string s.pipe.1) rfl
      have p5 := hp' 5 (.int .i64 s.number.1) rfl
      have p6 := hp' 6 (.bool s.done) rfl
      have p7 := hp' 7 (.bool s.keep) rfl
      clear hq' hp'
      have i0' : (0 : Int) ≤ (k : Int) := by omega
      have i1' : (k : Int) < (l.length : Int) := by omega
      have hgne : g ≠ wr.heap.size := by omega
      have hcall := fun W => rsamesum_any x s W
      rcases hsm : sameB x s with _ | _
      · have hp : laterB s x = false := by unfold laterB; rw [hsm]; rfl
        simp only [hsm] at hcall
        replace hcall := Lib.hid hcall
        replace q0 := fun d os => cell_regrown q0 d os
        replace q1 := fun d os => cell_regrown q1 d os
        replace q2 := fun d os => cell_regrown q2 d os
        replace q3 := fun d os => cell_regrown q3 d os
        replace q4 := fun d os => cell_regrown q4 d os
        replace q5 := fun d os => cell_regrown q5 d os
        replace q6 := fun d os => cell_regrown q6 d os
        replace q7 := fun d os => cell_regrown q7 d os
        replace p0 := fun d os => cell_regrown p0 d os
        replace p1 := fun d os => cell_regrown p1 d os
        replace p2 := fun d os => cell_regrown p2 d os
        replace p3 := fun d os => cell_regrown p3 d os
        replace p4 := fun d os => cell_regrown p4 d os
        replace p5 := fun d os => cell_regrown p5 d os
        replace p6 := fun d os => cell_regrown p6 d os
        replace p7 := fun d os => cell_regrown p7 d os
        go_wp2_with fail
        refine wp_region_quiet_below (by kernel_rfl) (by kernel_rfl) ?_
        repeat (go_big_quiet_step ((go_at_call 15; exact Calls.regrown_of (hcall.out _))))
        refine wpQuiet_nil ?_
        intro w2 hw2
        have hb2 := below_of_regrown hw2
        clear hw2
        have hz2 := hb2.size
        try have q2' : w2.cell? ⟨g, o + k * 8, none⟩ = some (.string x.run.1) := by rw [hb2.cell (p := ⟨g, o + k * 8, none⟩) (by show g < wr.heap.size; omega)]; exact hq0.out
        go_wp2_with fail
        go_roundw
        case rel => exact ⟨k + 1, by go_num, by omega, by
          rw [List.take_add_one, hx'.out, List.filter_append, hno.out]
          simp [hp], hbw.trans (hb2.mono (by omega))⟩
        case measure => simp [intOf]; omega
      · simp only [hsm] at hcall
        by_cases hlt : s.number.1 < x.number.1
        · have hp : laterB s x = true := by unfold laterB; rw [hsm]; simp [hlt]
          have hl : Hid (latestB s l = false) := Lib.hid (by
            unfold latestB
            rw [decide_eq_false_iff_not]
            intro h
            have := List.filter_eq_nil_iff.1 h x (List.mem_of_getElem? hx'.out)
            exact this hp)
          replace hcall := Lib.hid hcall
          replace q0 := fun d os => cell_regrown q0 d os
          replace q1 := fun d os => cell_regrown q1 d os
          replace q2 := fun d os => cell_regrown q2 d os
          replace q3 := fun d os => cell_regrown q3 d os
          replace q4 := fun d os => cell_regrown q4 d os
          replace q5 := fun d os => cell_regrown q5 d os
          replace q6 := fun d os => cell_regrown q6 d os
          replace q7 := fun d os => cell_regrown q7 d os
          replace p0 := fun d os => cell_regrown p0 d os
          replace p1 := fun d os => cell_regrown p1 d os
          replace p2 := fun d os => cell_regrown p2 d os
          replace p3 := fun d os => cell_regrown p3 d os
          replace p4 := fun d os => cell_regrown p4 d os
          replace p5 := fun d os => cell_regrown p5 d os
          replace p6 := fun d os => cell_regrown p6 d os
          replace p7 := fun d os => cell_regrown p7 d os
          go_wp2_with fail
          refine wp_region_quiet_below (by kernel_rfl) (by kernel_rfl) ?_
          repeat (go_big_quiet_step ((go_at_call 15; exact Calls.regrown_of (hcall.out _))))
          refine wpQuiet_nil ?_
          intro w2 hw2
          have hb2 := below_of_regrown hw2
          clear hw2
          have hz2 := hb2.size
          try have q2' : w2.cell? ⟨g, o + k * 8, none⟩ = some (.string x.run.1) := by rw [hb2.cell (p := ⟨g, o + k * 8, none⟩) (by show g < wr.heap.size; omega)]; exact hq0.out
          go_wp2_with fail
          go_ret
          exact ⟨ret_bool hl.out.symm, (hb0.trans (hbw.mono (by omega))).trans (hb2.mono (by omega))⟩
        · have hp : laterB s x = false := by unfold laterB; rw [hsm]; simp; omega
          have hdf : decide (s.number.1 < x.number.1) = false := by simp; omega
          replace hcall := Lib.hid hcall
          replace q0 := fun d os => cell_regrown q0 d os
          replace q1 := fun d os => cell_regrown q1 d os
          replace q2 := fun d os => cell_regrown q2 d os
          replace q3 := fun d os => cell_regrown q3 d os
          replace q4 := fun d os => cell_regrown q4 d os
          replace q5 := fun d os => cell_regrown q5 d os
          replace q6 := fun d os => cell_regrown q6 d os
          replace q7 := fun d os => cell_regrown q7 d os
          replace p0 := fun d os => cell_regrown p0 d os
          replace p1 := fun d os => cell_regrown p1 d os
          replace p2 := fun d os => cell_regrown p2 d os
          replace p3 := fun d os => cell_regrown p3 d os
          replace p4 := fun d os => cell_regrown p4 d os
          replace p5 := fun d os => cell_regrown p5 d os
          replace p6 := fun d os => cell_regrown p6 d os
          replace p7 := fun d os => cell_regrown p7 d os
          go_wp2_with fail
          refine wp_region_quiet_below (by kernel_rfl) (by kernel_rfl) ?_
          repeat (go_big_quiet_step ((go_at_call 15; exact Calls.regrown_of (hcall.out _))))
          refine wpQuiet_nil ?_
          intro w2 hw2
          have hb2 := below_of_regrown hw2
          clear hw2
          have hz2 := hb2.size
          try have q2' : w2.cell? ⟨g, o + k * 8, none⟩ = some (.string x.run.1) := by rw [hb2.cell (p := ⟨g, o + k * 8, none⟩) (by show g < wr.heap.size; omega)]; exact hq0.out
          go_wp2_with fail
          go_roundw
          case rel => exact ⟨k + 1, by go_num, by omega, by
            rw [List.take_add_one, hx'.out, List.filter_append, hno.out]
            simp [hp], hbw.trans (hb2.mono (by omega))⟩
          case measure => simp [intOf]; omega
    · have hl : Hid (latestB s l = true) := Lib.hid (by
        unfold latestB
        rw [decide_eq_true_iff]
        have := hno.out
        rwa [List.take_of_length_le (by omega)] at this)
      go_wp2_with fail
      go_ret
      exact ⟨ret_bool hl.out.symm, hb0.trans (hbw.mono (by omega))⟩
end Go.Proofs.YtfbnihemoaknjaaDoor
