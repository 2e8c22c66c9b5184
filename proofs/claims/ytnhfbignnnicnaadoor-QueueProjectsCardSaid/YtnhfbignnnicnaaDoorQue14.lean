/-
  The walks of the queue: the projects with jobs in it, by the program and by the reference.
-/
import Derived.Test.YtnhfbignnnicnaaDoorQue13



namespace Go.Proofs.YtnhfbignnnicnaaDoor
open Go.RowKit

theorem srt_len (l : List Str) : (srt l).length ≤ l.length := by
  unfold srt srtOf
  exact Nat.le_trans (Lib.compact_length_le _) (by simp)
set_option maxRecDepth 100000 in
set_option maxHeartbeats 2000000 in
theorem projects_any (A : Option Addr) (c : Nat) (l : List Pend) (w : World) (hr : Rw pendE 10 w w.heap.size A l) (hn : l.length ≤ 5000) :
    Calls Tryd.prog 27 #[.slice A l.length c] w fun e w' => ∃ A' c', e = .returned (.slice A' (srt (l.map (·.proj))).length c') ∧ Rw sE 1 w' w'.heap.size A' (srt (l.map (·.proj))) ∧ Below w.heap.size w w' := by
  obtain ⟨inf, hi0, iz0, iz1, iz2⟩ := info_parts cloneS_any_info
  obtain ⟨H, hH⟩ : ∃ H, w.heap.size = H := ⟨_, rfl⟩
  rw [hH] at hr ⊢
  have hH2 := Nat.le_of_eq hH
  have hH3 := Nat.le_of_eq hH.symm
  replace hH := Lib.hid hH
  replace hr := Lib.hid hr
  go_enter Tryd.func27, Tryd.ntmps27
  go_wp2_with fail
  go_loopw [3, 8] (fun vo vi wr => ∃ k : Nat, vi = .int .i64 (k : Int) ∧ k ≤ l.length ∧ Own sE 1 9 wr H vo ((l.take k).map (·.proj)) ∧ Below H w wr) (fun _ vi _ => l.length - (intOf vi).toNat)
  case atStart => exact ⟨0, rfl, Nat.zero_le _, Own.nil _ _ _, Below.refl _ _⟩
  case round =>
    obtain ⟨k, rfl, hk, hown, hbw⟩ := hrel
    have hz := hbw.size
    by_cases hlt : k < l.length
    · obtain ⟨x, hx⟩ := get_some hlt
      obtain ⟨g, o, rfl, hg, q⟩ := hr.out (by omega)
      replace q := fun j u hu => (hbw.cell (p := ⟨g, o + k * 10 + j, none⟩) hg).trans (q k x hx j u hu)
      have q0 := q 0 (.string x.run.1) rfl
      try rw [Nat.add_zero] at q0
      have q1 := q 1 (.string x.job.1) rfl
      have q2 := q 2 (.string x.proj.1) rfl
      have q3 := q 3 (.int .i64 x.prio.1) rfl
      have q4 := q 4 (.int .i64 x.since.1) rfl
      have q5 := q 5 (.int .i64 x.cost.1) rfl
      have q6 := q 6 (.slice x.labsA x.labs.length x.labsC) rfl
      have q7 := q 7 (.int .i64 x.trust.1) rfl
      have q8 := q 8 (.string x.group.1) rfl
      have q9 := q 9 (.int .i64 x.policy.1) rfl
      clear q
      have i0 : (0 : Int) ≤ (k : Int) := by omega
      have i1 : (k : Int) < (l.length : Int) := by omega
      have hlen : ((l.take k).map (·.proj)).length = k := by rw [List.length_map, List.length_take]; omega
      replace hx := Lib.hid hx
      go_wp2_with (first
        | (at_builtin
           go_must (refine wpList_append_rw _ rfl (.tmp 12) (.tmp 15) _ rfl sE_len sE_one H 9 inf _ 16 Tryd.underlying25 hi0 iz0 iz1 iz2 rfl (by omega) u3 _ rfl (((hown.all (w' := (wr.alloc (.cells (pendE x).toArray 27))) ((Below.refl _ _).alloc (Nat.le_refl _) _))).alloc _) _ (some ⟨wr.heap.size + 1, 0, none⟩) 1 1 [x.proj] rfl rfl (by have h := (Own.lit (w := wr.alloc (.cells #[.string x.run.1, .string x.job.1, .string x.proj.1, .int .i64 x.prio.1, .int .i64 x.since.1, .int .i64 x.cost.1, .slice x.labsA x.labs.length x.labsC, .int .i64 x.trust.1, .string x.group.1, .int .i64 x.policy.1] 27)) (e := 9) (enc := sE) (l := [x.proj]) (base := 0) #[.string x.proj.1] (Nat.zero_le _) (by simp [maxLen]) (by simp [sE]) sE_len).reads sE_len; simpa using h) ?_ ?_ ?_ ?_)
           go_must (focus (rw [hlen]; simp only [maxLen]; omega))
           go_must (focus (rw [hlen]; omega))
           go_must (focus ((try simp) <;> omega))
           intro v3 w3 hown3 hg3 hat3))
      go_roundw
      case rel => exact ⟨k + 1, by go_num, by omega, by rw [List.take_add_one, hx.out, List.map_append]; exact hown3, ((hbw.alloc (by omega) _).alloc (by simp; omega) _).grown hg3 (by simp; omega) (fun g hg => (hown.lt g hg).1)⟩
      case measure => simp [intOf]; omega
    · have i1 : ¬ (k : Int) < (l.length : Int) := by omega
      obtain rfl : k = l.length := by omega
      rw [List.take_length] at hown
      obtain ⟨A1, c1, rfl, _, _, _⟩ := hown.form
      have hs := sorted_any A1 c1 (l.map (·.proj)) wr (hown.reads sE_len) (by rw [List.length_map]; omega)
      simp only [List.length_map] at hs
      replace hs := Lib.hid hs
      go_wp2_with (go_at_call 44; go_must (refine hs.out.mono ?_; rintro e w2 ⟨A2, c2, rfl, hr2, hb2⟩))
      go_ret
      exact ⟨_, _, rfl, hr2, hbw.trans (hb2.mono (by omega))⟩
set_option maxRecDepth 100000 in
set_option maxHeartbeats 2000000 in
theorem rprojects_any (A : Option Addr) (c : Nat) (l : List Pend) (w : World) (hr : Rw pendE 10 w w.heap.size A l) (hn : l.length ≤ 5000) :
    Calls Tryd.prog 28 #[.slice A l.length c] w fun e w' => ∃ A' c', e = .returned (.slice A' (srt (l.map (·.proj))).length c') ∧ Rw sE 1 w' w'.heap.size A' (srt (l.map (·.proj))) ∧ Below w.heap.size w w' := by
  obtain ⟨inf, hi0, iz0, iz1, iz2⟩ := info_parts cloneS_any_info
  obtain ⟨H, hH⟩ : ∃ H, w.heap.size = H := ⟨_, rfl⟩
  rw [hH] at hr ⊢
  have hH2 := Nat.le_of_eq hH
  have hH3 := Nat.le_of_eq hH.symm
  replace hH := Lib.hid hH
  replace hr := Lib.hid hr
  go_enter Tryd.func28, Tryd.ntmps28
  go_wp2_with fail
  go_loopw [3, 4] (fun vo vi wr => ∃ k : Nat, vi = .int .i64 (k : Int) ∧ k ≤ l.length ∧ Own sE 1 9 wr H vo ((l.take k).map (·.proj)) ∧ Below H w wr) (fun _ vi _ => l.length - (intOf vi).toNat)
  case atStart => exact ⟨0, rfl, Nat.zero_le _, Own.nil _ _ _, Below.refl _ _⟩
  case round =>
    obtain ⟨k, rfl, hk, hown, hbw⟩ := hrel
    have hz := hbw.size
    by_cases hlt : k < l.length
    · obtain ⟨x, hx⟩ := get_some hlt
      obtain ⟨g, o, rfl, hg, q⟩ := hr.out (by omega)
      replace q := fun j u hu => (hbw.cell (p := ⟨g, o + k * 10 + j, none⟩) hg).trans (q k x hx j u hu)
      have q0 := q 0 (.string x.run.1) rfl
      try rw [Nat.add_zero] at q0
      have q1 := q 1 (.string x.job.1) rfl
      have q2 := q 2 (.string x.proj.1) rfl
      have q3 := q 3 (.int .i64 x.prio.1) rfl
      have q4 := q 4 (.int .i64 x.since.1) rfl
      have q5 := q 5 (.int .i64 x.cost.1) rfl
      have q6 := q 6 (.slice x.labsA x.labs.length x.labsC) rfl
      have q7 := q 7 (.int .i64 x.trust.1) rfl
      have q8 := q 8 (.string x.group.1) rfl
      have q9 := q 9 (.int .i64 x.policy.1) rfl
      clear q
      have i0 : (0 : Int) ≤ (k : Int) := by omega
      have i1 : (k : Int) < (l.length : Int) := by omega
      have hlen : ((l.take k).map (·.proj)).length = k := by rw [List.length_map, List.length_take]; omega
      replace hx := Lib.hid hx
      go_wp2_with (first
        | (at_builtin
           go_must (refine wpList_append_rw _ rfl (.tmp 11) (.tmp 17) _ rfl sE_len sE_one H 9 inf _ 16 Tryd.underlying25 hi0 iz0 iz1 iz2 rfl (by omega) u3 _ rfl (hown.alloc _) _ (some ⟨wr.heap.size, 0, none⟩) 1 1 [x.proj] rfl rfl (by have h := (Own.lit (w := wr) (e := 9) (enc := sE) (l := [x.proj]) (base := 0) #[.string x.proj.1] (Nat.zero_le _) (by simp [maxLen]) (by simp [sE]) sE_len).reads sE_len; simpa using h) ?_ ?_ ?_ ?_)
           go_must (focus (rw [hlen]; simp only [maxLen]; omega))
           go_must (focus (rw [hlen]; omega))
           go_must (focus ((try simp) <;> omega))
           intro v3 w3 hown3 hg3 hat3))
      go_roundw
      case rel => exact ⟨k + 1, by go_num, by omega, by rw [List.take_add_one, hx.out, List.map_append]; exact hown3, (hbw.alloc (by omega) _).grown hg3 (by simp; omega) (fun g hg => (hown.lt g hg).1)⟩
      case measure => simp [intOf]; omega
    · have i1 : ¬ (k : Int) < (l.length : Int) := by omega
      obtain rfl : k = l.length := by omega
      rw [List.take_length] at hown
      obtain ⟨A1, c1, rfl, _, _, _⟩ := hown.form
      have hs := rsorted_any A1 c1 (l.map (·.proj)) wr (hown.reads sE_len) (by rw [List.length_map]; omega)
      simp only [List.length_map] at hs
      replace hs := Lib.hid hs
      go_wp2_with (go_at_call 45; go_must (refine hs.out.mono ?_; rintro e w2 ⟨A2, c2, rfl, hr2, hb2⟩))
      go_ret
      exact ⟨_, _, rfl, hr2, hbw.trans (hb2.mono (by omega))⟩
end Go.Proofs.YtnhfbignnnicnaaDoor
