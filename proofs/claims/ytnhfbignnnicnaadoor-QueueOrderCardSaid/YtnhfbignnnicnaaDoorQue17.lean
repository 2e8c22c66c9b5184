/-
  The walk of the queue: the reference's order.
-/
import Derived.Test.YtnhfbignnnicnaaDoorQue16



namespace Go.Proofs.YtnhfbignnnicnaaDoor
open Go.RowKit

theorem own_ne2 {g' : Nat} {v : Value} (h : v.ownBlock = none ∨ v.ownBlock = some g') {g : Nat} (hg : g < g') : some g ≠ v.ownBlock := by
  rcases h with h | h <;> rw [h] <;> simp <;> omega
set_option maxRecDepth 100000 in
set_option maxHeartbeats 8000000 in
theorem rorderq_any (A : Option Addr) (c : Nat) (l : List Pend) (now : I64) (w : World) (hr : RwL w w.heap.size A l) (hn : l.length ≤ 5000) :
    Calls Tryd.prog 21 #[.slice A l.length c, .int .i64 now.1] w fun e w' => ∃ A' l' c', e = .returned (.slice A' l'.length c') ∧ RwL w' w'.heap.size A' l' ∧ StableOf (cfP now.1) l l' ∧ Below w.heap.size w w' := by
  obtain ⟨inf, hi0, iz0, iz1, iz2⟩ := info_parts pend_info
  obtain ⟨B, hB⟩ : ∃ B, w.heap.size = B := ⟨_, rfl⟩
  rw [hB] at hr ⊢
  have hB2 := Nat.le_of_eq hB
  have hB3 := Nat.le_of_eq hB.symm
  replace hB := Lib.hid hB
  replace hr := Lib.hid hr
  go_enter Tryd.func21, Tryd.ntmps21
  go_wp2_with fail
  go_loopw [5, 6, 7, 8] (fun vo vi _ _ wr => ∃ (k : Nat) (out : List Pend) (Ao : Option Addr) (co : Nat), vi = .int .i64 (k : Int) ∧ vo = .slice Ao out.length co ∧ k ≤ l.length ∧ out.length ≤ k ∧ out.length ≤ co ∧ StableOf (cfP now.1) (l.take k) out ∧ Own pendE 10 27 wr B vo out ∧ Below B w wr) (fun _ vi _ _ _ => l.length - (intOf vi).toNat)
  case atStart => exact ⟨0, [], none, 0, rfl, rfl, Nat.zero_le _, Nat.le_refl _, Nat.le_refl _, StableOf.nil, Own.nil _ _ _, Below.refl _ _⟩
  case round =>
    obtain ⟨k, out, Ao, co, rfl, rfl, hk, hok, hoc, hst, hown, hbw⟩ := hrel
    have hzw := hbw.size
    obtain ⟨_, _, hform, _, hcm, _⟩ := hown.form
    obtain ⟨rfl, rfl⟩ : Ao = _ ∧ co = _ := by simpa using hform
    clear hform
    unfold maxLen at hcm
    replace hst := Lib.hid hst
    by_cases hkl : k < l.length
    · obtain ⟨x, hx⟩ := get_some hkl
      have hx' := Lib.hid hx
      obtain ⟨g, o, rfl, hgB, hq⟩ := hr.out.row (by omega)
      have hq0 : Hid (∀ j u, (pendE x)[j]? = some u → w.cell? ⟨g, o + k * 10 + j, none⟩ = some u) := Lib.hid (hq k x hx)
      clear hq hx
      have i0' : (0 : Int) ≤ (k : Int) := by omega
      have i1' : (k : Int) < (l.length : Int) := by omega
      go_wp2_with fail
      go_loopw [7] (fun va wq => ∃ a : Nat, va = .int .i64 (a : Int) ∧ a ≤ out.length ∧ (∀ i y, a ≤ i → out[i]? = some y → cfP now.1 x y < 0) ∧ Below wr.heap.size wr wq) (fun va _ => (intOf va).toNat)
      case atStart => exact ⟨out.length, rfl, Nat.le_refl _, (fun i y hi hy => by rw [List.getElem?_eq_none hi] at hy; cases hy), Below.refl _ _⟩
      case round =>
        obtain ⟨a, rfl, ha, hhi, hbi⟩ := hrel
        replace hown := hown.all hbi
        replace hbw := hbw.trans (hbi.mono (by omega))
        have hzi := hbi.size
        have hzv := hbw.size
        replace hhi := Lib.hid hhi
        have q := fun j u hu => (hbw.cell (p := ⟨g, o + k * 10 + j, none⟩) hgB).trans (hq0.out j u hu)
        have q0 := q 0 (.string x.run.1) rfl
        try rw [Nat.add_zero] at q0
        have q1 := q 1 (.string x.job.1) rfl
        have q2 := q 2 (.string x.proj.1) rfl
        have q3 := q 3 (.int .i64 x.prio.1) rfl
        have q4 := q 4 (.int .i64 x.since.1) rfl
        have q5 := q 5 (.int .i64 x.cost.1) rfl
        have q6 := q 6 (.slice x.labsA x.labs.length x.labsC) rfl
        have q7 := q 7 (.int .i64 x.trust.1) rfl
        have q8 := q 8 (.string x.group.1) rfl
        have q9 := q 9 (.int .i64 x.policy.1) rfl
        clear q
        replace q0 := fun d os => cell_regrown q0 d os
        replace q1 := fun d os => cell_regrown q1 d os
        replace q2 := fun d os => cell_regrown q2 d os
        replace q3 := fun d os => cell_regrown q3 d os
        replace q4 := fun d os => cell_regrown q4 d os
        replace q5 := fun d os => cell_regrown q5 d os
        replace q6 := fun d os => cell_regrown q6 d os
        replace q7 := fun d os => cell_regrown q7 d os
        replace q8 := fun d os => cell_regrown q8 d os
        replace q9 := fun d os => cell_regrown q9 d os
        rcases Nat.eq_zero_or_pos a with h0 | h0
        · subst h0
          go_wp2_with fail
          refine wp_region_quiet_below (by kernel_rfl) (by kernel_rfl) ?_
          repeat (go_big_quiet_step (fail))
          refine wpQuiet_nil ?_
          intro w2 hw2
          have hb2 := below_of_regrown hw2
          clear hw2
          clear q0 q1 q2 q3 q4 q5 q6 q7 q8 q9
          have hz2 := hb2.size
          have hown2 := hown.all hb2
          have hbw2 := hbw.trans (hb2.mono (by omega))
          have hrq : Hid (∀ j u, (pendE x)[j]? = some u → w2.cell? ⟨g, o + k * 10 + j, none⟩ = some u) := Lib.hid fun j u hu => (hbw2.cell (p := ⟨g, o + k * 10 + j, none⟩) hgB).trans (hq0.out j u hu)
          go_wp2_with (first
            | (at_builtin
               refine wpList_append_rw _ rfl (.tmp 34) (.tmp 37) _ rfl pendE_len pendE_one B 27 inf _ 128 Tryd.underlying22 hi0 iz0 iz1 iz2 rfl (by omega) (.slice none 0 0) [] rfl
                 (Own.nil _ _ _) w2.heap.size Ao (0) co (out.take (0)) (by rw [List.length_take]; omega) rfl ?_ ?_ ?_ ?_ ?_
               · exact (hown2.reads pendE_len).take
               · (try simp [maxLen]) <;> omega
               · (try simp) <;> omega
               · (try simp) <;> omega
               intro v3 w3 hown3 hg3 hat3
               rw [List.nil_append] at hown3
               replace hat3 := Lib.hid (show v3.ownBlock = none ∨ v3.ownBlock = some w2.heap.size by simpa [Value.ownBlock] using hat3)
               have hz3 := hg3.size
               have hownA : Own pendE 10 27 w3 B (.slice Ao out.length co) out := hown2.grown hg3 (fun g hg => by simp [Value.ownBlock])
               have hbw3 : Below B w w3 := hbw2.grown hg3 (by omega) (fun g hg => by simp [Value.ownBlock] at hg)
               have q := fun j u hu => (hbw3.cell (p := ⟨g, o + k * 10 + j, none⟩) hgB).trans (hq0.out j u hu)
               have q0 := q 0 (.string x.run.1) rfl
               try rw [Nat.add_zero] at q0
               have q1 := q 1 (.string x.job.1) rfl
               have q2 := q 2 (.string x.proj.1) rfl
               have q3 := q 3 (.int .i64 x.prio.1) rfl
               have q4 := q 4 (.int .i64 x.since.1) rfl
               have q5 := q 5 (.int .i64 x.cost.1) rfl
               have q6 := q 6 (.slice x.labsA x.labs.length x.labsC) rfl
               have q7 := q 7 (.int .i64 x.trust.1) rfl
               have q8 := q 8 (.string x.group.1) rfl
               have q9 := q 9 (.int .i64 x.policy.1) rfl
               clear q)
            | (at_builtin
               refine (wpList_append_rw _ rfl (.tmp 39) (.tmp 44) _ rfl pendE_len pendE_one B 27 inf _ 128 Tryd.underlying22 hi0 iz0 iz1 iz2 rfl (by omega) v3 (out.take (0)) rfl (hown3.alloc _) _ (some ⟨w3.heap.size, 0, none⟩) 1 1 [x] rfl rfl ((Own.lit (enc := pendE) (l := [x]) (base := 0) (pendE x).toArray (Nat.zero_le _) (by simp [maxLen]) (by simp) pendE_len).reads pendE_len) ?_ ?_ ?_ ?_)
               · (try simp [maxLen]) <;> omega
               · (try simp) <;> omega
               · (try simp) <;> omega
               intro v4 w4 hown4 hg4 hat4
               have hz4 := hg4.size
               simp at hz4
               have hownB : Own pendE 10 27 w4 B (.slice Ao out.length co) out := (hownA.alloc _).grown hg4 (fun g hg => own_ne2 hat3.out (hown2.lt g hg).2)
               have hbw4 : Below B w w4 := (hbw3.alloc (by omega) _).grown hg4 (by simp; omega) (fun g hg => by rcases hat3.out with h | h <;> rw [h] at hg <;> simp at hg <;> omega)
               skip)
            | (at_builtin
               go_must (refine wpList_append_rw _ rfl (.tmp 46) (.tmp 49) _ rfl pendE_len pendE_one B 27 inf _ 128 Tryd.underlying22 hi0 iz0 iz1 iz2 rfl (by omega) v4 (out.take (0) ++ [x]) rfl hown4 w4.heap.size _ (out.length - (0)) _ (out.drop (0)) (by rw [List.length_drop]) rfl ?_ ?_ ?_ ?_ ?_)
               · first
                   | exact (hownB.reads pendE_len).drop hoc
                   | (rw [List.drop_zero]; exact hownB.reads pendE_len)
                   | (have h := (hownB.reads pendE_len).drop (a := 0) hoc; simp only [Option.map_some, addr_plain] at h; exact h)
               · (try simp [maxLen]) <;> omega
               · (try simp) <;> omega
               · (try simp) <;> omega
               intro v5 w5 hown5 hg5 hat5
               have hz5 := hg5.size
               have hbw5 : Below B w w5 := hbw4.grown hg5 (by omega) (fun g hg => by
                 rcases hat4 with h | h
                 · rw [h] at hg; rcases hat3.out with h | h <;> rw [h] at hg <;> simp at hg <;> omega
                 · rw [h] at hg; simp at hg; omega)
               have hl5 : (out.take (0) ++ [x] ++ out.drop (0)).length = out.length + 1 := by simp <;> omega
               obtain ⟨A5, c5, hv5, hc5, _, _⟩ := hown5.form
               rw [hl5] at hv5 hc5
               subst hv5
               replace hl5 := Lib.hid hl5))
          go_roundw
          case rel => exact ⟨k + 1, out.take (0) ++ [x] ++ out.drop (0), A5, c5, by go_num, by rw [hl5.out], by omega, by rw [hl5.out]; omega, by rw [hl5.out]; exact hc5, by
            rw [List.take_add_one, hx'.out]
            exact hst.out.put (cfP_pre _) ha hhi.out (fun y h => absurd h (by omega)), hown5, hbw5⟩
          case measure => simp [intOf]; omega
        · obtain ⟨b, rfl⟩ : ∃ b, a = b + 1 := ⟨a - 1, by omega⟩
          obtain ⟨y, hy⟩ := get_some (show b < out.length by omega)
          obtain ⟨g', o', rfl, _, hq3⟩ := (hown.reads pendE_len) (by omega)
          have p := fun j u hu => hq3 b y hy j u hu
          have p0 := p 0 (.string y.run.1) rfl
          try rw [Nat.add_zero] at p0
          have p1 := p 1 (.string y.job.1) rfl
          have p2 := p 2 (.string y.proj.1) rfl
          have p3 := p 3 (.int .i64 y.prio.1) rfl
          have p4 := p 4 (.int .i64 y.since.1) rfl
          have p5 := p 5 (.int .i64 y.cost.1) rfl
          have p6 := p 6 (.slice y.labsA y.labs.length y.labsC) rfl
          have p7 := p 7 (.int .i64 y.trust.1) rfl
          have p8 := p 8 (.string y.group.1) rfl
          have p9 := p 9 (.int .i64 y.policy.1) rfl
          clear p hq3
          replace p0 := fun d os => cell_regrown p0 d os
          replace p1 := fun d os => cell_regrown p1 d os
          replace p2 := fun d os => cell_regrown p2 d os
          replace p3 := fun d os => cell_regrown p3 d os
          replace p4 := fun d os => cell_regrown p4 d os
          replace p5 := fun d os => cell_regrown p5 d os
          replace p6 := fun d os => cell_regrown p6 d os
          replace p7 := fun d os => cell_regrown p7 d os
          replace p8 := fun d os => cell_regrown p8 d os
          replace p9 := fun d os => cell_regrown p9 d os
          have i2' : (0 : Int) ≤ (b : Int) := by omega
          have i3' : (b : Int) < (out.length : Int) := by omega
          have i4' : (0 : Int) < (b : Int) + 1 := by omega
          have i5' : 0 < b + 1 := by omega
          replace hy := Lib.hid hy
          rcases hC : befB now.1 x y with _ | _
          · have hcall : Hid (∀ W, Calls Tryd.prog 42 #[.agg #[.string x.run.1, .string x.job.1, .string x.proj.1, .int .i64 x.prio.1, .int .i64 x.since.1, .int .i64 x.cost.1, .slice x.labsA x.labs.length x.labsC, .int .i64 x.trust.1, .string x.group.1, .int .i64 x.policy.1], .agg #[.string y.run.1, .string y.job.1, .string y.proj.1, .int .i64 y.prio.1, .int .i64 y.since.1, .int .i64 y.cost.1, .slice y.labsA y.labs.length y.labsC, .int .i64 y.trust.1, .string y.group.1, .int .i64 y.policy.1], .int .i64 now.1] W fun e w' => e = .returned (.bool false) ∧ Below W.heap.size W w') := Lib.hid fun W => by rw [← hC]; exact before_any x y now W
            replace hC := Lib.hid hC
            go_wp2_with fail
            refine wp_region_quiet_below (by kernel_rfl) (by kernel_rfl) ?_
            repeat (go_big_quiet_step ((go_at_call 42; exact Calls.regrown_of (hcall.out _))))
            refine wpQuiet_nil ?_
            intro w2 hw2
            have hb2 := below_of_regrown hw2
            clear hw2
            clear q0 q1 q2 q3 q4 q5 q6 q7 q8 q9 p0 p1 p2 p3 p4 p5 p6 p7 p8 p9
            have hz2 := hb2.size
            have hown2 := hown.all hb2
            have hbw2 := hbw.trans (hb2.mono (by omega))
            have hlo : Hid (∀ z, 0 < b + 1 → out[b + 1 - 1]? = some z → ¬ cfP now.1 x z < 0) := Lib.hid fun z _ hz => by
              rw [Nat.add_sub_cancel, hy.out] at hz
              obtain rfl : y = z := by simpa using hz
              exact of_decide_eq_false hC.out
            have hrq : Hid (∀ j u, (pendE x)[j]? = some u → w2.cell? ⟨g, o + k * 10 + j, none⟩ = some u) := Lib.hid fun j u hu => (hbw2.cell (p := ⟨g, o + k * 10 + j, none⟩) hgB).trans (hq0.out j u hu)
            go_wp2_with (first
              | (at_builtin
                 refine wpList_append_rw _ rfl (.tmp 34) (.tmp 37) _ rfl pendE_len pendE_one B 27 inf _ 128 Tryd.underlying22 hi0 iz0 iz1 iz2 rfl (by omega) (.slice none 0 0) [] rfl
                   (Own.nil _ _ _) w2.heap.size (some ⟨g', o', none⟩) ((b + 1)) co (out.take ((b + 1))) (by rw [List.length_take]; omega) rfl ?_ ?_ ?_ ?_ ?_
                 · exact (hown2.reads pendE_len).take
                 · (try simp [maxLen]) <;> omega
                 · (try simp) <;> omega
                 · (try simp) <;> omega
                 intro v3 w3 hown3 hg3 hat3
                 rw [List.nil_append] at hown3
                 replace hat3 := Lib.hid (show v3.ownBlock = none ∨ v3.ownBlock = some w2.heap.size by simpa [Value.ownBlock] using hat3)
                 have hz3 := hg3.size
                 have hownA : Own pendE 10 27 w3 B (.slice (some ⟨g', o', none⟩) out.length co) out := hown2.grown hg3 (fun g hg => by simp [Value.ownBlock])
                 have hbw3 : Below B w w3 := hbw2.grown hg3 (by omega) (fun g hg => by simp [Value.ownBlock] at hg)
                 have q := fun j u hu => (hbw3.cell (p := ⟨g, o + k * 10 + j, none⟩) hgB).trans (hq0.out j u hu)
                 have q0 := q 0 (.string x.run.1) rfl
                 try rw [Nat.add_zero] at q0
                 have q1 := q 1 (.string x.job.1) rfl
                 have q2 := q 2 (.string x.proj.1) rfl
                 have q3 := q 3 (.int .i64 x.prio.1) rfl
                 have q4 := q 4 (.int .i64 x.since.1) rfl
                 have q5 := q 5 (.int .i64 x.cost.1) rfl
                 have q6 := q 6 (.slice x.labsA x.labs.length x.labsC) rfl
                 have q7 := q 7 (.int .i64 x.trust.1) rfl
                 have q8 := q 8 (.string x.group.1) rfl
                 have q9 := q 9 (.int .i64 x.policy.1) rfl
                 clear q)
              | (at_builtin
                 refine (wpList_append_rw _ rfl (.tmp 39) (.tmp 44) _ rfl pendE_len pendE_one B 27 inf _ 128 Tryd.underlying22 hi0 iz0 iz1 iz2 rfl (by omega) v3 (out.take ((b + 1))) rfl (hown3.alloc _) _ (some ⟨w3.heap.size, 0, none⟩) 1 1 [x] rfl rfl ((Own.lit (enc := pendE) (l := [x]) (base := 0) (pendE x).toArray (Nat.zero_le _) (by simp [maxLen]) (by simp) pendE_len).reads pendE_len) ?_ ?_ ?_ ?_)
                 · (try simp [maxLen]) <;> omega
                 · (try simp) <;> omega
                 · (try simp) <;> omega
                 intro v4 w4 hown4 hg4 hat4
                 have hz4 := hg4.size
                 simp at hz4
                 have hownB : Own pendE 10 27 w4 B (.slice (some ⟨g', o', none⟩) out.length co) out := (hownA.alloc _).grown hg4 (fun g hg => own_ne2 hat3.out (hown2.lt g hg).2)
                 have hbw4 : Below B w w4 := (hbw3.alloc (by omega) _).grown hg4 (by simp; omega) (fun g hg => by rcases hat3.out with h | h <;> rw [h] at hg <;> simp at hg <;> omega)
                 skip)
              | (at_builtin
                 go_must (refine wpList_append_rw _ rfl (.tmp 46) (.tmp 49) _ rfl pendE_len pendE_one B 27 inf _ 128 Tryd.underlying22 hi0 iz0 iz1 iz2 rfl (by omega) v4 (out.take ((b + 1)) ++ [x]) rfl hown4 w4.heap.size _ (out.length - ((b + 1))) _ (out.drop ((b + 1))) (by rw [List.length_drop]) rfl ?_ ?_ ?_ ?_ ?_)
                 · first
                     | exact (hownB.reads pendE_len).drop hoc
                     | (rw [List.drop_zero]; exact hownB.reads pendE_len)
                     | (have h := (hownB.reads pendE_len).drop (a := (b + 1)) hoc; simp only [Option.map_some, addr_plain] at h; exact h)
                 · (try simp [maxLen]) <;> omega
                 · (try simp) <;> omega
                 · (try simp) <;> omega
                 intro v5 w5 hown5 hg5 hat5
                 have hz5 := hg5.size
                 have hbw5 : Below B w w5 := hbw4.grown hg5 (by omega) (fun g hg => by
                   rcases hat4 with h | h
                   · rw [h] at hg; rcases hat3.out with h | h <;> rw [h] at hg <;> simp at hg <;> omega
                   · rw [h] at hg; simp at hg; omega)
                 have hl5 : (out.take ((b + 1)) ++ [x] ++ out.drop ((b + 1))).length = out.length + 1 := by simp <;> omega
                 obtain ⟨A5, c5, hv5, hc5, _, _⟩ := hown5.form
                 rw [hl5] at hv5 hc5
                 subst hv5
                 replace hl5 := Lib.hid hl5))
            go_roundw
            case rel => exact ⟨k + 1, out.take ((b + 1)) ++ [x] ++ out.drop ((b + 1)), A5, c5, by go_num, by rw [hl5.out], by omega, by rw [hl5.out]; omega, by rw [hl5.out]; exact hc5, by
              rw [List.take_add_one, hx'.out]
              exact hst.out.put (cfP_pre _) ha hhi.out hlo.out, hown5, hbw5⟩
            case measure => simp [intOf]; omega
          · have hcall : Hid (∀ W, Calls Tryd.prog 42 #[.agg #[.string x.run.1, .string x.job.1, .string x.proj.1, .int .i64 x.prio.1, .int .i64 x.since.1, .int .i64 x.cost.1, .slice x.labsA x.labs.length x.labsC, .int .i64 x.trust.1, .string x.group.1, .int .i64 x.policy.1], .agg #[.string y.run.1, .string y.job.1, .string y.proj.1, .int .i64 y.prio.1, .int .i64 y.since.1, .int .i64 y.cost.1, .slice y.labsA y.labs.length y.labsC, .int .i64 y.trust.1, .string y.group.1, .int .i64 y.policy.1], .int .i64 now.1] W fun e w' => e = .returned (.bool true) ∧ Below W.heap.size W w') := Lib.hid fun W => by rw [← hC]; exact before_any x y now W
            replace hC := Lib.hid hC
            go_wp2_with fail
            refine wp_region_quiet_below (by kernel_rfl) (by kernel_rfl) ?_
            repeat (go_big_quiet_step ((go_at_call 42; exact Calls.regrown_of (hcall.out _))))
            refine wpQuiet_nil ?_
            intro w2 hw2
            have hb2 := below_of_regrown hw2
            clear hw2
            clear q0 q1 q2 q3 q4 q5 q6 q7 q8 q9 p0 p1 p2 p3 p4 p5 p6 p7 p8 p9
            have hz2 := hb2.size
            go_wp2_with fail
            go_roundw
            case rel =>
              refine ⟨b, by first | rfl | go_num, by omega, fun i z hi hz => ?_, hbi.trans (hb2.mono hzi)⟩
              by_cases e : i = b
              · subst e
                rw [hy.out] at hz
                obtain rfl : y = z := by simpa using hz
                exact of_decide_eq_true hC.out
              · exact hhi.out i z (by omega) hz
            case measure => simp [intOf]
    · have i1' : ¬ (k : Int) < (l.length : Int) := by omega
      obtain rfl : k = l.length := by omega
      have hs2 := hst.out
      rw [List.take_length] at hs2
      go_wp2_with fail
      go_ret
      exact ⟨Ao, out, ⟨co, rfl⟩, ⟨hown.reads pendE_len, fun x hx => ((hr.out.labs x (hs2.perm.mem_iff.1 hx)).below hbw (Nat.le_refl _)).more (by omega)⟩, hs2, hbw⟩
end Go.Proofs.YtnhfbignnnicnaaDoor
