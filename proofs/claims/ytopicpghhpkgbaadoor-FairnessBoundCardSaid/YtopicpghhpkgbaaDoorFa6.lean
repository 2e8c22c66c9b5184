/-
  The walks of fairness: the reference's shares with one more, and with one replaced.
-/
import Derived.Test.YtopicpghhpkgbaaDoorFa5



namespace Go.Proofs.YtopicpghhpkgbaaDoor
open Go.RowKit

/-- How many projects stand ahead of a name. -/
def plK (p : Str) (l : List Share) : Nat := (l.takeWhile fun y => decide (cmpS y.proj p < 0)).length
theorem plK_at {p : Str} {l : List Share} {k : Nat} (hk : k ≤ l.length) (ht : ∀ j y, j < k → l[j]? = some y → cmpS y.proj p < 0) (hf : ∀ y, l[k]? = some y → ¬ cmpS y.proj p < 0) : plK p l = k := by
  unfold plK
  induction l generalizing k with
  | nil => simp at hk; subst hk; rfl
  | cons a l ih =>
    rcases k with _ | k
    · have := hf a rfl
      rw [List.takeWhile_cons_of_neg (by simpa using this)]; rfl
    · have h0 := ht 0 a (by omega) rfl
      rw [List.takeWhile_cons_of_pos (by simpa using h0), List.length_cons, ih (by simpa using hk) (fun j y hj hy => ht (j + 1) y (by omega) hy) (fun y hy => hf y hy)]
theorem plK_le (p : Str) (l : List Share) : plK p l ≤ l.length := (List.takeWhile_prefix _).length_le
theorem own_ne2 {g' : Nat} {v : Value} (h : v.ownBlock = none ∨ v.ownBlock = some g') {g : Nat} (hg : g < g') : some g ≠ v.ownBlock := by
  rcases h with h | h <;> rw [h] <;> simp <;> omega

set_option maxRecDepth 100000 in
set_option maxHeartbeats 4000000 in
theorem rinsert_any (A : Option Addr) (c : Nat) (l : List Share) (x : Share) (w : World) (hr : Rw shareE 3 w w.heap.size A l) (hlc : l.length ≤ c) (hn : l.length ≤ 1000000) :
    Calls Tryd.prog 34 #[.slice A l.length c, .agg #[.string x.proj.1, .int .i64 x.weight.1, .int .i64 x.served.1]] w fun e w' => ∃ v, e = .returned v ∧ Own shareE 3 39 w' w.heap.size v (l.take (plK x.proj l) ++ x :: l.drop (plK x.proj l)) ∧ Below w.heap.size w w' := by
  obtain ⟨inf, hi0, iz0, iz1, iz2⟩ := info_parts sclone_info
  obtain ⟨B, hB⟩ : ∃ B, w.heap.size = B := ⟨_, rfl⟩
  rw [hB] at hr ⊢
  have hB2 := Nat.le_of_eq hB
  have hB3 := Nat.le_of_eq hB.symm
  have hB4 : w.heap.size = B := hB
  replace hB := Lib.hid hB
  replace hr := Lib.hid hr
  obtain ⟨W1, hW1⟩ : ∃ W1, w.alloc (.cells #[.string x.proj.1, .int .i64 x.weight.1, .int .i64 x.served.1] 39) = W1 := ⟨_, rfl⟩
  have hbW : Below B w W1 := by rw [← hW1]; exact (Below.refl _ _).alloc hB3 _
  have hzW : W1.heap.size = B + 1 := by rw [← hW1]; simp [hB4]
  have t0 : W1.cell? ⟨B, 0, none⟩ = some (.string x.proj.1) := by rw [← hW1, ← hB4]; exact box_cells w _ _ 0 _ rfl
  have t1 : W1.cell? ⟨B, 1, none⟩ = some (.int .i64 x.weight.1) := by rw [← hW1, ← hB4]; exact box_cells w _ _ 1 _ rfl
  have t2 : W1.cell? ⟨B, 2, none⟩ = some (.int .i64 x.served.1) := by rw [← hW1, ← hB4]; exact box_cells w _ _ 2 _ rfl
  have hzW3 := Nat.le_of_eq hzW
  have hzW4 := Nat.le_of_eq hzW.symm
  replace hzW := Lib.hid hzW
  replace t0 := Lib.hid t0
  replace t1 := Lib.hid t1
  replace t2 := Lib.hid t2
  go_enter Tryd.func34, Tryd.ntmps34
  go_wp2_with fail
  replace hB4 := Lib.hid hB4
  clear hW1
  go_loopw [5] (fun vi wr => ∃ k : Nat, k ≤ l.length ∧ vi = .int .i64 (k : Int) ∧ (∀ j y, j < k → l[j]? = some y → cmpS y.proj x.proj < 0) ∧ Below (B + 1) W1 wr) (fun vi _ => l.length - (intOf vi).toNat)
  case atStart => exact ⟨0, Nat.zero_le _, rfl, fun j y hj => absurd hj (by omega), Below.refl _ _⟩
  case round =>
    obtain ⟨k, hk, rfl, ht, hbw⟩ := hrel
    have hz := hbw.size
    replace ht := Lib.hid ht
    have a0 := fun d os => cell_regrown ((hbw.cell (p := ⟨B, 0, none⟩) (by show B < B + 1; omega)).trans t0.out) d os
    by_cases hkl : k < l.length
    · obtain ⟨y, hy⟩ := get_some hkl
      obtain ⟨g, o, rfl, hgB, hq⟩ := hr.out (by omega)
      have q0 : wr.cell? ⟨g, o + k * 3, none⟩ = some (.string y.proj.1) := by
        have := (hbw.cell (p := ⟨g, o + k * 3 + 0, none⟩) (by show g < B + 1; omega)).trans ((hbW.cell (p := ⟨g, o + k * 3 + 0, none⟩) hgB).trans (hq k y hy 0 (.string y.proj.1) rfl))
        simpa using this
      replace q0 := fun d os => cell_regrown q0 d os
      have i0 : (0 : Int) ≤ (k : Int) := by omega
      have i1 : (k : Int) < (l.length : Int) := by omega
      obtain ⟨C, hC⟩ : ∃ C, cmpS y.proj x.proj = C := ⟨_, rfl⟩
      have hcm : Hid (∀ W, Calls Tryd.prog 39 #[.string y.proj.1, .string x.proj.1] W fun e w' => e = .returned (.int .i64 C) ∧ Below W.heap.size W w') := Lib.hid fun W => (rcompare_any _ _ y.proj.2 x.proj.2 W).mono fun _ _ h => ⟨by rw [h.1, ← hC]; rfl, by obtain ⟨n, e⟩ := h.2; rw [e]; exact below_drewN (Below.refl _ _) _⟩
      by_cases hneg : C < 0
      · replace hC := Lib.hid hC
        replace hy := Lib.hid hy
        go_wp2_with fail
        refine wp_region_quiet_below (by kernel_rfl) (by kernel_rfl) ?_
        repeat (go_big_quiet_step ((go_at_call 39; exact Calls.regrown_of (hcm.out _))))
        refine wpQuiet_nil ?_
        intro w2 hw2
        have hb2 := below_of_regrown hw2
        clear hw2
        have hz2 := hb2.size
        go_wp2_with fail
        go_roundw
        case rel => exact ⟨k + 1, by omega, by go_num, fun j z hj hz => by
          by_cases e : j = k
          · subst e
            rw [hy.out] at hz
            obtain rfl : y = z := by simpa using hz
            rw [hC.out]; exact hneg
          · exact ht.out j z (by omega) hz, hbw.trans (hb2.mono (by omega))⟩
        case measure => simp [intOf]; omega
      · have hstop : Hid (∀ z, l[k]? = some z → ¬ cmpS z.proj x.proj < 0) := Lib.hid fun z hz => by
          rw [hy] at hz
          obtain rfl : y = z := by simpa using hz
          rw [hC]; exact hneg
        replace hC := Lib.hid hC
        replace hy := Lib.hid hy
        go_wp2_with fail
        refine wp_region_quiet_below (by kernel_rfl) (by kernel_rfl) ?_
        repeat (go_big_quiet_step ((go_at_call 39; exact Calls.regrown_of (hcm.out _))))
        refine wpQuiet_nil ?_
        intro w2 hw2
        have hb2 := below_of_regrown hw2
        clear hw2
        have hz2 := hb2.size
        have hbw2 := hbw.trans (hb2.mono (by omega))
        clear q0 a0
        obtain ⟨A, hA⟩ : ∃ A, some (⟨g, o, none⟩ : Addr) = A := ⟨_, rfl⟩
        rw [hA] at hr ⊢
        replace hA := Lib.hid hA
        have hxw : ∀ (W : World), Below (B + 1) W1 W → W.cell? ⟨B, 0, none⟩ = some (.string x.proj.1) ∧ W.cell? ⟨B, 1, none⟩ = some (.int .i64 x.weight.1) ∧ W.cell? ⟨B, 2, none⟩ = some (.int .i64 x.served.1) := fun W hb => ⟨(hb.cell (p := ⟨B, 0, none⟩) (by show B < B + 1; omega)).trans t0.out, (hb.cell (p := ⟨B, 1, none⟩) (by show B < B + 1; omega)).trans t1.out, (hb.cell (p := ⟨B, 2, none⟩) (by show B < B + 1; omega)).trans t2.out⟩
        have hrow : ∀ (W : World), Below (B + 1) W1 W → Rw shareE 3 W B A l := fun W hb => (hr.out.below hbW (Nat.le_refl _)).below hb (by omega)
        have hpl : Hid (plK x.proj l = k) := Lib.hid (plK_at hk ht.out fun y hy => by have := hstop.out y hy; omega)
        go_wp2_with (first
          | (at_builtin
             refine wpList_append_rw _ rfl (.tmp 24) (.tmp 27) _ rfl shareE_len shareE_one (B + 1) 39 inf _ 32 Tryd.underlying22 hi0 iz0 iz1 iz2 rfl (by omega) (.slice none 0 0) [] rfl (Own.nil _ _ _) B A k c (l.take k) (by rw [List.length_take]; omega) rfl ?_ ?_ ?_ ?_ ?_
             · exact (hrow _ hbw2).take
             · (try simp [maxLen]) <;> omega
             · (try simp) <;> omega
             · (try simp) <;> omega
             intro v3 w3 hown3 hg3 hat3
             rw [List.nil_append] at hown3
             replace hat3 := Lib.hid (show v3.ownBlock = none ∨ v3.ownBlock = some w2.heap.size by simpa [Value.ownBlock] using hat3)
             have hz3 := hg3.size
             have hbw3 : Below (B + 1) W1 w3 := hbw2.grown hg3 (by omega) (fun g hg => by simp [Value.ownBlock] at hg)
             obtain ⟨c0, c1, c2⟩ := hxw _ hbw3)
          | (at_builtin
             refine ((wpList_append_rw _ rfl (.tmp 29) (.tmp 31) _ rfl shareE_len shareE_one (B + 1) 39 inf _ 32 Tryd.underlying22 hi0 iz0 iz1 iz2 rfl (by omega) v3 (l.take k) rfl (hown3.alloc _) _ (some ⟨w3.heap.size, 0, none⟩) 1 1 [x] rfl rfl ((Own.lit (enc := shareE) (l := [x]) (base := 0) (shareE x).toArray (Nat.zero_le _) (by simp [maxLen]) (by simp) shareE_len).reads shareE_len) ?_ ?_ ?_ ?_))
             · (try simp [maxLen]) <;> omega
             · (try simp) <;> omega
             · (try simp) <;> omega
             intro v4 w4 hown4 hg4 hat4
             have hz4 := hg4.size
             simp at hz4
             have hbw4 : Below (B + 1) W1 w4 := (hbw3.alloc (by omega) _).grown hg4 (by simp; omega) (fun g hg => by rcases hat3.out with h | h <;> rw [h] at hg <;> simp at hg <;> omega)
             skip)
          | (at_builtin
             go_must (refine wpList_append_rw _ rfl (.tmp 33) (.tmp 36) _ rfl shareE_len shareE_one (B + 1) 39 inf _ 32 Tryd.underlying22 hi0 iz0 iz1 iz2 rfl (by omega) v4 (l.take k ++ [x]) rfl hown4 B _ (l.length - k) _ (l.drop k) (by rw [List.length_drop]) rfl ?_ ?_ ?_ ?_ ?_)
             · first
                 | exact (hrow _ hbw4).drop hlc
                 | (have h := (hrow _ hbw4).drop (a := k) hlc; rw [if_neg (by omega)] at h; exact h)
                 | (have h := (hrow _ hbw4).drop (a := k) hlc; rw [if_pos (by omega)] at h; exact h)
             · (try simp [maxLen]) <;> omega
             · (try simp) <;> omega
             · (try simp) <;> omega
             intro v5 w5 hown5 hg5 hat5
             have hz5 := hg5.size
             have hbw5 : Below (B + 1) W1 w5 := hbw4.grown hg5 (by omega) (fun g hg => by
               rcases hat4 with h | h
               · rw [h] at hg; rcases hat3.out with h | h <;> rw [h] at hg <;> simp at hg <;> omega
               · rw [h] at hg; simp at hg; omega)
             skip))
        all_goals go_ret
        all_goals exact ⟨v5, rfl, by rw [hpl.out]; rw [List.append_assoc] at hown5; exact ⟨hown5.1, hown5.2.imp id (fun ⟨g, cap, cur, e, h, r⟩ => ⟨g, cap, cur, e, by omega, r⟩)⟩, hbW.trans (hbw5.mono (by omega))⟩
    · have i1 : ¬ (k : Int) < (l.length : Int) := by omega
      have hstop : Hid (∀ z, l[k]? = some z → ¬ cmpS z.proj x.proj < 0) := Lib.hid fun z hz => by
        rw [List.getElem?_eq_none (by omega)] at hz; cases hz
      go_wp2_with fail
      refine wp_region_quiet_below (by kernel_rfl) (by kernel_rfl) ?_
      repeat (go_big_quiet_step (fail))
      refine wpQuiet_nil ?_
      intro w2 hw2
      have hb2 := below_of_regrown hw2
      clear hw2
      have hz2 := hb2.size
      have hbw2 := hbw.trans (hb2.mono (by omega))
      clear a0
      have hxw : ∀ (W : World), Below (B + 1) W1 W → W.cell? ⟨B, 0, none⟩ = some (.string x.proj.1) ∧ W.cell? ⟨B, 1, none⟩ = some (.int .i64 x.weight.1) ∧ W.cell? ⟨B, 2, none⟩ = some (.int .i64 x.served.1) := fun W hb => ⟨(hb.cell (p := ⟨B, 0, none⟩) (by show B < B + 1; omega)).trans t0.out, (hb.cell (p := ⟨B, 1, none⟩) (by show B < B + 1; omega)).trans t1.out, (hb.cell (p := ⟨B, 2, none⟩) (by show B < B + 1; omega)).trans t2.out⟩
      have hrow : ∀ (W : World), Below (B + 1) W1 W → Rw shareE 3 W B A l := fun W hb => (hr.out.below hbW (Nat.le_refl _)).below hb (by omega)
      have hpl : Hid (plK x.proj l = k) := Lib.hid (plK_at hk ht.out fun y hy => by have := hstop.out y hy; omega)
      go_wp2_with (first
        | (at_builtin
           refine wpList_append_rw _ rfl (.tmp 24) (.tmp 27) _ rfl shareE_len shareE_one (B + 1) 39 inf _ 32 Tryd.underlying22 hi0 iz0 iz1 iz2 rfl (by omega) (.slice none 0 0) [] rfl (Own.nil _ _ _) B A k c (l.take k) (by rw [List.length_take]; omega) rfl ?_ ?_ ?_ ?_ ?_
           · exact (hrow _ hbw2).take
           · (try simp [maxLen]) <;> omega
           · (try simp) <;> omega
           · (try simp) <;> omega
           intro v3 w3 hown3 hg3 hat3
           rw [List.nil_append] at hown3
           replace hat3 := Lib.hid (show v3.ownBlock = none ∨ v3.ownBlock = some w2.heap.size by simpa [Value.ownBlock] using hat3)
           have hz3 := hg3.size
           have hbw3 : Below (B + 1) W1 w3 := hbw2.grown hg3 (by omega) (fun g hg => by simp [Value.ownBlock] at hg)
           obtain ⟨c0, c1, c2⟩ := hxw _ hbw3)
        | (at_builtin
           refine ((wpList_append_rw _ rfl (.tmp 29) (.tmp 31) _ rfl shareE_len shareE_one (B + 1) 39 inf _ 32 Tryd.underlying22 hi0 iz0 iz1 iz2 rfl (by omega) v3 (l.take k) rfl (hown3.alloc _) _ (some ⟨w3.heap.size, 0, none⟩) 1 1 [x] rfl rfl ((Own.lit (enc := shareE) (l := [x]) (base := 0) (shareE x).toArray (Nat.zero_le _) (by simp [maxLen]) (by simp) shareE_len).reads shareE_len) ?_ ?_ ?_ ?_))
           · (try simp [maxLen]) <;> omega
           · (try simp) <;> omega
           · (try simp) <;> omega
           intro v4 w4 hown4 hg4 hat4
           have hz4 := hg4.size
           simp at hz4
           have hbw4 : Below (B + 1) W1 w4 := (hbw3.alloc (by omega) _).grown hg4 (by simp; omega) (fun g hg => by rcases hat3.out with h | h <;> rw [h] at hg <;> simp at hg <;> omega)
           skip)
        | (at_builtin
           go_must (refine wpList_append_rw _ rfl (.tmp 33) (.tmp 36) _ rfl shareE_len shareE_one (B + 1) 39 inf _ 32 Tryd.underlying22 hi0 iz0 iz1 iz2 rfl (by omega) v4 (l.take k ++ [x]) rfl hown4 B _ (l.length - k) _ (l.drop k) (by rw [List.length_drop]) rfl ?_ ?_ ?_ ?_ ?_)
           · first
               | exact (hrow _ hbw4).drop hlc
               | (have h := (hrow _ hbw4).drop (a := k) hlc; rw [if_neg (by omega)] at h; exact h)
               | (have h := (hrow _ hbw4).drop (a := k) hlc; rw [if_pos (by omega)] at h; exact h)
           · (try simp [maxLen]) <;> omega
           · (try simp) <;> omega
           · (try simp) <;> omega
           intro v5 w5 hown5 hg5 hat5
           have hz5 := hg5.size
           have hbw5 : Below (B + 1) W1 w5 := hbw4.grown hg5 (by omega) (fun g hg => by
             rcases hat4 with h | h
             · rw [h] at hg; rcases hat3.out with h | h <;> rw [h] at hg <;> simp at hg <;> omega
             · rw [h] at hg; simp at hg; omega)
           skip))
      all_goals go_ret
      all_goals exact ⟨v5, rfl, by rw [hpl.out]; rw [List.append_assoc] at hown5; exact ⟨hown5.1, hown5.2.imp id (fun ⟨g, cap, cur, e, h, r⟩ => ⟨g, cap, cur, e, by omega, r⟩)⟩, hbW.trans (hbw5.mono (by omega))⟩
set_option maxRecDepth 100000 in
set_option maxHeartbeats 4000000 in
theorem rset_any (A : Option Addr) (c i : Nat) (l : List Share) (x : Share) (w : World) (hr : Rw shareE 3 w w.heap.size A l) (hi : i < l.length) (hn : l.length ≤ 1000000) :
    Calls Tryd.prog 35 #[.slice A l.length c, .int .i64 i, .agg #[.string x.proj.1, .int .i64 x.weight.1, .int .i64 x.served.1]] w fun e w' => ∃ v, e = .returned v ∧ Own shareE 3 39 w' w.heap.size v (l.set i x) ∧ Below w.heap.size w w' := by
  obtain ⟨inf, hi0, iz0, iz1, iz2⟩ := info_parts sclone_info
  obtain ⟨B, hB⟩ : ∃ B, w.heap.size = B := ⟨_, rfl⟩
  rw [hB] at hr ⊢
  have hB2 := Nat.le_of_eq hB
  have hB3 := Nat.le_of_eq hB.symm
  have hB4 : w.heap.size = B := hB
  replace hB := Lib.hid hB
  replace hr := Lib.hid hr
  obtain ⟨W1, hW1⟩ : ∃ W1, w.alloc (.cells #[.string x.proj.1, .int .i64 x.weight.1, .int .i64 x.served.1] 39) = W1 := ⟨_, rfl⟩
  have hbW : Below B w W1 := by rw [← hW1]; exact (Below.refl _ _).alloc hB3 _
  have hzW : W1.heap.size = B + 1 := by rw [← hW1]; simp [hB4]
  have t0 : W1.cell? ⟨B, 0, none⟩ = some (.string x.proj.1) := by rw [← hW1, ← hB4]; exact box_cells w _ _ 0 _ rfl
  have t1 : W1.cell? ⟨B, 1, none⟩ = some (.int .i64 x.weight.1) := by rw [← hW1, ← hB4]; exact box_cells w _ _ 1 _ rfl
  have t2 : W1.cell? ⟨B, 2, none⟩ = some (.int .i64 x.served.1) := by rw [← hW1, ← hB4]; exact box_cells w _ _ 2 _ rfl
  have hzW3 := Nat.le_of_eq hzW
  have hzW4 := Nat.le_of_eq hzW.symm
  replace hzW := Lib.hid hzW
  replace t0 := Lib.hid t0
  replace t1 := Lib.hid t1
  replace t2 := Lib.hid t2
  have hlen0 : 0 < l.length := by omega
  have i0 : (0 : Int) ≤ (i : Int) := by omega
  have i1 : (i : Int) < (l.length : Int) := by omega
  go_enter Tryd.func35, Tryd.ntmps35
  go_wp2_with (
     at_builtin
     refine wpList_append_rw _ rfl (.tmp 8) (.tmp 9) _ rfl shareE_len shareE_one (B + 1) 39 inf _ 32 Tryd.underlying22 hi0 iz0 iz1 iz2 rfl (by omega) (.slice none 0 0) [] rfl (Own.nil _ _ _) B A l.length c l rfl rfl ?_ ?_ ?_ ?_ ?_
     · exact hr.out.below hbW (Nat.le_refl _)
     · (try simp [maxLen]) <;> omega
     · (try simp) <;> omega
     · (try simp) <;> omega
     intro v3 w3 hown3 hg3 hat3
     rw [List.nil_append] at hown3
     have hz3 := hg3.size
     have hbw3 : Below (B + 1) W1 w3 := (Below.refl _ _).grown hg3 (by omega) (fun g hg => by simp [Value.ownBlock] at hg)
     have c0 := (hbw3.cell (p := ⟨B, 0, none⟩) (by show B < B + 1; omega)).trans t0.out
     have c1 := (hbw3.cell (p := ⟨B, 1, none⟩) (by show B < B + 1; omega)).trans t1.out
     have c2 := (hbw3.cell (p := ⟨B, 2, none⟩) (by show B < B + 1; omega)).trans t2.out
     obtain ⟨g, cap, rfl⟩ : ∃ g cap, v3 = .slice (some ⟨g, 0, none⟩) l.length cap := by
       rcases hown3.2 with ⟨rfl, h⟩ | ⟨g, cap, _, rfl, _⟩
       · omega
       · exact ⟨g, cap, rfl⟩
     have hset := set_row shareE_len (x := x) hown3 hi
     obtain ⟨hHg, _⟩ := own_block hown3
     have hs : ∀ j, j < 3 → (∃ u, w3.cell? ⟨g, i * 3 + j, none⟩ = some u) ∧ w3.frozen? ⟨g, i * 3 + j, none⟩ = false := fun j hj => ⟨by
       have ht : i * 3 + j < l.length * 3 := by omega
       exact ⟨_, (hown3.cellAt _ ht).trans (List.getElem?_eq_getElem (by rw [flat_len shareE_len]; exact ht))⟩, hown3.frozenAt _⟩
     obtain ⟨⟨u0, d0⟩, f0⟩ := hs 0 (by omega)
     rw [Nat.add_zero] at d0 f0
     obtain ⟨⟨u1, d1⟩, f1⟩ := hs 1 (by omega)
     obtain ⟨⟨u2, d2⟩, f2⟩ := hs 2 (by omega)
     clear hs
     have hown3' := Lib.hid hown3
     clear hown3
     have hbs := below_setCells g (by omega : B + 1 ≤ g) (shareE x) (i * 3) _ hbw3)
  go_ret
  exact ⟨_, rfl, ⟨hset.1, hset.2.imp id (fun ⟨g, cap, cur, e, h, r⟩ => ⟨g, cap, cur, e, by omega, r⟩)⟩, hbW.trans (hbs.mono (by omega))⟩
end Go.Proofs.YtopicpghhpkgbaaDoor
