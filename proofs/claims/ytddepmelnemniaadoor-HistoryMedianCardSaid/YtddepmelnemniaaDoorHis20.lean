/-
  The walks of histories: where a history is, by the program; a history inserted.
-/
import Derived.Test.YtddepmelnemniaaDoorHis19




namespace Go.Proofs.YtddepmelnemniaaDoor
open Go.RowKit

theorem place1_any (x : Hst) (p : Str) (w : World) : Calls Tryd.prog 36 #[.agg #[.string x.name.1, .slice x.lA x.l.length x.lC], .string p.1] w fun e w' => e = .returned (.int .i64 (cmpS x.name p)) ∧ Bel w.heap.size w w' := by
  have hc : Hid (∀ W, Calls Tryd.prog 32 #[.string x.name.1, .string p.1] W fun e w' => e = .returned (.int .i64 (cmpS x.name p)) ∧ Bel W.heap.size W w') := Lib.hid fun W => compare_any _ _ x.name.2 p.2 W
  go_enter Tryd.func36, Tryd.ntmps36
  go_wp2_with (go_at_call 32; go_must (refine (hc.out _).mono ?_; rintro e w2 ⟨rfl, hb2⟩))
  go_ret
  exact ⟨rfl, ((Bel.refl _ _).alloc (Nat.le_refl _) _).trans (hb2.mono (by simp))⟩
set_option maxRecDepth 100000 in
set_option maxHeartbeats 4000000 in
theorem bsearch_any (A : Option Addr) (c : Nat) (l : List Hst) (p : Str) (w : World) (hr : Rw hstE 2 w w.heap.size A l) (hn : l.length ≤ 4611686018427387904) :
    Calls Tryd.prog 35 #[.slice A l.length c, .string p.1, .func (.func 36) #[] #[]] w fun e w' => e = .returned (.tuple #[.int .i64 (atN p (l.map Hst.h) : Int), .bool (hasN p (l.map Hst.h))]) ∧ Below w.heap.size w w' := by
  have e48 : ∀ args w, (callFunc 36 args).run Tryd.prog w = .ok (.enter 36 args) w := enters_of Tryd.func36 (by kernel_rfl) rfl
  obtain ⟨B, hB⟩ : ∃ B, w.heap.size = B := ⟨_, rfl⟩
  rw [hB] at hr ⊢
  have hB2 := Nat.le_of_eq hB
  have hB3 := Nat.le_of_eq hB.symm
  replace hB := Lib.hid hB
  replace hr := Lib.hid hr
  go_enter Tryd.func35, Tryd.ntmps35
  go_wp2_with fail
  go_loopw [9, 10] (fun vi vj wr => ∃ i j : Nat, vi = .int .i64 (i : Int) ∧ vj = .int .i64 (j : Int) ∧ i ≤ j ∧ j ≤ l.length ∧ bsr (fun h => decide (cmpS (l.map Hst.h)[h]!.name p < 0)) i j = atN p (l.map Hst.h) ∧ Below B w wr) (fun vi vj _ => (intOf vj).toNat - (intOf vi).toNat)
  case atStart => exact ⟨0, l.length, rfl, rfl, Nat.zero_le _, Nat.le_refl _, by unfold atN; rw [List.length_map], Below.refl _ _⟩
  case round =>
    obtain ⟨i, j, rfl, rfl, hij, hj, hbs, hbw⟩ := hrel
    have hz := hbw.size
    replace hbs := Lib.hid hbs
    by_cases hlt : i < j
    · have hlz : (i : Int) < (j : Int) := by omega
      have emid : ((i : Int) + (j : Int)) / 2 = (((i + j) / 2 : Nat) : Int) := by omega
      obtain ⟨h, hh⟩ : ∃ h, (i + j) / 2 = h := ⟨_, rfl⟩
      rw [hh] at emid
      have hih : i ≤ h := by omega
      have hhj : h < j := by omega
      have i0 : (0 : Int) ≤ (h : Int) := by omega
      have i1 : (h : Int) < (l.length : Int) := by omega
      replace hh := Lib.hid hh
      obtain ⟨x, hx⟩ := get_some (show h < l.length by omega)
      obtain ⟨g, o, rfl, hg, hq⟩ := hr.out (by omega)
      have q : ∀ j u, (hstE x)[j]? = some u → wr.cell? ⟨g, o + h * 2 + j, none⟩ = some u := fun j u hu => (hbw.cell (p := ⟨g, o + h * 2 + j, none⟩) hg).trans (hq h x hx j u hu)
      have q0 := q 0 (.string x.name.1) rfl
      rw [Nat.add_zero] at q0
      have q1 := q 1 (.slice x.lA x.l.length x.lC) rfl
      clear q
      have hbang : Hid ((l.map Hst.h)[h]!.name = x.name) := Lib.hid (by rw [get_bang (show (l.map Hst.h)[h]? = some x.h by rw [List.getElem?_map, hx]; rfl)]; rfl)
      replace hx := Lib.hid hx
      obtain ⟨C, hC⟩ : ∃ C, cmpS x.name p = C := ⟨_, rfl⟩
      have hcm : Hid (∀ W, Calls Tryd.prog 36 #[.agg #[.string x.name.1, .slice x.lA x.l.length x.lC], .string p.1] W fun e w' => e = .returned (.int .i64 C) ∧ Below W.heap.size W w') := Lib.hid fun W => (place1_any x p W).mono fun _ _ h => ⟨by rw [h.1, hC], h.2.toBelow⟩
      by_cases hneg : C < 0
      · have hyes : Hid (bsr (fun h => decide (cmpS (l.map Hst.h)[h]!.name p < 0)) (h + 1) j = atN p (l.map Hst.h)) := Lib.hid (by rw [← hbs.out, bsr_yes hlt (by rw [hh.out]; show decide (cmpS (l.map Hst.h)[h]!.name p < 0) = true; rw [hbang.out, hC]; exact decide_eq_true hneg), hh.out])
        replace hC := Lib.hid hC
        go_wp2_with (go_at_fn 36; go_must (refine (hcm.out _).mono ?_; rintro e w2 ⟨rfl, hb2⟩; have hz2 := hb2.size))
        go_roundw
        case rel => exact ⟨h + 1, j, by go_num, rfl, by omega, hj, hyes.out, hbw.trans (hb2.mono (by omega))⟩
        case measure => simp [intOf]; omega
      · have hno : Hid (bsr (fun h => decide (cmpS (l.map Hst.h)[h]!.name p < 0)) i h = atN p (l.map Hst.h)) := Lib.hid (by rw [← hbs.out, bsr_no hlt (by rw [hh.out]; show decide (cmpS (l.map Hst.h)[h]!.name p < 0) = false; rw [hbang.out, hC]; exact decide_eq_false hneg), hh.out])
        replace hC := Lib.hid hC
        go_wp2_with (go_at_fn 36; go_must (refine (hcm.out _).mono ?_; rintro e w2 ⟨rfl, hb2⟩; have hz2 := hb2.size))
        go_roundw
        case rel => exact ⟨i, h, rfl, rfl, hih, by omega, hno.out, hbw.trans (hb2.mono (by omega))⟩
        case measure => simp [intOf]; omega
    · have hlz : ¬ (i : Int) < (j : Int) := by omega
      have hat : Hid (atN p (l.map Hst.h) = i) := Lib.hid (by rw [← hbs.out, bsr_end hlt])
      by_cases hil : i < l.length
      · have i0 : (0 : Int) ≤ (i : Int) := by omega
        have i1 : (i : Int) < (l.length : Int) := by omega
        obtain ⟨x, hx⟩ := get_some (show i < l.length by omega)
        obtain ⟨g, o, rfl, hg, hq⟩ := hr.out (by omega)
        have q : ∀ j u, (hstE x)[j]? = some u → wr.cell? ⟨g, o + i * 2 + j, none⟩ = some u := fun j u hu => (hbw.cell (p := ⟨g, o + i * 2 + j, none⟩) hg).trans (hq i x hx j u hu)
        have q0 := q 0 (.string x.name.1) rfl
        rw [Nat.add_zero] at q0
        have q1 := q 1 (.slice x.lA x.l.length x.lC) rfl
        clear q
        have hbang : Hid ((l.map Hst.h)[i]!.name = x.name) := Lib.hid (by rw [get_bang (show (l.map Hst.h)[i]? = some x.h by rw [List.getElem?_map, hx]; rfl)]; rfl)
        replace hx := Lib.hid hx
        obtain ⟨C, hC⟩ : ∃ C, cmpS x.name p = C := ⟨_, rfl⟩
        have hcm : Hid (∀ W, Calls Tryd.prog 36 #[.agg #[.string x.name.1, .slice x.lA x.l.length x.lC], .string p.1] W fun e w' => e = .returned (.int .i64 C) ∧ Below W.heap.size W w') := Lib.hid fun W => (place1_any x p W).mono fun _ _ h => ⟨by rw [h.1, hC], h.2.toBelow⟩
        have hfin : Hid (hasN p (l.map Hst.h) = (C == 0)) := Lib.hid (by unfold hasN; rw [hat.out, hbang.out, hC, decide_eq_true (show i < (l.map Hst.h).length by simpa using hil), Bool.true_and]; by_cases h : C = 0 <;> simp [h])
        replace hC := Lib.hid hC
        go_wp2_with (go_at_fn 36; go_must (refine (hcm.out _).mono ?_; rintro e w2 ⟨rfl, hb2⟩; have hz2 := hb2.size))
        exact bodyPost_ret (v := .tuple #[.int .i64 (i : Int), .bool (C == 0)]) (by simp [results, Tryd.results35, go_sem]) rfl ⟨by rw [hat.out, hfin.out], hbw.trans (hb2.mono (by omega))⟩
      · have i1 : ¬ (i : Int) < (l.length : Int) := by omega
        have hfin : Hid (hasN p (l.map Hst.h) = false) := Lib.hid (by unfold hasN; rw [hat.out, decide_eq_false (show ¬ i < (l.map Hst.h).length by simpa using hil)]; rfl)
        go_wp2_with fail
        exact bodyPost_ret (v := .tuple #[.int .i64 (i : Int), .bool false]) (by simp [results, Tryd.results35, go_sem]) rfl ⟨by rw [hat.out, hfin.out], hbw⟩
theorem place_any (A : Option Addr) (c : Nat) (l : List Hst) (p : Str) (w : World) (hr : Rw hstE 2 w w.heap.size A l) (hn : l.length ≤ 4611686018427387904) :
    Calls Tryd.prog 18 #[.slice A l.length c, .string p.1] w fun e w' => e = .returned (.tuple #[.int .i64 (atN p (l.map Hst.h) : Int), .bool (hasN p (l.map Hst.h))]) ∧ Below w.heap.size w w' := by
  have hc := Lib.hid (bsearch_any A c l p w hr hn)
  clear hr
  go_enter Tryd.func18, Tryd.ntmps18
  go_wp2_with (go_at_call 35; go_must (refine hc.out.mono ?_; rintro e w2 ⟨rfl, hb2⟩))
  exact bodyPost_ret (v := .tuple #[.int .i64 (atN p (l.map Hst.h) : Int), .bool (hasN p (l.map Hst.h))]) (by simp [results, Tryd.results18, go_sem]) rfl ⟨rfl, hb2⟩
theorem hins_ext (vb g lb cb o : Nat) (hne : vb ≠ g) (cb1 cb2 : Array Value) (w : World) (h1 : w.heap[vb]? = some (.cells cb1 24 (0, 0))) (h2 : w.heap[g]? = some (.cells cb2 24 (0, 0))) (hk : cb2.size ≠ 0) :
    (callFunc 37 #[.slice (some ⟨vb, 0, none⟩) 1 1, .slice (some ⟨g, o, none⟩) lb cb]).run Tryd.prog w = .ok (.value (.bool false)) w := by
  rw [run_callFunc_extern Tryd.func37 (by kernel_rfl) (by kernel_rfl) (by kernel_rfl) (e := Extern.SlicesOverlaps.overlaps #[30, 30] #[4]) (by kernel_rfl),
    Lib.run_overlaps_apart w 30 4 24 Tryd.underlying30 2 (fun w => by kernel_rfl) ⟨vb, 0, none⟩ ⟨g, o, none⟩ 1 1 lb cb hne 24 24 cb1.size cb2.size (by simp [World.shape?, h1]) (by simp [World.shape?, h2]) hk (by simp [World.frozen?, h1]) (by simp [World.frozen?, h1])]
  rfl
set_option maxHeartbeats 4000000 in
set_option maxRecDepth 100000 in
theorem hins_end (v : Value) (l : List Hst) (H : Nat) (w : World) (hown : Own hstE 2 24 w H v l) (x : Hst) (vb : Nat) (hvb : w.heap[vb]? = some (.cells (hstE x).toArray 24 (0, 0))) (hH : H ≤ w.heap.size) (hn : l.length ≤ 1000000) :
    Calls Tryd.prog 19 #[v, .int .i64 l.length, .slice (some ⟨vb, 0, none⟩) 1 1] w fun e w' => ∃ v', e = .returned v' ∧ Own hstE 2 24 w' H v' (l ++ [x]) ∧ Below H w w' ∧ w.grownBy w' v.ownBlock := by
  obtain ⟨i0, hi0, hz0, hz1, hz2⟩ := info_parts hst_info
  have hlt := hown.lt
  obtain ⟨A, c, rfl, hc1, hc2, _⟩ := hown.form
  have hvbs : vb < w.heap.size := by
    rcases Nat.lt_or_ge vb w.heap.size with h | h
    · exact h
    · rw [Array.getElem?_eq_none h] at hvb; cases hvb
  have hx : Rw hstE 2 w w.heap.size (some ⟨vb, 0, none⟩) [x] := fun _ => ⟨vb, 0, rfl, hvbs, fun a y hy j u hu => by
    rcases a with _ | a
    · simp at hy; subst hy
      rw [cell_of_row w _ _ _ _ (0, 0) hvb]
      simpa using hu
    · simp at hy⟩
  have hmx : c ≤ 9223372036854775807 := by unfold maxLen at hc2; omega
  replace hvb := Lib.hid hvb
  obtain ⟨n, hn2⟩ : ∃ n, l.length = n := ⟨_, rfl⟩
  have hnn : n ≤ 1000000 := by omega
  rw [hn2] at hown hc1 hlt ⊢
  replace hn2 := Lib.hid hn2
  clear hn
  go_enter Tryd.func19, Tryd.ntmps19
  go_wp2_with (at_builtin
               go_must (refine wpList_append_rw _ rfl (.tmp 23) (.tmp 24) _ rfl hstE_len hstE_one H 24 i0 _ 40 Tryd.underlying30 hi0 hz0 hz1 hz2 rfl (by omega) (.slice A n c) l rfl (by rw [← hn2.out] at hown ⊢; exact hown) _ (some ⟨vb, 0, none⟩) 1 1 [x] rfl rfl hx (by rw [hn2.out]; simp [maxLen]; omega) (by rw [hn2.out]; omega) hH ?_)
               intro v1 w1 hown1 hg1 hat1)
  all_goals go_ret
  all_goals exact ⟨v1, rfl, hown1, (Below.refl _ _).grown hg1 (by omega) (fun g hg => (hlt g hg).1), by cases A <;> exact hg1⟩
set_option maxHeartbeats 4000000 in
set_option maxRecDepth 100000 in
theorem hins_shift (g cap i : Nat) (l : List Hst) (H : Nat) (w : World) (hown : Own hstE 2 24 w H (.slice (some ⟨g, 0, none⟩) l.length cap) l) (hi : i < l.length) (hroom : l.length + 1 ≤ cap) (x : Hst) (vb : Nat) (hvb : w.heap[vb]? = some (.cells (hstE x).toArray 24 (0, 0))) (hne : vb ≠ g) (hn : l.length ≤ 1000000) :
    Calls Tryd.prog 19 #[.slice (some ⟨g, 0, none⟩) l.length cap, .int .i64 i, .slice (some ⟨vb, 0, none⟩) 1 1] w fun e w' => ∃ v', e = .returned v' ∧ Own hstE 2 24 w' H v' (l.take i ++ x :: l.drop i) ∧ Below H w w' ∧ w.grownBy w' (some g) := by
  obtain ⟨i0, hi0, hz0, hz1, hz2⟩ := info_parts hst_info
  have hsz : (Tryd.prog.info? 24).map (·.size) = some 2 := by rw [hi0]; simp [hz1]
  obtain ⟨hHg, _, hm, cur, hg, hs⟩ := own_block hown
  have hcs : cur.size ≠ 0 := by omega
  have hov := fun lb cb o => hins_ext vb g lb cb o hne _ cur w hvb hg hcs
  obtain ⟨hnew, hbel, hex⟩ := shift_row hstE_len (x := x) hown (Nat.le_of_lt hi) hroom
  have hgrw := grown_shift w g ((i + 1) * 2) (i * 2) ((l.drop i).flatMap hstE) (hstE x)
  have hmx : cap ≤ 9223372036854775807 := by unfold maxLen at hm; omega
  have hcell : ∀ t u, (l.flatMap hstE)[t]? = some u → w.cell? ⟨g, t, none⟩ = some u := fun t u hu => by
    have ht := (List.getElem?_eq_some_iff.1 hu).1
    rw [flat_len hstE_len] at ht
    rw [hown.cellAt t ht]; exact hu
  have hfro : ∀ t, w.frozen? ⟨g, t, none⟩ = false := fun t => hown.frozenAt t
  have hdl : ((l.drop i).flatMap hstE).length = (l.length - i) * 2 := by rw [flat_len hstE_len, List.length_drop]
  obtain ⟨n, hn2⟩ : ∃ n, l.length = n := ⟨_, rfl⟩
  have hnn : n ≤ 1000000 := by omega
  rw [hn2] at hown hex hnew hroom hi hdl ⊢
  obtain ⟨W1, hW1⟩ : ∃ W1, W1 = w.drew.setCells g ((i + 1) * 2) ((l.drop i).flatMap hstE) := ⟨_, rfl⟩
  have hmn1 : Nat.min (n + 1 - i) (n - i) = n - i := by simp only [Nat.min_def]; split <;> omega
  have hmn2 : Nat.min 1 (n + 1 - i) = 1 := by simp only [Nat.min_def]; split <;> omega
  have hcp1 : ∀ ty dc sc, (Builtin.copy_ #[30, 30] ty #[.slice (some ⟨g, (i + 1) * 2, none⟩) (n - i) dc, .slice (some ⟨g, i * 2, none⟩) (n + 1 - i) sc]).run Tryd.prog w.drew = .ok (goInt ((n - i : Nat) : Int)) W1 := fun ty dc sc => by
    rw [hW1, run_copy_k w.drew _ _ ty 24 g ((i + 1) * 2) (n - i) dc ⟨g, i * 2, none⟩ (n + 1 - i) sc ((l.drop i).flatMap hstE) Tryd.underlying30 hsz (by rw [hdl, hmn1])
      (fun j v hj => by rw [addr_plain]; exact hcell _ _ (drop_cells hstE_len hj))
      (fun j hj => (hex _ (by omega)).1) (fun j hj => hfro _) (mem_flat_one hstE_one _), hmn1]
  have hcp2 : ∀ (W : World), (∀ a, W.cell? a = W1.cell? a) → (∀ a, W.frozen? a = W1.frozen? a) → ∀ ty dc, (Builtin.copy_ #[30, 30] ty #[.slice (some ⟨g, i * 2, none⟩) (n + 1 - i) dc, .slice (some ⟨vb, 0, none⟩) 1 1]).run Tryd.prog W = .ok (goInt ((1 : Nat) : Int)) (W.setCells g (i * 2) (hstE x)) := fun W hWc hWf ty dc => by
    rw [run_copy_k W _ _ ty 24 g (i * 2) (n + 1 - i) dc ⟨vb, 0, none⟩ 1 1 (hstE x) Tryd.underlying30 hsz (by rw [hstE_len, hmn2])
      (fun j v hj => by
        rw [addr_plain, hWc, hW1, World.cell?_setCells_out g _ _ _ _ (fun h _ => absurd h hne)]
        show w.cell? _ = _
        rw [cell_of_row w _ _ _ _ (0, 0) hvb]
        simpa using hj)
      (fun j hj => by rw [hWc, hW1]; rw [hstE_len] at hj; exact (hex _ (by omega)).2) (fun j hj => by rw [hWf, hW1, World.frozen?_setCells]; exact hfro _) (hstE_one _), hmn2]
  rw [← hW1] at hnew hbel hgrw
  replace hW1 := Lib.hid hW1
  replace hn2 := Lib.hid hn2
  replace hown := Lib.hid hown
  replace hg := Lib.hid hg
  replace hvb := Lib.hid hvb
  replace hs := Lib.hid hs
  replace hdl := Lib.hid hdl
  replace hnew := Lib.hid hnew
  replace hbel := Lib.hid hbel
  replace hgrw := Lib.hid hgrw
  clear hex hcell hn hmn1 hmn2
  have hw1 : IntKind.i64.wrap ((i : Int) + 1) = (i : Int) + 1 := IntWalk.i64_in _ (by omega)
  have hw2 : IntKind.i64.wrap ((n : Int) + 1) = (n : Int) + 1 := IntWalk.i64_in _ (by omega)
  have hb0 : (0 : Int) ≤ (i : Int) := by omega
  have hb1 : (0 : Int) ≤ (i : Int) + 1 := by omega
  have htn : ((i : Int) + 1).toNat = i + 1 := by omega
  have htn2 : ((n : Int) + 1).toNat = n + 1 := by omega
  have hb2 : ¬ (cap = i + 1) := by omega
  have hb3 : ¬ (cap = i) := by omega
  have hb5 : i ≤ n := by omega
  have hb6 : ¬ ((i : Int) = (n : Int)) := by omega
  have hb7 : (i : Int) ≤ (n : Int) + 1 := by omega
  have hb8 : i ≤ n + 1 := by omega
  have hmix : Tryd.prog.follows .mixedOrders = true := by kernel_rfl
  go_enter Tryd.func19, Tryd.ntmps19
  go_wp2_with (simp only [hov])
  go_region_law_o (refine step_copy_runI rfl _ _ 30 30 rfl _ _ (by simp [Act.eval, Act.put]) (by simp [Act.eval, Act.put]) (hcp1 _ _ _) ?_)
  go_wp2_with (at_builtin; refine wpList_copy_runI _ rfl _ _ 30 30 rfl _ _ rfl rfl (hcp2 _ (fun _ => rfl) (fun _ => rfl) _ _) ?_)
  go_ret
  exact ⟨_, rfl, hnew.out, hbel.out, hgrw.out⟩
set_option maxHeartbeats 4000000 in
set_option maxRecDepth 100000 in
theorem hins_grow (g cap i : Nat) (l : List Hst) (H : Nat) (w : World) (hown : Own hstE 2 24 w H (.slice (some ⟨g, 0, none⟩) l.length cap) l) (hi : i < l.length) (hroom : cap < l.length + 1) (x : Hst) (vb : Nat) (hvb : w.heap[vb]? = some (.cells (hstE x).toArray 24 (0, 0))) (hH : H ≤ w.heap.size) (hn : l.length ≤ 1000000) :
    Calls Tryd.prog 19 #[.slice (some ⟨g, 0, none⟩) l.length cap, .int .i64 i, .slice (some ⟨vb, 0, none⟩) 1 1] w fun e w' => ∃ v', e = .returned v' ∧ Own hstE 2 24 w' H v' (l.take i ++ x :: l.drop i) ∧ Below H w w' ∧ w.grownBy w' (some g) := by
  obtain ⟨i0, hi0, hz0, hz1, hz2⟩ := info_parts hst_info
  have hsz : (Tryd.prog.info? 24).map (·.size) = some 2 := by rw [hi0]; simp [hz1]
  obtain ⟨hHg, hnc, hm, cur, hg, hs⟩ := own_block hown
  have hcell : ∀ t u, (l.flatMap hstE)[t]? = some u → w.cell? ⟨g, t, none⟩ = some u := fun t u hu => by
    have ht := (List.getElem?_eq_some_iff.1 hu).1
    rw [flat_len hstE_len] at ht
    rw [hown.cellAt t ht]; exact hu
  have hgw : g < w.heap.size := by
    rcases Nat.lt_or_ge g w.heap.size with h | h
    · exact h
    · rw [Array.getElem?_eq_none h] at hg; cases hg
  have hvw : vb < w.heap.size := by
    rcases Nat.lt_or_ge vb w.heap.size with h | h
    · exact h
    · rw [Array.getElem?_eq_none h] at hvb; cases hvb
  have hdl : ((l.drop i).flatMap hstE).length = (l.length - i) * 2 := by rw [flat_len hstE_len, List.length_drop]
  have htl : ((l.take i).flatMap hstE).length = i * 2 := by rw [flat_len hstE_len, List.length_take, Nat.min_eq_left (Nat.le_of_lt hi)]
  have htk : ∀ (t : Nat) (u : Value), ((l.take i).flatMap hstE)[t]? = some u → w.cell? ⟨g, t, none⟩ = some u := fun t u hu => by
    refine hcell t u ?_
    have e : l.flatMap hstE = (l.take i).flatMap hstE ++ (l.drop i).flatMap hstE := by rw [← List.flatMap_append, List.take_append_drop]
    have ht := (List.getElem?_eq_some_iff.1 hu).1
    rw [e, List.getElem?_append_left ht]; exact hu
  have hold : (Builtin.firstCells i0.size i (.slice (some ⟨g, 0, none⟩) i cap)).run Tryd.prog w.drew = .ok ((l.take i).flatMap hstE).toArray w.drew := by
    rw [hz1]
    exact run_firstCells_some w.drew 2 i ⟨g, 0, none⟩ i cap _ htl (fun j v hj => by rw [addr_plain, Nat.zero_add]; exact htk j v hj)
  obtain ⟨G, hG⟩ : ∃ G, G = grownCap w (l.length + 1) cap 24 := ⟨_, rfl⟩
  have hGn : l.length + 1 ≤ G := by rw [hG]; exact grownCap_ge w _ _ _
  have hGm : G ≤ maxLen := by rw [hG]; exact grownCap_le_maxLen w _ _ _ (by unfold maxLen; omega)
  have hkk : (l.length : Int) + 1 - (i : Int) = ((l.length + 1 - i : Nat) : Int) := by omega
  have hik : i + (l.length + 1 - i) = l.length + 1 := by omega
  obtain ⟨ROW, hROW⟩ : ∃ ROW : Array Value, ROW = ((l.take i).flatMap hstE).toArray ++ Builtin.zeroCells (Value.agg #[.string ByteArray.empty, .slice none 0 0]).cells (l.length + 1 - i) ++ Builtin.zeroCells (Value.agg #[.string ByteArray.empty, .slice none 0 0]).cells (G - (l.length + 1)) := ⟨_, rfl⟩
  have hRs : ROW.size = G * 2 := by
    rw [hROW, Array.size_append, Array.size_append, size_zeroCells, size_zeroCells, List.size_toArray, htl, show ((Value.agg #[.string ByteArray.empty, .slice none 0 0]).cells).size = 2 from rfl]
    omega
  have hRo : ∀ (t : Nat) (u : Value), ((l.take i).flatMap hstE)[t]? = some u → ROW[t]? = some u := fun t u hu => by
    have ht := (List.getElem?_eq_some_iff.1 hu).1
    rw [hROW, Array.append_assoc, Array.getElem?_append_left (by simpa using ht)]
    simpa using hu
  obtain ⟨hnew, hbel, hex⟩ := grow_row hstE_len (x := x) (e := 24) hH (Nat.le_of_lt hi) hGn hGm hRs hRo
  have hgrw := grown_grow w (some g) (.cells ROW 24) (i * 2) ((i + 1) * 2) (hstE x) ((l.drop i).flatMap hstE)
  have hrz : ∀ ty, (Builtin.append_ #[30, 3] ty #[.slice (some ⟨g, 0, none⟩) i cap, .int .i64 ((l.length : Int) + 1 - (i : Int))]).run Tryd.prog w = .ok (.slice (some ⟨w.heap.size, 0, none⟩) (l.length + 1) G) (w.drew.alloc (.cells ROW 24)) := fun ty => by
    have h := Lib.run_append_grow_zeros w 30 3 ty 24 i0 _ .i64 .i64 Tryd.underlying30 Tryd.underlying3 hi0 hz0 (some ⟨g, 0, none⟩) i cap _ hold (l.length + 1 - i) (by omega) (by rw [hz1]; omega) (by omega) (by omega) (by rw [hz2]; omega) (by rw [hz2, hik]; exact growslice_fits hroom (by omega))
    rw [hik] at h
    rw [hkk, hROW, hG]
    exact h
  have hmx : cap ≤ 9223372036854775807 := by unfold maxLen at hm; omega
  have hmG : G ≤ 9223372036854775807 := by unfold maxLen at hGm; omega
  obtain ⟨n, hn2⟩ : ∃ n, l.length = n := ⟨_, rfl⟩
  have hnn : n ≤ 1000000 := by omega
  rw [hn2] at hown hex hnew hroom hi hdl hrz hGn hnc ⊢
  clear hkk hik hROW hG hRs hRo hold
  have hcell2 : ∀ t u, ((l.drop i).flatMap hstE)[t]? = some u → w.cell? ⟨g, i * 2 + t, none⟩ = some u := fun t u hu => hcell _ _ (drop_cells hstE_len hu)
  have hmn1 : Nat.min (n - i) (n - i) = n - i := by simp only [Nat.min_def]; split <;> omega
  have hmn2 : Nat.min 1 (n + 1 - i) = 1 := by simp only [Nat.min_def]; split <;> omega
  obtain ⟨W1, hW1⟩ : ∃ W1, W1 = w.drew.alloc (.cells ROW 24) := ⟨_, rfl⟩
  have hOb : ∀ b j, b < w.heap.size → W1.cell? ⟨b, j, none⟩ = w.cell? ⟨b, j, none⟩ := fun b j h => by rw [hW1, World.cell?_alloc_past (w := w.drew) _ b j h]; rfl
  have hNf : ∀ j, W1.frozen? ⟨w.heap.size, j, none⟩ = false := fun j => by rw [hW1]; exact World.frozen?_alloc_at (w := w.drew) ROW _ w.heap.size j rfl
  have hcpA : ∀ (W : World), (∀ a, W.cell? a = W1.cell? a) → (∀ a, W.frozen? a = W1.frozen? a) → ∀ ty dc, (Builtin.copy_ #[30, 30] ty #[.slice (some ⟨w.heap.size, i * 2, none⟩) (n + 1 - i) dc, .slice (some ⟨vb, 0, none⟩) 1 1]).run Tryd.prog W = .ok (goInt ((1 : Nat) : Int)) (W.setCells w.heap.size (i * 2) (hstE x)) := fun W hWc hWf ty dc => by
    rw [run_copy_k W _ _ ty 24 w.heap.size (i * 2) (n + 1 - i) dc ⟨vb, 0, none⟩ 1 1 (hstE x) Tryd.underlying30 hsz (by rw [hstE_len, hmn2])
      (fun j v hj => by
        rw [addr_plain, hWc, hOb vb _ hvw, cell_of_row w _ _ _ _ (0, 0) hvb]
        simpa using hj)
      (fun j hj => by rw [hWc, hW1]; rw [hstE_len] at hj; exact (hex _ (by omega)).1) (fun j hj => by rw [hWf]; exact hNf _) (hstE_one _), hmn2]
  have hcpB : ∀ (W : World), (∀ a, W.cell? a = (W1.setCells w.heap.size (i * 2) (hstE x)).cell? a) → (∀ a, W.frozen? a = (W1.setCells w.heap.size (i * 2) (hstE x)).frozen? a) → ∀ ty dc sc, (Builtin.copy_ #[30, 30] ty #[.slice (some ⟨w.heap.size, (i + 1) * 2, none⟩) (n - i) dc, .slice (some ⟨g, i * 2, none⟩) (n - i) sc]).run Tryd.prog W = .ok (goInt ((n - i : Nat) : Int)) (W.setCells w.heap.size ((i + 1) * 2) ((l.drop i).flatMap hstE)) := fun W hWc hWf ty dc sc => by
    rw [run_copy_k W _ _ ty 24 w.heap.size ((i + 1) * 2) (n - i) dc ⟨g, i * 2, none⟩ (n - i) sc ((l.drop i).flatMap hstE) Tryd.underlying30 hsz (by rw [hdl, hmn1])
      (fun j v hj => by
        rw [addr_plain, hWc, World.cell?_setCells_out w.heap.size _ _ _ _ (fun h _ => absurd h (by show g ≠ _; omega)), hOb g _ hgw]
        exact hcell2 j v hj)
      (fun j hj => by rw [hWc, hW1, ← drew_cell]; exact (hex _ (by omega)).2) (fun j hj => by rw [hWf, World.frozen?_setCells]; exact hNf _) (mem_flat_one hstE_one _), hmn1]
  subst hW1
  have hE1 : ∀ a, ((w.alloc (.cells ROW 24)).drew).cell? a = (w.drew.alloc (.cells ROW 24)).cell? a := fun a => rfl
  have hE2 : ∀ a, ((w.alloc (.cells ROW 24)).drew).frozen? a = (w.drew.alloc (.cells ROW 24)).frozen? a := fun a => rfl
  have hF1 : ∀ a, (((w.alloc (.cells ROW 24)).drew.setCells w.heap.size (i * 2) (hstE x)).drew).cell? a = ((w.drew.alloc (.cells ROW 24)).setCells w.heap.size (i * 2) (hstE x)).cell? a := fun a => drew_cell _ a
  have hF2 : ∀ a, (((w.alloc (.cells ROW 24)).drew.setCells w.heap.size (i * 2) (hstE x)).drew).frozen? a = ((w.drew.alloc (.cells ROW 24)).setCells w.heap.size (i * 2) (hstE x)).frozen? a := fun a => drew_frozen _ a
  replace hn2 := Lib.hid hn2
  replace hown := Lib.hid hown
  replace hg := Lib.hid hg
  replace hvb := Lib.hid hvb
  replace hs := Lib.hid hs
  replace hdl := Lib.hid hdl
  replace htl := Lib.hid htl
  replace hnew := Lib.hid hnew
  replace hbel := Lib.hid hbel
  replace hgrw := Lib.hid hgrw
  clear hex hcell hcell2 htk hn hmn1 hmn2 hOb hNf
  have hw1 : IntKind.i64.wrap ((i : Int) + 1) = (i : Int) + 1 := IntWalk.i64_in _ (by omega)
  have hw2 : IntKind.i64.wrap ((n : Int) + 1) = (n : Int) + 1 := IntWalk.i64_in _ (by omega)
  have hw3 : IntKind.i64.wrap ((n : Int) + 1 - (i : Int)) = (n : Int) + 1 - (i : Int) := IntWalk.i64_in _ (by omega)
  have hb0 : (0 : Int) ≤ (i : Int) := by omega
  have hb1 : (0 : Int) ≤ (i : Int) + 1 := by omega
  have htn : ((i : Int) + 1).toNat = i + 1 := by omega
  have hGi : ¬ (G = i) := by omega
  have hGim : ¬ (G = i + 1) := by omega
  have hb3 : ¬ (cap = i) := by omega
  have hz3 : (cap : Int) < (n : Int) + 1 := by omega
  have hb5 : i ≤ n := by omega
  have hb6 : ¬ ((i : Int) = (n : Int)) := by omega
  have hb7 : (i : Int) ≤ (n : Int) + 1 := by omega
  have hb8 : i ≤ n + 1 := by omega
  have hb9 : i ≤ cap := by omega
  have hmix : Tryd.prog.follows .mixedOrders = true := by kernel_rfl
  go_enter Tryd.func19, Tryd.ntmps19
  go_wp2_with (first
    | (at_builtin; refine Lib.wpList_append_run _ rfl _ _ _ _ rfl _ _ rfl rfl _ _ (hrz _) ?_)
    | (at_builtin; refine wpList_copy_runI _ rfl _ _ 30 30 rfl _ _ rfl rfl (hcpA _ hE1 hE2 _ _) ?_))
  go_region_law_o (refine step_copy_runI rfl _ _ 30 30 rfl (.slice (some ⟨w.heap.size, (i + 1) * 2, none⟩) (n - i) (G - (i + 1))) (.slice (some ⟨g, i * 2, none⟩) (n - i) (cap - i)) (by simp [Act.eval, Act.put]) (by simp [Act.eval, Act.put]) (hcpB _ hF1 hF2 3 (G - (i + 1)) (cap - i)) ?_)
  go_wp2_with fail
  go_ret
  exact ⟨_, rfl, hnew.out, hbel.out, hgrw.out⟩
theorem hins_any (v : Value) (i : Nat) (l : List Hst) (H : Nat) (w : World) (hown : Own hstE 2 24 w H v l) (hi : i ≤ l.length) (x : Hst) (vb : Nat) (hvb : w.heap[vb]? = some (.cells (hstE x).toArray 24 (0, 0))) (hne : v.ownBlock ≠ some vb) (hH : H ≤ w.heap.size) (hn : l.length ≤ 1000000) :
    Calls Tryd.prog 19 #[v, .int .i64 i, .slice (some ⟨vb, 0, none⟩) 1 1] w fun e w' => ∃ v', e = .returned v' ∧ Own hstE 2 24 w' H v' (l.take i ++ x :: l.drop i) ∧ Below H w w' ∧ w.grownBy w' v.ownBlock := by
  rcases Nat.lt_or_eq_of_le hi with h | h
  · rcases hown.2 with ⟨rfl, h0⟩ | ⟨g, cap, cur, rfl, _⟩
    · omega
    · by_cases hr : l.length + 1 ≤ cap
      · exact hins_shift g cap i l H w hown h hr x vb hvb (fun e => hne (by rw [e]; rfl)) hn
      · exact hins_grow g cap i l H w hown h (by omega) x vb hvb hH hn
  · subst h
    rw [List.take_length, List.drop_length]
    exact hins_end v l H w hown x vb hvb hH hn
end Go.Proofs.YtddepmelnemniaaDoor
