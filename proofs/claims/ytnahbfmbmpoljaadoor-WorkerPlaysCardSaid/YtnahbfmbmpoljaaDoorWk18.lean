/-
  The walks of workers: where a worker is, by the program and by the reference.
-/
import Derived.Test.YtnahbfmbmpoljaaDoorWk13



namespace Go.Proofs.YtnahbfmbmpoljaaDoor
open Go.RowKit

theorem rfind_any (A : Option Addr) (c : Nat) (l : List Work) (p : Str) (w : World) (hr : Rw workE 9 w w.heap.size A l) (hn : l.length ≤ 9223372036854775807) :
    Calls Tryd.prog 41 #[.slice A l.length c, .string p.1] w fun e w' => e = .returned (.int .i64 (findN p l)) ∧ w = w' := by
  have hc : Hid (∀ k x, l[k]? = some x → ∃ g o, A = some ⟨g, o, none⟩ ∧ w.cell? ⟨g, o + k * 9, none⟩ = some (.string x.id.1)) := Lib.hid (fun k x hx => by
    have hk := (List.getElem?_eq_some_iff.1 hx).1
    obtain ⟨g, o, e, _, h⟩ := hr (by omega)
    exact ⟨g, o, e, by simpa using h k x hx 0 (.string x.id.1) rfl⟩)
  clear hr
  go_enter Tryd.func41, Tryd.ntmps41
  go_wp2_with fail
  go_loop [5] (fun vi => ∃ k : Nat, k ≤ l.length ∧ vi = .int .i64 (k : Int) ∧ (l.take k).all (fun y => !isName p y) = true) (fun vi => l.length - (intOf vi).toNat)
  case atStart => exact ⟨0, Nat.zero_le _, rfl, rfl⟩
  case round =>
    obtain ⟨k, hk, rfl, ht⟩ := hrel
    replace ht := Lib.hid ht
    by_cases hkl : k < l.length
    · obtain ⟨x, hx⟩ := get_some hkl
      obtain ⟨g, o, rfl, q⟩ := hc.out k x hx
      have i0 : (0 : Int) ≤ (k : Int) := by omega
      have i1 : (k : Int) < (l.length : Int) := by omega
      rcases hs : isName p x with _ | _
      · have hsb : (x.id.1.toList == p.1.toList) = false := hs
        replace hx := Lib.hid hx
        replace hs := Lib.hid hs
        go_wp2_with fail
        go_round
        case rel => exact ⟨k + 1, by omega, by go_num, by rw [List.take_add_one, hx.out, List.all_append, ht.out]; simp [hs.out]⟩
        case measure => simp [intOf]; omega
      · have hsb : (x.id.1.toList == p.1.toList) = true := hs
        have hf : Hid (findN p l = k) := Lib.hid (findN_at ht.out hx hs)
        replace hx := Lib.hid hx
        replace hs := Lib.hid hs
        go_wp2_with fail
        go_ret
        exact ⟨ret_int hf.out.symm, rfl⟩
    · have i1 : ¬ (k : Int) < (l.length : Int) := by omega
      have hf : Hid (findN p l = -1) := Lib.hid (findN_none (by have := ht.out; rwa [List.take_of_length_le (by omega)] at this))
      go_wp2_with fail
      go_ret
      exact ⟨ret_int hf.out.symm, rfl⟩

theorem join1_any (x : Work) (p : Str) (w : World) : Calls Tryd.prog 37 #[(.agg #[.string x.id.1, .slice x.labsA x.labs.length x.labsC, .int .i64 x.trust.1, .int .i64 x.slots.1, .bool x.pre, .int .i64 x.phase.1, .int .i64 x.beat.1, .int .i64 x.till.1, .slice x.toksA x.toks.length x.toksC]), .string p.1] w fun e w' => e = .returned (.int .i64 (cmpS x.id p)) ∧ Bel w.heap.size w w' := by
  have hc : Hid (∀ W, Calls Tryd.prog 38 #[.string x.id.1, .string p.1] W fun e w' => e = .returned (.int .i64 (cmpS x.id p)) ∧ Bel W.heap.size W w') := Lib.hid fun W => compare_any _ _ x.id.2 p.2 W
  go_enter Tryd.func37, Tryd.ntmps37
  go_wp2_with (go_at_call 38; go_must (refine (hc.out _).mono ?_; rintro e w2 ⟨rfl, hb2⟩))
  go_ret
  exact ⟨rfl, ((Bel.refl _ _).alloc (Nat.le_refl _) _).trans (hb2.mono (by simp))⟩

set_option maxRecDepth 100000 in
set_option maxHeartbeats 4000000 in
theorem bsearch_any (A : Option Addr) (c : Nat) (l : List Work) (p : Str) (w : World) (hr : Rw workE 9 w w.heap.size A l) (hn : l.length ≤ 4611686018427387904) :
    Calls Tryd.prog 36 #[.slice A l.length c, .string p.1, .func (.func 37) #[] #[]] w fun e w' => e = .returned (.tuple #[.int .i64 (atN p l : Int), .bool (hasN p l)]) ∧ Below w.heap.size w w' := by
  have e48 : ∀ args w, (callFunc 37 args).run Tryd.prog w = .ok (.enter 37 args) w := enters_of Tryd.func37 (by kernel_rfl) rfl
  obtain ⟨B, hB⟩ : ∃ B, w.heap.size = B := ⟨_, rfl⟩
  rw [hB] at hr ⊢
  have hB2 := Nat.le_of_eq hB
  have hB3 := Nat.le_of_eq hB.symm
  replace hB := Lib.hid hB
  replace hr := Lib.hid hr
  go_enter Tryd.func36, Tryd.ntmps36
  go_wp2_with fail
  go_loopw [9, 10] (fun vi vj wr => ∃ i j : Nat, vi = .int .i64 (i : Int) ∧ vj = .int .i64 (j : Int) ∧ i ≤ j ∧ j ≤ l.length ∧ bsr (fun h => decide (cmpS l[h]!.id p < 0)) i j = atN p l ∧ Below B w wr) (fun vi vj _ => (intOf vj).toNat - (intOf vi).toNat)
  case atStart => exact ⟨0, l.length, rfl, rfl, Nat.zero_le _, Nat.le_refl _, rfl, Below.refl _ _⟩
  case round =>
    obtain ⟨i, j, rfl, rfl, hij, hj, hbs, hbw⟩ := hrel
    have hz := hbw.size
    replace hbs := Lib.hid hbs
    by_cases hlt : i < j
    · have hlz : (i : Int) < (j : Int) := by omega
      have emid : ((i : Int) + (j : Int)) / 2 = (((i + j) / 2 : Nat) : Int) := by omega
      obtain ⟨h, hh⟩ : ∃ h, (i + j) / 2 = h := ⟨_, rfl⟩
      rw [hh] at emid
      have hih : i ≤ h := by omega
      have hhj : h < j := by omega
      have i0 : (0 : Int) ≤ (h : Int) := by omega
      have i1 : (h : Int) < (l.length : Int) := by omega
      replace hh := Lib.hid hh
      obtain ⟨x, hx⟩ := get_some (show h < l.length by omega)
      obtain ⟨g, o, rfl, hg, hq⟩ := hr.out (by omega)
      have q : ∀ j u, (workE x)[j]? = some u → wr.cell? ⟨g, o + h * 9 + j, none⟩ = some u := fun j u hu => (hbw.cell (p := ⟨g, o + h * 9 + j, none⟩) hg).trans (hq h x hx j u hu)
      have q0 := q 0 (.string x.id.1) rfl
      try rw [Nat.add_zero] at q0
      have q1 := q 1 (.slice x.labsA x.labs.length x.labsC) rfl
      have q2 := q 2 (.int .i64 x.trust.1) rfl
      have q3 := q 3 (.int .i64 x.slots.1) rfl
      have q4 := q 4 (.bool x.pre) rfl
      have q5 := q 5 (.int .i64 x.phase.1) rfl
      have q6 := q 6 (.int .i64 x.beat.1) rfl
      have q7 := q 7 (.int .i64 x.till.1) rfl
      have q8 := q 8 (.slice x.toksA x.toks.length x.toksC) rfl
      clear q
      have hbang : Hid (l[h]!.id = x.id) := Lib.hid (by rw [get_bang hx])
      replace hx := Lib.hid hx
      obtain ⟨C, hC⟩ : ∃ C, cmpS x.id p = C := ⟨_, rfl⟩
      have hcm : Hid (∀ W, Calls Tryd.prog 37 #[(.agg #[.string x.id.1, .slice x.labsA x.labs.length x.labsC, .int .i64 x.trust.1, .int .i64 x.slots.1, .bool x.pre, .int .i64 x.phase.1, .int .i64 x.beat.1, .int .i64 x.till.1, .slice x.toksA x.toks.length x.toksC]), .string p.1] W fun e w' => e = .returned (.int .i64 C) ∧ Below W.heap.size W w') := Lib.hid fun W => (join1_any x p W).mono fun _ _ h => ⟨by rw [h.1, hC], h.2.toBelow⟩
      by_cases hneg : C < 0
      · have hyes : Hid (bsr (fun h => decide (cmpS l[h]!.id p < 0)) (h + 1) j = atN p l) := Lib.hid (by rw [← hbs.out, bsr_yes hlt (by rw [hh.out]; show decide (cmpS l[h]!.id p < 0) = true; rw [hbang.out, hC]; exact decide_eq_true hneg), hh.out])
        replace hC := Lib.hid hC
        go_wp2_with (go_at_fn 37; go_must (refine (hcm.out _).mono ?_; rintro e w2 ⟨rfl, hb2⟩; have hz2 := hb2.size))
        go_roundw
        case rel => exact ⟨h + 1, j, by go_num, rfl, by omega, hj, hyes.out, hbw.trans (hb2.mono (by omega))⟩
        case measure => simp [intOf]; omega
      · have hno : Hid (bsr (fun h => decide (cmpS l[h]!.id p < 0)) i h = atN p l) := Lib.hid (by rw [← hbs.out, bsr_no hlt (by rw [hh.out]; show decide (cmpS l[h]!.id p < 0) = false; rw [hbang.out, hC]; exact decide_eq_false hneg), hh.out])
        replace hC := Lib.hid hC
        go_wp2_with (go_at_fn 37; go_must (refine (hcm.out _).mono ?_; rintro e w2 ⟨rfl, hb2⟩; have hz2 := hb2.size))
        go_roundw
        case rel => exact ⟨i, h, rfl, rfl, hih, by omega, hno.out, hbw.trans (hb2.mono (by omega))⟩
        case measure => simp [intOf]; omega
    · have hlz : ¬ (i : Int) < (j : Int) := by omega
      have hat : Hid (atN p l = i) := Lib.hid (by rw [← hbs.out, bsr_end hlt])
      by_cases hil : i < l.length
      · have i0 : (0 : Int) ≤ (i : Int) := by omega
        have i1 : (i : Int) < (l.length : Int) := by omega
        obtain ⟨x, hx⟩ := get_some (show i < l.length by omega)
        obtain ⟨g, o, rfl, hg, hq⟩ := hr.out (by omega)
        have q : ∀ j u, (workE x)[j]? = some u → wr.cell? ⟨g, o + i * 9 + j, none⟩ = some u := fun j u hu => (hbw.cell (p := ⟨g, o + i * 9 + j, none⟩) hg).trans (hq i x hx j u hu)
        have q0 := q 0 (.string x.id.1) rfl
        try rw [Nat.add_zero] at q0
        have q1 := q 1 (.slice x.labsA x.labs.length x.labsC) rfl
        have q2 := q 2 (.int .i64 x.trust.1) rfl
        have q3 := q 3 (.int .i64 x.slots.1) rfl
        have q4 := q 4 (.bool x.pre) rfl
        have q5 := q 5 (.int .i64 x.phase.1) rfl
        have q6 := q 6 (.int .i64 x.beat.1) rfl
        have q7 := q 7 (.int .i64 x.till.1) rfl
        have q8 := q 8 (.slice x.toksA x.toks.length x.toksC) rfl
        clear q
        have hbang : Hid (l[i]!.id = x.id) := Lib.hid (by rw [get_bang hx])
        replace hx := Lib.hid hx
        obtain ⟨C, hC⟩ : ∃ C, cmpS x.id p = C := ⟨_, rfl⟩
        have hcm : Hid (∀ W, Calls Tryd.prog 37 #[(.agg #[.string x.id.1, .slice x.labsA x.labs.length x.labsC, .int .i64 x.trust.1, .int .i64 x.slots.1, .bool x.pre, .int .i64 x.phase.1, .int .i64 x.beat.1, .int .i64 x.till.1, .slice x.toksA x.toks.length x.toksC]), .string p.1] W fun e w' => e = .returned (.int .i64 C) ∧ Below W.heap.size W w') := Lib.hid fun W => (join1_any x p W).mono fun _ _ h => ⟨by rw [h.1, hC], h.2.toBelow⟩
        have hfin : Hid (hasN p l = (C == 0)) := Lib.hid (by unfold hasN; rw [hat.out, hbang.out, hC, decide_eq_true hil, Bool.true_and]; by_cases h : C = 0 <;> simp [h])
        replace hC := Lib.hid hC
        go_wp2_with (go_at_fn 37; go_must (refine (hcm.out _).mono ?_; rintro e w2 ⟨rfl, hb2⟩; have hz2 := hb2.size))
        exact bodyPost_ret (v := .tuple #[.int .i64 (i : Int), .bool (C == 0)]) (by simp [results, Tryd.results36, go_sem]) rfl ⟨by rw [hat.out, hfin.out], hbw.trans (hb2.mono (by omega))⟩
      · have i1 : ¬ (i : Int) < (l.length : Int) := by omega
        have hfin : Hid (hasN p l = false) := Lib.hid (by unfold hasN; rw [hat.out, decide_eq_false hil]; rfl)
        go_wp2_with fail
        exact bodyPost_ret (v := .tuple #[.int .i64 (i : Int), .bool false]) (by simp [results, Tryd.results36, go_sem]) rfl ⟨by rw [hat.out, hfin.out], hbw⟩
end Go.Proofs.YtnahbfmbmpoljaaDoor
