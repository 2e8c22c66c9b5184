/-
  The walks of fairness: where a project is, by the program and by the reference; a share's ratio at another weight.
-/
import Derived.Test.YtopicpghhpkgbaaDoorFa1
import Derived.Test.YtopicpghhpkgbaaDoorStab



namespace Go.Proofs.YtopicpghhpkgbaaDoor
open Go.RowKit

theorem bsr_yes {q : Nat → Bool} {i j : Nat} (h : i < j) (hq : q ((i + j) / 2) = true) : bsr q i j = bsr q ((i + j) / 2 + 1) j := by rw [bsr, dif_pos h, if_pos hq]
theorem bsr_no {q : Nat → Bool} {i j : Nat} (h : i < j) (hq : q ((i + j) / 2) = false) : bsr q i j = bsr q i ((i + j) / 2) := by rw [bsr, dif_pos h, if_neg (by rw [hq]; decide)]
theorem bsr_end {q : Nat → Bool} {i j : Nat} (h : ¬ i < j) : bsr q i j = i := by rw [bsr, dif_neg h]

/-- The served cost at which a project of another weight has a share's ratio, rounded up. -/
def scaS (x : Share) (wt : Int) : Int := (x.served.1 * wt + x.weight.1 - 1) / x.weight.1
theorem okS_range {x : Share} (h : okS x = true) : 1 ≤ x.weight.1 ∧ x.weight.1 ≤ 1000 ∧ 0 ≤ x.served.1 ∧ x.served.1 ≤ 1125899906842624 := by
  unfold okS at h
  simp only [Bool.and_eq_true, decide_eq_true_eq] at h
  omega
theorem sca_mul {x : Share} {wt : Int} (h : okS x = true) (h1 : 1 ≤ wt) (h2 : wt ≤ 1000) : 0 ≤ x.served.1 * wt ∧ x.served.1 * wt ≤ 1125899906842624000 := by
  obtain ⟨_, _, h3, h4⟩ := okS_range h
  refine ⟨Int.mul_nonneg h3 (by omega), ?_⟩
  have a := Int.mul_le_mul h4 h2 (by omega) (by omega : (0 : Int) ≤ 1125899906842624)
  omega
theorem scaled_any (x : Share) (wt : Int) (h : okS x = true) (h1 : 1 ≤ wt) (h2 : wt ≤ 1000) (w : World) :
    Calls Tryd.prog 26 #[.agg #[.string x.proj.1, .int .i64 x.weight.1, .int .i64 x.served.1], .int .i64 wt] w fun e w' => e = .returned (.int .i64 (scaS x wt)) ∧ Below w.heap.size w w' := by
  have hm := sca_mul h h1 h2
  obtain ⟨r1, r2, r3, r4⟩ := okS_range h
  obtain ⟨M, hM⟩ : ∃ M, x.served.1 * wt = M := ⟨_, rfl⟩
  have hs : Hid (scaS x wt = (M + x.weight.1 - 1) / x.weight.1) := Lib.hid (by unfold scaS; rw [hM])
  rw [hM] at hm
  obtain ⟨m1, m2⟩ := hm
  have hw1 : IntKind.i64.wrap (x.served.1 * wt) = M := by rw [hM]; exact IntWalk.i64_in _ (by omega)
  have hw2 : IntKind.i64.wrap (M + x.weight.1) = M + x.weight.1 := IntWalk.i64_in _ (by omega)
  have hw3 : IntKind.i64.wrap (M + x.weight.1 - 1) = M + x.weight.1 - 1 := IntWalk.i64_in _ (by omega)
  have hq : (M + x.weight.1 - 1).tdiv x.weight.1 = (M + x.weight.1 - 1) / x.weight.1 := Int.tdiv_eq_ediv_of_nonneg (by omega)
  have hz : (x.weight.1 == 0) = false := by rw [beq_eq_false_iff_ne]; omega
  have hz2 : x.weight.1 ≠ 0 := by omega
  have hz3 : ¬ x.weight.1 = 0 := by omega
  have hd1 : 0 ≤ (M + x.weight.1 - 1) / x.weight.1 := Int.ediv_nonneg (by omega) (by omega)
  have hd2 : (M + x.weight.1 - 1) / x.weight.1 ≤ M + x.weight.1 - 1 := Int.ediv_le_self _ (by omega)
  have hw4 : IntKind.i64.wrap ((M + x.weight.1 - 1) / x.weight.1) = (M + x.weight.1 - 1) / x.weight.1 := IntWalk.i64_in _ (by omega)
  clear hM
  go_enter Tryd.func26, Tryd.ntmps26
  go_wp2_with fail
  go_ret
  exact ⟨ret_int (by rw [hs.out]), (by repeat (first | (with_reducible exact Below.refl _ _) | (with_reducible refine Below.drew ?_) | (with_reducible refine below_drewN ?_ _) | ((with_reducible refine Below.alloc ?_ ?_ _); rotate_left; focus ((try simp) <;> omega)) | ((with_reducible refine Below.setCell ?_ ?_ _); rotate_left; focus ((try simp) <;> omega)) | ((with_reducible refine Below.trans ?_ (Below.mono (by assumption) ?_)); rotate_left; focus ((try simp) <;> omega))))⟩
theorem rscaled_any (x : Share) (wt : Int) (h : okS x = true) (h1 : 1 ≤ wt) (h2 : wt ≤ 1000) (w : World) :
    Calls Tryd.prog 33 #[.agg #[.string x.proj.1, .int .i64 x.weight.1, .int .i64 x.served.1], .int .i64 wt] w fun e w' => e = .returned (.int .i64 (scaS x wt)) ∧ Below w.heap.size w w' := by
  have hm := sca_mul h h1 h2
  obtain ⟨r1, r2, r3, r4⟩ := okS_range h
  obtain ⟨M, hM⟩ : ∃ M, x.served.1 * wt = M := ⟨_, rfl⟩
  have hs : Hid (scaS x wt = (M + x.weight.1 - 1) / x.weight.1) := Lib.hid (by unfold scaS; rw [hM])
  rw [hM] at hm
  obtain ⟨m1, m2⟩ := hm
  have hw1 : IntKind.i64.wrap (x.served.1 * wt) = M := by rw [hM]; exact IntWalk.i64_in _ (by omega)
  have hw2 : IntKind.i64.wrap (M + x.weight.1) = M + x.weight.1 := IntWalk.i64_in _ (by omega)
  have hw3 : IntKind.i64.wrap (M + x.weight.1 - 1) = M + x.weight.1 - 1 := IntWalk.i64_in _ (by omega)
  have hq : (M + x.weight.1 - 1).tdiv x.weight.1 = (M + x.weight.1 - 1) / x.weight.1 := Int.tdiv_eq_ediv_of_nonneg (by omega)
  have hz : (x.weight.1 == 0) = false := by rw [beq_eq_false_iff_ne]; omega
  have hz2 : x.weight.1 ≠ 0 := by omega
  have hz3 : ¬ x.weight.1 = 0 := by omega
  have hd1 : 0 ≤ (M + x.weight.1 - 1) / x.weight.1 := Int.ediv_nonneg (by omega) (by omega)
  have hd2 : (M + x.weight.1 - 1) / x.weight.1 ≤ M + x.weight.1 - 1 := Int.ediv_le_self _ (by omega)
  have hw4 : IntKind.i64.wrap ((M + x.weight.1 - 1) / x.weight.1) = (M + x.weight.1 - 1) / x.weight.1 := IntWalk.i64_in _ (by omega)
  clear hM
  go_enter Tryd.func33, Tryd.ntmps33
  go_wp2_with fail
  go_ret
  exact ⟨ret_int (by rw [hs.out]), (by repeat (first | (with_reducible exact Below.refl _ _) | (with_reducible refine Below.drew ?_) | (with_reducible refine below_drewN ?_ _) | ((with_reducible refine Below.alloc ?_ ?_ _); rotate_left; focus ((try simp) <;> omega)) | ((with_reducible refine Below.setCell ?_ ?_ _); rotate_left; focus ((try simp) <;> omega)) | ((with_reducible refine Below.trans ?_ (Below.mono (by assumption) ?_)); rotate_left; focus ((try simp) <;> omega))))⟩

def isProj (p : Str) (x : Share) : Bool := x.proj.1.toList == p.1.toList
/-- The place of a project, -1 if there is none. -/
def findP (p : Str) (l : List Share) : Int := if l.findIdx (isProj p) < l.length then (l.findIdx (isProj p) : Int) else -1
theorem findIdx_at {α : Type} {p : α → Bool} {l : List α} {k : Nat} {x : α} (h : (l.take k).all (fun y => !p y) = true) (hx : l[k]? = some x) (hp : p x = true) : l.findIdx p = k := by
  obtain ⟨hk, rfl⟩ := List.getElem?_eq_some_iff.1 hx
  refine (List.findIdx_eq hk).2 ⟨hp, fun j hj => ?_⟩
  have := List.all_eq_true.1 h (l[j]'(by omega)) (by rw [List.mem_take_iff_getElem]; exact ⟨j, by omega, rfl⟩)
  simpa using this
theorem findP_at {p : Str} {l : List Share} {k : Nat} {x : Share} (h : (l.take k).all (fun y => !isProj p y) = true) (hx : l[k]? = some x) (hp : isProj p x = true) : findP p l = k := by
  have hk := (List.getElem?_eq_some_iff.1 hx).1
  unfold findP
  rw [findIdx_at h hx hp, if_pos hk]
theorem findP_none {p : Str} {l : List Share} (h : l.all (fun y => !isProj p y) = true) : findP p l = -1 := by
  unfold findP
  rw [if_neg]
  rw [List.findIdx_lt_length]
  rintro ⟨x, hx, hp⟩
  have := List.all_eq_true.1 h x hx
  rw [hp] at this; cases this

theorem rfind_any (A : Option Addr) (c : Nat) (l : List Share) (p : Str) (w : World) (hr : Rw shareE 3 w w.heap.size A l) (hn : l.length ≤ 9223372036854775807) :
    Calls Tryd.prog 20 #[.slice A l.length c, .string p.1] w fun e w' => e = .returned (.int .i64 (findP p l)) ∧ w = w' := by
  have hc : Hid (∀ k x, l[k]? = some x → ∃ g o, A = some ⟨g, o, none⟩ ∧ w.cell? ⟨g, o + k * 3, none⟩ = some (.string x.proj.1)) := Lib.hid (fun k x hx => by
    have hk := (List.getElem?_eq_some_iff.1 hx).1
    obtain ⟨g, o, e, _, h⟩ := hr (by omega)
    exact ⟨g, o, e, by simpa using h k x hx 0 (.string x.proj.1) rfl⟩)
  clear hr
  go_enter Tryd.func20, Tryd.ntmps20
  go_wp2_with fail
  go_loop [5] (fun vi => ∃ k : Nat, k ≤ l.length ∧ vi = .int .i64 (k : Int) ∧ (l.take k).all (fun y => !isProj p y) = true) (fun vi => l.length - (intOf vi).toNat)
  case atStart => exact ⟨0, Nat.zero_le _, rfl, rfl⟩
  case round =>
    obtain ⟨k, hk, rfl, ht⟩ := hrel
    replace ht := Lib.hid ht
    by_cases hkl : k < l.length
    · obtain ⟨x, hx⟩ := get_some hkl
      obtain ⟨g, o, rfl, q⟩ := hc.out k x hx
      have i0 : (0 : Int) ≤ (k : Int) := by omega
      have i1 : (k : Int) < (l.length : Int) := by omega
      rcases hs : isProj p x with _ | _
      · have hsb : (x.proj.1.toList == p.1.toList) = false := hs
        replace hx := Lib.hid hx
        replace hs := Lib.hid hs
        go_wp2_with fail
        go_round
        case rel => exact ⟨k + 1, by omega, by go_num, by rw [List.take_add_one, hx.out, List.all_append, ht.out]; simp [hs.out]⟩
        case measure => simp [intOf]; omega
      · have hsb : (x.proj.1.toList == p.1.toList) = true := hs
        have hf : Hid (findP p l = k) := Lib.hid (findP_at ht.out hx hs)
        replace hx := Lib.hid hx
        replace hs := Lib.hid hs
        go_wp2_with fail
        go_ret
        exact ⟨ret_int hf.out.symm, rfl⟩
    · have i1 : ¬ (k : Int) < (l.length : Int) := by omega
      have hf : Hid (findP p l = -1) := Lib.hid (findP_none (by have := ht.out; rwa [List.take_of_length_le (by omega)] at this))
      go_wp2_with fail
      go_ret
      exact ⟨ret_int hf.out.symm, rfl⟩

theorem find1_any (x : Share) (p : Str) (w : World) : Calls Tryd.prog 48 #[.agg #[.string x.proj.1, .int .i64 x.weight.1, .int .i64 x.served.1], .string p.1] w fun e w' => e = .returned (.int .i64 (cmpS x.proj p)) ∧ Bel w.heap.size w w' := by
  have hc : Hid (∀ W, Calls Tryd.prog 43 #[.string x.proj.1, .string p.1] W fun e w' => e = .returned (.int .i64 (cmpS x.proj p)) ∧ Bel W.heap.size W w') := Lib.hid fun W => compare_any _ _ x.proj.2 p.2 W
  go_enter Tryd.func48, Tryd.ntmps48
  go_wp2_with (go_at_call 43; go_must (refine (hc.out _).mono ?_; rintro e w2 ⟨rfl, hb2⟩))
  go_ret
  exact ⟨rfl, ((Bel.refl _ _).alloc (Nat.le_refl _) _).trans (hb2.mono (by simp))⟩

/-- Where a project is, or would be put; whether it is there. -/
def atP (p : Str) (l : List Share) : Nat := bsr (fun h => decide (cmpS l[h]!.proj p < 0)) 0 l.length
def isAt (p : Str) (l : List Share) : Bool := decide (atP p l < l.length) && decide (cmpS l[atP p l]!.proj p = 0)
set_option maxRecDepth 100000 in
set_option maxHeartbeats 4000000 in
theorem bsearch_any (A : Option Addr) (c : Nat) (l : List Share) (p : Str) (w : World) (hr : Rw shareE 3 w w.heap.size A l) (hn : l.length ≤ 4611686018427387904) :
    Calls Tryd.prog 47 #[.slice A l.length c, .string p.1, .func (.func 48) #[] #[]] w fun e w' => e = .returned (.tuple #[.int .i64 (atP p l : Int), .bool (isAt p l)]) ∧ Below w.heap.size w w' := by
  have e48 : ∀ args w, (callFunc 48 args).run Tryd.prog w = .ok (.enter 48 args) w := enters_of Tryd.func48 (by kernel_rfl) rfl
  obtain ⟨B, hB⟩ : ∃ B, w.heap.size = B := ⟨_, rfl⟩
  rw [hB] at hr ⊢
  have hB2 := Nat.le_of_eq hB
  have hB3 := Nat.le_of_eq hB.symm
  replace hB := Lib.hid hB
  replace hr := Lib.hid hr
  go_enter Tryd.func47, Tryd.ntmps47
  go_wp2_with fail
  go_loopw [9, 10] (fun vi vj wr => ∃ i j : Nat, vi = .int .i64 (i : Int) ∧ vj = .int .i64 (j : Int) ∧ i ≤ j ∧ j ≤ l.length ∧ bsr (fun h => decide (cmpS l[h]!.proj p < 0)) i j = atP p l ∧ Below B w wr) (fun vi vj _ => (intOf vj).toNat - (intOf vi).toNat)
  case atStart => exact ⟨0, l.length, rfl, rfl, Nat.zero_le _, Nat.le_refl _, rfl, Below.refl _ _⟩
  case round =>
    obtain ⟨i, j, rfl, rfl, hij, hj, hbs, hbw⟩ := hrel
    have hz := hbw.size
    replace hbs := Lib.hid hbs
    by_cases hlt : i < j
    · have hlz : (i : Int) < (j : Int) := by omega
      have emid : ((i : Int) + (j : Int)) / 2 = (((i + j) / 2 : Nat) : Int) := by omega
      obtain ⟨h, hh⟩ : ∃ h, (i + j) / 2 = h := ⟨_, rfl⟩
      rw [hh] at emid
      have hih : i ≤ h := by omega
      have hhj : h < j := by omega
      have i0 : (0 : Int) ≤ (h : Int) := by omega
      have i1 : (h : Int) < (l.length : Int) := by omega
      replace hh := Lib.hid hh
      obtain ⟨x, hx⟩ := get_some (show h < l.length by omega)
      obtain ⟨g, o, rfl, hg, hq⟩ := hr.out (by omega)
      have q : ∀ j u, (shareE x)[j]? = some u → wr.cell? ⟨g, o + h * 3 + j, none⟩ = some u := fun j u hu => (hbw.cell (p := ⟨g, o + h * 3 + j, none⟩) hg).trans (hq h x hx j u hu)
      have q0 := q 0 (.string x.proj.1) rfl
      try rw [Nat.add_zero] at q0
      have q1 := q 1 (.int .i64 x.weight.1) rfl
      have q2 := q 2 (.int .i64 x.served.1) rfl
      clear q
      have hbang : Hid (l[h]!.proj = x.proj) := Lib.hid (by rw [get_bang hx])
      replace hx := Lib.hid hx
      obtain ⟨C, hC⟩ : ∃ C, cmpS x.proj p = C := ⟨_, rfl⟩
      have hcm : Hid (∀ W, Calls Tryd.prog 48 #[.agg #[.string x.proj.1, .int .i64 x.weight.1, .int .i64 x.served.1], .string p.1] W fun e w' => e = .returned (.int .i64 C) ∧ Below W.heap.size W w') := Lib.hid fun W => (find1_any x p W).mono fun _ _ h => ⟨by rw [h.1, hC], h.2.toBelow⟩
      by_cases hneg : C < 0
      · have hyes : Hid (bsr (fun h => decide (cmpS l[h]!.proj p < 0)) (h + 1) j = atP p l) := Lib.hid (by rw [← hbs.out, bsr_yes hlt (by rw [hh.out]; show decide (cmpS l[h]!.proj p < 0) = true; rw [hbang.out, hC]; exact decide_eq_true hneg), hh.out])
        replace hC := Lib.hid hC
        go_wp2_with (go_at_fn 48; go_must (refine (hcm.out _).mono ?_; rintro e w2 ⟨rfl, hb2⟩; have hz2 := hb2.size))
        go_roundw
        case rel => exact ⟨h + 1, j, by go_num, rfl, by omega, hj, hyes.out, hbw.trans (hb2.mono (by omega))⟩
        case measure => simp [intOf]; omega
      · have hno : Hid (bsr (fun h => decide (cmpS l[h]!.proj p < 0)) i h = atP p l) := Lib.hid (by rw [← hbs.out, bsr_no hlt (by rw [hh.out]; show decide (cmpS l[h]!.proj p < 0) = false; rw [hbang.out, hC]; exact decide_eq_false hneg), hh.out])
        replace hC := Lib.hid hC
        go_wp2_with (go_at_fn 48; go_must (refine (hcm.out _).mono ?_; rintro e w2 ⟨rfl, hb2⟩; have hz2 := hb2.size))
        go_roundw
        case rel => exact ⟨i, h, rfl, rfl, hih, by omega, hno.out, hbw.trans (hb2.mono (by omega))⟩
        case measure => simp [intOf]; omega
    · have hlz : ¬ (i : Int) < (j : Int) := by omega
      have hat : Hid (atP p l = i) := Lib.hid (by rw [← hbs.out, bsr_end hlt])
      by_cases hil : i < l.length
      · have i0 : (0 : Int) ≤ (i : Int) := by omega
        have i1 : (i : Int) < (l.length : Int) := by omega
        obtain ⟨x, hx⟩ := get_some (show i < l.length by omega)
        obtain ⟨g, o, rfl, hg, hq⟩ := hr.out (by omega)
        have q : ∀ j u, (shareE x)[j]? = some u → wr.cell? ⟨g, o + i * 3 + j, none⟩ = some u := fun j u hu => (hbw.cell (p := ⟨g, o + i * 3 + j, none⟩) hg).trans (hq i x hx j u hu)
        have q0 := q 0 (.string x.proj.1) rfl
        try rw [Nat.add_zero] at q0
        have q1 := q 1 (.int .i64 x.weight.1) rfl
        have q2 := q 2 (.int .i64 x.served.1) rfl
        clear q
        have hbang : Hid (l[i]!.proj = x.proj) := Lib.hid (by rw [get_bang hx])
        replace hx := Lib.hid hx
        obtain ⟨C, hC⟩ : ∃ C, cmpS x.proj p = C := ⟨_, rfl⟩
        have hcm : Hid (∀ W, Calls Tryd.prog 48 #[.agg #[.string x.proj.1, .int .i64 x.weight.1, .int .i64 x.served.1], .string p.1] W fun e w' => e = .returned (.int .i64 C) ∧ Below W.heap.size W w') := Lib.hid fun W => (find1_any x p W).mono fun _ _ h => ⟨by rw [h.1, hC], h.2.toBelow⟩
        have hfin : Hid (isAt p l = (C == 0)) := Lib.hid (by unfold isAt; rw [hat.out, hbang.out, hC, decide_eq_true hil, Bool.true_and]; by_cases h : C = 0 <;> simp [h])
        replace hC := Lib.hid hC
        go_wp2_with (go_at_fn 48; go_must (refine (hcm.out _).mono ?_; rintro e w2 ⟨rfl, hb2⟩; have hz2 := hb2.size))
        exact bodyPost_ret (v := .tuple #[.int .i64 (i : Int), .bool (C == 0)]) (by simp [results, Tryd.results47, go_sem]) rfl ⟨by rw [hat.out, hfin.out], hbw.trans (hb2.mono (by omega))⟩
      · have i1 : ¬ (i : Int) < (l.length : Int) := by omega
        have hfin : Hid (isAt p l = false) := Lib.hid (by unfold isAt; rw [hat.out, decide_eq_false hil]; rfl)
        go_wp2_with fail
        exact bodyPost_ret (v := .tuple #[.int .i64 (i : Int), .bool false]) (by simp [results, Tryd.results47, go_sem]) rfl ⟨by rw [hat.out, hfin.out], hbw⟩
theorem find_any (A : Option Addr) (c : Nat) (l : List Share) (p : Str) (w : World) (hr : Rw shareE 3 w w.heap.size A l) (hn : l.length ≤ 4611686018427387904) :
    Calls Tryd.prog 25 #[.slice A l.length c, .string p.1] w fun e w' => e = .returned (.tuple #[.int .i64 (atP p l : Int), .bool (isAt p l)]) ∧ Below w.heap.size w w' := by
  have h := bsearch_any A c l p w hr hn
  generalize atP p l = a at h
  generalize isAt p l = b at h
  replace h := Lib.hid h
  clear hr
  go_enter Tryd.func25, Tryd.ntmps25
  go_wp2_with (go_at_call 47; go_must (refine h.out.mono ?_; rintro e w2 ⟨rfl, hb2⟩))
  exact bodyPost_ret (v := .tuple #[.int .i64 (a : Int), .bool b]) (by simp [results, Tryd.results25, go_sem]) rfl ⟨rfl, hb2⟩
end Go.Proofs.YtopicpghhpkgbaaDoor
