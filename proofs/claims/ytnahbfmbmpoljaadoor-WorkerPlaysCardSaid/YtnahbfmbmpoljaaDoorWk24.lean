/-
  The walks of workers: where a token is, by the program.
-/
import Derived.Test.YtnahbfmbmpoljaaDoorWk7
import Derived.Test.YtnahbfmbmpoljaaDoorWk13



namespace Go.Proofs.YtnahbfmbmpoljaaDoor
open Go.RowKit

def atI (t : Int) (l : List I64) : Nat := bsr (fun h => decide (l[h]!.1 < t)) 0 l.length
def hasI (t : Int) (l : List I64) : Bool := decide (atI t l < l.length) && decide (l[atI t l]!.1 = t)
theorem atI_le (t : Int) (l : List I64) : atI t l ≤ l.length := (bsr_range _ _ _ _ rfl (Nat.zero_le _)).2
set_option maxRecDepth 100000 in
set_option maxHeartbeats 4000000 in
theorem bsi_any (A : Option Addr) (c : Nat) (l : List I64) (p : I64) (w : World) (hr : Rw iE 1 w w.heap.size A l) (hn : l.length ≤ 4611686018427387904) :
    Calls Tryd.prog 48 #[.slice A l.length c, .int .i64 p.1] w fun e w' => e = .returned (.tuple #[.int .i64 (atI p.1 l : Int), .bool (hasI p.1 l)]) ∧ Below w.heap.size w w' := by
  obtain ⟨B, hB⟩ : ∃ B, w.heap.size = B := ⟨_, rfl⟩
  rw [hB] at hr ⊢
  have hB2 := Nat.le_of_eq hB
  have hB3 := Nat.le_of_eq hB.symm
  replace hB := Lib.hid hB
  replace hr := Lib.hid hr
  go_enter Tryd.func48, Tryd.ntmps48
  go_wp2_with fail
  go_loopw [7, 8] (fun vi vj wr => ∃ i j : Nat, vi = .int .i64 (i : Int) ∧ vj = .int .i64 (j : Int) ∧ i ≤ j ∧ j ≤ l.length ∧ bsr (fun h => decide (l[h]!.1 < p.1)) i j = atI p.1 l ∧ Below B w wr) (fun vi vj _ => (intOf vj).toNat - (intOf vi).toNat)
  case atStart => exact ⟨0, l.length, rfl, rfl, Nat.zero_le _, Nat.le_refl _, rfl, Below.refl _ _⟩
  case round =>
    obtain ⟨i, j, rfl, rfl, hij, hj, hbs, hbw⟩ := hrel
    have hz := hbw.size
    replace hbs := Lib.hid hbs
    by_cases hlt : i < j
    · have hlz : (i : Int) < (j : Int) := by omega
      have emid : ((i : Int) + (j : Int)) / 2 = (((i + j) / 2 : Nat) : Int) := by omega
      obtain ⟨h, hh⟩ : ∃ h, (i + j) / 2 = h := ⟨_, rfl⟩
      rw [hh] at emid
      have hih : i ≤ h := by omega
      have hhj : h < j := by omega
      have i0 : (0 : Int) ≤ (h : Int) := by omega
      have i1 : (h : Int) < (l.length : Int) := by omega
      replace hh := Lib.hid hh
      obtain ⟨x, hx⟩ := get_some (show h < l.length by omega)
      obtain ⟨g, o, rfl, hg, hq⟩ := hr.out.int (by omega)
      have q0 : wr.cell? ⟨g, o + h, none⟩ = some (.int .i64 x.1) := (hbw.cell (p := ⟨g, o + h, none⟩) hg).trans (hq h x hx)
      clear hq
      have hbang : Hid (l[h]! = x) := Lib.hid (get_bang hx)
      replace hx := Lib.hid hx
      have hcl : ∀ W, Calls Tryd.prog 71 #[.int .i64 x.1, .int .i64 p.1] W fun e w' => e = .returned (.bool (decide (x.1 < p.1))) ∧ w' = W := fun W => Tryd.cmp_Less_int2 x.1 p.1 W
      by_cases hneg : x.1 < p.1
      · have hD := decide_eq_true hneg
        have hyes : Hid (bsr (fun h => decide (l[h]!.1 < p.1)) (h + 1) j = atI p.1 l) := Lib.hid (by rw [← hbs.out, bsr_yes hlt (by rw [hh.out]; show decide (l[h]!.1 < p.1) = true; rw [hbang.out]; exact decide_eq_true hneg), hh.out])
        rw [hD] at hcl
        replace hcl := Lib.hid hcl
        go_wp2_with (go_at_call 71; go_must (refine (hcl.out _).mono ?_; rintro e w2 ⟨rfl, rfl⟩))
        go_roundw
        case rel => exact ⟨h + 1, j, by go_num, rfl, by omega, hj, hyes.out, hbw⟩
        case measure => simp [intOf]; omega
      · have hD := decide_eq_false hneg
        have hno : Hid (bsr (fun h => decide (l[h]!.1 < p.1)) i h = atI p.1 l) := Lib.hid (by rw [← hbs.out, bsr_no hlt (by rw [hh.out]; show decide (l[h]!.1 < p.1) = false; rw [hbang.out]; exact decide_eq_false hneg), hh.out])
        rw [hD] at hcl
        replace hcl := Lib.hid hcl
        go_wp2_with (go_at_call 71; go_must (refine (hcl.out _).mono ?_; rintro e w2 ⟨rfl, rfl⟩))
        go_roundw
        case rel => exact ⟨i, h, rfl, rfl, hih, by omega, hno.out, hbw⟩
        case measure => simp [intOf]; omega
    · have hlz : ¬ (i : Int) < (j : Int) := by omega
      have hat : Hid (atI p.1 l = i) := Lib.hid (by rw [← hbs.out, bsr_end hlt])
      by_cases hil : i < l.length
      · have i0 : (0 : Int) ≤ (i : Int) := by omega
        have i1 : (i : Int) < (l.length : Int) := by omega
        obtain ⟨x, hx⟩ := get_some (show i < l.length by omega)
        obtain ⟨g, o, rfl, hg, hq⟩ := hr.out.int (by omega)
        have q0 : wr.cell? ⟨g, o + i, none⟩ = some (.int .i64 x.1) := (hbw.cell (p := ⟨g, o + i, none⟩) hg).trans (hq i x hx)
        clear hq
        have hbang : Hid (l[i]! = x) := Lib.hid (get_bang hx)
        replace hx := Lib.hid hx
        have hcl : ∀ W, Calls Tryd.prog 71 #[.int .i64 x.1, .int .i64 p.1] W fun e w' => e = .returned (.bool (decide (x.1 < p.1))) ∧ w' = W := fun W => Tryd.cmp_Less_int2 x.1 p.1 W
        have hfin : Hid (hasI p.1 l = (x.1 == p.1)) := Lib.hid (by unfold hasI; rw [hat.out, hbang.out, decide_eq_true hil, Bool.true_and]; by_cases h : x.1 = p.1 <;> simp [h])
        clear hcl
        by_cases hxp : x.1 = p.1
        · have hb : (x.1 == p.1) = true := by rw [beq_iff_eq]; exact hxp
          have hfi2 := Lib.hid (hfin.out.trans hb)
          clear hfin
          replace hxp := Lib.hid hxp
          go_wp2_with (go_at_call 72; go_must (refine (Tryd.slices_isNaN_int2 _ _).mono ?_; rintro e w2 ⟨rfl, rfl⟩))
          exact bodyPost_ret (v := .tuple #[.int .i64 (i : Int), .bool true]) (by simp [results, Tryd.results48, go_sem]) rfl ⟨by rw [hat.out, hfi2.out], hbw⟩
        have hb : (x.1 == p.1) = false := by rw [beq_eq_false_iff_ne]; exact hxp
        have hfi2 := Lib.hid (hfin.out.trans hb)
        clear hfin
        replace hxp := Lib.hid hxp
        go_wp2_with (go_at_call 72; go_must (refine (Tryd.slices_isNaN_int2 _ _).mono ?_; rintro e w2 ⟨rfl, rfl⟩))
        exact bodyPost_ret (v := .tuple #[.int .i64 (i : Int), .bool false]) (by simp [results, Tryd.results48, go_sem]) rfl ⟨by rw [hat.out, hfi2.out], hbw⟩
      · have i1 : ¬ (i : Int) < (l.length : Int) := by omega
        have hfin : Hid (hasI p.1 l = false) := Lib.hid (by unfold hasI; rw [hat.out, decide_eq_false hil]; rfl)
        go_wp2_with fail
        exact bodyPost_ret (v := .tuple #[.int .i64 (i : Int), .bool false]) (by simp [results, Tryd.results48, go_sem]) rfl ⟨by rw [hat.out, hfin.out], hbw⟩
end Go.Proofs.YtnahbfmbmpoljaaDoor
