/-
  The walks of workers: where a token is, by the program.
  The walks of workers: a token inserted into a list.
  The walks of workers: a copied worker's lists lie apart; where a token is among ascending ones.
-/
import Derived.Test.YtnahbfmbmpoljaaGreatDoorWk7
import Derived.Test.YtnahbfmbmpoljaaGreatDoorWk13
import Derived.Test.YtnahbfmbmpoljaaGreatDoorGrK
import Derived.Test.YtnahbfmbmpoljaaGreatDoorWk5
import Derived.Deep.RegionHeld3

namespace Go.Proofs.YtnahbfmbmpoljaaGreatDoor
open Go.RowKit

def atI (t : Int) (l : List I64) : Nat := bsr (fun h => decide (l[h]!.1 < t)) 0 l.length
def hasI (t : Int) (l : List I64) : Bool := decide (atI t l < l.length) && decide (l[atI t l]!.1 = t)
theorem atI_le (t : Int) (l : List I64) : atI t l ≤ l.length := (bsr_range _ _ _ _ rfl (Nat.zero_le _)).2
set_option maxRecDepth 100000 in
set_option maxHeartbeats 4000000 in
theorem bsi_any (A : Option Addr) (c : Nat) (l : List I64) (p : I64) (w : World) (hr : Rw iE 1 w w.heap.size A l) (hn : l.length ≤ 4611686018427387904) :
    Calls Tryz.prog 16 #[.slice A l.length c, .int .i64 p.1] w fun e w' => e = .returned (.tuple #[.int .i64 (atI p.1 l : Int), .bool (hasI p.1 l)]) ∧ Below w.heap.size w w' := by
  obtain ⟨B, hB⟩ : ∃ B, w.heap.size = B := ⟨_, rfl⟩
  rw [hB] at hr ⊢
  have hB2 := Nat.le_of_eq hB
  have hB3 := Nat.le_of_eq hB.symm
  replace hB := Lib.hid hB
  replace hr := Lib.hid hr
  go_enter Tryz.func16, Tryz.ntmps16
  go_wp2_with fail
  go_loopw [7, 8] (fun vi vj wr => ∃ i j : Nat, vi = .int .i64 (i : Int) ∧ vj = .int .i64 (j : Int) ∧ i ≤ j ∧ j ≤ l.length ∧ bsr (fun h => decide (l[h]!.1 < p.1)) i j = atI p.1 l ∧ Below B w wr) (fun vi vj _ => (intOf vj).toNat - (intOf vi).toNat)
  case atStart => exact ⟨0, l.length, rfl, rfl, Nat.zero_le _, Nat.le_refl _, rfl, Below.refl _ _⟩
  case round =>
    obtain ⟨i, j, rfl, rfl, hij, hj, hbs, hbw⟩ := hrel
    have hz := hbw.size
    replace hbs := Lib.hid hbs
    by_cases hlt : i < j
    · have hlz : (i : Int) < (j : Int) := by omega
      have emid : ((i : Int) + (j : Int)) / 2 = (((i + j) / 2 : Nat) : Int) := by omega
      obtain ⟨h, hh⟩ : ∃ h, (i + j) / 2 = h := ⟨_, rfl⟩
      rw [hh] at emid
      have hih : i ≤ h := by omega
      have hhj : h < j := by omega
      have i0 : (0 : Int) ≤ (h : Int) := by omega
      have i1 : (h : Int) < (l.length : Int) := by omega
      replace hh := Lib.hid hh
      obtain ⟨x, hx⟩ := get_some (show h < l.length by omega)
      obtain ⟨g, o, rfl, hg, hq⟩ := hr.out.int (by omega)
      have q0 : wr.cell? ⟨g, o + h, none⟩ = some (.int .i64 x.1) := (hbw.cell (p := ⟨g, o + h, none⟩) hg).trans (hq h x hx)
      clear hq
      have hbang : Hid (l[h]! = x) := Lib.hid (get_bang hx)
      replace hx := Lib.hid hx
      have hcl : ∀ W, Calls Tryz.prog 37 #[.int .i64 x.1, .int .i64 p.1] W fun e w' => e = .returned (.bool (decide (x.1 < p.1))) ∧ w' = W := fun W => Tryz.cmp_Less_int2 x.1 p.1 W
      by_cases hneg : x.1 < p.1
      · have hD := decide_eq_true hneg
        have hyes : Hid (bsr (fun h => decide (l[h]!.1 < p.1)) (h + 1) j = atI p.1 l) := Lib.hid (by rw [← hbs.out, bsr_yes hlt (by rw [hh.out]; show decide (l[h]!.1 < p.1) = true; rw [hbang.out]; exact decide_eq_true hneg), hh.out])
        rw [hD] at hcl
        replace hcl := Lib.hid hcl
        go_wp2_with (go_at_call 37; go_must (refine (hcl.out _).mono ?_; rintro e w2 ⟨rfl, rfl⟩))
        go_roundw
        case rel => exact ⟨h + 1, j, by go_num, rfl, by omega, hj, hyes.out, hbw⟩
        case measure => simp [intOf]; omega
      · have hD := decide_eq_false hneg
        have hno : Hid (bsr (fun h => decide (l[h]!.1 < p.1)) i h = atI p.1 l) := Lib.hid (by rw [← hbs.out, bsr_no hlt (by rw [hh.out]; show decide (l[h]!.1 < p.1) = false; rw [hbang.out]; exact decide_eq_false hneg), hh.out])
        rw [hD] at hcl
        replace hcl := Lib.hid hcl
        go_wp2_with (go_at_call 37; go_must (refine (hcl.out _).mono ?_; rintro e w2 ⟨rfl, rfl⟩))
        go_roundw
        case rel => exact ⟨i, h, rfl, rfl, hih, by omega, hno.out, hbw⟩
        case measure => simp [intOf]; omega
    · have hlz : ¬ (i : Int) < (j : Int) := by omega
      have hat : Hid (atI p.1 l = i) := Lib.hid (by rw [← hbs.out, bsr_end hlt])
      by_cases hil : i < l.length
      · have i0 : (0 : Int) ≤ (i : Int) := by omega
        have i1 : (i : Int) < (l.length : Int) := by omega
        obtain ⟨x, hx⟩ := get_some (show i < l.length by omega)
        obtain ⟨g, o, rfl, hg, hq⟩ := hr.out.int (by omega)
        have q0 : wr.cell? ⟨g, o + i, none⟩ = some (.int .i64 x.1) := (hbw.cell (p := ⟨g, o + i, none⟩) hg).trans (hq i x hx)
        clear hq
        have hbang : Hid (l[i]! = x) := Lib.hid (get_bang hx)
        replace hx := Lib.hid hx
        have hcl : ∀ W, Calls Tryz.prog 37 #[.int .i64 x.1, .int .i64 p.1] W fun e w' => e = .returned (.bool (decide (x.1 < p.1))) ∧ w' = W := fun W => Tryz.cmp_Less_int2 x.1 p.1 W
        have hfin : Hid (hasI p.1 l = (x.1 == p.1)) := Lib.hid (by unfold hasI; rw [hat.out, hbang.out, decide_eq_true hil, Bool.true_and]; by_cases h : x.1 = p.1 <;> simp [h])
        clear hcl
        by_cases hxp : x.1 = p.1
        · have hb : (x.1 == p.1) = true := by rw [beq_iff_eq]; exact hxp
          have hfi2 := Lib.hid (hfin.out.trans hb)
          clear hfin
          replace hxp := Lib.hid hxp
          go_wp2_with (go_at_call 38; go_must (refine (Tryz.slices_isNaN_int2 _ _).mono ?_; rintro e w2 ⟨rfl, rfl⟩))
          exact bodyPost_ret (v := .tuple #[.int .i64 (i : Int), .bool true]) (by simp [results, Tryz.results16, go_sem]) rfl ⟨by rw [hat.out, hfi2.out], hbw⟩
        have hb : (x.1 == p.1) = false := by rw [beq_eq_false_iff_ne]; exact hxp
        have hfi2 := Lib.hid (hfin.out.trans hb)
        clear hfin
        replace hxp := Lib.hid hxp
        go_wp2_with (go_at_call 38; go_must (refine (Tryz.slices_isNaN_int2 _ _).mono ?_; rintro e w2 ⟨rfl, rfl⟩))
        exact bodyPost_ret (v := .tuple #[.int .i64 (i : Int), .bool false]) (by simp [results, Tryz.results16, go_sem]) rfl ⟨by rw [hat.out, hfi2.out], hbw⟩
      · have i1 : ¬ (i : Int) < (l.length : Int) := by omega
        have hfin : Hid (hasI p.1 l = false) := Lib.hid (by unfold hasI; rw [hat.out, decide_eq_false hil]; rfl)
        go_wp2_with fail
        exact bodyPost_ret (v := .tuple #[.int .i64 (i : Int), .bool false]) (by simp [results, Tryz.results16, go_sem]) rfl ⟨by rw [hat.out, hfin.out], hbw⟩
end Go.Proofs.YtnahbfmbmpoljaaGreatDoor

namespace Go.Proofs.YtnahbfmbmpoljaaGreatDoor
open Go.RowKit

theorem int_info : (Tryz.prog.info? 3).map (fun i => (i.zero, i.size, i.bytes)) = some (some (Value.int .i64 0), 1, 8) := by kernel_rfl
theorem iins_ext (vb g lb cb o : Nat) (hne : vb ≠ g) (cb1 cb2 : Array Value) (w : World) (h1 : w.heap[vb]? = some (.cells cb1 3 (0, 0))) (h2 : w.heap[g]? = some (.cells cb2 3 (0, 0))) (hk : cb2.size ≠ 0) :
    (callFunc 42 #[.slice (some ⟨vb, 0, none⟩) 1 1, .slice (some ⟨g, o, none⟩) lb cb]).run Tryz.prog w = .ok (.value (.bool false)) w := by
  rw [run_callFunc_extern Tryz.func42 (by kernel_rfl) (by kernel_rfl) (by kernel_rfl) (e := Extern.SlicesOverlaps.overlaps #[23, 23] #[4]) (by kernel_rfl),
    Lib.run_overlaps_apart w 23 4 3 Tryz.underlying23 1 (fun w => by kernel_rfl) ⟨vb, 0, none⟩ ⟨g, o, none⟩ 1 1 lb cb hne 3 3 cb1.size cb2.size (by simp [World.shape?, h1]) (by simp [World.shape?, h2]) hk (by simp [World.frozen?, h1]) (by simp [World.frozen?, h1])]
  rfl
set_option maxHeartbeats 4000000 in
set_option maxRecDepth 100000 in
theorem iins_end (v : Value) (l : List I64) (H : Nat) (w : World) (hown : Own iE 1 3 w H v l) (x : I64) (vb : Nat) (hvb : w.heap[vb]? = some (.cells (iE x).toArray 3 (0, 0))) (hH : H ≤ w.heap.size) (hn : l.length ≤ 1000000) :
    Calls Tryz.prog 18 #[v, .int .i64 l.length, .slice (some ⟨vb, 0, none⟩) 1 1] w fun e w' => ∃ v', e = .returned v' ∧ Own iE 1 3 w' H v' (l ++ [x]) ∧ Below H w w' ∧ w.grownBy w' v.ownBlock ∧ (v'.ownBlock = v.ownBlock ∨ v'.ownBlock = some w.heap.size) := by
  obtain ⟨i0, hi0, hz0, hz1, hz2⟩ := info_parts int_info
  have hlt := hown.lt
  obtain ⟨A, c, rfl, hc1, hc2, _⟩ := hown.form
  have hvbs : vb < w.heap.size := by
    rcases Nat.lt_or_ge vb w.heap.size with h | h
    · exact h
    · rw [Array.getElem?_eq_none h] at hvb; cases hvb
  have hx : Rw iE 1 w w.heap.size (some ⟨vb, 0, none⟩) [x] := fun _ => ⟨vb, 0, rfl, hvbs, fun a y hy j u hu => by
    rcases a with _ | a
    · simp at hy; subst hy
      rw [cell_of_row w _ _ _ _ (0, 0) hvb]
      simpa using hu
    · simp at hy⟩
  have hmx : c ≤ 9223372036854775807 := by unfold maxLen at hc2; omega
  replace hvb := Lib.hid hvb
  obtain ⟨n, hn2⟩ : ∃ n, l.length = n := ⟨_, rfl⟩
  have hnn : n ≤ 1000000 := by omega
  rw [hn2] at hown hc1 hlt ⊢
  replace hn2 := Lib.hid hn2
  clear hn
  go_enter Tryz.func18, Tryz.ntmps18
  go_wp2_with (at_builtin
               go_must (refine wpList_append_rw _ rfl (.tmp 23) (.tmp 24) _ rfl iE_len iE_one H 3 i0 _ 8 Tryz.underlying23 hi0 hz0 hz1 hz2 rfl (by omega) (.slice A n c) l rfl (by rw [← hn2.out] at hown ⊢; exact hown) _ (some ⟨vb, 0, none⟩) 1 1 [x] rfl rfl hx (by rw [hn2.out]; simp [maxLen]; omega) (by rw [hn2.out]; omega) hH ?_)
               intro v1 w1 hown1 hg1 hat1)
  all_goals go_ret
  all_goals exact ⟨v1, rfl, hown1, (Below.refl _ _).grown hg1 (by omega) (fun g hg => (hlt g hg).1), by cases A <;> exact hg1, by cases A <;> exact hat1⟩
set_option maxHeartbeats 4000000 in
set_option maxRecDepth 100000 in
theorem iins_shift (g cap i : Nat) (l : List I64) (H : Nat) (w : World) (hown : Own iE 1 3 w H (.slice (some ⟨g, 0, none⟩) l.length cap) l) (hi : i < l.length) (hroom : l.length + 1 ≤ cap) (x : I64) (vb : Nat) (hvb : w.heap[vb]? = some (.cells (iE x).toArray 3 (0, 0))) (hne : vb ≠ g) (hn : l.length ≤ 1000000) :
    Calls Tryz.prog 18 #[.slice (some ⟨g, 0, none⟩) l.length cap, .int .i64 i, .slice (some ⟨vb, 0, none⟩) 1 1] w fun e w' => ∃ v', e = .returned v' ∧ Own iE 1 3 w' H v' (l.take i ++ x :: l.drop i) ∧ Below H w w' ∧ w.grownBy w' (some g) ∧ (v'.ownBlock = some g ∨ v'.ownBlock = some w.heap.size) := by
  obtain ⟨i0, hi0, hz0, hz1, hz2⟩ := info_parts int_info
  have hsz : (Tryz.prog.info? 3).map (·.size) = some 1 := by rw [hi0]; simp [hz1]
  obtain ⟨hHg, _, hm, cur, hg, hs⟩ := own_block hown
  have hcs : cur.size ≠ 0 := by omega
  have hov := fun lb cb o => iins_ext vb g lb cb o hne _ cur w hvb hg hcs
  obtain ⟨hnew, hbel, hex⟩ := shift_row iE_len (x := x) hown (Nat.le_of_lt hi) hroom
  simp only [Nat.mul_one] at hnew hbel hex
  have hgrw := grown_shift w g (i + 1) i ((l.drop i).flatMap iE) (iE x)
  have hmx : cap ≤ 9223372036854775807 := by unfold maxLen at hm; omega
  have hcell : ∀ t u, (l.flatMap iE)[t]? = some u → w.cell? ⟨g, t, none⟩ = some u := fun t u hu => by
    have ht := (List.getElem?_eq_some_iff.1 hu).1
    rw [flat_len iE_len] at ht
    rw [hown.cellAt t ht]; exact hu
  have hfro : ∀ t, w.frozen? ⟨g, t, none⟩ = false := fun t => hown.frozenAt t
  have hdl : ((l.drop i).flatMap iE).length = (l.length - i) := by rw [flat_len iE_len, List.length_drop, Nat.mul_one]
  obtain ⟨n, hn2⟩ : ∃ n, l.length = n := ⟨_, rfl⟩
  have hnn : n ≤ 1000000 := by omega
  rw [hn2] at hown hex hnew hroom hi hdl ⊢
  obtain ⟨W1, hW1⟩ : ∃ W1, W1 = w.drew.setCells g (i + 1) ((l.drop i).flatMap iE) := ⟨_, rfl⟩
  have hmn1 : Nat.min (n + 1 - i) (n - i) = n - i := by simp only [Nat.min_def]; split <;> omega
  have hmn2 : Nat.min 1 (n + 1 - i) = 1 := by simp only [Nat.min_def]; split <;> omega
  have hcp1 : ∀ ty dc sc, (Builtin.copy_ #[23, 23] ty #[.slice (some ⟨g, (i + 1), none⟩) (n - i) dc, .slice (some ⟨g, i, none⟩) (n + 1 - i) sc]).run Tryz.prog w.drew = .ok (goInt ((n - i : Nat) : Int)) W1 := fun ty dc sc => by
    rw [hW1, run_copy_k w.drew _ _ ty 3 g (i + 1) (n - i) dc ⟨g, i, none⟩ (n + 1 - i) sc ((l.drop i).flatMap iE) Tryz.underlying23 hsz (by rw [hdl, hmn1, Nat.mul_one])
      (fun j v hj => by rw [addr_plain]; exact (by have := hcell _ _ (drop_cells iE_len hj); rwa [Nat.mul_one] at this))
      (fun j hj => (hex _ (by omega)).1) (fun j hj => hfro _) (mem_flat_one iE_one _), hmn1]
  have hcp2 : ∀ (W : World), (∀ a, W.cell? a = W1.cell? a) → (∀ a, W.frozen? a = W1.frozen? a) → ∀ ty dc, (Builtin.copy_ #[23, 23] ty #[.slice (some ⟨g, i, none⟩) (n + 1 - i) dc, .slice (some ⟨vb, 0, none⟩) 1 1]).run Tryz.prog W = .ok (goInt ((1 : Nat) : Int)) (W.setCells g i (iE x)) := fun W hWc hWf ty dc => by
    rw [run_copy_k W _ _ ty 3 g i (n + 1 - i) dc ⟨vb, 0, none⟩ 1 1 (iE x) Tryz.underlying23 hsz (by rw [iE_len, hmn2])
      (fun j v hj => by
        rw [addr_plain, hWc, hW1, World.cell?_setCells_out g _ _ _ _ (fun h _ => absurd h hne)]
        show w.cell? _ = _
        rw [cell_of_row w _ _ _ _ (0, 0) hvb]
        simpa using hj)
      (fun j hj => by rw [hWc, hW1]; rw [iE_len] at hj; exact (hex _ (by omega)).2) (fun j hj => by rw [hWf, hW1, World.frozen?_setCells]; exact hfro _) (iE_one _), hmn2]
  rw [← hW1] at hnew hbel hgrw
  replace hW1 := Lib.hid hW1
  replace hn2 := Lib.hid hn2
  replace hown := Lib.hid hown
  replace hg := Lib.hid hg
  replace hvb := Lib.hid hvb
  replace hs := Lib.hid hs
  replace hdl := Lib.hid hdl
  replace hnew := Lib.hid hnew
  replace hbel := Lib.hid hbel
  replace hgrw := Lib.hid hgrw
  clear hex hcell hn hmn1 hmn2
  have hw1 : IntKind.i64.wrap ((i : Int) + 1) = (i : Int) + 1 := IntWalk.i64_in _ (by omega)
  have hw2 : IntKind.i64.wrap ((n : Int) + 1) = (n : Int) + 1 := IntWalk.i64_in _ (by omega)
  have hb0 : (0 : Int) ≤ (i : Int) := by omega
  have hb1 : (0 : Int) ≤ (i : Int) + 1 := by omega
  have htn : ((i : Int) + 1).toNat = i + 1 := by omega
  have htn2 : ((n : Int) + 1).toNat = n + 1 := by omega
  have hb2 : ¬ (cap = i + 1) := by omega
  have hb3 : ¬ (cap = i) := by omega
  have hb5 : i ≤ n := by omega
  have hb6 : ¬ ((i : Int) = (n : Int)) := by omega
  have hb7 : (i : Int) ≤ (n : Int) + 1 := by omega
  have hb8 : i ≤ n + 1 := by omega
  have hmix : Tryz.prog.follows .mixedOrders = true := by kernel_rfl
  go_enter Tryz.func18, Tryz.ntmps18
  go_wp2_with (simp only [hov])
  go_region_law_o (refine step_copy_runI rfl _ _ 23 23 rfl _ _ (by simp [Act.eval, Act.put]) (by simp [Act.eval, Act.put]) (hcp1 _ _ _) ?_)
  go_wp2_with (at_builtin; refine wpList_copy_runI _ rfl _ _ 23 23 rfl _ _ rfl rfl (hcp2 _ (fun _ => rfl) (fun _ => rfl) _ _) ?_)
  go_ret
  exact ⟨_, rfl, hnew.out, hbel.out, hgrw.out, Or.inl rfl⟩
set_option maxHeartbeats 4000000 in
set_option maxRecDepth 100000 in
theorem iins_grow (g cap i : Nat) (l : List I64) (H : Nat) (w : World) (hown : Own iE 1 3 w H (.slice (some ⟨g, 0, none⟩) l.length cap) l) (hi : i < l.length) (hroom : cap < l.length + 1) (x : I64) (vb : Nat) (hvb : w.heap[vb]? = some (.cells (iE x).toArray 3 (0, 0))) (hH : H ≤ w.heap.size) (hn : l.length ≤ 1000000) :
    Calls Tryz.prog 18 #[.slice (some ⟨g, 0, none⟩) l.length cap, .int .i64 i, .slice (some ⟨vb, 0, none⟩) 1 1] w fun e w' => ∃ v', e = .returned v' ∧ Own iE 1 3 w' H v' (l.take i ++ x :: l.drop i) ∧ Below H w w' ∧ w.grownBy w' (some g) ∧ (v'.ownBlock = some g ∨ v'.ownBlock = some w.heap.size) := by
  obtain ⟨i0, hi0, hz0, hz1, hz2⟩ := info_parts int_info
  have hsz : (Tryz.prog.info? 3).map (·.size) = some 1 := by rw [hi0]; simp [hz1]
  obtain ⟨hHg, hnc, hm, cur, hg, hs⟩ := own_block hown
  have hcell : ∀ t u, (l.flatMap iE)[t]? = some u → w.cell? ⟨g, t, none⟩ = some u := fun t u hu => by
    have ht := (List.getElem?_eq_some_iff.1 hu).1
    rw [flat_len iE_len] at ht
    rw [hown.cellAt t ht]; exact hu
  have hgw : g < w.heap.size := by
    rcases Nat.lt_or_ge g w.heap.size with h | h
    · exact h
    · rw [Array.getElem?_eq_none h] at hg; cases hg
  have hvw : vb < w.heap.size := by
    rcases Nat.lt_or_ge vb w.heap.size with h | h
    · exact h
    · rw [Array.getElem?_eq_none h] at hvb; cases hvb
  have hdl : ((l.drop i).flatMap iE).length = (l.length - i) := by rw [flat_len iE_len, List.length_drop, Nat.mul_one]
  have htl : ((l.take i).flatMap iE).length = i := by rw [flat_len iE_len, List.length_take, Nat.min_eq_left (Nat.le_of_lt hi), Nat.mul_one]
  have htk : ∀ (t : Nat) (u : Value), ((l.take i).flatMap iE)[t]? = some u → w.cell? ⟨g, t, none⟩ = some u := fun t u hu => by
    refine hcell t u ?_
    have e : l.flatMap iE = (l.take i).flatMap iE ++ (l.drop i).flatMap iE := by rw [← List.flatMap_append, List.take_append_drop]
    have ht := (List.getElem?_eq_some_iff.1 hu).1
    rw [e, List.getElem?_append_left ht]; exact hu
  have hold : (Builtin.firstCells i0.size i (.slice (some ⟨g, 0, none⟩) i cap)).run Tryz.prog w.drew = .ok ((l.take i).flatMap iE).toArray w.drew := by
    rw [hz1]
    exact run_firstCells_some w.drew 1 i ⟨g, 0, none⟩ i cap _ (by rw [htl, Nat.mul_one]) (fun j v hj => by rw [addr_plain, Nat.zero_add]; exact htk j v hj)
  obtain ⟨G, hG⟩ : ∃ G, G = grownCap w (l.length + 1) cap 3 := ⟨_, rfl⟩
  have hGn : l.length + 1 ≤ G := by rw [hG]; exact grownCap_ge w _ _ _
  have hGm : G ≤ maxLen := by rw [hG]; exact grownCap_le_maxLen w _ _ _ (by unfold maxLen; omega)
  have hkk : (l.length : Int) + 1 - (i : Int) = ((l.length + 1 - i : Nat) : Int) := by omega
  have hik : i + (l.length + 1 - i) = l.length + 1 := by omega
  obtain ⟨ROW, hROW⟩ : ∃ ROW : Array Value, ROW = ((l.take i).flatMap iE).toArray ++ Builtin.zeroCells (Value.int .i64 0).cells (l.length + 1 - i) ++ Builtin.zeroCells (Value.int .i64 0).cells (G - (l.length + 1)) := ⟨_, rfl⟩
  have hRs : ROW.size = G * 1 := by
    rw [hROW, Array.size_append, Array.size_append, size_zeroCells, size_zeroCells, List.size_toArray, htl, show ((Value.int .i64 0).cells).size = 1 from rfl]
    omega
  have hRo : ∀ (t : Nat) (u : Value), ((l.take i).flatMap iE)[t]? = some u → ROW[t]? = some u := fun t u hu => by
    have ht := (List.getElem?_eq_some_iff.1 hu).1
    rw [hROW, Array.append_assoc, Array.getElem?_append_left (by simpa using ht)]
    simpa using hu
  obtain ⟨hnew, hbel, hex⟩ := grow_row iE_len (x := x) (e := 3) hH (Nat.le_of_lt hi) hGn hGm hRs hRo
  simp only [Nat.mul_one] at hnew hbel hex
  have hgrw := grown_grow w (some g) (.cells ROW 3) i (i + 1) (iE x) ((l.drop i).flatMap iE)
  have hrz : ∀ ty, (Builtin.append_ #[23, 3] ty #[.slice (some ⟨g, 0, none⟩) i cap, .int .i64 ((l.length : Int) + 1 - (i : Int))]).run Tryz.prog w = .ok (.slice (some ⟨w.heap.size, 0, none⟩) (l.length + 1) G) (w.drew.alloc (.cells ROW 3)) := fun ty => by
    have h := Lib.run_append_grow_zeros w 23 3 ty 3 i0 _ .i64 .i64 Tryz.underlying23 Tryz.underlying3 hi0 hz0 (some ⟨g, 0, none⟩) i cap _ hold (l.length + 1 - i) (by omega) (by rw [hz1]; omega) (by omega) (by omega) (by rw [hz2]; omega) (by rw [hz2, hik]; exact growslice_fits hroom (by omega))
    rw [hik] at h
    rw [hkk, hROW, hG]
    exact h
  have hmx : cap ≤ 9223372036854775807 := by unfold maxLen at hm; omega
  have hmG : G ≤ 9223372036854775807 := by unfold maxLen at hGm; omega
  obtain ⟨n, hn2⟩ : ∃ n, l.length = n := ⟨_, rfl⟩
  have hnn : n ≤ 1000000 := by omega
  rw [hn2] at hown hex hnew hroom hi hdl hrz hGn hnc ⊢
  clear hkk hik hROW hG hRs hRo hold
  have hcell2 : ∀ t u, ((l.drop i).flatMap iE)[t]? = some u → w.cell? ⟨g, i + t, none⟩ = some u := fun t u hu => (by have := hcell _ _ (drop_cells iE_len hu); rwa [Nat.mul_one] at this)
  have hmn1 : Nat.min (n - i) (n - i) = n - i := by simp only [Nat.min_def]; split <;> omega
  have hmn2 : Nat.min 1 (n + 1 - i) = 1 := by simp only [Nat.min_def]; split <;> omega
  obtain ⟨W1, hW1⟩ : ∃ W1, W1 = w.drew.alloc (.cells ROW 3) := ⟨_, rfl⟩
  have hOb : ∀ b j, b < w.heap.size → W1.cell? ⟨b, j, none⟩ = w.cell? ⟨b, j, none⟩ := fun b j h => by rw [hW1, World.cell?_alloc_past (w := w.drew) _ b j h]; rfl
  have hNf : ∀ j, W1.frozen? ⟨w.heap.size, j, none⟩ = false := fun j => by rw [hW1]; exact World.frozen?_alloc_at (w := w.drew) ROW _ w.heap.size j rfl
  have hcpA : ∀ (W : World), (∀ a, W.cell? a = W1.cell? a) → (∀ a, W.frozen? a = W1.frozen? a) → ∀ ty dc, (Builtin.copy_ #[23, 23] ty #[.slice (some ⟨w.heap.size, i, none⟩) (n + 1 - i) dc, .slice (some ⟨vb, 0, none⟩) 1 1]).run Tryz.prog W = .ok (goInt ((1 : Nat) : Int)) (W.setCells w.heap.size i (iE x)) := fun W hWc hWf ty dc => by
    rw [run_copy_k W _ _ ty 3 w.heap.size i (n + 1 - i) dc ⟨vb, 0, none⟩ 1 1 (iE x) Tryz.underlying23 hsz (by rw [iE_len, hmn2])
      (fun j v hj => by
        rw [addr_plain, hWc, hOb vb _ hvw, cell_of_row w _ _ _ _ (0, 0) hvb]
        simpa using hj)
      (fun j hj => by rw [hWc, hW1]; rw [iE_len] at hj; exact (hex _ (by omega)).1) (fun j hj => by rw [hWf]; exact hNf _) (iE_one _), hmn2]
  have hcpB : ∀ (W : World), (∀ a, W.cell? a = (W1.setCells w.heap.size i (iE x)).cell? a) → (∀ a, W.frozen? a = (W1.setCells w.heap.size i (iE x)).frozen? a) → ∀ ty dc sc, (Builtin.copy_ #[23, 23] ty #[.slice (some ⟨w.heap.size, (i + 1), none⟩) (n - i) dc, .slice (some ⟨g, i, none⟩) (n - i) sc]).run Tryz.prog W = .ok (goInt ((n - i : Nat) : Int)) (W.setCells w.heap.size (i + 1) ((l.drop i).flatMap iE)) := fun W hWc hWf ty dc sc => by
    rw [run_copy_k W _ _ ty 3 w.heap.size (i + 1) (n - i) dc ⟨g, i, none⟩ (n - i) sc ((l.drop i).flatMap iE) Tryz.underlying23 hsz (by rw [hdl, hmn1, Nat.mul_one])
      (fun j v hj => by
        rw [addr_plain, hWc, World.cell?_setCells_out w.heap.size _ _ _ _ (fun h _ => absurd h (by show g ≠ _; omega)), hOb g _ hgw]
        exact hcell2 j v hj)
      (fun j hj => by rw [hWc, hW1, ← drew_cell]; exact (hex _ (by omega)).2) (fun j hj => by rw [hWf, World.frozen?_setCells]; exact hNf _) (mem_flat_one iE_one _), hmn1]
  subst hW1
  have hE1 : ∀ a, ((w.alloc (.cells ROW 3)).drew).cell? a = (w.drew.alloc (.cells ROW 3)).cell? a := fun a => rfl
  have hE2 : ∀ a, ((w.alloc (.cells ROW 3)).drew).frozen? a = (w.drew.alloc (.cells ROW 3)).frozen? a := fun a => rfl
  have hF1 : ∀ a, (((w.alloc (.cells ROW 3)).drew.setCells w.heap.size i (iE x)).drew).cell? a = ((w.drew.alloc (.cells ROW 3)).setCells w.heap.size i (iE x)).cell? a := fun a => drew_cell _ a
  have hF2 : ∀ a, (((w.alloc (.cells ROW 3)).drew.setCells w.heap.size i (iE x)).drew).frozen? a = ((w.drew.alloc (.cells ROW 3)).setCells w.heap.size i (iE x)).frozen? a := fun a => drew_frozen _ a
  replace hn2 := Lib.hid hn2
  replace hown := Lib.hid hown
  replace hg := Lib.hid hg
  replace hvb := Lib.hid hvb
  replace hs := Lib.hid hs
  replace hdl := Lib.hid hdl
  replace htl := Lib.hid htl
  replace hnew := Lib.hid hnew
  replace hbel := Lib.hid hbel
  replace hgrw := Lib.hid hgrw
  clear hex hcell hcell2 htk hn hmn1 hmn2 hOb hNf
  have hw1 : IntKind.i64.wrap ((i : Int) + 1) = (i : Int) + 1 := IntWalk.i64_in _ (by omega)
  have hw2 : IntKind.i64.wrap ((n : Int) + 1) = (n : Int) + 1 := IntWalk.i64_in _ (by omega)
  have hw3 : IntKind.i64.wrap ((n : Int) + 1 - (i : Int)) = (n : Int) + 1 - (i : Int) := IntWalk.i64_in _ (by omega)
  have hb0 : (0 : Int) ≤ (i : Int) := by omega
  have hb1 : (0 : Int) ≤ (i : Int) + 1 := by omega
  have htn : ((i : Int) + 1).toNat = i + 1 := by omega
  have hGi : ¬ (G = i) := by omega
  have hGim : ¬ (G = i + 1) := by omega
  have hb3 : ¬ (cap = i) := by omega
  have hz3 : (cap : Int) < (n : Int) + 1 := by omega
  have hb5 : i ≤ n := by omega
  have hb6 : ¬ ((i : Int) = (n : Int)) := by omega
  have hb7 : (i : Int) ≤ (n : Int) + 1 := by omega
  have hb8 : i ≤ n + 1 := by omega
  have hb9 : i ≤ cap := by omega
  have hmix : Tryz.prog.follows .mixedOrders = true := by kernel_rfl
  go_enter Tryz.func18, Tryz.ntmps18
  go_wp2_with (first
    | (at_builtin; refine Lib.wpList_append_run _ rfl _ _ _ _ rfl _ _ rfl rfl _ _ (hrz _) ?_)
    | (at_builtin; refine wpList_copy_runI _ rfl _ _ 23 23 rfl _ _ rfl rfl (hcpA _ hE1 hE2 _ _) ?_))
  go_region_law_o (refine step_copy_runI rfl _ _ 23 23 rfl (.slice (some ⟨w.heap.size, (i + 1), none⟩) (n - i) (G - (i + 1))) (.slice (some ⟨g, i, none⟩) (n - i) (cap - i)) (by simp [Act.eval, Act.put]) (by simp [Act.eval, Act.put]) (hcpB _ hF1 hF2 3 (G - (i + 1)) (cap - i)) ?_)
  go_wp2_with fail
  go_ret
  exact ⟨_, rfl, hnew.out, hbel.out, hgrw.out, Or.inr rfl⟩
theorem iins_any (v : Value) (i : Nat) (l : List I64) (H : Nat) (w : World) (hown : Own iE 1 3 w H v l) (hi : i ≤ l.length) (x : I64) (vb : Nat) (hvb : w.heap[vb]? = some (.cells (iE x).toArray 3 (0, 0))) (hne : v.ownBlock ≠ some vb) (hH : H ≤ w.heap.size) (hn : l.length ≤ 1000000) :
    Calls Tryz.prog 18 #[v, .int .i64 i, .slice (some ⟨vb, 0, none⟩) 1 1] w fun e w' => ∃ v', e = .returned v' ∧ Own iE 1 3 w' H v' (l.take i ++ x :: l.drop i) ∧ Below H w w' ∧ w.grownBy w' v.ownBlock ∧ (v'.ownBlock = v.ownBlock ∨ v'.ownBlock = some w.heap.size) := by
  rcases Nat.lt_or_eq_of_le hi with h | h
  · rcases hown.2 with ⟨rfl, h0⟩ | ⟨g, cap, cur, rfl, _⟩
    · omega
    · by_cases hr : l.length + 1 ≤ cap
      · exact iins_shift g cap i l H w hown h hr x vb hvb (fun e => hne (by rw [e]; rfl)) hn
      · exact iins_grow g cap i l H w hown h (by omega) x vb hvb hH hn
  · subst h
    rw [List.take_length, List.drop_length]
    exact iins_end v l H w hown x vb hvb hH hn
end Go.Proofs.YtnahbfmbmpoljaaGreatDoor

namespace Go.Proofs.YtnahbfmbmpoljaaGreatDoor
open Go.RowKit

set_option maxRecDepth 100000 in
set_option maxHeartbeats 4000000 in
theorem copied_dis (x : Work) (w : World) (hx : LabWork w w.heap.size x) (hn : x.labs.length ≤ 1000000 ∧ x.toks.length ≤ 1000000) :
    Calls Tryz.prog 15 #[(.agg #[.string x.id.1, .slice x.labsA x.labs.length x.labsC, .int .i64 x.trust.1, .int .i64 x.slots.1, .bool x.pre, .int .i64 x.phase.1, .int .i64 x.beat.1, .int .i64 x.till.1, .slice x.toksA x.toks.length x.toksC])] w fun e w' => ∃ A C A2 C2, e = .returned (.agg (workE (atW x A C A2 C2)).toArray) ∧ OwnW w' w.heap.size (atW x A C A2 C2) ∧ (∀ g, (Value.slice A x.labs.length C).ownBlock = some g → (Value.slice A2 x.toks.length C2).ownBlock ≠ some g) ∧ Below w.heap.size w w' := by
  have hcs := Lib.hid fun W (hb : Below w.heap.size w W) => clones_any x.labsA x.labsC x.labs W ((hx.2.2.1.below hb (Nat.le_refl _)).more hb.size) hn.1
  have hci := Lib.hid fun W (hb : Below w.heap.size w W) => clonei_any x.toksA x.toksC x.toks W ((hx.2.2.2.2.2.below hb (Nat.le_refl _)).more hb.size) hn.2
  clear hx hn
  go_enter Tryz.func15, Tryz.ntmps15
  go_wp2_with fail
  go_region_with ((first
    | (go_at_call 35; go_must (refine (hcs.out _ (by repeat (first | (with_reducible exact Below.refl _ _) | (with_reducible refine Below.drew ?_) | (with_reducible refine below_drewN ?_ _) | ((with_reducible refine Below.alloc ?_ ?_ _); rotate_left; focus ((try simp) <;> omega)) | ((with_reducible refine Below.setCell ?_ ?_ _); rotate_left; focus ((try simp) <;> omega)) | ((with_reducible refine Below.trans ?_ (Below.mono (by assumption) ?_)); rotate_left; focus ((try simp) <;> omega))))).mono ?_; rintro e w1 ⟨A1, C1, rfl, ho1, hb1⟩; have hz1 := hb1.size; (try simp at hz1); obtain ⟨hc1, hf1⟩ := blk_at hb1 w.heap.size (by (try simp) <;> omega); obtain ⟨hc1b, hf1b⟩ := blk_at hb1 (w.heap.size + 1) (by (try simp) <;> omega); obtain ⟨hc1c, hf1c⟩ := blk_at hb1 (w.heap.size + 1 + 1) (by (try simp) <;> omega)))
    | (go_at_call 36; go_must (refine (hci.out _ (by repeat (first | (with_reducible exact Below.refl _ _) | (with_reducible refine Below.drew ?_) | (with_reducible refine below_drewN ?_ _) | ((with_reducible refine Below.alloc ?_ ?_ _); rotate_left; focus ((try simp) <;> omega)) | ((with_reducible refine Below.setCell ?_ ?_ _); rotate_left; focus ((try simp) <;> omega)) | ((with_reducible refine Below.trans ?_ (Below.mono (by assumption) ?_)); rotate_left; focus ((try simp) <;> omega))))).mono ?_; rintro e w2 ⟨A2, C2, rfl, ho2, hb2⟩; have hz2 := hb2.size; (try simp at hz2); obtain ⟨hc2, hf2⟩ := blk_at hb2 w.heap.size (by (try simp) <;> omega); obtain ⟨hc2b, hf2b⟩ := blk_at hb2 (w.heap.size + 1) (by (try simp) <;> omega); obtain ⟨hc2c, hf2c⟩ := blk_at hb2 (w.heap.size + 1 + 1) (by (try simp) <;> omega)))))
  all_goals go_wp2_with fail
  all_goals
    refine bodyPost_ret (v := .agg (workE (atW x A1 C1 A2 C2)).toArray) (by simp [results, Tryz.results15, go_sem, workE, atW, hc1b, hc2b]) rfl ⟨A1, C1, A2, C2, rfl, ⟨?_, ?_⟩, (fun g h1 h2 => by have a1 := (ho1.lt g h1).2; have a2 := (ho2.lt g h2).1; omega), (by repeat (first | (with_reducible exact Below.refl _ _) | (with_reducible refine Below.drew ?_) | (with_reducible refine below_drewN ?_ _) | ((with_reducible refine Below.alloc ?_ ?_ _); rotate_left; focus ((try simp) <;> omega)) | ((with_reducible refine Below.setCell ?_ ?_ _); rotate_left; focus ((try simp) <;> omega)) | ((with_reducible refine Below.trans ?_ (Below.mono (by assumption) ?_)); rotate_left; focus ((try simp) <;> omega))))⟩
    · have hlt := ho1.lt
      (try simp at hlt)
      have ho := ho1.base (b' := w.heap.size) (by (try simp) <;> omega)
      show Own sE 1 _ _ _ (.slice A1 x.labs.length C1) x.labs
      (repeat (first
        | (with_reducible exact ho)
        | (refine Own.setCell ?_ (fun g hg => by have := (hlt g hg).1; show g ≠ _; (try simp) <;> omega) _)
        | (with_reducible refine Own.alloc ?_ _)
        | (with_reducible refine Own.drew ?_)
        | (with_reducible refine Own.all ?_ (by assumption))))
    · have hlt := ho2.lt
      (try simp at hlt)
      have ho := ho2.base (b' := w.heap.size) (by (try simp) <;> omega)
      show Own iE 1 _ _ _ (.slice A2 x.toks.length C2) x.toks
      (repeat (first
        | (with_reducible exact ho)
        | (refine Own.setCell ?_ (fun g hg => by have := (hlt g hg).1; show g ≠ _; (try simp) <;> omega) _)
        | (with_reducible refine Own.alloc ?_ _)
        | (with_reducible refine Own.drew ?_)
        | (with_reducible refine Own.all ?_ (by assumption))))

def AscT (l : List I64) : Prop := ∀ (i j : Nat) (x y : I64), i < j → l[i]? = some x → l[j]? = some y → x.1 < y.1
theorem toks_asc {l : List I64} (h : toksB l = true) : AscT l := by
  have hs : ∀ (k : Nat) (x y : I64), l[k + 1]? = some x → l[k]? = some y → y.1 < x.1 := fun k x y hx hy => by
    unfold toksB at h
    rw [List.all_eq_true] at h
    have := h (k + 1) (List.mem_range.2 (List.getElem?_eq_some_iff.1 hx).1)
    unfold tokB at this
    rw [get_bang hx, Nat.add_sub_cancel, get_bang hy] at this
    simp only [Bool.and_eq_true, Bool.or_eq_true, decide_eq_true_eq] at this
    omega
  intro i j
  induction j with
  | zero => intro x y hij; omega
  | succ j ih =>
    intro x y hij hx hy
    obtain ⟨z, hz⟩ := get_some (show j < l.length by have := (List.getElem?_eq_some_iff.1 hy).1; omega)
    have h1 := hs j y z hy hz
    by_cases e : i = j
    · subst e
      rw [hx] at hz
      obtain rfl : x = z := by simpa using hz
      exact h1
    · exact Int.lt_trans (ih x z (by omega) hx hz) h1
theorem atI_spec {l : List I64} (ha : AscT l) (t : Int) : (∀ j y, j < atI t l → l[j]? = some y → y.1 < t) ∧ (∀ j y, atI t l ≤ j → l[j]? = some y → ¬ y.1 < t) := by
  obtain ⟨_, h2, h3, h4⟩ := bsr_spec (fun h => decide (l[h]!.1 < t)) l.length 0 l.length (by omega) (Nat.zero_le _) (fun c c' _ hcc hc' hq => by
    obtain ⟨x, hx⟩ := get_some (show c < l.length by omega)
    obtain ⟨y, hy⟩ := get_some hc'
    simp only [get_bang hx, get_bang hy, decide_eq_false_iff_not] at hq ⊢
    rcases Nat.lt_or_eq_of_le hcc with hlt | rfl
    · have := ha c c' x y hlt hx hy; omega
    · rw [hx] at hy
      obtain rfl : x = y := by simpa using hy
      exact hq)
  refine ⟨fun j y hj hy => ?_, fun j y hj hy => ?_⟩
  · have := h3 j (Nat.zero_le _) hj
    simpa [get_bang hy] using this
  · have := h4 j hj (List.getElem?_eq_some_iff.1 hy).1
    simpa [get_bang hy] using this
theorem hasI_eq {l : List I64} (ha : AscT l) (t : Int) : hasI t l = hasT l t := by
  obtain ⟨h1, h2⟩ := atI_spec ha t
  rw [Bool.eq_iff_iff]
  unfold hasI hasT
  simp only [Bool.and_eq_true, decide_eq_true_eq, List.any_eq_true, beq_iff_eq]
  constructor
  · rintro ⟨hl, he⟩
    obtain ⟨x, hx⟩ := get_some hl
    rw [get_bang hx] at he
    exact ⟨x, List.mem_of_getElem? hx, he⟩
  · rintro ⟨x, hx, he⟩
    obtain ⟨j, hj⟩ := List.getElem?_of_mem hx
    have hjl := (List.getElem?_eq_some_iff.1 hj).1
    have hge : atI t l ≤ j := by
      rcases Nat.lt_or_ge j (atI t l) with h | h
      · have := h1 j x h hj; omega
      · exact h
    have hle : j ≤ atI t l := by
      rcases Nat.lt_or_ge (atI t l) j with h | h
      · obtain ⟨y, hy⟩ := get_some (show atI t l < l.length by omega)
        have a1 := h2 _ y (Nat.le_refl _) hy
        have a2 := ha _ _ y x h hy hj
        omega
      · exact h
    have e : atI t l = j := by omega
    rw [e, get_bang hj]
    exact ⟨hjl, he⟩
theorem plT_eq {l : List I64} (ha : AscT l) (t : Int) : plT l t = atI t l := by
  obtain ⟨h1, h2⟩ := atI_spec ha t
  have key : ∀ (l : List I64) (k : Nat), k ≤ l.length → (∀ (j : Nat) (y : I64), j < k → l[j]? = some y → y.1 < t) → (∀ y : I64, l[k]? = some y → ¬ y.1 < t) → (l.takeWhile fun y => decide (y.1 < t)).length = k := by
    intro l
    induction l with
    | nil => intro k hk _ _; simp at hk; subst hk; rfl
    | cons a l ih =>
      intro k hk ht hf
      rcases k with _ | k
      · have := hf a rfl
        rw [List.takeWhile_cons_of_neg (by simpa using this)]; rfl
      · have h0 := ht 0 a (by omega) rfl
        rw [List.takeWhile_cons_of_pos (by simpa using h0), List.length_cons, ih k (by simpa using hk) (fun j y hj hy => ht (j + 1) y (by omega) hy) (fun y hy => hf y hy)]
  exact key l _ (atI_le t l) (fun j y hj hy => h1 j y hj hy) (fun y hy => h2 _ y (Nat.le_refl _) hy)
theorem attE_1 {x : Work} {t : Int} (h : wErr x ≠ 0) : attE x t = 1 := by unfold attE; rw [if_pos h]
theorem attE_2 {x : Work} {t : Int} (h : wErr x = 0) (h2 : t < 1 ∨ 1125899906842624 < t) : attE x t = 2 := by
  unfold attE
  rw [if_neg (by omega)]
  by_cases h3 : t < 1
  · rw [if_pos h3]
  · rw [if_neg h3, if_pos (by omega)]
theorem attE_3 {x : Work} {t : Int} (h : wErr x = 0) (h2 : ¬ t < 1) (h3 : ¬ 1125899906842624 < t) : attE x t = if hasT x.toks t = true then 7 else if x.phase.1 ≠ 0 then 16 else if x.slots.1 ≤ (x.toks.length : Int) then 21 else 0 := by
  unfold attE
  rw [if_neg (by omega), if_neg h2, if_neg h3]
theorem attW_no {x : Work} {t : I64} {e : Int} (h : attE x t.1 = e) (he : e ≠ 0) : attW x t = x := by unfold attW; rw [if_pos (by rw [h]; exact he)]
theorem attW_ok {x : Work} {t : I64} (h : attE x t.1 = 0) : attW x t = { x with toks := attL x.toks t } := by unfold attW; rw [if_neg (by rw [h]; decide)]
end Go.Proofs.YtnahbfmbmpoljaaGreatDoor
