/-
  The walks of shards: the heap's step down.
-/
import Derived.Test.YtdjepnilmgembaaGreatDoorShw6
import Derived.Deep.RegionHeld3
import Derived.Deep.DrawnRows
import Derived.Lib.QuietBelow



namespace Go.Proofs.YtdjepnilmgembaaGreatDoor
open Go.RowKit
attribute [local go_sem ↓] Go.wp_at_zero Go.wp_at_succ

theorem below_grown {w w' : World} (h : Below w.heap.size w w') (row : Option Nat) : w.grownBy w' row := ⟨h.os, h.tape, h.output, h.size, fun k hk _ => h.block k hk⟩
theorem grown_drew {w w' : World} {row : Option Nat} (h : w.grownBy w' row) : w.grownBy w'.drew row := h.trans ⟨rfl, rfl, rfl, Nat.le_refl _, fun _ _ _ => rfl⟩
theorem swap_own {e : TypeId} {w : World} {H g cap n p q : Nat} {l : List HR} {a b : HR} (hown : Own hrE 3 e w H (.slice (some ⟨g, 0, none⟩) n cap) l) (hn : l.length = n) (ha : l[p]? = some a) (hb : l[q]? = some b) :
    Own hrE 3 e ((w.setCells g (p * 3) (hrE b)).setCells g (q * 3) (hrE a)) H (.slice (some ⟨g, 0, none⟩) n cap) (swapR l p q) := by
  subst hn
  have h1 := set_row hrE_len (x := b) hown (List.getElem?_eq_some_iff.1 ha).1
  have hl : (l.set p b).length = l.length := List.length_set
  rw [← hl] at h1
  have h2 := set_row hrE_len (x := a) h1 (i := q) (by rw [hl]; exact (List.getElem?_eq_some_iff.1 hb).1)
  rw [hl] at h2
  unfold swapR
  rw [get_bang ha, get_bang hb]
  exact h2
theorem own_cells {α : Type} {enc : α → List Value} {k : Nat} {e : TypeId} {w : World} {H g n cap i j : Nat} {l : List α} {x : α} {u : Value} (hk : ∀ x : α, (enc x).length = k) (h : Own enc k e w H (.slice (some ⟨g, 0, none⟩) n cap) l) (hx : l[i]? = some x) (hu : (enc x)[j]? = some u) : w.cell? ⟨g, i * k + j, none⟩ = some u ∧ w.frozen? ⟨g, i * k + j, none⟩ = false := by
  have hn : n = l.length := by
    obtain ⟨_, _, e, _⟩ := h.form
    simp only [Value.slice.injEq] at e
    exact e.2.1
  subst hn
  refine ⟨?_, h.frozenAt _⟩
  have hf := flat_at hk hx hu
  rw [h.cellAt _ (by have := (List.getElem?_eq_some_iff.1 hf).1; rwa [flat_len hk] at this)]
  exact hf
theorem meth_before (n l : Int) (A : Option Addr) (k c : Nat) (w : World) : (method 263 63 (.agg #[.int .i64 n, .int .i64 l, .slice A k c]) "pipeline/shard.before").run Tryz.prog w = .ok (149, .agg #[.int .i64 n, .int .i64 l, .slice A k c]) w := by kernel_rfl
attribute [local go_sem] meth_before
set_option maxRecDepth 100000 in
set_option maxHeartbeats 8000000 in
theorem sink_any (b g cap H : Nat) (L : List HR) (w : World) (hb : w.cell? ⟨b, 0, none⟩ = some (.slice (some ⟨g, 0, none⟩) L.length cap)) (hown : Own hrE 3 63 w H (.slice (some ⟨g, 0, none⟩) L.length cap) L) (hbg : b ≠ g) (hL : HeapEx (hrs L) 0) (hpos : 0 < L.length) (hn : L.length ≤ 1000) :
    Calls Tryz.prog 36 #[.pointer (some ⟨b, 0, none⟩)] w fun e w' => e = .returned (.tuple #[]) ∧ ∃ L2, Own hrE 3 63 w' H (.slice (some ⟨g, 0, none⟩) L.length cap) L2 ∧ L2.Perm L ∧ Heap (hrs L2) ∧ w.grownBy w' (some g) := by
  have hbl : b < w.heap.size := World.block_lt_of_cell? _ _ hb
  have hgl := (hown.lt g rfl).2
  have hHg := (hown.lt g rfl).1
  replace hL := Lib.hid hL
  replace hown := Lib.hid hown
  go_enter Tryz.func36, Tryz.ntmps36
  go_wp2_with fail
  go_loopw [2] (fun v2 wr => ∃ (p : Nat) (L2 : List HR), v2 = .int .i64 (p : Int) ∧ p < L.length ∧ L2.Perm L ∧ HeapEx (hrs L2) p ∧ Own hrE 3 63 wr H (.slice (some ⟨g, 0, none⟩) L.length cap) L2 ∧ w.grownBy wr (some g)) (fun v2 _ => L.length - (intOf v2).toNat)
  case atStart => exact ⟨0, L, rfl, hpos, List.Perm.refl _, hL.out, hown.out, World.grownBy.refl _ _⟩
  case round =>
    obtain ⟨p, L2, rfl, hp, hpm, hex, hown, hgr⟩ := hrel
    obtain ⟨wo, rfl⟩ : ∃ wo : World, wo = wr := ⟨_, rfl⟩
    have hz := hgr.size
    have hlen := hpm.length_eq
    obtain ⟨x, hx⟩ := get_some (show p < L2.length by omega)
    obtain ⟨cb0, fb0⟩ := grown_blk hgr b hbl (by simpa using hbg)
    have cb := (cb0 0).trans hb
    clear cb0 fb0
    replace hpm := Lib.hid hpm
    replace hex := Lib.hid hex
    have hwp : IntKind.i64.wrap (2 * (p : Int)) = 2 * (p : Int) := IntWalk.i64_in _ (by omega)
    go_wp2_with fail
    go_loopw [3, 15] (fun v3 v15 wi => ∃ j : Nat, j ≤ 2 ∧ v15 = .int .i64 (j : Int) ∧ v3 = .int .i64 ((nxH (hrs L2) p j : Nat) : Int) ∧ wi.cell? ⟨wo.heap.size, 0, none⟩ = some (.int .i64 (2 * (p : Int) + 1)) ∧ wi.cell? ⟨wo.heap.size, 1, none⟩ = some (.int .i64 (2 * (p : Int) + 2)) ∧ wo.heap.size < wi.heap.size ∧ Below wo.heap.size wo wi) (fun _ v15 _ => 2 - (intOf v15).toNat)
    case atStart => exact ⟨0, by omega, rfl, rfl, by go_simp, by go_simp, by simp, (by repeat (first | (with_reducible exact Below.refl _ _) | (with_reducible refine Below.drew ?_) | (with_reducible refine below_drewN ?_ _) | ((with_reducible refine Below.alloc ?_ ?_ _); rotate_left; focus ((try simp) <;> omega)) | ((with_reducible refine Below.setCell ?_ ?_ _); rotate_left; focus ((try simp) <;> omega)) | ((with_reducible refine Below.trans ?_ (Below.mono (by assumption) ?_)); rotate_left; focus ((try simp) <;> omega))))⟩
    case round =>
      obtain ⟨j, hj, rfl, rfl, a0, a1, hzi, hbi⟩ := hrel
      have hq := nx_lt (l := hrs L2) (p := p) (by rw [hrs_len]; omega) j
      rw [hrs_len] at hq
      by_cases hj2 : j < 2
      · have aj : wr.cell? ⟨wo.heap.size, j, none⟩ = some (.int .i64 ((2 * p + 1 + j : Nat) : Int)) := by
          rcases (show j = 0 ∨ j = 1 by omega) with rfl | rfl
          · rw [a0]; congr 2
          · rw [a1]; congr 2
        have i0 : (0 : Int) ≤ (j : Int) := by omega
        have i1 : (j : Int) < 2 := by omega
        have cbi := (hbi.cell (p := ⟨b, 0, none⟩) (by show b < _; omega)).trans cb
        obtain ⟨Q, hQ⟩ : ∃ Q, nxH (hrs L2) p j = Q := ⟨_, rfl⟩
        rw [hQ] at hq ⊢
        obtain ⟨C, hC⟩ : ∃ C, 2 * p + 1 + j = C := ⟨_, rfl⟩
        rw [hC] at aj
        by_cases hCL : C < L.length
        · obtain ⟨y, hy⟩ := get_some (show C < L2.length by omega)
          obtain ⟨z, hz2⟩ := get_some (show Q < L2.length by omega)
          have hownI := hown.all hbi
          obtain ⟨y0, fy0⟩ := own_cells (j := 0) (u := .int .i64 (y.no : Int)) hrE_len hownI hy rfl
          rw [Nat.add_zero] at y0
          obtain ⟨y1, fy1⟩ := own_cells (j := 1) (u := .int .i64 y.load) hrE_len hownI hy rfl
          obtain ⟨y2, fy2⟩ := own_cells (j := 2) (u := .slice y.tA y.ts.length y.tC) hrE_len hownI hy rfl
          obtain ⟨z0, fz0⟩ := own_cells (j := 0) (u := .int .i64 (z.no : Int)) hrE_len hownI hz2 rfl
          rw [Nat.add_zero] at z0
          obtain ⟨z1, fz1⟩ := own_cells (j := 1) (u := .int .i64 z.load) hrE_len hownI hz2 rfl
          obtain ⟨z2, fz2⟩ := own_cells (j := 2) (u := .slice z.tA z.ts.length z.tC) hrE_len hownI hz2 rfl
          clear fy0 fy1 fy2 fz0 fz1 fz2
          have hgi : g < wr.heap.size := by have := (hownI.lt g rfl).2; omega
          have hbi2 : b < wr.heap.size := by omega
          have k0 : (0 : Int) ≤ (C : Int) := by omega
          have k1 : (C : Int) < (L.length : Int) := by omega
          have k2 : (0 : Int) ≤ (Q : Int) := by omega
          have k3 : (Q : Int) < (L.length : Int) := by omega
          have hbef0 := fun W => before_any y z W
          have hcy : (hrs L2)[C]! = y.h := get_bang (hrs_at hy)
          have hcz : (hrs L2)[Q]! = z.h := get_bang (hrs_at hz2)
          replace hown := Lib.hid hown
          replace hownI := Lib.hid hownI
          replace hy := Lib.hid hy
          replace hz2 := Lib.hid hz2
          rcases hB : befHB y.h z.h with _ | _
          · rw [hB] at hbef0
            have hbef := Lib.hid hbef0
            have hnx : Hid (nxH (hrs L2) p (j + 1) = Q) := Lib.hid (by rw [nx_no (.inr (by rw [hC, hQ, hcy, hcz]; exact hB)), hQ])
            clear hbef0
            replace hcy := Lib.hid hcy
            replace hcz := Lib.hid hcz
            replace hB := Lib.hid hB
            replace hQ := Lib.hid hQ
            replace hC := Lib.hid hC
            go_upto_region 5 with fail
            go_region_held3 (fun w' => w'.cell? ⟨b, 0, none⟩ = some (.slice (some ⟨g, 0, none⟩) L.length cap) ∧ (w'.cell? ⟨g, C * 3, none⟩ = some (.int .i64 (y.no : Int)) ∧ w'.cell? ⟨g, C * 3 + 1, none⟩ = some (.int .i64 y.load) ∧ w'.cell? ⟨g, C * 3 + 2, none⟩ = some (.slice y.tA y.ts.length y.tC)) ∧ (w'.cell? ⟨g, Q * 3, none⟩ = some (.int .i64 (z.no : Int)) ∧ w'.cell? ⟨g, Q * 3 + 1, none⟩ = some (.int .i64 z.load) ∧ w'.cell? ⟨g, Q * 3 + 2, none⟩ = some (.slice z.tA z.ts.length z.tC))) (first | (go_keep; done) | (go_simp; done) | go_keep)
              (first
              | (go_at_call 149; go_must (refine (hbef.out _).mono ?_; rintro e w2 ⟨rfl, hb2⟩; have hz2 := hb2.size; (try simp at hz2); obtain ⟨hc2, hf2⟩ := blk_at hb2 g (by (try simp) <;> omega); obtain ⟨hd2, he2⟩ := blk_at hb2 b (by (try simp) <;> omega)))
              | fail "none")
            all_goals go_wp2_with fail
            all_goals go_roundw
            case rel => exact ⟨j + 1, by omega, by go_num, by rw [hnx.out], (hb2.cell (p := ⟨wo.heap.size, 0, none⟩) (by (try simp) <;> omega)).trans a0, (hb2.cell (p := ⟨wo.heap.size, 1, none⟩) (by (try simp) <;> omega)).trans a1, by omega, hbi.trans (hb2.mono (by (try simp) <;> omega) |> fun h => (Below.refl _ _).drew.trans h)⟩
            case measure => simp [intOf]; omega
          · rw [hB] at hbef0
            have hbef := Lib.hid hbef0
            have hnx : Hid (nxH (hrs L2) p (j + 1) = C) := Lib.hid (by rw [nx_yes (by rw [hrs_len, hC]; omega) (by rw [hC, hQ, hcy, hcz]; exact hB), hC])
            clear hbef0
            replace hcy := Lib.hid hcy
            replace hcz := Lib.hid hcz
            replace hB := Lib.hid hB
            replace hQ := Lib.hid hQ
            replace hC := Lib.hid hC
            go_upto_region 5 with fail
            go_region_held3 (fun w' => w'.cell? ⟨b, 0, none⟩ = some (.slice (some ⟨g, 0, none⟩) L.length cap) ∧ (w'.cell? ⟨g, C * 3, none⟩ = some (.int .i64 (y.no : Int)) ∧ w'.cell? ⟨g, C * 3 + 1, none⟩ = some (.int .i64 y.load) ∧ w'.cell? ⟨g, C * 3 + 2, none⟩ = some (.slice y.tA y.ts.length y.tC)) ∧ (w'.cell? ⟨g, Q * 3, none⟩ = some (.int .i64 (z.no : Int)) ∧ w'.cell? ⟨g, Q * 3 + 1, none⟩ = some (.int .i64 z.load) ∧ w'.cell? ⟨g, Q * 3 + 2, none⟩ = some (.slice z.tA z.ts.length z.tC))) (first | (go_keep; done) | (go_simp; done) | go_keep)
              (first
              | (go_at_call 149; go_must (refine (hbef.out _).mono ?_; rintro e w2 ⟨rfl, hb2⟩; have hz2 := hb2.size; (try simp at hz2); obtain ⟨hc2, hf2⟩ := blk_at hb2 g (by (try simp) <;> omega); obtain ⟨hd2, he2⟩ := blk_at hb2 b (by (try simp) <;> omega)))
              | fail "none")
            all_goals go_wp2_with fail
            all_goals go_roundw
            case rel => exact ⟨j + 1, by omega, by go_num, by rw [hnx.out], (hb2.cell (p := ⟨wo.heap.size, 0, none⟩) (by (try simp) <;> omega)).trans a0, (hb2.cell (p := ⟨wo.heap.size, 1, none⟩) (by (try simp) <;> omega)).trans a1, by omega, hbi.trans (hb2.mono (by (try simp) <;> omega) |> fun h => (Below.refl _ _).drew.trans h)⟩
            case measure => simp [intOf]; omega
        · have i2 : ¬ (C : Int) < (L.length : Int) := by omega
          have hnx : Hid (nxH (hrs L2) p (j + 1) = Q) := Lib.hid (by rw [nx_no (.inl (by rw [hrs_len]; omega)), hQ])
          replace hQ := Lib.hid hQ
          replace hC := Lib.hid hC
          replace hown := Lib.hid hown
          go_upto_region 5 with fail
          replace cbi := fun d os => cell_regrown cbi d os
          refine wp_region_quiet_below (by kernel_rfl) (by kernel_rfl) ?_
          repeat (go_big_quiet_step (fail))
          refine wpQuiet_nil ?_
          intro w2 hw2
          have hb2 := below_of_regrown hw2
          clear hw2
          have hz2 := hb2.size
          go_wp2_with fail
          go_roundw
          case rel => exact ⟨j + 1, by omega, by go_num, by rw [hnx.out], (hb2.cell (p := ⟨wo.heap.size, 0, none⟩) hzi).trans a0, (hb2.cell (p := ⟨wo.heap.size, 1, none⟩) hzi).trans a1, by omega, hbi.trans (hb2.mono (by omega))⟩
          case measure => simp [intOf]; omega
      · obtain rfl : j = 2 := by omega
        obtain ⟨Q, hQ⟩ : ∃ Q, nxH (hrs L2) p 2 = Q := ⟨_, rfl⟩
        rw [hQ] at hq ⊢
        have cbi := (hbi.cell (p := ⟨b, 0, none⟩) (by show b < _; omega)).trans cb
        by_cases hQp : Q = p
        · subst hQp
          have hfin : Hid (Heap (hrs L2)) := Lib.hid (nx_done hex.out (hrs_at hx) hQ)
          replace hQ := Lib.hid hQ
          go_wp2_with fail
          (try simp only [Exit.inBlock, Exit.then])
          refine bodyPost_ret (results_none rfl _ _ _) rfl ?_
          exact ⟨rfl, L2, hown.all hbi, hpm.out, hfin.out, hgr.trans (below_grown hbi _)⟩
        · obtain ⟨y, hyb, hpq, hst⟩ := nx_step hex.out (hrs_at hx) hQ hQp
          have hne : ¬ (Q : Int) = (p : Int) := by omega
          obtain ⟨y, hy⟩ := get_some (show Q < L2.length by omega)
          have hownI := hown.all hbi
          obtain ⟨x0, fx0⟩ := own_cells (j := 0) (u := .int .i64 (x.no : Int)) hrE_len hownI hx rfl
          rw [Nat.add_zero] at x0 fx0
          obtain ⟨x1, fx1⟩ := own_cells (j := 1) (u := .int .i64 x.load) hrE_len hownI hx rfl
          obtain ⟨x2, fx2⟩ := own_cells (j := 2) (u := .slice x.tA x.ts.length x.tC) hrE_len hownI hx rfl
          obtain ⟨y0, fy0⟩ := own_cells (j := 0) (u := .int .i64 (y.no : Int)) hrE_len hownI hy rfl
          rw [Nat.add_zero] at y0 fy0
          obtain ⟨y1, fy1⟩ := own_cells (j := 1) (u := .int .i64 y.load) hrE_len hownI hy rfl
          obtain ⟨y2, fy2⟩ := own_cells (j := 2) (u := .slice y.tA y.ts.length y.tC) hrE_len hownI hy rfl
          have k0 : (0 : Int) ≤ (p : Int) := by omega
          have k1 : (p : Int) < (L.length : Int) := by omega
          have k2 : (0 : Int) ≤ (Q : Int) := by omega
          have k3 : (Q : Int) < (L.length : Int) := by omega
          have hsw := swap_own hownI hlen hx hy
          have hsp := Lib.hid ((swapR_perm hx hy hpq).trans hpm.out)
          have hse : Hid (HeapEx (hrs (swapR L2 p Q)) Q) := Lib.hid (by rw [swapR_h hx hy]; exact hst)
          have hgW : w.grownBy ((wr.setCells g (p * 3) (hrE y)).setCells g (Q * 3) (hrE x)) (some g) := (hgr.trans (below_grown hbi _)).trans ((grown_setCells g _ _ _).trans (grown_setCells g _ _ _))
          simp only [World.setCells, hrE, Nat.add_assoc, Nat.reduceAdd] at hsw hgW
          replace hsw := Lib.hid hsw
          replace hgW := Lib.hid hgW
          replace hown := Lib.hid hown
          replace hownI := Lib.hid hownI
          replace hx := Lib.hid hx
          replace hy := Lib.hid hy
          replace hyb := Lib.hid hyb
          replace hst := Lib.hid hst
          replace hQ := Lib.hid hQ
          replace hlen := Lib.hid hlen
          replace hgr := Lib.hid hgr
          have hpq3 : p * 3 + 3 ≤ Q * 3 := by omega
          go_upto_region 9 with fail
          go_region
          go_wp2_with fail
          go_roundw
          case rel =>
            refine ⟨Q, swapR L2 p Q, rfl, by have := hlen.out; omega, hsp.out, hse.out, ?_, ?_⟩
            · with_reducible exact Own.drew hsw.out
            · with_reducible exact grown_drew hgW.out
          case measure => have := hlen.out; simp [intOf]; omega
end Go.Proofs.YtdjepnilmgembaaGreatDoor
