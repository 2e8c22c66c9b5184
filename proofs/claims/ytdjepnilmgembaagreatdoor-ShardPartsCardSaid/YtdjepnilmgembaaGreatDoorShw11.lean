/-
  The walks of shards: the next test and the least shard, by the reference; lists of lists compared.
-/
import Derived.Test.YtdjepnilmgembaaGreatDoorShw10



namespace Go.Proofs.YtdjepnilmgembaaGreatDoor
open Go.RowKit
attribute [local go_sem ↓] Go.wp_at_zero Go.wp_at_succ

def zE (n : Int) : List Value := [.int .i64 n]
theorem zE_len (n : Int) : (zE n).length = 1 := rfl
theorem zE_one (n : Int) : ∀ u ∈ zE n, u.oneCell' = true := by intro u hu; obtain rfl := List.mem_singleton.1 hu; rfl
/-- The least of the first so many, and the first of these. -/
def LeastTo (L : List Int) (k b : Nat) : Prop := ∃ x, L[b]? = some x ∧ (∀ j y, j < k → L[j]? = some y → x ≤ y) ∧ ∀ j y, j < b → L[j]? = some y → x < y
theorem leastTo_one {L : List Int} (h : 0 < L.length) : LeastTo L 1 0 := by
  obtain ⟨x, hx⟩ := get_some h
  refine ⟨x, hx, fun j y hj hy => ?_, fun j y hj => by omega⟩
  obtain rfl : j = 0 := by omega
  rw [hx] at hy
  obtain rfl : x = y := by simpa using hy
  exact Int.le_refl _
theorem leastTo_yes {L : List Int} {k b : Nat} {x y : Int} (h : LeastTo L k b) (hx : L[b]? = some x) (hy : L[k]? = some y) (hlt : y < x) : LeastTo L (k + 1) k := by
  obtain ⟨x', hx', h1, h2⟩ := h
  rw [hx] at hx'
  obtain rfl : x = x' := by simpa using hx'
  refine ⟨y, hy, fun j z hj hz => ?_, fun j z hj hz => ?_⟩
  · rcases Nat.lt_or_ge j k with h | h
    · have := h1 j z h hz; omega
    · obtain rfl : j = k := by omega
      rw [hy] at hz
      obtain rfl : y = z := by simpa using hz
      exact Int.le_refl _
  · have := h1 j z hj hz; omega
theorem leastTo_no {L : List Int} {k b : Nat} {x y : Int} (h : LeastTo L k b) (hx : L[b]? = some x) (hy : L[k]? = some y) (hlt : ¬ y < x) : LeastTo L (k + 1) b := by
  obtain ⟨x', hx', h1, h2⟩ := h
  rw [hx] at hx'
  obtain rfl : x = x' := by simpa using hx'
  refine ⟨x, hx, fun j z hj hz => ?_, h2⟩
  rcases Nat.lt_or_ge j k with h | h
  · exact h1 j z h hz
  · obtain rfl : j = k := by omega
    rw [hy] at hz
    obtain rfl : y = z := by simpa using hz
    omega
theorem leastTo_all {bins : List Bin} {b : Nat} (h : LeastTo (bins.map (·.2)) bins.length b) : leastB bins = b := by
  obtain ⟨x, hx, h1, h2⟩ := h
  rw [List.getElem?_map, Option.map_eq_some_iff] at hx
  obtain ⟨y, hy, rfl⟩ := hx
  refine least_at hy (fun z hz => ?_) (fun j z hj hz => ?_)
  · obtain ⟨j, hj⟩ := List.getElem?_of_mem hz
    exact h1 j z.2 (List.getElem?_eq_some_iff.1 hj).1 (by rw [List.getElem?_map, hj]; rfl)
  · exact h2 j z.2 hj (by rw [List.getElem?_map, hz]; rfl)
set_option maxRecDepth 100000 in
set_option maxHeartbeats 2000000 in
theorem rleast_any (A : Option Addr) (c : Nat) (bins : List Bin) (L : List Int) (w : World) (hL : L = bins.map (·.2)) (hr : Rw zE 1 w w.heap.size A L) (h0 : 0 < L.length) (hn : L.length ≤ 1000000) :
    Calls Tryz.prog 40 #[.slice A L.length c] w fun e w' => e = .returned (.int .i64 ((leastB bins : Nat) : Int)) ∧ Below w.heap.size w w' := by
  obtain ⟨g, o, rfl, hg, hq⟩ := hr h0
  have hend : Hid (∀ b, LeastTo L L.length b → leastB bins = b) := Lib.hid fun b h => leastTo_all (by rw [← hL]; rw [hL, List.length_map] at h; rw [hL]; exact h)
  have hst := Lib.hid (leastTo_one h0)
  have hcell : Hid (∀ i x, L[i]? = some x → w.cell? ⟨g, o + i, none⟩ = some (.int .i64 x)) := Lib.hid fun i x hx => by have := hq i x hx 0 _ rfl; rwa [Nat.mul_one, Nat.add_zero] at this
  replace hL := Lib.hid hL
  clear hr hq
  go_enter Tryz.func40, Tryz.ntmps40
  go_wp2_with fail
  go_loopw [3, 4] (fun vb vi wr => ∃ b k : Nat, b < k ∧ k ≤ L.length ∧ vb = .int .i64 (b : Int) ∧ vi = .int .i64 (k : Int) ∧ LeastTo L k b ∧ Below w.heap.size w wr) (fun _ vi _ => L.length - (intOf vi).toNat)
  case atStart => exact ⟨0, 1, by omega, by omega, rfl, rfl, hst.out, Below.refl _ _⟩
  case round =>
    obtain ⟨b, k, hbk, hk, rfl, rfl, hl, hbw⟩ := hrel
    have hz := hbw.size
    by_cases hkl : k < L.length
    · obtain ⟨x, hx⟩ := get_some (show b < L.length by omega)
      obtain ⟨y, hy⟩ := get_some hkl
      have q1 := (hbw.cell (p := ⟨g, o + b, none⟩) hg).trans (hcell.out b x hx)
      have q2 := (hbw.cell (p := ⟨g, o + k, none⟩) hg).trans (hcell.out k y hy)
      have i0 : (0 : Int) ≤ (k : Int) := by omega
      have i1 : (k : Int) < (L.length : Int) := by omega
      have i2 : (0 : Int) ≤ (b : Int) := by omega
      have i3 : (b : Int) < (L.length : Int) := by omega
      by_cases hlt : y < x
      · have hnx := Lib.hid (leastTo_yes hl hx hy hlt)
        replace hl := Lib.hid hl
        replace hx := Lib.hid hx
        replace hy := Lib.hid hy
        go_upto_region 5 with fail
        go_quiet (fail)
        go_wp2_with fail
        go_roundw
        case rel => exact ⟨k, k + 1, by omega, by omega, rfl, by go_num, hnx.out, (by repeat (first | (with_reducible exact Below.refl _ _) | (with_reducible refine Below.drew ?_) | (with_reducible refine below_drewN ?_ _) | ((with_reducible refine Below.alloc ?_ ?_ _); rotate_left; focus ((try simp) <;> omega)) | ((with_reducible refine Below.setCell ?_ ?_ _); rotate_left; focus ((try simp) <;> omega)) | ((with_reducible refine Below.trans ?_ (Below.mono (by assumption) ?_)); rotate_left; focus ((try simp) <;> omega))))⟩
        case measure => simp [intOf]; omega
      · have hnx := Lib.hid (leastTo_no hl hx hy hlt)
        replace hl := Lib.hid hl
        replace hx := Lib.hid hx
        replace hy := Lib.hid hy
        go_upto_region 5 with fail
        go_quiet (fail)
        go_wp2_with fail
        go_roundw
        case rel => exact ⟨b, k + 1, by omega, by omega, rfl, by go_num, hnx.out, (by repeat (first | (with_reducible exact Below.refl _ _) | (with_reducible refine Below.drew ?_) | (with_reducible refine below_drewN ?_ _) | ((with_reducible refine Below.alloc ?_ ?_ _); rotate_left; focus ((try simp) <;> omega)) | ((with_reducible refine Below.setCell ?_ ?_ _); rotate_left; focus ((try simp) <;> omega)) | ((with_reducible refine Below.trans ?_ (Below.mono (by assumption) ?_)); rotate_left; focus ((try simp) <;> omega))))⟩
        case measure => simp [intOf]; omega
    · have i1 : ¬ (k : Int) < (L.length : Int) := by omega
      obtain rfl : k = L.length := by omega
      have hf := Lib.hid (hend.out b hl)
      replace hl := Lib.hid hl
      go_wp2_with fail
      go_ret
      exact ⟨ret_int (congrArg (fun n : Nat => (n : Int)) hf.out.symm), hbw⟩
/-- The best of the first so many. -/
def BestTo (t : Str → Int) (l : List Str) (k b : Nat) : Prop := ∃ x, l[b]? = some x ∧ ∀ j y, j < k → j ≠ b → l[j]? = some y → befT t x y
theorem bestTo_one {t : Str → Int} {l : List Str} (h : 0 < l.length) : BestTo t l 1 0 := by
  obtain ⟨x, hx⟩ := get_some h
  exact ⟨x, hx, fun j y hj hj2 => by omega⟩
theorem bestTo_yes {t : Str → Int} {l : List Str} {k b : Nat} {x y : Str} (h : BestTo t l k b) (hx : l[b]? = some x) (hy : l[k]? = some y) (hb : befT t y x) : BestTo t l (k + 1) k := by
  obtain ⟨x', hx', h1⟩ := h
  rw [hx] at hx'
  obtain rfl : x = x' := by simpa using hx'
  refine ⟨y, hy, fun j z hj hj2 hz => ?_⟩
  by_cases e : j = b
  · subst e
    rw [hx] at hz
    obtain rfl : x = z := by simpa using hz
    exact hb
  · exact bef_trans hb (h1 j z (by omega) e hz)
theorem bestTo_no {t : Str → Int} {l : List Str} {k b : Nat} {x y : Str} (h : BestTo t l k b) (hx : l[b]? = some x) (hy : l[k]? = some y) (hb : ¬ befT t y x) (hne : y ≠ x) : BestTo t l (k + 1) b := by
  obtain ⟨x', hx', h1⟩ := h
  rw [hx] at hx'
  obtain rfl : x = x' := by simpa using hx'
  refine ⟨x, hx, fun j z hj hj2 hz => ?_⟩
  rcases Nat.lt_or_ge j k with h | h
  · exact h1 j z h hj2 hz
  · obtain rfl : j = k := by omega
    rw [hy] at hz
    obtain rfl : y = z := by simpa using hz
    exact (bef_or hne).resolve_left hb
theorem bestTo_all {t : Str → Int} {l : List Str} {b : Nat} (h : BestTo t l l.length b) : ∃ x, l[b]? = some x ∧ ∀ j y, j ≠ b → l[j]? = some y → befT t x y := by
  obtain ⟨x, hx, h1⟩ := h
  exact ⟨x, hx, fun j y hj hy => h1 j y (List.getElem?_eq_some_iff.1 hy).1 hj hy⟩
set_option maxRecDepth 100000 in
set_option maxHeartbeats 8000000 in
theorem rnext_any (A B : Option Addr) (c d : Nat) (l : List Str) (ts : List Tm) (w : World) (hr : Rw sE 1 w w.heap.size A l) (h0 : 0 < l.length) (hn : l.length ≤ 1000000) (hnd : l.Nodup) (ht : Rw tmE 2 w w.heap.size B ts) (htn : ts.length ≤ 1000000) :
    Calls Tryz.prog 39 #[.slice A l.length c, .slice B ts.length d, .int .i64 (medT ts)] w fun e w' => ∃ i x, e = .returned (.int .i64 ((i : Nat) : Int)) ∧ l[i]? = some x ∧ ordL (clockT ts) l = x :: ordL (clockT ts) (l.eraseIdx i) ∧ Below w.heap.size w w' := by
  obtain ⟨g, o, rfl, hg, hq⟩ := hr h0
  have hend : Hid (∀ b, BestTo (clockT ts) l l.length b → ∃ x, l[b]? = some x ∧ ordL (clockT ts) l = x :: ordL (clockT ts) (l.eraseIdx b)) := Lib.hid fun b h => by
    obtain ⟨x, hx, h1⟩ := bestTo_all h
    exact ⟨x, hx, next_cons hnd hx h1⟩
  have hst := Lib.hid (bestTo_one (t := clockT ts) h0)
  have hcell : Hid (∀ i x, l[i]? = some x → w.cell? ⟨g, o + i, none⟩ = some (.string x.1)) := Lib.hid fun i x hx => by have := hq i x hx 0 _ rfl; rwa [Nat.mul_one, Nat.add_zero] at this
  have htm0 : Hid (∀ (s : Str) (W : World), Below w.heap.size w W → Calls Tryz.prog 28 #[.string s.1, .slice B ts.length d, .int .i64 (medT ts)] W fun e w' => e = .returned (.int .i64 (clockT ts s)) ∧ Below W.heap.size W w') := Lib.hid fun s W hb => (rtimet_any B d ts s (medT ts) W ((ht.below hb (Nat.le_refl _)).more hb.size) (by omega)).mono fun e w' ⟨h1, h2⟩ => ⟨h1, h2 ▸ Below.refl _ _⟩
  have hdis : Hid (∀ i j x, l[i]? = some x → l[j]? = some x → i = j) := Lib.hid fun i j x hi hj => by
    obtain ⟨a1, e1⟩ := List.getElem?_eq_some_iff.1 hi
    obtain ⟨a2, e2⟩ := List.getElem?_eq_some_iff.1 hj
    have hp := List.pairwise_iff_getElem.1 hnd
    rcases Nat.lt_trichotomy i j with h | h | h
    · exact absurd (e1.trans e2.symm) (hp i j a1 a2 h)
    · exact h
    · exact absurd (e2.trans e1.symm) (hp j i a2 a1 h)
  replace hnd := Lib.hid hnd
  clear hr hq ht
  generalize medT ts = M at htm0 ⊢
  generalize clockT ts = ck at hend hst htm0 ⊢
  go_enter Tryz.func39, Tryz.ntmps39
  go_wp2_with fail
  go_loopw [7, 8] (fun vb vi wr => ∃ b k : Nat, b < k ∧ k ≤ l.length ∧ vb = .int .i64 (b : Int) ∧ vi = .int .i64 (k : Int) ∧ BestTo ck l k b ∧ Below w.heap.size w wr) (fun _ vi _ => l.length - (intOf vi).toNat)
  case atStart => exact ⟨0, 1, by omega, by omega, rfl, rfl, hst.out, Below.refl _ _⟩
  case round =>
    obtain ⟨b, k, hbk, hk, rfl, rfl, hl, hbw⟩ := hrel
    have hz := hbw.size
    by_cases hkl : k < l.length
    · obtain ⟨x, hx⟩ := get_some (show b < l.length by omega)
      obtain ⟨y, hy⟩ := get_some hkl
      have p2 := (hbw.cell (p := ⟨g, o + b, none⟩) hg).trans (hcell.out b x hx)
      have p1 := (hbw.cell (p := ⟨g, o + k, none⟩) hg).trans (hcell.out k y hy)
      have hgr : g < wr.heap.size := by omega
      have i0 : (0 : Int) ≤ (k : Int) := by omega
      have i1 : (k : Int) < (l.length : Int) := by omega
      have i2 : (0 : Int) ≤ (b : Int) := by omega
      have i3 : (b : Int) < (l.length : Int) := by omega
      have hne : Hid (y ≠ x) := Lib.hid fun e => by subst e; have := hdis.out _ _ _ hx hy; omega
      have htx0 := fun W hb => htm0.out x W (hbw.trans (Below.mono (B := wr.heap.size) (w := wr) (w' := W) hb hz))
      have hty0 := fun W hb => htm0.out y W (hbw.trans (Below.mono (B := wr.heap.size) (w := wr) (w' := W) hb hz))
      obtain ⟨X, hX⟩ : ∃ X, ck x = X := ⟨_, rfl⟩
      obtain ⟨Y, hY⟩ : ∃ Y, ck y = Y := ⟨_, rfl⟩
      obtain ⟨C, hC⟩ : ∃ C, cmpS y x = C := ⟨_, rfl⟩
      rw [hX] at htx0
      rw [hY] at hty0
      have hcm : Hid (∀ W, Calls Tryz.prog 58 #[.string y.1, .string x.1] W fun e w' => e = .returned (.int .i64 C) ∧ Below W.heap.size W w') := Lib.hid fun W => (rcompare_any _ _ y.2 x.2 W).mono fun _ _ h => ⟨by rw [h.1, ← hC]; rfl, by obtain ⟨n, e⟩ := h.2; rw [e]; exact below_drewN (Below.refl _ _) n⟩
      have htx := Lib.hid htx0
      have hty := Lib.hid hty0
      clear htx0 hty0
      have hbf : befT ck y x ↔ X < Y ∨ (Y = X ∧ C < 0) := by unfold befT; rw [hX, hY, hC]
      have hyes : Hid (befT ck y x → BestTo ck l (k + 1) k) := Lib.hid fun h => bestTo_yes hl hx hy h
      have hno : Hid (¬ befT ck y x → BestTo ck l (k + 1) b) := Lib.hid fun h => bestTo_no hl hx hy h hne.out
      replace hl := Lib.hid hl
      replace hx := Lib.hid hx
      replace hy := Lib.hid hy
      replace hX := Lib.hid hX
      replace hY := Lib.hid hY
      replace hC := Lib.hid hC
      have q1 := fun d os => cell_regrown p1 d os
      have q2 := fun d os => cell_regrown p2 d os
      have hgb : g < wr.heap.size := hgr
      rcases Int.lt_trichotomy X Y with h1 | h1 | h1
      · have hnx := Lib.hid (hyes.out (hbf.2 (.inl h1)))
        clear hbf
        go_upto_region 5 with fail
        refine wp_region_quiet_below (by kernel_rfl) (by kernel_rfl) ?_
        repeat (go_big_quiet_step (first
          | (go_at_call 28; with_reducible exact Calls.regrown_of (htx.out _ (below_regrown _ _ _)))
          | (go_at_call 28; with_reducible exact Calls.regrown_of (hty.out _ (below_regrown _ _ _)))
          | fail "none"))
        refine wpQuiet_nil ?_
        intro w2 hw2
        have hb2 := below_of_regrown hw2
        clear hw2
        have hz2 := hb2.size
        have r1 := q1 0 #[]
        have r2 := q2 0 #[]
        clear q1 q2
        have q1 := fun d os => cell_regrown ((hb2.cell (p := ⟨g, o + k, none⟩) hgr).trans p1) d os
        have q2 := fun d os => cell_regrown ((hb2.cell (p := ⟨g, o + b, none⟩) hgb).trans p2) d os
        clear r1 r2
        go_upto_region 6 with fail
        refine wp_region_quiet_below (by kernel_rfl) (by kernel_rfl) ?_
        repeat (go_big_quiet_step ((go_at_call 58; exact Calls.regrown_of (hcm.out _))))
        refine wpQuiet_nil ?_
        intro w3 hw3
        have hb3 := below_of_regrown hw3
        clear hw3
        have hz3 := hb3.size
        go_wp2_with fail
        go_roundw
        case rel => exact ⟨k, k + 1, by omega, by omega, rfl, by go_num, hnx.out, (by repeat (first | (with_reducible exact Below.refl _ _) | (with_reducible refine Below.drew ?_) | (with_reducible refine below_drewN ?_ _) | ((with_reducible refine Below.alloc ?_ ?_ _); rotate_left; focus ((try simp) <;> omega)) | ((with_reducible refine Below.setCell ?_ ?_ _); rotate_left; focus ((try simp) <;> omega)) | ((with_reducible refine Below.trans ?_ (Below.mono (by assumption) ?_)); rotate_left; focus ((try simp) <;> omega))))⟩
        case measure => simp [intOf]; omega
      · subst h1
        have h5 : decide (X < X) = false := by simp
        have h6 : (X == X) = true := by simp
        have h7 : ¬ X < X := by omega
        by_cases h2 : C < 0
        · have hnx := Lib.hid (hyes.out (hbf.2 (.inr ⟨rfl, h2⟩)))
          clear hbf
          go_upto_region 5 with fail
          refine wp_region_quiet_below (by kernel_rfl) (by kernel_rfl) ?_
          repeat (go_big_quiet_step (first
            | (go_at_call 28; with_reducible exact Calls.regrown_of (htx.out _ (below_regrown _ _ _)))
            | (go_at_call 28; with_reducible exact Calls.regrown_of (hty.out _ (below_regrown _ _ _)))
            | fail "none"))
          refine wpQuiet_nil ?_
          intro w2 hw2
          have hb2 := below_of_regrown hw2
          clear hw2
          have hz2 := hb2.size
          have r1 := q1 0 #[]
          have r2 := q2 0 #[]
          clear q1 q2
          have q1 := fun d os => cell_regrown ((hb2.cell (p := ⟨g, o + k, none⟩) hgr).trans p1) d os
          have q2 := fun d os => cell_regrown ((hb2.cell (p := ⟨g, o + b, none⟩) hgb).trans p2) d os
          clear r1 r2
          go_upto_region 6 with fail
          refine wp_region_quiet_below (by kernel_rfl) (by kernel_rfl) ?_
          repeat (go_big_quiet_step ((go_at_call 58; exact Calls.regrown_of (hcm.out _))))
          refine wpQuiet_nil ?_
          intro w3 hw3
          have hb3 := below_of_regrown hw3
          clear hw3
          have hz3 := hb3.size
          go_wp2_with fail
          go_roundw
          case rel => exact ⟨k, k + 1, by omega, by omega, rfl, by go_num, hnx.out, (by repeat (first | (with_reducible exact Below.refl _ _) | (with_reducible refine Below.drew ?_) | (with_reducible refine below_drewN ?_ _) | ((with_reducible refine Below.alloc ?_ ?_ _); rotate_left; focus ((try simp) <;> omega)) | ((with_reducible refine Below.setCell ?_ ?_ _); rotate_left; focus ((try simp) <;> omega)) | ((with_reducible refine Below.trans ?_ (Below.mono (by assumption) ?_)); rotate_left; focus ((try simp) <;> omega))))⟩
          case measure => simp [intOf]; omega
        · have hnx := Lib.hid (hno.out (fun h => by rcases hbf.1 h with h | ⟨_, h⟩ <;> omega))
          have h8 : decide (C < 0) = false := by simpa using h2
          clear hbf
          go_upto_region 5 with fail
          refine wp_region_quiet_below (by kernel_rfl) (by kernel_rfl) ?_
          repeat (go_big_quiet_step (first
            | (go_at_call 28; with_reducible exact Calls.regrown_of (htx.out _ (below_regrown _ _ _)))
            | (go_at_call 28; with_reducible exact Calls.regrown_of (hty.out _ (below_regrown _ _ _)))
            | fail "none"))
          refine wpQuiet_nil ?_
          intro w2 hw2
          have hb2 := below_of_regrown hw2
          clear hw2
          have hz2 := hb2.size
          have r1 := q1 0 #[]
          have r2 := q2 0 #[]
          clear q1 q2
          have q1 := fun d os => cell_regrown ((hb2.cell (p := ⟨g, o + k, none⟩) hgr).trans p1) d os
          have q2 := fun d os => cell_regrown ((hb2.cell (p := ⟨g, o + b, none⟩) hgb).trans p2) d os
          clear r1 r2
          go_upto_region 6 with fail
          refine wp_region_quiet_below (by kernel_rfl) (by kernel_rfl) ?_
          repeat (go_big_quiet_step ((go_at_call 58; exact Calls.regrown_of (hcm.out _))))
          refine wpQuiet_nil ?_
          intro w3 hw3
          have hb3 := below_of_regrown hw3
          clear hw3
          have hz3 := hb3.size
          go_wp2_with fail
          go_roundw
          case rel => exact ⟨b, k + 1, by omega, by omega, rfl, by go_num, hnx.out, (by repeat (first | (with_reducible exact Below.refl _ _) | (with_reducible refine Below.drew ?_) | (with_reducible refine below_drewN ?_ _) | ((with_reducible refine Below.alloc ?_ ?_ _); rotate_left; focus ((try simp) <;> omega)) | ((with_reducible refine Below.setCell ?_ ?_ _); rotate_left; focus ((try simp) <;> omega)) | ((with_reducible refine Below.trans ?_ (Below.mono (by assumption) ?_)); rotate_left; focus ((try simp) <;> omega))))⟩
          case measure => simp [intOf]; omega
      · have hnx := Lib.hid (hno.out (fun h => by rcases hbf.1 h with h | ⟨h, _⟩ <;> omega))
        have h3 : ¬ X < Y := by omega
        have h4 : ¬ Y = X := by omega
        have h5 : decide (X < Y) = false := by simpa using h3
        have h6 : (Y == X) = false := by rw [beq_eq_false_iff_ne]; exact h4
        clear hbf
        go_upto_region 5 with fail
        refine wp_region_quiet_below (by kernel_rfl) (by kernel_rfl) ?_
        repeat (go_big_quiet_step (first
          | (go_at_call 28; with_reducible exact Calls.regrown_of (htx.out _ (below_regrown _ _ _)))
          | (go_at_call 28; with_reducible exact Calls.regrown_of (hty.out _ (below_regrown _ _ _)))
          | fail "none"))
        refine wpQuiet_nil ?_
        intro w2 hw2
        have hb2 := below_of_regrown hw2
        clear hw2
        have hz2 := hb2.size
        have r1 := q1 0 #[]
        have r2 := q2 0 #[]
        clear q1 q2
        have q1 := fun d os => cell_regrown ((hb2.cell (p := ⟨g, o + k, none⟩) hgr).trans p1) d os
        have q2 := fun d os => cell_regrown ((hb2.cell (p := ⟨g, o + b, none⟩) hgb).trans p2) d os
        clear r1 r2
        go_upto_region 6 with fail
        refine wp_region_quiet_below (by kernel_rfl) (by kernel_rfl) ?_
        repeat (go_big_quiet_step ((go_at_call 58; exact Calls.regrown_of (hcm.out _))))
        refine wpQuiet_nil ?_
        intro w3 hw3
        have hb3 := below_of_regrown hw3
        clear hw3
        have hz3 := hb3.size
        go_wp2_with fail
        go_roundw
        case rel => exact ⟨b, k + 1, by omega, by omega, rfl, by go_num, hnx.out, (by repeat (first | (with_reducible exact Below.refl _ _) | (with_reducible refine Below.drew ?_) | (with_reducible refine below_drewN ?_ _) | ((with_reducible refine Below.alloc ?_ ?_ _); rotate_left; focus ((try simp) <;> omega)) | ((with_reducible refine Below.setCell ?_ ?_ _); rotate_left; focus ((try simp) <;> omega)) | ((with_reducible refine Below.trans ?_ (Below.mono (by assumption) ?_)); rotate_left; focus ((try simp) <;> omega))))⟩
        case measure => simp [intOf]; omega
    · have i1 : ¬ (k : Int) < (l.length : Int) := by omega
      obtain rfl : k = l.length := by omega
      have hf := Lib.hid (hend.out b hl)
      replace hl := Lib.hid hl
      go_wp2_with fail
      go_ret
      obtain ⟨x, hx, he⟩ := hf.out
      exact ⟨b, rfl, x.1, x.2, hx, he, hbw⟩
end Go.Proofs.YtdjepnilmgembaaGreatDoor
