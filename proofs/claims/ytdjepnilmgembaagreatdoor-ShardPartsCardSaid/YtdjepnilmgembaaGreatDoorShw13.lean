/-
  The walks of shards: lists of lists compared, small arguments.
-/
import Derived.Test.YtdjepnilmgembaaGreatDoorShw12
import Derived.Lib.QuietBelow


namespace Go.Proofs.YtdjepnilmgembaaGreatDoor
open Go.RowKit

theorem map_take_next {L M : List SlR} {k : Nat} {x y : SlR} (h : (L.take k).map SlR.l = (M.take k).map SlR.l) (hx : L[k]? = some x) (hy : M[k]? = some y) (e : x.l = y.l) : (L.take (k + 1)).map SlR.l = (M.take (k + 1)).map SlR.l := by
  rw [List.take_add_one, List.take_add_one, hx, hy, List.map_append, List.map_append, h]
  show _ ++ [x.l] = _ ++ [y.l]
  rw [e]
theorem map_at_ne {L M : List SlR} {k : Nat} {x y : SlR} (hx : L[k]? = some x) (hy : M[k]? = some y) (e : x.l ≠ y.l) : L.map SlR.l ≠ M.map SlR.l := fun h => by
  have := congrArg (·[k]?) h
  simp only [List.getElem?_map, hx, hy, Option.map_some, Option.some.injEq] at this
  exact e this
set_option maxRecDepth 100000 in
set_option maxHeartbeats 4000000 in
theorem rsames_any (A B : Option Addr) (c d : Nat) (L M : List SlR) (w : World) (hL : RwS w w.heap.size A L) (hM : RwS w w.heap.size B M) (hl : L.length ≤ 1000) (_hm : M.length ≤ 1000) (hs : ∀ x ∈ L, x.l.length ≤ 1000000) (ht : ∀ x ∈ M, x.l.length ≤ 1000000) :
    Calls Tryz.prog 16 #[.slice A L.length c, .slice B M.length d] w fun e w' => e = .returned (.bool (decide (L.map SlR.l = M.map SlR.l))) ∧ Below w.heap.size w w' := by
  obtain ⟨R, hR⟩ : ∃ R, decide (L.map SlR.l = M.map SlR.l) = R := ⟨_, rfl⟩
  rw [hR]
  by_cases hlm : L.length = M.length
  · have hneb : (L.length != M.length) = false := by simpa using hlm
    have hsame : Hid (∀ (i : Nat) (x y : SlR) (W : World), L[i]? = some x → M[i]? = some y → Below w.heap.size w W → Calls Tryz.prog 19 #[.slice x.A x.l.length x.c, .slice y.A y.l.length y.c] W fun e w' => e = .returned (.bool (decide (x.l = y.l))) ∧ Below W.heap.size W w') := Lib.hid fun i x y W hx hy hb => by
      have h1 := List.mem_of_getElem? hx
      have h2 := List.mem_of_getElem? hy
      refine (rsame_any x.A y.A x.c y.c x.l y.l W (((hL.labs x h1).below hb (Nat.le_refl _)).more hb.size) (((hM.labs y h2).below hb (Nat.le_refl _)).more hb.size) (by have := hs x h1; omega) (by have := ht y h2; omega)).mono ?_
      rintro e w' ⟨rfl, n, rfl⟩
      exact ⟨rfl, below_drewN (Below.refl _ _) n⟩
    have hlr := Lib.hid hL.row
    have hmr := Lib.hid hM.row
    have hlm1 := Nat.le_of_eq hlm
    have hlm2 := Nat.le_of_eq hlm.symm
    have hz : (L.length : Int) = (M.length : Int) := by omega
    have hzb : ((L.length : Int) != (M.length : Int)) = false := by rw [bne_eq_false_iff_eq]; exact hz
    replace hlm := Lib.hid hlm
    replace hR := Lib.hid hR
    replace hz := Lib.hid hz
    clear hL hM hs ht
    go_enter Tryz.func16, Tryz.ntmps16
    go_wp2_with fail
    go_loopw [5] (fun vi wr => ∃ k : Nat, k ≤ L.length ∧ vi = .int .i64 (k : Int) ∧ (L.take k).map SlR.l = (M.take k).map SlR.l ∧ Below w.heap.size w wr) (fun vi _ => L.length - (intOf vi).toNat)
    case atStart => exact ⟨0, Nat.zero_le _, rfl, rfl, Below.refl _ _⟩
    case round =>
      obtain ⟨k, hk, rfl, ht, hbw⟩ := hrel
      have hz := hbw.size
      by_cases hkl : k < L.length
      · obtain ⟨x, hx⟩ := get_some hkl
        obtain ⟨y, hy⟩ := get_some (show k < M.length by omega)
        obtain ⟨g, o, rfl, hg, hq⟩ := hlr.out (by omega)
        obtain ⟨g2, o2, rfl, hg2, hq2⟩ := hmr.out (by omega)
        have q1 := (hbw.cell (p := ⟨g, o + k * 1 + 0, none⟩) hg).trans (hq k x hx 0 (.slice x.A x.l.length x.c) rfl)
        have q2 := (hbw.cell (p := ⟨g2, o2 + k * 1 + 0, none⟩) hg2).trans (hq2 k y hy 0 (.slice y.A y.l.length y.c) rfl)
        rw [Nat.add_zero, Nat.mul_one] at q1 q2
        clear hq hq2
        replace q1 := fun d os => cell_regrown q1 d os
        replace q2 := fun d os => cell_regrown q2 d os
        have i0 : (0 : Int) ≤ (k : Int) := by omega
        have i1 : (k : Int) < (L.length : Int) := by omega
        have i2 : (k : Int) < (M.length : Int) := by omega
        have hsa0 := fun W hb => hsame.out k x y W hx hy (hbw.trans (Below.mono (B := wr.heap.size) (w := wr) (w' := W) hb hz))
        by_cases e : x.l = y.l
        · rw [decide_eq_true e] at hsa0
          have hsa := Lib.hid hsa0
          clear hsa0
          have hnx := Lib.hid (map_take_next ht hx hy e)
          replace hx := Lib.hid hx
          replace hy := Lib.hid hy
          replace e := Lib.hid e
          replace ht := Lib.hid ht
          go_upto_region 6 with fail
          refine wp_region_quiet_below (by kernel_rfl) (by kernel_rfl) ?_
          repeat (go_big_quiet_step ((go_at_call 19; exact Calls.regrown_of (hsa.out _ (below_regrown _ _ _)))))
          refine wpQuiet_nil ?_
          intro w2 hw2
          have hb2 := below_of_regrown hw2
          clear hw2
          have hz2 := hb2.size
          go_wp2_with fail
          go_roundw
          case rel => exact ⟨k + 1, hkl, by go_num, hnx.out, (by repeat (first | (with_reducible exact Below.refl _ _) | (with_reducible refine Below.drew ?_) | (with_reducible refine below_drewN ?_ _) | ((with_reducible refine Below.alloc ?_ ?_ _); rotate_left; focus ((try simp) <;> omega)) | ((with_reducible refine Below.setCell ?_ ?_ _); rotate_left; focus ((try simp) <;> omega)) | ((with_reducible refine Below.trans ?_ (Below.mono (by assumption) ?_)); rotate_left; focus ((try simp) <;> omega))))⟩
          case measure => simp [intOf]; omega
        · rw [decide_eq_false e] at hsa0
          have hsa := Lib.hid hsa0
          clear hsa0
          have hf : Hid (R = false) := Lib.hid (by rw [← hR.out]; exact decide_eq_false (map_at_ne hx hy e))
          replace hx := Lib.hid hx
          replace hy := Lib.hid hy
          replace e := Lib.hid e
          replace ht := Lib.hid ht
          go_upto_region 6 with fail
          refine wp_region_quiet_below (by kernel_rfl) (by kernel_rfl) ?_
          repeat (go_big_quiet_step ((go_at_call 19; exact Calls.regrown_of (hsa.out _ (below_regrown _ _ _)))))
          refine wpQuiet_nil ?_
          intro w2 hw2
          have hb2 := below_of_regrown hw2
          clear hw2
          have hz2 := hb2.size
          go_wp2_with fail
          go_ret
          exact ⟨by rw [hf.out]; rfl, (by repeat (first | (with_reducible exact Below.refl _ _) | (with_reducible refine Below.drew ?_) | (with_reducible refine below_drewN ?_ _) | ((with_reducible refine Below.alloc ?_ ?_ _); rotate_left; focus ((try simp) <;> omega)) | ((with_reducible refine Below.setCell ?_ ?_ _); rotate_left; focus ((try simp) <;> omega)) | ((with_reducible refine Below.trans ?_ (Below.mono (by assumption) ?_)); rotate_left; focus ((try simp) <;> omega))))⟩
      · have i1 : ¬ (k : Int) < (L.length : Int) := by omega
        have hf : Hid (R = true) := Lib.hid (by
          rw [← hR.out]
          refine decide_eq_true ?_
          rw [List.take_of_length_le (by omega), List.take_of_length_le (by omega)] at ht
          exact ht)
        replace ht := Lib.hid ht
        go_wp2_with fail
        go_ret
        exact ⟨by rw [hf.out]; rfl, hbw⟩
  · have hf : Hid (R = false) := Lib.hid (by rw [← hR]; exact decide_eq_false (fun h => hlm (by have := congrArg List.length h; rwa [List.length_map, List.length_map] at this)))
    have hz : ¬ (L.length : Int) = (M.length : Int) := by omega
    have hzb : ((L.length : Int) != (M.length : Int)) = true := by rw [bne_iff_ne]; exact hz
    replace hlm := Lib.hid hlm
    replace hR := Lib.hid hR
    clear hL hM hs ht
    go_enter Tryz.func16, Tryz.ntmps16
    go_wp2_with fail
    go_ret
    exact ⟨by rw [hf.out]; rfl, Below.refl _ _⟩

def fewT (l : List Str) (ts : List Tm) : Bool := decide (l.length ≤ 60) && decide (ts.length ≤ 60) && (l.all fun s => decide (s.1.size ≤ 1000)) && ts.all fun t => decide (t.name.1.size ≤ 1000)
theorem fewT_mild {l : List Str} {ts : List Tm} (h : fewT l ts = true) : l.length ≤ 60 ∧ ts.length ≤ 60 ∧ (∀ s ∈ l, s.1.size ≤ 1000) ∧ ∀ t ∈ ts, t.name.1.size ≤ 1000 := by
  unfold fewT at h
  simp only [Bool.and_eq_true, decide_eq_true_eq, List.all_eq_true] at h
  exact ⟨h.1.1.1, h.1.1.2, h.1.2, h.2⟩
theorem all_no {α : Type} {p : α → Bool} {l : List α} {k : Nat} {x : α} (hx : l[k]? = some x) (h : p x = false) : l.all p = false := by
  rw [List.all_eq_false]
  exact ⟨x, List.mem_of_getElem? hx, by rw [h]; decide⟩
set_option maxRecDepth 100000 in
set_option maxHeartbeats 4000000 in
theorem few_any (A B : Option Addr) (c d : Nat) (l : List Str) (ts : List Tm) (w : World) (hr : Rw sE 1 w w.heap.size A l) (hn : l.length ≤ 9223372036854775807) (ht : Rw tmE 2 w w.heap.size B ts) (hm : ts.length ≤ 9223372036854775807) :
    Calls Tryz.prog 8 #[.slice A l.length c, .slice B ts.length d] w fun e w' => e = .returned (.bool (fewT l ts)) ∧ w = w' := by
  replace hr := Lib.hid hr
  replace ht := Lib.hid ht
  obtain ⟨R, hR⟩ : ∃ R, fewT l ts = R := ⟨_, rfl⟩
  rw [hR]
  unfold fewT at hR
  by_cases h1 : 60 < l.length
  · have hf : Hid (R = false) := Lib.hid (by rw [← hR, decide_eq_false (show ¬ l.length ≤ 60 by omega)]; rfl)
    have i1 : (60 : Int) < (l.length : Int) := by omega
    replace hR := Lib.hid hR
    go_enter Tryz.func8, Tryz.ntmps8
    go_wp2_with fail
    go_ret
    exact ⟨by rw [hf.out]; rfl, rfl⟩
  by_cases h2 : 60 < ts.length
  · have hf : Hid (R = false) := Lib.hid (by rw [← hR, decide_eq_false (show ¬ ts.length ≤ 60 by omega)]; simp)
    have i1 : ¬ (60 : Int) < (l.length : Int) := by omega
    have i2 : (60 : Int) < (ts.length : Int) := by omega
    replace hR := Lib.hid hR
    go_enter Tryz.func8, Tryz.ntmps8
    go_wp2_with fail
    go_ret
    exact ⟨by rw [hf.out]; rfl, rfl⟩
  rw [decide_eq_true (show l.length ≤ 60 by omega), decide_eq_true (show ts.length ≤ 60 by omega), Bool.true_and, Bool.true_and] at hR
  have i1 : ¬ (60 : Int) < (l.length : Int) := by omega
  have i2 : ¬ (60 : Int) < (ts.length : Int) := by omega
  have hno : Hid (∀ (k : Nat) (s : Str), l[k]? = some s → 1000 < s.1.size → R = false) := Lib.hid fun k s hs h => by rw [← hR, all_no hs (by simpa using h)]; rfl
  have hno2 : Hid (∀ (k : Nat) (t : Tm), ts[k]? = some t → 1000 < t.name.1.size → R = false) := Lib.hid fun k s hs h => by rw [← hR, all_no (l := ts) hs (by simpa using h), Bool.and_false]
  have hyes : Hid ((∀ s ∈ l, s.1.size ≤ 1000) → (∀ t ∈ ts, t.name.1.size ≤ 1000) → R = true) := Lib.hid fun a b => by rw [← hR, List.all_eq_true.2 (fun s hs => by simpa using a s hs), List.all_eq_true.2 (fun t ht => by simpa using b t ht)]; rfl
  replace hR := Lib.hid hR
  go_enter Tryz.func8, Tryz.ntmps8
  go_wp2_with fail
  go_loop [5] (fun vi => ∃ k : Nat, k ≤ l.length ∧ vi = .int .i64 (k : Int) ∧ ∀ s ∈ l.take k, s.1.size ≤ 1000) (fun vi => l.length - (intOf vi).toNat)
  case atStart => exact ⟨0, Nat.zero_le _, rfl, by simp⟩
  case round =>
    obtain ⟨k, hk, rfl, hall⟩ := hrel
    by_cases hkl : k < l.length
    · obtain ⟨s, hs⟩ := get_some hkl
      obtain ⟨g, o, rfl, hg, hq⟩ := hr.out (by omega)
      have q0 := hq k s hs 0 (.string s.1) rfl
      rw [Nat.add_zero, Nat.mul_one] at q0
      clear hq
      have j0 : (0 : Int) ≤ (k : Int) := by omega
      have j1 : (k : Int) < (l.length : Int) := by omega
      by_cases h3 : 1000 < s.1.size
      · have hf := Lib.hid (hno.out k s hs h3)
        have j2 : (1000 : Int) < (s.1.size : Int) := by omega
        replace hs := Lib.hid hs
        replace hall := Lib.hid hall
        go_wp2_with fail
        go_ret
        exact ⟨by rw [hf.out]; rfl, rfl⟩
      · have j2 : ¬ (1000 : Int) < (s.1.size : Int) := by omega
        have hnx : Hid (∀ s ∈ l.take (k + 1), s.1.size ≤ 1000) := Lib.hid (by
          rw [List.take_add_one, hs]
          intro x hx
          rcases List.mem_append.1 hx with h | h
          · exact hall x h
          · obtain rfl : x = s := by simpa using h
            omega)
        replace hs := Lib.hid hs
        replace hall := Lib.hid hall
        go_wp2_with fail
        go_round
        case rel => exact ⟨k + 1, hkl, by go_num, hnx.out⟩
        case measure => simp [intOf]; omega
    · have j1 : ¬ (k : Int) < (l.length : Int) := by omega
      rw [List.take_of_length_le (by omega)] at hall
      have hA := Lib.hid hall
      clear hall
      go_wp2_with fail
      go_loop [6] (fun vi => ∃ k : Nat, k ≤ ts.length ∧ vi = .int .i64 (k : Int) ∧ ∀ s ∈ ts.take k, s.name.1.size ≤ 1000) (fun vi => ts.length - (intOf vi).toNat)
      case atStart => exact ⟨0, Nat.zero_le _, rfl, by simp⟩
      case round =>
        obtain ⟨j, hj, rfl, hall⟩ := hrel
        by_cases hjl : j < ts.length
        · obtain ⟨t, hs⟩ := get_some hjl
          obtain ⟨g, o, rfl, hg, hq⟩ := ht.out (by omega)
          have q0 := hq j t hs 0 (.string t.name.1) rfl
          rw [Nat.add_zero] at q0
          clear hq
          have j0 : (0 : Int) ≤ (j : Int) := by omega
          have j1 : (j : Int) < (ts.length : Int) := by omega
          by_cases h3 : 1000 < t.name.1.size
          · have hf := Lib.hid (hno2.out j t hs h3)
            have j2 : (1000 : Int) < (t.name.1.size : Int) := by omega
            replace hs := Lib.hid hs
            replace hall := Lib.hid hall
            go_wp2_with fail
            go_ret
            exact ⟨by rw [hf.out]; rfl, rfl⟩
          · have j2 : ¬ (1000 : Int) < (t.name.1.size : Int) := by omega
            have hnx : Hid (∀ s ∈ ts.take (j + 1), s.name.1.size ≤ 1000) := Lib.hid (by
              rw [List.take_add_one, hs]
              intro x hx
              rcases List.mem_append.1 hx with h | h
              · exact hall x h
              · obtain rfl : x = t := by simpa using h
                omega)
            replace hs := Lib.hid hs
            replace hall := Lib.hid hall
            go_wp2_with fail
            go_round
            case rel => exact ⟨j + 1, hjl, by go_num, hnx.out⟩
            case measure => simp [intOf]; omega
        · have j1 : ¬ (j : Int) < (ts.length : Int) := by omega
          rw [List.take_of_length_le (by omega)] at hall
          have hf := Lib.hid (hyes.out hA.out hall)
          clear hall
          go_wp2_with fail
          go_ret
          exact ⟨by rw [hf.out]; rfl, rfl⟩
end Go.Proofs.YtdjepnilmgembaaGreatDoor
