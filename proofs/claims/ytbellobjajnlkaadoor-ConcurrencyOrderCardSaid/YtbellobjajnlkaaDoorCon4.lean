/-
  The walks of groups: where a group, where a job is, by the program, the reference and the laws.
-/
import Derived.Test.YtbellobjajnlkaaDoorCon012
import Derived.Test.YtbellobjajnlkaaDoorCon3


namespace Go.Proofs.YtbellobjajnlkaaDoor
open Go.RowKit
attribute [local go_sem ↓] eq_ref ne_ref

def hasR (l : List JRef) (r : JRef) : Bool := decide (r ∈ l)
theorem has_yes {l : List JRef} {r : JRef} {k : Nat} (h : l[k]? = some r) : hasR l r = true := decide_eq_true (List.mem_of_getElem? h)
theorem has_no {l : List JRef} {r : JRef} (h : ∀ j y, j < l.length → l[j]? = some y → y ≠ r) : hasR l r = false := by
  refine decide_eq_false fun hm => ?_
  obtain ⟨j, hj⟩ := List.getElem?_of_mem hm
  exact h j r (List.getElem?_eq_some_iff.1 hj).1 hj rfl
theorem idx_no {l : List JRef} {r : JRef} (h : ∀ j y, j < l.length → l[j]? = some y → y ≠ r) : idxI l r = -1 := idx_none fun hm => by
  obtain ⟨j, hj⟩ := List.getElem?_of_mem hm
  exact h j r (List.getElem?_eq_some_iff.1 hj).1 hj rfl
theorem rfind_any (A : Option Addr) (c : Nat) (l : List Grp) (p : Str) (w : World) (hr : Rw grpE 4 w w.heap.size A l) (hn : l.length ≤ 9223372036854775807) :
    Calls Tryd.prog 18 #[.slice A l.length c, .string p.1] w fun e w' => e = .returned (.int .i64 (findN p (l.map Grp.g))) ∧ w = w' := by
  have hc : Hid (∀ k x, l[k]? = some x → ∃ g o, A = some ⟨g, o, none⟩ ∧ w.cell? ⟨g, o + k * 4, none⟩ = some (.string x.name.1)) := Lib.hid (fun k x hx => by
    have hk := (List.getElem?_eq_some_iff.1 hx).1
    obtain ⟨g, o, e, _, h⟩ := hr (by omega)
    exact ⟨g, o, e, by simpa using h k x hx 0 (.string x.name.1) rfl⟩)
  clear hr
  obtain ⟨R, hR⟩ : ∃ R, findN p (l.map Grp.g) = R := ⟨_, rfl⟩
  rw [hR]
  replace hR := Lib.hid hR
  go_enter Tryd.func18, Tryd.ntmps18
  go_wp2_with fail
  go_loop [5] (fun vi => ∃ k : Nat, k ≤ l.length ∧ vi = .int .i64 (k : Int) ∧ ((l.map Grp.g).take k).all (fun y => !isName p y) = true) (fun vi => l.length - (intOf vi).toNat)
  case atStart => exact ⟨0, Nat.zero_le _, rfl, rfl⟩
  case round =>
    obtain ⟨k, hk, rfl, ht⟩ := hrel
    replace ht := Lib.hid ht
    by_cases hkl : k < l.length
    · obtain ⟨x, hx⟩ := get_some hkl
      obtain ⟨g, o, rfl, q⟩ := hc.out k x hx
      have hxm : (l.map Grp.g)[k]? = some x.g := by rw [List.getElem?_map, hx]; rfl
      have i0 : (0 : Int) ≤ (k : Int) := by omega
      have i1 : (k : Int) < (l.length : Int) := by omega
      rcases hs : isName p x.g with _ | _
      · have hsb : (x.name.1.toList == p.1.toList) = false := hs
        replace hx := Lib.hid hx
        replace hxm := Lib.hid hxm
        replace hs := Lib.hid hs
        go_wp2_with fail
        go_round
        case rel => exact ⟨k + 1, by omega, by go_num, by rw [List.take_add_one, hxm.out, List.all_append, ht.out]; simp [hs.out]⟩
        case measure => simp [intOf]; omega
      · have hsb : (x.name.1.toList == p.1.toList) = true := hs
        have hf : Hid (R = k) := Lib.hid (by rw [← hR.out]; exact findN_at ht.out hxm hs)
        replace hx := Lib.hid hx
        replace hxm := Lib.hid hxm
        replace hs := Lib.hid hs
        go_wp2_with fail
        go_ret
        exact ⟨ret_int hf.out.symm, rfl⟩
    · have i1 : ¬ (k : Int) < (l.length : Int) := by omega
      have hf : Hid (R = -1) := Lib.hid (by rw [← hR.out]; exact findN_none (by have h := ht.out; rwa [List.take_of_length_le (by simp; omega)] at h))
      go_wp2_with fail
      go_ret
      exact ⟨ret_int hf.out.symm, rfl⟩

set_option maxRecDepth 100000 in
set_option maxHeartbeats 2000000 in
theorem rhas_any (A : Option Addr) (c : Nat) (l : List JRef) (r : JRef) (w : World) (hr : Rw jRefE 2 w w.heap.size A l) (hn : l.length ≤ 9223372036854775807) :
    Calls Tryd.prog 38 #[.slice A l.length c, .agg #[.string r.run.1, .string r.job.1]] w fun e w' => e = .returned (.bool (hasR l r)) ∧ Below w.heap.size w w' := by
  obtain ⟨W0, hW0⟩ : ∃ W, w.alloc (.cells #[.string r.run.1, .string r.job.1] 29) = W := ⟨_, rfl⟩
  have hb0 : Below w.heap.size w W0 := by rw [← hW0]; exact (Below.refl _ _).alloc (Nat.le_refl _) _
  have hz0 : W0.heap.size = w.heap.size + 1 := by rw [← hW0]; simp
  have b0 := box_cells w #[.string r.run.1, .string r.job.1] 29 0 (.string r.run.1) rfl
  have b1 := box_cells w #[.string r.run.1, .string r.job.1] 29 1 (.string r.job.1) rfl
  rw [hW0] at b0 b1
  replace hr := Lib.hid hr
  obtain ⟨R, hR⟩ : ∃ R, hasR l r = R := ⟨_, rfl⟩
  rw [hR]
  replace hR := Lib.hid hR
  go_enter Tryd.func38, Tryd.ntmps38
  go_wp2_with fail
  clear hW0
  go_loopw [5] (fun vi wr => ∃ k n : Nat, k ≤ l.length ∧ vi = .int .i64 (k : Int) ∧ (∀ j y, j < k → l[j]? = some y → y ≠ r) ∧ wr = W0.drewN n) (fun vi _ => l.length - (intOf vi).toNat)
  case atStart => exact ⟨0, 0, Nat.zero_le _, rfl, fun j y hj => absurd hj (by omega), rfl⟩
  case round =>
    obtain ⟨k, n, hk, rfl, ht, rfl⟩ := hrel
    replace ht := Lib.hid ht
    by_cases hlt : k < l.length
    · obtain ⟨x, hx⟩ := get_some (show k < l.length by omega)
      obtain ⟨g, o, rfl, hg, q⟩ := hr.out (by omega)
      have q0 : W0.cell? ⟨g, o + k * 2, none⟩ = some (.string x.run.1) := (hb0.cell (p := ⟨g, o + k * 2, none⟩) hg).trans (q k x hx 0 (.string x.run.1) rfl)
      have q1 : W0.cell? ⟨g, o + k * 2 + 1, none⟩ = some (.string x.job.1) := (hb0.cell (p := ⟨g, o + k * 2 + 1, none⟩) hg).trans (q k x hx 1 (.string x.job.1) rfl)
      clear q
      have i0 : (0 : Int) ≤ (k : Int) := by omega
      have i1 : (k : Int) < (l.length : Int) := by omega
      have hq := refB_iff x.run x.job r.run r.job
      by_cases he : x = r
      · have hs : refB x.run.1 x.job.1 r.run.1 r.job.1 = true := by rw [hq]; exact decide_eq_true he
        have hf : Hid (R = true) := Lib.hid (by rw [← hR.out]; (subst he; exact has_yes hx))
        replace hx := Lib.hid hx
        replace he := Lib.hid he
        clear hq
        go_wp2_with fail
        go_quiet (fail)
        go_wp2_with fail
        go_ret
        exact ⟨by rw [hf.out]; rfl, below_drewN (below_drewN hb0 _) _⟩
      · have hs : refB x.run.1 x.job.1 r.run.1 r.job.1 = false := by rw [hq]; exact decide_eq_false he
        have hn2 : Hid (∀ j y, j < k + 1 → l[j]? = some y → y ≠ r) := Lib.hid fun j y hj hy => by
          by_cases e : j = k
          · subst e
            rw [hx] at hy
            obtain rfl : x = y := by simpa using hy
            exact he
          · exact ht.out j y (by omega) hy
        replace hx := Lib.hid hx
        replace he := Lib.hid he
        clear hq
        go_wp2_with fail
        go_quiet (fail)
        go_wp2_with fail
        go_roundw
        case rel => exact ⟨k + 1, _, by omega, by go_num, hn2.out, by first | rfl | exact World.drewN_drewN _ _ _⟩
        case measure => simp [intOf]; omega
    · have i1 : ¬ (k : Int) < (l.length : Int) := by omega
      have hf : Hid (R = false) := Lib.hid (by rw [← hR.out]; exact has_no fun j y hj hy => ht.out j y (by omega) hy)
      go_wp2_with fail
      go_ret
      exact ⟨by rw [hf.out]; rfl, below_drewN hb0 _⟩
set_option maxRecDepth 100000 in
set_option maxHeartbeats 2000000 in
theorem index_any (A : Option Addr) (c : Nat) (l : List JRef) (r : JRef) (w : World) (hr : Rw jRefE 2 w w.heap.size A l) (hn : l.length ≤ 9223372036854775807) :
    Calls Tryd.prog 19 #[.slice A l.length c, .agg #[.string r.run.1, .string r.job.1]] w fun e w' => e = .returned (.int .i64 (idxI l r)) ∧ Below w.heap.size w w' := by
  obtain ⟨W0, hW0⟩ : ∃ W, w.alloc (.cells #[.string r.run.1, .string r.job.1] 29) = W := ⟨_, rfl⟩
  have hb0 : Below w.heap.size w W0 := by rw [← hW0]; exact (Below.refl _ _).alloc (Nat.le_refl _) _
  have hz0 : W0.heap.size = w.heap.size + 1 := by rw [← hW0]; simp
  have b0 := box_cells w #[.string r.run.1, .string r.job.1] 29 0 (.string r.run.1) rfl
  have b1 := box_cells w #[.string r.run.1, .string r.job.1] 29 1 (.string r.job.1) rfl
  rw [hW0] at b0 b1
  replace hr := Lib.hid hr
  obtain ⟨R, hR⟩ : ∃ R, idxI l r = R := ⟨_, rfl⟩
  rw [hR]
  replace hR := Lib.hid hR
  go_enter Tryd.func19, Tryd.ntmps19
  go_wp2_with fail
  clear hW0
  go_loopw [5] (fun vi wr => ∃ k n : Nat, k ≤ l.length ∧ vi = .int .i64 (k : Int) ∧ (∀ j y, j < k → l[j]? = some y → y ≠ r) ∧ wr = W0.drewN n) (fun vi _ => l.length - (intOf vi).toNat)
  case atStart => exact ⟨0, 0, Nat.zero_le _, rfl, fun j y hj => absurd hj (by omega), rfl⟩
  case round =>
    obtain ⟨k, n, hk, rfl, ht, rfl⟩ := hrel
    replace ht := Lib.hid ht
    by_cases hlt : k < l.length
    · obtain ⟨x, hx⟩ := get_some (show k < l.length by omega)
      obtain ⟨g, o, rfl, hg, q⟩ := hr.out (by omega)
      have q0 : W0.cell? ⟨g, o + k * 2, none⟩ = some (.string x.run.1) := (hb0.cell (p := ⟨g, o + k * 2, none⟩) hg).trans (q k x hx 0 (.string x.run.1) rfl)
      have q1 : W0.cell? ⟨g, o + k * 2 + 1, none⟩ = some (.string x.job.1) := (hb0.cell (p := ⟨g, o + k * 2 + 1, none⟩) hg).trans (q k x hx 1 (.string x.job.1) rfl)
      clear q
      have i0 : (0 : Int) ≤ (k : Int) := by omega
      have i1 : (k : Int) < (l.length : Int) := by omega
      have hq := refB_iff x.run x.job r.run r.job
      by_cases he : x = r
      · have hs : refB x.run.1 x.job.1 r.run.1 r.job.1 = true := by rw [hq]; exact decide_eq_true he
        have hf : Hid (R = (k : Int)) := Lib.hid (by rw [← hR.out]; (subst he; exact idx_at ht.out hx))
        replace hx := Lib.hid hx
        replace he := Lib.hid he
        clear hq
        go_wp2_with fail
        go_quiet (fail)
        go_wp2_with fail
        go_ret
        exact ⟨by rw [hf.out]; rfl, below_drewN (below_drewN hb0 _) _⟩
      · have hs : refB x.run.1 x.job.1 r.run.1 r.job.1 = false := by rw [hq]; exact decide_eq_false he
        have hn2 : Hid (∀ j y, j < k + 1 → l[j]? = some y → y ≠ r) := Lib.hid fun j y hj hy => by
          by_cases e : j = k
          · subst e
            rw [hx] at hy
            obtain rfl : x = y := by simpa using hy
            exact he
          · exact ht.out j y (by omega) hy
        replace hx := Lib.hid hx
        replace he := Lib.hid he
        clear hq
        go_wp2_with fail
        go_quiet (fail)
        go_wp2_with fail
        go_roundw
        case rel => exact ⟨k + 1, _, by omega, by go_num, hn2.out, by first | rfl | exact World.drewN_drewN _ _ _⟩
        case measure => simp [intOf]; omega
    · have i1 : ¬ (k : Int) < (l.length : Int) := by omega
      have hf : Hid (R = -1) := Lib.hid (by rw [← hR.out]; exact idx_no fun j y hj hy => ht.out j y (by omega) hy)
      go_wp2_with fail
      go_ret
      exact ⟨by rw [hf.out]; rfl, below_drewN hb0 _⟩

theorem lastI_take {l : List JRef} {k : Nat} {x r : JRef} (hx : l[k]? = some x) : lastI (l.take (k + 1)) r = if x = r then (k : Int) else lastI (l.take k) r := by
  have hk := (List.getElem?_eq_some_iff.1 hx).1
  rw [List.take_add_one, hx]
  show lastI (l.take k ++ [x]) r = _
  rw [last_snoc, List.length_take, Nat.min_eq_left (by omega)]
set_option maxRecDepth 100000 in
set_option maxHeartbeats 2000000 in
theorem last_any (A : Option Addr) (c : Nat) (l : List JRef) (r : JRef) (w : World) (hr : Rw jRefE 2 w w.heap.size A l) (hn : l.length ≤ 9223372036854775807) :
    Calls Tryd.prog 29 #[.slice A l.length c, .agg #[.string r.run.1, .string r.job.1]] w fun e w' => e = .returned (.int .i64 (lastI l r)) ∧ Below w.heap.size w w' := by
  obtain ⟨W0, hW0⟩ : ∃ W, w.alloc (.cells #[.string r.run.1, .string r.job.1] 29) = W := ⟨_, rfl⟩
  have hb0 : Below w.heap.size w W0 := by rw [← hW0]; exact (Below.refl _ _).alloc (Nat.le_refl _) _
  have hz0 : W0.heap.size = w.heap.size + 1 := by rw [← hW0]; simp
  have b0 := box_cells w #[.string r.run.1, .string r.job.1] 29 0 (.string r.run.1) rfl
  have b1 := box_cells w #[.string r.run.1, .string r.job.1] 29 1 (.string r.job.1) rfl
  rw [hW0] at b0 b1
  replace hr := Lib.hid hr
  obtain ⟨R, hR⟩ : ∃ R, lastI l r = R := ⟨_, rfl⟩
  rw [hR]
  replace hR := Lib.hid hR
  go_enter Tryd.func29, Tryd.ntmps29
  go_wp2_with fail
  clear hW0
  go_loopw [5] (fun vi wr => ∃ (k n : Nat), k ≤ l.length ∧ vi = .int .i64 ((k : Int) - 1) ∧ lastI (l.take k) r = R ∧ wr = W0.drewN n) (fun vi _ => (intOf vi + 1).toNat)
  case atStart => exact ⟨l.length, 0, Nat.le_refl _, rfl, by rw [List.take_length]; exact hR.out, rfl⟩
  case round =>
    obtain ⟨k', n, hk, rfl, ht, rfl⟩ := hrel
    replace ht := Lib.hid ht
    rcases k' with _ | k
    · have hf : Hid (R = -1) := Lib.hid (by rw [← ht.out]; rfl)
      go_wp2_with fail
      go_ret
      exact ⟨by rw [hf.out]; rfl, below_drewN hb0 _⟩
    · obtain ⟨x, hx⟩ := get_some (show k < l.length by omega)
      obtain ⟨g, o, rfl, hg, q⟩ := hr.out (by omega)
      have q0 : W0.cell? ⟨g, o + k * 2, none⟩ = some (.string x.run.1) := (hb0.cell (p := ⟨g, o + k * 2, none⟩) hg).trans (q k x hx 0 (.string x.run.1) rfl)
      have q1 : W0.cell? ⟨g, o + k * 2 + 1, none⟩ = some (.string x.job.1) := (hb0.cell (p := ⟨g, o + k * 2 + 1, none⟩) hg).trans (q k x hx 1 (.string x.job.1) rfl)
      clear q
      have ek : ((k + 1 : Nat) : Int) - 1 = (k : Int) := by omega
      rw [ek]
      have i0 : (0 : Int) ≤ (k : Int) := by omega
      have i1 : (k : Int) < (l.length : Int) := by omega
      have hq := refB_iff x.run x.job r.run r.job
      have hst := lastI_take (r := r) hx
      rw [ht.out] at hst
      clear ek
      by_cases he : x = r
      · have hs : refB x.run.1 x.job.1 r.run.1 r.job.1 = true := by rw [hq]; exact decide_eq_true he
        have hf : Hid (R = (k : Int)) := Lib.hid (by rw [hst, if_pos he])
        replace hx := Lib.hid hx
        replace he := Lib.hid he
        clear hq hst
        go_wp2_with fail
        go_quiet (fail)
        go_wp2_with fail
        go_ret
        exact ⟨by rw [hf.out]; rfl, below_drewN (below_drewN hb0 _) _⟩
      · have hs : refB x.run.1 x.job.1 r.run.1 r.job.1 = false := by rw [hq]; exact decide_eq_false he
        have hn2 : Hid (lastI (l.take k) r = R) := Lib.hid (by rw [hst, if_neg he])
        replace hx := Lib.hid hx
        replace he := Lib.hid he
        clear hq hst
        go_wp2_with fail
        go_quiet (fail)
        go_wp2_with fail
        go_roundw
        case rel => exact ⟨k, _, by omega, by go_num, hn2.out, by first | rfl | exact World.drewN_drewN _ _ _⟩
        case measure => simp [intOf] <;> omega
theorem enter1_any (x r : JRef) (b : Nat) (w : World) (b0 : w.cell? ⟨b, 0, none⟩ = some (.string r.run.1)) (b1 : w.cell? ⟨b, 1, none⟩ = some (.string r.job.1)) :
    Calls Tryd.prog 41 #[.agg #[.string x.run.1, .string x.job.1], .pointer (some ⟨b, 0, none⟩)] w fun e w' => e = .returned (.bool (decide (x = r))) ∧ Below w.heap.size w w' := by
  have hlt := World.block_lt_of_cell? _ _ b0
  simp only at hlt
  have ne1 : b ≠ w.heap.size := by omega
  have ne2 : w.heap.size ≠ b := by omega
  have hq := refB_iff x.run x.job r.run r.job
  obtain ⟨D, hD⟩ : ∃ D, decide (x = r) = D := ⟨_, rfl⟩
  have hs : refB x.run.1 x.job.1 r.run.1 r.job.1 = D := hq.trans hD
  rw [hD]
  clear hq
  replace hD := Lib.hid hD
  go_enter Tryd.func41, Tryd.ntmps41
  go_wp2_with fail
  go_ret
  exact ⟨rfl, (by repeat (first | (with_reducible exact Below.refl _ _) | (with_reducible refine Below.drew ?_) | (with_reducible refine below_drewN ?_ _) | ((with_reducible refine Below.alloc ?_ ?_ _); rotate_left; focus ((try simp) <;> omega)) | ((with_reducible refine Below.setCell ?_ ?_ _); rotate_left; focus ((try simp) <;> omega)) | ((with_reducible refine Below.trans ?_ (Below.mono (by assumption) ?_)); rotate_left; focus ((try simp) <;> omega))))⟩
set_option maxRecDepth 100000 in
set_option maxHeartbeats 2000000 in
theorem where_any (A : Option Addr) (c : Nat) (l : List JRef) (r : JRef) (b : Nat) (w : World) (hr : Rw jRefE 2 w w.heap.size A l) (hn : l.length ≤ 9223372036854775807) (hb0 : w.cell? ⟨b, 0, none⟩ = some (.string r.run.1)) (hb1 : w.cell? ⟨b, 1, none⟩ = some (.string r.job.1)) :
    Calls Tryd.prog 40 #[.slice A l.length c, .func (.func 41) #[] #[.pointer (some ⟨b, 0, none⟩)]] w fun e w' => e = .returned (.int .i64 (idxI l r)) ∧ Below w.heap.size w w' := by
  have e45 : ∀ args w, (callFunc 41 args).run Tryd.prog w = .ok (.enter 41 args) w := enters_of Tryd.func41 (by kernel_rfl) rfl
  have hlt := World.block_lt_of_cell? _ _ hb0
  simp only at hlt
  have hcl0 : ∀ (x : JRef) W, Below w.heap.size w W → Calls Tryd.prog 41 #[.agg #[.string x.run.1, .string x.job.1], .pointer (some ⟨b, 0, none⟩)] W fun e w' => e = .returned (.bool (decide (x = r))) ∧ Below W.heap.size W w' := fun x W hb => enter1_any x r b W ((hb.cell (p := ⟨b, 0, none⟩) hlt).trans hb0) ((hb.cell (p := ⟨b, 1, none⟩) hlt).trans hb1)
  replace hr := Lib.hid hr
  obtain ⟨R, hR⟩ : ∃ R, idxI l r = R := ⟨_, rfl⟩
  rw [hR]
  replace hR := Lib.hid hR
  clear hb0 hb1
  go_enter Tryd.func40, Tryd.ntmps40
  go_wp2_with fail
  go_loopw [5, 9] (fun _ vi wr => ∃ k : Nat, k ≤ l.length ∧ vi = .int .i64 (k : Int) ∧ (∀ j y, j < k → l[j]? = some y → y ≠ r) ∧ Below w.heap.size w wr) (fun _ vi _ => l.length - (intOf vi).toNat)
  case atStart => exact ⟨0, Nat.zero_le _, rfl, fun j y hj => absurd hj (by omega), Below.refl _ _⟩
  case round =>
    obtain ⟨k, hk, rfl, ht, hbw⟩ := hrel
    have hz := hbw.size
    replace ht := Lib.hid ht
    by_cases hkl : k < l.length
    · obtain ⟨x, hx⟩ := get_some hkl
      obtain ⟨g, o, rfl, hg, q⟩ := hr.out (by omega)
      have q0 : wr.cell? ⟨g, o + k * 2, none⟩ = some (.string x.run.1) := (hbw.cell (p := ⟨g, o + k * 2, none⟩) hg).trans (q k x hx 0 (.string x.run.1) rfl)
      have q1 : wr.cell? ⟨g, o + k * 2 + 1, none⟩ = some (.string x.job.1) := (hbw.cell (p := ⟨g, o + k * 2 + 1, none⟩) hg).trans (q k x hx 1 (.string x.job.1) rfl)
      clear q
      have i0 : (0 : Int) ≤ (k : Int) := by omega
      have i1 : (k : Int) < (l.length : Int) := by omega
      have hcx := hcl0 x
      by_cases he : x = r
      · have hf : Hid (R = (k : Int)) := Lib.hid (by rw [← hR.out]; subst he; exact idx_at ht.out hx)
        rw [decide_eq_true he] at hcx
        have hcl := Lib.hid hcx
        clear hcx
        replace hx := Lib.hid hx
        replace he := Lib.hid he
        go_wp2_with (go_at_fn 41; go_must (refine (hcl.out _ (by repeat (first | (with_reducible exact Below.refl _ _) | (with_reducible refine Below.drew ?_) | (with_reducible refine below_drewN ?_ _) | ((with_reducible refine Below.alloc ?_ ?_ _); rotate_left; focus ((try simp) <;> omega)) | ((with_reducible refine Below.setCell ?_ ?_ _); rotate_left; focus ((try simp) <;> omega)) | ((with_reducible refine Below.trans ?_ (Below.mono (by assumption) ?_)); rotate_left; focus ((try simp) <;> omega))))).mono ?_; rintro e w2 ⟨rfl, hb2⟩; have hz2 := hb2.size; (try simp at hz2)))
        go_ret
        exact ⟨by rw [hf.out]; rfl, (by repeat (first | (with_reducible exact Below.refl _ _) | (with_reducible refine Below.drew ?_) | (with_reducible refine below_drewN ?_ _) | ((with_reducible refine Below.alloc ?_ ?_ _); rotate_left; focus ((try simp) <;> omega)) | ((with_reducible refine Below.setCell ?_ ?_ _); rotate_left; focus ((try simp) <;> omega)) | ((with_reducible refine Below.trans ?_ (Below.mono (by assumption) ?_)); rotate_left; focus ((try simp) <;> omega))))⟩
      · have hn2 : Hid (∀ j y, j < k + 1 → l[j]? = some y → y ≠ r) := Lib.hid fun j y hj hy => by
          by_cases e : j = k
          · subst e
            rw [hx] at hy
            obtain rfl : x = y := by simpa using hy
            exact he
          · exact ht.out j y (by omega) hy
        rw [decide_eq_false he] at hcx
        have hcl := Lib.hid hcx
        clear hcx
        replace hx := Lib.hid hx
        replace he := Lib.hid he
        go_wp2_with (go_at_fn 41; go_must (refine (hcl.out _ (by repeat (first | (with_reducible exact Below.refl _ _) | (with_reducible refine Below.drew ?_) | (with_reducible refine below_drewN ?_ _) | ((with_reducible refine Below.alloc ?_ ?_ _); rotate_left; focus ((try simp) <;> omega)) | ((with_reducible refine Below.setCell ?_ ?_ _); rotate_left; focus ((try simp) <;> omega)) | ((with_reducible refine Below.trans ?_ (Below.mono (by assumption) ?_)); rotate_left; focus ((try simp) <;> omega))))).mono ?_; rintro e w2 ⟨rfl, hb2⟩; have hz2 := hb2.size; (try simp at hz2)))
        go_roundw
        case rel => exact ⟨k + 1, by omega, by go_num, hn2.out, (by repeat (first | (with_reducible exact Below.refl _ _) | (with_reducible refine Below.drew ?_) | (with_reducible refine below_drewN ?_ _) | ((with_reducible refine Below.alloc ?_ ?_ _); rotate_left; focus ((try simp) <;> omega)) | ((with_reducible refine Below.setCell ?_ ?_ _); rotate_left; focus ((try simp) <;> omega)) | ((with_reducible refine Below.trans ?_ (Below.mono (by assumption) ?_)); rotate_left; focus ((try simp) <;> omega))))⟩
        case measure => simp [intOf]; omega
    · have i1 : ¬ (k : Int) < (l.length : Int) := by omega
      have hf : Hid (R = -1) := Lib.hid (by rw [← hR.out]; exact idx_no fun j y hj hy => ht.out j y (by omega) hy)
      go_wp2_with fail
      go_ret
      exact ⟨by rw [hf.out]; rfl, hbw⟩
end Go.Proofs.YtbellobjajnlkaaDoor
