/-
  The walks of workers: times and tokens, by the program and the reference.
-/
import Derived.Test.YtnahbfmbmpoljaaDoorLab5
import Derived.Test.YtnahbfmbmpoljaaDoorWkSt2


namespace Go.Proofs.YtnahbfmbmpoljaaDoor
open Go.RowKit

def timeB (n : Int) : Bool := decide (0 ≤ n) && decide (n ≤ 1125899906842624)
def tokB (l : List I64) (i : Nat) : Bool := decide (1 ≤ l[i]!.1) && decide (l[i]!.1 ≤ 1125899906842624) && (decide (i = 0) || decide (l[i - 1]!.1 < l[i]!.1))
def toksB (l : List I64) : Bool := (List.range l.length).all (tokB l)
def rangeB (x : Work) : Bool := decide (0 ≤ x.trust.1) && decide (x.trust.1 ≤ 2) && decide (1 ≤ x.slots.1) && decide (x.slots.1 ≤ 64) && decide (0 ≤ x.phase.1) && decide (x.phase.1 ≤ 3) && timeB x.beat.1 && timeB x.till.1
def tillB (x : Work) : Bool := !((decide (x.till.1 ≠ 0) && decide (x.phase.1 ≠ 2)) || (decide (x.phase.1 = 2) && !x.pre))
def wErr (x : Work) : Int := if nameB x.id.1 = false then 10 else if labE x.labs ≠ 0 then labE x.labs else if rangeB x = false then 2 else if tillB x = false then 16 else if toksB x.toks = false then 22 else if x.slots.1 < (x.toks.length : Int) then 15 else 0

theorem time_any (n : Int) (w : World) : Calls Tryd.prog 27 #[.int .i64 n] w fun e w' => e = .returned (.bool (timeB n)) ∧ w = w' := by
  unfold timeB
  by_cases h0 : 0 ≤ n
  · rw [decide_eq_true h0]
    go_enter Tryd.func27, Tryd.ntmps27
    go_wp2_with fail
    go_ret
    exact ⟨rfl, rfl⟩
  · rw [decide_eq_false h0]
    have h1 : ¬ n ≥ 0 := h0
    go_enter Tryd.func27, Tryd.ntmps27
    go_wp2_with fail
    go_ret
    exact ⟨rfl, rfl⟩
theorem inside_any (n a b : Int) (w : World) : Calls Tryd.prog 31 #[.int .i64 n, .int .i64 a, .int .i64 b] w fun e w' => e = .returned (.bool (decide (a ≤ n) && decide (n ≤ b))) ∧ w = w' := by
  by_cases h0 : a ≤ n
  · rw [decide_eq_true h0]
    go_enter Tryd.func31, Tryd.ntmps31
    go_wp2_with fail
    go_ret
    exact ⟨rfl, rfl⟩
  · rw [decide_eq_false h0]
    have h1 : ¬ n ≥ a := h0
    go_enter Tryd.func31, Tryd.ntmps31
    go_wp2_with fail
    go_ret
    exact ⟨rfl, rfl⟩
theorem rtime_any (n : Int) (w : World) : Calls Tryd.prog 32 #[.int .i64 n] w fun e w' => e = .returned (.bool (timeB n)) ∧ w = w' := by
  have h := fun W => inside_any n 0 1125899906842624 W
  have h2 : (decide (0 ≤ n) && decide (n ≤ 1125899906842624)) = timeB n := rfl
  rw [h2] at h
  generalize timeB n = b at h
  go_enter Tryd.func32, Tryd.ntmps32
  go_wp2_with (go_at_call 31; go_must (refine (h _).mono ?_; rintro e w1 ⟨rfl, rfl⟩))
  go_ret
  exact ⟨rfl, rfl⟩

theorem Rw.int {w : World} {B : Nat} {A : Option Addr} {l : List I64} (h : Rw iE 1 w B A l) (hl : 0 < l.length) : ∃ g o, A = some ⟨g, o, none⟩ ∧ g < B ∧ ∀ k y, l[k]? = some y → w.cell? ⟨g, o + k, none⟩ = some (.int .i64 y.1) := by
  obtain ⟨g, o, e, hg, hc⟩ := h hl
  refine ⟨g, o, e, hg, fun k y hy => ?_⟩
  have h2 := hc k y hy 0 (.int .i64 y.1) rfl
  rw [Nat.mul_one, Nat.add_zero] at h2
  exact h2
theorem toks_no {l : List I64} {k : Nat} (hk : k < l.length) (h : tokB l k = false) : toksB l = false := by
  unfold toksB
  rw [List.all_eq_false]
  exact ⟨k, List.mem_range.2 hk, by rw [h]; decide⟩
theorem toks_yes {l : List I64} (h : ∀ j, j < l.length → tokB l j = true) : toksB l = true := by
  unfold toksB
  rw [List.all_eq_true]
  exact fun j hj => h j (List.mem_range.1 hj)
set_option maxRecDepth 100000 in
set_option maxHeartbeats 4000000 in
theorem tokens_any (A : Option Addr) (c : Nat) (l : List I64) (w : World) (hr : Rw iE 1 w w.heap.size A l) (hn : l.length ≤ 9223372036854775807) :
    Calls Tryd.prog 28 #[.slice A l.length c] w fun e w' => e = .returned (.bool (toksB l)) ∧ w = w' := by
  replace hr := Lib.hid hr
  go_enter Tryd.func28, Tryd.ntmps28
  go_wp2_with fail
  go_loop [7] (fun vi => ∃ k : Nat, k ≤ l.length ∧ vi = .int .i64 (k : Int) ∧ ∀ j, j < k → tokB l j = true) (fun vi => l.length - (intOf vi).toNat)
  case atStart => exact ⟨0, Nat.zero_le _, rfl, fun j h => absurd h (by omega)⟩
  case round =>
    obtain ⟨k, hk, rfl, hok⟩ := hrel
    replace hok := Lib.hid hok
    by_cases hkl : k < l.length
    · obtain ⟨y, hy⟩ := get_some hkl
      obtain ⟨g, o, rfl, hg, hc⟩ := hr.out.int (by omega)
      have q := hc k y hy
      have i0 : (0 : Int) ≤ (k : Int) := by omega
      have i1 : (k : Int) < (l.length : Int) := by omega
      have htk0 : tokB l k = (decide (1 ≤ y.1) && decide (y.1 ≤ 1125899906842624) && (decide (k = 0) || decide (l[k - 1]!.1 < y.1))) := by unfold tokB; rw [get_bang hy]
      by_cases h1 : y.1 < 1
      · have htk : tokB l k = false := by rw [htk0, decide_eq_false (show ¬ 1 ≤ y.1 by omega)]; simp
        clear htk0 hc
        replace hy := Lib.hid hy
        have hfin := Lib.hid (toks_no hkl htk)
        clear htk
        go_wp2_with fail
        go_ret
        exact ⟨ret_bool hfin.out.symm, rfl⟩
      by_cases h2 : y.1 > 1125899906842624
      · have htk : tokB l k = false := by rw [htk0, decide_eq_false (show ¬ y.1 ≤ 1125899906842624 by omega)]; simp
        clear htk0 hc
        replace hy := Lib.hid hy
        have hfin := Lib.hid (toks_no hkl htk)
        clear htk
        go_wp2_with fail
        go_ret
        exact ⟨ret_bool hfin.out.symm, rfl⟩
      rw [decide_eq_true (show 1 ≤ y.1 by omega), decide_eq_true (show y.1 ≤ 1125899906842624 by omega)] at htk0
      by_cases hk0 : k = 0
      · have htk : tokB l k = true := by rw [htk0, decide_eq_true hk0]; simp
        have hkz : ¬ (k : Int) > 0 := by omega
        clear htk0 hc
        replace hy := Lib.hid hy
        replace hk0 := Lib.hid hk0
        have hok2 : Hid (∀ j, j < k + 1 → tokB l j = true) := Lib.hid fun j hj => by
          by_cases e : j = k
          · rw [e]; exact htk
          · exact hok.out j (by omega)
        clear htk
        go_wp2_with fail
        go_round
        case rel => exact ⟨k + 1, hkl, by go_num, hok2.out⟩
        case measure => simp [intOf]; omega
      · obtain ⟨m, hm⟩ : ∃ m, m + 1 = k := ⟨k - 1, by omega⟩
        obtain ⟨x, hx⟩ := get_some (show m < l.length by omega)
        have q1 := hc m x hx
        have m0 : (0 : Int) ≤ (m : Int) := by omega
        have m1 : (m : Int) < (l.length : Int) := by omega
        have hkz : (k : Int) > 0 := by omega
        have hw : IntKind.i64.wrap ((k : Int) - 1) = (m : Int) := by
          rw [show (k : Int) - 1 = (m : Int) by omega]; exact IntWalk.i64_in _ (by omega)
        rw [decide_eq_false hk0, show k - 1 = m by omega, get_bang hx] at htk0
        clear hc
        replace hy := Lib.hid hy
        replace hx := Lib.hid hx
        replace hm := Lib.hid hm
        replace hk0 := Lib.hid hk0
        by_cases h3 : x.1 < y.1
        · have htk : tokB l k = true := by rw [htk0, decide_eq_true h3]; rfl
          have h4 : ¬ x.1 ≥ y.1 := by omega
          clear htk0
          have hok2 : Hid (∀ j, j < k + 1 → tokB l j = true) := Lib.hid fun j hj => by
            by_cases e : j = k
            · rw [e]; exact htk
            · exact hok.out j (by omega)
          clear htk
          go_wp2_with fail
          go_round
          case rel => exact ⟨k + 1, hkl, by go_num, hok2.out⟩
          case measure => simp [intOf]; omega
        · have htk : tokB l k = false := by rw [htk0, decide_eq_false h3]; rfl
          have h4 : x.1 ≥ y.1 := by omega
          clear htk0
          have hfin := Lib.hid (toks_no hkl htk)
          clear htk
          go_wp2_with fail
          go_ret
          exact ⟨ret_bool hfin.out.symm, rfl⟩
    · have i1 : ¬ (k : Int) < (l.length : Int) := by omega
      have hfin := Lib.hid (toks_yes fun j hj => hok.out j (by omega))
      go_wp2_with fail
      go_ret
      exact ⟨ret_bool hfin.out.symm, rfl⟩
end Go.Proofs.YtnahbfmbmpoljaaDoor
