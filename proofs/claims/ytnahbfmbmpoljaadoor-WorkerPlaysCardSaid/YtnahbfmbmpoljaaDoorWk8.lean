/-
  The walks of workers: whether two workers, and two lists of workers, are the same, by the reference.
-/
import Derived.Test.YtnahbfmbmpoljaaDoorWk6
import Derived.Lib.QuietBelow




namespace Go.Proofs.YtnahbfmbmpoljaaDoor
open Go.RowKit

set_option maxHeartbeats 400000 in
theorem texts_any (A B : Option Addr) (c d : Nat) (a b : List Str) (w : World) (ha : Rw sE 1 w w.heap.size A a) (hb : Rw sE 1 w w.heap.size B b) (hn : a.length ≤ 9223372036854775807) (hm : b.length ≤ 9223372036854775807) :
    Calls Tryd.prog 45 #[.slice A a.length c, .slice B b.length d] w fun e w' => e = .returned (.bool (decide (a = b))) ∧ ∃ n, w' = w.drewN n := by
  by_cases hl : a.length = b.length
  · rcases Nat.eq_zero_or_pos a.length with h0 | h0
    · have e1 : a = [] := List.eq_nil_of_length_eq_zero h0
      have e2 : b = [] := List.eq_nil_of_length_eq_zero (by omega)
      subst e1 e2
      go_enter Tryd.func45, Tryd.ntmps45
      go_wp2_with fail
      go_loopw [5] (fun vi wr => vi = .int .i64 0 ∧ wr = w) (fun _ _ => 0)
      case atStart => exact ⟨rfl, rfl⟩
      case round =>
        obtain ⟨rfl, rfl⟩ := hrel
        go_wp2_with fail
        go_ret
        exact ⟨rfl, 0, rfl⟩
    · obtain ⟨g1, o1, rfl, _, hc1⟩ := ha.str h0
      obtain ⟨g2, o2, rfl, _, hc2⟩ := hb.str (by omega)
      have hl1 : ((a.length : Int) != (b.length : Int)) = false := by rw [hl]; simp
      have hlb : a.length ≤ b.length := Nat.le_of_eq hl
      replace hl := Lib.hid hl
      replace hc1 := Lib.hid hc1
      replace hc2 := Lib.hid hc2
      clear ha hb
      go_enter Tryd.func45, Tryd.ntmps45
      go_wp2_with fail
      go_loopw [5] (fun vi wr => ∃ k n : Nat, k ≤ a.length ∧ vi = .int .i64 (k : Int) ∧ a.take k = b.take k ∧ wr = w.drewN n) (fun vi _ => a.length - (intOf vi).toNat)
      case atStart => exact ⟨0, 0, Nat.zero_le _, rfl, rfl, rfl⟩
      case round =>
        obtain ⟨k, n, hk, rfl, ht, rfl⟩ := hrel
        replace ht := Lib.hid ht
        by_cases hlt : k < a.length
        · obtain ⟨x, hx⟩ := get_some hlt
          obtain ⟨y, hy⟩ := get_some (show k < b.length by omega)
          have q1 := hc1.out k x hx
          have q2 := hc2.out k y hy
          have i0 : (0 : Int) ≤ (k : Int) := by omega
          have i1 : (k : Int) < (a.length : Int) := by omega
          have i2 : (k : Int) < (b.length : Int) := by omega
          by_cases hxy : x = y
          · have t1 := str_eqq hxy
            have ht2 := Lib.hid (take_eq_succ ht.out hx (hxy ▸ hy))
            replace hx := Lib.hid hx
            replace hy := Lib.hid hy
            replace hxy := Lib.hid hxy
            go_wp2_with fail
            go_quiet (fail)
            go_wp2_with fail
            go_roundw
            case rel => exact ⟨k + 1, _, by omega, by go_num, ht2.out, by first | rfl | exact World.drewN_drewN _ _ _⟩
            case measure => simp [intOf]; omega
          · have t1 := str_neq hxy
            have hne : a ≠ b := by rintro rfl; rw [hx] at hy; exact hxy (by simpa using hy)
            replace hne := Lib.hid hne
            replace hx := Lib.hid hx
            replace hy := Lib.hid hy
            replace hxy := Lib.hid hxy
            go_wp2_with fail
            go_quiet (fail)
            go_wp2_with fail
            go_ret
            exact ⟨ret_bool (by rw [decide_eq_false hne.out]), _, World.drewN_drewN _ _ _⟩
        · have he : a = b := by
            have h1 := ht.out
            have h2 := hl.out
            rwa [List.take_of_length_le (by omega), List.take_of_length_le (by omega)] at h1
          replace he := Lib.hid he
          go_wp2_with fail
          go_ret
          exact ⟨ret_bool (by rw [decide_eq_true he.out]), n, rfl⟩
  · have hl1 : ((a.length : Int) != (b.length : Int)) = true := by rw [bne_iff_ne]; omega
    have hne : decide (a = b) = false := decide_eq_false (fun e => hl (by rw [e]))
    rw [hne]
    go_enter Tryd.func45, Tryd.ntmps45
    go_wp2_with fail
    go_ret
    exact ⟨rfl, 0, rfl⟩
set_option maxHeartbeats 400000 in
theorem numbers_any (A B : Option Addr) (c d : Nat) (a : List I64) (w : World) (ha : Rw iE 1 w w.heap.size A a) (hb : Rw iE 1 w w.heap.size B a) (hn : a.length ≤ 9223372036854775807) :
    Calls Tryd.prog 46 #[.slice A a.length c, .slice B a.length d] w fun e w' => e = .returned (.bool true) ∧ ∃ n, w' = w.drewN n := by
  replace ha := Lib.hid ha
  replace hb := Lib.hid hb
  go_enter Tryd.func46, Tryd.ntmps46
  go_wp2_with fail
  go_loopw [5] (fun vi wr => ∃ k n : Nat, k ≤ a.length ∧ vi = .int .i64 (k : Int) ∧ wr = w.drewN n) (fun vi _ => a.length - (intOf vi).toNat)
  case atStart => exact ⟨0, 0, Nat.zero_le _, rfl, rfl⟩
  case round =>
    obtain ⟨k, n, hk, rfl, rfl⟩ := hrel
    by_cases hlt : k < a.length
    · obtain ⟨g1, o1, rfl, _, hc1⟩ := ha.out.int (by omega)
      obtain ⟨g2, o2, rfl, _, hc2⟩ := hb.out.int (by omega)
      obtain ⟨x, hx⟩ := get_some hlt
      have q1 := hc1 k x hx
      have q2 := hc2 k x hx
      clear hc1 hc2
      have i0 : (0 : Int) ≤ (k : Int) := by omega
      have i1 : (k : Int) < (a.length : Int) := by omega
      replace hx := Lib.hid hx
      go_wp2_with fail
      go_quiet (fail)
      go_wp2_with fail
      go_roundw
      case rel => exact ⟨k + 1, _, by omega, by go_num, by first | rfl | exact World.drewN_drewN _ _ _⟩
      case measure => simp [intOf]; omega
    · have i1 : ¬ (k : Int) < (a.length : Int) := by omega
      go_wp2_with fail
      go_ret
      exact ⟨rfl, n, rfl⟩

theorem atW_of {a b : Work} (h : core a = core b) : b = atW a b.labsA b.labsC b.toksA b.toksC := by
  cases a; cases b
  simp only [core, atW, Work.mk.injEq] at h ⊢
  obtain ⟨rfl, _, _, rfl, rfl, rfl, rfl, rfl, rfl, rfl, _, _, rfl⟩ := h
  simp
set_option maxHeartbeats 2000000 in
theorem same_at (x : Work) (A : Option Addr) (C : Nat) (A2 : Option Addr) (C2 : Nat) (w : World) (hx : LabWork w w.heap.size x) (hy : LabWork w w.heap.size (atW x A C A2 C2)) :
    Calls Tryd.prog 18 #[(.agg #[.string x.id.1, .slice x.labsA x.labs.length x.labsC, .int .i64 x.trust.1, .int .i64 x.slots.1, .bool x.pre, .int .i64 x.phase.1, .int .i64 x.beat.1, .int .i64 x.till.1, .slice x.toksA x.toks.length x.toksC]), (.agg #[.string x.id.1, .slice A x.labs.length C, .int .i64 x.trust.1, .int .i64 x.slots.1, .bool x.pre, .int .i64 x.phase.1, .int .i64 x.beat.1, .int .i64 x.till.1, .slice A2 x.toks.length C2])] w fun e w' => e = .returned (.bool true) ∧ Below w.heap.size w w' := by
  have h1 := hx.1
  have h2 := hx.2.1
  have h3 := hx.2.2.2.1
  have h4 := hx.2.2.2.2.1
  unfold maxLen at h2 h4
  have ht : Hid (∀ W, Below w.heap.size w W → Calls Tryd.prog 45 #[.slice x.labsA x.labs.length x.labsC, .slice A x.labs.length C] W fun e w' => e = .returned (.bool true) ∧ ∃ n, w' = W.drewN n) :=
    Lib.hid fun W hb => (texts_any x.labsA A x.labsC C x.labs x.labs W ((hx.2.2.1.below hb (Nat.le_refl _)).more hb.size) ((hy.2.2.1.below hb (Nat.le_refl _)).more hb.size) (by omega) (by omega)).mono fun _ _ h => ⟨by rw [h.1, decide_eq_true rfl], h.2⟩
  have hm : Hid (∀ W, Below w.heap.size w W → Calls Tryd.prog 46 #[.slice x.toksA x.toks.length x.toksC, .slice A2 x.toks.length C2] W fun e w' => e = .returned (.bool true) ∧ ∃ n, w' = W.drewN n) :=
    Lib.hid fun W hb => numbers_any x.toksA A2 x.toksC C2 x.toks W ((hx.2.2.2.2.2.below hb (Nat.le_refl _)).more hb.size) ((hy.2.2.2.2.2.below hb (Nat.le_refl _)).more hb.size) (by omega)
  clear hx hy h1 h2 h3 h4
  go_enter Tryd.func18, Tryd.ntmps18
  go_wp2_with (first
    | (go_at_call 45; go_must (refine (ht.out _ (by repeat (first | (with_reducible exact Below.refl _ _) | (with_reducible refine Below.drew ?_) | (with_reducible refine below_drewN ?_ _) | ((with_reducible refine Below.alloc ?_ ?_ _); rotate_left; focus ((try simp) <;> omega)) | ((with_reducible refine Below.setCell ?_ ?_ _); rotate_left; focus ((try simp) <;> omega)) | ((with_reducible refine Below.trans ?_ (Below.mono (by assumption) ?_)); rotate_left; focus ((try simp) <;> omega))))).mono ?_; rintro e w1 ⟨rfl, n1, rfl⟩))
    | (go_at_call 46; go_must (refine (hm.out _ (by repeat (first | (with_reducible exact Below.refl _ _) | (with_reducible refine Below.drew ?_) | (with_reducible refine below_drewN ?_ _) | ((with_reducible refine Below.alloc ?_ ?_ _); rotate_left; focus ((try simp) <;> omega)) | ((with_reducible refine Below.setCell ?_ ?_ _); rotate_left; focus ((try simp) <;> omega)) | ((with_reducible refine Below.trans ?_ (Below.mono (by assumption) ?_)); rotate_left; focus ((try simp) <;> omega))))).mono ?_; rintro e w2 ⟨rfl, n2, rfl⟩)))
  all_goals
    go_ret
    exact ⟨rfl, (by repeat (first | (with_reducible exact Below.refl _ _) | (with_reducible refine Below.drew ?_) | (with_reducible refine below_drewN ?_ _) | ((with_reducible refine Below.alloc ?_ ?_ _); rotate_left; focus ((try simp) <;> omega)) | ((with_reducible refine Below.setCell ?_ ?_ _); rotate_left; focus ((try simp) <;> omega)) | ((with_reducible refine Below.trans ?_ (Below.mono (by assumption) ?_)); rotate_left; focus ((try simp) <;> omega))))⟩
theorem same_any (x y : Work) (w : World) (hc : core x = core y) (hx : LabWork w w.heap.size x) (hy : LabWork w w.heap.size y) :
    Calls Tryd.prog 18 #[(.agg #[.string x.id.1, .slice x.labsA x.labs.length x.labsC, .int .i64 x.trust.1, .int .i64 x.slots.1, .bool x.pre, .int .i64 x.phase.1, .int .i64 x.beat.1, .int .i64 x.till.1, .slice x.toksA x.toks.length x.toksC]), (.agg #[.string y.id.1, .slice y.labsA y.labs.length y.labsC, .int .i64 y.trust.1, .int .i64 y.slots.1, .bool y.pre, .int .i64 y.phase.1, .int .i64 y.beat.1, .int .i64 y.till.1, .slice y.toksA y.toks.length y.toksC])] w fun e w' => e = .returned (.bool true) ∧ Below w.heap.size w w' := by
  have h := same_at x y.labsA y.labsC y.toksA y.toksC w hx (by rw [← atW_of hc]; exact hy)
  have e := atW_of hc
  generalize hA : y.labsA = A at *
  generalize hC : y.labsC = C at *
  generalize hA2 : y.toksA = A2 at *
  generalize hC2 : y.toksC = C2 at *
  subst e
  exact h
end Go.Proofs.YtnahbfmbmpoljaaDoor
