/-
  The walks of the queue: whether two jobs, and two queues, are the same; the first job of a reference.
-/
import Derived.Test.YtnhfbignnnicnaaDoorQue2




namespace Go.Proofs.YtnhfbignnnicnaaDoor
open Go.RowKit

set_option maxHeartbeats 400000 in
theorem texts_any (A B : Option Addr) (c d : Nat) (a b : List Str) (w : World) (ha : Rw sE 1 w w.heap.size A a) (hb : Rw sE 1 w w.heap.size B b) (hn : a.length ≤ 9223372036854775807) (hm : b.length ≤ 9223372036854775807) :
    Calls Tryd.prog 26 #[.slice A a.length c, .slice B b.length d] w fun e w' => e = .returned (.bool (decide (a = b))) ∧ ∃ n, w' = w.drewN n := by
  by_cases hl : a.length = b.length
  · rcases Nat.eq_zero_or_pos a.length with h0 | h0
    · have e1 : a = [] := List.eq_nil_of_length_eq_zero h0
      have e2 : b = [] := List.eq_nil_of_length_eq_zero (by omega)
      subst e1 e2
      go_enter Tryd.func26, Tryd.ntmps26
      go_wp2_with fail
      go_loopw [5] (fun vi wr => vi = .int .i64 0 ∧ wr = w) (fun _ _ => 0)
      case atStart => exact ⟨rfl, rfl⟩
      case round =>
        obtain ⟨rfl, rfl⟩ := hrel
        go_wp2_with fail
        go_ret
        exact ⟨rfl, 0, rfl⟩
    · obtain ⟨g1, o1, rfl, _, hc1⟩ := ha.str h0
      obtain ⟨g2, o2, rfl, _, hc2⟩ := hb.str (by omega)
      have hl1 : ((a.length : Int) != (b.length : Int)) = false := by rw [hl]; simp
      have hlb : a.length ≤ b.length := Nat.le_of_eq hl
      replace hl := Lib.hid hl
      replace hc1 := Lib.hid hc1
      replace hc2 := Lib.hid hc2
      clear ha hb
      go_enter Tryd.func26, Tryd.ntmps26
      go_wp2_with fail
      go_loopw [5] (fun vi wr => ∃ k n : Nat, k ≤ a.length ∧ vi = .int .i64 (k : Int) ∧ a.take k = b.take k ∧ wr = w.drewN n) (fun vi _ => a.length - (intOf vi).toNat)
      case atStart => exact ⟨0, 0, Nat.zero_le _, rfl, rfl, rfl⟩
      case round =>
        obtain ⟨k, n, hk, rfl, ht, rfl⟩ := hrel
        replace ht := Lib.hid ht
        by_cases hlt : k < a.length
        · obtain ⟨x, hx⟩ := get_some hlt
          obtain ⟨y, hy⟩ := get_some (show k < b.length by omega)
          have q1 := hc1.out k x hx
          have q2 := hc2.out k y hy
          have i0 : (0 : Int) ≤ (k : Int) := by omega
          have i1 : (k : Int) < (a.length : Int) := by omega
          have i2 : (k : Int) < (b.length : Int) := by omega
          by_cases hxy : x = y
          · have t1 := str_eqq hxy
            have ht2 := Lib.hid (take_eq_succ ht.out hx (hxy ▸ hy))
            replace hx := Lib.hid hx
            replace hy := Lib.hid hy
            replace hxy := Lib.hid hxy
            go_wp2_with fail
            go_quiet (fail)
            go_wp2_with fail
            go_roundw
            case rel => exact ⟨k + 1, _, by omega, by go_num, ht2.out, by first | rfl | exact World.drewN_drewN _ _ _⟩
            case measure => simp [intOf]; omega
          · have t1 := str_neq hxy
            have hne : a ≠ b := by rintro rfl; rw [hx] at hy; exact hxy (by simpa using hy)
            replace hne := Lib.hid hne
            replace hx := Lib.hid hx
            replace hy := Lib.hid hy
            replace hxy := Lib.hid hxy
            go_wp2_with fail
            go_quiet (fail)
            go_wp2_with fail
            go_ret
            exact ⟨ret_bool (by rw [decide_eq_false hne.out]), _, World.drewN_drewN _ _ _⟩
        · have he : a = b := by
            have h1 := ht.out
            have h2 := hl.out
            rwa [List.take_of_length_le (by omega), List.take_of_length_le (by omega)] at h1
          replace he := Lib.hid he
          go_wp2_with fail
          go_ret
          exact ⟨ret_bool (by rw [decide_eq_true he.out]), n, rfl⟩
  · have hl1 : ((a.length : Int) != (b.length : Int)) = true := by rw [bne_iff_ne]; omega
    have hne : decide (a = b) = false := decide_eq_false (fun e => hl (by rw [e]))
    rw [hne]
    go_enter Tryd.func26, Tryd.ntmps26
    go_wp2_with fail
    go_ret
    exact ⟨rfl, 0, rfl⟩

def refB (a1 a2 b1 b2 : ByteArray) : Bool := a1.toList == b1.toList && a2.toList == b2.toList
theorem eq_ref (w : World) (a1 a2 b1 b2 : ByteArray) : (binOp .eql 24 (.agg #[.string a1, .string a2]) (.agg #[.string b1, .string b2])).run Tryd.prog w = .ok (.bool (refB a1 a2 b1 b2)) w := by
  have hp : Tryd.prog.stoodInHeld 24 = false := by kernel_rfl
  unfold refB
  go_simp
  by_cases h1 : a1.toList = b1.toList <;> by_cases h2 : a2.toList = b2.toList <;> simp [h1, h2]
attribute [local go_sem ↓] eq_ref

/-- A job without where its labels lie. -/
def core (p : Pend) : Pend := { p with labsA := none, labsC := 0 }
def sameJ (p q : Pend) : Bool := refB p.run.1 p.job.1 q.run.1 q.job.1 && (p.proj.1.toList == q.proj.1.toList) && (p.prio.1 == q.prio.1) && (p.since.1 == q.since.1) && (p.cost.1 == q.cost.1) && decide (p.labs = q.labs) && (p.trust.1 == q.trust.1) && (p.group.1.toList == q.group.1.toList) && (p.policy.1 == q.policy.1)
theorem sameJ_core {p q : Pend} (h : core p = core q) : sameJ p q = true := by
  cases p; cases q
  simp only [core, Pend.mk.injEq] at h
  obtain ⟨rfl, rfl, rfl, rfl, rfl, rfl, _, _, rfl, rfl, rfl, rfl⟩ := h
  simp [sameJ, refB]

set_option maxHeartbeats 2000000 in
theorem samejob_any (p q : Pend) (w : World) (hp : LabPend w w.heap.size p) (hq : LabPend w w.heap.size q) :
    Calls Tryd.prog 23 #[.agg #[.string p.run.1, .string p.job.1, .string p.proj.1, .int .i64 p.prio.1, .int .i64 p.since.1, .int .i64 p.cost.1, .slice p.labsA p.labs.length p.labsC, .int .i64 p.trust.1, .string p.group.1, .int .i64 p.policy.1], .agg #[.string q.run.1, .string q.job.1, .string q.proj.1, .int .i64 q.prio.1, .int .i64 q.since.1, .int .i64 q.cost.1, .slice q.labsA q.labs.length q.labsC, .int .i64 q.trust.1, .string q.group.1, .int .i64 q.policy.1]] w fun e w' => e = .returned (.bool (sameJ p q)) ∧ Below w.heap.size w w' := by
  have h1 := hp.1
  have h2 := hp.2.1
  have h3 := hq.1
  have h4 := hq.2.1
  unfold maxLen at h2 h4
  have ht : Hid (∀ W, Below w.heap.size w W → Calls Tryd.prog 26 #[.slice p.labsA p.labs.length p.labsC, .slice q.labsA q.labs.length q.labsC] W fun e w' => e = .returned (.bool (decide (p.labs = q.labs))) ∧ ∃ n, w' = W.drewN n) :=
    Lib.hid fun W hb => texts_any _ _ _ _ _ _ W ((hp.2.2.below hb (Nat.le_refl _)).more hb.size) ((hq.2.2.below hb (Nat.le_refl _)).more hb.size) (by omega) (by omega)
  go_enter Tryd.func23, Tryd.ntmps23
  go_wp2_with (go_at_call 26; go_must (refine (ht.out _ (by repeat (first | (with_reducible exact Below.refl _ _) | (with_reducible refine Below.drew ?_) | (with_reducible refine below_drewN ?_ _) | ((with_reducible refine Below.alloc ?_ ?_ _); rotate_left; focus ((try simp) <;> omega)) | ((with_reducible refine Below.setCell ?_ ?_ _); rotate_left; focus ((try simp) <;> omega)) | ((with_reducible refine Below.trans ?_ (Below.mono (by assumption) ?_)); rotate_left; focus ((try simp) <;> omega))))).mono ?_; rintro e w1 ⟨rfl, n1, rfl⟩))
  all_goals
    go_ret
    exact ⟨ret_bool (by unfold sameJ; first | (simp [*]; done) | (simp_all; done)), (by repeat (first | (with_reducible exact Below.refl _ _) | (with_reducible refine Below.drew ?_) | (with_reducible refine below_drewN ?_ _) | ((with_reducible refine Below.alloc ?_ ?_ _); rotate_left; focus ((try simp) <;> omega)) | ((with_reducible refine Below.setCell ?_ ?_ _); rotate_left; focus ((try simp) <;> omega)) | ((with_reducible refine Below.trans ?_ (Below.mono (by assumption) ?_)); rotate_left; focus ((try simp) <;> omega))))⟩
end Go.Proofs.YtnhfbignnnicnaaDoor
