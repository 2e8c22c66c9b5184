/-
  The walks of the arithmetic layer: Gcd, of the program and of the reference; Limit.
-/
import Derived.Test.YtebpdoehjgkkcaaWalks7

namespace Go.Proofs.Ytebpdoehjgkkcaa
open Go.RowKit

/-- The greatest common divisor of the first k numbers. -/
def gN (T : Nat → Int) : Nat → Nat
  | 0 => 0
  | k + 1 => Nat.gcd (gN T k) (T k).natAbs

theorem sz_abs (n : Int) : sz n = (n.natAbs : Int) := by unfold sz; split <;> omega

theorem gcd_step {g y : Nat} : Nat.gcd y (g % y) = Nat.gcd g y := by
  rw [Nat.gcd_comm g y, Nat.gcd_rec y g, Nat.gcd_comm]

theorem gN_le {T : Nat → Int} : ∀ {k : Nat}, (∀ i, i < k → (T i).natAbs ≤ 9223372036854775808) → gN T k ≤ 9223372036854775808
  | 0, _ => by simp [gN]
  | k + 1, h => by
    have h1 := gN_le (k := k) (fun i hi => h i (by omega))
    have h2 := h k (by omega)
    unfold gN
    rcases Nat.eq_zero_or_pos (T k).natAbs with e | e
    · rw [e, Nat.gcd_zero_right]; exact h1
    · exact Nat.le_trans (Nat.gcd_le_right _ e) h2

def gI (T : Nat → Int) (n : Nat) : Int := min (gN T n : Int) 9223372036854775807

/-- Numbers in memory. -/
def IntsAt (w : World) (A : Option Addr) (n : Nat) (T : Nat → Int) : Prop :=
  (∀ i, i < n → -9223372036854775808 ≤ T i ∧ T i ≤ 9223372036854775807) ∧ (0 < n → ∃ g o, A = some ⟨g, o, none⟩ ∧ ∀ i, i < n → w.cell? ⟨g, o + i, none⟩ = some (.int .i64 (T i)))

theorem below_drew' {B : Nat} {w w1 : World} (h : Below B w w1) (m : Nat) : Below B w (w1.drewN m) := ⟨h.os, h.tape, h.output, h.size, h.block⟩

set_option maxHeartbeats 800000 in
theorem gcd_any (A : Option Addr) (n c : Nat) (T : Nat → Int) (w : World) (hn : n ≤ 9223372036854775807) (h : IntsAt w A n T) :
    Calls Try.prog 15 #[.slice A n c] w fun e w' => e = .returned (.int .i64 (gI T n)) ∧ Below w.heap.size w w' := by
  obtain ⟨hb, hc⟩ := h
  have hle := Lib.hid (fun k (hk : k ≤ n) => gN_le (T := T) (k := k) (fun i hi => by have := hb i (by omega); omega))
  replace hb := Lib.hid hb
  replace hc := Lib.hid hc
  go_enter Try.func15, Try.ntmps15
  go_wp2_with fail
  go_loopw [3, 9] (fun gv iv wr => ∃ i m : Nat, i ≤ n ∧ iv = .int .i64 (i : Int) ∧ gv = .int .u64 (gN T i : Int) ∧ wr = w.drewN m) (fun _ iv _ => n - (intOf iv).toNat)
  case atStart => exact ⟨0, 0, by omega, rfl, rfl, rfl⟩
  case round =>
    obtain ⟨i, m, hi, rfl, rfl, rfl⟩ := hrel
    have hgi := hle.out i hi
    by_cases hlt : i < n
    · obtain ⟨g, o, rfl, hcell⟩ := hc.out (by omega)
      have c0 := hcell i hlt
      clear hcell
      obtain ⟨t1, t2⟩ := hb.out i hlt
      obtain ⟨z1, z2⟩ := sz_bd t1 t2
      have hs := sz_abs (T i)
      obtain ⟨G, hG⟩ : ∃ G, Nat.gcd (gN T i) (T i).natAbs = G := ⟨_, rfl⟩
      rw [hs] at z1 z2
      replace hs := Lib.hid hs
      replace hG := Lib.hid hG
      obtain ⟨y0, hy0⟩ : ∃ y0, (T i).natAbs = y0 := ⟨_, rfl⟩
      obtain ⟨g0, hg0⟩ : ∃ g0, gN T i = g0 := ⟨_, rfl⟩
      rw [hy0] at z1 z2
      rw [hg0] at hgi ⊢
      replace hy0 := Lib.hid hy0
      replace hg0 := Lib.hid hg0
      go_wp2_with (first | (go_at_call 28; go_must (refine (size_any _ (by assumption) (by assumption) _).mono ?_; rintro e w2 ⟨rfl, rfl⟩; rw [hs.out, hy0.out])))
      go_loopw [3, 6] (fun gv yv w2 => ∃ g y m' : Nat, gv = .int .u64 (g : Int) ∧ yv = .int .u64 (y : Int) ∧ g ≤ 9223372036854775808 ∧ y ≤ 9223372036854775808 ∧ Nat.gcd g y = G ∧ w2 = w.drewN m') (fun _ yv _ => (intOf yv).toNat)
      case atStart => exact ⟨g0, y0, m, rfl, rfl, hgi, by omega, by rw [← hy0.out, ← hg0.out]; exact hG.out, rfl⟩
      case round =>
        obtain ⟨g1, y1, m', rfl, rfl, l1, l2, hgc, rfl⟩ := hrel
        replace hgc := Lib.hid hgc
        by_cases hy : y1 = 0
        · subst hy
          go_wp2_with fail
          go_roundw
          case rel => exact ⟨i + 1, m', by omega, by go_num, by rw [← show g1 = gN T (i + 1) by have := hgc.out; rw [Nat.gcd_zero_right] at this; rw [this, ← hG.out]; rfl], rfl⟩
          case measure => simp [intOf]; omega
        · have e1 : ((y1 : Int) != 0) = true := by simp; omega
          have e2 : ((y1 : Int) == 0) = false := by simp; omega
          go_wp2_with fail
          go_region
          go_wp2_with fail
          go_roundw
          case rel => exact ⟨y1, g1 % y1, m' + 1, rfl, by simp, l2, by have := Nat.mod_lt g1 (show 0 < y1 by omega); omega, by rw [gcd_step]; exact hgc.out, rfl⟩
          case measure => 
            have hml := Nat.mod_lt g1 (show 0 < y1 by omega)
            have h3 : ((g1 : Int) % (y1 : Int)) = ((g1 % y1 : Nat) : Int) := by simp
            simp only [intOf, h3]; omega
    · obtain rfl : i = n := by omega
      go_wp2_with fail
      go_ways
      all_goals go_ret
      · refine ⟨?_, below_drew' (Below.refl _ _) m⟩
        have e : gI T i = 9223372036854775807 := by unfold gI; omega
        rw [e]; rfl
      · refine ⟨?_, below_drew' (Below.refl _ _) m⟩
        have e : gI T i = (gN T i : Int) := by unfold gI; omega
        rw [e]; rfl

set_option maxHeartbeats 800000 in
theorem rgcd_any (A : Option Addr) (n c : Nat) (T : Nat → Int) (w : World) (hn : n ≤ 9223372036854775807) (h : IntsAt w A n T) :
    Calls Try.prog 18 #[.slice A n c] w fun e w' => e = .returned (.int .i64 (gI T n)) ∧ Below w.heap.size w w' := by
  obtain ⟨hb, hc⟩ := h
  have hle := Lib.hid (fun k (hk : k ≤ n) => gN_le (T := T) (k := k) (fun i hi => by have := hb i (by omega); omega))
  replace hb := Lib.hid hb
  replace hc := Lib.hid hc
  go_enter Try.func18, Try.ntmps18
  go_wp2_with fail
  go_loopw [3, 4] (fun gv iv wr => ∃ i m : Nat, i ≤ n ∧ iv = .int .i64 (i : Int) ∧ gv = .int .u64 (gN T i : Int) ∧ wr = w.drewN m) (fun _ iv _ => n - (intOf iv).toNat)
  case atStart => exact ⟨0, 0, by omega, rfl, rfl, rfl⟩
  case round =>
    obtain ⟨i, m, hi, rfl, rfl, rfl⟩ := hrel
    have hgi := hle.out i hi
    by_cases hlt : i < n
    · obtain ⟨g, o, rfl, hcell⟩ := hc.out (by omega)
      have c0 := hcell i hlt
      clear hcell
      obtain ⟨t1, t2⟩ := hb.out i hlt
      obtain ⟨z1, z2⟩ := sz_bd t1 t2
      have hs := sz_abs (T i)
      obtain ⟨G, hG⟩ : ∃ G, Nat.gcd (gN T i) (T i).natAbs = G := ⟨_, rfl⟩
      rw [hs] at z1 z2
      replace hs := Lib.hid hs
      replace hG := Lib.hid hG
      obtain ⟨y0, hy0⟩ : ∃ y0, (T i).natAbs = y0 := ⟨_, rfl⟩
      obtain ⟨g0, hg0⟩ : ∃ g0, gN T i = g0 := ⟨_, rfl⟩
      rw [hy0] at z1 z2
      rw [hg0] at hgi ⊢
      replace hy0 := Lib.hid hy0
      replace hg0 := Lib.hid hg0
      go_wp2_with (first | (go_at_call 30; go_must (refine (rsize_any _ (by assumption) (by assumption) _).mono ?_; rintro e w2 ⟨rfl, rfl⟩; rw [hs.out, hy0.out])))
      go_loopw [3, 5] (fun gv yv w2 => ∃ g y m' : Nat, gv = .int .u64 (g : Int) ∧ yv = .int .u64 (y : Int) ∧ g ≤ 9223372036854775808 ∧ y ≤ 9223372036854775808 ∧ Nat.gcd g y = G ∧ w2 = w.drewN m') (fun _ yv _ => (intOf yv).toNat)
      case atStart => exact ⟨g0, y0, m, rfl, rfl, hgi, by omega, by rw [← hy0.out, ← hg0.out]; exact hG.out, rfl⟩
      case round =>
        obtain ⟨g1, y1, m', rfl, rfl, l1, l2, hgc, rfl⟩ := hrel
        replace hgc := Lib.hid hgc
        by_cases hy : y1 = 0
        · subst hy
          go_wp2_with fail
          go_roundw
          case rel => exact ⟨i + 1, m', by omega, by go_num, by rw [← show g1 = gN T (i + 1) by have := hgc.out; rw [Nat.gcd_zero_right] at this; rw [this, ← hG.out]; rfl], rfl⟩
          case measure => simp [intOf]; omega
        · have e1 : ((y1 : Int) != 0) = true := by simp; omega
          have e2 : ((y1 : Int) == 0) = false := by simp; omega
          go_wp2_with fail
          go_roundw
          case rel => exact ⟨y1, g1 % y1, m', rfl, by simp, l2, by have := Nat.mod_lt g1 (show 0 < y1 by omega); omega, by rw [gcd_step]; exact hgc.out, rfl⟩
          case measure =>
            have hml := Nat.mod_lt g1 (show 0 < y1 by omega)
            have h3 : ((g1 : Int) % (y1 : Int)) = ((g1 % y1 : Nat) : Int) := by simp
            simp only [intOf, h3]; omega
    · obtain rfl : i = n := by omega
      go_wp2_with fail
      go_ways
      all_goals go_ret
      · refine ⟨?_, below_drew' (Below.refl _ _) m⟩
        have e : gI T i = 9223372036854775807 := by unfold gI; omega
        rw [e]; rfl
      · refine ⟨?_, below_drew' (Below.refl _ _) m⟩
        have e : gI T i = (gN T i : Int) := by unfold gI; omega
        rw [e]; rfl

/-- A number limited to bounds. -/
def limI (n lo hi : Int) : Int := max lo (min n hi)

theorem limit_any {n lo hi : Int} (w : World) :
    Calls Try.prog 16 #[.int .i64 n, .int .i64 lo, .int .i64 hi] w fun e w' => e = .returned (.int .i64 (limI n lo hi)) ∧ w' = w := by
  go_enter Try.func16, Try.ntmps16
  by_cases h0 : hi < n
  · by_cases h1 : lo < hi
    · have e : limI n lo hi = hi := by unfold limI; omega
      rw [e]
      go_wp2_with fail
      go_ret
      exact ⟨rfl, rfl⟩
    · have e : limI n lo hi = lo := by unfold limI; omega
      rw [e]
      go_wp2_with fail
      go_ret
      exact ⟨rfl, rfl⟩
  · by_cases h1 : lo < n
    · have e : limI n lo hi = n := by unfold limI; omega
      rw [e]
      go_wp2_with fail
      go_ret
      exact ⟨rfl, rfl⟩
    · have e : limI n lo hi = lo := by unfold limI; omega
      rw [e]
      go_wp2_with fail
      go_ret
      exact ⟨rfl, rfl⟩

theorem rlimit_any {n lo hi : Int} (w : World) :
    Calls Try.prog 17 #[.int .i64 n, .int .i64 lo, .int .i64 hi] w fun e w' => e = .returned (.int .i64 (limI n lo hi)) ∧ w' = w := by
  go_enter Try.func17, Try.ntmps17
  by_cases h0 : hi < lo
  · have e : limI n lo hi = lo := by unfold limI; omega
    rw [e]
    go_wp2_with fail
    go_ret
    exact ⟨rfl, rfl⟩
  · by_cases h1 : n < lo
    · have e : limI n lo hi = lo := by unfold limI; omega
      rw [e]
      go_wp2_with fail
      go_ret
      exact ⟨rfl, rfl⟩
    · by_cases h2 : hi < n
      · have e : limI n lo hi = hi := by unfold limI; omega
        rw [e]
        go_wp2_with fail
        go_ret
        exact ⟨rfl, rfl⟩
      · have e : limI n lo hi = n := by unfold limI; omega
        rw [e]
        go_wp2_with fail
        go_ret
        exact ⟨rfl, rfl⟩
end Go.Proofs.Ytebpdoehjgkkcaa
