/-
  The walks of the queue: numbers limited, a job's rank, what a job's fields must be, by the program and by the reference; few jobs with short texts.
-/
import Derived.Test.YtnhfbignnnicnaaDoorPendSt
import Derived.Test.YtnhfbignnnicnaaDoorIdent6
import Derived.Laws.StructEq


namespace Go.Proofs.YtnhfbignnnicnaaDoor
open Go.RowKit

/-- A number limited to bounds. -/
def limI (n lo hi : Int) : Int := max lo (min n hi)

theorem limit_any {n lo hi : Int} (w : World) :
    Calls Tryd.prog 34 #[.int .i64 n, .int .i64 lo, .int .i64 hi] w fun e w' => e = .returned (.int .i64 (limI n lo hi)) ∧ w' = w := by
  go_enter Tryd.func34, Tryd.ntmps34
  go_wp2_with fail
  go_ret
  exact ⟨rfl, rfl⟩
theorem rlimit_any {n lo hi : Int} (w : World) :
    Calls Tryd.prog 35 #[.int .i64 n, .int .i64 lo, .int .i64 hi] w fun e w' => e = .returned (.int .i64 (limI n lo hi)) ∧ w' = w := by
  go_enter Tryd.func35, Tryd.ntmps35
  by_cases h0 : hi < lo
  · have e : limI n lo hi = lo := by unfold limI; omega
    rw [e]
    go_wp2_with fail
    go_ret
    exact ⟨rfl, rfl⟩
  · by_cases h1 : n < lo
    · have e : limI n lo hi = lo := by unfold limI; omega
      rw [e]
      go_wp2_with fail
      go_ret
      exact ⟨rfl, rfl⟩
    · by_cases h2 : hi < n
      · have e : limI n lo hi = hi := by unfold limI; omega
        rw [e]
        go_wp2_with fail
        go_ret
        exact ⟨rfl, rfl⟩
      · have e : limI n lo hi = n := by unfold limI; omega
        rw [e]
        go_wp2_with fail
        go_ret
        exact ⟨rfl, rfl⟩
def inB (n lo hi : Int) : Bool := decide (lo ≤ n ∧ n ≤ hi)
theorem inB_iff {n lo hi : Int} : inB n lo hi = true ↔ lo ≤ n ∧ n ≤ hi := by unfold inB; simp
theorem inB_no {n lo hi : Int} : inB n lo hi = false ↔ ¬ (lo ≤ n ∧ n ≤ hi) := by unfold inB; simp
theorem within_any (n lo hi : Int) (hl : lo ≤ hi) (w : World) :
    Calls Tryd.prog 29 #[.int .i64 n, .int .i64 lo, .int .i64 hi] w fun e w' => e = .returned (.bool (inB n lo hi)) ∧ w = w' := by
  go_enter Tryd.func29, Tryd.ntmps29
  go_wp2_with (go_at_call 34; refine (limit_any _).mono ?_; rintro e w' ⟨rfl, rfl⟩)
  go_ret
  refine ⟨ret_bool ?_, rfl⟩
  unfold inB limI
  rw [Bool.eq_iff_iff]; simp; omega
theorem inside_any (n lo hi : Int) (w : World) :
    Calls Tryd.prog 49 #[.int .i64 n, .int .i64 lo, .int .i64 hi] w fun e w' => e = .returned (.bool (inB n lo hi)) ∧ w = w' := by
  by_cases h1 : lo ≤ n <;> by_cases h2 : n ≤ hi <;>
  · go_enter Tryd.func49, Tryd.ntmps49
    go_wp2_with fail
    go_ret
    refine ⟨ret_bool ?_, rfl⟩
    unfold inB
    rw [Bool.eq_iff_iff]
    simp
    try omega

/-- The minutes of a job's age, and its rank. -/
def minI (since now : Int) : Int := if now ≤ since then 0 else min ((now - since) / 60000) 190
def rankS (p : Pend) (now : Int) : Int := min 190 (10 * limI p.prio.1 0 9 + minI p.since.1 now)
theorem minI_range (since now : Int) : 0 ≤ minI since now ∧ minI since now ≤ 190 := by unfold minI; split <;> omega
theorem rankS_range (p : Pend) (now : Int) : 0 ≤ rankS p now ∧ rankS p now ≤ 190 := by
  have := minI_range p.since.1 now
  unfold rankS limI; omega
theorem rankS_mono (p : Pend) {a b : Int} (h : a ≤ b) : rankS p a ≤ rankS p b := by
  unfold rankS minI; split <;> split <;> omega

theorem minutes_any (since now : I64) (w : World) :
    Calls Tryd.prog 36 #[.int .i64 since.1, .int .i64 now.1] w fun e w' => e = .returned (.int .i64 (minI since.1 now.1)) ∧ w = w' := by
  obtain ⟨s, s1, s2⟩ := since
  obtain ⟨n, n1, n2⟩ := now
  simp only
  by_cases h1 : n ≤ s
  · have e : minI s n = 0 := by unfold minI; rw [if_pos h1]
    rw [e]
    go_enter Tryd.func36, Tryd.ntmps36
    go_wp2_with fail
    go_ret
    exact ⟨rfl, rfl⟩
  · by_cases h2 : s < 0
    · have hw : IntKind.i64.wrap (s + 9223372036854775807) = s + 9223372036854775807 := IntWalk.i64_in _ (by omega)
      by_cases h3 : n > s + 9223372036854775807
      · have e : minI s n = 190 := by unfold minI; rw [if_neg h1]; omega
        rw [e]
        go_enter Tryd.func36, Tryd.ntmps36
        go_wp2_with fail
        go_ret
        exact ⟨rfl, rfl⟩
      · have e : minI s n = min 190 ((n - s) / 60000) := by unfold minI; rw [if_neg h1]; omega
        have hw2 : IntKind.i64.wrap (n - s) = n - s := IntWalk.i64_in _ (by omega)
        rw [e]
        go_enter Tryd.func36, Tryd.ntmps36
        go_wp2_with fail
        go_ret
        refine ⟨ret_int ?_, rfl⟩
        first | rfl | omega
    · have e : minI s n = min 190 ((n - s) / 60000) := by unfold minI; rw [if_neg h1]; omega
      have hw2 : IntKind.i64.wrap (n - s) = n - s := IntWalk.i64_in _ (by omega)
      rw [e]
      go_enter Tryd.func36, Tryd.ntmps36
      go_wp2_with fail
      go_ret
      refine ⟨ret_int ?_, rfl⟩
      first | rfl | omega
theorem rank_any (p : Pend) (now : I64) (w : World) :
    Calls Tryd.prog 18 #[.agg #[.string p.run.1, .string p.job.1, .string p.proj.1, .int .i64 p.prio.1, .int .i64 p.since.1, .int .i64 p.cost.1, .slice p.labsA p.labs.length p.labsC, .int .i64 p.trust.1, .string p.group.1, .int .i64 p.policy.1], .int .i64 now.1] w fun e w' => e = .returned (.int .i64 (rankS p now.1)) ∧ w' = w.alloc (.cells (pendE p).toArray 27) := by
  have hp := minI_range p.since.1 now.1
  have hl : 0 ≤ limI p.prio.1 0 9 ∧ limI p.prio.1 0 9 ≤ 9 := by unfold limI; omega
  have s1 := p.since.2
  have n1 := now.2
  by_cases h1 : now.1 > p.since.1
  · have e : minI p.since.1 now.1 = min ((now.1 - p.since.1) / 60000) 190 := by unfold minI; rw [if_neg (by omega)]
    have hr : rankS p now.1 = min 190 (10 * limI p.prio.1 0 9 + min ((now.1 - p.since.1) / 60000) 190) := by unfold rankS; rw [e]
    have hd : IntKind.u64.wrap (IntKind.u64.wrap now.1 - IntKind.u64.wrap p.since.1) = now.1 - p.since.1 := by simp only [IntKind.wrap_u64]; omega
    have hq : (now.1 - p.since.1).tdiv 60000 = (now.1 - p.since.1) / 60000 := Int.tdiv_eq_ediv_of_nonneg (by omega)
    have hw3 : IntKind.u64.wrap ((now.1 - p.since.1) / 60000) = (now.1 - p.since.1) / 60000 := by simp only [IntKind.wrap_u64]; omega
    have hw4 : wrap64 (min ((now.1 - p.since.1) / 60000) 190) = min ((now.1 - p.since.1) / 60000) 190 := by unfold wrap64; omega
    have hw5 : wrap64 (10 * limI p.prio.1 0 9 + min ((now.1 - p.since.1) / 60000) 190) = 10 * limI p.prio.1 0 9 + min ((now.1 - p.since.1) / 60000) 190 := by unfold wrap64; omega
    rw [hr]
    go_enter Tryd.func18, Tryd.ntmps18
    go_wp2_with (go_at_call 34; refine (limit_any _).mono ?_; rintro e w' ⟨rfl, rfl⟩)
    go_ret
    exact ⟨ret_int (by omega), rfl⟩
  · have e : minI p.since.1 now.1 = 0 := by unfold minI; rw [if_pos (by omega)]
    have hr : rankS p now.1 = min 190 (10 * limI p.prio.1 0 9 + 0) := by unfold rankS; rw [e]
    rw [hr]
    go_enter Tryd.func18, Tryd.ntmps18
    go_wp2_with (go_at_call 34; refine (limit_any _).mono ?_; rintro e w' ⟨rfl, rfl⟩)
    go_ret
    exact ⟨ret_int (by omega), rfl⟩
end Go.Proofs.YtnhfbignnnicnaaDoor
