/-
  The walks of the queue, further: the reference's rank, what a job's fields must be, few jobs with short texts.
-/
import Derived.Test.YtnhfbignnnicnaaDoorQue1



namespace Go.Proofs.YtnhfbignnnicnaaDoor
open Go.RowKit

set_option maxHeartbeats 1000000 in
theorem rrank_any (p : Pend) (now : I64) (w : World) :
    Calls Tryd.prog 19 #[.agg #[.string p.run.1, .string p.job.1, .string p.proj.1, .int .i64 p.prio.1, .int .i64 p.since.1, .int .i64 p.cost.1, .slice p.labsA p.labs.length p.labsC, .int .i64 p.trust.1, .string p.group.1, .int .i64 p.policy.1], .int .i64 now.1] w fun e w' => e = .returned (.int .i64 (rankS p now.1)) ∧ Below w.heap.size w w' := by
  have hp := minI_range p.since.1 now.1
  have hl : 0 ≤ limI p.prio.1 0 9 ∧ limI p.prio.1 0 9 ≤ 9 := by unfold limI; omega
  have hwa : IntKind.i64.wrap (10 * limI p.prio.1 0 9) = 10 * limI p.prio.1 0 9 := IntWalk.i64_in _ (by omega)
  have hwb : IntKind.i64.wrap (10 * limI p.prio.1 0 9 + minI p.since.1 now.1) = 10 * limI p.prio.1 0 9 + minI p.since.1 now.1 := IntWalk.i64_in _ (by omega)
  go_enter Tryd.func19, Tryd.ntmps19
  go_wp2_with fail
  go_region_held3 (fun w' => w'.cell? ⟨w.heap.size, 0, none⟩ = some (.string p.run.1) ∧ w'.cell? ⟨w.heap.size, 1, none⟩ = some (.string p.job.1) ∧ w'.cell? ⟨w.heap.size, 2, none⟩ = some (.string p.proj.1) ∧ w'.cell? ⟨w.heap.size, 3, none⟩ = some (.int .i64 p.prio.1) ∧ w'.cell? ⟨w.heap.size, 4, none⟩ = some (.int .i64 p.since.1) ∧ w'.cell? ⟨w.heap.size, 5, none⟩ = some (.int .i64 p.cost.1) ∧ w'.cell? ⟨w.heap.size, 6, none⟩ = some (.slice p.labsA p.labs.length p.labsC) ∧ w'.cell? ⟨w.heap.size, 7, none⟩ = some (.int .i64 p.trust.1) ∧ w'.cell? ⟨w.heap.size, 8, none⟩ = some (.string p.group.1) ∧ w'.cell? ⟨w.heap.size, 9, none⟩ = some (.int .i64 p.policy.1)) (go_keep)
    (first | (go_at_call 35; refine (rlimit_any _).mono ?_; rintro e w' ⟨rfl, rfl⟩) | (go_at_call 36; refine (minutes_any p.since now _).mono ?_; rintro e w' ⟨rfl, rfl⟩))
  all_goals go_wp2_with fail
  all_goals go_ret
  all_goals exact ⟨ret_int (by unfold rankS; omega), (by repeat (first | (with_reducible exact Below.refl _ _) | (with_reducible refine Below.drew ?_) | (with_reducible refine below_drewN ?_ _) | ((with_reducible refine Below.alloc ?_ ?_ _); rotate_left; focus ((try simp) <;> omega)) | ((with_reducible refine Below.setCell ?_ ?_ _); rotate_left; focus ((try simp) <;> omega)) | ((with_reducible refine Below.trans ?_ (Below.mono (by assumption) ?_)); rotate_left; focus ((try simp) <;> omega))))⟩

def noStr (s : Str) : Bool := s.1.toList.isEmpty
/-- The error of a job that is pushed. -/
def errP (p : Pend) : Int :=
  if noStr p.run || noStr p.job || noStr p.proj then 1
  else if !inB p.prio.1 0 9 || !inB p.since.1 0 1125899906842624 || !inB p.cost.1 1 1000000 || !inB p.trust.1 0 2 || !inB p.policy.1 0 2 then 2 else 0
set_option maxHeartbeats 1000000 in
theorem right_any (p : Pend) (w : World) :
    Calls Tryd.prog 33 #[.agg #[.string p.run.1, .string p.job.1, .string p.proj.1, .int .i64 p.prio.1, .int .i64 p.since.1, .int .i64 p.cost.1, .slice p.labsA p.labs.length p.labsC, .int .i64 p.trust.1, .string p.group.1, .int .i64 p.policy.1]] w fun e w' => e = .returned (.int .i64 (errP p)) ∧ Below w.heap.size w w' := by
  go_enter Tryd.func33, Tryd.ntmps33
  go_wp2_with (go_at_call 49; refine (inside_any _ _ _ _).mono ?_; rintro e w' ⟨rfl, rfl⟩)
  all_goals
    go_ret
    exact ⟨ret_int (by unfold errP noStr; first | (simp [*]; done) | (simp_all; done) | (cases p.run.1.toList.isEmpty <;> cases p.job.1.toList.isEmpty <;> cases p.proj.1.toList.isEmpty <;> simp_all)), (by repeat (first | (with_reducible exact Below.refl _ _) | (with_reducible refine Below.drew ?_) | (with_reducible refine below_drewN ?_ _) | ((with_reducible refine Below.alloc ?_ ?_ _); rotate_left; focus ((try simp) <;> omega)) | ((with_reducible refine Below.setCell ?_ ?_ _); rotate_left; focus ((try simp) <;> omega)) | ((with_reducible refine Below.trans ?_ (Below.mono (by assumption) ?_)); rotate_left; focus ((try simp) <;> omega))))⟩

def shortB (p : Pend) : Bool := decide (p.run.1.size ≤ 600) && decide (p.job.1.size ≤ 600) && decide (p.proj.1.size ≤ 600) && decide (p.labs.length ≤ 40) && decide (p.group.1.size ≤ 600)
set_option maxHeartbeats 1000000 in
theorem short_any (p : Pend) (w : World) :
    Calls Tryd.prog 12 #[.agg #[.string p.run.1, .string p.job.1, .string p.proj.1, .int .i64 p.prio.1, .int .i64 p.since.1, .int .i64 p.cost.1, .slice p.labsA p.labs.length p.labsC, .int .i64 p.trust.1, .string p.group.1, .int .i64 p.policy.1]] w fun e w' => e = .returned (.bool (shortB p)) ∧ Below w.heap.size w w' := by
  go_enter Tryd.func12, Tryd.ntmps12
  go_wp2_with fail
  all_goals
    go_ret
    exact ⟨ret_bool (by unfold shortB; rw [Bool.eq_iff_iff]; (try simp) <;> (try omega)), (by repeat (first | (with_reducible exact Below.refl _ _) | (with_reducible refine Below.drew ?_) | (with_reducible refine below_drewN ?_ _) | ((with_reducible refine Below.alloc ?_ ?_ _); rotate_left; focus ((try simp) <;> omega)) | ((with_reducible refine Below.setCell ?_ ?_ _); rotate_left; focus ((try simp) <;> omega)) | ((with_reducible refine Below.trans ?_ (Below.mono (by assumption) ?_)); rotate_left; focus ((try simp) <;> omega))))⟩

def fewB (l : List Pend) : Bool := l.all shortB && decide (l.length ≤ 30)
/-- Elements of a row whose slices within read, too. -/
abbrev RwP (w : World) (B : Nat) (A : Option Addr) (l : List Pend) : Prop := Rw pendE 10 w B A l
theorem few_any (A : Option Addr) (c : Nat) (l : List Pend) (w : World) (hr : RwP w w.heap.size A l) (hn : l.length ≤ 9223372036854775807) :
    Calls Tryd.prog 11 #[.slice A l.length c] w fun e w' => e = .returned (.bool (fewB l)) ∧ Below w.heap.size w w' := by
  obtain ⟨B, hB⟩ : ∃ B, w.heap.size = B := ⟨_, rfl⟩
  rw [hB]
  rw [hB] at hr
  have hB2 := Nat.le_of_eq hB
  have hB3 := Nat.le_of_eq hB.symm
  have hc : Hid (∀ k x, l[k]? = some x → ∃ g o, A = some ⟨g, o, none⟩ ∧ g < B ∧ ∀ j u, (pendE x)[j]? = some u → w.cell? ⟨g, o + k * 10 + j, none⟩ = some u) := Lib.hid (fun k x hx => by
    have hk := (List.getElem?_eq_some_iff.1 hx).1
    obtain ⟨g, o, e, hg, h⟩ := hr (by omega)
    exact ⟨g, o, e, hg, h k x hx⟩)
  replace hB := Lib.hid hB
  clear hr
  go_enter Tryd.func11, Tryd.ntmps11
  go_wp2_with fail
  go_loopw [3] (fun vi wr => ∃ k : Nat, k ≤ l.length ∧ k ≤ 30 ∧ vi = .int .i64 (k : Int) ∧ (l.take k).all shortB = true ∧ Below B w wr) (fun vi _ => l.length - (intOf vi).toNat)
  case atStart => exact ⟨0, Nat.zero_le _, by omega, rfl, rfl, Below.refl _ _⟩
  case round =>
    obtain ⟨k, hk, hk3, rfl, ht, hb⟩ := hrel
    have hz := hb.size
    replace ht := Lib.hid ht
    by_cases hkl : k < l.length
    · have i1 : (k : Int) < (l.length : Int) := by omega
      by_cases hk30 : k < 30
      · have i2 : (k : Int) < 30 := by omega
        obtain ⟨x, hx⟩ := get_some hkl
        obtain ⟨g, o, rfl, hg, q⟩ := hc.out k x hx
        replace q := fun j u hu => (hb.cell (p := ⟨g, o + k * 10 + j, none⟩) hg).trans (q j u hu)
        have q0 := q 0 (.string x.run.1) rfl
        try rw [Nat.add_zero] at q0
        have q1 := q 1 (.string x.job.1) rfl
        have q2 := q 2 (.string x.proj.1) rfl
        have q3 := q 3 (.int .i64 x.prio.1) rfl
        have q4 := q 4 (.int .i64 x.since.1) rfl
        have q5 := q 5 (.int .i64 x.cost.1) rfl
        have q6 := q 6 (.slice x.labsA x.labs.length x.labsC) rfl
        have q7 := q 7 (.int .i64 x.trust.1) rfl
        have q8 := q 8 (.string x.group.1) rfl
        have q9 := q 9 (.int .i64 x.policy.1) rfl
        clear q
        replace hx := Lib.hid hx
        have i0 : (0 : Int) ≤ (k : Int) := by omega
        rcases hs : shortB x with _ | _
        · have hf : Hid (fewB l = false) := Lib.hid (by
            unfold fewB
            rw [Bool.and_eq_false_iff]
            left
            rw [List.all_eq_false]
            exact ⟨x, List.mem_of_getElem? hx.out, by simp [hs]⟩)
          go_wp2_with (go_at_call 12; go_must (refine (short_any x _).mono ?_; rw [hs]; rintro e w1 ⟨rfl, hb1⟩))
          go_ret
          exact ⟨ret_bool hf.out.symm, (by repeat (first | (with_reducible exact Below.refl _ _) | (with_reducible refine Below.drew ?_) | (with_reducible refine below_drewN ?_ _) | ((with_reducible refine Below.alloc ?_ ?_ _); rotate_left; focus ((try simp) <;> omega)) | ((with_reducible refine Below.setCell ?_ ?_ _); rotate_left; focus ((try simp) <;> omega)) | ((with_reducible refine Below.trans ?_ (Below.mono (by assumption) ?_)); rotate_left; focus ((try simp) <;> omega))))⟩
        · go_wp2_with (go_at_call 12; go_must (refine (short_any x _).mono ?_; rw [hs]; rintro e w1 ⟨rfl, hb1⟩))
          go_roundw
          case rel => exact ⟨k + 1, by omega, by omega, by go_num, by rw [List.take_add_one, hx.out, List.all_append, ht.out]; simp [hs], (by repeat (first | (with_reducible exact Below.refl _ _) | (with_reducible refine Below.drew ?_) | (with_reducible refine below_drewN ?_ _) | ((with_reducible refine Below.alloc ?_ ?_ _); rotate_left; focus ((try simp) <;> omega)) | ((with_reducible refine Below.setCell ?_ ?_ _); rotate_left; focus ((try simp) <;> omega)) | ((with_reducible refine Below.trans ?_ (Below.mono (by assumption) ?_)); rotate_left; focus ((try simp) <;> omega))))⟩
          case measure => simp [intOf]; omega
      · have i2 : ¬ (k : Int) < 30 := by omega
        have hf : Hid (fewB l = false) := Lib.hid (by
          unfold fewB
          rw [Bool.and_eq_false_iff]
          right
          rw [decide_eq_false_iff_not]; omega)
        go_wp2_with fail
        go_ret
        exact ⟨ret_bool (by rw [hf.out, decide_eq_false_iff_not]; omega), (by repeat (first | (with_reducible exact Below.refl _ _) | (with_reducible refine Below.drew ?_) | (with_reducible refine below_drewN ?_ _) | ((with_reducible refine Below.alloc ?_ ?_ _); rotate_left; focus ((try simp) <;> omega)) | ((with_reducible refine Below.setCell ?_ ?_ _); rotate_left; focus ((try simp) <;> omega)) | ((with_reducible refine Below.trans ?_ (Below.mono (by assumption) ?_)); rotate_left; focus ((try simp) <;> omega))))⟩
    · have i1 : ¬ (k : Int) < (l.length : Int) := by omega
      have hf : Hid (fewB l = decide (l.length ≤ 30)) := Lib.hid (by
        unfold fewB
        have := ht.out
        rw [List.take_of_length_le (by omega)] at this
        rw [this]; rfl)
      have h30 : (l.length : Int) ≤ 30 := by omega
      go_wp2_with fail
      go_ret
      exact ⟨ret_bool (by rw [hf.out]; simp; omega), (by repeat (first | (with_reducible exact Below.refl _ _) | (with_reducible refine Below.drew ?_) | (with_reducible refine below_drewN ?_ _) | ((with_reducible refine Below.alloc ?_ ?_ _); rotate_left; focus ((try simp) <;> omega)) | ((with_reducible refine Below.setCell ?_ ?_ _); rotate_left; focus ((try simp) <;> omega)) | ((with_reducible refine Below.trans ?_ (Below.mono (by assumption) ?_)); rotate_left; focus ((try simp) <;> omega))))⟩
end Go.Proofs.YtnhfbignnnicnaaDoor
