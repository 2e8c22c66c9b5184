/-
  The walks of the budget layer: the leaves (limits, validity, the level), of the program and of the reference.
-/
import Derived.Test.YtalnbjcfcpkdlaaRows
import Derived.WalkKit
import Derived.WalkSpells
import Derived.WalkLawsBesides
import Derived.Deep.QuietTactic
import Derived.BigQuiet
import Derived.Deep.RegionHeld3
import Derived.Deep.DrawnRows
import Derived.Laws.StructEq

namespace Go.Proofs.Ytalnbjcfcpkdlaa
open Go.RowKit

theorem ret_int {k : IntKind} {a b : Int} (h : a = b) : Ending.returned (.int k a) = .returned (.int k b) := by rw [h]
theorem ret_bool {a b : Bool} (h : a = b) : Ending.returned (.bool a) = .returned (.bool b) := by rw [h]
theorem bcell {W w1 : World} (hb : Below W.heap.size W w1) : (∀ b o, b < W.heap.size → w1.cell? ⟨b, o, none⟩ = W.cell? ⟨b, o, none⟩) ∧ (∀ b o, b < W.heap.size → w1.frozen? ⟨b, o, none⟩ = W.frozen? ⟨b, o, none⟩) :=
  ⟨fun b o h => hb.cell (p := ⟨b, o, none⟩) h, fun b o h => hb.frozen (p := ⟨b, o, none⟩) h⟩

theorem blk_at {W w1 : World} (hb : Below W.heap.size W w1) (g : Nat) (hg : g < W.heap.size) : (∀ o, w1.cell? ⟨g, o, none⟩ = W.cell? ⟨g, o, none⟩) ∧ (∀ o, w1.frozen? ⟨g, o, none⟩ = W.frozen? ⟨g, o, none⟩) :=
  ⟨fun o => hb.cell (p := ⟨g, o, none⟩) hg, fun o => hb.frozen (p := ⟨g, o, none⟩) hg⟩

set_option maxHeartbeats 400000 in
theorem limit_any (n lo hi : Int) (w : World) :
    Calls Try.prog 25 #[.int .i64 n, .int .i64 lo, .int .i64 hi] w fun e w' => e = .returned (.int .i64 (max lo (min n hi))) ∧ w = w' := by
  go_enter Try.func25, Try.ntmps25
  go_wp2
  all_goals
    go_ret
    refine ⟨ret_int ?_, rfl⟩
    omega

def inB (n lo hi : Int) : Bool := decide (lo ≤ n ∧ n ≤ hi)

set_option maxHeartbeats 400000 in
theorem within_any (n lo hi : Int) (hl : lo ≤ hi) (w : World) :
    Calls Try.prog 20 #[.int .i64 n, .int .i64 lo, .int .i64 hi] w fun e w' => e = .returned (.bool (inB n lo hi)) ∧ w = w' := by
  go_enter Try.func20, Try.ntmps20
  go_wp2_with (go_at_call 25; refine (limit_any _ _ _ _).mono ?_; rintro e w' ⟨rfl, rfl⟩)
  go_ret
  refine ⟨ret_bool ?_, rfl⟩
  unfold inB
  show (max lo (min n hi) == n) = _
  rw [Bool.eq_iff_iff]; simp; omega

def fitL (l bu : Int) : Int := max 0 (min l (1000 * max 0 (min bu 1000000)))

set_option maxHeartbeats 400000 in
theorem fit_any (r bu l a : Int) (w : World) :
    Calls Try.prog 26 #[.agg #[.int .i64 r, .int .i64 bu, .int .i64 l, .int .i64 a]] w fun e w' => e = .returned (.agg #[.int .i64 (max 0 (min r 1000)), .int .i64 (max 0 (min bu 1000000)), .int .i64 (fitL l bu), .int .i64 (max 0 (min a 1125899906842624))]) ∧ Below w.heap.size w w' := by
  have hw : IntKind.i64.wrap (1000 * max 0 (min bu 1000000)) = 1000 * max 0 (min bu 1000000) := IntWalk.i64_in _ (by omega)
  go_enter Try.func26, Try.ntmps26
  go_wp2_with (go_at_call 25; refine (limit_any _ _ _ _).mono ?_; rintro e w' ⟨rfl, rfl⟩)
  go_region_held3 (fun w' => w'.cell? ⟨w.heap.size, 0, none⟩ = some (.int .i64 r) ∧ w'.cell? ⟨w.heap.size, 1, none⟩ = some (.int .i64 bu) ∧ w'.cell? ⟨w.heap.size, 2, none⟩ = some (.int .i64 l) ∧ w'.cell? ⟨w.heap.size, 3, none⟩ = some (.int .i64 a)) (go_keep)
    (first | (go_at_call 25; refine (limit_any _ _ _ _).mono ?_; rintro e w' ⟨rfl, rfl⟩))
  all_goals go_wp2
  exact bodyPost_ret (v := .agg #[.int .i64 (max 0 (min r 1000)), .int .i64 (max 0 (min bu 1000000)), .int .i64 (max 0 (min l (1000 * max 0 (min bu 1000000)))), .int .i64 (max 0 (min a 1125899906842624))]) (by simp [results, Try.results26, go_sem]) rfl ⟨rfl, (by repeat (first | (with_reducible exact Below.refl _ _) | (with_reducible refine Below.drew ?_) | ((with_reducible refine Below.alloc ?_ ?_ _); rotate_left; focus ((try simp) <;> omega)) | ((with_reducible refine Below.setCell ?_ ?_ _); rotate_left; focus ((try simp) <;> omega)) | ((with_reducible refine Below.trans ?_ (Below.mono (by assumption) ?_)); rotate_left; focus ((try simp) <;> omega))))⟩

def bktEq (a b c d a' b' c' d' : Int) : Bool := decide (a = a' ∧ b = b' ∧ c = c' ∧ d = d')
theorem bktEq_self (a b c d : Int) : bktEq a b c d a b c d = true := by simp [bktEq]
theorem eq_bucket (w : World) (a b c d a' b' c' d' : Int) : (binOp .eql 23 (.agg #[.int .i64 a, .int .i64 b, .int .i64 c, .int .i64 d]) (.agg #[.int .i64 a', .int .i64 b', .int .i64 c', .int .i64 d'])).run Try.prog w = .ok (.bool (bktEq a b c d a' b' c' d')) w := by
  have hp : Try.prog.stoodInHeld 23 = false := by kernel_rfl
  unfold bktEq
  go_simp
  by_cases h1 : a = a' <;> by_cases h2 : b = b' <;> by_cases h3 : c = c' <;> by_cases h4 : d = d' <;> simp [h1, h2, h3, h4]
attribute [local go_sem ↓] eq_bucket

def vld (r bu l a : Int) : Bool := decide (0 ≤ r ∧ r ≤ 1000 ∧ 0 ≤ bu ∧ bu ≤ 1000000 ∧ 0 ≤ l ∧ l ≤ 1000 * bu ∧ 0 ≤ a ∧ a ≤ 1125899906842624)

theorem vld_eq (r bu l a : Int) : bktEq r bu l a (max 0 (min r 1000)) (max 0 (min bu 1000000)) (fitL l bu) (max 0 (min a 1125899906842624)) = vld r bu l a := by
  unfold bktEq vld fitL
  rw [Bool.eq_iff_iff, decide_eq_true_iff, decide_eq_true_iff]
  omega

set_option maxHeartbeats 400000 in
theorem valid_any (r bu l a : Int) (w : World) :
    Calls Try.prog 23 #[.agg #[.int .i64 r, .int .i64 bu, .int .i64 l, .int .i64 a]] w fun e w' => e = .returned (.bool (vld r bu l a)) ∧ Below w.heap.size w w' := by
  go_enter Try.func23, Try.ntmps23
  go_wp2_with fail
  go_region_held3 (fun w' => w'.cell? ⟨w.heap.size, 0, none⟩ = some (.int .i64 r) ∧ w'.cell? ⟨w.heap.size, 1, none⟩ = some (.int .i64 bu) ∧ w'.cell? ⟨w.heap.size, 2, none⟩ = some (.int .i64 l) ∧ w'.cell? ⟨w.heap.size, 3, none⟩ = some (.int .i64 a)) (go_keep)
    (first | (go_at_call 26; refine (fit_any _ _ _ _ _).mono ?_; rintro e w1 ⟨rfl, hb⟩; obtain ⟨hc, hf⟩ := bcell hb))
  all_goals go_wp2
  go_ret
  exact ⟨ret_bool (vld_eq r bu l a), (by repeat (first | (with_reducible exact Below.refl _ _) | (with_reducible refine Below.drew ?_) | ((with_reducible refine Below.alloc ?_ ?_ _); rotate_left; focus ((try simp) <;> omega)) | ((with_reducible refine Below.setCell ?_ ?_ _); rotate_left; focus ((try simp) <;> omega)) | ((with_reducible refine Below.trans ?_ (Below.mono (by assumption) ?_)); rotate_left; focus ((try simp) <;> omega))))⟩

/-- The numbers of a bucket are in their ranges. -/
def Vld (r bu l a : Int) : Prop := 0 ≤ r ∧ r ≤ 1000 ∧ 0 ≤ bu ∧ bu ≤ 1000000 ∧ 0 ≤ l ∧ l ≤ 1000 * bu ∧ 0 ≤ a ∧ a ≤ 1125899906842624
instance (r bu l a : Int) : Decidable (Vld r bu l a) := by unfold Vld; infer_instance
theorem vld_iff {r bu l a : Int} : vld r bu l a = true ↔ Vld r bu l a := by unfold vld Vld; simp
theorem vld_no {r bu l a : Int} : vld r bu l a = false ↔ ¬ Vld r bu l a := by rw [← vld_iff]; simp

/-- The level of a bucket at a time. -/
def lvl (r bu l a t : Int) : Int := if t ≤ a then l else min (1000 * bu) (l + r * (t - a))

theorem prod_bd {r d : Int} (h0 : 0 ≤ r) (h1 : r ≤ 1000) (h2 : 0 ≤ d) (h3 : d ≤ 1125899906842624) : 0 ≤ r * d ∧ r * d ≤ 1125899906842624000 := by
  refine ⟨Int.mul_nonneg h0 h2, ?_⟩
  have := Int.mul_le_mul h1 h3 h2 (by omega)
  omega

set_option maxHeartbeats 400000 in
theorem level_any (r bu l a t : Int) (h : Vld r bu l a) (ht : 0 ≤ t ∧ t ≤ 1125899906842624) (w : World) :
    Calls Try.prog 24 #[.agg #[.int .i64 r, .int .i64 bu, .int .i64 l, .int .i64 a], .int .i64 t] w fun e w' => e = .returned (.int .i64 (lvl r bu l a t)) ∧ Below w.heap.size w w' := by
  obtain ⟨h1, h2, h3, h4, h5, h6, h7, h8⟩ := h
  obtain ⟨t1, t2⟩ := ht
  by_cases hta : t ≤ a
  · go_enter Try.func24, Try.ntmps24
    go_wp2_with fail
    go_ret
    exact ⟨ret_int (by unfold lvl; rw [if_pos hta]), (by repeat (first | (with_reducible exact Below.refl _ _) | (with_reducible refine Below.drew ?_) | ((with_reducible refine Below.alloc ?_ ?_ _); rotate_left; focus ((try simp) <;> omega)) | ((with_reducible refine Below.setCell ?_ ?_ _); rotate_left; focus ((try simp) <;> omega)) | ((with_reducible refine Below.trans ?_ (Below.mono (by assumption) ?_)); rotate_left; focus ((try simp) <;> omega))))⟩
  · obtain ⟨p1, p2⟩ := prod_bd h1 h2 (d := t - a) (by omega) (by omega)
    go_enter Try.func24, Try.ntmps24
    go_wp2_with fail
    all_goals
      go_ret
      exact ⟨ret_int (by unfold lvl; rw [if_neg (by omega)]; omega), (by repeat (first | (with_reducible exact Below.refl _ _) | (with_reducible refine Below.drew ?_) | ((with_reducible refine Below.alloc ?_ ?_ _); rotate_left; focus ((try simp) <;> omega)) | ((with_reducible refine Below.setCell ?_ ?_ _); rotate_left; focus ((try simp) <;> omega)) | ((with_reducible refine Below.trans ?_ (Below.mono (by assumption) ?_)); rotate_left; focus ((try simp) <;> omega))))⟩

set_option maxHeartbeats 400000 in
theorem cost_any (n : Int) (w : World) :
    Calls Try.prog 21 #[.int .i64 n] w fun e w' => e = .returned (.bool (inB n 0 1000000)) ∧ w = w' := by
  go_enter Try.func21, Try.ntmps21
  go_wp2_with fail
  all_goals
    go_ret
    refine ⟨ret_bool ?_, rfl⟩
    unfold inB
    rw [Bool.eq_iff_iff]
    simp
    try omega

set_option maxHeartbeats 400000 in
theorem time_any (n : Int) (w : World) :
    Calls Try.prog 22 #[.int .i64 n] w fun e w' => e = .returned (.bool (inB n 0 1125899906842624)) ∧ w = w' := by
  go_enter Try.func22, Try.ntmps22
  go_wp2_with fail
  all_goals
    go_ret
    refine ⟨ret_bool ?_, rfl⟩
    unfold inB
    rw [Bool.eq_iff_iff]
    simp
    try omega

theorem inB_iff {n lo hi : Int} : inB n lo hi = true ↔ lo ≤ n ∧ n ≤ hi := by unfold inB; simp
theorem inB_no {n lo hi : Int} : inB n lo hi = false ↔ ¬ (lo ≤ n ∧ n ≤ hi) := by unfold inB; simp

set_option maxHeartbeats 400000 in
theorem right_any (r bu l a : Int) (w : World) :
    Calls Try.prog 15 #[.agg #[.int .i64 r, .int .i64 bu, .int .i64 l, .int .i64 a]] w fun e w' => e = .returned (.bool (vld r bu l a)) ∧ Below w.heap.size w w' := by
  go_enter Try.func15, Try.ntmps15
  go_wp2_with (first | (go_at_call 21; refine (cost_any _ _).mono ?_; rintro e w' ⟨rfl, rfl⟩) | (go_at_call 22; refine (time_any _ _).mono ?_; rintro e w' ⟨rfl, rfl⟩))
  all_goals
    go_ret
    refine ⟨ret_bool ?_, (by repeat (first | (with_reducible exact Below.refl _ _) | (with_reducible refine Below.drew ?_) | ((with_reducible refine Below.alloc ?_ ?_ _); rotate_left; focus ((try simp) <;> omega)) | ((with_reducible refine Below.setCell ?_ ?_ _); rotate_left; focus ((try simp) <;> omega)) | ((with_reducible refine Below.trans ?_ (Below.mono (by assumption) ?_)); rotate_left; focus ((try simp) <;> omega))))⟩
    rw [Bool.eq_iff_iff, vld_iff]
    unfold Vld
    try simp only [inB_iff] at *
    try unfold wrap64 at *
    try simp
    try omega

end Go.Proofs.Ytalnbjcfcpkdlaa
