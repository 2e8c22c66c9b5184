/-
  The walks of the arithmetic layer: narrow (what Scale calls).
-/
import Derived.Test.YtddepmelnemniaaDoorNuma1

namespace Go.Proofs.YtddepmelnemniaaDoor.Num
open Go.RowKit

theorem blk_at {W w1 : World} (hb : Below W.heap.size W w1) (g : Nat) (hg : g < W.heap.size) : (∀ o, w1.cell? ⟨g, o, none⟩ = W.cell? ⟨g, o, none⟩) ∧ (∀ o, w1.frozen? ⟨g, o, none⟩ = W.frozen? ⟨g, o, none⟩) :=
  ⟨fun o => hb.cell (p := ⟨g, o, none⟩) hg, fun o => hb.frozen (p := ⟨g, o, none⟩) hg⟩
theorem mulb_any (a b : Int) (ha : -9223372036854775808 ≤ a) (ha2 : a ≤ 9223372036854775807) (hb : -9223372036854775808 ≤ b) (hb2 : b ≤ 9223372036854775807) (w : World) :
    Calls Tryd.prog 27 #[.int .i64 a, .int .i64 b] w fun e w' => e = .returned (pV a b) ∧ Below w.heap.size w w' := (mul_any a b ha ha2 hb hb2 w).mono fun _ _ h => ⟨h.1, h.2.toBelow⟩
theorem signed (a b : Int) : a * b = if pN a b = true then -(pP a b) else pP a b := by
  have e : (pN a b = true) = (¬ (a < 0 ↔ b < 0) ∧ pP a b ≠ 0) := by unfold pN; simp
  simp only [e]
  have hx : pP a b = if (a < 0 ↔ b < 0) then a * b else -(a * b) := by
    unfold pP sz
    by_cases h1 : a < 0 <;> by_cases h2 : b < 0 <;> simp [h1, h2, Int.neg_mul, Int.mul_neg]
  by_cases h : a < 0 ↔ b < 0
  · rw [if_pos h] at hx
    rw [if_neg (fun hh => hh.1 h), hx]
  · rw [if_neg h] at hx
    by_cases h0 : pP a b = 0
    · rw [if_neg (fun hh => hh.2 h0)]; omega
    · rw [if_pos ⟨h, h0⟩]; omega

theorem pP_nn (a b : Int) : 0 ≤ pP a b := by
  unfold pP sz
  refine Int.mul_nonneg ?_ ?_ <;> split <;> omega

/-- Whether a signed pair of halves is an int, and which. -/
def nrB (n : Bool) (h l : Int) : Bool := decide (h = 0 ∧ l ≤ (if n = true then 9223372036854775808 else 9223372036854775807))
def nrI (n : Bool) (h l : Int) : Int := if nrB n h l = true then (if n = true then -l else l) else 0
def nrV (n : Bool) (h l : Int) : Value := .tuple #[.int .i64 (nrI n h l), .bool (nrB n h l)]
theorem nrV_no {n : Bool} {h l : Int} (hb : nrB n h l = false) : nrV n h l = .tuple #[.int .i64 0, .bool false] := by unfold nrV nrI; rw [hb]; simp
theorem nrV_yes {n : Bool} {h l x : Int} (hb : nrB n h l = true) (hx : (if n = true then -l else l) = x) : nrV n h l = .tuple #[.int .i64 x, .bool true] := by unfold nrV nrI; rw [hb, ← hx]; simp

set_option maxHeartbeats 800000 in
theorem narrow_any (n : Bool) (h l : Int) (l1 : 0 ≤ l) (l2 : l ≤ 18446744073709551615) (w : World) :
    Calls Tryd.prog 30 #[.agg #[.int .u64 h, .int .u64 l, .bool n]] w fun e w' => e = .returned (nrV n h l) ∧ Below w.heap.size w w' := by
  by_cases h0 : h = 0
  · subst h0
    cases n
    · by_cases hl : l ≤ 9223372036854775807
      · have hE := Lib.hid (nrV_yes (n := false) (h := 0) (l := l) (x := l) (by unfold nrB; simp; omega) (by simp))
        go_enter Tryd.func30, Tryd.ntmps30
        go_wp2_with fail
        go_ret2
        exact ⟨by rw [hE.out]; rfl, (by repeat (first | (with_reducible exact Below.refl _ _) | (with_reducible refine Below.drew ?_) | ((with_reducible refine Below.alloc ?_ ?_ _); rotate_left; focus ((try simp) <;> omega)) | ((with_reducible refine Below.setCell ?_ ?_ _); rotate_left; focus ((try simp) <;> omega)) | ((with_reducible refine Below.trans ?_ (Below.mono (by assumption) ?_)); rotate_left; focus ((try simp) <;> omega))))⟩
      · have hE := Lib.hid (nrV_no (n := false) (h := 0) (l := l) (by unfold nrB; simp; omega))
        go_enter Tryd.func30, Tryd.ntmps30
        go_wp2_with fail
        go_ret2
        exact ⟨by rw [hE.out]; rfl, (by repeat (first | (with_reducible exact Below.refl _ _) | (with_reducible refine Below.drew ?_) | ((with_reducible refine Below.alloc ?_ ?_ _); rotate_left; focus ((try simp) <;> omega)) | ((with_reducible refine Below.setCell ?_ ?_ _); rotate_left; focus ((try simp) <;> omega)) | ((with_reducible refine Below.trans ?_ (Below.mono (by assumption) ?_)); rotate_left; focus ((try simp) <;> omega))))⟩
    · by_cases hl : l ≤ 9223372036854775808
      · have hE := Lib.hid (nrV_yes (n := true) (h := 0) (l := l) (x := -l) (by unfold nrB; simp; omega) (by simp))
        go_enter Tryd.func30, Tryd.ntmps30
        go_wp2_with fail
        go_ret2
        have hw : wrap64 (IntKind.u64.wrap (-l)) = -l := by unfold wrap64; rw [wrap_u64]; omega
        exact ⟨by rw [hE.out]; exact congrArg (fun x => Ending.returned (.tuple #[.int .i64 x, .bool true])) hw, (by repeat (first | (with_reducible exact Below.refl _ _) | (with_reducible refine Below.drew ?_) | ((with_reducible refine Below.alloc ?_ ?_ _); rotate_left; focus ((try simp) <;> omega)) | ((with_reducible refine Below.setCell ?_ ?_ _); rotate_left; focus ((try simp) <;> omega)) | ((with_reducible refine Below.trans ?_ (Below.mono (by assumption) ?_)); rotate_left; focus ((try simp) <;> omega))))⟩
      · have hE := Lib.hid (nrV_no (n := true) (h := 0) (l := l) (by unfold nrB; simp; omega))
        go_enter Tryd.func30, Tryd.ntmps30
        go_wp2_with fail
        go_ret2
        exact ⟨by rw [hE.out]; rfl, (by repeat (first | (with_reducible exact Below.refl _ _) | (with_reducible refine Below.drew ?_) | ((with_reducible refine Below.alloc ?_ ?_ _); rotate_left; focus ((try simp) <;> omega)) | ((with_reducible refine Below.setCell ?_ ?_ _); rotate_left; focus ((try simp) <;> omega)) | ((with_reducible refine Below.trans ?_ (Below.mono (by assumption) ?_)); rotate_left; focus ((try simp) <;> omega))))⟩
  · have e1 : (h != 0) = true := by simpa using h0
    have hE := Lib.hid (nrV_no (n := n) (h := h) (l := l) (by unfold nrB; simp [h0]))
    go_enter Tryd.func30, Tryd.ntmps30
    go_wp2_with fail
    go_ret2
    exact ⟨by rw [hE.out]; rfl, (by repeat (first | (with_reducible exact Below.refl _ _) | (with_reducible refine Below.drew ?_) | ((with_reducible refine Below.alloc ?_ ?_ _); rotate_left; focus ((try simp) <;> omega)) | ((with_reducible refine Below.setCell ?_ ?_ _); rotate_left; focus ((try simp) <;> omega)) | ((with_reducible refine Below.trans ?_ (Below.mono (by assumption) ?_)); rotate_left; focus ((try simp) <;> omega))))⟩

theorem pL_bd (a b : Int) : 0 ≤ pL a b ∧ pL a b ≤ 18446744073709551615 := by unfold pL; omega
end Go.Proofs.YtddepmelnemniaaDoor.Num
