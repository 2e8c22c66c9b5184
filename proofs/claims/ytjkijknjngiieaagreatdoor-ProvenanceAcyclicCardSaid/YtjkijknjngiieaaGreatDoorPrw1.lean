/-
  The walks of provenance: a link's name, a file input, an artifact's name, a size, by the program.
-/
import Derived.Test.YtjkijknjngiieaaGreatDoorProvK
import Derived.Test.YtjkijknjngiieaaGreatDoorPar1
import Derived.Test.YtjkijknjngiieaaGreatDoorComm0


namespace Go.Proofs.YtjkijknjngiieaaGreatDoor
open Go.RowKit

theorem lname_any (x : Lkr) (w : World) (hs : x.job.1.size + x.name.1.size + 1 ≤ 9223372036854775807) :
    Calls Tryz.prog 46 #[.agg #[.string x.run.1, .string x.job.1, .int .i64 x.attempt.1, .int .u64 x.spec.1, .slice x.insA x.ins.length x.insC, .string x.name.1, .int .u64 x.digest.1, .int .i64 x.size.1]] w fun e w' => e = .returned (.string (nameL x.h).1) ∧ Below w.heap.size w w' := by
  have hj : Hid ((nameL x.h).1 = x.job.1 ++ ⟨#[47]⟩ ++ x.name.1) := Lib.hid (join_bytes hs)
  go_enter Tryz.func46, Tryz.ntmps46
  go_wp2_with fail
  go_ret
  exact ⟨by rw [hj.out]; rfl, (by repeat (first | (with_reducible exact Below.refl _ _) | (with_reducible refine Below.drew ?_) | (with_reducible refine below_drewN ?_ _) | ((with_reducible refine Below.alloc ?_ ?_ _); rotate_left; focus ((try simp) <;> omega)) | ((with_reducible refine Below.setCell ?_ ?_ _); rotate_left; focus ((try simp) <;> omega)) | ((with_reducible refine Below.trans ?_ (Below.mono (by assumption) ?_)); rotate_left; focus ((try simp) <;> omega))))⟩
/-- What is cut of a text as a path. -/
def fpS (s : Str) : Str := if Lib.hasPrefix s.1.data.toList [102, 105, 108, 101, 58] = true then mkS (s.1.data.toList.drop 5) else s
theorem fpS_of {s q : Str} (h : fileS s = some q) : fpS s = q := by
  rw [file_of] at h
  split at h
  · rename_i h2
    unfold fpS
    rw [if_pos h2.1]
    simpa using h
  · cases h
theorem fpS_bytes (s : Str) : (⟨(Lib.trimPrefix s.1.data.toList [102, 105, 108, 101, 58]).toArray⟩ : ByteArray) = (fpS s).1 := by
  unfold Lib.trimPrefix fpS
  have h1 : s.1.data.toList.length = s.1.size := by rw [Array.length_toList]; rfl
  split
  · rw [mkS_bytes (by rw [List.length_drop]; have := s.2; omega)]
    rfl
  · rfl
theorem fpS_size (s : Str) : (fpS s).1.size ≤ s.1.size := by
  rw [← fpS_bytes]
  show (Lib.trimPrefix _ _).toArray.size ≤ _
  rw [List.size_toArray]
  have h1 : s.1.data.toList.length = s.1.size := by rw [Array.length_toList]; rfl
  unfold Lib.trimPrefix
  split
  · rw [List.length_drop]; omega
  · omega
theorem file_some (s : Str) : (fileS s).isSome = (Lib.hasPrefix s.1.data.toList [102, 105, 108, 101, 58] && decide (pathE (fpS s) = 0)) := by
  rw [file_of]
  unfold fpS pathB
  by_cases h : Lib.hasPrefix s.1.data.toList [102, 105, 108, 101, 58] = true
  · rw [if_pos h, h, Bool.true_and]
    by_cases h2 : decide (pathE (mkS (s.1.data.toList.drop 5)) = 0) = true
    · rw [if_pos ⟨rfl, h2⟩, h2]; rfl
    · rw [if_neg (fun e => h2 e.2), Bool.eq_false_iff.2 h2]; rfl
  · rw [if_neg (fun e => h e.1), Bool.eq_false_iff.2 h]; rfl
theorem beq_dec (P : Int) : (P == 0) = decide (P = 0) := Bool.eq_iff_iff.2 (by simp)
theorem file_any (s : Str) (w : World) (hG : Glob w) (hs : s.1.size < 4294967281) :
    Calls Tryz.prog 41 #[.string s.1] w fun e w' => e = .returned (.tuple #[.string (fpS s).1, .bool (fileS s).isSome]) ∧ Below w.heap.size w w' := by
  have hcp0 := fun W => Tryz.strings_CutPrefix s.1 ⟨#[102, 105, 108, 101, 58]⟩ W
  rw [show (⟨#[102, 105, 108, 101, 58]⟩ : ByteArray).data.toList = [102, 105, 108, 101, 58] from rfl, fpS_bytes s] at hcp0
  have hpa0 := fun W (hb : Below w.heap.size w W) => parts_any (fpS s) W (hG.keep hb) (by have := fpS_size s; omega)
  rw [file_some]
  obtain ⟨H, hH⟩ : ∃ H, Lib.hasPrefix s.1.data.toList [102, 105, 108, 101, 58] = H := ⟨_, rfl⟩
  obtain ⟨P, hP⟩ : ∃ P, pathE (fpS s) = P := ⟨_, rfl⟩
  rw [hH] at hcp0 ⊢
  rw [hP] at hpa0 ⊢
  have hcp := Lib.hid hcp0
  have hpa := Lib.hid hpa0
  clear hcp0 hpa0 hH hP hG
  rcases H with _ | _
  · go_enter Tryz.func41, Tryz.ntmps41
    go_wp2_with (first | (go_at_call 73; go_must (refine (hcp.out _).mono ?_; rintro e w1 ⟨rfl, rfl⟩)) | (go_at_call 74; go_must (refine (hpa.out _ (by repeat (first | (with_reducible exact Below.refl _ _) | (with_reducible refine Below.drew ?_) | (with_reducible refine below_drewN ?_ _) | ((with_reducible refine Below.alloc ?_ ?_ _); rotate_left; focus ((try simp) <;> omega)) | ((with_reducible refine Below.setCell ?_ ?_ _); rotate_left; focus ((try simp) <;> omega)) | ((with_reducible refine Below.trans ?_ (Below.mono (by assumption) ?_)); rotate_left; focus ((try simp) <;> omega))))).mono ?_; rintro e w2 ⟨A2, c2, rfl, -, -, hb2⟩)))
    exact bodyPost_ret (v := .tuple #[.string (fpS s).1, .bool false]) (by simp [results, Tryz.results41, go_sem]) rfl ⟨by simp, (by repeat (first | (with_reducible exact Below.refl _ _) | (with_reducible refine Below.drew ?_) | (with_reducible refine below_drewN ?_ _) | ((with_reducible refine Below.alloc ?_ ?_ _); rotate_left; focus ((try simp) <;> omega)) | ((with_reducible refine Below.setCell ?_ ?_ _); rotate_left; focus ((try simp) <;> omega)) | ((with_reducible refine Below.trans ?_ (Below.mono (by assumption) ?_)); rotate_left; focus ((try simp) <;> omega))))⟩
  · go_enter Tryz.func41, Tryz.ntmps41
    go_wp2_with (first | (go_at_call 73; go_must (refine (hcp.out _).mono ?_; rintro e w1 ⟨rfl, rfl⟩)) | (go_at_call 74; go_must (refine (hpa.out _ (by repeat (first | (with_reducible exact Below.refl _ _) | (with_reducible refine Below.drew ?_) | (with_reducible refine below_drewN ?_ _) | ((with_reducible refine Below.alloc ?_ ?_ _); rotate_left; focus ((try simp) <;> omega)) | ((with_reducible refine Below.setCell ?_ ?_ _); rotate_left; focus ((try simp) <;> omega)) | ((with_reducible refine Below.trans ?_ (Below.mono (by assumption) ?_)); rotate_left; focus ((try simp) <;> omega))))).mono ?_; rintro e w2 ⟨A2, c2, rfl, -, -, hb2⟩)))
    exact bodyPost_ret (v := .tuple #[.string (fpS s).1, .bool (P == 0)]) (by simp [results, Tryz.results41, go_sem]) rfl ⟨by rw [beq_dec, Bool.true_and], (by repeat (first | (with_reducible exact Below.refl _ _) | (with_reducible refine Below.drew ?_) | (with_reducible refine below_drewN ?_ _) | ((with_reducible refine Below.alloc ?_ ?_ _); rotate_left; focus ((try simp) <;> omega)) | ((with_reducible refine Below.setCell ?_ ?_ _); rotate_left; focus ((try simp) <;> omega)) | ((with_reducible refine Below.trans ?_ (Below.mono (by assumption) ?_)); rotate_left; focus ((try simp) <;> omega))))⟩
theorem ret_dec {p q : Prop} [Decidable p] [Decidable q] (h : p ↔ q) : Ending.returned (.bool (decide p)) = .returned (.bool (decide q)) := by rw [decide_eq_decide.2 h]
theorem artifact_any (s : Str) (w : World) (hG : Glob w) (hs : s.1.size < 4294967281) :
    Calls Tryz.prog 66 #[.string s.1] w fun e w' => e = .returned (.bool (artB s)) ∧ Below w.heap.size w w' := by
  have hpa := Lib.hid (fun W (hb : Below w.heap.size w W) => parts_any s W (hG.keep hb) hs)
  by_cases hp : pathE s = 0
  · have hR : partsR s = parts s := by unfold partsR; rw [if_pos hp]
    have ha : artB s = decide (2 ≤ (parts s).length) := by unfold artB pathB; rw [decide_eq_true hp, Bool.true_and]
    rw [hp, hR] at hpa
    rw [ha]
    generalize (parts s).length = n at *
    clear ha hR hp hG
    go_enter Tryz.func66, Tryz.ntmps66
    go_wp2_with (go_at_call 74; go_must (refine (hpa.out _ (by repeat (first | (with_reducible exact Below.refl _ _) | (with_reducible refine Below.drew ?_) | (with_reducible refine below_drewN ?_ _) | ((with_reducible refine Below.alloc ?_ ?_ _); rotate_left; focus ((try simp) <;> omega)) | ((with_reducible refine Below.setCell ?_ ?_ _); rotate_left; focus ((try simp) <;> omega)) | ((with_reducible refine Below.trans ?_ (Below.mono (by assumption) ?_)); rotate_left; focus ((try simp) <;> omega))))).mono ?_; rintro e w2 ⟨A2, c2, rfl, -, -, hb2⟩))
    go_ret
    exact ⟨ret_dec (by omega), (by repeat (first | (with_reducible exact Below.refl _ _) | (with_reducible refine Below.drew ?_) | (with_reducible refine below_drewN ?_ _) | ((with_reducible refine Below.alloc ?_ ?_ _); rotate_left; focus ((try simp) <;> omega)) | ((with_reducible refine Below.setCell ?_ ?_ _); rotate_left; focus ((try simp) <;> omega)) | ((with_reducible refine Below.trans ?_ (Below.mono (by assumption) ?_)); rotate_left; focus ((try simp) <;> omega))))⟩
  · have ha : artB s = false := by unfold artB pathB; rw [decide_eq_false hp, Bool.false_and]
    rw [ha]
    obtain ⟨P, hP⟩ : ∃ P, pathE s = P := ⟨_, rfl⟩
    rw [hP] at hpa hp
    clear ha hP hG
    go_enter Tryz.func66, Tryz.ntmps66
    go_wp2_with (go_at_call 74; go_must (refine (hpa.out _ (by repeat (first | (with_reducible exact Below.refl _ _) | (with_reducible refine Below.drew ?_) | (with_reducible refine below_drewN ?_ _) | ((with_reducible refine Below.alloc ?_ ?_ _); rotate_left; focus ((try simp) <;> omega)) | ((with_reducible refine Below.setCell ?_ ?_ _); rotate_left; focus ((try simp) <;> omega)) | ((with_reducible refine Below.trans ?_ (Below.mono (by assumption) ?_)); rotate_left; focus ((try simp) <;> omega))))).mono ?_; rintro e w2 ⟨A2, c2, rfl, -, -, hb2⟩))
    go_ret
    exact ⟨rfl, (by repeat (first | (with_reducible exact Below.refl _ _) | (with_reducible refine Below.drew ?_) | (with_reducible refine below_drewN ?_ _) | ((with_reducible refine Below.alloc ?_ ?_ _); rotate_left; focus ((try simp) <;> omega)) | ((with_reducible refine Below.setCell ?_ ?_ _); rotate_left; focus ((try simp) <;> omega)) | ((with_reducible refine Below.trans ?_ (Below.mono (by assumption) ?_)); rotate_left; focus ((try simp) <;> omega))))⟩
theorem sized_any (x : OutR) (w : World) : Calls Tryz.prog 62 #[.agg #[.string x.name.1, .int .u64 x.digest.1, .int .i64 x.size.1]] w fun e w' => e = .returned (.bool (sizeB x.size.1)) ∧ Below w.heap.size w w' := by
  by_cases h0 : 0 ≤ x.size.1
  · have hs : sizeB x.size.1 = decide (x.size.1 ≤ 1099511627776) := by unfold sizeB; rw [decide_eq_true h0, Bool.true_and]
    rw [hs]
    clear hs
    go_enter Tryz.func62, Tryz.ntmps62
    go_wp2_with fail
    go_ret
    exact ⟨rfl, (by repeat (first | (with_reducible exact Below.refl _ _) | (with_reducible refine Below.drew ?_) | (with_reducible refine below_drewN ?_ _) | ((with_reducible refine Below.alloc ?_ ?_ _); rotate_left; focus ((try simp) <;> omega)) | ((with_reducible refine Below.setCell ?_ ?_ _); rotate_left; focus ((try simp) <;> omega)) | ((with_reducible refine Below.trans ?_ (Below.mono (by assumption) ?_)); rotate_left; focus ((try simp) <;> omega))))⟩
  · have hs : sizeB x.size.1 = false := by unfold sizeB; rw [decide_eq_false h0, Bool.false_and]
    rw [hs]
    clear hs
    go_enter Tryz.func62, Tryz.ntmps62
    go_wp2_with fail
    go_ret
    exact ⟨rfl, (by repeat (first | (with_reducible exact Below.refl _ _) | (with_reducible refine Below.drew ?_) | (with_reducible refine below_drewN ?_ _) | ((with_reducible refine Below.alloc ?_ ?_ _); rotate_left; focus ((try simp) <;> omega)) | ((with_reducible refine Below.setCell ?_ ?_ _); rotate_left; focus ((try simp) <;> omega)) | ((with_reducible refine Below.trans ?_ (Below.mono (by assumption) ?_)); rotate_left; focus ((try simp) <;> omega))))⟩
theorem chk1_any (x : OutR) (w : World) : Calls Tryz.prog 64 #[.agg #[.string x.name.1, .int .u64 x.digest.1, .int .i64 x.size.1]] w fun e w' => e = .returned (.bool (!sizeB x.size.1)) ∧ Below w.heap.size w w' := by
  have hs : Hid (∀ W, Calls Tryz.prog 62 #[.agg #[.string x.name.1, .int .u64 x.digest.1, .int .i64 x.size.1]] W fun e w' => e = .returned (.bool (sizeB x.size.1)) ∧ Below W.heap.size W w') := Lib.hid fun W => sized_any x W
  generalize sizeB x.size.1 = S at *
  go_enter Tryz.func64, Tryz.ntmps64
  go_wp2_with (go_at_call 62; go_must (refine (hs.out _).mono ?_; rintro e w2 ⟨rfl, hb2⟩))
  go_ret
  exact ⟨rfl, (by repeat (first | (with_reducible exact Below.refl _ _) | (with_reducible refine Below.drew ?_) | (with_reducible refine below_drewN ?_ _) | ((with_reducible refine Below.alloc ?_ ?_ _); rotate_left; focus ((try simp) <;> omega)) | ((with_reducible refine Below.setCell ?_ ?_ _); rotate_left; focus ((try simp) <;> omega)) | ((with_reducible refine Below.trans ?_ (Below.mono (by assumption) ?_)); rotate_left; focus ((try simp) <;> omega))))⟩
end Go.Proofs.YtjkijknjngiieaaGreatDoor
