/-
  The walks of provenance: paths, files, names, sizes, the index of a name, by the reference.
-/
import Derived.Test.YtjkijknjngiieaaGreatDoorPrw13
import Derived.Test.YtjkijknjngiieaaGreatDoorPar2


namespace Go.Proofs.YtjkijknjngiieaaGreatDoor
open Go.RowKit

theorem rpath_any (s : Str) (n : Nat) (w : World) (hs : s.1.size < 4294967281) (_hn : n ≤ 10) :
    Calls Tryz.prog 48 #[.string s.1, .int .i64 (n : Int)] w fun e w' => e = .returned (.bool (pathB s && decide (n ≤ (parts s).length))) ∧ Below w.heap.size w w' := by
  have hpa := Lib.hid (fun W => rparts_any s W hs)
  by_cases hp : pathE s = 0
  · have hR : partsR s = parts s := by unfold partsR; rw [if_pos hp]
    have ha : pathB s = true := by unfold pathB; rw [decide_eq_true hp]
    rw [hp, hR] at hpa
    rw [ha, Bool.true_and]
    generalize (parts s).length = m at *
    clear ha hR hp
    go_enter Tryz.func48, Tryz.ntmps48
    go_wp2_with (go_at_call 79; go_must (refine (hpa.out _).mono ?_; rintro e w2 ⟨A2, c2, rfl, -, -, hb2⟩))
    go_ret
    exact ⟨ret_dec (by omega), (by repeat (first | (with_reducible exact Below.refl _ _) | (with_reducible refine Below.drew ?_) | (with_reducible refine below_drewN ?_ _) | ((with_reducible refine Below.alloc ?_ ?_ _); rotate_left; focus ((try simp) <;> omega)) | ((with_reducible refine Below.setCell ?_ ?_ _); rotate_left; focus ((try simp) <;> omega)) | ((with_reducible refine Below.trans ?_ (Below.mono (by assumption) ?_)); rotate_left; focus ((try simp) <;> omega))))⟩
  · have ha : pathB s = false := by unfold pathB; rw [decide_eq_false hp]
    rw [ha, Bool.false_and]
    obtain ⟨P, hP⟩ : ∃ P, pathE s = P := ⟨_, rfl⟩
    rw [hP] at hpa hp
    clear ha hP
    go_enter Tryz.func48, Tryz.ntmps48
    go_wp2_with (go_at_call 79; go_must (refine (hpa.out _).mono ?_; rintro e w2 ⟨A2, c2, rfl, -, -, hb2⟩))
    go_ret
    exact ⟨rfl, (by repeat (first | (with_reducible exact Below.refl _ _) | (with_reducible refine Below.drew ?_) | (with_reducible refine below_drewN ?_ _) | ((with_reducible refine Below.alloc ?_ ?_ _); rotate_left; focus ((try simp) <;> omega)) | ((with_reducible refine Below.setCell ?_ ?_ _); rotate_left; focus ((try simp) <;> omega)) | ((with_reducible refine Below.trans ?_ (Below.mono (by assumption) ?_)); rotate_left; focus ((try simp) <;> omega))))⟩
theorem path_one (s : Str) : (pathB s && decide (1 ≤ (parts s).length)) = pathB s := by
  have : 1 ≤ (parts s).length := by
    have := parts_ne s
    cases h : parts s with
    | nil => exact absurd h this
    | cons a l => simp
  rw [decide_eq_true this, Bool.and_true]
theorem rpath1_any (s : Str) (w : World) (hs : s.1.size < 4294967281) :
    Calls Tryz.prog 48 #[.string s.1, .int .i64 1] w fun e w' => e = .returned (.bool (pathB s)) ∧ Below w.heap.size w w' := by
  have h := rpath_any s 1 w hs (by omega)
  rw [path_one] at h
  exact h
theorem rartifact_any (s : Str) (w : World) (hs : s.1.size < 4294967281) :
    Calls Tryz.prog 39 #[.string s.1] w fun e w' => e = .returned (.bool (artB s)) ∧ Below w.heap.size w w' := by
  have h : Hid (∀ W, Calls Tryz.prog 48 #[.string s.1, .int .i64 2] W fun e w' => e = .returned (.bool (artB s)) ∧ Below W.heap.size W w') := Lib.hid fun W => rpath_any s 2 W hs (by omega)
  generalize artB s = R at *
  go_enter Tryz.func39, Tryz.ntmps39
  go_wp2_with (go_at_call 48; go_must (refine (h.out _).mono ?_; rintro e w2 ⟨rfl, hb2⟩))
  go_ret
  exact ⟨rfl, (by repeat (first | (with_reducible exact Below.refl _ _) | (with_reducible refine Below.drew ?_) | (with_reducible refine below_drewN ?_ _) | ((with_reducible refine Below.alloc ?_ ?_ _); rotate_left; focus ((try simp) <;> omega)) | ((with_reducible refine Below.setCell ?_ ?_ _); rotate_left; focus ((try simp) <;> omega)) | ((with_reducible refine Below.trans ?_ (Below.mono (by assumption) ?_)); rotate_left; focus ((try simp) <;> omega))))⟩
theorem rsize_any (n : Int) (w : World) : Calls Tryz.prog 36 #[.int .i64 n] w fun e w' => e = .returned (.bool (sizeB n)) ∧ w = w' := by
  by_cases h0 : 0 ≤ n
  · have hs : sizeB n = decide (n ≤ 1099511627776) := by unfold sizeB; rw [decide_eq_true h0, Bool.true_and]
    rw [hs]
    clear hs
    go_enter Tryz.func36, Tryz.ntmps36
    go_wp2_with fail
    go_ret
    exact ⟨rfl, rfl⟩
  · have hs : sizeB n = false := by unfold sizeB; rw [decide_eq_false h0, Bool.false_and]
    rw [hs]
    clear hs
    go_enter Tryz.func36, Tryz.ntmps36
    go_wp2_with fail
    go_ret
    exact ⟨rfl, rfl⟩
theorem rnm_any (run job nm : Str) (w : World) (hs : job.1.size + nm.1.size + 1 ≤ 9223372036854775807) :
    Calls Tryz.prog 47 #[.agg #[.string run.1, .string job.1], .string nm.1] w fun e w' => e = .returned (.string (joinS job nm).1) ∧ Below w.heap.size w w' := by
  have hj : Hid ((joinS job nm).1 = job.1 ++ ⟨#[47]⟩ ++ nm.1) := Lib.hid (join_bytes hs)
  go_enter Tryz.func47, Tryz.ntmps47
  go_wp2_with fail
  go_ret
  exact ⟨by rw [hj.out]; rfl, (by repeat (first | (with_reducible exact Below.refl _ _) | (with_reducible refine Below.drew ?_) | (with_reducible refine below_drewN ?_ _) | ((with_reducible refine Below.alloc ?_ ?_ _); rotate_left; focus ((try simp) <;> omega)) | ((with_reducible refine Below.setCell ?_ ?_ _); rotate_left; focus ((try simp) <;> omega)) | ((with_reducible refine Below.trans ?_ (Below.mono (by assumption) ?_)); rotate_left; focus ((try simp) <;> omega))))⟩
theorem rname_any35 (x : Lkr) (w : World) (hs : x.job.1.size + x.name.1.size + 1 ≤ 9223372036854775807) :
    Calls Tryz.prog 23 #[.agg #[.string x.run.1, .string x.job.1, .int .i64 x.attempt.1, .int .u64 x.spec.1, .slice x.insA x.ins.length x.insC, .string x.name.1, .int .u64 x.digest.1, .int .i64 x.size.1]] w fun e w' => e = .returned (.string (nameL x.h).1) ∧ Below w.heap.size w w' := by
  have h : Hid (∀ W, Calls Tryz.prog 47 #[.agg #[.string x.run.1, .string x.job.1], .string x.name.1] W fun e w' => e = .returned (.string (nameL x.h).1) ∧ Below W.heap.size W w') := Lib.hid fun W => rnm_any x.run x.job x.name W hs
  generalize (nameL x.h).1 = N at *
  go_enter Tryz.func23, Tryz.ntmps23
  go_wp2_with (go_at_call 47; go_must (refine (h.out _).mono ?_; rintro e w2 ⟨rfl, hb2⟩))
  go_ret
  exact ⟨rfl, (by repeat (first | (with_reducible exact Below.refl _ _) | (with_reducible refine Below.drew ?_) | (with_reducible refine below_drewN ?_ _) | ((with_reducible refine Below.alloc ?_ ?_ _); rotate_left; focus ((try simp) <;> omega)) | ((with_reducible refine Below.setCell ?_ ?_ _); rotate_left; focus ((try simp) <;> omega)) | ((with_reducible refine Below.trans ?_ (Below.mono (by assumption) ?_)); rotate_left; focus ((try simp) <;> omega))))⟩
/-- A file's path as the reference has it. -/
theorem file_small {s : Str} (h : s.1.size < 5) : fileS s = none := by
  unfold fileS
  rw [if_neg]
  rintro ⟨h5, _⟩
  have := congrArg List.length h5
  rw [List.length_take, Array.length_toList] at this
  have e : s.1.data.size = s.1.size := rfl
  simp only [List.length_cons, List.length_nil] at this
  omega
set_option maxRecDepth 100000 in
set_option maxHeartbeats 2000000 in
theorem rfile_any (s : Str) (w : World) (hs : s.1.size < 4294967281) :
    Calls Tryz.prog 24 #[.string s.1] w fun e w' => e = .returned (.tuple #[.string ((fileS s).getD ⟨ByteArray.empty, by decide⟩).1, .bool (fileS s).isSome]) ∧ Below w.heap.size w w' := by
  by_cases h5 : s.1.size < 5
  · rw [file_small h5]
    have h5z : (s.1.size : Int) < 5 := by omega
    go_enter Tryz.func24, Tryz.ntmps24
    go_wp2_with fail
    exact bodyPost_ret (v := .tuple #[.string ByteArray.empty, .bool false]) (by simp [results, Tryz.results24, go_sem] <;> rfl) rfl ⟨rfl, (by repeat (first | (with_reducible exact Below.refl _ _) | (with_reducible refine Below.drew ?_) | (with_reducible refine below_drewN ?_ _) | ((with_reducible refine Below.alloc ?_ ?_ _); rotate_left; focus ((try simp) <;> omega)) | ((with_reducible refine Below.setCell ?_ ?_ _); rotate_left; focus ((try simp) <;> omega)) | ((with_reducible refine Below.trans ?_ (Below.mono (by assumption) ?_)); rotate_left; focus ((try simp) <;> omega))))⟩
  have h5z : ¬ (s.1.size : Int) < 5 := by omega
  have i0 : (5 : Int) ≤ (s.1.size : Int) := by omega
  have hlen : s.1.data.toList.length = s.1.size := by rw [Array.length_toList]; rfl
  have hpre : (s.1.extract 0 5).toList = s.1.data.toList.take 5 := by rw [ext_head, Lib.toList_data]
  have hrest : s.1.extract 5 s.1.size = (mkS (s.1.data.toList.drop 5)).1 := by
    rw [piece s (by omega) (Nat.le_refl _), List.take_of_length_le (by rw [List.length_drop]; omega)]
  have hfd : fileS s = if s.1.data.toList.take 5 = [102, 105, 108, 101, 58] ∧ pathB (mkS (s.1.data.toList.drop 5)) = true then some (mkS (s.1.data.toList.drop 5)) else none := rfl
  have hq : (mkS (s.1.data.toList.drop 5)).1.size < 4294967281 := by
    rw [mkS_bytes (by rw [List.length_drop]; have := s.2; omega)]
    show (List.toArray _).size < _
    rw [List.size_toArray, List.length_drop]
    omega
  have hpa0 := fun W => rpath1_any (mkS (s.1.data.toList.drop 5)) W hq
  generalize mkS (s.1.data.toList.drop 5) = Q at *
  rw [← hpre] at hfd
  by_cases h6 : (s.1.extract 0 5).toList = [102, 105, 108, 101, 58]
  rotate_left
  · have hf : Hid (fileS s = none) := Lib.hid (by rw [hfd, if_neg (fun e => h6 e.1)])
    rw [hf.out]
    clear hfd hpre hlen hpa0
    go_enter Tryz.func24, Tryz.ntmps24
    go_wp2_with fail
    exact bodyPost_ret (v := .tuple #[.string ByteArray.empty, .bool false]) (by simp [results, Tryz.results24, go_sem] <;> rfl) rfl ⟨rfl, (by repeat (first | (with_reducible exact Below.refl _ _) | (with_reducible refine Below.drew ?_) | (with_reducible refine below_drewN ?_ _) | ((with_reducible refine Below.alloc ?_ ?_ _); rotate_left; focus ((try simp) <;> omega)) | ((with_reducible refine Below.setCell ?_ ?_ _); rotate_left; focus ((try simp) <;> omega)) | ((with_reducible refine Below.trans ?_ (Below.mono (by assumption) ?_)); rotate_left; focus ((try simp) <;> omega))))⟩
  obtain ⟨P, hP⟩ : ∃ P, pathB Q = P := ⟨_, rfl⟩
  rw [hP] at hpa0 hfd
  have hpa := Lib.hid hpa0
  clear hpa0 hpre hlen hP
  rcases P with _ | _
  · have hf : Hid (fileS s = none) := Lib.hid (by rw [hfd, if_neg (fun e => absurd e.2 (by decide))])
    rw [hf.out]
    clear hfd
    go_enter Tryz.func24, Tryz.ntmps24
    go_wp2_with (go_at_call 48; go_must (refine (hpa.out _).mono ?_; rintro e w2 ⟨rfl, hb2⟩))
    exact bodyPost_ret (v := .tuple #[.string ByteArray.empty, .bool false]) (by simp [results, Tryz.results24, go_sem] <;> rfl) rfl ⟨rfl, (by repeat (first | (with_reducible exact Below.refl _ _) | (with_reducible refine Below.drew ?_) | (with_reducible refine below_drewN ?_ _) | ((with_reducible refine Below.alloc ?_ ?_ _); rotate_left; focus ((try simp) <;> omega)) | ((with_reducible refine Below.setCell ?_ ?_ _); rotate_left; focus ((try simp) <;> omega)) | ((with_reducible refine Below.trans ?_ (Below.mono (by assumption) ?_)); rotate_left; focus ((try simp) <;> omega))))⟩
  · have hf : Hid (fileS s = some Q) := Lib.hid (by rw [hfd, if_pos ⟨h6, rfl⟩])
    rw [hf.out]
    clear hfd
    go_enter Tryz.func24, Tryz.ntmps24
    go_wp2_with (go_at_call 48; go_must (refine (hpa.out _).mono ?_; rintro e w2 ⟨rfl, hb2⟩))
    exact bodyPost_ret (v := .tuple #[.string Q.1, .bool true]) (by simp [results, Tryz.results24, go_sem]) rfl ⟨rfl, (by repeat (first | (with_reducible exact Below.refl _ _) | (with_reducible refine Below.drew ?_) | (with_reducible refine below_drewN ?_ _) | ((with_reducible refine Below.alloc ?_ ?_ _); rotate_left; focus ((try simp) <;> omega)) | ((with_reducible refine Below.setCell ?_ ?_ _); rotate_left; focus ((try simp) <;> omega)) | ((with_reducible refine Below.trans ?_ (Below.mono (by assumption) ?_)); rotate_left; focus ((try simp) <;> omega))))⟩
end Go.Proofs.YtjkijknjngiieaaGreatDoor
