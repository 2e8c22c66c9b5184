/-
  The walks of superseding: which runs are older, which are later; the runs that are selected.
-/
import Derived.Test.YtfbnihemoaknjaaDoorSup1


namespace Go.Proofs.YtfbnihemoaknjaaDoor
open Go.RowKit

theorem blk_at {W w1 : World} (hb : Below W.heap.size W w1) (g : Nat) (hg : g < W.heap.size) : (∀ o, w1.cell? ⟨g, o, none⟩ = W.cell? ⟨g, o, none⟩) ∧ (∀ o, w1.frozen? ⟨g, o, none⟩ = W.frozen? ⟨g, o, none⟩) :=
  ⟨fun o => hb.cell (p := ⟨g, o, none⟩) hg, fun o => hb.frozen (p := ⟨g, o, none⟩) hg⟩

/-- x is superseded by s; x is later than s. -/
def goesB (s x : Sum) : Bool := sameB x s && decide (x.number.1 < s.number.1) && !x.done && !x.keep
def laterB (s x : Sum) : Bool := sameB x s && decide (s.number.1 < x.number.1)

set_option maxHeartbeats 2000000 in
theorem older1_any (s x : Sum) (b : Nat) (w : World) (hb : b < w.heap.size) (hs : ∀ j u, (sumE s)[j]? = some u → w.cell? ⟨b, j, none⟩ = some u) :
    Calls Tryd.prog 20 #[.agg #[.string x.run.1, .string x.proj.1, .string x.ref.1, .bool x.fork, .string x.pipe.1, .int .i64 x.number.1, .bool x.done, .bool x.keep], .pointer (some ⟨b, 0, none⟩)] w fun e w' => e = .returned (.bool (goesB s x)) ∧ Below w.heap.size w w' := by
  have q0 := hs 0 (.string s.run.1) rfl
  try rw [Nat.add_zero] at q0
  have q1 := hs 1 (.string s.proj.1) rfl
  have q2 := hs 2 (.string s.ref.1) rfl
  have q3 := hs 3 (.bool s.fork) rfl
  have q4 := hs 4 (.string s.pipe.1) rfl
  have q5 := hs 5 (.int .i64 s.number.1) rfl
  have q6 := hs 6 (.bool s.done) rfl
  have q7 := hs 7 (.bool s.keep) rfl
  clear hs
  have hne : b ≠ w.heap.size := by omega
  unfold goesB
  rcases hsm : sameB x s with _ | _
  · go_enter Tryd.func20, Tryd.ntmps20
    go_wp2_with (first | (go_at_call 14; go_must (refine (same_any _ _ _).mono ?_; rintro e w2 ⟨rfl, hb2⟩; rw [hsm]; (skip); have hz2 := hb2.size; (try simp at hz2); obtain ⟨hc2, hf2⟩ := blk_at hb2 w.heap.size (by (try simp) <;> omega); obtain ⟨hd2, he2⟩ := blk_at hb2 b (by (try simp) <;> omega))))
    go_ret
    refine ⟨ret_bool ?_, (by repeat (first | (with_reducible exact Below.refl _ _) | (with_reducible refine Below.drew ?_) | (with_reducible refine below_drewN ?_ _) | ((with_reducible refine Below.alloc ?_ ?_ _); rotate_left; focus ((try simp) <;> omega)) | ((with_reducible refine Below.setCell ?_ ?_ _); rotate_left; focus ((try simp) <;> omega)) | ((with_reducible refine Below.trans ?_ (Below.mono (by assumption) ?_)); rotate_left; focus ((try simp) <;> omega))))⟩
    simp
  · by_cases hl : x.number.1 < s.number.1
    · by_cases hd : x.done = true
      · replace hd := Lib.hid hd
        go_enter Tryd.func20, Tryd.ntmps20
        go_wp2_with (first | (go_at_call 14; go_must (refine (same_any _ _ _).mono ?_; rintro e w2 ⟨rfl, hb2⟩; rw [hsm]; (have hd' := hd.out); have hz2 := hb2.size; (try simp at hz2); obtain ⟨hc2, hf2⟩ := blk_at hb2 w.heap.size (by (try simp) <;> omega); obtain ⟨hd2, he2⟩ := blk_at hb2 b (by (try simp) <;> omega))))
        go_ret
        refine ⟨ret_bool ?_, (by repeat (first | (with_reducible exact Below.refl _ _) | (with_reducible refine Below.drew ?_) | (with_reducible refine below_drewN ?_ _) | ((with_reducible refine Below.alloc ?_ ?_ _); rotate_left; focus ((try simp) <;> omega)) | ((with_reducible refine Below.setCell ?_ ?_ _); rotate_left; focus ((try simp) <;> omega)) | ((with_reducible refine Below.trans ?_ (Below.mono (by assumption) ?_)); rotate_left; focus ((try simp) <;> omega))))⟩
        simp [hd.out]
      · replace hd := Lib.hid (show x.done = false by simpa using hd)
        go_enter Tryd.func20, Tryd.ntmps20
        go_wp2_with (first | (go_at_call 14; go_must (refine (same_any _ _ _).mono ?_; rintro e w2 ⟨rfl, hb2⟩; rw [hsm]; (have hd' := hd.out); have hz2 := hb2.size; (try simp at hz2); obtain ⟨hc2, hf2⟩ := blk_at hb2 w.heap.size (by (try simp) <;> omega); obtain ⟨hd2, he2⟩ := blk_at hb2 b (by (try simp) <;> omega))))
        go_ret
        refine ⟨ret_bool ?_, (by repeat (first | (with_reducible exact Below.refl _ _) | (with_reducible refine Below.drew ?_) | (with_reducible refine below_drewN ?_ _) | ((with_reducible refine Below.alloc ?_ ?_ _); rotate_left; focus ((try simp) <;> omega)) | ((with_reducible refine Below.setCell ?_ ?_ _); rotate_left; focus ((try simp) <;> omega)) | ((with_reducible refine Below.trans ?_ (Below.mono (by assumption) ?_)); rotate_left; focus ((try simp) <;> omega))))⟩
        simp [hl, hd.out]
    · go_enter Tryd.func20, Tryd.ntmps20
      go_wp2_with (first | (go_at_call 14; go_must (refine (same_any _ _ _).mono ?_; rintro e w2 ⟨rfl, hb2⟩; rw [hsm]; (skip); have hz2 := hb2.size; (try simp at hz2); obtain ⟨hc2, hf2⟩ := blk_at hb2 w.heap.size (by (try simp) <;> omega); obtain ⟨hd2, he2⟩ := blk_at hb2 b (by (try simp) <;> omega))))
      go_ret
      refine ⟨ret_bool ?_, (by repeat (first | (with_reducible exact Below.refl _ _) | (with_reducible refine Below.drew ?_) | (with_reducible refine below_drewN ?_ _) | ((with_reducible refine Below.alloc ?_ ?_ _); rotate_left; focus ((try simp) <;> omega)) | ((with_reducible refine Below.setCell ?_ ?_ _); rotate_left; focus ((try simp) <;> omega)) | ((with_reducible refine Below.trans ?_ (Below.mono (by assumption) ?_)); rotate_left; focus ((try simp) <;> omega))))⟩
      simp
      omega
set_option maxHeartbeats 2000000 in
theorem later1_any (s x : Sum) (b : Nat) (w : World) (hb : b < w.heap.size) (hs : ∀ j u, (sumE s)[j]? = some u → w.cell? ⟨b, j, none⟩ = some u) :
    Calls Tryd.prog 22 #[.agg #[.string x.run.1, .string x.proj.1, .string x.ref.1, .bool x.fork, .string x.pipe.1, .int .i64 x.number.1, .bool x.done, .bool x.keep], .pointer (some ⟨b, 0, none⟩)] w fun e w' => e = .returned (.bool (laterB s x)) ∧ Below w.heap.size w w' := by
  have q0 := hs 0 (.string s.run.1) rfl
  try rw [Nat.add_zero] at q0
  have q1 := hs 1 (.string s.proj.1) rfl
  have q2 := hs 2 (.string s.ref.1) rfl
  have q3 := hs 3 (.bool s.fork) rfl
  have q4 := hs 4 (.string s.pipe.1) rfl
  have q5 := hs 5 (.int .i64 s.number.1) rfl
  have q6 := hs 6 (.bool s.done) rfl
  have q7 := hs 7 (.bool s.keep) rfl
  clear hs
  have hne : b ≠ w.heap.size := by omega
  unfold laterB
  rcases hsm : sameB x s with _ | _
  · go_enter Tryd.func22, Tryd.ntmps22
    go_wp2_with (first | (go_at_call 14; go_must (refine (same_any _ _ _).mono ?_; rintro e w2 ⟨rfl, hb2⟩; rw [hsm]; (skip); have hz2 := hb2.size; (try simp at hz2); obtain ⟨hc2, hf2⟩ := blk_at hb2 w.heap.size (by (try simp) <;> omega); obtain ⟨hd2, he2⟩ := blk_at hb2 b (by (try simp) <;> omega))))
    go_ret
    refine ⟨ret_bool ?_, (by repeat (first | (with_reducible exact Below.refl _ _) | (with_reducible refine Below.drew ?_) | (with_reducible refine below_drewN ?_ _) | ((with_reducible refine Below.alloc ?_ ?_ _); rotate_left; focus ((try simp) <;> omega)) | ((with_reducible refine Below.setCell ?_ ?_ _); rotate_left; focus ((try simp) <;> omega)) | ((with_reducible refine Below.trans ?_ (Below.mono (by assumption) ?_)); rotate_left; focus ((try simp) <;> omega))))⟩
    simp
  · go_enter Tryd.func22, Tryd.ntmps22
    go_wp2_with (first | (go_at_call 14; go_must (refine (same_any _ _ _).mono ?_; rintro e w2 ⟨rfl, hb2⟩; rw [hsm]; (skip); have hz2 := hb2.size; (try simp at hz2); obtain ⟨hc2, hf2⟩ := blk_at hb2 w.heap.size (by (try simp) <;> omega); obtain ⟨hd2, he2⟩ := blk_at hb2 b (by (try simp) <;> omega))))
    go_ret
    refine ⟨ret_bool ?_, (by repeat (first | (with_reducible exact Below.refl _ _) | (with_reducible refine Below.drew ?_) | (with_reducible refine below_drewN ?_ _) | ((with_reducible refine Below.alloc ?_ ?_ _); rotate_left; focus ((try simp) <;> omega)) | ((with_reducible refine Below.setCell ?_ ?_ _); rotate_left; focus ((try simp) <;> omega)) | ((with_reducible refine Below.trans ?_ (Below.mono (by assumption) ?_)); rotate_left; focus ((try simp) <;> omega))))⟩
    simp

set_option maxHeartbeats 2000000 in
theorem chooseO_any (A : Option Addr) (c : Nat) (l : List Sum) (s : Sum) (b : Nat) (w : World) (hr : Rw sumE 8 w w.heap.size A l) (hn : l.length * 16 ≤ 140737488355328) (hb : b < w.heap.size) (hs : ∀ j u, (sumE s)[j]? = some u → w.cell? ⟨b, j, none⟩ = some u) :
    Calls Tryd.prog 19 #[.slice A l.length c, .func (.func 20) #[] #[.pointer (some ⟨b, 0, none⟩)]] w fun e w' => ∃ v, e = .returned v ∧ Own sE 1 9 w' w.heap.size v ((l.filter (goesB s)).map (·.run)) ∧ Below w.heap.size w w' := by
  obtain ⟨B, hB⟩ : ∃ B, w.heap.size = B := ⟨_, rfl⟩
  rw [hB] at hr hb ⊢
  have hB2 := Nat.le_of_eq hB
  have hB3 := Nat.le_of_eq hB.symm
  replace hB := Lib.hid hB
  replace hs := Lib.hid hs
  obtain ⟨i0, hi0, iz0, iz1, iz2⟩ := info_parts cloneS_any_info
  go_enter Tryd.func19, Tryd.ntmps19
  go_wp2_with fail
  go_loopw [5, 10] (fun vo vi wr => ∃ k : Nat, vi = .int .i64 (k : Int) ∧ k ≤ l.length ∧ Own sE 1 9 wr B vo (((l.take k).filter (goesB s)).map (·.run)) ∧ Below B w wr) (fun _ vi _ => l.length - (intOf vi).toNat)
  case atStart => exact ⟨0, rfl, Nat.zero_le _, Own.nil _ _ _, by rw [← hB.out]; exact Below.refl _ _⟩
  case round =>
    obtain ⟨k, rfl, hk, hown, hbw⟩ := hrel
    have hzw := hbw.size
    by_cases hkl : k < l.length
    · obtain ⟨x, hx⟩ := get_some hkl
      have hx' := Lib.hid hx
      obtain ⟨g, o, rfl, hgB, hq⟩ := hr (by omega)
      have hq' : ∀ j u, (sumE x)[j]? = some u → wr.cell? ⟨g, o + k * 8 + j, none⟩ = some u := fun j u hu => by
        rw [hbw.cell hgB]; exact hq k x hx j u hu
      clear hq hx
      have q0 := hq' 0 (.string x.run.1) rfl
      try rw [Nat.add_zero] at q0
      have q1 := hq' 1 (.string x.proj.1) rfl
      have q2 := hq' 2 (.string x.ref.1) rfl
      have q3 := hq' 3 (.bool x.fork) rfl
      have q4 := hq' 4 (.string x.pipe.1) rfl
      have q5 := hq' 5 (.int .i64 x.number.1) rfl
      have q6 := hq' 6 (.bool x.done) rfl
      have q7 := hq' 7 (.bool x.keep) rfl
      clear hq'
      have i0' : (0 : Int) ≤ (k : Int) := by omega
      have i1' : (k : Int) < (l.length : Int) := by omega
      have hgne : g ≠ wr.heap.size := by omega
      rcases hp : goesB s x with _ | _
      · go_wp2_with (first
          | (go_at_call 20; go_must (refine (older1_any s x b _ ?_ ?_).mono ?_; (focus (simp; omega)); (focus exact (fun j u hu => ((((hbw.alloc (by omega) _).cell (p := ⟨b, j, none⟩) hb).trans (hs.out j u hu))))); rintro e w2 ⟨rfl, hb2⟩; rw [hp]; have hz2 := hb2.size; (try simp at hz2); obtain ⟨hc2, hf2⟩ := blk_at hb2 wr.heap.size (by (try simp) <;> omega)))
          | (at_builtin
             go_must (refine wpList_append_rw _ rfl (.tmp 17) (.tmp 20) _ rfl sE_len sE_one B 9 i0 _ 16 Tryd.underlying30 hi0 iz0 iz1 iz2 rfl (by omega) u5 _ rfl (((hown.alloc _).all hb2).alloc _) _ (some ⟨w2.heap.size, 0, none⟩) 1 1 [x.run] rfl rfl ((Own.lit (enc := sE) (l := [x.run]) (base := 0) #[.string x.run.1] (Nat.zero_le _) (by simp [maxLen]) (by simp [sE]) sE_len).reads sE_len) ?_ ?_ ?_ ?_)
             · have h1 := List.length_filter_le (goesB s) (l.take k)
               rw [List.length_map]
               rw [List.length_take] at h1
               simp only [maxLen]; omega
             · have h1 := List.length_filter_le (goesB s) (l.take k)
               rw [List.length_map]
               rw [List.length_take] at h1
               omega
             · simp; omega
             intro v1 w1 hown1 hg1 hat1))
        go_roundw
        case rel => exact ⟨k + 1, by go_num, by omega, by
          rw [List.take_add_one, hx'.out, List.filter_append, List.map_append]
          simp only [Option.toList_some, List.filter_cons, List.filter_nil, hp, Bool.false_eq_true, if_false, List.map_nil, List.append_nil]
          exact (hown.alloc _).all hb2, (hbw.alloc (by omega) _).trans (hb2.mono (by simp; omega))⟩
        case measure => simp [intOf]; omega
      · go_wp2_with (first
          | (go_at_call 20; go_must (refine (older1_any s x b _ ?_ ?_).mono ?_; (focus (simp; omega)); (focus exact (fun j u hu => ((((hbw.alloc (by omega) _).cell (p := ⟨b, j, none⟩) hb).trans (hs.out j u hu))))); rintro e w2 ⟨rfl, hb2⟩; rw [hp]; have hz2 := hb2.size; (try simp at hz2); obtain ⟨hc2, hf2⟩ := blk_at hb2 wr.heap.size (by (try simp) <;> omega)))
          | (at_builtin
             go_must (refine wpList_append_rw _ rfl (.tmp 17) (.tmp 20) _ rfl sE_len sE_one B 9 i0 _ 16 Tryd.underlying30 hi0 iz0 iz1 iz2 rfl (by omega) u5 _ rfl (((hown.alloc _).all hb2).alloc _) _ (some ⟨w2.heap.size, 0, none⟩) 1 1 [x.run] rfl rfl ((Own.lit (enc := sE) (l := [x.run]) (base := 0) #[.string x.run.1] (Nat.zero_le _) (by simp [maxLen]) (by simp [sE]) sE_len).reads sE_len) ?_ ?_ ?_ ?_)
             · have h1 := List.length_filter_le (goesB s) (l.take k)
               rw [List.length_map]
               rw [List.length_take] at h1
               simp only [maxLen]; omega
             · have h1 := List.length_filter_le (goesB s) (l.take k)
               rw [List.length_map]
               rw [List.length_take] at h1
               omega
             · simp; omega
             intro v1 w1 hown1 hg1 hat1))
        go_roundw
        case rel => exact ⟨k + 1, by go_num, by omega, by
          rw [List.take_add_one, hx'.out, List.filter_append, List.map_append]
          simp only [Option.toList_some, List.filter_cons, List.filter_nil, hp, if_true, List.map_cons, List.map_nil]
          exact hown1, (((hbw.alloc (by omega) _).trans (hb2.mono (by simp; omega))).alloc (by omega) _).grown hg1 (by simp; omega) (fun g hg => (hown.lt g hg).1)⟩
        case measure => simp [intOf]; omega
    · obtain rfl : k = l.length := by omega
      rw [List.take_length] at hown
      go_wp2_with fail
      go_ret
      exact ⟨_, rfl, hown, hbw⟩
set_option maxHeartbeats 2000000 in
theorem chooseL_any (A : Option Addr) (c : Nat) (l : List Sum) (s : Sum) (b : Nat) (w : World) (hr : Rw sumE 8 w w.heap.size A l) (hn : l.length * 16 ≤ 140737488355328) (hb : b < w.heap.size) (hs : ∀ j u, (sumE s)[j]? = some u → w.cell? ⟨b, j, none⟩ = some u) :
    Calls Tryd.prog 19 #[.slice A l.length c, .func (.func 22) #[] #[.pointer (some ⟨b, 0, none⟩)]] w fun e w' => ∃ v, e = .returned v ∧ Own sE 1 9 w' w.heap.size v ((l.filter (laterB s)).map (·.run)) ∧ Below w.heap.size w w' := by
  obtain ⟨B, hB⟩ : ∃ B, w.heap.size = B := ⟨_, rfl⟩
  rw [hB] at hr hb ⊢
  have hB2 := Nat.le_of_eq hB
  have hB3 := Nat.le_of_eq hB.symm
  replace hB := Lib.hid hB
  replace hs := Lib.hid hs
  obtain ⟨i0, hi0, iz0, iz1, iz2⟩ := info_parts cloneS_any_info
  go_enter Tryd.func19, Tryd.ntmps19
  go_wp2_with fail
  go_loopw [5, 10] (fun vo vi wr => ∃ k : Nat, vi = .int .i64 (k : Int) ∧ k ≤ l.length ∧ Own sE 1 9 wr B vo (((l.take k).filter (laterB s)).map (·.run)) ∧ Below B w wr) (fun _ vi _ => l.length - (intOf vi).toNat)
  case atStart => exact ⟨0, rfl, Nat.zero_le _, Own.nil _ _ _, by rw [← hB.out]; exact Below.refl _ _⟩
  case round =>
    obtain ⟨k, rfl, hk, hown, hbw⟩ := hrel
    have hzw := hbw.size
    by_cases hkl : k < l.length
    · obtain ⟨x, hx⟩ := get_some hkl
      have hx' := Lib.hid hx
      obtain ⟨g, o, rfl, hgB, hq⟩ := hr (by omega)
      have hq' : ∀ j u, (sumE x)[j]? = some u → wr.cell? ⟨g, o + k * 8 + j, none⟩ = some u := fun j u hu => by
        rw [hbw.cell hgB]; exact hq k x hx j u hu
      clear hq hx
      have q0 := hq' 0 (.string x.run.1) rfl
      try rw [Nat.add_zero] at q0
      have q1 := hq' 1 (.string x.proj.1) rfl
      have q2 := hq' 2 (.string x.ref.1) rfl
      have q3 := hq' 3 (.bool x.fork) rfl
      have q4 := hq' 4 (.string x.pipe.1) rfl
      have q5 := hq' 5 (.int .i64 x.number.1) rfl
      have q6 := hq' 6 (.bool x.done) rfl
      have q7 := hq' 7 (.bool x.keep) rfl
      clear hq'
      have i0' : (0 : Int) ≤ (k : Int) := by omega
      have i1' : (k : Int) < (l.length : Int) := by omega
      have hgne : g ≠ wr.heap.size := by omega
      rcases hp : laterB s x with _ | _
      · go_wp2_with (first
          | (go_at_call 22; go_must (refine (later1_any s x b _ ?_ ?_).mono ?_; (focus (simp; omega)); (focus exact (fun j u hu => ((((hbw.alloc (by omega) _).cell (p := ⟨b, j, none⟩) hb).trans (hs.out j u hu))))); rintro e w2 ⟨rfl, hb2⟩; rw [hp]; have hz2 := hb2.size; (try simp at hz2); obtain ⟨hc2, hf2⟩ := blk_at hb2 wr.heap.size (by (try simp) <;> omega)))
          | (at_builtin
             go_must (refine wpList_append_rw _ rfl (.tmp 17) (.tmp 20) _ rfl sE_len sE_one B 9 i0 _ 16 Tryd.underlying30 hi0 iz0 iz1 iz2 rfl (by omega) u5 _ rfl (((hown.alloc _).all hb2).alloc _) _ (some ⟨w2.heap.size, 0, none⟩) 1 1 [x.run] rfl rfl ((Own.lit (enc := sE) (l := [x.run]) (base := 0) #[.string x.run.1] (Nat.zero_le _) (by simp [maxLen]) (by simp [sE]) sE_len).reads sE_len) ?_ ?_ ?_ ?_)
             · have h1 := List.length_filter_le (laterB s) (l.take k)
               rw [List.length_map]
               rw [List.length_take] at h1
               simp only [maxLen]; omega
             · have h1 := List.length_filter_le (laterB s) (l.take k)
               rw [List.length_map]
               rw [List.length_take] at h1
               omega
             · simp; omega
             intro v1 w1 hown1 hg1 hat1))
        go_roundw
        case rel => exact ⟨k + 1, by go_num, by omega, by
          rw [List.take_add_one, hx'.out, List.filter_append, List.map_append]
          simp only [Option.toList_some, List.filter_cons, List.filter_nil, hp, Bool.false_eq_true, if_false, List.map_nil, List.append_nil]
          exact (hown.alloc _).all hb2, (hbw.alloc (by omega) _).trans (hb2.mono (by simp; omega))⟩
        case measure => simp [intOf]; omega
      · go_wp2_with (first
          | (go_at_call 22; go_must (refine (later1_any s x b _ ?_ ?_).mono ?_; (focus (simp; omega)); (focus exact (fun j u hu => ((((hbw.alloc (by omega) _).cell (p := ⟨b, j, none⟩) hb).trans (hs.out j u hu))))); rintro e w2 ⟨rfl, hb2⟩; rw [hp]; have hz2 := hb2.size; (try simp at hz2); obtain ⟨hc2, hf2⟩ := blk_at hb2 wr.heap.size (by (try simp) <;> omega)))
          | (at_builtin
             go_must (refine wpList_append_rw _ rfl (.tmp 17) (.tmp 20) _ rfl sE_len sE_one B 9 i0 _ 16 Tryd.underlying30 hi0 iz0 iz1 iz2 rfl (by omega) u5 _ rfl (((hown.alloc _).all hb2).alloc _) _ (some ⟨w2.heap.size, 0, none⟩) 1 1 [x.run] rfl rfl ((Own.lit (enc := sE) (l := [x.run]) (base := 0) #[.string x.run.1] (Nat.zero_le _) (by simp [maxLen]) (by simp [sE]) sE_len).reads sE_len) ?_ ?_ ?_ ?_)
             · have h1 := List.length_filter_le (laterB s) (l.take k)
               rw [List.length_map]
               rw [List.length_take] at h1
               simp only [maxLen]; omega
             · have h1 := List.length_filter_le (laterB s) (l.take k)
               rw [List.length_map]
               rw [List.length_take] at h1
               omega
             · simp; omega
             intro v1 w1 hown1 hg1 hat1))
        go_roundw
        case rel => exact ⟨k + 1, by go_num, by omega, by
          rw [List.take_add_one, hx'.out, List.filter_append, List.map_append]
          simp only [Option.toList_some, List.filter_cons, List.filter_nil, hp, if_true, List.map_cons, List.map_nil]
          exact hown1, (((hbw.alloc (by omega) _).trans (hb2.mono (by simp; omega))).alloc (by omega) _).grown hg1 (by simp; omega) (fun g hg => (hown.lt g hg).1)⟩
        case measure => simp [intOf]; omega
    · obtain rfl : k = l.length := by omega
      rw [List.take_length] at hown
      go_wp2_with fail
      go_ret
      exact ⟨_, rfl, hown, hbw⟩

theorem box_cells (w : World) (cs : Array Value) (T : TypeId) (j : Nat) (u : Value) (h : cs.toList[j]? = some u) : (w.alloc (.cells cs T)).cell? ⟨w.heap.size, j, none⟩ = some u := by
  rw [cell_of_row _ _ _ cs T (0, 0) (heap_alloc_new w _), ← Array.getElem?_toList]
  exact h

/-- The runs that s supersedes. -/
def olderS (s : Sum) (l : List Sum) : List Str := srt ((l.filter (goesB s)).map (·.run))
theorem older_any (A : Option Addr) (c : Nat) (l : List Sum) (s : Sum) (w : World) (hr : Rw sumE 8 w w.heap.size A l) (hn : l.length * 16 ≤ 140737488355328) :
    Calls Tryd.prog 10 #[.slice A l.length c, .agg #[.string s.run.1, .string s.proj.1, .string s.ref.1, .bool s.fork, .string s.pipe.1, .int .i64 s.number.1, .bool s.done, .bool s.keep]] w fun e w' => ∃ A' c', e = .returned (.slice A' (olderS s l).length c') ∧ Rw sE 1 w' w'.heap.size A' (olderS s l) ∧ Below w.heap.size w w' := by
  have hle : ((l.filter (goesB s)).map (·.run)).length ≤ l.length := by rw [List.length_map]; exact List.length_filter_le _ _
  unfold olderS
  obtain ⟨L, hL⟩ : ∃ L, (l.filter (goesB s)).map (·.run) = L := ⟨_, rfl⟩
  rw [hL] at hle ⊢
  replace hL := Lib.hid hL
  go_enter Tryd.func10, Tryd.ntmps10
  go_wp2_with fail
  refine (chooseO_any A c l s w.heap.size _ ((hr.alloc (Nat.le_refl _) _).more (by simp)) hn (by simp) (fun j u hu => box_cells w _ _ j u hu)).mono ?_
  rintro e w1 ⟨v, rfl, hown, hb1⟩
  have hz1 := hb1.size
  simp at hz1
  rw [hL.out] at hown
  obtain ⟨A1, c1, rfl, hc1, hm1, _⟩ := hown.form
  have hrd := hown.reads sE_len
  go_wp2_with fail
  refine (sorted_any A1 c1 L _ hrd (by omega)).mono ?_
  rintro e w2 ⟨A2, c2, rfl, hr2, hb2⟩
  go_wp2_with fail
  go_ret
  exact ⟨A2, c2, rfl, hr2, (((Below.refl _ _).alloc (Nat.le_refl _) _).trans (hb1.mono (by simp))).trans (hb2.mono (by omega))⟩

/-- Whether there is no later run. -/
def latestB (s : Sum) (l : List Sum) : Bool := decide (l.filter (laterB s) = [])
theorem latest_any (A : Option Addr) (c : Nat) (l : List Sum) (s : Sum) (w : World) (hr : Rw sumE 8 w w.heap.size A l) (hn : l.length * 16 ≤ 140737488355328) :
    Calls Tryd.prog 12 #[.slice A l.length c, .agg #[.string s.run.1, .string s.proj.1, .string s.ref.1, .bool s.fork, .string s.pipe.1, .int .i64 s.number.1, .bool s.done, .bool s.keep]] w fun e w' => e = .returned (.bool (latestB s l)) ∧ Below w.heap.size w w' := by
  go_enter Tryd.func12, Tryd.ntmps12
  go_wp2_with fail
  refine (chooseL_any A c l s w.heap.size _ ((hr.alloc (Nat.le_refl _) _).more (by simp)) hn (by simp) (fun j u hu => box_cells w _ _ j u hu)).mono ?_
  rintro e w1 ⟨v, rfl, hown, hb1⟩
  have hz1 := hb1.size
  simp at hz1
  obtain ⟨A1, c1, rfl, hc1, hm1, _⟩ := hown.form
  have hL : Hid (latestB s l = ((((l.filter (laterB s)).map (·.run)).length : Int) == 0)) := Lib.hid (by
    unfold latestB
    rw [Bool.eq_iff_iff]; simp)
  clear hown hc1
  generalize ((l.filter (laterB s)).map (·.run)).length = L at *
  go_wp2_with fail
  go_ret
  exact ⟨ret_bool hL.out.symm, ((Below.refl _ _).alloc (Nat.le_refl _) _).trans (hb1.mono (by simp))⟩
end Go.Proofs.YtfbnihemoaknjaaDoor
