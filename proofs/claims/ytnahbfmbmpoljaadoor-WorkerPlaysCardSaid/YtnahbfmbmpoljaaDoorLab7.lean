/-
  The walks of labels: a requirement and a label read, by the reference, whole.
-/
import Derived.Test.YtnahbfmbmpoljaaDoorLab6


namespace Go.Proofs.YtnahbfmbmpoljaaDoor
open Go.RowKit

set_option maxRecDepth 100000 in
theorem part_any (f : Nat) (nm r : ByteArray) (w : World) (h1 : nm.size ≤ 9223372036854775807) (h2 : r.size ≤ 9223372036854775807) : Calls Tryd.prog 89 #[.int .i64 (f : Int), .string nm, .string r] w fun e w' => e = .returned (tv (partL f nm.toList r.toList)) ∧ Below w.heap.size w w' := by
  have hd := fun W => rdigits_any r W h2
  have hn := fun W => rname_any nm W h1
  rw [← nL_str] at hn
  rcases ho : okD r.toList with _ | _
  · have hfin := Lib.hid (show partL f nm.toList r.toList = (0, [], 0) from part_no (Or.inl ho))
    rw [ho] at hd
    generalize numL r.toList = nv at hd
    replace hd := Lib.hid hd
    replace hn := Lib.hid hn
    replace ho := Lib.hid ho
    go_enter Tryd.func89, Tryd.ntmps89
    go_wp2_with (go_at_call 101; go_must (refine (hd.out _).mono ?_; rintro e w1 ⟨rfl, rfl⟩))
    have n0 : (w.alloc (.cells #[.int .i64 0, .string ⟨#[]⟩, .int .i64 0] 85)).cell? ⟨w.heap.size, 0, none⟩ = some (.int .i64 0) := by go_simp
    have n1 : (w.alloc (.cells #[.int .i64 0, .string ⟨#[]⟩, .int .i64 0] 85)).cell? ⟨w.heap.size, 1, none⟩ = some (.string ⟨#[]⟩) := by go_simp
    have n2 : (w.alloc (.cells #[.int .i64 0, .string ⟨#[]⟩, .int .i64 0] 85)).cell? ⟨w.heap.size, 2, none⟩ = some (.int .i64 0) := by go_simp
    obtain ⟨s0, s1, s2⟩ := set3_cells (a := .int .i64 0) (b := .string ⟨#[]⟩) (c := .int .i64 0) n0 n1 n2
    exact bodyPost_ret (v := .agg #[.int .i64 0, .string ⟨#[]⟩, .int .i64 0]) (by simp [results, Tryd.results89, go_sem, *]) rfl ⟨by rw [hfin.out]; first | rfl | (unfold tv; rw [mk_str]; done) | (unfold tv; rw [mk_str]; rfl), (by repeat (first | (with_reducible exact Below.refl _ _) | (with_reducible refine Below.drew ?_) | (with_reducible refine below_drewN ?_ _) | ((with_reducible refine Below.alloc ?_ ?_ _); rotate_left; focus ((try simp) <;> omega)) | ((with_reducible refine Below.setCell ?_ ?_ _); rotate_left; focus ((try simp) <;> omega)) | ((with_reducible refine Below.trans ?_ (Below.mono (by assumption) ?_)); rotate_left; focus ((try simp) <;> omega))))⟩
  · rcases hnn : nL nm.toList with _ | _
    · have hfin := Lib.hid (show partL f nm.toList r.toList = (0, [], 0) from part_no (Or.inr hnn))
      rw [ho] at hd
      rw [hnn] at hn
      generalize numL r.toList = nv at hd
      replace hd := Lib.hid hd
      replace hn := Lib.hid hn
      replace ho := Lib.hid ho
      replace hnn := Lib.hid hnn
      go_enter Tryd.func89, Tryd.ntmps89
      go_wp2_with (first
        | (go_at_call 101; go_must (refine (hd.out _).mono ?_; rintro e w1 ⟨rfl, rfl⟩))
        | (go_at_call 29; go_must (refine (hn.out _).mono ?_; rintro e w2 ⟨rfl, rfl⟩)))
      have n0 : (w.alloc (.cells #[.int .i64 0, .string ⟨#[]⟩, .int .i64 0] 85)).cell? ⟨w.heap.size, 0, none⟩ = some (.int .i64 0) := by go_simp
      have n1 : (w.alloc (.cells #[.int .i64 0, .string ⟨#[]⟩, .int .i64 0] 85)).cell? ⟨w.heap.size, 1, none⟩ = some (.string ⟨#[]⟩) := by go_simp
      have n2 : (w.alloc (.cells #[.int .i64 0, .string ⟨#[]⟩, .int .i64 0] 85)).cell? ⟨w.heap.size, 2, none⟩ = some (.int .i64 0) := by go_simp
      obtain ⟨s0, s1, s2⟩ := set3_cells (a := .int .i64 0) (b := .string ⟨#[]⟩) (c := .int .i64 0) n0 n1 n2
      exact bodyPost_ret (v := .agg #[.int .i64 0, .string ⟨#[]⟩, .int .i64 0]) (by simp [results, Tryd.results89, go_sem, *]) rfl ⟨by rw [hfin.out]; first | rfl | (unfold tv; rw [mk_str]; done) | (unfold tv; rw [mk_str]; rfl), (by repeat (first | (with_reducible exact Below.refl _ _) | (with_reducible refine Below.drew ?_) | (with_reducible refine below_drewN ?_ _) | ((with_reducible refine Below.alloc ?_ ?_ _); rotate_left; focus ((try simp) <;> omega)) | ((with_reducible refine Below.setCell ?_ ?_ _); rotate_left; focus ((try simp) <;> omega)) | ((with_reducible refine Below.trans ?_ (Below.mono (by assumption) ?_)); rotate_left; focus ((try simp) <;> omega))))⟩
    · have hfin := Lib.hid (show partL f nm.toList r.toList = (f, nm.toList, numL r.toList) by rw [num_ok ho]; unfold partL; rw [if_pos ⟨ho, hnn⟩])
      rw [ho] at hd
      rw [hnn] at hn
      generalize numL r.toList = nv at hd hfin
      replace hd := Lib.hid hd
      replace hn := Lib.hid hn
      replace ho := Lib.hid ho
      replace hnn := Lib.hid hnn
      go_enter Tryd.func89, Tryd.ntmps89
      go_wp2_with (first
        | (go_at_call 101; go_must (refine (hd.out _).mono ?_; rintro e w1 ⟨rfl, rfl⟩))
        | (go_at_call 29; go_must (refine (hn.out _).mono ?_; rintro e w2 ⟨rfl, rfl⟩)))
      have n0 : (w.alloc (.cells #[.int .i64 0, .string ⟨#[]⟩, .int .i64 0] 85)).cell? ⟨w.heap.size, 0, none⟩ = some (.int .i64 0) := by go_simp
      have n1 : (w.alloc (.cells #[.int .i64 0, .string ⟨#[]⟩, .int .i64 0] 85)).cell? ⟨w.heap.size, 1, none⟩ = some (.string ⟨#[]⟩) := by go_simp
      have n2 : (w.alloc (.cells #[.int .i64 0, .string ⟨#[]⟩, .int .i64 0] 85)).cell? ⟨w.heap.size, 2, none⟩ = some (.int .i64 0) := by go_simp
      obtain ⟨s0, s1, s2⟩ := set3_cells (a := .int .i64 (f : Int)) (b := .string nm) (c := .int .i64 (nv : Int)) n0 n1 n2
      exact bodyPost_ret (v := .agg #[.int .i64 (f : Int), .string nm, .int .i64 (nv : Int)]) (by simp [results, Tryd.results89, go_sem, *]) rfl ⟨by rw [hfin.out]; first | rfl | (unfold tv; rw [mk_str]; done) | (unfold tv; rw [mk_str]; rfl), (by repeat (first | (with_reducible exact Below.refl _ _) | (with_reducible refine Below.drew ?_) | (with_reducible refine below_drewN ?_ _) | ((with_reducible refine Below.alloc ?_ ?_ _); rotate_left; focus ((try simp) <;> omega)) | ((with_reducible refine Below.setCell ?_ ?_ _); rotate_left; focus ((try simp) <;> omega)) | ((with_reducible refine Below.trans ?_ (Below.mono (by assumption) ?_)); rotate_left; focus ((try simp) <;> omega))))⟩

theorem read_bang {s : List UInt8} (h : s.headD 0 = 33) : readL s = if nL (s.drop 1) = true then (2, s.drop 1, 0) else (0, [], 0) := by unfold readL; rw [if_pos h]
theorem read_rest {s : List UInt8} (h : ¬ s.headD 0 = 33) : readL s = restL (hdL s) (tlL s) := by unfold readL; rw [if_neg h]
theorem split_fix (s : ByteArray) (w : World) (hs : s.size ≤ 9223372036854775807) : Calls Tryd.prog 88 #[.string s] w fun e w' => e = .returned (.tuple #[.string ⟨(hdL s.toList).toArray⟩, .string ⟨(tlL s.toList).toArray⟩]) ∧ Below w.heap.size w w' := by
  refine (split_any s w hs).mono ?_
  rintro e w1 ⟨a, b, rfl, ha, hb, hb1⟩
  refine ⟨?_, hb1⟩
  rw [← ha, ← hb, mk_str, mk_str]
theorem hd_len (l : List UInt8) : (hdL l).length ≤ l.length ∧ (tlL l).length ≤ l.length := by
  have := congrArg List.length (hd_tl l)
  rw [List.length_append] at this
  omega
theorem rest_1 {nm r : List UInt8} (h : r = []) (hn : nL nm = true) : restL nm r = (1, nm, 0) := by unfold restL; rw [if_pos ⟨h, hn⟩]
theorem rest_0 {nm r : List UInt8} (h : r = []) (hn : nL nm = false) : restL nm r = (0, [], 0) := by
  subst h; unfold restL; rw [if_neg (by rw [hn]; simp), if_neg (by simp), if_neg (by simp), if_neg (by simp)]
theorem rest_3 {nm r : List UInt8} (h : r ≠ []) (h2 : 2 < r.length) (h3 : r.take 2 = [62, 61]) : restL nm r = partL 3 nm (r.drop 2) := by
  unfold restL; rw [if_neg (fun e => h e.1), if_pos ⟨h2, h3⟩]
theorem rest_4 {nm r : List UInt8} (h : r ≠ []) (h2 : 2 < r.length) (h3 : r.take 2 ≠ [62, 61]) (h4 : r.take 2 = [60, 61]) : restL nm r = partL 4 nm (r.drop 2) := by
  unfold restL; rw [if_neg (fun e => h e.1), if_neg (fun e => h3 e.2), if_pos ⟨h2, h4⟩]
theorem rest_5 {nm r : List UInt8} (h : r ≠ []) (h3 : ¬ (2 < r.length ∧ r.take 2 = [62, 61])) (h4 : ¬ (2 < r.length ∧ r.take 2 = [60, 61])) (h1 : 1 < r.length) (h5 : r.headD 0 = 61) : restL nm r = partL 5 nm (r.drop 1) := by
  unfold restL; rw [if_neg (fun e => h e.1), if_neg h3, if_neg h4, if_pos ⟨h1, h5⟩]
theorem rest_n {nm r : List UInt8} (h : r ≠ []) (h3 : ¬ (2 < r.length ∧ r.take 2 = [62, 61])) (h4 : ¬ (2 < r.length ∧ r.take 2 = [60, 61])) (h5 : ¬ (1 < r.length ∧ r.headD 0 = 61)) : restL nm r = (0, [], 0) := by
  unfold restL; rw [if_neg (fun e => h e.1), if_neg h3, if_neg h4, if_neg h5]
theorem take_two {b : ByteArray} {x y : UInt8} : b.extract 0 2 = ⟨#[x, y]⟩ ↔ b.toList.take 2 = [x, y] := by
  rw [← ext_head]
  constructor
  · intro h; rw [h, Lib.toList_data]
  · intro h; exact toList_inj (by rw [h, Lib.toList_data])

set_option maxRecDepth 100000 in
set_option maxHeartbeats 800000 in
theorem rl3A (s a b : ByteArray) (w : World) (hs : s.size ≤ 9223372036854775807) (ha : a.size ≤ 9223372036854775807) (hbz : b.size ≤ 9223372036854775807) (hr : readL s.toList = restL a.toList b.toList) (hsp : Hid (∀ W, Calls Tryd.prog 88 #[.string s] W fun e w' => e = .returned (.tuple #[.string a, .string b]) ∧ Below W.heap.size W w')) (hp : ¬ 0 < s.size) (_hpz : ¬ (s.size : Int) > 0) (hb0 : ¬ b.size = 0) (h2 : 2 < b.size) (h3 : b.toList.take 2 = [62, 61]) : Calls Tryd.prog 77 #[.string s] w fun e w' => e = .returned (tv (readL s.toList)) ∧ Below w.heap.size w w' := by
  have hbn : b.toList ≠ [] := fun e => hb0 (by rw [← toList_len, e]; rfl)
  have hbq : ¬ b.toList = [] := hbn
  have hbl := toList_len b
  have hh := (head_get b (by omega)).2
  have h2z : (b.size : Int) > 2 := by omega
  have h1z : (b.size : Int) > 1 := by omega
  have i2 : (2 : Int) ≤ (b.size : Int) := by omega
  have i1 : (1 : Int) ≤ (b.size : Int) := by omega
  have i0 : (0 : Int) < (b.size : Int) := by omega
  have n2 : 2 ≤ b.size := by omega
  have n1 : 1 ≤ b.size := by omega
  have hfin0 := hr.trans (rest_3 hbn (by omega) h3)
  have e3 : (b.extract 0 2).toList = [62, 61] := by rw [ext_head]; exact h3
  rw [← ext_end] at hfin0
  clear hbn hh hr
  replace hbl := Lib.hid hbl
  replace h3 := Lib.hid h3
  obtain ⟨⟨f, nm, n⟩, hp⟩ : ∃ p, partL 3 a.toList (b.extract 2 b.size).toList = p := ⟨_, rfl⟩
  have hpt : Hid (∀ W, Calls Tryd.prog 89 #[.int .i64 3, .string a, .string (b.extract 2 b.size)] W fun e w' => e = .returned (.agg #[.int .i64 (f : Int), .string ⟨nm.toArray⟩, .int .i64 (n : Int)]) ∧ Below W.heap.size W w') := Lib.hid fun W => by
    have h := part_any 3 a (b.extract 2 b.size) W ha (by rw [← toList_len, ext_end, List.length_drop, toList_len]; omega)
    rw [hp] at h
    exact h
  rw [hp] at hfin0
  have hfin := Lib.hid hfin0
  clear hfin0
  replace hp := Lib.hid hp
  replace hs := Lib.hid hs
  go_enter Tryd.func77, Tryd.ntmps77
  go_wp2_with (first
    | (go_at_call 88; go_must (refine (hsp.out _).mono ?_; rintro e w1 ⟨rfl, hb1⟩; have hz1 := hb1.size; (try simp at hz1); have hlt1 : w.heap.size < w1.heap.size := (by omega); obtain ⟨hc1, hf1⟩ := blk_at hb1 w.heap.size (by (try simp) <;> omega)))
    | (go_at_call 29; go_must (refine (hn.out _).mono ?_; rintro e w2 ⟨rfl, rfl⟩))
    | (go_at_call 89; go_must (refine (hpt.out _).mono ?_; rintro e w3 ⟨rfl, hb3⟩; have hz3 := hb3.size; (try simp at hz3); have hlt3 : w.heap.size < w3.heap.size := (by omega); obtain ⟨hc3, hf3⟩ := blk_at hb3 w.heap.size (by (try simp) <;> omega))))
  have n0 : w3.cell? ⟨w.heap.size, 0, none⟩ = some (.int .i64 0) := by go_simp
  have n1 : w3.cell? ⟨w.heap.size, 1, none⟩ = some (.string ⟨#[]⟩) := by go_simp
  have n2 : w3.cell? ⟨w.heap.size, 2, none⟩ = some (.int .i64 0) := by go_simp
  obtain ⟨s0, s1, s2⟩ := set3_cells (a := .int .i64 (f : Int)) (b := .string ⟨nm.toArray⟩) (c := .int .i64 (n : Int)) n0 n1 n2
  exact bodyPost_ret (v := .agg #[.int .i64 (f : Int), .string ⟨nm.toArray⟩, .int .i64 (n : Int)]) (by simp [results, Tryd.results77, go_sem, *]) rfl ⟨by rw [hfin.out]; first | rfl | (unfold tv; rw [mk_str]; rfl), (by repeat (first | (with_reducible exact Below.refl _ _) | (with_reducible refine Below.drew ?_) | (with_reducible refine below_drewN ?_ _) | ((with_reducible refine Below.alloc ?_ ?_ _); rotate_left; focus ((try simp) <;> omega)) | ((with_reducible refine Below.setCell ?_ ?_ _); rotate_left; focus ((try simp) <;> omega)) | ((with_reducible refine Below.trans ?_ (Below.mono (by assumption) ?_)); rotate_left; focus ((try simp) <;> omega))))⟩
set_option maxRecDepth 100000 in
set_option maxHeartbeats 800000 in
theorem rl4A (s a b : ByteArray) (w : World) (hs : s.size ≤ 9223372036854775807) (ha : a.size ≤ 9223372036854775807) (hbz : b.size ≤ 9223372036854775807) (hr : readL s.toList = restL a.toList b.toList) (hsp : Hid (∀ W, Calls Tryd.prog 88 #[.string s] W fun e w' => e = .returned (.tuple #[.string a, .string b]) ∧ Below W.heap.size W w')) (hp : ¬ 0 < s.size) (_hpz : ¬ (s.size : Int) > 0) (hb0 : ¬ b.size = 0) (h2 : 2 < b.size) (h3 : ¬ b.toList.take 2 = [62, 61]) (h4 : b.toList.take 2 = [60, 61]) : Calls Tryd.prog 77 #[.string s] w fun e w' => e = .returned (tv (readL s.toList)) ∧ Below w.heap.size w w' := by
  have hbn : b.toList ≠ [] := fun e => hb0 (by rw [← toList_len, e]; rfl)
  have hbq : ¬ b.toList = [] := hbn
  have hbl := toList_len b
  have hh := (head_get b (by omega)).2
  have h2z : (b.size : Int) > 2 := by omega
  have h1z : (b.size : Int) > 1 := by omega
  have i2 : (2 : Int) ≤ (b.size : Int) := by omega
  have i1 : (1 : Int) ≤ (b.size : Int) := by omega
  have i0 : (0 : Int) < (b.size : Int) := by omega
  have n2 : 2 ≤ b.size := by omega
  have n1 : 1 ≤ b.size := by omega
  have hfin0 := hr.trans (rest_4 hbn (by omega) h3 h4)
  have e3 : ((b.extract 0 2).toList == [62, 61]) = false := by rw [beq_eq_false_iff_ne, ext_head]; exact h3
  have e4 : (b.extract 0 2).toList = [60, 61] := by rw [ext_head]; exact h4
  rw [← ext_end] at hfin0
  clear hbn hh hr
  replace hbl := Lib.hid hbl
  replace h3 := Lib.hid h3
  replace h4 := Lib.hid h4
  obtain ⟨⟨f, nm, n⟩, hp⟩ : ∃ p, partL 4 a.toList (b.extract 2 b.size).toList = p := ⟨_, rfl⟩
  have hpt : Hid (∀ W, Calls Tryd.prog 89 #[.int .i64 4, .string a, .string (b.extract 2 b.size)] W fun e w' => e = .returned (.agg #[.int .i64 (f : Int), .string ⟨nm.toArray⟩, .int .i64 (n : Int)]) ∧ Below W.heap.size W w') := Lib.hid fun W => by
    have h := part_any 4 a (b.extract 2 b.size) W ha (by rw [← toList_len, ext_end, List.length_drop, toList_len]; omega)
    rw [hp] at h
    exact h
  rw [hp] at hfin0
  have hfin := Lib.hid hfin0
  clear hfin0
  replace hp := Lib.hid hp
  replace hs := Lib.hid hs
  go_enter Tryd.func77, Tryd.ntmps77
  go_wp2_with (first
    | (go_at_call 88; go_must (refine (hsp.out _).mono ?_; rintro e w1 ⟨rfl, hb1⟩; have hz1 := hb1.size; (try simp at hz1); have hlt1 : w.heap.size < w1.heap.size := (by omega); obtain ⟨hc1, hf1⟩ := blk_at hb1 w.heap.size (by (try simp) <;> omega)))
    | (go_at_call 29; go_must (refine (hn.out _).mono ?_; rintro e w2 ⟨rfl, rfl⟩))
    | (go_at_call 89; go_must (refine (hpt.out _).mono ?_; rintro e w3 ⟨rfl, hb3⟩; have hz3 := hb3.size; (try simp at hz3); have hlt3 : w.heap.size < w3.heap.size := (by omega); obtain ⟨hc3, hf3⟩ := blk_at hb3 w.heap.size (by (try simp) <;> omega))))
  have n0 : w3.cell? ⟨w.heap.size, 0, none⟩ = some (.int .i64 0) := by go_simp
  have n1 : w3.cell? ⟨w.heap.size, 1, none⟩ = some (.string ⟨#[]⟩) := by go_simp
  have n2 : w3.cell? ⟨w.heap.size, 2, none⟩ = some (.int .i64 0) := by go_simp
  obtain ⟨s0, s1, s2⟩ := set3_cells (a := .int .i64 (f : Int)) (b := .string ⟨nm.toArray⟩) (c := .int .i64 (n : Int)) n0 n1 n2
  exact bodyPost_ret (v := .agg #[.int .i64 (f : Int), .string ⟨nm.toArray⟩, .int .i64 (n : Int)]) (by simp [results, Tryd.results77, go_sem, *]) rfl ⟨by rw [hfin.out]; first | rfl | (unfold tv; rw [mk_str]; rfl), (by repeat (first | (with_reducible exact Below.refl _ _) | (with_reducible refine Below.drew ?_) | (with_reducible refine below_drewN ?_ _) | ((with_reducible refine Below.alloc ?_ ?_ _); rotate_left; focus ((try simp) <;> omega)) | ((with_reducible refine Below.setCell ?_ ?_ _); rotate_left; focus ((try simp) <;> omega)) | ((with_reducible refine Below.trans ?_ (Below.mono (by assumption) ?_)); rotate_left; focus ((try simp) <;> omega))))⟩
set_option maxRecDepth 100000 in
set_option maxHeartbeats 800000 in
theorem rl5A (s a b : ByteArray) (w : World) (hs : s.size ≤ 9223372036854775807) (ha : a.size ≤ 9223372036854775807) (hbz : b.size ≤ 9223372036854775807) (hr : readL s.toList = restL a.toList b.toList) (hsp : Hid (∀ W, Calls Tryd.prog 88 #[.string s] W fun e w' => e = .returned (.tuple #[.string a, .string b]) ∧ Below W.heap.size W w')) (hp : ¬ 0 < s.size) (_hpz : ¬ (s.size : Int) > 0) (hb0 : ¬ b.size = 0) (h2 : 2 < b.size) (h3 : ¬ b.toList.take 2 = [62, 61]) (h4 : ¬ b.toList.take 2 = [60, 61]) (h5 : b[0] = 61) : Calls Tryd.prog 77 #[.string s] w fun e w' => e = .returned (tv (readL s.toList)) ∧ Below w.heap.size w w' := by
  have hbn : b.toList ≠ [] := fun e => hb0 (by rw [← toList_len, e]; rfl)
  have hbq : ¬ b.toList = [] := hbn
  have hbl := toList_len b
  have hh := (head_get b (by omega)).2
  have h2z : (b.size : Int) > 2 := by omega
  have h1z : (b.size : Int) > 1 := by omega
  have i2 : (2 : Int) ≤ (b.size : Int) := by omega
  have i1 : (1 : Int) ≤ (b.size : Int) := by omega
  have i0 : (0 : Int) < (b.size : Int) := by omega
  have n2 : 2 ≤ b.size := by omega
  have n1 : 1 ≤ b.size := by omega
  have h61 : (b[0].toNat : Int) = 61 := by rw [h5]; rfl
  have hfin0 := hr.trans (rest_5 hbn (fun e => h3 e.2) (fun e => h4 e.2) (by omega) (by rw [hh]; exact h5))
  have e3 : ((b.extract 0 2).toList == [62, 61]) = false := by rw [beq_eq_false_iff_ne, ext_head]; exact h3
  have e4 : ((b.extract 0 2).toList == [60, 61]) = false := by rw [beq_eq_false_iff_ne, ext_head]; exact h4
  rw [← ext_end] at hfin0
  clear hbn hh hr
  replace hbl := Lib.hid hbl
  replace h3 := Lib.hid h3
  replace h4 := Lib.hid h4
  replace h5 := Lib.hid h5
  obtain ⟨⟨f, nm, n⟩, hp⟩ : ∃ p, partL 5 a.toList (b.extract 1 b.size).toList = p := ⟨_, rfl⟩
  have hpt : Hid (∀ W, Calls Tryd.prog 89 #[.int .i64 5, .string a, .string (b.extract 1 b.size)] W fun e w' => e = .returned (.agg #[.int .i64 (f : Int), .string ⟨nm.toArray⟩, .int .i64 (n : Int)]) ∧ Below W.heap.size W w') := Lib.hid fun W => by
    have h := part_any 5 a (b.extract 1 b.size) W ha (by rw [← toList_len, ext_end, List.length_drop, toList_len]; omega)
    rw [hp] at h
    exact h
  rw [hp] at hfin0
  have hfin := Lib.hid hfin0
  clear hfin0
  replace hp := Lib.hid hp
  replace hs := Lib.hid hs
  go_enter Tryd.func77, Tryd.ntmps77
  go_wp2_with (first
    | (go_at_call 88; go_must (refine (hsp.out _).mono ?_; rintro e w1 ⟨rfl, hb1⟩; have hz1 := hb1.size; (try simp at hz1); have hlt1 : w.heap.size < w1.heap.size := (by omega); obtain ⟨hc1, hf1⟩ := blk_at hb1 w.heap.size (by (try simp) <;> omega)))
    | (go_at_call 29; go_must (refine (hn.out _).mono ?_; rintro e w2 ⟨rfl, rfl⟩))
    | (go_at_call 89; go_must (refine (hpt.out _).mono ?_; rintro e w3 ⟨rfl, hb3⟩; have hz3 := hb3.size; (try simp at hz3); have hlt3 : w.heap.size < w3.heap.size := (by omega); obtain ⟨hc3, hf3⟩ := blk_at hb3 w.heap.size (by (try simp) <;> omega))))
  have n0 : w3.cell? ⟨w.heap.size, 0, none⟩ = some (.int .i64 0) := by go_simp
  have n1 : w3.cell? ⟨w.heap.size, 1, none⟩ = some (.string ⟨#[]⟩) := by go_simp
  have n2 : w3.cell? ⟨w.heap.size, 2, none⟩ = some (.int .i64 0) := by go_simp
  obtain ⟨s0, s1, s2⟩ := set3_cells (a := .int .i64 (f : Int)) (b := .string ⟨nm.toArray⟩) (c := .int .i64 (n : Int)) n0 n1 n2
  exact bodyPost_ret (v := .agg #[.int .i64 (f : Int), .string ⟨nm.toArray⟩, .int .i64 (n : Int)]) (by simp [results, Tryd.results77, go_sem, *]) rfl ⟨by rw [hfin.out]; first | rfl | (unfold tv; rw [mk_str]; rfl), (by repeat (first | (with_reducible exact Below.refl _ _) | (with_reducible refine Below.drew ?_) | (with_reducible refine below_drewN ?_ _) | ((with_reducible refine Below.alloc ?_ ?_ _); rotate_left; focus ((try simp) <;> omega)) | ((with_reducible refine Below.setCell ?_ ?_ _); rotate_left; focus ((try simp) <;> omega)) | ((with_reducible refine Below.trans ?_ (Below.mono (by assumption) ?_)); rotate_left; focus ((try simp) <;> omega))))⟩
set_option maxRecDepth 100000 in
set_option maxHeartbeats 800000 in
theorem rlnA (s a b : ByteArray) (w : World) (hs : s.size ≤ 9223372036854775807) (_ha : a.size ≤ 9223372036854775807) (hbz : b.size ≤ 9223372036854775807) (hr : readL s.toList = restL a.toList b.toList) (hsp : Hid (∀ W, Calls Tryd.prog 88 #[.string s] W fun e w' => e = .returned (.tuple #[.string a, .string b]) ∧ Below W.heap.size W w')) (hp : ¬ 0 < s.size) (_hpz : ¬ (s.size : Int) > 0) (hb0 : ¬ b.size = 0) (h2 : 2 < b.size) (h3 : ¬ b.toList.take 2 = [62, 61]) (h4 : ¬ b.toList.take 2 = [60, 61]) (h5 : ¬ b[0] = 61) : Calls Tryd.prog 77 #[.string s] w fun e w' => e = .returned (tv (readL s.toList)) ∧ Below w.heap.size w w' := by
  have hbn : b.toList ≠ [] := fun e => hb0 (by rw [← toList_len, e]; rfl)
  have hbq : ¬ b.toList = [] := hbn
  have hbl := toList_len b
  have hh := (head_get b (by omega)).2
  have h2z : (b.size : Int) > 2 := by omega
  have h1z : (b.size : Int) > 1 := by omega
  have i2 : (2 : Int) ≤ (b.size : Int) := by omega
  have i1 : (1 : Int) ≤ (b.size : Int) := by omega
  have i0 : (0 : Int) < (b.size : Int) := by omega
  have n2 : 2 ≤ b.size := by omega
  have n1 : 1 ≤ b.size := by omega
  have h61 : ¬ (b[0].toNat : Int) = 61 := fun e => h5 (by rw [← UInt8.toNat_inj]; show b[0].toNat = 61; omega)
  have hfin := Lib.hid (hr.trans (rest_n hbn (fun e => h3 e.2) (fun e => h4 e.2) (fun e => h5 (by rw [← hh]; exact e.2))))
  have e3 : ((b.extract 0 2).toList == [62, 61]) = false := by rw [beq_eq_false_iff_ne, ext_head]; exact h3
  have e4 : ((b.extract 0 2).toList == [60, 61]) = false := by rw [beq_eq_false_iff_ne, ext_head]; exact h4
  clear hbn hh hr
  replace hbl := Lib.hid hbl
  replace h3 := Lib.hid h3
  replace h4 := Lib.hid h4
  replace h5 := Lib.hid h5
  replace hs := Lib.hid hs
  go_enter Tryd.func77, Tryd.ntmps77
  go_wp2_with (first
    | (go_at_call 88; go_must (refine (hsp.out _).mono ?_; rintro e w1 ⟨rfl, hb1⟩; have hz1 := hb1.size; (try simp at hz1); have hlt1 : w.heap.size < w1.heap.size := (by omega); obtain ⟨hc1, hf1⟩ := blk_at hb1 w.heap.size (by (try simp) <;> omega)))
    | (go_at_call 29; go_must (refine (hn.out _).mono ?_; rintro e w2 ⟨rfl, rfl⟩))
    | (go_at_call 89; go_must (refine (hpt.out _).mono ?_; rintro e w3 ⟨rfl, hb3⟩; have hz3 := hb3.size; (try simp at hz3); have hlt3 : w.heap.size < w3.heap.size := (by omega); obtain ⟨hc3, hf3⟩ := blk_at hb3 w.heap.size (by (try simp) <;> omega))))
  have n0 : w1.cell? ⟨w.heap.size, 0, none⟩ = some (.int .i64 0) := by go_simp
  have n1 : w1.cell? ⟨w.heap.size, 1, none⟩ = some (.string ⟨#[]⟩) := by go_simp
  have n2 : w1.cell? ⟨w.heap.size, 2, none⟩ = some (.int .i64 0) := by go_simp
  obtain ⟨s0, s1, s2⟩ := set3_cells (a := .int .i64 0) (b := .string ⟨#[]⟩) (c := .int .i64 0) n0 n1 n2
  exact bodyPost_ret (v := .agg #[.int .i64 0, .string ⟨#[]⟩, .int .i64 0]) (by simp [results, Tryd.results77, go_sem, *]) rfl ⟨by rw [hfin.out]; first | rfl | (unfold tv; rw [mk_str]; rfl), (by repeat (first | (with_reducible exact Below.refl _ _) | (with_reducible refine Below.drew ?_) | (with_reducible refine below_drewN ?_ _) | ((with_reducible refine Below.alloc ?_ ?_ _); rotate_left; focus ((try simp) <;> omega)) | ((with_reducible refine Below.setCell ?_ ?_ _); rotate_left; focus ((try simp) <;> omega)) | ((with_reducible refine Below.trans ?_ (Below.mono (by assumption) ?_)); rotate_left; focus ((try simp) <;> omega))))⟩
set_option maxRecDepth 100000 in
set_option maxHeartbeats 800000 in
theorem rs5A (s a b : ByteArray) (w : World) (hs : s.size ≤ 9223372036854775807) (ha : a.size ≤ 9223372036854775807) (hbz : b.size ≤ 9223372036854775807) (hr : readL s.toList = restL a.toList b.toList) (hsp : Hid (∀ W, Calls Tryd.prog 88 #[.string s] W fun e w' => e = .returned (.tuple #[.string a, .string b]) ∧ Below W.heap.size W w')) (hp : ¬ 0 < s.size) (_hpz : ¬ (s.size : Int) > 0) (hb0 : ¬ b.size = 0) (h2 : ¬ 2 < b.size) (h1 : 1 < b.size) (h5 : b[0] = 61) : Calls Tryd.prog 77 #[.string s] w fun e w' => e = .returned (tv (readL s.toList)) ∧ Below w.heap.size w w' := by
  have hbn : b.toList ≠ [] := fun e => hb0 (by rw [← toList_len, e]; rfl)
  have hbq : ¬ b.toList = [] := hbn
  have hbl := toList_len b
  have hh := (head_get b (by omega)).2
  have h2z : ¬ (b.size : Int) > 2 := by omega
  have h1z : (b.size : Int) > 1 := by omega
  have i1 : (1 : Int) ≤ (b.size : Int) := by omega
  have i0 : (0 : Int) < (b.size : Int) := by omega
  have n1 : 1 ≤ b.size := by omega
  have h61 : (b[0].toNat : Int) = 61 := by rw [h5]; rfl
  have hfin0 := hr.trans (rest_5 hbn (fun e => h2 (by omega)) (fun e => h2 (by omega)) (by omega) (by rw [hh]; exact h5))
  rw [← ext_end] at hfin0
  clear hbn hh hr
  replace hbl := Lib.hid hbl
  replace h5 := Lib.hid h5
  obtain ⟨⟨f, nm, n⟩, hp⟩ : ∃ p, partL 5 a.toList (b.extract 1 b.size).toList = p := ⟨_, rfl⟩
  have hpt : Hid (∀ W, Calls Tryd.prog 89 #[.int .i64 5, .string a, .string (b.extract 1 b.size)] W fun e w' => e = .returned (.agg #[.int .i64 (f : Int), .string ⟨nm.toArray⟩, .int .i64 (n : Int)]) ∧ Below W.heap.size W w') := Lib.hid fun W => by
    have h := part_any 5 a (b.extract 1 b.size) W ha (by rw [← toList_len, ext_end, List.length_drop, toList_len]; omega)
    rw [hp] at h
    exact h
  rw [hp] at hfin0
  have hfin := Lib.hid hfin0
  clear hfin0
  replace hp := Lib.hid hp
  replace hs := Lib.hid hs
  go_enter Tryd.func77, Tryd.ntmps77
  go_wp2_with (first
    | (go_at_call 88; go_must (refine (hsp.out _).mono ?_; rintro e w1 ⟨rfl, hb1⟩; have hz1 := hb1.size; (try simp at hz1); have hlt1 : w.heap.size < w1.heap.size := (by omega); obtain ⟨hc1, hf1⟩ := blk_at hb1 w.heap.size (by (try simp) <;> omega)))
    | (go_at_call 29; go_must (refine (hn.out _).mono ?_; rintro e w2 ⟨rfl, rfl⟩))
    | (go_at_call 89; go_must (refine (hpt.out _).mono ?_; rintro e w3 ⟨rfl, hb3⟩; have hz3 := hb3.size; (try simp at hz3); have hlt3 : w.heap.size < w3.heap.size := (by omega); obtain ⟨hc3, hf3⟩ := blk_at hb3 w.heap.size (by (try simp) <;> omega))))
  have n0 : w3.cell? ⟨w.heap.size, 0, none⟩ = some (.int .i64 0) := by go_simp
  have n1 : w3.cell? ⟨w.heap.size, 1, none⟩ = some (.string ⟨#[]⟩) := by go_simp
  have n2 : w3.cell? ⟨w.heap.size, 2, none⟩ = some (.int .i64 0) := by go_simp
  obtain ⟨s0, s1, s2⟩ := set3_cells (a := .int .i64 (f : Int)) (b := .string ⟨nm.toArray⟩) (c := .int .i64 (n : Int)) n0 n1 n2
  exact bodyPost_ret (v := .agg #[.int .i64 (f : Int), .string ⟨nm.toArray⟩, .int .i64 (n : Int)]) (by simp [results, Tryd.results77, go_sem, *]) rfl ⟨by rw [hfin.out]; first | rfl | (unfold tv; rw [mk_str]; rfl), (by repeat (first | (with_reducible exact Below.refl _ _) | (with_reducible refine Below.drew ?_) | (with_reducible refine below_drewN ?_ _) | ((with_reducible refine Below.alloc ?_ ?_ _); rotate_left; focus ((try simp) <;> omega)) | ((with_reducible refine Below.setCell ?_ ?_ _); rotate_left; focus ((try simp) <;> omega)) | ((with_reducible refine Below.trans ?_ (Below.mono (by assumption) ?_)); rotate_left; focus ((try simp) <;> omega))))⟩
set_option maxRecDepth 100000 in
set_option maxHeartbeats 800000 in
theorem rsnA (s a b : ByteArray) (w : World) (hs : s.size ≤ 9223372036854775807) (_ha : a.size ≤ 9223372036854775807) (hbz : b.size ≤ 9223372036854775807) (hr : readL s.toList = restL a.toList b.toList) (hsp : Hid (∀ W, Calls Tryd.prog 88 #[.string s] W fun e w' => e = .returned (.tuple #[.string a, .string b]) ∧ Below W.heap.size W w')) (hp : ¬ 0 < s.size) (_hpz : ¬ (s.size : Int) > 0) (hb0 : ¬ b.size = 0) (h2 : ¬ 2 < b.size) (h1 : 1 < b.size) (h5 : ¬ b[0] = 61) : Calls Tryd.prog 77 #[.string s] w fun e w' => e = .returned (tv (readL s.toList)) ∧ Below w.heap.size w w' := by
  have hbn : b.toList ≠ [] := fun e => hb0 (by rw [← toList_len, e]; rfl)
  have hbq : ¬ b.toList = [] := hbn
  have hbl := toList_len b
  have hh := (head_get b (by omega)).2
  have h2z : ¬ (b.size : Int) > 2 := by omega
  have h1z : (b.size : Int) > 1 := by omega
  have i1 : (1 : Int) ≤ (b.size : Int) := by omega
  have i0 : (0 : Int) < (b.size : Int) := by omega
  have n1 : 1 ≤ b.size := by omega
  have h61 : ¬ (b[0].toNat : Int) = 61 := fun e => h5 (by rw [← UInt8.toNat_inj]; show b[0].toNat = 61; omega)
  have hfin := Lib.hid (hr.trans (rest_n hbn (fun e => h2 (by omega)) (fun e => h2 (by omega)) (fun e => h5 (by rw [← hh]; exact e.2))))
  clear hbn hh hr
  replace hbl := Lib.hid hbl
  replace h5 := Lib.hid h5
  replace hs := Lib.hid hs
  go_enter Tryd.func77, Tryd.ntmps77
  go_wp2_with (first
    | (go_at_call 88; go_must (refine (hsp.out _).mono ?_; rintro e w1 ⟨rfl, hb1⟩; have hz1 := hb1.size; (try simp at hz1); have hlt1 : w.heap.size < w1.heap.size := (by omega); obtain ⟨hc1, hf1⟩ := blk_at hb1 w.heap.size (by (try simp) <;> omega)))
    | (go_at_call 29; go_must (refine (hn.out _).mono ?_; rintro e w2 ⟨rfl, rfl⟩))
    | (go_at_call 89; go_must (refine (hpt.out _).mono ?_; rintro e w3 ⟨rfl, hb3⟩; have hz3 := hb3.size; (try simp at hz3); have hlt3 : w.heap.size < w3.heap.size := (by omega); obtain ⟨hc3, hf3⟩ := blk_at hb3 w.heap.size (by (try simp) <;> omega))))
  have n0 : w1.cell? ⟨w.heap.size, 0, none⟩ = some (.int .i64 0) := by go_simp
  have n1 : w1.cell? ⟨w.heap.size, 1, none⟩ = some (.string ⟨#[]⟩) := by go_simp
  have n2 : w1.cell? ⟨w.heap.size, 2, none⟩ = some (.int .i64 0) := by go_simp
  obtain ⟨s0, s1, s2⟩ := set3_cells (a := .int .i64 0) (b := .string ⟨#[]⟩) (c := .int .i64 0) n0 n1 n2
  exact bodyPost_ret (v := .agg #[.int .i64 0, .string ⟨#[]⟩, .int .i64 0]) (by simp [results, Tryd.results77, go_sem, *]) rfl ⟨by rw [hfin.out]; first | rfl | (unfold tv; rw [mk_str]; rfl), (by repeat (first | (with_reducible exact Below.refl _ _) | (with_reducible refine Below.drew ?_) | (with_reducible refine below_drewN ?_ _) | ((with_reducible refine Below.alloc ?_ ?_ _); rotate_left; focus ((try simp) <;> omega)) | ((with_reducible refine Below.setCell ?_ ?_ _); rotate_left; focus ((try simp) <;> omega)) | ((with_reducible refine Below.trans ?_ (Below.mono (by assumption) ?_)); rotate_left; focus ((try simp) <;> omega))))⟩
set_option maxRecDepth 100000 in
set_option maxHeartbeats 800000 in
theorem rl1A (s a b : ByteArray) (w : World) (hs : s.size ≤ 9223372036854775807) (_ha : a.size ≤ 9223372036854775807) (hbz : b.size ≤ 9223372036854775807) (hr : readL s.toList = restL a.toList b.toList) (hsp : Hid (∀ W, Calls Tryd.prog 88 #[.string s] W fun e w' => e = .returned (.tuple #[.string a, .string b]) ∧ Below W.heap.size W w')) (hp : ¬ 0 < s.size) (_hpz : ¬ (s.size : Int) > 0) (hb0 : ¬ b.size = 0) (h1 : ¬ 1 < b.size) : Calls Tryd.prog 77 #[.string s] w fun e w' => e = .returned (tv (readL s.toList)) ∧ Below w.heap.size w w' := by
  have hbn : b.toList ≠ [] := fun e => hb0 (by rw [← toList_len, e]; rfl)
  have hbq : ¬ b.toList = [] := hbn
  have hbl := toList_len b
  have hh := (head_get b (by omega)).2
  have h2z : ¬ (b.size : Int) > 2 := by omega
  have h1z : ¬ (b.size : Int) > 1 := by omega
  have hfin := Lib.hid (hr.trans (rest_n hbn (fun e => h1 (by omega)) (fun e => h1 (by omega)) (fun e => h1 (by omega))))
  clear hbn hh hr
  replace hbl := Lib.hid hbl
  replace hs := Lib.hid hs
  go_enter Tryd.func77, Tryd.ntmps77
  go_wp2_with (first
    | (go_at_call 88; go_must (refine (hsp.out _).mono ?_; rintro e w1 ⟨rfl, hb1⟩; have hz1 := hb1.size; (try simp at hz1); have hlt1 : w.heap.size < w1.heap.size := (by omega); obtain ⟨hc1, hf1⟩ := blk_at hb1 w.heap.size (by (try simp) <;> omega)))
    | (go_at_call 29; go_must (refine (hn.out _).mono ?_; rintro e w2 ⟨rfl, rfl⟩))
    | (go_at_call 89; go_must (refine (hpt.out _).mono ?_; rintro e w3 ⟨rfl, hb3⟩; have hz3 := hb3.size; (try simp at hz3); have hlt3 : w.heap.size < w3.heap.size := (by omega); obtain ⟨hc3, hf3⟩ := blk_at hb3 w.heap.size (by (try simp) <;> omega))))
  have n0 : w1.cell? ⟨w.heap.size, 0, none⟩ = some (.int .i64 0) := by go_simp
  have n1 : w1.cell? ⟨w.heap.size, 1, none⟩ = some (.string ⟨#[]⟩) := by go_simp
  have n2 : w1.cell? ⟨w.heap.size, 2, none⟩ = some (.int .i64 0) := by go_simp
  obtain ⟨s0, s1, s2⟩ := set3_cells (a := .int .i64 0) (b := .string ⟨#[]⟩) (c := .int .i64 0) n0 n1 n2
  exact bodyPost_ret (v := .agg #[.int .i64 0, .string ⟨#[]⟩, .int .i64 0]) (by simp [results, Tryd.results77, go_sem, *]) rfl ⟨by rw [hfin.out]; first | rfl | (unfold tv; rw [mk_str]; rfl), (by repeat (first | (with_reducible exact Below.refl _ _) | (with_reducible refine Below.drew ?_) | (with_reducible refine below_drewN ?_ _) | ((with_reducible refine Below.alloc ?_ ?_ _); rotate_left; focus ((try simp) <;> omega)) | ((with_reducible refine Below.setCell ?_ ?_ _); rotate_left; focus ((try simp) <;> omega)) | ((with_reducible refine Below.trans ?_ (Below.mono (by assumption) ?_)); rotate_left; focus ((try simp) <;> omega))))⟩
set_option maxRecDepth 100000 in
set_option maxHeartbeats 800000 in
theorem re0A (s a b : ByteArray) (w : World) (hs : s.size ≤ 9223372036854775807) (ha : a.size ≤ 9223372036854775807) (hbz : b.size ≤ 9223372036854775807) (hr : readL s.toList = restL a.toList b.toList) (hsp : Hid (∀ W, Calls Tryd.prog 88 #[.string s] W fun e w' => e = .returned (.tuple #[.string a, .string b]) ∧ Below W.heap.size W w')) (hp : ¬ 0 < s.size) (_hpz : ¬ (s.size : Int) > 0) (hbe : b = ⟨#[]⟩) (hnn : nL a.toList = false) : Calls Tryd.prog 77 #[.string s] w fun e w' => e = .returned (tv (readL s.toList)) ∧ Below w.heap.size w w' := by
  subst hbe
  have hn0 := fun W => rname_any a W ha
  rw [← nL_str, hnn] at hn0
  have hn := Lib.hid hn0
  have hfin := Lib.hid (hr.trans (rest_0 (Lib.toList_data ⟨#[]⟩) hnn))
  clear hn0 hr
  replace hnn := Lib.hid hnn
  replace hs := Lib.hid hs
  go_enter Tryd.func77, Tryd.ntmps77
  go_wp2_with (first
    | (go_at_call 88; go_must (refine (hsp.out _).mono ?_; rintro e w1 ⟨rfl, hb1⟩; have hz1 := hb1.size; (try simp at hz1); have hlt1 : w.heap.size < w1.heap.size := (by omega); obtain ⟨hc1, hf1⟩ := blk_at hb1 w.heap.size (by (try simp) <;> omega)))
    | (go_at_call 29; go_must (refine (hn.out _).mono ?_; rintro e w2 ⟨rfl, rfl⟩))
    | (go_at_call 89; go_must (refine (hpt.out _).mono ?_; rintro e w3 ⟨rfl, hb3⟩; have hz3 := hb3.size; (try simp at hz3); have hlt3 : w.heap.size < w3.heap.size := (by omega); obtain ⟨hc3, hf3⟩ := blk_at hb3 w.heap.size (by (try simp) <;> omega))))
  have n0 : w1.cell? ⟨w.heap.size, 0, none⟩ = some (.int .i64 0) := by go_simp
  have n1 : w1.cell? ⟨w.heap.size, 1, none⟩ = some (.string ⟨#[]⟩) := by go_simp
  have n2 : w1.cell? ⟨w.heap.size, 2, none⟩ = some (.int .i64 0) := by go_simp
  obtain ⟨s0, s1, s2⟩ := set3_cells (a := .int .i64 0) (b := .string ⟨#[]⟩) (c := .int .i64 0) n0 n1 n2
  exact bodyPost_ret (v := .agg #[.int .i64 0, .string ⟨#[]⟩, .int .i64 0]) (by simp [results, Tryd.results77, go_sem, *]) rfl ⟨by rw [hfin.out]; first | rfl | (unfold tv; rw [mk_str]; rfl), (by repeat (first | (with_reducible exact Below.refl _ _) | (with_reducible refine Below.drew ?_) | (with_reducible refine below_drewN ?_ _) | ((with_reducible refine Below.alloc ?_ ?_ _); rotate_left; focus ((try simp) <;> omega)) | ((with_reducible refine Below.setCell ?_ ?_ _); rotate_left; focus ((try simp) <;> omega)) | ((with_reducible refine Below.trans ?_ (Below.mono (by assumption) ?_)); rotate_left; focus ((try simp) <;> omega))))⟩
set_option maxRecDepth 100000 in
set_option maxHeartbeats 800000 in
theorem re1A (s a b : ByteArray) (w : World) (hs : s.size ≤ 9223372036854775807) (ha : a.size ≤ 9223372036854775807) (hbz : b.size ≤ 9223372036854775807) (hr : readL s.toList = restL a.toList b.toList) (hsp : Hid (∀ W, Calls Tryd.prog 88 #[.string s] W fun e w' => e = .returned (.tuple #[.string a, .string b]) ∧ Below W.heap.size W w')) (hp : ¬ 0 < s.size) (_hpz : ¬ (s.size : Int) > 0) (hbe : b = ⟨#[]⟩) (hnn : nL a.toList = true) : Calls Tryd.prog 77 #[.string s] w fun e w' => e = .returned (tv (readL s.toList)) ∧ Below w.heap.size w w' := by
  subst hbe
  have hn0 := fun W => rname_any a W ha
  rw [← nL_str, hnn] at hn0
  have hn := Lib.hid hn0
  have hfin := Lib.hid (hr.trans (rest_1 (Lib.toList_data ⟨#[]⟩) hnn))
  clear hn0 hr
  replace hnn := Lib.hid hnn
  replace hs := Lib.hid hs
  go_enter Tryd.func77, Tryd.ntmps77
  go_wp2_with (first
    | (go_at_call 88; go_must (refine (hsp.out _).mono ?_; rintro e w1 ⟨rfl, hb1⟩; have hz1 := hb1.size; (try simp at hz1); have hlt1 : w.heap.size < w1.heap.size := (by omega); obtain ⟨hc1, hf1⟩ := blk_at hb1 w.heap.size (by (try simp) <;> omega)))
    | (go_at_call 29; go_must (refine (hn.out _).mono ?_; rintro e w2 ⟨rfl, rfl⟩))
    | (go_at_call 89; go_must (refine (hpt.out _).mono ?_; rintro e w3 ⟨rfl, hb3⟩; have hz3 := hb3.size; (try simp at hz3); have hlt3 : w.heap.size < w3.heap.size := (by omega); obtain ⟨hc3, hf3⟩ := blk_at hb3 w.heap.size (by (try simp) <;> omega))))
  have n0 : w1.cell? ⟨w.heap.size, 0, none⟩ = some (.int .i64 0) := by go_simp
  have n1 : w1.cell? ⟨w.heap.size, 1, none⟩ = some (.string ⟨#[]⟩) := by go_simp
  have n2 : w1.cell? ⟨w.heap.size, 2, none⟩ = some (.int .i64 0) := by go_simp
  obtain ⟨s0, s1, s2⟩ := set3_cells (a := .int .i64 1) (b := .string a) (c := .int .i64 0) n0 n1 n2
  exact bodyPost_ret (v := .agg #[.int .i64 1, .string a, .int .i64 0]) (by simp [results, Tryd.results77, go_sem, *]) rfl ⟨by rw [hfin.out]; first | rfl | (unfold tv; rw [mk_str]; rfl), (by repeat (first | (with_reducible exact Below.refl _ _) | (with_reducible refine Below.drew ?_) | (with_reducible refine below_drewN ?_ _) | ((with_reducible refine Below.alloc ?_ ?_ _); rotate_left; focus ((try simp) <;> omega)) | ((with_reducible refine Below.setCell ?_ ?_ _); rotate_left; focus ((try simp) <;> omega)) | ((with_reducible refine Below.trans ?_ (Below.mono (by assumption) ?_)); rotate_left; focus ((try simp) <;> omega))))⟩
set_option maxRecDepth 100000 in
set_option maxHeartbeats 800000 in
theorem rl3B (s a b : ByteArray) (w : World) (hs : s.size ≤ 9223372036854775807) (ha : a.size ≤ 9223372036854775807) (hbz : b.size ≤ 9223372036854775807) (hr : readL s.toList = restL a.toList b.toList) (hsp : Hid (∀ W, Calls Tryd.prog 88 #[.string s] W fun e w' => e = .returned (.tuple #[.string a, .string b]) ∧ Below W.heap.size W w')) (hp : 0 < s.size) (_hpz : (s.size : Int) > 0) (_j1 : (0 : Int) < (s.size : Int)) (h33 : ¬ (s[0].toNat : Int) = 33) (hb0 : ¬ b.size = 0) (h2 : 2 < b.size) (h3 : b.toList.take 2 = [62, 61]) : Calls Tryd.prog 77 #[.string s] w fun e w' => e = .returned (tv (readL s.toList)) ∧ Below w.heap.size w w' := by
  have hbn : b.toList ≠ [] := fun e => hb0 (by rw [← toList_len, e]; rfl)
  have hbq : ¬ b.toList = [] := hbn
  have hbl := toList_len b
  have hh := (head_get b (by omega)).2
  have h2z : (b.size : Int) > 2 := by omega
  have h1z : (b.size : Int) > 1 := by omega
  have i2 : (2 : Int) ≤ (b.size : Int) := by omega
  have i1 : (1 : Int) ≤ (b.size : Int) := by omega
  have i0 : (0 : Int) < (b.size : Int) := by omega
  have n2 : 2 ≤ b.size := by omega
  have n1 : 1 ≤ b.size := by omega
  have hfin0 := hr.trans (rest_3 hbn (by omega) h3)
  have e3 : (b.extract 0 2).toList = [62, 61] := by rw [ext_head]; exact h3
  rw [← ext_end] at hfin0
  clear hbn hh hr
  replace hbl := Lib.hid hbl
  replace h3 := Lib.hid h3
  obtain ⟨⟨f, nm, n⟩, hp⟩ : ∃ p, partL 3 a.toList (b.extract 2 b.size).toList = p := ⟨_, rfl⟩
  have hpt : Hid (∀ W, Calls Tryd.prog 89 #[.int .i64 3, .string a, .string (b.extract 2 b.size)] W fun e w' => e = .returned (.agg #[.int .i64 (f : Int), .string ⟨nm.toArray⟩, .int .i64 (n : Int)]) ∧ Below W.heap.size W w') := Lib.hid fun W => by
    have h := part_any 3 a (b.extract 2 b.size) W ha (by rw [← toList_len, ext_end, List.length_drop, toList_len]; omega)
    rw [hp] at h
    exact h
  rw [hp] at hfin0
  have hfin := Lib.hid hfin0
  clear hfin0
  replace hp := Lib.hid hp
  replace hs := Lib.hid hs
  go_enter Tryd.func77, Tryd.ntmps77
  go_wp2_with (first
    | (go_at_call 88; go_must (refine (hsp.out _).mono ?_; rintro e w1 ⟨rfl, hb1⟩; have hz1 := hb1.size; (try simp at hz1); have hlt1 : w.heap.size < w1.heap.size := (by omega); obtain ⟨hc1, hf1⟩ := blk_at hb1 w.heap.size (by (try simp) <;> omega)))
    | (go_at_call 29; go_must (refine (hn.out _).mono ?_; rintro e w2 ⟨rfl, rfl⟩))
    | (go_at_call 89; go_must (refine (hpt.out _).mono ?_; rintro e w3 ⟨rfl, hb3⟩; have hz3 := hb3.size; (try simp at hz3); have hlt3 : w.heap.size < w3.heap.size := (by omega); obtain ⟨hc3, hf3⟩ := blk_at hb3 w.heap.size (by (try simp) <;> omega))))
  have n0 : w3.cell? ⟨w.heap.size, 0, none⟩ = some (.int .i64 0) := by go_simp
  have n1 : w3.cell? ⟨w.heap.size, 1, none⟩ = some (.string ⟨#[]⟩) := by go_simp
  have n2 : w3.cell? ⟨w.heap.size, 2, none⟩ = some (.int .i64 0) := by go_simp
  obtain ⟨s0, s1, s2⟩ := set3_cells (a := .int .i64 (f : Int)) (b := .string ⟨nm.toArray⟩) (c := .int .i64 (n : Int)) n0 n1 n2
  exact bodyPost_ret (v := .agg #[.int .i64 (f : Int), .string ⟨nm.toArray⟩, .int .i64 (n : Int)]) (by simp [results, Tryd.results77, go_sem, *]) rfl ⟨by rw [hfin.out]; first | rfl | (unfold tv; rw [mk_str]; rfl), (by repeat (first | (with_reducible exact Below.refl _ _) | (with_reducible refine Below.drew ?_) | (with_reducible refine below_drewN ?_ _) | ((with_reducible refine Below.alloc ?_ ?_ _); rotate_left; focus ((try simp) <;> omega)) | ((with_reducible refine Below.setCell ?_ ?_ _); rotate_left; focus ((try simp) <;> omega)) | ((with_reducible refine Below.trans ?_ (Below.mono (by assumption) ?_)); rotate_left; focus ((try simp) <;> omega))))⟩
set_option maxRecDepth 100000 in
set_option maxHeartbeats 800000 in
theorem rl4B (s a b : ByteArray) (w : World) (hs : s.size ≤ 9223372036854775807) (ha : a.size ≤ 9223372036854775807) (hbz : b.size ≤ 9223372036854775807) (hr : readL s.toList = restL a.toList b.toList) (hsp : Hid (∀ W, Calls Tryd.prog 88 #[.string s] W fun e w' => e = .returned (.tuple #[.string a, .string b]) ∧ Below W.heap.size W w')) (hp : 0 < s.size) (_hpz : (s.size : Int) > 0) (_j1 : (0 : Int) < (s.size : Int)) (h33 : ¬ (s[0].toNat : Int) = 33) (hb0 : ¬ b.size = 0) (h2 : 2 < b.size) (h3 : ¬ b.toList.take 2 = [62, 61]) (h4 : b.toList.take 2 = [60, 61]) : Calls Tryd.prog 77 #[.string s] w fun e w' => e = .returned (tv (readL s.toList)) ∧ Below w.heap.size w w' := by
  have hbn : b.toList ≠ [] := fun e => hb0 (by rw [← toList_len, e]; rfl)
  have hbq : ¬ b.toList = [] := hbn
  have hbl := toList_len b
  have hh := (head_get b (by omega)).2
  have h2z : (b.size : Int) > 2 := by omega
  have h1z : (b.size : Int) > 1 := by omega
  have i2 : (2 : Int) ≤ (b.size : Int) := by omega
  have i1 : (1 : Int) ≤ (b.size : Int) := by omega
  have i0 : (0 : Int) < (b.size : Int) := by omega
  have n2 : 2 ≤ b.size := by omega
  have n1 : 1 ≤ b.size := by omega
  have hfin0 := hr.trans (rest_4 hbn (by omega) h3 h4)
  have e3 : ((b.extract 0 2).toList == [62, 61]) = false := by rw [beq_eq_false_iff_ne, ext_head]; exact h3
  have e4 : (b.extract 0 2).toList = [60, 61] := by rw [ext_head]; exact h4
  rw [← ext_end] at hfin0
  clear hbn hh hr
  replace hbl := Lib.hid hbl
  replace h3 := Lib.hid h3
  replace h4 := Lib.hid h4
  obtain ⟨⟨f, nm, n⟩, hp⟩ : ∃ p, partL 4 a.toList (b.extract 2 b.size).toList = p := ⟨_, rfl⟩
  have hpt : Hid (∀ W, Calls Tryd.prog 89 #[.int .i64 4, .string a, .string (b.extract 2 b.size)] W fun e w' => e = .returned (.agg #[.int .i64 (f : Int), .string ⟨nm.toArray⟩, .int .i64 (n : Int)]) ∧ Below W.heap.size W w') := Lib.hid fun W => by
    have h := part_any 4 a (b.extract 2 b.size) W ha (by rw [← toList_len, ext_end, List.length_drop, toList_len]; omega)
    rw [hp] at h
    exact h
  rw [hp] at hfin0
  have hfin := Lib.hid hfin0
  clear hfin0
  replace hp := Lib.hid hp
  replace hs := Lib.hid hs
  go_enter Tryd.func77, Tryd.ntmps77
  go_wp2_with (first
    | (go_at_call 88; go_must (refine (hsp.out _).mono ?_; rintro e w1 ⟨rfl, hb1⟩; have hz1 := hb1.size; (try simp at hz1); have hlt1 : w.heap.size < w1.heap.size := (by omega); obtain ⟨hc1, hf1⟩ := blk_at hb1 w.heap.size (by (try simp) <;> omega)))
    | (go_at_call 29; go_must (refine (hn.out _).mono ?_; rintro e w2 ⟨rfl, rfl⟩))
    | (go_at_call 89; go_must (refine (hpt.out _).mono ?_; rintro e w3 ⟨rfl, hb3⟩; have hz3 := hb3.size; (try simp at hz3); have hlt3 : w.heap.size < w3.heap.size := (by omega); obtain ⟨hc3, hf3⟩ := blk_at hb3 w.heap.size (by (try simp) <;> omega))))
  have n0 : w3.cell? ⟨w.heap.size, 0, none⟩ = some (.int .i64 0) := by go_simp
  have n1 : w3.cell? ⟨w.heap.size, 1, none⟩ = some (.string ⟨#[]⟩) := by go_simp
  have n2 : w3.cell? ⟨w.heap.size, 2, none⟩ = some (.int .i64 0) := by go_simp
  obtain ⟨s0, s1, s2⟩ := set3_cells (a := .int .i64 (f : Int)) (b := .string ⟨nm.toArray⟩) (c := .int .i64 (n : Int)) n0 n1 n2
  exact bodyPost_ret (v := .agg #[.int .i64 (f : Int), .string ⟨nm.toArray⟩, .int .i64 (n : Int)]) (by simp [results, Tryd.results77, go_sem, *]) rfl ⟨by rw [hfin.out]; first | rfl | (unfold tv; rw [mk_str]; rfl), (by repeat (first | (with_reducible exact Below.refl _ _) | (with_reducible refine Below.drew ?_) | (with_reducible refine below_drewN ?_ _) | ((with_reducible refine Below.alloc ?_ ?_ _); rotate_left; focus ((try simp) <;> omega)) | ((with_reducible refine Below.setCell ?_ ?_ _); rotate_left; focus ((try simp) <;> omega)) | ((with_reducible refine Below.trans ?_ (Below.mono (by assumption) ?_)); rotate_left; focus ((try simp) <;> omega))))⟩
set_option maxRecDepth 100000 in
set_option maxHeartbeats 800000 in
theorem rl5B (s a b : ByteArray) (w : World) (hs : s.size ≤ 9223372036854775807) (ha : a.size ≤ 9223372036854775807) (hbz : b.size ≤ 9223372036854775807) (hr : readL s.toList = restL a.toList b.toList) (hsp : Hid (∀ W, Calls Tryd.prog 88 #[.string s] W fun e w' => e = .returned (.tuple #[.string a, .string b]) ∧ Below W.heap.size W w')) (hp : 0 < s.size) (_hpz : (s.size : Int) > 0) (_j1 : (0 : Int) < (s.size : Int)) (h33 : ¬ (s[0].toNat : Int) = 33) (hb0 : ¬ b.size = 0) (h2 : 2 < b.size) (h3 : ¬ b.toList.take 2 = [62, 61]) (h4 : ¬ b.toList.take 2 = [60, 61]) (h5 : b[0] = 61) : Calls Tryd.prog 77 #[.string s] w fun e w' => e = .returned (tv (readL s.toList)) ∧ Below w.heap.size w w' := by
  have hbn : b.toList ≠ [] := fun e => hb0 (by rw [← toList_len, e]; rfl)
  have hbq : ¬ b.toList = [] := hbn
  have hbl := toList_len b
  have hh := (head_get b (by omega)).2
  have h2z : (b.size : Int) > 2 := by omega
  have h1z : (b.size : Int) > 1 := by omega
  have i2 : (2 : Int) ≤ (b.size : Int) := by omega
  have i1 : (1 : Int) ≤ (b.size : Int) := by omega
  have i0 : (0 : Int) < (b.size : Int) := by omega
  have n2 : 2 ≤ b.size := by omega
  have n1 : 1 ≤ b.size := by omega
  have h61 : (b[0].toNat : Int) = 61 := by rw [h5]; rfl
  have hfin0 := hr.trans (rest_5 hbn (fun e => h3 e.2) (fun e => h4 e.2) (by omega) (by rw [hh]; exact h5))
  have e3 : ((b.extract 0 2).toList == [62, 61]) = false := by rw [beq_eq_false_iff_ne, ext_head]; exact h3
  have e4 : ((b.extract 0 2).toList == [60, 61]) = false := by rw [beq_eq_false_iff_ne, ext_head]; exact h4
  rw [← ext_end] at hfin0
  clear hbn hh hr
  replace hbl := Lib.hid hbl
  replace h3 := Lib.hid h3
  replace h4 := Lib.hid h4
  replace h5 := Lib.hid h5
  obtain ⟨⟨f, nm, n⟩, hp⟩ : ∃ p, partL 5 a.toList (b.extract 1 b.size).toList = p := ⟨_, rfl⟩
  have hpt : Hid (∀ W, Calls Tryd.prog 89 #[.int .i64 5, .string a, .string (b.extract 1 b.size)] W fun e w' => e = .returned (.agg #[.int .i64 (f : Int), .string ⟨nm.toArray⟩, .int .i64 (n : Int)]) ∧ Below W.heap.size W w') := Lib.hid fun W => by
    have h := part_any 5 a (b.extract 1 b.size) W ha (by rw [← toList_len, ext_end, List.length_drop, toList_len]; omega)
    rw [hp] at h
    exact h
  rw [hp] at hfin0
  have hfin := Lib.hid hfin0
  clear hfin0
  replace hp := Lib.hid hp
  replace hs := Lib.hid hs
  go_enter Tryd.func77, Tryd.ntmps77
  go_wp2_with (first
    | (go_at_call 88; go_must (refine (hsp.out _).mono ?_; rintro e w1 ⟨rfl, hb1⟩; have hz1 := hb1.size; (try simp at hz1); have hlt1 : w.heap.size < w1.heap.size := (by omega); obtain ⟨hc1, hf1⟩ := blk_at hb1 w.heap.size (by (try simp) <;> omega)))
    | (go_at_call 29; go_must (refine (hn.out _).mono ?_; rintro e w2 ⟨rfl, rfl⟩))
    | (go_at_call 89; go_must (refine (hpt.out _).mono ?_; rintro e w3 ⟨rfl, hb3⟩; have hz3 := hb3.size; (try simp at hz3); have hlt3 : w.heap.size < w3.heap.size := (by omega); obtain ⟨hc3, hf3⟩ := blk_at hb3 w.heap.size (by (try simp) <;> omega))))
  have n0 : w3.cell? ⟨w.heap.size, 0, none⟩ = some (.int .i64 0) := by go_simp
  have n1 : w3.cell? ⟨w.heap.size, 1, none⟩ = some (.string ⟨#[]⟩) := by go_simp
  have n2 : w3.cell? ⟨w.heap.size, 2, none⟩ = some (.int .i64 0) := by go_simp
  obtain ⟨s0, s1, s2⟩ := set3_cells (a := .int .i64 (f : Int)) (b := .string ⟨nm.toArray⟩) (c := .int .i64 (n : Int)) n0 n1 n2
  exact bodyPost_ret (v := .agg #[.int .i64 (f : Int), .string ⟨nm.toArray⟩, .int .i64 (n : Int)]) (by simp [results, Tryd.results77, go_sem, *]) rfl ⟨by rw [hfin.out]; first | rfl | (unfold tv; rw [mk_str]; rfl), (by repeat (first | (with_reducible exact Below.refl _ _) | (with_reducible refine Below.drew ?_) | (with_reducible refine below_drewN ?_ _) | ((with_reducible refine Below.alloc ?_ ?_ _); rotate_left; focus ((try simp) <;> omega)) | ((with_reducible refine Below.setCell ?_ ?_ _); rotate_left; focus ((try simp) <;> omega)) | ((with_reducible refine Below.trans ?_ (Below.mono (by assumption) ?_)); rotate_left; focus ((try simp) <;> omega))))⟩
set_option maxRecDepth 100000 in
set_option maxHeartbeats 800000 in
theorem rlnB (s a b : ByteArray) (w : World) (hs : s.size ≤ 9223372036854775807) (_ha : a.size ≤ 9223372036854775807) (hbz : b.size ≤ 9223372036854775807) (hr : readL s.toList = restL a.toList b.toList) (hsp : Hid (∀ W, Calls Tryd.prog 88 #[.string s] W fun e w' => e = .returned (.tuple #[.string a, .string b]) ∧ Below W.heap.size W w')) (hp : 0 < s.size) (_hpz : (s.size : Int) > 0) (_j1 : (0 : Int) < (s.size : Int)) (h33 : ¬ (s[0].toNat : Int) = 33) (hb0 : ¬ b.size = 0) (h2 : 2 < b.size) (h3 : ¬ b.toList.take 2 = [62, 61]) (h4 : ¬ b.toList.take 2 = [60, 61]) (h5 : ¬ b[0] = 61) : Calls Tryd.prog 77 #[.string s] w fun e w' => e = .returned (tv (readL s.toList)) ∧ Below w.heap.size w w' := by
  have hbn : b.toList ≠ [] := fun e => hb0 (by rw [← toList_len, e]; rfl)
  have hbq : ¬ b.toList = [] := hbn
  have hbl := toList_len b
  have hh := (head_get b (by omega)).2
  have h2z : (b.size : Int) > 2 := by omega
  have h1z : (b.size : Int) > 1 := by omega
  have i2 : (2 : Int) ≤ (b.size : Int) := by omega
  have i1 : (1 : Int) ≤ (b.size : Int) := by omega
  have i0 : (0 : Int) < (b.size : Int) := by omega
  have n2 : 2 ≤ b.size := by omega
  have n1 : 1 ≤ b.size := by omega
  have h61 : ¬ (b[0].toNat : Int) = 61 := fun e => h5 (by rw [← UInt8.toNat_inj]; show b[0].toNat = 61; omega)
  have hfin := Lib.hid (hr.trans (rest_n hbn (fun e => h3 e.2) (fun e => h4 e.2) (fun e => h5 (by rw [← hh]; exact e.2))))
  have e3 : ((b.extract 0 2).toList == [62, 61]) = false := by rw [beq_eq_false_iff_ne, ext_head]; exact h3
  have e4 : ((b.extract 0 2).toList == [60, 61]) = false := by rw [beq_eq_false_iff_ne, ext_head]; exact h4
  clear hbn hh hr
  replace hbl := Lib.hid hbl
  replace h3 := Lib.hid h3
  replace h4 := Lib.hid h4
  replace h5 := Lib.hid h5
  replace hs := Lib.hid hs
  go_enter Tryd.func77, Tryd.ntmps77
  go_wp2_with (first
    | (go_at_call 88; go_must (refine (hsp.out _).mono ?_; rintro e w1 ⟨rfl, hb1⟩; have hz1 := hb1.size; (try simp at hz1); have hlt1 : w.heap.size < w1.heap.size := (by omega); obtain ⟨hc1, hf1⟩ := blk_at hb1 w.heap.size (by (try simp) <;> omega)))
    | (go_at_call 29; go_must (refine (hn.out _).mono ?_; rintro e w2 ⟨rfl, rfl⟩))
    | (go_at_call 89; go_must (refine (hpt.out _).mono ?_; rintro e w3 ⟨rfl, hb3⟩; have hz3 := hb3.size; (try simp at hz3); have hlt3 : w.heap.size < w3.heap.size := (by omega); obtain ⟨hc3, hf3⟩ := blk_at hb3 w.heap.size (by (try simp) <;> omega))))
  have n0 : w1.cell? ⟨w.heap.size, 0, none⟩ = some (.int .i64 0) := by go_simp
  have n1 : w1.cell? ⟨w.heap.size, 1, none⟩ = some (.string ⟨#[]⟩) := by go_simp
  have n2 : w1.cell? ⟨w.heap.size, 2, none⟩ = some (.int .i64 0) := by go_simp
  obtain ⟨s0, s1, s2⟩ := set3_cells (a := .int .i64 0) (b := .string ⟨#[]⟩) (c := .int .i64 0) n0 n1 n2
  exact bodyPost_ret (v := .agg #[.int .i64 0, .string ⟨#[]⟩, .int .i64 0]) (by simp [results, Tryd.results77, go_sem, *]) rfl ⟨by rw [hfin.out]; first | rfl | (unfold tv; rw [mk_str]; rfl), (by repeat (first | (with_reducible exact Below.refl _ _) | (with_reducible refine Below.drew ?_) | (with_reducible refine below_drewN ?_ _) | ((with_reducible refine Below.alloc ?_ ?_ _); rotate_left; focus ((try simp) <;> omega)) | ((with_reducible refine Below.setCell ?_ ?_ _); rotate_left; focus ((try simp) <;> omega)) | ((with_reducible refine Below.trans ?_ (Below.mono (by assumption) ?_)); rotate_left; focus ((try simp) <;> omega))))⟩
set_option maxRecDepth 100000 in
set_option maxHeartbeats 800000 in
theorem rs5B (s a b : ByteArray) (w : World) (hs : s.size ≤ 9223372036854775807) (ha : a.size ≤ 9223372036854775807) (hbz : b.size ≤ 9223372036854775807) (hr : readL s.toList = restL a.toList b.toList) (hsp : Hid (∀ W, Calls Tryd.prog 88 #[.string s] W fun e w' => e = .returned (.tuple #[.string a, .string b]) ∧ Below W.heap.size W w')) (hp : 0 < s.size) (_hpz : (s.size : Int) > 0) (_j1 : (0 : Int) < (s.size : Int)) (h33 : ¬ (s[0].toNat : Int) = 33) (hb0 : ¬ b.size = 0) (h2 : ¬ 2 < b.size) (h1 : 1 < b.size) (h5 : b[0] = 61) : Calls Tryd.prog 77 #[.string s] w fun e w' => e = .returned (tv (readL s.toList)) ∧ Below w.heap.size w w' := by
  have hbn : b.toList ≠ [] := fun e => hb0 (by rw [← toList_len, e]; rfl)
  have hbq : ¬ b.toList = [] := hbn
  have hbl := toList_len b
  have hh := (head_get b (by omega)).2
  have h2z : ¬ (b.size : Int) > 2 := by omega
  have h1z : (b.size : Int) > 1 := by omega
  have i1 : (1 : Int) ≤ (b.size : Int) := by omega
  have i0 : (0 : Int) < (b.size : Int) := by omega
  have n1 : 1 ≤ b.size := by omega
  have h61 : (b[0].toNat : Int) = 61 := by rw [h5]; rfl
  have hfin0 := hr.trans (rest_5 hbn (fun e => h2 (by omega)) (fun e => h2 (by omega)) (by omega) (by rw [hh]; exact h5))
  rw [← ext_end] at hfin0
  clear hbn hh hr
  replace hbl := Lib.hid hbl
  replace h5 := Lib.hid h5
  obtain ⟨⟨f, nm, n⟩, hp⟩ : ∃ p, partL 5 a.toList (b.extract 1 b.size).toList = p := ⟨_, rfl⟩
  have hpt : Hid (∀ W, Calls Tryd.prog 89 #[.int .i64 5, .string a, .string (b.extract 1 b.size)] W fun e w' => e = .returned (.agg #[.int .i64 (f : Int), .string ⟨nm.toArray⟩, .int .i64 (n : Int)]) ∧ Below W.heap.size W w') := Lib.hid fun W => by
    have h := part_any 5 a (b.extract 1 b.size) W ha (by rw [← toList_len, ext_end, List.length_drop, toList_len]; omega)
    rw [hp] at h
    exact h
  rw [hp] at hfin0
  have hfin := Lib.hid hfin0
  clear hfin0
  replace hp := Lib.hid hp
  replace hs := Lib.hid hs
  go_enter Tryd.func77, Tryd.ntmps77
  go_wp2_with (first
    | (go_at_call 88; go_must (refine (hsp.out _).mono ?_; rintro e w1 ⟨rfl, hb1⟩; have hz1 := hb1.size; (try simp at hz1); have hlt1 : w.heap.size < w1.heap.size := (by omega); obtain ⟨hc1, hf1⟩ := blk_at hb1 w.heap.size (by (try simp) <;> omega)))
    | (go_at_call 29; go_must (refine (hn.out _).mono ?_; rintro e w2 ⟨rfl, rfl⟩))
    | (go_at_call 89; go_must (refine (hpt.out _).mono ?_; rintro e w3 ⟨rfl, hb3⟩; have hz3 := hb3.size; (try simp at hz3); have hlt3 : w.heap.size < w3.heap.size := (by omega); obtain ⟨hc3, hf3⟩ := blk_at hb3 w.heap.size (by (try simp) <;> omega))))
  have n0 : w3.cell? ⟨w.heap.size, 0, none⟩ = some (.int .i64 0) := by go_simp
  have n1 : w3.cell? ⟨w.heap.size, 1, none⟩ = some (.string ⟨#[]⟩) := by go_simp
  have n2 : w3.cell? ⟨w.heap.size, 2, none⟩ = some (.int .i64 0) := by go_simp
  obtain ⟨s0, s1, s2⟩ := set3_cells (a := .int .i64 (f : Int)) (b := .string ⟨nm.toArray⟩) (c := .int .i64 (n : Int)) n0 n1 n2
  exact bodyPost_ret (v := .agg #[.int .i64 (f : Int), .string ⟨nm.toArray⟩, .int .i64 (n : Int)]) (by simp [results, Tryd.results77, go_sem, *]) rfl ⟨by rw [hfin.out]; first | rfl | (unfold tv; rw [mk_str]; rfl), (by repeat (first | (with_reducible exact Below.refl _ _) | (with_reducible refine Below.drew ?_) | (with_reducible refine below_drewN ?_ _) | ((with_reducible refine Below.alloc ?_ ?_ _); rotate_left; focus ((try simp) <;> omega)) | ((with_reducible refine Below.setCell ?_ ?_ _); rotate_left; focus ((try simp) <;> omega)) | ((with_reducible refine Below.trans ?_ (Below.mono (by assumption) ?_)); rotate_left; focus ((try simp) <;> omega))))⟩
set_option maxRecDepth 100000 in
set_option maxHeartbeats 800000 in
theorem rsnB (s a b : ByteArray) (w : World) (hs : s.size ≤ 9223372036854775807) (_ha : a.size ≤ 9223372036854775807) (hbz : b.size ≤ 9223372036854775807) (hr : readL s.toList = restL a.toList b.toList) (hsp : Hid (∀ W, Calls Tryd.prog 88 #[.string s] W fun e w' => e = .returned (.tuple #[.string a, .string b]) ∧ Below W.heap.size W w')) (hp : 0 < s.size) (_hpz : (s.size : Int) > 0) (_j1 : (0 : Int) < (s.size : Int)) (h33 : ¬ (s[0].toNat : Int) = 33) (hb0 : ¬ b.size = 0) (h2 : ¬ 2 < b.size) (h1 : 1 < b.size) (h5 : ¬ b[0] = 61) : Calls Tryd.prog 77 #[.string s] w fun e w' => e = .returned (tv (readL s.toList)) ∧ Below w.heap.size w w' := by
  have hbn : b.toList ≠ [] := fun e => hb0 (by rw [← toList_len, e]; rfl)
  have hbq : ¬ b.toList = [] := hbn
  have hbl := toList_len b
  have hh := (head_get b (by omega)).2
  have h2z : ¬ (b.size : Int) > 2 := by omega
  have h1z : (b.size : Int) > 1 := by omega
  have i1 : (1 : Int) ≤ (b.size : Int) := by omega
  have i0 : (0 : Int) < (b.size : Int) := by omega
  have n1 : 1 ≤ b.size := by omega
  have h61 : ¬ (b[0].toNat : Int) = 61 := fun e => h5 (by rw [← UInt8.toNat_inj]; show b[0].toNat = 61; omega)
  have hfin := Lib.hid (hr.trans (rest_n hbn (fun e => h2 (by omega)) (fun e => h2 (by omega)) (fun e => h5 (by rw [← hh]; exact e.2))))
  clear hbn hh hr
  replace hbl := Lib.hid hbl
  replace h5 := Lib.hid h5
  replace hs := Lib.hid hs
  go_enter Tryd.func77, Tryd.ntmps77
  go_wp2_with (first
    | (go_at_call 88; go_must (refine (hsp.out _).mono ?_; rintro e w1 ⟨rfl, hb1⟩; have hz1 := hb1.size; (try simp at hz1); have hlt1 : w.heap.size < w1.heap.size := (by omega); obtain ⟨hc1, hf1⟩ := blk_at hb1 w.heap.size (by (try simp) <;> omega)))
    | (go_at_call 29; go_must (refine (hn.out _).mono ?_; rintro e w2 ⟨rfl, rfl⟩))
    | (go_at_call 89; go_must (refine (hpt.out _).mono ?_; rintro e w3 ⟨rfl, hb3⟩; have hz3 := hb3.size; (try simp at hz3); have hlt3 : w.heap.size < w3.heap.size := (by omega); obtain ⟨hc3, hf3⟩ := blk_at hb3 w.heap.size (by (try simp) <;> omega))))
  have n0 : w1.cell? ⟨w.heap.size, 0, none⟩ = some (.int .i64 0) := by go_simp
  have n1 : w1.cell? ⟨w.heap.size, 1, none⟩ = some (.string ⟨#[]⟩) := by go_simp
  have n2 : w1.cell? ⟨w.heap.size, 2, none⟩ = some (.int .i64 0) := by go_simp
  obtain ⟨s0, s1, s2⟩ := set3_cells (a := .int .i64 0) (b := .string ⟨#[]⟩) (c := .int .i64 0) n0 n1 n2
  exact bodyPost_ret (v := .agg #[.int .i64 0, .string ⟨#[]⟩, .int .i64 0]) (by simp [results, Tryd.results77, go_sem, *]) rfl ⟨by rw [hfin.out]; first | rfl | (unfold tv; rw [mk_str]; rfl), (by repeat (first | (with_reducible exact Below.refl _ _) | (with_reducible refine Below.drew ?_) | (with_reducible refine below_drewN ?_ _) | ((with_reducible refine Below.alloc ?_ ?_ _); rotate_left; focus ((try simp) <;> omega)) | ((with_reducible refine Below.setCell ?_ ?_ _); rotate_left; focus ((try simp) <;> omega)) | ((with_reducible refine Below.trans ?_ (Below.mono (by assumption) ?_)); rotate_left; focus ((try simp) <;> omega))))⟩
set_option maxRecDepth 100000 in
set_option maxHeartbeats 800000 in
theorem rl1B (s a b : ByteArray) (w : World) (hs : s.size ≤ 9223372036854775807) (_ha : a.size ≤ 9223372036854775807) (hbz : b.size ≤ 9223372036854775807) (hr : readL s.toList = restL a.toList b.toList) (hsp : Hid (∀ W, Calls Tryd.prog 88 #[.string s] W fun e w' => e = .returned (.tuple #[.string a, .string b]) ∧ Below W.heap.size W w')) (hp : 0 < s.size) (_hpz : (s.size : Int) > 0) (_j1 : (0 : Int) < (s.size : Int)) (h33 : ¬ (s[0].toNat : Int) = 33) (hb0 : ¬ b.size = 0) (h1 : ¬ 1 < b.size) : Calls Tryd.prog 77 #[.string s] w fun e w' => e = .returned (tv (readL s.toList)) ∧ Below w.heap.size w w' := by
  have hbn : b.toList ≠ [] := fun e => hb0 (by rw [← toList_len, e]; rfl)
  have hbq : ¬ b.toList = [] := hbn
  have hbl := toList_len b
  have hh := (head_get b (by omega)).2
  have h2z : ¬ (b.size : Int) > 2 := by omega
  have h1z : ¬ (b.size : Int) > 1 := by omega
  have hfin := Lib.hid (hr.trans (rest_n hbn (fun e => h1 (by omega)) (fun e => h1 (by omega)) (fun e => h1 (by omega))))
  clear hbn hh hr
  replace hbl := Lib.hid hbl
  replace hs := Lib.hid hs
  go_enter Tryd.func77, Tryd.ntmps77
  go_wp2_with (first
    | (go_at_call 88; go_must (refine (hsp.out _).mono ?_; rintro e w1 ⟨rfl, hb1⟩; have hz1 := hb1.size; (try simp at hz1); have hlt1 : w.heap.size < w1.heap.size := (by omega); obtain ⟨hc1, hf1⟩ := blk_at hb1 w.heap.size (by (try simp) <;> omega)))
    | (go_at_call 29; go_must (refine (hn.out _).mono ?_; rintro e w2 ⟨rfl, rfl⟩))
    | (go_at_call 89; go_must (refine (hpt.out _).mono ?_; rintro e w3 ⟨rfl, hb3⟩; have hz3 := hb3.size; (try simp at hz3); have hlt3 : w.heap.size < w3.heap.size := (by omega); obtain ⟨hc3, hf3⟩ := blk_at hb3 w.heap.size (by (try simp) <;> omega))))
  have n0 : w1.cell? ⟨w.heap.size, 0, none⟩ = some (.int .i64 0) := by go_simp
  have n1 : w1.cell? ⟨w.heap.size, 1, none⟩ = some (.string ⟨#[]⟩) := by go_simp
  have n2 : w1.cell? ⟨w.heap.size, 2, none⟩ = some (.int .i64 0) := by go_simp
  obtain ⟨s0, s1, s2⟩ := set3_cells (a := .int .i64 0) (b := .string ⟨#[]⟩) (c := .int .i64 0) n0 n1 n2
  exact bodyPost_ret (v := .agg #[.int .i64 0, .string ⟨#[]⟩, .int .i64 0]) (by simp [results, Tryd.results77, go_sem, *]) rfl ⟨by rw [hfin.out]; first | rfl | (unfold tv; rw [mk_str]; rfl), (by repeat (first | (with_reducible exact Below.refl _ _) | (with_reducible refine Below.drew ?_) | (with_reducible refine below_drewN ?_ _) | ((with_reducible refine Below.alloc ?_ ?_ _); rotate_left; focus ((try simp) <;> omega)) | ((with_reducible refine Below.setCell ?_ ?_ _); rotate_left; focus ((try simp) <;> omega)) | ((with_reducible refine Below.trans ?_ (Below.mono (by assumption) ?_)); rotate_left; focus ((try simp) <;> omega))))⟩
set_option maxRecDepth 100000 in
set_option maxHeartbeats 800000 in
theorem re0B (s a b : ByteArray) (w : World) (hs : s.size ≤ 9223372036854775807) (ha : a.size ≤ 9223372036854775807) (hbz : b.size ≤ 9223372036854775807) (hr : readL s.toList = restL a.toList b.toList) (hsp : Hid (∀ W, Calls Tryd.prog 88 #[.string s] W fun e w' => e = .returned (.tuple #[.string a, .string b]) ∧ Below W.heap.size W w')) (hp : 0 < s.size) (_hpz : (s.size : Int) > 0) (_j1 : (0 : Int) < (s.size : Int)) (h33 : ¬ (s[0].toNat : Int) = 33) (hbe : b = ⟨#[]⟩) (hnn : nL a.toList = false) : Calls Tryd.prog 77 #[.string s] w fun e w' => e = .returned (tv (readL s.toList)) ∧ Below w.heap.size w w' := by
  subst hbe
  have hn0 := fun W => rname_any a W ha
  rw [← nL_str, hnn] at hn0
  have hn := Lib.hid hn0
  have hfin := Lib.hid (hr.trans (rest_0 (Lib.toList_data ⟨#[]⟩) hnn))
  clear hn0 hr
  replace hnn := Lib.hid hnn
  replace hs := Lib.hid hs
  go_enter Tryd.func77, Tryd.ntmps77
  go_wp2_with (first
    | (go_at_call 88; go_must (refine (hsp.out _).mono ?_; rintro e w1 ⟨rfl, hb1⟩; have hz1 := hb1.size; (try simp at hz1); have hlt1 : w.heap.size < w1.heap.size := (by omega); obtain ⟨hc1, hf1⟩ := blk_at hb1 w.heap.size (by (try simp) <;> omega)))
    | (go_at_call 29; go_must (refine (hn.out _).mono ?_; rintro e w2 ⟨rfl, rfl⟩))
    | (go_at_call 89; go_must (refine (hpt.out _).mono ?_; rintro e w3 ⟨rfl, hb3⟩; have hz3 := hb3.size; (try simp at hz3); have hlt3 : w.heap.size < w3.heap.size := (by omega); obtain ⟨hc3, hf3⟩ := blk_at hb3 w.heap.size (by (try simp) <;> omega))))
  have n0 : w1.cell? ⟨w.heap.size, 0, none⟩ = some (.int .i64 0) := by go_simp
  have n1 : w1.cell? ⟨w.heap.size, 1, none⟩ = some (.string ⟨#[]⟩) := by go_simp
  have n2 : w1.cell? ⟨w.heap.size, 2, none⟩ = some (.int .i64 0) := by go_simp
  obtain ⟨s0, s1, s2⟩ := set3_cells (a := .int .i64 0) (b := .string ⟨#[]⟩) (c := .int .i64 0) n0 n1 n2
  exact bodyPost_ret (v := .agg #[.int .i64 0, .string ⟨#[]⟩, .int .i64 0]) (by simp [results, Tryd.results77, go_sem, *]) rfl ⟨by rw [hfin.out]; first | rfl | (unfold tv; rw [mk_str]; rfl), (by repeat (first | (with_reducible exact Below.refl _ _) | (with_reducible refine Below.drew ?_) | (with_reducible refine below_drewN ?_ _) | ((with_reducible refine Below.alloc ?_ ?_ _); rotate_left; focus ((try simp) <;> omega)) | ((with_reducible refine Below.setCell ?_ ?_ _); rotate_left; focus ((try simp) <;> omega)) | ((with_reducible refine Below.trans ?_ (Below.mono (by assumption) ?_)); rotate_left; focus ((try simp) <;> omega))))⟩
set_option maxRecDepth 100000 in
set_option maxHeartbeats 800000 in
theorem re1B (s a b : ByteArray) (w : World) (hs : s.size ≤ 9223372036854775807) (ha : a.size ≤ 9223372036854775807) (hbz : b.size ≤ 9223372036854775807) (hr : readL s.toList = restL a.toList b.toList) (hsp : Hid (∀ W, Calls Tryd.prog 88 #[.string s] W fun e w' => e = .returned (.tuple #[.string a, .string b]) ∧ Below W.heap.size W w')) (hp : 0 < s.size) (_hpz : (s.size : Int) > 0) (_j1 : (0 : Int) < (s.size : Int)) (h33 : ¬ (s[0].toNat : Int) = 33) (hbe : b = ⟨#[]⟩) (hnn : nL a.toList = true) : Calls Tryd.prog 77 #[.string s] w fun e w' => e = .returned (tv (readL s.toList)) ∧ Below w.heap.size w w' := by
  subst hbe
  have hn0 := fun W => rname_any a W ha
  rw [← nL_str, hnn] at hn0
  have hn := Lib.hid hn0
  have hfin := Lib.hid (hr.trans (rest_1 (Lib.toList_data ⟨#[]⟩) hnn))
  clear hn0 hr
  replace hnn := Lib.hid hnn
  replace hs := Lib.hid hs
  go_enter Tryd.func77, Tryd.ntmps77
  go_wp2_with (first
    | (go_at_call 88; go_must (refine (hsp.out _).mono ?_; rintro e w1 ⟨rfl, hb1⟩; have hz1 := hb1.size; (try simp at hz1); have hlt1 : w.heap.size < w1.heap.size := (by omega); obtain ⟨hc1, hf1⟩ := blk_at hb1 w.heap.size (by (try simp) <;> omega)))
    | (go_at_call 29; go_must (refine (hn.out _).mono ?_; rintro e w2 ⟨rfl, rfl⟩))
    | (go_at_call 89; go_must (refine (hpt.out _).mono ?_; rintro e w3 ⟨rfl, hb3⟩; have hz3 := hb3.size; (try simp at hz3); have hlt3 : w.heap.size < w3.heap.size := (by omega); obtain ⟨hc3, hf3⟩ := blk_at hb3 w.heap.size (by (try simp) <;> omega))))
  have n0 : w1.cell? ⟨w.heap.size, 0, none⟩ = some (.int .i64 0) := by go_simp
  have n1 : w1.cell? ⟨w.heap.size, 1, none⟩ = some (.string ⟨#[]⟩) := by go_simp
  have n2 : w1.cell? ⟨w.heap.size, 2, none⟩ = some (.int .i64 0) := by go_simp
  obtain ⟨s0, s1, s2⟩ := set3_cells (a := .int .i64 1) (b := .string a) (c := .int .i64 0) n0 n1 n2
  exact bodyPost_ret (v := .agg #[.int .i64 1, .string a, .int .i64 0]) (by simp [results, Tryd.results77, go_sem, *]) rfl ⟨by rw [hfin.out]; first | rfl | (unfold tv; rw [mk_str]; rfl), (by repeat (first | (with_reducible exact Below.refl _ _) | (with_reducible refine Below.drew ?_) | (with_reducible refine below_drewN ?_ _) | ((with_reducible refine Below.alloc ?_ ?_ _); rotate_left; focus ((try simp) <;> omega)) | ((with_reducible refine Below.setCell ?_ ?_ _); rotate_left; focus ((try simp) <;> omega)) | ((with_reducible refine Below.trans ?_ (Below.mono (by assumption) ?_)); rotate_left; focus ((try simp) <;> omega))))⟩
set_option maxRecDepth 100000 in
set_option maxHeartbeats 8000000 in
theorem read_rest_any (s : ByteArray) (w : World) (hs : s.size ≤ 9223372036854775807) (hb : ¬ (0 < s.size ∧ s[0]! = 33)) : Calls Tryd.prog 77 #[.string s] w fun e w' => e = .returned (tv (readL s.toList)) ∧ Below w.heap.size w w' := by
  have hlen := toList_len s
  obtain ⟨a, hae⟩ : ∃ a : ByteArray, a.toList = hdL s.toList := ⟨⟨(hdL s.toList).toArray⟩, mk_toList _⟩
  obtain ⟨b, hbe⟩ : ∃ b : ByteArray, b.toList = tlL s.toList := ⟨⟨(tlL s.toList).toArray⟩, mk_toList _⟩
  have ha : a.size ≤ 9223372036854775807 := by have := (hd_len s.toList).1; rw [← hae, toList_len, toList_len] at this; omega
  have hbz : b.size ≤ 9223372036854775807 := by have := (hd_len s.toList).2; rw [← hbe, toList_len, toList_len] at this; omega
  by_cases hp : 0 < s.size
  · have hpz : (s.size : Int) > 0 := by omega
    have hne : ¬ s[0] = 33 := fun e => hb ⟨hp, by rw [getElem!_pos s 0 hp]; exact e⟩
    have hnb : ¬ s.toList.headD 0 = 33 := by rw [(head_get s hp).2]; exact hne
    have h33 : ¬ (s[0].toNat : Int) = 33 := fun e => hne (by rw [← UInt8.toNat_inj]; show s[0].toNat = 33; omega)
    have j1 : (0 : Int) < (s.size : Int) := by omega
    replace hne := Lib.hid hne
    clear hb
    have hr : readL s.toList = restL a.toList b.toList := by rw [read_rest hnb, ← hae, ← hbe]
    have hsp : Hid (∀ W, Calls Tryd.prog 88 #[.string s] W fun e w' => e = .returned (.tuple #[.string a, .string b]) ∧ Below W.heap.size W w') := Lib.hid fun W => by
      have h := split_fix s W hs
      rw [← hae, ← hbe, mk_str, mk_str] at h
      exact h
    replace hae := Lib.hid hae
    replace hbe := Lib.hid hbe
    replace hnb := Lib.hid hnb
    replace hlen := Lib.hid hlen
    by_cases hb0 : b.size = 0
    · have hbe : b = ⟨#[]⟩ := toList_inj ((List.length_eq_zero_iff.1 (by rw [toList_len]; exact hb0)).trans (Lib.toList_data ⟨#[]⟩).symm)
      rcases hnn : nL a.toList with _ | _
      · exact re0B s a b w hs ha hbz hr hsp hp hpz j1 h33 hbe hnn
      · exact re1B s a b w hs ha hbz hr hsp hp hpz j1 h33 hbe hnn
    by_cases h2 : 2 < b.size
    · by_cases h3 : b.toList.take 2 = [62, 61]
      · exact rl3B s a b w hs ha hbz hr hsp hp hpz j1 h33 hb0 h2 h3
      · by_cases h4 : b.toList.take 2 = [60, 61]
        · exact rl4B s a b w hs ha hbz hr hsp hp hpz j1 h33 hb0 h2 h3 h4
        · by_cases h5 : b[0] = 61
          · exact rl5B s a b w hs ha hbz hr hsp hp hpz j1 h33 hb0 h2 h3 h4 h5
          · exact rlnB s a b w hs ha hbz hr hsp hp hpz j1 h33 hb0 h2 h3 h4 h5
    · by_cases h1 : 1 < b.size
      · by_cases h5 : b[0] = 61
        · exact rs5B s a b w hs ha hbz hr hsp hp hpz j1 h33 hb0 h2 h1 h5
        · exact rsnB s a b w hs ha hbz hr hsp hp hpz j1 h33 hb0 h2 h1 h5
      · exact rl1B s a b w hs ha hbz hr hsp hp hpz j1 h33 hb0 h1
  · have hpz : ¬ (s.size : Int) > 0 := by omega
    have hnb : ¬ s.toList.headD 0 = 33 := by
      rw [List.length_eq_zero_iff.1 (show s.toList.length = 0 by omega)]; decide
    clear hb
    have hr : readL s.toList = restL a.toList b.toList := by rw [read_rest hnb, ← hae, ← hbe]
    have hsp : Hid (∀ W, Calls Tryd.prog 88 #[.string s] W fun e w' => e = .returned (.tuple #[.string a, .string b]) ∧ Below W.heap.size W w') := Lib.hid fun W => by
      have h := split_fix s W hs
      rw [← hae, ← hbe, mk_str, mk_str] at h
      exact h
    replace hae := Lib.hid hae
    replace hbe := Lib.hid hbe
    replace hnb := Lib.hid hnb
    replace hlen := Lib.hid hlen
    by_cases hb0 : b.size = 0
    · have hbe : b = ⟨#[]⟩ := toList_inj ((List.length_eq_zero_iff.1 (by rw [toList_len]; exact hb0)).trans (Lib.toList_data ⟨#[]⟩).symm)
      rcases hnn : nL a.toList with _ | _
      · exact re0A s a b w hs ha hbz hr hsp hp hpz hbe hnn
      · exact re1A s a b w hs ha hbz hr hsp hp hpz hbe hnn
    by_cases h2 : 2 < b.size
    · by_cases h3 : b.toList.take 2 = [62, 61]
      · exact rl3A s a b w hs ha hbz hr hsp hp hpz hb0 h2 h3
      · by_cases h4 : b.toList.take 2 = [60, 61]
        · exact rl4A s a b w hs ha hbz hr hsp hp hpz hb0 h2 h3 h4
        · by_cases h5 : b[0] = 61
          · exact rl5A s a b w hs ha hbz hr hsp hp hpz hb0 h2 h3 h4 h5
          · exact rlnA s a b w hs ha hbz hr hsp hp hpz hb0 h2 h3 h4 h5
    · by_cases h1 : 1 < b.size
      · by_cases h5 : b[0] = 61
        · exact rs5A s a b w hs ha hbz hr hsp hp hpz hb0 h2 h1 h5
        · exact rsnA s a b w hs ha hbz hr hsp hp hpz hb0 h2 h1 h5
      · exact rl1A s a b w hs ha hbz hr hsp hp hpz hb0 h1
set_option maxRecDepth 100000 in
set_option maxHeartbeats 8000000 in
theorem read_any (s : ByteArray) (w : World) (hs : s.size ≤ 9223372036854775807) : Calls Tryd.prog 77 #[.string s] w fun e w' => e = .returned (tv (readL s.toList)) ∧ Below w.heap.size w w' := by
  have hlen := toList_len s
  by_cases hb : 0 < s.size ∧ s[0]! = 33
  · have hp : 0 < s.size := hb.1
    have hh : s[0] = 33 := by have := hb.2; rwa [getElem!_pos s 0 hp] at this
    have hr := read_bang (s := s.toList) (by rw [(head_get s hp).2]; exact hh)
    rw [← ext_end] at hr
    have h33 : (s[0].toNat : Int) = 33 := by rw [hh]; rfl
    have hpz : (s.size : Int) > 0 := by omega
    have i1 : (0 : Int) < (s.size : Int) := by omega
    have i2 : (1 : Int) ≤ (s.size : Int) := by omega
    have i3 : 1 ≤ s.size := by omega
    have hes : (s.extract 1 s.size).size ≤ 9223372036854775807 := by rw [← toList_len, ext_end, List.length_drop, hlen]; omega
    have hn0 := fun W => rname_any (s.extract 1 s.size) W hes
    rw [← nL_str] at hn0
    rcases hnn : nL (s.extract 1 s.size).toList with _ | _
    · rw [hnn, if_neg (by decide)] at hr
      rw [hnn] at hn0
      have hn := Lib.hid hn0
      have hfin := Lib.hid hr
      clear hn0 hr hes
      replace hnn := Lib.hid hnn
      replace hb := Lib.hid hb
      replace hh := Lib.hid hh
      replace hlen := Lib.hid hlen
      go_enter Tryd.func77, Tryd.ntmps77
      go_wp2_with (go_at_call 29; go_must (refine (hn.out _).mono ?_; rintro e w2 ⟨rfl, rfl⟩))
      have n0 : (w.alloc (.cells #[.int .i64 0, .string ⟨#[]⟩, .int .i64 0] 85)).cell? ⟨w.heap.size, 0, none⟩ = some (.int .i64 0) := by go_simp
      have n1 : (w.alloc (.cells #[.int .i64 0, .string ⟨#[]⟩, .int .i64 0] 85)).cell? ⟨w.heap.size, 1, none⟩ = some (.string ⟨#[]⟩) := by go_simp
      have n2 : (w.alloc (.cells #[.int .i64 0, .string ⟨#[]⟩, .int .i64 0] 85)).cell? ⟨w.heap.size, 2, none⟩ = some (.int .i64 0) := by go_simp
      obtain ⟨s0, s1, s2⟩ := set3_cells (a := .int .i64 0) (b := .string ⟨#[]⟩) (c := .int .i64 0) n0 n1 n2
      exact bodyPost_ret (v := .agg #[.int .i64 0, .string ⟨#[]⟩, .int .i64 0]) (by simp [results, Tryd.results77, go_sem, *]) rfl ⟨by rw [hfin.out]; first | rfl | (unfold tv; rw [mk_str]; done) | (unfold tv; rw [mk_str]; rfl), (by repeat (first | (with_reducible exact Below.refl _ _) | (with_reducible refine Below.drew ?_) | (with_reducible refine below_drewN ?_ _) | ((with_reducible refine Below.alloc ?_ ?_ _); rotate_left; focus ((try simp) <;> omega)) | ((with_reducible refine Below.setCell ?_ ?_ _); rotate_left; focus ((try simp) <;> omega)) | ((with_reducible refine Below.trans ?_ (Below.mono (by assumption) ?_)); rotate_left; focus ((try simp) <;> omega))))⟩
    · rw [hnn, if_pos rfl] at hr
      rw [hnn] at hn0
      have hn := Lib.hid hn0
      have hfin := Lib.hid hr
      clear hn0 hr hes
      replace hnn := Lib.hid hnn
      replace hb := Lib.hid hb
      replace hh := Lib.hid hh
      replace hlen := Lib.hid hlen
      go_enter Tryd.func77, Tryd.ntmps77
      go_wp2_with (go_at_call 29; go_must (refine (hn.out _).mono ?_; rintro e w2 ⟨rfl, rfl⟩))
      have n0 : (w.alloc (.cells #[.int .i64 0, .string ⟨#[]⟩, .int .i64 0] 85)).cell? ⟨w.heap.size, 0, none⟩ = some (.int .i64 0) := by go_simp
      have n1 : (w.alloc (.cells #[.int .i64 0, .string ⟨#[]⟩, .int .i64 0] 85)).cell? ⟨w.heap.size, 1, none⟩ = some (.string ⟨#[]⟩) := by go_simp
      have n2 : (w.alloc (.cells #[.int .i64 0, .string ⟨#[]⟩, .int .i64 0] 85)).cell? ⟨w.heap.size, 2, none⟩ = some (.int .i64 0) := by go_simp
      obtain ⟨s0, s1, s2⟩ := set3_cells (a := .int .i64 2) (b := .string (s.extract 1 s.size)) (c := .int .i64 0) n0 n1 n2
      exact bodyPost_ret (v := .agg #[.int .i64 2, .string (s.extract 1 s.size), .int .i64 0]) (by simp [results, Tryd.results77, go_sem, *]) rfl ⟨by rw [hfin.out]; first | rfl | (unfold tv; rw [mk_str]; done) | (unfold tv; rw [mk_str]; rfl), (by repeat (first | (with_reducible exact Below.refl _ _) | (with_reducible refine Below.drew ?_) | (with_reducible refine below_drewN ?_ _) | ((with_reducible refine Below.alloc ?_ ?_ _); rotate_left; focus ((try simp) <;> omega)) | ((with_reducible refine Below.setCell ?_ ?_ _); rotate_left; focus ((try simp) <;> omega)) | ((with_reducible refine Below.trans ?_ (Below.mono (by assumption) ?_)); rotate_left; focus ((try simp) <;> omega))))⟩
  · exact read_rest_any s w hs hb
end Go.Proofs.YtnahbfmbmpoljaaDoor
