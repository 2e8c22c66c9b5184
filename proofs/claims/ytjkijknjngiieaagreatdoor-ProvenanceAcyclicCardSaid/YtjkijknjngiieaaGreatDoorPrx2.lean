/-
  The walks of provenance: whether a link is in order, the index of a name, by the reference.
-/
import Derived.Test.YtjkijknjngiieaaGreatDoorPrx1


namespace Go.Proofs.YtjkijknjngiieaaGreatDoor
open Go.RowKit

set_option maxRecDepth 100000 in
set_option maxHeartbeats 8000000 in
theorem rright_any (x : Lkr) (w : World) (hx : LabLkr w w.heap.size x) (hm : MildK x) :
    Calls Tryz.prog 35 #[.agg #[.string x.run.1, .string x.job.1, .int .i64 x.attempt.1, .int .u64 x.spec.1, .slice x.insA x.ins.length x.insC, .string x.name.1, .int .u64 x.digest.1, .int .i64 x.size.1]] w fun e w' => e = .returned (.bool (rightB x.h)) ∧ Below w.heap.size w w' := by
  have hp10 := fun W => rpath1_any x.run W hm.run
  have hp20 := fun W => rpath1_any x.job W hm.job
  have hnb0 : ∀ W, Calls Tryz.prog 67 #[.string x.name.1] W fun e w' => e = .returned (.bool (nameB x.name.1)) ∧ W = w' := fun W => rname_any x.name.1 W x.name.2
  have hln0 := fun W => rname_any35 x W hm.nm
  have hins := Lib.hid hm.ins
  have hlen := hm.len
  have hhd : headB x.h = (pathB x.run && pathB x.job && nameB x.name.1 && decide ((nameL x.h).1.size ≤ 512)) := rfl
  have hrt := right_of x.h
  have hrow := hx.2.2
  rw [hhd] at hrt
  clear hhd
  obtain ⟨R, hR⟩ : ∃ R, rightB x.h = R := ⟨_, rfl⟩
  obtain ⟨P1, hP1⟩ : ∃ P, pathB x.run = P := ⟨_, rfl⟩
  obtain ⟨P2, hP2⟩ : ∃ P, pathB x.job = P := ⟨_, rfl⟩
  obtain ⟨N, hN⟩ : ∃ N, nameB x.name.1 = N := ⟨_, rfl⟩
  obtain ⟨L, hL⟩ : ∃ L, (nameL x.h).1 = L := ⟨_, rfl⟩
  rw [hP1] at hp10 hrt
  rw [hP2] at hp20 hrt
  rw [hN] at hnb0 hrt
  rw [hL] at hln0 hrt
  rw [hR] at hrt ⊢
  obtain ⟨A, hA⟩ : ∃ A, x.insA = A := ⟨_, rfl⟩
  rw [hA] at hrow hln0 ⊢
  have hp1 := Lib.hid hp10
  have hp2 := Lib.hid hp20
  have hnb := Lib.hid hnb0
  have hln := Lib.hid hln0
  replace hrow := Lib.hid hrow
  clear hp10 hp20 hnb0 hln0 hP1 hP2 hN hL hR hA hx hm
  rcases P1 with _ | _
  · have hf : Hid (R = false) := Lib.hid (by rw [hrt]; simp)
    clear hrt
    go_enter Tryz.func35, Tryz.ntmps35
    go_wp2_with (go_at_call 48; (with_reducible refine (hp1.out _).mono ?_); rintro e w1 ⟨rfl, hb1⟩; have hz1 := hb1.size; (try simp at hz1); obtain ⟨hc1, hf1⟩ := blk_at hb1 w.heap.size (by (try simp) <;> omega))
    go_ret
    exact ⟨by rw [hf.out]; rfl, (by repeat (first | (with_reducible exact Below.refl _ _) | (with_reducible refine Below.drew ?_) | (with_reducible refine below_drewN ?_ _) | ((with_reducible refine Below.alloc ?_ ?_ _); rotate_left; focus ((try simp) <;> omega)) | ((with_reducible refine Below.setCell ?_ ?_ _); rotate_left; focus ((try simp) <;> omega)) | ((with_reducible refine Below.trans ?_ (Below.mono (by assumption) ?_)); rotate_left; focus ((try simp) <;> omega))))⟩
  rcases P2 with _ | _
  · have hf : Hid (R = false) := Lib.hid (by rw [hrt]; simp)
    clear hrt
    go_enter Tryz.func35, Tryz.ntmps35
    go_wp2_with (first | (go_at_call 48; (with_reducible refine (hp1.out _).mono ?_); rintro e w1 ⟨rfl, hb1⟩; have hz1 := hb1.size; (try simp at hz1); obtain ⟨hc1, hf1⟩ := blk_at hb1 w.heap.size (by (try simp) <;> omega)) | (go_at_call 48; (with_reducible refine (hp2.out _).mono ?_); rintro e w2 ⟨rfl, hb2⟩; have hz2 := hb2.size; (try simp at hz2); obtain ⟨hc2, hf2⟩ := blk_at hb2 w.heap.size (by (try simp) <;> omega)))
    go_ret
    exact ⟨by rw [hf.out]; rfl, (by repeat (first | (with_reducible exact Below.refl _ _) | (with_reducible refine Below.drew ?_) | (with_reducible refine below_drewN ?_ _) | ((with_reducible refine Below.alloc ?_ ?_ _); rotate_left; focus ((try simp) <;> omega)) | ((with_reducible refine Below.setCell ?_ ?_ _); rotate_left; focus ((try simp) <;> omega)) | ((with_reducible refine Below.trans ?_ (Below.mono (by assumption) ?_)); rotate_left; focus ((try simp) <;> omega))))⟩
  rcases N with _ | _
  · have hf : Hid (R = false) := Lib.hid (by rw [hrt]; simp)
    clear hrt
    go_enter Tryz.func35, Tryz.ntmps35
    go_wp2_with (first | (go_at_call 48; (with_reducible refine (hp1.out _).mono ?_); rintro e w1 ⟨rfl, hb1⟩; have hz1 := hb1.size; (try simp at hz1); obtain ⟨hc1, hf1⟩ := blk_at hb1 w.heap.size (by (try simp) <;> omega)) | (go_at_call 48; (with_reducible refine (hp2.out _).mono ?_); rintro e w2 ⟨rfl, hb2⟩; have hz2 := hb2.size; (try simp at hz2); obtain ⟨hc2, hf2⟩ := blk_at hb2 w.heap.size (by (try simp) <;> omega)) | (go_at_call 67; go_must (refine (hnb.out _).mono ?_; rintro e w3 ⟨rfl, rfl⟩)))
    go_ret
    exact ⟨by rw [hf.out]; rfl, (by repeat (first | (with_reducible exact Below.refl _ _) | (with_reducible refine Below.drew ?_) | (with_reducible refine below_drewN ?_ _) | ((with_reducible refine Below.alloc ?_ ?_ _); rotate_left; focus ((try simp) <;> omega)) | ((with_reducible refine Below.setCell ?_ ?_ _); rotate_left; focus ((try simp) <;> omega)) | ((with_reducible refine Below.trans ?_ (Below.mono (by assumption) ?_)); rotate_left; focus ((try simp) <;> omega))))⟩
  by_cases h4 : L.size ≤ 512
  rotate_left
  · have hf : Hid (R = false) := Lib.hid (by rw [hrt, decide_eq_false h4]; simp)
    have h4z : (512 : Int) < (L.size : Int) := by omega
    clear hrt
    go_enter Tryz.func35, Tryz.ntmps35
    go_wp2_with (first | (go_at_call 48; (with_reducible refine (hp1.out _).mono ?_); rintro e w1 ⟨rfl, hb1⟩; have hz1 := hb1.size; (try simp at hz1); obtain ⟨hc1, hf1⟩ := blk_at hb1 w.heap.size (by (try simp) <;> omega)) | (go_at_call 48; (with_reducible refine (hp2.out _).mono ?_); rintro e w2 ⟨rfl, hb2⟩; have hz2 := hb2.size; (try simp at hz2); obtain ⟨hc2, hf2⟩ := blk_at hb2 w.heap.size (by (try simp) <;> omega)) | (go_at_call 67; go_must (refine (hnb.out _).mono ?_; rintro e w3 ⟨rfl, rfl⟩)) | (go_at_call 23; go_must (refine (hln.out _).mono ?_; rintro e w4 ⟨rfl, hb4⟩; have hz4 := hb4.size; (try simp at hz4); obtain ⟨hc4, hf4⟩ := blk_at hb4 w.heap.size (by (try simp) <;> omega))))
    go_ret
    exact ⟨by rw [hf.out]; rfl, (by repeat (first | (with_reducible exact Below.refl _ _) | (with_reducible refine Below.drew ?_) | (with_reducible refine below_drewN ?_ _) | ((with_reducible refine Below.alloc ?_ ?_ _); rotate_left; focus ((try simp) <;> omega)) | ((with_reducible refine Below.setCell ?_ ?_ _); rotate_left; focus ((try simp) <;> omega)) | ((with_reducible refine Below.trans ?_ (Below.mono (by assumption) ?_)); rotate_left; focus ((try simp) <;> omega))))⟩
  have h4z : ¬ (512 : Int) < (L.size : Int) := by omega
  have hrt2 : Hid (x.ins.all inB = R) := Lib.hid (by rw [hrt, decide_eq_true h4]; rfl)
  clear hrt
  go_enter Tryz.func35, Tryz.ntmps35
  go_wp2_with (first | (go_at_call 48; (with_reducible refine (hp1.out _).mono ?_); rintro e w1 ⟨rfl, hb1⟩; have hz1 := hb1.size; (try simp at hz1); obtain ⟨hc1, hf1⟩ := blk_at hb1 w.heap.size (by (try simp) <;> omega)) | (go_at_call 48; (with_reducible refine (hp2.out _).mono ?_); rintro e w2 ⟨rfl, hb2⟩; have hz2 := hb2.size; (try simp at hz2); obtain ⟨hc2, hf2⟩ := blk_at hb2 w.heap.size (by (try simp) <;> omega)) | (go_at_call 67; go_must (refine (hnb.out _).mono ?_; rintro e w3 ⟨rfl, rfl⟩)) | (go_at_call 23; go_must (refine (hln.out _).mono ?_; rintro e w4 ⟨rfl, hb4⟩; have hz4 := hb4.size; (try simp at hz4); obtain ⟨hc4, hf4⟩ := blk_at hb4 w.heap.size (by (try simp) <;> omega))))
  have hb0 : Hid (Below w.heap.size w w4) := Lib.hid (by repeat (first | (with_reducible exact Below.refl _ _) | (with_reducible refine Below.drew ?_) | (with_reducible refine below_drewN ?_ _) | ((with_reducible refine Below.alloc ?_ ?_ _); rotate_left; focus ((try simp) <;> omega)) | ((with_reducible refine Below.setCell ?_ ?_ _); rotate_left; focus ((try simp) <;> omega)) | ((with_reducible refine Below.trans ?_ (Below.mono (by assumption) ?_)); rotate_left; focus ((try simp) <;> omega))))
  go_loopw [3] (fun vi wr => ∃ k : Nat, k ≤ x.ins.length ∧ vi = .int .i64 (k : Int) ∧ (x.ins.take k).all inB = true ∧ wr.cell? ⟨w.heap.size, 4, none⟩ = some (.slice A x.ins.length x.insC) ∧ w.heap.size < wr.heap.size ∧ Below w.heap.size w wr) (fun vi _ => x.ins.length - (intOf vi).toNat)
  case atStart => exact ⟨0, Nat.zero_le _, rfl, rfl, by go_simp, by omega, hb0.out⟩
  case round =>
    obtain ⟨k, hk, rfl, ht, hbox, hzr, hbw⟩ := hrel
    clear hc1 hc2 hc4 hf1 hf2 hf4 hb1 hb2 hb4 hz1 hz2 hz4
    have hz := hbw.size
    by_cases hkl : k < x.ins.length
    · obtain ⟨y, hy⟩ := get_some hkl
      obtain ⟨g, o, rfl, hg, hq⟩ := hrow.out (by omega)
      have q0 := (hbw.cell (p := ⟨g, o + k * 3 + 0, none⟩) hg).trans (hq k y hy 0 (.string y.name.1) rfl)
      rw [Nat.add_zero] at q0
      clear hq
      have i0 : (0 : Int) ≤ (k : Int) := by omega
      have i1 : (k : Int) < (x.ins.length : Int) := by omega
      have hgr : g < wr.heap.size := by omega
      have hys := hins.out y (List.mem_of_getElem? hy)
      have hfi0 := fun W => rfile_any y.name W hys
      have har0 := fun W => rartifact_any y.name W hys
      have hnx := fun h => all_at (p := inB) hy ht h
      have hno := fun h => all_no (p := inB) hy h
      have hib : inB y = ((fileS y.name).isSome || artB y.name) := rfl
      rw [hrt2.out] at hno
      generalize inB y = I at hnx hno hib
      generalize (fileS y.name).isSome = FI at hfi0 hib
      generalize ((fileS y.name).getD ⟨ByteArray.empty, by decide⟩).1 = FQ at hfi0
      generalize artB y.name = AR at har0 hib
      have hfi := Lib.hid hfi0
      have har := Lib.hid har0
      clear hfi0 har0
      replace hy := Lib.hid hy
      replace ht := Lib.hid ht
      rcases FI with _ | _
      · rcases AR with _ | _
        · have hf : Hid (R = false) := Lib.hid (hno (by rw [hib]; rfl))
          clear hnx hno hib
          go_wp2_with (first | (go_at_call 24; go_must (refine (hfi.out _).mono ?_; rintro e w5 ⟨rfl, hb5⟩; have hz5 := hb5.size; (try simp at hz5); obtain ⟨hc5, hf5⟩ := blk_at hb5 w.heap.size (by (try simp) <;> omega); obtain ⟨hd5, he5⟩ := blk_at hb5 g (by (try simp) <;> omega))) | (go_at_call 39; go_must (refine (har.out _).mono ?_; rintro e w6 ⟨rfl, hb6⟩; have hz6 := hb6.size; (try simp at hz6); obtain ⟨hc6, hf6⟩ := blk_at hb6 w.heap.size (by (try simp) <;> omega))))
          go_ret
          exact ⟨by rw [hf.out]; rfl, (by repeat (first | (with_reducible exact Below.refl _ _) | (with_reducible refine Below.drew ?_) | (with_reducible refine below_drewN ?_ _) | ((with_reducible refine Below.alloc ?_ ?_ _); rotate_left; focus ((try simp) <;> omega)) | ((with_reducible refine Below.setCell ?_ ?_ _); rotate_left; focus ((try simp) <;> omega)) | ((with_reducible refine Below.trans ?_ (Below.mono (by assumption) ?_)); rotate_left; focus ((try simp) <;> omega))))⟩
        · have hn2 := Lib.hid (hnx (by rw [hib]; rfl))
          clear hnx hno hib
          go_wp2_with (first | (go_at_call 24; go_must (refine (hfi.out _).mono ?_; rintro e w5 ⟨rfl, hb5⟩; have hz5 := hb5.size; (try simp at hz5); obtain ⟨hc5, hf5⟩ := blk_at hb5 w.heap.size (by (try simp) <;> omega); obtain ⟨hd5, he5⟩ := blk_at hb5 g (by (try simp) <;> omega))) | (go_at_call 39; go_must (refine (har.out _).mono ?_; rintro e w6 ⟨rfl, hb6⟩; have hz6 := hb6.size; (try simp at hz6); obtain ⟨hc6, hf6⟩ := blk_at hb6 w.heap.size (by (try simp) <;> omega))))
          go_roundw
          case rel => exact ⟨k + 1, by omega, by go_num, hn2.out, by go_simp, by omega, (by repeat (first | (with_reducible exact Below.refl _ _) | (with_reducible refine Below.drew ?_) | (with_reducible refine below_drewN ?_ _) | ((with_reducible refine Below.alloc ?_ ?_ _); rotate_left; focus ((try simp) <;> omega)) | ((with_reducible refine Below.setCell ?_ ?_ _); rotate_left; focus ((try simp) <;> omega)) | ((with_reducible refine Below.trans ?_ (Below.mono (by assumption) ?_)); rotate_left; focus ((try simp) <;> omega))))⟩
          case measure => simp [intOf]; omega
      · have hn2 := Lib.hid (hnx (by rw [hib]; rfl))
        clear hnx hno hib
        go_wp2_with (go_at_call 24; go_must (refine (hfi.out _).mono ?_; rintro e w5 ⟨rfl, hb5⟩; have hz5 := hb5.size; (try simp at hz5); obtain ⟨hc5, hf5⟩ := blk_at hb5 w.heap.size (by (try simp) <;> omega); obtain ⟨hd5, he5⟩ := blk_at hb5 g (by (try simp) <;> omega)))
        go_roundw
        case rel => exact ⟨k + 1, by omega, by go_num, hn2.out, by go_simp, by omega, (by repeat (first | (with_reducible exact Below.refl _ _) | (with_reducible refine Below.drew ?_) | (with_reducible refine below_drewN ?_ _) | ((with_reducible refine Below.alloc ?_ ?_ _); rotate_left; focus ((try simp) <;> omega)) | ((with_reducible refine Below.setCell ?_ ?_ _); rotate_left; focus ((try simp) <;> omega)) | ((with_reducible refine Below.trans ?_ (Below.mono (by assumption) ?_)); rotate_left; focus ((try simp) <;> omega))))⟩
        case measure => simp [intOf]; omega
    · have i1 : ¬ (k : Int) < (x.ins.length : Int) := by omega
      have hf : Hid (R = true) := Lib.hid (by rw [← hrt2.out]; rwa [List.take_of_length_le (by omega)] at ht)
      replace ht := Lib.hid ht
      go_wp2_with fail
      go_ret
      exact ⟨by rw [hf.out]; rfl, hbw⟩
/-- The index of a name, as the reference has it. -/
def idxI (ls : List Lnk) (run nm : Str) : Int := if hasL ls run nm = true then (idxL ls run nm : Int) else -1
theorem idxI_hit {ls : List Lnk} {run nm : Str} {k : Nat} {x : Lnk} (hx : ls[k]? = some x) (h : isL run nm x = true) (hf : (ls.take k).all (fun y => !isL run nm y) = true) : idxI ls run nm = (k : Int) := by
  obtain ⟨h1, h2⟩ := idx_first hx h fun j y hj hy => by
    have := List.all_eq_true.1 hf y (List.mem_of_getElem? (i := j) (by rw [List.getElem?_take, if_pos hj]; exact hy))
    simpa using this
  unfold idxI
  rw [if_pos h2, h1]
theorem idxI_miss {ls : List Lnk} {run nm : Str} (hf : ls.all (fun y => !isL run nm y) = true) : idxI ls run nm = -1 := by
  unfold idxI
  rw [if_neg]
  unfold hasL
  rw [List.any_eq_true]
  rintro ⟨x, hx, h⟩
  have := List.all_eq_true.1 hf x hx
  rw [h] at this
  cases this
set_option maxRecDepth 100000 in
set_option maxHeartbeats 4000000 in
theorem rindex_any (A : Option Addr) (c : Nat) (l : List Lkr) (run nm : Str) (w : World) (hr : Rw lkrE 8 w w.heap.size A l) (hn : l.length ≤ 1000000) (hm : ∀ x ∈ l, x.job.1.size + x.name.1.size + 1 ≤ 9223372036854775807) :
    Calls Tryz.prog 38 #[.slice A l.length c, .string run.1, .string nm.1] w fun e w' => e = .returned (.int .i64 (idxI (l.map Lkr.h) run nm)) ∧ Below w.heap.size w w' := by
  obtain ⟨R, hR⟩ : ∃ R, idxI (l.map Lkr.h) run nm = R := ⟨_, rfl⟩
  rw [hR]
  replace hr := Lib.hid hr
  replace hm := Lib.hid hm
  replace hR := Lib.hid hR
  go_enter Tryz.func38, Tryz.ntmps38
  go_wp2_with fail
  go_loopw [7] (fun vi wr => ∃ k : Nat, k ≤ l.length ∧ vi = .int .i64 (k : Int) ∧ ((l.map Lkr.h).take k).all (fun y => !isL run nm y) = true ∧ Below w.heap.size w wr) (fun vi _ => l.length - (intOf vi).toNat)
  case atStart => exact ⟨0, Nat.zero_le _, rfl, rfl, Below.refl _ _⟩
  case round =>
    obtain ⟨k, hk, rfl, ht, hbw⟩ := hrel
    have hz := hbw.size
    by_cases hkl : k < l.length
    · obtain ⟨x, hx⟩ := get_some hkl
      have hxm : (l.map Lkr.h)[k]? = some x.h := by rw [List.getElem?_map, hx]; rfl
      obtain ⟨g, o, rfl, hg, hq⟩ := hr.out (by omega)
      have q0 := (hbw.cell (p := ⟨g, o + k * 8 + 0, none⟩) hg).trans (hq k x hx 0 (.string x.run.1) rfl)
      rw [Nat.add_zero] at q0
      have q1 := (hbw.cell (p := ⟨g, o + k * 8 + 1, none⟩) hg).trans (hq k x hx 1 (.string x.job.1) rfl)
      have q2 := (hbw.cell (p := ⟨g, o + k * 8 + 2, none⟩) hg).trans (hq k x hx 2 (.int .i64 x.attempt.1) rfl)
      have q3 := (hbw.cell (p := ⟨g, o + k * 8 + 3, none⟩) hg).trans (hq k x hx 3 (.int .u64 x.spec.1) rfl)
      have q4 := (hbw.cell (p := ⟨g, o + k * 8 + 4, none⟩) hg).trans (hq k x hx 4 (.slice x.insA x.ins.length x.insC) rfl)
      have q5 := (hbw.cell (p := ⟨g, o + k * 8 + 5, none⟩) hg).trans (hq k x hx 5 (.string x.name.1) rfl)
      have q6 := (hbw.cell (p := ⟨g, o + k * 8 + 6, none⟩) hg).trans (hq k x hx 6 (.int .u64 x.digest.1) rfl)
      have q7 := (hbw.cell (p := ⟨g, o + k * 8 + 7, none⟩) hg).trans (hq k x hx 7 (.int .i64 x.size.1) rfl)
      clear hq
      have i0 : (0 : Int) ≤ (k : Int) := by omega
      have i1 : (k : Int) < (l.length : Int) := by omega
      have hln0 := fun W => rname_any35 x W (hm.out x (List.mem_of_getElem? hx))
      have hip : isL run nm x.h = (decide (x.run = run) && decide (nameL x.h = nm)) := rfl
      rw [← eq_str, ← eq_str] at hip
      have hhit := fun h => idxI_hit (run := run) (nm := nm) hxm h ht
      have hnx : (!isL run nm x.h) = true → ((l.map Lkr.h).take (k + 1)).all (fun y => !isL run nm y) = true := fun h => all_at (p := fun y => !isL run nm y) hxm ht h
      rw [hR.out] at hhit
      rw [hip] at hhit
      rw [hip] at hnx
      generalize nameL x.h = N at hln0 hhit hnx
      have hln := Lib.hid hln0
      clear hln0 hip
      replace hx := Lib.hid hx
      replace hxm := Lib.hid hxm
      replace ht := Lib.hid ht
      rcases h1 : (x.run.1.toList == run.1.toList) with _ | _
      · rw [h1] at hnx
        have hn2 := Lib.hid (hnx rfl)
        clear hnx hhit
        go_wp2_with fail
        go_roundw
        case rel => exact ⟨k + 1, by omega, by go_num, hn2.out, hbw⟩
        case measure => simp [intOf]; omega
      · rw [h1] at hnx hhit
        rcases h2 : (N.1.toList == nm.1.toList) with _ | _
        · rw [h2] at hnx
          have hn2 := Lib.hid (hnx rfl)
          clear hnx hhit
          go_wp2_with (go_at_call 23; go_must (refine (hln.out _).mono ?_; rintro e w2 ⟨rfl, hb2⟩; have hz2 := hb2.size; (try simp at hz2)))
          go_roundw
          case rel => exact ⟨k + 1, by omega, by go_num, hn2.out, (by repeat (first | (with_reducible exact Below.refl _ _) | (with_reducible refine Below.drew ?_) | (with_reducible refine below_drewN ?_ _) | ((with_reducible refine Below.alloc ?_ ?_ _); rotate_left; focus ((try simp) <;> omega)) | ((with_reducible refine Below.setCell ?_ ?_ _); rotate_left; focus ((try simp) <;> omega)) | ((with_reducible refine Below.trans ?_ (Below.mono (by assumption) ?_)); rotate_left; focus ((try simp) <;> omega))))⟩
          case measure => simp [intOf]; omega
        · rw [h2] at hhit
          have hf : Hid (R = (k : Int)) := Lib.hid (hhit rfl)
          clear hnx hhit
          go_wp2_with (go_at_call 23; go_must (refine (hln.out _).mono ?_; rintro e w2 ⟨rfl, hb2⟩; have hz2 := hb2.size; (try simp at hz2)))
          go_ret
          exact ⟨ret_int hf.out.symm, (by repeat (first | (with_reducible exact Below.refl _ _) | (with_reducible refine Below.drew ?_) | (with_reducible refine below_drewN ?_ _) | ((with_reducible refine Below.alloc ?_ ?_ _); rotate_left; focus ((try simp) <;> omega)) | ((with_reducible refine Below.setCell ?_ ?_ _); rotate_left; focus ((try simp) <;> omega)) | ((with_reducible refine Below.trans ?_ (Below.mono (by assumption) ?_)); rotate_left; focus ((try simp) <;> omega))))⟩
    · have i1 : ¬ (k : Int) < (l.length : Int) := by omega
      have hf : Hid (R = -1) := Lib.hid (by rw [← hR.out]; exact idxI_miss (by rwa [List.take_of_length_le (by rw [List.length_map]; omega)] at ht))
      replace ht := Lib.hid ht
      go_wp2_with fail
      go_ret
      exact ⟨ret_int hf.out.symm, hbw⟩
end Go.Proofs.YtjkijknjngiieaaGreatDoor
