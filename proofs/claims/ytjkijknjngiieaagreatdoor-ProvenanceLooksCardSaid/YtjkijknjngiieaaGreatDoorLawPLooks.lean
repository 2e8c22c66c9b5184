/-
  ProvenanceLooks: Find, Sources and Chain return what the reference returns; the example holds. No condition.
-/
import Derived.Test.YtjkijknjngiieaaGreatDoorPrx10
import Derived.Test.YtjkijknjngiieaaGreatDoorBase1
import Derived.Test.YtjkijknjngiieaaGreatDoorLayTab




namespace Go.Proofs.YtjkijknjngiieaaGreatDoor.provenanceLooks
open Go.ChangeShapes Go.WideShapes Go.ChangeAt Go.RowKit Go.Joins
theorem own : ownKnob Tryz.prog.godebug = none := by kernel_rfl
theorem laidOut : laidOutB Tryz.prog = true := by kernel_rfl
open Go.RowKit

set_option maxRecDepth 100000 in
set_option maxHeartbeats 8000000 in
theorem walk (A : Option Addr) (c : Nat) (l : List Lkr) (run nm : Str) (w : World) (hr : RwL w w.heap.size A l) (hlc : l.length ≤ c) (hcm : c ≤ maxLen) (hG : Glob w) :
    Calls Tryz.prog 4 #[.slice A l.length c, .string run.1, .string nm.1] w fun e w' => e = .returned (.bool true) ∧ Below w.heap.size w w' := by
  have hfe0 : ∀ W, Below w.heap.size w W → Calls Tryz.prog 8 #[.slice A l.length c] W fun e w' => e = .returned (.bool (fewB l)) ∧ Below W.heap.size W w' := fun W hb => few_any A c l W ((hr.below hb (Nat.le_refl _)).more hb.size) hlc hcm
  rcases hs : fewB l with _ | _
  · rw [hs] at hfe0
    have hfe := Lib.hid hfe0
    clear hfe0 hr
    replace hG := Lib.hid hG
    replace hs := Lib.hid hs
    go_enter Tryz.func4, Tryz.ntmps4
    go_wp2_with (first | (go_at_call 8; go_must (refine (hfe.out _ (by repeat (first | (with_reducible exact Below.refl _ _) | (with_reducible refine Below.drew ?_) | (with_reducible refine below_drewN ?_ _) | ((with_reducible refine Below.alloc ?_ ?_ _); rotate_left; focus ((try simp) <;> omega)) | ((with_reducible refine Below.setCell ?_ ?_ _); rotate_left; focus ((try simp) <;> omega)) | ((with_reducible refine Below.trans ?_ (Below.mono (by assumption) ?_)); rotate_left; focus ((try simp) <;> omega))))).mono ?_; rintro e w1 ⟨rfl, hb1⟩; have hz1 := hb1.size; (try simp at hz1))) | (go_at_call 10; go_must (refine (awake_any _ (hG.out.keep (by repeat (first | (with_reducible exact Below.refl _ _) | (with_reducible refine Below.drew ?_) | (with_reducible refine below_drewN ?_ _) | ((with_reducible refine Below.alloc ?_ ?_ _); rotate_left; focus ((try simp) <;> omega)) | ((with_reducible refine Below.setCell ?_ ?_ _); rotate_left; focus ((try simp) <;> omega)) | ((with_reducible refine Below.trans ?_ (Below.mono (by assumption) ?_)); rotate_left; focus ((try simp) <;> omega)))))).mono ?_; rintro e w9 ⟨rfl, hb9⟩; have hz9 := hb9.size)))
    go_ret
    exact ⟨rfl, (by repeat (first | (with_reducible exact Below.refl _ _) | (with_reducible refine Below.drew ?_) | (with_reducible refine below_drewN ?_ _) | ((with_reducible refine Below.alloc ?_ ?_ _); rotate_left; focus ((try simp) <;> omega)) | ((with_reducible refine Below.setCell ?_ ?_ _); rotate_left; focus ((try simp) <;> omega)) | ((with_reducible refine Below.trans ?_ (Below.mono (by assumption) ?_)); rotate_left; focus ((try simp) <;> omega))))⟩
  rw [hs] at hfe0
  have hfe := Lib.hid hfe0
  clear hfe0
  by_cases h1 : 600 < run.1.size
  · have h1z : (600 : Int) < (run.1.size : Int) := by omega
    clear hr
    replace hG := Lib.hid hG
    replace hs := Lib.hid hs
    go_enter Tryz.func4, Tryz.ntmps4
    go_wp2_with (first | (go_at_call 8; go_must (refine (hfe.out _ (by repeat (first | (with_reducible exact Below.refl _ _) | (with_reducible refine Below.drew ?_) | (with_reducible refine below_drewN ?_ _) | ((with_reducible refine Below.alloc ?_ ?_ _); rotate_left; focus ((try simp) <;> omega)) | ((with_reducible refine Below.setCell ?_ ?_ _); rotate_left; focus ((try simp) <;> omega)) | ((with_reducible refine Below.trans ?_ (Below.mono (by assumption) ?_)); rotate_left; focus ((try simp) <;> omega))))).mono ?_; rintro e w1 ⟨rfl, hb1⟩; have hz1 := hb1.size; (try simp at hz1))) | (go_at_call 10; go_must (refine (awake_any _ (hG.out.keep (by repeat (first | (with_reducible exact Below.refl _ _) | (with_reducible refine Below.drew ?_) | (with_reducible refine below_drewN ?_ _) | ((with_reducible refine Below.alloc ?_ ?_ _); rotate_left; focus ((try simp) <;> omega)) | ((with_reducible refine Below.setCell ?_ ?_ _); rotate_left; focus ((try simp) <;> omega)) | ((with_reducible refine Below.trans ?_ (Below.mono (by assumption) ?_)); rotate_left; focus ((try simp) <;> omega)))))).mono ?_; rintro e w9 ⟨rfl, hb9⟩; have hz9 := hb9.size)))
    go_ret
    exact ⟨rfl, (by repeat (first | (with_reducible exact Below.refl _ _) | (with_reducible refine Below.drew ?_) | (with_reducible refine below_drewN ?_ _) | ((with_reducible refine Below.alloc ?_ ?_ _); rotate_left; focus ((try simp) <;> omega)) | ((with_reducible refine Below.setCell ?_ ?_ _); rotate_left; focus ((try simp) <;> omega)) | ((with_reducible refine Below.trans ?_ (Below.mono (by assumption) ?_)); rotate_left; focus ((try simp) <;> omega))))⟩
  have h1z : ¬ (600 : Int) < (run.1.size : Int) := by omega
  by_cases h2 : 1300 < nm.1.size
  · have h2z : (1300 : Int) < (nm.1.size : Int) := by omega
    clear hr
    replace hG := Lib.hid hG
    replace hs := Lib.hid hs
    go_enter Tryz.func4, Tryz.ntmps4
    go_wp2_with (first | (go_at_call 8; go_must (refine (hfe.out _ (by repeat (first | (with_reducible exact Below.refl _ _) | (with_reducible refine Below.drew ?_) | (with_reducible refine below_drewN ?_ _) | ((with_reducible refine Below.alloc ?_ ?_ _); rotate_left; focus ((try simp) <;> omega)) | ((with_reducible refine Below.setCell ?_ ?_ _); rotate_left; focus ((try simp) <;> omega)) | ((with_reducible refine Below.trans ?_ (Below.mono (by assumption) ?_)); rotate_left; focus ((try simp) <;> omega))))).mono ?_; rintro e w1 ⟨rfl, hb1⟩; have hz1 := hb1.size; (try simp at hz1))) | (go_at_call 10; go_must (refine (awake_any _ (hG.out.keep (by repeat (first | (with_reducible exact Below.refl _ _) | (with_reducible refine Below.drew ?_) | (with_reducible refine below_drewN ?_ _) | ((with_reducible refine Below.alloc ?_ ?_ _); rotate_left; focus ((try simp) <;> omega)) | ((with_reducible refine Below.setCell ?_ ?_ _); rotate_left; focus ((try simp) <;> omega)) | ((with_reducible refine Below.trans ?_ (Below.mono (by assumption) ?_)); rotate_left; focus ((try simp) <;> omega)))))).mono ?_; rintro e w9 ⟨rfl, hb9⟩; have hz9 := hb9.size)))
    go_ret
    exact ⟨rfl, (by repeat (first | (with_reducible exact Below.refl _ _) | (with_reducible refine Below.drew ?_) | (with_reducible refine below_drewN ?_ _) | ((with_reducible refine Below.alloc ?_ ?_ _); rotate_left; focus ((try simp) <;> omega)) | ((with_reducible refine Below.setCell ?_ ?_ _); rotate_left; focus ((try simp) <;> omega)) | ((with_reducible refine Below.trans ?_ (Below.mono (by assumption) ?_)); rotate_left; focus ((try simp) <;> omega))))⟩
  have h2z : ¬ (1300 : Int) < (nm.1.size : Int) := by omega
  obtain ⟨hm, hl14⟩ := few_mildL hs
  obtain ⟨B, hB⟩ : ∃ B, hasL (l.map Lkr.h) run nm = B := ⟨_, rfl⟩
  obtain ⟨S, hS⟩ : ∃ S, srt (srcL (l.map Lkr.h) run nm) = S := ⟨_, rfl⟩
  have hff : Hid (∀ y : Lkr, y.h = findL (l.map Lkr.h) run nm → y.ins.length ≤ 1000000) := Lib.hid fun y hy => by
    have e : y.ins = (findL (l.map Lkr.h) run nm).ins := congrArg Lnk.ins hy
    rw [e]
    unfold findL
    split
    · rename_i hh
      obtain ⟨z, hz, -, -⟩ := has_at2 hh
      rw [get_bang hz]
      obtain ⟨u, hu, e2⟩ := List.mem_map.1 (List.mem_of_getElem? hz)
      rw [← e2]
      exact (hm.each u hu).len
    · exact Nat.zero_le _
  have hfi : Hid (∀ W, Below w.heap.size w W → Calls Tryz.prog 14 #[.slice A l.length c, .string run.1, .string nm.1] W fun e w' => ∃ y : Lkr, e = .returned (.tuple #[.agg #[.string y.run.1, .string y.job.1, .int .i64 y.attempt.1, .int .u64 y.spec.1, .slice y.insA y.ins.length y.insC, .string y.name.1, .int .u64 y.digest.1, .int .i64 y.size.1], .bool B]) ∧ y.h = findL (l.map Lkr.h) run nm ∧ LabLkr w' w'.heap.size y ∧ Below W.heap.size W w') := Lib.hid fun W hb => by
    have h := find_any A c l run nm W ((hr.below hb (Nat.le_refl _)).more hb.size) hm
    rwa [hB] at h
  have hrf : Hid (∀ W, Below w.heap.size w W → Calls Tryz.prog 15 #[.slice A l.length c, .string run.1, .string nm.1] W fun e w' => ∃ y : Lkr, e = .returned (.tuple #[.agg #[.string y.run.1, .string y.job.1, .int .i64 y.attempt.1, .int .u64 y.spec.1, .slice y.insA y.ins.length y.insC, .string y.name.1, .int .u64 y.digest.1, .int .i64 y.size.1], .bool B]) ∧ y.h = findL (l.map Lkr.h) run nm ∧ LabLkr w' w'.heap.size y ∧ Below W.heap.size W w') := Lib.hid fun W hb => by
    have h := rfind_any A c l run nm W ((hr.below hb (Nat.le_refl _)).more hb.size) hm
    rwa [hB] at h
  have hso : Hid (∀ W, Below w.heap.size w W → Calls Tryz.prog 16 #[.slice A l.length c, .string run.1, .string nm.1] W fun e w' => ∃ A' c', e = .returned (.slice A' S.length c') ∧ Rw sE 1 w' w'.heap.size A' S ∧ Below W.heap.size W w') := Lib.hid fun W hb => by
    have h := sources_any A c l run nm W ((hr.below hb (Nat.le_refl _)).more hb.size) hm (hG.keep hb)
    rwa [hS] at h
  have hrs : Hid (∀ W, Below w.heap.size w W → Calls Tryz.prog 17 #[.slice A l.length c, .string run.1, .string nm.1] W fun e w' => ∃ A' c', e = .returned (.slice A' S.length c') ∧ Rw sE 1 w' w'.heap.size A' S ∧ Below W.heap.size W w') := Lib.hid fun W hb => by
    have h := rsources_any A c l run nm W ((hr.below hb (Nat.le_refl _)).more hb.size) hm
    rwa [hS] at h
  have hch : Hid (∀ W, Below w.heap.size w W → Calls Tryz.prog 19 #[.slice A l.length c, .string run.1, .string nm.1] W fun e w' => ∃ A' c' l', e = .returned (.slice A' l'.length c') ∧ RwL w' w'.heap.size A' l' ∧ l'.map Lkr.h = chainL (l.map Lkr.h) run nm ∧ Below W.heap.size W w') := Lib.hid fun W hb => (chain_any A c l run nm W ((hr.below hb (Nat.le_refl _)).more hb.size) hm (hG.keep hb)).mono fun e w' ⟨A', c', l', h1, h2, h3, h4⟩ => ⟨A', c', l', h1, h2.reads, h3, h4⟩
  have hrc : Hid (∀ W, Below w.heap.size w W → Calls Tryz.prog 20 #[.slice A l.length c, .string run.1, .string nm.1] W fun e w' => ∃ A' c' l', e = .returned (.slice A' l'.length c') ∧ RwL w' w'.heap.size A' l' ∧ (l'.length ≤ l.length ∧ l'.map Lkr.h = chainL (l.map Lkr.h) run nm ∧ ∀ x ∈ l', x ∈ l) ∧ Below W.heap.size W w') := Lib.hid fun W hb => (rchain_any A c l run nm W ((hr.below hb (Nat.le_refl _)).more hb.size) hm).mono fun e w' ⟨A', c', l', h1, h2, h3, h4, h5, h6⟩ => ⟨A', c', l', h1, h2, ⟨h3, h4, h5⟩, h6⟩
  have hml : Hid (∀ l3 : List Lkr, l3.map Lkr.h = chainL (l.map Lkr.h) run nm → MildL l3) := Lib.hid fun l3 e3 => chain_mild hm e3
  have hSl : S.length ≤ 14000000 := by
    have h := src_len (run := run) (nm := nm) hm
    rw [hS] at h
    omega
  clear hr hm
  have hbb : (B == B) = true := by simp
  replace hG := Lib.hid hG
  replace hs := Lib.hid hs
  replace hB := Lib.hid hB
  replace hS := Lib.hid hS
  go_enter Tryz.func4, Tryz.ntmps4
  go_wp2_with (first
    | (go_at_call 8; go_must (refine (hfe.out _ (by repeat (first | (with_reducible exact Below.refl _ _) | (with_reducible refine Below.drew ?_) | (with_reducible refine below_drewN ?_ _) | ((with_reducible refine Below.alloc ?_ ?_ _); rotate_left; focus ((try simp) <;> omega)) | ((with_reducible refine Below.setCell ?_ ?_ _); rotate_left; focus ((try simp) <;> omega)) | ((with_reducible refine Below.trans ?_ (Below.mono (by assumption) ?_)); rotate_left; focus ((try simp) <;> omega))))).mono ?_; rintro e w1 ⟨rfl, hb1⟩; have hz1 := hb1.size; (try simp at hz1)))
    | (go_at_call 14; go_must (refine (hfi.out _ (by repeat (first | (with_reducible exact Below.refl _ _) | (with_reducible refine Below.drew ?_) | (with_reducible refine below_drewN ?_ _) | ((with_reducible refine Below.alloc ?_ ?_ _); rotate_left; focus ((try simp) <;> omega)) | ((with_reducible refine Below.setCell ?_ ?_ _); rotate_left; focus ((try simp) <;> omega)) | ((with_reducible refine Below.trans ?_ (Below.mono (by assumption) ?_)); rotate_left; focus ((try simp) <;> omega))))).mono ?_; rintro e w2 ⟨y2, rfl, hy2, hly2, hb2⟩; have hz2 := hb2.size; (try simp at hz2); replace hy2 := Lib.hid hy2; replace hly2 := Lib.hid hly2))
    | (go_at_call 15; go_must (refine (hrf.out _ (by repeat (first | (with_reducible exact Below.refl _ _) | (with_reducible refine Below.drew ?_) | (with_reducible refine below_drewN ?_ _) | ((with_reducible refine Below.alloc ?_ ?_ _); rotate_left; focus ((try simp) <;> omega)) | ((with_reducible refine Below.setCell ?_ ?_ _); rotate_left; focus ((try simp) <;> omega)) | ((with_reducible refine Below.trans ?_ (Below.mono (by assumption) ?_)); rotate_left; focus ((try simp) <;> omega))))).mono ?_; rintro e w3 ⟨y3, rfl, hy3, hly3, hb3⟩; have hz3 := hb3.size; (try simp at hz3); obtain ⟨hu3, hv3⟩ := blk_at hb3 w2.heap.size (by (try simp) <;> omega); replace hy3 := Lib.hid hy3; replace hly3 := Lib.hid hly3))
    | (go_at_call 16; go_must (refine (hso.out _ (by repeat (first | (with_reducible exact Below.refl _ _) | (with_reducible refine Below.drew ?_) | (with_reducible refine below_drewN ?_ _) | ((with_reducible refine Below.alloc ?_ ?_ _); rotate_left; focus ((try simp) <;> omega)) | ((with_reducible refine Below.setCell ?_ ?_ _); rotate_left; focus ((try simp) <;> omega)) | ((with_reducible refine Below.trans ?_ (Below.mono (by assumption) ?_)); rotate_left; focus ((try simp) <;> omega))))).mono ?_; rintro e w4 ⟨A4, c4, rfl, hr4, hb4⟩; have hz4 := hb4.size; (try simp at hz4); obtain ⟨hu4, hv4⟩ := blk_at hb4 w2.heap.size (by (try simp) <;> omega); obtain ⟨hw4, hx4⟩ := blk_at hb4 w3.heap.size (by (try simp) <;> omega); replace hr4 := Lib.hid hr4))
    | (go_at_call 17; go_must (refine (hrs.out _ (by repeat (first | (with_reducible exact Below.refl _ _) | (with_reducible refine Below.drew ?_) | (with_reducible refine below_drewN ?_ _) | ((with_reducible refine Below.alloc ?_ ?_ _); rotate_left; focus ((try simp) <;> omega)) | ((with_reducible refine Below.setCell ?_ ?_ _); rotate_left; focus ((try simp) <;> omega)) | ((with_reducible refine Below.trans ?_ (Below.mono (by assumption) ?_)); rotate_left; focus ((try simp) <;> omega))))).mono ?_; rintro e w5 ⟨A5, c5, rfl, hr5, hb5⟩; have hz5 := hb5.size; (try simp at hz5); obtain ⟨hu5, hv5⟩ := blk_at hb5 w2.heap.size (by (try simp) <;> omega); obtain ⟨hw5, hx5⟩ := blk_at hb5 w3.heap.size (by (try simp) <;> omega); replace hr5 := Lib.hid hr5)))
  have hbI : Hid (Below w.heap.size w w5) := Lib.hid (by repeat (first | (with_reducible exact Below.refl _ _) | (with_reducible refine Below.drew ?_) | (with_reducible refine below_drewN ?_ _) | ((with_reducible refine Below.alloc ?_ ?_ _); rotate_left; focus ((try simp) <;> omega)) | ((with_reducible refine Below.setCell ?_ ?_ _); rotate_left; focus ((try simp) <;> omega)) | ((with_reducible refine Below.trans ?_ (Below.mono (by assumption) ?_)); rotate_left; focus ((try simp) <;> omega))))
  have hr4b : Hid (Rw sE 1 w5 w5.heap.size A4 S) := Lib.hid ((hr4.out.below hb5 (by omega)).more hb5.size)
  have hly2b : Hid (LabLkr w5 w5.heap.size y2) := Lib.hid ((hly2.out.below (C := w2.heap.size) (w' := w5) (by repeat (first | (with_reducible exact Below.refl _ _) | (with_reducible refine Below.drew ?_) | (with_reducible refine below_drewN ?_ _) | ((with_reducible refine Below.alloc ?_ ?_ _); rotate_left; focus ((try simp) <;> omega)) | ((with_reducible refine Below.setCell ?_ ?_ _); rotate_left; focus ((try simp) <;> omega)) | ((with_reducible refine Below.trans ?_ (Below.mono (by assumption) ?_)); rotate_left; focus ((try simp) <;> omega)))) (Nat.le_refl _)).more (by omega))
  have hly3b : Hid (LabLkr w5 w5.heap.size y3) := Lib.hid ((hly3.out.below (C := w3.heap.size) (w' := w5) (by repeat (first | (with_reducible exact Below.refl _ _) | (with_reducible refine Below.drew ?_) | (with_reducible refine below_drewN ?_ _) | ((with_reducible refine Below.alloc ?_ ?_ _); rotate_left; focus ((try simp) <;> omega)) | ((with_reducible refine Below.setCell ?_ ?_ _); rotate_left; focus ((try simp) <;> omega)) | ((with_reducible refine Below.trans ?_ (Below.mono (by assumption) ?_)); rotate_left; focus ((try simp) <;> omega)))) (Nat.le_refl _)).more (by omega))
  have hk3 : w2.heap.size < w3.heap.size := by omega
  have hB0 : Hid (w5.cell? ⟨w2.heap.size, 0, none⟩ = some (.string y2.run.1) ∧ w5.cell? ⟨w2.heap.size, 1, none⟩ = some (.string y2.job.1) ∧ w5.cell? ⟨w2.heap.size, 2, none⟩ = some (.int .i64 y2.attempt.1) ∧ w5.cell? ⟨w2.heap.size, 3, none⟩ = some (.int .u64 y2.spec.1) ∧ w5.cell? ⟨w2.heap.size, 4, none⟩ = some (.slice y2.insA y2.ins.length y2.insC) ∧ w5.cell? ⟨w2.heap.size, 5, none⟩ = some (.string y2.name.1) ∧ w5.cell? ⟨w2.heap.size, 6, none⟩ = some (.int .u64 y2.digest.1) ∧ w5.cell? ⟨w2.heap.size, 7, none⟩ = some (.int .i64 y2.size.1)) := Lib.hid ⟨by go_simp, by go_simp, by go_simp, by go_simp, by go_simp, by go_simp, by go_simp, by go_simp⟩
  have hB1 : Hid (w5.cell? ⟨w3.heap.size, 0, none⟩ = some (.string y3.run.1) ∧ w5.cell? ⟨w3.heap.size, 1, none⟩ = some (.string y3.job.1) ∧ w5.cell? ⟨w3.heap.size, 2, none⟩ = some (.int .i64 y3.attempt.1) ∧ w5.cell? ⟨w3.heap.size, 3, none⟩ = some (.int .u64 y3.spec.1) ∧ w5.cell? ⟨w3.heap.size, 4, none⟩ = some (.slice y3.insA y3.ins.length y3.insC) ∧ w5.cell? ⟨w3.heap.size, 5, none⟩ = some (.string y3.name.1) ∧ w5.cell? ⟨w3.heap.size, 6, none⟩ = some (.int .u64 y3.digest.1) ∧ w5.cell? ⟨w3.heap.size, 7, none⟩ = some (.int .i64 y3.size.1)) := Lib.hid ⟨by go_simp, by go_simp, by go_simp, by go_simp, by go_simp, by go_simp, by go_simp, by go_simp⟩
  have hx2 : w2.heap.size < w5.heap.size := by omega
  have hx3 : w3.heap.size < w5.heap.size := by omega
  clear hu3 hv3 hu4 hv4 hw4 hx4 hu5 hv5 hw5 hx5 hb1 hb2 hb3 hb4 hb5 hz1 hz2 hz3 hz4 hz5 hr4 hly2 hly3
  go_loopw [13] (fun vi wr => ∃ k : Nat, k ≤ S.length ∧ vi = .int .i64 (k : Int) ∧ Below w5.heap.size w5 wr) (fun vi _ => S.length - (intOf vi).toNat)
  case atStart => exact ⟨0, Nat.zero_le _, rfl, Below.refl _ _⟩
  case round =>
    obtain ⟨k, hk, rfl, hbw⟩ := hrel
    have hz := hbw.size
    by_cases hkl : k < S.length
    · obtain ⟨s, hsk⟩ := get_some hkl
      obtain ⟨g, o, rfl, hg, hq⟩ := hr4b.out (by omega)
      obtain ⟨g2, o2, rfl, hg2, hq2⟩ := hr5.out (by omega)
      have q0 := (hbw.cell (p := ⟨g, o + k * 1 + 0, none⟩) hg).trans (hq k s hsk 0 (.string s.1) rfl)
      have q1 := (hbw.cell (p := ⟨g2, o2 + k * 1 + 0, none⟩) hg2).trans (hq2 k s hsk 0 (.string s.1) rfl)
      rw [Nat.add_zero, Nat.mul_one] at q0 q1
      clear hq hq2
      have i0 : (0 : Int) ≤ (k : Int) := by omega
      have i1 : (k : Int) < (S.length : Int) := by omega
      replace hsk := Lib.hid hsk
      go_wp2_with fail
      go_quiet (fail)
      go_wp2_with fail
      go_roundw
      case rel => exact ⟨k + 1, by omega, by go_num, (by repeat (first | (with_reducible exact Below.refl _ _) | (with_reducible refine Below.drew ?_) | (with_reducible refine below_drewN ?_ _) | ((with_reducible refine Below.alloc ?_ ?_ _); rotate_left; focus ((try simp) <;> omega)) | ((with_reducible refine Below.setCell ?_ ?_ _); rotate_left; focus ((try simp) <;> omega)) | ((with_reducible refine Below.trans ?_ (Below.mono (by assumption) ?_)); rotate_left; focus ((try simp) <;> omega))))⟩
      case measure => simp [intOf]; omega
    · have i1 : ¬ (k : Int) < (S.length : Int) := by omega
      obtain ⟨m0, m1, m2, m3, m4, m5, m6, m7⟩ := hB0.out
      obtain ⟨n0, n1, n2, n3, n4, n5, n6, n7⟩ := hB1.out
      obtain ⟨hu5, hv5⟩ := blk_at hbw w2.heap.size hx2
      obtain ⟨hw5, hx5⟩ := blk_at hbw w3.heap.size hx3
      clear hB0 hB1
      have hbW : Hid (Below w.heap.size w wr) := Lib.hid (hbI.out.trans (hbw.mono hbI.out.size))
      have hsl := Lib.hid (samelink_eq y2 y3 wr ((hly2b.out.below hbw (Nat.le_refl _)).more hz) ((hly3b.out.below hbw (Nat.le_refl _)).more hz) (hy2.out.trans hy3.out.symm) (hff.out y2 hy2.out))
      have hbw1 := hbW.out
      have hzw := hbw1.size
      replace hbw := Lib.hid hbw
      go_wp2_with (first
        | (go_at_call 18; go_must (refine hsl.out.mono ?_; rintro e w6 ⟨rfl, hb6⟩; have hz6 := hb6.size))
        | (go_at_call 19; go_must (refine (hch.out _ (by repeat (first | (with_reducible exact Below.refl _ _) | (with_reducible refine Below.drew ?_) | (with_reducible refine below_drewN ?_ _) | ((with_reducible refine Below.alloc ?_ ?_ _); rotate_left; focus ((try simp) <;> omega)) | ((with_reducible refine Below.setCell ?_ ?_ _); rotate_left; focus ((try simp) <;> omega)) | ((with_reducible refine Below.trans ?_ (Below.mono (by assumption) ?_)); rotate_left; focus ((try simp) <;> omega))))).mono ?_; rintro e w7 ⟨A7, c7, l7, rfl, hr7, hm7, hb7⟩; have hz7 := hb7.size; replace hr7 := Lib.hid hr7; replace hm7 := Lib.hid hm7))
        | (go_at_call 20; go_must (refine (hrc.out _ (by repeat (first | (with_reducible exact Below.refl _ _) | (with_reducible refine Below.drew ?_) | (with_reducible refine below_drewN ?_ _) | ((with_reducible refine Below.alloc ?_ ?_ _); rotate_left; focus ((try simp) <;> omega)) | ((with_reducible refine Below.setCell ?_ ?_ _); rotate_left; focus ((try simp) <;> omega)) | ((with_reducible refine Below.trans ?_ (Below.mono (by assumption) ?_)); rotate_left; focus ((try simp) <;> omega))))).mono ?_; rintro e w8 ⟨A8, c8, l8, rfl, hr8, hm8, hb8⟩; have hz8 := hb8.size; replace hr8 := Lib.hid hr8; replace hm8 := Lib.hid hm8))
        | (go_at_call 13; go_must (refine (samelinks_eq A7 A8 c7 c8 l7 l8 _ ((hr7.out.below hb8 (by omega)).more hb8.size) hr8.out (hm7.out.trans hm8.out.2.1.symm) (hml.out _ hm7.out)).mono ?_; rintro e w9 ⟨rfl, hb9⟩; have hz9 := hb9.size))
        | (go_at_call 10; go_must (refine (awake_any _ (hG.out.keep (by repeat (first | (with_reducible exact Below.refl _ _) | (with_reducible refine Below.drew ?_) | (with_reducible refine below_drewN ?_ _) | ((with_reducible refine Below.alloc ?_ ?_ _); rotate_left; focus ((try simp) <;> omega)) | ((with_reducible refine Below.setCell ?_ ?_ _); rotate_left; focus ((try simp) <;> omega)) | ((with_reducible refine Below.trans ?_ (Below.mono (by assumption) ?_)); rotate_left; focus ((try simp) <;> omega)))))).mono ?_; rintro e w10 ⟨rfl, hb10⟩; have hz10 := hb10.size)))
      go_ret
      exact ⟨rfl, (by repeat (first | (with_reducible exact Below.refl _ _) | (with_reducible refine Below.drew ?_) | (with_reducible refine below_drewN ?_ _) | ((with_reducible refine Below.alloc ?_ ?_ _); rotate_left; focus ((try simp) <;> omega)) | ((with_reducible refine Below.setCell ?_ ?_ _); rotate_left; focus ((try simp) <;> omega)) | ((with_reducible refine Below.trans ?_ (Below.mono (by assumption) ?_)); rotate_left; focus ((try simp) <;> omega))))⟩

/-- A world for the witness: the settled one, the listed tables holding what their initialisers lay. -/
noncomputable def laidWorld (os : Os) : World :=
  { World.holding Tryz.prog os ⟨#[], #[], []⟩ with heap := layAll Tryz.prog Rows.provenanceLooksRow.laid (World.holding Tryz.prog os ⟨#[], #[], []⟩).heap }
theorem laid_met (os : Os) : laidMet Tryz.prog Rows.provenanceLooksRow.laid ((laidWorld os).forCall (fun _ _ => 0) ⟨#[], #[.slice none 0 0, .string ByteArray.empty, .string ByteArray.empty], []⟩).memory :=
  laidMet_of_run' 8 (by kernel_rfl) (by kernel_rfl)
theorem reads (os : Os) {H : Type} (enc : TypeId × Value → H) : ∃ places, DataW.whole enc Tryz.prog ((laidWorld os).forCall (fun _ _ => 0) ⟨#[], #[.slice none 0 0, .string ByteArray.empty, .string ByteArray.empty], []⟩).memory Tryz.f4.params.toList Rows.provenanceLooksSpec.vars false (#[.slice none 0 0, .string ByteArray.empty, .string ByteArray.empty] : Array Value).toList 8 = some ([.nil, .lit (.string []), .lit (.string [])], [], places) :=
  ⟨[], by kernel_rfl⟩

set_option maxRecDepth 100000 in
theorem contract (H : Type) (enc : TypeId × Value → H) (W : World) (base : Nat) (args : Array Value) (ds gs : List (DataW H)) (before : List MemPlace)
    (hval : ∀ (j : Nat) t v, Tryz.f4.params[j]? = some t → args[j]? = some v → Value.okWide Tryz.prog W .any base t v)
    (hW : DataW.Whole enc Tryz.prog Tryz.f4.params.toList Rows.provenanceLooksSpec.vars false W args.toList ds gs before) (hsh : W.ShapedOpen Tryz.prog) :
    Calls Tryz.prog 4 args W fun e W' => ∃ v, e = .returned v ∧ Rows.provenanceLooksSpec.post enc Tryz.prog Tryz.f4 false true false false W args v W' := by
  have hG : Glob W := cell_of_shapedOpen_int (P := Tryz.prog) (g := 0) (t := 3) (zero := #[.int .i64 0]) hsh (of_decide_eq_true (by kernel_rfl)) (by kernel_rfl) rfl (by kernel_rfl) (by kernel_rfl) Tryz.underlying3
  have hW' := hW
  obtain ⟨p, q, hA0, hV, rfl, hfz, hnd⟩ := hW
  have hA : DataW.TrodAll enc Tryz.prog W 0 (fun _ => true) true Tryz.f4.params.toList args.toList ds p := hA0
  have hA1 := hA
  rw [Tryz.params4] at hA hval
  obtain ⟨rfl, rfl⟩ := trodVars_none hV
  simp only [List.append_nil] at hW'
  have hcall : Calls Tryz.prog 4 args W fun e w' => e = .returned (.bool true) ∧ Below W.heap.size W w' := by
    clear hA0 hV hfz hnd
    obtain ⟨v0, vs0, d0, ds0, p0, q0, hargs, rfl, rfl, h0, r0⟩ := trodAll_cons hA
    obtain ⟨v1, vs1, d1, ds1, p1, q1, hargs1, rfl, rfl, h1, r1⟩ := trodAll_cons r0
    obtain ⟨v2, vs2, d2, ds2, p2, q2, hargs2, rfl, rfl, h2, r2⟩ := trodAll_cons r1
    obtain ⟨rfl, rfl, rfl⟩ := trodAll_nil r2
    obtain rfl : args = #[v0, v1, v2] := by cases args; simp_all
    obtain ⟨A, l, c, rfl, hlc, hcm, hrow, hlab⟩ := open_rowsq (Q := fun x : Lkr => LabLkr W W.heap.size x) lkrE_len (by omega) Tryz.underlying22 (by kernel_rfl) (fun fuel cs x h => lkrE_of fuel cs x h) (hval 0 22 v0 rfl rfl) h0
    obtain ⟨z, rfl, rfl, rfl, y⟩ := Go.ChangeMaps.open_string Tryz.underlying9 (hval 1 9 v1 rfl rfl) h1
    obtain ⟨z2, rfl, rfl, rfl, y2⟩ := Go.ChangeMaps.open_string Tryz.underlying9 (hval 2 9 v2 rfl rfl) h2
    exact walk A c l ⟨z, y⟩ ⟨z2, y2⟩ W ⟨hrow, hlab⟩ hlc hcm hG
  have hds : ds.length = 3 := (trodAll_length hA).1
  refine hcall.mono fun e W' ⟨he, hb⟩ => ?_
  subst he
  refine ⟨_, rfl, law_post hW' rfl hA1 (by kernel_rfl) laidOut Tryz.underlying4 (by kernel_rfl) ?_ hb⟩
  match ds, hds with
  | [_, _, _], _ => rfl

set_option maxRecDepth 100000 in
theorem lifted (os : Os) (started : os.Started) (H : Type) (enc : TypeId × Value → H) (F : Stop.Interp) :
    ReturnsInHanded {} Tryz.checked os 4 .any ((OpenSpec.ofChange Rows.provenanceLooksSpec).preRow enc Tryz.prog Tryz.f4 Rows.provenanceLooksRow.domain false Rows.provenanceLooksRow.laid) (((OpenSpec.ofChange Rows.provenanceLooksSpec).at F).post enc Tryz.prog Tryz.f4 false true false false) := by
  obtain ⟨places, hx⟩ := reads os enc
  refine returnsInHanded_of_row (C := Tryz.checked) (s := OpenSpec.ofChange Rows.provenanceLooksSpec) own started (by kernel_rfl) Tryz.func4
    (witness_row_at (enc := enc) (C := Tryz.checked) false (laidWorld os) #[.slice none 0 0, .string ByteArray.empty, .string ByteArray.empty] rfl (by kernel_rfl) (by kernel_rfl) (by kernel_rfl)
      (OpenSpec.preRow_of_cond 8 hx (by kernel_rfl) (fun k hk => by cases hk) (by kernel_rfl) (laid_met os))) ?_
  intro W base args ds gs before hval hW _ _ _ _ hsh _
  exact contract H enc W base args ds gs before hval hW hsh

theorem said : Rows.ProvenanceLooksSaid :=
  OpenClaim.holds_of_cond 4 Tryz.f4 rfl rfl rfl rfl rfl rfl rfl ⟨rfl, rfl, rfl, rfl, rfl⟩ rfl rfl rfl rfl rfl (by kernel_rfl) Tryz.func4 (by kernel_rfl)
    (of_decide_eq_true (by kernel_rfl)) (by unfold Func.isWrapper; first | (rw [if_pos (by decide +kernel)]; kernel_rfl) | (rw [if_neg (by decide +kernel)]; exact ⟨rfl, rfl⟩))
    (fun os started H enc _ F => by rw [OpenClaim.pre_eq_preRow]; exact lifted os started H enc F)

theorem plain (f : FuncId) (fn : Func) (hf : Tryz.pinned.checked.prog.funcNamed Rows.provenanceLooksRow.func = some f) (hfn : Tryz.pinned.checked.prog.funcs[f]? = some fn) :
    false = Tryz.pinned.checked.prog.looks [] ∧ ∀ (j : Nat) t, fn.params[j]? = some t → Tryz.pinned.checked.prog.wantsStandIn t = false := by
  obtain rfl : f = 4 := Option.some.inj ((show Tryz.prog.funcNamed Rows.provenanceLooksRow.func = some 4 by kernel_rfl).symm.trans hf) |>.symm
  obtain rfl : fn = Tryz.f4 := (Option.some.inj (Tryz.func4.symm.trans hfn)).symm
  refine ⟨by kernel_rfl, fun j t ht => ?_⟩
  have hall : (Tryz.f4.params.toList.all fun t => !(Tryz.pinned.checked.prog.wantsStandIn t)) = true := by kernel_rfl
  have hm : t ∈ Tryz.f4.params.toList := Array.mem_toList_iff.2 (Array.mem_of_getElem? ht)
  simpa using List.all_eq_true.1 hall t hm

theorem proved : Rows.ProvenanceLooksCardSaid :=
  Claim7.holds_tied_plain_at .later [] _ _ _ _ said (fun _ h => by cases h) (by kernel_rfl) (fun _ h => by cases h) provenanceLooks_row_tie rfl ⟨rfl, rfl⟩ (by kernel_rfl) rfl plain (by kernel_rfl)
#print axioms proved
end Go.Proofs.YtjkijknjngiieaaGreatDoor.provenanceLooks
