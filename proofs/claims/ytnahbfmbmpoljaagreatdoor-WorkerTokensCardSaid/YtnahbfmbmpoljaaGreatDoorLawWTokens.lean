/-
  WorkerTokens: for every worker (with few and short labels) and every token, the worker with the lease recorded, the error, and the worker with the lease removed, are the reference's; the example holds. No condition.
-/
import Derived.Test.YtnahbfmbmpoljaaGreatDoorWk22
import Derived.Test.YtnahbfmbmpoljaaGreatDoorWk23
import Derived.Test.YtnahbfmbmpoljaaGreatDoorWk27
import Derived.Test.YtnahbfmbmpoljaaGreatDoorWk2830
import Derived.Test.YtnahbfmbmpoljaaGreatDoorWk31
import Derived.Test.YtnahbfmbmpoljaaGreatDoorLawKit
import Derived.Test.YtnahbfmbmpoljaaGreatDoorLayTab
import Derived.Deep.RegionHeld3




namespace Go.Proofs.YtnahbfmbmpoljaaGreatDoor.workerTokens
open Go.ChangeShapes Go.WideShapes Go.ChangeAt Go.RowKit Go.Joins
theorem own : ownKnob Tryz.prog.godebug = none := by kernel_rfl
theorem laidOut : laidOutB Tryz.prog = true := by kernel_rfl

theorem short_ok {x : Work} (h : shortB x = true) : LabOk x ∧ x.labs.length ≤ 1000000 ∧ x.toks.length ≤ 1000000 := by
  obtain ⟨h1, _, h2, h3⟩ := short_in h
  exact ⟨⟨fun s hs => by have := h1 s hs; omega, by omega, by omega⟩, by omega, by omega⟩
set_option maxRecDepth 100000 in
set_option maxHeartbeats 16000000 in
theorem walk (x : Work) (t : I64) (w : World) (hx : LabWork w w.heap.size x) (hG : Glob w) :
    Calls Tryz.prog 3 #[(.agg #[.string x.id.1, .slice x.labsA x.labs.length x.labsC, .int .i64 x.trust.1, .int .i64 x.slots.1, .bool x.pre, .int .i64 x.phase.1, .int .i64 x.beat.1, .int .i64 x.till.1, .slice x.toksA x.toks.length x.toksC]), .int .i64 t.1] w fun e w' => e = .returned (.bool true) ∧ Below w.heap.size w w' := by
  have hxd : Hid (∀ W, Below w.heap.size w W → LabWork W W.heap.size x) := Lib.hid fun W hb => (hx.below hb (Nat.le_refl _)).more hb.size
  have hsh : ∀ W, Below w.heap.size w W → Calls Tryz.prog 4 #[(.agg #[.string x.id.1, .slice x.labsA x.labs.length x.labsC, .int .i64 x.trust.1, .int .i64 x.slots.1, .bool x.pre, .int .i64 x.phase.1, .int .i64 x.beat.1, .int .i64 x.till.1, .slice x.toksA x.toks.length x.toksC])] W fun e w' => e = .returned (.bool (shortB x)) ∧ Below W.heap.size W w' := fun W hb => short_any x W (hxd.out W hb)
  clear hx
  rcases hs : shortB x with _ | _
  · rw [hs] at hsh
    have hsb := Lib.hid hsh
    clear hsh
    replace hs := Lib.hid hs
    replace hG := Lib.hid hG
    go_enter Tryz.func3, Tryz.ntmps3
    go_wp2_with (first | (go_at_call 4; go_must (refine (hsb.out _ (by repeat (first | (with_reducible exact Below.refl _ _) | (with_reducible refine Below.drew ?_) | (with_reducible refine below_drewN ?_ _) | ((with_reducible refine Below.alloc ?_ ?_ _); rotate_left; focus ((try simp) <;> omega)) | ((with_reducible refine Below.setCell ?_ ?_ _); rotate_left; focus ((try simp) <;> omega)) | ((with_reducible refine Below.trans ?_ (Below.mono (by assumption) ?_)); rotate_left; focus ((try simp) <;> omega))))).mono ?_; rintro e w1 ⟨rfl, hb1⟩; have hz1 := hb1.size; (try simp at hz1); have hz1a : w.heap.size < w1.heap.size := (by omega); obtain ⟨hc1, hf1⟩ := blk_at hb1 w.heap.size (by (try simp) <;> omega))) | (go_at_call 5; go_must (refine (awake_any _ (hG.out.keep (by repeat (first | (with_reducible exact Below.refl _ _) | (with_reducible refine Below.drew ?_) | (with_reducible refine below_drewN ?_ _) | ((with_reducible refine Below.alloc ?_ ?_ _); rotate_left; focus ((try simp) <;> omega)) | ((with_reducible refine Below.setCell ?_ ?_ _); rotate_left; focus ((try simp) <;> omega)) | ((with_reducible refine Below.trans ?_ (Below.mono (by assumption) ?_)); rotate_left; focus ((try simp) <;> omega)))))).mono ?_; rintro e w9 ⟨rfl, hb9⟩)))
    go_ret
    exact ⟨rfl, (by repeat (first | (with_reducible exact Below.refl _ _) | (with_reducible refine Below.drew ?_) | (with_reducible refine below_drewN ?_ _) | ((with_reducible refine Below.alloc ?_ ?_ _); rotate_left; focus ((try simp) <;> omega)) | ((with_reducible refine Below.setCell ?_ ?_ _); rotate_left; focus ((try simp) <;> omega)) | ((with_reducible refine Below.trans ?_ (Below.mono (by assumption) ?_)); rotate_left; focus ((try simp) <;> omega))))⟩
  · obtain ⟨hok, hn⟩ := short_ok hs
    obtain ⟨Y, hY⟩ : ∃ Y, attW x t = Y := ⟨_, rfl⟩
    obtain ⟨E, hE⟩ : ∃ E, attE x t.1 = E := ⟨_, rfl⟩
    obtain ⟨Z, hZ⟩ : ∃ Z, detW x t = Z := ⟨_, rfl⟩
    have h1 : Hid (∀ W, Below w.heap.size w W → Calls Tryz.prog 6 #[(.agg #[.string x.id.1, .slice x.labsA x.labs.length x.labsC, .int .i64 x.trust.1, .int .i64 x.slots.1, .bool x.pre, .int .i64 x.phase.1, .int .i64 x.beat.1, .int .i64 x.till.1, .slice x.toksA x.toks.length x.toksC]), .int .i64 t.1] W fun e w' => ∃ A C A2 C2, e = .returned (.tuple #[(.agg #[.string Y.id.1, .slice A Y.labs.length C, .int .i64 Y.trust.1, .int .i64 Y.slots.1, .bool Y.pre, .int .i64 Y.phase.1, .int .i64 Y.beat.1, .int .i64 Y.till.1, .slice A2 Y.toks.length C2]), .int .i64 E]) ∧ LabWork w' w'.heap.size (atW Y A C A2 C2) ∧ Below W.heap.size W w') := Lib.hid fun W hb => (attach_any x t W (hxd.out W hb) hok hn (hG.keep hb)).mono fun e w' ⟨A, C, A2, C2, h1, h2, h3⟩ => by
      rw [hY] at h1 h2
      rw [hE] at h1
      exact ⟨A, C, A2, C2, h1, h2.lab, h3⟩
    have h2 : Hid (∀ W, Below w.heap.size w W → Calls Tryz.prog 7 #[(.agg #[.string x.id.1, .slice x.labsA x.labs.length x.labsC, .int .i64 x.trust.1, .int .i64 x.slots.1, .bool x.pre, .int .i64 x.phase.1, .int .i64 x.beat.1, .int .i64 x.till.1, .slice x.toksA x.toks.length x.toksC]), .int .i64 t.1] W fun e w' => ∃ A2 C2, e = .returned (.tuple #[(.agg #[.string Y.id.1, .slice x.labsA Y.labs.length x.labsC, .int .i64 Y.trust.1, .int .i64 Y.slots.1, .bool Y.pre, .int .i64 Y.phase.1, .int .i64 Y.beat.1, .int .i64 Y.till.1, .slice A2 Y.toks.length C2]), .int .i64 E]) ∧ LabWork w' w'.heap.size (atW Y x.labsA x.labsC A2 C2) ∧ Below W.heap.size W w') := Lib.hid fun W hb => (rattach_any x t W (hxd.out W hb) hok hn.2).mono fun e w' ⟨A2, C2, h1, h2, h3⟩ => by
      rw [hY] at h1 h2
      rw [hE] at h1
      exact ⟨A2, C2, h1, h2, h3⟩
    have h3 : Hid (∀ W, Below w.heap.size w W → Calls Tryz.prog 9 #[(.agg #[.string x.id.1, .slice x.labsA x.labs.length x.labsC, .int .i64 x.trust.1, .int .i64 x.slots.1, .bool x.pre, .int .i64 x.phase.1, .int .i64 x.beat.1, .int .i64 x.till.1, .slice x.toksA x.toks.length x.toksC]), .int .i64 t.1] W fun e w' => ∃ A C A2 C2, e = .returned (.agg #[.string Z.id.1, .slice A Z.labs.length C, .int .i64 Z.trust.1, .int .i64 Z.slots.1, .bool Z.pre, .int .i64 Z.phase.1, .int .i64 Z.beat.1, .int .i64 Z.till.1, .slice A2 Z.toks.length C2]) ∧ LabWork w' w'.heap.size (atW Z A C A2 C2) ∧ Below W.heap.size W w') := Lib.hid fun W hb => (detach_any x t W (hxd.out W hb) hn).mono fun e w' ⟨A, C, A2, C2, h1, h2, h3⟩ => by
      rw [hZ] at h1 h2
      exact ⟨A, C, A2, C2, h1, h2.lab, h3⟩
    have h4 : Hid (∀ W, Below w.heap.size w W → Calls Tryz.prog 10 #[(.agg #[.string x.id.1, .slice x.labsA x.labs.length x.labsC, .int .i64 x.trust.1, .int .i64 x.slots.1, .bool x.pre, .int .i64 x.phase.1, .int .i64 x.beat.1, .int .i64 x.till.1, .slice x.toksA x.toks.length x.toksC]), .int .i64 t.1] W fun e w' => ∃ A2 C2, e = .returned (.agg #[.string Z.id.1, .slice x.labsA Z.labs.length x.labsC, .int .i64 Z.trust.1, .int .i64 Z.slots.1, .bool Z.pre, .int .i64 Z.phase.1, .int .i64 Z.beat.1, .int .i64 Z.till.1, .slice A2 Z.toks.length C2]) ∧ LabWork w' w'.heap.size (atW Z x.labsA x.labsC A2 C2) ∧ Below W.heap.size W w') := Lib.hid fun W hb => (rdetach_any x t W (hxd.out W hb) hn.2).mono fun e w' ⟨A2, C2, h1, h2, h3⟩ => by
      rw [hZ] at h1 h2
      exact ⟨A2, C2, h1, h2, h3⟩
    have hs1 : Hid (∀ A C A2 C2 A3 C3 W, LabWork W W.heap.size (atW Y A C A2 C2) → LabWork W W.heap.size (atW Y x.labsA x.labsC A3 C3) → Calls Tryz.prog 8 #[(.agg #[.string Y.id.1, .slice A Y.labs.length C, .int .i64 Y.trust.1, .int .i64 Y.slots.1, .bool Y.pre, .int .i64 Y.phase.1, .int .i64 Y.beat.1, .int .i64 Y.till.1, .slice A2 Y.toks.length C2]), (.agg #[.string Y.id.1, .slice x.labsA Y.labs.length x.labsC, .int .i64 Y.trust.1, .int .i64 Y.slots.1, .bool Y.pre, .int .i64 Y.phase.1, .int .i64 Y.beat.1, .int .i64 Y.till.1, .slice A3 Y.toks.length C3])] W fun e w' => e = .returned (.bool true) ∧ Below W.heap.size W w') := Lib.hid fun A C A2 C2 A3 C3 W h1 h2 => same_any (atW Y A C A2 C2) (atW Y x.labsA x.labsC A3 C3) W rfl h1 h2
    have hs2 : Hid (∀ A C A2 C2 A3 C3 W, LabWork W W.heap.size (atW Z A C A2 C2) → LabWork W W.heap.size (atW Z x.labsA x.labsC A3 C3) → Calls Tryz.prog 8 #[(.agg #[.string Z.id.1, .slice A Z.labs.length C, .int .i64 Z.trust.1, .int .i64 Z.slots.1, .bool Z.pre, .int .i64 Z.phase.1, .int .i64 Z.beat.1, .int .i64 Z.till.1, .slice A2 Z.toks.length C2]), (.agg #[.string Z.id.1, .slice x.labsA Z.labs.length x.labsC, .int .i64 Z.trust.1, .int .i64 Z.slots.1, .bool Z.pre, .int .i64 Z.phase.1, .int .i64 Z.beat.1, .int .i64 Z.till.1, .slice A3 Z.toks.length C3])] W fun e w' => e = .returned (.bool true) ∧ Below W.heap.size W w') := Lib.hid fun A C A2 C2 A3 C3 W h1 h2 => same_any (atW Z A C A2 C2) (atW Z x.labsA x.labsC A3 C3) W rfl h1 h2
    rw [hs] at hsh
    have hsb := Lib.hid hsh
    clear hsh
    replace hs := Lib.hid hs
    replace hG := Lib.hid hG
    replace hY := Lib.hid hY
    replace hE := Lib.hid hE
    replace hZ := Lib.hid hZ
    replace hok := Lib.hid hok
    replace hn := Lib.hid hn
    have hee : (E == E) = true := by simp
    go_enter Tryz.func3, Tryz.ntmps3
    go_wp2_with (first
      | (go_at_call 4; go_must (refine (hsb.out _ (by repeat (first | (with_reducible exact Below.refl _ _) | (with_reducible refine Below.drew ?_) | (with_reducible refine below_drewN ?_ _) | ((with_reducible refine Below.alloc ?_ ?_ _); rotate_left; focus ((try simp) <;> omega)) | ((with_reducible refine Below.setCell ?_ ?_ _); rotate_left; focus ((try simp) <;> omega)) | ((with_reducible refine Below.trans ?_ (Below.mono (by assumption) ?_)); rotate_left; focus ((try simp) <;> omega))))).mono ?_; rintro e w1 ⟨rfl, hb1⟩; have hz1 := hb1.size; (try simp at hz1); have hz1a : w.heap.size < w1.heap.size := (by omega); obtain ⟨hc1, hf1⟩ := blk_at hb1 w.heap.size (by (try simp) <;> omega)))
      | (go_at_call 6; go_must (refine (h1.out _ (by repeat (first | (with_reducible exact Below.refl _ _) | (with_reducible refine Below.drew ?_) | (with_reducible refine below_drewN ?_ _) | ((with_reducible refine Below.alloc ?_ ?_ _); rotate_left; focus ((try simp) <;> omega)) | ((with_reducible refine Below.setCell ?_ ?_ _); rotate_left; focus ((try simp) <;> omega)) | ((with_reducible refine Below.trans ?_ (Below.mono (by assumption) ?_)); rotate_left; focus ((try simp) <;> omega))))).mono ?_; rintro e w2 ⟨A, C, A2, C2, rfl, hl2, hb2⟩; have hz2 := hb2.size; (try simp at hz2); have hz2a : w.heap.size < w2.heap.size := (by omega); obtain ⟨hc2, hf2⟩ := blk_at hb2 w.heap.size (by (try simp) <;> omega)))
      | (go_at_call 7; go_must (refine (h2.out _ (by repeat (first | (with_reducible exact Below.refl _ _) | (with_reducible refine Below.drew ?_) | (with_reducible refine below_drewN ?_ _) | ((with_reducible refine Below.alloc ?_ ?_ _); rotate_left; focus ((try simp) <;> omega)) | ((with_reducible refine Below.setCell ?_ ?_ _); rotate_left; focus ((try simp) <;> omega)) | ((with_reducible refine Below.trans ?_ (Below.mono (by assumption) ?_)); rotate_left; focus ((try simp) <;> omega))))).mono ?_; rintro e w3 ⟨A3, C3, rfl, hl3, hb3⟩; have hz3 := hb3.size; (try simp at hz3); have hz3a : w2.heap.size < w3.heap.size := (by omega); obtain ⟨hc3, hf3⟩ := blk_at hb3 w.heap.size (by (try simp) <;> omega); obtain ⟨hd3, hg3⟩ := blk_at hb3 w2.heap.size (by (try simp) <;> omega))))
    go_region_held3 (fun w' => (w'.cell? ⟨w.heap.size, 0, none⟩ = some (.string x.id.1) ∧ w'.cell? ⟨w.heap.size, 1, none⟩ = some (.slice x.labsA x.labs.length x.labsC) ∧ w'.cell? ⟨w.heap.size, 2, none⟩ = some (.int .i64 x.trust.1) ∧ w'.cell? ⟨w.heap.size, 3, none⟩ = some (.int .i64 x.slots.1) ∧ w'.cell? ⟨w.heap.size, 4, none⟩ = some (.bool x.pre) ∧ w'.cell? ⟨w.heap.size, 5, none⟩ = some (.int .i64 x.phase.1) ∧ w'.cell? ⟨w.heap.size, 6, none⟩ = some (.int .i64 x.beat.1) ∧ w'.cell? ⟨w.heap.size, 7, none⟩ = some (.int .i64 x.till.1) ∧ w'.cell? ⟨w.heap.size, 8, none⟩ = some (.slice x.toksA x.toks.length x.toksC)) ∧ (w'.cell? ⟨w2.heap.size, 0, none⟩ = some (.string Y.id.1) ∧ w'.cell? ⟨w2.heap.size, 1, none⟩ = some (.slice A Y.labs.length C) ∧ w'.cell? ⟨w2.heap.size, 2, none⟩ = some (.int .i64 Y.trust.1) ∧ w'.cell? ⟨w2.heap.size, 3, none⟩ = some (.int .i64 Y.slots.1) ∧ w'.cell? ⟨w2.heap.size, 4, none⟩ = some (.bool Y.pre) ∧ w'.cell? ⟨w2.heap.size, 5, none⟩ = some (.int .i64 Y.phase.1) ∧ w'.cell? ⟨w2.heap.size, 6, none⟩ = some (.int .i64 Y.beat.1) ∧ w'.cell? ⟨w2.heap.size, 7, none⟩ = some (.int .i64 Y.till.1) ∧ w'.cell? ⟨w2.heap.size, 8, none⟩ = some (.slice A2 Y.toks.length C2)) ∧ (w'.cell? ⟨w3.heap.size, 0, none⟩ = some (.string Y.id.1) ∧ w'.cell? ⟨w3.heap.size, 1, none⟩ = some (.slice x.labsA Y.labs.length x.labsC) ∧ w'.cell? ⟨w3.heap.size, 2, none⟩ = some (.int .i64 Y.trust.1) ∧ w'.cell? ⟨w3.heap.size, 3, none⟩ = some (.int .i64 Y.slots.1) ∧ w'.cell? ⟨w3.heap.size, 4, none⟩ = some (.bool Y.pre) ∧ w'.cell? ⟨w3.heap.size, 5, none⟩ = some (.int .i64 Y.phase.1) ∧ w'.cell? ⟨w3.heap.size, 6, none⟩ = some (.int .i64 Y.beat.1) ∧ w'.cell? ⟨w3.heap.size, 7, none⟩ = some (.int .i64 Y.till.1) ∧ w'.cell? ⟨w3.heap.size, 8, none⟩ = some (.slice A3 Y.toks.length C3))) (go_keep)
      (first
        | (go_at_call 8; with_reducible refine (hs1.out A C A2 C2 A3 C3 _ ((hl2.below (C := w2.heap.size) (w' := _) (by repeat (first | (with_reducible exact Below.refl _ _) | (with_reducible refine Below.drew ?_) | (with_reducible refine below_drewN ?_ _) | ((with_reducible refine Below.alloc ?_ ?_ _); rotate_left; focus ((try simp) <;> omega)) | ((with_reducible refine Below.setCell ?_ ?_ _); rotate_left; focus ((try simp) <;> omega)) | ((with_reducible refine Below.trans ?_ (Below.mono (by assumption) ?_)); rotate_left; focus ((try simp) <;> omega)))) (Nat.le_refl _)).more (by (try simp) <;> omega)) ((hl3.below (C := w3.heap.size) (w' := _) (by repeat (first | (with_reducible exact Below.refl _ _) | (with_reducible refine Below.drew ?_) | (with_reducible refine below_drewN ?_ _) | ((with_reducible refine Below.alloc ?_ ?_ _); rotate_left; focus ((try simp) <;> omega)) | ((with_reducible refine Below.setCell ?_ ?_ _); rotate_left; focus ((try simp) <;> omega)) | ((with_reducible refine Below.trans ?_ (Below.mono (by assumption) ?_)); rotate_left; focus ((try simp) <;> omega)))) (Nat.le_refl _)).more (by (try simp) <;> omega))).mono ?_; rintro e w4 ⟨rfl, hb4⟩; have hz4 := hb4.size; (try simp at hz4); obtain ⟨hc4, hf4⟩ := blk_at hb4 w.heap.size (by (try simp) <;> omega); obtain ⟨hd4, hg4⟩ := blk_at hb4 w2.heap.size (by (try simp) <;> omega); obtain ⟨he4, hh4⟩ := blk_at hb4 w3.heap.size (by (try simp) <;> omega))
        | (go_at_call 9; go_must (refine (h3.out _ (by repeat (first | (with_reducible exact Below.refl _ _) | (with_reducible refine Below.drew ?_) | (with_reducible refine below_drewN ?_ _) | ((with_reducible refine Below.alloc ?_ ?_ _); rotate_left; focus ((try simp) <;> omega)) | ((with_reducible refine Below.setCell ?_ ?_ _); rotate_left; focus ((try simp) <;> omega)) | ((with_reducible refine Below.trans ?_ (Below.mono (by assumption) ?_)); rotate_left; focus ((try simp) <;> omega))))).mono ?_; rintro e w5 ⟨A5, C5, A6, C6, rfl, hl5, hb5⟩; have hz5 := hb5.size; (try simp at hz5); obtain ⟨hc5, hf5⟩ := blk_at hb5 w.heap.size (by (try simp) <;> omega); obtain ⟨hd5, hg5⟩ := blk_at hb5 w2.heap.size (by (try simp) <;> omega); obtain ⟨he5, hh5⟩ := blk_at hb5 w3.heap.size (by (try simp) <;> omega)))
        | (go_at_call 10; go_must (refine (h4.out _ (by repeat (first | (with_reducible exact Below.refl _ _) | (with_reducible refine Below.drew ?_) | (with_reducible refine below_drewN ?_ _) | ((with_reducible refine Below.alloc ?_ ?_ _); rotate_left; focus ((try simp) <;> omega)) | ((with_reducible refine Below.setCell ?_ ?_ _); rotate_left; focus ((try simp) <;> omega)) | ((with_reducible refine Below.trans ?_ (Below.mono (by assumption) ?_)); rotate_left; focus ((try simp) <;> omega))))).mono ?_; rintro e w6 ⟨A7, C7, rfl, hl6, hb6⟩; have hz6 := hb6.size; (try simp at hz6); obtain ⟨hc6, hf6⟩ := blk_at hb6 w.heap.size (by (try simp) <;> omega); obtain ⟨hd6, hg6⟩ := blk_at hb6 w2.heap.size (by (try simp) <;> omega); obtain ⟨he6, hh6⟩ := blk_at hb6 w3.heap.size (by (try simp) <;> omega)))
        | (go_at_call 8; with_reducible refine (hs2.out A5 C5 A6 C6 A7 C7 _ ((hl5.below (C := w5.heap.size) (w' := _) (by repeat (first | (with_reducible exact Below.refl _ _) | (with_reducible refine Below.drew ?_) | (with_reducible refine below_drewN ?_ _) | ((with_reducible refine Below.alloc ?_ ?_ _); rotate_left; focus ((try simp) <;> omega)) | ((with_reducible refine Below.setCell ?_ ?_ _); rotate_left; focus ((try simp) <;> omega)) | ((with_reducible refine Below.trans ?_ (Below.mono (by assumption) ?_)); rotate_left; focus ((try simp) <;> omega)))) (Nat.le_refl _)).more (by (try simp) <;> omega)) ((hl6.below (C := w6.heap.size) (w' := _) (by repeat (first | (with_reducible exact Below.refl _ _) | (with_reducible refine Below.drew ?_) | (with_reducible refine below_drewN ?_ _) | ((with_reducible refine Below.alloc ?_ ?_ _); rotate_left; focus ((try simp) <;> omega)) | ((with_reducible refine Below.setCell ?_ ?_ _); rotate_left; focus ((try simp) <;> omega)) | ((with_reducible refine Below.trans ?_ (Below.mono (by assumption) ?_)); rotate_left; focus ((try simp) <;> omega)))) (Nat.le_refl _)).more (by (try simp) <;> omega))).mono ?_; rintro e w7 ⟨rfl, hb7⟩; have hz7 := hb7.size; (try simp at hz7); obtain ⟨hc7, hf7⟩ := blk_at hb7 w.heap.size (by (try simp) <;> omega); obtain ⟨hd7, hg7⟩ := blk_at hb7 w2.heap.size (by (try simp) <;> omega); obtain ⟨he7, hh7⟩ := blk_at hb7 w3.heap.size (by (try simp) <;> omega))
        | (go_at_call 5; go_must (refine (awake_any _ (hG.out.keep (by repeat (first | (with_reducible exact Below.refl _ _) | (with_reducible refine Below.drew ?_) | (with_reducible refine below_drewN ?_ _) | ((with_reducible refine Below.alloc ?_ ?_ _); rotate_left; focus ((try simp) <;> omega)) | ((with_reducible refine Below.setCell ?_ ?_ _); rotate_left; focus ((try simp) <;> omega)) | ((with_reducible refine Below.trans ?_ (Below.mono (by assumption) ?_)); rotate_left; focus ((try simp) <;> omega)))))).mono ?_; rintro e w9 ⟨rfl, hb9⟩; have hz9 := hb9.size; (try simp at hz9); obtain ⟨hc9, hf9⟩ := blk_at hb9 w.heap.size (by (try simp) <;> omega); obtain ⟨hd9, hg9⟩ := blk_at hb9 w2.heap.size (by (try simp) <;> omega); obtain ⟨he9, hh9⟩ := blk_at hb9 w3.heap.size (by (try simp) <;> omega))))
    all_goals go_wp2_with fail
    all_goals go_ret
    all_goals exact ⟨rfl, (by repeat (first | (with_reducible exact Below.refl _ _) | (with_reducible refine Below.drew ?_) | (with_reducible refine below_drewN ?_ _) | ((with_reducible refine Below.alloc ?_ ?_ _); rotate_left; focus ((try simp) <;> omega)) | ((with_reducible refine Below.setCell ?_ ?_ _); rotate_left; focus ((try simp) <;> omega)) | ((with_reducible refine Below.trans ?_ (Below.mono (by assumption) ?_)); rotate_left; focus ((try simp) <;> omega))))⟩

/-- A world for the witness: the settled one, the listed tables holding what their initialisers lay. -/
noncomputable def laidWorld (os : Os) : World :=
  { World.holding Tryz.prog os ⟨#[], #[], []⟩ with heap := layAll Tryz.prog Rows.workerTokensRow.laid (World.holding Tryz.prog os ⟨#[], #[], []⟩).heap }
theorem laid_met (os : Os) : laidMet Tryz.prog Rows.workerTokensRow.laid ((laidWorld os).forCall (fun _ _ => 0) ⟨#[], #[(.agg #[.string ByteArray.empty, .slice none 0 0, .int .i64 0, .int .i64 0, .bool false, .int .i64 0, .int .i64 0, .int .i64 0, .slice none 0 0]), .int .i64 0], []⟩).memory :=
  laidMet_of_run' 8 (by kernel_rfl) (by kernel_rfl)
theorem reads (os : Os) {H : Type} (enc : TypeId × Value → H) : ∃ places, DataW.whole enc Tryz.prog ((laidWorld os).forCall (fun _ _ => 0) ⟨#[], #[(.agg #[.string ByteArray.empty, .slice none 0 0, .int .i64 0, .int .i64 0, .bool false, .int .i64 0, .int .i64 0, .int .i64 0, .slice none 0 0]), .int .i64 0], []⟩).memory Tryz.f3.params.toList Rows.workerTokensSpec.vars false (#[(.agg #[.string ByteArray.empty, .slice none 0 0, .int .i64 0, .int .i64 0, .bool false, .int .i64 0, .int .i64 0, .int .i64 0, .slice none 0 0]), .int .i64 0] : Array Value).toList 8 = some ([.agg [.lit (.string []), .nil, .lit (.int .i64 0), .lit (.int .i64 0), .lit (.bool false), .lit (.int .i64 0), .lit (.int .i64 0), .lit (.int .i64 0), .nil], .lit (.int .i64 0)], [], places) :=
  ⟨[], by kernel_rfl⟩

set_option maxRecDepth 100000 in
theorem contract (H : Type) (enc : TypeId × Value → H) (W : World) (base : Nat) (args : Array Value) (ds gs : List (DataW H)) (before : List MemPlace)
    (hval : ∀ (j : Nat) t v, Tryz.f3.params[j]? = some t → args[j]? = some v → Value.okWide Tryz.prog W .any base t v)
    (hW : DataW.Whole enc Tryz.prog Tryz.f3.params.toList Rows.workerTokensSpec.vars false W args.toList ds gs before) (hsh : W.ShapedOpen Tryz.prog) :
    Calls Tryz.prog 3 args W fun e W' => ∃ v, e = .returned v ∧ Rows.workerTokensSpec.post enc Tryz.prog Tryz.f3 false true false false W args v W' := by
  have hG : Glob W := cell_of_shapedOpen_int (P := Tryz.prog) (g := 2) (t := 3) (zero := #[.int .i64 0]) hsh (of_decide_eq_true (by kernel_rfl)) (by kernel_rfl) rfl (by kernel_rfl) (by kernel_rfl) Tryz.underlying3
  have hW' := hW
  obtain ⟨p, q, hA0, hV, rfl, hfz, hnd⟩ := hW
  have hA : DataW.TrodAll enc Tryz.prog W 0 (fun _ => true) true Tryz.f3.params.toList args.toList ds p := hA0
  have hA1 := hA
  rw [Tryz.params3] at hA hval
  obtain ⟨rfl, rfl⟩ := trodVars_none hV
  simp only [List.append_nil] at hW'
  have hcall : Calls Tryz.prog 3 args W fun e w' => e = .returned (.bool true) ∧ Below W.heap.size W w' := by
    clear hA0 hV hfz hnd
    obtain ⟨v0, vs0, d0, ds0, p0, q0, hargs, rfl, rfl, h0, r0⟩ := trodAll_cons hA
    obtain ⟨v1, vs1, d1, ds1, p1, q1, rfl, rfl, rfl, h1, r1⟩ := trodAll_cons r0
    obtain ⟨rfl, rfl, rfl⟩ := trodAll_nil r1
    obtain rfl : args = #[v0, v1] := by cases args; simp_all
    obtain ⟨x, rfl, hx⟩ := open_valq Tryz.underlying25 workE_of (hval 0 25 v0 rfl rfl) h0
    obtain ⟨a1, rfl, rfl, rfl, w1⟩ := open_int Tryz.underlying3 (hval 1 3 v1 rfl rfl) h1
    exact walk x ⟨a1, bounds_i64 w1⟩ W hx hG
  have hds : ds.length = 2 := (trodAll_length hA).1
  refine hcall.mono fun e W' ⟨he, hb⟩ => ?_
  subst he
  refine ⟨_, rfl, law_post hW' rfl hA1 (by kernel_rfl) laidOut Tryz.underlying4 (by kernel_rfl) ?_ hb⟩
  match ds, hds with
  | [_, _], _ => rfl

set_option maxRecDepth 100000 in
theorem lifted (os : Os) (started : os.Started) (H : Type) (enc : TypeId × Value → H) (F : Stop.Interp) :
    ReturnsInHanded {} Tryz.checked os 3 .any ((OpenSpec.ofChange Rows.workerTokensSpec).preRow enc Tryz.prog Tryz.f3 Rows.workerTokensRow.domain false Rows.workerTokensRow.laid) (((OpenSpec.ofChange Rows.workerTokensSpec).at F).post enc Tryz.prog Tryz.f3 false true false false) := by
  obtain ⟨places, hx⟩ := reads os enc
  refine returnsInHanded_of_row (C := Tryz.checked) (s := OpenSpec.ofChange Rows.workerTokensSpec) own started (by kernel_rfl) Tryz.func3
    (witness_row_at (enc := enc) (C := Tryz.checked) false (laidWorld os) #[(.agg #[.string ByteArray.empty, .slice none 0 0, .int .i64 0, .int .i64 0, .bool false, .int .i64 0, .int .i64 0, .int .i64 0, .slice none 0 0]), .int .i64 0] rfl (by kernel_rfl) (by kernel_rfl) (by kernel_rfl)
      (OpenSpec.preRow_of_cond 8 hx (by kernel_rfl) (fun k hk => by cases hk) (by kernel_rfl) (laid_met os))) ?_
  intro W base args ds gs before hval hW _ _ _ _ hsh _
  exact contract H enc W base args ds gs before hval hW hsh

theorem said : Rows.WorkerTokensSaid :=
  OpenClaim.holds_of_cond 3 Tryz.f3 rfl rfl rfl rfl rfl rfl rfl ⟨rfl, rfl, rfl, rfl, rfl⟩ rfl rfl rfl rfl rfl (by kernel_rfl) Tryz.func3 (by kernel_rfl)
    (of_decide_eq_true (by kernel_rfl)) (by unfold Func.isWrapper; first | (rw [if_pos (by decide +kernel)]; kernel_rfl) | (rw [if_neg (by decide +kernel)]; exact ⟨rfl, rfl⟩))
    (fun os started H enc _ F => by rw [OpenClaim.pre_eq_preRow]; exact lifted os started H enc F)

theorem plain (f : FuncId) (fn : Func) (hf : Tryz.pinned.checked.prog.funcNamed Rows.workerTokensRow.func = some f) (hfn : Tryz.pinned.checked.prog.funcs[f]? = some fn) :
    false = Tryz.pinned.checked.prog.looks [] ∧ ∀ (j : Nat) t, fn.params[j]? = some t → Tryz.pinned.checked.prog.wantsStandIn t = false := by
  obtain rfl : f = 3 := Option.some.inj ((show Tryz.prog.funcNamed Rows.workerTokensRow.func = some 3 by kernel_rfl).symm.trans hf) |>.symm
  obtain rfl : fn = Tryz.f3 := (Option.some.inj (Tryz.func3.symm.trans hfn)).symm
  refine ⟨by kernel_rfl, fun j t ht => ?_⟩
  have hall : (Tryz.f3.params.toList.all fun t => !(Tryz.pinned.checked.prog.wantsStandIn t)) = true := by kernel_rfl
  have hm : t ∈ Tryz.f3.params.toList := Array.mem_toList_iff.2 (Array.mem_of_getElem? ht)
  simpa using List.all_eq_true.1 hall t hm

theorem proved : Rows.WorkerTokensCardSaid :=
  Claim7.holds_tied_plain_at .later [] _ _ _ _ said (fun _ h => by cases h) (by kernel_rfl) (fun _ h => by cases h) workerTokens_row_tie rfl ⟨rfl, rfl⟩ (by kernel_rfl) rfl plain (by kernel_rfl)
#print axioms proved
end Go.Proofs.YtnahbfmbmpoljaaGreatDoor.workerTokens
