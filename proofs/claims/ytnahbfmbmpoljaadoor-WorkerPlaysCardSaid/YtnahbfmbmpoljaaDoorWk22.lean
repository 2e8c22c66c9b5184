/-
  The walks of workers: the laws' example, and whether a worker is short.
-/
import Derived.Test.YtnahbfmbmpoljaaDoorWk17
import Derived.Test.YtnahbfmbmpoljaaDoorWk5
import Derived.Test.YtnahbfmbmpoljaaDoorWk20



namespace Go.Proofs.YtnahbfmbmpoljaaDoor
open Go.RowKit

abbrev x1 : Work := ⟨⟨⟨#[119]⟩, by decide⟩, none, 0, [], ⟨1, by omega⟩, ⟨2, by omega⟩, true, ⟨0, by omega⟩, ⟨0, by omega⟩, ⟨0, by omega⟩, none, 0, []⟩
abbrev y1 : Work := ⟨⟨⟨#[119]⟩, by decide⟩, none, 0, [], ⟨1, by omega⟩, ⟨2, by omega⟩, true, ⟨2, by omega⟩, ⟨0, by omega⟩, ⟨6000, by omega⟩, none, 0, []⟩
theorem lab_x1 (w : World) : LabWork w w.heap.size x1 := ⟨Nat.le_refl _, Nat.zero_le _, Rw.nil, Nat.le_refl _, Nat.zero_le _, Rw.nil⟩
theorem ok_x1 : LabOk x1 := ⟨fun s hs => absurd hs (by simp), by simp, by simp⟩
theorem ex_join : joinE [] x1 ⟨0, by omega⟩ = 0 := by decide +kernel
theorem ex_step : stepE x1 3 1000 = 0 := by decide +kernel
theorem ex_free1 : freeI x1 29999 = 2 := by decide +kernel
theorem ex_free2 : freeI x1 30000 = 0 := by decide +kernel
theorem ex_lost1 : lostB x1 30000 = true := by decide +kernel
theorem ex_lost2 : lostB y1 5999 = false := by decide +kernel
theorem ex_lost3 : lostB y1 6000 = true := by decide +kernel
theorem ex_stepw (A : Option Addr) (C : Nat) (A2 : Option Addr) (C2 : Nat) : stepW (atW x1 A C A2 C2) 3 ⟨1000, by omega⟩ = atW y1 A C A2 C2 := by
  rw [stepW_ok (show stepE (atW x1 A C A2 C2) 3 1000 = 0 from ex_step), stepF_at]
  rfl
theorem ex_one {l : List Work} {p : Work} (h : l.map core = [core p]) : ∃ a, l = [a] ∧ core a = core p := by
  rcases l with _ | ⟨a, _ | ⟨b, l⟩⟩
  · simp at h
  · exact ⟨a, rfl, by simpa using h⟩
  · simp at h
theorem LabWork.atc {w : World} {B : Nat} {x : Work} (h : LabWork w B x) : LabWork w B (atW x x.labsA x.labsC x.toksA x.toksC) := h
set_option maxRecDepth 100000 in
set_option maxHeartbeats 8000000 in
theorem awake_any (w : World) (hG : Glob w) :
    Calls Tryd.prog 12 #[] w fun e w' => e = .returned (.bool true) ∧ Below w.heap.size w w' := by
  have h1 : Hid (∀ W, Below w.heap.size w W → Calls Tryd.prog 13 #[.slice none 0 0, (.agg #[.string ⟨#[119]⟩, .slice none 0 0, .int .i64 1, .int .i64 2, .bool true, .int .i64 0, .int .i64 0, .int .i64 0, .slice none 0 0]), .int .i64 0] W fun e w' => ∃ g o c A C A2 C2, e = .returned (.tuple #[.slice (some ⟨g, o, none⟩) 1 c, .int .i64 0]) ∧ (∀ j u, (workE (atW x1 A C A2 C2))[j]? = some u → w'.cell? ⟨g, o + j, none⟩ = some u) ∧ g < w'.heap.size ∧ LabWork w' w'.heap.size (atW x1 A C A2 C2) ∧ Below W.heap.size W w') := Lib.hid fun W hb => by
    refine (join_any none 0 [] x1 ⟨0, by omega⟩ W RwW.nil (lab_x1 W) (by simp) (fun y hy => absurd hy (by simp)) (fun y hy => absurd hy (by simp)) ok_x1 (by simp) (hG.keep hb)).mono ?_
    rintro e w1 ⟨A, c, l, rfl, hr, hl, hb⟩
    rw [joinL_ok ex_join] at hl
    obtain ⟨a, rfl, ha⟩ := ex_one (p := newW x1 ⟨0, by omega⟩) hl
    obtain ⟨g, o, rfl, hg, hcell⟩ := hr.row (by simp)
    have e : a = atW x1 a.labsA a.labsC a.toksA a.toksC := atW_of (a := x1) ha.symm
    have hla := hr.labs a (by simp)
    have hce := hcell 0 a rfl
    generalize hA : a.labsA = A at *
    generalize hC : a.labsC = C at *
    generalize hA2 : a.toksA = A2 at *
    generalize hC2 : a.toksC = C2 at *
    subst e
    exact ⟨g, o, c, A, C, A2, C2, by rw [ex_join]; rfl, fun j u hu => by have := hce j u hu; rwa [Nat.zero_mul, Nat.add_zero] at this, hg, hla, hb⟩
  have h2 : Hid (∀ A C A2 C2 W, LabWork W W.heap.size (atW x1 A C A2 C2) → Below w.heap.size w W → Calls Tryd.prog 16 #[(.agg #[.string ⟨#[119]⟩, .slice A 0 C, .int .i64 1, .int .i64 2, .bool true, .int .i64 0, .int .i64 0, .int .i64 0, .slice A2 0 C2]), .int .i64 3, .int .i64 1000] W fun e w' => ∃ A C A2 C2, e = .returned (.tuple #[(.agg #[.string ⟨#[119]⟩, .slice A 0 C, .int .i64 1, .int .i64 2, .bool true, .int .i64 2, .int .i64 0, .int .i64 6000, .slice A2 0 C2]), .int .i64 0]) ∧ Below W.heap.size W w') := Lib.hid fun A C A2 C2 W hl hb => by
    refine (step_any (atW x1 A C A2 C2) 3 ⟨1000, by omega⟩ W hl ok_x1 ⟨by simp [atW], by simp [atW]⟩ (hG.keep hb)).mono ?_
    rintro e w1 ⟨A', C', A2', C2', rfl, _, hb⟩
    rw [ex_stepw, show stepE (atW x1 A C A2 C2) 3 (⟨1000, by omega⟩ : I64).1 = 0 from ex_step]
    exact ⟨A', C', A2', C2', rfl, hb⟩
  have h3 : Hid (∀ A C A2 C2 W, LabWork W W.heap.size (atW x1 A C A2 C2) → Below w.heap.size w W → Calls Tryd.prog 21 #[(.agg #[.string ⟨#[119]⟩, .slice A 0 C, .int .i64 1, .int .i64 2, .bool true, .int .i64 0, .int .i64 0, .int .i64 0, .slice A2 0 C2]), .int .i64 29999] W fun e w' => e = .returned (.int .i64 2) ∧ Below W.heap.size W w') := Lib.hid fun A C A2 C2 W hl hb => (free_any (atW x1 A C A2 C2) ⟨29999, by omega⟩ W hl ok_x1 (hG.keep hb)).mono fun e w' h => ⟨h.1.trans (congrArg (fun n => Ending.returned (.int .i64 n)) ex_free1), h.2⟩
  have h4 : Hid (∀ A C A2 C2 W, LabWork W W.heap.size (atW x1 A C A2 C2) → Below w.heap.size w W → Calls Tryd.prog 21 #[(.agg #[.string ⟨#[119]⟩, .slice A 0 C, .int .i64 1, .int .i64 2, .bool true, .int .i64 0, .int .i64 0, .int .i64 0, .slice A2 0 C2]), .int .i64 30000] W fun e w' => e = .returned (.int .i64 0) ∧ Below W.heap.size W w') := Lib.hid fun A C A2 C2 W hl hb => (free_any (atW x1 A C A2 C2) ⟨30000, by omega⟩ W hl ok_x1 (hG.keep hb)).mono fun e w' h => ⟨h.1.trans (congrArg (fun n => Ending.returned (.int .i64 n)) ex_free2), h.2⟩
  have h5 : Hid (∀ A C A2 C2 W, Calls Tryd.prog 19 #[(.agg #[.string ⟨#[119]⟩, .slice A 0 C, .int .i64 1, .int .i64 2, .bool true, .int .i64 0, .int .i64 0, .int .i64 0, .slice A2 0 C2]), .int .i64 30000] W fun e w' => e = .returned (.bool true) ∧ Below W.heap.size W w') := Lib.hid fun A C A2 C2 W => (lost_any (atW x1 A C A2 C2) ⟨30000, by omega⟩ W).mono fun e w' h => ⟨h.1.trans (congrArg (fun n => Ending.returned (.bool n)) ex_lost1), h.2⟩
  have h6 : Hid (∀ A C A2 C2 W, Calls Tryd.prog 19 #[(.agg #[.string ⟨#[119]⟩, .slice A 0 C, .int .i64 1, .int .i64 2, .bool true, .int .i64 2, .int .i64 0, .int .i64 6000, .slice A2 0 C2]), .int .i64 5999] W fun e w' => e = .returned (.bool false) ∧ Below W.heap.size W w') := Lib.hid fun A C A2 C2 W => (lost_any (atW y1 A C A2 C2) ⟨5999, by omega⟩ W).mono fun e w' h => ⟨h.1.trans (congrArg (fun n => Ending.returned (.bool n)) ex_lost2), h.2⟩
  have h7 : Hid (∀ A C A2 C2 W, Calls Tryd.prog 19 #[(.agg #[.string ⟨#[119]⟩, .slice A 0 C, .int .i64 1, .int .i64 2, .bool true, .int .i64 2, .int .i64 0, .int .i64 6000, .slice A2 0 C2]), .int .i64 6000] W fun e w' => e = .returned (.bool true) ∧ Below W.heap.size W w') := Lib.hid fun A C A2 C2 W => (lost_any (atW y1 A C A2 C2) ⟨6000, by omega⟩ W).mono fun e w' h => ⟨h.1.trans (congrArg (fun n => Ending.returned (.bool n)) ex_lost3), h.2⟩
  clear hG
  go_enter Tryd.func12, Tryd.ntmps12
  go_wp2_with (first
    | (go_at_call 13; go_must (refine (h1.out _ (by repeat (first | (with_reducible exact Below.refl _ _) | (with_reducible refine Below.drew ?_) | (with_reducible refine below_drewN ?_ _) | ((with_reducible refine Below.alloc ?_ ?_ _); rotate_left; focus ((try simp) <;> omega)) | ((with_reducible refine Below.setCell ?_ ?_ _); rotate_left; focus ((try simp) <;> omega)) | ((with_reducible refine Below.trans ?_ (Below.mono (by assumption) ?_)); rotate_left; focus ((try simp) <;> omega))))).mono ?_; rintro e w1 ⟨g, o, c, A, C, A2, C2, rfl, hq, hg, hl1, hb1⟩; have hz1 := hb1.size; have q0 := hq 0 (.string ⟨#[119]⟩) rfl; try rw [Nat.add_zero] at q0; have q1 := hq 1 (.slice A 0 C) rfl; have q2 := hq 2 (.int .i64 1) rfl; have q3 := hq 3 (.int .i64 2) rfl; have q4 := hq 4 (.bool true) rfl; have q5 := hq 5 (.int .i64 0) rfl; have q6 := hq 6 (.int .i64 0) rfl; have q7 := hq 7 (.int .i64 0) rfl; have q8 := hq 8 (.slice A2 0 C2) rfl; clear hq))
    | (go_at_call 16; go_must (refine (h2.out A C A2 C2 _ hl1 (by repeat (first | (with_reducible exact Below.refl _ _) | (with_reducible refine Below.drew ?_) | (with_reducible refine below_drewN ?_ _) | ((with_reducible refine Below.alloc ?_ ?_ _); rotate_left; focus ((try simp) <;> omega)) | ((with_reducible refine Below.setCell ?_ ?_ _); rotate_left; focus ((try simp) <;> omega)) | ((with_reducible refine Below.trans ?_ (Below.mono (by assumption) ?_)); rotate_left; focus ((try simp) <;> omega))))).mono ?_; rintro e w2 ⟨A3, C3, A4, C4, rfl, hb2⟩; have hz2 := hb2.size; have hz2a : g < w2.heap.size := (by omega); obtain ⟨hc2, hf2⟩ := blk_at hb2 g hg))
    | (go_at_call 21; with_reducible refine (h3.out A C A2 C2 _ ((hl1.below (C := w1.heap.size) (w' := _) (by repeat (first | (with_reducible exact Below.refl _ _) | (with_reducible refine Below.drew ?_) | (with_reducible refine below_drewN ?_ _) | ((with_reducible refine Below.alloc ?_ ?_ _); rotate_left; focus ((try simp) <;> omega)) | ((with_reducible refine Below.setCell ?_ ?_ _); rotate_left; focus ((try simp) <;> omega)) | ((with_reducible refine Below.trans ?_ (Below.mono (by assumption) ?_)); rotate_left; focus ((try simp) <;> omega)))) (Nat.le_refl _)).more (by (try simp) <;> omega)) (by repeat (first | (with_reducible exact Below.refl _ _) | (with_reducible refine Below.drew ?_) | (with_reducible refine below_drewN ?_ _) | ((with_reducible refine Below.alloc ?_ ?_ _); rotate_left; focus ((try simp) <;> omega)) | ((with_reducible refine Below.setCell ?_ ?_ _); rotate_left; focus ((try simp) <;> omega)) | ((with_reducible refine Below.trans ?_ (Below.mono (by assumption) ?_)); rotate_left; focus ((try simp) <;> omega))))).mono ?_; rintro e w3 ⟨rfl, hb3⟩; have hz3 := hb3.size; (try simp at hz3); have hz3a : w2.heap.size < w3.heap.size := (by omega); have hz3b : g < w3.heap.size := (by omega); obtain ⟨hc3, hf3⟩ := blk_at hb3 g (by (try simp) <;> omega); obtain ⟨hd3, hg3⟩ := blk_at hb3 w2.heap.size (by (try simp) <;> omega))
    | (go_at_call 21; go_must (refine (h4.out A C A2 C2 _ ((hl1.below (C := w1.heap.size) (w' := _) (by repeat (first | (with_reducible exact Below.refl _ _) | (with_reducible refine Below.drew ?_) | (with_reducible refine below_drewN ?_ _) | ((with_reducible refine Below.alloc ?_ ?_ _); rotate_left; focus ((try simp) <;> omega)) | ((with_reducible refine Below.setCell ?_ ?_ _); rotate_left; focus ((try simp) <;> omega)) | ((with_reducible refine Below.trans ?_ (Below.mono (by assumption) ?_)); rotate_left; focus ((try simp) <;> omega)))) (Nat.le_refl _)).more (by (try simp) <;> omega)) (by repeat (first | (with_reducible exact Below.refl _ _) | (with_reducible refine Below.drew ?_) | (with_reducible refine below_drewN ?_ _) | ((with_reducible refine Below.alloc ?_ ?_ _); rotate_left; focus ((try simp) <;> omega)) | ((with_reducible refine Below.setCell ?_ ?_ _); rotate_left; focus ((try simp) <;> omega)) | ((with_reducible refine Below.trans ?_ (Below.mono (by assumption) ?_)); rotate_left; focus ((try simp) <;> omega))))).mono ?_; rintro e w4 ⟨rfl, hb4⟩; have hz4 := hb4.size; (try simp at hz4); have hz4a : w2.heap.size < w4.heap.size := (by omega); have hz4b : g < w4.heap.size := (by omega); obtain ⟨hc4, hf4⟩ := blk_at hb4 g (by (try simp) <;> omega); obtain ⟨hd4, hg4⟩ := blk_at hb4 w2.heap.size (by (try simp) <;> omega)))
    | (go_at_call 19; with_reducible refine (h5.out A C A2 C2 _).mono ?_; rintro e w5 ⟨rfl, hb5⟩; have hz5 := hb5.size; (try simp at hz5); have hz5a : w2.heap.size < w5.heap.size := (by omega); obtain ⟨hd5, hg5⟩ := blk_at hb5 w2.heap.size (by (try simp) <;> omega))
    | (go_at_call 19; with_reducible refine (h6.out A3 C3 A4 C4 _).mono ?_; rintro e w6 ⟨rfl, hb6⟩; have hz6 := hb6.size; (try simp at hz6); have hz6a : w2.heap.size < w6.heap.size := (by omega); obtain ⟨hd6, hg6⟩ := blk_at hb6 w2.heap.size (by (try simp) <;> omega))
    | (go_at_call 19; go_must (refine (h7.out A3 C3 A4 C4 _).mono ?_; rintro e w7 ⟨rfl, hb7⟩; have hz7 := hb7.size)))
  go_ret
  exact ⟨rfl, (by repeat (first | (with_reducible exact Below.refl _ _) | (with_reducible refine Below.drew ?_) | (with_reducible refine below_drewN ?_ _) | ((with_reducible refine Below.alloc ?_ ?_ _); rotate_left; focus ((try simp) <;> omega)) | ((with_reducible refine Below.setCell ?_ ?_ _); rotate_left; focus ((try simp) <;> omega)) | ((with_reducible refine Below.trans ?_ (Below.mono (by assumption) ?_)); rotate_left; focus ((try simp) <;> omega))))⟩
end Go.Proofs.YtnahbfmbmpoljaaDoor
