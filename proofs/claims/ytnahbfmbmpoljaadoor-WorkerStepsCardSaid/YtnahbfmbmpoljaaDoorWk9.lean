/-
  The walks of workers: an event, by the reference.
-/
import Derived.Test.YtnahbfmbmpoljaaDoorWk5
import Derived.Test.YtnahbfmbmpoljaaDoorWk7



namespace Go.Proofs.YtnahbfmbmpoljaaDoor
open Go.RowKit

set_option maxRecDepth 100000 in
set_option maxHeartbeats 8000000 in
theorem rstep_any (x : Work) (ev : Int) (now : I64) (w : World) (hx : LabWork w w.heap.size x) (ho : LabOk x) :
    Calls Tryd.prog 17 #[(.agg #[.string x.id.1, .slice x.labsA x.labs.length x.labsC, .int .i64 x.trust.1, .int .i64 x.slots.1, .bool x.pre, .int .i64 x.phase.1, .int .i64 x.beat.1, .int .i64 x.till.1, .slice x.toksA x.toks.length x.toksC]), .int .i64 ev, .int .i64 now.1] w fun e w' => e = .returned (.tuple #[.agg (workE (stepW x ev now)).toArray, .int .i64 (stepE x ev now.1)]) ∧ Below w.heap.size w w' := by
  have hv := fun W (hb : Below w.heap.size w W) => rwvalid_any x W ((hx.below hb (Nat.le_refl _)).more hb.size) ho
  have hin0 := fun W => inside_any ev 1 4 W
  have htm0 := fun W => rtime_any now.1 W
  clear hx ho
  by_cases h0 : wErr x = 0
  · rw [h0] at hv
    have hva := Lib.hid hv
    clear hv
    by_cases h1 : 1 ≤ ev
    · by_cases h4 : ev ≤ 4
      · rw [decide_eq_true h1, decide_eq_true h4] at hin0
        have hin := Lib.hid hin0
        clear hin0
        rcases ht : timeB now.1 with _ | _
        · rw [ht] at htm0
          have htm := Lib.hid htm0
          clear htm0
          have hse := Lib.hid (stepE_2 (x := x) (ev := ev) (now := now.1) h0 (Or.inr (Or.inr ht)))
          have hsw := Lib.hid (stepW_no hse.out (by decide))
          replace h0 := Lib.hid h0
          replace ht := Lib.hid ht
          go_enter Tryd.func17, Tryd.ntmps17
          go_wp2_with (first
            | (go_at_call 11; go_must (refine (hva.out _ (by repeat (first | (with_reducible exact Below.refl _ _) | (with_reducible refine Below.drew ?_) | (with_reducible refine below_drewN ?_ _) | ((with_reducible refine Below.alloc ?_ ?_ _); rotate_left; focus ((try simp) <;> omega)) | ((with_reducible refine Below.setCell ?_ ?_ _); rotate_left; focus ((try simp) <;> omega)) | ((with_reducible refine Below.trans ?_ (Below.mono (by assumption) ?_)); rotate_left; focus ((try simp) <;> omega))))).mono ?_; rintro e w1 ⟨rfl, hb1⟩; have hz1 := hb1.size; (try simp at hz1); have hz1a : w.heap.size < w1.heap.size := (by omega); have hz1b : w.heap.size + 1 < w1.heap.size := (by omega); obtain ⟨hc1, hf1⟩ := blk_at hb1 w.heap.size (by (try simp) <;> omega); obtain ⟨hd1, hg1⟩ := blk_at hb1 (w.heap.size + 1) (by (try simp) <;> omega)))
            | (go_at_call 31; go_must (refine (hin.out _).mono ?_; rintro e w2 ⟨rfl, rfl⟩))
            | (go_at_call 32; go_must (refine (htm.out _).mono ?_; rintro e w3 ⟨rfl, rfl⟩)))
          exact bodyPost_ret (v := .tuple #[.agg (workE x).toArray, .int .i64 2]) (by simp [results, Tryd.results17, go_sem, hd1, workE]) rfl ⟨by rw [hse.out, hsw.out], (by repeat (first | (with_reducible exact Below.refl _ _) | (with_reducible refine Below.drew ?_) | (with_reducible refine below_drewN ?_ _) | ((with_reducible refine Below.alloc ?_ ?_ _); rotate_left; focus ((try simp) <;> omega)) | ((with_reducible refine Below.setCell ?_ ?_ _); rotate_left; focus ((try simp) <;> omega)) | ((with_reducible refine Below.trans ?_ (Below.mono (by assumption) ?_)); rotate_left; focus ((try simp) <;> omega))))⟩
        · rw [ht] at htm0
          have htm := Lib.hid htm0
          clear htm0
          have hs3 := stepE_3 (x := x) (ev := ev) (now := now.1) h0 (by omega) (by omega) ht
          replace h0 := Lib.hid h0
          have hnow : 0 ≤ now.1 ∧ now.1 ≤ 1125899906842624 := by unfold timeB at ht; simpa using ht
          obtain ⟨n0, n1⟩ := hnow
          replace ht := Lib.hid ht
          by_cases hp : x.phase.1 = 3
          · rw [if_pos hp] at hs3
            have hse := Lib.hid hs3
            clear hs3
            have hpz : (x.phase.1 == 3) = true := by rw [hp]; rfl
            replace hp := Lib.hid hp
            have hsw := Lib.hid (stepW_no hse.out (by decide))
            go_enter Tryd.func17, Tryd.ntmps17
            go_wp2_with (first
              | (go_at_call 11; go_must (refine (hva.out _ (by repeat (first | (with_reducible exact Below.refl _ _) | (with_reducible refine Below.drew ?_) | (with_reducible refine below_drewN ?_ _) | ((with_reducible refine Below.alloc ?_ ?_ _); rotate_left; focus ((try simp) <;> omega)) | ((with_reducible refine Below.setCell ?_ ?_ _); rotate_left; focus ((try simp) <;> omega)) | ((with_reducible refine Below.trans ?_ (Below.mono (by assumption) ?_)); rotate_left; focus ((try simp) <;> omega))))).mono ?_; rintro e w1 ⟨rfl, hb1⟩; have hz1 := hb1.size; (try simp at hz1); have hz1a : w.heap.size < w1.heap.size := (by omega); have hz1b : w.heap.size + 1 < w1.heap.size := (by omega); obtain ⟨hc1, hf1⟩ := blk_at hb1 w.heap.size (by (try simp) <;> omega); obtain ⟨hd1, hg1⟩ := blk_at hb1 (w.heap.size + 1) (by (try simp) <;> omega)))
              | (go_at_call 31; go_must (refine (hin.out _).mono ?_; rintro e w2 ⟨rfl, rfl⟩))
              | (go_at_call 32; go_must (refine (htm.out _).mono ?_; rintro e w3 ⟨rfl, rfl⟩)))
            exact bodyPost_ret (v := .tuple #[.agg (workE x).toArray, .int .i64 16]) (by simp [results, Tryd.results17, go_sem, hd1, workE]) rfl ⟨by rw [hse.out, hsw.out], (by repeat (first | (with_reducible exact Below.refl _ _) | (with_reducible refine Below.drew ?_) | (with_reducible refine below_drewN ?_ _) | ((with_reducible refine Below.alloc ?_ ?_ _); rotate_left; focus ((try simp) <;> omega)) | ((with_reducible refine Below.setCell ?_ ?_ _); rotate_left; focus ((try simp) <;> omega)) | ((with_reducible refine Below.trans ?_ (Below.mono (by assumption) ?_)); rotate_left; focus ((try simp) <;> omega))))⟩
          rw [if_neg hp] at hs3
          have hpz : (x.phase.1 == 3) = false := by rw [beq_eq_false_iff_ne]; exact hp
          replace hp := Lib.hid hp
          by_cases h3 : ev = 3
          · subst h3
            obtain ⟨P, hpr⟩ : ∃ P, x.pre = P := ⟨_, rfl⟩
            rw [hpr] at hva hs3 ⊢
            rcases P with _ | _
            · rw [if_pos ⟨rfl, rfl⟩] at hs3
              have hse := Lib.hid hs3
              clear hs3
              have hsw := Lib.hid (stepW_no hse.out (by decide))
              replace hpr := Lib.hid hpr
              go_enter Tryd.func17, Tryd.ntmps17
              go_wp2_with (first
                | (go_at_call 11; go_must (refine (hva.out _ (by repeat (first | (with_reducible exact Below.refl _ _) | (with_reducible refine Below.drew ?_) | (with_reducible refine below_drewN ?_ _) | ((with_reducible refine Below.alloc ?_ ?_ _); rotate_left; focus ((try simp) <;> omega)) | ((with_reducible refine Below.setCell ?_ ?_ _); rotate_left; focus ((try simp) <;> omega)) | ((with_reducible refine Below.trans ?_ (Below.mono (by assumption) ?_)); rotate_left; focus ((try simp) <;> omega))))).mono ?_; rintro e w1 ⟨rfl, hb1⟩; have hz1 := hb1.size; (try simp at hz1); have hz1a : w.heap.size < w1.heap.size := (by omega); have hz1b : w.heap.size + 1 < w1.heap.size := (by omega); obtain ⟨hc1, hf1⟩ := blk_at hb1 w.heap.size (by (try simp) <;> omega); obtain ⟨hd1, hg1⟩ := blk_at hb1 (w.heap.size + 1) (by (try simp) <;> omega)))
                | (go_at_call 31; go_must (refine (hin.out _).mono ?_; rintro e w2 ⟨rfl, rfl⟩))
                | (go_at_call 32; go_must (refine (htm.out _).mono ?_; rintro e w3 ⟨rfl, rfl⟩)))
              exact bodyPost_ret (v := .tuple #[.agg (workE x).toArray, .int .i64 16]) (by simp [results, Tryd.results17, go_sem, hd1, hpr.out, workE]) rfl ⟨by rw [hse.out, hsw.out], (by repeat (first | (with_reducible exact Below.refl _ _) | (with_reducible refine Below.drew ?_) | (with_reducible refine below_drewN ?_ _) | ((with_reducible refine Below.alloc ?_ ?_ _); rotate_left; focus ((try simp) <;> omega)) | ((with_reducible refine Below.setCell ?_ ?_ _); rotate_left; focus ((try simp) <;> omega)) | ((with_reducible refine Below.trans ?_ (Below.mono (by assumption) ?_)); rotate_left; focus ((try simp) <;> omega))))⟩
            · rw [if_neg (by simp)] at hs3
              have hse := Lib.hid hs3
              clear hs3
              replace hpr := Lib.hid hpr
              have hsf := stepW_ok hse.out
              by_cases h2 : x.phase.1 = 2
              · have hsw : Hid (stepW x 3 now = x) := Lib.hid (hsf.trans (by unfold stepF; rw [if_neg (by decide), if_neg (by decide), if_pos rfl, if_pos h2]))
                clear hsf
                have hp2 : (x.phase.1 != 2) = false := by rw [h2]; rfl
                replace h2 := Lib.hid h2
                go_enter Tryd.func17, Tryd.ntmps17
                go_wp2_with (first
                  | (go_at_call 11; go_must (refine (hva.out _ (by repeat (first | (with_reducible exact Below.refl _ _) | (with_reducible refine Below.drew ?_) | (with_reducible refine below_drewN ?_ _) | ((with_reducible refine Below.alloc ?_ ?_ _); rotate_left; focus ((try simp) <;> omega)) | ((with_reducible refine Below.setCell ?_ ?_ _); rotate_left; focus ((try simp) <;> omega)) | ((with_reducible refine Below.trans ?_ (Below.mono (by assumption) ?_)); rotate_left; focus ((try simp) <;> omega))))).mono ?_; rintro e w1 ⟨rfl, hb1⟩; have hz1 := hb1.size; (try simp at hz1); have hz1a : w.heap.size < w1.heap.size := (by omega); have hz1b : w.heap.size + 1 < w1.heap.size := (by omega); obtain ⟨hc1, hf1⟩ := blk_at hb1 w.heap.size (by (try simp) <;> omega); obtain ⟨hd1, hg1⟩ := blk_at hb1 (w.heap.size + 1) (by (try simp) <;> omega)))
                  | (go_at_call 31; go_must (refine (hin.out _).mono ?_; rintro e w2 ⟨rfl, rfl⟩))
                  | (go_at_call 32; go_must (refine (htm.out _).mono ?_; rintro e w3 ⟨rfl, rfl⟩)))
                exact bodyPost_ret (v := .tuple #[.agg (workE x).toArray, .int .i64 0]) (by simp [results, Tryd.results17, go_sem, hd1, hpr.out, workE]) rfl ⟨by rw [hse.out, hsw.out], (by repeat (first | (with_reducible exact Below.refl _ _) | (with_reducible refine Below.drew ?_) | (with_reducible refine below_drewN ?_ _) | ((with_reducible refine Below.alloc ?_ ?_ _); rotate_left; focus ((try simp) <;> omega)) | ((with_reducible refine Below.setCell ?_ ?_ _); rotate_left; focus ((try simp) <;> omega)) | ((with_reducible refine Below.trans ?_ (Below.mono (by assumption) ?_)); rotate_left; focus ((try simp) <;> omega))))⟩
              · have hsw : Hid (stepW x 3 now = { x with phase := ⟨2, by omega⟩, till := tillN now }) := Lib.hid (hsf.trans (by unfold stepF; rw [if_neg (by decide), if_neg (by decide), if_pos rfl, if_neg h2]))
                clear hsf
                have hp2 : (x.phase.1 != 2) = true := by rw [bne_iff_ne]; exact h2
                replace h2 := Lib.hid h2
                have hwr : IntKind.i64.wrap (now.1 + 5000) = now.1 + 5000 := IntWalk.i64_in _ (by omega)
                have htl : Hid ((tillN now).1 = min 1125899906842624 (now.1 + 5000)) := Lib.hid (by
                  show (if now.1 + 5000 < 1125899906842624 then now.1 + 5000 else 1125899906842624) = _
                  split <;> omega)
                go_enter Tryd.func17, Tryd.ntmps17
                go_wp2_with (first
                  | (go_at_call 11; go_must (refine (hva.out _ (by repeat (first | (with_reducible exact Below.refl _ _) | (with_reducible refine Below.drew ?_) | (with_reducible refine below_drewN ?_ _) | ((with_reducible refine Below.alloc ?_ ?_ _); rotate_left; focus ((try simp) <;> omega)) | ((with_reducible refine Below.setCell ?_ ?_ _); rotate_left; focus ((try simp) <;> omega)) | ((with_reducible refine Below.trans ?_ (Below.mono (by assumption) ?_)); rotate_left; focus ((try simp) <;> omega))))).mono ?_; rintro e w1 ⟨rfl, hb1⟩; have hz1 := hb1.size; (try simp at hz1); have hz1a : w.heap.size < w1.heap.size := (by omega); have hz1b : w.heap.size + 1 < w1.heap.size := (by omega); obtain ⟨hc1, hf1⟩ := blk_at hb1 w.heap.size (by (try simp) <;> omega); obtain ⟨hd1, hg1⟩ := blk_at hb1 (w.heap.size + 1) (by (try simp) <;> omega)))
                  | (go_at_call 31; go_must (refine (hin.out _).mono ?_; rintro e w2 ⟨rfl, rfl⟩))
                  | (go_at_call 32; go_must (refine (htm.out _).mono ?_; rintro e w3 ⟨rfl, rfl⟩)))
                exact bodyPost_ret (v := .tuple #[.agg (workE { x with phase := ⟨2, by omega⟩, till := tillN now }).toArray, .int .i64 0]) (by simp [results, Tryd.results17, go_sem, hd1, hpr.out, workE, htl.out]) rfl ⟨by rw [hse.out, hsw.out], (by repeat (first | (with_reducible exact Below.refl _ _) | (with_reducible refine Below.drew ?_) | (with_reducible refine below_drewN ?_ _) | ((with_reducible refine Below.alloc ?_ ?_ _); rotate_left; focus ((try simp) <;> omega)) | ((with_reducible refine Below.setCell ?_ ?_ _); rotate_left; focus ((try simp) <;> omega)) | ((with_reducible refine Below.trans ?_ (Below.mono (by assumption) ?_)); rotate_left; focus ((try simp) <;> omega))))⟩
          · rw [if_neg (fun e => h3 e.1)] at hs3
            have hse := Lib.hid hs3
            clear hs3
            have hsf := stepW_ok hse.out
            by_cases e1 : ev = 1
            · subst e1
              have hsw : Hid (stepW x 1 now = { x with beat := maxN x.beat now }) := Lib.hid (hsf.trans (by unfold stepF; rw [if_pos rfl]))
              clear hsf
              have hmx : Hid ((maxN x.beat now).1 = max x.beat.1 now.1) := Lib.hid (by unfold maxN; split <;> omega)
              go_enter Tryd.func17, Tryd.ntmps17
              go_wp2_with (first
                | (go_at_call 11; go_must (refine (hva.out _ (by repeat (first | (with_reducible exact Below.refl _ _) | (with_reducible refine Below.drew ?_) | (with_reducible refine below_drewN ?_ _) | ((with_reducible refine Below.alloc ?_ ?_ _); rotate_left; focus ((try simp) <;> omega)) | ((with_reducible refine Below.setCell ?_ ?_ _); rotate_left; focus ((try simp) <;> omega)) | ((with_reducible refine Below.trans ?_ (Below.mono (by assumption) ?_)); rotate_left; focus ((try simp) <;> omega))))).mono ?_; rintro e w1 ⟨rfl, hb1⟩; have hz1 := hb1.size; (try simp at hz1); have hz1a : w.heap.size < w1.heap.size := (by omega); have hz1b : w.heap.size + 1 < w1.heap.size := (by omega); obtain ⟨hc1, hf1⟩ := blk_at hb1 w.heap.size (by (try simp) <;> omega); obtain ⟨hd1, hg1⟩ := blk_at hb1 (w.heap.size + 1) (by (try simp) <;> omega)))
                | (go_at_call 31; go_must (refine (hin.out _).mono ?_; rintro e w2 ⟨rfl, rfl⟩))
                | (go_at_call 32; go_must (refine (htm.out _).mono ?_; rintro e w3 ⟨rfl, rfl⟩)))
              exact bodyPost_ret (v := .tuple #[.agg (workE { x with beat := maxN x.beat now }).toArray, .int .i64 0]) (by simp [results, Tryd.results17, go_sem, hd1, workE, hmx.out]) rfl ⟨by rw [hse.out, hsw.out], (by repeat (first | (with_reducible exact Below.refl _ _) | (with_reducible refine Below.drew ?_) | (with_reducible refine below_drewN ?_ _) | ((with_reducible refine Below.alloc ?_ ?_ _); rotate_left; focus ((try simp) <;> omega)) | ((with_reducible refine Below.setCell ?_ ?_ _); rotate_left; focus ((try simp) <;> omega)) | ((with_reducible refine Below.trans ?_ (Below.mono (by assumption) ?_)); rotate_left; focus ((try simp) <;> omega))))⟩
            by_cases e2 : ev = 2
            · subst e2
              by_cases hp0 : x.phase.1 = 0
              · have hsw : Hid (stepW x 2 now = { x with phase := ⟨1, by omega⟩ }) := Lib.hid (hsf.trans (by unfold stepF; rw [if_neg (by decide), if_pos rfl, if_pos hp0]))
                clear hsf
                have hp0z : (x.phase.1 == 0) = true := by rw [hp0]; rfl
                replace hp0 := Lib.hid hp0
                go_enter Tryd.func17, Tryd.ntmps17
                go_wp2_with (first
                  | (go_at_call 11; go_must (refine (hva.out _ (by repeat (first | (with_reducible exact Below.refl _ _) | (with_reducible refine Below.drew ?_) | (with_reducible refine below_drewN ?_ _) | ((with_reducible refine Below.alloc ?_ ?_ _); rotate_left; focus ((try simp) <;> omega)) | ((with_reducible refine Below.setCell ?_ ?_ _); rotate_left; focus ((try simp) <;> omega)) | ((with_reducible refine Below.trans ?_ (Below.mono (by assumption) ?_)); rotate_left; focus ((try simp) <;> omega))))).mono ?_; rintro e w1 ⟨rfl, hb1⟩; have hz1 := hb1.size; (try simp at hz1); have hz1a : w.heap.size < w1.heap.size := (by omega); have hz1b : w.heap.size + 1 < w1.heap.size := (by omega); obtain ⟨hc1, hf1⟩ := blk_at hb1 w.heap.size (by (try simp) <;> omega); obtain ⟨hd1, hg1⟩ := blk_at hb1 (w.heap.size + 1) (by (try simp) <;> omega)))
                  | (go_at_call 31; go_must (refine (hin.out _).mono ?_; rintro e w2 ⟨rfl, rfl⟩))
                  | (go_at_call 32; go_must (refine (htm.out _).mono ?_; rintro e w3 ⟨rfl, rfl⟩)))
                exact bodyPost_ret (v := .tuple #[.agg (workE { x with phase := ⟨1, by omega⟩ }).toArray, .int .i64 0]) (by simp [results, Tryd.results17, go_sem, hd1, workE]) rfl ⟨by rw [hse.out, hsw.out], (by repeat (first | (with_reducible exact Below.refl _ _) | (with_reducible refine Below.drew ?_) | (with_reducible refine below_drewN ?_ _) | ((with_reducible refine Below.alloc ?_ ?_ _); rotate_left; focus ((try simp) <;> omega)) | ((with_reducible refine Below.setCell ?_ ?_ _); rotate_left; focus ((try simp) <;> omega)) | ((with_reducible refine Below.trans ?_ (Below.mono (by assumption) ?_)); rotate_left; focus ((try simp) <;> omega))))⟩
              · have hsw : Hid (stepW x 2 now = x) := Lib.hid (hsf.trans (by unfold stepF; rw [if_neg (by decide), if_pos rfl, if_neg hp0]))
                clear hsf
                have hp0z : (x.phase.1 == 0) = false := by rw [beq_eq_false_iff_ne]; exact hp0
                replace hp0 := Lib.hid hp0
                go_enter Tryd.func17, Tryd.ntmps17
                go_wp2_with (first
                  | (go_at_call 11; go_must (refine (hva.out _ (by repeat (first | (with_reducible exact Below.refl _ _) | (with_reducible refine Below.drew ?_) | (with_reducible refine below_drewN ?_ _) | ((with_reducible refine Below.alloc ?_ ?_ _); rotate_left; focus ((try simp) <;> omega)) | ((with_reducible refine Below.setCell ?_ ?_ _); rotate_left; focus ((try simp) <;> omega)) | ((with_reducible refine Below.trans ?_ (Below.mono (by assumption) ?_)); rotate_left; focus ((try simp) <;> omega))))).mono ?_; rintro e w1 ⟨rfl, hb1⟩; have hz1 := hb1.size; (try simp at hz1); have hz1a : w.heap.size < w1.heap.size := (by omega); have hz1b : w.heap.size + 1 < w1.heap.size := (by omega); obtain ⟨hc1, hf1⟩ := blk_at hb1 w.heap.size (by (try simp) <;> omega); obtain ⟨hd1, hg1⟩ := blk_at hb1 (w.heap.size + 1) (by (try simp) <;> omega)))
                  | (go_at_call 31; go_must (refine (hin.out _).mono ?_; rintro e w2 ⟨rfl, rfl⟩))
                  | (go_at_call 32; go_must (refine (htm.out _).mono ?_; rintro e w3 ⟨rfl, rfl⟩)))
                exact bodyPost_ret (v := .tuple #[.agg (workE x).toArray, .int .i64 0]) (by simp [results, Tryd.results17, go_sem, hd1, workE]) rfl ⟨by rw [hse.out, hsw.out], (by repeat (first | (with_reducible exact Below.refl _ _) | (with_reducible refine Below.drew ?_) | (with_reducible refine below_drewN ?_ _) | ((with_reducible refine Below.alloc ?_ ?_ _); rotate_left; focus ((try simp) <;> omega)) | ((with_reducible refine Below.setCell ?_ ?_ _); rotate_left; focus ((try simp) <;> omega)) | ((with_reducible refine Below.trans ?_ (Below.mono (by assumption) ?_)); rotate_left; focus ((try simp) <;> omega))))⟩
            have e4 : ev = 4 := by omega
            subst e4
            have hsw : Hid (stepW x 4 now = { x with phase := ⟨3, by omega⟩, till := ⟨0, by omega⟩ }) := Lib.hid (hsf.trans (by unfold stepF; rw [if_neg (by decide), if_neg (by decide), if_neg (by decide)]))
            clear hsf
            go_enter Tryd.func17, Tryd.ntmps17
            go_wp2_with (first
              | (go_at_call 11; go_must (refine (hva.out _ (by repeat (first | (with_reducible exact Below.refl _ _) | (with_reducible refine Below.drew ?_) | (with_reducible refine below_drewN ?_ _) | ((with_reducible refine Below.alloc ?_ ?_ _); rotate_left; focus ((try simp) <;> omega)) | ((with_reducible refine Below.setCell ?_ ?_ _); rotate_left; focus ((try simp) <;> omega)) | ((with_reducible refine Below.trans ?_ (Below.mono (by assumption) ?_)); rotate_left; focus ((try simp) <;> omega))))).mono ?_; rintro e w1 ⟨rfl, hb1⟩; have hz1 := hb1.size; (try simp at hz1); have hz1a : w.heap.size < w1.heap.size := (by omega); have hz1b : w.heap.size + 1 < w1.heap.size := (by omega); obtain ⟨hc1, hf1⟩ := blk_at hb1 w.heap.size (by (try simp) <;> omega); obtain ⟨hd1, hg1⟩ := blk_at hb1 (w.heap.size + 1) (by (try simp) <;> omega)))
              | (go_at_call 31; go_must (refine (hin.out _).mono ?_; rintro e w2 ⟨rfl, rfl⟩))
              | (go_at_call 32; go_must (refine (htm.out _).mono ?_; rintro e w3 ⟨rfl, rfl⟩)))
            exact bodyPost_ret (v := .tuple #[.agg (workE { x with phase := ⟨3, by omega⟩, till := ⟨0, by omega⟩ }).toArray, .int .i64 0]) (by simp [results, Tryd.results17, go_sem, hd1, workE]) rfl ⟨by rw [hse.out, hsw.out], (by repeat (first | (with_reducible exact Below.refl _ _) | (with_reducible refine Below.drew ?_) | (with_reducible refine below_drewN ?_ _) | ((with_reducible refine Below.alloc ?_ ?_ _); rotate_left; focus ((try simp) <;> omega)) | ((with_reducible refine Below.setCell ?_ ?_ _); rotate_left; focus ((try simp) <;> omega)) | ((with_reducible refine Below.trans ?_ (Below.mono (by assumption) ?_)); rotate_left; focus ((try simp) <;> omega))))⟩
      · rw [decide_eq_true h1, decide_eq_false h4] at hin0
        have hin := Lib.hid hin0
        clear hin0
        have htm := Lib.hid htm0
        clear htm0
        have hse := Lib.hid (stepE_2 (x := x) (ev := ev) (now := now.1) h0 (Or.inr (Or.inl (by omega))))
        have hsw := Lib.hid (stepW_no hse.out (by decide))
        replace h0 := Lib.hid h0
        go_enter Tryd.func17, Tryd.ntmps17
        go_wp2_with (first
          | (go_at_call 11; go_must (refine (hva.out _ (by repeat (first | (with_reducible exact Below.refl _ _) | (with_reducible refine Below.drew ?_) | (with_reducible refine below_drewN ?_ _) | ((with_reducible refine Below.alloc ?_ ?_ _); rotate_left; focus ((try simp) <;> omega)) | ((with_reducible refine Below.setCell ?_ ?_ _); rotate_left; focus ((try simp) <;> omega)) | ((with_reducible refine Below.trans ?_ (Below.mono (by assumption) ?_)); rotate_left; focus ((try simp) <;> omega))))).mono ?_; rintro e w1 ⟨rfl, hb1⟩; have hz1 := hb1.size; (try simp at hz1); have hz1a : w.heap.size < w1.heap.size := (by omega); have hz1b : w.heap.size + 1 < w1.heap.size := (by omega); obtain ⟨hc1, hf1⟩ := blk_at hb1 w.heap.size (by (try simp) <;> omega); obtain ⟨hd1, hg1⟩ := blk_at hb1 (w.heap.size + 1) (by (try simp) <;> omega)))
          | (go_at_call 31; go_must (refine (hin.out _).mono ?_; rintro e w2 ⟨rfl, rfl⟩))
          | (go_at_call 32; go_must (refine (htm.out _).mono ?_; rintro e w3 ⟨rfl, rfl⟩)))
        exact bodyPost_ret (v := .tuple #[.agg (workE x).toArray, .int .i64 2]) (by simp [results, Tryd.results17, go_sem, hd1, workE]) rfl ⟨by rw [hse.out, hsw.out], (by repeat (first | (with_reducible exact Below.refl _ _) | (with_reducible refine Below.drew ?_) | (with_reducible refine below_drewN ?_ _) | ((with_reducible refine Below.alloc ?_ ?_ _); rotate_left; focus ((try simp) <;> omega)) | ((with_reducible refine Below.setCell ?_ ?_ _); rotate_left; focus ((try simp) <;> omega)) | ((with_reducible refine Below.trans ?_ (Below.mono (by assumption) ?_)); rotate_left; focus ((try simp) <;> omega))))⟩
    · rw [decide_eq_false h1, Bool.false_and] at hin0
      have hin := Lib.hid hin0
      clear hin0
      have htm := Lib.hid htm0
      clear htm0
      have hse := Lib.hid (stepE_2 (x := x) (ev := ev) (now := now.1) h0 (Or.inl (by omega)))
      have hsw := Lib.hid (stepW_no hse.out (by decide))
      replace h0 := Lib.hid h0
      go_enter Tryd.func17, Tryd.ntmps17
      go_wp2_with (first
        | (go_at_call 11; go_must (refine (hva.out _ (by repeat (first | (with_reducible exact Below.refl _ _) | (with_reducible refine Below.drew ?_) | (with_reducible refine below_drewN ?_ _) | ((with_reducible refine Below.alloc ?_ ?_ _); rotate_left; focus ((try simp) <;> omega)) | ((with_reducible refine Below.setCell ?_ ?_ _); rotate_left; focus ((try simp) <;> omega)) | ((with_reducible refine Below.trans ?_ (Below.mono (by assumption) ?_)); rotate_left; focus ((try simp) <;> omega))))).mono ?_; rintro e w1 ⟨rfl, hb1⟩; have hz1 := hb1.size; (try simp at hz1); have hz1a : w.heap.size < w1.heap.size := (by omega); have hz1b : w.heap.size + 1 < w1.heap.size := (by omega); obtain ⟨hc1, hf1⟩ := blk_at hb1 w.heap.size (by (try simp) <;> omega); obtain ⟨hd1, hg1⟩ := blk_at hb1 (w.heap.size + 1) (by (try simp) <;> omega)))
        | (go_at_call 31; go_must (refine (hin.out _).mono ?_; rintro e w2 ⟨rfl, rfl⟩))
        | (go_at_call 32; go_must (refine (htm.out _).mono ?_; rintro e w3 ⟨rfl, rfl⟩)))
      exact bodyPost_ret (v := .tuple #[.agg (workE x).toArray, .int .i64 2]) (by simp [results, Tryd.results17, go_sem, hd1, workE]) rfl ⟨by rw [hse.out, hsw.out], (by repeat (first | (with_reducible exact Below.refl _ _) | (with_reducible refine Below.drew ?_) | (with_reducible refine below_drewN ?_ _) | ((with_reducible refine Below.alloc ?_ ?_ _); rotate_left; focus ((try simp) <;> omega)) | ((with_reducible refine Below.setCell ?_ ?_ _); rotate_left; focus ((try simp) <;> omega)) | ((with_reducible refine Below.trans ?_ (Below.mono (by assumption) ?_)); rotate_left; focus ((try simp) <;> omega))))⟩
  · have hse := Lib.hid (stepE_1 (x := x) (ev := ev) (now := now.1) h0)
    have hsw := Lib.hid (stepW_no hse.out (by decide))
    have hva := Lib.hid hv
    have hin := Lib.hid hin0
    have htm := Lib.hid htm0
    clear hv hin0 htm0
    have hne : (wErr x != 0) = true := by rw [bne_iff_ne]; exact h0
    generalize wErr x = E at *
    replace h0 := Lib.hid h0
    go_enter Tryd.func17, Tryd.ntmps17
    go_wp2_with (first
      | (go_at_call 11; go_must (refine (hva.out _ (by repeat (first | (with_reducible exact Below.refl _ _) | (with_reducible refine Below.drew ?_) | (with_reducible refine below_drewN ?_ _) | ((with_reducible refine Below.alloc ?_ ?_ _); rotate_left; focus ((try simp) <;> omega)) | ((with_reducible refine Below.setCell ?_ ?_ _); rotate_left; focus ((try simp) <;> omega)) | ((with_reducible refine Below.trans ?_ (Below.mono (by assumption) ?_)); rotate_left; focus ((try simp) <;> omega))))).mono ?_; rintro e w1 ⟨rfl, hb1⟩; have hz1 := hb1.size; (try simp at hz1); have hz1a : w.heap.size < w1.heap.size := (by omega); have hz1b : w.heap.size + 1 < w1.heap.size := (by omega); obtain ⟨hc1, hf1⟩ := blk_at hb1 w.heap.size (by (try simp) <;> omega); obtain ⟨hd1, hg1⟩ := blk_at hb1 (w.heap.size + 1) (by (try simp) <;> omega)))
      | (go_at_call 31; go_must (refine (hin.out _).mono ?_; rintro e w2 ⟨rfl, rfl⟩))
      | (go_at_call 32; go_must (refine (htm.out _).mono ?_; rintro e w3 ⟨rfl, rfl⟩)))
    exact bodyPost_ret (v := .tuple #[.agg (workE x).toArray, .int .i64 1]) (by simp [results, Tryd.results17, go_sem, hd1, workE]) rfl ⟨by rw [hse.out, hsw.out], (by repeat (first | (with_reducible exact Below.refl _ _) | (with_reducible refine Below.drew ?_) | (with_reducible refine below_drewN ?_ _) | ((with_reducible refine Below.alloc ?_ ?_ _); rotate_left; focus ((try simp) <;> omega)) | ((with_reducible refine Below.setCell ?_ ?_ _); rotate_left; focus ((try simp) <;> omega)) | ((with_reducible refine Below.trans ?_ (Below.mono (by assumption) ?_)); rotate_left; focus ((try simp) <;> omega))))⟩
end Go.Proofs.YtnahbfmbmpoljaaDoor
