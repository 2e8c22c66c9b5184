/-
  The walks of the queue: a job pushed, by the reference and by the program.
-/
import Derived.Test.YtnhfbignnnicnaaDoorQue7



namespace Go.Proofs.YtnhfbignnnicnaaDoor
open Go.RowKit

def pushE (l : List Pend) (p : Pend) : Int := if errP p ≠ 0 then errP p else if 0 ≤ findI p.run p.job l then 7 else if 4096 ≤ l.length then 21 else 0
def pushL (l : List Pend) (p : Pend) : List Pend := if pushE l p = 0 then l ++ [p] else l
theorem pushE_err {l : List Pend} {p : Pend} (h : errP p ≠ 0) : pushE l p = errP p := by unfold pushE; rw [if_pos h]
theorem pushE_has {l : List Pend} {p : Pend} (h : errP p = 0) (h2 : 0 ≤ findI p.run p.job l) : pushE l p = 7 := by unfold pushE; rw [if_neg (by omega), if_pos h2]
theorem pushE_full {l : List Pend} {p : Pend} (h : errP p = 0) (h2 : ¬ 0 ≤ findI p.run p.job l) (h3 : 4096 ≤ l.length) : pushE l p = 21 := by unfold pushE; rw [if_neg (by omega), if_neg h2, if_pos h3]
theorem pushE_ok {l : List Pend} {p : Pend} (h : errP p = 0) (h2 : ¬ 0 ≤ findI p.run p.job l) (h3 : ¬ 4096 ≤ l.length) : pushE l p = 0 := by unfold pushE; rw [if_neg (by omega), if_neg h2, if_neg h3]
theorem pushL_no {l : List Pend} {p : Pend} (h : pushE l p ≠ 0) : pushL l p = l := by unfold pushL; rw [if_neg h]
theorem pushL_ok {l : List Pend} {p : Pend} (h : pushE l p = 0) : pushL l p = l ++ [p] := by unfold pushL; rw [if_pos h]
theorem LabPend.alloc {w : World} {B : Nat} {x : Pend} (h : LabPend w B x) (hB : B ≤ w.heap.size) (o : Obj) : LabPend (w.alloc o) B x := h.below ((Below.refl B w).alloc hB o) (Nat.le_refl _)

set_option maxRecDepth 100000 in
set_option maxHeartbeats 4000000 in
theorem rpush_any (A : Option Addr) (c : Nat) (l : List Pend) (p : Pend) (w : World) (hr : RwL w w.heap.size A l) (hp : LabPend w w.heap.size p) (hn : l.length ≤ 5000) :
    Calls Tryd.prog 15 #[.slice A l.length c, .agg #[.string p.run.1, .string p.job.1, .string p.proj.1, .int .i64 p.prio.1, .int .i64 p.since.1, .int .i64 p.cost.1, .slice p.labsA p.labs.length p.labsC, .int .i64 p.trust.1, .string p.group.1, .int .i64 p.policy.1]] w fun e w' => ∃ A' l' c', e = .returned (.tuple #[.slice A' l'.length c', .int .i64 (pushE l p)]) ∧ RwL w' w'.heap.size A' l' ∧ l'.map core = (pushL l p).map core ∧ Below w.heap.size w w' := by
  obtain ⟨inf, hi0, iz0, iz1, iz2⟩ := info_parts pend_info
  have hrt : Hid (∀ W, Calls Tryd.prog 33 #[.agg #[.string p.run.1, .string p.job.1, .string p.proj.1, .int .i64 p.prio.1, .int .i64 p.since.1, .int .i64 p.cost.1, .slice p.labsA p.labs.length p.labsC, .int .i64 p.trust.1, .string p.group.1, .int .i64 p.policy.1]] W fun e w' => e = .returned (.int .i64 (errP p)) ∧ Below W.heap.size W w') := Lib.hid fun W => right_any p W
  have hfd : Hid (∀ W, Below w.heap.size w W → Calls Tryd.prog 22 #[.slice A l.length c, .agg #[.string p.run.1, .string p.job.1]] W fun e w' => e = .returned (.int .i64 (findI p.run p.job l)) ∧ Below W.heap.size W w') := Lib.hid fun W hb => find_any A c l p.run p.job W ((hr.row.below hb (Nat.le_refl _)).more hb.size) (by omega)
  have hrd : Hid (∀ W, Below w.heap.size w W → RwL W W.heap.size A l) := Lib.hid fun W hb => (hr.below hb (Nat.le_refl _)).more hb.size
  have hpd : Hid (∀ W, Below w.heap.size w W → LabPend W W.heap.size p) := Lib.hid fun W hb => (hp.below hb (Nat.le_refl _)).more hb.size
  clear hr hp
  by_cases h1 : errP p = 0
  · rw [h1] at hrt
    by_cases h2 : 0 ≤ findI p.run p.job l
    · have he := pushE_has h1 h2
      have hl := pushL_no (l := l) (p := p) (by rw [he]; decide)
      rw [he, hl]
      replace he := Lib.hid he
      replace hl := Lib.hid hl
      go_enter Tryd.func15, Tryd.ntmps15
      go_wp2_with (first
        | (go_at_call 33; go_must (refine (hrt.out _).mono ?_; rintro e w1 ⟨rfl, hb1⟩; have hz1 := hb1.size; (try simp at hz1); obtain ⟨hc1, hf1⟩ := blk_at hb1 w.heap.size (by (try simp) <;> omega)))
        | (go_at_call 22; go_must (refine (hfd.out _ (by repeat (first | (with_reducible exact Below.refl _ _) | (with_reducible refine Below.drew ?_) | (with_reducible refine below_drewN ?_ _) | ((with_reducible refine Below.alloc ?_ ?_ _); rotate_left; focus ((try simp) <;> omega)) | ((with_reducible refine Below.setCell ?_ ?_ _); rotate_left; focus ((try simp) <;> omega)) | ((with_reducible refine Below.trans ?_ (Below.mono (by assumption) ?_)); rotate_left; focus ((try simp) <;> omega))))).mono ?_; rintro e w2 ⟨rfl, hb2⟩; have hz2 := hb2.size)))
      exact bodyPost_ret (v := .tuple #[.slice A l.length c, .int .i64 (7)]) (by simp [results, Tryd.results15, go_sem]) rfl ⟨A, l, c, rfl, hrd.out _ (by repeat (first | (with_reducible exact Below.refl _ _) | (with_reducible refine Below.drew ?_) | (with_reducible refine below_drewN ?_ _) | ((with_reducible refine Below.alloc ?_ ?_ _); rotate_left; focus ((try simp) <;> omega)) | ((with_reducible refine Below.setCell ?_ ?_ _); rotate_left; focus ((try simp) <;> omega)) | ((with_reducible refine Below.trans ?_ (Below.mono (by assumption) ?_)); rotate_left; focus ((try simp) <;> omega)))), rfl, (by repeat (first | (with_reducible exact Below.refl _ _) | (with_reducible refine Below.drew ?_) | (with_reducible refine below_drewN ?_ _) | ((with_reducible refine Below.alloc ?_ ?_ _); rotate_left; focus ((try simp) <;> omega)) | ((with_reducible refine Below.setCell ?_ ?_ _); rotate_left; focus ((try simp) <;> omega)) | ((with_reducible refine Below.trans ?_ (Below.mono (by assumption) ?_)); rotate_left; focus ((try simp) <;> omega))))⟩
    · by_cases h3 : 4096 ≤ l.length
      · have he := pushE_full h1 h2 h3
        have hl := pushL_no (l := l) (p := p) (by rw [he]; decide)
        rw [he, hl]
        replace he := Lib.hid he
        replace hl := Lib.hid hl
        have h3z : (4096 : Int) ≤ (l.length : Int) := by omega
        go_enter Tryd.func15, Tryd.ntmps15
        go_wp2_with (first
          | (go_at_call 33; go_must (refine (hrt.out _).mono ?_; rintro e w1 ⟨rfl, hb1⟩; have hz1 := hb1.size; (try simp at hz1); obtain ⟨hc1, hf1⟩ := blk_at hb1 w.heap.size (by (try simp) <;> omega)))
          | (go_at_call 22; go_must (refine (hfd.out _ (by repeat (first | (with_reducible exact Below.refl _ _) | (with_reducible refine Below.drew ?_) | (with_reducible refine below_drewN ?_ _) | ((with_reducible refine Below.alloc ?_ ?_ _); rotate_left; focus ((try simp) <;> omega)) | ((with_reducible refine Below.setCell ?_ ?_ _); rotate_left; focus ((try simp) <;> omega)) | ((with_reducible refine Below.trans ?_ (Below.mono (by assumption) ?_)); rotate_left; focus ((try simp) <;> omega))))).mono ?_; rintro e w2 ⟨rfl, hb2⟩; have hz2 := hb2.size)))
        exact bodyPost_ret (v := .tuple #[.slice A l.length c, .int .i64 (21)]) (by simp [results, Tryd.results15, go_sem]) rfl ⟨A, l, c, rfl, hrd.out _ (by repeat (first | (with_reducible exact Below.refl _ _) | (with_reducible refine Below.drew ?_) | (with_reducible refine below_drewN ?_ _) | ((with_reducible refine Below.alloc ?_ ?_ _); rotate_left; focus ((try simp) <;> omega)) | ((with_reducible refine Below.setCell ?_ ?_ _); rotate_left; focus ((try simp) <;> omega)) | ((with_reducible refine Below.trans ?_ (Below.mono (by assumption) ?_)); rotate_left; focus ((try simp) <;> omega)))), rfl, (by repeat (first | (with_reducible exact Below.refl _ _) | (with_reducible refine Below.drew ?_) | (with_reducible refine below_drewN ?_ _) | ((with_reducible refine Below.alloc ?_ ?_ _); rotate_left; focus ((try simp) <;> omega)) | ((with_reducible refine Below.setCell ?_ ?_ _); rotate_left; focus ((try simp) <;> omega)) | ((with_reducible refine Below.trans ?_ (Below.mono (by assumption) ?_)); rotate_left; focus ((try simp) <;> omega))))⟩
      · have he := pushE_ok h1 h2 h3
        have hl := pushL_ok he
        rw [he, hl]
        replace he := Lib.hid he
        replace hl := Lib.hid hl
        have h3z : ¬ (4096 : Int) ≤ (l.length : Int) := by omega
        go_enter Tryd.func15, Tryd.ntmps15
        go_wp2_with (first
          | (go_at_call 33; go_must (refine (hrt.out _).mono ?_; rintro e w1 ⟨rfl, hb1⟩; have hz1 := hb1.size; (try simp at hz1); obtain ⟨hc1, hf1⟩ := blk_at hb1 w.heap.size (by (try simp) <;> omega)))
          | (go_at_call 22; go_must (refine (hfd.out _ (by repeat (first | (with_reducible exact Below.refl _ _) | (with_reducible refine Below.drew ?_) | (with_reducible refine below_drewN ?_ _) | ((with_reducible refine Below.alloc ?_ ?_ _); rotate_left; focus ((try simp) <;> omega)) | ((with_reducible refine Below.setCell ?_ ?_ _); rotate_left; focus ((try simp) <;> omega)) | ((with_reducible refine Below.trans ?_ (Below.mono (by assumption) ?_)); rotate_left; focus ((try simp) <;> omega))))).mono ?_; rintro e w2 ⟨rfl, hb2⟩; have hz2 := hb2.size; (try simp at hz2); obtain ⟨hc2, hf2⟩ := blk_at hb2 w.heap.size (by (try simp) <;> omega)))
          | (at_builtin
             refine wpList_append_rw _ rfl (.tmp 24) (.tmp 25) _ rfl pendE_len pendE_one w.heap.size 27 inf _ 128 Tryd.underlying22 hi0 iz0 iz1 iz2 rfl (by omega) (.slice none 0 0) [] rfl (Own.nil _ _ _) w2.heap.size A l.length c l rfl rfl (hrd.out _ (by repeat (first | (with_reducible exact Below.refl _ _) | (with_reducible refine Below.drew ?_) | (with_reducible refine below_drewN ?_ _) | ((with_reducible refine Below.alloc ?_ ?_ _); rotate_left; focus ((try simp) <;> omega)) | ((with_reducible refine Below.setCell ?_ ?_ _); rotate_left; focus ((try simp) <;> omega)) | ((with_reducible refine Below.trans ?_ (Below.mono (by assumption) ?_)); rotate_left; focus ((try simp) <;> omega))))).row ?_ ?_ ?_ ?_
             go_must (focus ((try simp [maxLen]) <;> omega))
             go_must (focus ((try simp) <;> omega))
             go_must (focus ((try simp) <;> omega))
             intro v3 w3 hown3 hg3 hat3
             have hz3 := hg3.size
             have hb02 : Below w.heap.size w w2 := (by repeat (first | (with_reducible exact Below.refl _ _) | (with_reducible refine Below.drew ?_) | (with_reducible refine below_drewN ?_ _) | ((with_reducible refine Below.alloc ?_ ?_ _); rotate_left; focus ((try simp) <;> omega)) | ((with_reducible refine Below.setCell ?_ ?_ _); rotate_left; focus ((try simp) <;> omega)) | ((with_reducible refine Below.trans ?_ (Below.mono (by assumption) ?_)); rotate_left; focus ((try simp) <;> omega))))
             go_must (have hbw3 : Below w.heap.size w w3 := hb02.grown hg3 (by omega) (fun g hg => by simp [Value.ownBlock] at hg))
             go_must (have hc3 : ∀ o, w3.cell? ⟨w.heap.size, o, none⟩ = w2.cell? ⟨w.heap.size, o, none⟩ := fun o => World.cell?_of_block (hg3.block w.heap.size (by omega) (by simp [Value.ownBlock])))
             rw [List.nil_append] at hown3
             have hp3 := hpd.out w3 hbw3
             have hr3 := hrd.out w3 hbw3)
          | (at_builtin
             go_must (refine wpList_append_rw _ rfl (.tmp 27) (.tmp 29) _ rfl pendE_len pendE_one w.heap.size 27 inf _ 128 Tryd.underlying22 hi0 iz0 iz1 iz2 rfl (by omega) v3 l rfl (hown3.alloc _) _ (some ⟨w3.heap.size, 0, none⟩) 1 1 [p] rfl rfl ((Own.lit (enc := pendE) (l := [p]) (base := 0) (pendE p).toArray (Nat.zero_le _) (by simp [maxLen]) (by simp) pendE_len).reads pendE_len) ?_ ?_ ?_ ?_)
             go_must (focus ((try simp [maxLen]) <;> omega))
             go_must (focus ((try simp) <;> omega))
             go_must (focus ((try simp) <;> omega))
             intro v4 w4 hown4 hg4 hat4
             have hz4 := hg4.size
             have hb34 : Below w.heap.size w (w3.alloc (.cells (pendE p).toArray 27)) := hbw3.alloc (by omega) _
             go_must (have hbw4 : Below w.heap.size w w4 := hb34.grown hg4 (by simp; omega) (fun g hg => (hown3.lt g hg).1))))
        obtain ⟨A4, c4, rfl, hc4, hm4, _⟩ := hown4.form
        exact bodyPost_ret (v := .tuple #[.slice A4 (l ++ [p]).length c4, .int .i64 0]) (by simp [results, Tryd.results15, go_sem]) rfl ⟨A4, l ++ [p], c4, rfl, ⟨hown4.reads pendE_len, fun x hx => by
          rcases List.mem_append.1 hx with h | h
          · exact (hrd.out w4 hbw4).labs x h
          · obtain rfl : x = p := by simpa using h
            exact hpd.out w4 hbw4⟩, rfl, hbw4⟩
  · have he := pushE_err (l := l) h1
    have hl := pushL_no (l := l) (p := p) (by rw [he]; exact h1)
    rw [he, hl]
    replace he := Lib.hid he
    replace hl := Lib.hid hl
    go_enter Tryd.func15, Tryd.ntmps15
    go_wp2_with (first
      | (go_at_call 33; go_must (refine (hrt.out _).mono ?_; rintro e w1 ⟨rfl, hb1⟩; have hz1 := hb1.size)))
    exact bodyPost_ret (v := .tuple #[.slice A l.length c, .int .i64 (errP p)]) (by simp [results, Tryd.results15, go_sem]) rfl ⟨A, l, c, rfl, hrd.out _ (by repeat (first | (with_reducible exact Below.refl _ _) | (with_reducible refine Below.drew ?_) | (with_reducible refine below_drewN ?_ _) | ((with_reducible refine Below.alloc ?_ ?_ _); rotate_left; focus ((try simp) <;> omega)) | ((with_reducible refine Below.setCell ?_ ?_ _); rotate_left; focus ((try simp) <;> omega)) | ((with_reducible refine Below.trans ?_ (Below.mono (by assumption) ?_)); rotate_left; focus ((try simp) <;> omega)))), rfl, (by repeat (first | (with_reducible exact Below.refl _ _) | (with_reducible refine Below.drew ?_) | (with_reducible refine below_drewN ?_ _) | ((with_reducible refine Below.alloc ?_ ?_ _); rotate_left; focus ((try simp) <;> omega)) | ((with_reducible refine Below.setCell ?_ ?_ _); rotate_left; focus ((try simp) <;> omega)) | ((with_reducible refine Below.trans ?_ (Below.mono (by assumption) ?_)); rotate_left; focus ((try simp) <;> omega))))⟩
end Go.Proofs.YtnhfbignnnicnaaDoor
