/-
  The walks of groups: a job leaves all groups, by the program (the walk).
-/
import Derived.Test.YtbellobjajnlkaaDoorCon24
import Derived.Test.YtbellobjajnlkaaDoorCon23



namespace Go.Proofs.YtbellobjajnlkaaDoor
open Go.RowKit

attribute [local go_sem ↓] eq_ref ne_ref
theorem blk_same (x : Grp) (run job : Str) (D : List JRef) : blkG (⟨x.name, run, job, x.waitA, x.waitC, D⟩ : Grp) = blkG x := by
  unfold blkG
  cases x.waitA <;> rfl
theorem dropG_eq {x : Grp} {r : JRef} {D : List JRef} (hD : outR x.wait r = D) (run job : Str) (h : (⟨run, job⟩ : JRef) = if (⟨x.run, x.job⟩ : JRef) = r then zR else ⟨x.run, x.job⟩) : (⟨x.name, run, job, x.waitA, x.waitC, D⟩ : Grp).g = dropG r x.g := by
  show (⟨x.name, ⟨run, job⟩, D⟩ : G) = ⟨x.name, if (⟨x.run, x.job⟩ : JRef) = r then zR else ⟨x.run, x.job⟩, outR x.wait r⟩
  rw [h, hD]
set_option maxRecDepth 100000 in
set_option maxHeartbeats 8000000 in
theorem leave_some (A : Option Addr) (c : Nat) (l : List Grp) (r : JRef) (w : World) (hr : RwG w w.heap.size A l) (hlc : l.length ≤ c) (hm : Mild l) (hG : Glob w) (hv : validB (l.map Grp.g) = true) (hpos : 0 < l.length) :
    Calls Tryd.prog 23 #[.slice A l.length c, .agg #[.string r.run.1, .string r.job.1]] w fun e w' => ∃ (A' : Option Addr) (c' : Nat) (l' : List Grp), e = .returned (.slice A' l'.length c') ∧ RwG w' w'.heap.size A' l' ∧ l'.length ≤ c' ∧ l'.map Grp.g = leaveL (l.map Grp.g) r ∧ Below w.heap.size w w' := by
  obtain ⟨inf, hi0, iz0, iz1, iz2⟩ := info_three grp_infoR
  have hva : Hid (∀ W, Below w.heap.size w W → Calls Tryd.prog 10 #[.slice A l.length c] W fun e w' => e = .returned (.int .i64 0) ∧ Below W.heap.size W w') := Lib.hid fun W hb => by
    have h := valid_any A c l W ((hr.below hb (Nat.le_refl _)).more hb.size) hlc hm (hG.keep hb)
    rwa [show validE (l.map Grp.g) = 0 by unfold validE; rw [hv]; rfl] at h
  have hco : Hid (∀ W, Below w.heap.size w W → Calls Tryd.prog 42 #[.slice A l.length c] W fun e w' => ∃ A' c' l', e = .returned (.slice A' l'.length c') ∧ OwnGL w' W.heap.size (.slice A' l'.length c') l' ∧ l'.map Grp.g = l.map Grp.g ∧ Below W.heap.size W w') := Lib.hid fun W hb => copied_any A c l W ((hr.below hb (Nat.le_refl _)).more hb.size) hm
  have hwl : ∀ l6 : List Grp, l6.map Grp.g = l.map Grp.g → ∀ x ∈ l6, x.wait.length ≤ 1000000 := fun l6 e x hx => by
    have h := List.mem_map_of_mem (f := Grp.g) hx
    rw [e, List.mem_map] at h
    obtain ⟨z, hz, ez⟩ := h
    have := hm.wait z hz
    rwa [show z.wait = x.wait from congrArg G.wait ez] at this
  have hlm := hm.len
  obtain ⟨W1, hW1, hbW, hzW, c0, c1⟩ : ∃ W, w.alloc (.cells #[.string r.run.1, .string r.job.1] 29) = W ∧ Below w.heap.size w W ∧ W.heap.size = w.heap.size + 1 ∧ W.cell? ⟨w.heap.size, 0, none⟩ = some (.string r.run.1) ∧ W.cell? ⟨w.heap.size, 1, none⟩ = some (.string r.job.1) := ⟨_, rfl, (Below.refl _ _).alloc (Nat.le_refl _) _, by simp, by go_simp, by go_simp⟩
  have hz1a := Nat.le_of_eq hzW
  have hz1b := Nat.le_of_eq hzW.symm
  replace hzW := Lib.hid hzW
  have hbx : Hid (∀ W, Below (w.heap.size + 1) W1 W → W.cell? ⟨w.heap.size, 0, none⟩ = some (.string r.run.1) ∧ W.cell? ⟨w.heap.size, 1, none⟩ = some (.string r.job.1)) := Lib.hid fun W hb => ⟨(hb.cell (p := ⟨w.heap.size, 0, none⟩) (Nat.lt_succ_self _)).trans c0, (hb.cell (p := ⟨w.heap.size, 1, none⟩) (Nat.lt_succ_self _)).trans c1⟩
  replace hwl := Lib.hid hwl
  replace hr := Lib.hid hr
  replace hm := Lib.hid hm
  replace hG := Lib.hid hG
  replace hv := Lib.hid hv
  go_enter Tryd.func23, Tryd.ntmps23
  go_wp2_with (first
    | (go_at_call 10; go_must (refine (hva.out _ (by repeat (first | (with_reducible exact Below.refl _ _) | (with_reducible refine Below.drew ?_) | (with_reducible refine below_drewN ?_ _) | ((with_reducible refine Below.alloc ?_ ?_ _); rotate_left; focus ((try simp) <;> omega)) | ((with_reducible refine Below.setCell ?_ ?_ _); rotate_left; focus ((try simp) <;> omega)) | ((with_reducible refine Below.trans ?_ (Below.mono (by assumption) ?_)); rotate_left; focus ((try simp) <;> omega))))).mono ?_; rintro e w1 ⟨rfl, hb1⟩; have hz1 := hb1.size; (try simp at hz1)))
    | (go_at_call 42; go_must (refine (hco.out _ (by repeat (first | (with_reducible exact Below.refl _ _) | (with_reducible refine Below.drew ?_) | (with_reducible refine below_drewN ?_ _) | ((with_reducible refine Below.alloc ?_ ?_ _); rotate_left; focus ((try simp) <;> omega)) | ((with_reducible refine Below.setCell ?_ ?_ _); rotate_left; focus ((try simp) <;> omega)) | ((with_reducible refine Below.trans ?_ (Below.mono (by assumption) ?_)); rotate_left; focus ((try simp) <;> omega))))).mono ?_; rintro e w6 ⟨A6, c6, l6, rfl, ho6, hl6, hb6⟩; have hz6 := hb6.size; (try simp at hz6); have hlen6 := Lib.hid (show l6.length = l.length by simpa using congrArg List.length hl6); obtain ⟨g6, cap6, hv6, hHg6, hgl6⟩ := World.ownsRow.form ho6.row (by rw [hlen6.out]; exact hpos); simp only [Value.slice.injEq] at hv6; obtain ⟨rfl, -, rfl⟩ := hv6; have hHg7 : w1.heap.size ≤ g6 := hHg6)))
  have hfix := Lib.hid (FixL.of ho6)
  have hst0 := Lib.hid (MidL.start (r := r) ho6)
  have hw16 : Below (w.heap.size + 1) W1 w6 := (by repeat (first | (with_reducible exact Below.refl _ _) | (with_reducible refine Below.drew ?_) | (with_reducible refine below_drewN ?_ _) | ((with_reducible refine Below.alloc ?_ ?_ _); rotate_left; focus ((try simp) <;> omega)) | ((with_reducible refine Below.setCell ?_ ?_ _); rotate_left; focus ((try simp) <;> omega)) | ((with_reducible refine Below.trans ?_ (Below.mono (by assumption) ?_)); rotate_left; focus ((try simp) <;> omega))))
  have hl6' := Lib.hid hl6
  replace ho6 := Lib.hid ho6
  clear hl6
  have hwB := Lib.hid hw16
  clear hw16
  go_loopw [5, 7, 15] (fun vo _ vi wr => ∃ (i : Nat) (L : List Grp), vi = .int .i64 (i : Int) ∧ i ≤ l6.length ∧ MidL w6 wr w1.heap.size g6 l6.length c6 l6 L vo r i ∧ w6.heap.size ≤ wr.heap.size ∧ Below (w.heap.size + 1) W1 wr) (fun _ _ vi _ => l6.length - (intOf vi).toNat)
  case atStart => exact ⟨0, [], rfl, Nat.zero_le _, hst0.out, Nat.le_refl _, hwB.out⟩
  case round =>
    obtain ⟨i, L, rfl, hi, hmid0, h6r, hbw⟩ := hrel
    have hlena := Nat.le_of_eq hlen6.out
    have hlenb := Nat.le_of_eq hlen6.out.symm
    have hln := drop_len hmid0
    have hmid := Lib.hid hmid0
    have hmaps := Lib.hid hmid0.maps
    by_cases hil : i < l6.length
    · obtain ⟨x, hx0⟩ := get_some hil
      have hxm := List.mem_of_getElem? hx0
      obtain ⟨q0, q1, q2, q3⟩ := grp_cells hmid0.row hx0
      have hxO := hmid0.rest i x (Nat.le_refl _) hx0
      have hxw := hwl.out l6 hl6'.out x hxm
      obtain ⟨b0, b1⟩ := hbx.out wr hbw
      obtain ⟨D, hD⟩ : ∃ D, outR x.wait r = D := ⟨_, rfl⟩
      have hxt : Hid (some wr.heap.size ≠ blkG x) := Lib.hid fun e => by
        have := hfix.out.lt x hxm _ e.symm
        omega
      have hdel : Hid (∀ W, Below wr.heap.size wr W → Calls Tryd.prog 48 #[.slice x.waitA x.wait.length x.waitC, .func (.func 49) #[] #[.pointer (some ⟨w.heap.size, 0, none⟩)]] W fun e w' => e = .returned (.slice x.waitA D.length x.waitC) ∧ Own jRefE 2 29 w' w1.heap.size (.slice x.waitA D.length x.waitC) D ∧ But W.heap.size (blkG x) W w' ∧ Below w1.heap.size W w') := Lib.hid fun W hb => by
        obtain ⟨d0, d1⟩ := hbx.out W (hbw.trans (hb.mono (by omega)))
        have h := delr_any x.waitA x.waitC x.wait r w.heap.size w1.heap.size W (Own.all hxO hb) (by have := hb.size; omega) hxw d0 d1 (fun e => by have := (OwnG.lt hxO e).1; omega)
        rw [hD] at h
        exact h
      have i0 : (0 : Int) ≤ (i : Int) := by omega
      have i1 : (i : Int) < (l6.length : Int) := by omega
      have hgr : g6 < wr.heap.size := by omega
      have hwr : w.heap.size < wr.heap.size := by omega
      have hx := Lib.hid hx0
      have hq := refB_iff x.run x.job r.run r.job
      have hqz := refB_zero x.run x.job
      have hzz : refB ⟨#[]⟩ ⟨#[]⟩ ⟨#[]⟩ ⟨#[]⟩ = true := (refB_zero zS zS).trans (decide_eq_true rfl)
      clear hxm hx0 hxO hmid0
      by_cases hrr : (⟨x.run, x.job⟩ : JRef) = r
      · have hs : refB x.run.1 x.job.1 r.run.1 r.job.1 = true := hq.trans (decide_eq_true hrr)
        have hyg := Lib.hid (dropG_eq hD zS zS (by rw [if_pos hrr]))
        clear hq hqz
        replace hrr := Lib.hid hrr
        rcases D with _ | ⟨d, D⟩
        · have hjn : Hid (jobsG (⟨x.name, zS, zS, x.waitA, x.waitC, []⟩ : Grp).g = []) := Lib.hid (jobs_zero rfl)
          replace hD := Lib.hid hD
          go_wp2_with (go_at_call 48; go_must (refine (hdel.out _ (by repeat (first | (with_reducible exact Below.refl _ _) | (with_reducible refine Below.drew ?_) | (with_reducible refine below_drewN ?_ _) | ((with_reducible refine Below.alloc ?_ ?_ _); rotate_left; focus ((try simp) <;> omega)) | ((with_reducible refine Below.setCell ?_ ?_ _); rotate_left; focus ((try simp) <;> omega)) | ((with_reducible refine Below.trans ?_ (Below.mono (by assumption) ?_)); rotate_left; focus ((try simp) <;> omega))))).mono ?_; rintro e w7 ⟨rfl, hO7, hbt7, hbl7⟩; have hz7 := hbt7.size; (try simp at hz7); obtain ⟨tc, tf⟩ := but_block hbt7 (g := wr.heap.size) (by (try simp) <;> omega) hxt.out; have k0 : w7.cell? ⟨wr.heap.size, 0, none⟩ = some (.string ((⟨x.name, zS, zS, x.waitA, x.waitC, []⟩ : Grp)).name.1) := (tc _).trans (by go_simp); have k1 : w7.cell? ⟨wr.heap.size, 1, none⟩ = some (.string ((⟨x.name, zS, zS, x.waitA, x.waitC, []⟩ : Grp)).run.1) := (tc _).trans (by go_simp); have k2 : w7.cell? ⟨wr.heap.size, 2, none⟩ = some (.string ((⟨x.name, zS, zS, x.waitA, x.waitC, []⟩ : Grp)).job.1) := (tc _).trans (by go_simp); have k3 : w7.cell? ⟨wr.heap.size, 3, none⟩ = some (.slice x.waitA x.wait.length x.waitC) := (tc _).trans (by go_simp); have kf : ∀ o, w7.frozen? ⟨wr.heap.size, o, none⟩ = false := (fun o => (tf o).trans (by go_simp)); have hz7a : wr.heap.size < w7.heap.size := (by omega); have hcore := Lib.hid fun (w8 : World) (h3 : Below wr.heap.size w7 w8) => hmid.out.core hfix.out h6r hx.out (show Below wr.heap.size wr _ from (by repeat (first | (with_reducible exact Below.refl _ _) | (with_reducible refine Below.drew ?_) | (with_reducible refine below_drewN ?_ _) | ((with_reducible refine Below.alloc ?_ ?_ _); rotate_left; focus ((try simp) <;> omega)) | ((with_reducible refine Below.setCell ?_ ?_ _); rotate_left; focus ((try simp) <;> omega)) | ((with_reducible refine Below.trans ?_ (Below.mono (by assumption) ?_)); rotate_left; focus ((try simp) <;> omega))))) hbt7 h3 (y := (⟨x.name, zS, zS, x.waitA, x.waitC, []⟩ : Grp)) hO7 (blk_same x _ _ _); clear tc tf hbt7 hO7))
          go_roundw
          case rel => exact ⟨i + 1, L, by go_num, by omega, (hcore.out _ (by repeat (first | (with_reducible exact Below.refl _ _) | (with_reducible refine Below.drew ?_) | (with_reducible refine below_drewN ?_ _) | ((with_reducible refine Below.alloc ?_ ?_ _); rotate_left; focus ((try simp) <;> omega)) | ((with_reducible refine Below.setCell ?_ ?_ _); rotate_left; focus ((try simp) <;> omega)) | ((with_reducible refine Below.trans ?_ (Below.mono (by assumption) ?_)); rotate_left; focus ((try simp) <;> omega))))).drop hmaps.out hx.out hyg.out hjn.out, by (try simp) <;> omega, (by repeat (first | (with_reducible exact Below.refl _ _) | (with_reducible refine Below.drew ?_) | (with_reducible refine below_drewN ?_ _) | ((with_reducible refine Below.alloc ?_ ?_ _); rotate_left; focus ((try simp) <;> omega)) | ((with_reducible refine Below.setCell ?_ ?_ _); rotate_left; focus ((try simp) <;> omega)) | ((with_reducible refine Below.trans ?_ (Below.mono (by assumption) ?_)); rotate_left; focus ((try simp) <;> omega))))⟩
          case measure => simp [intOf]; omega
        · have hjn : Hid (¬ jobsG (⟨x.name, zS, zS, x.waitA, x.waitC, d :: D⟩ : Grp).g = []) := Lib.hid (by rw [jobs_zero rfl]; exact List.cons_ne_nil _ _)
          replace hD := Lib.hid hD
          have hd1 : (0 : Int) < (D.length : Int) + 1 := by omega
          go_wp2_with (first
            | (go_at_call 48; go_must (refine (hdel.out _ (by repeat (first | (with_reducible exact Below.refl _ _) | (with_reducible refine Below.drew ?_) | (with_reducible refine below_drewN ?_ _) | ((with_reducible refine Below.alloc ?_ ?_ _); rotate_left; focus ((try simp) <;> omega)) | ((with_reducible refine Below.setCell ?_ ?_ _); rotate_left; focus ((try simp) <;> omega)) | ((with_reducible refine Below.trans ?_ (Below.mono (by assumption) ?_)); rotate_left; focus ((try simp) <;> omega))))).mono ?_; rintro e w7 ⟨rfl, hO7, hbt7, hbl7⟩; have hz7 := hbt7.size; (try simp at hz7); obtain ⟨tc, tf⟩ := but_block hbt7 (g := wr.heap.size) (by (try simp) <;> omega) hxt.out; have k0 : w7.cell? ⟨wr.heap.size, 0, none⟩ = some (.string ((⟨x.name, zS, zS, x.waitA, x.waitC, d :: D⟩ : Grp)).name.1) := (tc _).trans (by go_simp); have k1 : w7.cell? ⟨wr.heap.size, 1, none⟩ = some (.string ((⟨x.name, zS, zS, x.waitA, x.waitC, d :: D⟩ : Grp)).run.1) := (tc _).trans (by go_simp); have k2 : w7.cell? ⟨wr.heap.size, 2, none⟩ = some (.string ((⟨x.name, zS, zS, x.waitA, x.waitC, d :: D⟩ : Grp)).job.1) := (tc _).trans (by go_simp); have k3 : w7.cell? ⟨wr.heap.size, 3, none⟩ = some (.slice x.waitA x.wait.length x.waitC) := (tc _).trans (by go_simp); have kf : ∀ o, w7.frozen? ⟨wr.heap.size, o, none⟩ = false := (fun o => (tf o).trans (by go_simp)); have hz7a : wr.heap.size < w7.heap.size := (by omega); have hcore := Lib.hid fun (w8 : World) (h3 : Below wr.heap.size w7 w8) => hmid.out.core hfix.out h6r hx.out (show Below wr.heap.size wr _ from (by repeat (first | (with_reducible exact Below.refl _ _) | (with_reducible refine Below.drew ?_) | (with_reducible refine below_drewN ?_ _) | ((with_reducible refine Below.alloc ?_ ?_ _); rotate_left; focus ((try simp) <;> omega)) | ((with_reducible refine Below.setCell ?_ ?_ _); rotate_left; focus ((try simp) <;> omega)) | ((with_reducible refine Below.trans ?_ (Below.mono (by assumption) ?_)); rotate_left; focus ((try simp) <;> omega))))) hbt7 h3 (y := (⟨x.name, zS, zS, x.waitA, x.waitC, d :: D⟩ : Grp)) hO7 (blk_same x _ _ _); clear tc tf hbt7 hO7))
            | (first
              | (at_builtin
                 go_loud (refine wpList_append_rw _ rfl (.tmp 40) (.tmp 42) _ rfl grpE_len grpE_one w6.heap.size 45 inf _ 72 Tryd.underlying22 hi0 iz0 iz1 iz2 rfl (by omega) u5 L rfl ?_ (w7.heap.size + 1) _ 1 1 [(⟨x.name, zS, zS, x.waitA, x.waitC, d :: D⟩ : Grp)] rfl rfl ?_ ?_ ?_ ?_ ?_
                          · exact (hcore.out _ (by repeat (first | (with_reducible exact Below.refl _ _) | (with_reducible refine Below.drew ?_) | (with_reducible refine below_drewN ?_ _) | ((with_reducible refine Below.alloc ?_ ?_ _); rotate_left; focus ((try simp) <;> omega)) | ((with_reducible refine Below.setCell ?_ ?_ _); rotate_left; focus ((try simp) <;> omega)) | ((with_reducible refine Below.trans ?_ (Below.mono (by assumption) ?_)); rotate_left; focus ((try simp) <;> omega))))).out
                          · exact rw_litA (by simp) (by (try simp) <;> omega)
                          · (try simp [maxLen]) <;> omega
                          · (try simp) <;> omega
                          · (try simp) <;> omega
                          intro v9 w9 hown9 hg9 hat9
                          have hz9 := hg9.size
                          (try simp at hz9)
                          have hm9 := Lib.hid ((hcore.out _ (by repeat (first | (with_reducible exact Below.refl _ _) | (with_reducible refine Below.drew ?_) | (with_reducible refine below_drewN ?_ _) | ((with_reducible refine Below.alloc ?_ ?_ _); rotate_left; focus ((try simp) <;> omega)) | ((with_reducible refine Below.setCell ?_ ?_ _); rotate_left; focus ((try simp) <;> omega)) | ((with_reducible refine Below.trans ?_ (Below.mono (by assumption) ?_)); rotate_left; focus ((try simp) <;> omega))))).keep hfix.out hmaps.out hx.out hyg.out (blk_same x _ _ _) hjn.out (Below.refl _ _) hg9 hown9)
                          have hB9 := Lib.hid (Below.grown (show Below (w.heap.size + 1) W1 _ from (by repeat (first | (with_reducible exact Below.refl _ _) | (with_reducible refine Below.drew ?_) | (with_reducible refine below_drewN ?_ _) | ((with_reducible refine Below.alloc ?_ ?_ _); rotate_left; focus ((try simp) <;> omega)) | ((with_reducible refine Below.setCell ?_ ?_ _); rotate_left; focus ((try simp) <;> omega)) | ((with_reducible refine Below.trans ?_ (Below.mono (by assumption) ?_)); rotate_left; focus ((try simp) <;> omega))))) hg9 (by (try simp) <;> omega) fun q hq => by have := (hmid.out.out.lt q hq).1; omega)
                          clear hg9 hat9 hown9))
              | fail))
          go_roundw
          case rel => exact ⟨i + 1, L ++ [(⟨x.name, zS, zS, x.waitA, x.waitC, d :: D⟩ : Grp)], by go_num, by omega, hm9.out, by omega, hB9.out⟩
          case measure => simp [intOf]; omega
      · have hs : refB x.run.1 x.job.1 r.run.1 r.job.1 = false := hq.trans (decide_eq_false hrr)
        have hyg := Lib.hid (dropG_eq hD x.run x.job (by rw [if_neg hrr]))
        clear hq
        replace hrr := Lib.hid hrr
        by_cases hz : (⟨x.run, x.job⟩ : JRef) = zR
        · have hs0 : refB x.run.1 x.job.1 ⟨#[]⟩ ⟨#[]⟩ = true := hqz.trans (decide_eq_true hz)
          clear hqz
          rcases D with _ | ⟨d, D⟩
          · have hjn : Hid (jobsG (⟨x.name, x.run, x.job, x.waitA, x.waitC, []⟩ : Grp).g = []) := Lib.hid (jobs_zero hz)
            replace hD := Lib.hid hD
            replace hz := Lib.hid hz
            go_wp2_with (go_at_call 48; go_must (refine (hdel.out _ (by repeat (first | (with_reducible exact Below.refl _ _) | (with_reducible refine Below.drew ?_) | (with_reducible refine below_drewN ?_ _) | ((with_reducible refine Below.alloc ?_ ?_ _); rotate_left; focus ((try simp) <;> omega)) | ((with_reducible refine Below.setCell ?_ ?_ _); rotate_left; focus ((try simp) <;> omega)) | ((with_reducible refine Below.trans ?_ (Below.mono (by assumption) ?_)); rotate_left; focus ((try simp) <;> omega))))).mono ?_; rintro e w7 ⟨rfl, hO7, hbt7, hbl7⟩; have hz7 := hbt7.size; (try simp at hz7); obtain ⟨tc, tf⟩ := but_block hbt7 (g := wr.heap.size) (by (try simp) <;> omega) hxt.out; have k0 : w7.cell? ⟨wr.heap.size, 0, none⟩ = some (.string ((⟨x.name, x.run, x.job, x.waitA, x.waitC, []⟩ : Grp)).name.1) := (tc _).trans (by go_simp); have k1 : w7.cell? ⟨wr.heap.size, 1, none⟩ = some (.string ((⟨x.name, x.run, x.job, x.waitA, x.waitC, []⟩ : Grp)).run.1) := (tc _).trans (by go_simp); have k2 : w7.cell? ⟨wr.heap.size, 2, none⟩ = some (.string ((⟨x.name, x.run, x.job, x.waitA, x.waitC, []⟩ : Grp)).job.1) := (tc _).trans (by go_simp); have k3 : w7.cell? ⟨wr.heap.size, 3, none⟩ = some (.slice x.waitA x.wait.length x.waitC) := (tc _).trans (by go_simp); have kf : ∀ o, w7.frozen? ⟨wr.heap.size, o, none⟩ = false := (fun o => (tf o).trans (by go_simp)); have hz7a : wr.heap.size < w7.heap.size := (by omega); have hcore := Lib.hid fun (w8 : World) (h3 : Below wr.heap.size w7 w8) => hmid.out.core hfix.out h6r hx.out (show Below wr.heap.size wr _ from (by repeat (first | (with_reducible exact Below.refl _ _) | (with_reducible refine Below.drew ?_) | (with_reducible refine below_drewN ?_ _) | ((with_reducible refine Below.alloc ?_ ?_ _); rotate_left; focus ((try simp) <;> omega)) | ((with_reducible refine Below.setCell ?_ ?_ _); rotate_left; focus ((try simp) <;> omega)) | ((with_reducible refine Below.trans ?_ (Below.mono (by assumption) ?_)); rotate_left; focus ((try simp) <;> omega))))) hbt7 h3 (y := (⟨x.name, x.run, x.job, x.waitA, x.waitC, []⟩ : Grp)) hO7 (blk_same x _ _ _); clear tc tf hbt7 hO7))
            go_roundw
            case rel => exact ⟨i + 1, L, by go_num, by omega, (hcore.out _ (by repeat (first | (with_reducible exact Below.refl _ _) | (with_reducible refine Below.drew ?_) | (with_reducible refine below_drewN ?_ _) | ((with_reducible refine Below.alloc ?_ ?_ _); rotate_left; focus ((try simp) <;> omega)) | ((with_reducible refine Below.setCell ?_ ?_ _); rotate_left; focus ((try simp) <;> omega)) | ((with_reducible refine Below.trans ?_ (Below.mono (by assumption) ?_)); rotate_left; focus ((try simp) <;> omega))))).drop hmaps.out hx.out hyg.out hjn.out, by (try simp) <;> omega, (by repeat (first | (with_reducible exact Below.refl _ _) | (with_reducible refine Below.drew ?_) | (with_reducible refine below_drewN ?_ _) | ((with_reducible refine Below.alloc ?_ ?_ _); rotate_left; focus ((try simp) <;> omega)) | ((with_reducible refine Below.setCell ?_ ?_ _); rotate_left; focus ((try simp) <;> omega)) | ((with_reducible refine Below.trans ?_ (Below.mono (by assumption) ?_)); rotate_left; focus ((try simp) <;> omega))))⟩
            case measure => simp [intOf]; omega
          · have hjn : Hid (¬ jobsG (⟨x.name, x.run, x.job, x.waitA, x.waitC, d :: D⟩ : Grp).g = []) := Lib.hid (fun e => absurd ((jobs_zero (x := (⟨x.name, x.run, x.job, x.waitA, x.waitC, d :: D⟩ : Grp)) hz).symm.trans e) (List.cons_ne_nil _ _))
            replace hD := Lib.hid hD
            replace hz := Lib.hid hz
            have hd1 : (0 : Int) < (D.length : Int) + 1 := by omega
            go_wp2_with (first
              | (go_at_call 48; go_must (refine (hdel.out _ (by repeat (first | (with_reducible exact Below.refl _ _) | (with_reducible refine Below.drew ?_) | (with_reducible refine below_drewN ?_ _) | ((with_reducible refine Below.alloc ?_ ?_ _); rotate_left; focus ((try simp) <;> omega)) | ((with_reducible refine Below.setCell ?_ ?_ _); rotate_left; focus ((try simp) <;> omega)) | ((with_reducible refine Below.trans ?_ (Below.mono (by assumption) ?_)); rotate_left; focus ((try simp) <;> omega))))).mono ?_; rintro e w7 ⟨rfl, hO7, hbt7, hbl7⟩; have hz7 := hbt7.size; (try simp at hz7); obtain ⟨tc, tf⟩ := but_block hbt7 (g := wr.heap.size) (by (try simp) <;> omega) hxt.out; have k0 : w7.cell? ⟨wr.heap.size, 0, none⟩ = some (.string ((⟨x.name, x.run, x.job, x.waitA, x.waitC, d :: D⟩ : Grp)).name.1) := (tc _).trans (by go_simp); have k1 : w7.cell? ⟨wr.heap.size, 1, none⟩ = some (.string ((⟨x.name, x.run, x.job, x.waitA, x.waitC, d :: D⟩ : Grp)).run.1) := (tc _).trans (by go_simp); have k2 : w7.cell? ⟨wr.heap.size, 2, none⟩ = some (.string ((⟨x.name, x.run, x.job, x.waitA, x.waitC, d :: D⟩ : Grp)).job.1) := (tc _).trans (by go_simp); have k3 : w7.cell? ⟨wr.heap.size, 3, none⟩ = some (.slice x.waitA x.wait.length x.waitC) := (tc _).trans (by go_simp); have kf : ∀ o, w7.frozen? ⟨wr.heap.size, o, none⟩ = false := (fun o => (tf o).trans (by go_simp)); have hz7a : wr.heap.size < w7.heap.size := (by omega); have hcore := Lib.hid fun (w8 : World) (h3 : Below wr.heap.size w7 w8) => hmid.out.core hfix.out h6r hx.out (show Below wr.heap.size wr _ from (by repeat (first | (with_reducible exact Below.refl _ _) | (with_reducible refine Below.drew ?_) | (with_reducible refine below_drewN ?_ _) | ((with_reducible refine Below.alloc ?_ ?_ _); rotate_left; focus ((try simp) <;> omega)) | ((with_reducible refine Below.setCell ?_ ?_ _); rotate_left; focus ((try simp) <;> omega)) | ((with_reducible refine Below.trans ?_ (Below.mono (by assumption) ?_)); rotate_left; focus ((try simp) <;> omega))))) hbt7 h3 (y := (⟨x.name, x.run, x.job, x.waitA, x.waitC, d :: D⟩ : Grp)) hO7 (blk_same x _ _ _); clear tc tf hbt7 hO7))
              | (first
                | (at_builtin
                   go_loud (refine wpList_append_rw _ rfl (.tmp 40) (.tmp 42) _ rfl grpE_len grpE_one w6.heap.size 45 inf _ 72 Tryd.underlying22 hi0 iz0 iz1 iz2 rfl (by omega) u5 L rfl ?_ (w7.heap.size + 1) _ 1 1 [(⟨x.name, x.run, x.job, x.waitA, x.waitC, d :: D⟩ : Grp)] rfl rfl ?_ ?_ ?_ ?_ ?_
                            · exact (hcore.out _ (by repeat (first | (with_reducible exact Below.refl _ _) | (with_reducible refine Below.drew ?_) | (with_reducible refine below_drewN ?_ _) | ((with_reducible refine Below.alloc ?_ ?_ _); rotate_left; focus ((try simp) <;> omega)) | ((with_reducible refine Below.setCell ?_ ?_ _); rotate_left; focus ((try simp) <;> omega)) | ((with_reducible refine Below.trans ?_ (Below.mono (by assumption) ?_)); rotate_left; focus ((try simp) <;> omega))))).out
                            · exact rw_litA (by simp) (by (try simp) <;> omega)
                            · (try simp [maxLen]) <;> omega
                            · (try simp) <;> omega
                            · (try simp) <;> omega
                            intro v9 w9 hown9 hg9 hat9
                            have hz9 := hg9.size
                            (try simp at hz9)
                            have hm9 := Lib.hid ((hcore.out _ (by repeat (first | (with_reducible exact Below.refl _ _) | (with_reducible refine Below.drew ?_) | (with_reducible refine below_drewN ?_ _) | ((with_reducible refine Below.alloc ?_ ?_ _); rotate_left; focus ((try simp) <;> omega)) | ((with_reducible refine Below.setCell ?_ ?_ _); rotate_left; focus ((try simp) <;> omega)) | ((with_reducible refine Below.trans ?_ (Below.mono (by assumption) ?_)); rotate_left; focus ((try simp) <;> omega))))).keep hfix.out hmaps.out hx.out hyg.out (blk_same x _ _ _) hjn.out (Below.refl _ _) hg9 hown9)
                            have hB9 := Lib.hid (Below.grown (show Below (w.heap.size + 1) W1 _ from (by repeat (first | (with_reducible exact Below.refl _ _) | (with_reducible refine Below.drew ?_) | (with_reducible refine below_drewN ?_ _) | ((with_reducible refine Below.alloc ?_ ?_ _); rotate_left; focus ((try simp) <;> omega)) | ((with_reducible refine Below.setCell ?_ ?_ _); rotate_left; focus ((try simp) <;> omega)) | ((with_reducible refine Below.trans ?_ (Below.mono (by assumption) ?_)); rotate_left; focus ((try simp) <;> omega))))) hg9 (by (try simp) <;> omega) fun q hq => by have := (hmid.out.out.lt q hq).1; omega)
                            clear hg9 hat9 hown9))
                | fail))
            go_roundw
            case rel => exact ⟨i + 1, L ++ [(⟨x.name, x.run, x.job, x.waitA, x.waitC, d :: D⟩ : Grp)], by go_num, by omega, hm9.out, by omega, hB9.out⟩
            case measure => simp [intOf]; omega
        · have hs0 : refB x.run.1 x.job.1 ⟨#[]⟩ ⟨#[]⟩ = false := hqz.trans (decide_eq_false hz)
          clear hqz
          have hjn : Hid (¬ jobsG (⟨x.name, x.run, x.job, x.waitA, x.waitC, D⟩ : Grp).g = []) := Lib.hid (fun e => absurd ((jobs_more (x := (⟨x.name, x.run, x.job, x.waitA, x.waitC, D⟩ : Grp)) hz).symm.trans e) (List.cons_ne_nil _ _))
          replace hD := Lib.hid hD
          replace hz := Lib.hid hz
          go_wp2_with (first
            | (go_at_call 48; go_must (refine (hdel.out _ (by repeat (first | (with_reducible exact Below.refl _ _) | (with_reducible refine Below.drew ?_) | (with_reducible refine below_drewN ?_ _) | ((with_reducible refine Below.alloc ?_ ?_ _); rotate_left; focus ((try simp) <;> omega)) | ((with_reducible refine Below.setCell ?_ ?_ _); rotate_left; focus ((try simp) <;> omega)) | ((with_reducible refine Below.trans ?_ (Below.mono (by assumption) ?_)); rotate_left; focus ((try simp) <;> omega))))).mono ?_; rintro e w7 ⟨rfl, hO7, hbt7, hbl7⟩; have hz7 := hbt7.size; (try simp at hz7); obtain ⟨tc, tf⟩ := but_block hbt7 (g := wr.heap.size) (by (try simp) <;> omega) hxt.out; have k0 : w7.cell? ⟨wr.heap.size, 0, none⟩ = some (.string ((⟨x.name, x.run, x.job, x.waitA, x.waitC, D⟩ : Grp)).name.1) := (tc _).trans (by go_simp); have k1 : w7.cell? ⟨wr.heap.size, 1, none⟩ = some (.string ((⟨x.name, x.run, x.job, x.waitA, x.waitC, D⟩ : Grp)).run.1) := (tc _).trans (by go_simp); have k2 : w7.cell? ⟨wr.heap.size, 2, none⟩ = some (.string ((⟨x.name, x.run, x.job, x.waitA, x.waitC, D⟩ : Grp)).job.1) := (tc _).trans (by go_simp); have k3 : w7.cell? ⟨wr.heap.size, 3, none⟩ = some (.slice x.waitA x.wait.length x.waitC) := (tc _).trans (by go_simp); have kf : ∀ o, w7.frozen? ⟨wr.heap.size, o, none⟩ = false := (fun o => (tf o).trans (by go_simp)); have hz7a : wr.heap.size < w7.heap.size := (by omega); have hcore := Lib.hid fun (w8 : World) (h3 : Below wr.heap.size w7 w8) => hmid.out.core hfix.out h6r hx.out (show Below wr.heap.size wr _ from (by repeat (first | (with_reducible exact Below.refl _ _) | (with_reducible refine Below.drew ?_) | (with_reducible refine below_drewN ?_ _) | ((with_reducible refine Below.alloc ?_ ?_ _); rotate_left; focus ((try simp) <;> omega)) | ((with_reducible refine Below.setCell ?_ ?_ _); rotate_left; focus ((try simp) <;> omega)) | ((with_reducible refine Below.trans ?_ (Below.mono (by assumption) ?_)); rotate_left; focus ((try simp) <;> omega))))) hbt7 h3 (y := (⟨x.name, x.run, x.job, x.waitA, x.waitC, D⟩ : Grp)) hO7 (blk_same x _ _ _); clear tc tf hbt7 hO7))
            | (first
              | (at_builtin
                 go_loud (refine wpList_append_rw _ rfl (.tmp 40) (.tmp 42) _ rfl grpE_len grpE_one w6.heap.size 45 inf _ 72 Tryd.underlying22 hi0 iz0 iz1 iz2 rfl (by omega) u5 L rfl ?_ (w7.heap.size + 1) _ 1 1 [(⟨x.name, x.run, x.job, x.waitA, x.waitC, D⟩ : Grp)] rfl rfl ?_ ?_ ?_ ?_ ?_
                          · exact (hcore.out _ (by repeat (first | (with_reducible exact Below.refl _ _) | (with_reducible refine Below.drew ?_) | (with_reducible refine below_drewN ?_ _) | ((with_reducible refine Below.alloc ?_ ?_ _); rotate_left; focus ((try simp) <;> omega)) | ((with_reducible refine Below.setCell ?_ ?_ _); rotate_left; focus ((try simp) <;> omega)) | ((with_reducible refine Below.trans ?_ (Below.mono (by assumption) ?_)); rotate_left; focus ((try simp) <;> omega))))).out
                          · exact rw_litA (by simp) (by (try simp) <;> omega)
                          · (try simp [maxLen]) <;> omega
                          · (try simp) <;> omega
                          · (try simp) <;> omega
                          intro v9 w9 hown9 hg9 hat9
                          have hz9 := hg9.size
                          (try simp at hz9)
                          have hm9 := Lib.hid ((hcore.out _ (by repeat (first | (with_reducible exact Below.refl _ _) | (with_reducible refine Below.drew ?_) | (with_reducible refine below_drewN ?_ _) | ((with_reducible refine Below.alloc ?_ ?_ _); rotate_left; focus ((try simp) <;> omega)) | ((with_reducible refine Below.setCell ?_ ?_ _); rotate_left; focus ((try simp) <;> omega)) | ((with_reducible refine Below.trans ?_ (Below.mono (by assumption) ?_)); rotate_left; focus ((try simp) <;> omega))))).keep hfix.out hmaps.out hx.out hyg.out (blk_same x _ _ _) hjn.out (Below.refl _ _) hg9 hown9)
                          have hB9 := Lib.hid (Below.grown (show Below (w.heap.size + 1) W1 _ from (by repeat (first | (with_reducible exact Below.refl _ _) | (with_reducible refine Below.drew ?_) | (with_reducible refine below_drewN ?_ _) | ((with_reducible refine Below.alloc ?_ ?_ _); rotate_left; focus ((try simp) <;> omega)) | ((with_reducible refine Below.setCell ?_ ?_ _); rotate_left; focus ((try simp) <;> omega)) | ((with_reducible refine Below.trans ?_ (Below.mono (by assumption) ?_)); rotate_left; focus ((try simp) <;> omega))))) hg9 (by (try simp) <;> omega) fun q hq => by have := (hmid.out.out.lt q hq).1; omega)
                          clear hg9 hat9 hown9))
              | fail))
          go_roundw
          case rel => exact ⟨i + 1, L ++ [(⟨x.name, x.run, x.job, x.waitA, x.waitC, D⟩ : Grp)], by go_num, by omega, hm9.out, by omega, hB9.out⟩
          case measure => simp [intOf]; omega
    · have i1 : ¬ (i : Int) < (l6.length : Int) := by omega
      have hall := Lib.hid (leaveT_all (l6.map Grp.g) r (by rw [hl6'.out]; exact hv.out) (i := i) (by rw [List.length_map]; omega))
      have hBf := Lib.hid (show Below w.heap.size w wr from hbW.trans (hbw.mono (by omega)))
      go_wp2_with fail
      go_ret
      obtain ⟨A', c', rfl, h1, h2, _⟩ := hmid.out.out.form
      exact ⟨A', c', L, rfl, ⟨hmid.out.out.reads grpE_len, fun y hy => ((hmid.out.outs y hy).1).lab⟩, h1, by rw [hmaps.out, hall.out, hl6'.out], hBf.out⟩
set_option maxRecDepth 100000 in
set_option maxHeartbeats 8000000 in
theorem leave_nil (A : Option Addr) (c : Nat) (r : JRef) (w : World) (hr : RwG w w.heap.size A []) (hm : Mild []) (hG : Glob w) :
    Calls Tryd.prog 23 #[.slice A 0 c, .agg #[.string r.run.1, .string r.job.1]] w fun e w' => e = .returned (.slice none 0 0) ∧ Below w.heap.size w w' := by
  have hva : Hid (∀ W, Below w.heap.size w W → Calls Tryd.prog 10 #[.slice A 0 c] W fun e w' => e = .returned (.int .i64 0) ∧ Below W.heap.size W w') := Lib.hid fun W hb => valid_any A c [] W ((hr.below hb (Nat.le_refl _)).more hb.size) (Nat.zero_le _) hm (hG.keep hb)
  have hco : Hid (∀ W, Below w.heap.size w W → Calls Tryd.prog 42 #[.slice A 0 c] W fun e w' => ∃ A' c', e = .returned (.slice A' 0 c') ∧ Below W.heap.size W w') := Lib.hid fun W hb => (copied_any A c [] W ((hr.below hb (Nat.le_refl _)).more hb.size) hm).mono fun e w' ⟨A', c', l', h1, _, h2, h3⟩ => by
    obtain rfl : l' = [] := by simpa using h2
    exact ⟨A', c', h1, h3⟩
  replace hr := Lib.hid hr
  replace hm := Lib.hid hm
  replace hG := Lib.hid hG
  go_enter Tryd.func23, Tryd.ntmps23
  go_wp2_with (first
    | (go_at_call 10; go_must (refine (hva.out _ (by repeat (first | (with_reducible exact Below.refl _ _) | (with_reducible refine Below.drew ?_) | (with_reducible refine below_drewN ?_ _) | ((with_reducible refine Below.alloc ?_ ?_ _); rotate_left; focus ((try simp) <;> omega)) | ((with_reducible refine Below.setCell ?_ ?_ _); rotate_left; focus ((try simp) <;> omega)) | ((with_reducible refine Below.trans ?_ (Below.mono (by assumption) ?_)); rotate_left; focus ((try simp) <;> omega))))).mono ?_; rintro e w1 ⟨rfl, hb1⟩; have hz1 := hb1.size; (try simp at hz1)))
    | (go_at_call 42; go_must (refine (hco.out _ (by repeat (first | (with_reducible exact Below.refl _ _) | (with_reducible refine Below.drew ?_) | (with_reducible refine below_drewN ?_ _) | ((with_reducible refine Below.alloc ?_ ?_ _); rotate_left; focus ((try simp) <;> omega)) | ((with_reducible refine Below.setCell ?_ ?_ _); rotate_left; focus ((try simp) <;> omega)) | ((with_reducible refine Below.trans ?_ (Below.mono (by assumption) ?_)); rotate_left; focus ((try simp) <;> omega))))).mono ?_; rintro e w6 ⟨A6, c6, rfl, hb6⟩; have hz6 := hb6.size; (try simp at hz6))))
  have hwB := Lib.hid (show Below w.heap.size w w6 from (by repeat (first | (with_reducible exact Below.refl _ _) | (with_reducible refine Below.drew ?_) | (with_reducible refine below_drewN ?_ _) | ((with_reducible refine Below.alloc ?_ ?_ _); rotate_left; focus ((try simp) <;> omega)) | ((with_reducible refine Below.setCell ?_ ?_ _); rotate_left; focus ((try simp) <;> omega)) | ((with_reducible refine Below.trans ?_ (Below.mono (by assumption) ?_)); rotate_left; focus ((try simp) <;> omega)))))
  go_loopw [5, 7, 15] (fun vo _ vi wr => vo = .slice none 0 0 ∧ vi = .int .i64 0 ∧ wr = w6) (fun _ _ _ _ => 0)
  case atStart => exact ⟨rfl, rfl, rfl⟩
  case round =>
    obtain ⟨rfl, rfl, rfl⟩ := hrel
    go_wp2_with fail
    go_ret
    exact ⟨rfl, hwB.out⟩
set_option maxRecDepth 100000 in
set_option maxHeartbeats 8000000 in
theorem leave_bad (A : Option Addr) (c : Nat) (l : List Grp) (r : JRef) (w : World) (hr : RwG w w.heap.size A l) (hlc : l.length ≤ c) (hm : Mild l) (hG : Glob w) (hv : validB (l.map Grp.g) = false) :
    Calls Tryd.prog 23 #[.slice A l.length c, .agg #[.string r.run.1, .string r.job.1]] w fun e w' => e = .returned (.slice A l.length c) ∧ Below w.heap.size w w' := by
  have hva : Hid (∀ W, Below w.heap.size w W → Calls Tryd.prog 10 #[.slice A l.length c] W fun e w' => e = .returned (.int .i64 1) ∧ Below W.heap.size W w') := Lib.hid fun W hb => by
    have h := valid_any A c l W ((hr.below hb (Nat.le_refl _)).more hb.size) hlc hm (hG.keep hb)
    rwa [show validE (l.map Grp.g) = 1 by unfold validE; rw [hv]; rfl] at h
  replace hr := Lib.hid hr
  replace hm := Lib.hid hm
  replace hG := Lib.hid hG
  replace hv := Lib.hid hv
  go_enter Tryd.func23, Tryd.ntmps23
  go_wp2_with (go_at_call 10; go_must (refine (hva.out _ (by repeat (first | (with_reducible exact Below.refl _ _) | (with_reducible refine Below.drew ?_) | (with_reducible refine below_drewN ?_ _) | ((with_reducible refine Below.alloc ?_ ?_ _); rotate_left; focus ((try simp) <;> omega)) | ((with_reducible refine Below.setCell ?_ ?_ _); rotate_left; focus ((try simp) <;> omega)) | ((with_reducible refine Below.trans ?_ (Below.mono (by assumption) ?_)); rotate_left; focus ((try simp) <;> omega))))).mono ?_; rintro e w1 ⟨rfl, hb1⟩; have hz1 := hb1.size; (try simp at hz1)))
  go_ret
  exact ⟨rfl, (by repeat (first | (with_reducible exact Below.refl _ _) | (with_reducible refine Below.drew ?_) | (with_reducible refine below_drewN ?_ _) | ((with_reducible refine Below.alloc ?_ ?_ _); rotate_left; focus ((try simp) <;> omega)) | ((with_reducible refine Below.setCell ?_ ?_ _); rotate_left; focus ((try simp) <;> omega)) | ((with_reducible refine Below.trans ?_ (Below.mono (by assumption) ?_)); rotate_left; focus ((try simp) <;> omega))))⟩
theorem leave_any (A : Option Addr) (c : Nat) (l : List Grp) (r : JRef) (w : World) (hr : RwG w w.heap.size A l) (hlc : l.length ≤ c) (hm : Mild l) (hG : Glob w) :
    Calls Tryd.prog 23 #[.slice A l.length c, .agg #[.string r.run.1, .string r.job.1]] w fun e w' => ∃ (A' : Option Addr) (c' : Nat) (l' : List Grp), e = .returned (.slice A' l'.length c') ∧ RwG w' w'.heap.size A' l' ∧ l'.length ≤ c' ∧ l'.map Grp.g = leaveL (l.map Grp.g) r ∧ Below w.heap.size w w' := by
  rcases hv : validB (l.map Grp.g) with _ | _
  · refine (leave_bad A c l r w hr hlc hm hG hv).mono ?_
    rintro e w' ⟨rfl, hb⟩
    exact ⟨A, c, l, rfl, (hr.below hb (Nat.le_refl _)).more hb.size, hlc, by unfold leaveL; rw [if_pos hv], hb⟩
  · rcases Nat.eq_zero_or_pos l.length with h0 | h0
    · obtain rfl := List.eq_nil_of_length_eq_zero h0
      refine (leave_nil A c r w hr hm hG).mono ?_
      rintro e w' ⟨rfl, hb⟩
      exact ⟨none, 0, [], rfl, RwG.nil, Nat.le_refl _, by unfold leaveL; split <;> rfl, hb⟩
    · exact leave_some A c l r w hr hlc hm hG hv h0
end Go.Proofs.YtbellobjajnlkaaDoor
