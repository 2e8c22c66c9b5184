/-
  The walks of groups: a job leaves all groups, by the reference (the walk).
-/
import Derived.Test.YtbellobjajnlkaaDoorCon26
import Derived.Test.YtbellobjajnlkaaDoorCon25



namespace Go.Proofs.YtbellobjajnlkaaDoor
open Go.RowKit

attribute [local go_sem ↓] eq_ref ne_ref
set_option maxRecDepth 100000 in
set_option maxHeartbeats 8000000 in
theorem rleave_val (A : Option Addr) (c : Nat) (l : List Grp) (r : JRef) (w : World) (hr : RwG w w.heap.size A l) (hm : Mild l) (hv : validB (l.map Grp.g) = true) :
    Calls Tryd.prog 24 #[.slice A l.length c, .agg #[.string r.run.1, .string r.job.1]] w fun e w' => ∃ (A' : Option Addr) (c' : Nat) (l' : List Grp), e = .returned (.slice A' l'.length c') ∧ RwG w' w'.heap.size A' l' ∧ l'.length ≤ c' ∧ l'.map Grp.g = leaveL (l.map Grp.g) r ∧ Below w.heap.size w w' := by
  obtain ⟨inf, hi0, iz0, iz1, iz2⟩ := info_three grp_infoR
  have hva : Hid (∀ W, Below w.heap.size w W → Calls Tryd.prog 11 #[.slice A l.length c] W fun e w' => e = .returned (.int .i64 0) ∧ Below W.heap.size W w') := Lib.hid fun W hb => by
    have h := rvalid_any A c l W ((hr.below hb (Nat.le_refl _)).more hb.size) hm
    rwa [show validE (l.map Grp.g) = 0 by unfold validE; rw [hv]; rfl] at h
  have hlm := hm.len
  obtain ⟨W1, hW1, hbW, hzW, c0, c1⟩ : ∃ W, w.alloc (.cells #[.string r.run.1, .string r.job.1] 29) = W ∧ Below w.heap.size w W ∧ W.heap.size = w.heap.size + 1 ∧ W.cell? ⟨w.heap.size, 0, none⟩ = some (.string r.run.1) ∧ W.cell? ⟨w.heap.size, 1, none⟩ = some (.string r.job.1) := ⟨_, rfl, (Below.refl _ _).alloc (Nat.le_refl _) _, by simp, by go_simp, by go_simp⟩
  have hz1a := Nat.le_of_eq hzW
  have hz1b := Nat.le_of_eq hzW.symm
  replace hzW := Lib.hid hzW
  have hbx : Hid (∀ W, Below (w.heap.size + 1) W1 W → W.cell? ⟨w.heap.size, 0, none⟩ = some (.string r.run.1) ∧ W.cell? ⟨w.heap.size, 1, none⟩ = some (.string r.job.1)) := Lib.hid fun W hb => ⟨(hb.cell (p := ⟨w.heap.size, 0, none⟩) (Nat.lt_succ_self _)).trans c0, (hb.cell (p := ⟨w.heap.size, 1, none⟩) (Nat.lt_succ_self _)).trans c1⟩
  replace hr := Lib.hid hr
  replace hm := Lib.hid hm
  replace hv := Lib.hid hv
  go_enter Tryd.func24, Tryd.ntmps24
  go_wp2_with (go_at_call 11; go_must (refine (hva.out _ (by repeat (first | (with_reducible exact Below.refl _ _) | (with_reducible refine Below.drew ?_) | (with_reducible refine below_drewN ?_ _) | ((with_reducible refine Below.alloc ?_ ?_ _); rotate_left; focus ((try simp) <;> omega)) | ((with_reducible refine Below.setCell ?_ ?_ _); rotate_left; focus ((try simp) <;> omega)) | ((with_reducible refine Below.trans ?_ (Below.mono (by assumption) ?_)); rotate_left; focus ((try simp) <;> omega))))).mono ?_; rintro e w1 ⟨rfl, hb1⟩; have hz1 := hb1.size; (try simp at hz1)))
  have hwB := Lib.hid (show Below (w.heap.size + 1) W1 w1 from (by repeat (first | (with_reducible exact Below.refl _ _) | (with_reducible refine Below.drew ?_) | (with_reducible refine below_drewN ?_ _) | ((with_reducible refine Below.alloc ?_ ?_ _); rotate_left; focus ((try simp) <;> omega)) | ((with_reducible refine Below.setCell ?_ ?_ _); rotate_left; focus ((try simp) <;> omega)) | ((with_reducible refine Below.trans ?_ (Below.mono (by assumption) ?_)); rotate_left; focus ((try simp) <;> omega)))))
  go_loopw [5, 6, 7] (fun vo vi _ wr => ∃ (i : Nat) (L : List Grp), vi = .int .i64 (i : Int) ∧ i ≤ l.length ∧ MidM (w.heap.size + 1) wr l L vo r i ∧ Below (w.heap.size + 1) W1 wr) (fun _ vi _ _ => l.length - (intOf vi).toNat)
  case atStart => exact ⟨0, [], rfl, Nat.zero_le _, ⟨Own.nil _ _ _, nofun, rfl⟩, hwB.out⟩
  case round =>
    obtain ⟨i, L, rfl, hi, hmid0, hbw⟩ := hrel
    have hz := hbw.size
    have hln : L.length ≤ i := by
      have h1 := congrArg List.length hmid0.maps
      have h2 := leaveT_len (l.map Grp.g) r i
      rw [List.length_map] at h1
      omega
    have hmid := Lib.hid hmid0
    have hbw0 : Below w.heap.size w wr := hbW.trans (hbw.mono (by omega))
    clear hmid0
    by_cases hil : i < l.length
    · obtain ⟨x, hx0⟩ := get_some hil
      have hxm := List.mem_of_getElem? hx0
      obtain ⟨g, o, rfl, hg, q⟩ := hr.out.row (by omega)
      replace q := fun j u hu => (hbw0.cell (p := ⟨g, o + i * 4 + j, none⟩) hg).trans (q i x hx0 j u hu)
      have q0 := q 0 (.string x.name.1) rfl
      try rw [Nat.add_zero] at q0
      have q1 := q 1 (.string x.run.1) rfl
      have q2 := q 2 (.string x.job.1) rfl
      have q3 := q 3 (.slice x.waitA x.wait.length x.waitC) rfl
      clear q
      obtain ⟨b0, b1⟩ := hbx.out wr hbw
      obtain ⟨D, hD⟩ : ∃ D, outR x.wait r = D := ⟨_, rfl⟩
      have hDl : D.length ≤ 1000000 := by
        have h1 := outR_len x.wait r
        have h2 := hm.out.wait x hxm
        rw [hD] at h1
        omega
      have hlabx := hr.out.labs x hxm
      have hwi : Hid (∀ W, Below wr.heap.size wr W → Calls Tryd.prog 47 #[.slice x.waitA x.wait.length x.waitC, .agg #[.string r.run.1, .string r.job.1]] W fun e w' => ∃ (A' : Option Addr) (c' : Nat), e = .returned (.slice A' D.length c') ∧ Own jRefE 2 29 w' W.heap.size (.slice A' D.length c') D ∧ Below W.heap.size W w') := Lib.hid fun W hb => by
        have hb2 := hbw0.trans (hb.mono (by omega))
        have h := rwithout_any x.waitA x.waitC x.wait r W ((hlabx.2.2.below hb2 (Nat.le_refl _)).more hb2.size) (hm.out.wait x hxm)
        rw [hD] at h
        exact h
      have i0 : (0 : Int) ≤ (i : Int) := by omega
      have i1 : (i : Int) < (l.length : Int) := by omega
      have hgr : g < wr.heap.size := by omega
      have hwr : w.heap.size < wr.heap.size := by omega
      have hx := Lib.hid hx0
      have hq := refB_iff x.run x.job r.run r.job
      obtain ⟨J, hJ0⟩ : ∃ J, jobsG (dropG r x.g) = J := ⟨_, rfl⟩
      clear hxm hx0 hlabx
      by_cases hrr : (⟨x.run, x.job⟩ : JRef) = r
      · have hs : refB x.run.1 x.job.1 r.run.1 r.job.1 = true := hq.trans (decide_eq_true hrr)
        have hyg : ∀ (A' : Option Addr) (c' : Nat), (⟨x.name, zS, zS, A', c', D⟩ : Grp).g = dropG r x.g := fun _ _ => dropG_eq hD zS zS (by rw [if_pos hrr])
        have hJ : Hid (∀ (A' : Option Addr) (c' : Nat), jobsG (⟨x.name, zS, zS, A', c', D⟩ : Grp).g = J) := Lib.hid fun A' c' => by rw [hyg]; exact hJ0
        clear hq
        replace hrr := Lib.hid hrr
        replace hD := Lib.hid hD
        rcases J with _ | ⟨d, J⟩
        · have hjn := Lib.hid hJ0
          replace hJ0 := Lib.hid hJ0
          replace hyg := Lib.hid hyg
          go_wp2_with (first
            | (go_at_call 47; go_must (refine (hwi.out _ (by repeat (first | (with_reducible exact Below.refl _ _) | (with_reducible refine Below.drew ?_) | (with_reducible refine below_drewN ?_ _) | ((with_reducible refine Below.alloc ?_ ?_ _); rotate_left; focus ((try simp) <;> omega)) | ((with_reducible refine Below.setCell ?_ ?_ _); rotate_left; focus ((try simp) <;> omega)) | ((with_reducible refine Below.trans ?_ (Below.mono (by assumption) ?_)); rotate_left; focus ((try simp) <;> omega))))).mono ?_; rintro e w7 ⟨A7, c7, rfl, hO7, hb7⟩; have hz7 := hb7.size; (try simp at hz7); obtain ⟨tc, tf⟩ := blk_at hb7 wr.heap.size (by (try simp) <;> omega); have k0 : w7.cell? ⟨wr.heap.size, 0, none⟩ = some (.string x.name.1) := (tc _).trans (by go_simp); have k1 : w7.cell? ⟨wr.heap.size, 1, none⟩ = some (.string (zS).1) := (tc _).trans (by go_simp); have k2 : w7.cell? ⟨wr.heap.size, 2, none⟩ = some (.string (zS).1) := (tc _).trans (by go_simp); have k3 : w7.cell? ⟨wr.heap.size, 3, none⟩ = some (.slice x.waitA x.wait.length x.waitC) := (tc _).trans (by go_simp); have kf : ∀ o, w7.frozen? ⟨wr.heap.size, o, none⟩ = false := (fun o => (tf o).trans (by go_simp)); have hz7a : wr.heap.size < w7.heap.size := (by omega); have hY := Lib.hid (show OwnG (w7.setCell ⟨wr.heap.size, 3, none⟩ (.slice A7 D.length c7)) (w.heap.size + 1) (⟨x.name, zS, zS, A7, c7, D⟩ : Grp) from Own.setCell (Own.base hO7 (by (try simp) <;> omega)) (fun q hq e => by have := (hO7.lt q hq).1; (try simp at this); (try simp at e); omega) _); clear tc tf hO7))
            | (go_at_call 36; go_must (refine (jobs_any _ _ (OwnG.lab (OwnG.all hY.out (by repeat (first | (with_reducible exact Below.refl _ _) | (with_reducible refine Below.drew ?_) | (with_reducible refine below_drewN ?_ _) | ((with_reducible refine Below.alloc ?_ ?_ _); rotate_left; focus ((try simp) <;> omega)) | ((with_reducible refine Below.setCell ?_ ?_ _); rotate_left; focus ((try simp) <;> omega)) | ((with_reducible refine Below.trans ?_ (Below.mono (by assumption) ?_)); rotate_left; focus ((try simp) <;> omega)))))) hDl).mono ?_; rintro e w8 ⟨v8, rfl, hO8, hb8⟩; have hz8 := hb8.size; (try simp at hz8); obtain ⟨sc, sf⟩ := blk_at hb8 wr.heap.size (by (try simp) <;> omega); rw [hJ.out] at hO8; have hz8a : wr.heap.size < w8.heap.size := (by omega); obtain ⟨A8, c8, rfl, _, _, _⟩ := hO8.form; clear hO8)))
          go_roundw
          case rel => exact ⟨i + 1, L, by go_num, by omega, (hmid.out.all (by repeat (first | (with_reducible exact Below.refl _ _) | (with_reducible refine Below.drew ?_) | (with_reducible refine below_drewN ?_ _) | ((with_reducible refine Below.alloc ?_ ?_ _); rotate_left; focus ((try simp) <;> omega)) | ((with_reducible refine Below.setCell ?_ ?_ _); rotate_left; focus ((try simp) <;> omega)) | ((with_reducible refine Below.trans ?_ (Below.mono (by assumption) ?_)); rotate_left; focus ((try simp) <;> omega))))).drop hx.out hjn.out, hbw.trans (Below.mono (B := wr.heap.size) (by repeat (first | (with_reducible exact Below.refl _ _) | (with_reducible refine Below.drew ?_) | (with_reducible refine below_drewN ?_ _) | ((with_reducible refine Below.alloc ?_ ?_ _); rotate_left; focus ((try simp) <;> omega)) | ((with_reducible refine Below.setCell ?_ ?_ _); rotate_left; focus ((try simp) <;> omega)) | ((with_reducible refine Below.trans ?_ (Below.mono (by assumption) ?_)); rotate_left; focus ((try simp) <;> omega)))) (by omega))⟩
          case measure => simp [intOf]; omega
        · have hjn : Hid (¬ jobsG (dropG r x.g) = []) := Lib.hid (by rw [hJ0]; exact List.cons_ne_nil _ _)
          replace hJ0 := Lib.hid hJ0
          replace hyg := Lib.hid hyg
          have hd1 : (0 : Int) < (J.length : Int) + 1 := by omega
          go_wp2_with (first
            | (go_at_call 47; go_must (refine (hwi.out _ (by repeat (first | (with_reducible exact Below.refl _ _) | (with_reducible refine Below.drew ?_) | (with_reducible refine below_drewN ?_ _) | ((with_reducible refine Below.alloc ?_ ?_ _); rotate_left; focus ((try simp) <;> omega)) | ((with_reducible refine Below.setCell ?_ ?_ _); rotate_left; focus ((try simp) <;> omega)) | ((with_reducible refine Below.trans ?_ (Below.mono (by assumption) ?_)); rotate_left; focus ((try simp) <;> omega))))).mono ?_; rintro e w7 ⟨A7, c7, rfl, hO7, hb7⟩; have hz7 := hb7.size; (try simp at hz7); obtain ⟨tc, tf⟩ := blk_at hb7 wr.heap.size (by (try simp) <;> omega); have k0 : w7.cell? ⟨wr.heap.size, 0, none⟩ = some (.string x.name.1) := (tc _).trans (by go_simp); have k1 : w7.cell? ⟨wr.heap.size, 1, none⟩ = some (.string (zS).1) := (tc _).trans (by go_simp); have k2 : w7.cell? ⟨wr.heap.size, 2, none⟩ = some (.string (zS).1) := (tc _).trans (by go_simp); have k3 : w7.cell? ⟨wr.heap.size, 3, none⟩ = some (.slice x.waitA x.wait.length x.waitC) := (tc _).trans (by go_simp); have kf : ∀ o, w7.frozen? ⟨wr.heap.size, o, none⟩ = false := (fun o => (tf o).trans (by go_simp)); have hz7a : wr.heap.size < w7.heap.size := (by omega); have hY := Lib.hid (show OwnG (w7.setCell ⟨wr.heap.size, 3, none⟩ (.slice A7 D.length c7)) (w.heap.size + 1) (⟨x.name, zS, zS, A7, c7, D⟩ : Grp) from Own.setCell (Own.base hO7 (by (try simp) <;> omega)) (fun q hq e => by have := (hO7.lt q hq).1; (try simp at this); (try simp at e); omega) _); clear tc tf hO7))
            | (go_at_call 36; go_must (refine (jobs_any _ _ (OwnG.lab (OwnG.all hY.out (by repeat (first | (with_reducible exact Below.refl _ _) | (with_reducible refine Below.drew ?_) | (with_reducible refine below_drewN ?_ _) | ((with_reducible refine Below.alloc ?_ ?_ _); rotate_left; focus ((try simp) <;> omega)) | ((with_reducible refine Below.setCell ?_ ?_ _); rotate_left; focus ((try simp) <;> omega)) | ((with_reducible refine Below.trans ?_ (Below.mono (by assumption) ?_)); rotate_left; focus ((try simp) <;> omega)))))) hDl).mono ?_; rintro e w8 ⟨v8, rfl, hO8, hb8⟩; have hz8 := hb8.size; (try simp at hz8); obtain ⟨sc, sf⟩ := blk_at hb8 wr.heap.size (by (try simp) <;> omega); rw [hJ.out] at hO8; have hz8a : wr.heap.size < w8.heap.size := (by omega); obtain ⟨A8, c8, rfl, _, _, _⟩ := hO8.form; clear hO8))
            | (first
              | (at_builtin
                 go_loud (refine wpList_append_rw _ rfl (.tmp 37) (.tmp 39) _ rfl grpE_len grpE_one (w.heap.size + 1) 45 inf _ 72 Tryd.underlying22 hi0 iz0 iz1 iz2 rfl (by omega) u5 L rfl ?_ (w8.heap.size + 1) _ 1 1 [(⟨x.name, zS, zS, A7, c7, D⟩ : Grp)] rfl rfl ?_ ?_ ?_ ?_ ?_
                          · exact (hmid.out.all (by repeat (first | (with_reducible exact Below.refl _ _) | (with_reducible refine Below.drew ?_) | (with_reducible refine below_drewN ?_ _) | ((with_reducible refine Below.alloc ?_ ?_ _); rotate_left; focus ((try simp) <;> omega)) | ((with_reducible refine Below.setCell ?_ ?_ _); rotate_left; focus ((try simp) <;> omega)) | ((with_reducible refine Below.trans ?_ (Below.mono (by assumption) ?_)); rotate_left; focus ((try simp) <;> omega))))).out
                          · exact rw_litA (by simp) (by (try simp) <;> omega)
                          · (try simp [maxLen]) <;> omega
                          · (try simp) <;> omega
                          · (try simp) <;> omega
                          intro v9 w9 hown9 hg9 hat9
                          have hz9 := hg9.size
                          (try simp at hz9)
                          have hm9 := Lib.hid (MidM.keep (hmid.out.all (by repeat (first | (with_reducible exact Below.refl _ _) | (with_reducible refine Below.drew ?_) | (with_reducible refine below_drewN ?_ _) | ((with_reducible refine Below.alloc ?_ ?_ _); rotate_left; focus ((try simp) <;> omega)) | ((with_reducible refine Below.setCell ?_ ?_ _); rotate_left; focus ((try simp) <;> omega)) | ((with_reducible refine Below.trans ?_ (Below.mono (by assumption) ?_)); rotate_left; focus ((try simp) <;> omega))))) hx.out (hyg.out _ _) hjn.out (OwnG.all hY.out (by repeat (first | (with_reducible exact Below.refl _ _) | (with_reducible refine Below.drew ?_) | (with_reducible refine below_drewN ?_ _) | ((with_reducible refine Below.alloc ?_ ?_ _); rotate_left; focus ((try simp) <;> omega)) | ((with_reducible refine Below.setCell ?_ ?_ _); rotate_left; focus ((try simp) <;> omega)) | ((with_reducible refine Below.trans ?_ (Below.mono (by assumption) ?_)); rotate_left; focus ((try simp) <;> omega))))) hg9 hown9)
                          have hB9 := Lib.hid (Below.grown (hbw.trans (Below.mono (B := wr.heap.size) (by repeat (first | (with_reducible exact Below.refl _ _) | (with_reducible refine Below.drew ?_) | (with_reducible refine below_drewN ?_ _) | ((with_reducible refine Below.alloc ?_ ?_ _); rotate_left; focus ((try simp) <;> omega)) | ((with_reducible refine Below.setCell ?_ ?_ _); rotate_left; focus ((try simp) <;> omega)) | ((with_reducible refine Below.trans ?_ (Below.mono (by assumption) ?_)); rotate_left; focus ((try simp) <;> omega)))) (by omega))) hg9 (by (try simp) <;> omega) fun q hq => (hmid.out.out.lt q hq).1)
                          clear hg9 hat9 hown9))
              | fail))
          go_roundw
          case rel => exact ⟨i + 1, L ++ [(⟨x.name, zS, zS, A7, c7, D⟩ : Grp)], by go_num, by omega, hm9.out, hB9.out⟩
          case measure => simp [intOf]; omega
      · have hs : refB x.run.1 x.job.1 r.run.1 r.job.1 = false := hq.trans (decide_eq_false hrr)
        have hyg : ∀ (A' : Option Addr) (c' : Nat), (⟨x.name, x.run, x.job, A', c', D⟩ : Grp).g = dropG r x.g := fun _ _ => dropG_eq hD x.run x.job (by rw [if_neg hrr])
        have hJ : Hid (∀ (A' : Option Addr) (c' : Nat), jobsG (⟨x.name, x.run, x.job, A', c', D⟩ : Grp).g = J) := Lib.hid fun A' c' => by rw [hyg]; exact hJ0
        clear hq
        replace hrr := Lib.hid hrr
        replace hD := Lib.hid hD
        rcases J with _ | ⟨d, J⟩
        · have hjn := Lib.hid hJ0
          replace hJ0 := Lib.hid hJ0
          replace hyg := Lib.hid hyg
          go_wp2_with (first
            | (go_at_call 47; go_must (refine (hwi.out _ (by repeat (first | (with_reducible exact Below.refl _ _) | (with_reducible refine Below.drew ?_) | (with_reducible refine below_drewN ?_ _) | ((with_reducible refine Below.alloc ?_ ?_ _); rotate_left; focus ((try simp) <;> omega)) | ((with_reducible refine Below.setCell ?_ ?_ _); rotate_left; focus ((try simp) <;> omega)) | ((with_reducible refine Below.trans ?_ (Below.mono (by assumption) ?_)); rotate_left; focus ((try simp) <;> omega))))).mono ?_; rintro e w7 ⟨A7, c7, rfl, hO7, hb7⟩; have hz7 := hb7.size; (try simp at hz7); obtain ⟨tc, tf⟩ := blk_at hb7 wr.heap.size (by (try simp) <;> omega); have k0 : w7.cell? ⟨wr.heap.size, 0, none⟩ = some (.string x.name.1) := (tc _).trans (by go_simp); have k1 : w7.cell? ⟨wr.heap.size, 1, none⟩ = some (.string (x.run).1) := (tc _).trans (by go_simp); have k2 : w7.cell? ⟨wr.heap.size, 2, none⟩ = some (.string (x.job).1) := (tc _).trans (by go_simp); have k3 : w7.cell? ⟨wr.heap.size, 3, none⟩ = some (.slice x.waitA x.wait.length x.waitC) := (tc _).trans (by go_simp); have kf : ∀ o, w7.frozen? ⟨wr.heap.size, o, none⟩ = false := (fun o => (tf o).trans (by go_simp)); have hz7a : wr.heap.size < w7.heap.size := (by omega); have hY := Lib.hid (show OwnG (w7.setCell ⟨wr.heap.size, 3, none⟩ (.slice A7 D.length c7)) (w.heap.size + 1) (⟨x.name, x.run, x.job, A7, c7, D⟩ : Grp) from Own.setCell (Own.base hO7 (by (try simp) <;> omega)) (fun q hq e => by have := (hO7.lt q hq).1; (try simp at this); (try simp at e); omega) _); clear tc tf hO7))
            | (go_at_call 36; go_must (refine (jobs_any _ _ (OwnG.lab (OwnG.all hY.out (by repeat (first | (with_reducible exact Below.refl _ _) | (with_reducible refine Below.drew ?_) | (with_reducible refine below_drewN ?_ _) | ((with_reducible refine Below.alloc ?_ ?_ _); rotate_left; focus ((try simp) <;> omega)) | ((with_reducible refine Below.setCell ?_ ?_ _); rotate_left; focus ((try simp) <;> omega)) | ((with_reducible refine Below.trans ?_ (Below.mono (by assumption) ?_)); rotate_left; focus ((try simp) <;> omega)))))) hDl).mono ?_; rintro e w8 ⟨v8, rfl, hO8, hb8⟩; have hz8 := hb8.size; (try simp at hz8); obtain ⟨sc, sf⟩ := blk_at hb8 wr.heap.size (by (try simp) <;> omega); rw [hJ.out] at hO8; have hz8a : wr.heap.size < w8.heap.size := (by omega); obtain ⟨A8, c8, rfl, _, _, _⟩ := hO8.form; clear hO8)))
          go_roundw
          case rel => exact ⟨i + 1, L, by go_num, by omega, (hmid.out.all (by repeat (first | (with_reducible exact Below.refl _ _) | (with_reducible refine Below.drew ?_) | (with_reducible refine below_drewN ?_ _) | ((with_reducible refine Below.alloc ?_ ?_ _); rotate_left; focus ((try simp) <;> omega)) | ((with_reducible refine Below.setCell ?_ ?_ _); rotate_left; focus ((try simp) <;> omega)) | ((with_reducible refine Below.trans ?_ (Below.mono (by assumption) ?_)); rotate_left; focus ((try simp) <;> omega))))).drop hx.out hjn.out, hbw.trans (Below.mono (B := wr.heap.size) (by repeat (first | (with_reducible exact Below.refl _ _) | (with_reducible refine Below.drew ?_) | (with_reducible refine below_drewN ?_ _) | ((with_reducible refine Below.alloc ?_ ?_ _); rotate_left; focus ((try simp) <;> omega)) | ((with_reducible refine Below.setCell ?_ ?_ _); rotate_left; focus ((try simp) <;> omega)) | ((with_reducible refine Below.trans ?_ (Below.mono (by assumption) ?_)); rotate_left; focus ((try simp) <;> omega)))) (by omega))⟩
          case measure => simp [intOf]; omega
        · have hjn : Hid (¬ jobsG (dropG r x.g) = []) := Lib.hid (by rw [hJ0]; exact List.cons_ne_nil _ _)
          replace hJ0 := Lib.hid hJ0
          replace hyg := Lib.hid hyg
          have hd1 : (0 : Int) < (J.length : Int) + 1 := by omega
          go_wp2_with (first
            | (go_at_call 47; go_must (refine (hwi.out _ (by repeat (first | (with_reducible exact Below.refl _ _) | (with_reducible refine Below.drew ?_) | (with_reducible refine below_drewN ?_ _) | ((with_reducible refine Below.alloc ?_ ?_ _); rotate_left; focus ((try simp) <;> omega)) | ((with_reducible refine Below.setCell ?_ ?_ _); rotate_left; focus ((try simp) <;> omega)) | ((with_reducible refine Below.trans ?_ (Below.mono (by assumption) ?_)); rotate_left; focus ((try simp) <;> omega))))).mono ?_; rintro e w7 ⟨A7, c7, rfl, hO7, hb7⟩; have hz7 := hb7.size; (try simp at hz7); obtain ⟨tc, tf⟩ := blk_at hb7 wr.heap.size (by (try simp) <;> omega); have k0 : w7.cell? ⟨wr.heap.size, 0, none⟩ = some (.string x.name.1) := (tc _).trans (by go_simp); have k1 : w7.cell? ⟨wr.heap.size, 1, none⟩ = some (.string (x.run).1) := (tc _).trans (by go_simp); have k2 : w7.cell? ⟨wr.heap.size, 2, none⟩ = some (.string (x.job).1) := (tc _).trans (by go_simp); have k3 : w7.cell? ⟨wr.heap.size, 3, none⟩ = some (.slice x.waitA x.wait.length x.waitC) := (tc _).trans (by go_simp); have kf : ∀ o, w7.frozen? ⟨wr.heap.size, o, none⟩ = false := (fun o => (tf o).trans (by go_simp)); have hz7a : wr.heap.size < w7.heap.size := (by omega); have hY := Lib.hid (show OwnG (w7.setCell ⟨wr.heap.size, 3, none⟩ (.slice A7 D.length c7)) (w.heap.size + 1) (⟨x.name, x.run, x.job, A7, c7, D⟩ : Grp) from Own.setCell (Own.base hO7 (by (try simp) <;> omega)) (fun q hq e => by have := (hO7.lt q hq).1; (try simp at this); (try simp at e); omega) _); clear tc tf hO7))
            | (go_at_call 36; go_must (refine (jobs_any _ _ (OwnG.lab (OwnG.all hY.out (by repeat (first | (with_reducible exact Below.refl _ _) | (with_reducible refine Below.drew ?_) | (with_reducible refine below_drewN ?_ _) | ((with_reducible refine Below.alloc ?_ ?_ _); rotate_left; focus ((try simp) <;> omega)) | ((with_reducible refine Below.setCell ?_ ?_ _); rotate_left; focus ((try simp) <;> omega)) | ((with_reducible refine Below.trans ?_ (Below.mono (by assumption) ?_)); rotate_left; focus ((try simp) <;> omega)))))) hDl).mono ?_; rintro e w8 ⟨v8, rfl, hO8, hb8⟩; have hz8 := hb8.size; (try simp at hz8); obtain ⟨sc, sf⟩ := blk_at hb8 wr.heap.size (by (try simp) <;> omega); rw [hJ.out] at hO8; have hz8a : wr.heap.size < w8.heap.size := (by omega); obtain ⟨A8, c8, rfl, _, _, _⟩ := hO8.form; clear hO8))
            | (first
              | (at_builtin
                 go_loud (refine wpList_append_rw _ rfl (.tmp 37) (.tmp 39) _ rfl grpE_len grpE_one (w.heap.size + 1) 45 inf _ 72 Tryd.underlying22 hi0 iz0 iz1 iz2 rfl (by omega) u5 L rfl ?_ (w8.heap.size + 1) _ 1 1 [(⟨x.name, x.run, x.job, A7, c7, D⟩ : Grp)] rfl rfl ?_ ?_ ?_ ?_ ?_
                          · exact (hmid.out.all (by repeat (first | (with_reducible exact Below.refl _ _) | (with_reducible refine Below.drew ?_) | (with_reducible refine below_drewN ?_ _) | ((with_reducible refine Below.alloc ?_ ?_ _); rotate_left; focus ((try simp) <;> omega)) | ((with_reducible refine Below.setCell ?_ ?_ _); rotate_left; focus ((try simp) <;> omega)) | ((with_reducible refine Below.trans ?_ (Below.mono (by assumption) ?_)); rotate_left; focus ((try simp) <;> omega))))).out
                          · exact rw_litA (by simp) (by (try simp) <;> omega)
                          · (try simp [maxLen]) <;> omega
                          · (try simp) <;> omega
                          · (try simp) <;> omega
                          intro v9 w9 hown9 hg9 hat9
                          have hz9 := hg9.size
                          (try simp at hz9)
                          have hm9 := Lib.hid (MidM.keep (hmid.out.all (by repeat (first | (with_reducible exact Below.refl _ _) | (with_reducible refine Below.drew ?_) | (with_reducible refine below_drewN ?_ _) | ((with_reducible refine Below.alloc ?_ ?_ _); rotate_left; focus ((try simp) <;> omega)) | ((with_reducible refine Below.setCell ?_ ?_ _); rotate_left; focus ((try simp) <;> omega)) | ((with_reducible refine Below.trans ?_ (Below.mono (by assumption) ?_)); rotate_left; focus ((try simp) <;> omega))))) hx.out (hyg.out _ _) hjn.out (OwnG.all hY.out (by repeat (first | (with_reducible exact Below.refl _ _) | (with_reducible refine Below.drew ?_) | (with_reducible refine below_drewN ?_ _) | ((with_reducible refine Below.alloc ?_ ?_ _); rotate_left; focus ((try simp) <;> omega)) | ((with_reducible refine Below.setCell ?_ ?_ _); rotate_left; focus ((try simp) <;> omega)) | ((with_reducible refine Below.trans ?_ (Below.mono (by assumption) ?_)); rotate_left; focus ((try simp) <;> omega))))) hg9 hown9)
                          have hB9 := Lib.hid (Below.grown (hbw.trans (Below.mono (B := wr.heap.size) (by repeat (first | (with_reducible exact Below.refl _ _) | (with_reducible refine Below.drew ?_) | (with_reducible refine below_drewN ?_ _) | ((with_reducible refine Below.alloc ?_ ?_ _); rotate_left; focus ((try simp) <;> omega)) | ((with_reducible refine Below.setCell ?_ ?_ _); rotate_left; focus ((try simp) <;> omega)) | ((with_reducible refine Below.trans ?_ (Below.mono (by assumption) ?_)); rotate_left; focus ((try simp) <;> omega)))) (by omega))) hg9 (by (try simp) <;> omega) fun q hq => (hmid.out.out.lt q hq).1)
                          clear hg9 hat9 hown9))
              | fail))
          go_roundw
          case rel => exact ⟨i + 1, L ++ [(⟨x.name, x.run, x.job, A7, c7, D⟩ : Grp)], by go_num, by omega, hm9.out, hB9.out⟩
          case measure => simp [intOf]; omega
    · have i1 : ¬ (i : Int) < (l.length : Int) := by omega
      have hall := Lib.hid (leaveT_all (l.map Grp.g) r hv.out (i := i) (by rw [List.length_map]; omega))
      go_wp2_with fail
      go_ret
      obtain ⟨A', c', rfl, h1, h2, _⟩ := hmid.out.out.form
      exact ⟨A', c', L, rfl, ⟨hmid.out.out.reads grpE_len, fun y hy => (hmid.out.outs y hy).lab⟩, h1, by rw [hmid.out.maps, hall.out], hbw0⟩
set_option maxRecDepth 100000 in
set_option maxHeartbeats 8000000 in
theorem rleave_bad (A : Option Addr) (c : Nat) (l : List Grp) (r : JRef) (w : World) (hr : RwG w w.heap.size A l) (hm : Mild l) (hv : validB (l.map Grp.g) = false) :
    Calls Tryd.prog 24 #[.slice A l.length c, .agg #[.string r.run.1, .string r.job.1]] w fun e w' => e = .returned (.slice A l.length c) ∧ Below w.heap.size w w' := by
  have hva : Hid (∀ W, Below w.heap.size w W → Calls Tryd.prog 11 #[.slice A l.length c] W fun e w' => e = .returned (.int .i64 1) ∧ Below W.heap.size W w') := Lib.hid fun W hb => by
    have h := rvalid_any A c l W ((hr.below hb (Nat.le_refl _)).more hb.size) hm
    rwa [show validE (l.map Grp.g) = 1 by unfold validE; rw [hv]; rfl] at h
  replace hr := Lib.hid hr
  replace hm := Lib.hid hm
  replace hv := Lib.hid hv
  go_enter Tryd.func24, Tryd.ntmps24
  go_wp2_with (go_at_call 11; go_must (refine (hva.out _ (by repeat (first | (with_reducible exact Below.refl _ _) | (with_reducible refine Below.drew ?_) | (with_reducible refine below_drewN ?_ _) | ((with_reducible refine Below.alloc ?_ ?_ _); rotate_left; focus ((try simp) <;> omega)) | ((with_reducible refine Below.setCell ?_ ?_ _); rotate_left; focus ((try simp) <;> omega)) | ((with_reducible refine Below.trans ?_ (Below.mono (by assumption) ?_)); rotate_left; focus ((try simp) <;> omega))))).mono ?_; rintro e w1 ⟨rfl, hb1⟩; have hz1 := hb1.size; (try simp at hz1)))
  go_ret
  exact ⟨rfl, (by repeat (first | (with_reducible exact Below.refl _ _) | (with_reducible refine Below.drew ?_) | (with_reducible refine below_drewN ?_ _) | ((with_reducible refine Below.alloc ?_ ?_ _); rotate_left; focus ((try simp) <;> omega)) | ((with_reducible refine Below.setCell ?_ ?_ _); rotate_left; focus ((try simp) <;> omega)) | ((with_reducible refine Below.trans ?_ (Below.mono (by assumption) ?_)); rotate_left; focus ((try simp) <;> omega))))⟩
theorem rleave_any (A : Option Addr) (c : Nat) (l : List Grp) (r : JRef) (w : World) (hr : RwG w w.heap.size A l) (hlc : l.length ≤ c) (hm : Mild l) :
    Calls Tryd.prog 24 #[.slice A l.length c, .agg #[.string r.run.1, .string r.job.1]] w fun e w' => ∃ (A' : Option Addr) (c' : Nat) (l' : List Grp), e = .returned (.slice A' l'.length c') ∧ RwG w' w'.heap.size A' l' ∧ l'.length ≤ c' ∧ l'.map Grp.g = leaveL (l.map Grp.g) r ∧ Below w.heap.size w w' := by
  rcases hv : validB (l.map Grp.g) with _ | _
  · refine (rleave_bad A c l r w hr hm hv).mono ?_
    rintro e w' ⟨rfl, hb⟩
    exact ⟨A, c, l, rfl, (hr.below hb (Nat.le_refl _)).more hb.size, hlc, by unfold leaveL; rw [if_pos hv], hb⟩
  · exact rleave_val A c l r w hr hm hv
end Go.Proofs.YtbellobjajnlkaaDoor
