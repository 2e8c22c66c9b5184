/-
  The walks of provenance: a link added; a link looked up, by the program.
-/
import Derived.Test.YtjkijknjngiieaaGreatDoorPrw6


namespace Go.Proofs.YtjkijknjngiieaaGreatDoor
open Go.RowKit

set_option maxRecDepth 100000 in
set_option maxHeartbeats 8000000 in
theorem add_any (A : Option Addr) (c : Nat) (l : List Lkr) (x : Lkr) (w : World) (hr : RwL w w.heap.size A l) (hx : LabLkr w w.heap.size x) (hm : MildL l) (hmx : MildK x) (hG : Glob w) :
    Calls Tryz.prog 11 #[.slice A l.length c, .agg #[.string x.run.1, .string x.job.1, .int .i64 x.attempt.1, .int .u64 x.spec.1, .slice x.insA x.ins.length x.insC, .string x.name.1, .int .u64 x.digest.1, .int .i64 x.size.1]] w fun e w' => ∃ A' c' l', e = .returned (.tuple #[.slice A' l'.length c', .int .i64 (lnkErr (l.map Lkr.h) x.h)]) ∧ OwnL w' w.heap.size (.slice A' l'.length c') l' ∧ l'.map Lkr.h = lnkAdd (l.map Lkr.h) x.h ∧ Below w.heap.size w w' := by
  obtain ⟨inf, hi0, iz0, iz1, iz2⟩ := info_parts lkr_info
  have hcp : Hid (∀ y ∈ l, ∀ W, Below w.heap.size w W → Calls Tryz.prog 32 #[.agg #[.string y.run.1, .string y.job.1, .int .i64 y.attempt.1, .int .u64 y.spec.1, .slice y.insA y.ins.length y.insC, .string y.name.1, .int .u64 y.digest.1, .int .i64 y.size.1]] W fun e w' => ∃ A' C', e = .returned (.agg #[.string (atIns y A' C').run.1, .string (atIns y A' C').job.1, .int .i64 (atIns y A' C').attempt.1, .int .u64 (atIns y A' C').spec.1, .slice (atIns y A' C').insA (atIns y A' C').ins.length (atIns y A' C').insC, .string (atIns y A' C').name.1, .int .u64 (atIns y A' C').digest.1, .int .i64 (atIns y A' C').size.1]) ∧ Own outRE 3 29 w' W.heap.size (.slice A' y.ins.length C') y.ins ∧ Below W.heap.size W w') := Lib.hid fun y hy W hb => link_any y W (((hr.labs y hy).below hb (Nat.le_refl _)).more hb.size) (hm.each y hy).len
  have hcx : Hid (∀ W, Below w.heap.size w W → Calls Tryz.prog 32 #[.agg #[.string x.run.1, .string x.job.1, .int .i64 x.attempt.1, .int .u64 x.spec.1, .slice x.insA x.ins.length x.insC, .string x.name.1, .int .u64 x.digest.1, .int .i64 x.size.1]] W fun e w' => ∃ A' C', e = .returned (.agg #[.string (atIns x A' C').run.1, .string (atIns x A' C').job.1, .int .i64 (atIns x A' C').attempt.1, .int .u64 (atIns x A' C').spec.1, .slice (atIns x A' C').insA (atIns x A' C').ins.length (atIns x A' C').insC, .string (atIns x A' C').name.1, .int .u64 (atIns x A' C').digest.1, .int .i64 (atIns x A' C').size.1]) ∧ Own outRE 3 29 w' W.heap.size (.slice A' x.ins.length C') x.ins ∧ Below W.heap.size W w') := Lib.hid fun W hb => link_any x W ((hx.below hb (Nat.le_refl _)).more hb.size) hmx.len
  have hix : Hid (∀ W, Below w.heap.size w W → Calls Tryz.prog 34 #[.slice A l.length c] W fun e w' => e = .returned (.map (some W.heap.size)) ∧ MapI Tryz.prog 86 3 w' W.heap.size l.length (ixF (l.map Lkr.h)) ∧ Below W.heap.size W w') := Lib.hid fun W hb => index_any A c l W ((hr.row.below hb (Nat.le_refl _)).more hb.size) hm.len (fun y hy => (hm.each y hy).nm)
  obtain ⟨E, hE⟩ : ∃ E, lnkErr (l.map Lkr.h) x.h = E := ⟨_, rfl⟩
  have hck : Hid (∀ W b, Below w.heap.size w W → MapI Tryz.prog 86 3 W b l.length (ixF (l.map Lkr.h)) → Calls Tryz.prog 33 #[.slice A l.length c, .map (some b), .agg #[.string x.run.1, .string x.job.1, .int .i64 x.attempt.1, .int .u64 x.spec.1, .slice x.insA x.ins.length x.insC, .string x.name.1, .int .u64 x.digest.1, .int .i64 x.size.1]] W fun e w' => e = .returned (.int .i64 E) ∧ Below W.heap.size W w') := Lib.hid fun W b hb hmp => by
    rw [← hE]
    exact check_any A c l b l.length x W ((hr.row.below hb (Nat.le_refl _)).more hb.size) hm.len hmp ((hx.below hb (Nat.le_refl _)).more hb.size) (hG.keep hb) hmx
  rw [hE]
  have hrow := Lib.hid hr.row
  have hlen := hm.len
  clear hr hm hx hmx hG
  go_enter Tryz.func11, Tryz.ntmps11
  go_wp2_with fail
  go_loopw [6, 12] (fun vo vi wr => ∃ (k : Nat) (cur : List Lkr), k ≤ l.length ∧ vi = .int .i64 (k : Int) ∧ OwnL wr (w.heap.size + 1) vo cur ∧ cur.length = k ∧ cur.map Lkr.h = (l.take k).map Lkr.h ∧ (wr.cell? ⟨w.heap.size, 0, none⟩ = some (.string x.run.1) ∧ wr.cell? ⟨w.heap.size, 1, none⟩ = some (.string x.job.1) ∧ wr.cell? ⟨w.heap.size, 2, none⟩ = some (.int .i64 x.attempt.1) ∧ wr.cell? ⟨w.heap.size, 3, none⟩ = some (.int .u64 x.spec.1) ∧ wr.cell? ⟨w.heap.size, 4, none⟩ = some (.slice x.insA x.ins.length x.insC) ∧ wr.cell? ⟨w.heap.size, 5, none⟩ = some (.string x.name.1) ∧ wr.cell? ⟨w.heap.size, 6, none⟩ = some (.int .u64 x.digest.1) ∧ wr.cell? ⟨w.heap.size, 7, none⟩ = some (.int .i64 x.size.1)) ∧ w.heap.size < wr.heap.size ∧ Below w.heap.size w wr) (fun _ vi _ => l.length - (intOf vi).toNat)
  case atStart => exact ⟨0, [], Nat.zero_le _, rfl, OwnL.nil _ _, rfl, rfl, ⟨by go_simp, by go_simp, by go_simp, by go_simp, by go_simp, by go_simp, by go_simp, by go_simp⟩, by simp, (by repeat (first | (with_reducible exact Below.refl _ _) | (with_reducible refine Below.drew ?_) | (with_reducible refine below_drewN ?_ _) | ((with_reducible refine Below.alloc ?_ ?_ _); rotate_left; focus ((try simp) <;> omega)) | ((with_reducible refine Below.setCell ?_ ?_ _); rotate_left; focus ((try simp) <;> omega)) | ((with_reducible refine Below.trans ?_ (Below.mono (by assumption) ?_)); rotate_left; focus ((try simp) <;> omega))))⟩
  case round =>
    obtain ⟨k, cur, hk, rfl, hown, hcl, hcm, hbox, hzr, hbw⟩ := hrel
    have hz := hbw.size
    by_cases hkl : k < l.length
    · obtain ⟨y, hy⟩ := get_some hkl
      obtain ⟨g, o, rfl, hg, hq⟩ := hrow.out (by omega)
      have q0 := (hbw.cell (p := ⟨g, o + k * 8 + 0, none⟩) hg).trans (hq k y hy 0 (.string y.run.1) rfl)
      rw [Nat.add_zero] at q0
      have q1 := (hbw.cell (p := ⟨g, o + k * 8 + 1, none⟩) hg).trans (hq k y hy 1 (.string y.job.1) rfl)
      have q2 := (hbw.cell (p := ⟨g, o + k * 8 + 2, none⟩) hg).trans (hq k y hy 2 (.int .i64 y.attempt.1) rfl)
      have q3 := (hbw.cell (p := ⟨g, o + k * 8 + 3, none⟩) hg).trans (hq k y hy 3 (.int .u64 y.spec.1) rfl)
      have q4 := (hbw.cell (p := ⟨g, o + k * 8 + 4, none⟩) hg).trans (hq k y hy 4 (.slice y.insA y.ins.length y.insC) rfl)
      have q5 := (hbw.cell (p := ⟨g, o + k * 8 + 5, none⟩) hg).trans (hq k y hy 5 (.string y.name.1) rfl)
      have q6 := (hbw.cell (p := ⟨g, o + k * 8 + 6, none⟩) hg).trans (hq k y hy 6 (.int .u64 y.digest.1) rfl)
      have q7 := (hbw.cell (p := ⟨g, o + k * 8 + 7, none⟩) hg).trans (hq k y hy 7 (.int .i64 y.size.1) rfl)
      clear hq
      have i0 : (0 : Int) ≤ (k : Int) := by omega
      have i1 : (k : Int) < (l.length : Int) := by omega
      have hc2 := Lib.hid fun W hb => hcp.out y (List.mem_of_getElem? hy) W hb
      have hnx : Hid (∀ z : Lkr, z.h = y.h → (cur ++ [z]).map Lkr.h = (l.take (k + 1)).map Lkr.h) := Lib.hid fun z hz => by
        rw [List.map_append, hcm, links_at hy]
        simp [hz]
      have hcl1 := Nat.le_of_eq hcl
      replace hbox := Lib.hid hbox
      replace hy := Lib.hid hy
      replace hcl := Lib.hid hcl
      replace hcm := Lib.hid hcm
      replace hown := Lib.hid hown
      have hvlt := Lib.hid hown.out.row.lt
      go_wp2_with (first
        | (go_at_call 32; go_must (refine (hc2.out _ (by repeat (first | (with_reducible exact Below.refl _ _) | (with_reducible refine Below.drew ?_) | (with_reducible refine below_drewN ?_ _) | ((with_reducible refine Below.alloc ?_ ?_ _); rotate_left; focus ((try simp) <;> omega)) | ((with_reducible refine Below.setCell ?_ ?_ _); rotate_left; focus ((try simp) <;> omega)) | ((with_reducible refine Below.trans ?_ (Below.mono (by assumption) ?_)); rotate_left; focus ((try simp) <;> omega))))).mono ?_; rintro e w2 ⟨A2, C2, rfl, ho2, hb2⟩; have hz2 := hb2.size; (try simp at hz2)))
        | (at_builtin
           refine wpList_append_rw _ rfl (.tmp 16) (.tmp 19) _ rfl lkrE_len lkrE_one (w.heap.size + 1) 31 inf _ 104 Tryz.underlying22 hi0 iz0 iz1 iz2 rfl (by omega) _ cur rfl ((hown.out.row.all (show Below wr.heap.size wr w2 from (by repeat (first | (with_reducible exact Below.refl _ _) | (with_reducible refine Below.drew ?_) | (with_reducible refine below_drewN ?_ _) | ((with_reducible refine Below.alloc ?_ ?_ _); rotate_left; focus ((try simp) <;> omega)) | ((with_reducible refine Below.setCell ?_ ?_ _); rotate_left; focus ((try simp) <;> omega)) | ((with_reducible refine Below.trans ?_ (Below.mono (by assumption) ?_)); rotate_left; focus ((try simp) <;> omega)))))).alloc _) (w2.heap.size + 1) (some ⟨w2.heap.size, 0, none⟩) 1 1 [atIns y A2 C2] rfl rfl (rw_lkr rfl (by omega)) ?_ ?_ ?_ ?_
           · (try simp [maxLen]) <;> omega
           · (try simp) <;> omega
           · (try simp) <;> omega
           intro v4 w4 hown4 hg4 hat4
           have hz4 := hg4.size
           (try simp at hz4)))
      go_roundw
      case rel =>
        have hO : OwnL w4 (w.heap.size + 1) v4 (cur ++ [atIns y A2 C2]) := by
          refine OwnL.grown ((hown.out.all (show Below wr.heap.size wr w2 from (by repeat (first | (with_reducible exact Below.refl _ _) | (with_reducible refine Below.drew ?_) | (with_reducible refine below_drewN ?_ _) | ((with_reducible refine Below.alloc ?_ ?_ _); rotate_left; focus ((try simp) <;> omega)) | ((with_reducible refine Below.setCell ?_ ?_ _); rotate_left; focus ((try simp) <;> omega)) | ((with_reducible refine Below.trans ?_ (Below.mono (by assumption) ?_)); rotate_left; focus ((try simp) <;> omega)))))).all (show Below w2.heap.size w2 _ from (Below.refl _ _).alloc (Nat.le_refl _) _)) hown4 hg4 fun z hz => ?_
          rcases List.mem_append.1 hz with h | h
          · exact .inl h
          · obtain rfl := List.mem_singleton.1 h
            exact .inr ((own_labl y ho2).all ((Below.refl _ _).alloc (Nat.le_refl _) _))
        have hbb : Below (w.heap.size + 1) wr w4 := Below.grown (Below.mono (B := wr.heap.size) (by repeat (first | (with_reducible exact Below.refl _ _) | (with_reducible refine Below.drew ?_) | (with_reducible refine below_drewN ?_ _) | ((with_reducible refine Below.alloc ?_ ?_ _); rotate_left; focus ((try simp) <;> omega)) | ((with_reducible refine Below.setCell ?_ ?_ _); rotate_left; focus ((try simp) <;> omega)) | ((with_reducible refine Below.trans ?_ (Below.mono (by assumption) ?_)); rotate_left; focus ((try simp) <;> omega)))) (by omega)) hg4 (by (try simp) <;> omega) (fun q hq => (hvlt.out q hq).1)
        refine ⟨k + 1, _, hkl, by go_num, hO, by rw [List.length_append, hcl.out]; rfl, hnx.out _ rfl, ?_, by omega, hbw.trans (hbb.mono (Nat.le_succ _))⟩
        obtain ⟨m0, m1, m2, m3, m4, m5, m6, m7⟩ := hbox.out
        have e5 := fun i => hbb.cell (p := ⟨w.heap.size, i, none⟩) (Nat.lt_succ_self _)
        exact ⟨(e5 _).trans m0, (e5 _).trans m1, (e5 _).trans m2, (e5 _).trans m3, (e5 _).trans m4, (e5 _).trans m5, (e5 _).trans m6, (e5 _).trans m7⟩
      case measure => simp [intOf]; omega
    · have i1 : ¬ (k : Int) < (l.length : Int) := by omega
      have hkk : k = l.length := by omega
      rw [hkk, List.take_length] at hcm
      obtain ⟨A4, c4, e4, hlc4, _, _⟩ := hown.row.form
      subst e4
      have hcl1 := Nat.le_of_eq hcl
      replace hcl := Lib.hid hcl
      replace hcm := Lib.hid hcm
      replace hkk := Lib.hid hkk
      replace hown := Lib.hid hown
      have hbx := Lib.hid hbox
      obtain ⟨m0, m1, m2, m3, m4, m5, m6, m7⟩ := hbox
      go_upto_region 7 with fail
      go_cut [9] (fun s9 wx => s9 = .int .i64 E ∧ Below wr.heap.size wr wx)
      case first =>
        go_region_held3 (fun w' => w'.cell? ⟨w.heap.size, 0, none⟩ = some (.string x.run.1) ∧ w'.cell? ⟨w.heap.size, 1, none⟩ = some (.string x.job.1) ∧ w'.cell? ⟨w.heap.size, 2, none⟩ = some (.int .i64 x.attempt.1) ∧ w'.cell? ⟨w.heap.size, 3, none⟩ = some (.int .u64 x.spec.1) ∧ w'.cell? ⟨w.heap.size, 4, none⟩ = some (.slice x.insA x.ins.length x.insC) ∧ w'.cell? ⟨w.heap.size, 5, none⟩ = some (.string x.name.1) ∧ w'.cell? ⟨w.heap.size, 6, none⟩ = some (.int .u64 x.digest.1) ∧ w'.cell? ⟨w.heap.size, 7, none⟩ = some (.int .i64 x.size.1)) (first | (go_keep; done) | (go_simp; done) | go_keep)
          (first
          | (go_at_call 34; go_must (refine (hix.out _ (by repeat (first | (with_reducible exact Below.refl _ _) | (with_reducible refine Below.drew ?_) | (with_reducible refine below_drewN ?_ _) | ((with_reducible refine Below.alloc ?_ ?_ _); rotate_left; focus ((try simp) <;> omega)) | ((with_reducible refine Below.setCell ?_ ?_ _); rotate_left; focus ((try simp) <;> omega)) | ((with_reducible refine Below.trans ?_ (Below.mono (by assumption) ?_)); rotate_left; focus ((try simp) <;> omega))))).mono ?_; rintro e w2 ⟨rfl, hmp2, hb2⟩; have hz2 := hb2.size; have hml := hmp2.lt; (try simp at hz2); (try simp at hml); replace hmp2 := Lib.hid hmp2; obtain ⟨hc2, hf2⟩ := blk_at hb2 w.heap.size (by (try simp) <;> omega)))
          | (go_at_call 33; go_must (refine (hck.out _ _ (by repeat (first | (with_reducible exact Below.refl _ _) | (with_reducible refine Below.drew ?_) | (with_reducible refine below_drewN ?_ _) | ((with_reducible refine Below.alloc ?_ ?_ _); rotate_left; focus ((try simp) <;> omega)) | ((with_reducible refine Below.setCell ?_ ?_ _); rotate_left; focus ((try simp) <;> omega)) | ((with_reducible refine Below.trans ?_ (Below.mono (by assumption) ?_)); rotate_left; focus ((try simp) <;> omega)))) hmp2.out).mono ?_; rintro e w3 ⟨rfl, hb3⟩; have hz3 := hb3.size; obtain ⟨hc3, hf3⟩ := blk_at hb3 w.heap.size (by (try simp) <;> omega)))
          | fail "none")
        all_goals (go_wp2_with fail; go_meet)
        all_goals exact ⟨rfl, (by repeat (first | (with_reducible exact Below.refl _ _) | (with_reducible refine Below.drew ?_) | (with_reducible refine below_drewN ?_ _) | ((with_reducible refine Below.alloc ?_ ?_ _); rotate_left; focus ((try simp) <;> omega)) | ((with_reducible refine Below.setCell ?_ ?_ _); rotate_left; focus ((try simp) <;> omega)) | ((with_reducible refine Below.trans ?_ (Below.mono (by assumption) ?_)); rotate_left; focus ((try simp) <;> omega))))⟩
      case rest =>
        obtain ⟨rfl, hbw2⟩ := hcut
        have hz2 := hbw2.size
        obtain ⟨e5, f5⟩ := blk_at hbw2 w.heap.size hzr
        have hO2 := Lib.hid (hown.out.all hbw2)
        by_cases hE0 : E = 0
        · subst hE0
          have had : Hid (∀ z : Lkr, z.h = x.h → (cur ++ [z]).map Lkr.h = lnkAdd (l.map Lkr.h) x.h) := Lib.hid fun z hz => by
            unfold lnkAdd
            rw [hE, if_neg (by decide), List.map_append, hcm.out]
            simp [hz]
          replace hE := Lib.hid hE
          have hvlt := Lib.hid hown.out.row.lt
          have hcl2 : cur.length ≤ 1000000 := by omega
          go_wp2_with (first
            | (go_at_call 32; go_must (refine (hcx.out _ (by repeat (first | (with_reducible exact Below.refl _ _) | (with_reducible refine Below.drew ?_) | (with_reducible refine below_drewN ?_ _) | ((with_reducible refine Below.alloc ?_ ?_ _); rotate_left; focus ((try simp) <;> omega)) | ((with_reducible refine Below.setCell ?_ ?_ _); rotate_left; focus ((try simp) <;> omega)) | ((with_reducible refine Below.trans ?_ (Below.mono (by assumption) ?_)); rotate_left; focus ((try simp) <;> omega))))).mono ?_; rintro e w6 ⟨A6, C6, rfl, ho6, hb6⟩; have hz6 := hb6.size; (try simp at hz6)))
            | (at_builtin
               refine wpList_append_rw _ rfl (.tmp 31) (.tmp 34) _ rfl lkrE_len lkrE_one (w.heap.size + 1) 31 inf _ 104 Tryz.underlying22 hi0 iz0 iz1 iz2 rfl (by omega) _ cur rfl ((hO2.out.row.all (show Below wc.heap.size wc w6 from (by repeat (first | (with_reducible exact Below.refl _ _) | (with_reducible refine Below.drew ?_) | (with_reducible refine below_drewN ?_ _) | ((with_reducible refine Below.alloc ?_ ?_ _); rotate_left; focus ((try simp) <;> omega)) | ((with_reducible refine Below.setCell ?_ ?_ _); rotate_left; focus ((try simp) <;> omega)) | ((with_reducible refine Below.trans ?_ (Below.mono (by assumption) ?_)); rotate_left; focus ((try simp) <;> omega)))))).alloc _) (w6.heap.size + 1) (some ⟨w6.heap.size, 0, none⟩) 1 1 [atIns x A6 C6] rfl rfl (rw_lkr rfl (by omega)) ?_ ?_ ?_ ?_
               · (try simp [maxLen]) <;> omega
               · (try simp) <;> omega
               · (try simp) <;> omega
               intro v7 w7 hown7 hg7 hat7
               have hz7 := hg7.size
               (try simp at hz7)))
          have hO : OwnL w7 (w.heap.size + 1) v7 (cur ++ [atIns x A6 C6]) := by
            refine OwnL.grown ((hO2.out.all (show Below wc.heap.size wc w6 from (by repeat (first | (with_reducible exact Below.refl _ _) | (with_reducible refine Below.drew ?_) | (with_reducible refine below_drewN ?_ _) | ((with_reducible refine Below.alloc ?_ ?_ _); rotate_left; focus ((try simp) <;> omega)) | ((with_reducible refine Below.setCell ?_ ?_ _); rotate_left; focus ((try simp) <;> omega)) | ((with_reducible refine Below.trans ?_ (Below.mono (by assumption) ?_)); rotate_left; focus ((try simp) <;> omega)))))).all (show Below w6.heap.size w6 _ from (Below.refl _ _).alloc (Nat.le_refl _) _)) hown7 hg7 fun z hz => ?_
            rcases List.mem_append.1 hz with h | h
            · exact .inl h
            · obtain rfl := List.mem_singleton.1 h
              exact .inr ((own_labl x ho6).all ((Below.refl _ _).alloc (Nat.le_refl _) _))
          have hbb : Below (w.heap.size + 1) wr w7 := Below.grown (Below.mono (B := wr.heap.size) (hbw2.trans (Below.mono (B := wc.heap.size) (by repeat (first | (with_reducible exact Below.refl _ _) | (with_reducible refine Below.drew ?_) | (with_reducible refine below_drewN ?_ _) | ((with_reducible refine Below.alloc ?_ ?_ _); rotate_left; focus ((try simp) <;> omega)) | ((with_reducible refine Below.setCell ?_ ?_ _); rotate_left; focus ((try simp) <;> omega)) | ((with_reducible refine Below.trans ?_ (Below.mono (by assumption) ?_)); rotate_left; focus ((try simp) <;> omega)))) hz2)) (by omega)) hg7 (by (try simp) <;> omega) (fun q hq => (hvlt.out q hq).1)
          obtain ⟨A8, c8, e8, _, _, _⟩ := hO.row.form
          subst e8
          exact bodyPost_ret (v := .tuple #[.slice A8 (cur ++ [atIns x A6 C6]).length c8, .int .i64 0]) (by simp [results, Tryz.results11, go_sem]) rfl ⟨A8, c8, _, rfl, hO.base (Nat.le_succ _), had.out _ rfl, hbw.trans (hbb.mono (Nat.le_succ _))⟩
        · have had : Hid (cur.map Lkr.h = lnkAdd (l.map Lkr.h) x.h) := Lib.hid (by
            unfold lnkAdd
            rw [hE, if_pos hE0, hcm.out])
          have hEb : (E != 0) = true := by rw [bne_iff_ne]; exact hE0
          replace hE := Lib.hid hE
          go_wp2_with fail
          exact bodyPost_ret (v := .tuple #[.slice A4 cur.length c4, .int .i64 E]) (by simp [results, Tryz.results11, go_sem]) rfl ⟨A4, c4, cur, rfl, hO2.out.base (Nat.le_succ _), had.out, hbw.trans (hbw2.mono hz)⟩
def zeroL : Lkr := ⟨⟨ByteArray.empty, by decide⟩, ⟨ByteArray.empty, by decide⟩, ⟨0, by omega⟩, ⟨0, by omega⟩, none, 0, [], ⟨ByteArray.empty, by decide⟩, ⟨0, by omega⟩, ⟨0, by omega⟩⟩
/-- What is found of a name. -/
def findL (ls : List Lnk) (run nm : Str) : Lnk := if hasL ls run nm = true then ls[idxL ls run nm]! else zeroL.h
set_option maxRecDepth 100000 in
set_option maxHeartbeats 4000000 in
theorem find_any (A : Option Addr) (c : Nat) (l : List Lkr) (run nm : Str) (w : World) (hr : RwL w w.heap.size A l) (hm : MildL l) :
    Calls Tryz.prog 14 #[.slice A l.length c, .string run.1, .string nm.1] w fun e w' => ∃ y : Lkr, e = .returned (.tuple #[.agg #[.string y.run.1, .string y.job.1, .int .i64 y.attempt.1, .int .u64 y.spec.1, .slice y.insA y.ins.length y.insC, .string y.name.1, .int .u64 y.digest.1, .int .i64 y.size.1], .bool (hasL (l.map Lkr.h) run nm)]) ∧ y.h = findL (l.map Lkr.h) run nm ∧ LabLkr w' w'.heap.size y ∧ Below w.heap.size w w' := by
  have hcp : Hid (∀ y ∈ l, ∀ W, Below w.heap.size w W → Calls Tryz.prog 32 #[.agg #[.string y.run.1, .string y.job.1, .int .i64 y.attempt.1, .int .u64 y.spec.1, .slice y.insA y.ins.length y.insC, .string y.name.1, .int .u64 y.digest.1, .int .i64 y.size.1]] W fun e w' => ∃ A' C', e = .returned (.agg #[.string (atIns y A' C').run.1, .string (atIns y A' C').job.1, .int .i64 (atIns y A' C').attempt.1, .int .u64 (atIns y A' C').spec.1, .slice (atIns y A' C').insA (atIns y A' C').ins.length (atIns y A' C').insC, .string (atIns y A' C').name.1, .int .u64 (atIns y A' C').digest.1, .int .i64 (atIns y A' C').size.1]) ∧ Own outRE 3 29 w' W.heap.size (.slice A' y.ins.length C') y.ins ∧ Below W.heap.size W w') := Lib.hid fun y hy W hb => link_any y W (((hr.labs y hy).below hb (Nat.le_refl _)).more hb.size) (hm.each y hy).len
  have hix : Hid (∀ W, Below w.heap.size w W → Calls Tryz.prog 34 #[.slice A l.length c] W fun e w' => e = .returned (.map (some W.heap.size)) ∧ MapI Tryz.prog 86 3 w' W.heap.size l.length (ixF (l.map Lkr.h)) ∧ Below W.heap.size W w') := Lib.hid fun W hb => index_any A c l W ((hr.row.below hb (Nat.le_refl _)).more hb.size) hm.len (fun y hy => (hm.each y hy).nm)
  have hrow := hr.row
  have hlen := hm.len
  have hat := ixF_at (l.map Lkr.h) run nm
  rcases hh : hasL (l.map Lkr.h) run nm with _ | _
  · have hf : Hid (findL (l.map Lkr.h) run nm = zeroL.h) := Lib.hid (by unfold findL; rw [if_neg (by rw [hh]; decide)])
    rw [if_neg (by rw [hh]; decide)] at hat
    replace hat := Lib.hid hat
    replace hh := Lib.hid hh
    clear hr hm hrow
    go_enter Tryz.func14, Tryz.ntmps14
    go_wp2_with (first
      | (go_at_call 34; go_must (refine (hix.out _ (by repeat (first | (with_reducible exact Below.refl _ _) | (with_reducible refine Below.drew ?_) | (with_reducible refine below_drewN ?_ _) | ((with_reducible refine Below.alloc ?_ ?_ _); rotate_left; focus ((try simp) <;> omega)) | ((with_reducible refine Below.setCell ?_ ?_ _); rotate_left; focus ((try simp) <;> omega)) | ((with_reducible refine Below.trans ?_ (Below.mono (by assumption) ?_)); rotate_left; focus ((try simp) <;> omega))))).mono ?_; rintro e w2 ⟨rfl, hmp2, hb2⟩; have hz2 := hb2.size; (try simp at hz2); obtain ⟨hc2, hf2⟩ := blk_at hb2 w.heap.size (by (try simp) <;> omega); (try simp only [World.size_alloc] at hmp2); replace hmp2 := Lib.hid hmp2))
      | (at_lookup; (refine wpList_look_mapi rfl (.tmp 12) (.tmp 15) 78 rfl 86 3 keyedK Tryz.underlying78 Tryz.underlying3 (by kernel_rfl) _ _ _ rfl hmp2.out _ (keyK run nm) rfl (key_at run nm) none hat.out ?_)))
    refine bodyPost_ret (v := .tuple #[.agg #[.string zeroL.run.1, .string zeroL.job.1, .int .i64 zeroL.attempt.1, .int .u64 zeroL.spec.1, .slice zeroL.insA zeroL.ins.length zeroL.insC, .string zeroL.name.1, .int .u64 zeroL.digest.1, .int .i64 zeroL.size.1], .bool false]) (by simp [results, Tryz.results14, go_sem, hc2, zeroL] <;> rfl) rfl ⟨zeroL, rfl, hf.out.symm, ⟨Nat.le_refl _, Nat.zero_le _, Rw.nil⟩, (by repeat (first | (with_reducible exact Below.refl _ _) | (with_reducible refine Below.drew ?_) | (with_reducible refine below_drewN ?_ _) | ((with_reducible refine Below.alloc ?_ ?_ _); rotate_left; focus ((try simp) <;> omega)) | ((with_reducible refine Below.setCell ?_ ?_ _); rotate_left; focus ((try simp) <;> omega)) | ((with_reducible refine Below.trans ?_ (Below.mono (by assumption) ?_)); rotate_left; focus ((try simp) <;> omega))))⟩
  · rw [if_pos hh] at hat
    obtain ⟨z', hz', -, -⟩ := has_at2 hh
    have hjl := idx_lt hh
    rw [List.length_map] at hjl
    obtain ⟨y, hy⟩ := get_some hjl
    have hf : Hid (findL (l.map Lkr.h) run nm = y.h) := Lib.hid (by
      unfold findL
      rw [if_pos hh]
      exact get_bang (by rw [List.getElem?_map, hy]; rfl))
    obtain ⟨k, hJ⟩ : ∃ J, idxL (l.map Lkr.h) run nm = J := ⟨_, rfl⟩
    rw [hJ] at hat hz' hjl hy
    obtain ⟨g, o, rfl, hg, hq⟩ := hrow (by omega)
    have hbw : Below w.heap.size w w := Below.refl _ _
    have q0 := (hbw.cell (p := ⟨g, o + k * 8 + 0, none⟩) hg).trans (hq k y hy 0 (.string y.run.1) rfl)
    rw [Nat.add_zero] at q0
    have q1 := (hbw.cell (p := ⟨g, o + k * 8 + 1, none⟩) hg).trans (hq k y hy 1 (.string y.job.1) rfl)
    have q2 := (hbw.cell (p := ⟨g, o + k * 8 + 2, none⟩) hg).trans (hq k y hy 2 (.int .i64 y.attempt.1) rfl)
    have q3 := (hbw.cell (p := ⟨g, o + k * 8 + 3, none⟩) hg).trans (hq k y hy 3 (.int .u64 y.spec.1) rfl)
    have q4 := (hbw.cell (p := ⟨g, o + k * 8 + 4, none⟩) hg).trans (hq k y hy 4 (.slice y.insA y.ins.length y.insC) rfl)
    have q5 := (hbw.cell (p := ⟨g, o + k * 8 + 5, none⟩) hg).trans (hq k y hy 5 (.string y.name.1) rfl)
    have q6 := (hbw.cell (p := ⟨g, o + k * 8 + 6, none⟩) hg).trans (hq k y hy 6 (.int .u64 y.digest.1) rfl)
    have q7 := (hbw.cell (p := ⟨g, o + k * 8 + 7, none⟩) hg).trans (hq k y hy 7 (.int .i64 y.size.1) rfl)
    clear hq
    clear hbw
    have i0 : (0 : Int) ≤ (k : Int) := by omega
    have i1 : (k : Int) < (l.length : Int) := by omega
    have hcy := Lib.hid fun W hb => hcp.out y (List.mem_of_getElem? hy) W hb
    replace hat := Lib.hid hat
    replace hh := Lib.hid hh
    replace hy := Lib.hid hy
    replace hz' := Lib.hid hz'
    replace hJ := Lib.hid hJ
    clear hr hm hrow
    go_enter Tryz.func14, Tryz.ntmps14
    go_wp2_with (first
      | (go_at_call 34; go_must (refine (hix.out _ (by repeat (first | (with_reducible exact Below.refl _ _) | (with_reducible refine Below.drew ?_) | (with_reducible refine below_drewN ?_ _) | ((with_reducible refine Below.alloc ?_ ?_ _); rotate_left; focus ((try simp) <;> omega)) | ((with_reducible refine Below.setCell ?_ ?_ _); rotate_left; focus ((try simp) <;> omega)) | ((with_reducible refine Below.trans ?_ (Below.mono (by assumption) ?_)); rotate_left; focus ((try simp) <;> omega))))).mono ?_; rintro e w2 ⟨rfl, hmp2, hb2⟩; have hz2 := hb2.size; (try simp at hz2); have hk2 : w.heap.size < w2.heap.size := (by omega); obtain ⟨hc2, hf2⟩ := blk_at hb2 w.heap.size (by (try simp) <;> omega); obtain ⟨hd2, he2⟩ := blk_at hb2 g (by (try simp) <;> omega); (try simp only [World.size_alloc] at hmp2); replace hmp2 := Lib.hid hmp2))
      | (at_lookup; (refine wpList_look_mapi rfl (.tmp 12) (.tmp 15) 78 rfl 86 3 keyedK Tryz.underlying78 Tryz.underlying3 (by kernel_rfl) _ _ _ rfl hmp2.out _ (keyK run nm) rfl (key_at run nm) (some (k : Int)) hat.out ?_))
      | (go_at_call 32; go_must (refine (hcy.out _ (by repeat (first | (with_reducible exact Below.refl _ _) | (with_reducible refine Below.drew ?_) | (with_reducible refine below_drewN ?_ _) | ((with_reducible refine Below.alloc ?_ ?_ _); rotate_left; focus ((try simp) <;> omega)) | ((with_reducible refine Below.setCell ?_ ?_ _); rotate_left; focus ((try simp) <;> omega)) | ((with_reducible refine Below.trans ?_ (Below.mono (by assumption) ?_)); rotate_left; focus ((try simp) <;> omega))))).mono ?_; rintro e w3 ⟨A3, C3, rfl, ho3, hb3⟩; have hz3 := hb3.size; (try simp at hz3); obtain ⟨hc3, hf3⟩ := blk_at hb3 w.heap.size (by (try simp) <;> omega))))
    have hlt := ho3.lt
    have hob : Own outRE 3 29 w3 w2.heap.size (.slice A3 y.ins.length C3) y.ins := own_base ho3 (by (try simp) <;> omega)
    refine bodyPost_ret (v := .tuple #[.agg #[.string (atIns y A3 C3).run.1, .string (atIns y A3 C3).job.1, .int .i64 (atIns y A3 C3).attempt.1, .int .u64 (atIns y A3 C3).spec.1, .slice (atIns y A3 C3).insA (atIns y A3 C3).ins.length (atIns y A3 C3).insC, .string (atIns y A3 C3).name.1, .int .u64 (atIns y A3 C3).digest.1, .int .i64 (atIns y A3 C3).size.1], .bool true]) (by simp [results, Tryz.results14, go_sem, hc3, hc2, atIns]) rfl ⟨atIns y A3 C3, rfl, hf.out.symm, (own_labl y (H := w2.heap.size) ?_).1, (by repeat (first | (with_reducible exact Below.refl _ _) | (with_reducible refine Below.drew ?_) | (with_reducible refine below_drewN ?_ _) | ((with_reducible refine Below.alloc ?_ ?_ _); rotate_left; focus ((try simp) <;> omega)) | ((with_reducible refine Below.setCell ?_ ?_ _); rotate_left; focus ((try simp) <;> omega)) | ((with_reducible refine Below.trans ?_ (Below.mono (by assumption) ?_)); rotate_left; focus ((try simp) <;> omega))))⟩
    repeat (refine Own.setCell ?_ (fun q hq => by have := (hlt q hq).1; (try simp at this); show q ≠ _; (try simp) <;> omega) _)
    exact hob
end Go.Proofs.YtjkijknjngiieaaGreatDoor
