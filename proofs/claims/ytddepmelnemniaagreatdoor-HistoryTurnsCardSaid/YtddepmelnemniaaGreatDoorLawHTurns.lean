/-
  HistoryTurns: the order of the results that are added does not matter; the example holds. No condition.
-/
import Derived.Test.YtddepmelnemniaaGreatDoorHis30
import Derived.Test.YtddepmelnemniaaGreatDoorBase1
import Derived.Test.YtddepmelnemniaaGreatDoorLayTab




namespace Go.Proofs.YtddepmelnemniaaGreatDoor.historyTurns
open Go.ChangeShapes Go.WideShapes Go.ChangeAt Go.RowKit Go.Joins
theorem own : ownKnob Tryz.prog.godebug = none := by kernel_rfl
theorem laidOut : laidOutB Tryz.prog = true := by kernel_rfl

def nine : U64 := ⟨9, by omega⟩
theorem res_info : (Tryz.prog.info? 45).map (fun i => (i.zero, i.size, i.bytes)) = some (some (.agg #[.string ByteArray.empty, .int .i64 0, .int .i64 0]), 3, 32) := by kernel_rfl
theorem add_back {L : List Hs} {rs : List Res} {now : I64} : addL L rs nine now = addL L rs.reverse nine now ∧ (addErr L rs now.1 == 0) = (addErr L rs.reverse now.1 == 0) := by
  have hp : rs.Perm rs.reverse := rs.reverse_perm.symm
  have ht := add_turn (l := L) (now := now) hp
  by_cases h : addErr L rs now.1 = 0
  · have h2 := ht.1 h
    obtain ⟨hv, hr, _⟩ := addErr_ok h
    exact ⟨by rw [add_done h, add_done h2]; exact all_turn hp hv.asc hr.nodup nine now, by rw [h, h2]⟩
  · have h2 : ¬ addErr L rs.reverse now.1 = 0 := fun e => h (ht.2 e)
    exact ⟨by rw [add_same h, add_same h2], by rw [beq_eq_false_iff_ne.2 h, beq_eq_false_iff_ne.2 h2]⟩
theorem drop_back {rs : List Res} {j : Nat} {r : Res} (h : rs[j]? = some r) : (rs.drop j).reverse = (rs.drop (j + 1)).reverse ++ [r] := by
  rw [drop_at h, List.reverse_cons]
theorem adds_small {l : List Hst} {L : List Hs} {rs : List Res} {code : U64} {now : I64} (hL : l.map Hst.h = L) (hm : MildH l) (hl : l.length ≤ 40) : (addL L rs code now).length ≤ 1000000 ∧ ∀ x ∈ addL L rs code now, x.l.length ≤ 1000000 := by
  by_cases h : addErr L rs now.1 = 0
  · have hv := add_val (code := code) h
    rw [add_done h]
    exact ⟨by have := hv.len; omega, fun x hx => by have := (hv.each x hx).len; omega⟩
  · rw [add_same h, ← hL]
    refine ⟨by rw [List.length_map]; omega, fun x hx => ?_⟩
    obtain ⟨z, hz, rfl⟩ := List.mem_map.1 hx
    exact hm.samps z hz
set_option maxRecDepth 100000 in
set_option maxHeartbeats 8000000 in
theorem walk (A : Option Addr) (c : Nat) (l : List Hst) (Ar : Option Addr) (cr : Nat) (rs : List Res) (now : I64) (w : World) (hr : RwH w w.heap.size A l) (hrr : Rw resE 3 w w.heap.size Ar rs) (hn : l.length ≤ 9223372036854775807) (hrn : rs.length ≤ 9223372036854775807) (hG : Glob w) :
    Calls Tryz.prog 6 #[.slice A l.length c, .slice Ar rs.length cr, .int .i64 now.1] w fun e w' => e = .returned (.bool true) ∧ Below w.heap.size w w' := by
  have hsm0 : ∀ W, Below w.heap.size w W → Calls Tryz.prog 8 #[.slice A l.length c] W fun e w' => e = .returned (.bool (smallB l)) ∧ Below W.heap.size W w' := fun W hb => small_any A c l W ((hr.row.below hb (Nat.le_refl _)).more hb.size) hn
  have hfe0 : ∀ W, Below w.heap.size w W → Calls Tryz.prog 12 #[.slice Ar rs.length cr] W fun e w' => e = .returned (.bool (fewB rs)) ∧ Below W.heap.size W w' := fun W hb => few_any Ar cr rs W ((hrr.below hb (Nat.le_refl _)).more hb.size) hrn
  rcases hs : smallB l with _ | _
  · rw [hs] at hsm0
    have hsm := Lib.hid hsm0
    clear hsm0 hfe0 hr hrr
    replace hG := Lib.hid hG
    replace hs := Lib.hid hs
    go_enter Tryz.func6, Tryz.ntmps6
    go_wp2_with (first | (go_at_call 8; go_must (refine (hsm.out _ (by repeat (first | (with_reducible exact Below.refl _ _) | (with_reducible refine Below.drew ?_) | (with_reducible refine below_drewN ?_ _) | ((with_reducible refine Below.alloc ?_ ?_ _); rotate_left; focus ((try simp) <;> omega)) | ((with_reducible refine Below.setCell ?_ ?_ _); rotate_left; focus ((try simp) <;> omega)) | ((with_reducible refine Below.trans ?_ (Below.mono (by assumption) ?_)); rotate_left; focus ((try simp) <;> omega))))).mono ?_; rintro e w1 ⟨rfl, hb1⟩; have hz1 := hb1.size)) | (go_at_call 9; go_must (refine (lives_any _ (hG.out.keep (by repeat (first | (with_reducible exact Below.refl _ _) | (with_reducible refine Below.drew ?_) | (with_reducible refine below_drewN ?_ _) | ((with_reducible refine Below.alloc ?_ ?_ _); rotate_left; focus ((try simp) <;> omega)) | ((with_reducible refine Below.setCell ?_ ?_ _); rotate_left; focus ((try simp) <;> omega)) | ((with_reducible refine Below.trans ?_ (Below.mono (by assumption) ?_)); rotate_left; focus ((try simp) <;> omega)))))).mono ?_; rintro e w9 ⟨rfl, hb9⟩; have hz9 := hb9.size)))
    go_ret
    exact ⟨rfl, (by repeat (first | (with_reducible exact Below.refl _ _) | (with_reducible refine Below.drew ?_) | (with_reducible refine below_drewN ?_ _) | ((with_reducible refine Below.alloc ?_ ?_ _); rotate_left; focus ((try simp) <;> omega)) | ((with_reducible refine Below.setCell ?_ ?_ _); rotate_left; focus ((try simp) <;> omega)) | ((with_reducible refine Below.trans ?_ (Below.mono (by assumption) ?_)); rotate_left; focus ((try simp) <;> omega))))⟩
  rw [hs] at hsm0
  have hsm := Lib.hid hsm0
  clear hsm0
  rcases hf : fewB rs with _ | _
  · rw [hf] at hfe0
    have hfe := Lib.hid hfe0
    clear hfe0 hr hrr
    replace hG := Lib.hid hG
    replace hs := Lib.hid hs
    replace hf := Lib.hid hf
    go_enter Tryz.func6, Tryz.ntmps6
    go_wp2_with (first | (go_at_call 8; go_must (refine (hsm.out _ (by repeat (first | (with_reducible exact Below.refl _ _) | (with_reducible refine Below.drew ?_) | (with_reducible refine below_drewN ?_ _) | ((with_reducible refine Below.alloc ?_ ?_ _); rotate_left; focus ((try simp) <;> omega)) | ((with_reducible refine Below.setCell ?_ ?_ _); rotate_left; focus ((try simp) <;> omega)) | ((with_reducible refine Below.trans ?_ (Below.mono (by assumption) ?_)); rotate_left; focus ((try simp) <;> omega))))).mono ?_; rintro e w1 ⟨rfl, hb1⟩; have hz1 := hb1.size)) | (go_at_call 12; go_must (refine (hfe.out _ (by repeat (first | (with_reducible exact Below.refl _ _) | (with_reducible refine Below.drew ?_) | (with_reducible refine below_drewN ?_ _) | ((with_reducible refine Below.alloc ?_ ?_ _); rotate_left; focus ((try simp) <;> omega)) | ((with_reducible refine Below.setCell ?_ ?_ _); rotate_left; focus ((try simp) <;> omega)) | ((with_reducible refine Below.trans ?_ (Below.mono (by assumption) ?_)); rotate_left; focus ((try simp) <;> omega))))).mono ?_; rintro e w2 ⟨rfl, hb2⟩; have hz2 := hb2.size)) | (go_at_call 9; go_must (refine (lives_any _ (hG.out.keep (by repeat (first | (with_reducible exact Below.refl _ _) | (with_reducible refine Below.drew ?_) | (with_reducible refine below_drewN ?_ _) | ((with_reducible refine Below.alloc ?_ ?_ _); rotate_left; focus ((try simp) <;> omega)) | ((with_reducible refine Below.setCell ?_ ?_ _); rotate_left; focus ((try simp) <;> omega)) | ((with_reducible refine Below.trans ?_ (Below.mono (by assumption) ?_)); rotate_left; focus ((try simp) <;> omega)))))).mono ?_; rintro e w9 ⟨rfl, hb9⟩; have hz9 := hb9.size)))
    go_ret
    exact ⟨rfl, (by repeat (first | (with_reducible exact Below.refl _ _) | (with_reducible refine Below.drew ?_) | (with_reducible refine below_drewN ?_ _) | ((with_reducible refine Below.alloc ?_ ?_ _); rotate_left; focus ((try simp) <;> omega)) | ((with_reducible refine Below.setCell ?_ ?_ _); rotate_left; focus ((try simp) <;> omega)) | ((with_reducible refine Below.trans ?_ (Below.mono (by assumption) ?_)); rotate_left; focus ((try simp) <;> omega))))⟩
  rw [hf] at hfe0
  have hfe := Lib.hid hfe0
  clear hfe0
  obtain ⟨hm, hl40, _⟩ := small_mild hs
  obtain ⟨hr40, hrs⟩ := few_mild hf
  obtain ⟨inf, hi0, iz0, iz1, iz2⟩ := info_parts res_info
  obtain ⟨L, hL⟩ : ∃ L, l.map Hst.h = L := ⟨_, rfl⟩
  obtain ⟨hsame, hee⟩ := add_back (L := L) (rs := rs) (now := now)
  obtain ⟨E, hE⟩ : ∃ E, addErr L rs now.1 = E := ⟨_, rfl⟩
  obtain ⟨E2, hE2⟩ : ∃ E, addErr L rs.reverse now.1 = E := ⟨_, rfl⟩
  rw [hE, hE2] at hee
  obtain ⟨B, hB⟩ : ∃ B, (E2 == 0) = B := ⟨_, rfl⟩
  rw [hB] at hee
  have hBB : (B == B) = true := by simp
  have had : Hid (∀ W, Below w.heap.size w W → Calls Tryz.prog 13 #[.slice A l.length c, .slice Ar rs.length cr, .int .u64 9, .int .i64 now.1] W fun e w' => ∃ (A' : Option Addr) (c' : Nat) (l' : List Hst), e = .returned (.tuple #[.slice A' l'.length c', .int .i64 E]) ∧ RwH w' w'.heap.size A' l' ∧ l'.length ≤ c' ∧ l'.map Hst.h = addL L rs nine now ∧ Below W.heap.size W w') := Lib.hid fun W hb => by
    have h := add_any A c l Ar cr rs nine now W ((hr.below hb (Nat.le_refl _)).more hb.size) ((hrr.below hb (Nat.le_refl _)).more hb.size) hm (by omega) hrs (hG.keep hb)
    rwa [hL, hE] at h
  have hbd : Hid (∀ (W W0 : World) (A0 : Option Addr) (c0 : Nat), Below w.heap.size w W → Below W0.heap.size W0 W → Rw resE 3 W0 W0.heap.size A0 rs.reverse → Calls Tryz.prog 13 #[.slice A l.length c, .slice A0 rs.length c0, .int .u64 9, .int .i64 now.1] W fun e w' => ∃ (A' : Option Addr) (c' : Nat) (l' : List Hst), e = .returned (.tuple #[.slice A' l'.length c', .int .i64 E2]) ∧ RwH w' w'.heap.size A' l' ∧ l'.length ≤ c' ∧ l'.map Hst.h = addL L rs.reverse nine now ∧ Below W.heap.size W w') := Lib.hid fun W W0 A0 c0 hb hb0 h0 => by
    have h := add_any A c l A0 c0 rs.reverse nine now W ((hr.below hb (Nat.le_refl _)).more hb.size) ((h0.below hb0 (Nat.le_refl _)).more hb0.size) hm (by rw [List.length_reverse]; omega) (fun x hx => hrs x (List.mem_reverse.1 hx)) (hG.keep hb)
    rw [hL, hE2, List.length_reverse] at h
    exact h
  have hsa : Hid (∀ (W W1 W2 : World) (A1 A2 : Option Addr) (c1 c2 : Nat) (l1 l2 : List Hst), RwH W1 W1.heap.size A1 l1 → l1.map Hst.h = addL L rs nine now → RwH W2 W2.heap.size A2 l2 → l2.map Hst.h = addL L rs.reverse nine now → Below W1.heap.size W1 W → Below W2.heap.size W2 W → Calls Tryz.prog 15 #[.slice A1 l1.length c1, .slice A2 l2.length c2] W fun e w' => e = .returned (.bool true) ∧ Below W.heap.size W w') := Lib.hid fun W W1 W2 A1 A2 c1 c2 l1 l2 h1 e1 h2 e2 hb1 hb2 => by
    obtain ⟨k1, k2⟩ := adds_small (rs := rs) (code := nine) (now := now) hL hm hl40
    have e3 : ∀ x ∈ l1, x.l.length ≤ 1000000 := fun x hx => k2 _ (by rw [← e1]; exact List.mem_map_of_mem hx)
    have e4 : l1.length ≤ 1000000 := by have := congrArg List.length e1; rw [List.length_map] at this; rw [this]; exact k1
    exact same_eq A1 A2 c1 c2 l1 l2 W ((h1.below hb1 (Nat.le_refl _)).more hb1.size) ((h2.below hb2 (Nat.le_refl _)).more hb2.size) (by rw [e1, e2, hsame]) (by omega) e3
  have hrw := Lib.hid hrr
  clear hr hrr hm
  replace hs := Lib.hid hs
  replace hf := Lib.hid hf
  replace hG := Lib.hid hG
  replace hE := Lib.hid hE
  replace hE2 := Lib.hid hE2
  replace hL := Lib.hid hL
  replace hsame := Lib.hid hsame
  go_enter Tryz.func6, Tryz.ntmps6
  go_wp2_with (first | (go_at_call 8; go_must (refine (hsm.out _ (by repeat (first | (with_reducible exact Below.refl _ _) | (with_reducible refine Below.drew ?_) | (with_reducible refine below_drewN ?_ _) | ((with_reducible refine Below.alloc ?_ ?_ _); rotate_left; focus ((try simp) <;> omega)) | ((with_reducible refine Below.setCell ?_ ?_ _); rotate_left; focus ((try simp) <;> omega)) | ((with_reducible refine Below.trans ?_ (Below.mono (by assumption) ?_)); rotate_left; focus ((try simp) <;> omega))))).mono ?_; rintro e w1 ⟨rfl, hb1⟩; have hz1 := hb1.size)) | (go_at_call 12; go_must (refine (hfe.out _ (by repeat (first | (with_reducible exact Below.refl _ _) | (with_reducible refine Below.drew ?_) | (with_reducible refine below_drewN ?_ _) | ((with_reducible refine Below.alloc ?_ ?_ _); rotate_left; focus ((try simp) <;> omega)) | ((with_reducible refine Below.setCell ?_ ?_ _); rotate_left; focus ((try simp) <;> omega)) | ((with_reducible refine Below.trans ?_ (Below.mono (by assumption) ?_)); rotate_left; focus ((try simp) <;> omega))))).mono ?_; rintro e w2 ⟨rfl, hb2⟩; have hz2 := hb2.size)))
  have hB2 : Hid (Below w.heap.size w w2) := Lib.hid (by repeat (first | (with_reducible exact Below.refl _ _) | (with_reducible refine Below.drew ?_) | (with_reducible refine below_drewN ?_ _) | ((with_reducible refine Below.alloc ?_ ?_ _); rotate_left; focus ((try simp) <;> omega)) | ((with_reducible refine Below.setCell ?_ ?_ _); rotate_left; focus ((try simp) <;> omega)) | ((with_reducible refine Below.trans ?_ (Below.mono (by assumption) ?_)); rotate_left; focus ((try simp) <;> omega))))
  go_loopw [7, 8] (fun vo vi wr => ∃ (j : Nat) (i : Int), j ≤ rs.length ∧ vi = .int .i64 i ∧ i = (j : Int) - 1 ∧ Own resE 3 45 wr w2.heap.size vo (rs.drop j).reverse ∧ Below w2.heap.size w2 wr) (fun _ vi _ => (intOf vi + 1).toNat)
  case atStart => exact ⟨rs.length, _, Nat.le_refl _, rfl, rfl, by rw [List.drop_length]; exact Own.nil _ _ _, Below.refl _ _⟩
  case round =>
    obtain ⟨j, i, hj, rfl, hij, hown, hbw⟩ := hrel
    have hz := hbw.size
    have hbw0 : Hid (Below w.heap.size w wr) := Lib.hid (hB2.out.trans (hbw.mono (by have := hB2.out.size; omega)))
    have hvlt := Lib.hid hown.lt
    rcases j with _ | j
    · obtain rfl : i = -1 := by omega
      clear hij
      rw [List.drop_zero] at hown
      obtain ⟨A3, c3, hv, _, _, _⟩ := hown.form
      rw [List.length_reverse] at hv
      subst hv
      have hr3 := Lib.hid (hown.reads resE_len)
      replace hown := Lib.hid hown
      have hB2b : Hid (Below w.heap.size w w2) := hB2
      go_wp2_with (first
        | (go_at_call 13; go_must (first | (with_reducible refine (had.out _ (hbw0.out.trans (show Below w.heap.size wr _ from (by repeat (first | (with_reducible exact Below.refl _ _) | (with_reducible refine Below.drew ?_) | (with_reducible refine below_drewN ?_ _) | ((with_reducible refine Below.alloc ?_ ?_ _); rotate_left; focus ((try simp) <;> omega)) | ((with_reducible refine Below.setCell ?_ ?_ _); rotate_left; focus ((try simp) <;> omega)) | ((with_reducible refine Below.trans ?_ (Below.mono (by assumption) ?_)); rotate_left; focus ((try simp) <;> omega))))))).mono ?_; rintro e w4 ⟨A4, c4, l4, rfl, hr4, hlc4, h4, hb4⟩; have hz4 := hb4.size; replace hr4 := Lib.hid hr4; replace h4 := Lib.hid h4) | (with_reducible refine (hbd.out _ wr A3 c3 (hbw0.out.trans (show Below w.heap.size wr _ from (by repeat (first | (with_reducible exact Below.refl _ _) | (with_reducible refine Below.drew ?_) | (with_reducible refine below_drewN ?_ _) | ((with_reducible refine Below.alloc ?_ ?_ _); rotate_left; focus ((try simp) <;> omega)) | ((with_reducible refine Below.setCell ?_ ?_ _); rotate_left; focus ((try simp) <;> omega)) | ((with_reducible refine Below.trans ?_ (Below.mono (by assumption) ?_)); rotate_left; focus ((try simp) <;> omega)))))) (show Below wr.heap.size wr _ from (by repeat (first | (with_reducible exact Below.refl _ _) | (with_reducible refine Below.drew ?_) | (with_reducible refine below_drewN ?_ _) | ((with_reducible refine Below.alloc ?_ ?_ _); rotate_left; focus ((try simp) <;> omega)) | ((with_reducible refine Below.setCell ?_ ?_ _); rotate_left; focus ((try simp) <;> omega)) | ((with_reducible refine Below.trans ?_ (Below.mono (by assumption) ?_)); rotate_left; focus ((try simp) <;> omega))))) hr3.out).mono ?_; rintro e w5 ⟨A5, c5, l5, rfl, hr5, hlc5, h5, hb5⟩; have hz5 := hb5.size; replace hr5 := Lib.hid hr5; replace h5 := Lib.hid h5)))
        | (go_at_call 15; go_must (refine (hsa.out _ w4 w5 A4 A5 c4 c5 l4 l5 hr4.out h4.out hr5.out h5.out (show Below w4.heap.size w4 _ from (by repeat (first | (with_reducible exact Below.refl _ _) | (with_reducible refine Below.drew ?_) | (with_reducible refine below_drewN ?_ _) | ((with_reducible refine Below.alloc ?_ ?_ _); rotate_left; focus ((try simp) <;> omega)) | ((with_reducible refine Below.setCell ?_ ?_ _); rotate_left; focus ((try simp) <;> omega)) | ((with_reducible refine Below.trans ?_ (Below.mono (by assumption) ?_)); rotate_left; focus ((try simp) <;> omega))))) (show Below w5.heap.size w5 _ from (by repeat (first | (with_reducible exact Below.refl _ _) | (with_reducible refine Below.drew ?_) | (with_reducible refine below_drewN ?_ _) | ((with_reducible refine Below.alloc ?_ ?_ _); rotate_left; focus ((try simp) <;> omega)) | ((with_reducible refine Below.setCell ?_ ?_ _); rotate_left; focus ((try simp) <;> omega)) | ((with_reducible refine Below.trans ?_ (Below.mono (by assumption) ?_)); rotate_left; focus ((try simp) <;> omega)))))).mono ?_; rintro e w6 ⟨rfl, hb6⟩; have hz6 := hb6.size))
        | (go_at_call 9; go_must (refine (lives_any _ (hG.out.keep (hbw0.out.trans (show Below w.heap.size wr _ from (by repeat (first | (with_reducible exact Below.refl _ _) | (with_reducible refine Below.drew ?_) | (with_reducible refine below_drewN ?_ _) | ((with_reducible refine Below.alloc ?_ ?_ _); rotate_left; focus ((try simp) <;> omega)) | ((with_reducible refine Below.setCell ?_ ?_ _); rotate_left; focus ((try simp) <;> omega)) | ((with_reducible refine Below.trans ?_ (Below.mono (by assumption) ?_)); rotate_left; focus ((try simp) <;> omega)))))))).mono ?_; rintro e w9 ⟨rfl, hb9⟩)))
      go_ret
      exact ⟨rfl, hbw0.out.trans (show Below w.heap.size wr _ from (by repeat (first | (with_reducible exact Below.refl _ _) | (with_reducible refine Below.drew ?_) | (with_reducible refine below_drewN ?_ _) | ((with_reducible refine Below.alloc ?_ ?_ _); rotate_left; focus ((try simp) <;> omega)) | ((with_reducible refine Below.setCell ?_ ?_ _); rotate_left; focus ((try simp) <;> omega)) | ((with_reducible refine Below.trans ?_ (Below.mono (by assumption) ?_)); rotate_left; focus ((try simp) <;> omega)))))⟩
    · obtain rfl : i = (j : Int) := by omega
      clear hij
      obtain ⟨r, hr⟩ := get_some (show j < rs.length by omega)
      have hdb := Lib.hid (drop_back hr)
      obtain ⟨gr, orr, rfl, hgr, hq⟩ := hrw.out (by omega)
      have b0 := (hbw0.out.cell (p := ⟨gr, orr + j * 3, none⟩) hgr).trans (hq j r hr 0 (.string r.name.1) rfl)
      have b1 := (hbw0.out.cell (p := ⟨gr, orr + j * 3 + 1, none⟩) hgr).trans (hq j r hr 1 (.int .i64 r.status.1) rfl)
      have b2 := (hbw0.out.cell (p := ⟨gr, orr + j * 3 + 2, none⟩) hgr).trans (hq j r hr 2 (.int .i64 r.time.1) rfl)
      clear hq
      have i0 : (0 : Int) ≤ (j : Int) := by omega
      have i1 : (j : Int) < (rs.length : Int) := by omega
      have htl : (rs.drop (j + 1)).reverse.length ≤ 40 := by rw [List.length_reverse, List.length_drop]; omega
      obtain ⟨T, hT⟩ : ∃ T, (rs.drop (j + 1)).reverse = T := ⟨_, rfl⟩
      rw [hT] at hown htl hdb
      replace hT := Lib.hid hT
      replace hr := Lib.hid hr
      replace hown := Lib.hid hown
      go_wp2_with (at_builtin
                   refine wpList_append_rw _ rfl (.tmp 29) (.tmp 34) _ rfl resE_len resE_one w2.heap.size 45 inf _ 32 Tryz.underlying28 hi0 iz0 iz1 iz2 rfl (by omega) _ T rfl (hown.out.alloc _) _ (some ⟨wr.heap.size, 0, none⟩) 1 1 [r] rfl rfl (rw_res rfl (Nat.lt_succ_self _)) ?_ ?_ ?_ ?_
                   · (try simp [maxLen]) <;> omega
                   · (try simp) <;> omega
                   · (try simp) <;> omega
                   intro v4 w4 hown4 hg4 hat4
                   have hz4 := hg4.size)
      go_roundw
      case rel => exact ⟨j, _, by omega, rfl, rfl, by rw [hdb.out]; exact hown4, (by refine Below.grown ?_ hg4 ?_ (fun q hq => (hvlt.out q hq).1); (exact hbw.alloc (by omega) _); ((try simp) <;> omega))⟩
      case measure => simp [intOf] <;> omega

/-- A world for the witness: the settled one, the listed tables holding what their initialisers lay. -/
noncomputable def laidWorld (os : Os) : World :=
  { World.holding Tryz.prog os ⟨#[], #[], []⟩ with heap := layAll Tryz.prog Rows.historyTurnsRow.laid (World.holding Tryz.prog os ⟨#[], #[], []⟩).heap }
theorem laid_met (os : Os) : laidMet Tryz.prog Rows.historyTurnsRow.laid ((laidWorld os).forCall (fun _ _ => 0) ⟨#[], #[.slice none 0 0, .slice none 0 0, .int .i64 0], []⟩).memory :=
  laidMet_of_run' 8 (by kernel_rfl) (by kernel_rfl)
theorem reads (os : Os) {H : Type} (enc : TypeId × Value → H) : ∃ places, DataW.whole enc Tryz.prog ((laidWorld os).forCall (fun _ _ => 0) ⟨#[], #[.slice none 0 0, .slice none 0 0, .int .i64 0], []⟩).memory Tryz.f6.params.toList Rows.historyTurnsSpec.vars false (#[.slice none 0 0, .slice none 0 0, .int .i64 0] : Array Value).toList 8 = some ([.nil, .nil, .lit (.int .i64 0)], [], places) :=
  ⟨[], by kernel_rfl⟩

set_option maxRecDepth 100000 in
theorem contract (H : Type) (enc : TypeId × Value → H) (W : World) (base : Nat) (args : Array Value) (ds gs : List (DataW H)) (before : List MemPlace)
    (hval : ∀ (j : Nat) t v, Tryz.f6.params[j]? = some t → args[j]? = some v → Value.okWide Tryz.prog W .any base t v)
    (hW : DataW.Whole enc Tryz.prog Tryz.f6.params.toList Rows.historyTurnsSpec.vars false W args.toList ds gs before) (hsh : W.ShapedOpen Tryz.prog) :
    Calls Tryz.prog 6 args W fun e W' => ∃ v, e = .returned v ∧ Rows.historyTurnsSpec.post enc Tryz.prog Tryz.f6 false true false false W args v W' := by
  have hG : Glob W := cell_of_shapedOpen_int (P := Tryz.prog) (g := 0) (t := 3) (zero := #[.int .i64 0]) hsh (of_decide_eq_true (by kernel_rfl)) (by kernel_rfl) rfl (by kernel_rfl) (by kernel_rfl) Tryz.underlying3
  have hW' := hW
  obtain ⟨p, q, hA0, hV, rfl, hfz, hnd⟩ := hW
  have hA : DataW.TrodAll enc Tryz.prog W 0 (fun _ => true) true Tryz.f6.params.toList args.toList ds p := hA0
  have hA1 := hA
  rw [Tryz.params6] at hA hval
  obtain ⟨rfl, rfl⟩ := trodVars_none hV
  simp only [List.append_nil] at hW'
  have hcall : Calls Tryz.prog 6 args W fun e w' => e = .returned (.bool true) ∧ Below W.heap.size W w' := by
    clear hA0 hV hfz hnd
    obtain ⟨v0, vs0, d0, ds0, p0, q0, hargs, rfl, rfl, h0, r0⟩ := trodAll_cons hA
    obtain ⟨v1, vs1, d1, ds1, p1, q1, rfl, rfl, rfl, h1, r1⟩ := trodAll_cons r0
    obtain ⟨v2, vs2, d2, ds2, p2, q2, rfl, rfl, rfl, h2, r2⟩ := trodAll_cons r1
    obtain ⟨rfl, rfl, rfl⟩ := trodAll_nil r2
    obtain rfl : args = #[v0, v1, v2] := by cases args; simp_all
    obtain ⟨A, l, c, rfl, hlc, hcm, hrow, hlab⟩ := open_rowsq (Q := fun x : Hst => LabHst W W.heap.size x) hstE_len (by omega) Tryz.underlying22 (by kernel_rfl) (fun fuel cs x h => hstE_of fuel cs x h) (hval 0 22 v0 rfl rfl) h0
    obtain ⟨Ar, rs, cr, rfl, hrc, hrm, hrr, _⟩ := open_rowsq (Q := fun _ : Res => True) resE_len (by omega) Tryz.underlying28 (by kernel_rfl) (fun fuel cs x h => (by obtain ⟨y, e⟩ := resE_of fuel cs x h; exact ⟨y, e, trivial⟩)) (hval 1 28 v1 rfl rfl) h1
    obtain ⟨z, rfl, rfl, rfl, wz⟩ := open_int Tryz.underlying3 (hval 2 3 v2 rfl rfl) h2
    unfold maxLen at hcm hrm
    exact walk A c l Ar cr rs ⟨z, bounds_i64 wz⟩ W ⟨hrow, hlab⟩ hrr (by omega) (by omega) hG
  have hds : ds.length = 3 := (trodAll_length hA).1
  refine hcall.mono fun e W' ⟨he, hb⟩ => ?_
  subst he
  refine ⟨_, rfl, law_post hW' rfl hA1 (by kernel_rfl) laidOut Tryz.underlying4 (by kernel_rfl) ?_ hb⟩
  match ds, hds with
  | [_, _, _], _ => rfl

set_option maxRecDepth 100000 in
theorem lifted (os : Os) (started : os.Started) (H : Type) (enc : TypeId × Value → H) (F : Stop.Interp) :
    ReturnsInHanded {} Tryz.checked os 6 .any ((OpenSpec.ofChange Rows.historyTurnsSpec).preRow enc Tryz.prog Tryz.f6 Rows.historyTurnsRow.domain false Rows.historyTurnsRow.laid) (((OpenSpec.ofChange Rows.historyTurnsSpec).at F).post enc Tryz.prog Tryz.f6 false true false false) := by
  obtain ⟨places, hx⟩ := reads os enc
  refine returnsInHanded_of_row (C := Tryz.checked) (s := OpenSpec.ofChange Rows.historyTurnsSpec) own started (by kernel_rfl) Tryz.func6
    (witness_row_at (enc := enc) (C := Tryz.checked) false (laidWorld os) #[.slice none 0 0, .slice none 0 0, .int .i64 0] rfl (by kernel_rfl) (by kernel_rfl) (by kernel_rfl)
      (OpenSpec.preRow_of_cond 8 hx (by kernel_rfl) (fun k hk => by cases hk) (by kernel_rfl) (laid_met os))) ?_
  intro W base args ds gs before hval hW _ _ _ _ hsh _
  exact contract H enc W base args ds gs before hval hW hsh

theorem said : Rows.HistoryTurnsSaid :=
  OpenClaim.holds_of_cond 6 Tryz.f6 rfl rfl rfl rfl rfl rfl rfl ⟨rfl, rfl, rfl, rfl, rfl⟩ rfl rfl rfl rfl rfl (by kernel_rfl) Tryz.func6 (by kernel_rfl)
    (of_decide_eq_true (by kernel_rfl)) (by unfold Func.isWrapper; first | (rw [if_pos (by decide +kernel)]; kernel_rfl) | (rw [if_neg (by decide +kernel)]; exact ⟨rfl, rfl⟩))
    (fun os started H enc _ F => by rw [OpenClaim.pre_eq_preRow]; exact lifted os started H enc F)

theorem plain (f : FuncId) (fn : Func) (hf : Tryz.pinned.checked.prog.funcNamed Rows.historyTurnsRow.func = some f) (hfn : Tryz.pinned.checked.prog.funcs[f]? = some fn) :
    false = Tryz.pinned.checked.prog.looks [] ∧ ∀ (j : Nat) t, fn.params[j]? = some t → Tryz.pinned.checked.prog.wantsStandIn t = false := by
  obtain rfl : f = 6 := Option.some.inj ((show Tryz.prog.funcNamed Rows.historyTurnsRow.func = some 6 by kernel_rfl).symm.trans hf) |>.symm
  obtain rfl : fn = Tryz.f6 := (Option.some.inj (Tryz.func6.symm.trans hfn)).symm
  refine ⟨by kernel_rfl, fun j t ht => ?_⟩
  have hall : (Tryz.f6.params.toList.all fun t => !(Tryz.pinned.checked.prog.wantsStandIn t)) = true := by kernel_rfl
  have hm : t ∈ Tryz.f6.params.toList := Array.mem_toList_iff.2 (Array.mem_of_getElem? ht)
  simpa using List.all_eq_true.1 hall t hm

theorem proved : Rows.HistoryTurnsCardSaid :=
  Claim7.holds_tied_plain_at .later [] _ _ _ _ said (fun _ h => by cases h) (by kernel_rfl) (fun _ h => by cases h) historyTurns_row_tie rfl ⟨rfl, rfl⟩ (by kernel_rfl) rfl plain (by kernel_rfl)
#print axioms proved
end Go.Proofs.YtddepmelnemniaaGreatDoor.historyTurns
