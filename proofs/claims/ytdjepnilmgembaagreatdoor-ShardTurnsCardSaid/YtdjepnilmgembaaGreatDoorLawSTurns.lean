/-
  ShardTurns: the shards do not depend on the order of the tests; the example holds. No condition.
-/
import Derived.Test.YtdjepnilmgembaaGreatDoorShw14
import Derived.Test.YtdjepnilmgembaaGreatDoorBase1
import Derived.Test.YtdjepnilmgembaaGreatDoorLayTab



namespace Go.Proofs.YtdjepnilmgembaaGreatDoor.shardTurns
open Go.ChangeShapes Go.WideShapes Go.ChangeAt Go.RowKit Go.Joins
theorem own : ownKnob Tryz.prog.godebug = none := by kernel_rfl
theorem laidOut : laidOutB Tryz.prog = true := by kernel_rfl
open Go.RowKit

theorem drop_backS {l : List Str} {j : Nat} {s : Str} (h : l[j]? = some s) : (l.drop j).reverse = (l.drop (j + 1)).reverse ++ [s] := by
  rw [List.drop_eq_getElem_cons (List.getElem?_eq_some_iff.1 h).1, (List.getElem?_eq_some_iff.1 h).2, List.reverse_cons]
theorem shdL_small {ts : List Tm} {l : List Str} {n : Int} {L : List SlR} (h : L.map SlR.l = shdL ts l n) : L.length ≤ 64 ∧ ∀ x ∈ L, x.l.length ≤ l.length := by
  by_cases he : splErr l n = 0
  · obtain ⟨n1, n2, _, _, hd⟩ := splErr_ok he
    rw [shdL_ok he] at h
    have hl := congrArg List.length h
    rw [List.length_map, outT_len] at hl
    refine ⟨by omega, fun x hx => ?_⟩
    have hm : x.l ∈ outT ts l n.toNat := by rw [← h]; exact List.mem_map_of_mem hx
    obtain ⟨b, hb, e⟩ := List.mem_map.1 hm
    have hN : 0 < n.toNat := by omega
    rw [← e, (srt_perm_of (bins_nodup hN hd hb)).length_eq]
    have := (fill_small hN _ hb).1
    rwa [ord_len] at this
  · rw [shdL_no he] at h
    obtain rfl := List.map_eq_nil_iff.1 h
    exact ⟨by simp, fun x hx => absurd hx List.not_mem_nil⟩
set_option maxRecDepth 100000 in
set_option maxHeartbeats 8000000 in
theorem walk (A B : Option Addr) (c d : Nat) (l : List Str) (ts : List Tm) (n : Int) (w : World) (hr : Rw sE 1 w w.heap.size A l) (hlc : l.length ≤ c) (hcm : c ≤ maxLen) (ht : Rw tmE 2 w w.heap.size B ts) (htc : ts.length ≤ d) (hdm : d ≤ maxLen) (hG : Glob w) :
    Calls Tryz.prog 7 #[.slice A l.length c, .slice B ts.length d, .int .i64 n] w fun e w' => e = .returned (.bool true) ∧ Below w.heap.size w w' := by
  have hfe0 := few_any A B c d l ts w hr (by simp only [maxLen] at hcm; omega) ht (by simp only [maxLen] at hdm; omega)
  rcases hs : fewT l ts with _ | _
  · rw [hs] at hfe0
    have hfe := Lib.hid hfe0
    clear hfe0 hr ht
    replace hG := Lib.hid hG
    replace hs := Lib.hid hs
    go_enter Tryz.func7, Tryz.ntmps7
    go_wp2_with (first | (go_at_call 8; go_must (refine hfe.out.mono ?_; rintro e w1 ⟨rfl, rfl⟩)) | (go_at_call 9; go_must (refine (lives_any _ (hG.out.keep (by repeat (first | (with_reducible exact Below.refl _ _) | (with_reducible refine Below.drew ?_) | (with_reducible refine below_drewN ?_ _) | ((with_reducible refine Below.alloc ?_ ?_ _); rotate_left; focus ((try simp) <;> omega)) | ((with_reducible refine Below.setCell ?_ ?_ _); rotate_left; focus ((try simp) <;> omega)) | ((with_reducible refine Below.trans ?_ (Below.mono (by assumption) ?_)); rotate_left; focus ((try simp) <;> omega)))))).mono ?_; rintro e w9 ⟨rfl, hb9⟩; have hz9 := hb9.size)))
    go_ret
    exact ⟨rfl, (by repeat (first | (with_reducible exact Below.refl _ _) | (with_reducible refine Below.drew ?_) | (with_reducible refine below_drewN ?_ _) | ((with_reducible refine Below.alloc ?_ ?_ _); rotate_left; focus ((try simp) <;> omega)) | ((with_reducible refine Below.setCell ?_ ?_ _); rotate_left; focus ((try simp) <;> omega)) | ((with_reducible refine Below.trans ?_ (Below.mono (by assumption) ?_)); rotate_left; focus ((try simp) <;> omega))))⟩
  rw [hs] at hfe0
  have hfe := Lib.hid hfe0
  clear hfe0
  obtain ⟨m1, m2, m3, m4⟩ := fewT_mild hs
  obtain ⟨E, hE⟩ : ∃ E, splErr l n = E := ⟨_, rfl⟩
  obtain ⟨E2, hE2⟩ : ∃ E, splErr l.reverse n = E := ⟨_, rfl⟩
  have hee : (E == 0) = (E2 == 0) := by
    have h := spl_turn (l.reverse_perm.symm) n
    rw [hE, hE2] at h
    rw [Bool.eq_iff_iff, beq_iff_eq, beq_iff_eq]
    exact h
  obtain ⟨Q, hQ⟩ : ∃ Q, (E2 == 0) = Q := ⟨_, rfl⟩
  rw [hQ] at hee
  have hQQ : (Q == Q) = true := by simp
  obtain ⟨inf, hi0, iz0, iz1, iz2⟩ := info_parts str_info
  have hsp : Hid (∀ W, Below w.heap.size w W → Calls Tryz.prog 14 #[.slice A l.length c, .slice B ts.length d, .int .i64 n] W fun e w' => ∃ A' c' L, e = .returned (.tuple #[.slice A' L.length c', .int .i64 E]) ∧ RwS w' w'.heap.size A' L ∧ L.map SlR.l = shdL ts l n ∧ Below W.heap.size W w') := Lib.hid fun W hb => by
    have h := split_any A B c d l ts n W ((hr.below hb (Nat.le_refl _)).more hb.size) (by omega) (fun x hx => by have := m3 x hx; omega) ((ht.below hb (Nat.le_refl _)).more hb.size) (by omega) (fun x hx => by have := m4 x hx; omega) (hG.keep hb)
    rwa [hE] at h
  have hsb : Hid (∀ (W W0 : World) (A0 : Option Addr) (c0 : Nat), Below w.heap.size w W → Below W0.heap.size W0 W → Rw sE 1 W0 W0.heap.size A0 l.reverse → Calls Tryz.prog 14 #[.slice A0 l.length c0, .slice B ts.length d, .int .i64 n] W fun e w' => ∃ A' c' L, e = .returned (.tuple #[.slice A' L.length c', .int .i64 E2]) ∧ RwS w' w'.heap.size A' L ∧ L.map SlR.l = shdL ts l n ∧ Below W.heap.size W w') := Lib.hid fun W W0 A0 c0 hb hb0 h0 => by
    have h := split_any A0 B c0 d l.reverse ts n W ((h0.below hb0 (Nat.le_refl _)).more hb0.size) (by rw [List.length_reverse]; omega) (fun x hx => by have := m3 x (List.mem_reverse.1 hx); omega) ((ht.below hb (Nat.le_refl _)).more hb.size) (by omega) (fun x hx => by have := m4 x hx; omega) (hG.keep hb)
    rw [hE2, List.length_reverse, ← shdL_turn (l.reverse_perm.symm) n] at h
    exact h
  have hsa : Hid (∀ (W W1 W2 : World) (A1 A2 : Option Addr) (c1 c2 : Nat) (L1 L2 : List SlR), RwS W1 W1.heap.size A1 L1 → L1.map SlR.l = shdL ts l n → RwS W2 W2.heap.size A2 L2 → L2.map SlR.l = shdL ts l n → Below W1.heap.size W1 W → Below W2.heap.size W2 W → Calls Tryz.prog 16 #[.slice A1 L1.length c1, .slice A2 L2.length c2] W fun e w' => e = .returned (.bool true) ∧ Below W.heap.size W w') := Lib.hid fun W W1 W2 A1 A2 c1 c2 L1 L2 h1 e1 h2 e2 hb1 hb2 => by
    obtain ⟨k1, k2⟩ := shdL_small e1
    obtain ⟨k3, k4⟩ := shdL_small e2
    have h := rsames_any A1 A2 c1 c2 L1 L2 W ((h1.below hb1 (Nat.le_refl _)).more hb1.size) ((h2.below hb2 (Nat.le_refl _)).more hb2.size) (by omega) (by omega) (fun x hx => by have := k2 x hx; omega) (fun x hx => by have := k4 x hx; omega)
    rwa [e1, e2, decide_eq_true rfl] at h
  have hrw := Lib.hid hr
  clear hr ht m2 m3 m4
  replace hG := Lib.hid hG
  replace hs := Lib.hid hs
  replace hE := Lib.hid hE
  replace hE2 := Lib.hid hE2
  go_enter Tryz.func7, Tryz.ntmps7
  go_wp2_with (first | (go_at_call 8; go_must (refine hfe.out.mono ?_; rintro e w1 ⟨rfl, rfl⟩)))
  go_loopw [7, 8] (fun vo vi wr => ∃ (j : Nat) (i : Int), j ≤ l.length ∧ vi = .int .i64 i ∧ i = (j : Int) - 1 ∧ Own sE 1 9 wr w.heap.size vo (l.drop j).reverse ∧ Below w.heap.size w wr) (fun _ vi _ => (intOf vi + 1).toNat)
  case atStart => exact ⟨l.length, _, Nat.le_refl _, rfl, rfl, by rw [List.drop_length]; exact Own.nil _ _ _, Below.refl _ _⟩
  case round =>
    obtain ⟨j, i, hj, rfl, hij, hown, hbw⟩ := hrel
    have hz := hbw.size
    have hbw0 := Lib.hid hbw
    have hvlt := Lib.hid hown.lt
    rcases j with _ | j
    · obtain rfl : i = -1 := by omega
      clear hij
      rw [List.drop_zero] at hown
      obtain ⟨A3, c3, hv, _, _, _⟩ := hown.form
      rw [List.length_reverse] at hv
      subst hv
      have hr3 := Lib.hid (hown.reads sE_len)
      replace hown := Lib.hid hown
      go_wp2_with (first
        | (go_at_call 14; go_must (first | (with_reducible refine (hsp.out _ (hbw0.out.trans (Below.mono (show Below wr.heap.size wr _ from (by repeat (first | (with_reducible exact Below.refl _ _) | (with_reducible refine Below.drew ?_) | (with_reducible refine below_drewN ?_ _) | ((with_reducible refine Below.alloc ?_ ?_ _); rotate_left; focus ((try simp) <;> omega)) | ((with_reducible refine Below.setCell ?_ ?_ _); rotate_left; focus ((try simp) <;> omega)) | ((with_reducible refine Below.trans ?_ (Below.mono (by assumption) ?_)); rotate_left; focus ((try simp) <;> omega))))) hz))).mono ?_; rintro e w4 ⟨A4, c4, L4, rfl, hr4, h4, hb4⟩; have hz4 := hb4.size; replace hr4 := Lib.hid hr4; replace h4 := Lib.hid h4) | (with_reducible refine (hsb.out _ wr A3 c3 (hbw0.out.trans (Below.mono (show Below wr.heap.size wr _ from (by repeat (first | (with_reducible exact Below.refl _ _) | (with_reducible refine Below.drew ?_) | (with_reducible refine below_drewN ?_ _) | ((with_reducible refine Below.alloc ?_ ?_ _); rotate_left; focus ((try simp) <;> omega)) | ((with_reducible refine Below.setCell ?_ ?_ _); rotate_left; focus ((try simp) <;> omega)) | ((with_reducible refine Below.trans ?_ (Below.mono (by assumption) ?_)); rotate_left; focus ((try simp) <;> omega))))) hz)) (show Below wr.heap.size wr _ from (by repeat (first | (with_reducible exact Below.refl _ _) | (with_reducible refine Below.drew ?_) | (with_reducible refine below_drewN ?_ _) | ((with_reducible refine Below.alloc ?_ ?_ _); rotate_left; focus ((try simp) <;> omega)) | ((with_reducible refine Below.setCell ?_ ?_ _); rotate_left; focus ((try simp) <;> omega)) | ((with_reducible refine Below.trans ?_ (Below.mono (by assumption) ?_)); rotate_left; focus ((try simp) <;> omega))))) hr3.out).mono ?_; rintro e w5 ⟨A5, c5, L5, rfl, hr5, h5, hb5⟩; have hz5 := hb5.size; replace hr5 := Lib.hid hr5; replace h5 := Lib.hid h5)))
        | (go_at_call 16; go_must (refine (hsa.out _ w4 w5 A4 A5 c4 c5 L4 L5 hr4.out h4.out hr5.out h5.out (show Below w4.heap.size w4 _ from (by repeat (first | (with_reducible exact Below.refl _ _) | (with_reducible refine Below.drew ?_) | (with_reducible refine below_drewN ?_ _) | ((with_reducible refine Below.alloc ?_ ?_ _); rotate_left; focus ((try simp) <;> omega)) | ((with_reducible refine Below.setCell ?_ ?_ _); rotate_left; focus ((try simp) <;> omega)) | ((with_reducible refine Below.trans ?_ (Below.mono (by assumption) ?_)); rotate_left; focus ((try simp) <;> omega))))) (show Below w5.heap.size w5 _ from (by repeat (first | (with_reducible exact Below.refl _ _) | (with_reducible refine Below.drew ?_) | (with_reducible refine below_drewN ?_ _) | ((with_reducible refine Below.alloc ?_ ?_ _); rotate_left; focus ((try simp) <;> omega)) | ((with_reducible refine Below.setCell ?_ ?_ _); rotate_left; focus ((try simp) <;> omega)) | ((with_reducible refine Below.trans ?_ (Below.mono (by assumption) ?_)); rotate_left; focus ((try simp) <;> omega)))))).mono ?_; rintro e w6 ⟨rfl, hb6⟩; have hz6 := hb6.size))
        | (go_at_call 9; go_must (refine (lives_any _ (hG.out.keep (hbw0.out.trans (Below.mono (show Below wr.heap.size wr _ from (by repeat (first | (with_reducible exact Below.refl _ _) | (with_reducible refine Below.drew ?_) | (with_reducible refine below_drewN ?_ _) | ((with_reducible refine Below.alloc ?_ ?_ _); rotate_left; focus ((try simp) <;> omega)) | ((with_reducible refine Below.setCell ?_ ?_ _); rotate_left; focus ((try simp) <;> omega)) | ((with_reducible refine Below.trans ?_ (Below.mono (by assumption) ?_)); rotate_left; focus ((try simp) <;> omega))))) hz)))).mono ?_; rintro e w9 ⟨rfl, hb9⟩)))
      go_ret
      exact ⟨rfl, hbw0.out.trans (Below.mono (show Below wr.heap.size wr _ from (by repeat (first | (with_reducible exact Below.refl _ _) | (with_reducible refine Below.drew ?_) | (with_reducible refine below_drewN ?_ _) | ((with_reducible refine Below.alloc ?_ ?_ _); rotate_left; focus ((try simp) <;> omega)) | ((with_reducible refine Below.setCell ?_ ?_ _); rotate_left; focus ((try simp) <;> omega)) | ((with_reducible refine Below.trans ?_ (Below.mono (by assumption) ?_)); rotate_left; focus ((try simp) <;> omega))))) hz)⟩
    · obtain rfl : i = (j : Int) := by omega
      clear hij
      obtain ⟨s, hs2⟩ := get_some (show j < l.length by omega)
      have hdb := Lib.hid (drop_backS hs2)
      obtain ⟨gr, orr, rfl, hgr, hq⟩ := hrw.out (by omega)
      have b0 := (hbw0.out.cell (p := ⟨gr, orr + j * 1 + 0, none⟩) hgr).trans (hq j s hs2 0 (.string s.1) rfl)
      rw [Nat.mul_one, Nat.add_zero] at b0
      clear hq
      have i0 : (0 : Int) ≤ (j : Int) := by omega
      have i1 : (j : Int) < (l.length : Int) := by omega
      have htl : (l.drop (j + 1)).reverse.length ≤ 60 := by rw [List.length_reverse, List.length_drop]; omega
      obtain ⟨T, hT⟩ : ∃ T, (l.drop (j + 1)).reverse = T := ⟨_, rfl⟩
      rw [hT] at hown htl hdb
      replace hT := Lib.hid hT
      replace hs2 := Lib.hid hs2
      replace hown := Lib.hid hown
      go_wp2_with (at_builtin
                   refine wpList_append_rw _ rfl (.tmp 25) (.tmp 30) _ rfl sE_len sE_one w.heap.size 9 inf _ 16 Tryz.underlying22 hi0 iz0 iz1 iz2 rfl (by omega) _ T rfl (hown.out.alloc _) _ (some ⟨wr.heap.size, 0, none⟩) 1 1 [s] rfl rfl (rw_str1 (Nat.lt_succ_self _)) ?_ ?_ ?_ ?_
                   · (try simp [maxLen]) <;> omega
                   · (try simp) <;> omega
                   · (try simp) <;> omega
                   intro v4 w4 hown4 hg4 hat4
                   have hz4 := hg4.size)
      go_roundw
      case rel => exact ⟨j, _, by omega, rfl, rfl, by rw [hdb.out]; exact hown4, (by refine Below.grown ?_ hg4 ?_ (fun q hq => (hvlt.out q hq).1); (exact hbw.alloc (by omega) _); ((try simp) <;> omega))⟩
      case measure => simp [intOf] <;> omega

/-- A world for the witness: the settled one, the listed tables holding what their initialisers lay. -/
noncomputable def laidWorld (os : Os) : World :=
  { World.holding Tryz.prog os ⟨#[], #[], []⟩ with heap := layAll Tryz.prog Rows.shardTurnsRow.laid (World.holding Tryz.prog os ⟨#[], #[], []⟩).heap }
theorem laid_met (os : Os) : laidMet Tryz.prog Rows.shardTurnsRow.laid ((laidWorld os).forCall (fun _ _ => 0) ⟨#[], #[.slice none 0 0, .slice none 0 0, .int .i64 0], []⟩).memory :=
  laidMet_of_run' 8 (by kernel_rfl) (by kernel_rfl)
theorem reads (os : Os) {H : Type} (enc : TypeId × Value → H) : ∃ places, DataW.whole enc Tryz.prog ((laidWorld os).forCall (fun _ _ => 0) ⟨#[], #[.slice none 0 0, .slice none 0 0, .int .i64 0], []⟩).memory Tryz.f7.params.toList Rows.shardTurnsSpec.vars false (#[.slice none 0 0, .slice none 0 0, .int .i64 0] : Array Value).toList 8 = some ([.nil, .nil, .lit (.int .i64 0)], [], places) :=
  ⟨[], by kernel_rfl⟩

set_option maxRecDepth 100000 in
theorem contract (H : Type) (enc : TypeId × Value → H) (W : World) (base : Nat) (args : Array Value) (ds gs : List (DataW H)) (before : List MemPlace)
    (hval : ∀ (j : Nat) t v, Tryz.f7.params[j]? = some t → args[j]? = some v → Value.okWide Tryz.prog W .any base t v)
    (hW : DataW.Whole enc Tryz.prog Tryz.f7.params.toList Rows.shardTurnsSpec.vars false W args.toList ds gs before) (hsh : W.ShapedOpen Tryz.prog) :
    Calls Tryz.prog 7 args W fun e W' => ∃ v, e = .returned v ∧ Rows.shardTurnsSpec.post enc Tryz.prog Tryz.f7 false true false false W args v W' := by
  have hG : Glob W := cell_of_shapedOpen_int (P := Tryz.prog) (g := 0) (t := 3) (zero := #[.int .i64 0]) hsh (of_decide_eq_true (by kernel_rfl)) (by kernel_rfl) rfl (by kernel_rfl) (by kernel_rfl) Tryz.underlying3
  have hW' := hW
  obtain ⟨p, q, hA0, hV, rfl, hfz, hnd⟩ := hW
  have hA : DataW.TrodAll enc Tryz.prog W 0 (fun _ => true) true Tryz.f7.params.toList args.toList ds p := hA0
  have hA1 := hA
  rw [Tryz.params7] at hA hval
  obtain ⟨rfl, rfl⟩ := trodVars_none hV
  simp only [List.append_nil] at hW'
  have hcall : Calls Tryz.prog 7 args W fun e w' => e = .returned (.bool true) ∧ Below W.heap.size W w' := by
    clear hA0 hV hfz hnd
    obtain ⟨v0, vs0, d0, ds0, p0, q0, hargs, rfl, rfl, h0, r0⟩ := trodAll_cons hA
    obtain ⟨v1, vs1, d1, ds1, p1, q1, hargs1, rfl, rfl, h1, r1⟩ := trodAll_cons r0
    obtain ⟨v2, vs2, d2, ds2, p2, q2, rfl, rfl, rfl, h2, r2⟩ := trodAll_cons r1
    obtain ⟨rfl, rfl, rfl⟩ := trodAll_nil r2
    obtain rfl : args = #[v0, v1, v2] := by cases args; simp_all
    obtain ⟨A, l, c, rfl, hlc, hcm, hrow⟩ := open_rows (α := Str) (E := sE) sE_len (by omega) Tryz.underlying22 (by kernel_rfl) (fun fuel cs x h => leaf_string Tryz.underlying9 h) (hval 0 22 v0 rfl rfl) h0
    obtain ⟨B, ts, d, rfl, htc, htm, htrow⟩ := open_rows (α := Tm) (E := tmE) tmE_len (by omega) Tryz.underlying23 (by kernel_rfl) (fun fuel cs x h => tmE_of fuel cs x h) (hval 1 23 v1 rfl rfl) h1
    obtain ⟨z, rfl, rfl, rfl, wz⟩ := open_int Tryz.underlying3 (hval 2 3 v2 rfl rfl) h2
    exact walk A B c d l ts z W hrow hlc hcm htrow htc htm hG
  have hds : ds.length = 3 := (trodAll_length hA).1
  refine hcall.mono fun e W' ⟨he, hb⟩ => ?_
  subst he
  refine ⟨_, rfl, law_post hW' rfl hA1 (by kernel_rfl) laidOut Tryz.underlying4 (by kernel_rfl) ?_ hb⟩
  match ds, hds with
  | [_, _, _], _ => rfl

set_option maxRecDepth 100000 in
theorem lifted (os : Os) (started : os.Started) (H : Type) (enc : TypeId × Value → H) (F : Stop.Interp) :
    ReturnsInHanded {} Tryz.checked os 7 .any ((OpenSpec.ofChange Rows.shardTurnsSpec).preRow enc Tryz.prog Tryz.f7 Rows.shardTurnsRow.domain false Rows.shardTurnsRow.laid) (((OpenSpec.ofChange Rows.shardTurnsSpec).at F).post enc Tryz.prog Tryz.f7 false true false false) := by
  obtain ⟨places, hx⟩ := reads os enc
  refine returnsInHanded_of_row (C := Tryz.checked) (s := OpenSpec.ofChange Rows.shardTurnsSpec) own started (by kernel_rfl) Tryz.func7
    (witness_row_at (enc := enc) (C := Tryz.checked) false (laidWorld os) #[.slice none 0 0, .slice none 0 0, .int .i64 0] rfl (by kernel_rfl) (by kernel_rfl) (by kernel_rfl)
      (OpenSpec.preRow_of_cond 8 hx (by kernel_rfl) (fun k hk => by cases hk) (by kernel_rfl) (laid_met os))) ?_
  intro W base args ds gs before hval hW _ _ _ _ hsh _
  exact contract H enc W base args ds gs before hval hW hsh

theorem said : Rows.ShardTurnsSaid :=
  OpenClaim.holds_of_cond 7 Tryz.f7 rfl rfl rfl rfl rfl rfl rfl ⟨rfl, rfl, rfl, rfl, rfl⟩ rfl rfl rfl rfl rfl (by kernel_rfl) Tryz.func7 (by kernel_rfl)
    (of_decide_eq_true (by kernel_rfl)) (by unfold Func.isWrapper; first | (rw [if_pos (by decide +kernel)]; kernel_rfl) | (rw [if_neg (by decide +kernel)]; exact ⟨rfl, rfl⟩))
    (fun os started H enc _ F => by rw [OpenClaim.pre_eq_preRow]; exact lifted os started H enc F)

theorem plain (f : FuncId) (fn : Func) (hf : Tryz.pinned.checked.prog.funcNamed Rows.shardTurnsRow.func = some f) (hfn : Tryz.pinned.checked.prog.funcs[f]? = some fn) :
    false = Tryz.pinned.checked.prog.looks [] ∧ ∀ (j : Nat) t, fn.params[j]? = some t → Tryz.pinned.checked.prog.wantsStandIn t = false := by
  obtain rfl : f = 7 := Option.some.inj ((show Tryz.prog.funcNamed Rows.shardTurnsRow.func = some 7 by kernel_rfl).symm.trans hf) |>.symm
  obtain rfl : fn = Tryz.f7 := (Option.some.inj (Tryz.func7.symm.trans hfn)).symm
  refine ⟨by kernel_rfl, fun j t ht => ?_⟩
  have hall : (Tryz.f7.params.toList.all fun t => !(Tryz.pinned.checked.prog.wantsStandIn t)) = true := by kernel_rfl
  have hm : t ∈ Tryz.f7.params.toList := Array.mem_toList_iff.2 (Array.mem_of_getElem? ht)
  simpa using List.all_eq_true.1 hall t hm

theorem proved : Rows.ShardTurnsCardSaid :=
  Claim7.holds_tied_plain_at .later [] _ _ _ _ said (fun _ h => by cases h) (by kernel_rfl) (fun _ h => by cases h) shardTurns_row_tie rfl ⟨rfl, rfl⟩ (by kernel_rfl) rfl plain (by kernel_rfl)
#print axioms proved
end Go.Proofs.YtdjepnilmgembaaGreatDoor.shardTurns
