/-
  ShardParts: the part of any tests, or the error, is the reference's; the example holds. No condition.
-/
import Derived.Test.YtdjepnilmgembaaGreatDoorShw14
import Derived.Test.YtdjepnilmgembaaGreatDoorShw17
import Derived.Test.YtdjepnilmgembaaGreatDoorBase1
import Derived.Test.YtdjepnilmgembaaGreatDoorArrayRead
import Derived.Test.YtdjepnilmgembaaGreatDoorLayTab



namespace Go.Proofs.YtdjepnilmgembaaGreatDoor.shardParts
open Go.ChangeShapes Go.WideShapes Go.ChangeAt Go.RowKit Go.Joins
theorem own : ownKnob Tryz.prog.godebug = none := by kernel_rfl
theorem laidOut : laidOutB Tryz.prog = true := by kernel_rfl
open Go.RowKit

theorem prt_small {ts : List Tm} {l : List Str} {k n : Int} (h : l.length ≤ 60) : (prtL ts l k n).length ≤ 1000 := by
  unfold prtL
  by_cases he : prtE l k n = 0
  · rw [if_pos he]
    have h0 : splErr l n = 0 := by
      by_cases h1 : splErr l n = 0
      · exact h1
      · rw [(prt_err (ts := ts) h1).1] at he; exact absurd he h1
    rcases hx : (shdL ts l n)[(k - 1).toNat]? with _ | x
    · rw [List.getElem!_eq_getElem?_getD, hx]; exact Nat.zero_le _
    · rw [get_bang hx]
      obtain ⟨n1, n2, _, _, hd⟩ := splErr_ok h0
      rw [shdL_ok h0] at hx
      obtain ⟨b, hb, e⟩ := List.mem_map.1 (List.mem_of_getElem? hx)
      have hN : 0 < n.toNat := by omega
      rw [← e, (srt_perm_of (bins_nodup hN hd hb)).length_eq]
      have := (fill_small hN _ hb).1
      rw [ord_len] at this
      omega
  · rw [if_neg he]; simp
set_option maxRecDepth 100000 in
set_option maxHeartbeats 8000000 in
theorem walk (A B : Option Addr) (c d : Nat) (l : List Str) (ts : List Tm) (k n : Int) (hk1 : -9223372036854775808 ≤ k) (hk2 : k ≤ 9223372036854775807) (w : World) (hr : Rw sE 1 w w.heap.size A l) (hlc : l.length ≤ c) (hcm : c ≤ maxLen) (ht : Rw tmE 2 w w.heap.size B ts) (htc : ts.length ≤ d) (hdm : d ≤ maxLen) (hG : Glob w) :
    Calls Tryz.prog 5 #[.slice A l.length c, .slice B ts.length d, .agg #[.int .i64 k, .int .i64 n]] w fun e w' => e = .returned (.bool true) ∧ Below w.heap.size w w' := by
  have hfe0 := fun W (hb : Below w.heap.size w W) => few_any A B c d l ts W ((hr.below hb (Nat.le_refl _)).more hb.size) (by simp only [maxLen] at hcm; omega) ((ht.below hb (Nat.le_refl _)).more hb.size) (by simp only [maxLen] at hdm; omega)
  rcases hs : fewT l ts with _ | _
  · rw [hs] at hfe0
    have hfe := Lib.hid hfe0
    clear hfe0 hr ht
    replace hG := Lib.hid hG
    replace hs := Lib.hid hs
    go_enter Tryz.func5, Tryz.ntmps5
    go_wp2_with (first | (go_at_call 8; go_must (refine (hfe.out _ (by repeat (first | (with_reducible exact Below.refl _ _) | (with_reducible refine Below.drew ?_) | (with_reducible refine below_drewN ?_ _) | ((with_reducible refine Below.alloc ?_ ?_ _); rotate_left; focus ((try simp) <;> omega)) | ((with_reducible refine Below.setCell ?_ ?_ _); rotate_left; focus ((try simp) <;> omega)) | ((with_reducible refine Below.trans ?_ (Below.mono (by assumption) ?_)); rotate_left; focus ((try simp) <;> omega))))).mono ?_; rintro e w1 ⟨rfl, rfl⟩)) | (go_at_call 9; go_must (refine (lives_any _ (hG.out.keep (by repeat (first | (with_reducible exact Below.refl _ _) | (with_reducible refine Below.drew ?_) | (with_reducible refine below_drewN ?_ _) | ((with_reducible refine Below.alloc ?_ ?_ _); rotate_left; focus ((try simp) <;> omega)) | ((with_reducible refine Below.setCell ?_ ?_ _); rotate_left; focus ((try simp) <;> omega)) | ((with_reducible refine Below.trans ?_ (Below.mono (by assumption) ?_)); rotate_left; focus ((try simp) <;> omega)))))).mono ?_; rintro e w9 ⟨rfl, hb9⟩; have hz9 := hb9.size)))
    go_ret
    exact ⟨rfl, (by repeat (first | (with_reducible exact Below.refl _ _) | (with_reducible refine Below.drew ?_) | (with_reducible refine below_drewN ?_ _) | ((with_reducible refine Below.alloc ?_ ?_ _); rotate_left; focus ((try simp) <;> omega)) | ((with_reducible refine Below.setCell ?_ ?_ _); rotate_left; focus ((try simp) <;> omega)) | ((with_reducible refine Below.trans ?_ (Below.mono (by assumption) ?_)); rotate_left; focus ((try simp) <;> omega))))⟩
  rw [hs] at hfe0
  have hfe := Lib.hid hfe0
  clear hfe0
  obtain ⟨m1, m2, m3, m4⟩ := fewT_mild hs
  obtain ⟨E, hE⟩ : ∃ E, prtE l k n = E := ⟨_, rfl⟩
  obtain ⟨P, hP⟩ : ∃ P, prtL ts l k n = P := ⟨_, rfl⟩
  have hEE : (E == E) = true := by simp
  have hPl : P.length ≤ 1000 := by rw [← hP]; exact prt_small m1
  have hsp : Hid (∀ W, Below w.heap.size w W → Calls Tryz.prog 17 #[.slice A l.length c, .slice B ts.length d, .int .i64 k, .int .i64 n] W fun e w' => ∃ A' c', e = .returned (.tuple #[.slice A' P.length c', .int .i64 E]) ∧ Rw sE 1 w' w'.heap.size A' P ∧ Below W.heap.size W w') := Lib.hid fun W hb => by
    have h := part_any A B c d l ts k n hk1 hk2 W ((hr.below hb (Nat.le_refl _)).more hb.size) (by omega) (fun x hx => by have := m3 x hx; omega) ((ht.below hb (Nat.le_refl _)).more hb.size) (by omega) (fun x hx => by have := m4 x hx; omega) (hG.keep hb)
    rw [hE, hP] at h
    exact h.mono fun e w' ⟨A', c', Q, h1, h2, h3, h4⟩ => by subst h3; exact ⟨A', c', h1, h2, h4⟩
  have hsq : Hid (∀ W, Below w.heap.size w W → Calls Tryz.prog 18 #[.slice A l.length c, .slice B ts.length d, .int .i64 k, .int .i64 n] W fun e w' => ∃ A' c', e = .returned (.tuple #[.slice A' P.length c', .int .i64 E]) ∧ Rw sE 1 w' w'.heap.size A' P ∧ Below W.heap.size W w') := Lib.hid fun W hb => by
    have h := rpart_any A B c d l ts k n hk1 hk2 W ((hr.below hb (Nat.le_refl _)).more hb.size) hlc (by omega) (fun x hx => by have := m3 x hx; omega) ((ht.below hb (Nat.le_refl _)).more hb.size) (by omega)
    rw [hE, hP] at h
    exact h.mono fun e w' ⟨A', c', Q, h1, h2, h3, h4⟩ => by subst h3; exact ⟨A', c', h1, h2, h4⟩
  have hsa : Hid (∀ (W W1 W2 : World) (A1 A2 : Option Addr) (c1 c2 : Nat), Rw sE 1 W1 W1.heap.size A1 P → Rw sE 1 W2 W2.heap.size A2 P → Below W1.heap.size W1 W → Below W2.heap.size W2 W → Calls Tryz.prog 19 #[.slice A1 P.length c1, .slice A2 P.length c2] W fun e w' => e = .returned (.bool true) ∧ Below W.heap.size W w') := Lib.hid fun W W1 W2 A1 A2 c1 c2 h1 h2 hb1 hb2 => by
    refine (rsame_any A1 A2 c1 c2 P P W ((h1.below hb1 (Nat.le_refl _)).more hb1.size) ((h2.below hb2 (Nat.le_refl _)).more hb2.size) (by omega) (by omega)).mono ?_
    rintro e w' ⟨rfl, n, rfl⟩
    exact ⟨by rw [decide_eq_true rfl], below_drewN (Below.refl _ _) n⟩
  clear hr ht m2 m3 m4
  replace hG := Lib.hid hG
  replace hs := Lib.hid hs
  replace hE := Lib.hid hE
  replace hP := Lib.hid hP
  go_enter Tryz.func5, Tryz.ntmps5
  go_wp2_with (first
    | (go_at_call 8; go_must (refine (hfe.out _ (by repeat (first | (with_reducible exact Below.refl _ _) | (with_reducible refine Below.drew ?_) | (with_reducible refine below_drewN ?_ _) | ((with_reducible refine Below.alloc ?_ ?_ _); rotate_left; focus ((try simp) <;> omega)) | ((with_reducible refine Below.setCell ?_ ?_ _); rotate_left; focus ((try simp) <;> omega)) | ((with_reducible refine Below.trans ?_ (Below.mono (by assumption) ?_)); rotate_left; focus ((try simp) <;> omega))))).mono ?_; rintro e w1 ⟨rfl, rfl⟩))
    | (go_at_call 17; go_must (refine (hsp.out _ (by repeat (first | (with_reducible exact Below.refl _ _) | (with_reducible refine Below.drew ?_) | (with_reducible refine below_drewN ?_ _) | ((with_reducible refine Below.alloc ?_ ?_ _); rotate_left; focus ((try simp) <;> omega)) | ((with_reducible refine Below.setCell ?_ ?_ _); rotate_left; focus ((try simp) <;> omega)) | ((with_reducible refine Below.trans ?_ (Below.mono (by assumption) ?_)); rotate_left; focus ((try simp) <;> omega))))).mono ?_; rintro e w4 ⟨A4, c4, rfl, hr4, hb4⟩; have hz4 := hb4.size; (try simp at hz4); obtain ⟨b4, f4⟩ := blk_at hb4 w.heap.size (by (try simp) <;> omega); replace hr4 := Lib.hid hr4))
    | (go_at_call 18; go_must (refine (hsq.out _ (by repeat (first | (with_reducible exact Below.refl _ _) | (with_reducible refine Below.drew ?_) | (with_reducible refine below_drewN ?_ _) | ((with_reducible refine Below.alloc ?_ ?_ _); rotate_left; focus ((try simp) <;> omega)) | ((with_reducible refine Below.setCell ?_ ?_ _); rotate_left; focus ((try simp) <;> omega)) | ((with_reducible refine Below.trans ?_ (Below.mono (by assumption) ?_)); rotate_left; focus ((try simp) <;> omega))))).mono ?_; rintro e w5 ⟨A5, c5, rfl, hr5, hb5⟩; have hz5 := hb5.size; replace hr5 := Lib.hid hr5))
    | (go_at_call 19; go_must (refine (hsa.out _ w4 w5 A4 A5 c4 c5 hr4.out hr5.out (show Below w4.heap.size w4 _ from (by repeat (first | (with_reducible exact Below.refl _ _) | (with_reducible refine Below.drew ?_) | (with_reducible refine below_drewN ?_ _) | ((with_reducible refine Below.alloc ?_ ?_ _); rotate_left; focus ((try simp) <;> omega)) | ((with_reducible refine Below.setCell ?_ ?_ _); rotate_left; focus ((try simp) <;> omega)) | ((with_reducible refine Below.trans ?_ (Below.mono (by assumption) ?_)); rotate_left; focus ((try simp) <;> omega))))) (show Below w5.heap.size w5 _ from (by repeat (first | (with_reducible exact Below.refl _ _) | (with_reducible refine Below.drew ?_) | (with_reducible refine below_drewN ?_ _) | ((with_reducible refine Below.alloc ?_ ?_ _); rotate_left; focus ((try simp) <;> omega)) | ((with_reducible refine Below.setCell ?_ ?_ _); rotate_left; focus ((try simp) <;> omega)) | ((with_reducible refine Below.trans ?_ (Below.mono (by assumption) ?_)); rotate_left; focus ((try simp) <;> omega)))))).mono ?_; rintro e w6 ⟨rfl, hb6⟩; have hz6 := hb6.size))
    | (go_at_call 9; go_must (refine (lives_any _ (hG.out.keep (by repeat (first | (with_reducible exact Below.refl _ _) | (with_reducible refine Below.drew ?_) | (with_reducible refine below_drewN ?_ _) | ((with_reducible refine Below.alloc ?_ ?_ _); rotate_left; focus ((try simp) <;> omega)) | ((with_reducible refine Below.setCell ?_ ?_ _); rotate_left; focus ((try simp) <;> omega)) | ((with_reducible refine Below.trans ?_ (Below.mono (by assumption) ?_)); rotate_left; focus ((try simp) <;> omega)))))).mono ?_; rintro e w9 ⟨rfl, hb9⟩; have hz9 := hb9.size)))
  go_ret
  exact ⟨rfl, (by repeat (first | (with_reducible exact Below.refl _ _) | (with_reducible refine Below.drew ?_) | (with_reducible refine below_drewN ?_ _) | ((with_reducible refine Below.alloc ?_ ?_ _); rotate_left; focus ((try simp) <;> omega)) | ((with_reducible refine Below.setCell ?_ ?_ _); rotate_left; focus ((try simp) <;> omega)) | ((with_reducible refine Below.trans ?_ (Below.mono (by assumption) ?_)); rotate_left; focus ((try simp) <;> omega))))⟩

/-- A world for the witness: the settled one, the listed tables holding what their initialisers lay. -/
noncomputable def laidWorld (os : Os) : World :=
  { World.holding Tryz.prog os ⟨#[], #[], []⟩ with heap := layAll Tryz.prog Rows.shardPartsRow.laid (World.holding Tryz.prog os ⟨#[], #[], []⟩).heap }
theorem laid_met (os : Os) : laidMet Tryz.prog Rows.shardPartsRow.laid ((laidWorld os).forCall (fun _ _ => 0) ⟨#[], #[.slice none 0 0, .slice none 0 0, .agg #[.int .i64 0, .int .i64 0]], []⟩).memory :=
  laidMet_of_run' 8 (by kernel_rfl) (by kernel_rfl)
theorem reads (os : Os) {H : Type} (enc : TypeId × Value → H) : ∃ places, DataW.whole enc Tryz.prog ((laidWorld os).forCall (fun _ _ => 0) ⟨#[], #[.slice none 0 0, .slice none 0 0, .agg #[.int .i64 0, .int .i64 0]], []⟩).memory Tryz.f5.params.toList Rows.shardPartsSpec.vars false (#[.slice none 0 0, .slice none 0 0, .agg #[.int .i64 0, .int .i64 0]] : Array Value).toList 8 = some ([.nil, .nil, .agg [.lit (.int .i64 0), .lit (.int .i64 0)]], [], places) :=
  ⟨[], by kernel_rfl⟩

set_option maxRecDepth 100000 in
theorem contract (H : Type) (enc : TypeId × Value → H) (W : World) (base : Nat) (args : Array Value) (ds gs : List (DataW H)) (before : List MemPlace)
    (hval : ∀ (j : Nat) t v, Tryz.f5.params[j]? = some t → args[j]? = some v → Value.okWide Tryz.prog W .any base t v)
    (hW : DataW.Whole enc Tryz.prog Tryz.f5.params.toList Rows.shardPartsSpec.vars false W args.toList ds gs before) (hsh : W.ShapedOpen Tryz.prog) :
    Calls Tryz.prog 5 args W fun e W' => ∃ v, e = .returned v ∧ Rows.shardPartsSpec.post enc Tryz.prog Tryz.f5 false true false false W args v W' := by
  have hG : Glob W := cell_of_shapedOpen_int (P := Tryz.prog) (g := 0) (t := 3) (zero := #[.int .i64 0]) hsh (of_decide_eq_true (by kernel_rfl)) (by kernel_rfl) rfl (by kernel_rfl) (by kernel_rfl) Tryz.underlying3
  have hW' := hW
  obtain ⟨p, q, hA0, hV, rfl, hfz, hnd⟩ := hW
  have hA : DataW.TrodAll enc Tryz.prog W 0 (fun _ => true) true Tryz.f5.params.toList args.toList ds p := hA0
  have hA1 := hA
  rw [Tryz.params5] at hA hval
  obtain ⟨rfl, rfl⟩ := trodVars_none hV
  simp only [List.append_nil] at hW'
  have hcall : Calls Tryz.prog 5 args W fun e w' => e = .returned (.bool true) ∧ Below W.heap.size W w' := by
    clear hA0 hV hfz hnd
    obtain ⟨v0, vs0, d0, ds0, p0, q0, hargs, rfl, rfl, h0, r0⟩ := trodAll_cons hA
    obtain ⟨v1, vs1, d1, ds1, p1, q1, hargs1, rfl, rfl, h1, r1⟩ := trodAll_cons r0
    obtain ⟨v2, vs2, d2, ds2, p2, q2, rfl, rfl, rfl, h2, r2⟩ := trodAll_cons r1
    obtain ⟨rfl, rfl, rfl⟩ := trodAll_nil r2
    obtain rfl : args = #[v0, v1, v2] := by cases args; simp_all
    obtain ⟨A, l, c, rfl, hlc, hcm, hrow⟩ := open_rows (α := Str) (E := sE) sE_len (by omega) Tryz.underlying22 (by kernel_rfl) (fun fuel cs x h => leaf_string Tryz.underlying9 h) (hval 0 22 v0 rfl rfl) h0
    obtain ⟨B, ts, d, rfl, htc, htm, htrow⟩ := open_rows (α := Tm) (E := tmE) tmE_len (by omega) Tryz.underlying23 (by kernel_rfl) (fun fuel cs x h => tmE_of fuel cs x h) (hval 1 23 v1 rfl rfl) h1
    obtain ⟨a0, a1, rfl, ha0, ha1⟩ := open_arr2 Tryz.underlying36 Tryz.underlying3 (by kernel_rfl) (by kernel_rfl) (hval 2 36 v2 rfl rfl) h2
    exact walk A B c d l ts a0 a1 ha0.1 ha0.2 W hrow hlc hcm htrow htc htm hG
  have hds : ds.length = 3 := (trodAll_length hA).1
  refine hcall.mono fun e W' ⟨he, hb⟩ => ?_
  subst he
  refine ⟨_, rfl, law_post hW' rfl hA1 (by kernel_rfl) laidOut Tryz.underlying4 (by kernel_rfl) ?_ hb⟩
  match ds, hds with
  | [_, _, _], _ => rfl

set_option maxRecDepth 100000 in
theorem lifted (os : Os) (started : os.Started) (H : Type) (enc : TypeId × Value → H) (F : Stop.Interp) :
    ReturnsInHanded {} Tryz.checked os 5 .any ((OpenSpec.ofChange Rows.shardPartsSpec).preRow enc Tryz.prog Tryz.f5 Rows.shardPartsRow.domain false Rows.shardPartsRow.laid) (((OpenSpec.ofChange Rows.shardPartsSpec).at F).post enc Tryz.prog Tryz.f5 false true false false) := by
  obtain ⟨places, hx⟩ := reads os enc
  refine returnsInHanded_of_row (C := Tryz.checked) (s := OpenSpec.ofChange Rows.shardPartsSpec) own started (by kernel_rfl) Tryz.func5
    (witness_row_at (enc := enc) (C := Tryz.checked) false (laidWorld os) #[.slice none 0 0, .slice none 0 0, .agg #[.int .i64 0, .int .i64 0]] rfl (by kernel_rfl) (by kernel_rfl) (by kernel_rfl)
      (OpenSpec.preRow_of_cond 8 hx (by kernel_rfl) (fun k hk => by cases hk) (by kernel_rfl) (laid_met os))) ?_
  intro W base args ds gs before hval hW _ _ _ _ hsh _
  exact contract H enc W base args ds gs before hval hW hsh

theorem said : Rows.ShardPartsSaid :=
  OpenClaim.holds_of_cond 5 Tryz.f5 rfl rfl rfl rfl rfl rfl rfl ⟨rfl, rfl, rfl, rfl, rfl⟩ rfl rfl rfl rfl rfl (by kernel_rfl) Tryz.func5 (by kernel_rfl)
    (of_decide_eq_true (by kernel_rfl)) (by unfold Func.isWrapper; first | (rw [if_pos (by decide +kernel)]; kernel_rfl) | (rw [if_neg (by decide +kernel)]; exact ⟨rfl, rfl⟩))
    (fun os started H enc _ F => by rw [OpenClaim.pre_eq_preRow]; exact lifted os started H enc F)

theorem plain (f : FuncId) (fn : Func) (hf : Tryz.pinned.checked.prog.funcNamed Rows.shardPartsRow.func = some f) (hfn : Tryz.pinned.checked.prog.funcs[f]? = some fn) :
    false = Tryz.pinned.checked.prog.looks [] ∧ ∀ (j : Nat) t, fn.params[j]? = some t → Tryz.pinned.checked.prog.wantsStandIn t = false := by
  obtain rfl : f = 5 := Option.some.inj ((show Tryz.prog.funcNamed Rows.shardPartsRow.func = some 5 by kernel_rfl).symm.trans hf) |>.symm
  obtain rfl : fn = Tryz.f5 := (Option.some.inj (Tryz.func5.symm.trans hfn)).symm
  refine ⟨by kernel_rfl, fun j t ht => ?_⟩
  have hall : (Tryz.f5.params.toList.all fun t => !(Tryz.pinned.checked.prog.wantsStandIn t)) = true := by kernel_rfl
  have hm : t ∈ Tryz.f5.params.toList := Array.mem_toList_iff.2 (Array.mem_of_getElem? ht)
  simpa using List.all_eq_true.1 hall t hm

theorem proved : Rows.ShardPartsCardSaid :=
  Claim7.holds_tied_plain_at .later [] _ _ _ _ said (fun _ h => by cases h) (by kernel_rfl) (fun _ h => by cases h) shardParts_row_tie rfl ⟨rfl, rfl⟩ (by kernel_rfl) rfl plain (by kernel_rfl)
#print axioms proved
end Go.Proofs.YtdjepnilmgembaaGreatDoor.shardParts
