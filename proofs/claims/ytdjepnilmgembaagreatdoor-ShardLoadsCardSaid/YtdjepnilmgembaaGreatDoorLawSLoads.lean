/-
  ShardLoads: the median of any timings and the load of any tests are the reference's; the example holds. No condition.
-/
import Derived.Test.YtdjepnilmgembaaGreatDoorShw14
import Derived.Test.YtdjepnilmgembaaGreatDoorBase1
import Derived.Test.YtdjepnilmgembaaGreatDoorLayTab



namespace Go.Proofs.YtdjepnilmgembaaGreatDoor.shardLoads
open Go.ChangeShapes Go.WideShapes Go.ChangeAt Go.RowKit Go.Joins
theorem own : ownKnob Tryz.prog.godebug = none := by kernel_rfl
theorem laidOut : laidOutB Tryz.prog = true := by kernel_rfl
open Go.RowKit

set_option maxRecDepth 100000 in
set_option maxHeartbeats 8000000 in
theorem walk (A B : Option Addr) (c d : Nat) (l : List Str) (ts : List Tm) (w : World) (hr : Rw sE 1 w w.heap.size A l) (hlc : l.length ≤ c) (hcm : c ≤ maxLen) (ht : Rw tmE 2 w w.heap.size B ts) (htc : ts.length ≤ d) (hdm : d ≤ maxLen) (hG : Glob w) :
    Calls Tryz.prog 3 #[.slice A l.length c, .slice B ts.length d] w fun e w' => e = .returned (.bool true) ∧ Below w.heap.size w w' := by
  have hfe0 := few_any A B c d l ts w hr (by simp only [maxLen] at hcm; omega) ht (by simp only [maxLen] at hdm; omega)
  rcases hs : fewT l ts with _ | _
  · rw [hs] at hfe0
    have hfe := Lib.hid hfe0
    clear hfe0 hr ht
    replace hG := Lib.hid hG
    replace hs := Lib.hid hs
    go_enter Tryz.func3, Tryz.ntmps3
    go_wp2_with (first | (go_at_call 8; go_must (refine hfe.out.mono ?_; rintro e w1 ⟨rfl, rfl⟩)) | (go_at_call 9; go_must (refine (lives_any _ (hG.out.keep (by repeat (first | (with_reducible exact Below.refl _ _) | (with_reducible refine Below.drew ?_) | (with_reducible refine below_drewN ?_ _) | ((with_reducible refine Below.alloc ?_ ?_ _); rotate_left; focus ((try simp) <;> omega)) | ((with_reducible refine Below.setCell ?_ ?_ _); rotate_left; focus ((try simp) <;> omega)) | ((with_reducible refine Below.trans ?_ (Below.mono (by assumption) ?_)); rotate_left; focus ((try simp) <;> omega)))))).mono ?_; rintro e w9 ⟨rfl, hb9⟩; have hz9 := hb9.size)))
    go_ret
    exact ⟨rfl, (by repeat (first | (with_reducible exact Below.refl _ _) | (with_reducible refine Below.drew ?_) | (with_reducible refine below_drewN ?_ _) | ((with_reducible refine Below.alloc ?_ ?_ _); rotate_left; focus ((try simp) <;> omega)) | ((with_reducible refine Below.setCell ?_ ?_ _); rotate_left; focus ((try simp) <;> omega)) | ((with_reducible refine Below.trans ?_ (Below.mono (by assumption) ?_)); rotate_left; focus ((try simp) <;> omega))))⟩
  rw [hs] at hfe0
  have hfe := Lib.hid hfe0
  clear hfe0
  obtain ⟨m1, m2, m3, m4⟩ := fewT_mild hs
  obtain ⟨M, hM⟩ : ∃ M, medT ts = M := ⟨_, rfl⟩
  obtain ⟨S, hS⟩ : ∃ S, loadT l ts = S := ⟨_, rfl⟩
  have hmd : Hid (∀ W, Below w.heap.size w W → Calls Tryz.prog 10 #[.slice B ts.length d] W fun e w' => e = .returned (.int .i64 M) ∧ Below W.heap.size W w') := Lib.hid fun W hb => by rw [← hM]; exact median_any B d ts W ((ht.below hb (Nat.le_refl _)).more hb.size) (by omega)
  have hrm : Hid (∀ W, Below w.heap.size w W → Calls Tryz.prog 11 #[.slice B ts.length d] W fun e w' => e = .returned (.int .i64 M) ∧ Below W.heap.size W w') := Lib.hid fun W hb => by rw [← hM]; exact rmedt_any B d ts W ((ht.below hb (Nat.le_refl _)).more hb.size) (by omega)
  have hld : Hid (∀ W, Below w.heap.size w W → Calls Tryz.prog 12 #[.slice A l.length c, .slice B ts.length d] W fun e w' => e = .returned (.int .i64 S) ∧ Below W.heap.size W w') := Lib.hid fun W hb => by rw [← hS]; exact load_any A B c d l ts W ((hr.below hb (Nat.le_refl _)).more hb.size) (by omega) (fun s _ => by simp only [maxLen]; exact s.2) ((ht.below hb (Nat.le_refl _)).more hb.size) (by omega) (fun x hx => by have := m4 x hx; omega)
  have hrl : Hid (∀ W, Below w.heap.size w W → Calls Tryz.prog 13 #[.slice A l.length c, .slice B ts.length d] W fun e w' => e = .returned (.int .i64 S) ∧ Below W.heap.size W w') := Lib.hid fun W hb => by rw [← hS]; exact rload_any A B c d l ts W ((hr.below hb (Nat.le_refl _)).more hb.size) (by omega) ((ht.below hb (Nat.le_refl _)).more hb.size) (by omega)
  clear hr ht m1 m2 m3 m4
  have hee : (M == M) = true := by simp
  have hes : (S == S) = true := by simp
  replace hG := Lib.hid hG
  replace hs := Lib.hid hs
  replace hM := Lib.hid hM
  replace hS := Lib.hid hS
  go_enter Tryz.func3, Tryz.ntmps3
  go_wp2_with (first
    | (go_at_call 8; go_must (refine hfe.out.mono ?_; rintro e w1 ⟨rfl, rfl⟩))
    | (go_at_call 10; go_must (refine (hmd.out _ (by repeat (first | (with_reducible exact Below.refl _ _) | (with_reducible refine Below.drew ?_) | (with_reducible refine below_drewN ?_ _) | ((with_reducible refine Below.alloc ?_ ?_ _); rotate_left; focus ((try simp) <;> omega)) | ((with_reducible refine Below.setCell ?_ ?_ _); rotate_left; focus ((try simp) <;> omega)) | ((with_reducible refine Below.trans ?_ (Below.mono (by assumption) ?_)); rotate_left; focus ((try simp) <;> omega))))).mono ?_; rintro e w2 ⟨rfl, hb2⟩; have hz2 := hb2.size))
    | (go_at_call 11; go_must (refine (hrm.out _ (by repeat (first | (with_reducible exact Below.refl _ _) | (with_reducible refine Below.drew ?_) | (with_reducible refine below_drewN ?_ _) | ((with_reducible refine Below.alloc ?_ ?_ _); rotate_left; focus ((try simp) <;> omega)) | ((with_reducible refine Below.setCell ?_ ?_ _); rotate_left; focus ((try simp) <;> omega)) | ((with_reducible refine Below.trans ?_ (Below.mono (by assumption) ?_)); rotate_left; focus ((try simp) <;> omega))))).mono ?_; rintro e w3 ⟨rfl, hb3⟩; have hz3 := hb3.size))
    | (go_at_call 12; go_must (refine (hld.out _ (by repeat (first | (with_reducible exact Below.refl _ _) | (with_reducible refine Below.drew ?_) | (with_reducible refine below_drewN ?_ _) | ((with_reducible refine Below.alloc ?_ ?_ _); rotate_left; focus ((try simp) <;> omega)) | ((with_reducible refine Below.setCell ?_ ?_ _); rotate_left; focus ((try simp) <;> omega)) | ((with_reducible refine Below.trans ?_ (Below.mono (by assumption) ?_)); rotate_left; focus ((try simp) <;> omega))))).mono ?_; rintro e w4 ⟨rfl, hb4⟩; have hz4 := hb4.size))
    | (go_at_call 13; go_must (refine (hrl.out _ (by repeat (first | (with_reducible exact Below.refl _ _) | (with_reducible refine Below.drew ?_) | (with_reducible refine below_drewN ?_ _) | ((with_reducible refine Below.alloc ?_ ?_ _); rotate_left; focus ((try simp) <;> omega)) | ((with_reducible refine Below.setCell ?_ ?_ _); rotate_left; focus ((try simp) <;> omega)) | ((with_reducible refine Below.trans ?_ (Below.mono (by assumption) ?_)); rotate_left; focus ((try simp) <;> omega))))).mono ?_; rintro e w5 ⟨rfl, hb5⟩; have hz5 := hb5.size))
    | (go_at_call 9; go_must (refine (lives_any _ (hG.out.keep (by repeat (first | (with_reducible exact Below.refl _ _) | (with_reducible refine Below.drew ?_) | (with_reducible refine below_drewN ?_ _) | ((with_reducible refine Below.alloc ?_ ?_ _); rotate_left; focus ((try simp) <;> omega)) | ((with_reducible refine Below.setCell ?_ ?_ _); rotate_left; focus ((try simp) <;> omega)) | ((with_reducible refine Below.trans ?_ (Below.mono (by assumption) ?_)); rotate_left; focus ((try simp) <;> omega)))))).mono ?_; rintro e w9 ⟨rfl, hb9⟩; have hz9 := hb9.size)))
  go_ret
  exact ⟨rfl, (by repeat (first | (with_reducible exact Below.refl _ _) | (with_reducible refine Below.drew ?_) | (with_reducible refine below_drewN ?_ _) | ((with_reducible refine Below.alloc ?_ ?_ _); rotate_left; focus ((try simp) <;> omega)) | ((with_reducible refine Below.setCell ?_ ?_ _); rotate_left; focus ((try simp) <;> omega)) | ((with_reducible refine Below.trans ?_ (Below.mono (by assumption) ?_)); rotate_left; focus ((try simp) <;> omega))))⟩

/-- A world for the witness: the settled one, the listed tables holding what their initialisers lay. -/
noncomputable def laidWorld (os : Os) : World :=
  { World.holding Tryz.prog os ⟨#[], #[], []⟩ with heap := layAll Tryz.prog Rows.shardLoadsRow.laid (World.holding Tryz.prog os ⟨#[], #[], []⟩).heap }
theorem laid_met (os : Os) : laidMet Tryz.prog Rows.shardLoadsRow.laid ((laidWorld os).forCall (fun _ _ => 0) ⟨#[], #[.slice none 0 0, .slice none 0 0], []⟩).memory :=
  laidMet_of_run' 8 (by kernel_rfl) (by kernel_rfl)
theorem reads (os : Os) {H : Type} (enc : TypeId × Value → H) : ∃ places, DataW.whole enc Tryz.prog ((laidWorld os).forCall (fun _ _ => 0) ⟨#[], #[.slice none 0 0, .slice none 0 0], []⟩).memory Tryz.f3.params.toList Rows.shardLoadsSpec.vars false (#[.slice none 0 0, .slice none 0 0] : Array Value).toList 8 = some ([.nil, .nil], [], places) :=
  ⟨[], by kernel_rfl⟩

set_option maxRecDepth 100000 in
theorem contract (H : Type) (enc : TypeId × Value → H) (W : World) (base : Nat) (args : Array Value) (ds gs : List (DataW H)) (before : List MemPlace)
    (hval : ∀ (j : Nat) t v, Tryz.f3.params[j]? = some t → args[j]? = some v → Value.okWide Tryz.prog W .any base t v)
    (hW : DataW.Whole enc Tryz.prog Tryz.f3.params.toList Rows.shardLoadsSpec.vars false W args.toList ds gs before) (hsh : W.ShapedOpen Tryz.prog) :
    Calls Tryz.prog 3 args W fun e W' => ∃ v, e = .returned v ∧ Rows.shardLoadsSpec.post enc Tryz.prog Tryz.f3 false true false false W args v W' := by
  have hG : Glob W := cell_of_shapedOpen_int (P := Tryz.prog) (g := 0) (t := 3) (zero := #[.int .i64 0]) hsh (of_decide_eq_true (by kernel_rfl)) (by kernel_rfl) rfl (by kernel_rfl) (by kernel_rfl) Tryz.underlying3
  have hW' := hW
  obtain ⟨p, q, hA0, hV, rfl, hfz, hnd⟩ := hW
  have hA : DataW.TrodAll enc Tryz.prog W 0 (fun _ => true) true Tryz.f3.params.toList args.toList ds p := hA0
  have hA1 := hA
  rw [Tryz.params3] at hA hval
  obtain ⟨rfl, rfl⟩ := trodVars_none hV
  simp only [List.append_nil] at hW'
  have hcall : Calls Tryz.prog 3 args W fun e w' => e = .returned (.bool true) ∧ Below W.heap.size W w' := by
    clear hA0 hV hfz hnd
    obtain ⟨v0, vs0, d0, ds0, p0, q0, hargs, rfl, rfl, h0, r0⟩ := trodAll_cons hA
    obtain ⟨v1, vs1, d1, ds1, p1, q1, hargs1, rfl, rfl, h1, r1⟩ := trodAll_cons r0
    obtain ⟨rfl, rfl, rfl⟩ := trodAll_nil r1
    obtain rfl : args = #[v0, v1] := by cases args; simp_all
    obtain ⟨A, l, c, rfl, hlc, hcm, hrow⟩ := open_rows (α := Str) (E := sE) sE_len (by omega) Tryz.underlying22 (by kernel_rfl) (fun fuel cs x h => leaf_string Tryz.underlying9 h) (hval 0 22 v0 rfl rfl) h0
    obtain ⟨B, ts, d, rfl, htc, htm, htrow⟩ := open_rows (α := Tm) (E := tmE) tmE_len (by omega) Tryz.underlying23 (by kernel_rfl) (fun fuel cs x h => tmE_of fuel cs x h) (hval 1 23 v1 rfl rfl) h1
    exact walk A B c d l ts W hrow hlc hcm htrow htc htm hG
  have hds : ds.length = 2 := (trodAll_length hA).1
  refine hcall.mono fun e W' ⟨he, hb⟩ => ?_
  subst he
  refine ⟨_, rfl, law_post hW' rfl hA1 (by kernel_rfl) laidOut Tryz.underlying4 (by kernel_rfl) ?_ hb⟩
  match ds, hds with
  | [_, _], _ => rfl

set_option maxRecDepth 100000 in
theorem lifted (os : Os) (started : os.Started) (H : Type) (enc : TypeId × Value → H) (F : Stop.Interp) :
    ReturnsInHanded {} Tryz.checked os 3 .any ((OpenSpec.ofChange Rows.shardLoadsSpec).preRow enc Tryz.prog Tryz.f3 Rows.shardLoadsRow.domain false Rows.shardLoadsRow.laid) (((OpenSpec.ofChange Rows.shardLoadsSpec).at F).post enc Tryz.prog Tryz.f3 false true false false) := by
  obtain ⟨places, hx⟩ := reads os enc
  refine returnsInHanded_of_row (C := Tryz.checked) (s := OpenSpec.ofChange Rows.shardLoadsSpec) own started (by kernel_rfl) Tryz.func3
    (witness_row_at (enc := enc) (C := Tryz.checked) false (laidWorld os) #[.slice none 0 0, .slice none 0 0] rfl (by kernel_rfl) (by kernel_rfl) (by kernel_rfl)
      (OpenSpec.preRow_of_cond 8 hx (by kernel_rfl) (fun k hk => by cases hk) (by kernel_rfl) (laid_met os))) ?_
  intro W base args ds gs before hval hW _ _ _ _ hsh _
  exact contract H enc W base args ds gs before hval hW hsh

theorem said : Rows.ShardLoadsSaid :=
  OpenClaim.holds_of_cond 3 Tryz.f3 rfl rfl rfl rfl rfl rfl rfl ⟨rfl, rfl, rfl, rfl, rfl⟩ rfl rfl rfl rfl rfl (by kernel_rfl) Tryz.func3 (by kernel_rfl)
    (of_decide_eq_true (by kernel_rfl)) (by unfold Func.isWrapper; first | (rw [if_pos (by decide +kernel)]; kernel_rfl) | (rw [if_neg (by decide +kernel)]; exact ⟨rfl, rfl⟩))
    (fun os started H enc _ F => by rw [OpenClaim.pre_eq_preRow]; exact lifted os started H enc F)

theorem plain (f : FuncId) (fn : Func) (hf : Tryz.pinned.checked.prog.funcNamed Rows.shardLoadsRow.func = some f) (hfn : Tryz.pinned.checked.prog.funcs[f]? = some fn) :
    false = Tryz.pinned.checked.prog.looks [] ∧ ∀ (j : Nat) t, fn.params[j]? = some t → Tryz.pinned.checked.prog.wantsStandIn t = false := by
  obtain rfl : f = 3 := Option.some.inj ((show Tryz.prog.funcNamed Rows.shardLoadsRow.func = some 3 by kernel_rfl).symm.trans hf) |>.symm
  obtain rfl : fn = Tryz.f3 := (Option.some.inj (Tryz.func3.symm.trans hfn)).symm
  refine ⟨by kernel_rfl, fun j t ht => ?_⟩
  have hall : (Tryz.f3.params.toList.all fun t => !(Tryz.pinned.checked.prog.wantsStandIn t)) = true := by kernel_rfl
  have hm : t ∈ Tryz.f3.params.toList := Array.mem_toList_iff.2 (Array.mem_of_getElem? ht)
  simpa using List.all_eq_true.1 hall t hm

theorem proved : Rows.ShardLoadsCardSaid :=
  Claim7.holds_tied_plain_at .later [] _ _ _ _ said (fun _ h => by cases h) (by kernel_rfl) (fun _ h => by cases h) shardLoads_row_tie rfl ⟨rfl, rfl⟩ (by kernel_rfl) rfl plain (by kernel_rfl)
#print axioms proved
end Go.Proofs.YtdjepnilmgembaaGreatDoor.shardLoads
