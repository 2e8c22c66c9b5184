/-
  WorkerLooks: for every worker (with few and short labels) and every time, whether it is lost and how many jobs it accepts are the reference's answers; the example holds. No condition.
-/
import Derived.Test.YtnahbfmbmpoljaaDoorWk22
import Derived.Test.YtnahbfmbmpoljaaDoorWk23
import Derived.Test.YtnahbfmbmpoljaaDoorWk5
import Derived.Test.YtnahbfmbmpoljaaDoorLawKit
import Derived.Test.YtnahbfmbmpoljaaDoorLayTab




namespace Go.Proofs.YtnahbfmbmpoljaaDoor.workerLooks
open Go.ChangeShapes Go.WideShapes Go.ChangeAt Go.RowKit Go.Joins
theorem own : ownKnob Tryd.prog.godebug = none := by kernel_rfl
theorem laidOut : laidOutB Tryd.prog = true := by kernel_rfl

theorem short_ok {x : Work} (h : shortB x = true) : LabOk x ∧ x.labs.length ≤ 1000000 ∧ x.toks.length ≤ 1000000 := by
  obtain ⟨h1, _, h2, h3⟩ := short_in h
  exact ⟨⟨fun s hs => by have := h1 s hs; omega, by omega, by omega⟩, by omega, by omega⟩
set_option maxRecDepth 100000 in
set_option maxHeartbeats 8000000 in
theorem walk (x : Work) (now : I64) (w : World) (hx : LabWork w w.heap.size x) (hG : Glob w) :
    Calls Tryd.prog 7 #[(.agg #[.string x.id.1, .slice x.labsA x.labs.length x.labsC, .int .i64 x.trust.1, .int .i64 x.slots.1, .bool x.pre, .int .i64 x.phase.1, .int .i64 x.beat.1, .int .i64 x.till.1, .slice x.toksA x.toks.length x.toksC]), .int .i64 now.1] w fun e w' => e = .returned (.bool true) ∧ Below w.heap.size w w' := by
  obtain ⟨W1, hW1⟩ : ∃ W, w.alloc (.cells #[.string x.id.1, .slice x.labsA x.labs.length x.labsC, .int .i64 x.trust.1, .int .i64 x.slots.1, .bool x.pre, .int .i64 x.phase.1, .int .i64 x.beat.1, .int .i64 x.till.1, .slice x.toksA x.toks.length x.toksC] 25) = W := ⟨_, rfl⟩
  have hbA : Below w.heap.size w W1 := by rw [← hW1]; exact (Below.refl _ _).alloc (Nat.le_refl _) _
  have hz1 : W1.heap.size = w.heap.size + 1 := by rw [← hW1]; simp
  have hz1a := Nat.le_of_eq hz1
  have hz1b := Nat.le_of_eq hz1.symm
  have a : ∀ j u, (workE x)[j]? = some u → W1.cell? ⟨w.heap.size, j, none⟩ = some u := fun j u hu => by rw [← hW1]; exact box_cells w _ 25 j u hu
  have a0 := a 0 (.string x.id.1) rfl
  try rw [Nat.add_zero] at a0
  have a1 := a 1 (.slice x.labsA x.labs.length x.labsC) rfl
  have a2 := a 2 (.int .i64 x.trust.1) rfl
  have a3 := a 3 (.int .i64 x.slots.1) rfl
  have a4 := a 4 (.bool x.pre) rfl
  have a5 := a 5 (.int .i64 x.phase.1) rfl
  have a6 := a 6 (.int .i64 x.beat.1) rfl
  have a7 := a 7 (.int .i64 x.till.1) rfl
  have a8 := a 8 (.slice x.toksA x.toks.length x.toksC) rfl
  clear a
  replace hz1 := Lib.hid hz1
  have hbR : ∀ d os, Below w.heap.size w (Sort.grow (redrawn W1 d) os) := fun d os => hbA.trans ((below_regrown W1 d os).mono (by omega))
  have hlR : ∀ d os, LabWork (Sort.grow (redrawn W1 d) os) (Sort.grow (redrawn W1 d) os).heap.size x := fun d os => (hx.below (hbR d os) (Nat.le_refl _)).more (hbR d os).size
  replace hbR := Lib.hid hbR
  replace hlR := Lib.hid hlR
  have haw : Hid (∀ d os, Calls Tryd.prog 12 #[] (Sort.grow (redrawn W1 d) os) fun e w' => (e = .returned (.bool true)) ∧ Below (Sort.grow (redrawn W1 d) os).heap.size (Sort.grow (redrawn W1 d) os) w') := Lib.hid fun d os => awake_any _ (hG.keep (hbR.out d os))
  have hsh : ∀ d os, Calls Tryd.prog 9 #[(.agg #[.string x.id.1, .slice x.labsA x.labs.length x.labsC, .int .i64 x.trust.1, .int .i64 x.slots.1, .bool x.pre, .int .i64 x.phase.1, .int .i64 x.beat.1, .int .i64 x.till.1, .slice x.toksA x.toks.length x.toksC])] (Sort.grow (redrawn W1 d) os) fun e w' => (e = .returned (.bool (shortB x))) ∧ Below (Sort.grow (redrawn W1 d) os).heap.size (Sort.grow (redrawn W1 d) os) w' := fun d os => short_any x _ (hlR.out d os)
  have hl1 : Hid (∀ d os, Calls Tryd.prog 19 #[(.agg #[.string x.id.1, .slice x.labsA x.labs.length x.labsC, .int .i64 x.trust.1, .int .i64 x.slots.1, .bool x.pre, .int .i64 x.phase.1, .int .i64 x.beat.1, .int .i64 x.till.1, .slice x.toksA x.toks.length x.toksC]), .int .i64 now.1] (Sort.grow (redrawn W1 d) os) fun e w' => (e = .returned (.bool (lostB x now.1))) ∧ Below (Sort.grow (redrawn W1 d) os).heap.size (Sort.grow (redrawn W1 d) os) w') := Lib.hid fun d os => lost_any x now _
  have hl2 : Hid (∀ d os, Calls Tryd.prog 20 #[(.agg #[.string x.id.1, .slice x.labsA x.labs.length x.labsC, .int .i64 x.trust.1, .int .i64 x.slots.1, .bool x.pre, .int .i64 x.phase.1, .int .i64 x.beat.1, .int .i64 x.till.1, .slice x.toksA x.toks.length x.toksC]), .int .i64 now.1] (Sort.grow (redrawn W1 d) os) fun e w' => (e = .returned (.bool (lostB x now.1))) ∧ Below (Sort.grow (redrawn W1 d) os).heap.size (Sort.grow (redrawn W1 d) os) w') := Lib.hid fun d os => rlost_any x now _
  obtain ⟨L, hL⟩ : ∃ L, lostB x now.1 = L := ⟨_, rfl⟩
  rw [hL] at hl1 hl2
  replace hL := Lib.hid hL
  have hll : (L == L) = true := by simp
  rcases hs : shortB x with _ | _
  · rw [hs] at hsh
    have hsb := Lib.hid hsh
    clear hsh
    replace hs := Lib.hid hs
    go_enter Tryd.func7, Tryd.ntmps7
    go_wp2_with fail
    clear hW1
    replace a0 := fun d os => cell_regrown a0 d os
    replace a1 := fun d os => cell_regrown a1 d os
    replace a2 := fun d os => cell_regrown a2 d os
    replace a3 := fun d os => cell_regrown a3 d os
    replace a4 := fun d os => cell_regrown a4 d os
    replace a5 := fun d os => cell_regrown a5 d os
    replace a6 := fun d os => cell_regrown a6 d os
    replace a7 := fun d os => cell_regrown a7 d os
    replace a8 := fun d os => cell_regrown a8 d os
    refine wp_region_quiet_below (by kernel_rfl) (by kernel_rfl) ?_
    repeat (go_big_quiet_step ((first | (go_at_call 9; exact Calls.regrown_of (hsb.out _ _)) | (go_at_call 12; exact Calls.regrown_of (haw.out _ _)))))
    refine wpQuiet_nil ?_
    intro w2 hw2
    have hb2 := below_of_regrown hw2
    clear hw2
    go_wp2_with fail
    go_ret
    exact ⟨rfl, hbA.trans (hb2.mono (by omega))⟩
  · obtain ⟨hok, _, _⟩ := short_ok hs
    have hf1 : Hid (∀ d os, Calls Tryd.prog 21 #[(.agg #[.string x.id.1, .slice x.labsA x.labs.length x.labsC, .int .i64 x.trust.1, .int .i64 x.slots.1, .bool x.pre, .int .i64 x.phase.1, .int .i64 x.beat.1, .int .i64 x.till.1, .slice x.toksA x.toks.length x.toksC]), .int .i64 now.1] (Sort.grow (redrawn W1 d) os) fun e w' => (e = .returned (.int .i64 (freeI x now.1))) ∧ Below (Sort.grow (redrawn W1 d) os).heap.size (Sort.grow (redrawn W1 d) os) w') := Lib.hid fun d os => free_any x now _ (hlR.out d os) hok (hG.keep (hbR.out d os))
    have hf2 : Hid (∀ d os, Calls Tryd.prog 22 #[(.agg #[.string x.id.1, .slice x.labsA x.labs.length x.labsC, .int .i64 x.trust.1, .int .i64 x.slots.1, .bool x.pre, .int .i64 x.phase.1, .int .i64 x.beat.1, .int .i64 x.till.1, .slice x.toksA x.toks.length x.toksC]), .int .i64 now.1] (Sort.grow (redrawn W1 d) os) fun e w' => (e = .returned (.int .i64 (freeI x now.1))) ∧ Below (Sort.grow (redrawn W1 d) os).heap.size (Sort.grow (redrawn W1 d) os) w') := Lib.hid fun d os => rfree_any x now _ (hlR.out d os) hok
    rw [hs] at hsh
    have hsb := Lib.hid hsh
    clear hsh
    replace hs := Lib.hid hs
    obtain ⟨E, hE⟩ : ∃ E, freeI x now.1 = E := ⟨_, rfl⟩
    rw [hE] at hf1 hf2
    replace hE := Lib.hid hE
    have hee : (E == E) = true := by simp
    go_enter Tryd.func7, Tryd.ntmps7
    go_wp2_with fail
    clear hW1
    replace a0 := fun d os => cell_regrown a0 d os
    replace a1 := fun d os => cell_regrown a1 d os
    replace a2 := fun d os => cell_regrown a2 d os
    replace a3 := fun d os => cell_regrown a3 d os
    replace a4 := fun d os => cell_regrown a4 d os
    replace a5 := fun d os => cell_regrown a5 d os
    replace a6 := fun d os => cell_regrown a6 d os
    replace a7 := fun d os => cell_regrown a7 d os
    replace a8 := fun d os => cell_regrown a8 d os
    refine wp_region_quiet_below (by kernel_rfl) (by kernel_rfl) ?_
    repeat (go_big_quiet_step ((first | (go_at_call 9; exact Calls.regrown_of (hsb.out _ _)) | (go_at_call 19; exact Calls.regrown_of (hl1.out _ _)) | (go_at_call 20; exact Calls.regrown_of (hl2.out _ _)) | (go_at_call 21; exact Calls.regrown_of (hf1.out _ _)) | (go_at_call 22; exact Calls.regrown_of (hf2.out _ _)) | (go_at_call 12; exact Calls.regrown_of (haw.out _ _)))))
    refine wpQuiet_nil ?_
    intro w2 hw2
    have hb2 := below_of_regrown hw2
    clear hw2
    go_wp2_with fail
    go_ret
    exact ⟨rfl, hbA.trans (hb2.mono (by omega))⟩

/-- A world for the witness: the settled one, the listed tables holding what their initialisers lay. -/
noncomputable def laidWorld (os : Os) : World :=
  { World.holding Tryd.prog os ⟨#[], #[], []⟩ with heap := layAll Tryd.prog Rows.workerLooksRow.laid (World.holding Tryd.prog os ⟨#[], #[], []⟩).heap }
theorem laid_met (os : Os) : laidMet Tryd.prog Rows.workerLooksRow.laid ((laidWorld os).forCall (fun _ _ => 0) ⟨#[], #[(.agg #[.string ByteArray.empty, .slice none 0 0, .int .i64 0, .int .i64 0, .bool false, .int .i64 0, .int .i64 0, .int .i64 0, .slice none 0 0]), .int .i64 0], []⟩).memory :=
  laidMet_of_run' 8 (by kernel_rfl) (by kernel_rfl)
theorem reads (os : Os) {H : Type} (enc : TypeId × Value → H) : ∃ places, DataW.whole enc Tryd.prog ((laidWorld os).forCall (fun _ _ => 0) ⟨#[], #[(.agg #[.string ByteArray.empty, .slice none 0 0, .int .i64 0, .int .i64 0, .bool false, .int .i64 0, .int .i64 0, .int .i64 0, .slice none 0 0]), .int .i64 0], []⟩).memory Tryd.f7.params.toList Rows.workerLooksSpec.vars false (#[(.agg #[.string ByteArray.empty, .slice none 0 0, .int .i64 0, .int .i64 0, .bool false, .int .i64 0, .int .i64 0, .int .i64 0, .slice none 0 0]), .int .i64 0] : Array Value).toList 8 = some ([.agg [.lit (.string []), .nil, .lit (.int .i64 0), .lit (.int .i64 0), .lit (.bool false), .lit (.int .i64 0), .lit (.int .i64 0), .lit (.int .i64 0), .nil], .lit (.int .i64 0)], [], places) :=
  ⟨[], by kernel_rfl⟩

set_option maxRecDepth 100000 in
theorem contract (H : Type) (enc : TypeId × Value → H) (W : World) (base : Nat) (args : Array Value) (ds gs : List (DataW H)) (before : List MemPlace)
    (hval : ∀ (j : Nat) t v, Tryd.f7.params[j]? = some t → args[j]? = some v → Value.okWide Tryd.prog W .any base t v)
    (hW : DataW.Whole enc Tryd.prog Tryd.f7.params.toList Rows.workerLooksSpec.vars false W args.toList ds gs before) (hsh : W.ShapedOpen Tryd.prog) :
    Calls Tryd.prog 7 args W fun e W' => ∃ v, e = .returned v ∧ Rows.workerLooksSpec.post enc Tryd.prog Tryd.f7 false true false false W args v W' := by
  have hG : Glob W := cell_of_shapedOpen_int (P := Tryd.prog) (g := 2) (t := 3) (zero := #[.int .i64 0]) hsh (of_decide_eq_true (by kernel_rfl)) (by kernel_rfl) rfl (by kernel_rfl) (by kernel_rfl) Tryd.underlying3
  have hW' := hW
  obtain ⟨p, q, hA0, hV, rfl, hfz, hnd⟩ := hW
  have hA : DataW.TrodAll enc Tryd.prog W 0 (fun _ => true) true Tryd.f7.params.toList args.toList ds p := hA0
  have hA1 := hA
  rw [Tryd.params7] at hA hval
  obtain ⟨rfl, rfl⟩ := trodVars_none hV
  simp only [List.append_nil] at hW'
  have hcall : Calls Tryd.prog 7 args W fun e w' => e = .returned (.bool true) ∧ Below W.heap.size W w' := by
    clear hA0 hV hfz hnd
    obtain ⟨v0, vs0, d0, ds0, p0, q0, hargs, rfl, rfl, h0, r0⟩ := trodAll_cons hA
    obtain ⟨v1, vs1, d1, ds1, p1, q1, rfl, rfl, rfl, h1, r1⟩ := trodAll_cons r0
    obtain ⟨rfl, rfl, rfl⟩ := trodAll_nil r1
    obtain rfl : args = #[v0, v1] := by cases args; simp_all
    obtain ⟨x, rfl, hx⟩ := open_valq Tryd.underlying25 workE_of (hval 0 25 v0 rfl rfl) h0
    obtain ⟨a1, rfl, rfl, rfl, w1⟩ := open_int Tryd.underlying3 (hval 1 3 v1 rfl rfl) h1
    exact walk x ⟨a1, bounds_i64 w1⟩ W hx hG
  have hds : ds.length = 2 := (trodAll_length hA).1
  refine hcall.mono fun e W' ⟨he, hb⟩ => ?_
  subst he
  refine ⟨_, rfl, law_post hW' rfl hA1 (by kernel_rfl) laidOut Tryd.underlying4 (by kernel_rfl) ?_ hb⟩
  match ds, hds with
  | [_, _], _ => rfl

set_option maxRecDepth 100000 in
theorem lifted (os : Os) (started : os.Started) (H : Type) (enc : TypeId × Value → H) (F : Stop.Interp) :
    ReturnsInHanded {} Tryd.checked os 7 .any ((OpenSpec.ofChange Rows.workerLooksSpec).preRow enc Tryd.prog Tryd.f7 Rows.workerLooksRow.domain false Rows.workerLooksRow.laid) (((OpenSpec.ofChange Rows.workerLooksSpec).at F).post enc Tryd.prog Tryd.f7 false true false false) := by
  obtain ⟨places, hx⟩ := reads os enc
  refine returnsInHanded_of_row (C := Tryd.checked) (s := OpenSpec.ofChange Rows.workerLooksSpec) own started (by kernel_rfl) Tryd.func7
    (witness_row_at (enc := enc) (C := Tryd.checked) false (laidWorld os) #[(.agg #[.string ByteArray.empty, .slice none 0 0, .int .i64 0, .int .i64 0, .bool false, .int .i64 0, .int .i64 0, .int .i64 0, .slice none 0 0]), .int .i64 0] rfl (by kernel_rfl) (by kernel_rfl) (by kernel_rfl)
      (OpenSpec.preRow_of_cond 8 hx (by kernel_rfl) (fun k hk => by cases hk) (by kernel_rfl) (laid_met os))) ?_
  intro W base args ds gs before hval hW _ _ _ _ hsh _
  exact contract H enc W base args ds gs before hval hW hsh

theorem said : Rows.WorkerLooksSaid :=
  OpenClaim.holds_of_cond 7 Tryd.f7 rfl rfl rfl rfl rfl rfl rfl ⟨rfl, rfl, rfl, rfl, rfl⟩ rfl rfl rfl rfl rfl (by kernel_rfl) Tryd.func7 (by kernel_rfl)
    (of_decide_eq_true (by kernel_rfl)) (by unfold Func.isWrapper; first | (rw [if_pos (by decide +kernel)]; kernel_rfl) | (rw [if_neg (by decide +kernel)]; exact ⟨rfl, rfl⟩))
    (fun os started H enc _ F => by rw [OpenClaim.pre_eq_preRow]; exact lifted os started H enc F)

theorem plain (f : FuncId) (fn : Func) (hf : Tryd.pinned.checked.prog.funcNamed Rows.workerLooksRow.func = some f) (hfn : Tryd.pinned.checked.prog.funcs[f]? = some fn) :
    false = Tryd.pinned.checked.prog.looks [] ∧ ∀ (j : Nat) t, fn.params[j]? = some t → Tryd.pinned.checked.prog.wantsStandIn t = false := by
  obtain rfl : f = 7 := Option.some.inj ((show Tryd.prog.funcNamed Rows.workerLooksRow.func = some 7 by kernel_rfl).symm.trans hf) |>.symm
  obtain rfl : fn = Tryd.f7 := (Option.some.inj (Tryd.func7.symm.trans hfn)).symm
  refine ⟨by kernel_rfl, fun j t ht => ?_⟩
  have hall : (Tryd.f7.params.toList.all fun t => !(Tryd.pinned.checked.prog.wantsStandIn t)) = true := by kernel_rfl
  have hm : t ∈ Tryd.f7.params.toList := Array.mem_toList_iff.2 (Array.mem_of_getElem? ht)
  simpa using List.all_eq_true.1 hall t hm

theorem proved : Rows.WorkerLooksCardSaid :=
  Claim7.holds_tied_plain_at .later [] _ _ _ _ said (fun _ h => by cases h) (by kernel_rfl) (fun _ h => by cases h) workerLooks_row_tie rfl ⟨rfl, rfl⟩ (by kernel_rfl) rfl plain (by kernel_rfl)
#print axioms proved
end Go.Proofs.YtnahbfmbmpoljaaDoor.workerLooks
