/-
  SupersedeSame: for every two runs, whether they are of the same pipeline and branch is the reference's answer, in either order, and a run is of its own; the examples hold. No condition.
-/
import Derived.Test.YtfbnihemoaknjaaDoorSup4
import Derived.Test.YtfbnihemoaknjaaDoorLayTab



namespace Go.Proofs.YtfbnihemoaknjaaDoor.supersedeSame
open Go.ChangeShapes Go.WideShapes Go.ChangeAt Go.RowKit Go.Joins
theorem own : ownKnob Tryd.prog.godebug = none := by kernel_rfl
theorem laidOut : laidOutB Tryd.prog = true := by kernel_rfl

theorem sameB_comm (a b : Sum) : sameB b a = sameB a b := by
  unfold sameB orgB
  rw [Bool.eq_iff_iff]; simp only [Bool.and_eq_true, beq_iff_eq]
  constructor
  · rintro ⟨⟨⟨h1, h2⟩, h3⟩, h4⟩; exact ⟨⟨⟨h1.symm, h2.symm⟩, h3.symm⟩, h4.symm⟩
  · rintro ⟨⟨⟨h1, h2⟩, h3⟩, h4⟩; exact ⟨⟨⟨h1.symm, h2.symm⟩, h3.symm⟩, h4.symm⟩
theorem sameB_self (a : Sum) : sameB a a = true := by unfold sameB orgB; simp

set_option maxRecDepth 100000 in
set_option maxHeartbeats 8000000 in
theorem walk (a b : Sum) (w : World) :
    Calls Tryd.prog 4 #[.agg #[.string a.run.1, .string a.proj.1, .string a.ref.1, .bool a.fork, .string a.pipe.1, .int .i64 a.number.1, .bool a.done, .bool a.keep], .agg #[.string b.run.1, .string b.proj.1, .string b.ref.1, .bool b.fork, .string b.pipe.1, .int .i64 b.number.1, .bool b.done, .bool b.keep]] w fun e w' => e = .returned (.bool true) ∧ Below w.heap.size w w' := by
  have h1 := fun W => same_any a b W
  have h2 := fun W => rsamesum_any a b W
  have h3 := fun W => same_any b a W
  have h4 := fun W => same_any a a W
  simp only [sameB_comm a b, sameB_self] at h3 h4
  generalize sameB a b = r at h1 h2 h3
  replace h1 := Lib.hid h1
  replace h2 := Lib.hid h2
  replace h3 := Lib.hid h3
  replace h4 := Lib.hid h4
  have hrr : (r == r) = true := by simp
  go_enter Tryd.func4, Tryd.ntmps4
  go_wp2_with fail
  have hb0 : Below w.heap.size w ((w.alloc (.cells (sumE a).toArray 26)).alloc (.cells (sumE b).toArray 26)) := ((Below.refl _ _).alloc (Nat.le_refl _) _).alloc (by simp) _
  have hz0 : ((w.alloc (.cells (sumE a).toArray 26)).alloc (.cells (sumE b).toArray 26)).heap.size = w.heap.size + 2 := by simp
  have hca : ∀ j u, (sumE a)[j]? = some u → ((w.alloc (.cells (sumE a).toArray 26)).alloc (.cells (sumE b).toArray 26)).cell? ⟨w.heap.size, j, none⟩ = some u := fun j u hu => by
    rw [World.cell?_alloc_lt _ _ _ (by simp)]
    exact box_cells w (sumE a).toArray 26 j u hu
  have hcb : ∀ j u, (sumE b)[j]? = some u → ((w.alloc (.cells (sumE a).toArray 26)).alloc (.cells (sumE b).toArray 26)).cell? ⟨w.heap.size + 1, j, none⟩ = some u := fun j u hu => by
    have := box_cells (w.alloc (.cells (sumE a).toArray 26)) (sumE b).toArray 26 j u hu
    simpa using this
  simp only [sumE] at hb0 hz0 hca hcb
  generalize (w.alloc (.cells #[.string a.run.1, .string a.proj.1, .string a.ref.1, .bool a.fork, .string a.pipe.1, .int .i64 a.number.1, .bool a.done, .bool a.keep] 26)).alloc (.cells #[.string b.run.1, .string b.proj.1, .string b.ref.1, .bool b.fork, .string b.pipe.1, .int .i64 b.number.1, .bool b.done, .bool b.keep] 26) = W0 at *
  have hz0' := Nat.le_of_eq hz0
  have hz0'' := Nat.le_of_eq hz0.symm
  replace hz0 := Lib.hid hz0
  have q0 := hca 0 (.string a.run.1) rfl
  try rw [Nat.add_zero] at q0
  have q1 := hca 1 (.string a.proj.1) rfl
  have q2 := hca 2 (.string a.ref.1) rfl
  have q3 := hca 3 (.bool a.fork) rfl
  have q4 := hca 4 (.string a.pipe.1) rfl
  have q5 := hca 5 (.int .i64 a.number.1) rfl
  have q6 := hca 6 (.bool a.done) rfl
  have q7 := hca 7 (.bool a.keep) rfl
  have p0 := hcb 0 (.string b.run.1) rfl
  try rw [Nat.add_zero] at p0
  have p1 := hcb 1 (.string b.proj.1) rfl
  have p2 := hcb 2 (.string b.ref.1) rfl
  have p3 := hcb 3 (.bool b.fork) rfl
  have p4 := hcb 4 (.string b.pipe.1) rfl
  have p5 := hcb 5 (.int .i64 b.number.1) rfl
  have p6 := hcb 6 (.bool b.done) rfl
  have p7 := hcb 7 (.bool b.keep) rfl
  clear hca hcb
  replace q0 := fun d os => cell_regrown q0 d os
  replace q1 := fun d os => cell_regrown q1 d os
  replace q2 := fun d os => cell_regrown q2 d os
  replace q3 := fun d os => cell_regrown q3 d os
  replace q4 := fun d os => cell_regrown q4 d os
  replace q5 := fun d os => cell_regrown q5 d os
  replace q6 := fun d os => cell_regrown q6 d os
  replace q7 := fun d os => cell_regrown q7 d os
  replace p0 := fun d os => cell_regrown p0 d os
  replace p1 := fun d os => cell_regrown p1 d os
  replace p2 := fun d os => cell_regrown p2 d os
  replace p3 := fun d os => cell_regrown p3 d os
  replace p4 := fun d os => cell_regrown p4 d os
  replace p5 := fun d os => cell_regrown p5 d os
  replace p6 := fun d os => cell_regrown p6 d os
  replace p7 := fun d os => cell_regrown p7 d os
  refine wp_region_quiet_below (by kernel_rfl) (by kernel_rfl) ?_
  repeat (go_big_quiet_step (((first | (go_at_call 14; first | (with_reducible exact Calls.regrown_of (h1.out _)) | (with_reducible exact Calls.regrown_of (h3.out _)) | (with_reducible exact Calls.regrown_of (h4.out _))) | (go_at_call 15; exact Calls.regrown_of (h2.out _)) | (go_at_call 8; exact Calls.regrown_of (lives_any _))))))
  refine wpQuiet_nil ?_
  intro w1 hw1
  have hb1 := below_of_regrown hw1
  clear hw1
  have hz1 := hb1.size
  go_wp2_with fail
  go_ret
  exact ⟨rfl, hb0.trans (hb1.mono (by omega))⟩

/-- A world for the witness: the settled one, the listed tables holding what their initialisers lay. -/
noncomputable def laidWorld (os : Os) : World :=
  { World.holding Tryd.prog os ⟨#[], #[], []⟩ with heap := layAll Tryd.prog Rows.supersedeSameRow.laid (World.holding Tryd.prog os ⟨#[], #[], []⟩).heap }
theorem laid_met (os : Os) : laidMet Tryd.prog Rows.supersedeSameRow.laid ((laidWorld os).forCall (fun _ _ => 0) ⟨#[], #[.agg #[.string ByteArray.empty, .string ByteArray.empty, .string ByteArray.empty, .bool false, .string ByteArray.empty, .int .i64 0, .bool false, .bool false], .agg #[.string ByteArray.empty, .string ByteArray.empty, .string ByteArray.empty, .bool false, .string ByteArray.empty, .int .i64 0, .bool false, .bool false]], []⟩).memory :=
  laidMet_of_run' 8 (by kernel_rfl) (by kernel_rfl)
theorem reads (os : Os) {H : Type} (enc : TypeId × Value → H) : ∃ places, DataW.whole enc Tryd.prog ((laidWorld os).forCall (fun _ _ => 0) ⟨#[], #[.agg #[.string ByteArray.empty, .string ByteArray.empty, .string ByteArray.empty, .bool false, .string ByteArray.empty, .int .i64 0, .bool false, .bool false], .agg #[.string ByteArray.empty, .string ByteArray.empty, .string ByteArray.empty, .bool false, .string ByteArray.empty, .int .i64 0, .bool false, .bool false]], []⟩).memory Tryd.f4.params.toList Rows.supersedeSameSpec.vars false (#[.agg #[.string ByteArray.empty, .string ByteArray.empty, .string ByteArray.empty, .bool false, .string ByteArray.empty, .int .i64 0, .bool false, .bool false], .agg #[.string ByteArray.empty, .string ByteArray.empty, .string ByteArray.empty, .bool false, .string ByteArray.empty, .int .i64 0, .bool false, .bool false]] : Array Value).toList 8 = some ([.agg [.lit (.string []), .agg [.lit (.string []), .lit (.string []), .lit (.bool false)], .lit (.string []), .lit (.int .i64 0), .lit (.bool false), .lit (.bool false)], .agg [.lit (.string []), .agg [.lit (.string []), .lit (.string []), .lit (.bool false)], .lit (.string []), .lit (.int .i64 0), .lit (.bool false), .lit (.bool false)]], [], places) :=
  ⟨[], by kernel_rfl⟩

theorem contract (H : Type) (enc : TypeId × Value → H) (W : World) (base : Nat) (args : Array Value) (ds gs : List (DataW H)) (before : List MemPlace)
    (hval : ∀ (j : Nat) t v, Tryd.f4.params[j]? = some t → args[j]? = some v → Value.okWide Tryd.prog W .any base t v)
    (hW : DataW.Whole enc Tryd.prog Tryd.f4.params.toList Rows.supersedeSameSpec.vars false W args.toList ds gs before) :
    Calls Tryd.prog 4 args W fun e W' => ∃ v, e = .returned v ∧ Rows.supersedeSameSpec.post enc Tryd.prog Tryd.f4 false true false false W args v W' := by
  have hW' := hW
  obtain ⟨p, q, hA0, hV, rfl, hfz, hnd⟩ := hW
  have hA : DataW.TrodAll enc Tryd.prog W 0 (fun _ => true) true Tryd.f4.params.toList args.toList ds p := hA0
  have hA1 := hA
  rw [Tryd.params4] at hA hval
  obtain ⟨rfl, rfl⟩ := trodVars_none hV
  simp only [List.append_nil] at hW'
  have hcall : Calls Tryd.prog 4 args W fun e w' => e = .returned (.bool true) ∧ Below W.heap.size W w' := by
    clear hA0 hV hfz hnd
    obtain ⟨v0, vs0, d0, ds0, p0, q0, hargs, rfl, rfl, h0, r0⟩ := trodAll_cons hA
    obtain ⟨v1, vs1, d1, ds1, p1, q1, rfl, rfl, rfl, h1, r1⟩ := trodAll_cons r0
    obtain ⟨rfl, rfl, rfl⟩ := trodAll_nil r1
    obtain rfl : args = #[v0, v1] := by cases args; simp_all
    obtain ⟨a, rfl⟩ := open_val Tryd.underlying26 sumE_of (hval 0 26 v0 rfl rfl) h0
    obtain ⟨b, rfl⟩ := open_val Tryd.underlying26 sumE_of (hval 1 26 v1 rfl rfl) h1
    exact walk a b W
  have hds : ds.length = 2 := (trodAll_length hA).1
  refine hcall.mono fun e W' ⟨he, hb⟩ => ?_
  subst he
  refine ⟨_, rfl, law_post hW' rfl hA1 (by kernel_rfl) laidOut Tryd.underlying4 (by kernel_rfl) ?_ hb⟩
  match ds, hds with
  | [_, _], _ => rfl

set_option maxRecDepth 100000 in
theorem lifted (os : Os) (started : os.Started) (H : Type) (enc : TypeId × Value → H) (F : Stop.Interp) :
    ReturnsInHanded {} Tryd.checked os 4 .any ((OpenSpec.ofChange Rows.supersedeSameSpec).preRow enc Tryd.prog Tryd.f4 Rows.supersedeSameRow.domain false Rows.supersedeSameRow.laid) (((OpenSpec.ofChange Rows.supersedeSameSpec).at F).post enc Tryd.prog Tryd.f4 false true false false) := by
  obtain ⟨places, hx⟩ := reads os enc
  refine returnsInHanded_of_row (C := Tryd.checked) (s := OpenSpec.ofChange Rows.supersedeSameSpec) own started (by kernel_rfl) Tryd.func4
    (witness_row_at (enc := enc) (C := Tryd.checked) false (laidWorld os) #[.agg #[.string ByteArray.empty, .string ByteArray.empty, .string ByteArray.empty, .bool false, .string ByteArray.empty, .int .i64 0, .bool false, .bool false], .agg #[.string ByteArray.empty, .string ByteArray.empty, .string ByteArray.empty, .bool false, .string ByteArray.empty, .int .i64 0, .bool false, .bool false]] rfl (by kernel_rfl) (by kernel_rfl) (by kernel_rfl)
      (OpenSpec.preRow_of_cond 8 hx (by kernel_rfl) (fun k hk => by cases hk) (by kernel_rfl) (laid_met os))) ?_
  intro W base args ds gs before hval hW _ _ _ _ _ _
  exact contract H enc W base args ds gs before hval hW

theorem said : Rows.SupersedeSameSaid :=
  OpenClaim.holds_of_cond 4 Tryd.f4 rfl rfl rfl rfl rfl rfl rfl ⟨rfl, rfl, rfl, rfl, rfl⟩ rfl rfl rfl rfl rfl (by kernel_rfl) Tryd.func4 (by kernel_rfl)
    (of_decide_eq_true (by kernel_rfl)) (by unfold Func.isWrapper; first | (rw [if_pos (by decide +kernel)]; kernel_rfl) | (rw [if_neg (by decide +kernel)]; exact ⟨rfl, rfl⟩))
    (fun os started H enc _ F => by rw [OpenClaim.pre_eq_preRow]; exact lifted os started H enc F)

theorem plain (f : FuncId) (fn : Func) (hf : Tryd.pinned.checked.prog.funcNamed Rows.supersedeSameRow.func = some f) (hfn : Tryd.pinned.checked.prog.funcs[f]? = some fn) :
    false = Tryd.pinned.checked.prog.looks [] ∧ ∀ (j : Nat) t, fn.params[j]? = some t → Tryd.pinned.checked.prog.wantsStandIn t = false := by
  obtain rfl : f = 4 := Option.some.inj ((show Tryd.prog.funcNamed Rows.supersedeSameRow.func = some 4 by kernel_rfl).symm.trans hf) |>.symm
  obtain rfl : fn = Tryd.f4 := (Option.some.inj (Tryd.func4.symm.trans hfn)).symm
  refine ⟨by kernel_rfl, fun j t ht => ?_⟩
  have hall : (Tryd.f4.params.toList.all fun t => !(Tryd.pinned.checked.prog.wantsStandIn t)) = true := by kernel_rfl
  have hm : t ∈ Tryd.f4.params.toList := Array.mem_toList_iff.2 (Array.mem_of_getElem? ht)
  simpa using List.all_eq_true.1 hall t hm

theorem proved : Rows.SupersedeSameCardSaid :=
  Claim7.holds_tied_plain_at .later [] _ _ _ _ said (fun _ h => by cases h) (by kernel_rfl) (fun _ h => by cases h) supersedeSame_row_tie rfl ⟨rfl, rfl⟩ (by kernel_rfl) rfl plain (by kernel_rfl)
#print axioms proved
end Go.Proofs.YtfbnihemoaknjaaDoor.supersedeSame
