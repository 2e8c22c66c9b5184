/-
  QueueRanks: for every job and any two times, the rank is the reference's, lies from 0 to 190, and does not decrease as time passes; the example holds. No condition.
-/
import Derived.Test.YtnhfbignnnicnaaDoorQue13
import Derived.Test.YtnhfbignnnicnaaDoorLayTab




namespace Go.Proofs.YtnhfbignnnicnaaDoor.queueRanks
open Go.ChangeShapes Go.WideShapes Go.ChangeAt Go.RowKit Go.Joins
theorem own : ownKnob Tryd.prog.godebug = none := by kernel_rfl
theorem laidOut : laidOutB Tryd.prog = true := by kernel_rfl

set_option maxRecDepth 100000 in
set_option maxHeartbeats 4000000 in
theorem walk (p : Pend) (now later : I64) (w : World) :
    Calls Tryd.prog 5 #[.agg #[.string p.run.1, .string p.job.1, .string p.proj.1, .int .i64 p.prio.1, .int .i64 p.since.1, .int .i64 p.cost.1, .slice p.labsA p.labs.length p.labsC, .int .i64 p.trust.1, .string p.group.1, .int .i64 p.policy.1], .int .i64 now.1, .int .i64 later.1] w fun e w' => e = .returned (.bool true) ∧ Below w.heap.size w w' := by
  rcases hs : shortB p with _ | _
  · go_enter Tryd.func5, Tryd.ntmps5
    go_wp2_with (first | (go_at_call 12; go_must (refine (short_any p _).mono ?_; rw [hs]; rintro e w1 ⟨rfl, hb1⟩; have hz1 := hb1.size; (try simp at hz1))) | (go_at_call 13; go_must (refine (awake_any _).mono ?_; rintro e w9 ⟨rfl, hb9⟩)))
    go_ret
    exact ⟨rfl, (by repeat (first | (with_reducible exact Below.refl _ _) | (with_reducible refine Below.drew ?_) | (with_reducible refine below_drewN ?_ _) | ((with_reducible refine Below.alloc ?_ ?_ _); rotate_left; focus ((try simp) <;> omega)) | ((with_reducible refine Below.setCell ?_ ?_ _); rotate_left; focus ((try simp) <;> omega)) | ((with_reducible refine Below.trans ?_ (Below.mono (by assumption) ?_)); rotate_left; focus ((try simp) <;> omega))))⟩
  · have hr := rankS_range p now.1
    have hm := fun h => rankS_mono p (a := now.1) (b := later.1) h
    have r1 := fun W => (rank_any p now W).mono (R' := fun e w' => e = .returned (.int .i64 (rankS p now.1)) ∧ Below W.heap.size W w') fun _ _ h => ⟨h.1, by rw [h.2]; exact (Below.refl _ _).alloc (Nat.le_refl _) _⟩
    have r2 := fun W => (rank_any p later W).mono (R' := fun e w' => e = .returned (.int .i64 (rankS p later.1)) ∧ Below W.heap.size W w') fun _ _ h => ⟨h.1, by rw [h.2]; exact (Below.refl _ _).alloc (Nat.le_refl _) _⟩
    have r3 := fun W => rrank_any p now W
    generalize rankS p now.1 = a at hr hm r1 r3
    generalize rankS p later.1 = b at hm r2
    obtain ⟨hr1, hr2⟩ := hr
    replace r1 := Lib.hid r1
    replace r2 := Lib.hid r2
    replace r3 := Lib.hid r3
    have haa : (a == a) = true := by simp
    go_enter Tryd.func5, Tryd.ntmps5
    go_wp2_with (first | (go_at_call 12; go_must (refine (short_any p _).mono ?_; rw [hs]; rintro e w1 ⟨rfl, hb1⟩; have hz1 := hb1.size; (try simp at hz1))))
    have Q : Hid (∀ j u, (pendE p)[j]? = some u → w1.cell? ⟨w.heap.size, j, none⟩ = some u) := Lib.hid fun j u hu => (hb1.cell (p := ⟨w.heap.size, j, none⟩) (by show w.heap.size < _; simp)).trans (box_cells w (pendE p).toArray 27 j u hu)
    have hbw1 : Below w.heap.size w w1 := (by repeat (first | (with_reducible exact Below.refl _ _) | (with_reducible refine Below.drew ?_) | (with_reducible refine below_drewN ?_ _) | ((with_reducible refine Below.alloc ?_ ?_ _); rotate_left; focus ((try simp) <;> omega)) | ((with_reducible refine Below.setCell ?_ ?_ _); rotate_left; focus ((try simp) <;> omega)) | ((with_reducible refine Below.trans ?_ (Below.mono (by assumption) ?_)); rotate_left; focus ((try simp) <;> omega))))
    have q := Q.out
    have q0 := q 0 (.string p.run.1) rfl
    try rw [Nat.add_zero] at q0
    have q1 := q 1 (.string p.job.1) rfl
    have q2 := q 2 (.string p.proj.1) rfl
    have q3 := q 3 (.int .i64 p.prio.1) rfl
    have q4 := q 4 (.int .i64 p.since.1) rfl
    have q5 := q 5 (.int .i64 p.cost.1) rfl
    have q6 := q 6 (.slice p.labsA p.labs.length p.labsC) rfl
    have q7 := q 7 (.int .i64 p.trust.1) rfl
    have q8 := q 8 (.string p.group.1) rfl
    have q9 := q 9 (.int .i64 p.policy.1) rfl
    clear q
    replace q0 := fun d os => cell_regrown q0 d os
    replace q1 := fun d os => cell_regrown q1 d os
    replace q2 := fun d os => cell_regrown q2 d os
    replace q3 := fun d os => cell_regrown q3 d os
    replace q4 := fun d os => cell_regrown q4 d os
    replace q5 := fun d os => cell_regrown q5 d os
    replace q6 := fun d os => cell_regrown q6 d os
    replace q7 := fun d os => cell_regrown q7 d os
    replace q8 := fun d os => cell_regrown q8 d os
    replace q9 := fun d os => cell_regrown q9 d os
    go_wp2_with fail
    refine wp_region_quiet_below (by kernel_rfl) (by kernel_rfl) ?_
    repeat (go_big_quiet_step ((go_at_call 18; first | (with_reducible exact Calls.regrown_of (r1.out _)) | (with_reducible exact Calls.regrown_of (r2.out _)))))
    refine wpQuiet_nil ?_
    intro w2 hw2
    have hb2 := below_of_regrown hw2
    clear hw2
    have hz2 := hb2.size
    clear q0 q1 q2 q3 q4 q5 q6 q7 q8 q9
    have q : ∀ j u, (pendE p)[j]? = some u → w2.cell? ⟨w.heap.size, j, none⟩ = some u := fun j u hu => (hb2.cell (p := ⟨w.heap.size, j, none⟩) (by show w.heap.size < _; omega)).trans (Q.out j u hu)
    have q0 := q 0 (.string p.run.1) rfl
    try rw [Nat.add_zero] at q0
    have q1 := q 1 (.string p.job.1) rfl
    have q2 := q 2 (.string p.proj.1) rfl
    have q3 := q 3 (.int .i64 p.prio.1) rfl
    have q4 := q 4 (.int .i64 p.since.1) rfl
    have q5 := q 5 (.int .i64 p.cost.1) rfl
    have q6 := q 6 (.slice p.labsA p.labs.length p.labsC) rfl
    have q7 := q 7 (.int .i64 p.trust.1) rfl
    have q8 := q 8 (.string p.group.1) rfl
    have q9 := q 9 (.int .i64 p.policy.1) rfl
    clear q
    replace hb2 := hbw1.trans (hb2.mono (by omega))
    by_cases hnl : now.1 > later.1
    · go_wp2_with (first | (go_at_call 19; go_must (refine (r3.out _).mono ?_; rintro e w3 ⟨rfl, hb3⟩; have hz3 := hb3.size)) | (go_at_call 13; go_must (refine (awake_any _).mono ?_; rintro e w9 ⟨rfl, hb9⟩)))
      go_ret
      exact ⟨rfl, (by repeat (first | (with_reducible exact Below.refl _ _) | (with_reducible refine Below.drew ?_) | (with_reducible refine below_drewN ?_ _) | ((with_reducible refine Below.alloc ?_ ?_ _); rotate_left; focus ((try simp) <;> omega)) | ((with_reducible refine Below.setCell ?_ ?_ _); rotate_left; focus ((try simp) <;> omega)) | ((with_reducible refine Below.trans ?_ (Below.mono (by assumption) ?_)); rotate_left; focus ((try simp) <;> omega))))⟩
    · have hab := hm (by omega)
      go_wp2_with (first | (go_at_call 19; go_must (refine (r3.out _).mono ?_; rintro e w3 ⟨rfl, hb3⟩; have hz3 := hb3.size)) | (go_at_call 13; go_must (refine (awake_any _).mono ?_; rintro e w9 ⟨rfl, hb9⟩)))
      go_ret
      exact ⟨rfl, (by repeat (first | (with_reducible exact Below.refl _ _) | (with_reducible refine Below.drew ?_) | (with_reducible refine below_drewN ?_ _) | ((with_reducible refine Below.alloc ?_ ?_ _); rotate_left; focus ((try simp) <;> omega)) | ((with_reducible refine Below.setCell ?_ ?_ _); rotate_left; focus ((try simp) <;> omega)) | ((with_reducible refine Below.trans ?_ (Below.mono (by assumption) ?_)); rotate_left; focus ((try simp) <;> omega))))⟩

/-- A world for the witness: the settled one, the listed tables holding what their initialisers lay. -/
noncomputable def laidWorld (os : Os) : World :=
  { World.holding Tryd.prog os ⟨#[], #[], []⟩ with heap := layAll Tryd.prog Rows.queueRanksRow.laid (World.holding Tryd.prog os ⟨#[], #[], []⟩).heap }
theorem laid_met (os : Os) : laidMet Tryd.prog Rows.queueRanksRow.laid ((laidWorld os).forCall (fun _ _ => 0) ⟨#[], #[.agg #[.string ByteArray.empty, .string ByteArray.empty, .string ByteArray.empty, .int .i64 0, .int .i64 0, .int .i64 0, .slice none 0 0, .int .i64 0, .string ByteArray.empty, .int .i64 0], .int .i64 0, .int .i64 0], []⟩).memory :=
  laidMet_of_run' 8 (by kernel_rfl) (by kernel_rfl)
theorem reads (os : Os) {H : Type} (enc : TypeId × Value → H) : ∃ places, DataW.whole enc Tryd.prog ((laidWorld os).forCall (fun _ _ => 0) ⟨#[], #[.agg #[.string ByteArray.empty, .string ByteArray.empty, .string ByteArray.empty, .int .i64 0, .int .i64 0, .int .i64 0, .slice none 0 0, .int .i64 0, .string ByteArray.empty, .int .i64 0], .int .i64 0, .int .i64 0], []⟩).memory Tryd.f5.params.toList Rows.queueRanksSpec.vars false (#[.agg #[.string ByteArray.empty, .string ByteArray.empty, .string ByteArray.empty, .int .i64 0, .int .i64 0, .int .i64 0, .slice none 0 0, .int .i64 0, .string ByteArray.empty, .int .i64 0], .int .i64 0, .int .i64 0] : Array Value).toList 8 = some ([.agg [.agg [.lit (.string []), .lit (.string [])], .lit (.string []), .lit (.int .i64 0), .lit (.int .i64 0), .lit (.int .i64 0), .nil, .lit (.int .i64 0), .lit (.string []), .lit (.int .i64 0)], .lit (.int .i64 0), .lit (.int .i64 0)], [], places) :=
  ⟨[], by kernel_rfl⟩

set_option maxRecDepth 100000 in
theorem contract (H : Type) (enc : TypeId × Value → H) (W : World) (base : Nat) (args : Array Value) (ds gs : List (DataW H)) (before : List MemPlace)
    (hval : ∀ (j : Nat) t v, Tryd.f5.params[j]? = some t → args[j]? = some v → Value.okWide Tryd.prog W .any base t v)
    (hW : DataW.Whole enc Tryd.prog Tryd.f5.params.toList Rows.queueRanksSpec.vars false W args.toList ds gs before) :
    Calls Tryd.prog 5 args W fun e W' => ∃ v, e = .returned v ∧ Rows.queueRanksSpec.post enc Tryd.prog Tryd.f5 false true false false W args v W' := by
  have hW' := hW
  obtain ⟨p, q, hA0, hV, rfl, hfz, hnd⟩ := hW
  have hA : DataW.TrodAll enc Tryd.prog W 0 (fun _ => true) true Tryd.f5.params.toList args.toList ds p := hA0
  have hA1 := hA
  rw [Tryd.params5] at hA hval
  obtain ⟨rfl, rfl⟩ := trodVars_none hV
  simp only [List.append_nil] at hW'
  have hcall : Calls Tryd.prog 5 args W fun e w' => e = .returned (.bool true) ∧ Below W.heap.size W w' := by
    clear hA0 hV hfz hnd
    obtain ⟨v0, vs0, d0, ds0, p0, q0, hargs, rfl, rfl, h0, r0⟩ := trodAll_cons hA
    obtain ⟨v1, vs1, d1, ds1, p1, q1, rfl, rfl, rfl, h1, r1⟩ := trodAll_cons r0
    obtain ⟨v2, vs2, d2, ds2, p2, q2, rfl, rfl, rfl, h2, r2⟩ := trodAll_cons r1
    obtain ⟨rfl, rfl, rfl⟩ := trodAll_nil r2
    obtain rfl : args = #[v0, v1, v2] := by cases args; simp_all
    obtain ⟨p, rfl, _⟩ := open_valq Tryd.underlying27 pendE_of (hval 0 27 v0 rfl rfl) h0
    obtain ⟨a1, rfl, rfl, rfl, w1⟩ := open_int Tryd.underlying3 (hval 1 3 v1 rfl rfl) h1
    obtain ⟨a2, rfl, rfl, rfl, w2⟩ := open_int Tryd.underlying3 (hval 2 3 v2 rfl rfl) h2
    exact walk p ⟨a1, bounds_i64 w1⟩ ⟨a2, bounds_i64 w2⟩ W
  have hds : ds.length = 3 := (trodAll_length hA).1
  refine hcall.mono fun e W' ⟨he, hb⟩ => ?_
  subst he
  refine ⟨_, rfl, law_post hW' rfl hA1 (by kernel_rfl) laidOut Tryd.underlying4 (by kernel_rfl) ?_ hb⟩
  match ds, hds with
  | [_, _, _], _ => rfl

set_option maxRecDepth 100000 in
theorem lifted (os : Os) (started : os.Started) (H : Type) (enc : TypeId × Value → H) (F : Stop.Interp) :
    ReturnsInHanded {} Tryd.checked os 5 .any ((OpenSpec.ofChange Rows.queueRanksSpec).preRow enc Tryd.prog Tryd.f5 Rows.queueRanksRow.domain false Rows.queueRanksRow.laid) (((OpenSpec.ofChange Rows.queueRanksSpec).at F).post enc Tryd.prog Tryd.f5 false true false false) := by
  obtain ⟨places, hx⟩ := reads os enc
  refine returnsInHanded_of_row (C := Tryd.checked) (s := OpenSpec.ofChange Rows.queueRanksSpec) own started (by kernel_rfl) Tryd.func5
    (witness_row_at (enc := enc) (C := Tryd.checked) false (laidWorld os) #[.agg #[.string ByteArray.empty, .string ByteArray.empty, .string ByteArray.empty, .int .i64 0, .int .i64 0, .int .i64 0, .slice none 0 0, .int .i64 0, .string ByteArray.empty, .int .i64 0], .int .i64 0, .int .i64 0] rfl (by kernel_rfl) (by kernel_rfl) (by kernel_rfl)
      (OpenSpec.preRow_of_cond 8 hx (by kernel_rfl) (fun k hk => by cases hk) (by kernel_rfl) (laid_met os))) ?_
  intro W base args ds gs before hval hW _ _ _ _ _ _
  exact contract H enc W base args ds gs before hval hW

theorem said : Rows.QueueRanksSaid :=
  OpenClaim.holds_of_cond 5 Tryd.f5 rfl rfl rfl rfl rfl rfl rfl ⟨rfl, rfl, rfl, rfl, rfl⟩ rfl rfl rfl rfl rfl (by kernel_rfl) Tryd.func5 (by kernel_rfl)
    (of_decide_eq_true (by kernel_rfl)) (by unfold Func.isWrapper; first | (rw [if_pos (by decide +kernel)]; kernel_rfl) | (rw [if_neg (by decide +kernel)]; exact ⟨rfl, rfl⟩))
    (fun os started H enc _ F => by rw [OpenClaim.pre_eq_preRow]; exact lifted os started H enc F)

theorem plain (f : FuncId) (fn : Func) (hf : Tryd.pinned.checked.prog.funcNamed Rows.queueRanksRow.func = some f) (hfn : Tryd.pinned.checked.prog.funcs[f]? = some fn) :
    false = Tryd.pinned.checked.prog.looks [] ∧ ∀ (j : Nat) t, fn.params[j]? = some t → Tryd.pinned.checked.prog.wantsStandIn t = false := by
  obtain rfl : f = 5 := Option.some.inj ((show Tryd.prog.funcNamed Rows.queueRanksRow.func = some 5 by kernel_rfl).symm.trans hf) |>.symm
  obtain rfl : fn = Tryd.f5 := (Option.some.inj (Tryd.func5.symm.trans hfn)).symm
  refine ⟨by kernel_rfl, fun j t ht => ?_⟩
  have hall : (Tryd.f5.params.toList.all fun t => !(Tryd.pinned.checked.prog.wantsStandIn t)) = true := by kernel_rfl
  have hm : t ∈ Tryd.f5.params.toList := Array.mem_toList_iff.2 (Array.mem_of_getElem? ht)
  simpa using List.all_eq_true.1 hall t hm

theorem proved : Rows.QueueRanksCardSaid :=
  Claim7.holds_tied_plain_at .later [] _ _ _ _ said (fun _ h => by cases h) (by kernel_rfl) (fun _ h => by cases h) queueRanks_row_tie rfl ⟨rfl, rfl⟩ (by kernel_rfl) rfl plain (by kernel_rfl)
#print axioms proved
end Go.Proofs.YtnhfbignnnicnaaDoor.queueRanks
