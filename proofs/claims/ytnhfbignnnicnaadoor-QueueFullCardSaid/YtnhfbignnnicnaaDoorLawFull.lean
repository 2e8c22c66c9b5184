/-
  QueueFull: for every number, a queue of MaxPending jobs takes no more, and one of up to three fewer does; the example holds. No condition.
-/
import Derived.Test.YtnhfbignnnicnaaDoorQue13
import Derived.Test.YtnhfbignnnicnaaDoorLayTab
import Derived.Laws.MakeOwn




namespace Go.Proofs.YtnhfbignnnicnaaDoor.queueFull
open Go.ChangeShapes Go.WideShapes Go.ChangeAt Go.RowKit Go.Joins
theorem own : ownKnob Tryd.prog.godebug = none := by kernel_rfl
theorem laidOut : laidOutB Tryd.prog = true := by kernel_rfl

def zP : Pend := ⟨eStr, eStr, eStr, ⟨0, by omega⟩, ⟨0, by omega⟩, ⟨0, by omega⟩, none, 0, [], ⟨0, by omega⟩, eStr, ⟨0, by omega⟩⟩
def zV : Value := .agg #[.string ByteArray.empty, .string ByteArray.empty, .string ByteArray.empty, .int .i64 0, .int .i64 0, .int .i64 0, .slice none 0 0, .int .i64 0, .string ByteArray.empty, .int .i64 0]
theorem zV_cells : zV.cells = (pendE zP).toArray := rfl
theorem made_rows (m : Nat) (w : World) : RwL (w.alloc (.cells (madeCells zV.cells (m * 10)) 27)) (w.heap.size + 1) (some ⟨w.heap.size, 0, none⟩) (List.replicate m zP) := by
  refine ⟨fun _ => ⟨w.heap.size, 0, rfl, by omega, fun i x hx j u hu => ?_⟩, fun x hx => ?_⟩
  · obtain ⟨hi, e⟩ := List.getElem?_eq_some_iff.1 hx
    have hi' : i < m := by simpa using hi
    obtain rfl : x = zP := by rw [← e]; simp
    have hj : j < 10 := by have := (List.getElem?_eq_some_iff.1 hu).1; rwa [pendE_len] at this
    rw [Nat.zero_add]
    refine box_cells w _ 27 (i * 10 + j) u ?_
    rw [Array.getElem?_toList]
    unfold madeCells
    rw [Array.getElem?_map, Array.getElem?_range, if_pos (by omega), Option.map_some, zV_cells]
    simp only [List.size_toArray, pendE_len]
    rw [show (i * 10 + j) % 10 = j by omega, getElem!_def, List.getElem?_toArray, hu]
  · obtain rfl := List.eq_of_mem_replicate hx
    exact ⟨Nat.le_refl _, Nat.zero_le _, Rw.nil⟩
theorem find_made (m : Nat) : findI jA.run jA.job (List.replicate m zP) = -1 := findI_none (by
  rw [List.all_eq_true]
  intro x hx
  obtain rfl := List.eq_of_mem_replicate hx
  decide +kernel)
abbrev jF : Pend := jobP ⟨⟨#[97]⟩, by decide⟩ ⟨0, by omega⟩ ⟨0, by omega⟩
theorem errP_jF : errP jF = 0 := by decide +kernel
theorem full_E (m : Nat) : pushE (List.replicate m zP) jF = if 4096 ≤ m then 21 else 0 := by
  have h : ¬ 0 ≤ findI jF.run jF.job (List.replicate m zP) := by
    rw [show findI jF.run jF.job (List.replicate m zP) = -1 from find_made m]; decide
  by_cases h4 : 4096 ≤ m
  · rw [if_pos h4]; exact pushE_full errP_jF h (by simpa using h4)
  · rw [if_neg h4]; exact pushE_ok errP_jF h (by simpa using h4)
theorem sum_made (m : Nat) : sumL (List.replicate m zP) := fun x hx => by
  obtain rfl := List.eq_of_mem_replicate hx
  simp [zP]
theorem push_any_full (m : Nat) (hm : m = 4096) (w W : World) (hb : Below (w.heap.size + 1) (w.alloc (.cells (madeCells zV.cells (m * 10)) 27)) W) : Calls Tryd.prog 14 #[.slice (some ⟨w.heap.size, 0, none⟩) m m, .agg #[.string ⟨#[114]⟩, .string ⟨#[97]⟩, .string ⟨#[112]⟩, .int .i64 0, .int .i64 0, .int .i64 1, .slice none 0 0, .int .i64 0, .string ⟨#[]⟩, .int .i64 0]] W fun e w' => ∃ A c, e = .returned (.tuple #[.slice A m c, .int .i64 21]) ∧ Below W.heap.size W w' := by
  have hz := hb.size
  simp at hz
  have h := push_any (some ⟨w.heap.size, 0, none⟩) m (List.replicate m zP) jF W (((made_rows m w).below hb (Nat.le_refl _)).more (by omega)) (lab_job _ _ _ W) (by simp; omega) (sum_made m) (by simp [jobP])
  rw [List.length_replicate] at h
  refine h.mono ?_
  rintro e w1 ⟨A, l, c, rfl, _, hl, hb1⟩
  have hE : pushE (List.replicate m zP) jF = 21 := by rw [full_E, if_pos (by omega)]
  rw [pushL_no (by rw [hE]; decide)] at hl
  have hlen : l.length = m := by simpa using congrArg List.length hl
  exact ⟨A, c, by rw [hlen, hE], hb1⟩
theorem push_any_ok (m : Nat) (hm : m < 4096) (w W : World) (hb : Below (w.heap.size + 1) (w.alloc (.cells (madeCells zV.cells (m * 10)) 27)) W) : Calls Tryd.prog 14 #[.slice (some ⟨w.heap.size, 0, none⟩) m m, .agg #[.string ⟨#[114]⟩, .string ⟨#[97]⟩, .string ⟨#[112]⟩, .int .i64 0, .int .i64 0, .int .i64 1, .slice none 0 0, .int .i64 0, .string ⟨#[]⟩, .int .i64 0]] W fun e w' => ∃ g o c, e = .returned (.tuple #[.slice (some ⟨g, o, none⟩) (m + 1) c, .int .i64 0]) ∧ g < w'.heap.size ∧ w'.cell? ⟨g, o + m * 10 + 1, none⟩ = some (.string ⟨#[97]⟩) ∧ Below W.heap.size W w' := by
  have hz := hb.size
  simp at hz
  have h := push_any (some ⟨w.heap.size, 0, none⟩) m (List.replicate m zP) jF W (((made_rows m w).below hb (Nat.le_refl _)).more (by omega)) (lab_job _ _ _ W) (by simp; omega) (sum_made m) (by simp [jobP])
  rw [List.length_replicate] at h
  refine h.mono ?_
  rintro e w1 ⟨A, l, c, rfl, hr, hl, hb1⟩
  have hE : pushE (List.replicate m zP) jF = 0 := by rw [full_E, if_neg (by omega)]
  rw [pushL_ok hE] at hl
  have hlen : l.length = m + 1 := by simpa using congrArg List.length hl
  obtain ⟨g, o, rfl, hg, hc⟩ := hr.row (by omega)
  obtain ⟨x, hx⟩ := get_some (show m < l.length by omega)
  have hxj : core x = core jF := by
    have := congrArg (·[m]?) hl
    simp only [List.getElem?_map, hx] at this
    rw [List.getElem?_append_right (by simp)] at this
    simpa using this
  refine ⟨g, o, c, by rw [hlen, hE], hg, ?_, hb1⟩
  rw [hc m x hx 1 (.string x.job.1) rfl]
  have hj : (core x).job = (core jF).job := by rw [hxj]
  rw [show x.job = jF.job from hj]
  rfl

set_option maxRecDepth 100000 in
set_option maxHeartbeats 4000000 in
theorem walk (n : Int) (hn0 : 0 ≤ n) (hn1 : n ≤ 255) (w : World) :
    Calls Tryd.prog 4 #[.int .u8 n] w fun e w' => e = .returned (.bool true) ∧ Below w.heap.size w w' := by
  by_cases h3 : n > 3
  · go_enter Tryd.func4, Tryd.ntmps4
    go_wp2_with (first
      | (go_at_call 13; go_must (refine (awake_any _).mono ?_; rintro e w9 ⟨rfl, hb9⟩)))
    go_ret
    exact ⟨rfl, (by repeat (first | (with_reducible exact Below.refl _ _) | (with_reducible refine Below.drew ?_) | (with_reducible refine below_drewN ?_ _) | ((with_reducible refine Below.alloc ?_ ?_ _); rotate_left; focus ((try simp) <;> omega)) | ((with_reducible refine Below.setCell ?_ ?_ _); rotate_left; focus ((try simp) <;> omega)) | ((with_reducible refine Below.trans ?_ (Below.mono (by assumption) ?_)); rotate_left; focus ((try simp) <;> omega))))⟩
  · obtain ⟨inf, hi0, iz0, iz1, iz2⟩ := info_parts pend_info
    obtain ⟨m, hm⟩ : ∃ m : Nat, 4096 - n = (m : Int) := ⟨(4096 - n).toNat, by omega⟩
    have hmk := run_make (P := Tryd.prog) w 22 27 inf zV Tryd.underlying22 hi0 iz0 .i64 .i64 (m : Int) (m : Int) (by omega) (Int.le_refl _) (by rw [iz2]; omega) (by omega)
    rw [iz1, Int.toNat_natCast] at hmk
    have hb0 : Below (w.heap.size + 1) (w.alloc (.cells (madeCells zV.cells (m * 10)) 27)) (w.alloc (.cells (madeCells zV.cells (m * 10)) 27)) := Below.refl _ _
    have hb00 : Below w.heap.size w (w.alloc (.cells (madeCells zV.cells (m * 10)) 27)) := (Below.refl _ _).alloc (Nat.le_refl _) _
    have hz0 : (w.alloc (.cells (madeCells zV.cells (m * 10)) 27)).heap.size = w.heap.size + 1 := by simp
    have h1 := fun hm W hb => push_any_full m hm w W hb
    have h2 := fun hm W hb => push_any_ok m hm w W hb
    have j1 : Hid (∀ W, Calls Tryd.prog 17 #[.string ⟨#[97]⟩, .int .i64 0, .int .i64 0] W fun e w' => e = .returned (.agg #[.string ⟨#[114]⟩, .string ⟨#[97]⟩, .string ⟨#[112]⟩, .int .i64 0, .int .i64 0, .int .i64 1, .slice none 0 0, .int .i64 0, .string ⟨#[]⟩, .int .i64 0]) ∧ Below W.heap.size W w') := Lib.hid fun W => ex_job 97 0 0 (by omega) (by omega) W
    generalize (w.alloc (.cells (madeCells zV.cells (m * 10)) 27)) = W0 at hmk hb0 hb00 hz0 h1 h2
    have hz1 := Nat.le_of_eq hz0
    have hz2 := Nat.le_of_eq hz0.symm
    replace hz0 := Lib.hid hz0
    replace h1 := Lib.hid h1
    replace h2 := Lib.hid h2
    have hmm : (m : Int) < (m : Int) + 1 := by omega
    by_cases h0 : n = 0
    · have h0b : (n == 0) = true := by rw [h0]; rfl
      have hmv : m = 4096 := by omega
      replace h0 := Lib.hid h0
      replace hmv := Lib.hid hmv
      go_enter Tryd.func4, Tryd.ntmps4
      go_wp2_with (first
        | (go_at_call 17; go_must (refine (j1.out _).mono ?_; rintro e w7 ⟨rfl, hb7⟩; have hz7 := hb7.size))
        | (go_at_call 14; go_must (refine (h1.out hmv.out _ (hb0.trans (hb7.mono (by omega)))).mono ?_; rintro e w1 ⟨A1, c1, rfl, hb1⟩; have hz3 := hb1.size))
        | (go_at_call 13; go_must (refine (awake_any _).mono ?_; rintro e w9 ⟨rfl, hb9⟩)))
      go_ret
      exact ⟨rfl, (by repeat (first | (with_reducible exact Below.refl _ _) | (with_reducible refine Below.drew ?_) | (with_reducible refine below_drewN ?_ _) | ((with_reducible refine Below.alloc ?_ ?_ _); rotate_left; focus ((try simp) <;> omega)) | ((with_reducible refine Below.setCell ?_ ?_ _); rotate_left; focus ((try simp) <;> omega)) | ((with_reducible refine Below.trans ?_ (Below.mono (by assumption) ?_)); rotate_left; focus ((try simp) <;> omega))))⟩
    · have h0b : (n == 0) = false := by rw [beq_eq_false_iff_ne]; exact h0
      have hmv : m < 4096 := by omega
      replace h0 := Lib.hid h0
      replace hmv := Lib.hid hmv
      go_enter Tryd.func4, Tryd.ntmps4
      go_wp2_with (first
        | (go_at_call 17; go_must (refine (j1.out _).mono ?_; rintro e w7 ⟨rfl, hb7⟩; have hz7 := hb7.size))
        | (go_at_call 14; go_must (refine (h2.out hmv.out _ (hb0.trans (hb7.mono (by omega)))).mono ?_; rintro e w1 ⟨g1, o1, c1, rfl, hg1, hq1, hb1⟩; have hz3 := hb1.size))
        | (go_at_call 13; go_must (refine (awake_any _).mono ?_; rintro e w9 ⟨rfl, hb9⟩)))
      go_ret
      exact ⟨rfl, (by repeat (first | (with_reducible exact Below.refl _ _) | (with_reducible refine Below.drew ?_) | (with_reducible refine below_drewN ?_ _) | ((with_reducible refine Below.alloc ?_ ?_ _); rotate_left; focus ((try simp) <;> omega)) | ((with_reducible refine Below.setCell ?_ ?_ _); rotate_left; focus ((try simp) <;> omega)) | ((with_reducible refine Below.trans ?_ (Below.mono (by assumption) ?_)); rotate_left; focus ((try simp) <;> omega))))⟩

/-- A world for the witness: the settled one, the listed tables holding what their initialisers lay. -/
noncomputable def laidWorld (os : Os) : World :=
  { World.holding Tryd.prog os ⟨#[], #[], []⟩ with heap := layAll Tryd.prog Rows.queueFullRow.laid (World.holding Tryd.prog os ⟨#[], #[], []⟩).heap }
theorem laid_met (os : Os) : laidMet Tryd.prog Rows.queueFullRow.laid ((laidWorld os).forCall (fun _ _ => 0) ⟨#[], #[.int .u8 0], []⟩).memory :=
  laidMet_of_run' 8 (by kernel_rfl) (by kernel_rfl)
theorem reads (os : Os) {H : Type} (enc : TypeId × Value → H) : ∃ places, DataW.whole enc Tryd.prog ((laidWorld os).forCall (fun _ _ => 0) ⟨#[], #[.int .u8 0], []⟩).memory Tryd.f4.params.toList Rows.queueFullSpec.vars false (#[.int .u8 0] : Array Value).toList 8 = some ([.lit (.int .u8 0)], [], places) :=
  ⟨[], by kernel_rfl⟩

set_option maxRecDepth 100000 in
theorem contract (H : Type) (enc : TypeId × Value → H) (W : World) (base : Nat) (args : Array Value) (ds gs : List (DataW H)) (before : List MemPlace)
    (hval : ∀ (j : Nat) t v, Tryd.f4.params[j]? = some t → args[j]? = some v → Value.okWide Tryd.prog W .any base t v)
    (hW : DataW.Whole enc Tryd.prog Tryd.f4.params.toList Rows.queueFullSpec.vars false W args.toList ds gs before) :
    Calls Tryd.prog 4 args W fun e W' => ∃ v, e = .returned v ∧ Rows.queueFullSpec.post enc Tryd.prog Tryd.f4 false true false false W args v W' := by
  have hW' := hW
  obtain ⟨p, q, hA0, hV, rfl, hfz, hnd⟩ := hW
  have hA : DataW.TrodAll enc Tryd.prog W 0 (fun _ => true) true Tryd.f4.params.toList args.toList ds p := hA0
  have hA1 := hA
  rw [Tryd.params4] at hA hval
  obtain ⟨rfl, rfl⟩ := trodVars_none hV
  simp only [List.append_nil] at hW'
  have hcall : Calls Tryd.prog 4 args W fun e w' => e = .returned (.bool true) ∧ Below W.heap.size W w' := by
    clear hA0 hV hfz hnd
    obtain ⟨v0, vs0, d0, ds0, p0, q0, hargs, rfl, rfl, h0, r0⟩ := trodAll_cons hA
    obtain ⟨rfl, rfl, rfl⟩ := trodAll_nil r0
    obtain rfl : args = #[v0] := by cases args; simp_all
    obtain ⟨a1, rfl, rfl, rfl, w1⟩ := open_int Tryd.underlying5 (hval 0 5 v0 rfl rfl) h0
    have hb : 0 ≤ a1 ∧ a1 ≤ 255 := by simp [Lit.wf, IntKind.min, IntKind.max, IntKind.signed, IntKind.bits] at w1; omega
    exact walk a1 hb.1 hb.2 W
  have hds : ds.length = 1 := (trodAll_length hA).1
  refine hcall.mono fun e W' ⟨he, hb⟩ => ?_
  subst he
  refine ⟨_, rfl, law_post hW' rfl hA1 (by kernel_rfl) laidOut Tryd.underlying4 (by kernel_rfl) ?_ hb⟩
  match ds, hds with
  | [_], _ => rfl

set_option maxRecDepth 100000 in
theorem lifted (os : Os) (started : os.Started) (H : Type) (enc : TypeId × Value → H) (F : Stop.Interp) :
    ReturnsInHanded {} Tryd.checked os 4 .any ((OpenSpec.ofChange Rows.queueFullSpec).preRow enc Tryd.prog Tryd.f4 Rows.queueFullRow.domain false Rows.queueFullRow.laid) (((OpenSpec.ofChange Rows.queueFullSpec).at F).post enc Tryd.prog Tryd.f4 false true false false) := by
  obtain ⟨places, hx⟩ := reads os enc
  refine returnsInHanded_of_row (C := Tryd.checked) (s := OpenSpec.ofChange Rows.queueFullSpec) own started (by kernel_rfl) Tryd.func4
    (witness_row_at (enc := enc) (C := Tryd.checked) false (laidWorld os) #[.int .u8 0] rfl (by kernel_rfl) (by kernel_rfl) (by kernel_rfl)
      (OpenSpec.preRow_of_cond 8 hx (by kernel_rfl) (fun k hk => by cases hk) (by kernel_rfl) (laid_met os))) ?_
  intro W base args ds gs before hval hW _ _ _ _ _ _
  exact contract H enc W base args ds gs before hval hW

theorem said : Rows.QueueFullSaid :=
  OpenClaim.holds_of_cond 4 Tryd.f4 rfl rfl rfl rfl rfl rfl rfl ⟨rfl, rfl, rfl, rfl, rfl⟩ rfl rfl rfl rfl rfl (by kernel_rfl) Tryd.func4 (by kernel_rfl)
    (of_decide_eq_true (by kernel_rfl)) (by unfold Func.isWrapper; first | (rw [if_pos (by decide +kernel)]; kernel_rfl) | (rw [if_neg (by decide +kernel)]; exact ⟨rfl, rfl⟩))
    (fun os started H enc _ F => by rw [OpenClaim.pre_eq_preRow]; exact lifted os started H enc F)

theorem plain (f : FuncId) (fn : Func) (hf : Tryd.pinned.checked.prog.funcNamed Rows.queueFullRow.func = some f) (hfn : Tryd.pinned.checked.prog.funcs[f]? = some fn) :
    false = Tryd.pinned.checked.prog.looks [] ∧ ∀ (j : Nat) t, fn.params[j]? = some t → Tryd.pinned.checked.prog.wantsStandIn t = false := by
  obtain rfl : f = 4 := Option.some.inj ((show Tryd.prog.funcNamed Rows.queueFullRow.func = some 4 by kernel_rfl).symm.trans hf) |>.symm
  obtain rfl : fn = Tryd.f4 := (Option.some.inj (Tryd.func4.symm.trans hfn)).symm
  refine ⟨by kernel_rfl, fun j t ht => ?_⟩
  have hall : (Tryd.f4.params.toList.all fun t => !(Tryd.pinned.checked.prog.wantsStandIn t)) = true := by kernel_rfl
  have hm : t ∈ Tryd.f4.params.toList := Array.mem_toList_iff.2 (Array.mem_of_getElem? ht)
  simpa using List.all_eq_true.1 hall t hm

theorem proved : Rows.QueueFullCardSaid :=
  Claim7.holds_tied_plain_at .later [] _ _ _ _ said (fun _ h => by cases h) (by kernel_rfl) (fun _ h => by cases h) queueFull_row_tie rfl ⟨rfl, rfl⟩ (by kernel_rfl) rfl plain (by kernel_rfl)
#print axioms proved
end Go.Proofs.YtnhfbignnnicnaaDoor.queueFull
