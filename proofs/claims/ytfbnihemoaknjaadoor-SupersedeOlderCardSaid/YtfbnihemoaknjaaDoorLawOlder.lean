/-
  SupersedeOlder: for every list of runs (of at most 40, with short names) and every run, the runs that it supersedes and whether it is the latest one are the reference's; the examples hold. No condition.
-/
import Derived.Test.YtfbnihemoaknjaaDoorSup4
import Derived.Test.YtfbnihemoaknjaaDoorLayTab



namespace Go.Proofs.YtfbnihemoaknjaaDoor.supersedeOlder
open Go.ChangeShapes Go.WideShapes Go.ChangeAt Go.RowKit Go.Joins
theorem own : ownKnob Tryd.prog.godebug = none := by kernel_rfl
theorem laidOut : laidOutB Tryd.prog = true := by kernel_rfl

theorem srt_len (l : List Str) : (srt l).length ≤ l.length := by
  unfold srt srtOf
  exact Nat.le_trans (Lib.compact_length_le _) (by simp)
theorem older_len (s : Sum) (l : List Sum) : (olderS s l).length ≤ l.length := by
  unfold olderS
  refine Nat.le_trans (srt_len _) ?_
  rw [List.length_map]
  exact List.length_filter_le _ _

set_option maxRecDepth 100000 in
set_option maxHeartbeats 8000000 in
theorem walk (A : Option Addr) (c : Nat) (l : List Sum) (s : Sum) (w : World) (hr : Rw sumE 8 w w.heap.size A l) (hm : l.length ≤ 9223372036854775807) :
    Calls Tryd.prog 3 #[.slice A l.length c, .agg #[.string s.run.1, .string s.proj.1, .string s.ref.1, .bool s.fork, .string s.pipe.1, .int .i64 s.number.1, .bool s.done, .bool s.keep]] w fun e w' => e = .returned (.bool true) ∧ Below w.heap.size w w' := by
  rcases hf : fewB l with _ | _
  · go_enter Tryd.func3, Tryd.ntmps3
    go_wp2_with (first | (go_at_call 7; go_must (refine (few_any A c l _ ?_ hm).mono ?_; (focus exact (hr.alloc (Nat.le_refl _) _).more (by simp)); rw [hf]; rintro e w1 ⟨rfl, rfl⟩)) | (go_at_call 8; go_must (refine (lives_any _).mono ?_; rintro e w1 ⟨rfl, hb1⟩)))
    go_ret
    exact ⟨rfl, ((Below.refl _ _).alloc (Nat.le_refl _) _).trans (hb1.mono (by simp))⟩
  · have h40 : l.length ≤ 40 := by
      unfold fewB at hf
      rw [Bool.and_eq_true] at hf
      simpa using hf.2
    have hlen := older_len s l
    have h1 := fun W h => older_any A c l s W h (by omega)
    have h2 := fun W h => rolder_any A c l s W h (by omega)
    have h3 := fun W h => latest_any A c l s W h (by omega)
    have h4 := fun W h => rlatest_any A c l s W h (by omega)
    generalize olderS s l = L at hlen h1 h2
    generalize latestB s l = r at h3 h4
    have hrr : (r == r) = true := by simp
    replace h1 := Lib.hid h1
    replace h2 := Lib.hid h2
    replace h3 := Lib.hid h3
    replace h4 := Lib.hid h4
    go_enter Tryd.func3, Tryd.ntmps3
    go_wp2_with (first | (go_at_call 7; go_must (refine (few_any A c l _ ?_ hm).mono ?_; (focus exact (hr.alloc (Nat.le_refl _) _).more (by simp)); rw [hf]; rintro e w1 ⟨rfl, rfl⟩)))
    go_region_held3 (fun w' => w'.cell? ⟨w.heap.size, 0, none⟩ = some (.string s.run.1) ∧ w'.cell? ⟨w.heap.size, 1, none⟩ = some (.string s.proj.1) ∧ w'.cell? ⟨w.heap.size, 2, none⟩ = some (.string s.ref.1) ∧ w'.cell? ⟨w.heap.size, 3, none⟩ = some (.bool s.fork) ∧ w'.cell? ⟨w.heap.size, 4, none⟩ = some (.string s.pipe.1) ∧ w'.cell? ⟨w.heap.size, 5, none⟩ = some (.int .i64 s.number.1) ∧ w'.cell? ⟨w.heap.size, 6, none⟩ = some (.bool s.done) ∧ w'.cell? ⟨w.heap.size, 7, none⟩ = some (.bool s.keep)) (go_keep)
      (first
        | (go_at_call 10; go_must (refine (h1.out _ ?_).mono ?_; (focus exact (hr.below (C := w.heap.size) (by repeat (first | (with_reducible exact Below.refl _ _) | (with_reducible refine Below.drew ?_) | (with_reducible refine below_drewN ?_ _) | ((with_reducible refine Below.alloc ?_ ?_ _); rotate_left; focus ((try simp) <;> omega)) | ((with_reducible refine Below.setCell ?_ ?_ _); rotate_left; focus ((try simp) <;> omega)) | ((with_reducible refine Below.trans ?_ (Below.mono (by assumption) ?_)); rotate_left; focus ((try simp) <;> omega)))) (Nat.le_refl _)).more (by (try simp) <;> omega)); rintro e w1 ⟨A1, k1, rfl, hr1, hb1⟩; have hz1 := hb1.size; (try simp at hz1); obtain ⟨hc1, hf1⟩ := blk_at hb1 w.heap.size (by (try simp) <;> omega)))
        | (go_at_call 11; go_must (refine (h2.out _ ?_).mono ?_; (focus exact (hr.below (C := w.heap.size) (by repeat (first | (with_reducible exact Below.refl _ _) | (with_reducible refine Below.drew ?_) | (with_reducible refine below_drewN ?_ _) | ((with_reducible refine Below.alloc ?_ ?_ _); rotate_left; focus ((try simp) <;> omega)) | ((with_reducible refine Below.setCell ?_ ?_ _); rotate_left; focus ((try simp) <;> omega)) | ((with_reducible refine Below.trans ?_ (Below.mono (by assumption) ?_)); rotate_left; focus ((try simp) <;> omega)))) (Nat.le_refl _)).more (by (try simp) <;> omega)); rintro e w2 ⟨A2, k2, rfl, hr2, hb2⟩; have hz2 := hb2.size; (try simp at hz2); obtain ⟨hc2, hf2⟩ := blk_at hb2 w.heap.size (by (try simp) <;> omega)))
        | (go_at_call 9; go_must (refine (rsame_any A1 A2 k1 k2 L L _ ?_ ?_ (by omega) (by omega)).mono ?_; (focus exact (hr1.below hb2 (by simp)).more (by (try simp) <;> omega)); (focus exact hr2); rw [show decide (L = L) = true from decide_eq_true rfl]; rintro e w3 ⟨rfl, n3, rfl⟩))
        | (go_at_call 12; go_must (refine (h3.out _ ?_).mono ?_; (focus exact (hr.below (C := w.heap.size) (by repeat (first | (with_reducible exact Below.refl _ _) | (with_reducible refine Below.drew ?_) | (with_reducible refine below_drewN ?_ _) | ((with_reducible refine Below.alloc ?_ ?_ _); rotate_left; focus ((try simp) <;> omega)) | ((with_reducible refine Below.setCell ?_ ?_ _); rotate_left; focus ((try simp) <;> omega)) | ((with_reducible refine Below.trans ?_ (Below.mono (by assumption) ?_)); rotate_left; focus ((try simp) <;> omega)))) (Nat.le_refl _)).more (by (try simp) <;> omega)); rintro e w4 ⟨rfl, hb4⟩; have hz4 := hb4.size; (try simp at hz4); obtain ⟨hc4, hf4⟩ := blk_at hb4 w.heap.size (by (try simp) <;> omega)))
        | (go_at_call 13; go_must (refine (h4.out _ ?_).mono ?_; (focus exact (hr.below (C := w.heap.size) (by repeat (first | (with_reducible exact Below.refl _ _) | (with_reducible refine Below.drew ?_) | (with_reducible refine below_drewN ?_ _) | ((with_reducible refine Below.alloc ?_ ?_ _); rotate_left; focus ((try simp) <;> omega)) | ((with_reducible refine Below.setCell ?_ ?_ _); rotate_left; focus ((try simp) <;> omega)) | ((with_reducible refine Below.trans ?_ (Below.mono (by assumption) ?_)); rotate_left; focus ((try simp) <;> omega)))) (Nat.le_refl _)).more (by (try simp) <;> omega)); rintro e w5 ⟨rfl, hb5⟩; have hz5 := hb5.size; (try simp at hz5); obtain ⟨hc5, hf5⟩ := blk_at hb5 w.heap.size (by (try simp) <;> omega)))
        | (go_at_call 8; go_must (refine (lives_any _).mono ?_; rintro e w6 ⟨rfl, hb6⟩; have hz6 := hb6.size; (try simp at hz6); obtain ⟨hc6, hf6⟩ := blk_at hb6 w.heap.size (by (try simp) <;> omega))))
    all_goals go_wp2_with fail
    all_goals go_ret
    all_goals exact ⟨rfl, (by repeat (first | (with_reducible exact Below.refl _ _) | (with_reducible refine Below.drew ?_) | (with_reducible refine below_drewN ?_ _) | ((with_reducible refine Below.alloc ?_ ?_ _); rotate_left; focus ((try simp) <;> omega)) | ((with_reducible refine Below.setCell ?_ ?_ _); rotate_left; focus ((try simp) <;> omega)) | ((with_reducible refine Below.trans ?_ (Below.mono (by assumption) ?_)); rotate_left; focus ((try simp) <;> omega))))⟩
/-- A world for the witness: the settled one, the listed tables holding what their initialisers lay. -/
noncomputable def laidWorld (os : Os) : World :=
  { World.holding Tryd.prog os ⟨#[], #[], []⟩ with heap := layAll Tryd.prog Rows.supersedeOlderRow.laid (World.holding Tryd.prog os ⟨#[], #[], []⟩).heap }
theorem laid_met (os : Os) : laidMet Tryd.prog Rows.supersedeOlderRow.laid ((laidWorld os).forCall (fun _ _ => 0) ⟨#[], #[.slice none 0 0, .agg #[.string ByteArray.empty, .string ByteArray.empty, .string ByteArray.empty, .bool false, .string ByteArray.empty, .int .i64 0, .bool false, .bool false]], []⟩).memory :=
  laidMet_of_run' 8 (by kernel_rfl) (by kernel_rfl)
theorem reads (os : Os) {H : Type} (enc : TypeId × Value → H) : ∃ places, DataW.whole enc Tryd.prog ((laidWorld os).forCall (fun _ _ => 0) ⟨#[], #[.slice none 0 0, .agg #[.string ByteArray.empty, .string ByteArray.empty, .string ByteArray.empty, .bool false, .string ByteArray.empty, .int .i64 0, .bool false, .bool false]], []⟩).memory Tryd.f3.params.toList Rows.supersedeOlderSpec.vars false (#[.slice none 0 0, .agg #[.string ByteArray.empty, .string ByteArray.empty, .string ByteArray.empty, .bool false, .string ByteArray.empty, .int .i64 0, .bool false, .bool false]] : Array Value).toList 8 = some ([.nil, .agg [.lit (.string []), .agg [.lit (.string []), .lit (.string []), .lit (.bool false)], .lit (.string []), .lit (.int .i64 0), .lit (.bool false), .lit (.bool false)]], [], places) :=
  ⟨[], by kernel_rfl⟩

theorem contract (H : Type) (enc : TypeId × Value → H) (W : World) (base : Nat) (args : Array Value) (ds gs : List (DataW H)) (before : List MemPlace)
    (hval : ∀ (j : Nat) t v, Tryd.f3.params[j]? = some t → args[j]? = some v → Value.okWide Tryd.prog W .any base t v)
    (hW : DataW.Whole enc Tryd.prog Tryd.f3.params.toList Rows.supersedeOlderSpec.vars false W args.toList ds gs before) :
    Calls Tryd.prog 3 args W fun e W' => ∃ v, e = .returned v ∧ Rows.supersedeOlderSpec.post enc Tryd.prog Tryd.f3 false true false false W args v W' := by
  have hW' := hW
  obtain ⟨p, q, hA0, hV, rfl, hfz, hnd⟩ := hW
  have hA : DataW.TrodAll enc Tryd.prog W 0 (fun _ => true) true Tryd.f3.params.toList args.toList ds p := hA0
  have hA1 := hA
  rw [Tryd.params3] at hA hval
  obtain ⟨rfl, rfl⟩ := trodVars_none hV
  simp only [List.append_nil] at hW'
  have hcall : Calls Tryd.prog 3 args W fun e w' => e = .returned (.bool true) ∧ Below W.heap.size W w' := by
    clear hA0 hV hfz hnd
    obtain ⟨v0, vs0, d0, ds0, p0, q0, hargs, rfl, rfl, h0, r0⟩ := trodAll_cons hA
    obtain ⟨v1, vs1, d1, ds1, p1, q1, rfl, rfl, rfl, h1, r1⟩ := trodAll_cons r0
    obtain ⟨rfl, rfl, rfl⟩ := trodAll_nil r1
    obtain rfl : args = #[v0, v1] := by cases args; simp_all
    obtain ⟨A, l, c, rfl, hlc, hcm, hr⟩ := open_rows sumE_len (by omega) Tryd.underlying22 (by kernel_rfl) sumE_of (hval 0 22 v0 rfl rfl) h0
    obtain ⟨s, rfl⟩ := open_val Tryd.underlying26 sumE_of (hval 1 26 v1 rfl rfl) h1
    unfold maxLen at hcm
    exact walk A c l s W hr (by omega)
  have hds : ds.length = 2 := (trodAll_length hA).1
  refine hcall.mono fun e W' ⟨he, hb⟩ => ?_
  subst he
  refine ⟨_, rfl, law_post hW' rfl hA1 (by kernel_rfl) laidOut Tryd.underlying4 (by kernel_rfl) ?_ hb⟩
  match ds, hds with
  | [_, _], _ => rfl

set_option maxRecDepth 100000 in
theorem lifted (os : Os) (started : os.Started) (H : Type) (enc : TypeId × Value → H) (F : Stop.Interp) :
    ReturnsInHanded {} Tryd.checked os 3 .any ((OpenSpec.ofChange Rows.supersedeOlderSpec).preRow enc Tryd.prog Tryd.f3 Rows.supersedeOlderRow.domain false Rows.supersedeOlderRow.laid) (((OpenSpec.ofChange Rows.supersedeOlderSpec).at F).post enc Tryd.prog Tryd.f3 false true false false) := by
  obtain ⟨places, hx⟩ := reads os enc
  refine returnsInHanded_of_row (C := Tryd.checked) (s := OpenSpec.ofChange Rows.supersedeOlderSpec) own started (by kernel_rfl) Tryd.func3
    (witness_row_at (enc := enc) (C := Tryd.checked) false (laidWorld os) #[.slice none 0 0, .agg #[.string ByteArray.empty, .string ByteArray.empty, .string ByteArray.empty, .bool false, .string ByteArray.empty, .int .i64 0, .bool false, .bool false]] rfl (by kernel_rfl) (by kernel_rfl) (by kernel_rfl)
      (OpenSpec.preRow_of_cond 8 hx (by kernel_rfl) (fun k hk => by cases hk) (by kernel_rfl) (laid_met os))) ?_
  intro W base args ds gs before hval hW _ _ _ _ _ _
  exact contract H enc W base args ds gs before hval hW

theorem said : Rows.SupersedeOlderSaid :=
  OpenClaim.holds_of_cond 3 Tryd.f3 rfl rfl rfl rfl rfl rfl rfl ⟨rfl, rfl, rfl, rfl, rfl⟩ rfl rfl rfl rfl rfl (by kernel_rfl) Tryd.func3 (by kernel_rfl)
    (of_decide_eq_true (by kernel_rfl)) (by unfold Func.isWrapper; first | (rw [if_pos (by decide +kernel)]; kernel_rfl) | (rw [if_neg (by decide +kernel)]; exact ⟨rfl, rfl⟩))
    (fun os started H enc _ F => by rw [OpenClaim.pre_eq_preRow]; exact lifted os started H enc F)

theorem plain (f : FuncId) (fn : Func) (hf : Tryd.pinned.checked.prog.funcNamed Rows.supersedeOlderRow.func = some f) (hfn : Tryd.pinned.checked.prog.funcs[f]? = some fn) :
    false = Tryd.pinned.checked.prog.looks [] ∧ ∀ (j : Nat) t, fn.params[j]? = some t → Tryd.pinned.checked.prog.wantsStandIn t = false := by
  obtain rfl : f = 3 := Option.some.inj ((show Tryd.prog.funcNamed Rows.supersedeOlderRow.func = some 3 by kernel_rfl).symm.trans hf) |>.symm
  obtain rfl : fn = Tryd.f3 := (Option.some.inj (Tryd.func3.symm.trans hfn)).symm
  refine ⟨by kernel_rfl, fun j t ht => ?_⟩
  have hall : (Tryd.f3.params.toList.all fun t => !(Tryd.pinned.checked.prog.wantsStandIn t)) = true := by kernel_rfl
  have hm : t ∈ Tryd.f3.params.toList := Array.mem_toList_iff.2 (Array.mem_of_getElem? ht)
  simpa using List.all_eq_true.1 hall t hm

theorem proved : Rows.SupersedeOlderCardSaid :=
  Claim7.holds_tied_plain_at .later [] _ _ _ _ said (fun _ h => by cases h) (by kernel_rfl) (fun _ h => by cases h) supersedeOlder_row_tie rfl ⟨rfl, rfl⟩ (by kernel_rfl) rfl plain (by kernel_rfl)
#print axioms proved
end Go.Proofs.YtfbnihemoaknjaaDoor.supersedeOlder
