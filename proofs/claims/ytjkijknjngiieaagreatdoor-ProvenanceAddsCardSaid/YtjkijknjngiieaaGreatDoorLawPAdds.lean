/-
  ProvenanceAdds: a link is added as the reference adds it, with the same error; the example holds. No condition.
-/
import Derived.Test.YtjkijknjngiieaaGreatDoorPrx9
import Derived.Test.YtjkijknjngiieaaGreatDoorBase1
import Derived.Test.YtjkijknjngiieaaGreatDoorLayTab




namespace Go.Proofs.YtjkijknjngiieaaGreatDoor.provenanceAdds
open Go.ChangeShapes Go.WideShapes Go.ChangeAt Go.RowKit Go.Joins
theorem own : ownKnob Tryz.prog.godebug = none := by kernel_rfl
theorem laidOut : laidOutB Tryz.prog = true := by kernel_rfl
open Go.RowKit

set_option maxRecDepth 100000 in
set_option maxHeartbeats 8000000 in
theorem walk (A : Option Addr) (c : Nat) (l : List Lkr) (x : Lkr) (w : World) (hr : RwL w w.heap.size A l) (hlc : l.length ≤ c) (hcm : c ≤ maxLen) (hx : LabLkr w w.heap.size x) (hG : Glob w) :
    Calls Tryz.prog 3 #[.slice A l.length c, .agg #[.string x.run.1, .string x.job.1, .int .i64 x.attempt.1, .int .u64 x.spec.1, .slice x.insA x.ins.length x.insC, .string x.name.1, .int .u64 x.digest.1, .int .i64 x.size.1]] w fun e w' => e = .returned (.bool true) ∧ Below w.heap.size w w' := by
  have hfe0 : ∀ W, Below w.heap.size w W → Calls Tryz.prog 8 #[.slice A l.length c] W fun e w' => e = .returned (.bool (fewB l)) ∧ Below W.heap.size W w' := fun W hb => few_any A c l W ((hr.below hb (Nat.le_refl _)).more hb.size) hlc hcm
  have hsh0 : ∀ W, Below w.heap.size w W → Calls Tryz.prog 9 #[.agg #[.string x.run.1, .string x.job.1, .int .i64 x.attempt.1, .int .u64 x.spec.1, .slice x.insA x.ins.length x.insC, .string x.name.1, .int .u64 x.digest.1, .int .i64 x.size.1]] W fun e w' => e = .returned (.bool (shortB x)) ∧ Below W.heap.size W w' := fun W hb => short_any x W ((hx.below hb (Nat.le_refl _)).more hb.size)
  rcases hs : fewB l with _ | _
  · rw [hs] at hfe0
    have hfe := Lib.hid hfe0
    clear hfe0 hr hx hsh0
    replace hG := Lib.hid hG
    replace hs := Lib.hid hs
    go_enter Tryz.func3, Tryz.ntmps3
    go_wp2_with (first | (go_at_call 8; go_must (refine (hfe.out _ (by repeat (first | (with_reducible exact Below.refl _ _) | (with_reducible refine Below.drew ?_) | (with_reducible refine below_drewN ?_ _) | ((with_reducible refine Below.alloc ?_ ?_ _); rotate_left; focus ((try simp) <;> omega)) | ((with_reducible refine Below.setCell ?_ ?_ _); rotate_left; focus ((try simp) <;> omega)) | ((with_reducible refine Below.trans ?_ (Below.mono (by assumption) ?_)); rotate_left; focus ((try simp) <;> omega))))).mono ?_; rintro e w1 ⟨rfl, hb1⟩; have hz1 := hb1.size; (try simp at hz1))) | (go_at_call 10; go_must (refine (awake_any _ (hG.out.keep (by repeat (first | (with_reducible exact Below.refl _ _) | (with_reducible refine Below.drew ?_) | (with_reducible refine below_drewN ?_ _) | ((with_reducible refine Below.alloc ?_ ?_ _); rotate_left; focus ((try simp) <;> omega)) | ((with_reducible refine Below.setCell ?_ ?_ _); rotate_left; focus ((try simp) <;> omega)) | ((with_reducible refine Below.trans ?_ (Below.mono (by assumption) ?_)); rotate_left; focus ((try simp) <;> omega)))))).mono ?_; rintro e w9 ⟨rfl, hb9⟩; have hz9 := hb9.size)))
    go_ret
    exact ⟨rfl, (by repeat (first | (with_reducible exact Below.refl _ _) | (with_reducible refine Below.drew ?_) | (with_reducible refine below_drewN ?_ _) | ((with_reducible refine Below.alloc ?_ ?_ _); rotate_left; focus ((try simp) <;> omega)) | ((with_reducible refine Below.setCell ?_ ?_ _); rotate_left; focus ((try simp) <;> omega)) | ((with_reducible refine Below.trans ?_ (Below.mono (by assumption) ?_)); rotate_left; focus ((try simp) <;> omega))))⟩
  rw [hs] at hfe0
  have hfe := Lib.hid hfe0
  clear hfe0
  rcases ht : shortB x with _ | _
  · rw [ht] at hsh0
    have hsh := Lib.hid hsh0
    clear hsh0 hr hx
    replace hG := Lib.hid hG
    replace hs := Lib.hid hs
    replace ht := Lib.hid ht
    go_enter Tryz.func3, Tryz.ntmps3
    go_wp2_with (first | (go_at_call 8; go_must (refine (hfe.out _ (by repeat (first | (with_reducible exact Below.refl _ _) | (with_reducible refine Below.drew ?_) | (with_reducible refine below_drewN ?_ _) | ((with_reducible refine Below.alloc ?_ ?_ _); rotate_left; focus ((try simp) <;> omega)) | ((with_reducible refine Below.setCell ?_ ?_ _); rotate_left; focus ((try simp) <;> omega)) | ((with_reducible refine Below.trans ?_ (Below.mono (by assumption) ?_)); rotate_left; focus ((try simp) <;> omega))))).mono ?_; rintro e w1 ⟨rfl, hb1⟩; have hz1 := hb1.size; (try simp at hz1); obtain ⟨hu1, hv1⟩ := blk_at hb1 w.heap.size (by (try simp) <;> omega))) | (go_at_call 9; go_must (refine (hsh.out _ (by repeat (first | (with_reducible exact Below.refl _ _) | (with_reducible refine Below.drew ?_) | (with_reducible refine below_drewN ?_ _) | ((with_reducible refine Below.alloc ?_ ?_ _); rotate_left; focus ((try simp) <;> omega)) | ((with_reducible refine Below.setCell ?_ ?_ _); rotate_left; focus ((try simp) <;> omega)) | ((with_reducible refine Below.trans ?_ (Below.mono (by assumption) ?_)); rotate_left; focus ((try simp) <;> omega))))).mono ?_; rintro e w2 ⟨rfl, hb2⟩; have hz2 := hb2.size; (try simp at hz2); obtain ⟨hu2, hv2⟩ := blk_at hb2 w.heap.size (by (try simp) <;> omega))) | (go_at_call 10; go_must (refine (awake_any _ (hG.out.keep (by repeat (first | (with_reducible exact Below.refl _ _) | (with_reducible refine Below.drew ?_) | (with_reducible refine below_drewN ?_ _) | ((with_reducible refine Below.alloc ?_ ?_ _); rotate_left; focus ((try simp) <;> omega)) | ((with_reducible refine Below.setCell ?_ ?_ _); rotate_left; focus ((try simp) <;> omega)) | ((with_reducible refine Below.trans ?_ (Below.mono (by assumption) ?_)); rotate_left; focus ((try simp) <;> omega)))))).mono ?_; rintro e w9 ⟨rfl, hb9⟩; have hz9 := hb9.size)))
    go_ret
    exact ⟨rfl, (by repeat (first | (with_reducible exact Below.refl _ _) | (with_reducible refine Below.drew ?_) | (with_reducible refine below_drewN ?_ _) | ((with_reducible refine Below.alloc ?_ ?_ _); rotate_left; focus ((try simp) <;> omega)) | ((with_reducible refine Below.setCell ?_ ?_ _); rotate_left; focus ((try simp) <;> omega)) | ((with_reducible refine Below.trans ?_ (Below.mono (by assumption) ?_)); rotate_left; focus ((try simp) <;> omega))))⟩
  rw [ht] at hsh0
  have hsh := Lib.hid hsh0
  clear hsh0
  obtain ⟨hm, _⟩ := few_mildL hs
  obtain ⟨hmx, _⟩ := short_mild ht
  obtain ⟨E, hE⟩ : ∃ E, lnkErr (l.map Lkr.h) x.h = E := ⟨_, rfl⟩
  have had : Hid (∀ W, Below w.heap.size w W → Calls Tryz.prog 11 #[.slice A l.length c, .agg #[.string x.run.1, .string x.job.1, .int .i64 x.attempt.1, .int .u64 x.spec.1, .slice x.insA x.ins.length x.insC, .string x.name.1, .int .u64 x.digest.1, .int .i64 x.size.1]] W fun e w' => ∃ A' c' l', e = .returned (.tuple #[.slice A' l'.length c', .int .i64 E]) ∧ RwL w' w'.heap.size A' l' ∧ l'.map Lkr.h = lnkAdd (l.map Lkr.h) x.h ∧ Below W.heap.size W w') := Lib.hid fun W hb => by
    have h := add_any A c l x W ((hr.below hb (Nat.le_refl _)).more hb.size) ((hx.below hb (Nat.le_refl _)).more hb.size) hm hmx (hG.keep hb)
    rw [hE] at h
    exact h.mono fun e w' ⟨A', c', l', h1, h2, h3, h4⟩ => ⟨A', c', l', h1, h2.reads, h3, h4⟩
  have hra : Hid (∀ W, Below w.heap.size w W → Calls Tryz.prog 12 #[.slice A l.length c, .agg #[.string x.run.1, .string x.job.1, .int .i64 x.attempt.1, .int .u64 x.spec.1, .slice x.insA x.ins.length x.insC, .string x.name.1, .int .u64 x.digest.1, .int .i64 x.size.1]] W fun e w' => ∃ A' c' l', e = .returned (.tuple #[.slice A' l'.length c', .int .i64 E]) ∧ RwL w' w'.heap.size A' l' ∧ l'.map Lkr.h = lnkAdd (l.map Lkr.h) x.h ∧ Below W.heap.size W w') := Lib.hid fun W hb => by
    have h := radd_any A c l x W ((hr.below hb (Nat.le_refl _)).more hb.size) hlc ((hx.below hb (Nat.le_refl _)).more hb.size) hm hmx
    rw [hE] at h
    exact h.mono fun e w' ⟨A', c', l', h1, h2, _, h3, h4⟩ => ⟨A', c', l', h1, h2, h3, h4⟩
  have hml : Hid (∀ l' : List Lkr, l'.map Lkr.h = lnkAdd (l.map Lkr.h) x.h → MildL l') := Lib.hid fun l' h => by
    have hl : l'.length ≤ l.length + 1 := by
      have := congrArg List.length h
      rw [List.length_map] at this
      rw [this]
      unfold lnkAdd
      split <;> simp
    refine ⟨by have := hm.len; have := (few_mildL hs).2; omega, fun y hy => ?_⟩
    have h1 : y.h ∈ lnkAdd (l.map Lkr.h) x.h := by rw [← h]; exact List.mem_map.2 ⟨y, hy, rfl⟩
    have h2 : y.h ∈ l.map Lkr.h ∨ y.h = x.h := by
      unfold lnkAdd at h1
      split at h1
      · exact .inl h1
      · rcases List.mem_append.1 h1 with h3 | h3
        · exact .inl h3
        · exact .inr (List.mem_singleton.1 h3)
    rcases h2 with h2 | h2
    · obtain ⟨z, hz, e⟩ := List.mem_map.1 h2
      exact mild_h e.symm (hm.each z hz)
    · exact mild_h h2 hmx
  clear hr hx hm hmx
  have hee : (E == E) = true := by simp
  replace hG := Lib.hid hG
  replace hs := Lib.hid hs
  replace ht := Lib.hid ht
  replace hE := Lib.hid hE
  go_enter Tryz.func3, Tryz.ntmps3
  go_wp2_with (first
    | (go_at_call 8; go_must (refine (hfe.out _ (by repeat (first | (with_reducible exact Below.refl _ _) | (with_reducible refine Below.drew ?_) | (with_reducible refine below_drewN ?_ _) | ((with_reducible refine Below.alloc ?_ ?_ _); rotate_left; focus ((try simp) <;> omega)) | ((with_reducible refine Below.setCell ?_ ?_ _); rotate_left; focus ((try simp) <;> omega)) | ((with_reducible refine Below.trans ?_ (Below.mono (by assumption) ?_)); rotate_left; focus ((try simp) <;> omega))))).mono ?_; rintro e w1 ⟨rfl, hb1⟩; have hz1 := hb1.size; (try simp at hz1); obtain ⟨hu1, hv1⟩ := blk_at hb1 w.heap.size (by (try simp) <;> omega)))
    | (go_at_call 9; go_must (refine (hsh.out _ (by repeat (first | (with_reducible exact Below.refl _ _) | (with_reducible refine Below.drew ?_) | (with_reducible refine below_drewN ?_ _) | ((with_reducible refine Below.alloc ?_ ?_ _); rotate_left; focus ((try simp) <;> omega)) | ((with_reducible refine Below.setCell ?_ ?_ _); rotate_left; focus ((try simp) <;> omega)) | ((with_reducible refine Below.trans ?_ (Below.mono (by assumption) ?_)); rotate_left; focus ((try simp) <;> omega))))).mono ?_; rintro e w2 ⟨rfl, hb2⟩; have hz2 := hb2.size; (try simp at hz2); obtain ⟨hu2, hv2⟩ := blk_at hb2 w.heap.size (by (try simp) <;> omega)))
    | (go_at_call 11; go_must (refine (had.out _ (by repeat (first | (with_reducible exact Below.refl _ _) | (with_reducible refine Below.drew ?_) | (with_reducible refine below_drewN ?_ _) | ((with_reducible refine Below.alloc ?_ ?_ _); rotate_left; focus ((try simp) <;> omega)) | ((with_reducible refine Below.setCell ?_ ?_ _); rotate_left; focus ((try simp) <;> omega)) | ((with_reducible refine Below.trans ?_ (Below.mono (by assumption) ?_)); rotate_left; focus ((try simp) <;> omega))))).mono ?_; rintro e w3 ⟨A3, c3, l3, rfl, hr3, hm3, hb3⟩; have hz3 := hb3.size; obtain ⟨hu3, hv3⟩ := blk_at hb3 w.heap.size (by (try simp) <;> omega); replace hr3 := Lib.hid hr3; replace hm3 := Lib.hid hm3))
    | (go_at_call 12; go_must (refine (hra.out _ (by repeat (first | (with_reducible exact Below.refl _ _) | (with_reducible refine Below.drew ?_) | (with_reducible refine below_drewN ?_ _) | ((with_reducible refine Below.alloc ?_ ?_ _); rotate_left; focus ((try simp) <;> omega)) | ((with_reducible refine Below.setCell ?_ ?_ _); rotate_left; focus ((try simp) <;> omega)) | ((with_reducible refine Below.trans ?_ (Below.mono (by assumption) ?_)); rotate_left; focus ((try simp) <;> omega))))).mono ?_; rintro e w4 ⟨A4, c4, l4, rfl, hr4, hm4, hb4⟩; have hz4 := hb4.size; replace hr4 := Lib.hid hr4; replace hm4 := Lib.hid hm4))
    | (go_at_call 13; go_must (refine (samelinks_eq A3 A4 c3 c4 l3 l4 _ ((hr3.out.below hb4 (by omega)).more hb4.size) hr4.out (hm3.out.trans hm4.out.symm) (hml.out _ hm3.out)).mono ?_; rintro e w5 ⟨rfl, hb5⟩; have hz5 := hb5.size))
    | (go_at_call 10; go_must (refine (awake_any _ (hG.out.keep (by repeat (first | (with_reducible exact Below.refl _ _) | (with_reducible refine Below.drew ?_) | (with_reducible refine below_drewN ?_ _) | ((with_reducible refine Below.alloc ?_ ?_ _); rotate_left; focus ((try simp) <;> omega)) | ((with_reducible refine Below.setCell ?_ ?_ _); rotate_left; focus ((try simp) <;> omega)) | ((with_reducible refine Below.trans ?_ (Below.mono (by assumption) ?_)); rotate_left; focus ((try simp) <;> omega)))))).mono ?_; rintro e w9 ⟨rfl, hb9⟩; have hz9 := hb9.size)))
  go_ret
  exact ⟨rfl, (by repeat (first | (with_reducible exact Below.refl _ _) | (with_reducible refine Below.drew ?_) | (with_reducible refine below_drewN ?_ _) | ((with_reducible refine Below.alloc ?_ ?_ _); rotate_left; focus ((try simp) <;> omega)) | ((with_reducible refine Below.setCell ?_ ?_ _); rotate_left; focus ((try simp) <;> omega)) | ((with_reducible refine Below.trans ?_ (Below.mono (by assumption) ?_)); rotate_left; focus ((try simp) <;> omega))))⟩

/-- A world for the witness: the settled one, the listed tables holding what their initialisers lay. -/
noncomputable def laidWorld (os : Os) : World :=
  { World.holding Tryz.prog os ⟨#[], #[], []⟩ with heap := layAll Tryz.prog Rows.provenanceAddsRow.laid (World.holding Tryz.prog os ⟨#[], #[], []⟩).heap }
theorem laid_met (os : Os) : laidMet Tryz.prog Rows.provenanceAddsRow.laid ((laidWorld os).forCall (fun _ _ => 0) ⟨#[], #[.slice none 0 0, .agg #[.string ByteArray.empty, .string ByteArray.empty, .int .i64 0, .int .u64 0, .slice none 0 0, .string ByteArray.empty, .int .u64 0, .int .i64 0]], []⟩).memory :=
  laidMet_of_run' 8 (by kernel_rfl) (by kernel_rfl)
theorem reads (os : Os) {H : Type} (enc : TypeId × Value → H) : ∃ places, DataW.whole enc Tryz.prog ((laidWorld os).forCall (fun _ _ => 0) ⟨#[], #[.slice none 0 0, .agg #[.string ByteArray.empty, .string ByteArray.empty, .int .i64 0, .int .u64 0, .slice none 0 0, .string ByteArray.empty, .int .u64 0, .int .i64 0]], []⟩).memory Tryz.f3.params.toList Rows.provenanceAddsSpec.vars false (#[.slice none 0 0, .agg #[.string ByteArray.empty, .string ByteArray.empty, .int .i64 0, .int .u64 0, .slice none 0 0, .string ByteArray.empty, .int .u64 0, .int .i64 0]] : Array Value).toList 8 = some ([.nil, .agg [.agg [.lit (.string []), .lit (.string [])], .lit (.int .i64 0), .lit (.int .u64 0), .nil, .agg [.lit (.string []), .lit (.int .u64 0), .lit (.int .i64 0)]]], [], places) :=
  ⟨[], by kernel_rfl⟩

set_option maxRecDepth 100000 in
theorem contract (H : Type) (enc : TypeId × Value → H) (W : World) (base : Nat) (args : Array Value) (ds gs : List (DataW H)) (before : List MemPlace)
    (hval : ∀ (j : Nat) t v, Tryz.f3.params[j]? = some t → args[j]? = some v → Value.okWide Tryz.prog W .any base t v)
    (hW : DataW.Whole enc Tryz.prog Tryz.f3.params.toList Rows.provenanceAddsSpec.vars false W args.toList ds gs before) (hsh : W.ShapedOpen Tryz.prog) :
    Calls Tryz.prog 3 args W fun e W' => ∃ v, e = .returned v ∧ Rows.provenanceAddsSpec.post enc Tryz.prog Tryz.f3 false true false false W args v W' := by
  have hG : Glob W := cell_of_shapedOpen_int (P := Tryz.prog) (g := 0) (t := 3) (zero := #[.int .i64 0]) hsh (of_decide_eq_true (by kernel_rfl)) (by kernel_rfl) rfl (by kernel_rfl) (by kernel_rfl) Tryz.underlying3
  have hW' := hW
  obtain ⟨p, q, hA0, hV, rfl, hfz, hnd⟩ := hW
  have hA : DataW.TrodAll enc Tryz.prog W 0 (fun _ => true) true Tryz.f3.params.toList args.toList ds p := hA0
  have hA1 := hA
  rw [Tryz.params3] at hA hval
  obtain ⟨rfl, rfl⟩ := trodVars_none hV
  simp only [List.append_nil] at hW'
  have hcall : Calls Tryz.prog 3 args W fun e w' => e = .returned (.bool true) ∧ Below W.heap.size W w' := by
    clear hA0 hV hfz hnd
    obtain ⟨v0, vs0, d0, ds0, p0, q0, hargs, rfl, rfl, h0, r0⟩ := trodAll_cons hA
    obtain ⟨v1, vs1, d1, ds1, p1, q1, hargs1, rfl, rfl, h1, r1⟩ := trodAll_cons r0
    obtain ⟨rfl, rfl, rfl⟩ := trodAll_nil r1
    obtain rfl : args = #[v0, v1] := by cases args; simp_all
    obtain ⟨A, l, c, rfl, hlc, hcm, hrow, hlab⟩ := open_rowsq (Q := fun x : Lkr => LabLkr W W.heap.size x) lkrE_len (by omega) Tryz.underlying22 (by kernel_rfl) (fun fuel cs x h => lkrE_of fuel cs x h) (hval 0 22 v0 rfl rfl) h0
    obtain ⟨x, rfl, hx⟩ := open_valq (Q := fun x : Lkr => LabLkr W W.heap.size x) Tryz.underlying31 (fun fuel cs x h => lkrE_of fuel cs x h) (hval 1 31 v1 rfl rfl) h1
    exact walk A c l x W ⟨hrow, hlab⟩ hlc hcm hx hG
  have hds : ds.length = 2 := (trodAll_length hA).1
  refine hcall.mono fun e W' ⟨he, hb⟩ => ?_
  subst he
  refine ⟨_, rfl, law_post hW' rfl hA1 (by kernel_rfl) laidOut Tryz.underlying4 (by kernel_rfl) ?_ hb⟩
  match ds, hds with
  | [_, _], _ => rfl

set_option maxRecDepth 100000 in
theorem lifted (os : Os) (started : os.Started) (H : Type) (enc : TypeId × Value → H) (F : Stop.Interp) :
    ReturnsInHanded {} Tryz.checked os 3 .any ((OpenSpec.ofChange Rows.provenanceAddsSpec).preRow enc Tryz.prog Tryz.f3 Rows.provenanceAddsRow.domain false Rows.provenanceAddsRow.laid) (((OpenSpec.ofChange Rows.provenanceAddsSpec).at F).post enc Tryz.prog Tryz.f3 false true false false) := by
  obtain ⟨places, hx⟩ := reads os enc
  refine returnsInHanded_of_row (C := Tryz.checked) (s := OpenSpec.ofChange Rows.provenanceAddsSpec) own started (by kernel_rfl) Tryz.func3
    (witness_row_at (enc := enc) (C := Tryz.checked) false (laidWorld os) #[.slice none 0 0, .agg #[.string ByteArray.empty, .string ByteArray.empty, .int .i64 0, .int .u64 0, .slice none 0 0, .string ByteArray.empty, .int .u64 0, .int .i64 0]] rfl (by kernel_rfl) (by kernel_rfl) (by kernel_rfl)
      (OpenSpec.preRow_of_cond 8 hx (by kernel_rfl) (fun k hk => by cases hk) (by kernel_rfl) (laid_met os))) ?_
  intro W base args ds gs before hval hW _ _ _ _ hsh _
  exact contract H enc W base args ds gs before hval hW hsh

theorem said : Rows.ProvenanceAddsSaid :=
  OpenClaim.holds_of_cond 3 Tryz.f3 rfl rfl rfl rfl rfl rfl rfl ⟨rfl, rfl, rfl, rfl, rfl⟩ rfl rfl rfl rfl rfl (by kernel_rfl) Tryz.func3 (by kernel_rfl)
    (of_decide_eq_true (by kernel_rfl)) (by unfold Func.isWrapper; first | (rw [if_pos (by decide +kernel)]; kernel_rfl) | (rw [if_neg (by decide +kernel)]; exact ⟨rfl, rfl⟩))
    (fun os started H enc _ F => by rw [OpenClaim.pre_eq_preRow]; exact lifted os started H enc F)

theorem plain (f : FuncId) (fn : Func) (hf : Tryz.pinned.checked.prog.funcNamed Rows.provenanceAddsRow.func = some f) (hfn : Tryz.pinned.checked.prog.funcs[f]? = some fn) :
    false = Tryz.pinned.checked.prog.looks [] ∧ ∀ (j : Nat) t, fn.params[j]? = some t → Tryz.pinned.checked.prog.wantsStandIn t = false := by
  obtain rfl : f = 3 := Option.some.inj ((show Tryz.prog.funcNamed Rows.provenanceAddsRow.func = some 3 by kernel_rfl).symm.trans hf) |>.symm
  obtain rfl : fn = Tryz.f3 := (Option.some.inj (Tryz.func3.symm.trans hfn)).symm
  refine ⟨by kernel_rfl, fun j t ht => ?_⟩
  have hall : (Tryz.f3.params.toList.all fun t => !(Tryz.pinned.checked.prog.wantsStandIn t)) = true := by kernel_rfl
  have hm : t ∈ Tryz.f3.params.toList := Array.mem_toList_iff.2 (Array.mem_of_getElem? ht)
  simpa using List.all_eq_true.1 hall t hm

theorem proved : Rows.ProvenanceAddsCardSaid :=
  Claim7.holds_tied_plain_at .later [] _ _ _ _ said (fun _ h => by cases h) (by kernel_rfl) (fun _ h => by cases h) provenanceAdds_row_tie rfl ⟨rfl, rfl⟩ (by kernel_rfl) rfl plain (by kernel_rfl)
#print axioms proved
end Go.Proofs.YtjkijknjngiieaaGreatDoor.provenanceAdds
