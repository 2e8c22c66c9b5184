/-
  ProvenanceFull: for every number, a list of MaxArtifacts links takes no more, and one of one or two fewer does; the example holds. No condition.
-/
import Derived.Test.YtjkijknjngiieaaDoorPrx10
import Derived.Test.YtjkijknjngiieaaDoorBase1
import Derived.Test.YtjkijknjngiieaaDoorLayTab
import Derived.Laws.MakeOwn




namespace Go.Proofs.YtjkijknjngiieaaDoor.provenanceFull
open Go.ChangeShapes Go.WideShapes Go.ChangeAt Go.RowKit Go.Joins
theorem own : ownKnob Tryd.prog.godebug = none := by kernel_rfl
theorem laidOut : laidOutB Tryd.prog = true := by kernel_rfl
open Go.RowKit

def zV : Value := .agg #[.string ByteArray.empty, .string ByteArray.empty, .int .i64 0, .int .u64 0, .slice none 0 0, .string ByteArray.empty, .int .u64 0, .int .i64 0]
theorem zV_cells : zV.cells = (lkrE zeroL).toArray := rfl
theorem made_rows (m : Nat) (w : World) : RwL (w.alloc (.cells (madeCells zV.cells (m * 8)) 35)) (w.heap.size + 1) (some ⟨w.heap.size, 0, none⟩) (List.replicate m zeroL) := by
  refine ⟨fun _ => ⟨w.heap.size, 0, rfl, by omega, fun i x hx j u hu => ?_⟩, fun x hx => ?_⟩
  · obtain ⟨hi, e⟩ := List.getElem?_eq_some_iff.1 hx
    have hi' : i < m := by simpa using hi
    obtain rfl : x = zeroL := by rw [← e]; simp
    have hj : j < 8 := by have := (List.getElem?_eq_some_iff.1 hu).1; rwa [lkrE_len] at this
    rw [Nat.zero_add]
    refine box_cells w _ 35 (i * 8 + j) u ?_
    rw [Array.getElem?_toList]
    unfold madeCells
    rw [Array.getElem?_map, Array.getElem?_range, if_pos (by omega), Option.map_some, zV_cells]
    simp only [List.size_toArray, lkrE_len]
    rw [show (i * 8 + j) % 8 = j by omega, getElem!_def, List.getElem?_toArray, hu]
  · obtain rfl := List.eq_of_mem_replicate hx
    exact ⟨Nat.le_refl _, Nat.zero_le _, Rw.nil⟩
def jF : Lkr := madeL sBuild sBin none 0 []
theorem has_made (m : Nat) (nm : Str) : hasL ((List.replicate m zeroL).map Lkr.h) rS nm = false := by
  rcases h : hasL ((List.replicate m zeroL).map Lkr.h) rS nm with _ | _
  · rfl
  · exfalso
    rw [List.map_replicate] at h
    unfold hasL at h
    rw [List.any_eq_true] at h
    obtain ⟨x, hx, e⟩ := h
    obtain rfl := List.eq_of_mem_replicate hx
    exact absurd (isL_iff.1 e).1 (by decide +kernel)
theorem full_E (m : Nat) : lnkErr ((List.replicate m zeroL).map Lkr.h) jF.h = if 4096 ≤ m then 21 else 0 := by
  have h1 : rightB jF.h = true := by decide +kernel
  have h2 : rangeB jF.h = true := by decide +kernel
  have h3 : ascB jF.h.ins = true := by decide +kernel
  have h4 : hasL ((List.replicate m zeroL).map Lkr.h) jF.h.run (nameL jF.h) = false := has_made m _
  have h5 : insErr ((List.replicate m zeroL).map Lkr.h) jF.h.run jF.h.ins = 0 := rfl
  have hl : ((List.replicate m zeroL).map Lkr.h).length = m := by simp
  by_cases h : 4096 ≤ m
  · rw [if_pos h]; exact lerr_21 h1 h2 h3 h4 h5 (by rw [hl]; exact h)
  · rw [if_neg h]; exact lerr_0 h1 h2 h3 h4 h5 (by rw [hl]; exact h)
theorem mild_z : MildK zeroL := ⟨by show (0 : Nat) < _; omega, by show (0 : Nat) < _; omega, by show (0 : Nat) < _; omega, Nat.zero_le _, fun y hy => absurd hy List.not_mem_nil⟩
theorem mild_rep {m : Nat} (h : m ≤ 5000) : MildL (List.replicate m zeroL) := ⟨by rw [List.length_replicate]; omega, fun x hx => by
  obtain rfl := List.eq_of_mem_replicate hx
  exact mild_z⟩
theorem add_made (m : Nat) (hm : m ≤ 5000) (w W : World) (hG : Glob W) (hb : Below (w.heap.size + 1) (w.alloc (.cells (madeCells zV.cells (m * 8)) 35)) W) : Calls Tryd.prog 5 #[.slice (some ⟨w.heap.size, 0, none⟩) m m, .agg #[.string ⟨#[114]⟩, .string ⟨#[98, 117, 105, 108, 100]⟩, .int .i64 1, .int .u64 0, .slice none 0 0, .string ⟨#[98, 105, 110]⟩, .int .u64 5, .int .i64 0]] W fun e w' => ∃ A' c' l', e = .returned (.tuple #[.slice A' l'.length c', .int .i64 (lnkErr ((List.replicate m zeroL).map Lkr.h) jF.h)]) ∧ RwL w' w'.heap.size A' l' ∧ l'.map Lkr.h = lnkAdd ((List.replicate m zeroL).map Lkr.h) jF.h ∧ Below W.heap.size W w' := by
  have hz := hb.size
  simp at hz
  have h := add_any (some ⟨w.heap.size, 0, none⟩) m (List.replicate m zeroL) jF W (((made_rows m w).below hb (Nat.le_refl _)).more (by omega)) ⟨Nat.le_refl _, Nat.zero_le _, Rw.nil⟩ (mild_rep hm) (mild_made (by decide) (by decide) (by simp) (fun y hy => absurd hy List.not_mem_nil)) hG
  rw [List.length_replicate] at h
  exact h.mono fun e w' ⟨A', c', l', h1, h2, h3, h4⟩ => ⟨A', c', l', h1, h2.reads, h3, h4⟩
theorem add_full (m : Nat) (hm : m = 4096) (w W : World) (hG : Glob W) (hb : Below (w.heap.size + 1) (w.alloc (.cells (madeCells zV.cells (m * 8)) 35)) W) : Calls Tryd.prog 5 #[.slice (some ⟨w.heap.size, 0, none⟩) m m, .agg #[.string ⟨#[114]⟩, .string ⟨#[98, 117, 105, 108, 100]⟩, .int .i64 1, .int .u64 0, .slice none 0 0, .string ⟨#[98, 105, 110]⟩, .int .u64 5, .int .i64 0]] W fun e w' => ∃ A c, e = .returned (.tuple #[.slice A m c, .int .i64 21]) ∧ Below W.heap.size W w' := by
  refine (add_made m (by omega) w W hG hb).mono ?_
  rintro e w1 ⟨A, c, l, rfl, _, hl, hb1⟩
  have hE : lnkErr ((List.replicate m zeroL).map Lkr.h) jF.h = 21 := by rw [full_E, if_pos (by omega)]
  have hlen := congrArg List.length hl
  unfold lnkAdd at hlen
  rw [hE, if_pos (by decide)] at hlen
  simp only [List.length_map, List.length_replicate] at hlen
  exact ⟨A, c, by rw [hlen, hE], hb1⟩
theorem add_ok (m : Nat) (hm : m < 4096) (w W : World) (hG : Glob W) (hb : Below (w.heap.size + 1) (w.alloc (.cells (madeCells zV.cells (m * 8)) 35)) W) : Calls Tryd.prog 5 #[.slice (some ⟨w.heap.size, 0, none⟩) m m, .agg #[.string ⟨#[114]⟩, .string ⟨#[98, 117, 105, 108, 100]⟩, .int .i64 1, .int .u64 0, .slice none 0 0, .string ⟨#[98, 105, 110]⟩, .int .u64 5, .int .i64 0]] W fun e w' => ∃ g o c, e = .returned (.tuple #[.slice (some ⟨g, o, none⟩) (m + 1) c, .int .i64 0]) ∧ g < w'.heap.size ∧ w'.cell? ⟨g, o + m * 8 + 5, none⟩ = some (.string ⟨#[98, 105, 110]⟩) ∧ Below W.heap.size W w' := by
  refine (add_made m (by omega) w W hG hb).mono ?_
  rintro e w1 ⟨A, c, l, rfl, hr, hl, hb1⟩
  have hE : lnkErr ((List.replicate m zeroL).map Lkr.h) jF.h = 0 := by rw [full_E, if_neg (by omega)]
  unfold lnkAdd at hl
  rw [hE, if_neg (by decide)] at hl
  have hlen : l.length = m + 1 := by simpa using congrArg List.length hl
  obtain ⟨g, o, rfl, hg, hc⟩ := hr.row (by omega)
  obtain ⟨x, hx⟩ := get_some (show m < l.length by omega)
  have hxj : x.h = jF.h := by
    have := congrArg (·[m]?) hl
    simp only [List.getElem?_map, hx] at this
    rw [List.getElem?_append_right (by simp)] at this
    simpa using this
  refine ⟨g, o, c, by rw [hlen, hE], hg, ?_, hb1⟩
  rw [hc m x hx 5 (.string x.name.1) rfl]
  have hj : x.h.out.name = jF.h.out.name := by rw [hxj]
  rw [show x.name = jF.name from hj]
  rfl

set_option maxRecDepth 100000 in
set_option maxHeartbeats 4000000 in
theorem walk (n : Int) (hn0 : 0 ≤ n) (hn1 : n ≤ 255) (w : World) (hG : Glob w) :
    Calls Tryd.prog 3 #[.int .u8 n] w fun e w' => e = .returned (.bool true) ∧ Below w.heap.size w w' := by
  by_cases h3 : n > 2
  · replace hG := Lib.hid hG
    go_enter Tryd.func3, Tryd.ntmps3
    go_wp2_with (first
      | (go_at_call 4; go_must (refine (awake_any _ (hG.out.keep (by repeat (first | (with_reducible exact Below.refl _ _) | (with_reducible refine Below.drew ?_) | (with_reducible refine below_drewN ?_ _) | ((with_reducible refine Below.alloc ?_ ?_ _); rotate_left; focus ((try simp) <;> omega)) | ((with_reducible refine Below.setCell ?_ ?_ _); rotate_left; focus ((try simp) <;> omega)) | ((with_reducible refine Below.trans ?_ (Below.mono (by assumption) ?_)); rotate_left; focus ((try simp) <;> omega)))))).mono ?_; rintro e w9 ⟨rfl, hb9⟩; have hz9 := hb9.size)))
    go_ret
    exact ⟨rfl, (by repeat (first | (with_reducible exact Below.refl _ _) | (with_reducible refine Below.drew ?_) | (with_reducible refine below_drewN ?_ _) | ((with_reducible refine Below.alloc ?_ ?_ _); rotate_left; focus ((try simp) <;> omega)) | ((with_reducible refine Below.setCell ?_ ?_ _); rotate_left; focus ((try simp) <;> omega)) | ((with_reducible refine Below.trans ?_ (Below.mono (by assumption) ?_)); rotate_left; focus ((try simp) <;> omega))))⟩
  · obtain ⟨inf, hi0, iz0, iz1, iz2⟩ := info_parts lkr_info
    obtain ⟨m, hm⟩ : ∃ m : Nat, 4096 - n = (m : Int) := ⟨(4096 - n).toNat, by omega⟩
    have hmk := run_make (P := Tryd.prog) w 23 35 inf zV Tryd.underlying23 hi0 iz0 .i64 .i64 (m : Int) (m : Int) (by omega) (Int.le_refl _) (by rw [iz2]; omega) (by omega)
    rw [iz1, Int.toNat_natCast] at hmk
    have hb0 : Below (w.heap.size + 1) (w.alloc (.cells (madeCells zV.cells (m * 8)) 35)) (w.alloc (.cells (madeCells zV.cells (m * 8)) 35)) := Below.refl _ _
    have hb00 : Below w.heap.size w (w.alloc (.cells (madeCells zV.cells (m * 8)) 35)) := (Below.refl _ _).alloc (Nat.le_refl _) _
    have hz0 : (w.alloc (.cells (madeCells zV.cells (m * 8)) 35)).heap.size = w.heap.size + 1 := by simp
    have h1 := fun hm W hG hb => add_full m hm w W hG hb
    have h2 := fun hm W hG hb => add_ok m hm w W hG hb
    generalize (w.alloc (.cells (madeCells zV.cells (m * 8)) 35)) = W0 at hmk hb0 hb00 hz0 h1 h2
    have hz1 := Nat.le_of_eq hz0
    have hz2 := Nat.le_of_eq hz0.symm
    replace hz0 := Lib.hid hz0
    replace h1 := Lib.hid h1
    replace h2 := Lib.hid h2
    replace hG := Lib.hid hG
    have hmm : (m : Int) < (m : Int) + 1 := by omega
    by_cases h0 : n = 0
    · have h0b : (n == 0) = true := by rw [h0]; rfl
      have hmv : m = 4096 := by omega
      replace h0 := Lib.hid h0
      replace hmv := Lib.hid hmv
      go_enter Tryd.func3, Tryd.ntmps3
      go_wp2_with (first
        | (go_at_call 6; go_must (refine (made_any sBuild sBin _ _ _ _).mono ?_; rintro e w7 ⟨rfl, hb7⟩; have hz7 := hb7.size; (try simp at hz7)))
        | (go_at_call 5; go_must (refine (h1.out hmv.out _ (hG.out.keep (by repeat (first | (with_reducible exact Below.refl _ _) | (with_reducible refine Below.drew ?_) | (with_reducible refine below_drewN ?_ _) | ((with_reducible refine Below.alloc ?_ ?_ _); rotate_left; focus ((try simp) <;> omega)) | ((with_reducible refine Below.setCell ?_ ?_ _); rotate_left; focus ((try simp) <;> omega)) | ((with_reducible refine Below.trans ?_ (Below.mono (by assumption) ?_)); rotate_left; focus ((try simp) <;> omega))))) (hb0.trans (hb7.mono (by omega)))).mono ?_; rintro e w1 ⟨A1, c1, rfl, hb1⟩; have hz3 := hb1.size))
        | (go_at_call 4; go_must (refine (awake_any _ (hG.out.keep (by repeat (first | (with_reducible exact Below.refl _ _) | (with_reducible refine Below.drew ?_) | (with_reducible refine below_drewN ?_ _) | ((with_reducible refine Below.alloc ?_ ?_ _); rotate_left; focus ((try simp) <;> omega)) | ((with_reducible refine Below.setCell ?_ ?_ _); rotate_left; focus ((try simp) <;> omega)) | ((with_reducible refine Below.trans ?_ (Below.mono (by assumption) ?_)); rotate_left; focus ((try simp) <;> omega)))))).mono ?_; rintro e w9 ⟨rfl, hb9⟩; have hz9 := hb9.size)))
      go_ret
      exact ⟨rfl, (by repeat (first | (with_reducible exact Below.refl _ _) | (with_reducible refine Below.drew ?_) | (with_reducible refine below_drewN ?_ _) | ((with_reducible refine Below.alloc ?_ ?_ _); rotate_left; focus ((try simp) <;> omega)) | ((with_reducible refine Below.setCell ?_ ?_ _); rotate_left; focus ((try simp) <;> omega)) | ((with_reducible refine Below.trans ?_ (Below.mono (by assumption) ?_)); rotate_left; focus ((try simp) <;> omega))))⟩
    · have h0b : (n == 0) = false := by rw [beq_eq_false_iff_ne]; exact h0
      have hmv : m < 4096 := by omega
      replace h0 := Lib.hid h0
      replace hmv := Lib.hid hmv
      go_enter Tryd.func3, Tryd.ntmps3
      go_wp2_with (first
        | (go_at_call 6; go_must (refine (made_any sBuild sBin _ _ _ _).mono ?_; rintro e w7 ⟨rfl, hb7⟩; have hz7 := hb7.size; (try simp at hz7)))
        | (go_at_call 5; go_must (refine (h2.out hmv.out _ (hG.out.keep (by repeat (first | (with_reducible exact Below.refl _ _) | (with_reducible refine Below.drew ?_) | (with_reducible refine below_drewN ?_ _) | ((with_reducible refine Below.alloc ?_ ?_ _); rotate_left; focus ((try simp) <;> omega)) | ((with_reducible refine Below.setCell ?_ ?_ _); rotate_left; focus ((try simp) <;> omega)) | ((with_reducible refine Below.trans ?_ (Below.mono (by assumption) ?_)); rotate_left; focus ((try simp) <;> omega))))) (hb0.trans (hb7.mono (by omega)))).mono ?_; rintro e w1 ⟨g1, o1, c1, rfl, hg1, hq1, hb1⟩; have hz3 := hb1.size))
        | (go_at_call 4; go_must (refine (awake_any _ (hG.out.keep (by repeat (first | (with_reducible exact Below.refl _ _) | (with_reducible refine Below.drew ?_) | (with_reducible refine below_drewN ?_ _) | ((with_reducible refine Below.alloc ?_ ?_ _); rotate_left; focus ((try simp) <;> omega)) | ((with_reducible refine Below.setCell ?_ ?_ _); rotate_left; focus ((try simp) <;> omega)) | ((with_reducible refine Below.trans ?_ (Below.mono (by assumption) ?_)); rotate_left; focus ((try simp) <;> omega)))))).mono ?_; rintro e w9 ⟨rfl, hb9⟩; have hz9 := hb9.size)))
      go_ret
      exact ⟨rfl, (by repeat (first | (with_reducible exact Below.refl _ _) | (with_reducible refine Below.drew ?_) | (with_reducible refine below_drewN ?_ _) | ((with_reducible refine Below.alloc ?_ ?_ _); rotate_left; focus ((try simp) <;> omega)) | ((with_reducible refine Below.setCell ?_ ?_ _); rotate_left; focus ((try simp) <;> omega)) | ((with_reducible refine Below.trans ?_ (Below.mono (by assumption) ?_)); rotate_left; focus ((try simp) <;> omega))))⟩

/-- A world for the witness: the settled one, the listed tables holding what their initialisers lay. -/
noncomputable def laidWorld (os : Os) : World :=
  { World.holding Tryd.prog os ⟨#[], #[], []⟩ with heap := layAll Tryd.prog Rows.provenanceFullRow.laid (World.holding Tryd.prog os ⟨#[], #[], []⟩).heap }
theorem laid_met (os : Os) : laidMet Tryd.prog Rows.provenanceFullRow.laid ((laidWorld os).forCall (fun _ _ => 0) ⟨#[], #[.int .u8 0], []⟩).memory :=
  laidMet_of_run' 8 (by kernel_rfl) (by kernel_rfl)
theorem reads (os : Os) {H : Type} (enc : TypeId × Value → H) : ∃ places, DataW.whole enc Tryd.prog ((laidWorld os).forCall (fun _ _ => 0) ⟨#[], #[.int .u8 0], []⟩).memory Tryd.f3.params.toList Rows.provenanceFullSpec.vars false (#[.int .u8 0] : Array Value).toList 8 = some ([.lit (.int .u8 0)], [], places) :=
  ⟨[], by kernel_rfl⟩

set_option maxRecDepth 100000 in
theorem contract (H : Type) (enc : TypeId × Value → H) (W : World) (base : Nat) (args : Array Value) (ds gs : List (DataW H)) (before : List MemPlace)
    (hval : ∀ (j : Nat) t v, Tryd.f3.params[j]? = some t → args[j]? = some v → Value.okWide Tryd.prog W .any base t v)
    (hW : DataW.Whole enc Tryd.prog Tryd.f3.params.toList Rows.provenanceFullSpec.vars false W args.toList ds gs before) (hsh : W.ShapedOpen Tryd.prog) :
    Calls Tryd.prog 3 args W fun e W' => ∃ v, e = .returned v ∧ Rows.provenanceFullSpec.post enc Tryd.prog Tryd.f3 false true false false W args v W' := by
  have hG : Glob W := cell_of_shapedOpen_int (P := Tryd.prog) (g := 0) (t := 3) (zero := #[.int .i64 0]) hsh (of_decide_eq_true (by kernel_rfl)) (by kernel_rfl) rfl (by kernel_rfl) (by kernel_rfl) Tryd.underlying3
  have hW' := hW
  obtain ⟨p, q, hA0, hV, rfl, hfz, hnd⟩ := hW
  have hA : DataW.TrodAll enc Tryd.prog W 0 (fun _ => true) true Tryd.f3.params.toList args.toList ds p := hA0
  have hA1 := hA
  rw [Tryd.params3] at hA hval
  obtain ⟨rfl, rfl⟩ := trodVars_none hV
  simp only [List.append_nil] at hW'
  have hcall : Calls Tryd.prog 3 args W fun e w' => e = .returned (.bool true) ∧ Below W.heap.size W w' := by
    clear hA0 hV hfz hnd
    obtain ⟨v0, vs0, d0, ds0, p0, q0, hargs, rfl, rfl, h0, r0⟩ := trodAll_cons hA
    obtain ⟨rfl, rfl, rfl⟩ := trodAll_nil r0
    obtain rfl : args = #[v0] := by cases args; simp_all
    obtain ⟨a1, rfl, rfl, rfl, w1⟩ := open_int Tryd.underlying5 (hval 0 5 v0 rfl rfl) h0
    have hb : 0 ≤ a1 ∧ a1 ≤ 255 := by simp [Lit.wf, IntKind.min, IntKind.max, IntKind.signed, IntKind.bits] at w1; omega
    exact walk a1 hb.1 hb.2 W hG
  have hds : ds.length = 1 := (trodAll_length hA).1
  refine hcall.mono fun e W' ⟨he, hb⟩ => ?_
  subst he
  refine ⟨_, rfl, law_post hW' rfl hA1 (by kernel_rfl) laidOut Tryd.underlying4 (by kernel_rfl) ?_ hb⟩
  match ds, hds with
  | [_], _ => rfl

set_option maxRecDepth 100000 in
theorem lifted (os : Os) (started : os.Started) (H : Type) (enc : TypeId × Value → H) (F : Stop.Interp) :
    ReturnsInHanded {} Tryd.checked os 3 .any ((OpenSpec.ofChange Rows.provenanceFullSpec).preRow enc Tryd.prog Tryd.f3 Rows.provenanceFullRow.domain false Rows.provenanceFullRow.laid) (((OpenSpec.ofChange Rows.provenanceFullSpec).at F).post enc Tryd.prog Tryd.f3 false true false false) := by
  obtain ⟨places, hx⟩ := reads os enc
  refine returnsInHanded_of_row (C := Tryd.checked) (s := OpenSpec.ofChange Rows.provenanceFullSpec) own started (by kernel_rfl) Tryd.func3
    (witness_row_at (enc := enc) (C := Tryd.checked) false (laidWorld os) #[.int .u8 0] rfl (by kernel_rfl) (by kernel_rfl) (by kernel_rfl)
      (OpenSpec.preRow_of_cond 8 hx (by kernel_rfl) (fun k hk => by cases hk) (by kernel_rfl) (laid_met os))) ?_
  intro W base args ds gs before hval hW _ _ _ _ hsh _
  exact contract H enc W base args ds gs before hval hW hsh

theorem said : Rows.ProvenanceFullSaid :=
  OpenClaim.holds_of_cond 3 Tryd.f3 rfl rfl rfl rfl rfl rfl rfl ⟨rfl, rfl, rfl, rfl, rfl⟩ rfl rfl rfl rfl rfl (by kernel_rfl) Tryd.func3 (by kernel_rfl)
    (of_decide_eq_true (by kernel_rfl)) (by unfold Func.isWrapper; first | (rw [if_pos (by decide +kernel)]; kernel_rfl) | (rw [if_neg (by decide +kernel)]; exact ⟨rfl, rfl⟩))
    (fun os started H enc _ F => by rw [OpenClaim.pre_eq_preRow]; exact lifted os started H enc F)

theorem plain (f : FuncId) (fn : Func) (hf : Tryd.pinned.checked.prog.funcNamed Rows.provenanceFullRow.func = some f) (hfn : Tryd.pinned.checked.prog.funcs[f]? = some fn) :
    false = Tryd.pinned.checked.prog.looks [] ∧ ∀ (j : Nat) t, fn.params[j]? = some t → Tryd.pinned.checked.prog.wantsStandIn t = false := by
  obtain rfl : f = 3 := Option.some.inj ((show Tryd.prog.funcNamed Rows.provenanceFullRow.func = some 3 by kernel_rfl).symm.trans hf) |>.symm
  obtain rfl : fn = Tryd.f3 := (Option.some.inj (Tryd.func3.symm.trans hfn)).symm
  refine ⟨by kernel_rfl, fun j t ht => ?_⟩
  have hall : (Tryd.f3.params.toList.all fun t => !(Tryd.pinned.checked.prog.wantsStandIn t)) = true := by kernel_rfl
  have hm : t ∈ Tryd.f3.params.toList := Array.mem_toList_iff.2 (Array.mem_of_getElem? ht)
  simpa using List.all_eq_true.1 hall t hm

theorem proved : Rows.ProvenanceFullCardSaid :=
  Claim7.holds_tied_plain_at .later [] _ _ _ _ said (fun _ h => by cases h) (by kernel_rfl) (fun _ h => by cases h) provenanceFull_row_tie rfl ⟨rfl, rfl⟩ (by kernel_rfl) rfl plain (by kernel_rfl)
#print axioms proved
end Go.Proofs.YtjkijknjngiieaaDoor.provenanceFull
