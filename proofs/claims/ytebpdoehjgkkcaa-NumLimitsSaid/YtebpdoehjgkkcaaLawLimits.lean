/-
  NumLimits: for every number, every two bounds and every list of numbers, the limited number and the greatest common divisor are those of the reference, and the examples hold. No condition.
-/
import Derived.Test.YtebpdoehjgkkcaaWalks9
import Derived.Test.YtebpdoehjgkkcaaLawKit
import Derived.Test.YtebpdoehjgkkcaaArrayRead
import Derived.Test.YtebpdoehjgkkcaaSliceRead



namespace Go.Proofs.Ytebpdoehjgkkcaa.numLimits
open Go.ChangeShapes Go.WideShapes Go.ChangeAt Go.RowKit

theorem own : ownKnob Try.prog.godebug = none := by kernel_rfl
theorem laidOut : laidOutB Try.prog = true := by kernel_rfl

theorem limit_left {n lo hi : Int} (w : World) :
    Calls Try.prog 16 #[.int .i64 n, .int .i64 lo, .int .i64 hi] w fun e w' => e = .returned (.int .i64 (limI n lo hi)) ∧ w = w' :=
  (limit_any w).mono fun _ _ h => ⟨h.1, h.2.symm⟩
theorem rlimit_left {n lo hi : Int} (w : World) :
    Calls Try.prog 17 #[.int .i64 n, .int .i64 lo, .int .i64 hi] w fun e w' => e = .returned (.int .i64 (limI n lo hi)) ∧ w = w' :=
  (rlimit_any w).mono fun _ _ h => ⟨h.1, h.2.symm⟩

theorem ints_below {w w' : World} {B : Nat} {A : Option Addr} {n : Nat} {T : Nat → Int} (h : IntsAt w A n T) (hb : Below B w w') (hlt : ∀ g o, 0 < n → A = some ⟨g, o, none⟩ → g < B) : IntsAt w' A n T :=
  ⟨h.1, fun hn => by
    obtain ⟨g, o, e, hc⟩ := h.2 hn
    exact ⟨g, o, e, fun i hi => (hb.cell (p := ⟨g, o + i, none⟩) (hlt g o hn e)).trans (hc i hi)⟩⟩

theorem ints_of_read {H : Type} {enc : TypeId × Value → H} {W : World} {A : Option Addr} {len cap : Nat} (_hle : len ≤ cap)
    (h : 0 < len → ∃ g o fuel, A = some ⟨g, o, none⟩ ∧ g < W.heap.size ∧ ∀ i, i < len → ∃ cs x, cs.length = 1 ∧ (∀ j, j < 1 → W.cell? ⟨g, o + i * 1 + j, none⟩ = cs[j]?) ∧ DataW.trod enc Try.prog W 0 (fun _ => true) true fuel 3 cs = some x) :
    ∃ T : Nat → Int, IntsAt W A len T ∧ ∀ g o, 0 < len → A = some ⟨g, o, none⟩ → g < W.heap.size := by
  by_cases hn : 0 < len
  · obtain ⟨g, o, fuel, rfl, hg, hx⟩ := h hn
    have hx2 : ∀ i, ∃ z : Int, i < len → -9223372036854775808 ≤ z ∧ z ≤ 9223372036854775807 ∧ W.cell? ⟨g, o + i, none⟩ = some (.int .i64 z) := by
      intro i
      by_cases hi : i < len
      · obtain ⟨cs, x, hl, hc, ht⟩ := hx i hi
        match cs, hl with
        | [v], _ =>
          obtain ⟨z, e0, _, wz⟩ := DataW.trod_int Try.underlying3 ht
          have hc0 := hc 0 (by omega)
          simp at e0 hc0
          obtain ⟨b1, b2⟩ := bounds_i64 wz
          exact ⟨z, fun _ => ⟨b1, b2, by rw [hc0, e0]⟩⟩
      · exact ⟨0, fun h => absurd h hi⟩
    refine ⟨fun i => (hx2 i).choose, ⟨fun i hi => ?_, fun _ => ⟨g, o, rfl, fun i hi => ?_⟩⟩, fun g' o' _ e => ?_⟩
    · have := (hx2 i).choose_spec hi; exact ⟨this.1, this.2.1⟩
    · exact ((hx2 i).choose_spec hi).2.2
    · simp at e; omega
  · exact ⟨fun _ => 0, ⟨fun i hi => absurd hi (by omega), fun h => absurd h hn⟩, fun _ _ h => absurd h hn⟩

set_option maxHeartbeats 1000000 in
theorem walk {n lo hi : Int} {A : Option Addr} {len cap : Nat} {T : Nat → Int} (w : World) (_hl : len ≤ 9223372036854775807) (hat : IntsAt w A len T) (hA : ∀ g o, 0 < len → A = some ⟨g, o, none⟩ → g < w.heap.size) :
    Calls Try.prog 8 #[.int .i64 n, .agg #[.int .i64 lo, .int .i64 hi], .slice A len cap] w fun e w' => e = .returned (.bool true) ∧ Below w.heap.size w w' := by
  by_cases h60 : 60 < len
  · go_enter Try.func8, Try.ntmps8
    go_wp2_with fail
    refine (lives_any _).mono ?_
    rintro e w3 ⟨rfl, hb3⟩
    have hz3 := hb3.size
    try simp at hz3
    go_wp2_with fail
    go_ret
    exact ⟨rfl, (by repeat (first | (with_reducible exact Below.refl _ _) | (with_reducible refine Below.drew ?_) | ((with_reducible refine Below.alloc ?_ ?_ _); rotate_left; focus ((try simp) <;> omega)) | ((with_reducible refine Below.setCell ?_ ?_ _); rotate_left; focus ((try simp) <;> omega)) | ((with_reducible refine Below.trans ?_ (Below.mono (by assumption) ?_)); rotate_left; focus ((try simp) <;> omega))))⟩
  · have h61 : len ≤ 9223372036854775807 := by omega
    go_enter Try.func8, Try.ntmps8
    go_wp2_with fail
    go_region_held3 (fun w' => w'.cell? ⟨w.heap.size, 0, none⟩ = some (.int .i64 lo) ∧ w'.cell? ⟨w.heap.size, 1, none⟩ = some (.int .i64 hi)) (go_keep)
      (first
        | (go_at_call 16; go_must (refine (limit_left _).mono ?_; rintro e w1 ⟨rfl, rfl⟩))
        | (go_at_call 17; go_must (refine (rlimit_left _).mono ?_; rintro e w1 ⟨rfl, rfl⟩))
        | (go_at_call 15; go_must (refine (gcd_any A len cap T _ h61 ?_).mono ?_; (focus exact ints_below (B := w.heap.size) hat (by repeat (first | (with_reducible exact Below.refl _ _) | (with_reducible refine Below.drew ?_) | ((with_reducible refine Below.alloc ?_ ?_ _); rotate_left; focus ((try simp) <;> omega)) | ((with_reducible refine Below.setCell ?_ ?_ _); rotate_left; focus ((try simp) <;> omega)) | ((with_reducible refine Below.trans ?_ (Below.mono (by assumption) ?_)); rotate_left; focus ((try simp) <;> omega)))) hA); rintro e w1 ⟨rfl, hb1⟩; have hz1 := hb1.size; (try simp at hz1); obtain ⟨hc1, hf1⟩ := blk_at hb1 w.heap.size (by (try simp) <;> omega)))
        | (go_at_call 18; go_must (refine (rgcd_any A len cap T _ h61 ?_).mono ?_; (focus exact ints_below (ints_below (B := w.heap.size) (w' := (w.alloc (.cells #[.int .i64 lo, .int .i64 hi] 37)).drew) hat (by repeat (first | (with_reducible exact Below.refl _ _) | (with_reducible refine Below.drew ?_) | ((with_reducible refine Below.alloc ?_ ?_ _); rotate_left; focus ((try simp) <;> omega)) | ((with_reducible refine Below.setCell ?_ ?_ _); rotate_left; focus ((try simp) <;> omega)) | ((with_reducible refine Below.trans ?_ (Below.mono (by assumption) ?_)); rotate_left; focus ((try simp) <;> omega)))) hA) hb1 (fun g o h e => by have := hA g o h e; (try simp); omega)); rintro e w2 ⟨rfl, hb2⟩; have hz2 := hb2.size; (try simp at hz2); obtain ⟨hc2, hf2⟩ := blk_at hb2 w.heap.size (by (try simp) <;> omega)))
        | (go_at_call 12; go_must (refine (lives_any _).mono ?_; rintro e w3 ⟨rfl, hb3⟩; have hz3 := hb3.size; (try simp at hz3); obtain ⟨hc3, hf3⟩ := blk_at hb3 w.heap.size (by (try simp) <;> omega))))
    go_wp2_with fail
    go_ret
    exact ⟨rfl, (by repeat (first | (with_reducible exact Below.refl _ _) | (with_reducible refine Below.drew ?_) | ((with_reducible refine Below.alloc ?_ ?_ _); rotate_left; focus ((try simp) <;> omega)) | ((with_reducible refine Below.setCell ?_ ?_ _); rotate_left; focus ((try simp) <;> omega)) | ((with_reducible refine Below.trans ?_ (Below.mono (by assumption) ?_)); rotate_left; focus ((try simp) <;> omega))))⟩

set_option maxRecDepth 100000 in
theorem lifted (os : Os) (started : os.Started) (H : Type) (enc : TypeId × Value → H) :
    ReturnsInHanded {} Try.checked os 8 .any (Rows.numLimitsSpec.pre6 enc Try.prog Try.f8 Rows.numLimitsRow.domain false) (Rows.numLimitsSpec.post enc Try.prog Try.f8 false true false false) := by
  refine returnsInHanded_of_change (C := Try.checked) own started (by kernel_rfl) Try.func8
    (ChangeSpec.witness6 (enc := enc) (C := Try.checked) false ⟨#[], #[.int .i64 0, .agg #[.int .i64 0, .int .i64 0], .slice none 0 0], []⟩ 8 (by kernel_rfl) (by kernel_rfl) (by kernel_rfl) (by kernel_rfl)) ?_
  intro W base args ds gs before hval0 hW hcnd _
  have hval : ∀ (j : Nat) t v, Try.f8.params[j]? = some t → args[j]? = some v → Value.okWide Try.prog W .any base t v := hval0
  have hW' := hW
  obtain ⟨p, q, hA0, hV, rfl, hfz, hnd⟩ := hW
  have hA : DataW.TrodAll enc Try.prog W 0 (fun _ => true) true Try.f8.params.toList args.toList ds p := hA0
  have hA1 := hA
  rw [Try.params8] at hA hval
  obtain ⟨rfl, rfl⟩ := trodVars_none hV
  simp only [List.append_nil] at hW'
  have hcall : Calls Try.prog 8 args W fun e w' => e = .returned (.bool true) ∧ Below W.heap.size W w' := by
    clear hA0 hval0 hV hcnd hfz hnd
    obtain ⟨v0, vs0, d0, ds0, p0, q0, hargs, rfl, rfl, h0, r0⟩ := trodAll_cons hA
    obtain ⟨v1, vs1, d1, ds1, p1, q1, rfl, rfl, rfl, h1, r1⟩ := trodAll_cons r0
    obtain ⟨v2, vs2, d2, ds2, p2, q2, rfl, rfl, rfl, h2, r2⟩ := trodAll_cons r1
    obtain ⟨rfl, rfl, rfl⟩ := trodAll_nil r2
    obtain rfl : args = #[v0, v1, v2] := by cases args; simp_all
    obtain ⟨a0, rfl, rfl, rfl, w0⟩ := open_int Try.underlying3 (hval 0 3 v0 rfl rfl) h0
    obtain ⟨lo, hi, rfl, hlo, hhi⟩ := open_arr2 Try.underlying37 Try.underlying3 (by kernel_rfl) (by kernel_rfl) (hval 1 37 v1 rfl rfl) h1
    obtain ⟨A, len, cap, rfl, hle, hm, hrd⟩ := slice_read Try.underlying38 (by rw [show Try.prog.cellsOf 3 = 1 by kernel_rfl]; omega) (hval 2 38 v2 rfl rfl) h2
    rw [show Try.prog.cellsOf 3 = 1 by kernel_rfl] at hrd
    unfold maxLen at hm
    obtain ⟨T, hT, hlt⟩ := ints_of_read hle hrd
    exact walk W (by omega) hT hlt
  have hds : ds.length = 3 := (trodAll_length hA).1
  refine hcall.mono fun e W' ⟨he, hb⟩ => ?_
  subst he
  refine ⟨_, rfl, law_post hW' rfl hA1 (by kernel_rfl) laidOut Try.underlying4 (by kernel_rfl) ?_ hb⟩
  match ds, hds with
  | [_, _, _], _ => rfl

theorem proved : Rows.NumLimitsSaid :=
  OpenClaim.holds_of_wide 8 Try.f8 rfl rfl rfl rfl rfl rfl rfl ⟨rfl, rfl, rfl, rfl, rfl⟩ rfl rfl rfl rfl rfl (by kernel_rfl) Try.func8 (by kernel_rfl)
    (of_decide_eq_true (by kernel_rfl)) (by unfold Func.isWrapper; first | (rw [if_pos (by decide +kernel)]; kernel_rfl) | (rw [if_neg (by decide +kernel)]; exact ⟨rfl, rfl⟩))
    (fun os started H enc _ => lifted os started H enc)
#print axioms proved
end Go.Proofs.Ytebpdoehjgkkcaa.numLimits
