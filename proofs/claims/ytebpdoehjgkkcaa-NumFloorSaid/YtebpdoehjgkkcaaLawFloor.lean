/-
  NumFloor: for every three numbers: where the divisor is positive and there is no error, the quotient times it is not above the product, and the next number times it is. No condition.
-/
import Derived.Test.YtebpdoehjgkkcaaWalks9
import Derived.Test.YtebpdoehjgkkcaaLawKit



namespace Go.Proofs.Ytebpdoehjgkkcaa.numFloor
open Go.ChangeShapes Go.WideShapes Go.ChangeAt Go.RowKit

theorem own : ownKnob Try.prog.godebug = none := by kernel_rfl
theorem laidOut : laidOutB Try.prog = true := by kernel_rfl

theorem scI_bd (n m d : Int) : -9223372036854775808 ≤ scI n m d ∧ scI n m d ≤ 9223372036854775807 := by
  unfold scI
  split
  · unfold nrI
    split
    · rename_i h
      unfold nrB at h
      have h2 := of_decide_eq_true h
      have h3 : 0 ≤ sQ n m d % 18446744073709551616 := by omega
      split
      · rename_i hs; rw [if_pos hs] at h2; omega
      · rename_i hs; rw [if_neg hs] at h2; omega
    · omega
  · omega

theorem floor {n m d : Int} (hd : 0 < d) (he : scE n m d = 0) : scI n m d * d ≤ n * m ∧ n * m < (scI n m d + 1) * d := by
  have hz : sz d = d := by unfold sz; rw [if_neg (by omega)]
  have hp := pP_nn n m
  have hr1 := Int.emod_nonneg (pP n m) (show d ≠ 0 by omega)
  have hr2 := Int.emod_lt_of_pos (pP n m) hd
  have hdm := Int.mul_ediv_add_emod (pP n m) d
  have hq0 : 0 ≤ pP n m / d := Int.ediv_nonneg hp (by omega)
  have hb : nrB (sN n m d) (sQ n m d / 18446744073709551616) (sQ n m d % 18446744073709551616) = true := by
    unfold scE at he
    rw [if_neg (by omega)] at he
    split at he
    · assumption
    · omega
  have hs : sN n m d = pN n m := by
    unfold sN
    rw [show decide (d < 0) = false by simp; omega]
    unfold pN
    by_cases h0 : pP n m = 0 <;> simp [h0]
  have hv : scI n m d = if pN n m = true then -(sQ n m d) else sQ n m d := by
    unfold scI nrI
    rw [if_pos he, if_pos hb, hs]
    have h2 := of_decide_eq_true hb
    have e : sQ n m d % 18446744073709551616 = sQ n m d := by omega
    rw [e]
  have hQ : sQ n m d = if pN n m = true ∧ pP n m % d ≠ 0 then pP n m / d + 1 else pP n m / d := by
    unfold sQ; rw [hs, hz]
  rw [hv, hQ, signed n m]
  generalize pP n m / d = Q at *
  generalize pP n m % d = R at *
  generalize pP n m = p at *
  have c1 : d * Q = Q * d := Int.mul_comm ..
  have c2 : (Q + 1) * d = Q * d + d := by rw [Int.add_mul]; omega
  have c3 : -(Q + 1) * d = -(Q * d + d) := by rw [Int.neg_mul, c2]
  have c4 : (-(Q + 1) + 1) * d = -(Q * d) := by rw [show -(Q + 1) + 1 = -Q by omega, Int.neg_mul]
  have c5 : -Q * d = -(Q * d) := Int.neg_mul ..
  have c6 : (-Q + 1) * d = -(Q * d) + d := by rw [Int.add_mul, Int.neg_mul]; omega
  cases pN n m
  · simp; omega
  · by_cases h0 : R = 0
    · simp [h0]; omega
    · simp [h0]; omega

set_option maxHeartbeats 1000000 in
theorem walk {n m d : Int} (n1 : -9223372036854775808 ≤ n) (n2 : n ≤ 9223372036854775807) (m1 : -9223372036854775808 ≤ m) (m2 : m ≤ 9223372036854775807)
    (d1 : -9223372036854775808 ≤ d) (d2 : d ≤ 9223372036854775807) (w : World) :
    Calls Try.prog 6 #[.int .i64 n, .int .i64 m, .int .i64 d] w fun e w' => e = .returned (.bool true) ∧ Below w.heap.size w w' := by
  have hf := Lib.hid (floor (n := n) (m := m) (d := d))
  have h0 : d = 0 → scE n m d = 2 ∧ scI n m d = 0 := fun h => by
    have e : scE n m d = 2 := by unfold scE; rw [if_pos h]
    refine ⟨e, ?_⟩
    unfold scI; rw [if_neg (by omega)]
  obtain ⟨i1, i2⟩ := scI_bd n m d
  have hV : scV n m d = .tuple #[.int .i64 (scI n m d), .int .i64 (scE n m d)] := rfl
  replace hV := Lib.hid hV
  obtain ⟨I, hI⟩ : ∃ I, scI n m d = I := ⟨_, rfl⟩
  obtain ⟨E, hE⟩ : ∃ E, scE n m d = E := ⟨_, rfl⟩
  rw [hI, hE] at hV
  rw [hI] at i1 i2
  rw [hI, hE] at h0
  rw [hI, hE] at hf
  replace hI := Lib.hid hI
  replace hE := Lib.hid hE
  go_enter Try.func6, Try.ntmps6
  go_wp2_with fail
  refine (scale_any n m d n1 n2 m1 m2 d1 d2 _).mono ?_
  rintro e w1 ⟨rfl, hb1⟩
  have hz1 := hb1.size
  try simp at hz1
  rw [hV.out]
  by_cases hd0 : d = 0
  · obtain ⟨rfl, rfl⟩ := h0 hd0
    subst hd0
    go_wp2_with fail
    refine (lives_any _).mono ?_
    rintro e w3 ⟨rfl, hb3⟩
    have hz3 := hb3.size
    try simp at hz3
    go_wp2_with fail
    go_ret
    exact ⟨rfl, (by repeat (first | (with_reducible exact Below.refl _ _) | (with_reducible refine Below.drew ?_) | ((with_reducible refine Below.alloc ?_ ?_ _); rotate_left; focus ((try simp) <;> omega)) | ((with_reducible refine Below.setCell ?_ ?_ _); rotate_left; focus ((try simp) <;> omega)) | ((with_reducible refine Below.trans ?_ (Below.mono (by assumption) ?_)); rotate_left; focus ((try simp) <;> omega))))⟩
  · replace h0 := Lib.hid h0
    by_cases hd : d < 0
    · go_wp2_with fail
      refine (lives_any _).mono ?_
      rintro e w3 ⟨rfl, hb3⟩
      have hz3 := hb3.size
      try simp at hz3
      go_wp2_with fail
      go_ret
      exact ⟨rfl, (by repeat (first | (with_reducible exact Below.refl _ _) | (with_reducible refine Below.drew ?_) | ((with_reducible refine Below.alloc ?_ ?_ _); rotate_left; focus ((try simp) <;> omega)) | ((with_reducible refine Below.setCell ?_ ?_ _); rotate_left; focus ((try simp) <;> omega)) | ((with_reducible refine Below.trans ?_ (Below.mono (by assumption) ?_)); rotate_left; focus ((try simp) <;> omega))))⟩
    · by_cases he : E = 0
      · subst he
        by_cases hq : I = 9223372036854775807
        · subst hq
          go_wp2_with fail
          refine (lives_any _).mono ?_
          rintro e w3 ⟨rfl, hb3⟩
          have hz3 := hb3.size
          try simp at hz3
          go_wp2_with fail
          go_ret
          exact ⟨rfl, (by repeat (first | (with_reducible exact Below.refl _ _) | (with_reducible refine Below.drew ?_) | ((with_reducible refine Below.alloc ?_ ?_ _); rotate_left; focus ((try simp) <;> omega)) | ((with_reducible refine Below.setCell ?_ ?_ _); rotate_left; focus ((try simp) <;> omega)) | ((with_reducible refine Below.trans ?_ (Below.mono (by assumption) ?_)); rotate_left; focus ((try simp) <;> omega))))⟩
        · obtain ⟨f1, f2⟩ := hf.out (by omega) rfl
          have b1 : decide (d ≤ 0) = false := by simp; omega
          have b2 : (I == 9223372036854775807) = false := by simp; omega
          have b3 : (I != 9223372036854775807) = true := by simp; omega
          have t1 : ltB n m I d = false := by unfold ltB; simp; omega
          have t2 : ltB n m (I + 1) d = true := by unfold ltB; simp; omega
          go_wp2_with fail
          refine (Less_any n m I d n1 n2 m1 m2 i1 i2 d1 d2 _).mono ?_
          rintro e w2 ⟨rfl, hb2⟩
          have hz2 := hb2.size
          try simp at hz2
          rw [t1]
          go_wp2_with fail
          refine (Less_any n m (I + 1) d n1 n2 m1 m2 (by omega) (by omega) d1 d2 _).mono ?_
          rintro e w4 ⟨rfl, hb4⟩
          have hz4 := hb4.size
          try simp at hz4
          rw [t2]
          go_wp2_with fail
          refine (lives_any _).mono ?_
          rintro e w5 ⟨rfl, hb5⟩
          have hz5 := hb5.size
          try simp at hz5
          go_wp2_with fail
          go_ret
          exact ⟨rfl, (by repeat (first | (with_reducible exact Below.refl _ _) | (with_reducible refine Below.drew ?_) | ((with_reducible refine Below.alloc ?_ ?_ _); rotate_left; focus ((try simp) <;> omega)) | ((with_reducible refine Below.setCell ?_ ?_ _); rotate_left; focus ((try simp) <;> omega)) | ((with_reducible refine Below.trans ?_ (Below.mono (by assumption) ?_)); rotate_left; focus ((try simp) <;> omega))))⟩
      · go_wp2_with fail
        refine (lives_any _).mono ?_
        rintro e w3 ⟨rfl, hb3⟩
        have hz3 := hb3.size
        try simp at hz3
        go_wp2_with fail
        go_ret
        exact ⟨rfl, (by repeat (first | (with_reducible exact Below.refl _ _) | (with_reducible refine Below.drew ?_) | ((with_reducible refine Below.alloc ?_ ?_ _); rotate_left; focus ((try simp) <;> omega)) | ((with_reducible refine Below.setCell ?_ ?_ _); rotate_left; focus ((try simp) <;> omega)) | ((with_reducible refine Below.trans ?_ (Below.mono (by assumption) ?_)); rotate_left; focus ((try simp) <;> omega))))⟩

set_option maxRecDepth 100000 in
theorem lifted (os : Os) (started : os.Started) (H : Type) (enc : TypeId × Value → H) :
    ReturnsInHanded {} Try.checked os 6 .any (Rows.numFloorSpec.pre6 enc Try.prog Try.f6 Rows.numFloorRow.domain false) (Rows.numFloorSpec.post enc Try.prog Try.f6 false true false false) := by
  refine returnsInHanded_of_change (C := Try.checked) own started (by kernel_rfl) Try.func6
    (ChangeSpec.witness6 (enc := enc) (C := Try.checked) false ⟨#[], #[.int .i64 0, .int .i64 0, .int .i64 0], []⟩ 8 (by kernel_rfl) (by kernel_rfl) (by kernel_rfl) (by kernel_rfl)) ?_
  intro W base args ds gs before hval0 hW hcnd _
  have hval : ∀ (j : Nat) t v, Try.f6.params[j]? = some t → args[j]? = some v → Value.okWide Try.prog W .any base t v := hval0
  have hW' := hW
  obtain ⟨p, q, hA0, hV, rfl, hfz, hnd⟩ := hW
  have hA : DataW.TrodAll enc Try.prog W 0 (fun _ => true) true Try.f6.params.toList args.toList ds p := hA0
  have hA1 := hA
  rw [Try.params6] at hA hval
  obtain ⟨rfl, rfl⟩ := trodVars_none hV
  simp only [List.append_nil] at hW'
  have hcall : Calls Try.prog 6 args W fun e w' => e = .returned (.bool true) ∧ Below W.heap.size W w' := by
    clear hA0 hval0 hV hcnd hfz hnd
    obtain ⟨v0, v1, v2, d0, d1, d2, p0, p1, p2, rfl, rfl, rfl, h0, h1, h2⟩ := trodAll_three hA
    obtain ⟨a0, rfl, rfl, rfl, w0⟩ := open_int Try.underlying3 (hval 0 3 v0 rfl rfl) h0
    obtain ⟨a1, rfl, rfl, rfl, w1⟩ := open_int Try.underlying3 (hval 1 3 v1 rfl rfl) h1
    obtain ⟨a2, rfl, rfl, rfl, w2⟩ := open_int Try.underlying3 (hval 2 3 v2 rfl rfl) h2
    obtain ⟨l0, u0⟩ := bounds_i64 w0
    obtain ⟨l1, u1⟩ := bounds_i64 w1
    obtain ⟨l2, u2⟩ := bounds_i64 w2
    exact walk l0 u0 l1 u1 l2 u2 W
  have hds : ds.length = 3 := (trodAll_length hA).1
  refine hcall.mono fun e W' ⟨he, hb⟩ => ?_
  subst he
  refine ⟨_, rfl, law_post hW' rfl hA1 (by kernel_rfl) laidOut Try.underlying4 (by kernel_rfl) ?_ hb⟩
  match ds, hds with
  | [_, _, _], _ => rfl

theorem proved : Rows.NumFloorSaid :=
  OpenClaim.holds_of_wide 6 Try.f6 rfl rfl rfl rfl rfl rfl rfl ⟨rfl, rfl, rfl, rfl, rfl⟩ rfl rfl rfl rfl rfl (by kernel_rfl) Try.func6 (by kernel_rfl)
    (of_decide_eq_true (by kernel_rfl)) (by unfold Func.isWrapper; first | (rw [if_pos (by decide +kernel)]; kernel_rfl) | (rw [if_neg (by decide +kernel)]; exact ⟨rfl, rfl⟩))
    (fun os started H enc _ => lifted os started H enc)
#print axioms proved
end Go.Proofs.Ytebpdoehjgkkcaa.numFloor
