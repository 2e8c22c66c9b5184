/-
  NumDivides: for every two numbers, their greatest common divisor divides both, and what divides both divides it. No condition.
-/
import Derived.Test.YtebpdoehjgkkcaaWalks9
import Derived.Test.YtebpdoehjgkkcaaLawKit



namespace Go.Proofs.Ytebpdoehjgkkcaa.numDivides
open Go.ChangeShapes Go.WideShapes Go.ChangeAt Go.RowKit

theorem own : ownKnob Try.prog.godebug = none := by kernel_rfl
theorem laidOut : laidOutB Try.prog = true := by kernel_rfl

theorem gN2 (a b : Int) : gN (pT a b) 2 = Nat.gcd a.natAbs b.natAbs := by
  simp [gN, pT]

theorem gI_comm (a b : Int) : gI (pT b a) 2 = gI (pT a b) 2 := by
  unfold gI; rw [gN2, gN2, Nat.gcd_comm]

/-- The greatest common divisor divides. -/
theorem divides {a b : Int} (h1 : gI (pT a b) 2 ≠ 0) (h2 : gI (pT a b) 2 ≠ 9223372036854775807) :
    gI (pT a b) 2 ∣ a ∧ gI (pT a b) 2 ∣ b ∧ ∀ n : Nat, (n : Int) ∣ a → (n : Int) ∣ b → (n : Int) ∣ gI (pT a b) 2 := by
  have e : gI (pT a b) 2 = (Nat.gcd a.natAbs b.natAbs : Int) := by
    unfold gI at *; rw [gN2] at *; omega
  rw [e]
  refine ⟨?_, ?_, fun n ha hb => ?_⟩
  · exact Int.ofNat_dvd_left.2 (Nat.gcd_dvd_left _ _)
  · exact Int.ofNat_dvd_left.2 (Nat.gcd_dvd_right _ _)
  · exact Int.natCast_dvd_natCast.2 (Nat.dvd_gcd (Int.ofNat_dvd_left.1 ha) (Int.ofNat_dvd_left.1 hb))

theorem gI_nn (a b : Int) : 0 ≤ gI (pT a b) 2 ∧ gI (pT a b) 2 ≤ 9223372036854775807 := by unfold gI; omega
theorem gI_zero {a b : Int} (h : gI (pT a b) 2 = 0) : a = 0 ∧ b = 0 := by
  unfold gI at h; rw [gN2] at h
  have h2 : Nat.gcd a.natAbs b.natAbs = 0 := by omega
  have h3 := Nat.eq_zero_of_gcd_eq_zero_left h2
  have h4 := Nat.eq_zero_of_gcd_eq_zero_right h2
  omega

set_option maxHeartbeats 2000000 in
theorem walk {a b d : Int} (a1 : -9223372036854775808 ≤ a) (a2 : a ≤ 9223372036854775807) (b1 : -9223372036854775808 ≤ b) (b2 : b ≤ 9223372036854775807) (d1 : 0 ≤ d) (d2 : d ≤ 65535) (w : World) :
    Calls Try.prog 7 #[.int .i64 a, .int .i64 b, .int .u16 d] w fun e w' => e = .returned (.bool true) ∧ Below w.heap.size w w' := by
  obtain ⟨i1, i2⟩ := gI_nn a b
  have hz := Lib.hid (gI_zero (a := a) (b := b))
  have hd := Lib.hid (divides (a := a) (b := b))
  have hcm := gI_comm a b
  obtain ⟨I, hI⟩ : ∃ I, gI (pT a b) 2 = I := ⟨_, rfl⟩
  rw [hI] at i1 i2 hcm
  rw [hI] at hz hd
  replace hI := Lib.hid hI
  replace hcm := Lib.hid hcm
  go_enter Try.func7, Try.ntmps7
  go_wp2_with fail
  refine (gcd_any _ 2 2 (pT a b) _ (by omega) (ints2 w (by omega) (by omega) (by omega) (by omega))).mono ?_
  rintro e w1 ⟨rfl, hb1⟩
  rw [hI.out]
  have hz1 := hb1.size
  try simp at hz1
  by_cases h0 : I = 0
  · obtain ⟨rfl, rfl⟩ := hz.out h0
    subst h0
    go_wp2_with fail
    refine (lives_any _).mono ?_
    rintro e w3 ⟨rfl, hb3⟩
    have hz3 := hb3.size
    try simp at hz3
    go_wp2_with fail
    go_ret
    exact ⟨rfl, (by repeat (first | (with_reducible exact Below.refl _ _) | (with_reducible refine Below.drew ?_) | ((with_reducible refine Below.alloc ?_ ?_ _); rotate_left; focus ((try simp) <;> omega)) | ((with_reducible refine Below.setCell ?_ ?_ _); rotate_left; focus ((try simp) <;> omega)) | ((with_reducible refine Below.trans ?_ (Below.mono (by assumption) ?_)); rotate_left; focus ((try simp) <;> omega))))⟩
  · by_cases hm : I = 9223372036854775807
    · subst hm
      go_wp2_with fail
      refine (lives_any _).mono ?_
      rintro e w3 ⟨rfl, hb3⟩
      have hz3 := hb3.size
      try simp at hz3
      go_wp2_with fail
      go_ret
      exact ⟨rfl, (by repeat (first | (with_reducible exact Below.refl _ _) | (with_reducible refine Below.drew ?_) | ((with_reducible refine Below.alloc ?_ ?_ _); rotate_left; focus ((try simp) <;> omega)) | ((with_reducible refine Below.setCell ?_ ?_ _); rotate_left; focus ((try simp) <;> omega)) | ((with_reducible refine Below.trans ?_ (Below.mono (by assumption) ?_)); rotate_left; focus ((try simp) <;> omega))))⟩
    · obtain ⟨q1, q2, q3⟩ := hd.out h0 hm
      have m1 : a.tmod I = 0 := Int.tmod_eq_zero_of_dvd q1
      have m2 : b.tmod I = 0 := Int.tmod_eq_zero_of_dvd q2
      have q4 : a.tmod (d + 1) = 0 → b.tmod (d + 1) = 0 → I % (d + 1) = 0 := fun ha hb => by
        have h3 := q3 (d + 1).toNat (by rw [Int.toNat_of_nonneg (by omega)]; exact Int.dvd_of_tmod_eq_zero ha) (by rw [Int.toNat_of_nonneg (by omega)]; exact Int.dvd_of_tmod_eq_zero hb)
        rw [Int.toNat_of_nonneg (by omega)] at h3
        exact Int.emod_eq_zero_of_dvd h3
      clear q1 q2 q3
      have i0 : 0 < I := by omega
      have e0 : (I == 0) = false := by simp; omega
      have e5 : (I == 9223372036854775807) = false := by simp; omega
      by_cases ha : a.tmod (d + 1) = 0
      · by_cases hb : b.tmod (d + 1) = 0
        · have hg := q4 ha hb
          clear q4
          go_wp2_with fail
          refine (gcd_any _ 2 2 (pT b a) _ (by omega) (ints2 w1 (by omega) (by omega) (by omega) (by omega))).mono ?_
          rintro e w2 ⟨rfl, hb2⟩
          rw [hcm.out]
          have hz2 := hb2.size
          try simp at hz2
          go_wp2_with fail
          refine (lives_any _).mono ?_
          rintro e w3 ⟨rfl, hb3⟩
          have hz3 := hb3.size
          try simp at hz3
          go_wp2_with fail
          go_ret
          exact ⟨rfl, (by repeat (first | (with_reducible exact Below.refl _ _) | (with_reducible refine Below.drew ?_) | ((with_reducible refine Below.alloc ?_ ?_ _); rotate_left; focus ((try simp) <;> omega)) | ((with_reducible refine Below.setCell ?_ ?_ _); rotate_left; focus ((try simp) <;> omega)) | ((with_reducible refine Below.trans ?_ (Below.mono (by assumption) ?_)); rotate_left; focus ((try simp) <;> omega))))⟩
        · clear q4
          have hb2 : (b.tmod (d + 1) == 0) = false := by simpa using hb
          have hb3 : (b.tmod (d + 1) != 0) = true := by simpa using hb
          go_wp2_with fail
          refine (gcd_any _ 2 2 (pT b a) _ (by omega) (ints2 w1 (by omega) (by omega) (by omega) (by omega))).mono ?_
          rintro e w2 ⟨rfl, hb2⟩
          rw [hcm.out]
          have hz2 := hb2.size
          try simp at hz2
          go_wp2_with fail
          refine (lives_any _).mono ?_
          rintro e w3 ⟨rfl, hb3⟩
          have hz3 := hb3.size
          try simp at hz3
          go_wp2_with fail
          go_ret
          exact ⟨rfl, (by repeat (first | (with_reducible exact Below.refl _ _) | (with_reducible refine Below.drew ?_) | ((with_reducible refine Below.alloc ?_ ?_ _); rotate_left; focus ((try simp) <;> omega)) | ((with_reducible refine Below.setCell ?_ ?_ _); rotate_left; focus ((try simp) <;> omega)) | ((with_reducible refine Below.trans ?_ (Below.mono (by assumption) ?_)); rotate_left; focus ((try simp) <;> omega))))⟩
      · clear q4
        have hb2 : (a.tmod (d + 1) == 0) = false := by simpa using ha
        have hb3 : (a.tmod (d + 1) != 0) = true := by simpa using ha
        go_wp2_with fail
        refine (gcd_any _ 2 2 (pT b a) _ (by omega) (ints2 w1 (by omega) (by omega) (by omega) (by omega))).mono ?_
        rintro e w2 ⟨rfl, hb2⟩
        rw [hcm.out]
        have hz2 := hb2.size
        try simp at hz2
        go_wp2_with fail
        refine (lives_any _).mono ?_
        rintro e w3 ⟨rfl, hb3⟩
        have hz3 := hb3.size
        try simp at hz3
        go_wp2_with fail
        go_ret
        exact ⟨rfl, (by repeat (first | (with_reducible exact Below.refl _ _) | (with_reducible refine Below.drew ?_) | ((with_reducible refine Below.alloc ?_ ?_ _); rotate_left; focus ((try simp) <;> omega)) | ((with_reducible refine Below.setCell ?_ ?_ _); rotate_left; focus ((try simp) <;> omega)) | ((with_reducible refine Below.trans ?_ (Below.mono (by assumption) ?_)); rotate_left; focus ((try simp) <;> omega))))⟩

set_option maxRecDepth 100000 in
theorem lifted (os : Os) (started : os.Started) (H : Type) (enc : TypeId × Value → H) :
    ReturnsInHanded {} Try.checked os 7 .any (Rows.numDividesSpec.pre6 enc Try.prog Try.f7 Rows.numDividesRow.domain false) (Rows.numDividesSpec.post enc Try.prog Try.f7 false true false false) := by
  refine returnsInHanded_of_change (C := Try.checked) own started (by kernel_rfl) Try.func7
    (ChangeSpec.witness6 (enc := enc) (C := Try.checked) false ⟨#[], #[.int .i64 0, .int .i64 0, .int .u16 0], []⟩ 8 (by kernel_rfl) (by kernel_rfl) (by kernel_rfl) (by kernel_rfl)) ?_
  intro W base args ds gs before hval0 hW hcnd _
  have hval : ∀ (j : Nat) t v, Try.f7.params[j]? = some t → args[j]? = some v → Value.okWide Try.prog W .any base t v := hval0
  have hW' := hW
  obtain ⟨p, q, hA0, hV, rfl, hfz, hnd⟩ := hW
  have hA : DataW.TrodAll enc Try.prog W 0 (fun _ => true) true Try.f7.params.toList args.toList ds p := hA0
  have hA1 := hA
  rw [Try.params7] at hA hval
  obtain ⟨rfl, rfl⟩ := trodVars_none hV
  simp only [List.append_nil] at hW'
  have hcall : Calls Try.prog 7 args W fun e w' => e = .returned (.bool true) ∧ Below W.heap.size W w' := by
    clear hA0 hval0 hV hcnd hfz hnd
    obtain ⟨v0, vs0, d0, ds0, p0, q0, hargs, rfl, rfl, h0, r0⟩ := trodAll_cons hA
    obtain ⟨v1, vs1, d1, ds1, p1, q1, rfl, rfl, rfl, h1, r1⟩ := trodAll_cons r0
    obtain ⟨v2, vs2, d2, ds2, p2, q2, rfl, rfl, rfl, h2, r2⟩ := trodAll_cons r1
    obtain ⟨rfl, rfl, rfl⟩ := trodAll_nil r2
    obtain rfl : args = #[v0, v1, v2] := by cases args; simp_all
    obtain ⟨a0, rfl, rfl, rfl, w0⟩ := open_int Try.underlying3 (hval 0 3 v0 rfl rfl) h0
    obtain ⟨a1, rfl, rfl, rfl, w1⟩ := open_int Try.underlying3 (hval 1 3 v1 rfl rfl) h1
    obtain ⟨a2, rfl, rfl, rfl, w2⟩ := open_int Try.underlying34 (hval 2 34 v2 rfl rfl) h2
    obtain ⟨l0, u0⟩ := bounds_i64 w0
    obtain ⟨l1, u1⟩ := bounds_i64 w1
    have hw2 := bounds_u16 w2
    exact walk l0 u0 l1 u1 hw2.1 hw2.2 W
  have hds : ds.length = 3 := (trodAll_length hA).1
  refine hcall.mono fun e W' ⟨he, hb⟩ => ?_
  subst he
  refine ⟨_, rfl, law_post hW' rfl hA1 (by kernel_rfl) laidOut Try.underlying4 (by kernel_rfl) ?_ hb⟩
  match ds, hds with
  | [_, _, _], _ => rfl

theorem proved : Rows.NumDividesSaid :=
  OpenClaim.holds_of_wide 7 Try.f7 rfl rfl rfl rfl rfl rfl rfl ⟨rfl, rfl, rfl, rfl, rfl⟩ rfl rfl rfl rfl rfl (by kernel_rfl) Try.func7 (by kernel_rfl)
    (of_decide_eq_true (by kernel_rfl)) (by unfold Func.isWrapper; first | (rw [if_pos (by decide +kernel)]; kernel_rfl) | (rw [if_neg (by decide +kernel)]; exact ⟨rfl, rfl⟩))
    (fun os started H enc _ => lifted os started H enc)
#print axioms proved
end Go.Proofs.Ytebpdoehjgkkcaa.numDivides
