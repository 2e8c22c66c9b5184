/-
  The walks of the arithmetic layer: Scale, of the program.
-/
import Derived.Test.YtddepmelnemniaaDoorNums5
import Derived.Deep.DeepCutAuto

namespace Go.Proofs.YtddepmelnemniaaDoor.Num
open Go.RowKit
attribute [local go_sem ↓] neq_half

/-- The sign and the size of a quotient, rounded down. -/
def sN (n m d : Int) : Bool := decide (pP n m ≠ 0) && (pN n m != decide (d < 0))
def sQ (n m d : Int) : Int := if sN n m d = true ∧ pP n m % sz d ≠ 0 then pP n m / sz d + 1 else pP n m / sz d
/-- The result of Scale: the quotient, and the error. -/
def scE (n m d : Int) : Int := if d = 0 then 2 else if nrB (sN n m d) (sQ n m d / 18446744073709551616) (sQ n m d % 18446744073709551616) = true then 0 else 11
def scI (n m d : Int) : Int := if scE n m d = 0 then nrI (sN n m d) (sQ n m d / 18446744073709551616) (sQ n m d % 18446744073709551616) else 0
def scV (n m d : Int) : Value := .tuple #[.int .i64 (scI n m d), .int .i64 (scE n m d)]

theorem pP_hi {a b : Int} (ha : -9223372036854775808 ≤ a) (ha2 : a ≤ 9223372036854775807) (hb : -9223372036854775808 ≤ b) (hb2 : b ≤ 9223372036854775807) : pP a b ≤ 85070591730234615865843651857942052864 := by
  obtain ⟨x1, x2⟩ := sz_bd ha ha2
  obtain ⟨y1, y2⟩ := sz_bd hb hb2
  have := Int.mul_le_mul x2 y2 y1 (by omega)
  unfold pP
  omega

theorem dv_pp {n m d : Int} (hd : 1 ≤ sz d) : pH n m / sz d = pP n m / sz d / 18446744073709551616 ∧ dQ (pH n m % sz d) (pL n m) (sz d) 64 = pP n m / sz d % 18446744073709551616 ∧ dR (pH n m % sz d) (pL n m) (sz d) 64 = pP n m % sz d :=
  dv_end (pP_nn n m) hd

theorem scV_ok {n m d q : Int} {b : Bool} (hd : d ≠ 0) (hN : sN n m d = b) (hQ : sQ n m d = q) (hb : nrB b (q / 18446744073709551616) (q % 18446744073709551616) = true) :
    scV n m d = .tuple #[.int .i64 (nrI b (q / 18446744073709551616) (q % 18446744073709551616)), .int .i64 0] := by
  have e : scE n m d = 0 := by unfold scE; rw [if_neg hd, hN, hQ, if_pos hb]
  unfold scV scI
  rw [e, hN, hQ]
  rfl
theorem scV_no {n m d q : Int} {b : Bool} (hd : d ≠ 0) (hN : sN n m d = b) (hQ : sQ n m d = q) (hb : nrB b (q / 18446744073709551616) (q % 18446744073709551616) = false) :
    scV n m d = .tuple #[.int .i64 0, .int .i64 11] := by
  have e : scE n m d = 11 := by unfold scE; rw [if_neg hd, hN, hQ, if_neg (by simp [hb])]
  unfold scV scI
  rw [e]
  rfl

set_option maxRecDepth 100000 in
set_option maxHeartbeats 800000 in
theorem scale_any (n m d : Int) (n1 : -9223372036854775808 ≤ n) (n2 : n ≤ 9223372036854775807) (m1 : -9223372036854775808 ≤ m) (m2 : m ≤ 9223372036854775807)
    (d1 : -9223372036854775808 ≤ d) (d2 : d ≤ 9223372036854775807) (w : World) :
    Calls Tryd.prog 13 #[.int .i64 n, .int .i64 m, .int .i64 d] w fun e w' => e = .returned (scV n m d) ∧ Below w.heap.size w w' := by
  by_cases hd : d = 0
  · subst hd
    go_enter Tryd.func13, Tryd.ntmps13
    go_wp2_with fail
    go_ret2
    exact ⟨rfl, (by repeat (first | (with_reducible exact Below.refl _ _) | (with_reducible refine Below.drew ?_) | ((with_reducible refine Below.alloc ?_ ?_ _); rotate_left; focus ((try simp) <;> omega)) | ((with_reducible refine Below.setCell ?_ ?_ _); rotate_left; focus ((try simp) <;> omega)) | ((with_reducible refine Below.trans ?_ (Below.mono (by assumption) ?_)); rotate_left; focus ((try simp) <;> omega))))⟩
  · have hd' : (d == 0) = false := by simpa using hd
    obtain ⟨z1, z2⟩ := sz_bd d1 d2
    have z3 : 1 ≤ sz d := by unfold sz; split <;> omega
    obtain ⟨l1, l2⟩ := pL_bd n m
    have p1 := pP_nn n m
    have p2 := pP_hi n1 n2 m1 m2
    have hh1 : 0 ≤ pH n m := by unfold pH; omega
    have hh2 : pH n m ≤ 18446744073709551615 := by unfold pH; omega
    obtain ⟨v1, v2, v3⟩ := dv_pp (n := n) (m := m) z3
    replace v1 := Lib.hid v1
    replace v2 := Lib.hid v2
    replace v3 := Lib.hid v3
    by_cases hP : pP n m = 0
    · have heq : eqH (pH n m) (pL n m) 0 0 = true := by unfold eqH pH pL; rw [hP]; simp
      have hN : sN n m d = false := by unfold sN; simp [hP]
      replace hP := Lib.hid hP
      go_enter Tryd.func13, Tryd.ntmps13
      go_upto_region 5 with (first
        | (go_at_call 27; go_must (refine (mulb_any _ _ (by assumption) (by assumption) (by assumption) (by assumption) _).mono ?_; rintro e w1 ⟨rfl, hb1⟩; unfold pV; have hz1 := hb1.size; (try simp at hz1))))
      go_cut [10, 11] (fun s10 s11 wx => ∃ gq : Nat, s10 = .pointer (some ⟨gq, 0, none⟩) ∧ s11 = .bool (pP n m % sz d != 0) ∧ w1.heap.size < gq ∧ gq < wx.heap.size ∧
        wx.cell? ⟨gq, 0, none⟩ = some (.int .u64 (pP n m / sz d / 18446744073709551616)) ∧ wx.cell? ⟨gq, 1, none⟩ = some (.int .u64 (pP n m / sz d % 18446744073709551616)) ∧ (∀ o, wx.frozen? ⟨gq, o, none⟩ = false) ∧ Below w1.heap.size w1 wx)
      case first =>
        go_region_held3 (fun w' => w'.cell? ⟨w1.heap.size, 0, none⟩ = some (.int .u64 (pH n m)) ∧ w'.cell? ⟨w1.heap.size, 1, none⟩ = some (.int .u64 (pL n m)) ∧ w'.cell? ⟨w1.heap.size, 2, none⟩ = some (.bool (pN n m))) (go_keep)
          (first
            | (go_at_call 29; go_must (refine (size_any _ (by assumption) (by assumption) _).mono ?_; rintro e w2 ⟨rfl, rfl⟩))
            | (go_at_call 28; go_must (refine (divide_any _ _ _ _ (by assumption) (by assumption) (by assumption) (by assumption) (by assumption) (by assumption) _).mono ?_; rintro e w3 ⟨rfl, hb3⟩; unfold dvV; have hz3 := hb3.size; (try simp at hz3); obtain ⟨hc3, hf3⟩ := blk_at hb3 w1.heap.size (by (try simp) <;> omega); obtain ⟨hx3, hy3⟩ := (show (∀ b o, b < _ → w3.cell? ⟨b, o, none⟩ = _) ∧ (∀ b o, b < _ → w3.frozen? ⟨b, o, none⟩ = _) from ⟨fun b o h => hb3.cell (p := ⟨b, o, none⟩) h, fun b o h => hb3.frozen (p := ⟨b, o, none⟩) h⟩))))
        all_goals go_wp2_with fail
        all_goals go_meet
        all_goals first
          | (refine ⟨w3.heap.size, rfl, ?_, ?_, ?_, ?_, ?_, ?_, ?_⟩
             · exact congrArg (fun x : Int => Value.bool (x != 0)) v3.out
             · omega
             · simp
             · rw [← v1.out]; go_simp
             · rw [← v2.out]; go_simp
             · go_simp
             · exact (by repeat (first | (with_reducible exact Below.refl _ _) | (with_reducible refine Below.drew ?_) | ((with_reducible refine Below.alloc ?_ ?_ _); rotate_left; focus ((try simp) <;> omega)) | ((with_reducible refine Below.setCell ?_ ?_ _); rotate_left; focus ((try simp) <;> omega)) | ((with_reducible refine Below.trans ?_ (Below.mono (by assumption) ?_)); rotate_left; focus ((try simp) <;> omega)))))
          | (refine ⟨w1.heap.size + 1, rfl, ?_, ?_, ?_, ?_, ?_, ?_, ?_⟩
             · exact congrArg (fun x : Int => Value.bool (x != 0)) v3.out
             · omega
             · simp [World.setCell]; omega
             · rw [← v1.out]; go_simp
             · rw [← v2.out]; go_simp
             · go_simp
             · exact (by repeat (first | (with_reducible exact Below.refl _ _) | (with_reducible refine Below.drew ?_) | ((with_reducible refine Below.alloc ?_ ?_ _); rotate_left; focus ((try simp) <;> omega)) | ((with_reducible refine Below.setCell ?_ ?_ _); rotate_left; focus ((try simp) <;> omega)) | ((with_reducible refine Below.trans ?_ (Below.mono (by assumption) ?_)); rotate_left; focus ((try simp) <;> omega)))))
      case rest =>
        obtain ⟨gq, rfl, rfl, g1, g2, c0, c1, cf, hbx⟩ := hcut
        have hQ : sQ n m d = pP n m / sz d := by unfold sQ; rw [hN, if_neg (by simp_all)]
        obtain ⟨q, hq⟩ : ∃ q, pP n m / sz d = q := ⟨_, rfl⟩
        rw [hq] at c0 c1 hQ
        rcases hb : nrB false (q / 18446744073709551616) (q % 18446744073709551616) with _ | _
        · have hE := Lib.hid (scV_no hd hN hQ hb)
          go_wp2_with (first | (go_at_call 30; go_must (refine (narrow_any _ _ _ (by omega) (by omega) _).mono ?_; rintro e w5 ⟨rfl, hb5⟩; unfold nrV; have hz5 := hb5.size; (try simp at hz5))))
          go_ret2
          exact ⟨by rw [hE.out]; rfl, (by repeat (first | (with_reducible exact Below.refl _ _) | (with_reducible refine Below.drew ?_) | ((with_reducible refine Below.alloc ?_ ?_ _); rotate_left; focus ((try simp) <;> omega)) | ((with_reducible refine Below.setCell ?_ ?_ _); rotate_left; focus ((try simp) <;> omega)) | ((with_reducible refine Below.trans ?_ (Below.mono (by assumption) ?_)); rotate_left; focus ((try simp) <;> omega))))⟩
        · have hE := Lib.hid (scV_ok hd hN hQ hb)
          go_wp2_with (first | (go_at_call 30; go_must (refine (narrow_any _ _ _ (by omega) (by omega) _).mono ?_; rintro e w5 ⟨rfl, hb5⟩; unfold nrV; have hz5 := hb5.size; (try simp at hz5))))
          go_ret2
          exact ⟨by rw [hE.out]; rfl, (by repeat (first | (with_reducible exact Below.refl _ _) | (with_reducible refine Below.drew ?_) | ((with_reducible refine Below.alloc ?_ ?_ _); rotate_left; focus ((try simp) <;> omega)) | ((with_reducible refine Below.setCell ?_ ?_ _); rotate_left; focus ((try simp) <;> omega)) | ((with_reducible refine Below.trans ?_ (Below.mono (by assumption) ?_)); rotate_left; focus ((try simp) <;> omega))))⟩
    · have heq : eqH (pH n m) (pL n m) 0 0 = false := by unfold eqH pH pL; simp; omega
      rcases hp : pN n m with _ | _ <;> by_cases hs : d < 0
      · have hN : sN n m d = true := by unfold sN; simp [hP, hp, hs]
        go_enter Tryd.func13, Tryd.ntmps13
        go_upto_region 5 with (first
          | (go_at_call 27; go_must (refine (mulb_any _ _ (by assumption) (by assumption) (by assumption) (by assumption) _).mono ?_; rintro e w1 ⟨rfl, hb1⟩; unfold pV; have hz1 := hb1.size; (try simp at hz1))))
        go_cut [10, 11] (fun s10 s11 wx => ∃ gq : Nat, s10 = .pointer (some ⟨gq, 0, none⟩) ∧ s11 = .bool (pP n m % sz d != 0) ∧ w1.heap.size < gq ∧ gq < wx.heap.size ∧
          wx.cell? ⟨gq, 0, none⟩ = some (.int .u64 (pP n m / sz d / 18446744073709551616)) ∧ wx.cell? ⟨gq, 1, none⟩ = some (.int .u64 (pP n m / sz d % 18446744073709551616)) ∧ (∀ o, wx.frozen? ⟨gq, o, none⟩ = false) ∧ Below w1.heap.size w1 wx)
        case first =>
          go_region_held3 (fun w' => w'.cell? ⟨w1.heap.size, 0, none⟩ = some (.int .u64 (pH n m)) ∧ w'.cell? ⟨w1.heap.size, 1, none⟩ = some (.int .u64 (pL n m)) ∧ w'.cell? ⟨w1.heap.size, 2, none⟩ = some (.bool (pN n m))) (go_keep)
            (first
              | (go_at_call 29; go_must (refine (size_any _ (by assumption) (by assumption) _).mono ?_; rintro e w2 ⟨rfl, rfl⟩))
              | (go_at_call 28; go_must (refine (divide_any _ _ _ _ (by assumption) (by assumption) (by assumption) (by assumption) (by assumption) (by assumption) _).mono ?_; rintro e w3 ⟨rfl, hb3⟩; unfold dvV; have hz3 := hb3.size; (try simp at hz3); obtain ⟨hc3, hf3⟩ := blk_at hb3 w1.heap.size (by (try simp) <;> omega); obtain ⟨hx3, hy3⟩ := (show (∀ b o, b < _ → w3.cell? ⟨b, o, none⟩ = _) ∧ (∀ b o, b < _ → w3.frozen? ⟨b, o, none⟩ = _) from ⟨fun b o h => hb3.cell (p := ⟨b, o, none⟩) h, fun b o h => hb3.frozen (p := ⟨b, o, none⟩) h⟩))))
          all_goals go_wp2_with fail
          all_goals go_meet
          all_goals first
            | (refine ⟨w3.heap.size, rfl, ?_, ?_, ?_, ?_, ?_, ?_, ?_⟩
               · exact congrArg (fun x : Int => Value.bool (x != 0)) v3.out
               · omega
               · simp
               · rw [← v1.out]; go_simp
               · rw [← v2.out]; go_simp
               · go_simp
               · exact (by repeat (first | (with_reducible exact Below.refl _ _) | (with_reducible refine Below.drew ?_) | ((with_reducible refine Below.alloc ?_ ?_ _); rotate_left; focus ((try simp) <;> omega)) | ((with_reducible refine Below.setCell ?_ ?_ _); rotate_left; focus ((try simp) <;> omega)) | ((with_reducible refine Below.trans ?_ (Below.mono (by assumption) ?_)); rotate_left; focus ((try simp) <;> omega)))))
            | (refine ⟨w1.heap.size + 1, rfl, ?_, ?_, ?_, ?_, ?_, ?_, ?_⟩
               · exact congrArg (fun x : Int => Value.bool (x != 0)) v3.out
               · omega
               · simp [World.setCell]; omega
               · rw [← v1.out]; go_simp
               · rw [← v2.out]; go_simp
               · go_simp
               · exact (by repeat (first | (with_reducible exact Below.refl _ _) | (with_reducible refine Below.drew ?_) | ((with_reducible refine Below.alloc ?_ ?_ _); rotate_left; focus ((try simp) <;> omega)) | ((with_reducible refine Below.setCell ?_ ?_ _); rotate_left; focus ((try simp) <;> omega)) | ((with_reducible refine Below.trans ?_ (Below.mono (by assumption) ?_)); rotate_left; focus ((try simp) <;> omega)))))
        case rest =>
          obtain ⟨gq, rfl, rfl, g1, g2, c0, c1, cf, hbx⟩ := hcut
          rcases hr : (pP n m % sz d != 0) with _ | _
          · have hQ : sQ n m d = pP n m / sz d := by unfold sQ; rw [hN, if_neg (by simp_all)]
            obtain ⟨q, hq⟩ : ∃ q, pP n m / sz d = q := ⟨_, rfl⟩
            rw [hq] at c0 c1 hQ
            rcases hb : nrB true (q / 18446744073709551616) (q % 18446744073709551616) with _ | _
            · have hE := Lib.hid (scV_no hd hN hQ hb)
              go_wp2_with (first | (go_at_call 30; go_must (refine (narrow_any _ _ _ (by omega) (by omega) _).mono ?_; rintro e w5 ⟨rfl, hb5⟩; unfold nrV; have hz5 := hb5.size; (try simp at hz5))))
              go_ret2
              exact ⟨by rw [hE.out]; rfl, (by repeat (first | (with_reducible exact Below.refl _ _) | (with_reducible refine Below.drew ?_) | ((with_reducible refine Below.alloc ?_ ?_ _); rotate_left; focus ((try simp) <;> omega)) | ((with_reducible refine Below.setCell ?_ ?_ _); rotate_left; focus ((try simp) <;> omega)) | ((with_reducible refine Below.trans ?_ (Below.mono (by assumption) ?_)); rotate_left; focus ((try simp) <;> omega))))⟩
            · have hE := Lib.hid (scV_ok hd hN hQ hb)
              go_wp2_with (first | (go_at_call 30; go_must (refine (narrow_any _ _ _ (by omega) (by omega) _).mono ?_; rintro e w5 ⟨rfl, hb5⟩; unfold nrV; have hz5 := hb5.size; (try simp at hz5))))
              go_ret2
              exact ⟨by rw [hE.out]; rfl, (by repeat (first | (with_reducible exact Below.refl _ _) | (with_reducible refine Below.drew ?_) | ((with_reducible refine Below.alloc ?_ ?_ _); rotate_left; focus ((try simp) <;> omega)) | ((with_reducible refine Below.setCell ?_ ?_ _); rotate_left; focus ((try simp) <;> omega)) | ((with_reducible refine Below.trans ?_ (Below.mono (by assumption) ?_)); rotate_left; focus ((try simp) <;> omega))))⟩
          · have hq3 : pP n m / sz d ≤ pP n m := Int.ediv_le_self _ p1
            have hq4 : 0 ≤ pP n m / sz d := Int.ediv_nonneg p1 (by omega)
            have hQ : sQ n m d = pP n m / sz d + 1 := by unfold sQ; rw [hN, if_pos (by simp_all)]
            obtain ⟨q, hq⟩ : ∃ q, pP n m / sz d = q := ⟨_, rfl⟩
            rw [hq] at c0 c1 hQ hq3 hq4
            replace hq := Lib.hid hq
            by_cases hmax : q % 18446744073709551616 = 18446744073709551615
            · have x1 : IntKind.u64.wrap (q % 18446744073709551616 + 1) = 0 := by rw [wrap_u64]; omega
              have x2 : IntKind.u64.wrap (q / 18446744073709551616 + 1) = q / 18446744073709551616 + 1 := by rw [wrap_u64]; omega
              have y1 : (q + 1) / 18446744073709551616 = q / 18446744073709551616 + 1 := by omega
              have y2 : (q + 1) % 18446744073709551616 = 0 := by omega
              rcases hb : nrB true ((q + 1) / 18446744073709551616) ((q + 1) % 18446744073709551616) with _ | _
              · have hE := Lib.hid (scV_no hd hN hQ hb)
                rw [y1, y2] at hb
                replace y1 := Lib.hid y1
                replace y2 := Lib.hid y2
                replace hmax := Lib.hid hmax
                go_wp2_with (first | (go_at_call 30; go_must (refine (narrow_any _ _ _ (by omega) (by omega) _).mono ?_; rintro e w5 ⟨rfl, hb5⟩; unfold nrV; have hz5 := hb5.size; (try simp at hz5))))
                go_ret2
                exact ⟨by rw [hE.out]; rfl, (by repeat (first | (with_reducible exact Below.refl _ _) | (with_reducible refine Below.drew ?_) | ((with_reducible refine Below.alloc ?_ ?_ _); rotate_left; focus ((try simp) <;> omega)) | ((with_reducible refine Below.setCell ?_ ?_ _); rotate_left; focus ((try simp) <;> omega)) | ((with_reducible refine Below.trans ?_ (Below.mono (by assumption) ?_)); rotate_left; focus ((try simp) <;> omega))))⟩
              · have hE := scV_ok hd hN hQ hb
                rw [y1, y2] at hb hE
                replace hE := Lib.hid hE
                replace y1 := Lib.hid y1
                replace y2 := Lib.hid y2
                replace hmax := Lib.hid hmax
                go_wp2_with (first | (go_at_call 30; go_must (refine (narrow_any _ _ _ (by omega) (by omega) _).mono ?_; rintro e w5 ⟨rfl, hb5⟩; unfold nrV; have hz5 := hb5.size; (try simp at hz5))))
                go_ret2
                exact ⟨by rw [hE.out]; rfl, (by repeat (first | (with_reducible exact Below.refl _ _) | (with_reducible refine Below.drew ?_) | ((with_reducible refine Below.alloc ?_ ?_ _); rotate_left; focus ((try simp) <;> omega)) | ((with_reducible refine Below.setCell ?_ ?_ _); rotate_left; focus ((try simp) <;> omega)) | ((with_reducible refine Below.trans ?_ (Below.mono (by assumption) ?_)); rotate_left; focus ((try simp) <;> omega))))⟩
            · have x1 : IntKind.u64.wrap (q % 18446744073709551616 + 1) = q % 18446744073709551616 + 1 := by rw [wrap_u64]; omega
              have y1 : (q + 1) / 18446744073709551616 = q / 18446744073709551616 := by omega
              have y2 : (q + 1) % 18446744073709551616 = q % 18446744073709551616 + 1 := by omega
              have x3 : (q % 18446744073709551616 + 1 == 0) = false := by simp; omega
              rcases hb : nrB true ((q + 1) / 18446744073709551616) ((q + 1) % 18446744073709551616) with _ | _
              · have hE := Lib.hid (scV_no hd hN hQ hb)
                rw [y1, y2] at hb
                replace y1 := Lib.hid y1
                replace y2 := Lib.hid y2
                go_wp2_with (first | (go_at_call 30; go_must (refine (narrow_any _ _ _ (by omega) (by omega) _).mono ?_; rintro e w5 ⟨rfl, hb5⟩; unfold nrV; have hz5 := hb5.size; (try simp at hz5))))
                go_ret2
                exact ⟨by rw [hE.out]; rfl, (by repeat (first | (with_reducible exact Below.refl _ _) | (with_reducible refine Below.drew ?_) | ((with_reducible refine Below.alloc ?_ ?_ _); rotate_left; focus ((try simp) <;> omega)) | ((with_reducible refine Below.setCell ?_ ?_ _); rotate_left; focus ((try simp) <;> omega)) | ((with_reducible refine Below.trans ?_ (Below.mono (by assumption) ?_)); rotate_left; focus ((try simp) <;> omega))))⟩
              · have hE := scV_ok hd hN hQ hb
                rw [y1, y2] at hb hE
                replace hE := Lib.hid hE
                replace y1 := Lib.hid y1
                replace y2 := Lib.hid y2
                go_wp2_with (first | (go_at_call 30; go_must (refine (narrow_any _ _ _ (by omega) (by omega) _).mono ?_; rintro e w5 ⟨rfl, hb5⟩; unfold nrV; have hz5 := hb5.size; (try simp at hz5))))
                go_ret2
                exact ⟨by rw [hE.out]; rfl, (by repeat (first | (with_reducible exact Below.refl _ _) | (with_reducible refine Below.drew ?_) | ((with_reducible refine Below.alloc ?_ ?_ _); rotate_left; focus ((try simp) <;> omega)) | ((with_reducible refine Below.setCell ?_ ?_ _); rotate_left; focus ((try simp) <;> omega)) | ((with_reducible refine Below.trans ?_ (Below.mono (by assumption) ?_)); rotate_left; focus ((try simp) <;> omega))))⟩
      · have hN : sN n m d = false := by unfold sN; simp [hP, hp, hs]
        have hsb : decide (d < 0) = false := by simp [hs]
        go_enter Tryd.func13, Tryd.ntmps13
        go_upto_region 5 with (first
          | (go_at_call 27; go_must (refine (mulb_any _ _ (by assumption) (by assumption) (by assumption) (by assumption) _).mono ?_; rintro e w1 ⟨rfl, hb1⟩; unfold pV; have hz1 := hb1.size; (try simp at hz1))))
        go_cut [10, 11] (fun s10 s11 wx => ∃ gq : Nat, s10 = .pointer (some ⟨gq, 0, none⟩) ∧ s11 = .bool (pP n m % sz d != 0) ∧ w1.heap.size < gq ∧ gq < wx.heap.size ∧
          wx.cell? ⟨gq, 0, none⟩ = some (.int .u64 (pP n m / sz d / 18446744073709551616)) ∧ wx.cell? ⟨gq, 1, none⟩ = some (.int .u64 (pP n m / sz d % 18446744073709551616)) ∧ (∀ o, wx.frozen? ⟨gq, o, none⟩ = false) ∧ Below w1.heap.size w1 wx)
        case first =>
          go_region_held3 (fun w' => w'.cell? ⟨w1.heap.size, 0, none⟩ = some (.int .u64 (pH n m)) ∧ w'.cell? ⟨w1.heap.size, 1, none⟩ = some (.int .u64 (pL n m)) ∧ w'.cell? ⟨w1.heap.size, 2, none⟩ = some (.bool (pN n m))) (go_keep)
            (first
              | (go_at_call 29; go_must (refine (size_any _ (by assumption) (by assumption) _).mono ?_; rintro e w2 ⟨rfl, rfl⟩))
              | (go_at_call 28; go_must (refine (divide_any _ _ _ _ (by assumption) (by assumption) (by assumption) (by assumption) (by assumption) (by assumption) _).mono ?_; rintro e w3 ⟨rfl, hb3⟩; unfold dvV; have hz3 := hb3.size; (try simp at hz3); obtain ⟨hc3, hf3⟩ := blk_at hb3 w1.heap.size (by (try simp) <;> omega); obtain ⟨hx3, hy3⟩ := (show (∀ b o, b < _ → w3.cell? ⟨b, o, none⟩ = _) ∧ (∀ b o, b < _ → w3.frozen? ⟨b, o, none⟩ = _) from ⟨fun b o h => hb3.cell (p := ⟨b, o, none⟩) h, fun b o h => hb3.frozen (p := ⟨b, o, none⟩) h⟩))))
          all_goals go_wp2_with fail
          all_goals go_meet
          all_goals first
            | (refine ⟨w3.heap.size, rfl, ?_, ?_, ?_, ?_, ?_, ?_, ?_⟩
               · exact congrArg (fun x : Int => Value.bool (x != 0)) v3.out
               · omega
               · simp
               · rw [← v1.out]; go_simp
               · rw [← v2.out]; go_simp
               · go_simp
               · exact (by repeat (first | (with_reducible exact Below.refl _ _) | (with_reducible refine Below.drew ?_) | ((with_reducible refine Below.alloc ?_ ?_ _); rotate_left; focus ((try simp) <;> omega)) | ((with_reducible refine Below.setCell ?_ ?_ _); rotate_left; focus ((try simp) <;> omega)) | ((with_reducible refine Below.trans ?_ (Below.mono (by assumption) ?_)); rotate_left; focus ((try simp) <;> omega)))))
            | (refine ⟨w1.heap.size + 1, rfl, ?_, ?_, ?_, ?_, ?_, ?_, ?_⟩
               · exact congrArg (fun x : Int => Value.bool (x != 0)) v3.out
               · omega
               · simp [World.setCell]; omega
               · rw [← v1.out]; go_simp
               · rw [← v2.out]; go_simp
               · go_simp
               · exact (by repeat (first | (with_reducible exact Below.refl _ _) | (with_reducible refine Below.drew ?_) | ((with_reducible refine Below.alloc ?_ ?_ _); rotate_left; focus ((try simp) <;> omega)) | ((with_reducible refine Below.setCell ?_ ?_ _); rotate_left; focus ((try simp) <;> omega)) | ((with_reducible refine Below.trans ?_ (Below.mono (by assumption) ?_)); rotate_left; focus ((try simp) <;> omega)))))
        case rest =>
          obtain ⟨gq, rfl, rfl, g1, g2, c0, c1, cf, hbx⟩ := hcut
          have hQ : sQ n m d = pP n m / sz d := by unfold sQ; rw [hN, if_neg (by simp_all)]
          obtain ⟨q, hq⟩ : ∃ q, pP n m / sz d = q := ⟨_, rfl⟩
          rw [hq] at c0 c1 hQ
          rcases hb : nrB false (q / 18446744073709551616) (q % 18446744073709551616) with _ | _
          · have hE := Lib.hid (scV_no hd hN hQ hb)
            go_wp2_with (first | (go_at_call 30; go_must (refine (narrow_any _ _ _ (by omega) (by omega) _).mono ?_; rintro e w5 ⟨rfl, hb5⟩; unfold nrV; have hz5 := hb5.size; (try simp at hz5))))
            go_ret2
            exact ⟨by rw [hE.out]; rfl, (by repeat (first | (with_reducible exact Below.refl _ _) | (with_reducible refine Below.drew ?_) | ((with_reducible refine Below.alloc ?_ ?_ _); rotate_left; focus ((try simp) <;> omega)) | ((with_reducible refine Below.setCell ?_ ?_ _); rotate_left; focus ((try simp) <;> omega)) | ((with_reducible refine Below.trans ?_ (Below.mono (by assumption) ?_)); rotate_left; focus ((try simp) <;> omega))))⟩
          · have hE := Lib.hid (scV_ok hd hN hQ hb)
            go_wp2_with (first | (go_at_call 30; go_must (refine (narrow_any _ _ _ (by omega) (by omega) _).mono ?_; rintro e w5 ⟨rfl, hb5⟩; unfold nrV; have hz5 := hb5.size; (try simp at hz5))))
            go_ret2
            exact ⟨by rw [hE.out]; rfl, (by repeat (first | (with_reducible exact Below.refl _ _) | (with_reducible refine Below.drew ?_) | ((with_reducible refine Below.alloc ?_ ?_ _); rotate_left; focus ((try simp) <;> omega)) | ((with_reducible refine Below.setCell ?_ ?_ _); rotate_left; focus ((try simp) <;> omega)) | ((with_reducible refine Below.trans ?_ (Below.mono (by assumption) ?_)); rotate_left; focus ((try simp) <;> omega))))⟩
      · have hN : sN n m d = false := by unfold sN; simp [hP, hp, hs]
        go_enter Tryd.func13, Tryd.ntmps13
        go_upto_region 5 with (first
          | (go_at_call 27; go_must (refine (mulb_any _ _ (by assumption) (by assumption) (by assumption) (by assumption) _).mono ?_; rintro e w1 ⟨rfl, hb1⟩; unfold pV; have hz1 := hb1.size; (try simp at hz1))))
        go_cut [10, 11] (fun s10 s11 wx => ∃ gq : Nat, s10 = .pointer (some ⟨gq, 0, none⟩) ∧ s11 = .bool (pP n m % sz d != 0) ∧ w1.heap.size < gq ∧ gq < wx.heap.size ∧
          wx.cell? ⟨gq, 0, none⟩ = some (.int .u64 (pP n m / sz d / 18446744073709551616)) ∧ wx.cell? ⟨gq, 1, none⟩ = some (.int .u64 (pP n m / sz d % 18446744073709551616)) ∧ (∀ o, wx.frozen? ⟨gq, o, none⟩ = false) ∧ Below w1.heap.size w1 wx)
        case first =>
          go_region_held3 (fun w' => w'.cell? ⟨w1.heap.size, 0, none⟩ = some (.int .u64 (pH n m)) ∧ w'.cell? ⟨w1.heap.size, 1, none⟩ = some (.int .u64 (pL n m)) ∧ w'.cell? ⟨w1.heap.size, 2, none⟩ = some (.bool (pN n m))) (go_keep)
            (first
              | (go_at_call 29; go_must (refine (size_any _ (by assumption) (by assumption) _).mono ?_; rintro e w2 ⟨rfl, rfl⟩))
              | (go_at_call 28; go_must (refine (divide_any _ _ _ _ (by assumption) (by assumption) (by assumption) (by assumption) (by assumption) (by assumption) _).mono ?_; rintro e w3 ⟨rfl, hb3⟩; unfold dvV; have hz3 := hb3.size; (try simp at hz3); obtain ⟨hc3, hf3⟩ := blk_at hb3 w1.heap.size (by (try simp) <;> omega); obtain ⟨hx3, hy3⟩ := (show (∀ b o, b < _ → w3.cell? ⟨b, o, none⟩ = _) ∧ (∀ b o, b < _ → w3.frozen? ⟨b, o, none⟩ = _) from ⟨fun b o h => hb3.cell (p := ⟨b, o, none⟩) h, fun b o h => hb3.frozen (p := ⟨b, o, none⟩) h⟩))))
          all_goals go_wp2_with fail
          all_goals go_meet
          all_goals first
            | (refine ⟨w3.heap.size, rfl, ?_, ?_, ?_, ?_, ?_, ?_, ?_⟩
               · exact congrArg (fun x : Int => Value.bool (x != 0)) v3.out
               · omega
               · simp
               · rw [← v1.out]; go_simp
               · rw [← v2.out]; go_simp
               · go_simp
               · exact (by repeat (first | (with_reducible exact Below.refl _ _) | (with_reducible refine Below.drew ?_) | ((with_reducible refine Below.alloc ?_ ?_ _); rotate_left; focus ((try simp) <;> omega)) | ((with_reducible refine Below.setCell ?_ ?_ _); rotate_left; focus ((try simp) <;> omega)) | ((with_reducible refine Below.trans ?_ (Below.mono (by assumption) ?_)); rotate_left; focus ((try simp) <;> omega)))))
            | (refine ⟨w1.heap.size + 1, rfl, ?_, ?_, ?_, ?_, ?_, ?_, ?_⟩
               · exact congrArg (fun x : Int => Value.bool (x != 0)) v3.out
               · omega
               · simp [World.setCell]; omega
               · rw [← v1.out]; go_simp
               · rw [← v2.out]; go_simp
               · go_simp
               · exact (by repeat (first | (with_reducible exact Below.refl _ _) | (with_reducible refine Below.drew ?_) | ((with_reducible refine Below.alloc ?_ ?_ _); rotate_left; focus ((try simp) <;> omega)) | ((with_reducible refine Below.setCell ?_ ?_ _); rotate_left; focus ((try simp) <;> omega)) | ((with_reducible refine Below.trans ?_ (Below.mono (by assumption) ?_)); rotate_left; focus ((try simp) <;> omega)))))
        case rest =>
          obtain ⟨gq, rfl, rfl, g1, g2, c0, c1, cf, hbx⟩ := hcut
          have hQ : sQ n m d = pP n m / sz d := by unfold sQ; rw [hN, if_neg (by simp_all)]
          obtain ⟨q, hq⟩ : ∃ q, pP n m / sz d = q := ⟨_, rfl⟩
          rw [hq] at c0 c1 hQ
          rcases hb : nrB false (q / 18446744073709551616) (q % 18446744073709551616) with _ | _
          · have hE := Lib.hid (scV_no hd hN hQ hb)
            go_wp2_with (first | (go_at_call 30; go_must (refine (narrow_any _ _ _ (by omega) (by omega) _).mono ?_; rintro e w5 ⟨rfl, hb5⟩; unfold nrV; have hz5 := hb5.size; (try simp at hz5))))
            go_ret2
            exact ⟨by rw [hE.out]; rfl, (by repeat (first | (with_reducible exact Below.refl _ _) | (with_reducible refine Below.drew ?_) | ((with_reducible refine Below.alloc ?_ ?_ _); rotate_left; focus ((try simp) <;> omega)) | ((with_reducible refine Below.setCell ?_ ?_ _); rotate_left; focus ((try simp) <;> omega)) | ((with_reducible refine Below.trans ?_ (Below.mono (by assumption) ?_)); rotate_left; focus ((try simp) <;> omega))))⟩
          · have hE := Lib.hid (scV_ok hd hN hQ hb)
            go_wp2_with (first | (go_at_call 30; go_must (refine (narrow_any _ _ _ (by omega) (by omega) _).mono ?_; rintro e w5 ⟨rfl, hb5⟩; unfold nrV; have hz5 := hb5.size; (try simp at hz5))))
            go_ret2
            exact ⟨by rw [hE.out]; rfl, (by repeat (first | (with_reducible exact Below.refl _ _) | (with_reducible refine Below.drew ?_) | ((with_reducible refine Below.alloc ?_ ?_ _); rotate_left; focus ((try simp) <;> omega)) | ((with_reducible refine Below.setCell ?_ ?_ _); rotate_left; focus ((try simp) <;> omega)) | ((with_reducible refine Below.trans ?_ (Below.mono (by assumption) ?_)); rotate_left; focus ((try simp) <;> omega))))⟩
      · have hN : sN n m d = true := by unfold sN; simp [hP, hp, hs]
        have hsb : decide (d < 0) = false := by simp [hs]
        go_enter Tryd.func13, Tryd.ntmps13
        go_upto_region 5 with (first
          | (go_at_call 27; go_must (refine (mulb_any _ _ (by assumption) (by assumption) (by assumption) (by assumption) _).mono ?_; rintro e w1 ⟨rfl, hb1⟩; unfold pV; have hz1 := hb1.size; (try simp at hz1))))
        go_cut [10, 11] (fun s10 s11 wx => ∃ gq : Nat, s10 = .pointer (some ⟨gq, 0, none⟩) ∧ s11 = .bool (pP n m % sz d != 0) ∧ w1.heap.size < gq ∧ gq < wx.heap.size ∧
          wx.cell? ⟨gq, 0, none⟩ = some (.int .u64 (pP n m / sz d / 18446744073709551616)) ∧ wx.cell? ⟨gq, 1, none⟩ = some (.int .u64 (pP n m / sz d % 18446744073709551616)) ∧ (∀ o, wx.frozen? ⟨gq, o, none⟩ = false) ∧ Below w1.heap.size w1 wx)
        case first =>
          go_region_held3 (fun w' => w'.cell? ⟨w1.heap.size, 0, none⟩ = some (.int .u64 (pH n m)) ∧ w'.cell? ⟨w1.heap.size, 1, none⟩ = some (.int .u64 (pL n m)) ∧ w'.cell? ⟨w1.heap.size, 2, none⟩ = some (.bool (pN n m))) (go_keep)
            (first
              | (go_at_call 29; go_must (refine (size_any _ (by assumption) (by assumption) _).mono ?_; rintro e w2 ⟨rfl, rfl⟩))
              | (go_at_call 28; go_must (refine (divide_any _ _ _ _ (by assumption) (by assumption) (by assumption) (by assumption) (by assumption) (by assumption) _).mono ?_; rintro e w3 ⟨rfl, hb3⟩; unfold dvV; have hz3 := hb3.size; (try simp at hz3); obtain ⟨hc3, hf3⟩ := blk_at hb3 w1.heap.size (by (try simp) <;> omega); obtain ⟨hx3, hy3⟩ := (show (∀ b o, b < _ → w3.cell? ⟨b, o, none⟩ = _) ∧ (∀ b o, b < _ → w3.frozen? ⟨b, o, none⟩ = _) from ⟨fun b o h => hb3.cell (p := ⟨b, o, none⟩) h, fun b o h => hb3.frozen (p := ⟨b, o, none⟩) h⟩))))
          all_goals go_wp2_with fail
          all_goals go_meet
          all_goals first
            | (refine ⟨w3.heap.size, rfl, ?_, ?_, ?_, ?_, ?_, ?_, ?_⟩
               · exact congrArg (fun x : Int => Value.bool (x != 0)) v3.out
               · omega
               · simp
               · rw [← v1.out]; go_simp
               · rw [← v2.out]; go_simp
               · go_simp
               · exact (by repeat (first | (with_reducible exact Below.refl _ _) | (with_reducible refine Below.drew ?_) | ((with_reducible refine Below.alloc ?_ ?_ _); rotate_left; focus ((try simp) <;> omega)) | ((with_reducible refine Below.setCell ?_ ?_ _); rotate_left; focus ((try simp) <;> omega)) | ((with_reducible refine Below.trans ?_ (Below.mono (by assumption) ?_)); rotate_left; focus ((try simp) <;> omega)))))
            | (refine ⟨w1.heap.size + 1, rfl, ?_, ?_, ?_, ?_, ?_, ?_, ?_⟩
               · exact congrArg (fun x : Int => Value.bool (x != 0)) v3.out
               · omega
               · simp [World.setCell]; omega
               · rw [← v1.out]; go_simp
               · rw [← v2.out]; go_simp
               · go_simp
               · exact (by repeat (first | (with_reducible exact Below.refl _ _) | (with_reducible refine Below.drew ?_) | ((with_reducible refine Below.alloc ?_ ?_ _); rotate_left; focus ((try simp) <;> omega)) | ((with_reducible refine Below.setCell ?_ ?_ _); rotate_left; focus ((try simp) <;> omega)) | ((with_reducible refine Below.trans ?_ (Below.mono (by assumption) ?_)); rotate_left; focus ((try simp) <;> omega)))))
        case rest =>
          obtain ⟨gq, rfl, rfl, g1, g2, c0, c1, cf, hbx⟩ := hcut
          rcases hr : (pP n m % sz d != 0) with _ | _
          · have hQ : sQ n m d = pP n m / sz d := by unfold sQ; rw [hN, if_neg (by simp_all)]
            obtain ⟨q, hq⟩ : ∃ q, pP n m / sz d = q := ⟨_, rfl⟩
            rw [hq] at c0 c1 hQ
            rcases hb : nrB true (q / 18446744073709551616) (q % 18446744073709551616) with _ | _
            · have hE := Lib.hid (scV_no hd hN hQ hb)
              go_wp2_with (first | (go_at_call 30; go_must (refine (narrow_any _ _ _ (by omega) (by omega) _).mono ?_; rintro e w5 ⟨rfl, hb5⟩; unfold nrV; have hz5 := hb5.size; (try simp at hz5))))
              go_ret2
              exact ⟨by rw [hE.out]; rfl, (by repeat (first | (with_reducible exact Below.refl _ _) | (with_reducible refine Below.drew ?_) | ((with_reducible refine Below.alloc ?_ ?_ _); rotate_left; focus ((try simp) <;> omega)) | ((with_reducible refine Below.setCell ?_ ?_ _); rotate_left; focus ((try simp) <;> omega)) | ((with_reducible refine Below.trans ?_ (Below.mono (by assumption) ?_)); rotate_left; focus ((try simp) <;> omega))))⟩
            · have hE := Lib.hid (scV_ok hd hN hQ hb)
              go_wp2_with (first | (go_at_call 30; go_must (refine (narrow_any _ _ _ (by omega) (by omega) _).mono ?_; rintro e w5 ⟨rfl, hb5⟩; unfold nrV; have hz5 := hb5.size; (try simp at hz5))))
              go_ret2
              exact ⟨by rw [hE.out]; rfl, (by repeat (first | (with_reducible exact Below.refl _ _) | (with_reducible refine Below.drew ?_) | ((with_reducible refine Below.alloc ?_ ?_ _); rotate_left; focus ((try simp) <;> omega)) | ((with_reducible refine Below.setCell ?_ ?_ _); rotate_left; focus ((try simp) <;> omega)) | ((with_reducible refine Below.trans ?_ (Below.mono (by assumption) ?_)); rotate_left; focus ((try simp) <;> omega))))⟩
          · have hq3 : pP n m / sz d ≤ pP n m := Int.ediv_le_self _ p1
            have hq4 : 0 ≤ pP n m / sz d := Int.ediv_nonneg p1 (by omega)
            have hQ : sQ n m d = pP n m / sz d + 1 := by unfold sQ; rw [hN, if_pos (by simp_all)]
            obtain ⟨q, hq⟩ : ∃ q, pP n m / sz d = q := ⟨_, rfl⟩
            rw [hq] at c0 c1 hQ hq3 hq4
            replace hq := Lib.hid hq
            by_cases hmax : q % 18446744073709551616 = 18446744073709551615
            · have x1 : IntKind.u64.wrap (q % 18446744073709551616 + 1) = 0 := by rw [wrap_u64]; omega
              have x2 : IntKind.u64.wrap (q / 18446744073709551616 + 1) = q / 18446744073709551616 + 1 := by rw [wrap_u64]; omega
              have y1 : (q + 1) / 18446744073709551616 = q / 18446744073709551616 + 1 := by omega
              have y2 : (q + 1) % 18446744073709551616 = 0 := by omega
              rcases hb : nrB true ((q + 1) / 18446744073709551616) ((q + 1) % 18446744073709551616) with _ | _
              · have hE := Lib.hid (scV_no hd hN hQ hb)
                rw [y1, y2] at hb
                replace y1 := Lib.hid y1
                replace y2 := Lib.hid y2
                replace hmax := Lib.hid hmax
                go_wp2_with (first | (go_at_call 30; go_must (refine (narrow_any _ _ _ (by omega) (by omega) _).mono ?_; rintro e w5 ⟨rfl, hb5⟩; unfold nrV; have hz5 := hb5.size; (try simp at hz5))))
                go_ret2
                exact ⟨by rw [hE.out]; rfl, (by repeat (first | (with_reducible exact Below.refl _ _) | (with_reducible refine Below.drew ?_) | ((with_reducible refine Below.alloc ?_ ?_ _); rotate_left; focus ((try simp) <;> omega)) | ((with_reducible refine Below.setCell ?_ ?_ _); rotate_left; focus ((try simp) <;> omega)) | ((with_reducible refine Below.trans ?_ (Below.mono (by assumption) ?_)); rotate_left; focus ((try simp) <;> omega))))⟩
              · have hE := scV_ok hd hN hQ hb
                rw [y1, y2] at hb hE
                replace hE := Lib.hid hE
                replace y1 := Lib.hid y1
                replace y2 := Lib.hid y2
                replace hmax := Lib.hid hmax
                go_wp2_with (first | (go_at_call 30; go_must (refine (narrow_any _ _ _ (by omega) (by omega) _).mono ?_; rintro e w5 ⟨rfl, hb5⟩; unfold nrV; have hz5 := hb5.size; (try simp at hz5))))
                go_ret2
                exact ⟨by rw [hE.out]; rfl, (by repeat (first | (with_reducible exact Below.refl _ _) | (with_reducible refine Below.drew ?_) | ((with_reducible refine Below.alloc ?_ ?_ _); rotate_left; focus ((try simp) <;> omega)) | ((with_reducible refine Below.setCell ?_ ?_ _); rotate_left; focus ((try simp) <;> omega)) | ((with_reducible refine Below.trans ?_ (Below.mono (by assumption) ?_)); rotate_left; focus ((try simp) <;> omega))))⟩
            · have x1 : IntKind.u64.wrap (q % 18446744073709551616 + 1) = q % 18446744073709551616 + 1 := by rw [wrap_u64]; omega
              have y1 : (q + 1) / 18446744073709551616 = q / 18446744073709551616 := by omega
              have y2 : (q + 1) % 18446744073709551616 = q % 18446744073709551616 + 1 := by omega
              have x3 : (q % 18446744073709551616 + 1 == 0) = false := by simp; omega
              rcases hb : nrB true ((q + 1) / 18446744073709551616) ((q + 1) % 18446744073709551616) with _ | _
              · have hE := Lib.hid (scV_no hd hN hQ hb)
                rw [y1, y2] at hb
                replace y1 := Lib.hid y1
                replace y2 := Lib.hid y2
                go_wp2_with (first | (go_at_call 30; go_must (refine (narrow_any _ _ _ (by omega) (by omega) _).mono ?_; rintro e w5 ⟨rfl, hb5⟩; unfold nrV; have hz5 := hb5.size; (try simp at hz5))))
                go_ret2
                exact ⟨by rw [hE.out]; rfl, (by repeat (first | (with_reducible exact Below.refl _ _) | (with_reducible refine Below.drew ?_) | ((with_reducible refine Below.alloc ?_ ?_ _); rotate_left; focus ((try simp) <;> omega)) | ((with_reducible refine Below.setCell ?_ ?_ _); rotate_left; focus ((try simp) <;> omega)) | ((with_reducible refine Below.trans ?_ (Below.mono (by assumption) ?_)); rotate_left; focus ((try simp) <;> omega))))⟩
              · have hE := scV_ok hd hN hQ hb
                rw [y1, y2] at hb hE
                replace hE := Lib.hid hE
                replace y1 := Lib.hid y1
                replace y2 := Lib.hid y2
                go_wp2_with (first | (go_at_call 30; go_must (refine (narrow_any _ _ _ (by omega) (by omega) _).mono ?_; rintro e w5 ⟨rfl, hb5⟩; unfold nrV; have hz5 := hb5.size; (try simp at hz5))))
                go_ret2
                exact ⟨by rw [hE.out]; rfl, (by repeat (first | (with_reducible exact Below.refl _ _) | (with_reducible refine Below.drew ?_) | ((with_reducible refine Below.alloc ?_ ?_ _); rotate_left; focus ((try simp) <;> omega)) | ((with_reducible refine Below.setCell ?_ ?_ _); rotate_left; focus ((try simp) <;> omega)) | ((with_reducible refine Below.trans ?_ (Below.mono (by assumption) ?_)); rotate_left; focus ((try simp) <;> omega))))⟩

end Go.Proofs.YtddepmelnemniaaDoor.Num
