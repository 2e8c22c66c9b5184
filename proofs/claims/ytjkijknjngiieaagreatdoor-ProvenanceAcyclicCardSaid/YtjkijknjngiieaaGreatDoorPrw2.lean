/-
  The walks of provenance: sizes of inputs; whether a link is in order, by the program.
-/
import Derived.Test.YtjkijknjngiieaaGreatDoorPrw1


namespace Go.Proofs.YtjkijknjngiieaaGreatDoor
open Go.RowKit

/-- A link whose texts and lists are not larger than a machine's. -/
structure MildK (x : Lkr) : Prop where
  run : x.run.1.size < 4294967281
  job : x.job.1.size < 4294967281
  name : x.name.1.size < 4294967281
  len : x.ins.length ≤ 1000000
  ins : ∀ y ∈ x.ins, y.name.1.size < 4294967281
theorem MildK.nm {x : Lkr} (h : MildK x) : x.job.1.size + x.name.1.size + 1 ≤ 9223372036854775807 := by have h1 := h.job; have h2 := h.name; omega
set_option maxRecDepth 100000 in
set_option maxHeartbeats 2000000 in
theorem idxo_any (A : Option Addr) (c : Nat) (l : List OutR) (w : World) (hr : Rw outRE 3 w w.heap.size A l) (hn : l.length ≤ 9223372036854775807) :
    Calls Tryz.prog 90 #[.slice A l.length c, .func (.func 64) #[] #[]] w fun e w' => ∃ i : Int, e = .returned (.int .i64 i) ∧ decide (0 ≤ i) = !(l.all fun x => sizeB x.size.1) ∧ Below w.heap.size w w' := by
  have e45 : ∀ args w, (callFunc 64 args).run Tryz.prog w = .ok (.enter 64 args) w := enters_of Tryz.func64 (by kernel_rfl) rfl
  have hcl0 := fun (x : OutR) W => chk1_any x W
  replace hr := Lib.hid hr
  go_enter Tryz.func90, Tryz.ntmps90
  go_wp2_with fail
  go_loopw [5, 8] (fun _ vi wr => ∃ k : Nat, k ≤ l.length ∧ vi = .int .i64 (k : Int) ∧ (l.take k).all (fun x => sizeB x.size.1) = true ∧ Below w.heap.size w wr) (fun _ vi _ => l.length - (intOf vi).toNat)
  case atStart => exact ⟨0, Nat.zero_le _, rfl, rfl, Below.refl _ _⟩
  case round =>
    obtain ⟨k, hk, rfl, ht, hbw⟩ := hrel
    have hz := hbw.size
    replace ht := Lib.hid ht
    by_cases hkl : k < l.length
    · obtain ⟨y, hy⟩ := get_some hkl
      obtain ⟨g, o, rfl, hg, hq⟩ := hr.out (by omega)
      have q0 := (hbw.cell (p := ⟨g, o + k * 3 + 0, none⟩) hg).trans (hq k y hy 0 (.string y.name.1) rfl)
      rw [Nat.add_zero] at q0
      have q1 := (hbw.cell (p := ⟨g, o + k * 3 + 1, none⟩) hg).trans (hq k y hy 1 (.int .u64 y.digest.1) rfl)
      have q2 := (hbw.cell (p := ⟨g, o + k * 3 + 2, none⟩) hg).trans (hq k y hy 2 (.int .i64 y.size.1) rfl)
      clear hq
      have i0 : (0 : Int) ≤ (k : Int) := by omega
      have i1 : (k : Int) < (l.length : Int) := by omega
      have hcx := hcl0 y
      rcases he : sizeB y.size.1 with _ | _
      · have hf : Hid (decide ((0 : Int) ≤ (k : Int)) = !(l.all fun x => sizeB x.size.1)) := Lib.hid (by rw [all_no (p := fun x => sizeB x.size.1) hy he, decide_eq_true i0]; rfl)
        rw [he] at hcx
        have hcl := Lib.hid hcx
        clear hcx
        replace hy := Lib.hid hy
        replace he := Lib.hid he
        go_wp2_with (go_at_fn 64; go_must (refine (hcl.out _).mono ?_; rintro e w2 ⟨rfl, hb2⟩; have hz2 := hb2.size; (try simp at hz2)))
        go_ret
        exact ⟨_, rfl, hf.out, (by repeat (first | (with_reducible exact Below.refl _ _) | (with_reducible refine Below.drew ?_) | (with_reducible refine below_drewN ?_ _) | ((with_reducible refine Below.alloc ?_ ?_ _); rotate_left; focus ((try simp) <;> omega)) | ((with_reducible refine Below.setCell ?_ ?_ _); rotate_left; focus ((try simp) <;> omega)) | ((with_reducible refine Below.trans ?_ (Below.mono (by assumption) ?_)); rotate_left; focus ((try simp) <;> omega))))⟩
      · have hnx : Hid ((l.take (k + 1)).all (fun x => sizeB x.size.1) = true) := Lib.hid (all_at hy ht.out he)
        rw [he] at hcx
        have hcl := Lib.hid hcx
        clear hcx
        replace hy := Lib.hid hy
        replace he := Lib.hid he
        go_wp2_with (go_at_fn 64; go_must (refine (hcl.out _).mono ?_; rintro e w2 ⟨rfl, hb2⟩; have hz2 := hb2.size; (try simp at hz2)))
        go_roundw
        case rel => exact ⟨k + 1, by omega, by go_num, hnx.out, (by repeat (first | (with_reducible exact Below.refl _ _) | (with_reducible refine Below.drew ?_) | (with_reducible refine below_drewN ?_ _) | ((with_reducible refine Below.alloc ?_ ?_ _); rotate_left; focus ((try simp) <;> omega)) | ((with_reducible refine Below.setCell ?_ ?_ _); rotate_left; focus ((try simp) <;> omega)) | ((with_reducible refine Below.trans ?_ (Below.mono (by assumption) ?_)); rotate_left; focus ((try simp) <;> omega))))⟩
        case measure => simp [intOf]; omega
    · have i1 : ¬ (k : Int) < (l.length : Int) := by omega
      have hf : Hid (decide ((0 : Int) ≤ -1) = !(l.all fun x => sizeB x.size.1)) := Lib.hid (by have h := ht.out; rw [List.take_of_length_le (by omega)] at h; rw [h]; rfl)
      go_wp2_with fail
      go_ret
      exact ⟨_, rfl, hf.out, hbw⟩
theorem anyo_any (A : Option Addr) (c : Nat) (l : List OutR) (w : World) (hr : Rw outRE 3 w w.heap.size A l) (hn : l.length ≤ 9223372036854775807) :
    Calls Tryz.prog 63 #[.slice A l.length c, .func (.func 64) #[] #[]] w fun e w' => e = .returned (.bool (!(l.all fun x => sizeB x.size.1))) ∧ Below w.heap.size w w' := by
  have hc := Lib.hid (idxo_any A c l w hr hn)
  clear hr
  go_enter Tryz.func63, Tryz.ntmps63
  go_wp2_with (go_at_call 90; go_must (refine hc.out.mono ?_; rintro e w2 ⟨i, rfl, hi, hb2⟩; replace hi := Lib.hid hi))
  go_ret
  exact ⟨by rw [← hi.out]; rfl, hb2⟩
set_option maxRecDepth 100000 in
set_option maxHeartbeats 4000000 in
theorem formed_any (x : Lkr) (w : World) (hx : LabLkr w w.heap.size x) (hG : Glob w) (hm : MildK x) :
    Calls Tryz.prog 61 #[.agg #[.string x.run.1, .string x.job.1, .int .i64 x.attempt.1, .int .u64 x.spec.1, .slice x.insA x.ins.length x.insC, .string x.name.1, .int .u64 x.digest.1, .int .i64 x.size.1]] w fun e w' => e = .returned (.bool (rightB x.h)) ∧ Below w.heap.size w w' := by
  have hp10 := fun W (hb : Below w.heap.size w W) => parts_any x.run W (hG.keep hb) hm.run
  have hp20 := fun W (hb : Below w.heap.size w W) => parts_any x.job W (hG.keep hb) hm.job
  have hnb0 : ∀ W, Calls Tryz.prog 89 #[.string x.name.1] W fun e w' => e = .returned (.bool (nameB x.name.1)) ∧ Below W.heap.size W w' := fun W => (name_any x.name.1 W x.name.2).mono fun _ _ h => ⟨h.1, h.2.toBelow⟩
  have hln0 := fun W => lname_any x W hm.nm
  have hins := Lib.hid hm.ins
  have hlen := hm.len
  have hhd : headB x.h = (decide (pathE x.run = 0) && decide (pathE x.job = 0) && nameB x.name.1 && decide ((nameL x.h).1.size ≤ 512)) := rfl
  have hrt := right_of x.h
  have hrow := hx.2.2
  rw [hhd] at hrt
  clear hhd
  obtain ⟨R, hR⟩ : ∃ R, rightB x.h = R := ⟨_, rfl⟩
  obtain ⟨P1, hP1⟩ : ∃ P, pathE x.run = P := ⟨_, rfl⟩
  obtain ⟨P2, hP2⟩ : ∃ P, pathE x.job = P := ⟨_, rfl⟩
  obtain ⟨N, hN⟩ : ∃ N, nameB x.name.1 = N := ⟨_, rfl⟩
  obtain ⟨L, hL⟩ : ∃ L, (nameL x.h).1 = L := ⟨_, rfl⟩
  rw [hP1] at hp10 hrt
  rw [hP2] at hp20 hrt
  rw [hN] at hnb0 hrt
  rw [hL] at hln0 hrt
  rw [hR] at hrt ⊢
  obtain ⟨A, hA⟩ : ∃ A, x.insA = A := ⟨_, rfl⟩
  rw [hA] at hrow hln0 ⊢
  have hp1 := Lib.hid hp10
  have hnb := Lib.hid hnb0
  have hln := Lib.hid hln0
  replace hrow := Lib.hid hrow
  replace hG := Lib.hid hG
  clear hp10 hnb0 hln0 hP1 hP2 hN hL hR hA hx hm
  by_cases h1 : P1 = 0
  rotate_left
  · have hf : Hid (R = false) := Lib.hid (by rw [hrt, decide_eq_false h1]; simp)
    have hpb1 : (P1 != 0) = true := by rw [bne_iff_ne]; exact h1
    have hp2 := Lib.hid hp20
    clear hp20 hrt
    go_enter Tryz.func61, Tryz.ntmps61
    go_upto_region 2 with (go_at_call 74; go_must (refine (hp1.out _ (by repeat (first | (with_reducible exact Below.refl _ _) | (with_reducible refine Below.drew ?_) | (with_reducible refine below_drewN ?_ _) | ((with_reducible refine Below.alloc ?_ ?_ _); rotate_left; focus ((try simp) <;> omega)) | ((with_reducible refine Below.setCell ?_ ?_ _); rotate_left; focus ((try simp) <;> omega)) | ((with_reducible refine Below.trans ?_ (Below.mono (by assumption) ?_)); rotate_left; focus ((try simp) <;> omega))))).mono ?_; rintro e w1 ⟨A1, c1, rfl, -, -, hb1⟩; have hz1 := hb1.size; (try simp at hz1); obtain ⟨hc1, hf1⟩ := blk_at hb1 w.heap.size (by (try simp) <;> omega)))
    go_wp2_with (go_at_call 74; go_must (refine (hp2.out _ (by repeat (first | (with_reducible exact Below.refl _ _) | (with_reducible refine Below.drew ?_) | (with_reducible refine below_drewN ?_ _) | ((with_reducible refine Below.alloc ?_ ?_ _); rotate_left; focus ((try simp) <;> omega)) | ((with_reducible refine Below.setCell ?_ ?_ _); rotate_left; focus ((try simp) <;> omega)) | ((with_reducible refine Below.trans ?_ (Below.mono (by assumption) ?_)); rotate_left; focus ((try simp) <;> omega))))).mono ?_; rintro e w2 ⟨A2, c2, rfl, -, -, hb2⟩; have hz2 := hb2.size; (try simp at hz2); obtain ⟨hc2, hf2⟩ := blk_at hb2 w.heap.size (by (try simp) <;> omega)))
    go_ret
    exact ⟨by rw [hf.out]; rfl, (by repeat (first | (with_reducible exact Below.refl _ _) | (with_reducible refine Below.drew ?_) | (with_reducible refine below_drewN ?_ _) | ((with_reducible refine Below.alloc ?_ ?_ _); rotate_left; focus ((try simp) <;> omega)) | ((with_reducible refine Below.setCell ?_ ?_ _); rotate_left; focus ((try simp) <;> omega)) | ((with_reducible refine Below.trans ?_ (Below.mono (by assumption) ?_)); rotate_left; focus ((try simp) <;> omega))))⟩
  subst h1
  by_cases h2 : P2 = 0
  rotate_left
  · have hf : Hid (R = false) := Lib.hid (by rw [hrt, decide_eq_false h2]; simp)
    have hpb2 : (P2 != 0) = true := by rw [bne_iff_ne]; exact h2
    have hp2 := Lib.hid hp20
    clear hp20 hrt
    go_enter Tryz.func61, Tryz.ntmps61
    go_upto_region 2 with (go_at_call 74; go_must (refine (hp1.out _ (by repeat (first | (with_reducible exact Below.refl _ _) | (with_reducible refine Below.drew ?_) | (with_reducible refine below_drewN ?_ _) | ((with_reducible refine Below.alloc ?_ ?_ _); rotate_left; focus ((try simp) <;> omega)) | ((with_reducible refine Below.setCell ?_ ?_ _); rotate_left; focus ((try simp) <;> omega)) | ((with_reducible refine Below.trans ?_ (Below.mono (by assumption) ?_)); rotate_left; focus ((try simp) <;> omega))))).mono ?_; rintro e w1 ⟨A1, c1, rfl, -, -, hb1⟩; have hz1 := hb1.size; (try simp at hz1); obtain ⟨hc1, hf1⟩ := blk_at hb1 w.heap.size (by (try simp) <;> omega)))
    go_wp2_with (go_at_call 74; go_must (refine (hp2.out _ (by repeat (first | (with_reducible exact Below.refl _ _) | (with_reducible refine Below.drew ?_) | (with_reducible refine below_drewN ?_ _) | ((with_reducible refine Below.alloc ?_ ?_ _); rotate_left; focus ((try simp) <;> omega)) | ((with_reducible refine Below.setCell ?_ ?_ _); rotate_left; focus ((try simp) <;> omega)) | ((with_reducible refine Below.trans ?_ (Below.mono (by assumption) ?_)); rotate_left; focus ((try simp) <;> omega))))).mono ?_; rintro e w2 ⟨A2, c2, rfl, -, -, hb2⟩; have hz2 := hb2.size; (try simp at hz2); obtain ⟨hc2, hf2⟩ := blk_at hb2 w.heap.size (by (try simp) <;> omega)))
    go_ret
    exact ⟨by rw [hf.out]; rfl, (by repeat (first | (with_reducible exact Below.refl _ _) | (with_reducible refine Below.drew ?_) | (with_reducible refine below_drewN ?_ _) | ((with_reducible refine Below.alloc ?_ ?_ _); rotate_left; focus ((try simp) <;> omega)) | ((with_reducible refine Below.setCell ?_ ?_ _); rotate_left; focus ((try simp) <;> omega)) | ((with_reducible refine Below.trans ?_ (Below.mono (by assumption) ?_)); rotate_left; focus ((try simp) <;> omega))))⟩
  subst h2
  have hp2 := Lib.hid hp20
  clear hp20
  rcases N with _ | _
  · have hf : Hid (R = false) := Lib.hid (by rw [hrt]; simp)
    clear hrt
    go_enter Tryz.func61, Tryz.ntmps61
    go_upto_region 2 with (go_at_call 74; go_must (refine (hp1.out _ (by repeat (first | (with_reducible exact Below.refl _ _) | (with_reducible refine Below.drew ?_) | (with_reducible refine below_drewN ?_ _) | ((with_reducible refine Below.alloc ?_ ?_ _); rotate_left; focus ((try simp) <;> omega)) | ((with_reducible refine Below.setCell ?_ ?_ _); rotate_left; focus ((try simp) <;> omega)) | ((with_reducible refine Below.trans ?_ (Below.mono (by assumption) ?_)); rotate_left; focus ((try simp) <;> omega))))).mono ?_; rintro e w1 ⟨A1, c1, rfl, -, -, hb1⟩; have hz1 := hb1.size; (try simp at hz1); obtain ⟨hc1, hf1⟩ := blk_at hb1 w.heap.size (by (try simp) <;> omega)))
    go_wp2_with (first | (go_at_call 74; go_must (refine (hp2.out _ (by repeat (first | (with_reducible exact Below.refl _ _) | (with_reducible refine Below.drew ?_) | (with_reducible refine below_drewN ?_ _) | ((with_reducible refine Below.alloc ?_ ?_ _); rotate_left; focus ((try simp) <;> omega)) | ((with_reducible refine Below.setCell ?_ ?_ _); rotate_left; focus ((try simp) <;> omega)) | ((with_reducible refine Below.trans ?_ (Below.mono (by assumption) ?_)); rotate_left; focus ((try simp) <;> omega))))).mono ?_; rintro e w2 ⟨A2, c2, rfl, -, -, hb2⟩; have hz2 := hb2.size; (try simp at hz2); obtain ⟨hc2, hf2⟩ := blk_at hb2 w.heap.size (by (try simp) <;> omega))) | (go_at_call 89; go_must (refine (hnb.out _).mono ?_; rintro e w3 ⟨rfl, hb3⟩; have hz3 := hb3.size; (try simp at hz3); obtain ⟨hc3, hf3⟩ := blk_at hb3 w.heap.size (by (try simp) <;> omega))))
    go_ret
    exact ⟨by rw [hf.out]; rfl, (by repeat (first | (with_reducible exact Below.refl _ _) | (with_reducible refine Below.drew ?_) | (with_reducible refine below_drewN ?_ _) | ((with_reducible refine Below.alloc ?_ ?_ _); rotate_left; focus ((try simp) <;> omega)) | ((with_reducible refine Below.setCell ?_ ?_ _); rotate_left; focus ((try simp) <;> omega)) | ((with_reducible refine Below.trans ?_ (Below.mono (by assumption) ?_)); rotate_left; focus ((try simp) <;> omega))))⟩
  by_cases h4 : L.size ≤ 512
  rotate_left
  · have hf : Hid (R = false) := Lib.hid (by rw [hrt, decide_eq_false h4]; simp)
    have h4z : (512 : Int) < (L.size : Int) := by omega
    clear hrt
    go_enter Tryz.func61, Tryz.ntmps61
    go_upto_region 2 with (go_at_call 74; go_must (refine (hp1.out _ (by repeat (first | (with_reducible exact Below.refl _ _) | (with_reducible refine Below.drew ?_) | (with_reducible refine below_drewN ?_ _) | ((with_reducible refine Below.alloc ?_ ?_ _); rotate_left; focus ((try simp) <;> omega)) | ((with_reducible refine Below.setCell ?_ ?_ _); rotate_left; focus ((try simp) <;> omega)) | ((with_reducible refine Below.trans ?_ (Below.mono (by assumption) ?_)); rotate_left; focus ((try simp) <;> omega))))).mono ?_; rintro e w1 ⟨A1, c1, rfl, -, -, hb1⟩; have hz1 := hb1.size; (try simp at hz1); obtain ⟨hc1, hf1⟩ := blk_at hb1 w.heap.size (by (try simp) <;> omega)))
    go_wp2_with (first | (go_at_call 74; go_must (refine (hp2.out _ (by repeat (first | (with_reducible exact Below.refl _ _) | (with_reducible refine Below.drew ?_) | (with_reducible refine below_drewN ?_ _) | ((with_reducible refine Below.alloc ?_ ?_ _); rotate_left; focus ((try simp) <;> omega)) | ((with_reducible refine Below.setCell ?_ ?_ _); rotate_left; focus ((try simp) <;> omega)) | ((with_reducible refine Below.trans ?_ (Below.mono (by assumption) ?_)); rotate_left; focus ((try simp) <;> omega))))).mono ?_; rintro e w2 ⟨A2, c2, rfl, -, -, hb2⟩; have hz2 := hb2.size; (try simp at hz2); obtain ⟨hc2, hf2⟩ := blk_at hb2 w.heap.size (by (try simp) <;> omega))) | (go_at_call 89; go_must (refine (hnb.out _).mono ?_; rintro e w3 ⟨rfl, hb3⟩; have hz3 := hb3.size; (try simp at hz3); obtain ⟨hc3, hf3⟩ := blk_at hb3 w.heap.size (by (try simp) <;> omega))) | (go_at_call 46; go_must (refine (hln.out _).mono ?_; rintro e w4 ⟨rfl, hb4⟩; have hz4 := hb4.size; (try simp at hz4); obtain ⟨hc4, hf4⟩ := blk_at hb4 w.heap.size (by (try simp) <;> omega))))
    go_ret
    exact ⟨by rw [hf.out]; rfl, (by repeat (first | (with_reducible exact Below.refl _ _) | (with_reducible refine Below.drew ?_) | (with_reducible refine below_drewN ?_ _) | ((with_reducible refine Below.alloc ?_ ?_ _); rotate_left; focus ((try simp) <;> omega)) | ((with_reducible refine Below.setCell ?_ ?_ _); rotate_left; focus ((try simp) <;> omega)) | ((with_reducible refine Below.trans ?_ (Below.mono (by assumption) ?_)); rotate_left; focus ((try simp) <;> omega))))⟩
  have h4z : ¬ (512 : Int) < (L.size : Int) := by omega
  have hrt2 : Hid (x.ins.all inB = R) := Lib.hid (by rw [hrt, decide_eq_true h4]; rfl)
  clear hrt
  go_enter Tryz.func61, Tryz.ntmps61
  go_upto_region 2 with (go_at_call 74; go_must (refine (hp1.out _ (by repeat (first | (with_reducible exact Below.refl _ _) | (with_reducible refine Below.drew ?_) | (with_reducible refine below_drewN ?_ _) | ((with_reducible refine Below.alloc ?_ ?_ _); rotate_left; focus ((try simp) <;> omega)) | ((with_reducible refine Below.setCell ?_ ?_ _); rotate_left; focus ((try simp) <;> omega)) | ((with_reducible refine Below.trans ?_ (Below.mono (by assumption) ?_)); rotate_left; focus ((try simp) <;> omega))))).mono ?_; rintro e w1 ⟨A1, c1, rfl, -, -, hb1⟩; have hz1 := hb1.size; (try simp at hz1); obtain ⟨hc1, hf1⟩ := blk_at hb1 w.heap.size (by (try simp) <;> omega)))
  go_wp2_with (first | (go_at_call 74; go_must (refine (hp2.out _ (by repeat (first | (with_reducible exact Below.refl _ _) | (with_reducible refine Below.drew ?_) | (with_reducible refine below_drewN ?_ _) | ((with_reducible refine Below.alloc ?_ ?_ _); rotate_left; focus ((try simp) <;> omega)) | ((with_reducible refine Below.setCell ?_ ?_ _); rotate_left; focus ((try simp) <;> omega)) | ((with_reducible refine Below.trans ?_ (Below.mono (by assumption) ?_)); rotate_left; focus ((try simp) <;> omega))))).mono ?_; rintro e w2 ⟨A2, c2, rfl, -, -, hb2⟩; have hz2 := hb2.size; (try simp at hz2); obtain ⟨hc2, hf2⟩ := blk_at hb2 w.heap.size (by (try simp) <;> omega))) | (go_at_call 89; go_must (refine (hnb.out _).mono ?_; rintro e w3 ⟨rfl, hb3⟩; have hz3 := hb3.size; (try simp at hz3); obtain ⟨hc3, hf3⟩ := blk_at hb3 w.heap.size (by (try simp) <;> omega))) | (go_at_call 46; go_must (refine (hln.out _).mono ?_; rintro e w4 ⟨rfl, hb4⟩; have hz4 := hb4.size; (try simp at hz4); obtain ⟨hc4, hf4⟩ := blk_at hb4 w.heap.size (by (try simp) <;> omega))))
  have hb0 : Hid (Below w.heap.size w w4) := Lib.hid (by repeat (first | (with_reducible exact Below.refl _ _) | (with_reducible refine Below.drew ?_) | (with_reducible refine below_drewN ?_ _) | ((with_reducible refine Below.alloc ?_ ?_ _); rotate_left; focus ((try simp) <;> omega)) | ((with_reducible refine Below.setCell ?_ ?_ _); rotate_left; focus ((try simp) <;> omega)) | ((with_reducible refine Below.trans ?_ (Below.mono (by assumption) ?_)); rotate_left; focus ((try simp) <;> omega))))
  go_loopw [47] (fun vi wr => ∃ k : Nat, k ≤ x.ins.length ∧ vi = .int .i64 (k : Int) ∧ (x.ins.take k).all inB = true ∧ Below w.heap.size w wr) (fun vi _ => x.ins.length - (intOf vi).toNat)
  case atStart => exact ⟨0, Nat.zero_le _, rfl, rfl, hb0.out⟩
  case round =>
    obtain ⟨k, hk, rfl, ht, hbw⟩ := hrel
    clear hc1 hc2 hc3 hc4 hf1 hf2 hf3 hf4 hb1 hb2 hb3 hb4 hz1 hz2 hz3 hz4
    have hz := hbw.size
    by_cases hkl : k < x.ins.length
    · obtain ⟨y, hy⟩ := get_some hkl
      obtain ⟨g, o, rfl, hg, hq⟩ := hrow.out (by omega)
      have q0 := (hbw.cell (p := ⟨g, o + k * 3 + 0, none⟩) hg).trans (hq k y hy 0 (.string y.name.1) rfl)
      rw [Nat.add_zero] at q0
      have q1 := (hbw.cell (p := ⟨g, o + k * 3 + 1, none⟩) hg).trans (hq k y hy 1 (.int .u64 y.digest.1) rfl)
      have q2 := (hbw.cell (p := ⟨g, o + k * 3 + 2, none⟩) hg).trans (hq k y hy 2 (.int .i64 y.size.1) rfl)
      clear hq
      have i0 : (0 : Int) ≤ (k : Int) := by omega
      have i1 : (k : Int) < (x.ins.length : Int) := by omega
      have hys := hins.out y (List.mem_of_getElem? hy)
      have hfi0 := fun W (hb : Below w.heap.size w W) => file_any y.name W (hG.out.keep hb) hys
      have har0 := fun W (hb : Below w.heap.size w W) => artifact_any y.name W (hG.out.keep hb) hys
      have hnx := fun h => all_at (p := inB) hy ht h
      have hno := fun h => all_no (p := inB) hy h
      have hib : inB y = ((fileS y.name).isSome || artB y.name) := rfl
      rw [hrt2.out] at hno
      generalize inB y = I at hnx hno hib
      generalize (fileS y.name).isSome = FI at hfi0 hib
      generalize artB y.name = AR at har0 hib
      have hfi := Lib.hid hfi0
      have har := Lib.hid har0
      clear hfi0 har0
      replace hy := Lib.hid hy
      replace ht := Lib.hid ht
      rcases FI with _ | _
      · rcases AR with _ | _
        · have hf : Hid (R = false) := Lib.hid (hno (by rw [hib]; rfl))
          clear hnx hno hib
          go_wp2_with (first
            | (go_at_call 41; go_must (refine (hfi.out _ (by repeat (first | (with_reducible exact Below.refl _ _) | (with_reducible refine Below.drew ?_) | (with_reducible refine below_drewN ?_ _) | ((with_reducible refine Below.alloc ?_ ?_ _); rotate_left; focus ((try simp) <;> omega)) | ((with_reducible refine Below.setCell ?_ ?_ _); rotate_left; focus ((try simp) <;> omega)) | ((with_reducible refine Below.trans ?_ (Below.mono (by assumption) ?_)); rotate_left; focus ((try simp) <;> omega))))).mono ?_; rintro e w5 ⟨rfl, hb5⟩; have hz5 := hb5.size; (try simp at hz5); have hk5 : wr.heap.size < w5.heap.size := (by omega); obtain ⟨hc5, hf5⟩ := blk_at hb5 wr.heap.size (by (try simp) <;> omega)))
            | (go_at_call 66; go_must (refine (har.out _ (by repeat (first | (with_reducible exact Below.refl _ _) | (with_reducible refine Below.drew ?_) | (with_reducible refine below_drewN ?_ _) | ((with_reducible refine Below.alloc ?_ ?_ _); rotate_left; focus ((try simp) <;> omega)) | ((with_reducible refine Below.setCell ?_ ?_ _); rotate_left; focus ((try simp) <;> omega)) | ((with_reducible refine Below.trans ?_ (Below.mono (by assumption) ?_)); rotate_left; focus ((try simp) <;> omega))))).mono ?_; rintro e w6 ⟨rfl, hb6⟩; have hz6 := hb6.size; (try simp at hz6))))
          go_ret
          exact ⟨by rw [hf.out]; rfl, (by repeat (first | (with_reducible exact Below.refl _ _) | (with_reducible refine Below.drew ?_) | (with_reducible refine below_drewN ?_ _) | ((with_reducible refine Below.alloc ?_ ?_ _); rotate_left; focus ((try simp) <;> omega)) | ((with_reducible refine Below.setCell ?_ ?_ _); rotate_left; focus ((try simp) <;> omega)) | ((with_reducible refine Below.trans ?_ (Below.mono (by assumption) ?_)); rotate_left; focus ((try simp) <;> omega))))⟩
        · have hn2 := Lib.hid (hnx (by rw [hib]; rfl))
          clear hnx hno hib
          go_wp2_with (first
            | (go_at_call 41; go_must (refine (hfi.out _ (by repeat (first | (with_reducible exact Below.refl _ _) | (with_reducible refine Below.drew ?_) | (with_reducible refine below_drewN ?_ _) | ((with_reducible refine Below.alloc ?_ ?_ _); rotate_left; focus ((try simp) <;> omega)) | ((with_reducible refine Below.setCell ?_ ?_ _); rotate_left; focus ((try simp) <;> omega)) | ((with_reducible refine Below.trans ?_ (Below.mono (by assumption) ?_)); rotate_left; focus ((try simp) <;> omega))))).mono ?_; rintro e w5 ⟨rfl, hb5⟩; have hz5 := hb5.size; (try simp at hz5); have hk5 : wr.heap.size < w5.heap.size := (by omega); obtain ⟨hc5, hf5⟩ := blk_at hb5 wr.heap.size (by (try simp) <;> omega)))
            | (go_at_call 66; go_must (refine (har.out _ (by repeat (first | (with_reducible exact Below.refl _ _) | (with_reducible refine Below.drew ?_) | (with_reducible refine below_drewN ?_ _) | ((with_reducible refine Below.alloc ?_ ?_ _); rotate_left; focus ((try simp) <;> omega)) | ((with_reducible refine Below.setCell ?_ ?_ _); rotate_left; focus ((try simp) <;> omega)) | ((with_reducible refine Below.trans ?_ (Below.mono (by assumption) ?_)); rotate_left; focus ((try simp) <;> omega))))).mono ?_; rintro e w6 ⟨rfl, hb6⟩; have hz6 := hb6.size; (try simp at hz6))))
          go_roundw
          case rel => exact ⟨k + 1, by omega, by go_num, hn2.out, (by repeat (first | (with_reducible exact Below.refl _ _) | (with_reducible refine Below.drew ?_) | (with_reducible refine below_drewN ?_ _) | ((with_reducible refine Below.alloc ?_ ?_ _); rotate_left; focus ((try simp) <;> omega)) | ((with_reducible refine Below.setCell ?_ ?_ _); rotate_left; focus ((try simp) <;> omega)) | ((with_reducible refine Below.trans ?_ (Below.mono (by assumption) ?_)); rotate_left; focus ((try simp) <;> omega))))⟩
          case measure => simp [intOf]; omega
      · have hn2 := Lib.hid (hnx (by rw [hib]; rfl))
        clear hnx hno hib
        go_wp2_with (go_at_call 41; go_must (refine (hfi.out _ (by repeat (first | (with_reducible exact Below.refl _ _) | (with_reducible refine Below.drew ?_) | (with_reducible refine below_drewN ?_ _) | ((with_reducible refine Below.alloc ?_ ?_ _); rotate_left; focus ((try simp) <;> omega)) | ((with_reducible refine Below.setCell ?_ ?_ _); rotate_left; focus ((try simp) <;> omega)) | ((with_reducible refine Below.trans ?_ (Below.mono (by assumption) ?_)); rotate_left; focus ((try simp) <;> omega))))).mono ?_; rintro e w5 ⟨rfl, hb5⟩; have hz5 := hb5.size; (try simp at hz5)))
        go_roundw
        case rel => exact ⟨k + 1, by omega, by go_num, hn2.out, (by repeat (first | (with_reducible exact Below.refl _ _) | (with_reducible refine Below.drew ?_) | (with_reducible refine below_drewN ?_ _) | ((with_reducible refine Below.alloc ?_ ?_ _); rotate_left; focus ((try simp) <;> omega)) | ((with_reducible refine Below.setCell ?_ ?_ _); rotate_left; focus ((try simp) <;> omega)) | ((with_reducible refine Below.trans ?_ (Below.mono (by assumption) ?_)); rotate_left; focus ((try simp) <;> omega))))⟩
        case measure => simp [intOf]; omega
    · have i1 : ¬ (k : Int) < (x.ins.length : Int) := by omega
      have hf : Hid (R = true) := Lib.hid (by rw [← hrt2.out]; rwa [List.take_of_length_le (by omega)] at ht)
      replace ht := Lib.hid ht
      go_wp2_with fail
      go_ret
      exact ⟨by rw [hf.out]; rfl, hbw⟩
end Go.Proofs.YtjkijknjngiieaaGreatDoor
