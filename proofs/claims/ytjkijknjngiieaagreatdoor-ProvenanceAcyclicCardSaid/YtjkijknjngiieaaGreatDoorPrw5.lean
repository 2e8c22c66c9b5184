/-
  The walks of provenance: the error for which a link is not added, by the program: the rest.
-/
import Derived.Test.YtjkijknjngiieaaGreatDoorPrw4


namespace Go.Proofs.YtjkijknjngiieaaGreatDoor
open Go.RowKit

/-- A link's box, as the walk carries it. -/
def Box8 (x : Lkr) (IA : Option Addr) (W : World) (b : Nat) : Prop := W.cell? ⟨b, 0, none⟩ = some (.string x.run.1) ∧ W.cell? ⟨b, 1, none⟩ = some (.string x.job.1) ∧ W.cell? ⟨b, 2, none⟩ = some (.int .i64 x.attempt.1) ∧ W.cell? ⟨b, 3, none⟩ = some (.int .u64 x.spec.1) ∧ W.cell? ⟨b, 4, none⟩ = some (.slice IA x.ins.length x.insC) ∧ W.cell? ⟨b, 5, none⟩ = some (.string x.name.1) ∧ W.cell? ⟨b, 6, none⟩ = some (.int .u64 x.digest.1) ∧ W.cell? ⟨b, 7, none⟩ = some (.int .i64 x.size.1)
set_option maxRecDepth 100000 in
set_option maxHeartbeats 8000000 in
theorem check_rest (A : Option Addr) (c : Nat) (l : List Lkr) (b n : Nat) (x : Lkr) (w : World) (hr : Rw lkrE 8 w w.heap.size A l) (hn : l.length ≤ 1000000) (hmp : MapI Tryz.prog 86 3 w b n (ixF (l.map Lkr.h))) (hx : LabLkr w w.heap.size x) (hG : Glob w) (hm : MildK x) (h1 : rightB x.h = true) (h2 : rangeB x.h = true) : Calls Tryz.prog 33 #[.slice A l.length c, .map (some b), .agg #[.string x.run.1, .string x.job.1, .int .i64 x.attempt.1, .int .u64 x.spec.1, .slice x.insA x.ins.length x.insC, .string x.name.1, .int .u64 x.digest.1, .int .i64 x.size.1]] w fun e w' => e = .returned (.int .i64 (lnkErr (l.map Lkr.h) x.h)) ∧ Below w.heap.size w w' := by
  have hfo0 := fun W (hb : Below w.heap.size w W) => formed_any x W ((hx.below hb (Nat.le_refl _)).more hb.size) (hG.keep hb) hm
  rw [h1] at hfo0
  have hfo := Lib.hid hfo0
  have hsz0 : ∀ W, Calls Tryz.prog 62 #[.agg #[.string x.name.1, .int .u64 x.digest.1, .int .i64 x.size.1]] W fun e w' => e = .returned (.bool (sizeB x.size.1)) ∧ Below W.heap.size W w' := fun W => sized_any ⟨x.name, x.digest, x.size⟩ W
  have han0 := fun W (hb : Below w.heap.size w W) => anyo_any x.insA x.insC x.ins W ((hx.2.2.below hb (Nat.le_refl _)).more hb.size) (by have := hm.len; omega)
  have hrg := range_of x.h
  rw [headR_of, h2] at hrg
  change true = (_ && x.ins.all fun y => sizeB y.size.1) at hrg
  have hrg2 := hrg.symm
  simp only [Bool.and_eq_true, decide_eq_true_eq] at hrg2
  obtain ⟨⟨⟨a1, a2⟩, a3⟩, a4⟩ := hrg2
  rw [a3] at hsz0
  rw [a4] at han0
  have hsz := Lib.hid hsz0
  have han := Lib.hid han0
  have b1 : ¬ x.attempt.1 < 1 := by omega
  have b2 : ¬ 16 < x.attempt.1 := by omega
  have hR := lerr_rest (ls := l.map Lkr.h) h1 h2
  change _ = if ascB x.ins = false then 22 else if hasL (l.map Lkr.h) x.run (nameL x.h) = true then 7 else if insErr (l.map Lkr.h) x.run x.ins ≠ 0 then insErr (l.map Lkr.h) x.run x.ins else if 4096 ≤ (l.map Lkr.h).length then 21 else 0 at hR
  rw [List.length_map] at hR
  generalize lnkErr (l.map Lkr.h) x.h = R at *
  replace hR := Lib.hid hR
  have hln := Lib.hid (fun W => lname_any x W hm.nm)
  have hlen := hm.len
  have hins := Lib.hid hm.ins
  have hrow := hx.2.2
  have hblt := hmp.lt
  have hGl := Lib.hid hG
  have hmpl := Lib.hid hmp
  have hrl := Lib.hid hr
  have hrw := Lib.hid hrow
  clear hfo0 hsz0 han0 hrg a1 a2 a3 a4 h1 h2 hm hx hG hmp hr hrow
  generalize x.insA = IA at hfo han hln hrw ⊢
  go_enter Tryz.func33, Tryz.ntmps33
  go_wp2_with (first | (go_at_call 61; go_must (refine (hfo.out _ (by repeat (first | (with_reducible exact Below.refl _ _) | (with_reducible refine Below.drew ?_) | (with_reducible refine below_drewN ?_ _) | ((with_reducible refine Below.alloc ?_ ?_ _); rotate_left; focus ((try simp) <;> omega)) | ((with_reducible refine Below.setCell ?_ ?_ _); rotate_left; focus ((try simp) <;> omega)) | ((with_reducible refine Below.trans ?_ (Below.mono (by assumption) ?_)); rotate_left; focus ((try simp) <;> omega))))).mono ?_; rintro e w1 ⟨rfl, hb1⟩; have hz1 := hb1.size; (try simp at hz1); obtain ⟨hc1, hf1⟩ := blk_at hb1 w.heap.size (by (try simp) <;> omega))) | (go_at_call 62; go_must (refine (hsz.out _).mono ?_; rintro e w2 ⟨rfl, hb2⟩; have hz2 := hb2.size; (try simp at hz2); obtain ⟨hc2, hf2⟩ := blk_at hb2 w.heap.size (by (try simp) <;> omega))) | (go_at_call 63; go_must (refine (han.out _ (by repeat (first | (with_reducible exact Below.refl _ _) | (with_reducible refine Below.drew ?_) | (with_reducible refine below_drewN ?_ _) | ((with_reducible refine Below.alloc ?_ ?_ _); rotate_left; focus ((try simp) <;> omega)) | ((with_reducible refine Below.setCell ?_ ?_ _); rotate_left; focus ((try simp) <;> omega)) | ((with_reducible refine Below.trans ?_ (Below.mono (by assumption) ?_)); rotate_left; focus ((try simp) <;> omega))))).mono ?_; rintro e w3 ⟨rfl, hb3⟩; have hz3 := hb3.size; (try simp at hz3); obtain ⟨hc3, hf3⟩ := blk_at hb3 w.heap.size (by (try simp) <;> omega))))
  have hb0 : Hid (Below w.heap.size w w3) := Lib.hid (by repeat (first | (with_reducible exact Below.refl _ _) | (with_reducible refine Below.drew ?_) | (with_reducible refine below_drewN ?_ _) | ((with_reducible refine Below.alloc ?_ ?_ _); rotate_left; focus ((try simp) <;> omega)) | ((with_reducible refine Below.setCell ?_ ?_ _); rotate_left; focus ((try simp) <;> omega)) | ((with_reducible refine Below.trans ?_ (Below.mono (by assumption) ?_)); rotate_left; focus ((try simp) <;> omega))))
  have hx0 : Hid (Box8 x IA w3 w.heap.size) := Lib.hid ⟨by go_simp, by go_simp, by go_simp, by go_simp, by go_simp, by go_simp, by go_simp, by go_simp⟩
  have hz0 : w.heap.size < w3.heap.size := by omega
  clear hc1 hc2 hc3 hf1 hf2 hf3 hb1 hb2 hb3 hz1 hz2 hz3
  go_loopw [7] (fun vi wr => ∃ j : Nat, vi = .int .i64 ((j : Int) + 1) ∧ (j + 1 ≤ x.ins.length ∨ j = 0) ∧ ascTo x.ins (j + 1) ∧ Box8 x IA wr w.heap.size ∧ w.heap.size < wr.heap.size ∧ Below w.heap.size w wr) (fun vi _ => x.ins.length - (intOf vi).toNat)
  case atStart => exact ⟨0, rfl, .inr rfl, asc_one _, hx0.out, hz0, hb0.out⟩
  case round =>
    obtain ⟨j, rfl, hj, has, hbox, hzr, hbw⟩ := hrel
    have hz := hbw.size
    have hbx2 := hbox
    obtain ⟨p0, p1, p2, p3, p4, p5, p6, p7⟩ := hbox
    replace hbx2 := Lib.hid hbx2
    by_cases hjl : j + 1 < x.ins.length
    · obtain ⟨y, hy⟩ := get_some (show j < x.ins.length by omega)
      obtain ⟨y2, hy2⟩ := get_some hjl
      obtain ⟨g, o, hA, hg, hq⟩ := hrw.out (by omega)
      rw [hA] at p4
      have q0 := (hbw.cell (p := ⟨g, o + j * 3 + 0, none⟩) hg).trans (hq j y (by assumption) 0 (.string y.name.1) rfl)
      rw [Nat.add_zero] at q0
      have q1 := (hbw.cell (p := ⟨g, o + j * 3 + 1, none⟩) hg).trans (hq j y (by assumption) 1 (.int .u64 y.digest.1) rfl)
      have q2 := (hbw.cell (p := ⟨g, o + j * 3 + 2, none⟩) hg).trans (hq j y (by assumption) 2 (.int .i64 y.size.1) rfl)
      have r0 := (hbw.cell (p := ⟨g, o + (j + 1) * 3 + 0, none⟩) hg).trans (hq (j + 1) y2 (by assumption) 0 (.string y2.name.1) rfl)
      rw [Nat.add_zero] at r0
      have r1 := (hbw.cell (p := ⟨g, o + (j + 1) * 3 + 1, none⟩) hg).trans (hq (j + 1) y2 (by assumption) 1 (.int .u64 y2.digest.1) rfl)
      have r2 := (hbw.cell (p := ⟨g, o + (j + 1) * 3 + 2, none⟩) hg).trans (hq (j + 1) y2 (by assumption) 2 (.int .i64 y2.size.1) rfl)
      clear hq q1 q2 r1 r2
      have i0 : (0 : Int) ≤ (j : Int) := by omega
      have i1 : (j : Int) < (x.ins.length : Int) := by omega
      have i2 : (j : Int) + 1 < (x.ins.length : Int) := by omega
      have i3 : (0 : Int) ≤ (j : Int) + 1 := by omega
      have hw1 : IntKind.i64.wrap ((j : Int) + 1 - 1) = (j : Int) := by rw [Int.add_sub_cancel]; exact IntWalk.i64_in _ (by omega)
      have hw2 : IntKind.i64.wrap (j : Int) = (j : Int) := IntWalk.i64_in _ (by omega)
      have hgr : g < wr.heap.size := by omega
      obtain ⟨C, hC⟩ : ∃ C, cmpS y.name y2.name = C := ⟨_, rfl⟩
      have hcm : Hid (∀ W, Calls Tryz.prog 65 #[.string y.name.1, .string y2.name.1] W fun e w' => e = .returned (.int .i64 C) ∧ Below W.heap.size W w') := Lib.hid fun W => (compare_any _ _ y.name.2 y2.name.2 W).mono fun _ _ h => ⟨by rw [h.1, ← hC]; rfl, h.2.toBelow⟩
      by_cases hc : C < 0
      · have hnx := Lib.hid (asc_next has hy hy2 (by rw [hC]; exact hc))
        replace hA := Lib.hid hA
        replace hy := Lib.hid hy
        replace hy2 := Lib.hid hy2
        replace hC := Lib.hid hC
        replace has := Lib.hid has
        go_upto_region 8 with fail
        go_cut [57] (fun s57 wx => s57 = .bool false ∧ Below wr.heap.size wr wx)
        case first =>
          go_region_held3 (fun w' => w'.cell? ⟨w.heap.size, 4, none⟩ = some (.slice (some ⟨g, o, none⟩) x.ins.length x.insC) ∧ w'.cell? ⟨g, o + j * 3, none⟩ = some (.string y.name.1) ∧ w'.cell? ⟨g, o + (j + 1) * 3, none⟩ = some (.string y2.name.1)) (first | (go_keep; done) | (go_simp; done) | go_keep)
            (first
            | (go_at_call 65; go_must (refine (hcm.out _).mono ?_; rintro e w5 ⟨rfl, hb5⟩; have hz5 := hb5.size; obtain ⟨e3, f3⟩ := blk_at hb5 g (by (try simp) <;> omega); obtain ⟨e4, f4⟩ := blk_at hb5 w.heap.size (by (try simp) <;> omega)))
            | fail "none")
          all_goals (go_wp2_with fail; go_meet)
          all_goals exact ⟨by first | rfl | (simp; omega), (by repeat (first | (with_reducible exact Below.refl _ _) | (with_reducible refine Below.drew ?_) | (with_reducible refine below_drewN ?_ _) | ((with_reducible refine Below.alloc ?_ ?_ _); rotate_left; focus ((try simp) <;> omega)) | ((with_reducible refine Below.setCell ?_ ?_ _); rotate_left; focus ((try simp) <;> omega)) | ((with_reducible refine Below.trans ?_ (Below.mono (by assumption) ?_)); rotate_left; focus ((try simp) <;> omega))))⟩
        case rest =>
          obtain ⟨rfl, hbx⟩ := hcut
          have hzx := hbx.size
          have hbn : Hid (Box8 x IA wc w.heap.size) := Lib.hid (by
            obtain ⟨m0, m1, m2, m3, m4, m5, m6, m7⟩ := hbx2.out
            obtain ⟨e5, _⟩ := blk_at hbx w.heap.size hzr
            exact ⟨(e5 _).trans m0, (e5 _).trans m1, (e5 _).trans m2, (e5 _).trans m3, (e5 _).trans m4, (e5 _).trans m5, (e5 _).trans m6, (e5 _).trans m7⟩)
          go_wp2_with fail
          go_roundw
          case rel => exact ⟨j + 1, by go_num, .inl (by omega), hnx.out, hbn.out, by omega, hbw.trans (hbx.mono hz)⟩
          case measure => simp [intOf]; omega
      · have hf : Hid (R = 22) := Lib.hid (by rw [hR.out, if_pos (asc_fail hy hy2 (by rw [hC]; exact hc))])
        replace hA := Lib.hid hA
        replace hy := Lib.hid hy
        replace hy2 := Lib.hid hy2
        replace hC := Lib.hid hC
        replace has := Lib.hid has
        go_upto_region 8 with fail
        go_cut [57] (fun s57 wx => s57 = .bool true ∧ Below wr.heap.size wr wx)
        case first =>
          go_region_held3 (fun w' => w'.cell? ⟨w.heap.size, 4, none⟩ = some (.slice (some ⟨g, o, none⟩) x.ins.length x.insC) ∧ w'.cell? ⟨g, o + j * 3, none⟩ = some (.string y.name.1) ∧ w'.cell? ⟨g, o + (j + 1) * 3, none⟩ = some (.string y2.name.1)) (first | (go_keep; done) | (go_simp; done) | go_keep)
            (first
            | (go_at_call 65; go_must (refine (hcm.out _).mono ?_; rintro e w5 ⟨rfl, hb5⟩; have hz5 := hb5.size; obtain ⟨e3, f3⟩ := blk_at hb5 g (by (try simp) <;> omega); obtain ⟨e4, f4⟩ := blk_at hb5 w.heap.size (by (try simp) <;> omega)))
            | fail "none")
          all_goals (go_wp2_with fail; go_meet)
          all_goals exact ⟨by first | rfl | (simp; omega), (by repeat (first | (with_reducible exact Below.refl _ _) | (with_reducible refine Below.drew ?_) | (with_reducible refine below_drewN ?_ _) | ((with_reducible refine Below.alloc ?_ ?_ _); rotate_left; focus ((try simp) <;> omega)) | ((with_reducible refine Below.setCell ?_ ?_ _); rotate_left; focus ((try simp) <;> omega)) | ((with_reducible refine Below.trans ?_ (Below.mono (by assumption) ?_)); rotate_left; focus ((try simp) <;> omega))))⟩
        case rest =>
          obtain ⟨rfl, hbx⟩ := hcut
          have hzx := hbx.size
          go_wp2_with fail
          go_ret
          exact ⟨by rw [hf.out]; rfl, hbw.trans (hbx.mono hz)⟩
    · have i2 : ¬ (j : Int) + 1 < (x.ins.length : Int) := by omega
      have hasc := asc_all has (by omega)
      have hR2 := hR.out
      rw [if_neg (by rw [hasc]; decide)] at hR2
      have hat := ixF_at (l.map Lkr.h) x.run (nameL x.h)
      clear hR
      replace hasc := Lib.hid hasc
      replace has := Lib.hid has
      rcases hh : hasL (l.map Lkr.h) x.run (nameL x.h) with _ | _
      rotate_left
      · have hf : Hid (R = 7) := Lib.hid (by rw [hR2, if_pos hh])
        rw [if_pos hh] at hat
        generalize (idxL (l.map Lkr.h) x.run (nameL x.h) : Int) = J at hat
        replace hat := Lib.hid hat
        replace hR2 := Lib.hid hR2
        replace hh := Lib.hid hh
        go_upto_region 10 with fail
        go_cut [8, 9] (fun s8 s9 wx => s8 = .int .i64 J ∧ s9 = .bool true ∧ Below wr.heap.size wr wx)
        case first =>
          go_region_held3 (fun w' => w'.cell? ⟨w.heap.size, 0, none⟩ = some (.string x.run.1) ∧ w'.cell? ⟨w.heap.size, 1, none⟩ = some (.string x.job.1) ∧ w'.cell? ⟨w.heap.size, 2, none⟩ = some (.int .i64 x.attempt.1) ∧ w'.cell? ⟨w.heap.size, 3, none⟩ = some (.int .u64 x.spec.1) ∧ w'.cell? ⟨w.heap.size, 4, none⟩ = some (.slice IA x.ins.length x.insC) ∧ w'.cell? ⟨w.heap.size, 5, none⟩ = some (.string x.name.1) ∧ w'.cell? ⟨w.heap.size, 6, none⟩ = some (.int .u64 x.digest.1) ∧ w'.cell? ⟨w.heap.size, 7, none⟩ = some (.int .i64 x.size.1)) (first | (go_keep; done) | (go_simp; done) | go_keep)
            (first
            | (go_at_call 46; go_must (refine (hln.out _).mono ?_; rintro e w4 ⟨rfl, hb4⟩; have hz4 := hb4.size; obtain ⟨hc4, hf4⟩ := blk_at hb4 w.heap.size (by (try simp) <;> omega); have hlk := (show (Instr.lookup 78 (.map (some b)) (.agg #[.string x.run.1, .string (nameL x.h).1]) true).run Tryz.prog w4 = .ok (.tuple #[.int .i64 J, .bool true]) w4 from MapI.look ((hmpl.out.keep hbw hblt).keep (show Below wr.heap.size wr w4 from (by repeat (first | (with_reducible exact Below.refl _ _) | (with_reducible refine Below.drew ?_) | (with_reducible refine below_drewN ?_ _) | ((with_reducible refine Below.alloc ?_ ?_ _); rotate_left; focus ((try simp) <;> omega)) | ((with_reducible refine Below.setCell ?_ ?_ _); rotate_left; focus ((try simp) <;> omega)) | ((with_reducible refine Below.trans ?_ (Below.mono (by assumption) ?_)); rotate_left; focus ((try simp) <;> omega))))) (by omega)) keyedK Tryz.underlying78 Tryz.underlying3 (by kernel_rfl) (key_at x.run (nameL x.h)) hat.out)))
            | fail "none")
          all_goals (go_wp2_with fail; go_meet)
          all_goals exact ⟨rfl, rfl, (by repeat (first | (with_reducible exact Below.refl _ _) | (with_reducible refine Below.drew ?_) | (with_reducible refine below_drewN ?_ _) | ((with_reducible refine Below.alloc ?_ ?_ _); rotate_left; focus ((try simp) <;> omega)) | ((with_reducible refine Below.setCell ?_ ?_ _); rotate_left; focus ((try simp) <;> omega)) | ((with_reducible refine Below.trans ?_ (Below.mono (by assumption) ?_)); rotate_left; focus ((try simp) <;> omega))))⟩
        case rest =>
          obtain ⟨rfl, rfl, hbx⟩ := hcut
          go_wp2_with fail
          go_ret
          exact ⟨by rw [hf.out]; rfl, hbw.trans (hbx.mono hz)⟩
      rw [if_neg (by rw [hh]; decide)] at hat hR2
      replace hat := Lib.hid hat
      replace hR2 := Lib.hid hR2
      replace hh := Lib.hid hh
      go_upto_region 10 with fail
      go_cut [8, 9] (fun s8 s9 wx => s8 = .int .i64 0 ∧ s9 = .bool false ∧ Below wr.heap.size wr wx)
      case first =>
        go_region_held3 (fun w' => w'.cell? ⟨w.heap.size, 0, none⟩ = some (.string x.run.1) ∧ w'.cell? ⟨w.heap.size, 1, none⟩ = some (.string x.job.1) ∧ w'.cell? ⟨w.heap.size, 2, none⟩ = some (.int .i64 x.attempt.1) ∧ w'.cell? ⟨w.heap.size, 3, none⟩ = some (.int .u64 x.spec.1) ∧ w'.cell? ⟨w.heap.size, 4, none⟩ = some (.slice IA x.ins.length x.insC) ∧ w'.cell? ⟨w.heap.size, 5, none⟩ = some (.string x.name.1) ∧ w'.cell? ⟨w.heap.size, 6, none⟩ = some (.int .u64 x.digest.1) ∧ w'.cell? ⟨w.heap.size, 7, none⟩ = some (.int .i64 x.size.1)) (first | (go_keep; done) | (go_simp; done) | go_keep)
          (first
          | (go_at_call 46; go_must (refine (hln.out _).mono ?_; rintro e w4 ⟨rfl, hb4⟩; have hz4 := hb4.size; obtain ⟨hc4, hf4⟩ := blk_at hb4 w.heap.size (by (try simp) <;> omega); have hlk := (show (Instr.lookup 78 (.map (some b)) (.agg #[.string x.run.1, .string (nameL x.h).1]) true).run Tryz.prog w4 = .ok (.tuple #[.int .i64 0, .bool false]) w4 from MapI.look ((hmpl.out.keep hbw hblt).keep (show Below wr.heap.size wr w4 from (by repeat (first | (with_reducible exact Below.refl _ _) | (with_reducible refine Below.drew ?_) | (with_reducible refine below_drewN ?_ _) | ((with_reducible refine Below.alloc ?_ ?_ _); rotate_left; focus ((try simp) <;> omega)) | ((with_reducible refine Below.setCell ?_ ?_ _); rotate_left; focus ((try simp) <;> omega)) | ((with_reducible refine Below.trans ?_ (Below.mono (by assumption) ?_)); rotate_left; focus ((try simp) <;> omega))))) (by omega)) keyedK Tryz.underlying78 Tryz.underlying3 (by kernel_rfl) (key_at x.run (nameL x.h)) hat.out)))
          | fail "none")
        all_goals (go_wp2_with fail; go_meet)
        all_goals exact ⟨rfl, rfl, (by repeat (first | (with_reducible exact Below.refl _ _) | (with_reducible refine Below.drew ?_) | (with_reducible refine below_drewN ?_ _) | ((with_reducible refine Below.alloc ?_ ?_ _); rotate_left; focus ((try simp) <;> omega)) | ((with_reducible refine Below.setCell ?_ ?_ _); rotate_left; focus ((try simp) <;> omega)) | ((with_reducible refine Below.trans ?_ (Below.mono (by assumption) ?_)); rotate_left; focus ((try simp) <;> omega))))⟩
      case rest =>
        obtain ⟨rfl, rfl, hbx⟩ := hcut
        have hzx := hbx.size
        have hb2 : Hid (Below w.heap.size w wc) := Lib.hid (hbw.trans (hbx.mono hz))
        have hbn : Hid (Box8 x IA wc w.heap.size) := Lib.hid (by
          obtain ⟨m0, m1, m2, m3, m4, m5, m6, m7⟩ := hbx2.out
          obtain ⟨e5, _⟩ := blk_at hbx w.heap.size hzr
          exact ⟨(e5 _).trans m0, (e5 _).trans m1, (e5 _).trans m2, (e5 _).trans m3, (e5 _).trans m4, (e5 _).trans m5, (e5 _).trans m6, (e5 _).trans m7⟩)
        obtain ⟨e5, f5⟩ := blk_at hbx w.heap.size hzr
        obtain ⟨W1, hW1⟩ : ∃ W, W = wc := ⟨_, rfl⟩
        go_wp2_with fail
        go_loopw [73] (fun vi wr => ∃ k : Nat, k ≤ x.ins.length ∧ vi = .int .i64 (k : Int) ∧ insErr (l.map Lkr.h) x.run (x.ins.drop k) = insErr (l.map Lkr.h) x.run x.ins ∧ Box8 x IA wr w.heap.size ∧ w.heap.size < wr.heap.size ∧ Below w.heap.size w wr) (fun vi _ => x.ins.length - (intOf vi).toNat)
        case atStart => exact ⟨0, Nat.zero_le _, rfl, rfl, hbn.out, by omega, hb2.out⟩
        case round =>
          clear p0 p1 p2 p3 p4 p5 p6 p7 e5 f5
          replace hbx := Lib.hid hbx
          replace hbw := Lib.hid hbw
          obtain ⟨k, hk, rfl, hie, hbox, hzs, hbs⟩ := hrel
          have hz2 := hbs.size
          have hbx3 := hbox
          obtain ⟨p0, p1, p2, p3, p4, p5, p6, p7⟩ := hbox
          replace hbx3 := Lib.hid hbx3
          by_cases hkl : k < x.ins.length
          · obtain ⟨y, hy⟩ := get_some hkl
            obtain ⟨g, o, rfl, hg, hq⟩ := hrw.out (by omega)
            have r0 := (hbs.cell (p := ⟨g, o + k * 3 + 0, none⟩) hg).trans (hq k y hy 0 (.string y.name.1) rfl)
            rw [Nat.add_zero] at r0
            have r1 := (hbs.cell (p := ⟨g, o + k * 3 + 1, none⟩) hg).trans (hq k y hy 1 (.int .u64 y.digest.1) rfl)
            have r2 := (hbs.cell (p := ⟨g, o + k * 3 + 2, none⟩) hg).trans (hq k y hy 2 (.int .i64 y.size.1) rfl)
            clear hq
            have i0 : (0 : Int) ≤ (k : Int) := by omega
            have i1 : (k : Int) < (x.ins.length : Int) := by omega
            have hgr : g < wr.heap.size := by omega
            have har0 := fun W (hb : Below w.heap.size w W) => artifact_any y.name W (hGl.out.keep hb) (hins.out y (List.mem_of_getElem? hy))
            rcases ha : artB y.name with _ | _
            · have hnx := Lib.hid ((ins_skip (ls := l.map Lkr.h) (run := x.run) hy ha).symm.trans hie)
              rw [ha] at har0
              have har := Lib.hid har0
              clear har0
              replace hie := Lib.hid hie
              replace hy := Lib.hid hy
              replace ha := Lib.hid ha
              go_wp2_with (go_at_call 66; go_must (refine (har.out _ (by repeat (first | (with_reducible exact Below.refl _ _) | (with_reducible refine Below.drew ?_) | (with_reducible refine below_drewN ?_ _) | ((with_reducible refine Below.alloc ?_ ?_ _); rotate_left; focus ((try simp) <;> omega)) | ((with_reducible refine Below.setCell ?_ ?_ _); rotate_left; focus ((try simp) <;> omega)) | ((with_reducible refine Below.trans ?_ (Below.mono (by assumption) ?_)); rotate_left; focus ((try simp) <;> omega))))).mono ?_; rintro e w6 ⟨rfl, hb6⟩; have hz6 := hb6.size; (try simp at hz6); have hk6 : wr.heap.size < w6.heap.size := (by omega); obtain ⟨hc6, hf6⟩ := blk_at hb6 w.heap.size (by (try simp) <;> omega); obtain ⟨hd6, he6⟩ := blk_at hb6 wr.heap.size (by (try simp) <;> omega); skip))
              go_roundw
              case rel => exact ⟨k + 1, by omega, by go_num, hnx.out, (by
               obtain ⟨m0, m1, m2, m3, m4, m5, m6, m7⟩ := hbx3.out
               exact ⟨(hc6 _).trans (by go_simp), (hc6 _).trans (by go_simp), (hc6 _).trans (by go_simp), (hc6 _).trans (by go_simp), (hc6 _).trans (by go_simp), (hc6 _).trans (by go_simp), (hc6 _).trans (by go_simp), (hc6 _).trans (by go_simp)⟩), by omega, (by repeat (first | (with_reducible exact Below.refl _ _) | (with_reducible refine Below.drew ?_) | (with_reducible refine below_drewN ?_ _) | ((with_reducible refine Below.alloc ?_ ?_ _); rotate_left; focus ((try simp) <;> omega)) | ((with_reducible refine Below.setCell ?_ ?_ _); rotate_left; focus ((try simp) <;> omega)) | ((with_reducible refine Below.trans ?_ (Below.mono (by assumption) ?_)); rotate_left; focus ((try simp) <;> omega))))⟩
              case measure => simp [intOf]; omega
            · rw [ha] at har0
              have har := Lib.hid har0
              clear har0
              have hat2 := ixF_at (l.map Lkr.h) x.run y.name
              rcases hh2 : hasL (l.map Lkr.h) x.run y.name with _ | _
              · have hf : Hid (R = 8) := Lib.hid (by
                  have h8 := ins_8 (ls := l.map Lkr.h) (run := x.run) hy ha hh2
                  rw [hie] at h8
                  rw [hR2.out, if_pos (by rw [h8]; decide), h8])
                rw [if_neg (by rw [hh2]; decide)] at hat2
                replace hat2 := Lib.hid hat2
                replace hie := Lib.hid hie
                replace hy := Lib.hid hy
                replace ha := Lib.hid ha
                replace hh2 := Lib.hid hh2
                go_wp2_with (first
                  | (go_at_call 66; go_must (refine (har.out _ (by repeat (first | (with_reducible exact Below.refl _ _) | (with_reducible refine Below.drew ?_) | (with_reducible refine below_drewN ?_ _) | ((with_reducible refine Below.alloc ?_ ?_ _); rotate_left; focus ((try simp) <;> omega)) | ((with_reducible refine Below.setCell ?_ ?_ _); rotate_left; focus ((try simp) <;> omega)) | ((with_reducible refine Below.trans ?_ (Below.mono (by assumption) ?_)); rotate_left; focus ((try simp) <;> omega))))).mono ?_; rintro e w6 ⟨rfl, hb6⟩; have hz6 := hb6.size; (try simp at hz6); have hk6 : wr.heap.size < w6.heap.size := (by omega); obtain ⟨hc6, hf6⟩ := blk_at hb6 w.heap.size (by (try simp) <;> omega); obtain ⟨hd6, he6⟩ := blk_at hb6 wr.heap.size (by (try simp) <;> omega); skip))
                  | (at_lookup; refine wpList_look_mapi rfl (.tmp 82) (.tmp 88) 78 rfl 86 3 keyedK Tryz.underlying78 Tryz.underlying3 (by kernel_rfl) b n (ixF (l.map Lkr.h)) rfl (hmpl.out.keep (B := w.heap.size) (show Below w.heap.size w w6 from (by repeat (first | (with_reducible exact Below.refl _ _) | (with_reducible refine Below.drew ?_) | (with_reducible refine below_drewN ?_ _) | ((with_reducible refine Below.alloc ?_ ?_ _); rotate_left; focus ((try simp) <;> omega)) | ((with_reducible refine Below.setCell ?_ ?_ _); rotate_left; focus ((try simp) <;> omega)) | ((with_reducible refine Below.trans ?_ (Below.mono (by assumption) ?_)); rotate_left; focus ((try simp) <;> omega))))) hblt) _ (keyK x.run y.name) rfl (key_at x.run y.name) none hat2.out ?_))
                go_ret
                exact ⟨by rw [hf.out]; rfl, (by repeat (first | (with_reducible exact Below.refl _ _) | (with_reducible refine Below.drew ?_) | (with_reducible refine below_drewN ?_ _) | ((with_reducible refine Below.alloc ?_ ?_ _); rotate_left; focus ((try simp) <;> omega)) | ((with_reducible refine Below.setCell ?_ ?_ _); rotate_left; focus ((try simp) <;> omega)) | ((with_reducible refine Below.trans ?_ (Below.mono (by assumption) ?_)); rotate_left; focus ((try simp) <;> omega))))⟩
              · rw [if_pos hh2] at hat2
                obtain ⟨z', hz', -, -⟩ := has_at2 hh2
                have hjl := idx_lt hh2
                rw [List.length_map] at hjl
                obtain ⟨z, hzz⟩ := get_some hjl
                have hze : z' = z.h := by
                  rw [List.getElem?_map, hzz] at hz'
                  simpa using hz'.symm
                subst hze
                obtain ⟨J, hJ⟩ : ∃ J, idxL (l.map Lkr.h) x.run y.name = J := ⟨_, rfl⟩
                rw [hJ] at hat2 hz' hjl hzz
                obtain ⟨gl, ol, hAl, hgl, hql⟩ := hrl.out (by omega)
                subst hAl
                have s6 := (hbs.cell (p := ⟨gl, ol + J * 8 + 6, none⟩) hgl).trans (hql J z hzz 6 (.int .u64 z.digest.1) rfl)
                clear hql
                have hglr : gl < wr.heap.size := by omega
                have j0 : (0 : Int) ≤ (J : Int) := by omega
                have j1 : (J : Int) < (l.length : Int) := by omega
                have hz3 : (l.map Lkr.h)[idxL (l.map Lkr.h) x.run y.name]? = some z.h := by rw [hJ]; exact hz'
                by_cases hd : z.digest.1 = y.digest.1
                · have hnx := Lib.hid ((ins_go hy ha hh2 hz3 hd).symm.trans hie)
                  have hdb : (z.digest.1 != y.digest.1) = false := by rw [hd]; simp
                  replace hat2 := Lib.hid hat2
                  replace hie := Lib.hid hie
                  replace hy := Lib.hid hy
                  replace ha := Lib.hid ha
                  replace hh2 := Lib.hid hh2
                  replace hJ := Lib.hid hJ
                  replace hz' := Lib.hid hz'
                  replace hz3 := Lib.hid hz3
                  replace hzz := Lib.hid hzz
                  replace hd := Lib.hid hd
                  go_wp2_with (first
                    | (go_at_call 66; go_must (refine (har.out _ (by repeat (first | (with_reducible exact Below.refl _ _) | (with_reducible refine Below.drew ?_) | (with_reducible refine below_drewN ?_ _) | ((with_reducible refine Below.alloc ?_ ?_ _); rotate_left; focus ((try simp) <;> omega)) | ((with_reducible refine Below.setCell ?_ ?_ _); rotate_left; focus ((try simp) <;> omega)) | ((with_reducible refine Below.trans ?_ (Below.mono (by assumption) ?_)); rotate_left; focus ((try simp) <;> omega))))).mono ?_; rintro e w6 ⟨rfl, hb6⟩; have hz6 := hb6.size; (try simp at hz6); have hk6 : wr.heap.size < w6.heap.size := (by omega); obtain ⟨hc6, hf6⟩ := blk_at hb6 w.heap.size (by (try simp) <;> omega); obtain ⟨hd6, he6⟩ := blk_at hb6 wr.heap.size (by (try simp) <;> omega); obtain ⟨hu6, hv6⟩ := blk_at hb6 gl (by (try simp) <;> omega)))
                    | (at_lookup; refine wpList_look_mapi rfl (.tmp 82) (.tmp 88) 78 rfl 86 3 keyedK Tryz.underlying78 Tryz.underlying3 (by kernel_rfl) b n (ixF (l.map Lkr.h)) rfl (hmpl.out.keep (B := w.heap.size) (show Below w.heap.size w w6 from (by repeat (first | (with_reducible exact Below.refl _ _) | (with_reducible refine Below.drew ?_) | (with_reducible refine below_drewN ?_ _) | ((with_reducible refine Below.alloc ?_ ?_ _); rotate_left; focus ((try simp) <;> omega)) | ((with_reducible refine Below.setCell ?_ ?_ _); rotate_left; focus ((try simp) <;> omega)) | ((with_reducible refine Below.trans ?_ (Below.mono (by assumption) ?_)); rotate_left; focus ((try simp) <;> omega))))) hblt) _ (keyK x.run y.name) rfl (key_at x.run y.name) (some (J : Int)) hat2.out ?_))
                  go_quiet (fail)
                  go_wp2_with fail
                  go_roundw
                  case rel => exact ⟨k + 1, by omega, by go_num, hnx.out, (by
                   obtain ⟨m0, m1, m2, m3, m4, m5, m6, m7⟩ := hbx3.out
                   exact ⟨(hc6 _).trans (by go_simp), (hc6 _).trans (by go_simp), (hc6 _).trans (by go_simp), (hc6 _).trans (by go_simp), (hc6 _).trans (by go_simp), (hc6 _).trans (by go_simp), (hc6 _).trans (by go_simp), (hc6 _).trans (by go_simp)⟩), by first | omega | (simp; omega), (by repeat (first | (with_reducible exact Below.refl _ _) | (with_reducible refine Below.drew ?_) | (with_reducible refine below_drewN ?_ _) | ((with_reducible refine Below.alloc ?_ ?_ _); rotate_left; focus ((try simp) <;> omega)) | ((with_reducible refine Below.setCell ?_ ?_ _); rotate_left; focus ((try simp) <;> omega)) | ((with_reducible refine Below.trans ?_ (Below.mono (by assumption) ?_)); rotate_left; focus ((try simp) <;> omega))))⟩
                  case measure => simp [intOf]; omega
                · have hf : Hid (R = 19) := Lib.hid (by
                    have h8 := ins_19 hy ha hh2 hz3 hd
                    rw [hie] at h8
                    rw [hR2.out, if_pos (by rw [h8]; decide), h8])
                  have hdb : (z.digest.1 != y.digest.1) = true := by rw [bne_iff_ne]; exact hd
                  replace hat2 := Lib.hid hat2
                  replace hie := Lib.hid hie
                  replace hy := Lib.hid hy
                  replace ha := Lib.hid ha
                  replace hh2 := Lib.hid hh2
                  replace hJ := Lib.hid hJ
                  replace hz' := Lib.hid hz'
                  replace hz3 := Lib.hid hz3
                  replace hzz := Lib.hid hzz
                  replace hd := Lib.hid hd
                  go_wp2_with (first
                    | (go_at_call 66; go_must (refine (har.out _ (by repeat (first | (with_reducible exact Below.refl _ _) | (with_reducible refine Below.drew ?_) | (with_reducible refine below_drewN ?_ _) | ((with_reducible refine Below.alloc ?_ ?_ _); rotate_left; focus ((try simp) <;> omega)) | ((with_reducible refine Below.setCell ?_ ?_ _); rotate_left; focus ((try simp) <;> omega)) | ((with_reducible refine Below.trans ?_ (Below.mono (by assumption) ?_)); rotate_left; focus ((try simp) <;> omega))))).mono ?_; rintro e w6 ⟨rfl, hb6⟩; have hz6 := hb6.size; (try simp at hz6); have hk6 : wr.heap.size < w6.heap.size := (by omega); obtain ⟨hc6, hf6⟩ := blk_at hb6 w.heap.size (by (try simp) <;> omega); obtain ⟨hd6, he6⟩ := blk_at hb6 wr.heap.size (by (try simp) <;> omega); obtain ⟨hu6, hv6⟩ := blk_at hb6 gl (by (try simp) <;> omega)))
                    | (at_lookup; refine wpList_look_mapi rfl (.tmp 82) (.tmp 88) 78 rfl 86 3 keyedK Tryz.underlying78 Tryz.underlying3 (by kernel_rfl) b n (ixF (l.map Lkr.h)) rfl (hmpl.out.keep (B := w.heap.size) (show Below w.heap.size w w6 from (by repeat (first | (with_reducible exact Below.refl _ _) | (with_reducible refine Below.drew ?_) | (with_reducible refine below_drewN ?_ _) | ((with_reducible refine Below.alloc ?_ ?_ _); rotate_left; focus ((try simp) <;> omega)) | ((with_reducible refine Below.setCell ?_ ?_ _); rotate_left; focus ((try simp) <;> omega)) | ((with_reducible refine Below.trans ?_ (Below.mono (by assumption) ?_)); rotate_left; focus ((try simp) <;> omega))))) hblt) _ (keyK x.run y.name) rfl (key_at x.run y.name) (some (J : Int)) hat2.out ?_))
                  go_quiet (fail)
                  go_wp2_with fail
                  go_ret
                  exact ⟨by rw [hf.out]; rfl, (by repeat (first | (with_reducible exact Below.refl _ _) | (with_reducible refine Below.drew ?_) | (with_reducible refine below_drewN ?_ _) | ((with_reducible refine Below.alloc ?_ ?_ _); rotate_left; focus ((try simp) <;> omega)) | ((with_reducible refine Below.setCell ?_ ?_ _); rotate_left; focus ((try simp) <;> omega)) | ((with_reducible refine Below.trans ?_ (Below.mono (by assumption) ?_)); rotate_left; focus ((try simp) <;> omega))))⟩
          · have i1 : ¬ (k : Int) < (x.ins.length : Int) := by omega
            rw [ins_end (by omega)] at hie
            have hR3 := hR2.out
            rw [if_neg (by rw [← hie]; decide)] at hR3
            replace hie := Lib.hid hie
            by_cases h4 : 4096 ≤ l.length
            · have hf : Hid (R = 21) := Lib.hid (by rw [hR3, if_pos h4])
              have h4z : (4096 : Int) ≤ (l.length : Int) := by omega
              replace hR3 := Lib.hid hR3
              go_wp2_with fail
              go_ret
              exact ⟨by rw [hf.out]; rfl, hbs⟩
            · have hf : Hid (R = 0) := Lib.hid (by rw [hR3, if_neg h4])
              have h4z : ¬ (4096 : Int) ≤ (l.length : Int) := by omega
              replace hR3 := Lib.hid hR3
              go_wp2_with fail
              go_ret
              exact ⟨by rw [hf.out]; rfl, hbs⟩
theorem check_any (A : Option Addr) (c : Nat) (l : List Lkr) (b n : Nat) (x : Lkr) (w : World) (hr : Rw lkrE 8 w w.heap.size A l) (hn : l.length ≤ 1000000) (hmp : MapI Tryz.prog 86 3 w b n (ixF (l.map Lkr.h))) (hx : LabLkr w w.heap.size x) (hG : Glob w) (hm : MildK x) : Calls Tryz.prog 33 #[.slice A l.length c, .map (some b), .agg #[.string x.run.1, .string x.job.1, .int .i64 x.attempt.1, .int .u64 x.spec.1, .slice x.insA x.ins.length x.insC, .string x.name.1, .int .u64 x.digest.1, .int .i64 x.size.1]] w fun e w' => e = .returned (.int .i64 (lnkErr (l.map Lkr.h) x.h)) ∧ Below w.heap.size w w' := by
  by_cases h1 : rightB x.h = true
  · by_cases h2 : rangeB x.h = true
    · exact check_rest A c l b n x w hr hn hmp hx hG hm h1 h2
    · exact check_first A c l b n x w hr hn hmp hx hG hm (.inr (by simpa using h2))
  · exact check_first A c l b n x w hr hn hmp hx hG hm (.inl (by simpa using h1))
end Go.Proofs.YtjkijknjngiieaaGreatDoor
