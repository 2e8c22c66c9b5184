/-
  The walks of provenance: a link added, by the reference.
-/
import Derived.Test.YtjkijknjngiieaaGreatDoorPrx2


namespace Go.Proofs.YtjkijknjngiieaaGreatDoor
open Go.RowKit

theorem rw_lkrA {w : World} {g B : Nat} {x : Lkr} {IA : Option Addr} (hI : x.insA = IA) (hg : g = w.heap.size) (hB : g < B) : Rw lkrE 8 (w.alloc (.cells #[.string x.run.1, .string x.job.1, .int .i64 x.attempt.1, .int .u64 x.spec.1, .slice IA x.ins.length x.insC, .string x.name.1, .int .u64 x.digest.1, .int .i64 x.size.1] 31)) B (some ⟨g, 0, none⟩) [x] := by
  subst hI
  exact rw_lkr hg hB
set_option maxRecDepth 100000 in
set_option maxHeartbeats 16000000 in
theorem radd_any (A : Option Addr) (c : Nat) (l : List Lkr) (x : Lkr) (w : World) (hr : RwL w w.heap.size A l) (hlc : l.length ≤ c) (hx : LabLkr w w.heap.size x) (hm : MildL l) (hmx : MildK x) :
    Calls Tryz.prog 12 #[.slice A l.length c, .agg #[.string x.run.1, .string x.job.1, .int .i64 x.attempt.1, .int .u64 x.spec.1, .slice x.insA x.ins.length x.insC, .string x.name.1, .int .u64 x.digest.1, .int .i64 x.size.1]] w fun e w' => ∃ A' c' l', e = .returned (.tuple #[.slice A' l'.length c', .int .i64 (lnkErr (l.map Lkr.h) x.h)]) ∧ RwL w' w'.heap.size A' l' ∧ l'.length ≤ c' ∧ l'.map Lkr.h = (lnkAdd (l.map Lkr.h) x.h) ∧ Below w.heap.size w w' := by
  obtain ⟨inf, hi0, iz0, iz1, iz2⟩ := info_parts lkr_info
  have hri0 := fun W (hb : Below w.heap.size w W) => rright_any x W ((hx.below hb (Nat.le_refl _)).more hb.size) hmx
  have hsame : Hid (∀ W, Below w.heap.size w W → RwL W W.heap.size A l) := Lib.hid fun W hb => (hr.below hb (Nat.le_refl _)).more hb.size
  have hnew : Hid (∀ W A', Below w.heap.size w W → Rw lkrE 8 W W.heap.size A' (l ++ [x]) → RwL W W.heap.size A' (l ++ [x])) := Lib.hid fun W A' hb h => ⟨h, fun y hy => by
    rcases List.mem_append.1 hy with h1 | h1
    · exact ((hr.labs y h1).below hb (Nat.le_refl _)).more hb.size
    · obtain rfl := List.mem_singleton.1 h1
      exact (hx.below hb (Nat.le_refl _)).more hb.size⟩
  have hlno0 : lnkErr (l.map Lkr.h) x.h ≠ 0 → l.map Lkr.h = lnkAdd (l.map Lkr.h) x.h := fun h => by unfold lnkAdd; rw [if_pos h]
  have hlyes0 : lnkErr (l.map Lkr.h) x.h = 0 → (l ++ [x]).map Lkr.h = lnkAdd (l.map Lkr.h) x.h := fun h => by unfold lnkAdd; rw [if_neg (Classical.not_not.2 h), List.map_append]; rfl
  have hrr1 := fun h => lerr_1 (ls := l.map Lkr.h) (l := x.h) h
  have hrr2 := fun h1 h2 => lerr_2 (ls := l.map Lkr.h) (l := x.h) h1 h2
  have hrr3 := fun h1 h2 => lerr_rest (ls := l.map Lkr.h) (l := x.h) h1 h2
  have hrg : rangeB x.h = (headR x.h && x.ins.all fun y => sizeB y.size.1) := range_of x.h
  have hhd := headR_of x
  have hsz0 : ∀ W, Calls Tryz.prog 36 #[.int .i64 x.size.1] W fun e w' => e = .returned (.bool (sizeB x.size.1)) ∧ W = w' := fun W => rsize_any x.size.1 W
  change _ → _ → _ = if ascB x.ins = false then 22 else if hasL (l.map Lkr.h) x.run (nameL x.h) = true then 7 else if insErr (l.map Lkr.h) x.run x.ins ≠ 0 then insErr (l.map Lkr.h) x.run x.ins else if 4096 ≤ (l.map Lkr.h).length then 21 else 0 at hrr3
  rw [List.length_map] at hrr3
  generalize lnkErr (l.map Lkr.h) x.h = R at *
  generalize rightB x.h = RB at *
  generalize rangeB x.h = GB at *
  have hln := Lib.hid (fun W => rname_any35 x W hmx.nm)
  have hid0 : Hid (∀ (nm : Str) W, Below w.heap.size w W → Calls Tryz.prog 38 #[.slice A l.length c, .string x.run.1, .string nm.1] W fun e w' => e = .returned (.int .i64 (idxI (l.map Lkr.h) x.run nm)) ∧ Below W.heap.size W w') := Lib.hid fun nm W hb => rindex_any A c l x.run nm W ((hr.row.below hb (Nat.le_refl _)).more hb.size) hm.len (fun y hy => (hm.each y hy).nm)
  have hlen := hmx.len
  have hln1 := hm.len
  have hins := Lib.hid hmx.ins
  have hrl := Lib.hid hr.row
  have hrw := Lib.hid hx.2.2
  have hlno := Lib.hid hlno0
  have hlyes := Lib.hid hlyes0
  clear hr hx hm hmx hlno0 hlyes0
  generalize hIA0 : x.insA = IA at hri0 hln hrw ⊢
  have hIA := Lib.hid hIA0
  clear hIA0
  rcases RB with _ | _
  · have hf : Hid (R = 1) := Lib.hid (hrr1 rfl)
    have hri := Lib.hid hri0
    clear hri0 hrr1 hrr2 hrr3 hrg hhd hsz0
    go_enter Tryz.func12, Tryz.ntmps12
    go_wp2_with (go_at_call 35; go_must (refine (hri.out _ (by repeat (first | (with_reducible exact Below.refl _ _) | (with_reducible refine Below.drew ?_) | (with_reducible refine below_drewN ?_ _) | ((with_reducible refine Below.alloc ?_ ?_ _); rotate_left; focus ((try simp) <;> omega)) | ((with_reducible refine Below.setCell ?_ ?_ _); rotate_left; focus ((try simp) <;> omega)) | ((with_reducible refine Below.trans ?_ (Below.mono (by assumption) ?_)); rotate_left; focus ((try simp) <;> omega))))).mono ?_; rintro e w1 ⟨rfl, hb1⟩; have hz1 := hb1.size; (try simp at hz1); obtain ⟨hc1, hf1⟩ := blk_at hb1 w.heap.size (by (try simp) <;> omega)))
    exact bodyPost_ret (v := .tuple #[.slice A l.length c, .int .i64 1]) (by simp [results, Tryz.results12, go_sem]) rfl ⟨A, c, l, by rw [hf.out], hsame.out _ (by repeat (first | (with_reducible exact Below.refl _ _) | (with_reducible refine Below.drew ?_) | (with_reducible refine below_drewN ?_ _) | ((with_reducible refine Below.alloc ?_ ?_ _); rotate_left; focus ((try simp) <;> omega)) | ((with_reducible refine Below.setCell ?_ ?_ _); rotate_left; focus ((try simp) <;> omega)) | ((with_reducible refine Below.trans ?_ (Below.mono (by assumption) ?_)); rotate_left; focus ((try simp) <;> omega)))), hlc, hlno.out (by rw [hf.out]; decide), (by repeat (first | (with_reducible exact Below.refl _ _) | (with_reducible refine Below.drew ?_) | (with_reducible refine below_drewN ?_ _) | ((with_reducible refine Below.alloc ?_ ?_ _); rotate_left; focus ((try simp) <;> omega)) | ((with_reducible refine Below.setCell ?_ ?_ _); rotate_left; focus ((try simp) <;> omega)) | ((with_reducible refine Below.trans ?_ (Below.mono (by assumption) ?_)); rotate_left; focus ((try simp) <;> omega))))⟩
  have hri := Lib.hid hri0
  have hrr4 := Lib.hid (hrr2 rfl)
  have hrr5 := Lib.hid (hrr3 rfl)
  clear hri0 hrr1 hrr2 hrr3
  have hhd2 := Lib.hid hhd
  generalize headR x.h = HB at *
  clear hhd
  replace hrg := Lib.hid hrg
  generalize hSB : sizeB x.size.1 = SB at hsz0 hhd2
  have hsz := Lib.hid hsz0
  clear hsz0 hSB
  go_enter Tryz.func12, Tryz.ntmps12
  go_upto_region 3 with (go_at_call 35; go_must (refine (hri.out _ (by repeat (first | (with_reducible exact Below.refl _ _) | (with_reducible refine Below.drew ?_) | (with_reducible refine below_drewN ?_ _) | ((with_reducible refine Below.alloc ?_ ?_ _); rotate_left; focus ((try simp) <;> omega)) | ((with_reducible refine Below.setCell ?_ ?_ _); rotate_left; focus ((try simp) <;> omega)) | ((with_reducible refine Below.trans ?_ (Below.mono (by assumption) ?_)); rotate_left; focus ((try simp) <;> omega))))).mono ?_; rintro e w1 ⟨rfl, hb1⟩; have hz1 := hb1.size; (try simp at hz1); obtain ⟨hc1, hf1⟩ := blk_at hb1 w.heap.size (by (try simp) <;> omega)))
  have hx1 : Hid (Box8 x IA w1 w.heap.size) := Lib.hid ⟨by go_simp, by go_simp, by go_simp, by go_simp, by go_simp, by go_simp, by go_simp, by go_simp⟩
  have hb01 : Hid (Below w.heap.size w w1) := Lib.hid (by repeat (first | (with_reducible exact Below.refl _ _) | (with_reducible refine Below.drew ?_) | (with_reducible refine below_drewN ?_ _) | ((with_reducible refine Below.alloc ?_ ?_ _); rotate_left; focus ((try simp) <;> omega)) | ((with_reducible refine Below.setCell ?_ ?_ _); rotate_left; focus ((try simp) <;> omega)) | ((with_reducible refine Below.trans ?_ (Below.mono (by assumption) ?_)); rotate_left; focus ((try simp) <;> omega))))
  have hzb : w.heap.size < w1.heap.size := by omega
  go_cut [6] (fun s6 wx => s6 = .bool HB ∧ w1 = wx)
  case first =>
    by_cases a1 : x.attempt.1 < 1
    · have h0 : HB = false := by rw [hhd2.out, decide_eq_false (show ¬ 1 ≤ x.attempt.1 by omega)]; rfl
      have a1n : ¬ (1 : Int) ≤ x.attempt.1 := by omega
      go_wp2_with (go_at_call 36; go_must (refine (hsz.out _).mono ?_; rintro e w2 ⟨rfl, rfl⟩))
      go_meet
      exact ⟨by rw [h0], rfl⟩
    · by_cases a2 : 16 < x.attempt.1
      · have h0 : HB = false := by rw [hhd2.out, decide_eq_false (show ¬ x.attempt.1 ≤ 16 by omega)]; simp
        have a1n : (1 : Int) ≤ x.attempt.1 := by omega
        have a2n : ¬ x.attempt.1 ≤ (16 : Int) := by omega
        go_wp2_with (go_at_call 36; go_must (refine (hsz.out _).mono ?_; rintro e w2 ⟨rfl, rfl⟩))
        go_meet
        exact ⟨by rw [h0], rfl⟩
      · have h0 : HB = SB := by rw [hhd2.out, decide_eq_true (show 1 ≤ x.attempt.1 by omega), decide_eq_true (show x.attempt.1 ≤ 16 by omega)]; simp
        have a1n : (1 : Int) ≤ x.attempt.1 := by omega
        have a2n : x.attempt.1 ≤ (16 : Int) := by omega
        subst h0
        go_wp2_with (go_at_call 36; go_must (refine (hsz.out _).mono ?_; rintro e w2 ⟨rfl, rfl⟩))
        go_meet
        exact ⟨rfl, rfl⟩
  case rest =>
    obtain ⟨rfl, rfl⟩ := hcut
    clear hc1 hf1 hb1 hz1
    go_wp2_with fail
    go_loopw [6, 7] (fun vo vi wr => ∃ k : Nat, k ≤ x.ins.length ∧ vi = .int .i64 (k : Int) ∧ vo = .bool (HB && (x.ins.take k).all fun y => sizeB y.size.1) ∧ Box8 x IA wr w.heap.size ∧ w.heap.size < wr.heap.size ∧ Below w.heap.size w wr) (fun _ vi _ => x.ins.length - (intOf vi).toNat)
    case atStart => exact ⟨0, Nat.zero_le _, rfl, by simp, hx1.out, hzb, hb01.out⟩
    case round =>
      obtain ⟨k, hk, rfl, rfl, hbox, hzr, hbw⟩ := hrel
      clear hx1 hb01 hzb
      have hz := hbw.size
      have hbx2 := Lib.hid hbox
      obtain ⟨p0, p1, p2, p3, p4, p5, p6, p7⟩ := hbox
      by_cases hkl : k < x.ins.length
      · obtain ⟨y, hy⟩ := get_some hkl
        obtain ⟨g, o, rfl, hg, hq⟩ := hrw.out (by omega)
        have q2 := (hbw.cell (p := ⟨g, o + k * 3 + 2, none⟩) hg).trans (hq k y hy 2 (.int .i64 y.size.1) rfl)
        clear hq
        have i0 : (0 : Int) ≤ (k : Int) := by omega
        have i1 : (k : Int) < (x.ins.length : Int) := by omega
        have hsi0 : ∀ W, Calls Tryz.prog 36 #[.int .i64 y.size.1] W fun e w' => e = .returned (.bool (sizeB y.size.1)) ∧ W = w' := fun W => rsize_any y.size.1 W
        have htk : ((x.ins.take (k + 1)).all fun y => sizeB y.size.1) = (((x.ins.take k).all fun y => sizeB y.size.1) && sizeB y.size.1) := by rw [take_at hy, List.all_append]; simp
        replace hy := Lib.hid hy
        have hnx : Hid (∀ b, (HB && (x.ins.take k).all fun y => sizeB y.size.1) = b → (b && sizeB y.size.1) = (HB && (x.ins.take (k + 1)).all fun y => sizeB y.size.1)) := Lib.hid fun b hb => by rw [htk, ← hb, Bool.and_assoc]
        clear htk
        generalize hV : (HB && (x.ins.take k).all fun y => sizeB y.size.1) = V at *
        have hnx2 := hnx.out V rfl
        generalize sizeB y.size.1 = S at *
        have hsi := Lib.hid hsi0
        clear hsi0 hnx
        replace hV := Lib.hid hV
        replace hnx2 := Lib.hid hnx2
        rcases V with _ | _
        · go_wp2_with (go_at_call 36; go_must (refine (hsi.out _).mono ?_; rintro e w3 ⟨rfl, rfl⟩))
          go_roundw
          case rel => exact ⟨k + 1, by omega, by go_num, by rw [← hnx2.out]; rfl, hbx2.out, hzr, hbw⟩
          case measure => simp [intOf]; omega
        · go_wp2_with (go_at_call 36; go_must (refine (hsi.out _).mono ?_; rintro e w3 ⟨rfl, rfl⟩))
          go_roundw
          case rel => exact ⟨k + 1, by omega, by go_num, by rw [← hnx2.out]; rfl, hbx2.out, hzr, hbw⟩
          case measure => simp [intOf]; omega
      · have i1 : ¬ (k : Int) < (x.ins.length : Int) := by omega
        have hV : (HB && (x.ins.take k).all fun y => sizeB y.size.1) = GB := by rw [List.take_of_length_le (by omega), hrg.out]
        rw [hV]
        replace hV := Lib.hid hV
        rcases GB with _ | _
        · have hf : Hid (R = 2) := Lib.hid (hrr4.out rfl)
          go_wp2_with fail
          exact bodyPost_ret (v := .tuple #[.slice A l.length c, .int .i64 2]) (by simp [results, Tryz.results12, go_sem]) rfl ⟨A, c, l, by rw [hf.out], hsame.out _ (by repeat (first | (with_reducible exact Below.refl _ _) | (with_reducible refine Below.drew ?_) | (with_reducible refine below_drewN ?_ _) | ((with_reducible refine Below.alloc ?_ ?_ _); rotate_left; focus ((try simp) <;> omega)) | ((with_reducible refine Below.setCell ?_ ?_ _); rotate_left; focus ((try simp) <;> omega)) | ((with_reducible refine Below.trans ?_ (Below.mono (by assumption) ?_)); rotate_left; focus ((try simp) <;> omega)))), hlc, hlno.out (by rw [hf.out]; decide), (by repeat (first | (with_reducible exact Below.refl _ _) | (with_reducible refine Below.drew ?_) | (with_reducible refine below_drewN ?_ _) | ((with_reducible refine Below.alloc ?_ ?_ _); rotate_left; focus ((try simp) <;> omega)) | ((with_reducible refine Below.setCell ?_ ?_ _); rotate_left; focus ((try simp) <;> omega)) | ((with_reducible refine Below.trans ?_ (Below.mono (by assumption) ?_)); rotate_left; focus ((try simp) <;> omega))))⟩
        · have hR := Lib.hid (hrr5.out rfl)
          clear hrr4 hrr5
          have hx0 : Hid (Box8 x IA wr w.heap.size) := hbx2
          have hb0 : Hid (Below w.heap.size w wr) := Lib.hid hbw
          have hz0 : w.heap.size < wr.heap.size := hzr
          go_wp2_with fail
          go_loopw [8] (fun vi wr => ∃ j : Nat, vi = .int .i64 ((j : Int) + 1) ∧ (j + 1 ≤ x.ins.length ∨ j = 0) ∧ ascTo x.ins (j + 1) ∧ Box8 x IA wr w.heap.size ∧ w.heap.size < wr.heap.size ∧ Below w.heap.size w wr) (fun vi _ => x.ins.length - (intOf vi).toNat)
          case atStart => exact ⟨0, rfl, .inr rfl, asc_one _, hx0.out, hz0, hb0.out⟩
          case round =>
            clear hx0 hb0 hz0 p0 p1 p2 p3 p4 p5 p6 p7 hbx2
            replace hbw := Lib.hid hbw
            replace hz := Lib.hid hz
            obtain ⟨j, rfl, hj, has, hbox, hzr, hbw⟩ := hrel
            have hz := hbw.size
            have hbx2 := hbox
            obtain ⟨p0, p1, p2, p3, p4, p5, p6, p7⟩ := hbox
            replace hbx2 := Lib.hid hbx2
            by_cases hjl : j + 1 < x.ins.length
            · obtain ⟨y, hy⟩ := get_some (show j < x.ins.length by omega)
              obtain ⟨y2, hy2⟩ := get_some hjl
              obtain ⟨g, o, rfl, hg, hq⟩ := hrw.out (by omega)
              have q0 := (hbw.cell (p := ⟨g, o + j * 3 + 0, none⟩) hg).trans (hq j y hy 0 (.string y.name.1) rfl)
              rw [Nat.add_zero] at q0
              have r0 := (hbw.cell (p := ⟨g, o + (j + 1) * 3 + 0, none⟩) hg).trans (hq (j + 1) y2 hy2 0 (.string y2.name.1) rfl)
              rw [Nat.add_zero] at r0
              clear hq
              have i0 : (0 : Int) ≤ (j : Int) := by omega
              have i1 : (j : Int) < (x.ins.length : Int) := by omega
              have i2 : (j : Int) + 1 < (x.ins.length : Int) := by omega
              have i3 : (0 : Int) ≤ (j : Int) + 1 := by omega
              have hw1 : IntKind.i64.wrap ((j : Int) + 1 - 1) = (j : Int) := by rw [Int.add_sub_cancel]; exact IntWalk.i64_in _ (by omega)
              have hw2 : IntKind.i64.wrap (j : Int) = (j : Int) := IntWalk.i64_in _ (by omega)
              have hgr : g < wr.heap.size := by omega
              obtain ⟨C, hC⟩ : ∃ C, cmpS y.name y2.name = C := ⟨_, rfl⟩
              have hcm : Hid (∀ W, Calls Tryz.prog 37 #[.string y.name.1, .string y2.name.1] W fun e w' => e = .returned (.int .i64 C) ∧ Below W.heap.size W w') := Lib.hid fun W => (rcompare_any _ _ y.name.2 y2.name.2 W).mono fun _ _ h => ⟨by rw [h.1, ← hC]; rfl, by obtain ⟨n, e⟩ := h.2; rw [e]; exact below_drewN (Below.refl _ _) _⟩
              by_cases hc : C < 0
              · have hnx := Lib.hid (asc_next has hy hy2 (by rw [hC]; exact hc))
                replace hy := Lib.hid hy
                replace hy2 := Lib.hid hy2
                replace hC := Lib.hid hC
                replace has := Lib.hid has
                go_upto_region 13 with fail
                go_cut [71] (fun s71 wx => s71 = .bool false ∧ Below wr.heap.size wr wx)
                case first =>
                  go_region_held3 (fun w' => w'.cell? ⟨w.heap.size, 4, none⟩ = some (.slice (some ⟨g, o, none⟩) x.ins.length x.insC) ∧ w'.cell? ⟨g, o + j * 3, none⟩ = some (.string y.name.1) ∧ w'.cell? ⟨g, o + (j + 1) * 3, none⟩ = some (.string y2.name.1)) (first | (go_keep; done) | (go_simp; done) | go_keep)
                    (first
                    | (go_at_call 37; go_must (refine (hcm.out _).mono ?_; rintro e w5 ⟨rfl, hb5⟩; have hz5 := hb5.size; obtain ⟨e3, f3⟩ := blk_at hb5 g (by (try simp) <;> omega); obtain ⟨e4, f4⟩ := blk_at hb5 w.heap.size (by (try simp) <;> omega)))
                    | fail "none")
                  all_goals (go_wp2_with fail; go_meet)
                  all_goals exact ⟨by first | rfl | (simp; omega), (by repeat (first | (with_reducible exact Below.refl _ _) | (with_reducible refine Below.drew ?_) | (with_reducible refine below_drewN ?_ _) | ((with_reducible refine Below.alloc ?_ ?_ _); rotate_left; focus ((try simp) <;> omega)) | ((with_reducible refine Below.setCell ?_ ?_ _); rotate_left; focus ((try simp) <;> omega)) | ((with_reducible refine Below.trans ?_ (Below.mono (by assumption) ?_)); rotate_left; focus ((try simp) <;> omega))))⟩
                case rest =>
                  obtain ⟨rfl, hbx⟩ := hcut
                  have hzx := hbx.size
                  obtain ⟨e5, _⟩ := blk_at hbx w.heap.size hzr
                  have hbn : Hid (Box8 x (some ⟨g, o, none⟩) wc w.heap.size) := Lib.hid (by
                   obtain ⟨m0, m1, m2, m3, m4, m5, m6, m7⟩ := hbx2.out
                   exact ⟨(e5 _).trans m0, (e5 _).trans m1, (e5 _).trans m2, (e5 _).trans m3, (e5 _).trans m4, (e5 _).trans m5, (e5 _).trans m6, (e5 _).trans m7⟩)
                  go_wp2_with fail
                  go_roundw
                  case rel => exact ⟨j + 1, by go_num, .inl (by omega), hnx.out, hbn.out, by omega, hbw.trans (hbx.mono hz)⟩
                  case measure => simp [intOf]; omega
              · have hf : Hid (R = 22) := Lib.hid (by rw [hR.out, if_pos (asc_fail hy hy2 (by rw [hC]; exact hc))])
                replace hy := Lib.hid hy
                replace hy2 := Lib.hid hy2
                replace hC := Lib.hid hC
                replace has := Lib.hid has
                go_upto_region 13 with fail
                go_cut [71] (fun s71 wx => s71 = .bool true ∧ Below wr.heap.size wr wx)
                case first =>
                  go_region_held3 (fun w' => w'.cell? ⟨w.heap.size, 4, none⟩ = some (.slice (some ⟨g, o, none⟩) x.ins.length x.insC) ∧ w'.cell? ⟨g, o + j * 3, none⟩ = some (.string y.name.1) ∧ w'.cell? ⟨g, o + (j + 1) * 3, none⟩ = some (.string y2.name.1)) (first | (go_keep; done) | (go_simp; done) | go_keep)
                    (first
                    | (go_at_call 37; go_must (refine (hcm.out _).mono ?_; rintro e w5 ⟨rfl, hb5⟩; have hz5 := hb5.size; obtain ⟨e3, f3⟩ := blk_at hb5 g (by (try simp) <;> omega); obtain ⟨e4, f4⟩ := blk_at hb5 w.heap.size (by (try simp) <;> omega)))
                    | fail "none")
                  all_goals (go_wp2_with fail; go_meet)
                  all_goals exact ⟨by first | rfl | (simp; omega), (by repeat (first | (with_reducible exact Below.refl _ _) | (with_reducible refine Below.drew ?_) | (with_reducible refine below_drewN ?_ _) | ((with_reducible refine Below.alloc ?_ ?_ _); rotate_left; focus ((try simp) <;> omega)) | ((with_reducible refine Below.setCell ?_ ?_ _); rotate_left; focus ((try simp) <;> omega)) | ((with_reducible refine Below.trans ?_ (Below.mono (by assumption) ?_)); rotate_left; focus ((try simp) <;> omega))))⟩
                case rest =>
                  obtain ⟨rfl, hbx⟩ := hcut
                  have hzx := hbx.size
                  have hbf : Below w.heap.size w wc := hbw.trans (hbx.mono hz)
                  clear hbw hbx
                  go_wp2_with fail
                  exact bodyPost_ret (v := .tuple #[.slice A l.length c, .int .i64 22]) (by simp [results, Tryz.results12, go_sem]) rfl ⟨A, c, l, by rw [hf.out], hsame.out _ hbf, hlc, hlno.out (by rw [hf.out]; decide), hbf⟩
            · have i2 : ¬ (j : Int) + 1 < (x.ins.length : Int) := by omega
              have hasc := asc_all has (by omega)
              have hR2 := hR.out
              rw [if_neg (by rw [hasc]; decide)] at hR2
              replace hasc := Lib.hid hasc
              replace has := Lib.hid has
              replace hR2 := Lib.hid hR2
              clear hR
              have hbox0 := Lib.hid (⟨p0, p1, p2, p3, p4, p5, p6, p7⟩ : Box8 x IA wr w.heap.size)
              rcases hh : hasL (l.map Lkr.h) x.run (nameL x.h) with _ | _
              rotate_left
              · have hf : Hid (R = 7) := Lib.hid (by rw [hR2.out, if_pos hh])
                have hii : idxI (l.map Lkr.h) x.run (nameL x.h) = (idxL (l.map Lkr.h) x.run (nameL x.h) : Int) := by unfold idxI; rw [if_pos hh]
                have hid1 := fun W hb => hid0.out (nameL x.h) W hb
                rw [hii] at hid1
                generalize idxL (l.map Lkr.h) x.run (nameL x.h) = J at hid1 hii
                have hid2 := Lib.hid hid1
                clear hid1 hii
                replace hh := Lib.hid hh
                go_upto_region 15 with fail
                go_cut [80] (fun s80 wx => s80 = .bool true ∧ Below wr.heap.size wr wx)
                case first =>
                  go_region_held3 (fun w' => w'.cell? ⟨w.heap.size, 0, none⟩ = some (.string x.run.1) ∧ w'.cell? ⟨w.heap.size, 1, none⟩ = some (.string x.job.1) ∧ w'.cell? ⟨w.heap.size, 2, none⟩ = some (.int .i64 x.attempt.1) ∧ w'.cell? ⟨w.heap.size, 3, none⟩ = some (.int .u64 x.spec.1) ∧ w'.cell? ⟨w.heap.size, 4, none⟩ = some (.slice IA x.ins.length x.insC) ∧ w'.cell? ⟨w.heap.size, 5, none⟩ = some (.string x.name.1) ∧ w'.cell? ⟨w.heap.size, 6, none⟩ = some (.int .u64 x.digest.1) ∧ w'.cell? ⟨w.heap.size, 7, none⟩ = some (.int .i64 x.size.1)) (first | (go_keep; done) | (go_simp; done) | go_keep)
                    (first
                    | (go_at_call 23; go_must (refine (hln.out _).mono ?_; rintro e w4 ⟨rfl, hb4⟩; have hz4 := hb4.size; (try simp at hz4); obtain ⟨hc4, hf4⟩ := blk_at hb4 w.heap.size (by (try simp) <;> omega)))
                    | (go_at_call 38; go_must (refine (hid2.out _ (by repeat (first | (with_reducible exact Below.refl _ _) | (with_reducible refine Below.drew ?_) | (with_reducible refine below_drewN ?_ _) | ((with_reducible refine Below.alloc ?_ ?_ _); rotate_left; focus ((try simp) <;> omega)) | ((with_reducible refine Below.setCell ?_ ?_ _); rotate_left; focus ((try simp) <;> omega)) | ((with_reducible refine Below.trans ?_ (Below.mono (by assumption) ?_)); rotate_left; focus ((try simp) <;> omega))))).mono ?_; rintro e w5 ⟨rfl, hb5⟩; have hz5 := hb5.size; (try simp at hz5); obtain ⟨hc5, hf5⟩ := blk_at hb5 w.heap.size (by (try simp) <;> omega)))
                    | fail "none")
                  all_goals (go_wp2_with fail; go_meet)
                  all_goals exact ⟨by first | rfl | (simp; omega), (by repeat (first | (with_reducible exact Below.refl _ _) | (with_reducible refine Below.drew ?_) | (with_reducible refine below_drewN ?_ _) | ((with_reducible refine Below.alloc ?_ ?_ _); rotate_left; focus ((try simp) <;> omega)) | ((with_reducible refine Below.setCell ?_ ?_ _); rotate_left; focus ((try simp) <;> omega)) | ((with_reducible refine Below.trans ?_ (Below.mono (by assumption) ?_)); rotate_left; focus ((try simp) <;> omega))))⟩
                case rest =>
                  obtain ⟨rfl, hbx⟩ := hcut
                  have hbf : Below w.heap.size w wc := hbw.trans (hbx.mono hz)
                  clear hbw hbx
                  go_wp2_with fail
                  exact bodyPost_ret (v := .tuple #[.slice A l.length c, .int .i64 7]) (by simp [results, Tryz.results12, go_sem]) rfl ⟨A, c, l, by rw [hf.out], hsame.out _ hbf, hlc, hlno.out (by rw [hf.out]; decide), hbf⟩
              have hR3 : Hid (R = if insErr (l.map Lkr.h) x.run x.ins ≠ 0 then insErr (l.map Lkr.h) x.run x.ins else if 4096 ≤ l.length then 21 else 0) := Lib.hid (by rw [hR2.out, if_neg (by rw [hh]; decide)])
              have hii : idxI (l.map Lkr.h) x.run (nameL x.h) = -1 := by unfold idxI; rw [if_neg (by rw [hh]; decide)]
              have hid1 := fun W hb => hid0.out (nameL x.h) W hb
              rw [hii] at hid1
              have hid2 := Lib.hid hid1
              clear hid1 hii
              replace hh := Lib.hid hh
              go_upto_region 15 with fail
              go_cut [80] (fun s80 wx => s80 = .bool false ∧ Below wr.heap.size wr wx)
              case first =>
                go_region_held3 (fun w' => w'.cell? ⟨w.heap.size, 0, none⟩ = some (.string x.run.1) ∧ w'.cell? ⟨w.heap.size, 1, none⟩ = some (.string x.job.1) ∧ w'.cell? ⟨w.heap.size, 2, none⟩ = some (.int .i64 x.attempt.1) ∧ w'.cell? ⟨w.heap.size, 3, none⟩ = some (.int .u64 x.spec.1) ∧ w'.cell? ⟨w.heap.size, 4, none⟩ = some (.slice IA x.ins.length x.insC) ∧ w'.cell? ⟨w.heap.size, 5, none⟩ = some (.string x.name.1) ∧ w'.cell? ⟨w.heap.size, 6, none⟩ = some (.int .u64 x.digest.1) ∧ w'.cell? ⟨w.heap.size, 7, none⟩ = some (.int .i64 x.size.1)) (first | (go_keep; done) | (go_simp; done) | go_keep)
                  (first
                  | (go_at_call 23; go_must (refine (hln.out _).mono ?_; rintro e w4 ⟨rfl, hb4⟩; have hz4 := hb4.size; (try simp at hz4); obtain ⟨hc4, hf4⟩ := blk_at hb4 w.heap.size (by (try simp) <;> omega)))
                  | (go_at_call 38; go_must (refine (hid2.out _ (by repeat (first | (with_reducible exact Below.refl _ _) | (with_reducible refine Below.drew ?_) | (with_reducible refine below_drewN ?_ _) | ((with_reducible refine Below.alloc ?_ ?_ _); rotate_left; focus ((try simp) <;> omega)) | ((with_reducible refine Below.setCell ?_ ?_ _); rotate_left; focus ((try simp) <;> omega)) | ((with_reducible refine Below.trans ?_ (Below.mono (by assumption) ?_)); rotate_left; focus ((try simp) <;> omega))))).mono ?_; rintro e w5 ⟨rfl, hb5⟩; have hz5 := hb5.size; (try simp at hz5); obtain ⟨hc5, hf5⟩ := blk_at hb5 w.heap.size (by (try simp) <;> omega)))
                  | fail "none")
                all_goals (go_wp2_with fail; go_meet)
                all_goals exact ⟨by first | rfl | (simp; omega), (by repeat (first | (with_reducible exact Below.refl _ _) | (with_reducible refine Below.drew ?_) | (with_reducible refine below_drewN ?_ _) | ((with_reducible refine Below.alloc ?_ ?_ _); rotate_left; focus ((try simp) <;> omega)) | ((with_reducible refine Below.setCell ?_ ?_ _); rotate_left; focus ((try simp) <;> omega)) | ((with_reducible refine Below.trans ?_ (Below.mono (by assumption) ?_)); rotate_left; focus ((try simp) <;> omega))))⟩
              case rest =>
                obtain ⟨rfl, hbx⟩ := hcut
                have hzx := hbx.size
                have hb2 : Hid (Below w.heap.size w wc) := Lib.hid (hbw.trans (hbx.mono hz))
                obtain ⟨e5, _⟩ := blk_at hbx w.heap.size hzr
                have hbn : Hid (Box8 x IA wc w.heap.size) := Lib.hid (by
                 obtain ⟨m0, m1, m2, m3, m4, m5, m6, m7⟩ := hbox0.out
                 exact ⟨(e5 _).trans m0, (e5 _).trans m1, (e5 _).trans m2, (e5 _).trans m3, (e5 _).trans m4, (e5 _).trans m5, (e5 _).trans m6, (e5 _).trans m7⟩)
                go_wp2_with fail
                go_loopw [9] (fun vi wr => ∃ k : Nat, k ≤ x.ins.length ∧ vi = .int .i64 (k : Int) ∧ insErr (l.map Lkr.h) x.run (x.ins.drop k) = insErr (l.map Lkr.h) x.run x.ins ∧ Box8 x IA wr w.heap.size ∧ w.heap.size < wr.heap.size ∧ Below w.heap.size w wr) (fun vi _ => x.ins.length - (intOf vi).toNat)
                case atStart => exact ⟨0, Nat.zero_le _, rfl, rfl, hbn.out, by omega, hb2.out⟩
                case round =>
                  clear p0 p1 p2 p3 p4 p5 p6 p7 e5 hbn hb2 hbox0 hid2
                  replace hbx := Lib.hid hbx
                  replace hbw := Lib.hid hbw
                  replace hz := Lib.hid hz
                  obtain ⟨k, hk, rfl, hie, hbox, hzr, hbs⟩ := hrel
                  have hz := hbs.size
                  have hbx3 := Lib.hid hbox
                  obtain ⟨p0, p1, p2, p3, p4, p5, p6, p7⟩ := hbox
                  by_cases hkl : k < x.ins.length
                  · obtain ⟨y, hy⟩ := get_some hkl
                    obtain ⟨g, o, rfl, hg, hq⟩ := hrw.out (by omega)
                    have r0 := (hbs.cell (p := ⟨g, o + k * 3 + 0, none⟩) hg).trans (hq k y hy 0 (.string y.name.1) rfl)
                    rw [Nat.add_zero] at r0
                    have hr1 : Hid (∀ W, Below w.heap.size w W → W.cell? ⟨g, o + k * 3 + 1, none⟩ = some (.int .u64 y.digest.1)) := Lib.hid fun W hb => (hb.cell (p := ⟨g, o + k * 3 + 1, none⟩) hg).trans (hq k y hy 1 (.int .u64 y.digest.1) rfl)
                    clear hq
                    have i0 : (0 : Int) ≤ (k : Int) := by omega
                    have i1 : (k : Int) < (x.ins.length : Int) := by omega
                    have hgr : g < wr.heap.size := by omega
                    have har0 := fun W => rartifact_any y.name W (hins.out y (List.mem_of_getElem? hy))
                    rcases ha : artB y.name with _ | _
                    · have hnx := Lib.hid ((ins_skip (ls := l.map Lkr.h) (run := x.run) hy ha).symm.trans hie)
                      rw [ha] at har0
                      have har := Lib.hid har0
                      clear har0
                      replace hie := Lib.hid hie
                      replace hy := Lib.hid hy
                      replace ha := Lib.hid ha
                      go_wp2_with (go_at_call 39; go_must (refine (har.out _).mono ?_; rintro e w6 ⟨rfl, hb6⟩; have hz6 := hb6.size; (try simp at hz6); obtain ⟨hc6, hf6⟩ := blk_at hb6 w.heap.size (by (try simp) <;> omega); obtain ⟨hd6, he6⟩ := blk_at hb6 g (by (try simp) <;> omega)))
                      go_roundw
                      case rel => exact ⟨k + 1, by omega, by go_num, hnx.out, (by
                       obtain ⟨m0, m1, m2, m3, m4, m5, m6, m7⟩ := hbx3.out
                       exact ⟨(hc6 _).trans m0, (hc6 _).trans m1, (hc6 _).trans m2, (hc6 _).trans m3, (hc6 _).trans m4, (hc6 _).trans m5, (hc6 _).trans m6, (hc6 _).trans m7⟩), by omega, (by repeat (first | (with_reducible exact Below.refl _ _) | (with_reducible refine Below.drew ?_) | (with_reducible refine below_drewN ?_ _) | ((with_reducible refine Below.alloc ?_ ?_ _); rotate_left; focus ((try simp) <;> omega)) | ((with_reducible refine Below.setCell ?_ ?_ _); rotate_left; focus ((try simp) <;> omega)) | ((with_reducible refine Below.trans ?_ (Below.mono (by assumption) ?_)); rotate_left; focus ((try simp) <;> omega))))⟩
                      case measure => simp [intOf]; omega
                    · rw [ha] at har0
                      have har := Lib.hid har0
                      clear har0
                      have hid1 := fun W hb => hid0.out y.name W hb
                      rcases hh2 : hasL (l.map Lkr.h) x.run y.name with _ | _
                      · have hf : Hid (R = 8) := Lib.hid (by
                          have h8 := ins_8 (ls := l.map Lkr.h) (run := x.run) hy ha hh2
                          rw [hie] at h8
                          rw [hR3.out, if_pos (by rw [h8]; decide), h8])
                        rw [show idxI (l.map Lkr.h) x.run y.name = -1 by unfold idxI; rw [if_neg (by rw [hh2]; decide)]] at hid1
                        have hid2 := Lib.hid hid1
                        clear hid1
                        replace hie := Lib.hid hie
                        replace hy := Lib.hid hy
                        replace ha := Lib.hid ha
                        replace hh2 := Lib.hid hh2
                        go_upto_region 21 with (go_at_call 39; go_must (refine (har.out _).mono ?_; rintro e w6 ⟨rfl, hb6⟩; have hz6 := hb6.size; (try simp at hz6); obtain ⟨hc6, hf6⟩ := blk_at hb6 w.heap.size (by (try simp) <;> omega); obtain ⟨hd6, he6⟩ := blk_at hb6 g (by (try simp) <;> omega)))
                        go_cut [10] (fun s10 wx => s10 = .int .i64 (-1) ∧ Below wr.heap.size wr wx)
                        case first =>
                          go_region_held3 (fun w' => w'.cell? ⟨w.heap.size, 0, none⟩ = some (.string x.run.1) ∧ w'.cell? ⟨w.heap.size, 4, none⟩ = some (.slice (some ⟨g, o, none⟩) x.ins.length x.insC) ∧ w'.cell? ⟨g, o + k * 3, none⟩ = some (.string y.name.1)) (first | (go_keep; done) | (go_simp; done) | go_keep)
                            (first
                            | (go_at_call 38; go_must (refine (hid2.out _ (by repeat (first | (with_reducible exact Below.refl _ _) | (with_reducible refine Below.drew ?_) | (with_reducible refine below_drewN ?_ _) | ((with_reducible refine Below.alloc ?_ ?_ _); rotate_left; focus ((try simp) <;> omega)) | ((with_reducible refine Below.setCell ?_ ?_ _); rotate_left; focus ((try simp) <;> omega)) | ((with_reducible refine Below.trans ?_ (Below.mono (by assumption) ?_)); rotate_left; focus ((try simp) <;> omega))))).mono ?_; rintro e w5 ⟨rfl, hb5⟩; have hz5 := hb5.size; (try simp at hz5); obtain ⟨hc5, hf5⟩ := blk_at hb5 w.heap.size (by (try simp) <;> omega); obtain ⟨hd5, he5⟩ := blk_at hb5 g (by (try simp) <;> omega)))
                            | fail "none")
                          all_goals (go_wp2_with fail; go_meet)
                          all_goals exact ⟨rfl, (by repeat (first | (with_reducible exact Below.refl _ _) | (with_reducible refine Below.drew ?_) | (with_reducible refine below_drewN ?_ _) | ((with_reducible refine Below.alloc ?_ ?_ _); rotate_left; focus ((try simp) <;> omega)) | ((with_reducible refine Below.setCell ?_ ?_ _); rotate_left; focus ((try simp) <;> omega)) | ((with_reducible refine Below.trans ?_ (Below.mono (by assumption) ?_)); rotate_left; focus ((try simp) <;> omega))))⟩
                        case rest =>
                          obtain ⟨rfl, hbx⟩ := hcut
                          have hbf : Below w.heap.size w wc := hbs.trans (hbx.mono hz)
                          clear hbs hbx
                          go_wp2_with fail
                          exact bodyPost_ret (v := .tuple #[.slice A l.length c, .int .i64 8]) (by simp [results, Tryz.results12, go_sem]) rfl ⟨A, c, l, by rw [hf.out], hsame.out _ hbf, hlc, hlno.out (by rw [hf.out]; decide), hbf⟩
                      · obtain ⟨z', hz', -, -⟩ := has_at2 hh2
                        have hjl := idx_lt hh2
                        rw [List.length_map] at hjl
                        obtain ⟨z, hzz⟩ := get_some hjl
                        have hze : z' = z.h := by
                          rw [List.getElem?_map, hzz] at hz'
                          simpa using hz'.symm
                        subst hze
                        rw [show idxI (l.map Lkr.h) x.run y.name = (idxL (l.map Lkr.h) x.run y.name : Int) by unfold idxI; rw [if_pos hh2]] at hid1
                        obtain ⟨J, hJ⟩ : ∃ J, idxL (l.map Lkr.h) x.run y.name = J := ⟨_, rfl⟩
                        rw [hJ] at hid1 hz' hjl hzz
                        have hid2 := Lib.hid hid1
                        clear hid1
                        have hz3 : (l.map Lkr.h)[idxL (l.map Lkr.h) x.run y.name]? = some z.h := by rw [hJ]; exact hz'
                        obtain ⟨gl, ol, hAl, hgl, hql⟩ := hrl.out (by omega)
                        subst hAl
                        have hs6 : Hid (∀ W, Below w.heap.size w W → W.cell? ⟨gl, ol + J * 8 + 6, none⟩ = some (.int .u64 z.digest.1)) := Lib.hid fun W hb => (hb.cell (p := ⟨gl, ol + J * 8 + 6, none⟩) hgl).trans (hql J z hzz 6 (.int .u64 z.digest.1) rfl)
                        clear hql
                        have j0 : (0 : Int) ≤ (J : Int) := by omega
                        have j1 : (J : Int) < (l.length : Int) := by omega
                        by_cases hd : z.digest.1 = y.digest.1
                        · have hnx := Lib.hid ((ins_go hy ha hh2 hz3 hd).symm.trans hie)
                          have hdb : (z.digest.1 != y.digest.1) = false := by rw [hd]; simp
                          replace hie := Lib.hid hie
                          replace hy := Lib.hid hy
                          replace ha := Lib.hid ha
                          replace hh2 := Lib.hid hh2
                          replace hJ := Lib.hid hJ
                          replace hz' := Lib.hid hz'
                          replace hz3 := Lib.hid hz3
                          replace hzz := Lib.hid hzz
                          replace hd := Lib.hid hd
                          go_upto_region 21 with (go_at_call 39; go_must (refine (har.out _).mono ?_; rintro e w6 ⟨rfl, hb6⟩; have hz6 := hb6.size; (try simp at hz6); obtain ⟨hc6, hf6⟩ := blk_at hb6 w.heap.size (by (try simp) <;> omega); obtain ⟨hd6, he6⟩ := blk_at hb6 g (by (try simp) <;> omega)))
                          go_cut [10] (fun s10 wx => s10 = .int .i64 (J : Int) ∧ Below wr.heap.size wr wx)
                          case first =>
                            go_region_held3 (fun w' => w'.cell? ⟨w.heap.size, 0, none⟩ = some (.string x.run.1) ∧ w'.cell? ⟨w.heap.size, 4, none⟩ = some (.slice (some ⟨g, o, none⟩) x.ins.length x.insC) ∧ w'.cell? ⟨g, o + k * 3, none⟩ = some (.string y.name.1)) (first | (go_keep; done) | (go_simp; done) | go_keep)
                              (first
                              | (go_at_call 38; go_must (refine (hid2.out _ (by repeat (first | (with_reducible exact Below.refl _ _) | (with_reducible refine Below.drew ?_) | (with_reducible refine below_drewN ?_ _) | ((with_reducible refine Below.alloc ?_ ?_ _); rotate_left; focus ((try simp) <;> omega)) | ((with_reducible refine Below.setCell ?_ ?_ _); rotate_left; focus ((try simp) <;> omega)) | ((with_reducible refine Below.trans ?_ (Below.mono (by assumption) ?_)); rotate_left; focus ((try simp) <;> omega))))).mono ?_; rintro e w5 ⟨rfl, hb5⟩; have hz5 := hb5.size; (try simp at hz5); obtain ⟨hc5, hf5⟩ := blk_at hb5 w.heap.size (by (try simp) <;> omega); obtain ⟨hd5, he5⟩ := blk_at hb5 g (by (try simp) <;> omega)))
                              | fail "none")
                            all_goals (go_wp2_with fail; go_meet)
                            all_goals exact ⟨rfl, (by repeat (first | (with_reducible exact Below.refl _ _) | (with_reducible refine Below.drew ?_) | (with_reducible refine below_drewN ?_ _) | ((with_reducible refine Below.alloc ?_ ?_ _); rotate_left; focus ((try simp) <;> omega)) | ((with_reducible refine Below.setCell ?_ ?_ _); rotate_left; focus ((try simp) <;> omega)) | ((with_reducible refine Below.trans ?_ (Below.mono (by assumption) ?_)); rotate_left; focus ((try simp) <;> omega))))⟩
                          case rest =>
                            obtain ⟨rfl, hbx⟩ := hcut
                            have hzx := hbx.size
                            have hbf : Below w.heap.size w wc := hbs.trans (hbx.mono hz)
                            obtain ⟨e5, f5⟩ := blk_at hbx w.heap.size hzr
                            have t4 := (e5 4).trans p4
                            have t0 := (e5 0).trans p0
                            have s6 := hs6.out _ hbf
                            have r1 := hr1.out _ hbf
                            clear f5
                            replace e5 := Lib.hid e5
                            clear hbs hbx p0 p1 p2 p3 p4 p5 p6 p7 r0
                            go_wp2_with fail
                            go_quiet (fail)
                            go_wp2_with fail
                            go_roundw
                            case rel => exact ⟨k + 1, by omega, by go_num, hnx.out, (by
                             obtain ⟨m0, m1, m2, m3, m4, m5, m6, m7⟩ := hbx3.out
                             exact ⟨(e5.out _).trans m0, (e5.out _).trans m1, (e5.out _).trans m2, (e5.out _).trans m3, (e5.out _).trans m4, (e5.out _).trans m5, (e5.out _).trans m6, (e5.out _).trans m7⟩), by first | omega | (simp; omega), by first | exact hbf | exact (by repeat (first | (with_reducible exact Below.refl _ _) | (with_reducible refine Below.drew ?_) | (with_reducible refine below_drewN ?_ _) | ((with_reducible refine Below.alloc ?_ ?_ _); rotate_left; focus ((try simp) <;> omega)) | ((with_reducible refine Below.setCell ?_ ?_ _); rotate_left; focus ((try simp) <;> omega)) | ((with_reducible refine Below.trans ?_ (Below.mono (by assumption) ?_)); rotate_left; focus ((try simp) <;> omega))))⟩
                            case measure => simp [intOf]; omega
                        · have hf : Hid (R = 19) := Lib.hid (by
                            have h8 := ins_19 hy ha hh2 hz3 hd
                            rw [hie] at h8
                            rw [hR3.out, if_pos (by rw [h8]; decide), h8])
                          have hdb : (z.digest.1 != y.digest.1) = true := by rw [bne_iff_ne]; exact hd
                          replace hie := Lib.hid hie
                          replace hy := Lib.hid hy
                          replace ha := Lib.hid ha
                          replace hh2 := Lib.hid hh2
                          replace hJ := Lib.hid hJ
                          replace hz' := Lib.hid hz'
                          replace hz3 := Lib.hid hz3
                          replace hzz := Lib.hid hzz
                          replace hd := Lib.hid hd
                          go_upto_region 21 with (go_at_call 39; go_must (refine (har.out _).mono ?_; rintro e w6 ⟨rfl, hb6⟩; have hz6 := hb6.size; (try simp at hz6); obtain ⟨hc6, hf6⟩ := blk_at hb6 w.heap.size (by (try simp) <;> omega); obtain ⟨hd6, he6⟩ := blk_at hb6 g (by (try simp) <;> omega)))
                          go_cut [10] (fun s10 wx => s10 = .int .i64 (J : Int) ∧ Below wr.heap.size wr wx)
                          case first =>
                            go_region_held3 (fun w' => w'.cell? ⟨w.heap.size, 0, none⟩ = some (.string x.run.1) ∧ w'.cell? ⟨w.heap.size, 4, none⟩ = some (.slice (some ⟨g, o, none⟩) x.ins.length x.insC) ∧ w'.cell? ⟨g, o + k * 3, none⟩ = some (.string y.name.1)) (first | (go_keep; done) | (go_simp; done) | go_keep)
                              (first
                              | (go_at_call 38; go_must (refine (hid2.out _ (by repeat (first | (with_reducible exact Below.refl _ _) | (with_reducible refine Below.drew ?_) | (with_reducible refine below_drewN ?_ _) | ((with_reducible refine Below.alloc ?_ ?_ _); rotate_left; focus ((try simp) <;> omega)) | ((with_reducible refine Below.setCell ?_ ?_ _); rotate_left; focus ((try simp) <;> omega)) | ((with_reducible refine Below.trans ?_ (Below.mono (by assumption) ?_)); rotate_left; focus ((try simp) <;> omega))))).mono ?_; rintro e w5 ⟨rfl, hb5⟩; have hz5 := hb5.size; (try simp at hz5); obtain ⟨hc5, hf5⟩ := blk_at hb5 w.heap.size (by (try simp) <;> omega); obtain ⟨hd5, he5⟩ := blk_at hb5 g (by (try simp) <;> omega)))
                              | fail "none")
                            all_goals (go_wp2_with fail; go_meet)
                            all_goals exact ⟨rfl, (by repeat (first | (with_reducible exact Below.refl _ _) | (with_reducible refine Below.drew ?_) | (with_reducible refine below_drewN ?_ _) | ((with_reducible refine Below.alloc ?_ ?_ _); rotate_left; focus ((try simp) <;> omega)) | ((with_reducible refine Below.setCell ?_ ?_ _); rotate_left; focus ((try simp) <;> omega)) | ((with_reducible refine Below.trans ?_ (Below.mono (by assumption) ?_)); rotate_left; focus ((try simp) <;> omega))))⟩
                          case rest =>
                            obtain ⟨rfl, hbx⟩ := hcut
                            have hzx := hbx.size
                            have hbf : Below w.heap.size w wc := hbs.trans (hbx.mono hz)
                            obtain ⟨e5, f5⟩ := blk_at hbx w.heap.size hzr
                            have t4 := (e5 4).trans p4
                            have t0 := (e5 0).trans p0
                            have s6 := hs6.out _ hbf
                            have r1 := hr1.out _ hbf
                            clear f5
                            replace e5 := Lib.hid e5
                            clear hbs hbx p0 p1 p2 p3 p4 p5 p6 p7 r0
                            go_wp2_with fail
                            go_quiet (fail)
                            go_wp2_with fail
                            exact bodyPost_ret (v := .tuple #[.slice (some ⟨gl, ol, none⟩) l.length c, .int .i64 19]) (by simp [results, Tryz.results12, go_sem]) rfl ⟨_, c, l, by rw [hf.out], hsame.out _ (by first | exact hbf | exact (by repeat (first | (with_reducible exact Below.refl _ _) | (with_reducible refine Below.drew ?_) | (with_reducible refine below_drewN ?_ _) | ((with_reducible refine Below.alloc ?_ ?_ _); rotate_left; focus ((try simp) <;> omega)) | ((with_reducible refine Below.setCell ?_ ?_ _); rotate_left; focus ((try simp) <;> omega)) | ((with_reducible refine Below.trans ?_ (Below.mono (by assumption) ?_)); rotate_left; focus ((try simp) <;> omega))))), hlc, hlno.out (by rw [hf.out]; decide), by first | exact hbf | exact (by repeat (first | (with_reducible exact Below.refl _ _) | (with_reducible refine Below.drew ?_) | (with_reducible refine below_drewN ?_ _) | ((with_reducible refine Below.alloc ?_ ?_ _); rotate_left; focus ((try simp) <;> omega)) | ((with_reducible refine Below.setCell ?_ ?_ _); rotate_left; focus ((try simp) <;> omega)) | ((with_reducible refine Below.trans ?_ (Below.mono (by assumption) ?_)); rotate_left; focus ((try simp) <;> omega))))⟩
                  · have i1 : ¬ (k : Int) < (x.ins.length : Int) := by omega
                    rw [ins_end (by omega)] at hie
                    have hR4 := hR3.out
                    rw [if_neg (by rw [← hie]; decide)] at hR4
                    replace hie := Lib.hid hie
                    by_cases h4 : 4096 ≤ l.length
                    · have hf : Hid (R = 21) := Lib.hid (by rw [hR4, if_pos h4])
                      have h4z : (4096 : Int) ≤ (l.length : Int) := by omega
                      replace hR4 := Lib.hid hR4
                      go_wp2_with fail
                      exact bodyPost_ret (v := .tuple #[.slice A l.length c, .int .i64 21]) (by simp [results, Tryz.results12, go_sem]) rfl ⟨A, c, l, by rw [hf.out], hsame.out _ hbs, hlc, hlno.out (by rw [hf.out]; decide), hbs⟩
                    · have hf : Hid (R = 0) := Lib.hid (by rw [hR4, if_neg h4])
                      have h4z : ¬ (4096 : Int) ≤ (l.length : Int) := by omega
                      replace hR4 := Lib.hid hR4
                      go_wp2_with (first
                        | (at_builtin
                           refine wpList_append_rw _ rfl (.tmp 129) (.tmp 130) _ rfl lkrE_len lkrE_one wr.heap.size 31 inf _ 104 Tryz.underlying22 hi0 iz0 iz1 iz2 rfl (by omega) (.slice none 0 0) [] rfl (Own.nil _ _ _) w.heap.size A _ c l rfl rfl (hrl.out.below hbs (Nat.le_refl _)) (by (try simp [maxLen]) <;> omega) (by (try simp) <;> omega) (Nat.le_refl _) ?_
                           intro v7 w7 hown7 hg7 hat7
                           rw [List.nil_append] at hown7
                           have hz7 := hg7.size
                           obtain ⟨e7, f7⟩ := grown_blk hg7 w.heap.size (by omega) nofun
                           have hv7 := Lib.hid hown7.lt
                           replace hown7 := Lib.hid hown7)
                        | (at_builtin
                           refine wpList_append_rw _ rfl (.tmp 132) (.tmp 134) _ rfl lkrE_len lkrE_one wr.heap.size 31 inf _ 104 Tryz.underlying22 hi0 iz0 iz1 iz2 rfl (by omega) v7 l rfl (hown7.out.alloc _) (w7.heap.size + 1) (some ⟨w7.heap.size, 0, none⟩) 1 1 [x] rfl rfl (rw_lkrA hIA.out rfl (by omega)) (by (try simp [maxLen]) <;> omega) (by (try simp) <;> omega) (by (try simp) <;> omega) ?_
                           intro v8 w8 hown8 hg8 hat8
                           have hz8 := hg8.size
                           (try simp at hz8)))
                      have hb7 : Below w.heap.size w w7 := Below.grown hbs hg7 (by omega) nofun
                      have hb8 : Below w.heap.size w w8 := Below.grown (show Below w.heap.size w _ from Below.alloc hb7 (by omega) _) hg8 (by (try simp) <;> omega) (fun q hq => by have := (hv7.out q hq).1; omega)
                      obtain ⟨A8, c8, e8, hl8, _, _⟩ := hown8.form
                      subst e8
                      exact bodyPost_ret (v := .tuple #[.slice A8 (l ++ [x]).length c8, .int .i64 0]) (by simp [results, Tryz.results12, go_sem]) rfl ⟨A8, c8, l ++ [x], by rw [hf.out], hnew.out _ _ hb8 (hown8.reads lkrE_len), hl8, hlyes.out hf.out, hb8⟩
end Go.Proofs.YtjkijknjngiieaaGreatDoor
