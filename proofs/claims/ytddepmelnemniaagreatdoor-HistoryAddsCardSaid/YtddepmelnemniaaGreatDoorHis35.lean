/-
  The walks of histories: histories with one more sample, by the reference.
-/
import Derived.Test.YtddepmelnemniaaGreatDoorHis34
import Derived.Deep.RegionHeld3
import Derived.Deep.DeepCutAuto


namespace Go.Proofs.YtddepmelnemniaaGreatDoor
open Go.RowKit

theorem own_empty {w : World} {g base : Nat} (hg : g = w.heap.size) (hb : base ≤ w.heap.size) : Own sampE 4 47 (w.alloc (.cells #[] 47)) base (.slice (some ⟨g, 0, none⟩) 0 0) [] := by
  subst hg
  exact Own.lit (enc := sampE) (l := []) #[] hb (by simp) (by simp) sampE_len
theorem rw_hstn {w : World} {g B n : Nat} {x : Hst} (hg : g = w.heap.size) (hB : g < B) (hn : n = x.l.length) : Rw hstE 2 (w.alloc (.cells #[.string x.name.1, .slice x.lA n x.lC] 41)) B (some ⟨g, 0, none⟩) [x] := by
  subst hn
  exact rw_hst hg hB
theorem LabS.grown {w w' : World} {H : Nat} {v : Value} {l : List Hst} {x : Hst} (h : LabS w x) (ho : Own hstE 2 41 w H v l) (hg : w.grownBy w' v.ownBlock) : LabS w' x := h.keep (fun g hs => hg.block g hs.lt (fun e => row_sb ho hs e.symm)) hg.size
set_option maxRecDepth 100000 in
set_option maxHeartbeats 8000000 in
theorem rwith_any (A : Option Addr) (c : Nat) (l : List Hst) (nm : Str) (s : Samp) (w : World) (hr : RwH w w.heap.size A l) (hn : l.length ≤ 1000000) (hm : ∀ x ∈ l, x.l.length ≤ 1000000) :
    Calls Tryz.prog 38 #[.slice A l.length c, .string nm.1, .agg #[.int .u64 s.code.1, .int .i64 s.status.1, .int .i64 s.time.1, .int .i64 s.stamp.1]] w fun e w' => ∃ A' c' l', e = .returned (.slice A' l'.length c') ∧ OwnH w' w.heap.size (.slice A' l'.length c') l' ∧ l'.map Hst.h = wR nm s false (l.map Hst.h) ∧ Below w.heap.size w w' := by
  obtain ⟨inf, hi0, iz0, iz1, iz2⟩ := info_parts hst_info
  obtain ⟨sinf, si0, sz0, sz1, sz2⟩ := info_parts samp_info
  obtain ⟨R, hR⟩ : ∃ R, wR nm s false (l.map Hst.h) = R := ⟨_, rfl⟩
  rw [hR]
  replace hR := Lib.hid hR
  have hrl := Lib.hid hr
  have hmil := Lib.hid hm
  clear hr hm
  go_enter Tryz.func38, Tryz.ntmps38
  go_wp2_with fail
  go_loopw [7, 8, 9] (fun vo vd vi wr => ∃ (k : Nat) (cur : List Hst) (d : Bool), k ≤ l.length ∧ vi = .int .i64 (k : Int) ∧ vd = .bool d ∧ OwnH wr (w.heap.size + 1) vo cur ∧ cur.length ≤ 2 * k ∧ cur.map Hst.h ++ wR nm s d ((l.map Hst.h).drop k) = R ∧ Below w.heap.size w wr ∧ Rw sampE 4 wr (w.heap.size + 1) (some ⟨w.heap.size, 0, none⟩) [s] ∧ w.heap.size < wr.heap.size) (fun _ _ vi _ => l.length - (intOf vi).toNat)
  case atStart => exact ⟨0, [], false, Nat.zero_le _, rfl, rfl, OwnH.nil _ _, Nat.le_refl _, hR.out, (by repeat (first | (with_reducible exact Below.refl _ _) | (with_reducible refine Below.drew ?_) | (with_reducible refine below_drewN ?_ _) | ((with_reducible refine Below.alloc ?_ ?_ _); rotate_left; focus ((try simp) <;> omega)) | ((with_reducible refine Below.setCell ?_ ?_ _); rotate_left; focus ((try simp) <;> omega)) | ((with_reducible refine Below.trans ?_ (Below.mono (by assumption) ?_)); rotate_left; focus ((try simp) <;> omega)))), rw_samp rfl (Nat.lt_succ_self _), by simp⟩
  case round =>
    obtain ⟨k, cur, d, hk, rfl, rfl, hown, hcl, hst, hbw, hrs, hz⟩ := hrel
    obtain ⟨s0, s1, s2, s3⟩ := samp_cells hrs
    have hvlt := Lib.hid hown.row.lt
    by_cases hkl : k < l.length
    · obtain ⟨x, hx⟩ := get_some hkl
      rw [wR_step (h := x.h) (by rw [List.getElem?_map, hx]; rfl)] at hst
      obtain ⟨g, o, rfl, hg, hq⟩ := hrl.out.row (by omega)
      have q0 := (hbw.cell (p := ⟨g, o + k * 2, none⟩) hg).trans (hq k x hx 0 (.string x.name.1) rfl)
      have q1 := (hbw.cell (p := ⟨g, o + k * 2 + 1, none⟩) hg).trans (hq k x hx 1 (.slice x.lA x.l.length x.lC) rfl)
      clear hq
      have hxm := List.mem_of_getElem? hx
      have hxn := hmil.out x hxm
      have hrx := Lib.hid ((((hrl.out.labs x hxm).2.2).below hbw (Nat.le_refl _)).more (Nat.le_of_lt hz))
      have i0 : (0 : Int) ≤ (k : Int) := by omega
      have i1 : (k : Int) < (l.length : Int) := by omega
      have hgr : g < wr.heap.size := by omega
      have ngr : g ≠ wr.heap.size := by omega
      have nww : w.heap.size ≠ wr.heap.size := by omega
      replace hx := Lib.hid hx
      replace hxm := Lib.hid hxm
      replace hrs := Lib.hid hrs
      replace hbw := Lib.hid hbw
      replace hown := Lib.hid hown
      replace hst := Lib.hid hst
      go_upto_region 6 with fail
      go_cut [10] (fun s10 wx => ∃ (b : Nat) (A1 : Option Addr) (c1 : Nat), s10 = .pointer (some ⟨b, 0, none⟩) ∧ wr.heap.size ≤ b ∧ b < wx.heap.size ∧ wx.cell? ⟨b, 0, none⟩ = some (.string x.name.1) ∧ wx.cell? ⟨b, 1, none⟩ = some (.slice A1 x.l.length c1) ∧ wx.frozen? ⟨b, 1, none⟩ = false ∧ Own sampE 4 47 wx wr.heap.size (.slice A1 x.l.length c1) x.l ∧ (∀ q, (Value.slice A1 x.l.length c1).ownBlock = some q → q ≠ b) ∧ Below wr.heap.size wr wx)
      case first =>
        go_region_held3 (fun w' => w'.cell? ⟨g, o + k * 2, none⟩ = some (.string x.name.1) ∧ w'.cell? ⟨g, o + k * 2 + 1, none⟩ = some (.slice x.lA x.l.length x.lC)) (first | (go_keep; done) | (go_simp; done) | go_keep)
          (first
          | (refine step_append_rw rfl (.tmp 22) (.tmp 27) _ rfl sampE_len sampE_one wr.heap.size 47 sinf _ 32 Tryz.underlying39 si0 sz0 sz1 sz2 rfl (by omega) (.slice (some ⟨wr.heap.size, 0, none⟩) 0 0) [] rfl (Own.drew (own_empty rfl (Nat.le_refl _))) wr.heap.size x.lA _ x.lC x.l rfl rfl (hrx.out.below (show Below wr.heap.size wr _ from (by repeat (first | (with_reducible exact Below.refl _ _) | (with_reducible refine Below.drew ?_) | (with_reducible refine below_drewN ?_ _) | ((with_reducible refine Below.alloc ?_ ?_ _); rotate_left; focus ((try simp) <;> omega)) | ((with_reducible refine Below.setCell ?_ ?_ _); rotate_left; focus ((try simp) <;> omega)) | ((with_reducible refine Below.trans ?_ (Below.mono (by assumption) ?_)); rotate_left; focus ((try simp) <;> omega))))) (Nat.le_refl _)) (by simp [maxLen]; omega) (by (try simp) <;> omega) (by (try simp) <;> omega) ?_
             intro v1 w1 hown1 hg1 hat1
             rw [List.nil_append] at hown1
             obtain ⟨A1, c1, hv1, hl1, hm1, hlt1⟩ := hown1.form
             subst hv1
             have hz1 := hg1.size
             (try simp at hz1)
             obtain ⟨e1, f1⟩ := grown_blk hg1 g (by (try simp) <;> omega) (fun e => by simp [Value.ownBlock] at e; omega)
             have hb1 : Below wr.heap.size wr w1 := Below.grown (by repeat (first | (with_reducible exact Below.refl _ _) | (with_reducible refine Below.drew ?_) | (with_reducible refine below_drewN ?_ _) | ((with_reducible refine Below.alloc ?_ ?_ _); rotate_left; focus ((try simp) <;> omega)) | ((with_reducible refine Below.setCell ?_ ?_ _); rotate_left; focus ((try simp) <;> omega)) | ((with_reducible refine Below.trans ?_ (Below.mono (by assumption) ?_)); rotate_left; focus ((try simp) <;> omega)))) hg1 (by (try simp) <;> omega) (fun q hq => by simp [Value.ownBlock] at hq; omega)
             have hq1 : ∀ q, (Value.slice A1 x.l.length c1).ownBlock = some q → q < w1.heap.size ∧ (q = wr.heap.size ∨ q = (wr.heap.size + 1)) := fun q hq => ⟨(hlt1 q hq).2, (by rcases hat1 with h | h <;> rw [hq] at h <;> simp [Value.ownBlock] at h <;> omega)⟩
             skip
             replace hown1 := Lib.hid hown1
             replace hq1 := Lib.hid hq1
             clear hg1 hat1 hlt1)
          | (refine step_append_rw rfl (.tmp 22) (.tmp 27) _ rfl sampE_len sampE_one wr.heap.size 47 sinf _ 32 Tryz.underlying39 si0 sz0 sz1 sz2 rfl (by omega) (.slice (some ⟨wr.heap.size, 0, none⟩) 0 0) [] rfl (own_empty rfl (Nat.le_refl _)) wr.heap.size x.lA _ x.lC x.l rfl rfl (hrx.out.below (show Below wr.heap.size wr _ from (by repeat (first | (with_reducible exact Below.refl _ _) | (with_reducible refine Below.drew ?_) | (with_reducible refine below_drewN ?_ _) | ((with_reducible refine Below.alloc ?_ ?_ _); rotate_left; focus ((try simp) <;> omega)) | ((with_reducible refine Below.setCell ?_ ?_ _); rotate_left; focus ((try simp) <;> omega)) | ((with_reducible refine Below.trans ?_ (Below.mono (by assumption) ?_)); rotate_left; focus ((try simp) <;> omega))))) (Nat.le_refl _)) (by simp [maxLen]; omega) (by (try simp) <;> omega) (by (try simp) <;> omega) ?_
             intro v1 w1 hown1 hg1 hat1
             rw [List.nil_append] at hown1
             obtain ⟨A1, c1, hv1, hl1, hm1, hlt1⟩ := hown1.form
             subst hv1
             have hz1 := hg1.size
             (try simp at hz1)
             obtain ⟨e1, f1⟩ := grown_blk hg1 g (by (try simp) <;> omega) (fun e => by simp [Value.ownBlock] at e; omega)
             have hb1 : Below wr.heap.size wr w1 := Below.grown (by repeat (first | (with_reducible exact Below.refl _ _) | (with_reducible refine Below.drew ?_) | (with_reducible refine below_drewN ?_ _) | ((with_reducible refine Below.alloc ?_ ?_ _); rotate_left; focus ((try simp) <;> omega)) | ((with_reducible refine Below.setCell ?_ ?_ _); rotate_left; focus ((try simp) <;> omega)) | ((with_reducible refine Below.trans ?_ (Below.mono (by assumption) ?_)); rotate_left; focus ((try simp) <;> omega)))) hg1 (by (try simp) <;> omega) (fun q hq => by simp [Value.ownBlock] at hq; omega)
             have hq1 : ∀ q, (Value.slice A1 x.l.length c1).ownBlock = some q → q < w1.heap.size ∧ (q = wr.heap.size ∨ q = (wr.heap.size + 1)) := fun q hq => ⟨(hlt1 q hq).2, (by rcases hat1 with h | h <;> rw [hq] at h <;> simp [Value.ownBlock] at h <;> omega)⟩
             skip
             replace hown1 := Lib.hid hown1
             replace hq1 := Lib.hid hq1
             clear hg1 hat1 hlt1)
          | (refine step_append_rw rfl (.tmp 22) (.tmp 27) _ rfl sampE_len sampE_one wr.heap.size 47 sinf _ 32 Tryz.underlying39 si0 sz0 sz1 sz2 rfl (by omega) (.slice (some ⟨wr.heap.size, 0, none⟩) 0 0) [] rfl (Own.drew ((own_empty rfl (Nat.le_refl _)).alloc _)) wr.heap.size x.lA _ x.lC x.l rfl rfl (hrx.out.below (show Below wr.heap.size wr _ from (by repeat (first | (with_reducible exact Below.refl _ _) | (with_reducible refine Below.drew ?_) | (with_reducible refine below_drewN ?_ _) | ((with_reducible refine Below.alloc ?_ ?_ _); rotate_left; focus ((try simp) <;> omega)) | ((with_reducible refine Below.setCell ?_ ?_ _); rotate_left; focus ((try simp) <;> omega)) | ((with_reducible refine Below.trans ?_ (Below.mono (by assumption) ?_)); rotate_left; focus ((try simp) <;> omega))))) (Nat.le_refl _)) (by simp [maxLen]; omega) (by (try simp) <;> omega) (by (try simp) <;> omega) ?_
             intro v1 w1 hown1 hg1 hat1
             rw [List.nil_append] at hown1
             obtain ⟨A1, c1, hv1, hl1, hm1, hlt1⟩ := hown1.form
             subst hv1
             have hz1 := hg1.size
             (try simp at hz1)
             obtain ⟨e1, f1⟩ := grown_blk hg1 g (by (try simp) <;> omega) (fun e => by simp [Value.ownBlock] at e; omega)
             have hb1 : Below wr.heap.size wr w1 := Below.grown (by repeat (first | (with_reducible exact Below.refl _ _) | (with_reducible refine Below.drew ?_) | (with_reducible refine below_drewN ?_ _) | ((with_reducible refine Below.alloc ?_ ?_ _); rotate_left; focus ((try simp) <;> omega)) | ((with_reducible refine Below.setCell ?_ ?_ _); rotate_left; focus ((try simp) <;> omega)) | ((with_reducible refine Below.trans ?_ (Below.mono (by assumption) ?_)); rotate_left; focus ((try simp) <;> omega)))) hg1 (by (try simp) <;> omega) (fun q hq => by simp [Value.ownBlock] at hq; omega)
             have hq1 : ∀ q, (Value.slice A1 x.l.length c1).ownBlock = some q → q < w1.heap.size ∧ (q = wr.heap.size ∨ q = (wr.heap.size + 2)) := fun q hq => ⟨(hlt1 q hq).2, (by rcases hat1 with h | h <;> rw [hq] at h <;> simp [Value.ownBlock] at h <;> omega)⟩
             obtain ⟨e4, f4⟩ := grown_blk hg1 (wr.heap.size + 1) (by (try simp) <;> omega) (fun e => by simp [Value.ownBlock] at e)
             replace hown1 := Lib.hid hown1
             replace hq1 := Lib.hid hq1
             clear hg1 hat1 hlt1)
          | (refine step_append_rw rfl (.tmp 22) (.tmp 27) _ rfl sampE_len sampE_one wr.heap.size 47 sinf _ 32 Tryz.underlying39 si0 sz0 sz1 sz2 rfl (by omega) (.slice (some ⟨wr.heap.size, 0, none⟩) 0 0) [] rfl ((own_empty rfl (Nat.le_refl _)).alloc _) wr.heap.size x.lA _ x.lC x.l rfl rfl (hrx.out.below (show Below wr.heap.size wr _ from (by repeat (first | (with_reducible exact Below.refl _ _) | (with_reducible refine Below.drew ?_) | (with_reducible refine below_drewN ?_ _) | ((with_reducible refine Below.alloc ?_ ?_ _); rotate_left; focus ((try simp) <;> omega)) | ((with_reducible refine Below.setCell ?_ ?_ _); rotate_left; focus ((try simp) <;> omega)) | ((with_reducible refine Below.trans ?_ (Below.mono (by assumption) ?_)); rotate_left; focus ((try simp) <;> omega))))) (Nat.le_refl _)) (by simp [maxLen]; omega) (by (try simp) <;> omega) (by (try simp) <;> omega) ?_
             intro v1 w1 hown1 hg1 hat1
             rw [List.nil_append] at hown1
             obtain ⟨A1, c1, hv1, hl1, hm1, hlt1⟩ := hown1.form
             subst hv1
             have hz1 := hg1.size
             (try simp at hz1)
             obtain ⟨e1, f1⟩ := grown_blk hg1 g (by (try simp) <;> omega) (fun e => by simp [Value.ownBlock] at e; omega)
             have hb1 : Below wr.heap.size wr w1 := Below.grown (by repeat (first | (with_reducible exact Below.refl _ _) | (with_reducible refine Below.drew ?_) | (with_reducible refine below_drewN ?_ _) | ((with_reducible refine Below.alloc ?_ ?_ _); rotate_left; focus ((try simp) <;> omega)) | ((with_reducible refine Below.setCell ?_ ?_ _); rotate_left; focus ((try simp) <;> omega)) | ((with_reducible refine Below.trans ?_ (Below.mono (by assumption) ?_)); rotate_left; focus ((try simp) <;> omega)))) hg1 (by (try simp) <;> omega) (fun q hq => by simp [Value.ownBlock] at hq; omega)
             have hq1 : ∀ q, (Value.slice A1 x.l.length c1).ownBlock = some q → q < w1.heap.size ∧ (q = wr.heap.size ∨ q = (wr.heap.size + 2)) := fun q hq => ⟨(hlt1 q hq).2, (by rcases hat1 with h | h <;> rw [hq] at h <;> simp [Value.ownBlock] at h <;> omega)⟩
             obtain ⟨e4, f4⟩ := grown_blk hg1 (wr.heap.size + 1) (by (try simp) <;> omega) (fun e => by simp [Value.ownBlock] at e)
             replace hown1 := Lib.hid hown1
             replace hq1 := Lib.hid hq1
             clear hg1 hat1 hlt1)
          | (refine step_append_rw rfl (.tmp 22) (.tmp 27) _ rfl sampE_len sampE_one wr.heap.size 47 sinf _ 32 Tryz.underlying39 si0 sz0 sz1 sz2 rfl (by omega) (.slice (some ⟨(wr.heap.size + 1), 0, none⟩) 0 0) [] rfl (Own.drew (own_empty (by simp) (by simp))) wr.heap.size x.lA _ x.lC x.l rfl rfl (hrx.out.below (show Below wr.heap.size wr _ from (by repeat (first | (with_reducible exact Below.refl _ _) | (with_reducible refine Below.drew ?_) | (with_reducible refine below_drewN ?_ _) | ((with_reducible refine Below.alloc ?_ ?_ _); rotate_left; focus ((try simp) <;> omega)) | ((with_reducible refine Below.setCell ?_ ?_ _); rotate_left; focus ((try simp) <;> omega)) | ((with_reducible refine Below.trans ?_ (Below.mono (by assumption) ?_)); rotate_left; focus ((try simp) <;> omega))))) (Nat.le_refl _)) (by simp [maxLen]; omega) (by (try simp) <;> omega) (by (try simp) <;> omega) ?_
             intro v1 w1 hown1 hg1 hat1
             rw [List.nil_append] at hown1
             obtain ⟨A1, c1, hv1, hl1, hm1, hlt1⟩ := hown1.form
             subst hv1
             have hz1 := hg1.size
             (try simp at hz1)
             obtain ⟨e1, f1⟩ := grown_blk hg1 g (by (try simp) <;> omega) (fun e => by simp [Value.ownBlock] at e; omega)
             have hb1 : Below wr.heap.size wr w1 := Below.grown (by repeat (first | (with_reducible exact Below.refl _ _) | (with_reducible refine Below.drew ?_) | (with_reducible refine below_drewN ?_ _) | ((with_reducible refine Below.alloc ?_ ?_ _); rotate_left; focus ((try simp) <;> omega)) | ((with_reducible refine Below.setCell ?_ ?_ _); rotate_left; focus ((try simp) <;> omega)) | ((with_reducible refine Below.trans ?_ (Below.mono (by assumption) ?_)); rotate_left; focus ((try simp) <;> omega)))) hg1 (by (try simp) <;> omega) (fun q hq => by simp [Value.ownBlock] at hq; omega)
             have hq1 : ∀ q, (Value.slice A1 x.l.length c1).ownBlock = some q → q < w1.heap.size ∧ (q = (wr.heap.size + 1) ∨ q = (wr.heap.size + 2)) := fun q hq => ⟨(hlt1 q hq).2, (by rcases hat1 with h | h <;> rw [hq] at h <;> simp [Value.ownBlock] at h <;> omega)⟩
             obtain ⟨e4, f4⟩ := grown_blk hg1 wr.heap.size (by (try simp) <;> omega) (fun e => by simp [Value.ownBlock] at e)
             replace hown1 := Lib.hid hown1
             replace hq1 := Lib.hid hq1
             clear hg1 hat1 hlt1)
          | (refine step_append_rw rfl (.tmp 22) (.tmp 27) _ rfl sampE_len sampE_one wr.heap.size 47 sinf _ 32 Tryz.underlying39 si0 sz0 sz1 sz2 rfl (by omega) (.slice (some ⟨(wr.heap.size + 1), 0, none⟩) 0 0) [] rfl (own_empty (by simp) (by simp)) wr.heap.size x.lA _ x.lC x.l rfl rfl (hrx.out.below (show Below wr.heap.size wr _ from (by repeat (first | (with_reducible exact Below.refl _ _) | (with_reducible refine Below.drew ?_) | (with_reducible refine below_drewN ?_ _) | ((with_reducible refine Below.alloc ?_ ?_ _); rotate_left; focus ((try simp) <;> omega)) | ((with_reducible refine Below.setCell ?_ ?_ _); rotate_left; focus ((try simp) <;> omega)) | ((with_reducible refine Below.trans ?_ (Below.mono (by assumption) ?_)); rotate_left; focus ((try simp) <;> omega))))) (Nat.le_refl _)) (by simp [maxLen]; omega) (by (try simp) <;> omega) (by (try simp) <;> omega) ?_
             intro v1 w1 hown1 hg1 hat1
             rw [List.nil_append] at hown1
             obtain ⟨A1, c1, hv1, hl1, hm1, hlt1⟩ := hown1.form
             subst hv1
             have hz1 := hg1.size
             (try simp at hz1)
             obtain ⟨e1, f1⟩ := grown_blk hg1 g (by (try simp) <;> omega) (fun e => by simp [Value.ownBlock] at e; omega)
             have hb1 : Below wr.heap.size wr w1 := Below.grown (by repeat (first | (with_reducible exact Below.refl _ _) | (with_reducible refine Below.drew ?_) | (with_reducible refine below_drewN ?_ _) | ((with_reducible refine Below.alloc ?_ ?_ _); rotate_left; focus ((try simp) <;> omega)) | ((with_reducible refine Below.setCell ?_ ?_ _); rotate_left; focus ((try simp) <;> omega)) | ((with_reducible refine Below.trans ?_ (Below.mono (by assumption) ?_)); rotate_left; focus ((try simp) <;> omega)))) hg1 (by (try simp) <;> omega) (fun q hq => by simp [Value.ownBlock] at hq; omega)
             have hq1 : ∀ q, (Value.slice A1 x.l.length c1).ownBlock = some q → q < w1.heap.size ∧ (q = (wr.heap.size + 1) ∨ q = (wr.heap.size + 2)) := fun q hq => ⟨(hlt1 q hq).2, (by rcases hat1 with h | h <;> rw [hq] at h <;> simp [Value.ownBlock] at h <;> omega)⟩
             obtain ⟨e4, f4⟩ := grown_blk hg1 wr.heap.size (by (try simp) <;> omega) (fun e => by simp [Value.ownBlock] at e)
             replace hown1 := Lib.hid hown1
             replace hq1 := Lib.hid hq1
             clear hg1 hat1 hlt1)
          | fail "none")
        all_goals (go_wp2_with fail; go_meet)
        all_goals refine ⟨_, A1, c1, rfl, ?_, ?_, ?_, ?_, ?_, ?_, ?_, ?_⟩
        all_goals first
          | (go_simp; done)
          | (((try simp) <;> omega); done)
          | (intro q hq; have h := hq1.out q hq; omega)
          | (with_reducible exact hown1.out.alloc _)
          | (with_reducible exact hown1.out.setCell (fun q hq => by have h := hq1.out q hq; (try simp only []) <;> omega) _)
          | (with_reducible exact (hown1.out.setCell (fun q hq => by have h := hq1.out q hq; (try simp only []) <;> omega) _).setCell (fun q hq => by have h := hq1.out q hq; (try simp only []) <;> omega) _)
          | (exact (by repeat (first | (with_reducible exact Below.refl _ _) | (with_reducible refine Below.drew ?_) | (with_reducible refine below_drewN ?_ _) | ((with_reducible refine Below.alloc ?_ ?_ _); rotate_left; focus ((try simp) <;> omega)) | ((with_reducible refine Below.setCell ?_ ?_ _); rotate_left; focus ((try simp) <;> omega)) | ((with_reducible refine Below.trans ?_ (Below.mono (by assumption) ?_)); rotate_left; focus ((try simp) <;> omega)))))
      case rest =>
        obtain ⟨b, A1, c1, rfl, hbl, hbs, d0, d1, df, hown1, hqb, hbx⟩ := hcut
        have hzx := hbx.size
        have hlt1 := hown1.lt
        replace s0 := (hbx.cell (p := ⟨w.heap.size, 0, none⟩) (by show w.heap.size < _; omega)).trans s0
        replace s1 := (hbx.cell (p := ⟨w.heap.size, 1, none⟩) (by show w.heap.size < _; omega)).trans s1
        replace s2 := (hbx.cell (p := ⟨w.heap.size, 2, none⟩) (by show w.heap.size < _; omega)).trans s2
        replace s3 := (hbx.cell (p := ⟨w.heap.size, 3, none⟩) (by show w.heap.size < _; omega)).trans s3
        clear q0 q1
        replace hown1 := Lib.hid hown1
        replace hqb := Lib.hid hqb
        replace hlt1 := Lib.hid hlt1
        have nbw : b ≠ w.heap.size := by omega
        have nwb : w.heap.size ≠ b := by omega
        obtain ⟨C, hC⟩ : ∃ C, cmpS nm x.name = C := ⟨_, rfl⟩
        have hcm : Hid (∀ W, Calls Tryz.prog 55 #[.string nm.1, .string x.name.1] W fun e w' => e = .returned (.int .i64 C) ∧ Below W.heap.size W w') := Lib.hid fun W => (rcompare_any _ _ nm.2 x.name.2 W).mono fun _ _ h => ⟨by rw [h.1, ← hC]; rfl, by obtain ⟨n, e⟩ := h.2; rw [e]; exact below_drewN (Below.refl _ _) _⟩
        have hCe : C < 0 → nm ≠ x.name := fun h => cmp_ne (by rw [hC]; exact h)
        have hst0 : cur.map Hst.h ++ ((if d = false ∧ C < 0 then [⟨nm, [s]⟩] else []) ++ (if nm = x.name then ⟨x.name, cut1 (x.l ++ [s])⟩ else x.h) :: wR nm s (d || decide (C < 0) || decide (nm = x.name)) ((l.map Hst.h).drop (k + 1))) = R := by rw [← hC]; exact hst.out
        clear hst
        replace hC := Lib.hid hC
        by_cases hd : d = false ∧ C < 0
        · obtain ⟨rfl, hc⟩ := hd
          have hne := hCe hc
          have hsb : (nm.1.toList == x.name.1.toList) = false := by rw [eq_str, decide_eq_false_iff_not]; exact hne
          have hnx : Hid (∀ y z : Hst, y.h = ⟨nm, [s]⟩ → z.h = x.h → (cur ++ [y] ++ [z]).map Hst.h ++ wR nm s true ((l.map Hst.h).drop (k + 1)) = R) := Lib.hid (fun y z hy hz => by
            rw [← hst0, if_pos ⟨rfl, hc⟩, if_neg hne, decide_eq_true hc, Bool.or_true, Bool.true_or]
            simp [hy, hz])
          clear hst0 hCe hne
          go_wp2_with (first
            | (go_at_call 55; go_must (refine (hcm.out _).mono ?_; rintro e w2 ⟨rfl, hb2⟩; have hz2 := hb2.size; (try simp at hz2); have hk2 : b < w2.heap.size := (by omega); obtain ⟨e3, f3⟩ := blk_at hb2 b (by (try simp) <;> omega); obtain ⟨e4, f4⟩ := blk_at hb2 w.heap.size (by (try simp) <;> omega)))
            | ((at_builtin
                refine wpList_append_rw _ rfl (.tmp 39) (.tmp 44) _ rfl hstE_len hstE_one (w.heap.size + 1) 41 inf _ 40 Tryz.underlying22 hi0 iz0 iz1 iz2 rfl (by omega) _ cur rfl (hown.out.row.all (by repeat (first | (with_reducible exact Below.refl _ _) | (with_reducible refine Below.drew ?_) | (with_reducible refine below_drewN ?_ _) | ((with_reducible refine Below.alloc ?_ ?_ _); rotate_left; focus ((try simp) <;> omega)) | ((with_reducible refine Below.setCell ?_ ?_ _); rotate_left; focus ((try simp) <;> omega)) | ((with_reducible refine Below.trans ?_ (Below.mono (by assumption) ?_)); rotate_left; focus ((try simp) <;> omega))))) _ (some ⟨w2.heap.size + 1, 0, none⟩) 1 1 [⟨nm, some ⟨w2.heap.size, 0, none⟩, 1, [s]⟩] rfl rfl (rw_hst (by (first | rfl | simp)) (Nat.lt_succ_self _)) ?_ ?_ ?_ ?_
                · (try simp [maxLen]) <;> omega
                · (try simp) <;> omega
                · (try simp) <;> omega
                intro v4 w4 hown4 hg4 hat4
                have hz4 := hg4.size
                (try simp at hz4)
                have hO4 : Hid (OwnH w4 (w.heap.size + 1) v4 (cur ++ [⟨nm, some ⟨w2.heap.size, 0, none⟩, 1, [s]⟩])) := Lib.hid (OwnH.grown (hown.out.all (by repeat (first | (with_reducible exact Below.refl _ _) | (with_reducible refine Below.drew ?_) | (with_reducible refine below_drewN ?_ _) | ((with_reducible refine Below.alloc ?_ ?_ _); rotate_left; focus ((try simp) <;> omega)) | ((with_reducible refine Below.setCell ?_ ?_ _); rotate_left; focus ((try simp) <;> omega)) | ((with_reducible refine Below.trans ?_ (Below.mono (by assumption) ?_)); rotate_left; focus ((try simp) <;> omega))))) hown4 hg4 fun z hz => (by
                  rcases List.mem_append.1 hz with h | h
                  · exact .inl h
                  · obtain rfl := List.mem_singleton.1 h
                    exact .inr ((labs_new rfl nm s).all ((Below.refl _ _).alloc (Nat.le_refl _) _))))
                have hb4 : Below (w.heap.size + 1) wr w4 := Below.grown (Below.mono (B := wr.heap.size) (by repeat (first | (with_reducible exact Below.refl _ _) | (with_reducible refine Below.drew ?_) | (with_reducible refine below_drewN ?_ _) | ((with_reducible refine Below.alloc ?_ ?_ _); rotate_left; focus ((try simp) <;> omega)) | ((with_reducible refine Below.setCell ?_ ?_ _); rotate_left; focus ((try simp) <;> omega)) | ((with_reducible refine Below.trans ?_ (Below.mono (by assumption) ?_)); rotate_left; focus ((try simp) <;> omega)))) (by omega)) hg4 (by (try simp) <;> omega) (fun q hq => (hvlt.out q hq).1))
               obtain ⟨e5, f5⟩ := grown_blk hg4 b (by (try simp) <;> omega) (fun e => by have := (hvlt.out _ e.symm).2; omega)
               have hx4 : Hid (LabS w4 ⟨x.name, A1, c1, x.l⟩) := Lib.hid (LabS.grown ((labs_own hown1.out rfl x.name).all (show Below wc.heap.size wc _ from (by repeat (first | (with_reducible exact Below.refl _ _) | (with_reducible refine Below.drew ?_) | (with_reducible refine below_drewN ?_ _) | ((with_reducible refine Below.alloc ?_ ?_ _); rotate_left; focus ((try simp) <;> omega)) | ((with_reducible refine Below.setCell ?_ ?_ _); rotate_left; focus ((try simp) <;> omega)) | ((with_reducible refine Below.trans ?_ (Below.mono (by assumption) ?_)); rotate_left; focus ((try simp) <;> omega)))))) (hown.out.row.all (by repeat (first | (with_reducible exact Below.refl _ _) | (with_reducible refine Below.drew ?_) | (with_reducible refine below_drewN ?_ _) | ((with_reducible refine Below.alloc ?_ ?_ _); rotate_left; focus ((try simp) <;> omega)) | ((with_reducible refine Below.setCell ?_ ?_ _); rotate_left; focus ((try simp) <;> omega)) | ((with_reducible refine Below.trans ?_ (Below.mono (by assumption) ?_)); rotate_left; focus ((try simp) <;> omega))))) hg4)
               clear hown4 hg4 hat4)
            | (at_builtin
               refine wpList_append_rw _ rfl (.tmp 64) (.tmp 66) _ rfl hstE_len hstE_one (w.heap.size + 1) 41 inf _ 40 Tryz.underlying22 hi0 iz0 iz1 iz2 rfl (by omega) _ ((cur ++ [(⟨nm, some ⟨w2.heap.size, 0, none⟩, 1, [s]⟩ : Hst)])) rfl ((hO4.out.all (show Below w4.heap.size w4 _ from (by repeat (first | (with_reducible exact Below.refl _ _) | (with_reducible refine Below.drew ?_) | (with_reducible refine below_drewN ?_ _) | ((with_reducible refine Below.alloc ?_ ?_ _); rotate_left; focus ((try simp) <;> omega)) | ((with_reducible refine Below.setCell ?_ ?_ _); rotate_left; focus ((try simp) <;> omega)) | ((with_reducible refine Below.trans ?_ (Below.mono (by assumption) ?_)); rotate_left; focus ((try simp) <;> omega))))))).row _ (some ⟨_, 0, none⟩) 1 1 [(⟨x.name, A1, c1, x.l⟩ : Hst)] rfl rfl (rw_hstn (x := (⟨x.name, A1, c1, x.l⟩ : Hst)) (by (first | rfl | simp)) (Nat.lt_succ_self _) (by (try simp) <;> omega)) ?_ ?_ ?_ ?_
               · (try simp [maxLen]) <;> omega
               · (try simp) <;> omega
               · (try simp) <;> omega
               intro v8 w8 hown8 hg8 hat8
               have hz8 := hg8.size
               (try simp at hz8)
               have hO8 : OwnH w8 (w.heap.size + 1) v8 (((cur ++ [(⟨nm, some ⟨w2.heap.size, 0, none⟩, 1, [s]⟩ : Hst)])) ++ [(⟨x.name, A1, c1, x.l⟩ : Hst)]) := OwnH.grown ((hO4.out.all (show Below w4.heap.size w4 _ from (by repeat (first | (with_reducible exact Below.refl _ _) | (with_reducible refine Below.drew ?_) | (with_reducible refine below_drewN ?_ _) | ((with_reducible refine Below.alloc ?_ ?_ _); rotate_left; focus ((try simp) <;> omega)) | ((with_reducible refine Below.setCell ?_ ?_ _); rotate_left; focus ((try simp) <;> omega)) | ((with_reducible refine Below.trans ?_ (Below.mono (by assumption) ?_)); rotate_left; focus ((try simp) <;> omega))))))) hown8 hg8 fun z hz => (by
                 rcases List.mem_append.1 hz with h | h
                 · exact .inl h
                 · obtain rfl := List.mem_singleton.1 h
                   exact .inr ((hx4.out.all (show Below w4.heap.size w4 _ from (by repeat (first | (with_reducible exact Below.refl _ _) | (with_reducible refine Below.drew ?_) | (with_reducible refine below_drewN ?_ _) | ((with_reducible refine Below.alloc ?_ ?_ _); rotate_left; focus ((try simp) <;> omega)) | ((with_reducible refine Below.setCell ?_ ?_ _); rotate_left; focus ((try simp) <;> omega)) | ((with_reducible refine Below.trans ?_ (Below.mono (by assumption) ?_)); rotate_left; focus ((try simp) <;> omega))))))))
               have hb8 : Below (w.heap.size + 1) wr w8 := Below.grown (hb4.trans (Below.mono (B := w4.heap.size) (by repeat (first | (with_reducible exact Below.refl _ _) | (with_reducible refine Below.drew ?_) | (with_reducible refine below_drewN ?_ _) | ((with_reducible refine Below.alloc ?_ ?_ _); rotate_left; focus ((try simp) <;> omega)) | ((with_reducible refine Below.setCell ?_ ?_ _); rotate_left; focus ((try simp) <;> omega)) | ((with_reducible refine Below.trans ?_ (Below.mono (by assumption) ?_)); rotate_left; focus ((try simp) <;> omega)))) (by omega))) hg8 (by (try simp) <;> omega) (fun q hq => (((hO4.out.all (show Below w4.heap.size w4 _ from (by repeat (first | (with_reducible exact Below.refl _ _) | (with_reducible refine Below.drew ?_) | (with_reducible refine below_drewN ?_ _) | ((with_reducible refine Below.alloc ?_ ?_ _); rotate_left; focus ((try simp) <;> omega)) | ((with_reducible refine Below.setCell ?_ ?_ _); rotate_left; focus ((try simp) <;> omega)) | ((with_reducible refine Below.trans ?_ (Below.mono (by assumption) ?_)); rotate_left; focus ((try simp) <;> omega))))))).row.lt q hq).1)))
          go_roundw
          case rel => exact ⟨k + 1, _, true, hkl, by go_num, rfl, hO8, by simp; omega, (hnx.out _ _ rfl rfl), hbw.out.trans (hb8.mono (by omega)), hrs.out.below hb8 (Nat.le_refl _), by omega⟩
          case measure => simp [intOf]; omega
        · rw [if_neg hd, List.nil_append] at hst0
          by_cases hne : nm = x.name
          · have hsb : (nm.1.toList == x.name.1.toList) = true := by rw [eq_str, decide_eq_true_eq]; exact hne
            have hnx : Hid (∀ z : Hst, z.h = ⟨x.name, cut1 (x.l ++ [s])⟩ → (cur ++ [z]).map Hst.h ++ wR nm s true ((l.map Hst.h).drop (k + 1)) = R) := Lib.hid (fun z hz => by
              rw [← hst0, if_pos hne, decide_eq_true hne, Bool.or_true]
              simp [hz])
            rcases d with _ | _
            · have hc : ¬ C < 0 := fun h => hd ⟨rfl, h⟩
              clear hst0 hCe hd
              replace hne := Lib.hid hne
              by_cases h3 : 32 < x.l.length + 1
              · have h3z : (32 : Int) < (x.l.length : Int) + 1 := by omega
                have hnz : Hid (∀ z : Hst, z.h = ⟨x.name, (x.l ++ [s]).drop 1⟩ → (cur ++ [z]).map Hst.h ++ wR nm s true ((l.map Hst.h).drop (k + 1)) = R) := Lib.hid fun z hz => hnx.out z (by rw [hz]; unfold cut1; rw [if_pos (by rw [List.length_append, List.length_singleton]; exact h3)])
                have hsl : ((x.l ++ [s]).drop 1).length = x.l.length := by rw [List.length_drop, List.length_append, List.length_singleton]; omega
                go_wp2_with (first
                  | (go_at_call 55; go_must (refine (hcm.out _).mono ?_; rintro e w2 ⟨rfl, hb2⟩; have hz2 := hb2.size; (try simp at hz2); have hk2 : b < w2.heap.size := (by omega); obtain ⟨e3, f3⟩ := blk_at hb2 b (by (try simp) <;> omega); obtain ⟨e4, f4⟩ := blk_at hb2 w.heap.size (by (try simp) <;> omega)))
                  | (at_builtin
                     refine wpList_append_rw _ rfl (.tmp 51) (.tmp 53) _ rfl sampE_len sampE_one wr.heap.size 47 sinf _ 32 Tryz.underlying39 si0 sz0 sz1 sz2 rfl (by omega) _ x.l rfl (hown1.out.all (show Below wc.heap.size wc _ from (by repeat (first | (with_reducible exact Below.refl _ _) | (with_reducible refine Below.drew ?_) | (with_reducible refine below_drewN ?_ _) | ((with_reducible refine Below.alloc ?_ ?_ _); rotate_left; focus ((try simp) <;> omega)) | ((with_reducible refine Below.setCell ?_ ?_ _); rotate_left; focus ((try simp) <;> omega)) | ((with_reducible refine Below.trans ?_ (Below.mono (by assumption) ?_)); rotate_left; focus ((try simp) <;> omega)))))) _ (some ⟨w2.heap.size, 0, none⟩) 1 1 [s] rfl rfl (rw_samp rfl (Nat.lt_succ_self _)) ?_ ?_ ?_ ?_
                     · (try simp [maxLen]) <;> omega
                     · (try simp) <;> omega
                     · (try simp) <;> omega
                     intro v6 w6 hown6 hg6 hat6
                     obtain ⟨g6, c6, hv6, hg6b, hg6l⟩ := World.ownsRow.form hown6 (by rw [List.length_append, List.length_singleton]; omega)
                     subst hv6
                     have hz6 := hg6.size
                     (try simp at hz6)
                     have hc6 : x.l.length + 1 ≤ c6 := (by have h := (own_form hown6).2.1; rwa [List.length_append, List.length_singleton] at h)
                     obtain ⟨e6, f6⟩ := grown_blk hg6 b (by (try simp) <;> omega) (fun e => hqb.out b e.symm rfl)
                     have k6 : w6.cell? ⟨b, 1, none⟩ = some (.slice A1 x.l.length c1) := (e6 1).trans (by go_simp)
                     have k7 : ∀ V, (w6.setCell ⟨b, 1, none⟩ V).cell? ⟨b, 1, none⟩ = some V := fun V => World.cell?_setCell_same' _ _ _ (by rw [k6]; rfl)
                     have k8 : ∀ V V', ((w6.setCell ⟨b, 1, none⟩ V).setCell ⟨b, 1, none⟩ V').cell? ⟨b, 1, none⟩ = some V' := fun V V' => World.cell?_setCell_same' _ _ _ (by rw [k7]; rfl)
                     have hq6 : Hid (∀ q, (Value.slice (some ⟨g6, 0, none⟩) (x.l ++ [s]).length c6).ownBlock = some q → q ≠ b) := Lib.hid (fun q hq => (by
                       rcases hat6 with h | h
                       · rw [hq] at h
                         exact hqb.out q h.symm
                       · rw [hq] at h
                         simp at h
                         omega))
                     have hb6 : Below wr.heap.size wr w6 := Below.grown (by repeat (first | (with_reducible exact Below.refl _ _) | (with_reducible refine Below.drew ?_) | (with_reducible refine below_drewN ?_ _) | ((with_reducible refine Below.alloc ?_ ?_ _); rotate_left; focus ((try simp) <;> omega)) | ((with_reducible refine Below.setCell ?_ ?_ _); rotate_left; focus ((try simp) <;> omega)) | ((with_reducible refine Below.trans ?_ (Below.mono (by assumption) ?_)); rotate_left; focus ((try simp) <;> omega)))) hg6 (by (try simp) <;> omega) (fun q hq => (hown1.out.lt q hq).1)
                     replace hown6 := Lib.hid hown6
                     clear hg6 hat6)
                  | (at_builtin
                     refine wpList_append_rw _ rfl (.tmp 64) (.tmp 66) _ rfl hstE_len hstE_one (w.heap.size + 1) 41 inf _ 40 Tryz.underlying22 hi0 iz0 iz1 iz2 rfl (by omega) _ (cur) rfl ((hown.out.all (by repeat (first | (with_reducible exact Below.refl _ _) | (with_reducible refine Below.drew ?_) | (with_reducible refine below_drewN ?_ _) | ((with_reducible refine Below.alloc ?_ ?_ _); rotate_left; focus ((try simp) <;> omega)) | ((with_reducible refine Below.setCell ?_ ?_ _); rotate_left; focus ((try simp) <;> omega)) | ((with_reducible refine Below.trans ?_ (Below.mono (by assumption) ?_)); rotate_left; focus ((try simp) <;> omega)))))).row _ (some ⟨_, 0, none⟩) 1 1 [(⟨x.name, some ⟨g6, 4, none⟩, c6 - 1, (x.l ++ [s]).drop 1⟩ : Hst)] rfl rfl (rw_hstn (x := (⟨x.name, some ⟨g6, 4, none⟩, c6 - 1, (x.l ++ [s]).drop 1⟩ : Hst)) (by (first | rfl | simp)) (Nat.lt_succ_self _) (by (try simp) <;> omega)) ?_ ?_ ?_ ?_
                     · (try simp [maxLen]) <;> omega
                     · (try simp) <;> omega
                     · (try simp) <;> omega
                     intro v8 w8 hown8 hg8 hat8
                     have hz8 := hg8.size
                     (try simp at hz8)
                     have hO8 : OwnH w8 (w.heap.size + 1) v8 ((cur) ++ [(⟨x.name, some ⟨g6, 4, none⟩, c6 - 1, (x.l ++ [s]).drop 1⟩ : Hst)]) := OwnH.grown ((hown.out.all (by repeat (first | (with_reducible exact Below.refl _ _) | (with_reducible refine Below.drew ?_) | (with_reducible refine below_drewN ?_ _) | ((with_reducible refine Below.alloc ?_ ?_ _); rotate_left; focus ((try simp) <;> omega)) | ((with_reducible refine Below.setCell ?_ ?_ _); rotate_left; focus ((try simp) <;> omega)) | ((with_reducible refine Below.trans ?_ (Below.mono (by assumption) ?_)); rotate_left; focus ((try simp) <;> omega)))))) hown8 hg8 fun z hz => (by
                       rcases List.mem_append.1 hz with h | h
                       · exact .inl h
                       · obtain rfl := List.mem_singleton.1 h
                         exact .inr (((labs_drop (a := 1) ((hown6.out.setCell hq6.out _).setCell hq6.out _) (by rw [List.length_append, List.length_singleton]; omega) x.name).all (by repeat (first | (with_reducible exact Below.refl _ _) | (with_reducible refine Below.drew ?_) | (with_reducible refine below_drewN ?_ _) | ((with_reducible refine Below.alloc ?_ ?_ _); rotate_left; focus ((try simp) <;> omega)) | ((with_reducible refine Below.setCell ?_ ?_ _); rotate_left; focus ((try simp) <;> omega)) | ((with_reducible refine Below.trans ?_ (Below.mono (by assumption) ?_)); rotate_left; focus ((try simp) <;> omega)))))))
                     have hb8 : Below (w.heap.size + 1) wr w8 := Below.grown (Below.mono (B := wr.heap.size) (by repeat (first | (with_reducible exact Below.refl _ _) | (with_reducible refine Below.drew ?_) | (with_reducible refine below_drewN ?_ _) | ((with_reducible refine Below.alloc ?_ ?_ _); rotate_left; focus ((try simp) <;> omega)) | ((with_reducible refine Below.setCell ?_ ?_ _); rotate_left; focus ((try simp) <;> omega)) | ((with_reducible refine Below.trans ?_ (Below.mono (by assumption) ?_)); rotate_left; focus ((try simp) <;> omega)))) (by omega)) hg8 (by (try simp) <;> omega) (fun q hq => (((hown.out.all (by repeat (first | (with_reducible exact Below.refl _ _) | (with_reducible refine Below.drew ?_) | (with_reducible refine below_drewN ?_ _) | ((with_reducible refine Below.alloc ?_ ?_ _); rotate_left; focus ((try simp) <;> omega)) | ((with_reducible refine Below.setCell ?_ ?_ _); rotate_left; focus ((try simp) <;> omega)) | ((with_reducible refine Below.trans ?_ (Below.mono (by assumption) ?_)); rotate_left; focus ((try simp) <;> omega)))))).row.lt q hq).1)))
                go_roundw
                case rel => exact ⟨k + 1, _, true, hkl, by go_num, rfl, hO8, by simp; omega, (hnz.out _ rfl), hbw.out.trans (hb8.mono (by omega)), hrs.out.below hb8 (Nat.le_refl _), by omega⟩
                case measure => simp [intOf]; omega
              · have h3z : ¬ (32 : Int) < (x.l.length : Int) + 1 := by omega
                have hnz : Hid (∀ z : Hst, z.h = ⟨x.name, x.l ++ [s]⟩ → (cur ++ [z]).map Hst.h ++ wR nm s true ((l.map Hst.h).drop (k + 1)) = R) := Lib.hid fun z hz => hnx.out z (by rw [hz]; unfold cut1; rw [if_neg (by rw [List.length_append, List.length_singleton]; exact h3)])
                go_wp2_with (first
                  | (go_at_call 55; go_must (refine (hcm.out _).mono ?_; rintro e w2 ⟨rfl, hb2⟩; have hz2 := hb2.size; (try simp at hz2); have hk2 : b < w2.heap.size := (by omega); obtain ⟨e3, f3⟩ := blk_at hb2 b (by (try simp) <;> omega); obtain ⟨e4, f4⟩ := blk_at hb2 w.heap.size (by (try simp) <;> omega)))
                  | (at_builtin
                     refine wpList_append_rw _ rfl (.tmp 51) (.tmp 53) _ rfl sampE_len sampE_one wr.heap.size 47 sinf _ 32 Tryz.underlying39 si0 sz0 sz1 sz2 rfl (by omega) _ x.l rfl (hown1.out.all (show Below wc.heap.size wc _ from (by repeat (first | (with_reducible exact Below.refl _ _) | (with_reducible refine Below.drew ?_) | (with_reducible refine below_drewN ?_ _) | ((with_reducible refine Below.alloc ?_ ?_ _); rotate_left; focus ((try simp) <;> omega)) | ((with_reducible refine Below.setCell ?_ ?_ _); rotate_left; focus ((try simp) <;> omega)) | ((with_reducible refine Below.trans ?_ (Below.mono (by assumption) ?_)); rotate_left; focus ((try simp) <;> omega)))))) _ (some ⟨w2.heap.size, 0, none⟩) 1 1 [s] rfl rfl (rw_samp rfl (Nat.lt_succ_self _)) ?_ ?_ ?_ ?_
                     · (try simp [maxLen]) <;> omega
                     · (try simp) <;> omega
                     · (try simp) <;> omega
                     intro v6 w6 hown6 hg6 hat6
                     obtain ⟨g6, c6, hv6, hg6b, hg6l⟩ := World.ownsRow.form hown6 (by rw [List.length_append, List.length_singleton]; omega)
                     subst hv6
                     have hz6 := hg6.size
                     (try simp at hz6)
                     have hc6 : x.l.length + 1 ≤ c6 := (by have h := (own_form hown6).2.1; rwa [List.length_append, List.length_singleton] at h)
                     obtain ⟨e6, f6⟩ := grown_blk hg6 b (by (try simp) <;> omega) (fun e => hqb.out b e.symm rfl)
                     have k6 : w6.cell? ⟨b, 1, none⟩ = some (.slice A1 x.l.length c1) := (e6 1).trans (by go_simp)
                     have k7 : ∀ V, (w6.setCell ⟨b, 1, none⟩ V).cell? ⟨b, 1, none⟩ = some V := fun V => World.cell?_setCell_same' _ _ _ (by rw [k6]; rfl)
                     have k8 : ∀ V V', ((w6.setCell ⟨b, 1, none⟩ V).setCell ⟨b, 1, none⟩ V').cell? ⟨b, 1, none⟩ = some V' := fun V V' => World.cell?_setCell_same' _ _ _ (by rw [k7]; rfl)
                     have hq6 : Hid (∀ q, (Value.slice (some ⟨g6, 0, none⟩) (x.l ++ [s]).length c6).ownBlock = some q → q ≠ b) := Lib.hid (fun q hq => (by
                       rcases hat6 with h | h
                       · rw [hq] at h
                         exact hqb.out q h.symm
                       · rw [hq] at h
                         simp at h
                         omega))
                     have hb6 : Below wr.heap.size wr w6 := Below.grown (by repeat (first | (with_reducible exact Below.refl _ _) | (with_reducible refine Below.drew ?_) | (with_reducible refine below_drewN ?_ _) | ((with_reducible refine Below.alloc ?_ ?_ _); rotate_left; focus ((try simp) <;> omega)) | ((with_reducible refine Below.setCell ?_ ?_ _); rotate_left; focus ((try simp) <;> omega)) | ((with_reducible refine Below.trans ?_ (Below.mono (by assumption) ?_)); rotate_left; focus ((try simp) <;> omega)))) hg6 (by (try simp) <;> omega) (fun q hq => (hown1.out.lt q hq).1)
                     replace hown6 := Lib.hid hown6
                     clear hg6 hat6)
                  | (at_builtin
                     refine wpList_append_rw _ rfl (.tmp 64) (.tmp 66) _ rfl hstE_len hstE_one (w.heap.size + 1) 41 inf _ 40 Tryz.underlying22 hi0 iz0 iz1 iz2 rfl (by omega) _ (cur) rfl ((hown.out.all (by repeat (first | (with_reducible exact Below.refl _ _) | (with_reducible refine Below.drew ?_) | (with_reducible refine below_drewN ?_ _) | ((with_reducible refine Below.alloc ?_ ?_ _); rotate_left; focus ((try simp) <;> omega)) | ((with_reducible refine Below.setCell ?_ ?_ _); rotate_left; focus ((try simp) <;> omega)) | ((with_reducible refine Below.trans ?_ (Below.mono (by assumption) ?_)); rotate_left; focus ((try simp) <;> omega)))))).row _ (some ⟨_, 0, none⟩) 1 1 [(⟨x.name, some ⟨g6, 0, none⟩, c6, x.l ++ [s]⟩ : Hst)] rfl rfl (rw_hstn (x := (⟨x.name, some ⟨g6, 0, none⟩, c6, x.l ++ [s]⟩ : Hst)) (by (first | rfl | simp)) (Nat.lt_succ_self _) (by (try simp) <;> omega)) ?_ ?_ ?_ ?_
                     · (try simp [maxLen]) <;> omega
                     · (try simp) <;> omega
                     · (try simp) <;> omega
                     intro v8 w8 hown8 hg8 hat8
                     have hz8 := hg8.size
                     (try simp at hz8)
                     have hO8 : OwnH w8 (w.heap.size + 1) v8 ((cur) ++ [(⟨x.name, some ⟨g6, 0, none⟩, c6, x.l ++ [s]⟩ : Hst)]) := OwnH.grown ((hown.out.all (by repeat (first | (with_reducible exact Below.refl _ _) | (with_reducible refine Below.drew ?_) | (with_reducible refine below_drewN ?_ _) | ((with_reducible refine Below.alloc ?_ ?_ _); rotate_left; focus ((try simp) <;> omega)) | ((with_reducible refine Below.setCell ?_ ?_ _); rotate_left; focus ((try simp) <;> omega)) | ((with_reducible refine Below.trans ?_ (Below.mono (by assumption) ?_)); rotate_left; focus ((try simp) <;> omega)))))) hown8 hg8 fun z hz => (by
                       rcases List.mem_append.1 hz with h | h
                       · exact .inl h
                       · obtain rfl := List.mem_singleton.1 h
                         exact .inr (((labs_own (hown6.out.setCell hq6.out _) rfl x.name).all (by repeat (first | (with_reducible exact Below.refl _ _) | (with_reducible refine Below.drew ?_) | (with_reducible refine below_drewN ?_ _) | ((with_reducible refine Below.alloc ?_ ?_ _); rotate_left; focus ((try simp) <;> omega)) | ((with_reducible refine Below.setCell ?_ ?_ _); rotate_left; focus ((try simp) <;> omega)) | ((with_reducible refine Below.trans ?_ (Below.mono (by assumption) ?_)); rotate_left; focus ((try simp) <;> omega)))))))
                     have hb8 : Below (w.heap.size + 1) wr w8 := Below.grown (Below.mono (B := wr.heap.size) (by repeat (first | (with_reducible exact Below.refl _ _) | (with_reducible refine Below.drew ?_) | (with_reducible refine below_drewN ?_ _) | ((with_reducible refine Below.alloc ?_ ?_ _); rotate_left; focus ((try simp) <;> omega)) | ((with_reducible refine Below.setCell ?_ ?_ _); rotate_left; focus ((try simp) <;> omega)) | ((with_reducible refine Below.trans ?_ (Below.mono (by assumption) ?_)); rotate_left; focus ((try simp) <;> omega)))) (by omega)) hg8 (by (try simp) <;> omega) (fun q hq => (((hown.out.all (by repeat (first | (with_reducible exact Below.refl _ _) | (with_reducible refine Below.drew ?_) | (with_reducible refine below_drewN ?_ _) | ((with_reducible refine Below.alloc ?_ ?_ _); rotate_left; focus ((try simp) <;> omega)) | ((with_reducible refine Below.setCell ?_ ?_ _); rotate_left; focus ((try simp) <;> omega)) | ((with_reducible refine Below.trans ?_ (Below.mono (by assumption) ?_)); rotate_left; focus ((try simp) <;> omega)))))).row.lt q hq).1)))
                go_roundw
                case rel => exact ⟨k + 1, _, true, hkl, by go_num, rfl, hO8, by simp; omega, (hnz.out _ rfl), hbw.out.trans (hb8.mono (by omega)), hrs.out.below hb8 (Nat.le_refl _), by omega⟩
                case measure => simp [intOf]; omega
            · clear hst0 hCe hd
              replace hne := Lib.hid hne
              by_cases h3 : 32 < x.l.length + 1
              · have h3z : (32 : Int) < (x.l.length : Int) + 1 := by omega
                have hnz : Hid (∀ z : Hst, z.h = ⟨x.name, (x.l ++ [s]).drop 1⟩ → (cur ++ [z]).map Hst.h ++ wR nm s true ((l.map Hst.h).drop (k + 1)) = R) := Lib.hid fun z hz => hnx.out z (by rw [hz]; unfold cut1; rw [if_pos (by rw [List.length_append, List.length_singleton]; exact h3)])
                have hsl : ((x.l ++ [s]).drop 1).length = x.l.length := by rw [List.length_drop, List.length_append, List.length_singleton]; omega
                go_wp2_with (first
                  | fail
                  | (at_builtin
                     refine wpList_append_rw _ rfl (.tmp 51) (.tmp 53) _ rfl sampE_len sampE_one wr.heap.size 47 sinf _ 32 Tryz.underlying39 si0 sz0 sz1 sz2 rfl (by omega) _ x.l rfl (hown1.out.all (show Below wc.heap.size wc _ from (by repeat (first | (with_reducible exact Below.refl _ _) | (with_reducible refine Below.drew ?_) | (with_reducible refine below_drewN ?_ _) | ((with_reducible refine Below.alloc ?_ ?_ _); rotate_left; focus ((try simp) <;> omega)) | ((with_reducible refine Below.setCell ?_ ?_ _); rotate_left; focus ((try simp) <;> omega)) | ((with_reducible refine Below.trans ?_ (Below.mono (by assumption) ?_)); rotate_left; focus ((try simp) <;> omega)))))) _ (some ⟨wc.heap.size, 0, none⟩) 1 1 [s] rfl rfl (rw_samp rfl (Nat.lt_succ_self _)) ?_ ?_ ?_ ?_
                     · (try simp [maxLen]) <;> omega
                     · (try simp) <;> omega
                     · (try simp) <;> omega
                     intro v6 w6 hown6 hg6 hat6
                     obtain ⟨g6, c6, hv6, hg6b, hg6l⟩ := World.ownsRow.form hown6 (by rw [List.length_append, List.length_singleton]; omega)
                     subst hv6
                     have hz6 := hg6.size
                     (try simp at hz6)
                     have hc6 : x.l.length + 1 ≤ c6 := (by have h := (own_form hown6).2.1; rwa [List.length_append, List.length_singleton] at h)
                     obtain ⟨e6, f6⟩ := grown_blk hg6 b (by (try simp) <;> omega) (fun e => hqb.out b e.symm rfl)
                     have k6 : w6.cell? ⟨b, 1, none⟩ = some (.slice A1 x.l.length c1) := (e6 1).trans (by go_simp)
                     have k7 : ∀ V, (w6.setCell ⟨b, 1, none⟩ V).cell? ⟨b, 1, none⟩ = some V := fun V => World.cell?_setCell_same' _ _ _ (by rw [k6]; rfl)
                     have k8 : ∀ V V', ((w6.setCell ⟨b, 1, none⟩ V).setCell ⟨b, 1, none⟩ V').cell? ⟨b, 1, none⟩ = some V' := fun V V' => World.cell?_setCell_same' _ _ _ (by rw [k7]; rfl)
                     have hq6 : Hid (∀ q, (Value.slice (some ⟨g6, 0, none⟩) (x.l ++ [s]).length c6).ownBlock = some q → q ≠ b) := Lib.hid (fun q hq => (by
                       rcases hat6 with h | h
                       · rw [hq] at h
                         exact hqb.out q h.symm
                       · rw [hq] at h
                         simp at h
                         omega))
                     have hb6 : Below wr.heap.size wr w6 := Below.grown (by repeat (first | (with_reducible exact Below.refl _ _) | (with_reducible refine Below.drew ?_) | (with_reducible refine below_drewN ?_ _) | ((with_reducible refine Below.alloc ?_ ?_ _); rotate_left; focus ((try simp) <;> omega)) | ((with_reducible refine Below.setCell ?_ ?_ _); rotate_left; focus ((try simp) <;> omega)) | ((with_reducible refine Below.trans ?_ (Below.mono (by assumption) ?_)); rotate_left; focus ((try simp) <;> omega)))) hg6 (by (try simp) <;> omega) (fun q hq => (hown1.out.lt q hq).1)
                     replace hown6 := Lib.hid hown6
                     clear hg6 hat6)
                  | (at_builtin
                     refine wpList_append_rw _ rfl (.tmp 64) (.tmp 66) _ rfl hstE_len hstE_one (w.heap.size + 1) 41 inf _ 40 Tryz.underlying22 hi0 iz0 iz1 iz2 rfl (by omega) _ (cur) rfl ((hown.out.all (by repeat (first | (with_reducible exact Below.refl _ _) | (with_reducible refine Below.drew ?_) | (with_reducible refine below_drewN ?_ _) | ((with_reducible refine Below.alloc ?_ ?_ _); rotate_left; focus ((try simp) <;> omega)) | ((with_reducible refine Below.setCell ?_ ?_ _); rotate_left; focus ((try simp) <;> omega)) | ((with_reducible refine Below.trans ?_ (Below.mono (by assumption) ?_)); rotate_left; focus ((try simp) <;> omega)))))).row _ (some ⟨_, 0, none⟩) 1 1 [(⟨x.name, some ⟨g6, 4, none⟩, c6 - 1, (x.l ++ [s]).drop 1⟩ : Hst)] rfl rfl (rw_hstn (x := (⟨x.name, some ⟨g6, 4, none⟩, c6 - 1, (x.l ++ [s]).drop 1⟩ : Hst)) (by (first | rfl | simp)) (Nat.lt_succ_self _) (by (try simp) <;> omega)) ?_ ?_ ?_ ?_
                     · (try simp [maxLen]) <;> omega
                     · (try simp) <;> omega
                     · (try simp) <;> omega
                     intro v8 w8 hown8 hg8 hat8
                     have hz8 := hg8.size
                     (try simp at hz8)
                     have hO8 : OwnH w8 (w.heap.size + 1) v8 ((cur) ++ [(⟨x.name, some ⟨g6, 4, none⟩, c6 - 1, (x.l ++ [s]).drop 1⟩ : Hst)]) := OwnH.grown ((hown.out.all (by repeat (first | (with_reducible exact Below.refl _ _) | (with_reducible refine Below.drew ?_) | (with_reducible refine below_drewN ?_ _) | ((with_reducible refine Below.alloc ?_ ?_ _); rotate_left; focus ((try simp) <;> omega)) | ((with_reducible refine Below.setCell ?_ ?_ _); rotate_left; focus ((try simp) <;> omega)) | ((with_reducible refine Below.trans ?_ (Below.mono (by assumption) ?_)); rotate_left; focus ((try simp) <;> omega)))))) hown8 hg8 fun z hz => (by
                       rcases List.mem_append.1 hz with h | h
                       · exact .inl h
                       · obtain rfl := List.mem_singleton.1 h
                         exact .inr (((labs_drop (a := 1) ((hown6.out.setCell hq6.out _).setCell hq6.out _) (by rw [List.length_append, List.length_singleton]; omega) x.name).all (by repeat (first | (with_reducible exact Below.refl _ _) | (with_reducible refine Below.drew ?_) | (with_reducible refine below_drewN ?_ _) | ((with_reducible refine Below.alloc ?_ ?_ _); rotate_left; focus ((try simp) <;> omega)) | ((with_reducible refine Below.setCell ?_ ?_ _); rotate_left; focus ((try simp) <;> omega)) | ((with_reducible refine Below.trans ?_ (Below.mono (by assumption) ?_)); rotate_left; focus ((try simp) <;> omega)))))))
                     have hb8 : Below (w.heap.size + 1) wr w8 := Below.grown (Below.mono (B := wr.heap.size) (by repeat (first | (with_reducible exact Below.refl _ _) | (with_reducible refine Below.drew ?_) | (with_reducible refine below_drewN ?_ _) | ((with_reducible refine Below.alloc ?_ ?_ _); rotate_left; focus ((try simp) <;> omega)) | ((with_reducible refine Below.setCell ?_ ?_ _); rotate_left; focus ((try simp) <;> omega)) | ((with_reducible refine Below.trans ?_ (Below.mono (by assumption) ?_)); rotate_left; focus ((try simp) <;> omega)))) (by omega)) hg8 (by (try simp) <;> omega) (fun q hq => (((hown.out.all (by repeat (first | (with_reducible exact Below.refl _ _) | (with_reducible refine Below.drew ?_) | (with_reducible refine below_drewN ?_ _) | ((with_reducible refine Below.alloc ?_ ?_ _); rotate_left; focus ((try simp) <;> omega)) | ((with_reducible refine Below.setCell ?_ ?_ _); rotate_left; focus ((try simp) <;> omega)) | ((with_reducible refine Below.trans ?_ (Below.mono (by assumption) ?_)); rotate_left; focus ((try simp) <;> omega)))))).row.lt q hq).1)))
                go_roundw
                case rel => exact ⟨k + 1, _, true, hkl, by go_num, rfl, hO8, by simp; omega, (hnz.out _ rfl), hbw.out.trans (hb8.mono (by omega)), hrs.out.below hb8 (Nat.le_refl _), by omega⟩
                case measure => simp [intOf]; omega
              · have h3z : ¬ (32 : Int) < (x.l.length : Int) + 1 := by omega
                have hnz : Hid (∀ z : Hst, z.h = ⟨x.name, x.l ++ [s]⟩ → (cur ++ [z]).map Hst.h ++ wR nm s true ((l.map Hst.h).drop (k + 1)) = R) := Lib.hid fun z hz => hnx.out z (by rw [hz]; unfold cut1; rw [if_neg (by rw [List.length_append, List.length_singleton]; exact h3)])
                go_wp2_with (first
                  | fail
                  | (at_builtin
                     refine wpList_append_rw _ rfl (.tmp 51) (.tmp 53) _ rfl sampE_len sampE_one wr.heap.size 47 sinf _ 32 Tryz.underlying39 si0 sz0 sz1 sz2 rfl (by omega) _ x.l rfl (hown1.out.all (show Below wc.heap.size wc _ from (by repeat (first | (with_reducible exact Below.refl _ _) | (with_reducible refine Below.drew ?_) | (with_reducible refine below_drewN ?_ _) | ((with_reducible refine Below.alloc ?_ ?_ _); rotate_left; focus ((try simp) <;> omega)) | ((with_reducible refine Below.setCell ?_ ?_ _); rotate_left; focus ((try simp) <;> omega)) | ((with_reducible refine Below.trans ?_ (Below.mono (by assumption) ?_)); rotate_left; focus ((try simp) <;> omega)))))) _ (some ⟨wc.heap.size, 0, none⟩) 1 1 [s] rfl rfl (rw_samp rfl (Nat.lt_succ_self _)) ?_ ?_ ?_ ?_
                     · (try simp [maxLen]) <;> omega
                     · (try simp) <;> omega
                     · (try simp) <;> omega
                     intro v6 w6 hown6 hg6 hat6
                     obtain ⟨g6, c6, hv6, hg6b, hg6l⟩ := World.ownsRow.form hown6 (by rw [List.length_append, List.length_singleton]; omega)
                     subst hv6
                     have hz6 := hg6.size
                     (try simp at hz6)
                     have hc6 : x.l.length + 1 ≤ c6 := (by have h := (own_form hown6).2.1; rwa [List.length_append, List.length_singleton] at h)
                     obtain ⟨e6, f6⟩ := grown_blk hg6 b (by (try simp) <;> omega) (fun e => hqb.out b e.symm rfl)
                     have k6 : w6.cell? ⟨b, 1, none⟩ = some (.slice A1 x.l.length c1) := (e6 1).trans (by go_simp)
                     have k7 : ∀ V, (w6.setCell ⟨b, 1, none⟩ V).cell? ⟨b, 1, none⟩ = some V := fun V => World.cell?_setCell_same' _ _ _ (by rw [k6]; rfl)
                     have k8 : ∀ V V', ((w6.setCell ⟨b, 1, none⟩ V).setCell ⟨b, 1, none⟩ V').cell? ⟨b, 1, none⟩ = some V' := fun V V' => World.cell?_setCell_same' _ _ _ (by rw [k7]; rfl)
                     have hq6 : Hid (∀ q, (Value.slice (some ⟨g6, 0, none⟩) (x.l ++ [s]).length c6).ownBlock = some q → q ≠ b) := Lib.hid (fun q hq => (by
                       rcases hat6 with h | h
                       · rw [hq] at h
                         exact hqb.out q h.symm
                       · rw [hq] at h
                         simp at h
                         omega))
                     have hb6 : Below wr.heap.size wr w6 := Below.grown (by repeat (first | (with_reducible exact Below.refl _ _) | (with_reducible refine Below.drew ?_) | (with_reducible refine below_drewN ?_ _) | ((with_reducible refine Below.alloc ?_ ?_ _); rotate_left; focus ((try simp) <;> omega)) | ((with_reducible refine Below.setCell ?_ ?_ _); rotate_left; focus ((try simp) <;> omega)) | ((with_reducible refine Below.trans ?_ (Below.mono (by assumption) ?_)); rotate_left; focus ((try simp) <;> omega)))) hg6 (by (try simp) <;> omega) (fun q hq => (hown1.out.lt q hq).1)
                     replace hown6 := Lib.hid hown6
                     clear hg6 hat6)
                  | (at_builtin
                     refine wpList_append_rw _ rfl (.tmp 64) (.tmp 66) _ rfl hstE_len hstE_one (w.heap.size + 1) 41 inf _ 40 Tryz.underlying22 hi0 iz0 iz1 iz2 rfl (by omega) _ (cur) rfl ((hown.out.all (by repeat (first | (with_reducible exact Below.refl _ _) | (with_reducible refine Below.drew ?_) | (with_reducible refine below_drewN ?_ _) | ((with_reducible refine Below.alloc ?_ ?_ _); rotate_left; focus ((try simp) <;> omega)) | ((with_reducible refine Below.setCell ?_ ?_ _); rotate_left; focus ((try simp) <;> omega)) | ((with_reducible refine Below.trans ?_ (Below.mono (by assumption) ?_)); rotate_left; focus ((try simp) <;> omega)))))).row _ (some ⟨_, 0, none⟩) 1 1 [(⟨x.name, some ⟨g6, 0, none⟩, c6, x.l ++ [s]⟩ : Hst)] rfl rfl (rw_hstn (x := (⟨x.name, some ⟨g6, 0, none⟩, c6, x.l ++ [s]⟩ : Hst)) (by (first | rfl | simp)) (Nat.lt_succ_self _) (by (try simp) <;> omega)) ?_ ?_ ?_ ?_
                     · (try simp [maxLen]) <;> omega
                     · (try simp) <;> omega
                     · (try simp) <;> omega
                     intro v8 w8 hown8 hg8 hat8
                     have hz8 := hg8.size
                     (try simp at hz8)
                     have hO8 : OwnH w8 (w.heap.size + 1) v8 ((cur) ++ [(⟨x.name, some ⟨g6, 0, none⟩, c6, x.l ++ [s]⟩ : Hst)]) := OwnH.grown ((hown.out.all (by repeat (first | (with_reducible exact Below.refl _ _) | (with_reducible refine Below.drew ?_) | (with_reducible refine below_drewN ?_ _) | ((with_reducible refine Below.alloc ?_ ?_ _); rotate_left; focus ((try simp) <;> omega)) | ((with_reducible refine Below.setCell ?_ ?_ _); rotate_left; focus ((try simp) <;> omega)) | ((with_reducible refine Below.trans ?_ (Below.mono (by assumption) ?_)); rotate_left; focus ((try simp) <;> omega)))))) hown8 hg8 fun z hz => (by
                       rcases List.mem_append.1 hz with h | h
                       · exact .inl h
                       · obtain rfl := List.mem_singleton.1 h
                         exact .inr (((labs_own (hown6.out.setCell hq6.out _) rfl x.name).all (by repeat (first | (with_reducible exact Below.refl _ _) | (with_reducible refine Below.drew ?_) | (with_reducible refine below_drewN ?_ _) | ((with_reducible refine Below.alloc ?_ ?_ _); rotate_left; focus ((try simp) <;> omega)) | ((with_reducible refine Below.setCell ?_ ?_ _); rotate_left; focus ((try simp) <;> omega)) | ((with_reducible refine Below.trans ?_ (Below.mono (by assumption) ?_)); rotate_left; focus ((try simp) <;> omega)))))))
                     have hb8 : Below (w.heap.size + 1) wr w8 := Below.grown (Below.mono (B := wr.heap.size) (by repeat (first | (with_reducible exact Below.refl _ _) | (with_reducible refine Below.drew ?_) | (with_reducible refine below_drewN ?_ _) | ((with_reducible refine Below.alloc ?_ ?_ _); rotate_left; focus ((try simp) <;> omega)) | ((with_reducible refine Below.setCell ?_ ?_ _); rotate_left; focus ((try simp) <;> omega)) | ((with_reducible refine Below.trans ?_ (Below.mono (by assumption) ?_)); rotate_left; focus ((try simp) <;> omega)))) (by omega)) hg8 (by (try simp) <;> omega) (fun q hq => (((hown.out.all (by repeat (first | (with_reducible exact Below.refl _ _) | (with_reducible refine Below.drew ?_) | (with_reducible refine below_drewN ?_ _) | ((with_reducible refine Below.alloc ?_ ?_ _); rotate_left; focus ((try simp) <;> omega)) | ((with_reducible refine Below.setCell ?_ ?_ _); rotate_left; focus ((try simp) <;> omega)) | ((with_reducible refine Below.trans ?_ (Below.mono (by assumption) ?_)); rotate_left; focus ((try simp) <;> omega)))))).row.lt q hq).1)))
                go_roundw
                case rel => exact ⟨k + 1, _, true, hkl, by go_num, rfl, hO8, by simp; omega, (hnz.out _ rfl), hbw.out.trans (hb8.mono (by omega)), hrs.out.below hb8 (Nat.le_refl _), by omega⟩
                case measure => simp [intOf]; omega
          · have hsb : (nm.1.toList == x.name.1.toList) = false := by rw [eq_str, decide_eq_false_iff_not]; exact hne
            rcases d with _ | _
            · have hc : ¬ C < 0 := fun h => hd ⟨rfl, h⟩
              have hnx : Hid (∀ z : Hst, z.h = x.h → (cur ++ [z]).map Hst.h ++ wR nm s false ((l.map Hst.h).drop (k + 1)) = R) := Lib.hid (fun z hz => by
                rw [← hst0, if_neg hne, decide_eq_false hne, decide_eq_false hc]
                simp [hz])
              clear hst0 hCe hd hne
              go_wp2_with (first
                | (go_at_call 55; go_must (refine (hcm.out _).mono ?_; rintro e w2 ⟨rfl, hb2⟩; have hz2 := hb2.size; (try simp at hz2); have hk2 : b < w2.heap.size := (by omega); obtain ⟨e3, f3⟩ := blk_at hb2 b (by (try simp) <;> omega); obtain ⟨e4, f4⟩ := blk_at hb2 w.heap.size (by (try simp) <;> omega)))
                | (at_builtin
                   refine wpList_append_rw _ rfl (.tmp 64) (.tmp 66) _ rfl hstE_len hstE_one (w.heap.size + 1) 41 inf _ 40 Tryz.underlying22 hi0 iz0 iz1 iz2 rfl (by omega) _ (cur) rfl ((hown.out.all (by repeat (first | (with_reducible exact Below.refl _ _) | (with_reducible refine Below.drew ?_) | (with_reducible refine below_drewN ?_ _) | ((with_reducible refine Below.alloc ?_ ?_ _); rotate_left; focus ((try simp) <;> omega)) | ((with_reducible refine Below.setCell ?_ ?_ _); rotate_left; focus ((try simp) <;> omega)) | ((with_reducible refine Below.trans ?_ (Below.mono (by assumption) ?_)); rotate_left; focus ((try simp) <;> omega)))))).row _ (some ⟨_, 0, none⟩) 1 1 [(⟨x.name, A1, c1, x.l⟩ : Hst)] rfl rfl (rw_hstn (x := (⟨x.name, A1, c1, x.l⟩ : Hst)) (by (first | rfl | simp)) (Nat.lt_succ_self _) (by (try simp) <;> omega)) ?_ ?_ ?_ ?_
                   · (try simp [maxLen]) <;> omega
                   · (try simp) <;> omega
                   · (try simp) <;> omega
                   intro v8 w8 hown8 hg8 hat8
                   have hz8 := hg8.size
                   (try simp at hz8)
                   have hO8 : OwnH w8 (w.heap.size + 1) v8 ((cur) ++ [(⟨x.name, A1, c1, x.l⟩ : Hst)]) := OwnH.grown ((hown.out.all (by repeat (first | (with_reducible exact Below.refl _ _) | (with_reducible refine Below.drew ?_) | (with_reducible refine below_drewN ?_ _) | ((with_reducible refine Below.alloc ?_ ?_ _); rotate_left; focus ((try simp) <;> omega)) | ((with_reducible refine Below.setCell ?_ ?_ _); rotate_left; focus ((try simp) <;> omega)) | ((with_reducible refine Below.trans ?_ (Below.mono (by assumption) ?_)); rotate_left; focus ((try simp) <;> omega)))))) hown8 hg8 fun z hz => (by
                     rcases List.mem_append.1 hz with h | h
                     · exact .inl h
                     · obtain rfl := List.mem_singleton.1 h
                       exact .inr (((labs_own hown1.out rfl x.name).all (show Below wc.heap.size wc _ from (by repeat (first | (with_reducible exact Below.refl _ _) | (with_reducible refine Below.drew ?_) | (with_reducible refine below_drewN ?_ _) | ((with_reducible refine Below.alloc ?_ ?_ _); rotate_left; focus ((try simp) <;> omega)) | ((with_reducible refine Below.setCell ?_ ?_ _); rotate_left; focus ((try simp) <;> omega)) | ((with_reducible refine Below.trans ?_ (Below.mono (by assumption) ?_)); rotate_left; focus ((try simp) <;> omega))))))))
                   have hb8 : Below (w.heap.size + 1) wr w8 := Below.grown (Below.mono (B := wr.heap.size) (by repeat (first | (with_reducible exact Below.refl _ _) | (with_reducible refine Below.drew ?_) | (with_reducible refine below_drewN ?_ _) | ((with_reducible refine Below.alloc ?_ ?_ _); rotate_left; focus ((try simp) <;> omega)) | ((with_reducible refine Below.setCell ?_ ?_ _); rotate_left; focus ((try simp) <;> omega)) | ((with_reducible refine Below.trans ?_ (Below.mono (by assumption) ?_)); rotate_left; focus ((try simp) <;> omega)))) (by omega)) hg8 (by (try simp) <;> omega) (fun q hq => (((hown.out.all (by repeat (first | (with_reducible exact Below.refl _ _) | (with_reducible refine Below.drew ?_) | (with_reducible refine below_drewN ?_ _) | ((with_reducible refine Below.alloc ?_ ?_ _); rotate_left; focus ((try simp) <;> omega)) | ((with_reducible refine Below.setCell ?_ ?_ _); rotate_left; focus ((try simp) <;> omega)) | ((with_reducible refine Below.trans ?_ (Below.mono (by assumption) ?_)); rotate_left; focus ((try simp) <;> omega)))))).row.lt q hq).1)))
              go_roundw
              case rel => exact ⟨k + 1, _, false, hkl, by go_num, rfl, hO8, by simp; omega, (hnx.out _ rfl), hbw.out.trans (hb8.mono (by omega)), hrs.out.below hb8 (Nat.le_refl _), by omega⟩
              case measure => simp [intOf]; omega
            · have hnx : Hid (∀ z : Hst, z.h = x.h → (cur ++ [z]).map Hst.h ++ wR nm s true ((l.map Hst.h).drop (k + 1)) = R) := Lib.hid (fun z hz => by
                rw [← hst0, if_neg hne, Bool.true_or, Bool.true_or]
                simp [hz])
              clear hst0 hCe hd hne
              go_wp2_with (first
                | (at_builtin
                   refine wpList_append_rw _ rfl (.tmp 64) (.tmp 66) _ rfl hstE_len hstE_one (w.heap.size + 1) 41 inf _ 40 Tryz.underlying22 hi0 iz0 iz1 iz2 rfl (by omega) _ (cur) rfl ((hown.out.all (by repeat (first | (with_reducible exact Below.refl _ _) | (with_reducible refine Below.drew ?_) | (with_reducible refine below_drewN ?_ _) | ((with_reducible refine Below.alloc ?_ ?_ _); rotate_left; focus ((try simp) <;> omega)) | ((with_reducible refine Below.setCell ?_ ?_ _); rotate_left; focus ((try simp) <;> omega)) | ((with_reducible refine Below.trans ?_ (Below.mono (by assumption) ?_)); rotate_left; focus ((try simp) <;> omega)))))).row _ (some ⟨_, 0, none⟩) 1 1 [(⟨x.name, A1, c1, x.l⟩ : Hst)] rfl rfl (rw_hstn (x := (⟨x.name, A1, c1, x.l⟩ : Hst)) (by (first | rfl | simp)) (Nat.lt_succ_self _) (by (try simp) <;> omega)) ?_ ?_ ?_ ?_
                   · (try simp [maxLen]) <;> omega
                   · (try simp) <;> omega
                   · (try simp) <;> omega
                   intro v8 w8 hown8 hg8 hat8
                   have hz8 := hg8.size
                   (try simp at hz8)
                   have hO8 : OwnH w8 (w.heap.size + 1) v8 ((cur) ++ [(⟨x.name, A1, c1, x.l⟩ : Hst)]) := OwnH.grown ((hown.out.all (by repeat (first | (with_reducible exact Below.refl _ _) | (with_reducible refine Below.drew ?_) | (with_reducible refine below_drewN ?_ _) | ((with_reducible refine Below.alloc ?_ ?_ _); rotate_left; focus ((try simp) <;> omega)) | ((with_reducible refine Below.setCell ?_ ?_ _); rotate_left; focus ((try simp) <;> omega)) | ((with_reducible refine Below.trans ?_ (Below.mono (by assumption) ?_)); rotate_left; focus ((try simp) <;> omega)))))) hown8 hg8 fun z hz => (by
                     rcases List.mem_append.1 hz with h | h
                     · exact .inl h
                     · obtain rfl := List.mem_singleton.1 h
                       exact .inr (((labs_own hown1.out rfl x.name).all (show Below wc.heap.size wc _ from (by repeat (first | (with_reducible exact Below.refl _ _) | (with_reducible refine Below.drew ?_) | (with_reducible refine below_drewN ?_ _) | ((with_reducible refine Below.alloc ?_ ?_ _); rotate_left; focus ((try simp) <;> omega)) | ((with_reducible refine Below.setCell ?_ ?_ _); rotate_left; focus ((try simp) <;> omega)) | ((with_reducible refine Below.trans ?_ (Below.mono (by assumption) ?_)); rotate_left; focus ((try simp) <;> omega))))))))
                   have hb8 : Below (w.heap.size + 1) wr w8 := Below.grown (Below.mono (B := wr.heap.size) (by repeat (first | (with_reducible exact Below.refl _ _) | (with_reducible refine Below.drew ?_) | (with_reducible refine below_drewN ?_ _) | ((with_reducible refine Below.alloc ?_ ?_ _); rotate_left; focus ((try simp) <;> omega)) | ((with_reducible refine Below.setCell ?_ ?_ _); rotate_left; focus ((try simp) <;> omega)) | ((with_reducible refine Below.trans ?_ (Below.mono (by assumption) ?_)); rotate_left; focus ((try simp) <;> omega)))) (by omega)) hg8 (by (try simp) <;> omega) (fun q hq => (((hown.out.all (by repeat (first | (with_reducible exact Below.refl _ _) | (with_reducible refine Below.drew ?_) | (with_reducible refine below_drewN ?_ _) | ((with_reducible refine Below.alloc ?_ ?_ _); rotate_left; focus ((try simp) <;> omega)) | ((with_reducible refine Below.setCell ?_ ?_ _); rotate_left; focus ((try simp) <;> omega)) | ((with_reducible refine Below.trans ?_ (Below.mono (by assumption) ?_)); rotate_left; focus ((try simp) <;> omega)))))).row.lt q hq).1)))
              go_roundw
              case rel => exact ⟨k + 1, _, true, hkl, by go_num, rfl, hO8, by simp; omega, (hnx.out _ rfl), hbw.out.trans (hb8.mono (by omega)), hrs.out.below hb8 (Nat.le_refl _), by omega⟩
              case measure => simp [intOf]; omega
    · have i1 : ¬ (k : Int) < (l.length : Int) := by omega
      obtain rfl : k = l.length := by omega
      rw [List.drop_eq_nil_of_le (by rw [List.length_map]; exact Nat.le_refl _)] at hst
      unfold wR at hst
      rcases d with _ | _
      · rw [if_neg (by decide)] at hst
        have hst2 : Hid (∀ y : Hst, y.h = ⟨nm, [s]⟩ → (cur ++ [y]).map Hst.h = R) := Lib.hid fun y hy => by rw [← hst, List.map_append]; simp [hy]
        clear hst
        replace hown := Lib.hid hown
        replace hrs := Lib.hid hrs
        replace hbw := Lib.hid hbw
        go_wp2_with (first
          | (at_builtin
             refine wpList_append_rw _ rfl (.tmp 70) (.tmp 75) _ rfl hstE_len hstE_one (w.heap.size + 1) 41 inf _ 40 Tryz.underlying22 hi0 iz0 iz1 iz2 rfl (by omega) _ cur rfl (hown.out.row.all (by repeat (first | (with_reducible exact Below.refl _ _) | (with_reducible refine Below.drew ?_) | (with_reducible refine below_drewN ?_ _) | ((with_reducible refine Below.alloc ?_ ?_ _); rotate_left; focus ((try simp) <;> omega)) | ((with_reducible refine Below.setCell ?_ ?_ _); rotate_left; focus ((try simp) <;> omega)) | ((with_reducible refine Below.trans ?_ (Below.mono (by assumption) ?_)); rotate_left; focus ((try simp) <;> omega))))) _ (some ⟨wr.heap.size + 1, 0, none⟩) 1 1 [⟨nm, some ⟨wr.heap.size, 0, none⟩, 1, [s]⟩] rfl rfl (rw_hst (by (first | rfl | simp)) (Nat.lt_succ_self _)) ?_ ?_ ?_ ?_
             · (try simp [maxLen]) <;> omega
             · (try simp) <;> omega
             · (try simp) <;> omega
             intro v4 w4 hown4 hg4 hat4
             have hz4 := hg4.size
             (try simp at hz4)
             have hO4 : Hid (OwnH w4 (w.heap.size + 1) v4 (cur ++ [⟨nm, some ⟨wr.heap.size, 0, none⟩, 1, [s]⟩])) := Lib.hid (OwnH.grown (hown.out.all (by repeat (first | (with_reducible exact Below.refl _ _) | (with_reducible refine Below.drew ?_) | (with_reducible refine below_drewN ?_ _) | ((with_reducible refine Below.alloc ?_ ?_ _); rotate_left; focus ((try simp) <;> omega)) | ((with_reducible refine Below.setCell ?_ ?_ _); rotate_left; focus ((try simp) <;> omega)) | ((with_reducible refine Below.trans ?_ (Below.mono (by assumption) ?_)); rotate_left; focus ((try simp) <;> omega))))) hown4 hg4 fun z hz => (by
               rcases List.mem_append.1 hz with h | h
               · exact .inl h
               · obtain rfl := List.mem_singleton.1 h
                 exact .inr ((labs_new rfl nm s).all ((Below.refl _ _).alloc (Nat.le_refl _) _))))
             have hb4 : Below (w.heap.size + 1) wr w4 := Below.grown (Below.mono (B := wr.heap.size) (by repeat (first | (with_reducible exact Below.refl _ _) | (with_reducible refine Below.drew ?_) | (with_reducible refine below_drewN ?_ _) | ((with_reducible refine Below.alloc ?_ ?_ _); rotate_left; focus ((try simp) <;> omega)) | ((with_reducible refine Below.setCell ?_ ?_ _); rotate_left; focus ((try simp) <;> omega)) | ((with_reducible refine Below.trans ?_ (Below.mono (by assumption) ?_)); rotate_left; focus ((try simp) <;> omega)))) (by omega)) hg4 (by (try simp) <;> omega) (fun q hq => (hvlt.out q hq).1)))
        obtain ⟨A4, c4, e4, _, _, _⟩ := hO4.out.row.form
        subst e4
        go_ret
        exact ⟨A4, c4, _, rfl, ⟨Own.base hO4.out.row (Nat.le_succ _), hO4.out.labs⟩, hst2.out _ rfl, hbw.out.trans (hb4.mono (Nat.le_succ _))⟩
      · rw [if_pos rfl, List.append_nil] at hst
        obtain ⟨A4, c4, e4, _, _, _⟩ := hown.row.form
        subst e4
        replace hst := Lib.hid hst
        replace hrs := Lib.hid hrs
        go_wp2_with fail
        go_ret
        exact ⟨A4, c4, cur, rfl, ⟨Own.base hown.row (Nat.le_succ _), hown.labs⟩, hst.out, hbw⟩
end Go.Proofs.YtddepmelnemniaaGreatDoor
