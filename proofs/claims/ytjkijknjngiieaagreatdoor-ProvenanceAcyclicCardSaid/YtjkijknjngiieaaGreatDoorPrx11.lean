/-
  The walks of provenance: what the law of its sources asks: membership, where a file comes from.
-/
import Derived.Test.YtjkijknjngiieaaGreatDoorPrx10


namespace Go.Proofs.YtjkijknjngiieaaGreatDoor
open Go.RowKit

theorem hasS_snoc {l : List Str} {s : Str} {k : Nat} {x : Str} (hx : l[k]? = some x) : hasS (l.take (k + 1)) s = (hasS (l.take k) s || decide (x = s)) := by
  unfold hasS
  rw [take_at hx, List.any_append]
  simp
set_option maxRecDepth 100000 in
set_option maxHeartbeats 2000000 in
theorem lhas_any (A : Option Addr) (c : Nat) (l : List Str) (s : Str) (w : World) (hr : Rw sE 1 w w.heap.size A l) (hn : l.length ≤ 1000000000) :
    Calls Tryz.prog 25 #[.slice A l.length c, .string s.1] w fun e w' => e = .returned (.bool (hasS l s)) ∧ w = w' := by
  have hc : Hid (∀ k x, l[k]? = some x → ∃ g o, A = some ⟨g, o, none⟩ ∧ w.cell? ⟨g, o + k, none⟩ = some (.string x.1)) := Lib.hid (fun k x hx => by
    have hk := (List.getElem?_eq_some_iff.1 hx).1
    obtain ⟨g, o, e, _, h⟩ := hr (by omega)
    have h0 := h k x hx 0 (.string x.1) rfl
    rw [Nat.mul_one, Nat.add_zero] at h0
    exact ⟨g, o, e, h0⟩)
  clear hr
  obtain ⟨R, hR⟩ : ∃ R, hasS l s = R := ⟨_, rfl⟩
  rw [hR]
  replace hR := Lib.hid hR
  go_enter Tryz.func25, Tryz.ntmps25
  go_wp2_with fail
  go_loop [5] (fun vi => ∃ k : Nat, k ≤ l.length ∧ vi = .int .i64 (k : Int) ∧ hasS (l.take k) s = false) (fun vi => l.length - (intOf vi).toNat)
  case atStart => exact ⟨0, Nat.zero_le _, rfl, rfl⟩
  case round =>
    obtain ⟨k, hk, rfl, ht⟩ := hrel
    by_cases hkl : k < l.length
    · obtain ⟨x, hx⟩ := get_some hkl
      obtain ⟨g, o, rfl, q⟩ := hc.out k x hx
      have i0 : (0 : Int) ≤ (k : Int) := by omega
      have i1 : (k : Int) < (l.length : Int) := by omega
      have hsn := hasS_snoc (s := s) hx
      rw [ht, Bool.false_or, ← eq_str] at hsn
      have hyes : Hid ((x.1.toList == s.1.toList) = true → R = true) := Lib.hid fun h => by
        rw [← hR.out]
        rw [eq_str, decide_eq_true_eq] at h
        exact hasS_iff.2 (h ▸ List.mem_of_getElem? hx)
      replace hx := Lib.hid hx
      replace ht := Lib.hid ht
      rcases hs : (x.1.toList == s.1.toList) with _ | _
      · rw [hs] at hsn
        replace hsn := Lib.hid hsn
        go_wp2_with fail
        go_round
        case rel => exact ⟨k + 1, by omega, by go_num, hsn.out⟩
        case measure => simp [intOf]; omega
      · have hf : Hid (R = true) := Lib.hid (hyes.out hs)
        replace hsn := Lib.hid hsn
        go_wp2_with fail
        go_ret
        exact ⟨by rw [hf.out]; rfl, rfl⟩
    · have i1 : ¬ (k : Int) < (l.length : Int) := by omega
      have hf : Hid (R = false) := Lib.hid (by rw [← hR.out]; rwa [List.take_of_length_le (by omega)] at ht)
      replace ht := Lib.hid ht
      go_wp2_with fail
      go_ret
      exact ⟨by rw [hf.out]; rfl, rfl⟩
/-- Whether an input brings a file. -/
noncomputable def fromI (ls : List Lnk) (run f : Str) (y : OutR) : Bool := match fileS y.name with
  | some p => decide (p = f)
  | none => hasS (srt (srcL ls run y.name)) f
theorem fromI_file {ls : List Lnk} {run f p : Str} {y : OutR} (h : fileS y.name = some p) : fromI ls run f y = decide (p = f) := by unfold fromI; rw [h]
theorem fromI_more {ls : List Lnk} {run f : Str} {y : OutR} (h : fileS y.name = none) : fromI ls run f y = hasS (srt (srcL ls run y.name)) f := by unfold fromI; rw [h]
set_option maxRecDepth 100000 in
set_option maxHeartbeats 8000000 in
theorem from_any (A : Option Addr) (c : Nat) (l : List Lkr) (x : Lkr) (f : Str) (w : World) (hr : RwL w w.heap.size A l) (hm : MildL l) (hx : LabLkr w w.heap.size x) (hmx : MildK x) (hG : Glob w) (hl : l.length ≤ 100) (hyes : x.ins.any (fromI (l.map Lkr.h) x.run f) = true) :
    Calls Tryz.prog 26 #[.slice A l.length c, .agg #[.string x.run.1, .string x.job.1, .int .i64 x.attempt.1, .int .u64 x.spec.1, .slice x.insA x.ins.length x.insC, .string x.name.1, .int .u64 x.digest.1, .int .i64 x.size.1], .string f.1] w fun e w' => e = .returned (.bool true) ∧ Below w.heap.size w w' := by
  have hso : Hid (∀ (nm : Str) W, Below w.heap.size w W → Calls Tryz.prog 16 #[.slice A l.length c, .string x.run.1, .string nm.1] W fun e w' => ∃ A' c', e = .returned (.slice A' (srt (srcL (l.map Lkr.h) x.run nm)).length c') ∧ Rw sE 1 w' w'.heap.size A' (srt (srcL (l.map Lkr.h) x.run nm)) ∧ Below W.heap.size W w') := Lib.hid fun nm W hb => sources_any A c l x.run nm W ((hr.below hb (Nat.le_refl _)).more hb.size) hm (hG.keep hb)
  have hsl : Hid (∀ nm, (srt (srcL (l.map Lkr.h) x.run nm)).length ≤ 1000000000) := Lib.hid fun nm => by
    have := src_len (run := x.run) (nm := nm) hm
    omega
  have hlen := hmx.len
  have hins := Lib.hid hmx.ins
  have hrw := hx.2.2
  obtain ⟨IA, hIA⟩ : ∃ IA, x.insA = IA := ⟨_, rfl⟩
  rw [hIA] at hrw ⊢
  replace hrw := Lib.hid hrw
  replace hIA := Lib.hid hIA
  replace hyes := Lib.hid hyes
  clear hr hm hx hmx hG
  go_enter Tryz.func26, Tryz.ntmps26
  go_wp2_with fail
  go_loopw [7] (fun vi wr => ∃ k : Nat, k ≤ x.ins.length ∧ vi = .int .i64 (k : Int) ∧ (x.ins.take k).any (fromI (l.map Lkr.h) x.run f) = false ∧ Box8 x IA wr w.heap.size ∧ w.heap.size < wr.heap.size ∧ Below w.heap.size w wr) (fun vi _ => x.ins.length - (intOf vi).toNat)
  case atStart => exact ⟨0, Nat.zero_le _, rfl, rfl, ⟨by go_simp, by go_simp, by go_simp, by go_simp, by go_simp, by go_simp, by go_simp, by go_simp⟩, by simp, (by repeat (first | (with_reducible exact Below.refl _ _) | (with_reducible refine Below.drew ?_) | (with_reducible refine below_drewN ?_ _) | ((with_reducible refine Below.alloc ?_ ?_ _); rotate_left; focus ((try simp) <;> omega)) | ((with_reducible refine Below.setCell ?_ ?_ _); rotate_left; focus ((try simp) <;> omega)) | ((with_reducible refine Below.trans ?_ (Below.mono (by assumption) ?_)); rotate_left; focus ((try simp) <;> omega))))⟩
  case round =>
    obtain ⟨k, hk, rfl, ht, hbox, hzr, hbw⟩ := hrel
    have hz := hbw.size
    have hbx2 := Lib.hid hbox
    obtain ⟨p0, p1, p2, p3, p4, p5, p6, p7⟩ := hbox
    by_cases hkl : k < x.ins.length
    · obtain ⟨y, hy⟩ := get_some hkl
      obtain ⟨g, o, rfl, hg, hq⟩ := hrw.out (by omega)
      have q0 := (hbw.cell (p := ⟨g, o + k * 3 + 0, none⟩) hg).trans (hq k y hy 0 (.string y.name.1) rfl)
      rw [Nat.add_zero] at q0
      clear hq
      have i0 : (0 : Int) ≤ (k : Int) := by omega
      have i1 : (k : Int) < (x.ins.length : Int) := by omega
      have hgr : g < wr.heap.size := by omega
      have hsn : (x.ins.take (k + 1)).any (fromI (l.map Lkr.h) x.run f) = fromI (l.map Lkr.h) x.run f y := by
        rw [take_at hy, List.any_append, ht]
        simp
      have hfi0 := fun W => rfile_any y.name W (hins.out y (List.mem_of_getElem? hy))
      replace hy := Lib.hid hy
      replace ht := Lib.hid ht
      rcases hfs : fileS y.name with _ | q
      · rw [hfs] at hfi0
        rw [fromI_more hfs] at hsn
        have hfi := Lib.hid hfi0
        clear hfi0
        replace hfs := Lib.hid hfs
        have hso2 := Lib.hid (fun W hb => hso.out y.name W hb)
        have hsl2 := hsl.out y.name
        generalize srt (srcL (l.map Lkr.h) x.run y.name) = S at hso2 hsl2 hsn
        obtain ⟨B, hB⟩ : ∃ B, hasS S f = B := ⟨_, rfl⟩
        rw [hB] at hsn
        have hhas : Hid (∀ W A' c', Rw sE 1 W W.heap.size A' S → Calls Tryz.prog 25 #[.slice A' S.length c', .string f.1] W fun e w' => e = .returned (.bool B) ∧ W = w') := Lib.hid fun W A' c' h => by
          have := lhas_any A' c' S f W h hsl2
          rwa [hB] at this
        replace hB := Lib.hid hB
        replace hsn := Lib.hid hsn
        go_upto_region 8 with (go_at_call 24; go_must (refine (hfi.out _).mono ?_; rintro e w2 ⟨rfl, hb2⟩; have hz2 := hb2.size; (try simp at hz2); have hk2 : w.heap.size < w2.heap.size := (by omega); obtain ⟨hc2, hf2⟩ := blk_at hb2 w.heap.size (by (try simp) <;> omega); obtain ⟨hd2, he2⟩ := blk_at hb2 g (by (try simp) <;> omega)))
        go_cut [43] (fun s43 wx => s43 = .bool B ∧ Below wr.heap.size wr wx)
        case first =>
          go_region_held3 (fun w' => w'.cell? ⟨w.heap.size, 0, none⟩ = some (.string x.run.1) ∧ w'.cell? ⟨w.heap.size, 4, none⟩ = some (.slice (some ⟨g, o, none⟩) x.ins.length x.insC) ∧ w'.cell? ⟨g, o + k * 3, none⟩ = some (.string y.name.1)) (first | (go_keep; done) | (go_simp; done) | go_keep)
            (first
            | (go_at_call 16; go_must (refine (hso2.out _ (by repeat (first | (with_reducible exact Below.refl _ _) | (with_reducible refine Below.drew ?_) | (with_reducible refine below_drewN ?_ _) | ((with_reducible refine Below.alloc ?_ ?_ _); rotate_left; focus ((try simp) <;> omega)) | ((with_reducible refine Below.setCell ?_ ?_ _); rotate_left; focus ((try simp) <;> omega)) | ((with_reducible refine Below.trans ?_ (Below.mono (by assumption) ?_)); rotate_left; focus ((try simp) <;> omega))))).mono ?_; rintro e w5 ⟨A5, c5, rfl, hr5, hb5⟩; have hz5 := hb5.size; (try simp at hz5); obtain ⟨hc5, hf5⟩ := blk_at hb5 w.heap.size (by (try simp) <;> omega); obtain ⟨hd5, he5⟩ := blk_at hb5 g (by (try simp) <;> omega); replace hr5 := Lib.hid hr5))
            | (go_at_call 25; go_must (refine (hhas.out _ _ _ hr5.out).mono ?_; rintro e w6 ⟨rfl, rfl⟩))
            | fail "none")
          all_goals (go_wp2_with fail; go_meet)
          all_goals exact ⟨rfl, (by repeat (first | (with_reducible exact Below.refl _ _) | (with_reducible refine Below.drew ?_) | (with_reducible refine below_drewN ?_ _) | ((with_reducible refine Below.alloc ?_ ?_ _); rotate_left; focus ((try simp) <;> omega)) | ((with_reducible refine Below.setCell ?_ ?_ _); rotate_left; focus ((try simp) <;> omega)) | ((with_reducible refine Below.trans ?_ (Below.mono (by assumption) ?_)); rotate_left; focus ((try simp) <;> omega))))⟩
        case rest =>
          obtain ⟨rfl, hbx⟩ := hcut
          have hzx := hbx.size
          have hbf : Below w.heap.size w wc := hbw.trans (hbx.mono hz)
          obtain ⟨e5, _⟩ := blk_at hbx w.heap.size hzr
          have hbn : Hid (Box8 x (some ⟨g, o, none⟩) wc w.heap.size) := Lib.hid (by
           obtain ⟨m0, m1, m2, m3, m4, m5, m6, m7⟩ := hbx2.out
           exact ⟨(e5 _).trans m0, (e5 _).trans m1, (e5 _).trans m2, (e5 _).trans m3, (e5 _).trans m4, (e5 _).trans m5, (e5 _).trans m6, (e5 _).trans m7⟩)
          clear e5
          rcases B with _ | _
          · go_wp2_with fail
            go_roundw
            case rel => exact ⟨k + 1, by omega, by go_num, hsn.out, hbn.out, by omega, hbf⟩
            case measure => simp [intOf]; omega
          · go_wp2_with fail
            go_ret
            exact ⟨rfl, hbf⟩
      · rw [hfs] at hfi0
        rw [fromI_file hfs, ← eq_str] at hsn
        have hfi := Lib.hid hfi0
        clear hfi0
        replace hfs := Lib.hid hfs
        rcases hqs : (q.1.toList == f.1.toList) with _ | _
        · rw [hqs] at hsn
          replace hsn := Lib.hid hsn
          go_wp2_with (go_at_call 24; go_must (refine (hfi.out _).mono ?_; rintro e w2 ⟨rfl, hb2⟩; have hz2 := hb2.size; (try simp at hz2); have hk2 : w.heap.size < w2.heap.size := (by omega); obtain ⟨hc2, hf2⟩ := blk_at hb2 w.heap.size (by (try simp) <;> omega); obtain ⟨hd2, he2⟩ := blk_at hb2 g (by (try simp) <;> omega)))
          go_roundw
          case rel => exact ⟨k + 1, by omega, by go_num, hsn.out, (by
           obtain ⟨m0, m1, m2, m3, m4, m5, m6, m7⟩ := hbx2.out
           exact ⟨(hc2 _).trans m0, (hc2 _).trans m1, (hc2 _).trans m2, (hc2 _).trans m3, (hc2 _).trans m4, (hc2 _).trans m5, (hc2 _).trans m6, (hc2 _).trans m7⟩), by omega, (by repeat (first | (with_reducible exact Below.refl _ _) | (with_reducible refine Below.drew ?_) | (with_reducible refine below_drewN ?_ _) | ((with_reducible refine Below.alloc ?_ ?_ _); rotate_left; focus ((try simp) <;> omega)) | ((with_reducible refine Below.setCell ?_ ?_ _); rotate_left; focus ((try simp) <;> omega)) | ((with_reducible refine Below.trans ?_ (Below.mono (by assumption) ?_)); rotate_left; focus ((try simp) <;> omega))))⟩
          case measure => simp [intOf]; omega
        · replace hsn := Lib.hid hsn
          go_wp2_with (go_at_call 24; go_must (refine (hfi.out _).mono ?_; rintro e w2 ⟨rfl, hb2⟩; have hz2 := hb2.size; (try simp at hz2); have hk2 : w.heap.size < w2.heap.size := (by omega); obtain ⟨hc2, hf2⟩ := blk_at hb2 w.heap.size (by (try simp) <;> omega); obtain ⟨hd2, he2⟩ := blk_at hb2 g (by (try simp) <;> omega)))
          go_ret
          exact ⟨rfl, (by repeat (first | (with_reducible exact Below.refl _ _) | (with_reducible refine Below.drew ?_) | (with_reducible refine below_drewN ?_ _) | ((with_reducible refine Below.alloc ?_ ?_ _); rotate_left; focus ((try simp) <;> omega)) | ((with_reducible refine Below.setCell ?_ ?_ _); rotate_left; focus ((try simp) <;> omega)) | ((with_reducible refine Below.trans ?_ (Below.mono (by assumption) ?_)); rotate_left; focus ((try simp) <;> omega))))⟩
    · exfalso
      rw [List.take_of_length_le (by omega)] at ht
      rw [hyes.out] at ht
      cases ht
end Go.Proofs.YtjkijknjngiieaaGreatDoor
