/-
  The walks of histories: results added, by the reference.
-/
import Derived.Test.YtddepmelnemniaaGreatDoorHis36
import Derived.Deep.RegionHeld3


namespace Go.Proofs.YtddepmelnemniaaGreatDoor
open Go.RowKit

theorem all_cut {L : List Hs} {rs : List Res} {code : U64} {now : I64} (hv : ValH L) (hn : (rs.map Res.name).Nodup) : ∀ x ∈ addAll L rs code now, x.l.length ≤ 32 := fun x hx => by
  rcases (all_mem hv.asc hn).1 hx with ⟨h, _⟩ | ⟨r, _, rfl⟩
  · exact (hv.each x h).len
  · exact cut_len _
theorem all_room {L : List Hs} {rs : List Res} {code : U64} {now : I64} (hv : ValH L) (hn : (rs.map Res.name).Nodup) (hl : rs.length ≤ 4096) : (addAll L rs code now).length ≤ 8192 := by
  rw [all_len hv.asc hn]
  have := fresh_le L rs
  have := hv.len
  omega
set_option maxRecDepth 100000 in
set_option maxHeartbeats 8000000 in
theorem radd_any (A : Option Addr) (c : Nat) (l : List Hst) (Ar : Option Addr) (cr : Nat) (rs : List Res) (code : U64) (now : I64) (w : World) (hr : RwH w w.heap.size A l) (hrr : Rw resE 3 w w.heap.size Ar rs) (hm : MildH l) (hrc : rs.length ≤ cr) (hcr : cr ≤ 9223372036854775807) (hrn : rs.length ≤ 1000000) (hrs : ∀ x ∈ rs, x.name.1.size < 4294967281) :
    Calls Tryz.prog 14 #[.slice A l.length c, .slice Ar rs.length cr, .int .u64 code.1, .int .i64 now.1] w (fun e w' => ∃ (A' : Option Addr) (c' : Nat) (l' : List Hst), e = .returned (.tuple #[.slice A' l'.length c', .int .i64 (addErr (l.map Hst.h) rs now.1)]) ∧ RwH w' w'.heap.size A' l' ∧ l'.map Hst.h = addL (l.map Hst.h) rs code now ∧ Below w.heap.size w w') := by
  have hln := hm.len
  have hva0 := fun W (hb : Below w.heap.size w W) => rvalid_any A c l W (rwh_below hr hb) (by omega) hm.name
  have hrv0 := fun W (hb : Below w.heap.size w W) => rrepv_any Ar cr rs W ((hrr.below hb (Nat.le_refl _)).more hb.size) hrc hcr hrs
  have hla0 := fun (ha : AscN (l.map Hst.h)) W (hb : Below w.heap.size w W) => rlate_any A c l Ar cr rs now W (rwh_below hr hb) ((hrr.below hb (Nat.le_refl _)).more hb.size) hm.len hm.samps hrn ha
  have hrl := Lib.hid hr
  have hrw := Lib.hid hrr
  have hmil := Lib.hid hm
  clear hr hrr hm
  by_cases h1 : valErr (l.map Hst.h) ≠ 0
  · obtain ⟨E, hE0⟩ : ∃ E, valErr (l.map Hst.h) = E := ⟨_, rfl⟩
    have hE : Hid (addErr (l.map Hst.h) rs now.1 = E) := Lib.hid (by rw [err_1 h1, hE0])
    have hsame : Hid (addL (l.map Hst.h) rs code now = l.map Hst.h) := Lib.hid (add_same (by rw [err_1 h1]; exact h1))
    rw [hE0] at hva0
    have hva := Lib.hid hva0
    have hEb : (E != 0) = true := by rw [bne_iff_ne, ← hE0]; exact h1
    have hEc : (E == 0) = false := by rw [beq_eq_false_iff_ne, ← hE0]; exact h1
    clear hva0 hrv0 hla0 h1
    replace hE0 := Lib.hid hE0
    go_enter Tryz.func14, Tryz.ntmps14
    go_wp2_with (go_at_call 11; go_must (refine (hva.out _ (by repeat (first | (with_reducible exact Below.refl _ _) | (with_reducible refine Below.drew ?_) | (with_reducible refine below_drewN ?_ _) | ((with_reducible refine Below.alloc ?_ ?_ _); rotate_left; focus ((try simp) <;> omega)) | ((with_reducible refine Below.setCell ?_ ?_ _); rotate_left; focus ((try simp) <;> omega)) | ((with_reducible refine Below.trans ?_ (Below.mono (by assumption) ?_)); rotate_left; focus ((try simp) <;> omega))))).mono ?_; rintro e w1 ⟨rfl, hb1⟩; have hz1 := hb1.size))
    exact bodyPost_ret (v := .tuple #[.slice A l.length c, .int .i64 E]) (by simp [results, Tryz.results14, go_sem]) rfl ⟨A, c, l, by rw [hE.out], rwh_below hrl.out (by repeat (first | (with_reducible exact Below.refl _ _) | (with_reducible refine Below.drew ?_) | (with_reducible refine below_drewN ?_ _) | ((with_reducible refine Below.alloc ?_ ?_ _); rotate_left; focus ((try simp) <;> omega)) | ((with_reducible refine Below.setCell ?_ ?_ _); rotate_left; focus ((try simp) <;> omega)) | ((with_reducible refine Below.trans ?_ (Below.mono (by assumption) ?_)); rotate_left; focus ((try simp) <;> omega)))), by rw [hsame.out], (by repeat (first | (with_reducible exact Below.refl _ _) | (with_reducible refine Below.drew ?_) | (with_reducible refine below_drewN ?_ _) | ((with_reducible refine Below.alloc ?_ ?_ _); rotate_left; focus ((try simp) <;> omega)) | ((with_reducible refine Below.setCell ?_ ?_ _); rotate_left; focus ((try simp) <;> omega)) | ((with_reducible refine Below.trans ?_ (Below.mono (by assumption) ?_)); rotate_left; focus ((try simp) <;> omega))))⟩
  have h1 : valErr (l.map Hst.h) = 0 := Classical.not_not.1 h1
  rw [h1] at hva0
  have hva := Lib.hid hva0
  clear hva0
  by_cases h2 : repErr rs ≠ 0
  · obtain ⟨E, hE0⟩ : ∃ E, repErr rs = E := ⟨_, rfl⟩
    have hE : Hid (addErr (l.map Hst.h) rs now.1 = E) := Lib.hid (by rw [err_2 h1 h2, hE0])
    have hsame : Hid (addL (l.map Hst.h) rs code now = l.map Hst.h) := Lib.hid (add_same (by rw [err_2 h1 h2]; exact h2))
    rw [hE0] at hrv0
    have hrv := Lib.hid hrv0
    have hEb : (E != 0) = true := by rw [bne_iff_ne, ← hE0]; exact h2
    have hEc : (E == 0) = false := by rw [beq_eq_false_iff_ne, ← hE0]; exact h2
    clear hrv0 hla0 h1 h2
    replace hE0 := Lib.hid hE0
    go_enter Tryz.func14, Tryz.ntmps14
    go_wp2_with (first
      | (go_at_call 11; go_must (refine (hva.out _ (by repeat (first | (with_reducible exact Below.refl _ _) | (with_reducible refine Below.drew ?_) | (with_reducible refine below_drewN ?_ _) | ((with_reducible refine Below.alloc ?_ ?_ _); rotate_left; focus ((try simp) <;> omega)) | ((with_reducible refine Below.setCell ?_ ?_ _); rotate_left; focus ((try simp) <;> omega)) | ((with_reducible refine Below.trans ?_ (Below.mono (by assumption) ?_)); rotate_left; focus ((try simp) <;> omega))))).mono ?_; rintro e w1 ⟨rfl, hb1⟩; have hz1 := hb1.size))
      | (go_at_call 36; go_must (refine (hrv.out _ (by repeat (first | (with_reducible exact Below.refl _ _) | (with_reducible refine Below.drew ?_) | (with_reducible refine below_drewN ?_ _) | ((with_reducible refine Below.alloc ?_ ?_ _); rotate_left; focus ((try simp) <;> omega)) | ((with_reducible refine Below.setCell ?_ ?_ _); rotate_left; focus ((try simp) <;> omega)) | ((with_reducible refine Below.trans ?_ (Below.mono (by assumption) ?_)); rotate_left; focus ((try simp) <;> omega))))).mono ?_; rintro e w2 ⟨rfl, hb2⟩; have hz2 := hb2.size)))
    exact bodyPost_ret (v := .tuple #[.slice A l.length c, .int .i64 E]) (by simp [results, Tryz.results14, go_sem]) rfl ⟨A, c, l, by rw [hE.out], rwh_below hrl.out (by repeat (first | (with_reducible exact Below.refl _ _) | (with_reducible refine Below.drew ?_) | (with_reducible refine below_drewN ?_ _) | ((with_reducible refine Below.alloc ?_ ?_ _); rotate_left; focus ((try simp) <;> omega)) | ((with_reducible refine Below.setCell ?_ ?_ _); rotate_left; focus ((try simp) <;> omega)) | ((with_reducible refine Below.trans ?_ (Below.mono (by assumption) ?_)); rotate_left; focus ((try simp) <;> omega)))), by rw [hsame.out], (by repeat (first | (with_reducible exact Below.refl _ _) | (with_reducible refine Below.drew ?_) | (with_reducible refine below_drewN ?_ _) | ((with_reducible refine Below.alloc ?_ ?_ _); rotate_left; focus ((try simp) <;> omega)) | ((with_reducible refine Below.setCell ?_ ?_ _); rotate_left; focus ((try simp) <;> omega)) | ((with_reducible refine Below.trans ?_ (Below.mono (by assumption) ?_)); rotate_left; focus ((try simp) <;> omega))))⟩
  have h2 : repErr rs = 0 := Classical.not_not.1 h2
  rw [h2] at hrv0
  have hrv := Lib.hid hrv0
  clear hrv0
  rcases h3 : timeB now.1 with _ | _
  · have hE : Hid (addErr (l.map Hst.h) rs now.1 = 2) := Lib.hid (err_3 h1 h2 h3)
    have hsame : Hid (addL (l.map Hst.h) rs code now = l.map Hst.h) := Lib.hid (add_same (by rw [err_3 h1 h2 h3]; decide))
    clear hla0 h1 h2
    by_cases n0 : now.1 < 0
    · replace h3 := Lib.hid h3
      go_enter Tryz.func14, Tryz.ntmps14
      go_wp2_with (first
        | (go_at_call 11; go_must (refine (hva.out _ (by repeat (first | (with_reducible exact Below.refl _ _) | (with_reducible refine Below.drew ?_) | (with_reducible refine below_drewN ?_ _) | ((with_reducible refine Below.alloc ?_ ?_ _); rotate_left; focus ((try simp) <;> omega)) | ((with_reducible refine Below.setCell ?_ ?_ _); rotate_left; focus ((try simp) <;> omega)) | ((with_reducible refine Below.trans ?_ (Below.mono (by assumption) ?_)); rotate_left; focus ((try simp) <;> omega))))).mono ?_; rintro e w1 ⟨rfl, hb1⟩; have hz1 := hb1.size))
        | (go_at_call 36; go_must (refine (hrv.out _ (by repeat (first | (with_reducible exact Below.refl _ _) | (with_reducible refine Below.drew ?_) | (with_reducible refine below_drewN ?_ _) | ((with_reducible refine Below.alloc ?_ ?_ _); rotate_left; focus ((try simp) <;> omega)) | ((with_reducible refine Below.setCell ?_ ?_ _); rotate_left; focus ((try simp) <;> omega)) | ((with_reducible refine Below.trans ?_ (Below.mono (by assumption) ?_)); rotate_left; focus ((try simp) <;> omega))))).mono ?_; rintro e w2 ⟨rfl, hb2⟩; have hz2 := hb2.size)))
      exact bodyPost_ret (v := .tuple #[.slice A l.length c, .int .i64 2]) (by simp [results, Tryz.results14, go_sem]) rfl ⟨A, c, l, by rw [hE.out], rwh_below hrl.out (by repeat (first | (with_reducible exact Below.refl _ _) | (with_reducible refine Below.drew ?_) | (with_reducible refine below_drewN ?_ _) | ((with_reducible refine Below.alloc ?_ ?_ _); rotate_left; focus ((try simp) <;> omega)) | ((with_reducible refine Below.setCell ?_ ?_ _); rotate_left; focus ((try simp) <;> omega)) | ((with_reducible refine Below.trans ?_ (Below.mono (by assumption) ?_)); rotate_left; focus ((try simp) <;> omega)))), by rw [hsame.out], (by repeat (first | (with_reducible exact Below.refl _ _) | (with_reducible refine Below.drew ?_) | (with_reducible refine below_drewN ?_ _) | ((with_reducible refine Below.alloc ?_ ?_ _); rotate_left; focus ((try simp) <;> omega)) | ((with_reducible refine Below.setCell ?_ ?_ _); rotate_left; focus ((try simp) <;> omega)) | ((with_reducible refine Below.trans ?_ (Below.mono (by assumption) ?_)); rotate_left; focus ((try simp) <;> omega))))⟩
    · have n1 : 1125899906842624 < now.1 := by unfold timeB at h3; simp at h3; omega
      replace h3 := Lib.hid h3
      go_enter Tryz.func14, Tryz.ntmps14
      go_wp2_with (first
        | (go_at_call 11; go_must (refine (hva.out _ (by repeat (first | (with_reducible exact Below.refl _ _) | (with_reducible refine Below.drew ?_) | (with_reducible refine below_drewN ?_ _) | ((with_reducible refine Below.alloc ?_ ?_ _); rotate_left; focus ((try simp) <;> omega)) | ((with_reducible refine Below.setCell ?_ ?_ _); rotate_left; focus ((try simp) <;> omega)) | ((with_reducible refine Below.trans ?_ (Below.mono (by assumption) ?_)); rotate_left; focus ((try simp) <;> omega))))).mono ?_; rintro e w1 ⟨rfl, hb1⟩; have hz1 := hb1.size))
        | (go_at_call 36; go_must (refine (hrv.out _ (by repeat (first | (with_reducible exact Below.refl _ _) | (with_reducible refine Below.drew ?_) | (with_reducible refine below_drewN ?_ _) | ((with_reducible refine Below.alloc ?_ ?_ _); rotate_left; focus ((try simp) <;> omega)) | ((with_reducible refine Below.setCell ?_ ?_ _); rotate_left; focus ((try simp) <;> omega)) | ((with_reducible refine Below.trans ?_ (Below.mono (by assumption) ?_)); rotate_left; focus ((try simp) <;> omega))))).mono ?_; rintro e w2 ⟨rfl, hb2⟩; have hz2 := hb2.size)))
      exact bodyPost_ret (v := .tuple #[.slice A l.length c, .int .i64 2]) (by simp [results, Tryz.results14, go_sem]) rfl ⟨A, c, l, by rw [hE.out], rwh_below hrl.out (by repeat (first | (with_reducible exact Below.refl _ _) | (with_reducible refine Below.drew ?_) | (with_reducible refine below_drewN ?_ _) | ((with_reducible refine Below.alloc ?_ ?_ _); rotate_left; focus ((try simp) <;> omega)) | ((with_reducible refine Below.setCell ?_ ?_ _); rotate_left; focus ((try simp) <;> omega)) | ((with_reducible refine Below.trans ?_ (Below.mono (by assumption) ?_)); rotate_left; focus ((try simp) <;> omega)))), by rw [hsame.out], (by repeat (first | (with_reducible exact Below.refl _ _) | (with_reducible refine Below.drew ?_) | (with_reducible refine below_drewN ?_ _) | ((with_reducible refine Below.alloc ?_ ?_ _); rotate_left; focus ((try simp) <;> omega)) | ((with_reducible refine Below.setCell ?_ ?_ _); rotate_left; focus ((try simp) <;> omega)) | ((with_reducible refine Below.trans ?_ (Below.mono (by assumption) ?_)); rotate_left; focus ((try simp) <;> omega))))⟩
  have n0 : ¬ now.1 < 0 := by unfold timeB at h3; simp at h3; omega
  have n1 : ¬ 1125899906842624 < now.1 := by unfold timeB at h3; simp at h3; omega
  have hv := valid_ok.1 h1
  have hrep := rep_ok.1 h2
  have hla1 := hla0 hv.asc
  clear hla0
  rcases h4 : lateB (l.map Hst.h) rs now.1 with _ | _
  rotate_left
  · have hE : Hid (addErr (l.map Hst.h) rs now.1 = 22) := Lib.hid (err_4 h1 h2 h3 h4)
    have hsame : Hid (addL (l.map Hst.h) rs code now = l.map Hst.h) := Lib.hid (add_same (by rw [err_4 h1 h2 h3 h4]; decide))
    rw [h4] at hla1
    have hla := Lib.hid hla1
    clear h1 h2 hv hrep hla1
    replace h3 := Lib.hid h3
    replace h4 := Lib.hid h4
    go_enter Tryz.func14, Tryz.ntmps14
    go_wp2_with (first
      | (go_at_call 11; go_must (refine (hva.out _ (by repeat (first | (with_reducible exact Below.refl _ _) | (with_reducible refine Below.drew ?_) | (with_reducible refine below_drewN ?_ _) | ((with_reducible refine Below.alloc ?_ ?_ _); rotate_left; focus ((try simp) <;> omega)) | ((with_reducible refine Below.setCell ?_ ?_ _); rotate_left; focus ((try simp) <;> omega)) | ((with_reducible refine Below.trans ?_ (Below.mono (by assumption) ?_)); rotate_left; focus ((try simp) <;> omega))))).mono ?_; rintro e w1 ⟨rfl, hb1⟩; have hz1 := hb1.size))
      | (go_at_call 36; go_must (refine (hrv.out _ (by repeat (first | (with_reducible exact Below.refl _ _) | (with_reducible refine Below.drew ?_) | (with_reducible refine below_drewN ?_ _) | ((with_reducible refine Below.alloc ?_ ?_ _); rotate_left; focus ((try simp) <;> omega)) | ((with_reducible refine Below.setCell ?_ ?_ _); rotate_left; focus ((try simp) <;> omega)) | ((with_reducible refine Below.trans ?_ (Below.mono (by assumption) ?_)); rotate_left; focus ((try simp) <;> omega))))).mono ?_; rintro e w2 ⟨rfl, hb2⟩; have hz2 := hb2.size))
      | (go_at_call 37; go_must (refine (hla.out _ (by repeat (first | (with_reducible exact Below.refl _ _) | (with_reducible refine Below.drew ?_) | (with_reducible refine below_drewN ?_ _) | ((with_reducible refine Below.alloc ?_ ?_ _); rotate_left; focus ((try simp) <;> omega)) | ((with_reducible refine Below.setCell ?_ ?_ _); rotate_left; focus ((try simp) <;> omega)) | ((with_reducible refine Below.trans ?_ (Below.mono (by assumption) ?_)); rotate_left; focus ((try simp) <;> omega))))).mono ?_; rintro e w3 ⟨rfl, hb3⟩; have hz3 := hb3.size)))
    exact bodyPost_ret (v := .tuple #[.slice A l.length c, .int .i64 22]) (by simp [results, Tryz.results14, go_sem]) rfl ⟨A, c, l, by rw [hE.out], rwh_below hrl.out (by repeat (first | (with_reducible exact Below.refl _ _) | (with_reducible refine Below.drew ?_) | (with_reducible refine below_drewN ?_ _) | ((with_reducible refine Below.alloc ?_ ?_ _); rotate_left; focus ((try simp) <;> omega)) | ((with_reducible refine Below.setCell ?_ ?_ _); rotate_left; focus ((try simp) <;> omega)) | ((with_reducible refine Below.trans ?_ (Below.mono (by assumption) ?_)); rotate_left; focus ((try simp) <;> omega)))), by rw [hsame.out], (by repeat (first | (with_reducible exact Below.refl _ _) | (with_reducible refine Below.drew ?_) | (with_reducible refine below_drewN ?_ _) | ((with_reducible refine Below.alloc ?_ ?_ _); rotate_left; focus ((try simp) <;> omega)) | ((with_reducible refine Below.setCell ?_ ?_ _); rotate_left; focus ((try simp) <;> omega)) | ((with_reducible refine Below.trans ?_ (Below.mono (by assumption) ?_)); rotate_left; focus ((try simp) <;> omega))))⟩
  rw [h4] at hla1
  have hla := Lib.hid hla1
  have hE1 := Lib.hid (fun h5 => err_5 (now := now.1) h1 h2 h3 h4 h5)
  have hE2 := Lib.hid (fun h5 => err_6 (now := now.1) h1 h2 h3 h4 h5)
  have hv1 := Lib.hid hv
  have hrep1 := Lib.hid hrep
  clear h1 h2 hv hrep hla1
  replace h3 := Lib.hid h3
  replace h4 := Lib.hid h4
  go_enter Tryz.func14, Tryz.ntmps14
  go_wp2_with (first
    | (go_at_call 11; go_must (refine (hva.out _ (by repeat (first | (with_reducible exact Below.refl _ _) | (with_reducible refine Below.drew ?_) | (with_reducible refine below_drewN ?_ _) | ((with_reducible refine Below.alloc ?_ ?_ _); rotate_left; focus ((try simp) <;> omega)) | ((with_reducible refine Below.setCell ?_ ?_ _); rotate_left; focus ((try simp) <;> omega)) | ((with_reducible refine Below.trans ?_ (Below.mono (by assumption) ?_)); rotate_left; focus ((try simp) <;> omega))))).mono ?_; rintro e w1 ⟨rfl, hb1⟩; have hz1 := hb1.size))
    | (go_at_call 36; go_must (refine (hrv.out _ (by repeat (first | (with_reducible exact Below.refl _ _) | (with_reducible refine Below.drew ?_) | (with_reducible refine below_drewN ?_ _) | ((with_reducible refine Below.alloc ?_ ?_ _); rotate_left; focus ((try simp) <;> omega)) | ((with_reducible refine Below.setCell ?_ ?_ _); rotate_left; focus ((try simp) <;> omega)) | ((with_reducible refine Below.trans ?_ (Below.mono (by assumption) ?_)); rotate_left; focus ((try simp) <;> omega))))).mono ?_; rintro e w2 ⟨rfl, hb2⟩; have hz2 := hb2.size))
    | (go_at_call 37; go_must (refine (hla.out _ (by repeat (first | (with_reducible exact Below.refl _ _) | (with_reducible refine Below.drew ?_) | (with_reducible refine below_drewN ?_ _) | ((with_reducible refine Below.alloc ?_ ?_ _); rotate_left; focus ((try simp) <;> omega)) | ((with_reducible refine Below.setCell ?_ ?_ _); rotate_left; focus ((try simp) <;> omega)) | ((with_reducible refine Below.trans ?_ (Below.mono (by assumption) ?_)); rotate_left; focus ((try simp) <;> omega))))).mono ?_; rintro e w3 ⟨rfl, hb3⟩; have hz3 := hb3.size)))
  have hB3 : Hid (Below w.heap.size w w3) := Lib.hid (by repeat (first | (with_reducible exact Below.refl _ _) | (with_reducible refine Below.drew ?_) | (with_reducible refine below_drewN ?_ _) | ((with_reducible refine Below.alloc ?_ ?_ _); rotate_left; focus ((try simp) <;> omega)) | ((with_reducible refine Below.setCell ?_ ?_ _); rotate_left; focus ((try simp) <;> omega)) | ((with_reducible refine Below.trans ?_ (Below.mono (by assumption) ?_)); rotate_left; focus ((try simp) <;> omega))))
  go_loopw [11, 12] (fun vo vi wr => ∃ (k : Nat) (A2 : Option Addr) (c2 : Nat) (cur : List Hst), k ≤ rs.length ∧ vi = .int .i64 (k : Int) ∧ vo = .slice A2 cur.length c2 ∧ RwH wr wr.heap.size A2 cur ∧ cur.map Hst.h = addAll (l.map Hst.h) (rs.take k) code now ∧ Below w.heap.size w wr) (fun _ vi _ => rs.length - (intOf vi).toNat)
  case atStart => exact ⟨0, A, c, l, Nat.zero_le _, rfl, rfl, rwh_below hrl.out (by repeat (first | (with_reducible exact Below.refl _ _) | (with_reducible refine Below.drew ?_) | (with_reducible refine below_drewN ?_ _) | ((with_reducible refine Below.alloc ?_ ?_ _); rotate_left; focus ((try simp) <;> omega)) | ((with_reducible refine Below.setCell ?_ ?_ _); rotate_left; focus ((try simp) <;> omega)) | ((with_reducible refine Below.trans ?_ (Below.mono (by assumption) ?_)); rotate_left; focus ((try simp) <;> omega)))), rfl, (by repeat (first | (with_reducible exact Below.refl _ _) | (with_reducible refine Below.drew ?_) | (with_reducible refine below_drewN ?_ _) | ((with_reducible refine Below.alloc ?_ ?_ _); rotate_left; focus ((try simp) <;> omega)) | ((with_reducible refine Below.setCell ?_ ?_ _); rotate_left; focus ((try simp) <;> omega)) | ((with_reducible refine Below.trans ?_ (Below.mono (by assumption) ?_)); rotate_left; focus ((try simp) <;> omega))))⟩
  case round =>
    obtain ⟨k, A2, c2, cur, hk, rfl, rfl, hcr2, hcm, hbw⟩ := hrel
    have hz := hbw.size
    by_cases hkl : k < rs.length
    · obtain ⟨r, hr⟩ := get_some hkl
      have hnd : ((rs.take k).map Res.name).Nodup := by rw [List.map_take]; exact List.Nodup.sublist (List.take_sublist _ _) hrep1.out.nodup
      have hroom : cur.length ≤ 8192 := by
        have h := all_room (rs := rs.take k) (code := code) (now := now) hv1.out hnd (by rw [List.length_take]; have := hrep1.out.len; omega)
        rw [← hcm, List.length_map] at h
        exact h
      have hc32 : ∀ x ∈ cur, x.l.length ≤ 32 := fun x hx => all_cut hv1.out hnd x.h (by rw [← hcm]; exact List.mem_map_of_mem hx)
      have hnx : Hid (wR r.name (sampR r code now) false (cur.map Hst.h) = addAll (l.map Hst.h) (rs.take (k + 1)) code now) := Lib.hid (by
        rw [all_succ hr, ← hcm]
        exact wR_with (by rw [hcm]; exact all_asc hv1.out.asc) _ _ fun x hx => by
          obtain ⟨y, hy, rfl⟩ := List.mem_map.1 hx
          exact hc32 y hy)
      have hwi : Hid (∀ W, Below wr.heap.size wr W → Calls Tryz.prog 38 #[.slice A2 cur.length c2, .string r.name.1, .agg #[.int .u64 code.1, .int .i64 r.status.1, .int .i64 r.time.1, .int .i64 now.1]] W fun e w' => ∃ A' c' l', e = .returned (.slice A' l'.length c') ∧ RwH w' w'.heap.size A' l' ∧ l'.map Hst.h = addAll (l.map Hst.h) (rs.take (k + 1)) code now ∧ Below W.heap.size W w') := Lib.hid fun W hb =>
        (rwith_any A2 c2 cur r.name (sampR r code now) W (rwh_below hcr2 hb) (by omega) (fun x hx => Nat.le_trans (hc32 x hx) (by decide))).mono fun e w' ⟨A', c', l', h1, h2, h3, h4⟩ => ⟨A', c', l', h1, h2.reads, h3.trans hnx.out, h4⟩
      obtain ⟨gr, orr, rfl, hgr, hq⟩ := hrw.out (by omega)
      have q := fun j u hu => (hbw.cell (p := ⟨gr, orr + k * 3 + j, none⟩) hgr).trans (hq k r hr j u hu)
      have b0 := q 0 (.string r.name.1) rfl
      rw [Nat.add_zero] at b0
      have b1 := q 1 (.int .i64 r.status.1) rfl
      have b2 := q 2 (.int .i64 r.time.1) rfl
      clear q hq
      have i0 : (0 : Int) ≤ (k : Int) := by omega
      have i1 : (k : Int) < (rs.length : Int) := by omega
      have hgrr : gr < wr.heap.size := by omega
      replace hcr2 := Lib.hid hcr2
      replace hcm := Lib.hid hcm
      replace hr := Lib.hid hr
      replace hnx := Lib.hid hnx
      replace hnd := Lib.hid hnd
      replace hc32 := Lib.hid hc32
      have hbw0 := Lib.hid hbw
      clear hbw
      go_wp2_with fail
      go_region_held3 (fun w' => w'.cell? ⟨gr, orr + k * 3, none⟩ = some (.string r.name.1) ∧ w'.cell? ⟨gr, orr + k * 3 + 1, none⟩ = some (.int .i64 r.status.1) ∧ w'.cell? ⟨gr, orr + k * 3 + 2, none⟩ = some (.int .i64 r.time.1)) (first | (go_keep; done) | (go_simp; done) | go_keep)
        (first
        | (go_at_call 38; go_must (refine (hwi.out _ (by repeat (first | (with_reducible exact Below.refl _ _) | (with_reducible refine Below.drew ?_) | (with_reducible refine below_drewN ?_ _) | ((with_reducible refine Below.alloc ?_ ?_ _); rotate_left; focus ((try simp) <;> omega)) | ((with_reducible refine Below.setCell ?_ ?_ _); rotate_left; focus ((try simp) <;> omega)) | ((with_reducible refine Below.trans ?_ (Below.mono (by assumption) ?_)); rotate_left; focus ((try simp) <;> omega))))).mono ?_; rintro e w5 ⟨A5, c5, l5, rfl, hr5, hm5, hb5⟩; have hz5 := hb5.size; (try simp at hz5); replace hr5 := Lib.hid hr5; replace hm5 := Lib.hid hm5; obtain ⟨hc5, hf5⟩ := blk_at hb5 gr (by (try simp) <;> omega))))
      all_goals go_wp2_with fail
      all_goals go_roundw
      case rel => exact ⟨k + 1, A5, c5, l5, hkl, by go_num, rfl, rwh_below hr5.out (by repeat (first | (with_reducible exact Below.refl _ _) | (with_reducible refine Below.drew ?_) | (with_reducible refine below_drewN ?_ _) | ((with_reducible refine Below.alloc ?_ ?_ _); rotate_left; focus ((try simp) <;> omega)) | ((with_reducible refine Below.setCell ?_ ?_ _); rotate_left; focus ((try simp) <;> omega)) | ((with_reducible refine Below.trans ?_ (Below.mono (by assumption) ?_)); rotate_left; focus ((try simp) <;> omega)))), hm5.out, hbw0.out.trans (Below.mono (B := wr.heap.size) (by repeat (first | (with_reducible exact Below.refl _ _) | (with_reducible refine Below.drew ?_) | (with_reducible refine below_drewN ?_ _) | ((with_reducible refine Below.alloc ?_ ?_ _); rotate_left; focus ((try simp) <;> omega)) | ((with_reducible refine Below.setCell ?_ ?_ _); rotate_left; focus ((try simp) <;> omega)) | ((with_reducible refine Below.trans ?_ (Below.mono (by assumption) ?_)); rotate_left; focus ((try simp) <;> omega)))) (by omega))⟩
      case measure => simp [intOf]; omega
    · have i1 : ¬ (k : Int) < (rs.length : Int) := by omega
      obtain rfl : k = rs.length := by omega
      rw [List.take_length] at hcm
      have hcl : cur.length = l.length + freshN (l.map Hst.h) rs := by
        have h := congrArg List.length hcm
        rw [all_len hv1.out.asc hrep1.out.nodup, List.length_map, List.length_map] at h
        exact h
      by_cases h5 : 4096 < cur.length
      · have hE : Hid (addErr (l.map Hst.h) rs now.1 = 15) := Lib.hid (hE1.out (by rw [List.length_map, ← hcl]; exact h5))
        have hsame : Hid (addL (l.map Hst.h) rs code now = l.map Hst.h) := Lib.hid (add_same (by rw [hE.out]; decide))
        have h5z : (4096 : Int) < (cur.length : Int) := by omega
        replace hcl := Lib.hid hcl
        replace hcm := Lib.hid hcm
        replace hcr2 := Lib.hid hcr2
        clear h5
        go_wp2_with fail
        exact bodyPost_ret (v := .tuple #[.slice A l.length c, .int .i64 15]) (by simp [results, Tryz.results14, go_sem]) rfl ⟨A, c, l, by rw [hE.out], rwh_below hrl.out (by repeat (first | (with_reducible exact Below.refl _ _) | (with_reducible refine Below.drew ?_) | (with_reducible refine below_drewN ?_ _) | ((with_reducible refine Below.alloc ?_ ?_ _); rotate_left; focus ((try simp) <;> omega)) | ((with_reducible refine Below.setCell ?_ ?_ _); rotate_left; focus ((try simp) <;> omega)) | ((with_reducible refine Below.trans ?_ (Below.mono (by assumption) ?_)); rotate_left; focus ((try simp) <;> omega)))), by rw [hsame.out], (by repeat (first | (with_reducible exact Below.refl _ _) | (with_reducible refine Below.drew ?_) | (with_reducible refine below_drewN ?_ _) | ((with_reducible refine Below.alloc ?_ ?_ _); rotate_left; focus ((try simp) <;> omega)) | ((with_reducible refine Below.setCell ?_ ?_ _); rotate_left; focus ((try simp) <;> omega)) | ((with_reducible refine Below.trans ?_ (Below.mono (by assumption) ?_)); rotate_left; focus ((try simp) <;> omega))))⟩
      · have hE : Hid (addErr (l.map Hst.h) rs now.1 = 0) := Lib.hid (hE2.out (by rw [List.length_map, ← hcl]; exact h5))
        have hdone : Hid (addL (l.map Hst.h) rs code now = addAll (l.map Hst.h) rs code now) := Lib.hid (add_done hE.out)
        have h5z : ¬ (4096 : Int) < (cur.length : Int) := by omega
        replace hcl := Lib.hid hcl
        replace hcm := Lib.hid hcm
        replace hcr2 := Lib.hid hcr2
        clear h5
        go_wp2_with fail
        exact bodyPost_ret (v := .tuple #[.slice A2 cur.length c2, .int .i64 0]) (by simp [results, Tryz.results14, go_sem]) rfl ⟨A2, c2, cur, by rw [hE.out], hcr2.out, by rw [hdone.out]; exact hcm.out, hbw⟩
end Go.Proofs.YtddepmelnemniaaGreatDoor
