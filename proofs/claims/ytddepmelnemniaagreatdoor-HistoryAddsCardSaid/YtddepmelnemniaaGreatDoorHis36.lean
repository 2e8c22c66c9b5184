/-
  The walks of histories: whether a result comes too late; results added; by the reference.
-/
import Derived.Test.YtddepmelnemniaaGreatDoorHis35


namespace Go.Proofs.YtddepmelnemniaaGreatDoor
open Go.RowKit

theorem rwh_below {w w' : World} {A : Option Addr} {l : List Hst} (h : RwH w w.heap.size A l) (hb : Below w.heap.size w w') : RwH w' w'.heap.size A l := (h.below hb (Nat.le_refl _)).more hb.size
theorem old_find {l : List Hst} (ha : AscN (l.map Hst.h)) (p : Str) : (∀ x, atH l p = some x → oldS (l.map Hst.h) p = x.l) ∧ (atH l p = none → oldS (l.map Hst.h) p = []) := by
  have haf := at_find l p
  rcases find_cases ha p with ⟨h1, h2, x, hx, hxn⟩ | ⟨h1, h2, _, _, _⟩
  · have hs : atH l p = l[atN p (l.map Hst.h)]? := by unfold atH; rw [h2, if_neg (by omega), Int.toNat_natCast]
    have ho : oldS (l.map Hst.h) p = x.l := by unfold oldS; rw [if_pos h1, get_bang hx]
    rw [List.getElem?_map] at hx
    refine ⟨fun y hy => ?_, fun hy => ?_⟩
    · rw [ho]
      rw [hs] at hy
      rw [hy] at hx
      have : y.h = x := by simpa using hx
      rw [← this]
      rfl
    · rw [hs] at hy
      rw [hy] at hx
      cases hx
  · have hs : atH l p = none := by unfold atH; rw [h2, if_pos (by decide)]
    exact ⟨fun x h => (by rw [hs] at h; cases h), fun _ => old_none h1⟩
set_option maxRecDepth 100000 in
set_option maxHeartbeats 8000000 in
theorem rlate_any (A : Option Addr) (c : Nat) (l : List Hst) (Ar : Option Addr) (cr : Nat) (rs : List Res) (now : I64) (w : World) (hr : RwH w w.heap.size A l) (hrr : Rw resE 3 w w.heap.size Ar rs) (hn : l.length ≤ 1000000) (hm : ∀ x ∈ l, x.l.length ≤ 1000000) (hrn : rs.length ≤ 1000000) (ha : AscN (l.map Hst.h)) :
    Calls Tryz.prog 37 #[.slice A l.length c, .slice Ar rs.length cr, .int .i64 now.1] w fun e w' => e = .returned (.bool (lateB (l.map Hst.h) rs now.1)) ∧ Below w.heap.size w w' := by
  obtain ⟨R, hR⟩ : ∃ R, lateB (l.map Hst.h) rs now.1 = R := ⟨_, rfl⟩
  rw [hR]
  replace hR := Lib.hid hR
  have hof := Lib.hid (fun p => old_find ha p)
  have hrl := Lib.hid hr
  have hrw := Lib.hid hrr
  have hmil := Lib.hid hm
  clear hr hrr hm ha
  go_enter Tryz.func37, Tryz.ntmps37
  go_wp2_with fail
  go_loopw [7] (fun vi wr => ∃ k : Nat, k ≤ rs.length ∧ vi = .int .i64 (k : Int) ∧ (rs.take k).any (lateR (l.map Hst.h) now.1) = false ∧ Below w.heap.size w wr) (fun vi _ => rs.length - (intOf vi).toNat)
  case atStart => exact ⟨0, Nat.zero_le _, rfl, rfl, Below.refl _ _⟩
  case round =>
    obtain ⟨k, hk, rfl, hlt, hbw⟩ := hrel
    have hz := hbw.size
    by_cases hkl : k < rs.length
    · obtain ⟨r, hr⟩ := get_some hkl
      have hls := late_succ hr hlt
      have hhere := Lib.hid (late_here (L := l.map Hst.h) (now := now.1) hr)
      obtain ⟨gr, orr, rfl, hgr, hq⟩ := hrw.out (by omega)
      have b0 := (hbw.cell (p := ⟨gr, orr + k * 3, none⟩) hgr).trans (hq k r hr 0 (.string r.name.1) rfl)
      clear hq
      have i0 : (0 : Int) ≤ (k : Int) := by omega
      have i1 : (k : Int) < (rs.length : Int) := by omega
      obtain ⟨hof1, hof2⟩ := hof.out r.name
      have hfi0 := fun W (hb : Below w.heap.size w W) => rfindh_any A c l r.name W (rwh_below hrl.out hb).row (by omega)
      have hbw0 := Lib.hid hbw
      rcases hx : atH l r.name with _ | x
      · rw [hx] at hfi0
        have hfi : Hid (∀ W, Below w.heap.size w W → Calls Tryz.prog 19 #[.slice A l.length c, .string r.name.1] W fun e w' => e = .returned (.tuple #[.agg #[.string ByteArray.empty, .slice none 0 0], .bool false]) ∧ Below W.heap.size W w') := Lib.hid hfi0
        have hl2 : Hid ((rs.take (k + 1)).any (lateR (l.map Hst.h) now.1) = false) := Lib.hid (by rw [hls]; exact late_no (hof2 hx))
        clear hof1 hof2 hls hlt hfi0
        replace hx := Lib.hid hx
        replace hr := Lib.hid hr
        go_wp2_with (go_at_call 19; go_must (refine (hfi.out _ (by repeat (first | (with_reducible exact Below.refl _ _) | (with_reducible refine Below.drew ?_) | (with_reducible refine below_drewN ?_ _) | ((with_reducible refine Below.alloc ?_ ?_ _); rotate_left; focus ((try simp) <;> omega)) | ((with_reducible refine Below.setCell ?_ ?_ _); rotate_left; focus ((try simp) <;> omega)) | ((with_reducible refine Below.trans ?_ (Below.mono (by assumption) ?_)); rotate_left; focus ((try simp) <;> omega))))).mono ?_; rintro e w1 ⟨rfl, hb1⟩; have hz1 := hb1.size; (try simp at hz1)))
        go_roundw
        case rel => exact ⟨k + 1, hkl, by go_num, hl2.out, (by repeat (first | (with_reducible exact Below.refl _ _) | (with_reducible refine Below.drew ?_) | (with_reducible refine below_drewN ?_ _) | ((with_reducible refine Below.alloc ?_ ?_ _); rotate_left; focus ((try simp) <;> omega)) | ((with_reducible refine Below.setCell ?_ ?_ _); rotate_left; focus ((try simp) <;> omega)) | ((with_reducible refine Below.trans ?_ (Below.mono (by assumption) ?_)); rotate_left; focus ((try simp) <;> omega))))⟩
        case measure => simp [intOf]; omega
      · have hxm : x ∈ l := by
          have hx2 := hx
          unfold atH at hx2
          split at hx2
          · cases hx2
          · exact List.mem_of_getElem? hx2
        rw [hx] at hfi0
        have hfi : Hid (∀ W, Below w.heap.size w W → Calls Tryz.prog 19 #[.slice A l.length c, .string r.name.1] W fun e w' => e = .returned (.tuple #[.agg #[.string x.name.1, .slice x.lA x.l.length x.lC], .bool true]) ∧ Below W.heap.size W w') := Lib.hid hfi0
        have hxo := hof1 x hx
        have hlb := (hrl.out.labs x hxm).2.2
        have hxs := hmil.out x hxm
        by_cases hx0 : x.l.length = 0
        · have hl2 : Hid ((rs.take (k + 1)).any (lateR (l.map Hst.h) now.1) = false) := Lib.hid (by rw [hls]; exact late_no (by rw [hxo]; exact List.eq_nil_of_length_eq_zero hx0))
          have e0 : ¬ (0 : Int) < (x.l.length : Int) := by omega
          clear hof1 hof2 hls hlt hfi0 hlb
          replace hx := Lib.hid hx
          replace hxm := Lib.hid hxm
          replace hxo := Lib.hid hxo
          replace hr := Lib.hid hr
          replace hx0 := Lib.hid hx0
          go_wp2_with (go_at_call 19; go_must (refine (hfi.out _ (by repeat (first | (with_reducible exact Below.refl _ _) | (with_reducible refine Below.drew ?_) | (with_reducible refine below_drewN ?_ _) | ((with_reducible refine Below.alloc ?_ ?_ _); rotate_left; focus ((try simp) <;> omega)) | ((with_reducible refine Below.setCell ?_ ?_ _); rotate_left; focus ((try simp) <;> omega)) | ((with_reducible refine Below.trans ?_ (Below.mono (by assumption) ?_)); rotate_left; focus ((try simp) <;> omega))))).mono ?_; rintro e w1 ⟨rfl, hb1⟩; have hz1 := hb1.size; (try simp at hz1)))
          go_roundw
          case rel => exact ⟨k + 1, hkl, by go_num, hl2.out, (by repeat (first | (with_reducible exact Below.refl _ _) | (with_reducible refine Below.drew ?_) | (with_reducible refine below_drewN ?_ _) | ((with_reducible refine Below.alloc ?_ ?_ _); rotate_left; focus ((try simp) <;> omega)) | ((with_reducible refine Below.setCell ?_ ?_ _); rotate_left; focus ((try simp) <;> omega)) | ((with_reducible refine Below.trans ?_ (Below.mono (by assumption) ?_)); rotate_left; focus ((try simp) <;> omega))))⟩
          case measure => simp [intOf]; omega
        · obtain ⟨m, hm0⟩ : ∃ m, x.l.length = m + 1 := ⟨x.l.length - 1, by omega⟩
          obtain ⟨s, hs⟩ := get_some (show m < x.l.length by omega)
          have hlast := late_last (now := now.1) hxo hm0 hs
          have hls2 := hls.trans hlast
          obtain ⟨g3, o3, hA3, hg3, hq3⟩ := hlb (by omega)
          have q3 := (hbw.cell (p := ⟨g3, o3 + m * 4 + 3, none⟩) hg3).trans (hq3 m s hs 3 (.int .i64 s.stamp.1) rfl)
          rw [hA3] at hfi
          replace hA3 := Lib.hid hA3
          clear hq3 hlb hls
          have e0 : (0 : Int) < (x.l.length : Int) := by omega
          have em : (x.l.length : Int) - 1 = (m : Int) := by omega
          have mw : IntKind.i64.wrap (m : Int) = (m : Int) := IntWalk.i64_in _ (by omega)
          have m0 : (0 : Int) ≤ (m : Int) := by omega
          have m1 : (m : Int) < (x.l.length : Int) := by omega
          have hg3w : g3 < wr.heap.size := by omega
          have n3 : g3 ≠ wr.heap.size := by omega
          by_cases hlate : now.1 < s.stamp.1
          · have hf : Hid (R = true) := Lib.hid (by rw [← hR.out]; exact hhere.out (hlast.trans (decide_eq_true hlate)))
            clear hof1 hof2 hlt hfi0 hls2 hlast
            replace hx := Lib.hid hx
            replace hxm := Lib.hid hxm
            replace hxo := Lib.hid hxo
            replace hr := Lib.hid hr
            replace hx0 := Lib.hid hx0
            replace hm0 := Lib.hid hm0
            replace hs := Lib.hid hs
            go_wp2_with (go_at_call 19; go_must (refine (hfi.out _ (by repeat (first | (with_reducible exact Below.refl _ _) | (with_reducible refine Below.drew ?_) | (with_reducible refine below_drewN ?_ _) | ((with_reducible refine Below.alloc ?_ ?_ _); rotate_left; focus ((try simp) <;> omega)) | ((with_reducible refine Below.setCell ?_ ?_ _); rotate_left; focus ((try simp) <;> omega)) | ((with_reducible refine Below.trans ?_ (Below.mono (by assumption) ?_)); rotate_left; focus ((try simp) <;> omega))))).mono ?_; rintro e w1 ⟨rfl, hb1⟩; have hz1 := hb1.size; (try simp at hz1); have hk1 : g3 < w1.heap.size := (by omega); have nk1 : g3 ≠ w1.heap.size := (by omega); obtain ⟨hc6, hf6⟩ := blk_at hb1 g3 (by (try simp) <;> omega)))
            go_ret
            exact ⟨by rw [hf.out]; rfl, (by repeat (first | (with_reducible exact Below.refl _ _) | (with_reducible refine Below.drew ?_) | (with_reducible refine below_drewN ?_ _) | ((with_reducible refine Below.alloc ?_ ?_ _); rotate_left; focus ((try simp) <;> omega)) | ((with_reducible refine Below.setCell ?_ ?_ _); rotate_left; focus ((try simp) <;> omega)) | ((with_reducible refine Below.trans ?_ (Below.mono (by assumption) ?_)); rotate_left; focus ((try simp) <;> omega))))⟩
          · have hl2 : Hid ((rs.take (k + 1)).any (lateR (l.map Hst.h) now.1) = false) := Lib.hid (by rw [hls2]; exact decide_eq_false hlate)
            clear hof1 hof2 hlt hfi0 hls2 hlast
            replace hx := Lib.hid hx
            replace hxm := Lib.hid hxm
            replace hxo := Lib.hid hxo
            replace hr := Lib.hid hr
            replace hx0 := Lib.hid hx0
            replace hm0 := Lib.hid hm0
            replace hs := Lib.hid hs
            go_wp2_with (go_at_call 19; go_must (refine (hfi.out _ (by repeat (first | (with_reducible exact Below.refl _ _) | (with_reducible refine Below.drew ?_) | (with_reducible refine below_drewN ?_ _) | ((with_reducible refine Below.alloc ?_ ?_ _); rotate_left; focus ((try simp) <;> omega)) | ((with_reducible refine Below.setCell ?_ ?_ _); rotate_left; focus ((try simp) <;> omega)) | ((with_reducible refine Below.trans ?_ (Below.mono (by assumption) ?_)); rotate_left; focus ((try simp) <;> omega))))).mono ?_; rintro e w1 ⟨rfl, hb1⟩; have hz1 := hb1.size; (try simp at hz1); have hk1 : g3 < w1.heap.size := (by omega); have nk1 : g3 ≠ w1.heap.size := (by omega); obtain ⟨hc6, hf6⟩ := blk_at hb1 g3 (by (try simp) <;> omega)))
            go_roundw
            case rel => exact ⟨k + 1, hkl, by go_num, hl2.out, (by repeat (first | (with_reducible exact Below.refl _ _) | (with_reducible refine Below.drew ?_) | (with_reducible refine below_drewN ?_ _) | ((with_reducible refine Below.alloc ?_ ?_ _); rotate_left; focus ((try simp) <;> omega)) | ((with_reducible refine Below.setCell ?_ ?_ _); rotate_left; focus ((try simp) <;> omega)) | ((with_reducible refine Below.trans ?_ (Below.mono (by assumption) ?_)); rotate_left; focus ((try simp) <;> omega))))⟩
            case measure => simp [intOf]; omega
    · have i1 : ¬ (k : Int) < (rs.length : Int) := by omega
      obtain rfl : k = rs.length := by omega
      rw [List.take_length] at hlt
      have hf : Hid (R = false) := Lib.hid (by rw [← hR.out]; exact hlt)
      replace hlt := Lib.hid hlt
      go_wp2_with fail
      go_ret
      exact ⟨by rw [hf.out]; rfl, (by repeat (first | (with_reducible exact Below.refl _ _) | (with_reducible refine Below.drew ?_) | (with_reducible refine below_drewN ?_ _) | ((with_reducible refine Below.alloc ?_ ?_ _); rotate_left; focus ((try simp) <;> omega)) | ((with_reducible refine Below.setCell ?_ ?_ _); rotate_left; focus ((try simp) <;> omega)) | ((with_reducible refine Below.trans ?_ (Below.mono (by assumption) ?_)); rotate_left; focus ((try simp) <;> omega))))⟩
end Go.Proofs.YtddepmelnemniaaGreatDoor
