/-
  ProvenanceAcyclic: of links that were added one by one, the sources of each output are its own files and those of its artifacts; its chain ends with its own link and holds each link once, behind those of its inputs. No condition.
-/
import Derived.Test.YtjkijknjngiieaaGreatDoorPrx13
import Derived.Test.YtjkijknjngiieaaGreatDoorBase1
import Derived.Test.YtjkijknjngiieaaGreatDoorLayTab





namespace Go.Proofs.YtjkijknjngiieaaGreatDoor.provenanceAcyclic
open Go.ChangeShapes Go.WideShapes Go.ChangeAt Go.RowKit Go.Joins
theorem own : ownKnob Tryz.prog.godebug = none := by kernel_rfl
theorem laidOut : laidOutB Tryz.prog = true := by kernel_rfl
open Go.RowKit

set_option maxRecDepth 100000 in
set_option maxHeartbeats 16000000 in
theorem walk (A : Option Addr) (c : Nat) (l : List Lkr) (w : World) (hr : RwL w w.heap.size A l) (hlc : l.length ≤ c) (hcm : c ≤ maxLen) (hG : Glob w) :
    Calls Tryz.prog 6 #[.slice A l.length c] w fun e w' => e = .returned (.bool true) ∧ Below w.heap.size w w' := by
  have hfe0 : ∀ W, Below w.heap.size w W → Calls Tryz.prog 8 #[.slice A l.length c] W fun e w' => e = .returned (.bool (fewB l)) ∧ Below W.heap.size W w' := fun W hb => few_any A c l W ((hr.below hb (Nat.le_refl _)).more hb.size) hlc hcm
  rcases hs : fewB l with _ | _
  · rw [hs] at hfe0
    have hfe := Lib.hid hfe0
    clear hfe0 hr
    replace hG := Lib.hid hG
    replace hs := Lib.hid hs
    go_enter Tryz.func6, Tryz.ntmps6
    go_wp2_with (first | (go_at_call 8; go_must (refine (hfe.out _ (by repeat (first | (with_reducible exact Below.refl _ _) | (with_reducible refine Below.drew ?_) | (with_reducible refine below_drewN ?_ _) | ((with_reducible refine Below.alloc ?_ ?_ _); rotate_left; focus ((try simp) <;> omega)) | ((with_reducible refine Below.setCell ?_ ?_ _); rotate_left; focus ((try simp) <;> omega)) | ((with_reducible refine Below.trans ?_ (Below.mono (by assumption) ?_)); rotate_left; focus ((try simp) <;> omega))))).mono ?_; rintro e w1 ⟨rfl, hb1⟩; have hz1 := hb1.size; (try simp at hz1))) | (go_at_call 10; go_must (refine (awake_any _ (hG.out.keep (by repeat (first | (with_reducible exact Below.refl _ _) | (with_reducible refine Below.drew ?_) | (with_reducible refine below_drewN ?_ _) | ((with_reducible refine Below.alloc ?_ ?_ _); rotate_left; focus ((try simp) <;> omega)) | ((with_reducible refine Below.setCell ?_ ?_ _); rotate_left; focus ((try simp) <;> omega)) | ((with_reducible refine Below.trans ?_ (Below.mono (by assumption) ?_)); rotate_left; focus ((try simp) <;> omega)))))).mono ?_; rintro e w9 ⟨rfl, hb9⟩; have hz9 := hb9.size)))
    go_ret
    exact ⟨rfl, (by repeat (first | (with_reducible exact Below.refl _ _) | (with_reducible refine Below.drew ?_) | (with_reducible refine below_drewN ?_ _) | ((with_reducible refine Below.alloc ?_ ?_ _); rotate_left; focus ((try simp) <;> omega)) | ((with_reducible refine Below.setCell ?_ ?_ _); rotate_left; focus ((try simp) <;> omega)) | ((with_reducible refine Below.trans ?_ (Below.mono (by assumption) ?_)); rotate_left; focus ((try simp) <;> omega))))⟩
  rw [hs] at hfe0
  have hfe := Lib.hid hfe0
  clear hfe0
  obtain ⟨hm, h14⟩ := few_mildL hs
  have had : Hid (∀ W A1 c1 cur x, Below w.heap.size w W → x ∈ l → RwL W W.heap.size A1 cur → cur.length ≤ 14 → (∀ y ∈ cur, MildK y) → Calls Tryz.prog 11 #[.slice A1 cur.length c1, .agg #[.string x.run.1, .string x.job.1, .int .i64 x.attempt.1, .int .u64 x.spec.1, .slice x.insA x.ins.length x.insC, .string x.name.1, .int .u64 x.digest.1, .int .i64 x.size.1]] W fun e w' => ∃ A' c' l', e = .returned (.tuple #[.slice A' l'.length c', .int .i64 (lnkErr (cur.map Lkr.h) x.h)]) ∧ RwL w' w'.heap.size A' l' ∧ l'.map Lkr.h = lnkAdd (cur.map Lkr.h) x.h ∧ l'.length ≤ c' ∧ Below W.heap.size W w') := Lib.hid fun W A1 c1 cur x hb hx hrc hlen hmc => by
    have h := add_any A1 c1 cur x W hrc (((hr.labs x hx).below hb (Nat.le_refl _)).more hb.size) ⟨by omega, hmc⟩ (hm.each x hx) (hG.keep hb)
    exact h.mono fun e w' ⟨A', c', l', h1, h2, h3, h4⟩ => ⟨A', c', l', h1, h2.reads, h3, ownl_len h2, h4⟩
  have hrow := Lib.hid hr.row
  have hmil := Lib.hid hm.each
  clear hr hm
  replace hG := Lib.hid hG
  replace hs := Lib.hid hs
  go_enter Tryz.func6, Tryz.ntmps6
  go_wp2_with (go_at_call 8; go_must (refine (hfe.out _ (by repeat (first | (with_reducible exact Below.refl _ _) | (with_reducible refine Below.drew ?_) | (with_reducible refine below_drewN ?_ _) | ((with_reducible refine Below.alloc ?_ ?_ _); rotate_left; focus ((try simp) <;> omega)) | ((with_reducible refine Below.setCell ?_ ?_ _); rotate_left; focus ((try simp) <;> omega)) | ((with_reducible refine Below.trans ?_ (Below.mono (by assumption) ?_)); rotate_left; focus ((try simp) <;> omega))))).mono ?_; rintro e w1 ⟨rfl, hb1⟩; have hz1 := hb1.size; (try simp at hz1)))
  have hb01 : Hid (Below w.heap.size w w1) := Lib.hid (by repeat (first | (with_reducible exact Below.refl _ _) | (with_reducible refine Below.drew ?_) | (with_reducible refine below_drewN ?_ _) | ((with_reducible refine Below.alloc ?_ ?_ _); rotate_left; focus ((try simp) <;> omega)) | ((with_reducible refine Below.setCell ?_ ?_ _); rotate_left; focus ((try simp) <;> omega)) | ((with_reducible refine Below.trans ?_ (Below.mono (by assumption) ?_)); rotate_left; focus ((try simp) <;> omega))))
  clear hfe
  go_loopw [3, 4] (fun va vi wr => ∃ (k : Nat) (A1 : Option Addr) (c1 : Nat) (cur : List Lkr), k ≤ l.length ∧ vi = .int .i64 (k : Int) ∧ va = .slice A1 cur.length c1 ∧ RwL wr wr.heap.size A1 cur ∧ Blt (cur.map Lkr.h) ∧ (∀ y ∈ cur, MildK y) ∧ cur.length ≤ k ∧ cur.length ≤ c1 ∧ Below w.heap.size w wr) (fun _ vi _ => l.length - (intOf vi).toNat)
  case atStart => exact ⟨0, none, 0, [], Nat.zero_le _, rfl, rfl, RwL.nil, blt_nil, fun _ h => absurd h List.not_mem_nil, Nat.le_refl _, Nat.le_refl _, hb01.out⟩
  case round =>
    clear hb1 hz1
    obtain ⟨k, A1, c1, cur, hk, rfl, rfl, hrc, hbl, hmc, hcl, hcc, hbw⟩ := hrel
    have hz := hbw.size
    by_cases hkl : k < l.length
    · obtain ⟨x, hx⟩ := get_some hkl
      obtain ⟨g, o, rfl, hg, hq⟩ := hrow.out (by omega)
      have q0 := (hbw.cell (p := ⟨g, o + k * 8 + 0, none⟩) hg).trans (hq k x hx 0 (.string x.run.1) rfl)
      rw [Nat.add_zero] at q0
      have q1 := (hbw.cell (p := ⟨g, o + k * 8 + 1, none⟩) hg).trans (hq k x hx 1 (.string x.job.1) rfl)
      have q2 := (hbw.cell (p := ⟨g, o + k * 8 + 2, none⟩) hg).trans (hq k x hx 2 (.int .i64 x.attempt.1) rfl)
      have q3 := (hbw.cell (p := ⟨g, o + k * 8 + 3, none⟩) hg).trans (hq k x hx 3 (.int .u64 x.spec.1) rfl)
      have q4 := (hbw.cell (p := ⟨g, o + k * 8 + 4, none⟩) hg).trans (hq k x hx 4 (.slice x.insA x.ins.length x.insC) rfl)
      have q5 := (hbw.cell (p := ⟨g, o + k * 8 + 5, none⟩) hg).trans (hq k x hx 5 (.string x.name.1) rfl)
      have q6 := (hbw.cell (p := ⟨g, o + k * 8 + 6, none⟩) hg).trans (hq k x hx 6 (.int .u64 x.digest.1) rfl)
      have q7 := (hbw.cell (p := ⟨g, o + k * 8 + 7, none⟩) hg).trans (hq k x hx 7 (.int .i64 x.size.1) rfl)
      clear hq
      have hxm := List.mem_of_getElem? hx
      have hax0 := fun W (hb : Below wr.heap.size wr W) => had.out W A1 c1 cur x (hbw.trans (hb.mono hz)) hxm ((hrc.below hb (Nat.le_refl _)).more hb.size) (by omega) hmc
      obtain ⟨E, hE⟩ : ∃ E, lnkErr (cur.map Lkr.h) x.h = E := ⟨_, rfl⟩
      rw [hE] at hax0
      have hax := Lib.hid hax0
      have hxk := Lib.hid (hmil.out x hxm)
      have i0 : (0 : Int) ≤ (k : Int) := by omega
      have i1 : (k : Int) < (l.length : Int) := by omega
      clear hax0 hxm
      replace hx := Lib.hid hx
      replace hrc := Lib.hid hrc
      replace hbl := Lib.hid hbl
      replace hmc := Lib.hid hmc
      replace hE := Lib.hid hE
      by_cases hE0 : E = 0
      · have hEb : (E == 0) = true := by rw [hE0]; rfl
        replace hE0 := Lib.hid hE0
        go_wp2_with (go_at_call 11; go_must (refine (hax.out _ (by repeat (first | (with_reducible exact Below.refl _ _) | (with_reducible refine Below.drew ?_) | (with_reducible refine below_drewN ?_ _) | ((with_reducible refine Below.alloc ?_ ?_ _); rotate_left; focus ((try simp) <;> omega)) | ((with_reducible refine Below.setCell ?_ ?_ _); rotate_left; focus ((try simp) <;> omega)) | ((with_reducible refine Below.trans ?_ (Below.mono (by assumption) ?_)); rotate_left; focus ((try simp) <;> omega))))).mono ?_; rintro e w3 ⟨A3, c3, l3, rfl, hr3, hm3, hlc3, hb3⟩; have hz3 := hb3.size; (try simp at hz3); replace hr3 := Lib.hid hr3; replace hm3 := Lib.hid hm3))
        go_roundw
        case rel =>
          have h1 := add_len hm3.out
          exact ⟨k + 1, A3, c3, l3, hkl, by go_num, rfl, hr3.out, add_blt hm3.out hbl.out, add_mild hm3.out hmc.out hxk.out, by omega, hlc3, hbw.trans (Below.mono (B := wr.heap.size) (show Below wr.heap.size wr w3 from (by repeat (first | (with_reducible exact Below.refl _ _) | (with_reducible refine Below.drew ?_) | (with_reducible refine below_drewN ?_ _) | ((with_reducible refine Below.alloc ?_ ?_ _); rotate_left; focus ((try simp) <;> omega)) | ((with_reducible refine Below.setCell ?_ ?_ _); rotate_left; focus ((try simp) <;> omega)) | ((with_reducible refine Below.trans ?_ (Below.mono (by assumption) ?_)); rotate_left; focus ((try simp) <;> omega))))) hz)⟩
        case measure => simp [intOf]; omega
      · have hEb : (E == 0) = false := by rw [beq_eq_false_iff_ne]; exact hE0
        replace hE0 := Lib.hid hE0
        go_wp2_with (go_at_call 11; go_must (refine (hax.out _ (by repeat (first | (with_reducible exact Below.refl _ _) | (with_reducible refine Below.drew ?_) | (with_reducible refine below_drewN ?_ _) | ((with_reducible refine Below.alloc ?_ ?_ _); rotate_left; focus ((try simp) <;> omega)) | ((with_reducible refine Below.setCell ?_ ?_ _); rotate_left; focus ((try simp) <;> omega)) | ((with_reducible refine Below.trans ?_ (Below.mono (by assumption) ?_)); rotate_left; focus ((try simp) <;> omega))))).mono ?_; rintro e w3 ⟨A3, c3, l3, rfl, hr3, hm3, hlc3, hb3⟩; have hz3 := hb3.size; (try simp at hz3); replace hr3 := Lib.hid hr3; replace hm3 := Lib.hid hm3))
        go_roundw
        case rel =>
          have hbb : Below wr.heap.size wr w3 := (by repeat (first | (with_reducible exact Below.refl _ _) | (with_reducible refine Below.drew ?_) | (with_reducible refine below_drewN ?_ _) | ((with_reducible refine Below.alloc ?_ ?_ _); rotate_left; focus ((try simp) <;> omega)) | ((with_reducible refine Below.setCell ?_ ?_ _); rotate_left; focus ((try simp) <;> omega)) | ((with_reducible refine Below.trans ?_ (Below.mono (by assumption) ?_)); rotate_left; focus ((try simp) <;> omega))))
          exact ⟨k + 1, A1, c1, cur, hkl, by go_num, rfl, (hrc.out.below hbb (Nat.le_refl _)).more hbb.size, hbl.out, hmc.out, by omega, hcc, hbw.trans (hbb.mono hz)⟩
        case measure => simp [intOf]; omega
    · have i1 : ¬ (k : Int) < (l.length : Int) := by omega
      have h14c : cur.length ≤ 14 := by omega
      have hmild : MildL cur := ⟨by omega, hmc⟩
      have hve0 := verify_any A1 c1 cur wr hrc hmild hcc (hG.out.keep hbw)
      rw [blt_ver hbl] at hve0
      have hve := Lib.hid hve0
      have hcml : Hid (MildL cur) := Lib.hid hmild
      clear hve0 hmild had hmc
      replace hrc := Lib.hid hrc
      replace hbl := Lib.hid hbl
      go_wp2_with (go_at_call 21; go_must (refine hve.out.mono ?_; rintro e w2 ⟨rfl, hb2⟩; have hz2 := hb2.size; (try simp at hz2)))
      have hB2 : Hid (Below wr.heap.size wr w2) := Lib.hid (by repeat (first | (with_reducible exact Below.refl _ _) | (with_reducible refine Below.drew ?_) | (with_reducible refine below_drewN ?_ _) | ((with_reducible refine Below.alloc ?_ ?_ _); rotate_left; focus ((try simp) <;> omega)) | ((with_reducible refine Below.setCell ?_ ?_ _); rotate_left; focus ((try simp) <;> omega)) | ((with_reducible refine Below.trans ?_ (Below.mono (by assumption) ?_)); rotate_left; focus ((try simp) <;> omega))))
      have hB02 : Hid (Below w.heap.size w w2) := Lib.hid (hbw.trans (hB2.out.mono hz))
      have hr2 : Hid (RwL w2 w2.heap.size A1 cur) := Lib.hid ((hrc.out.below hB2.out (Nat.le_refl _)).more hB2.out.size)
      clear hb2 hve hz2 hrc hz i1
      replace hbw := Lib.hid hbw
      go_loopw [7] (fun vi wr => ∃ k : Nat, k ≤ cur.length ∧ vi = .int .i64 (k : Int) ∧ Below w2.heap.size w2 wr) (fun vi _ => cur.length - (intOf vi).toNat)
      case atStart => exact ⟨0, Nat.zero_le _, rfl, Below.refl _ _⟩
      case round =>
        clear hcl hk
        rename_i k0
        clear hbw
        obtain ⟨k, hk, rfl, hbw⟩ := hrel
        have hz := hbw.size
        by_cases hkl : k < cur.length
        · obtain ⟨x, hx⟩ := get_some hkl
          have hxh : (cur.map Lkr.h)[k]? = some x.h := by rw [List.getElem?_map, hx]; rfl
          have hrw2 := hr2.out.row
          obtain ⟨g, o, rfl, hg, hq0⟩ := hrw2 (by omega)
          have hq := Lib.hid hq0
          clear hq0 hrw2
          have q0 := (hbw.cell (p := ⟨g, o + k * 8 + 0, none⟩) hg).trans (hq.out k x hx 0 (.string x.run.1) rfl)
          rw [Nat.add_zero] at q0
          have q1 := (hbw.cell (p := ⟨g, o + k * 8 + 1, none⟩) hg).trans (hq.out k x hx 1 (.string x.job.1) rfl)
          have q2 := (hbw.cell (p := ⟨g, o + k * 8 + 2, none⟩) hg).trans (hq.out k x hx 2 (.int .i64 x.attempt.1) rfl)
          have q3 := (hbw.cell (p := ⟨g, o + k * 8 + 3, none⟩) hg).trans (hq.out k x hx 3 (.int .u64 x.spec.1) rfl)
          have q4 := (hbw.cell (p := ⟨g, o + k * 8 + 4, none⟩) hg).trans (hq.out k x hx 4 (.slice x.insA x.ins.length x.insC) rfl)
          have q5 := (hbw.cell (p := ⟨g, o + k * 8 + 5, none⟩) hg).trans (hq.out k x hx 5 (.string x.name.1) rfl)
          have q6 := (hbw.cell (p := ⟨g, o + k * 8 + 6, none⟩) hg).trans (hq.out k x hx 6 (.int .u64 x.digest.1) rfl)
          have q7 := (hbw.cell (p := ⟨g, o + k * 8 + 7, none⟩) hg).trans (hq.out k x hx 7 (.int .i64 x.size.1) rfl)
          have hgr : g < wr.heap.size := by omega
          have i0 : (0 : Int) ≤ (k : Int) := by omega
          have i1 : (k : Int) < (cur.length : Int) := by omega
          have hxm := List.mem_of_getElem? hx
          have hxk := Lib.hid (hcml.out.each x hxm)
          have hxl := hxk.out.len
          have hxlb := Lib.hid (hr2.out.labs x hxm)
          have hln0 := fun W => rname_any35 x W hxk.out.nm
          have hF1 := Lib.hid (fun (y : OutR) (hy : y ∈ x.ins) (p : Str) (hp : fileS y.name = some p) => acy_file hbl.out hxh hy hp)
          have hF2 := Lib.hid (fun (y : OutR) (hy : y ∈ x.ins) (hp : fileS y.name = none) (f : Str) (hf : f ∈ srt (srcL (cur.map Lkr.h) x.h.run y.name)) => acy_more hbl.out hxh hy hp hf)
          have hF3 := Lib.hid (fun (f : Str) (hf : f ∈ srt (srcL (cur.map Lkr.h) x.h.run (nameL x.h))) => acy_from hbl.out hxh hf)
          have hF4 := Lib.hid (acy_each hbl.out hxh)
          obtain ⟨N, hN0, hNl0⟩ := acy_last hbl.out hxh
          have hN := Lib.hid hN0
          have hNl := Lib.hid hNl0
          have hsrc : Hid (∀ (nm : Str) W, Below w2.heap.size w2 W → Calls Tryz.prog 16 #[.slice (some ⟨g, o, none⟩) cur.length c1, .string x.run.1, .string nm.1] W fun e w' => ∃ A' c', e = .returned (.slice A' (srt (srcL (cur.map Lkr.h) x.h.run nm)).length c') ∧ Rw sE 1 w' w'.heap.size A' (srt (srcL (cur.map Lkr.h) x.h.run nm)) ∧ Below W.heap.size W w') := Lib.hid fun nm W hb => sources_any (some ⟨g, o, none⟩) c1 cur x.run nm W ((hr2.out.below hb (Nat.le_refl _)).more hb.size) hcml.out (hG.out.keep (hB02.out.trans (hb.mono hB02.out.size)))
          have hch : Hid (∀ W, Below w2.heap.size w2 W → Calls Tryz.prog 19 #[.slice (some ⟨g, o, none⟩) cur.length c1, .string x.run.1, .string (nameL x.h).1] W fun e w' => ∃ A' c' l', e = .returned (.slice A' (N + 1) c') ∧ RwL w' w'.heap.size A' l' ∧ l'.map Lkr.h = chainL (cur.map Lkr.h) x.h.run (nameL x.h) ∧ Below W.heap.size W w') := Lib.hid fun W hb => by
            have h := chain_any (some ⟨g, o, none⟩) c1 cur x.run (nameL x.h) W ((hr2.out.below hb (Nat.le_refl _)).more hb.size) hcml.out (hG.out.keep (hB02.out.trans (hb.mono hB02.out.size)))
            refine h.mono fun e w' ⟨A', c', l', h1, h2, h3, h4⟩ => ⟨A', c', l', ?_, h2.reads, h3, h4⟩
            have h5 := congrArg List.length h3
            rw [List.length_map] at h5
            rw [h1, h5]
            show Ending.returned (.slice A' (chainL (cur.map Lkr.h) x.h.run (nameL x.h)).length c') = _
            rw [hN.out]
          have hcd : Hid (∀ W (L7 : List Lkr) (A7 : Option Addr) (c7 : Nat), Below w2.heap.size w2 W → RwL W W.heap.size A7 L7 → L7.map Lkr.h = chainL (cur.map Lkr.h) x.h.run (nameL x.h) → Calls Tryz.prog 27 #[.slice A7 (N + 1) c7, .agg #[.string x.run.1, .string x.job.1, .int .i64 x.attempt.1, .int .u64 x.spec.1, .slice x.insA x.ins.length x.insC, .string x.name.1, .int .u64 x.digest.1, .int .i64 x.size.1]] W fun e w' => e = .returned (.bool true) ∧ Below W.heap.size W w') := Lib.hid fun W L7 A7 c7 hb h1 h2 => by
            have h5 := congrArg List.length h2
            rw [List.length_map, hN.out] at h5
            refine chained_any A7 c7 N L7 x W h1 (chain_mild hcml.out h2) ((hxlb.out.below hb (Nat.le_refl _)).more hb.size) h5 (fun z hz => ?_) (by rw [h2]; exact hF4.out)
            have h6 := hNl.out
            rw [← h2, List.getElem?_map, hz] at h6
            simpa using h6
          have hfr : Hid (∀ (f : Str) W, f ∈ srt (srcL (cur.map Lkr.h) x.h.run (nameL x.h)) → Below w2.heap.size w2 W → Calls Tryz.prog 26 #[.slice (some ⟨g, o, none⟩) cur.length c1, .agg #[.string x.run.1, .string x.job.1, .int .i64 x.attempt.1, .int .u64 x.spec.1, .slice x.insA x.ins.length x.insC, .string x.name.1, .int .u64 x.digest.1, .int .i64 x.size.1], .string f.1] W fun e w' => e = .returned (.bool true) ∧ Below W.heap.size W w') := Lib.hid fun f W hf hb => from_any (some ⟨g, o, none⟩) c1 cur x f W ((hr2.out.below hb (Nat.le_refl _)).more hb.size) hcml.out ((hxlb.out.below hb (Nat.le_refl _)).more hb.size) hxk.out (hG.out.keep (hB02.out.trans (hb.mono hB02.out.size))) (by omega) (hF3.out f hf)
          have hsl : Hid (∀ nm, (srt (srcL (cur.map Lkr.h) x.h.run nm)).length ≤ 14000000) := Lib.hid fun nm => by
            have := src_len (run := x.h.run) (nm := nm) hcml.out
            omega
          have hso1 := Lib.hid (hsrc.out (nameL x.h))
          have hsl1 := hsl.out (nameL x.h)
          obtain ⟨NM, hNM⟩ : ∃ NM, nameL x.h = NM := ⟨_, rfl⟩
          obtain ⟨CH, hCH⟩ : ∃ CH, chainL (cur.map Lkr.h) x.h.run (nameL x.h) = CH := ⟨_, rfl⟩
          obtain ⟨S, hS⟩ : ∃ S, srt (srcL (cur.map Lkr.h) x.h.run (nameL x.h)) = S := ⟨_, rfl⟩
          rw [hCH] at hch hcd
          rw [hS] at hso1 hsl1 hF1 hF2 hfr
          rw [hNM] at hch hso1 hln0
          have hln := Lib.hid hln0
          clear hln0 hN0 hNl0 hF3 hF4
          replace hN := Lib.hid trivial
          replace hNl := Lib.hid trivial
          replace hNM := Lib.hid hNM
          replace hCH := Lib.hid hCH
          replace hS := Lib.hid hS
          replace hxh := Lib.hid hxh
          replace hx := Lib.hid hx
          go_upto_region 15 with fail
          go_cut [8, 9] (fun s8 s9 wx => s8 = .string x.run.1 ∧ s9 = .string NM.1 ∧ Below wr.heap.size wr wx)
          case first =>
            go_region_held3 (fun w' => w'.cell? ⟨g, o + k * 8, none⟩ = some (.string x.run.1) ∧ w'.cell? ⟨g, o + k * 8 + 1, none⟩ = some (.string x.job.1) ∧ w'.cell? ⟨g, o + k * 8 + 2, none⟩ = some (.int .i64 x.attempt.1) ∧ w'.cell? ⟨g, o + k * 8 + 3, none⟩ = some (.int .u64 x.spec.1) ∧ w'.cell? ⟨g, o + k * 8 + 4, none⟩ = some (.slice x.insA x.ins.length x.insC) ∧ w'.cell? ⟨g, o + k * 8 + 5, none⟩ = some (.string x.name.1) ∧ w'.cell? ⟨g, o + k * 8 + 6, none⟩ = some (.int .u64 x.digest.1) ∧ w'.cell? ⟨g, o + k * 8 + 7, none⟩ = some (.int .i64 x.size.1)) (first | (go_keep; done) | (go_simp; done) | go_keep)
              (first
              | (go_at_call 23; go_must (refine (hln.out _).mono ?_; rintro e w6 ⟨rfl, hb6⟩; have hz6 := hb6.size; (try simp at hz6); obtain ⟨e6, f6⟩ := blk_at hb6 g (by (try simp) <;> omega)))
              | fail "none")
            all_goals (go_wp2_with fail; go_meet)
            all_goals exact ⟨rfl, rfl, (by repeat (first | (with_reducible exact Below.refl _ _) | (with_reducible refine Below.drew ?_) | (with_reducible refine below_drewN ?_ _) | ((with_reducible refine Below.alloc ?_ ?_ _); rotate_left; focus ((try simp) <;> omega)) | ((with_reducible refine Below.setCell ?_ ?_ _); rotate_left; focus ((try simp) <;> omega)) | ((with_reducible refine Below.trans ?_ (Below.mono (by assumption) ?_)); rotate_left; focus ((try simp) <;> omega))))⟩
          case rest =>
            obtain ⟨rfl, rfl, hbx⟩ := hcut
            have hzx := hbx.size
            have hb2c : Hid (Below w2.heap.size w2 wc) := Lib.hid (hbw.trans (hbx.mono hz))
            clear q0 q1 q2 q3 q4 q5 q6 q7
            replace hbw := Lib.hid hbw
            go_wp2_with (go_at_call 16; go_must (refine (hso1.out _ hb2c.out).mono ?_; rintro e w4 ⟨A4, c4, rfl, hr4, hb4⟩; have hz4 := hb4.size; replace hr4 := Lib.hid hr4))
            have hb24 : Hid (Below w2.heap.size w2 w4) := Lib.hid (hb2c.out.trans (hb4.mono (by omega)))
            have hz24 : w2.heap.size ≤ w4.heap.size := by omega
            have hhas : Hid (∀ (s : Str) W, hasS S s = true → Below w4.heap.size w4 W → Calls Tryz.prog 25 #[.slice A4 S.length c4, .string s.1] W fun e w' => e = .returned (.bool true) ∧ W = w') := Lib.hid fun s W h hb => by
              have h1 := lhas_any A4 c4 S s W ((hr4.out.below hb (Nat.le_refl _)).more hb.size) (by omega)
              rwa [h] at h1
            clear hb4 hbx hz4 hzx hso1
            go_loopw [12] (fun vi wr => ∃ p : Nat, p ≤ x.ins.length ∧ vi = .int .i64 (p : Int) ∧ Below w4.heap.size w4 wr) (fun vi _ => x.ins.length - (intOf vi).toNat)
            case atStart => exact ⟨0, Nat.zero_le _, rfl, Below.refl _ _⟩
            case round =>
              clear hgr hz hbw
              obtain ⟨p, hp, rfl, hbw⟩ := hrel
              have hz := hbw.size
              have hb2r : Hid (Below w2.heap.size w2 wr) := Lib.hid (hb24.out.trans (hbw.mono hz24))
              have hgr : g < wr.heap.size := by omega
              have q4 := (hb2r.out.cell (p := ⟨g, o + k * 8 + 4, none⟩) hg).trans (hq.out k x hx.out 4 (.slice x.insA x.ins.length x.insC) rfl)
              by_cases hpl : p < x.ins.length
              · obtain ⟨y, hy⟩ := get_some hpl
                obtain ⟨gi, oi, e0, hgi, hqi⟩ := hxlb.out.2.2 (by omega)
                rw [e0] at q4
                have r0 := (hb2r.out.cell (p := ⟨gi, oi + p * 3 + 0, none⟩) hgi).trans (hqi p y hy 0 (.string y.name.1) rfl)
                rw [Nat.add_zero] at r0
                clear hqi e0
                have hgir : gi < wr.heap.size := by omega
                have p0' : (0 : Int) ≤ (p : Int) := by omega
                have p1' : (p : Int) < (x.ins.length : Int) := by omega
                have hym := List.mem_of_getElem? hy
                have hfi0 := fun W => rfile_any y.name W (hxk.out.ins y hym)
                replace hy := Lib.hid hy
                rcases hfs : fileS y.name with _ | q
                · rw [hfs] at hfi0
                  have hfi := Lib.hid hfi0
                  clear hfi0
                  have hsoy := Lib.hid (hsrc.out y.name)
                  have hsly := hsl.out y.name
                  have hF2y := hF2.out y hym hfs
                  generalize srt (srcL (cur.map Lkr.h) x.h.run y.name) = M at hsoy hsly hF2y
                  replace hF2y := Lib.hid hF2y
                  replace hfs := Lib.hid hfs
                  clear hym
                  go_wp2_with (first
                    | (go_at_call 24; go_must (refine (hfi.out _).mono ?_; rintro e w5 ⟨rfl, hb5⟩; have hz5 := hb5.size; obtain ⟨e5, f5⟩ := blk_at hb5 g hgr; obtain ⟨d5, g5⟩ := blk_at hb5 gi hgir))
                    | (go_at_call 16; go_must (refine (hsoy.out _ (hb2r.out.trans (hb5.mono (by omega)))).mono ?_; rintro e w6 ⟨A6, c6, rfl, hr6, hb6⟩; have hz6 := hb6.size; replace hr6 := Lib.hid hr6)))
                  have hb46 : Hid (Below w4.heap.size w4 w6) := Lib.hid (hbw.trans (Below.mono (B := wr.heap.size) (show Below wr.heap.size wr w6 from (by repeat (first | (with_reducible exact Below.refl _ _) | (with_reducible refine Below.drew ?_) | (with_reducible refine below_drewN ?_ _) | ((with_reducible refine Below.alloc ?_ ?_ _); rotate_left; focus ((try simp) <;> omega)) | ((with_reducible refine Below.setCell ?_ ?_ _); rotate_left; focus ((try simp) <;> omega)) | ((with_reducible refine Below.trans ?_ (Below.mono (by assumption) ?_)); rotate_left; focus ((try simp) <;> omega))))) hz))
                  clear e5 f5 d5 g5 hb5 hb6 q4 r0
                  replace hbw := Lib.hid hbw
                  go_loopw [16] (fun vi wr => ∃ t : Nat, t ≤ M.length ∧ vi = .int .i64 (t : Int) ∧ Below w6.heap.size w6 wr) (fun vi _ => M.length - (intOf vi).toNat)
                  case atStart => exact ⟨0, Nat.zero_le _, rfl, Below.refl _ _⟩
                  case round =>
                    obtain ⟨t, ht, rfl, hbt⟩ := hrel
                    have hzt := hbt.size
                    have hb4t : Hid (Below w4.heap.size w4 wr) := Lib.hid (hb46.out.trans (hbt.mono (by omega)))
                    by_cases htl : t < M.length
                    · obtain ⟨f, hf⟩ := get_some htl
                      obtain ⟨g6, o6, rfl, hg6, hq6⟩ := hr6.out (by omega)
                      have s0 := (hbt.cell (p := ⟨g6, o6 + t * 1 + 0, none⟩) hg6).trans (hq6 t f hf 0 (.string f.1) rfl)
                      rw [Nat.add_zero, Nat.mul_one] at s0
                      clear hq6
                      have t0 : (0 : Int) ≤ (t : Int) := by omega
                      have t1 : (t : Int) < (M.length : Int) := by omega
                      have hhf := Lib.hid (fun W => hhas.out f W (hF2y.out f (List.mem_of_getElem? hf)))
                      replace hf := Lib.hid hf
                      go_wp2_with (go_at_call 25; go_must (refine (hhf.out _ hb4t.out).mono ?_; rintro e w7 ⟨rfl, rfl⟩))
                      go_roundw
                      case rel => exact ⟨t + 1, by omega, by go_num, hbt⟩
                      case measure => simp [intOf]; omega
                    · have t1 : ¬ (t : Int) < (M.length : Int) := by omega
                      go_wp2_with fail
                      go_roundw
                      case rel => exact ⟨p + 1, by omega, by go_num, hb4t.out⟩
                      case measure => simp [intOf]; omega
                · rw [hfs] at hfi0
                  have hfi := Lib.hid hfi0
                  clear hfi0
                  have hhf := Lib.hid (fun W => hhas.out q W (hF1.out y hym q hfs))
                  replace hfs := Lib.hid hfs
                  clear hym
                  go_wp2_with (first
                    | (go_at_call 24; go_must (refine (hfi.out _).mono ?_; rintro e w5 ⟨rfl, hb5⟩; have hz5 := hb5.size))
                    | (go_at_call 25; go_must (refine (hhf.out _ (hbw.trans (hb5.mono hz))).mono ?_; rintro e w7 ⟨rfl, rfl⟩)))
                  go_roundw
                  case rel => exact ⟨p + 1, by omega, by go_num, hbw.trans (Below.mono (B := wr.heap.size) (by repeat (first | (with_reducible exact Below.refl _ _) | (with_reducible refine Below.drew ?_) | (with_reducible refine below_drewN ?_ _) | ((with_reducible refine Below.alloc ?_ ?_ _); rotate_left; focus ((try simp) <;> omega)) | ((with_reducible refine Below.setCell ?_ ?_ _); rotate_left; focus ((try simp) <;> omega)) | ((with_reducible refine Below.trans ?_ (Below.mono (by assumption) ?_)); rotate_left; focus ((try simp) <;> omega)))) hz)⟩
                  case measure => simp [intOf]; omega
              · have p1' : ¬ (p : Int) < (x.ins.length : Int) := by omega
                go_wp2_with fail
                clear q4
                go_loopw [11, 17] (fun vn vi wr => ∃ t : Nat, t ≤ S.length ∧ vi = .int .i64 (t : Int) ∧ vn = .int .i64 (t : Int) ∧ Below w4.heap.size w4 wr) (fun _ vi _ => S.length - (intOf vi).toNat)
                case atStart => exact ⟨0, Nat.zero_le _, rfl, rfl, hbw⟩
                case round =>
                  clear hbw hz hgr hb2r
                  obtain ⟨t, ht, rfl, rfl, hbw⟩ := hrel
                  have hz := hbw.size
                  have hgr : g < wr.heap.size := by omega
                  have hb2r := hb24.out.trans (hbw.mono hz24)
                  have hx := hx.out
                  have q0 := (hb2r.cell (p := ⟨g, o + k * 8 + 0, none⟩) hg).trans (hq.out k x hx 0 (.string x.run.1) rfl)
                  rw [Nat.add_zero] at q0
                  have q1 := (hb2r.cell (p := ⟨g, o + k * 8 + 1, none⟩) hg).trans (hq.out k x hx 1 (.string x.job.1) rfl)
                  have q2 := (hb2r.cell (p := ⟨g, o + k * 8 + 2, none⟩) hg).trans (hq.out k x hx 2 (.int .i64 x.attempt.1) rfl)
                  have q3 := (hb2r.cell (p := ⟨g, o + k * 8 + 3, none⟩) hg).trans (hq.out k x hx 3 (.int .u64 x.spec.1) rfl)
                  have q4 := (hb2r.cell (p := ⟨g, o + k * 8 + 4, none⟩) hg).trans (hq.out k x hx 4 (.slice x.insA x.ins.length x.insC) rfl)
                  have q5 := (hb2r.cell (p := ⟨g, o + k * 8 + 5, none⟩) hg).trans (hq.out k x hx 5 (.string x.name.1) rfl)
                  have q6 := (hb2r.cell (p := ⟨g, o + k * 8 + 6, none⟩) hg).trans (hq.out k x hx 6 (.int .u64 x.digest.1) rfl)
                  have q7 := (hb2r.cell (p := ⟨g, o + k * 8 + 7, none⟩) hg).trans (hq.out k x hx 7 (.int .i64 x.size.1) rfl)
                  replace hx := Lib.hid hx
                  by_cases htl : t < S.length
                  · obtain ⟨f, hf⟩ := get_some htl
                    obtain ⟨g4, o4, rfl, hg4, hq4⟩ := hr4.out (by omega)
                    have s0 := (hbw.cell (p := ⟨g4, o4 + t * 1 + 0, none⟩) hg4).trans (hq4 t f hf 0 (.string f.1) rfl)
                    rw [Nat.add_zero, Nat.mul_one] at s0
                    clear hq4
                    have hgr4 : g4 < wr.heap.size := by omega
                    have t0 : (0 : Int) ≤ (t : Int) := by omega
                    have t1 : (t : Int) < (S.length : Int) := by omega
                    have hff := Lib.hid (fun W => hfr.out f W (List.mem_of_getElem? hf))
                    replace hf := Lib.hid hf
                    go_upto_region 34 with fail
                    go_cut [133] (fun s133 wx => s133 = .bool false ∧ Below wr.heap.size wr wx)
                    case first =>
                      go_region_held3 (fun w' => (w'.cell? ⟨g, o + k * 8, none⟩ = some (.string x.run.1) ∧ w'.cell? ⟨g, o + k * 8 + 1, none⟩ = some (.string x.job.1) ∧ w'.cell? ⟨g, o + k * 8 + 2, none⟩ = some (.int .i64 x.attempt.1) ∧ w'.cell? ⟨g, o + k * 8 + 3, none⟩ = some (.int .u64 x.spec.1) ∧ w'.cell? ⟨g, o + k * 8 + 4, none⟩ = some (.slice x.insA x.ins.length x.insC) ∧ w'.cell? ⟨g, o + k * 8 + 5, none⟩ = some (.string x.name.1) ∧ w'.cell? ⟨g, o + k * 8 + 6, none⟩ = some (.int .u64 x.digest.1) ∧ w'.cell? ⟨g, o + k * 8 + 7, none⟩ = some (.int .i64 x.size.1)) ∧ w'.cell? ⟨g4, o4 + t, none⟩ = some (.string f.1)) (first | (go_keep; done) | (go_simp; done) | go_keep)
                        (first
                        | (go_at_call 26; go_must (refine (hff.out _ (hb2r.trans (Below.mono (B := wr.heap.size) (by repeat (first | (with_reducible exact Below.refl _ _) | (with_reducible refine Below.drew ?_) | (with_reducible refine below_drewN ?_ _) | ((with_reducible refine Below.alloc ?_ ?_ _); rotate_left; focus ((try simp) <;> omega)) | ((with_reducible refine Below.setCell ?_ ?_ _); rotate_left; focus ((try simp) <;> omega)) | ((with_reducible refine Below.trans ?_ (Below.mono (by assumption) ?_)); rotate_left; focus ((try simp) <;> omega)))) (by omega)))).mono ?_; rintro e w7 ⟨rfl, hb7⟩; have hz7 := hb7.size; (try simp at hz7); obtain ⟨e7, f7⟩ := blk_at hb7 g (by (try simp) <;> omega); obtain ⟨d7, g7⟩ := blk_at hb7 g4 (by (try simp) <;> omega)))
                        | fail "none")
                      all_goals (go_wp2_with fail; go_meet)
                      all_goals exact ⟨rfl, (by repeat (first | (with_reducible exact Below.refl _ _) | (with_reducible refine Below.drew ?_) | (with_reducible refine below_drewN ?_ _) | ((with_reducible refine Below.alloc ?_ ?_ _); rotate_left; focus ((try simp) <;> omega)) | ((with_reducible refine Below.setCell ?_ ?_ _); rotate_left; focus ((try simp) <;> omega)) | ((with_reducible refine Below.trans ?_ (Below.mono (by assumption) ?_)); rotate_left; focus ((try simp) <;> omega))))⟩
                    case rest =>
                      obtain ⟨rfl, hbx⟩ := hcut
                      clear q0 q1 q2 q3 q4 q5 q6 q7 s0
                      go_wp2_with fail
                      go_roundw
                      case rel => exact ⟨t + 1, by omega, by go_num, by go_num, hbw.trans (hbx.mono hz)⟩
                      case measure => simp [intOf]; omega
                  · have t1 : ¬ (t : Int) < (S.length : Int) := by omega
                    have hte : t = S.length := by omega
                    have hteb : ((t : Int) != (S.length : Int)) = false := by rw [hte]; simp
                    replace hte := Lib.hid hte
                    go_upto_region 37 with fail
                    refine wp_region_held_drew (S := fun w' => w'.cell? ⟨g, o + k * 8, none⟩ = some (.string x.run.1) ∧ w'.cell? ⟨g, o + k * 8 + 1, none⟩ = some (.string x.job.1) ∧ w'.cell? ⟨g, o + k * 8 + 2, none⟩ = some (.int .i64 x.attempt.1) ∧ w'.cell? ⟨g, o + k * 8 + 3, none⟩ = some (.int .u64 x.spec.1) ∧ w'.cell? ⟨g, o + k * 8 + 4, none⟩ = some (.slice x.insA x.ins.length x.insC) ∧ w'.cell? ⟨g, o + k * 8 + 5, none⟩ = some (.string x.name.1) ∧ w'.cell? ⟨g, o + k * 8 + 6, none⟩ = some (.int .u64 x.digest.1) ∧ w'.cell? ⟨g, o + k * 8 + 7, none⟩ = some (.int .i64 x.size.1)) (by kernel_rfl) ?_ (fun hHeld => ?_)
                    · first | (dsimp only; go_keep; done) | (go_keep; done) | (go_simp; done)
                    rw [show (Array.replicate _ false : Array Bool) = #[false, false, false, false, false, false, false, false, false, false, false, false, false, false, false, false] from rfl]
                    (refine wpAnyH_take (i := 0) (oi := Oper.mk _ _ _ _ _ _) (v := ?_) rfl (by kernel_rfl) (by kernel_rfl) (by kernel_rfl) (fun _ _ _ h => h) ?_ (by assumption) ?_; rotate_left; (focus (refine Or.inl ⟨by rfl, ?_⟩; intro wS hSw; (try dsimp only at hSw); go_simp; first | done | with_reducible rfl)); simp only [Act.put, List.setIfInBounds_toArray, List.set_cons_zero, List.set_cons_succ])
                    (refine wpAnyH_take (i := 1) (oi := Oper.mk _ _ _ _ _ _) (v := ?_) rfl (by kernel_rfl) (by kernel_rfl) (by kernel_rfl) (fun _ _ _ h => h) ?_ (by assumption) ?_; rotate_left; (focus (refine Or.inl ⟨by rfl, ?_⟩; intro wS hSw; (try dsimp only at hSw); go_simp; first | done | with_reducible rfl)); simp only [Act.put, List.setIfInBounds_toArray, List.set_cons_zero, List.set_cons_succ])
                    (refine wpAnyH_take (i := 2) (oi := Oper.mk _ _ _ _ _ _) (v := ?_) rfl (by kernel_rfl) (by kernel_rfl) (by kernel_rfl) (fun _ _ _ h => h) ?_ (by assumption) ?_; rotate_left; (focus (refine Or.inl ⟨by rfl, ?_⟩; intro wS hSw; (try dsimp only at hSw); go_simp; first | done | with_reducible rfl)); simp only [Act.put, List.setIfInBounds_toArray, List.set_cons_zero, List.set_cons_succ])
                    (refine wpAnyH_take (i := 3) (oi := Oper.mk _ _ _ _ _ _) (v := ?_) rfl (by kernel_rfl) (by kernel_rfl) (by kernel_rfl) (fun _ _ _ h => h) ?_ (by assumption) ?_; rotate_left; (focus (refine Or.inl ⟨by rfl, ?_⟩; intro wS hSw; (try dsimp only at hSw); go_simp; first | done | with_reducible rfl)); simp only [Act.put, List.setIfInBounds_toArray, List.set_cons_zero, List.set_cons_succ])
                    (refine wpAnyH_take (i := 4) (oi := Oper.mk _ _ _ _ _ _) (v := ?_) rfl (by kernel_rfl) (by kernel_rfl) (by kernel_rfl) (fun _ _ _ h => h) ?_ (by assumption) ?_; rotate_left; (focus (refine Or.inl ⟨by rfl, ?_⟩; intro wS hSw; (try dsimp only at hSw); go_simp; first | done | with_reducible rfl)); simp only [Act.put, List.setIfInBounds_toArray, List.set_cons_zero, List.set_cons_succ])
                    (refine wpAnyH_take (i := 5) (oi := Oper.mk _ _ _ _ _ _) (v := ?_) rfl (by kernel_rfl) (by kernel_rfl) (by kernel_rfl) (fun _ _ _ h => h) ?_ (by assumption) ?_; rotate_left; (focus (refine Or.inl ⟨by rfl, ?_⟩; intro wS hSw; (try dsimp only at hSw); go_simp; first | done | with_reducible rfl)); simp only [Act.put, List.setIfInBounds_toArray, List.set_cons_zero, List.set_cons_succ])
                    (refine wpAnyH_take (i := 6) (oi := Oper.mk _ _ _ _ _ _) (v := ?_) rfl (by kernel_rfl) (by kernel_rfl) (by kernel_rfl) (fun _ _ _ h => h) ?_ (by assumption) ?_; rotate_left; (focus (refine Or.inl ⟨by rfl, ?_⟩; intro wS hSw; (try dsimp only at hSw); go_simp; first | done | with_reducible rfl)); simp only [Act.put, List.setIfInBounds_toArray, List.set_cons_zero, List.set_cons_succ])
                    (refine wpAnyH_take (i := 7) (oi := Oper.mk _ _ _ _ _ _) (v := ?_) rfl (by kernel_rfl) (by kernel_rfl) (by kernel_rfl) (fun _ _ _ h => h) ?_ (by assumption) ?_; rotate_left; (focus (refine Or.inl ⟨by rfl, ?_⟩; intro wS hSw; (try dsimp only at hSw); go_simp; first | done | with_reducible rfl)); simp only [Act.put, List.setIfInBounds_toArray, List.set_cons_zero, List.set_cons_succ])
                    (refine wpAnyH_take (i := 9) (oi := Oper.mk _ _ _ _ _ _) (v := ?_) rfl (by kernel_rfl) (by kernel_rfl) (by kernel_rfl) (fun _ _ _ h => h) ?_ (by assumption) ?_; rotate_left; (focus (refine Or.inl ⟨by rfl, ?_⟩; intro wS hSw; (try dsimp only at hSw); go_simp; first | done | with_reducible rfl)); simp only [Act.put, List.setIfInBounds_toArray, List.set_cons_zero, List.set_cons_succ])
                    (refine wpAnyH_take (i := 10) (oi := Oper.mk _ _ _ _ _ _) (v := ?_) rfl (by kernel_rfl) (by kernel_rfl) (by kernel_rfl) (fun _ _ _ h => h) ?_ (by assumption) ?_; rotate_left; (focus (refine Or.inl ⟨by rfl, ?_⟩; intro wS hSw; (try dsimp only at hSw); go_simp; first | done | with_reducible rfl)); simp only [Act.put, List.setIfInBounds_toArray, List.set_cons_zero, List.set_cons_succ])
                    (refine wpAnyH_take (i := 11) (oi := Oper.mk _ _ _ _ _ _) (v := ?_) rfl (by kernel_rfl) (by kernel_rfl) (by kernel_rfl) (fun _ _ _ h => h) ?_ (by assumption) ?_; rotate_left; (focus (refine Or.inl ⟨by rfl, ?_⟩; intro wS hSw; (try dsimp only at hSw); go_simp; first | done | with_reducible rfl)); simp only [Act.put, List.setIfInBounds_toArray, List.set_cons_zero, List.set_cons_succ])
                    (refine wpAnyH_take (i := 12) (oi := Oper.mk _ _ _ _ _ _) (v := ?_) rfl (by kernel_rfl) (by kernel_rfl) (by kernel_rfl) (fun _ _ _ h => h) ?_ (by assumption) ?_; rotate_left; (focus (refine Or.inl ⟨by rfl, ?_⟩; intro wS hSw; (try dsimp only at hSw); go_simp; first | done | with_reducible rfl)); simp only [Act.put, List.setIfInBounds_toArray, List.set_cons_zero, List.set_cons_succ])
                    (refine wpAnyH_ready (rs := [8]) (by kernel_rfl) (by simp) ?_
                     refine AllReadyH.cons (o := Oper.mk _ _ _ _ _ _) rfl (fun K hK => ?_) AllReadyH.nil
                     go_simp
                     (go_at_call 19; go_must (refine (hch.out _ (hb2r.trans (Below.mono (B := wr.heap.size) (by repeat (first | (with_reducible exact Below.refl _ _) | (with_reducible refine Below.drew ?_) | (with_reducible refine below_drewN ?_ _) | ((with_reducible refine Below.alloc ?_ ?_ _); rotate_left; focus ((try simp) <;> omega)) | ((with_reducible refine Below.setCell ?_ ?_ _); rotate_left; focus ((try simp) <;> omega)) | ((with_reducible refine Below.trans ?_ (Below.mono (by assumption) ?_)); rotate_left; focus ((try simp) <;> omega)))) (by omega)))).mono ?_; rintro e w7 ⟨A7, c7, l7, rfl, hr7, hm7, hb7⟩; have hz7 := hb7.size; (try simp at hz7); replace hr7 := Lib.hid hr7; obtain ⟨e7, f7⟩ := blk_at hb7 g (by (try simp) <;> omega)))
                     refine hK.out _ _ ?_ (fun hHeld => ?_)
                     · first | (dsimp only; go_keep; done) | (go_keep; done)
                     clear hK K
                     (try simp only [Act.put, List.setIfInBounds_toArray, List.set_cons_zero, List.set_cons_succ]))
                    (refine wpAnyH_ready (rs := [13]) (by kernel_rfl) (by simp) ?_
                     refine AllReadyH.cons (o := Oper.mk _ _ _ _ _ _) rfl (fun K hK => ?_) AllReadyH.nil
                     go_simp
                     (go_at_call 27; go_must (refine (hcd.out _ l7 A7 c7 (hb2r.trans (Below.mono (B := wr.heap.size) (by repeat (first | (with_reducible exact Below.refl _ _) | (with_reducible refine Below.drew ?_) | (with_reducible refine below_drewN ?_ _) | ((with_reducible refine Below.alloc ?_ ?_ _); rotate_left; focus ((try simp) <;> omega)) | ((with_reducible refine Below.setCell ?_ ?_ _); rotate_left; focus ((try simp) <;> omega)) | ((with_reducible refine Below.trans ?_ (Below.mono (by assumption) ?_)); rotate_left; focus ((try simp) <;> omega)))) (by omega))) hr7.out hm7).mono ?_; rintro e w8 ⟨rfl, hb8⟩; have hz8 := hb8.size; (try simp at hz8); obtain ⟨e8, f8⟩ := blk_at hb8 g (by (try simp) <;> omega)))
                     refine hK.out _ _ ?_ (fun hHeld => ?_)
                     · first | (dsimp only; go_keep; done) | (go_keep; done)
                     clear hK K
                     (try simp only [Act.put, List.setIfInBounds_toArray, List.set_cons_zero, List.set_cons_succ]))
                    (refine wpAnyH_take (i := 14) (oi := Oper.mk _ _ _ _ _ _) (v := ?_) rfl (by kernel_rfl) (by kernel_rfl) (by kernel_rfl) (fun _ _ _ h => h) ?_ (by assumption) ?_; rotate_left; (focus (refine Or.inl ⟨by rfl, ?_⟩; intro wS hSw; (try dsimp only at hSw); go_simp; first | done | with_reducible rfl)); simp only [Act.put, List.setIfInBounds_toArray, List.set_cons_zero, List.set_cons_succ])
                    (refine wpAnyH_take (i := 15) (oi := Oper.mk _ _ _ _ _ _) (v := ?_) rfl (by kernel_rfl) (by kernel_rfl) (by kernel_rfl) (fun _ _ _ h => h) ?_ (by assumption) ?_; rotate_left; (focus (refine Or.inl ⟨by rfl, ?_⟩; intro wS hSw; (try dsimp only at hSw); go_simp; first | done | with_reducible rfl)); simp only [Act.put, List.setIfInBounds_toArray, List.set_cons_zero, List.set_cons_succ])
                    refine wpAnyH_done (by kernel_rfl) ?_ _
                    go_wp2_with fail
                    go_roundw
                    case rel => exact ⟨k + 1, by omega, by go_num, hb2r.trans (Below.mono (B := wr.heap.size) (show Below wr.heap.size wr w8 from (by repeat (first | (with_reducible exact Below.refl _ _) | (with_reducible refine Below.drew ?_) | (with_reducible refine below_drewN ?_ _) | ((with_reducible refine Below.alloc ?_ ?_ _); rotate_left; focus ((try simp) <;> omega)) | ((with_reducible refine Below.setCell ?_ ?_ _); rotate_left; focus ((try simp) <;> omega)) | ((with_reducible refine Below.trans ?_ (Below.mono (by assumption) ?_)); rotate_left; focus ((try simp) <;> omega))))) (by omega))⟩
                    case measure => simp [intOf]; omega
        · have i1 : ¬ (k : Int) < (cur.length : Int) := by omega
          have hb0r : Below w.heap.size w wr := hB02.out.trans (hbw.mono hB02.out.size)
          have hz0r := hb0r.size
          replace hbw := Lib.hid hbw
          go_wp2_with (go_at_call 10; go_must (refine (awake_any _ (hG.out.keep (by repeat (first | (with_reducible exact Below.refl _ _) | (with_reducible refine Below.drew ?_) | (with_reducible refine below_drewN ?_ _) | ((with_reducible refine Below.alloc ?_ ?_ _); rotate_left; focus ((try simp) <;> omega)) | ((with_reducible refine Below.setCell ?_ ?_ _); rotate_left; focus ((try simp) <;> omega)) | ((with_reducible refine Below.trans ?_ (Below.mono (by assumption) ?_)); rotate_left; focus ((try simp) <;> omega)))))).mono ?_; rintro e w9 ⟨rfl, hb9⟩; have hz9 := hb9.size))
          go_ret
          exact ⟨rfl, (by repeat (first | (with_reducible exact Below.refl _ _) | (with_reducible refine Below.drew ?_) | (with_reducible refine below_drewN ?_ _) | ((with_reducible refine Below.alloc ?_ ?_ _); rotate_left; focus ((try simp) <;> omega)) | ((with_reducible refine Below.setCell ?_ ?_ _); rotate_left; focus ((try simp) <;> omega)) | ((with_reducible refine Below.trans ?_ (Below.mono (by assumption) ?_)); rotate_left; focus ((try simp) <;> omega))))⟩

/-- A world for the witness: the settled one, the listed tables holding what their initialisers lay. -/
noncomputable def laidWorld (os : Os) : World :=
  { World.holding Tryz.prog os ⟨#[], #[], []⟩ with heap := layAll Tryz.prog Rows.provenanceAcyclicRow.laid (World.holding Tryz.prog os ⟨#[], #[], []⟩).heap }
theorem laid_met (os : Os) : laidMet Tryz.prog Rows.provenanceAcyclicRow.laid ((laidWorld os).forCall (fun _ _ => 0) ⟨#[], #[.slice none 0 0], []⟩).memory :=
  laidMet_of_run' 8 (by kernel_rfl) (by kernel_rfl)
theorem reads (os : Os) {H : Type} (enc : TypeId × Value → H) : ∃ places, DataW.whole enc Tryz.prog ((laidWorld os).forCall (fun _ _ => 0) ⟨#[], #[.slice none 0 0], []⟩).memory Tryz.f6.params.toList Rows.provenanceAcyclicSpec.vars false (#[.slice none 0 0] : Array Value).toList 8 = some ([.nil], [], places) :=
  ⟨[], by kernel_rfl⟩

set_option maxRecDepth 100000 in
theorem contract (H : Type) (enc : TypeId × Value → H) (W : World) (base : Nat) (args : Array Value) (ds gs : List (DataW H)) (before : List MemPlace)
    (hval : ∀ (j : Nat) t v, Tryz.f6.params[j]? = some t → args[j]? = some v → Value.okWide Tryz.prog W .any base t v)
    (hW : DataW.Whole enc Tryz.prog Tryz.f6.params.toList Rows.provenanceAcyclicSpec.vars false W args.toList ds gs before) (hsh : W.ShapedOpen Tryz.prog) :
    Calls Tryz.prog 6 args W fun e W' => ∃ v, e = .returned v ∧ Rows.provenanceAcyclicSpec.post enc Tryz.prog Tryz.f6 false true false false W args v W' := by
  have hG : Glob W := cell_of_shapedOpen_int (P := Tryz.prog) (g := 0) (t := 3) (zero := #[.int .i64 0]) hsh (of_decide_eq_true (by kernel_rfl)) (by kernel_rfl) rfl (by kernel_rfl) (by kernel_rfl) Tryz.underlying3
  have hW' := hW
  obtain ⟨p, q, hA0, hV, rfl, hfz, hnd⟩ := hW
  have hA : DataW.TrodAll enc Tryz.prog W 0 (fun _ => true) true Tryz.f6.params.toList args.toList ds p := hA0
  have hA1 := hA
  rw [Tryz.params6] at hA hval
  obtain ⟨rfl, rfl⟩ := trodVars_none hV
  simp only [List.append_nil] at hW'
  have hcall : Calls Tryz.prog 6 args W fun e w' => e = .returned (.bool true) ∧ Below W.heap.size W w' := by
    clear hA0 hV hfz hnd
    obtain ⟨v0, vs0, d0, ds0, p0, q0, hargs, rfl, rfl, h0, r0⟩ := trodAll_cons hA
    obtain ⟨rfl, rfl, rfl⟩ := trodAll_nil r0
    obtain rfl : args = #[v0] := by cases args; simp_all
    obtain ⟨A, l, c, rfl, hlc, hcm, hrow, hlab⟩ := open_rowsq (Q := fun x : Lkr => LabLkr W W.heap.size x) lkrE_len (by omega) Tryz.underlying22 (by kernel_rfl) (fun fuel cs x h => lkrE_of fuel cs x h) (hval 0 22 v0 rfl rfl) h0
    exact walk A c l W ⟨hrow, hlab⟩ hlc hcm hG
  have hds : ds.length = 1 := (trodAll_length hA).1
  refine hcall.mono fun e W' ⟨he, hb⟩ => ?_
  subst he
  refine ⟨_, rfl, law_post hW' rfl hA1 (by kernel_rfl) laidOut Tryz.underlying4 (by kernel_rfl) ?_ hb⟩
  match ds, hds with
  | [_], _ => rfl

set_option maxRecDepth 100000 in
theorem lifted (os : Os) (started : os.Started) (H : Type) (enc : TypeId × Value → H) (F : Stop.Interp) :
    ReturnsInHanded {} Tryz.checked os 6 .any ((OpenSpec.ofChange Rows.provenanceAcyclicSpec).preRow enc Tryz.prog Tryz.f6 Rows.provenanceAcyclicRow.domain false Rows.provenanceAcyclicRow.laid) (((OpenSpec.ofChange Rows.provenanceAcyclicSpec).at F).post enc Tryz.prog Tryz.f6 false true false false) := by
  obtain ⟨places, hx⟩ := reads os enc
  refine returnsInHanded_of_row (C := Tryz.checked) (s := OpenSpec.ofChange Rows.provenanceAcyclicSpec) own started (by kernel_rfl) Tryz.func6
    (witness_row_at (enc := enc) (C := Tryz.checked) false (laidWorld os) #[.slice none 0 0] rfl (by kernel_rfl) (by kernel_rfl) (by kernel_rfl)
      (OpenSpec.preRow_of_cond 8 hx (by kernel_rfl) (fun k hk => by cases hk) (by kernel_rfl) (laid_met os))) ?_
  intro W base args ds gs before hval hW _ _ _ _ hsh _
  exact contract H enc W base args ds gs before hval hW hsh

theorem said : Rows.ProvenanceAcyclicSaid :=
  OpenClaim.holds_of_cond 6 Tryz.f6 rfl rfl rfl rfl rfl rfl rfl ⟨rfl, rfl, rfl, rfl, rfl⟩ rfl rfl rfl rfl rfl (by kernel_rfl) Tryz.func6 (by kernel_rfl)
    (of_decide_eq_true (by kernel_rfl)) (by unfold Func.isWrapper; first | (rw [if_pos (by decide +kernel)]; kernel_rfl) | (rw [if_neg (by decide +kernel)]; exact ⟨rfl, rfl⟩))
    (fun os started H enc _ F => by rw [OpenClaim.pre_eq_preRow]; exact lifted os started H enc F)

theorem plain (f : FuncId) (fn : Func) (hf : Tryz.pinned.checked.prog.funcNamed Rows.provenanceAcyclicRow.func = some f) (hfn : Tryz.pinned.checked.prog.funcs[f]? = some fn) :
    false = Tryz.pinned.checked.prog.looks [] ∧ ∀ (j : Nat) t, fn.params[j]? = some t → Tryz.pinned.checked.prog.wantsStandIn t = false := by
  obtain rfl : f = 6 := Option.some.inj ((show Tryz.prog.funcNamed Rows.provenanceAcyclicRow.func = some 6 by kernel_rfl).symm.trans hf) |>.symm
  obtain rfl : fn = Tryz.f6 := (Option.some.inj (Tryz.func6.symm.trans hfn)).symm
  refine ⟨by kernel_rfl, fun j t ht => ?_⟩
  have hall : (Tryz.f6.params.toList.all fun t => !(Tryz.pinned.checked.prog.wantsStandIn t)) = true := by kernel_rfl
  have hm : t ∈ Tryz.f6.params.toList := Array.mem_toList_iff.2 (Array.mem_of_getElem? ht)
  simpa using List.all_eq_true.1 hall t hm

theorem proved : Rows.ProvenanceAcyclicCardSaid :=
  Claim7.holds_tied_plain_at .later [] _ _ _ _ said (fun _ h => by cases h) (by kernel_rfl) (fun _ h => by cases h) provenanceAcyclic_row_tie rfl ⟨rfl, rfl⟩ (by kernel_rfl) rfl plain (by kernel_rfl)
#print axioms proved
end Go.Proofs.YtjkijknjngiieaaGreatDoor.provenanceAcyclic
