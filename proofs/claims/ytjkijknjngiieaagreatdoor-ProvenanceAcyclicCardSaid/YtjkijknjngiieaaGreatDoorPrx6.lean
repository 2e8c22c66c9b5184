/-
  The walks of provenance: chains, sources, all links checked, by the reference.
-/
import Derived.Test.YtjkijknjngiieaaGreatDoorPrx5
import Derived.Test.YtjkijknjngiieaaGreatDoorNames4


namespace Go.Proofs.YtjkijknjngiieaaGreatDoor
open Go.RowKit

theorem mild_h {x y : Lkr} (h : x.h = y.h) (hm : MildK y) : MildK x := by
  have h1 : x.run = y.run := congrArg Lnk.run h
  have h2 : x.job = y.job := congrArg Lnk.job h
  have h3 : x.ins = y.ins := congrArg Lnk.ins h
  have h4 : x.name = y.name := congrArg (fun l : Lnk => l.out.name) h
  exact ⟨by rw [h1]; exact hm.run, by rw [h2]; exact hm.job, by rw [h4]; exact hm.name, by rw [h3]; exact hm.len, by rw [h3]; exact hm.ins⟩
theorem mild_map {l m : List Lkr} (h : ∀ x ∈ l.map Lkr.h, x ∈ m.map Lkr.h) (hl : l.length ≤ 1000000) (hm : MildL m) : MildL l := ⟨hl, fun x hx => by
  obtain ⟨y, hy, e⟩ := List.mem_map.1 (h x.h (List.mem_map.2 ⟨x, hx, rfl⟩))
  exact mild_h e.symm (hm.each y hy)⟩
set_option maxRecDepth 100000 in
set_option maxHeartbeats 8000000 in
theorem rchain_any (A : Option Addr) (c : Nat) (l : List Lkr) (run nm : Str) (w : World) (hr : RwL w w.heap.size A l) (hm : MildL l) :
    Calls Tryz.prog 20 #[.slice A l.length c, .string run.1, .string nm.1] w fun e w' => ∃ A' c' l', e = .returned (.slice A' l'.length c') ∧ RwL w' w'.heap.size A' l' ∧ l'.length ≤ l.length ∧ l'.map Lkr.h = chainL (l.map Lkr.h) run nm ∧ (∀ x ∈ l', x ∈ l) ∧ Below w.heap.size w w' := by
  obtain ⟨inf, hi0, iz0, iz1, iz2⟩ := info_parts lkr_info
  have hre := Lib.hid (rreached_any A c l run nm w hr hm)
  have hrow := Lib.hid hr.row
  have hlab := Lib.hid hr.labs
  have hlen := hm.len
  clear hr hm
  go_enter Tryz.func20, Tryz.ntmps20
  go_wp2_with (go_at_call 45; go_must (refine hre.out.mono ?_; rintro e w1 ⟨g1, m, rfl, hrw1, hmk, hb1⟩; have hz1 := hb1.size; replace hrw1 := Lib.hid hrw1; replace hmk := Lib.hid hmk))
  have hml : m.length = l.length := by have h := hmk.out.1; rwa [List.length_map] at h
  have hmc : Hid (∀ (k : Nat) (b : Bool) (W : World), m[k]? = some b → Below w1.heap.size w1 W → W.cell? ⟨g1, k, none⟩ = some (.bool b)) := Lib.hid (fun k b W hk hb => own_cell1 bE_len ((hrw1.out).all hb) hk rfl)
  go_loopw [8, 9] (fun vo vi wr => ∃ (k : Nat) (cur : List Lkr), k ≤ l.length ∧ vi = .int .i64 (k : Int) ∧ Own lkrE 8 31 wr w1.heap.size vo cur ∧ cur.length ≤ k ∧ cur.map Lkr.h = takM (l.map Lkr.h) m k ∧ (∀ x ∈ cur, x ∈ l) ∧ Below w1.heap.size w1 wr) (fun _ vi _ => l.length - (intOf vi).toNat)
  case atStart => exact ⟨0, [], Nat.zero_le _, rfl, Own.nil _ _ _, Nat.le_refl _, rfl, (fun _ h => absurd h List.not_mem_nil), Below.refl _ _⟩
  case round =>
    obtain ⟨k, cur, hk, rfl, hown, hcl, hcm, hsub, hbw⟩ := hrel
    have hz := hbw.size
    have hbw0 : Hid (Below w.heap.size w wr) := Lib.hid (hb1.trans (hbw.mono hz1))
    by_cases hkl : k < l.length
    · obtain ⟨b, hb⟩ := get_some (show k < m.length by omega)
      have hmb := hmc.out k b wr hb hbw
      have i0 : (0 : Int) ≤ (k : Int) := by omega
      have i1 : (k : Int) < (l.length : Int) := by omega
      rcases b with _ | _
      · have hnx := Lib.hid (hcm.trans (takM_no (ls := l.map Lkr.h) hb).symm)
        replace hb := Lib.hid hb
        replace hcm := Lib.hid hcm
        replace hown := Lib.hid hown
        replace hsub := Lib.hid hsub
        go_wp2_with fail
        go_roundw
        case rel => exact ⟨k + 1, cur, hkl, by go_num, hown.out, by omega, hnx.out, hsub.out, hbw⟩
        case measure => simp [intOf]; omega
      · obtain ⟨y, hy⟩ := get_some hkl
        have hym : (l.map Lkr.h)[k]? = some y.h := by rw [List.getElem?_map, hy]; rfl
        obtain ⟨g, o, rfl, hg, hq⟩ := hrow.out (by omega)
        have q0 := (hbw0.out.cell (p := ⟨g, o + k * 8 + 0, none⟩) hg).trans (hq k y hy 0 (.string y.run.1) rfl)
        rw [Nat.add_zero] at q0
        have q1 := (hbw0.out.cell (p := ⟨g, o + k * 8 + 1, none⟩) hg).trans (hq k y hy 1 (.string y.job.1) rfl)
        have q2 := (hbw0.out.cell (p := ⟨g, o + k * 8 + 2, none⟩) hg).trans (hq k y hy 2 (.int .i64 y.attempt.1) rfl)
        have q3 := (hbw0.out.cell (p := ⟨g, o + k * 8 + 3, none⟩) hg).trans (hq k y hy 3 (.int .u64 y.spec.1) rfl)
        have q4 := (hbw0.out.cell (p := ⟨g, o + k * 8 + 4, none⟩) hg).trans (hq k y hy 4 (.slice y.insA y.ins.length y.insC) rfl)
        have q5 := (hbw0.out.cell (p := ⟨g, o + k * 8 + 5, none⟩) hg).trans (hq k y hy 5 (.string y.name.1) rfl)
        have q6 := (hbw0.out.cell (p := ⟨g, o + k * 8 + 6, none⟩) hg).trans (hq k y hy 6 (.int .u64 y.digest.1) rfl)
        have q7 := (hbw0.out.cell (p := ⟨g, o + k * 8 + 7, none⟩) hg).trans (hq k y hy 7 (.int .i64 y.size.1) rfl)
        clear hq
        have hnx : Hid ((cur ++ [y]).map Lkr.h = takM (l.map Lkr.h) m (k + 1)) := Lib.hid (by
          rw [takM_yes hb hym, List.map_append, hcm]
          rfl)
        have hsub2 : Hid (∀ x ∈ cur ++ [y], x ∈ l) := Lib.hid fun x hx => by
          rcases List.mem_append.1 hx with h | h
          · exact hsub x h
          · obtain rfl := List.mem_singleton.1 h
            exact List.mem_of_getElem? hy
        have hvlt := Lib.hid hown.lt
        replace hb := Lib.hid hb
        replace hy := Lib.hid hy
        replace hym := Lib.hid hym
        replace hcm := Lib.hid hcm
        replace hown := Lib.hid hown
        replace hsub := Lib.hid hsub
        go_wp2_with (first
          | (at_builtin
             refine wpList_append_rw _ rfl (.tmp 24) (.tmp 29) _ rfl lkrE_len lkrE_one w1.heap.size 31 inf _ 104 Tryz.underlying22 hi0 iz0 iz1 iz2 rfl (by omega) _ cur rfl (hown.out.alloc _) (wr.heap.size + 1) (some ⟨wr.heap.size, 0, none⟩) 1 1 [y] rfl rfl (rw_lkr rfl (by omega)) ?_ ?_ ?_ ?_
             · (try simp [maxLen]) <;> omega
             · (try simp) <;> omega
             · (try simp) <;> omega
             intro v4 w4 hown4 hg4 hat4
             have hz4 := hg4.size
             (try simp at hz4)))
        go_roundw
        case rel =>
          have hbb : Below w1.heap.size wr w4 := Below.grown (Below.mono (B := wr.heap.size) (show Below wr.heap.size wr _ from (by repeat (first | (with_reducible exact Below.refl _ _) | (with_reducible refine Below.drew ?_) | (with_reducible refine below_drewN ?_ _) | ((with_reducible refine Below.alloc ?_ ?_ _); rotate_left; focus ((try simp) <;> omega)) | ((with_reducible refine Below.setCell ?_ ?_ _); rotate_left; focus ((try simp) <;> omega)) | ((with_reducible refine Below.trans ?_ (Below.mono (by assumption) ?_)); rotate_left; focus ((try simp) <;> omega))))) (by omega)) hg4 (by (try simp) <;> omega) (fun q hq => (hvlt.out q hq).1)
          exact ⟨k + 1, _, hkl, by go_num, hown4, by rw [List.length_append, List.length_singleton]; omega, hnx.out, hsub2.out, hbw.trans hbb⟩
        case measure => simp [intOf]; omega
    · have i1 : ¬ (k : Int) < (l.length : Int) := by omega
      have hfin : cur.map Lkr.h = chainL (l.map Lkr.h) run nm := by
        rw [hcm, show k = (l.map Lkr.h).length by rw [List.length_map]; omega]
        exact takM_all hmk.out
      obtain ⟨A4, c4, e4, _, _, _⟩ := hown.form
      subst e4
      replace hfin := Lib.hid hfin
      replace hcm := Lib.hid hcm
      replace hown := Lib.hid hown
      replace hsub := Lib.hid hsub
      go_wp2_with fail
      go_ret
      exact ⟨A4, c4, cur, rfl, ⟨hown.out.reads lkrE_len, fun x hx => ((hlab.out x (hsub.out x hx)).below hbw0.out (Nat.le_refl _)).more hbw0.out.size⟩, by omega, hfin.out, hsub.out, hbw0.out⟩
set_option maxRecDepth 100000 in
set_option maxHeartbeats 8000000 in
theorem rsources_any (A : Option Addr) (c : Nat) (l : List Lkr) (run nm : Str) (w : World) (hr : RwL w w.heap.size A l) (hm : MildL l) :
    Calls Tryz.prog 17 #[.slice A l.length c, .string run.1, .string nm.1] w fun e w' => ∃ A' c', e = .returned (.slice A' (srt (srcL (l.map Lkr.h) run nm)).length c') ∧ Rw sE 1 w' w'.heap.size A' (srt (srcL (l.map Lkr.h) run nm)) ∧ Below w.heap.size w w' := by
  obtain ⟨inf, hi0, iz0, iz1, iz2⟩ := info_parts string_info
  have hch := Lib.hid (rchain_any A c l run nm w hr hm)
  have hmil := Lib.hid hm.each
  have hlen := hm.len
  clear hr hm
  go_enter Tryz.func17, Tryz.ntmps17
  go_wp2_with (go_at_call 20; go_must (refine hch.out.mono ?_; rintro e w1 ⟨A1, c1, L, rfl, hrL, hLl, hLm, hLs, hb1⟩; have hz1 := hb1.size; have hrow := Lib.hid hrL.row; have hlab := Lib.hid hrL.labs; clear hrL; replace hLm := Lib.hid hLm; replace hLs := Lib.hid hLs))
  go_loopw [8, 9] (fun vo vi wr => ∃ (k : Nat) (cur : List Str), k ≤ L.length ∧ vi = .int .i64 (k : Int) ∧ Own sE 1 9 wr w1.heap.size vo cur ∧ cur.length ≤ 1000000 * k ∧ cur = (L.take k).flatMap (fun x => flsL x.h) ∧ Below w1.heap.size w1 wr) (fun _ vi _ => L.length - (intOf vi).toNat)
  case atStart => exact ⟨0, [], Nat.zero_le _, rfl, Own.nil _ _ _, by simp, rfl, Below.refl _ _⟩
  case round =>
    obtain ⟨k, cur, hk, rfl, hown, hcl, hcm, hbw⟩ := hrel
    have hz := hbw.size
    have hbw0 : Hid (Below w.heap.size w wr) := Lib.hid (hb1.trans (hbw.mono hz1))
    by_cases hkl : k < L.length
    · have i0 : (0 : Int) ≤ (k : Int) := by omega
      have i1 : (k : Int) < (L.length : Int) := by omega
      obtain ⟨x, hx⟩ := get_some hkl
      have hxL := List.mem_of_getElem? hx
      obtain ⟨g, o, rfl, hg, hq⟩ := hrow.out (by omega)
      have hg4 : Hid (∀ W, Below w1.heap.size w1 W → W.cell? ⟨g, o + k * 8 + 4, none⟩ = some (.slice x.insA x.ins.length x.insC)) := Lib.hid fun W hb => (hb.cell (p := ⟨g, o + k * 8 + 4, none⟩) hg).trans (hq k x hx 4 (.slice x.insA x.ins.length x.insC) rfl)
      clear hq
      have hxi := (hlab.out x hxL).2.2
      have hxn := Lib.hid (hmil.out x (hLs.out x hxL)).ins
      have hxl := (hmil.out x (hLs.out x hxL)).len
      have hnx : Hid (∀ r : List Str, r = cur ++ filI x.ins x.ins.length → r = (L.take (k + 1)).flatMap (fun x => flsL x.h)) := Lib.hid fun r hr => by
        rw [take_at hx, List.flatMap_append, ← hcm, hr, filI_all (Nat.le_refl _)]
        simp
      obtain ⟨IA, hIA⟩ : ∃ IA, x.insA = IA := ⟨_, rfl⟩
      rw [hIA] at hg4 hxi
      replace hIA := Lib.hid hIA
      replace hxi := Lib.hid hxi
      replace hx := Lib.hid hx
      replace hcm := Lib.hid hcm
      replace hown := Lib.hid hown
      go_wp2_with fail
      go_loopw [8, 10] (fun vo vi wr => ∃ (p : Nat) (cur2 : List Str), p ≤ x.ins.length ∧ vi = .int .i64 (p : Int) ∧ Own sE 1 9 wr w1.heap.size vo cur2 ∧ cur2.length ≤ 1000000 * k + p ∧ cur2 = cur ++ filI x.ins p ∧ Below w1.heap.size w1 wr) (fun _ vi _ => x.ins.length - (intOf vi).toNat)
      case atStart => exact ⟨0, cur, Nat.zero_le _, rfl, hown.out, by omega, by simp [filI], hbw⟩
      case round =>
        clear hown hz
        replace hbw := Lib.hid hbw
        replace hbw0 := Lib.hid hbw0
        obtain ⟨p, cur2, hp, rfl, hown, hcl2, hcm2, hbr⟩ := hrel
        have hz := hbr.size
        have q4 := hg4.out wr hbr
        by_cases hpl : p < x.ins.length
        · obtain ⟨y, hy⟩ := get_some hpl
          obtain ⟨gi, oi, rfl, hgi, hq⟩ := hxi.out (by omega)
          have r0 := (hbr.cell (p := ⟨gi, oi + p * 3 + 0, none⟩) hgi).trans (hq p y hy 0 (.string y.name.1) rfl)
          rw [Nat.add_zero] at r0
          clear hq
          have p0 : (0 : Int) ≤ (p : Int) := by omega
          have p1 : (p : Int) < (x.ins.length : Int) := by omega
          have hfi0 := fun W => rfile_any y.name W (hxn.out y (List.mem_of_getElem? hy))
          rcases hf : fileS y.name with _ | q
          · rw [hf] at hfi0
            have hfi := Lib.hid hfi0
            have hn2 := Lib.hid (show cur2 = cur ++ filI x.ins (p + 1) from by rw [filI_no hy hf]; exact hcm2)
            clear hfi0
            replace hy := Lib.hid hy
            replace hf := Lib.hid hf
            replace hown := Lib.hid hown
            replace hcm2 := Lib.hid hcm2
            go_wp2_with (go_at_call 24; go_must (refine (hfi.out _).mono ?_; rintro e w2 ⟨rfl, hb2⟩; have hz2 := hb2.size; (try simp at hz2)))
            go_roundw
            case rel => exact ⟨p + 1, cur2, by omega, by go_num, hown.out.all (show Below wr.heap.size wr w2 from (by repeat (first | (with_reducible exact Below.refl _ _) | (with_reducible refine Below.drew ?_) | (with_reducible refine below_drewN ?_ _) | ((with_reducible refine Below.alloc ?_ ?_ _); rotate_left; focus ((try simp) <;> omega)) | ((with_reducible refine Below.setCell ?_ ?_ _); rotate_left; focus ((try simp) <;> omega)) | ((with_reducible refine Below.trans ?_ (Below.mono (by assumption) ?_)); rotate_left; focus ((try simp) <;> omega))))), by omega, hn2.out, hbr.trans (Below.mono (B := wr.heap.size) (show Below wr.heap.size wr w2 from (by repeat (first | (with_reducible exact Below.refl _ _) | (with_reducible refine Below.drew ?_) | (with_reducible refine below_drewN ?_ _) | ((with_reducible refine Below.alloc ?_ ?_ _); rotate_left; focus ((try simp) <;> omega)) | ((with_reducible refine Below.setCell ?_ ?_ _); rotate_left; focus ((try simp) <;> omega)) | ((with_reducible refine Below.trans ?_ (Below.mono (by assumption) ?_)); rotate_left; focus ((try simp) <;> omega))))) (by omega))⟩
            case measure => simp [intOf]; omega
          · rw [hf] at hfi0
            have hfi := Lib.hid hfi0
            have hn2 := Lib.hid (show cur2 ++ [q] = cur ++ filI x.ins (p + 1) from by rw [filI_yes hy hf, hcm2, List.append_assoc])
            have hvlt := Lib.hid hown.lt
            clear hfi0
            replace hy := Lib.hid hy
            replace hf := Lib.hid hf
            replace hown := Lib.hid hown
            replace hcm2 := Lib.hid hcm2
            go_wp2_with (first
              | (go_at_call 24; go_must (refine (hfi.out _).mono ?_; rintro e w2 ⟨rfl, hb2⟩; have hz2 := hb2.size; (try simp at hz2)))
              | (at_builtin
                 refine wpList_append_rw _ rfl (.tmp 47) (.tmp 49) _ rfl sE_len sE_one w1.heap.size 9 inf _ 16 Tryz.underlying44 hi0 iz0 iz1 iz2 rfl (by omega) _ cur2 rfl ((hown.out.all (show Below wr.heap.size wr w2 from (by repeat (first | (with_reducible exact Below.refl _ _) | (with_reducible refine Below.drew ?_) | (with_reducible refine below_drewN ?_ _) | ((with_reducible refine Below.alloc ?_ ?_ _); rotate_left; focus ((try simp) <;> omega)) | ((with_reducible refine Below.setCell ?_ ?_ _); rotate_left; focus ((try simp) <;> omega)) | ((with_reducible refine Below.trans ?_ (Below.mono (by assumption) ?_)); rotate_left; focus ((try simp) <;> omega)))))).alloc _) (w2.heap.size + 1) (some ⟨w2.heap.size, 0, none⟩) 1 1 [q] rfl rfl (rw_str rfl (by omega)) ?_ ?_ ?_ ?_
                 · (try simp [maxLen]) <;> omega
                 · (try simp) <;> omega
                 · (try simp) <;> omega
                 intro v4 w4 hown4 hg5 hat4
                 have hz4 := hg5.size
                 (try simp at hz4)))
            go_roundw
            case rel =>
              have hbb : Below w1.heap.size wr w4 := Below.grown (Below.mono (B := wr.heap.size) (show Below wr.heap.size wr _ from (by repeat (first | (with_reducible exact Below.refl _ _) | (with_reducible refine Below.drew ?_) | (with_reducible refine below_drewN ?_ _) | ((with_reducible refine Below.alloc ?_ ?_ _); rotate_left; focus ((try simp) <;> omega)) | ((with_reducible refine Below.setCell ?_ ?_ _); rotate_left; focus ((try simp) <;> omega)) | ((with_reducible refine Below.trans ?_ (Below.mono (by assumption) ?_)); rotate_left; focus ((try simp) <;> omega))))) (by omega)) hg5 (by (try simp) <;> omega) (fun q hq => (hvlt.out q hq).1)
              exact ⟨p + 1, _, by omega, by go_num, hown4, by rw [List.length_append, List.length_singleton]; omega, hn2.out, hbr.trans hbb⟩
            case measure => simp [intOf]; omega
        · have p1 : ¬ (p : Int) < (x.ins.length : Int) := by omega
          have hpe : p = x.ins.length := by omega
          have hn3 := Lib.hid (hnx.out cur2 (by rw [hcm2, hpe]))
          replace hcm2 := Lib.hid hcm2
          replace hown := Lib.hid hown
          replace hpe := Lib.hid hpe
          go_wp2_with fail
          go_roundw
          case rel => exact ⟨k + 1, cur2, hkl, by go_num, hown.out, by omega, hn3.out, hbr⟩
          case measure => simp [intOf]; omega
    · have i1 : ¬ (k : Int) < (L.length : Int) := by omega
      have hfin : cur = srcL (l.map Lkr.h) run nm := by
        unfold srcL
        rw [hcm, ← hLm.out, List.take_of_length_le (by omega), List.flatMap_map]
      obtain ⟨A4, c4, e4, _, _, _⟩ := hown.form
      subst e4
      have hso := Lib.hid (rsorted_any A4 c4 cur wr (hown.reads sE_len) (by omega))
      replace hfin := Lib.hid hfin
      replace hcm := Lib.hid hcm
      replace hown := Lib.hid hown
      go_wp2_with (go_at_call 43; go_must (refine hso.out.mono ?_; rintro e w5 ⟨A5, c5, rfl, hr5, hb5⟩; replace hr5 := Lib.hid hr5))
      go_ret
      exact ⟨A5, c5, by rw [← hfin.out]; rfl, by rw [← hfin.out]; exact hr5.out, hbw0.out.trans (hb5.mono (by omega))⟩
set_option maxRecDepth 100000 in
set_option maxHeartbeats 8000000 in
theorem rverify_any (A : Option Addr) (c : Nat) (l : List Lkr) (w : World) (hr : RwL w w.heap.size A l) (hm : MildL l) :
    Calls Tryz.prog 22 #[.slice A l.length c] w fun e w' => e = .returned (.int .i64 (verErr [] (l.map Lkr.h))) ∧ Below w.heap.size w w' := by
  obtain ⟨R, hR⟩ : ∃ R, verErr [] (l.map Lkr.h) = R := ⟨_, rfl⟩
  rw [hR]
  have hadd : Hid (∀ (A1 : Option Addr) (c1 : Nat) (cur : List Lkr) (x : Lkr) (W : World), Below w.heap.size w W → RwL W W.heap.size A1 cur → cur.length ≤ c1 → (∀ y ∈ cur.map Lkr.h, y ∈ l.map Lkr.h) → cur.length ≤ 1000000 → x ∈ l → Calls Tryz.prog 12 #[.slice A1 cur.length c1, .agg #[.string x.run.1, .string x.job.1, .int .i64 x.attempt.1, .int .u64 x.spec.1, .slice x.insA x.ins.length x.insC, .string x.name.1, .int .u64 x.digest.1, .int .i64 x.size.1]] W fun e w' => ∃ A' c' l', e = .returned (.tuple #[.slice A' l'.length c', .int .i64 (lnkErr (cur.map Lkr.h) x.h)]) ∧ RwL w' w'.heap.size A' l' ∧ l'.length ≤ c' ∧ l'.map Lkr.h = lnkAdd (cur.map Lkr.h) x.h ∧ Below W.heap.size W w') := Lib.hid fun A1 c1 cur x W hb hr1 hc1 hs hcl hx => radd_any A1 c1 cur x W hr1 hc1 (((hr.labs x hx).below hb (Nat.le_refl _)).more hb.size) (mild_map hs hcl hm) (hm.each x hx)
  have hrow := Lib.hid hr.row
  have hlen := hm.len
  replace hR := Lib.hid hR
  clear hr hm
  go_enter Tryz.func22, Tryz.ntmps22
  go_wp2_with fail
  go_loopw [3, 4] (fun vo vi wr => ∃ (k : Nat) (A1 : Option Addr) (c1 : Nat) (cur : List Lkr), k ≤ l.length ∧ vi = .int .i64 (k : Int) ∧ vo = .slice A1 cur.length c1 ∧ RwL wr wr.heap.size A1 cur ∧ cur.length ≤ c1 ∧ cur.map Lkr.h = (l.take k).map Lkr.h ∧ verErr ((l.take k).map Lkr.h) ((l.drop k).map Lkr.h) = R ∧ Below w.heap.size w wr) (fun _ vi _ => l.length - (intOf vi).toNat)
  case atStart => exact ⟨0, none, 0, [], Nat.zero_le _, rfl, rfl, RwL.nil, Nat.le_refl _, rfl, hR.out, Below.refl _ _⟩
  case round =>
    obtain ⟨k, A1, c1, cur, hk, rfl, rfl, hrc, hcc, hcm, hst, hbw⟩ := hrel
    have hz := hbw.size
    have hbw0 := Lib.hid hbw
    by_cases hkl : k < l.length
    · obtain ⟨y, hy⟩ := get_some hkl
      obtain ⟨g, o, rfl, hg, hq⟩ := hrow.out (by omega)
      have q0 := (hbw0.out.cell (p := ⟨g, o + k * 8 + 0, none⟩) hg).trans (hq k y hy 0 (.string y.run.1) rfl)
      rw [Nat.add_zero] at q0
      have q1 := (hbw0.out.cell (p := ⟨g, o + k * 8 + 1, none⟩) hg).trans (hq k y hy 1 (.string y.job.1) rfl)
      have q2 := (hbw0.out.cell (p := ⟨g, o + k * 8 + 2, none⟩) hg).trans (hq k y hy 2 (.int .i64 y.attempt.1) rfl)
      have q3 := (hbw0.out.cell (p := ⟨g, o + k * 8 + 3, none⟩) hg).trans (hq k y hy 3 (.int .u64 y.spec.1) rfl)
      have q4 := (hbw0.out.cell (p := ⟨g, o + k * 8 + 4, none⟩) hg).trans (hq k y hy 4 (.slice y.insA y.ins.length y.insC) rfl)
      have q5 := (hbw0.out.cell (p := ⟨g, o + k * 8 + 5, none⟩) hg).trans (hq k y hy 5 (.string y.name.1) rfl)
      have q6 := (hbw0.out.cell (p := ⟨g, o + k * 8 + 6, none⟩) hg).trans (hq k y hy 6 (.int .u64 y.digest.1) rfl)
      have q7 := (hbw0.out.cell (p := ⟨g, o + k * 8 + 7, none⟩) hg).trans (hq k y hy 7 (.int .i64 y.size.1) rfl)
      clear hq
      have i0 : (0 : Int) ≤ (k : Int) := by omega
      have i1 : (k : Int) < (l.length : Int) := by omega
      have hcl : cur.length ≤ 1000000 := by
        have := congrArg List.length hcm
        rw [List.length_map, List.length_map, List.length_take] at this
        omega
      have hac0 := hadd.out A1 c1 cur y wr hbw hrc hcc (fun z hz => by
        rw [hcm] at hz
        obtain ⟨u, hu, e⟩ := List.mem_map.1 hz
        exact List.mem_map.2 ⟨u, List.mem_of_mem_take hu, e⟩) hcl (List.mem_of_getElem? hy)
      rw [ver_stop (all := []) (r := []) (l := y.h) hy] at hst
      have hla := links_at hy
      rw [hcm] at hac0
      obtain ⟨E, hE⟩ : ∃ E, lnkErr ((l.take k).map Lkr.h) y.h = E := ⟨_, rfl⟩
      rw [hE] at hac0
      have hac := Lib.hid hac0
      clear hac0
      replace hrc := Lib.hid hrc
      replace hcm := Lib.hid hcm
      replace hy := Lib.hid hy
      replace hla := Lib.hid hla
      by_cases hE0 : E = 0
      · subst hE0
        have hn2 : Hid (verErr ((l.take (k + 1)).map Lkr.h) ((l.drop (k + 1)).map Lkr.h) = R) := Lib.hid (by rw [hla.out, ← ver_at hE]; exact hst)
        have hadl : Hid (lnkAdd ((l.take k).map Lkr.h) y.h = (l.take (k + 1)).map Lkr.h) := Lib.hid (by unfold lnkAdd; rw [hE, if_neg (by decide), hla.out])
        replace hE := Lib.hid hE
        replace hst := Lib.hid hst
        go_wp2_with (go_at_call 12; go_must (refine hac.out.mono ?_; rintro e w2 ⟨A2, c2, L2, rfl, hr2, hc2, hm2, hb2⟩; replace hr2 := Lib.hid hr2; replace hm2 := Lib.hid hm2))
        go_roundw
        case rel => exact ⟨k + 1, A2, c2, L2, hkl, by go_num, rfl, hr2.out, hc2, by rw [hm2.out, hadl.out], hn2.out, hbw.trans (hb2.mono hz)⟩
        case measure => simp [intOf]; omega
      · have hf : Hid (R = E) := Lib.hid (by rw [← hst, ver_no (by rw [hE]; exact hE0), hE])
        have hEb : (E != 0) = true := by rw [bne_iff_ne]; exact hE0
        replace hE := Lib.hid hE
        replace hst := Lib.hid hst
        go_wp2_with (go_at_call 12; go_must (refine hac.out.mono ?_; rintro e w2 ⟨A2, c2, L2, rfl, hr2, hc2, hm2, hb2⟩; replace hr2 := Lib.hid hr2; replace hm2 := Lib.hid hm2))
        go_ret
        exact ⟨by rw [hf.out]; rfl, hbw.trans (hb2.mono hz)⟩
    · have i1 : ¬ (k : Int) < (l.length : Int) := by omega
      have hf : Hid (R = 0) := Lib.hid (by rw [← hst, List.drop_eq_nil_of_le (by omega)]; rfl)
      replace hst := Lib.hid hst
      replace hrc := Lib.hid hrc
      replace hcm := Lib.hid hcm
      go_wp2_with fail
      go_ret
      exact ⟨by rw [hf.out]; rfl, hbw⟩
end Go.Proofs.YtjkijknjngiieaaGreatDoor
