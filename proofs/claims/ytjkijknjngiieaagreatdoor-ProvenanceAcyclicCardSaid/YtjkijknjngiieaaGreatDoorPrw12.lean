/-
  The walks of provenance: sources, by the program.
-/
import Derived.Test.YtjkijknjngiieaaGreatDoorPrw11
import Derived.Test.YtjkijknjngiieaaGreatDoorNames4


namespace Go.Proofs.YtjkijknjngiieaaGreatDoor
open Go.RowKit

/-- The files of the first links that marks take; of a link's first inputs. -/
def filM (ls : List Lnk) (m : List Bool) (k : Nat) : List Str := (takM ls m k).flatMap flsL
theorem filM_yes {ls : List Lnk} {m : List Bool} {k : Nat} {x : Lnk} (h : m[k]? = some true) (hx : ls[k]? = some x) : filM ls m (k + 1) = filM ls m k ++ flsL x := by
  unfold filM
  rw [takM_yes h hx, List.flatMap_append]
  simp
theorem filM_no {ls : List Lnk} {m : List Bool} {k : Nat} (h : m[k]? = some false) : filM ls m (k + 1) = filM ls m k := by
  unfold filM
  rw [takM_no h]
theorem filM_all {ls : List Lnk} {run nm : Str} {m : List Bool} (h : Marks ls run nm m) : filM ls m ls.length = srcL ls run nm := by
  unfold filM srcL
  rw [takM_all h]
def filI (l : List OutR) (p : Nat) : List Str := (l.take p).filterMap fun y => fileS y.name
theorem filI_yes {l : List OutR} {p : Nat} {y : OutR} {q : Str} (h : l[p]? = some y) (hq : fileS y.name = some q) : filI l (p + 1) = filI l p ++ [q] := by
  unfold filI
  rw [take_at h, List.filterMap_append]
  simp [hq]
theorem filI_no {l : List OutR} {p : Nat} {y : OutR} (h : l[p]? = some y) (hq : fileS y.name = none) : filI l (p + 1) = filI l p := by
  unfold filI
  rw [take_at h, List.filterMap_append]
  simp [hq]
theorem filI_all {x : Lkr} {p : Nat} (h : x.ins.length ≤ p) : filI x.ins p = flsL x.h := by
  unfold filI flsL
  rw [List.take_of_length_le h]
  rfl
theorem string_info : (Tryz.prog.info? 9).map (fun i => (i.zero, i.size, i.bytes)) = some (some (.string ByteArray.empty), 1, 16) := by kernel_rfl
theorem rw_str {w : World} {g B : Nat} {s : Str} (hg : g = w.heap.size) (hB : g < B) : Rw sE 1 (w.alloc (.cells #[.string s.1] 9)) B (some ⟨g, 0, none⟩) [s] := by
  subst hg
  refine fun _ => ⟨_, 0, rfl, hB, fun i y hy j u hu => ?_⟩
  match i, hy with
  | 0, hy =>
    obtain rfl : s = y := by simpa using hy
    simp only [Nat.zero_mul, Nat.zero_add]
    exact box_cells w _ _ j _ hu
  | i + 1, hy => simp at hy
set_option maxRecDepth 100000 in
set_option maxHeartbeats 8000000 in
theorem sources_any (A : Option Addr) (c : Nat) (l : List Lkr) (run nm : Str) (w : World) (hr : RwL w w.heap.size A l) (hm : MildL l) (hG : Glob w) :
    Calls Tryz.prog 16 #[.slice A l.length c, .string run.1, .string nm.1] w fun e w' => ∃ A' c', e = .returned (.slice A' (srt (srcL (l.map Lkr.h) run nm)).length c') ∧ Rw sE 1 w' w'.heap.size A' (srt (srcL (l.map Lkr.h) run nm)) ∧ Below w.heap.size w w' := by
  obtain ⟨inf, hi0, iz0, iz1, iz2⟩ := info_parts string_info
  have hre := Lib.hid (reached_any A c l run nm w hr hm hG)
  have hrow := Lib.hid hr.row
  have hlab := Lib.hid hr.labs
  have hmil := Lib.hid hm.each
  have hGl := Lib.hid hG
  have hlen := hm.len
  clear hr hm hG
  go_enter Tryz.func16, Tryz.ntmps16
  go_wp2_with (go_at_call 40; go_must (refine hre.out.mono ?_; rintro e w1 ⟨g1, m, rfl, hrw1, hmk, hb1⟩; have hz1 := hb1.size; replace hrw1 := Lib.hid hrw1; replace hmk := Lib.hid hmk))
  have hml : m.length = l.length := by have h := hmk.out.1; rwa [List.length_map] at h
  have hmc : Hid (∀ (k : Nat) (b : Bool) (W : World), m[k]? = some b → Below w1.heap.size w1 W → W.cell? ⟨g1, k, none⟩ = some (.bool b)) := Lib.hid (fun k b W hk hb => by
    have hkl := (List.getElem?_eq_some_iff.1 hk).1
    obtain ⟨gg, o, e, hg, hc⟩ := (Own.reads bE_len hrw1.out) (by omega)
    simp only [Option.some.injEq, Addr.mk.injEq, and_true] at e
    obtain ⟨rfl, rfl⟩ := e
    have h := (hb.cell (p := ⟨g1, 0 + k * 1 + 0, none⟩) hg).trans (hc k b hk 0 _ rfl)
    simpa using h)
  go_loopw [7, 19] (fun vo vi wr => ∃ (k : Nat) (cur : List Str), k ≤ l.length ∧ vi = .int .i64 (k : Int) ∧ Own sE 1 9 wr w1.heap.size vo cur ∧ cur.length ≤ 1000000 * k ∧ cur = filM (l.map Lkr.h) m k ∧ Below w1.heap.size w1 wr) (fun _ vi _ => l.length - (intOf vi).toNat)
  case atStart => exact ⟨0, [], Nat.zero_le _, rfl, Own.nil _ _ _, by simp, rfl, Below.refl _ _⟩
  case round =>
    obtain ⟨k, cur, hk, rfl, hown, hcl, hcm, hbw⟩ := hrel
    have hz := hbw.size
    have hbw0 : Hid (Below w.heap.size w wr) := Lib.hid (hb1.trans (hbw.mono hz1))
    by_cases hkl : k < l.length
    · obtain ⟨b, hb⟩ := get_some (show k < m.length by omega)
      have hmb := hmc.out k b wr hb hbw
      have i0 : (0 : Int) ≤ (k : Int) := by omega
      have i1 : (k : Int) < (l.length : Int) := by omega
      rcases b with _ | _
      · have hnx := Lib.hid (hcm.trans (filM_no (ls := l.map Lkr.h) hb).symm)
        replace hb := Lib.hid hb
        replace hcm := Lib.hid hcm
        replace hown := Lib.hid hown
        go_wp2_with fail
        go_roundw
        case rel => exact ⟨k + 1, cur, hkl, by go_num, hown.out, by omega, hnx.out, hbw⟩
        case measure => simp [intOf]; omega
      · obtain ⟨x, hx⟩ := get_some hkl
        have hxm : (l.map Lkr.h)[k]? = some x.h := by rw [List.getElem?_map, hx]; rfl
        obtain ⟨g, o, rfl, hg, hq⟩ := hrow.out (by omega)
        have q4 := (hbw0.out.cell (p := ⟨g, o + k * 8 + 4, none⟩) hg).trans (hq k x hx 4 (.slice x.insA x.ins.length x.insC) rfl)
        clear hq
        have hxi := (hlab.out x (List.mem_of_getElem? hx)).2.2
        have hxn := Lib.hid (hmil.out x (List.mem_of_getElem? hx)).ins
        have hxl := (hmil.out x (List.mem_of_getElem? hx)).len
        have hnx : Hid (∀ r : List Str, r = cur ++ filI x.ins x.ins.length → r = filM (l.map Lkr.h) m (k + 1)) := Lib.hid fun r hr => by
          rw [filM_yes hb hxm, hr, hcm, filI_all (Nat.le_refl _)]
        obtain ⟨IA, hIA⟩ : ∃ IA, x.insA = IA := ⟨_, rfl⟩
        rw [hIA] at q4 hxi
        replace hIA := Lib.hid hIA
        replace hxi := Lib.hid hxi
        replace hb := Lib.hid hb
        replace hx := Lib.hid hx
        replace hxm := Lib.hid hxm
        replace hcm := Lib.hid hcm
        replace hown := Lib.hid hown
        go_wp2_with fail
        go_loopw [7, 32] (fun vo vi wr => ∃ (p : Nat) (cur2 : List Str), p ≤ x.ins.length ∧ vi = .int .i64 (p : Int) ∧ Own sE 1 9 wr w1.heap.size vo cur2 ∧ cur2.length ≤ 1000000 * k + p ∧ cur2 = cur ++ filI x.ins p ∧ Below w1.heap.size w1 wr) (fun _ vi _ => x.ins.length - (intOf vi).toNat)
        case atStart => exact ⟨0, cur, Nat.zero_le _, rfl, hown.out, by omega, by simp [filI], hbw⟩
        case round =>
          clear hown hmb q4 hz
          replace hbw := Lib.hid hbw
          replace hbw0 := Lib.hid hbw0
          obtain ⟨p, cur2, hp, rfl, hown, hcl2, hcm2, hbr⟩ := hrel
          have hz := hbr.size
          have hbr0 : Below w.heap.size w wr := hb1.trans (hbr.mono hz1)
          by_cases hpl : p < x.ins.length
          · obtain ⟨y, hy⟩ := get_some hpl
            obtain ⟨gi, oi, rfl, hgi, hq⟩ := hxi.out (by omega)
            have r0 := (hbr0.cell (p := ⟨gi, oi + p * 3 + 0, none⟩) hgi).trans (hq p y hy 0 (.string y.name.1) rfl)
            rw [Nat.add_zero] at r0
            have r1 := (hbr0.cell (p := ⟨gi, oi + p * 3 + 1, none⟩) hgi).trans (hq p y hy 1 (.int .u64 y.digest.1) rfl)
            have r2 := (hbr0.cell (p := ⟨gi, oi + p * 3 + 2, none⟩) hgi).trans (hq p y hy 2 (.int .i64 y.size.1) rfl)
            clear hq
            have p0 : (0 : Int) ≤ (p : Int) := by omega
            have p1 : (p : Int) < (x.ins.length : Int) := by omega
            have hfi0 := fun W (hb : Below w.heap.size w W) => file_any y.name W (hGl.out.keep hb) (hxn.out y (List.mem_of_getElem? hy))
            rcases hf : fileS y.name with _ | q
            · rw [hf] at hfi0
              have hfi := Lib.hid hfi0
              have hn2 := Lib.hid (show cur2 = cur ++ filI x.ins (p + 1) from by rw [filI_no hy hf]; exact hcm2)
              clear hfi0
              replace hy := Lib.hid hy
              replace hf := Lib.hid hf
              replace hown := Lib.hid hown
              replace hcm2 := Lib.hid hcm2
              generalize fpS y.name = Q at hfi
              go_wp2_with (go_at_call 41; go_must (refine (hfi.out _ (by repeat (first | (with_reducible exact Below.refl _ _) | (with_reducible refine Below.drew ?_) | (with_reducible refine below_drewN ?_ _) | ((with_reducible refine Below.alloc ?_ ?_ _); rotate_left; focus ((try simp) <;> omega)) | ((with_reducible refine Below.setCell ?_ ?_ _); rotate_left; focus ((try simp) <;> omega)) | ((with_reducible refine Below.trans ?_ (Below.mono (by assumption) ?_)); rotate_left; focus ((try simp) <;> omega))))).mono ?_; rintro e w2 ⟨rfl, hb2⟩; have hz2 := hb2.size; (try simp at hz2)))
              go_roundw
              case rel => exact ⟨p + 1, cur2, by omega, by go_num, hown.out.all (show Below wr.heap.size wr w2 from (by repeat (first | (with_reducible exact Below.refl _ _) | (with_reducible refine Below.drew ?_) | (with_reducible refine below_drewN ?_ _) | ((with_reducible refine Below.alloc ?_ ?_ _); rotate_left; focus ((try simp) <;> omega)) | ((with_reducible refine Below.setCell ?_ ?_ _); rotate_left; focus ((try simp) <;> omega)) | ((with_reducible refine Below.trans ?_ (Below.mono (by assumption) ?_)); rotate_left; focus ((try simp) <;> omega))))), by omega, hn2.out, hbr.trans (Below.mono (B := wr.heap.size) (show Below wr.heap.size wr w2 from (by repeat (first | (with_reducible exact Below.refl _ _) | (with_reducible refine Below.drew ?_) | (with_reducible refine below_drewN ?_ _) | ((with_reducible refine Below.alloc ?_ ?_ _); rotate_left; focus ((try simp) <;> omega)) | ((with_reducible refine Below.setCell ?_ ?_ _); rotate_left; focus ((try simp) <;> omega)) | ((with_reducible refine Below.trans ?_ (Below.mono (by assumption) ?_)); rotate_left; focus ((try simp) <;> omega))))) (by omega))⟩
              case measure => simp [intOf]; omega
            · have hfq := fpS_of hf
              rw [hf, hfq] at hfi0
              have hfi := Lib.hid hfi0
              have hn2 := Lib.hid (show cur2 ++ [q] = cur ++ filI x.ins (p + 1) from by rw [filI_yes hy hf, hcm2, List.append_assoc])
              have hvlt := Lib.hid hown.lt
              clear hfi0
              replace hfq := Lib.hid hfq
              replace hy := Lib.hid hy
              replace hf := Lib.hid hf
              replace hown := Lib.hid hown
              replace hcm2 := Lib.hid hcm2
              go_wp2_with (first
                | (go_at_call 41; go_must (refine (hfi.out _ (by repeat (first | (with_reducible exact Below.refl _ _) | (with_reducible refine Below.drew ?_) | (with_reducible refine below_drewN ?_ _) | ((with_reducible refine Below.alloc ?_ ?_ _); rotate_left; focus ((try simp) <;> omega)) | ((with_reducible refine Below.setCell ?_ ?_ _); rotate_left; focus ((try simp) <;> omega)) | ((with_reducible refine Below.trans ?_ (Below.mono (by assumption) ?_)); rotate_left; focus ((try simp) <;> omega))))).mono ?_; rintro e w2 ⟨rfl, hb2⟩; have hz2 := hb2.size; (try simp at hz2)))
                | (at_builtin
                   refine wpList_append_rw _ rfl (.tmp 43) (.tmp 45) _ rfl sE_len sE_one w1.heap.size 9 inf _ 16 Tryz.underlying44 hi0 iz0 iz1 iz2 rfl (by omega) _ cur2 rfl ((hown.out.all (show Below wr.heap.size wr w2 from (by repeat (first | (with_reducible exact Below.refl _ _) | (with_reducible refine Below.drew ?_) | (with_reducible refine below_drewN ?_ _) | ((with_reducible refine Below.alloc ?_ ?_ _); rotate_left; focus ((try simp) <;> omega)) | ((with_reducible refine Below.setCell ?_ ?_ _); rotate_left; focus ((try simp) <;> omega)) | ((with_reducible refine Below.trans ?_ (Below.mono (by assumption) ?_)); rotate_left; focus ((try simp) <;> omega)))))).alloc _) (w2.heap.size + 1) (some ⟨w2.heap.size, 0, none⟩) 1 1 [q] rfl rfl (rw_str rfl (by omega)) ?_ ?_ ?_ ?_
                   · (try simp [maxLen]) <;> omega
                   · (try simp) <;> omega
                   · (try simp) <;> omega
                   intro v4 w4 hown4 hg4 hat4
                   have hz4 := hg4.size
                   (try simp at hz4)))
              go_roundw
              case rel =>
                have hbb : Below w1.heap.size wr w4 := Below.grown (Below.mono (B := wr.heap.size) (show Below wr.heap.size wr _ from (by repeat (first | (with_reducible exact Below.refl _ _) | (with_reducible refine Below.drew ?_) | (with_reducible refine below_drewN ?_ _) | ((with_reducible refine Below.alloc ?_ ?_ _); rotate_left; focus ((try simp) <;> omega)) | ((with_reducible refine Below.setCell ?_ ?_ _); rotate_left; focus ((try simp) <;> omega)) | ((with_reducible refine Below.trans ?_ (Below.mono (by assumption) ?_)); rotate_left; focus ((try simp) <;> omega))))) (by omega)) hg4 (by (try simp) <;> omega) (fun q hq => (hvlt.out q hq).1)
                exact ⟨p + 1, _, by omega, by go_num, hown4, by rw [List.length_append, List.length_singleton]; omega, hn2.out, hbr.trans hbb⟩
              case measure => simp [intOf]; omega
          · have p1 : ¬ (p : Int) < (x.ins.length : Int) := by omega
            have hpe : p = x.ins.length := by omega
            have hn3 := Lib.hid (hnx.out cur2 (by rw [hcm2, hpe]))
            replace hcm2 := Lib.hid hcm2
            replace hown := Lib.hid hown
            replace hpe := Lib.hid hpe
            go_wp2_with fail
            go_roundw
            case rel => exact ⟨k + 1, cur2, hkl, by go_num, hown.out, by omega, hn3.out, hbr⟩
            case measure => simp [intOf]; omega
    · have i1 : ¬ (k : Int) < (l.length : Int) := by omega
      have hfin : cur = srcL (l.map Lkr.h) run nm := by
        rw [hcm, show k = (l.map Lkr.h).length by rw [List.length_map]; omega]
        exact filM_all hmk.out
      obtain ⟨A4, c4, e4, _, _, _⟩ := hown.form
      subst e4
      have hso := Lib.hid (sorted_any A4 c4 cur wr (hown.reads sE_len) (by omega))
      replace hfin := Lib.hid hfin
      replace hcm := Lib.hid hcm
      replace hown := Lib.hid hown
      go_wp2_with (go_at_call 42; go_must (refine hso.out.mono ?_; rintro e w5 ⟨A5, c5, rfl, hr5, hb5⟩; replace hr5 := Lib.hid hr5))
      go_ret
      exact ⟨A5, c5, by rw [← hfin.out]; rfl, by rw [← hfin.out]; exact hr5.out, hbw0.out.trans (hb5.mono (by omega))⟩
end Go.Proofs.YtjkijknjngiieaaGreatDoor
