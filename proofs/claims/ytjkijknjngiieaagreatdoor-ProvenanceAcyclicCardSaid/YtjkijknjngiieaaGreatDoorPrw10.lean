/-
  The walks of provenance: what is reached, by the program: the walk.
-/
import Derived.Test.YtjkijknjngiieaaGreatDoorPrw9


namespace Go.Proofs.YtjkijknjngiieaaGreatDoor
open Go.RowKit

theorem own_made_bool {w : World} {H g n : Nat} (h : w.ownsRow H 4 1 (.slice (some ⟨g, 0, none⟩) n n) n (madeCells (Value.bool false).cells (n * 1)).toList) : Own bE 1 4 w H (.slice (some ⟨g, 0, none⟩) (List.replicate n false).length (List.replicate n false).length) (List.replicate n false) := by
  unfold Own
  rw [List.length_replicate, flat_bE]
  rw [show (Value.bool false).cells = #[.bool false] from rfl, toList_madeCells_one, Nat.mul_one] at h
  exact h
theorem muM_fresh (n : Nat) : muM (List.replicate n false) = n := by
  unfold muM
  rw [List.countP_replicate]
  simp
set_option maxRecDepth 100000 in
set_option maxHeartbeats 8000000 in
theorem reached_any (A : Option Addr) (c : Nat) (l : List Lkr) (run nm : Str) (w : World) (hr : RwL w w.heap.size A l) (hm : MildL l) (hG : Glob w) :
    Calls Tryz.prog 40 #[.slice A l.length c, .string run.1, .string nm.1] w fun e w' => ∃ (g : Nat) (m : List Bool), e = .returned (.slice (some ⟨g, 0, none⟩) l.length l.length) ∧ Own bE 1 4 w' w.heap.size (.slice (some ⟨g, 0, none⟩) l.length l.length) m ∧ Marks (l.map Lkr.h) run nm m ∧ Below w.heap.size w w' := by
  obtain ⟨inf, hi0, iz0, iz1, iz2⟩ := info_parts bool_info
  have e72 : ∀ args w, (callFunc 72 args).run Tryz.prog w = .ok (.enter 72 args) w := enters_of Tryz.func72 (by kernel_rfl) rfl
  have hix : Hid (∀ W, Below w.heap.size w W → Calls Tryz.prog 34 #[.slice A l.length c] W fun e w' => e = .returned (.map (some W.heap.size)) ∧ MapI Tryz.prog 86 3 w' W.heap.size l.length (ixF (l.map Lkr.h)) ∧ Below W.heap.size W w') := Lib.hid fun W hb => index_any A c l W ((hr.row.below hb (Nat.le_refl _)).more hb.size) hm.len (fun y hy => (hm.each y hy).nm)
  have hrow := Lib.hid hr.row
  have hlab := Lib.hid hr.labs
  have hmil := Lib.hid hm.each
  have hlen := hm.len
  have hGl := Lib.hid hG
  clear hr hm hG
  go_enter Tryz.func40, Tryz.ntmps40
  go_upto_region 5 with (first
    | (go_at_call 34; go_must (refine (hix.out _ (by repeat (first | (with_reducible exact Below.refl _ _) | (with_reducible refine Below.drew ?_) | (with_reducible refine below_drewN ?_ _) | ((with_reducible refine Below.alloc ?_ ?_ _); rotate_left; focus ((try simp) <;> omega)) | ((with_reducible refine Below.setCell ?_ ?_ _); rotate_left; focus ((try simp) <;> omega)) | ((with_reducible refine Below.trans ?_ (Below.mono (by assumption) ?_)); rotate_left; focus ((try simp) <;> omega))))).mono ?_; rintro e w1 ⟨rfl, hmp1, hb1⟩; have hz1 := hb1.size; (try simp at hz1); obtain ⟨hc1, hf1⟩ := blk_at hb1 w.heap.size (by (try simp) <;> omega); have hk1 : w.heap.size + 1 < w1.heap.size := (by have := hmp1.lt; simpa using this); (try simp only [World.size_alloc] at hmp1); replace hmp1 := Lib.hid hmp1))
    | (at_make
       refine wpList_make_full _ rfl (.tmp 17) (.tmp 17) _ rfl (w1.heap.size + 1) 4 inf _ 1 Tryz.underlying87 hi0 iz0 iz1 _ _ _ _ l.length rfl rfl rfl rfl (by rw [iz2]; omega) (by simp [maxLen]; omega) (by (try simp) <;> omega) ?_
       intro w2 hown2 hg2
       have hz2 := hg2.size
       (try simp at hz2)
       simp only [World.size_alloc] at hown2
       obtain ⟨c2, f2⟩ := grown_blk hg2 w.heap.size (by (try simp) <;> omega) nofun
       obtain ⟨d2, g2⟩ := grown_blk hg2 w1.heap.size (by (try simp) <;> omega) nofun))
  have hlt2 : w1.heap.size + 1 < w2.heap.size := (own_made_bool hown2).lt _ rfl |>.2
  have hB2 : Below w1.heap.size w1 w2 := Below.grown (by repeat (first | (with_reducible exact Below.refl _ _) | (with_reducible refine Below.drew ?_) | (with_reducible refine below_drewN ?_ _) | ((with_reducible refine Below.alloc ?_ ?_ _); rotate_left; focus ((try simp) <;> omega)) | ((with_reducible refine Below.setCell ?_ ?_ _); rotate_left; focus ((try simp) <;> omega)) | ((with_reducible refine Below.trans ?_ (Below.mono (by assumption) ?_)); rotate_left; focus ((try simp) <;> omega)))) hg2 (by (try simp) <;> omega) nofun
  have hV0 : ∀ W5, Below w2.heap.size w2 W5 → W5.cell? ⟨w2.heap.size, 0, none⟩ = some (.slice (some ⟨w1.heap.size + 1, 0, none⟩) l.length l.length) → W5.cell? ⟨w2.heap.size + 1, 0, none⟩ = some (.slice none 0 0) → W5.frozen? ⟨w2.heap.size + 1, 0, none⟩ = false → w2.heap.size + 1 < W5.heap.size → Vis (l.map Lkr.h) run W5 w.heap.size w1.heap.size (w.heap.size + 1) w2.heap.size (w1.heap.size + 1) (w2.heap.size + 1) l.length (List.replicate l.length false) [] := fun W5 hb5 e1 e2 e3 e4 => by
    have hb15 : Below w1.heap.size w1 W5 := hB2.trans (hb5.mono (by omega))
    refine ⟨?_, ?_, by rw [List.length_map]; exact e1, ⟨none, 0, e2, Own.nil _ _ _⟩, e3, ?_, by simp, (own_made_bool hown2).all hb5, by omega, by omega, by omega, by omega, by omega, e4⟩
    · exact (hb5.cell (show w1.heap.size < w2.heap.size by omega)).trans ((d2 0).trans (by go_simp))
    · exact (hb15.cell (show w.heap.size < w1.heap.size by omega)).trans (by go_simp)
    · exact hmp1.out.keep hb15 (by omega)
  replace hV0 := Lib.hid hV0
  have hd0 : Hid (Dfs (l.map Lkr.h) run nm (visM (l.map Lkr.h) run nm (List.replicate l.length false)) (visS (l.map Lkr.h) run nm (List.replicate l.length false) []) (fun _ => False)) := Lib.hid (by
    have h := (Dfs.start (ls := l.map Lkr.h) (run := run) (nm := nm)).visit (s := nm) (fun h => ⟨h, .base⟩)
    rwa [List.length_map] at h)
  have hs0 : Hid (hasL (l.map Lkr.h) run nm = true → (visM (l.map Lkr.h) run nm (List.replicate l.length false))[idxL (l.map Lkr.h) run nm]? = some true) := Lib.hid (fun h => visM_at (by simp) h)
  have hm0 : Hid (2 * muM (visM (l.map Lkr.h) run nm (List.replicate l.length false)) + (visS (l.map Lkr.h) run nm (List.replicate l.length false) []).length ≤ 2 * l.length) := Lib.hid (by
    have h := vis_mu (ls := l.map Lkr.h) (run := run) (s := nm) (m := List.replicate l.length false) (st := [])
    rw [muM_fresh] at h
    simpa using h)
  have hb01 : Hid (Below w.heap.size w w1) := Lib.hid (by repeat (first | (with_reducible exact Below.refl _ _) | (with_reducible refine Below.drew ?_) | (with_reducible refine below_drewN ?_ _) | ((with_reducible refine Below.alloc ?_ ?_ _); rotate_left; focus ((try simp) <;> omega)) | ((with_reducible refine Below.setCell ?_ ?_ _); rotate_left; focus ((try simp) <;> omega)) | ((with_reducible refine Below.trans ?_ (Below.mono (by assumption) ?_)); rotate_left; focus ((try simp) <;> omega))))
  clear hc1 hf1 hb1 c2 f2 g2 hmp1 hix
  go_wp2_with (go_at_fn 72; go_must (refine (visit_any (l.map Lkr.h) run nm _ w.heap.size w1.heap.size (w.heap.size + 1) w2.heap.size (w1.heap.size + 1) (w2.heap.size + 1) l.length (List.replicate l.length false) [] (hV0.out _ (by repeat (first | (with_reducible exact Below.refl _ _) | (with_reducible refine Below.drew ?_) | (with_reducible refine below_drewN ?_ _) | ((with_reducible refine Below.alloc ?_ ?_ _); rotate_left; focus ((try simp) <;> omega)) | ((with_reducible refine Below.setCell ?_ ?_ _); rotate_left; focus ((try simp) <;> omega)) | ((with_reducible refine Below.trans ?_ (Below.mono (by assumption) ?_)); rotate_left; focus ((try simp) <;> omega)))) (by go_simp) (by go_simp) (by go_simp) (by (try simp) <;> omega)) (by rw [List.length_map]; omega) (by (try simp) <;> omega)).mono ?_; rintro e w6 ⟨rfl, hv6, hb6⟩; have hz6 := hb6.size; replace hv6 := Lib.hid hv6))
  have hb0 : Hid (Below w.heap.size w w6) := Lib.hid (hb01.out.trans ((hB2.mono (by omega)).trans (show Below w.heap.size w2 w6 from (by repeat (first | (with_reducible exact Below.refl _ _) | (with_reducible refine Below.drew ?_) | (with_reducible refine below_drewN ?_ _) | ((with_reducible refine Below.alloc ?_ ?_ _); rotate_left; focus ((try simp) <;> omega)) | ((with_reducible refine Below.setCell ?_ ?_ _); rotate_left; focus ((try simp) <;> omega)) | ((with_reducible refine Below.trans ?_ (Below.mono (by assumption) ?_)); rotate_left; focus ((try simp) <;> omega)))))))
  have hgen : Hid (∀ (k : Nat) (x : Lkr) (W : World), l[k]? = some x → Below w.heap.size w W → ∃ g o, A = some ⟨g, o, none⟩ ∧ g < w.heap.size ∧ W.cell? ⟨g, o + k * 8 + 4, none⟩ = some (.slice x.insA x.ins.length x.insC)) := Lib.hid (fun k x W hx hb => by
    have hkl := (List.getElem?_eq_some_iff.1 hx).1
    obtain ⟨g, o, e, hg, hq⟩ := hrow.out (by omega)
    exact ⟨g, o, e, hg, (hb.cell (p := ⟨g, o + k * 8 + 4, none⟩) hg).trans (hq k x hx 4 _ rfl)⟩)
  generalize visM (l.map Lkr.h) run nm (List.replicate l.length false) = m0 at *
  generalize visS (l.map Lkr.h) run nm (List.replicate l.length false) [] = st0 at *
  obtain ⟨tm, htm⟩ : ∃ t, w1.heap.size = t := ⟨_, rfl⟩
  obtain ⟨ts, hts⟩ : ∃ t, w2.heap.size = t := ⟨_, rfl⟩
  have htm2 := Nat.le_of_eq htm
  have htm3 := Nat.le_of_eq htm.symm
  have hts2 := Nat.le_of_eq hts
  have hts3 := Nat.le_of_eq hts.symm
  rw [htm, hts] at hv6 ⊢
  replace htm := Lib.hid htm
  replace hts := Lib.hid hts
  clear hV0 hB2 hz6 hb6 hz1 hz2 d2 hown2 hg2
  go_loopw [11] (fun _ wr => ∃ (m : List Bool) (st : List Nat), Vis (l.map Lkr.h) run wr w.heap.size tm (w.heap.size + 1) ts (tm + 1) (ts + 1) l.length m st ∧ Dfs (l.map Lkr.h) run nm m st (fun _ => False) ∧ (hasL (l.map Lkr.h) run nm = true → m[idxL (l.map Lkr.h) run nm]? = some true) ∧ 2 * muM m + st.length ≤ 2 * l.length ∧ Below w.heap.size w wr) (fun _ wr => muW (l.map Lkr.h).length (tm + 1) (ts + 1) wr)
  case atStart => exact ⟨m0, st0, hv6.out, hd0.out, hs0.out, hm0.out, hb0.out⟩
  case round =>
    obtain ⟨m, st, hv, hd, h0, hmu, hbw⟩ := hrel
    clear hd0 hs0 hm0 hb0 hv6
    have hz := hbw.size
    rcases List.eq_nil_or_concat st with rfl | ⟨st', k, rfl⟩
    · obtain ⟨Ao, co, k1⟩ := hv.done
      have k2 := hv.seen
      rw [List.length_map] at k2
      have hrw := hv.row
      have hln := hv.len
      rw [hln, List.length_map] at hrw
      have hmk := hd.marks h0
      have ho := hv.ord
      replace hrw := Lib.hid hrw
      replace hmk := Lib.hid hmk
      replace hv := Lib.hid hv
      replace hd := Lib.hid hd
      replace h0 := Lib.hid h0
      replace hln := Lib.hid hln
      clear hmu
      go_wp2_with fail
      go_ret
      exact ⟨tm + 1, m, rfl, own_base hrw.out (by omega), hmk.out, hbw⟩
    · rw [List.concat_eq_append] at hv hd hmu
      obtain ⟨gq, cq, k1, k2, k3, k4, k5, k6, hv2⟩ := hv.pop
      have hkm := hd.stk k (by simp)
      have hln := hv.len
      rw [List.length_map] at hln
      have hkl : k < l.length := by have := (List.getElem?_eq_some_iff.1 hkm).1; omega
      obtain ⟨x, hx⟩ := get_some hkl
      have hxm : (l.map Lkr.h)[k]? = some x.h := by rw [List.getElem?_map, hx]; rfl
      obtain ⟨g, o, rfl, hg, q4⟩ := hgen.out k x wr hx hbw
      have hxi := (hlab.out x (List.mem_of_getElem? hx)).2.2
      have hxn := Lib.hid (hmil.out x (List.mem_of_getElem? hx)).ins
      have hxl := (hmil.out x (List.mem_of_getElem? hx)).len
      have ho := hv.ord
      have hmW : muW (l.map Lkr.h).length (tm + 1) (ts + 1) wr = 2 * muM m + (st' ++ [k]).length := hv.mu
      rw [List.length_append, List.length_singleton] at hmW hmu
      have hd2 := hd.pop
      have f1 := hv.frz
      have i0 : (0 : Int) ≤ (k : Int) := by omega
      have i1 : (k : Int) < (l.length : Int) := by omega
      have n0 : (0 : Int) ≤ (st'.length : Int) := by omega
      have n1 : (st'.length : Int) ≤ (cq : Int) := by omega
      have n2 : (st'.length : Int) < (st'.length : Int) + 1 := by omega
      have n3 : (0 : Int) < (st'.length : Int) + 1 := by omega
      have n4 : IntKind.i64.wrap ((st'.length : Int) + 1 - 1) = (st'.length : Int) := by rw [Int.add_sub_cancel]; exact IntWalk.i64_in _ (by omega)
      have n5 : IntKind.i64.wrap (st'.length : Int) = (st'.length : Int) := IntWalk.i64_in _ (by omega)
      have ngt : g ≠ ts + 1 := by omega
      have nqt : gq ≠ ts + 1 := by omega
      replace hv := Lib.hid hv
      replace hv2 := Lib.hid hv2
      replace hd := Lib.hid hd
      replace hd2 := Lib.hid hd2
      replace h0 := Lib.hid h0
      replace hx := Lib.hid hx
      replace hxm := Lib.hid hxm
      replace hxi := Lib.hid hxi
      replace hkm := Lib.hid hkm
      replace hln := Lib.hid hln
      replace hmW := Lib.hid hmW
      replace ho := Lib.hid ho
      go_upto_region 9 with fail
      obtain ⟨IA, hIA⟩ : ∃ IA, x.insA = IA := ⟨_, rfl⟩
      rw [hIA] at q4 hxi
      replace hIA := Lib.hid hIA
      go_wp2_with fail
      have hbp : Hid (Below w.heap.size w (wr.setCell ⟨ts + 1, 0, none⟩ (.slice (some ⟨gq, 0, none⟩) st'.length cq))) := Lib.hid (Below.setCell hbw (by have := ho.out; show w.heap.size ≤ ts + 1; omega) _)
      go_loopw [43] (fun vi wr => ∃ (p : Nat) (m2 : List Bool) (st2 : List Nat), p ≤ x.ins.length ∧ vi = .int .i64 (p : Int) ∧ Vis (l.map Lkr.h) run wr w.heap.size tm (w.heap.size + 1) ts (tm + 1) (ts + 1) l.length m2 st2 ∧ Dfs (l.map Lkr.h) run nm m2 st2 (· = k) ∧ m2[k]? = some true ∧ (∀ y ∈ x.ins.take p, InM (l.map Lkr.h) run m2 y) ∧ (hasL (l.map Lkr.h) run nm = true → m2[idxL (l.map Lkr.h) run nm]? = some true) ∧ 2 * muM m2 + st2.length ≤ 2 * muM m + st'.length ∧ Below w.heap.size w wr) (fun vi _ => x.ins.length - (intOf vi).toNat)
      case atStart => exact ⟨0, m, st', Nat.zero_le _, rfl, hv2.out, hd2.out, hkm.out, (fun y hy => absurd hy (by simp)), h0.out, Nat.le_refl _, hbp.out⟩
      case round =>
        clear hbp hv hd h0 hd2 hv2 k1 k4 f1 q4 hz
        replace hbw := Lib.hid hbw
        obtain ⟨p, m2, st2, hp, rfl, hv, hd, hkm2, hin, h0, hmu2, hbr⟩ := hrel
        have hz := hbr.size
        have hln2 := Lib.hid hv.len
        by_cases hpl : p < x.ins.length
        · obtain ⟨y, hy⟩ := get_some hpl
          obtain ⟨gi, oi, rfl, hgi, hq⟩ := hxi.out (by omega)
          have r0 := (hbr.cell (p := ⟨gi, oi + p * 3 + 0, none⟩) hgi).trans (hq p y hy 0 (.string y.name.1) rfl)
          rw [Nat.add_zero] at r0
          have r1 := (hbr.cell (p := ⟨gi, oi + p * 3 + 1, none⟩) hgi).trans (hq p y hy 1 (.int .u64 y.digest.1) rfl)
          have r2 := (hbr.cell (p := ⟨gi, oi + p * 3 + 2, none⟩) hgi).trans (hq p y hy 2 (.int .i64 y.size.1) rfl)
          clear hq
          have p0 : (0 : Int) ≤ (p : Int) := by omega
          have p1 : (p : Int) < (x.ins.length : Int) := by omega
          have hgr : gi < wr.heap.size := by omega
          have hym := List.mem_of_getElem? hy
          have har0 := fun W (hb : Below w.heap.size w W) => artifact_any y.name W (hGl.out.keep hb) (hxn.out y hym)
          have htk := take_at hy
          rcases ha : artB y.name with _ | _
          · have hin2 : Hid (∀ z ∈ x.ins.take (p + 1), InM (l.map Lkr.h) run m2 z) := Lib.hid fun z hz => by
              rw [htk] at hz
              rcases List.mem_append.1 hz with h | h
              · exact hin z h
              · obtain rfl := List.mem_singleton.1 h
                intro h1
                rw [ha] at h1
                cases h1
            rw [ha] at har0
            have har := Lib.hid har0
            clear har0
            replace hy := Lib.hid hy
            replace ha := Lib.hid ha
            replace htk := Lib.hid htk
            replace hin := Lib.hid hin
            replace hv := Lib.hid hv
            replace hd := Lib.hid hd
            replace h0 := Lib.hid h0
            replace hkm2 := Lib.hid hkm2
            go_wp2_with (go_at_call 66; go_must (refine (har.out _ (by repeat (first | (with_reducible exact Below.refl _ _) | (with_reducible refine Below.drew ?_) | (with_reducible refine below_drewN ?_ _) | ((with_reducible refine Below.alloc ?_ ?_ _); rotate_left; focus ((try simp) <;> omega)) | ((with_reducible refine Below.setCell ?_ ?_ _); rotate_left; focus ((try simp) <;> omega)) | ((with_reducible refine Below.trans ?_ (Below.mono (by assumption) ?_)); rotate_left; focus ((try simp) <;> omega))))).mono ?_; rintro e w7 ⟨rfl, hb7⟩; have hz7 := hb7.size; (try simp at hz7); have hk7 : wr.heap.size < w7.heap.size := (by omega); obtain ⟨hc7, hf7⟩ := blk_at hb7 wr.heap.size (by (try simp) <;> omega)))
            go_roundw
            case rel => exact ⟨p + 1, m2, st2, by omega, by go_num, hv.out.below (show Below wr.heap.size wr w7 from (by repeat (first | (with_reducible exact Below.refl _ _) | (with_reducible refine Below.drew ?_) | (with_reducible refine below_drewN ?_ _) | ((with_reducible refine Below.alloc ?_ ?_ _); rotate_left; focus ((try simp) <;> omega)) | ((with_reducible refine Below.setCell ?_ ?_ _); rotate_left; focus ((try simp) <;> omega)) | ((with_reducible refine Below.trans ?_ (Below.mono (by assumption) ?_)); rotate_left; focus ((try simp) <;> omega))))), hd.out, hkm2.out, hin2.out, h0.out, hmu2, (by repeat (first | (with_reducible exact Below.refl _ _) | (with_reducible refine Below.drew ?_) | (with_reducible refine below_drewN ?_ _) | ((with_reducible refine Below.alloc ?_ ?_ _); rotate_left; focus ((try simp) <;> omega)) | ((with_reducible refine Below.setCell ?_ ?_ _); rotate_left; focus ((try simp) <;> omega)) | ((with_reducible refine Below.trans ?_ (Below.mono (by assumption) ?_)); rotate_left; focus ((try simp) <;> omega))))⟩
            case measure => simp [intOf]; omega
          · have hs := hd.input hkm2 hxm.out hym ha
            have hd3 := Lib.hid (hd.visit hs)
            have hkm3 : Hid ((visM (l.map Lkr.h) run y.name m2)[k]? = some true) := Lib.hid (visM_true hkm2)
            have hmu3 := vis_mu (ls := l.map Lkr.h) (run := run) (s := y.name) (m := m2) (st := st2)
            have h03 : Hid (hasL (l.map Lkr.h) run nm = true → (visM (l.map Lkr.h) run y.name m2)[idxL (l.map Lkr.h) run nm]? = some true) := Lib.hid fun h => visM_true (h0 h)
            have hin2 : Hid (∀ z ∈ x.ins.take (p + 1), InM (l.map Lkr.h) run (visM (l.map Lkr.h) run y.name m2) z) := Lib.hid fun z hz => by
              rw [htk] at hz
              rcases List.mem_append.1 hz with h | h
              · exact (hin z h).vis
              · obtain rfl := List.mem_singleton.1 h
                intro h1 h2
                exact visM_at hln2.out h2
            rw [ha] at har0
            have har := Lib.hid har0
            clear har0
            have hst2 : st2.length ≤ 3000000 := by omega
            have ho2 := hv.ord
            replace hy := Lib.hid hy
            replace hym := Lib.hid hym
            replace ha := Lib.hid ha
            replace hs := Lib.hid hs
            replace htk := Lib.hid htk
            replace hin := Lib.hid hin
            replace hv := Lib.hid hv
            replace hd := Lib.hid hd
            replace h0 := Lib.hid h0
            replace hkm2 := Lib.hid hkm2
            have tsr : tm + 1 < wr.heap.size := by omega
            replace ho2 := Lib.hid ho2
            go_wp2_with (first
              | (go_at_call 66; go_must (refine (har.out _ (by repeat (first | (with_reducible exact Below.refl _ _) | (with_reducible refine Below.drew ?_) | (with_reducible refine below_drewN ?_ _) | ((with_reducible refine Below.alloc ?_ ?_ _); rotate_left; focus ((try simp) <;> omega)) | ((with_reducible refine Below.setCell ?_ ?_ _); rotate_left; focus ((try simp) <;> omega)) | ((with_reducible refine Below.trans ?_ (Below.mono (by assumption) ?_)); rotate_left; focus ((try simp) <;> omega))))).mono ?_; rintro e w7 ⟨rfl, hb7⟩; have hz7 := hb7.size; (try simp at hz7); have hk7 : wr.heap.size < w7.heap.size := (by omega); obtain ⟨hc7, hf7⟩ := blk_at hb7 wr.heap.size (by (try simp) <;> omega)))
              | (go_at_fn 72; go_must (refine (visit_any (l.map Lkr.h) run y.name _ w.heap.size tm (w.heap.size + 1) ts (tm + 1) (ts + 1) l.length m2 st2 (hv.out.below (show Below wr.heap.size wr w7 from (by repeat (first | (with_reducible exact Below.refl _ _) | (with_reducible refine Below.drew ?_) | (with_reducible refine below_drewN ?_ _) | ((with_reducible refine Below.alloc ?_ ?_ _); rotate_left; focus ((try simp) <;> omega)) | ((with_reducible refine Below.setCell ?_ ?_ _); rotate_left; focus ((try simp) <;> omega)) | ((with_reducible refine Below.trans ?_ (Below.mono (by assumption) ?_)); rotate_left; focus ((try simp) <;> omega)))))) (by rw [List.length_map]; omega) hst2).mono ?_; rintro e w8 ⟨rfl, hv8, hb8⟩; have hz8 := hb8.size; replace hv8 := Lib.hid hv8)))
            go_roundw
            case rel => exact ⟨p + 1, _, _, by omega, by go_num, hv8.out, hd3.out, hkm3.out, hin2.out, h03.out, by omega, (by repeat (first | (with_reducible exact Below.refl _ _) | (with_reducible refine Below.drew ?_) | (with_reducible refine below_drewN ?_ _) | ((with_reducible refine Below.alloc ?_ ?_ _); rotate_left; focus ((try simp) <;> omega)) | ((with_reducible refine Below.setCell ?_ ?_ _); rotate_left; focus ((try simp) <;> omega)) | ((with_reducible refine Below.trans ?_ (Below.mono (by assumption) ?_)); rotate_left; focus ((try simp) <;> omega))))⟩
            case measure => simp [intOf]; omega
        · have p1 : ¬ (p : Int) < (x.ins.length : Int) := by omega
          have hclo : Clo (l.map Lkr.h) run m2 k := fun z hz y hy => by
            rw [hxm.out] at hz
            obtain rfl : x.h = z := by simpa using hz
            refine hin y ?_
            rw [List.take_of_length_le (by omega)]
            exact hy
          have hd4 := Lib.hid (hd.done hclo)
          have hm4 : muW (l.map Lkr.h).length (tm + 1) (ts + 1) wr = 2 * muM m2 + st2.length := hv.mu
          replace hd := Lib.hid hd
          replace hin := Lib.hid hin
          replace hclo := Lib.hid hclo
          replace hv := Lib.hid hv
          replace h0 := Lib.hid h0
          replace hkm2 := Lib.hid hkm2
          replace hm4 := Lib.hid hm4
          go_wp2_with fail
          go_roundw
          case rel => exact ⟨m2, st2, hv.out, hd4.out, h0.out, by omega, hbr⟩
          case measure =>
            rw [hm4.out, hmW.out]
            omega
end Go.Proofs.YtjkijknjngiieaaGreatDoor
