/-
  The walks of provenance: chains and sources, by the program.
-/
import Derived.Test.YtjkijknjngiieaaGreatDoorPrw10


namespace Go.Proofs.YtjkijknjngiieaaGreatDoor
open Go.RowKit

/-- The first of the links that marks take. -/
def takM (ls : List Lnk) (m : List Bool) (k : Nat) : List Lnk := ((List.range k).filter fun i => m[i]?.getD false).map fun i => ls[i]!
theorem takM_yes {ls : List Lnk} {m : List Bool} {k : Nat} {x : Lnk} (h : m[k]? = some true) (hx : ls[k]? = some x) : takM ls m (k + 1) = takM ls m k ++ [x] := by
  unfold takM
  rw [List.range_succ, List.filter_append, List.map_append, List.filter_cons_of_pos (by rw [h]; rfl)]
  rw [List.filter_nil, List.map_cons, List.map_nil, get_bang hx]
theorem takM_no {ls : List Lnk} {m : List Bool} {k : Nat} (h : m[k]? = some false) : takM ls m (k + 1) = takM ls m k := by
  unfold takM
  rw [List.range_succ, List.filter_append, List.map_append, List.filter_cons_of_neg (by rw [h]; decide)]
  simp
theorem takM_all {ls : List Lnk} {run nm : Str} {m : List Bool} (h : Marks ls run nm m) : takM ls m ls.length = chainL ls run nm := by
  unfold takM chainL
  rw [marks_chain h]
theorem takM_len (ls : List Lnk) (m : List Bool) (k : Nat) : (takM ls m k).length ≤ k := by
  unfold takM
  rw [List.length_map]
  have := List.length_filter_le (fun i => m[i]?.getD false) (List.range k)
  rwa [List.length_range] at this
set_option maxRecDepth 100000 in
set_option maxHeartbeats 8000000 in
theorem chain_any (A : Option Addr) (c : Nat) (l : List Lkr) (run nm : Str) (w : World) (hr : RwL w w.heap.size A l) (hm : MildL l) (hG : Glob w) :
    Calls Tryz.prog 19 #[.slice A l.length c, .string run.1, .string nm.1] w fun e w' => ∃ A' c' l', e = .returned (.slice A' l'.length c') ∧ OwnL w' w.heap.size (.slice A' l'.length c') l' ∧ l'.map Lkr.h = chainL (l.map Lkr.h) run nm ∧ Below w.heap.size w w' := by
  obtain ⟨inf, hi0, iz0, iz1, iz2⟩ := info_parts lkr_info
  have hre := Lib.hid (reached_any A c l run nm w hr hm hG)
  have hcp : Hid (∀ y ∈ l, ∀ W, Below w.heap.size w W → Calls Tryz.prog 32 #[.agg #[.string y.run.1, .string y.job.1, .int .i64 y.attempt.1, .int .u64 y.spec.1, .slice y.insA y.ins.length y.insC, .string y.name.1, .int .u64 y.digest.1, .int .i64 y.size.1]] W fun e w' => ∃ A' C', e = .returned (.agg #[.string (atIns y A' C').run.1, .string (atIns y A' C').job.1, .int .i64 (atIns y A' C').attempt.1, .int .u64 (atIns y A' C').spec.1, .slice (atIns y A' C').insA (atIns y A' C').ins.length (atIns y A' C').insC, .string (atIns y A' C').name.1, .int .u64 (atIns y A' C').digest.1, .int .i64 (atIns y A' C').size.1]) ∧ Own outRE 3 29 w' W.heap.size (.slice A' y.ins.length C') y.ins ∧ Below W.heap.size W w') := Lib.hid fun y hy W hb => link_any y W (((hr.labs y hy).below hb (Nat.le_refl _)).more hb.size) (hm.each y hy).len
  have hrow := Lib.hid hr.row
  have hlen := hm.len
  clear hr hm hG
  go_enter Tryz.func19, Tryz.ntmps19
  go_wp2_with (go_at_call 40; go_must (refine hre.out.mono ?_; rintro e w1 ⟨g1, m, rfl, hrw1, hmk, hb1⟩; have hz1 := hb1.size; replace hrw1 := Lib.hid hrw1; replace hmk := Lib.hid hmk))
  have hml : m.length = l.length := by have h := hmk.out.1; rwa [List.length_map] at h
  have hmc : Hid (∀ (k : Nat) (b : Bool) (W : World), m[k]? = some b → Below w1.heap.size w1 W → W.cell? ⟨g1, k, none⟩ = some (.bool b)) := Lib.hid (fun k b W hk hb => by
    have hkl := (List.getElem?_eq_some_iff.1 hk).1
    obtain ⟨gg, o, e, hg, hc⟩ := (Own.reads bE_len hrw1.out) (by omega)
    simp only [Option.some.injEq, Addr.mk.injEq, and_true] at e
    obtain ⟨rfl, rfl⟩ := e
    have h := (hb.cell (p := ⟨g1, 0 + k * 1 + 0, none⟩) hg).trans (hc k b hk 0 _ rfl)
    simpa using h)
  go_loopw [7, 15] (fun vo vi wr => ∃ (k : Nat) (cur : List Lkr), k ≤ l.length ∧ vi = .int .i64 (k : Int) ∧ OwnL wr w1.heap.size vo cur ∧ cur.length ≤ k ∧ cur.map Lkr.h = takM (l.map Lkr.h) m k ∧ Below w1.heap.size w1 wr) (fun _ vi _ => l.length - (intOf vi).toNat)
  case atStart => exact ⟨0, [], Nat.zero_le _, rfl, OwnL.nil _ _, Nat.le_refl _, rfl, Below.refl _ _⟩
  case round =>
    obtain ⟨k, cur, hk, rfl, hown, hcl, hcm, hbw⟩ := hrel
    have hz := hbw.size
    have hbw0 : Hid (Below w.heap.size w wr) := Lib.hid (hb1.trans (hbw.mono hz1))
    by_cases hkl : k < l.length
    · obtain ⟨b, hb⟩ := get_some (show k < m.length by omega)
      have hmb := hmc.out k b wr hb hbw
      have i0 : (0 : Int) ≤ (k : Int) := by omega
      have i1 : (k : Int) < (l.length : Int) := by omega
      rcases b with _ | _
      · have hnx := Lib.hid (hcm.trans (takM_no (ls := l.map Lkr.h) hb).symm)
        replace hb := Lib.hid hb
        replace hcm := Lib.hid hcm
        replace hown := Lib.hid hown
        go_wp2_with fail
        go_roundw
        case rel => exact ⟨k + 1, cur, hkl, by go_num, hown.out, by omega, hnx.out, hbw⟩
        case measure => simp [intOf]; omega
      · obtain ⟨y, hy⟩ := get_some hkl
        have hym : (l.map Lkr.h)[k]? = some y.h := by rw [List.getElem?_map, hy]; rfl
        obtain ⟨g, o, rfl, hg, hq⟩ := hrow.out (by omega)
        have q0 := (hbw0.out.cell (p := ⟨g, o + k * 8 + 0, none⟩) hg).trans (hq k y hy 0 (.string y.run.1) rfl)
        rw [Nat.add_zero] at q0
        have q1 := (hbw0.out.cell (p := ⟨g, o + k * 8 + 1, none⟩) hg).trans (hq k y hy 1 (.string y.job.1) rfl)
        have q2 := (hbw0.out.cell (p := ⟨g, o + k * 8 + 2, none⟩) hg).trans (hq k y hy 2 (.int .i64 y.attempt.1) rfl)
        have q3 := (hbw0.out.cell (p := ⟨g, o + k * 8 + 3, none⟩) hg).trans (hq k y hy 3 (.int .u64 y.spec.1) rfl)
        have q4 := (hbw0.out.cell (p := ⟨g, o + k * 8 + 4, none⟩) hg).trans (hq k y hy 4 (.slice y.insA y.ins.length y.insC) rfl)
        have q5 := (hbw0.out.cell (p := ⟨g, o + k * 8 + 5, none⟩) hg).trans (hq k y hy 5 (.string y.name.1) rfl)
        have q6 := (hbw0.out.cell (p := ⟨g, o + k * 8 + 6, none⟩) hg).trans (hq k y hy 6 (.int .u64 y.digest.1) rfl)
        have q7 := (hbw0.out.cell (p := ⟨g, o + k * 8 + 7, none⟩) hg).trans (hq k y hy 7 (.int .i64 y.size.1) rfl)
        clear hq
        have hc2 := Lib.hid fun W hb => hcp.out y (List.mem_of_getElem? hy) W hb
        have hnx : Hid (∀ z : Lkr, z.h = y.h → (cur ++ [z]).map Lkr.h = takM (l.map Lkr.h) m (k + 1)) := Lib.hid fun z hz => by
          rw [takM_yes hb hym, List.map_append, hcm]
          simp [hz]
        have hvlt := Lib.hid hown.row.lt
        replace hb := Lib.hid hb
        replace hy := Lib.hid hy
        replace hym := Lib.hid hym
        replace hcm := Lib.hid hcm
        replace hown := Lib.hid hown
        have hbw1 := hbw0.out
        go_wp2_with (first
          | (go_at_call 32; go_must (refine (hc2.out _ (by repeat (first | (with_reducible exact Below.refl _ _) | (with_reducible refine Below.drew ?_) | (with_reducible refine below_drewN ?_ _) | ((with_reducible refine Below.alloc ?_ ?_ _); rotate_left; focus ((try simp) <;> omega)) | ((with_reducible refine Below.setCell ?_ ?_ _); rotate_left; focus ((try simp) <;> omega)) | ((with_reducible refine Below.trans ?_ (Below.mono (by assumption) ?_)); rotate_left; focus ((try simp) <;> omega))))).mono ?_; rintro e w2 ⟨A2, C2, rfl, ho2, hb2⟩; have hz2 := hb2.size; (try simp at hz2)))
          | (at_builtin
             refine wpList_append_rw _ rfl (.tmp 21) (.tmp 27) _ rfl lkrE_len lkrE_one w1.heap.size 31 inf _ 104 Tryz.underlying22 hi0 iz0 iz1 iz2 rfl (by omega) _ cur rfl ((hown.out.row.all (show Below wr.heap.size wr w2 from (by repeat (first | (with_reducible exact Below.refl _ _) | (with_reducible refine Below.drew ?_) | (with_reducible refine below_drewN ?_ _) | ((with_reducible refine Below.alloc ?_ ?_ _); rotate_left; focus ((try simp) <;> omega)) | ((with_reducible refine Below.setCell ?_ ?_ _); rotate_left; focus ((try simp) <;> omega)) | ((with_reducible refine Below.trans ?_ (Below.mono (by assumption) ?_)); rotate_left; focus ((try simp) <;> omega)))))).alloc _) (w2.heap.size + 1) (some ⟨w2.heap.size, 0, none⟩) 1 1 [atIns y A2 C2] rfl rfl (rw_lkr rfl (by omega)) ?_ ?_ ?_ ?_
             · (try simp [maxLen]) <;> omega
             · (try simp) <;> omega
             · (try simp) <;> omega
             intro v4 w4 hown4 hg4 hat4
             have hz4 := hg4.size
             (try simp at hz4)))
        go_roundw
        case rel =>
          have hO : OwnL w4 w1.heap.size v4 (cur ++ [atIns y A2 C2]) := by
            refine OwnL.grown ((hown.out.all (show Below wr.heap.size wr w2 from (by repeat (first | (with_reducible exact Below.refl _ _) | (with_reducible refine Below.drew ?_) | (with_reducible refine below_drewN ?_ _) | ((with_reducible refine Below.alloc ?_ ?_ _); rotate_left; focus ((try simp) <;> omega)) | ((with_reducible refine Below.setCell ?_ ?_ _); rotate_left; focus ((try simp) <;> omega)) | ((with_reducible refine Below.trans ?_ (Below.mono (by assumption) ?_)); rotate_left; focus ((try simp) <;> omega)))))).all (show Below w2.heap.size w2 _ from (Below.refl _ _).alloc (Nat.le_refl _) _)) hown4 hg4 fun z hz => ?_
            rcases List.mem_append.1 hz with h | h
            · exact .inl h
            · obtain rfl := List.mem_singleton.1 h
              exact .inr ((own_labl y ho2).all ((Below.refl _ _).alloc (Nat.le_refl _) _))
          have hbb : Below w1.heap.size wr w4 := Below.grown (Below.mono (B := wr.heap.size) (show Below wr.heap.size wr _ from (by repeat (first | (with_reducible exact Below.refl _ _) | (with_reducible refine Below.drew ?_) | (with_reducible refine below_drewN ?_ _) | ((with_reducible refine Below.alloc ?_ ?_ _); rotate_left; focus ((try simp) <;> omega)) | ((with_reducible refine Below.setCell ?_ ?_ _); rotate_left; focus ((try simp) <;> omega)) | ((with_reducible refine Below.trans ?_ (Below.mono (by assumption) ?_)); rotate_left; focus ((try simp) <;> omega))))) (by omega)) hg4 (by (try simp) <;> omega) (fun q hq => (hvlt.out q hq).1)
          exact ⟨k + 1, _, hkl, by go_num, hO, by rw [List.length_append, List.length_singleton]; omega, hnx.out _ rfl, hbw.trans hbb⟩
        case measure => simp [intOf]; omega
    · have i1 : ¬ (k : Int) < (l.length : Int) := by omega
      have hfin : cur.map Lkr.h = chainL (l.map Lkr.h) run nm := by
        rw [hcm, show k = (l.map Lkr.h).length by rw [List.length_map]; omega]
        exact takM_all hmk.out
      obtain ⟨A4, c4, e4, _, _, _⟩ := hown.row.form
      subst e4
      replace hfin := Lib.hid hfin
      replace hcm := Lib.hid hcm
      replace hown := Lib.hid hown
      go_wp2_with fail
      go_ret
      exact ⟨A4, c4, cur, rfl, hown.out.base hz1, hfin.out, hbw0.out⟩
end Go.Proofs.YtjkijknjngiieaaGreatDoor
