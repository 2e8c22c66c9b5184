/-
  The walks of histories: the measured samples, by the program.
-/
import Derived.Test.YtddepmelnemniaaDoorHis25


namespace Go.Proofs.YtddepmelnemniaaDoor
open Go.RowKit

set_option maxRecDepth 100000 in
set_option maxHeartbeats 4000000 in
theorem dels_any (g cap : Nat) (l : List Samp) (H : Nat) (w : World) (hown : Own sampE 4 42 w H (.slice (some ⟨g, 0, none⟩) l.length cap) l) (hH : H ≤ w.heap.size) (hn : l.length ≤ 1000000) :
    Calls Tryd.prog 23 #[.slice (some ⟨g, 0, none⟩) l.length cap, .func (.func 24) #[] #[]] w fun e w' => e = .returned (.slice (some ⟨g, 0, none⟩) (l.filter isM).length cap) ∧ Own sampE 4 42 w' H (.slice (some ⟨g, 0, none⟩) (l.filter isM).length cap) (l.filter isM) ∧ Below H w w' := by
  have e49 : ∀ args w, (callFunc 24 args).run Tryd.prog w = .ok (.enter 24 args) w := enters_of Tryd.func24 (by kernel_rfl) rfl
  have hgw := (hown.lt g rfl).2
  have hHg := (hown.lt g rfl).1
  obtain ⟨_, hlc, hcm, _⟩ := own_block hown
  unfold maxLen at hcm
  have hix := idxs_any (some ⟨g, 0, none⟩) cap l w (hown.reads sampE_len) (by omega)
  rcases skip_cases l with ⟨hs, hsame⟩ | ⟨k, x, hkl, hk, hxk, hxm, hpre⟩
  · rw [hsame]
    rw [hs] at hix
    have hixh := Lib.hid hix
    have hfin : Hid (∀ w2, Below w.heap.size w w2 → Own sampE 4 42 w2 H (.slice (some ⟨g, 0, none⟩) l.length cap) l ∧ Below H w w2) := Lib.hid fun w2 hb => ⟨hown.all hb, hb.mono hH⟩
    clear hix hown hsame
    replace hs := Lib.hid hs
    go_enter Tryd.func23, Tryd.ntmps23
    go_wp2_with (go_at_call 39; go_must (refine hixh.out.mono ?_; rintro e w1 ⟨rfl, hb1⟩; have hz1 := hb1.size))
    go_ret
    exact ⟨rfl, hfin.out _ (by repeat (first | (with_reducible exact Below.refl _ _) | (with_reducible refine Below.drew ?_) | (with_reducible refine below_drewN ?_ _) | ((with_reducible refine Below.alloc ?_ ?_ _); rotate_left; focus ((try simp) <;> omega)) | ((with_reducible refine Below.setCell ?_ ?_ _); rotate_left; focus ((try simp) <;> omega)) | ((with_reducible refine Below.trans ?_ (Below.mono (by assumption) ?_)); rotate_left; focus ((try simp) <;> omega))))⟩
  · have hks : (k : Int) ≠ -1 := by omega
    rw [hk] at hix
    have hmid0 : Hid (∀ w2, Below w.heap.size w w2 → MidF w w2 H g cap l l k (k + 1)) := Lib.hid fun w2 hb => by
      have hs := filter_take hxk
      rw [if_neg (by rw [hxm]; decide), List.append_nil, hpre] at hs
      exact ⟨rfl, by rw [hs, List.length_take]; omega, hs.symm, fun _ _ => rfl, hown.all hb, hb.mono hH⟩
    have hixh := Lib.hid hix
    have hkb : (((k : Int) == -1) = false) := by rw [beq_eq_false_iff_ne]; exact hks
    clear hix
    replace hown := Lib.hid hown
    replace hk := Lib.hid hk
    replace hxk := Lib.hid hxk
    replace hxm := Lib.hid hxm
    replace hpre := Lib.hid hpre
    go_enter Tryd.func23, Tryd.ntmps23
    go_wp2_with (go_at_call 39; go_must (refine hixh.out.mono ?_; rintro e w1 ⟨rfl, hb1⟩; have hz1 := hb1.size; have hmid1 := Lib.hid (hmid0.out w1 hb1)))
    go_loopw [5, 6, 7] (fun vi vj _ wr => ∃ (i j : Nat) (cur : List Samp), vi = .int .i64 (i : Int) ∧ vj = .int .i64 (j : Int) ∧ j ≤ l.length ∧ i < j ∧ MidF w wr H g cap l cur i j) (fun _ vj _ _ => l.length - (intOf vj).toNat)
    case atStart => exact ⟨k, k + 1, l, rfl, by go_num, by omega, by omega, hmid1.out⟩
    case round =>
      obtain ⟨i, j, cur, rfl, rfl, hj, hij, hmid⟩ := hrel
      have hgr : g < wr.heap.size := (hmid.own.lt g rfl).2
      have hfz : ∀ t, wr.frozen? ⟨g, t, none⟩ = false := fun t => by
        have h := hmid.own
        rw [← hmid.len] at h
        exact World.ownsRow.frozenAt h t
      by_cases hjl : j < l.length
      · obtain ⟨x, hx⟩ := get_some hjl
        have hxc : cur[j]? = some x := (hmid.rest j (Nat.le_refl _)).trans hx
        obtain ⟨z, hzc⟩ := get_some (show i < cur.length by rw [hmid.len]; omega)
        obtain ⟨q0, q1, q2, q3⟩ := own_cells4 hmid.own hxc
        obtain ⟨s0, s1, s2, s3⟩ := own_cells4 hmid.own hzc
        have i0 : (0 : Int) ≤ (j : Int) := by omega
        have i1 : (j : Int) < (l.length : Int) := by omega
        have i2 : (0 : Int) ≤ (i : Int) := by omega
        have i3 : (i : Int) < (l.length : Int) := by omega
        have hcx := meas1_any x
        have ne1 : g ≠ wr.heap.size := by omega
        have ne2 : wr.heap.size ≠ g := by omega
        rcases he : isM x with _ | _
        · have hnx := Lib.hid fun (w2 : World) (hb : Below wr.heap.size wr w2) => hmid.skip hx he hb (by omega)
          rw [he] at hcx
          have hcl := Lib.hid hcx
          clear hcx
          replace hmid := Lib.hid hmid
          replace hx := Lib.hid hx
          replace he := Lib.hid he
          replace hxc := Lib.hid hxc
          replace hzc := Lib.hid hzc
          go_wp2_with (go_at_fn 24; go_must (refine (hcl.out _).mono ?_; rintro e w2 ⟨rfl, hb2⟩; have hz2 := hb2.size; (try simp at hz2)))
          go_roundw
          case rel => exact ⟨i, j + 1, cur, rfl, by go_num, by omega, by omega, hnx.out _ (by repeat (first | (with_reducible exact Below.refl _ _) | (with_reducible refine Below.drew ?_) | (with_reducible refine below_drewN ?_ _) | ((with_reducible refine Below.alloc ?_ ?_ _); rotate_left; focus ((try simp) <;> omega)) | ((with_reducible refine Below.setCell ?_ ?_ _); rotate_left; focus ((try simp) <;> omega)) | ((with_reducible refine Below.trans ?_ (Below.mono (by assumption) ?_)); rotate_left; focus ((try simp) <;> omega))))⟩
          case measure => simp [intOf]; omega
        · have hnx := Lib.hid fun (w2 : World) (hb : Below wr.heap.size wr w2) => hmid.keep hx hij he hb hHg (by omega)
          rw [he] at hcx
          have hcl := Lib.hid hcx
          clear hcx
          replace hmid := Lib.hid hmid
          replace hx := Lib.hid hx
          replace he := Lib.hid he
          replace hxc := Lib.hid hxc
          replace hzc := Lib.hid hzc
          go_wp2_with (go_at_fn 24; go_must (refine (hcl.out _).mono ?_; rintro e w2 ⟨rfl, hb2⟩; have hz2 := hb2.size; (try simp at hz2); obtain ⟨hc2, hf2⟩ := blk_at hb2 g (by (try simp) <;> omega); obtain ⟨hd2, he2⟩ := blk_at hb2 wr.heap.size (by (try simp) <;> omega); have hnx2 := Lib.hid (hnx.out w2 (by repeat (first | (with_reducible exact Below.refl _ _) | (with_reducible refine Below.drew ?_) | (with_reducible refine below_drewN ?_ _) | ((with_reducible refine Below.alloc ?_ ?_ _); rotate_left; focus ((try simp) <;> omega)) | ((with_reducible refine Below.setCell ?_ ?_ _); rotate_left; focus ((try simp) <;> omega)) | ((with_reducible refine Below.trans ?_ (Below.mono (by assumption) ?_)); rotate_left; focus ((try simp) <;> omega)))))))
          go_roundw
          case rel => exact ⟨i + 1, j + 1, _, by go_num, by go_num, by omega, by omega, hnx2.out⟩
          case measure => simp [intOf]; omega
      · have hjl2 : j = l.length := by omega
        have i1 : ¬ (j : Int) < (l.length : Int) := by omega
        have hil : i < l.length := by omega
        have hfin := hmid.pos
        have hhd := hmid.head
        rw [hjl2, List.take_length] at hfin hhd
        have i0 : (0 : Int) ≤ (i : Int) := by omega
        have i2 : (i : Int) ≤ (l.length : Int) := by omega
        have i3 : (i : Int) ≤ (cap : Int) := by omega
        have i4 : ¬ cap = i := by omega
        obtain ⟨vs, hcl⟩ := run_clear_samps wr g (i * 4) (l.length - i) (cap - i) (by omega) (fun t ht => by
          have h := hmid.own
          rw [← hmid.len] at h
          have ht2 : i * 4 + t < cur.length * 4 := by rw [hmid.len]; omega
          rw [World.ownsRow.cellAt h (i * 4 + t) (by simpa using ht2)]
          rw [List.getElem?_eq_getElem (by rw [flat_len sampE_len]; exact ht2)]
          rfl) (fun t _ => hfz _)
        have hown2 := Lib.hid (own_cut (l := cur) (r := l.filter isM) (g := g) (cap := cap) (H := H) (w := wr) (by have h := hmid.own; rw [← hmid.len] at h; exact h) (by rw [← hfin]; exact hhd) vs)
        have hbl2 := Lib.hid (below_setCells g hHg vs (i * 4) wr hmid.bel)
        rw [← hfin] at hown2
        replace hmid := Lib.hid hmid
        replace hfin := Lib.hid hfin
        replace hhd := Lib.hid hhd
        go_wp2_with fail
        go_ret
        rw [← hfin.out]
        exact ⟨rfl, hown2.out, hbl2.out⟩
set_option maxRecDepth 100000 in
set_option maxHeartbeats 2000000 in
/-- The measured samples in new memory. -/
theorem measured_any (x : Hst) (w : World) (hx : LabHst w w.heap.size x) (hn : x.l.length ≤ 1000000) :
    Calls Tryd.prog 11 #[.agg #[.string x.name.1, .slice x.lA x.l.length x.lC]] w fun e w' => ∃ A c, e = .returned (.slice A (x.l.filter isM).length c) ∧ Own sampE 4 42 w' w.heap.size (.slice A (x.l.filter isM).length c) (x.l.filter isM) ∧ Below w.heap.size w w' := by
  obtain ⟨inf, hi0, iz0, iz1, iz2⟩ := info_parts samp_info
  have hsz : (Tryd.prog.info? 42).map (·.size) = some 4 := by rw [hi0]; simp [iz1]
  have hrd : Hid (Rw sampE 4 w w.heap.size x.lA x.l) := Lib.hid hx.2.2
  have hdl := Lib.hid fun (g : Nat) (W : World) => dels_any g x.l.length x.l w.heap.size W
  clear hx
  go_enter Tryd.func11, Tryd.ntmps11
  go_wp2_with (first
    | (at_make
       refine wpList_make_full _ rfl (.tmp 6) (.tmp 6) _ rfl w.heap.size 42 inf _ 4 Tryd.underlying22 hi0 iz0 iz1 _ _ _ _ x.l.length rfl rfl rfl rfl (by rw [iz2]; omega) (by simp [maxLen]; omega) (by (try simp) <;> omega) ?_
       intro w2 hown2 hg2
       have hz2 := hg2.size
       (try simp at hz2)
       simp only [World.size_alloc] at hown2
       obtain ⟨c2, f2⟩ := grown_blk hg2 w.heap.size (by (try simp) <;> omega) nofun)
    | (refine wpList_copy_made (o := Oper.mk (some 11) _ _ _ _ _) rfl (.tmp 8) (.tmp 10) _ _ rfl sampE_len sampE_one 42 Tryd.underlying22 hsz w.heap.size _ x.l.length _ hown2 w.heap.size x.lA x.lC x.l (hrd.out.below (show Below w.heap.size w w2 from Below.grown (by repeat (first | (with_reducible exact Below.refl _ _) | (with_reducible refine Below.drew ?_) | (with_reducible refine below_drewN ?_ _) | ((with_reducible refine Below.alloc ?_ ?_ _); rotate_left; focus ((try simp) <;> omega)) | ((with_reducible refine Below.setCell ?_ ?_ _); rotate_left; focus ((try simp) <;> omega)) | ((with_reducible refine Below.trans ?_ (Below.mono (by assumption) ?_)); rotate_left; focus ((try simp) <;> omega)))) hg2 (by (try simp) <;> omega) nofun) (Nat.le_refl _)) rfl rfl rfl ?_
       intro w3 hown3 hg3
       have hz3 := hg3.size
       have hb3 : Below w.heap.size w w3 := ((show Below w.heap.size w w2 from Below.grown (by repeat (first | (with_reducible exact Below.refl _ _) | (with_reducible refine Below.drew ?_) | (with_reducible refine below_drewN ?_ _) | ((with_reducible refine Below.alloc ?_ ?_ _); rotate_left; focus ((try simp) <;> omega)) | ((with_reducible refine Below.setCell ?_ ?_ _); rotate_left; focus ((try simp) <;> omega)) | ((with_reducible refine Below.trans ?_ (Below.mono (by assumption) ?_)); rotate_left; focus ((try simp) <;> omega)))) hg2 (by (try simp) <;> omega) nofun).grown hg3 (by omega) (fun g hg => by simp [] at hg; omega)))
    | (go_at_call 23; go_must (refine (hdl.out _ _ hown3 hb3.size hn).mono ?_; rintro e w4 ⟨rfl, hown4, hb4⟩)))
  go_ret
  exact ⟨_, _, rfl, hown4, hb3.trans hb4⟩
end Go.Proofs.YtddepmelnemniaaDoor
