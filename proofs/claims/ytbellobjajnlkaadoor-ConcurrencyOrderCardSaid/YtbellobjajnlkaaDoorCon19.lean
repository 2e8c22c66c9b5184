/-
  The walks of groups: slices.DeleteFunc at jobs: a job taken out of a list of the call's own, in place.
-/
import Derived.Test.YtbellobjajnlkaaDoorCon18


namespace Go.Proofs.YtbellobjajnlkaaDoor
open Go.RowKit
attribute [local go_sem ↓] eq_ref ne_ref

theorem put2_row {w : World} {H g cap i n : Nat} {l : List JRef} {x : JRef} (hown : Own jRefE 2 29 w H (.slice (some ⟨g, 0, none⟩) n cap) l) (hi : i < l.length) (hn : l.length = n) : Own jRefE 2 29 ((w.setCell ⟨g, i * 2, none⟩ (.string x.run.1)).setCell ⟨g, i * 2 + 1, none⟩ (.string x.job.1)) H (.slice (some ⟨g, 0, none⟩) n cap) (l.set i x) := by
  subst hn
  obtain ⟨z, hz⟩ := get_some hi
  have h0 := set_cell jRefE_len (j := 0) (y := ({ z with run := x.run } : JRef)) (u := .string x.run.1) hown hz (by omega) rfl
  have h1 := set_cell jRefE_len (j := 1) (x := ({ z with run := x.run } : JRef)) (y := x) (u := .string x.job.1) (by rw [List.length_set]; exact h0) (List.getElem?_set_self hi) (by omega) rfl
  simp only [List.set_set, Nat.add_zero, List.length_set] at h1
  exact h1
theorem own_cells2 {w : World} {H g cap n i : Nat} {l : List JRef} {x : JRef} (hown : Own jRefE 2 29 w H (.slice (some ⟨g, 0, none⟩) n cap) l) (hx : l[i]? = some x) : w.cell? ⟨g, i * 2, none⟩ = some (.string x.run.1) ∧ w.cell? ⟨g, i * 2 + 1, none⟩ = some (.string x.job.1) := by
  have hil := (List.getElem?_eq_some_iff.1 hx).1
  obtain ⟨g', o', e', _, q⟩ := hown.reads jRefE_len (by omega)
  simp only [Option.some.injEq, Addr.mk.injEq] at e'
  obtain ⟨rfl, rfl, _⟩ := e'
  have h0 := q i x hx 0 (.string x.run.1) rfl
  have h1 := q i x hx 1 (.string x.job.1) rfl
  rw [Nat.zero_add] at h0 h1
  exact ⟨h0, h1⟩
/-- While the jobs are taken out. -/
structure MidR (w w' : World) (H g cap : Nat) (l cur : List JRef) (r : JRef) (i j : Nat) : Prop where
  len : cur.length = l.length
  pos : i = (outR (l.take j) r).length
  head : cur.take i = outR (l.take j) r
  rest : ∀ t, j ≤ t → cur[t]? = l[t]?
  own : Own jRefE 2 29 w' H (.slice (some ⟨g, 0, none⟩) l.length cap) cur
  but : But w.heap.size (some g) w w'
  bel : Below H w w'
theorem MidR.keep {w w' w2 : World} {H g cap i j : Nat} {l cur : List JRef} {r x : JRef} (h : MidR w w' H g cap l cur r i j) (hx : l[j]? = some x) (hij : i < j) (hxr : ¬ x = r) (hb : Below w'.heap.size w' w2) (hHg : H ≤ g) (hH : H ≤ w.heap.size) :
    MidR w ((w2.setCell ⟨g, i * 2, none⟩ (.string x.run.1)).setCell ⟨g, i * 2 + 1, none⟩ (.string x.job.1)) H g cap l (cur.set i x) r (i + 1) (j + 1) := by
  have hjl := (List.getElem?_eq_some_iff.1 hx).1
  have hs : outR (l.take (j + 1)) r = outR (l.take j) r ++ [x] := by rw [take_at hx, outR_snoc, if_neg hxr]
  have hil : i < cur.length := by rw [h.len]; omega
  refine ⟨by rw [List.length_set]; exact h.len, by rw [hs, List.length_append, ← h.pos]; rfl, ?_, fun t ht => ?_, put2_row (h.own.all hb) hil h.len, ?_, ?_⟩
  · rw [hs, take_set_succ hil, h.head]
  · rw [List.getElem?_set_ne (by omega)]
    exact h.rest t (by omega)
  · have h1 := h.but.below hb h.but.size
    exact ⟨by rw [World.size_setCell, World.size_setCell]; exact h1.size, fun k hk hn => (Below.heap_setCell _ ⟨g, i * 2 + 1, none⟩ _ k (fun e => hn (by rw [e]))).trans ((Below.heap_setCell _ ⟨g, i * 2, none⟩ _ k (fun e => hn (by rw [e]))).trans (h1.block k hk hn))⟩
  · exact ((h.bel.trans (hb.mono (Nat.le_trans hH h.but.size))).setCell hHg _).setCell hHg _
theorem MidR.skip {w w' w2 : World} {H g cap i j : Nat} {l cur : List JRef} {r x : JRef} (h : MidR w w' H g cap l cur r i j) (hx : l[j]? = some x) (hxr : x = r) (hb : Below w'.heap.size w' w2) (hH : H ≤ w.heap.size) :
    MidR w w2 H g cap l cur r i (j + 1) := by
  have hs : outR (l.take (j + 1)) r = outR (l.take j) r := by rw [take_at hx, outR_snoc, if_pos hxr, List.append_nil]
  exact ⟨h.len, by rw [hs]; exact h.pos, by rw [hs]; exact h.head, fun t ht => h.rest t (by omega), h.own.all hb, h.but.below hb h.but.size, h.bel.trans (hb.mono (Nat.le_trans hH h.but.size))⟩
set_option maxRecDepth 100000 in
set_option maxHeartbeats 4000000 in
theorem delr_some (g cap : Nat) (l : List JRef) (r : JRef) (tb H : Nat) (w : World) (hown : Own jRefE 2 29 w H (.slice (some ⟨g, 0, none⟩) l.length cap) l) (hH : H ≤ w.heap.size) (hn : l.length ≤ 1000000) (hc0 : w.cell? ⟨tb, 0, none⟩ = some (.string r.run.1)) (hc1 : w.cell? ⟨tb, 1, none⟩ = some (.string r.job.1)) (hne : tb ≠ g) :
    Calls Tryd.prog 48 #[.slice (some ⟨g, 0, none⟩) l.length cap, .func (.func 49) #[] #[.pointer (some ⟨tb, 0, none⟩)]] w fun e w' => e = .returned (.slice (some ⟨g, 0, none⟩) (outR l r).length cap) ∧ Own jRefE 2 29 w' H (.slice (some ⟨g, 0, none⟩) (outR l r).length cap) (outR l r) ∧ But w.heap.size (some g) w w' ∧ Below H w w' := by
  have e49 : ∀ args w, (callFunc 49 args).run Tryd.prog w = .ok (.enter 49 args) w := enters_of Tryd.func49 (by kernel_rfl) rfl
  have hlt := World.block_lt_of_cell? _ _ hc0
  simp only at hlt
  have hgw := (hown.lt g rfl).2
  have hHg := (hown.lt g rfl).1
  obtain ⟨_, hlc, hcm, _⟩ := own_block hown
  unfold maxLen at hcm
  have hix := idxf_any (some ⟨g, 0, none⟩) cap l r tb w (hown.reads jRefE_len) (by omega) hc0 hc1
  by_cases hm : r ∈ l
  · obtain ⟨k, hk⟩ : ∃ k : Nat, idxI l r = (k : Int) := ⟨(idxI l r).toNat, by have := idx_mem hm; omega⟩
    have hkl : k < l.length := by
      unfold idxI at hk
      split at hk <;> omega
    have hkat : l[k]? = some r ∧ ∀ j y, j < k → l[j]? = some y → y ≠ r := by
      unfold idxI at hk
      rw [if_pos (List.findIdx_lt_length.2 ⟨r, hm, by simp⟩)] at hk
      have hk2 : l.findIdx (fun x => decide (x = r)) = k := by omega
      obtain ⟨h1, h2⟩ := (List.findIdx_eq hkl).1 hk2
      refine ⟨by rw [List.getElem?_eq_getElem hkl, of_decide_eq_true h1], fun j y hj hy e => ?_⟩
      have h3 := h2 j hj
      obtain ⟨_, e2⟩ := List.getElem?_eq_some_iff.1 hy
      rw [e2, e] at h3
      simp at h3
    have hks : (k : Int) ≠ -1 := by omega
    rw [hk] at hix
    have hout : outR (l.take k) r = l.take k := outR_same fun j y hj hy => by
      rw [List.getElem?_take] at hy
      split at hy
      · exact hkat.2 j y (by omega) hy
      · cases hy
    have hmid0 : Hid (∀ w2, Below w.heap.size w w2 → MidR w w2 H g cap l l r k (k + 1)) := Lib.hid fun w2 hb => by
      refine ⟨rfl, ?_, ?_, fun _ _ => rfl, hown.all hb, But.below But.refl hb (Nat.le_refl _), hb.mono hH⟩
      · rw [take_at hkat.1, outR_snoc, if_pos rfl, List.append_nil, hout, List.length_take]; omega
      · rw [take_at hkat.1, outR_snoc, if_pos rfl, List.append_nil, hout]
    have hcl0 : Hid (∀ (x : JRef) wr W, But w.heap.size (some g) w wr → Below wr.heap.size wr W → Calls Tryd.prog 49 #[.agg #[.string x.run.1, .string x.job.1], .pointer (some ⟨tb, 0, none⟩)] W fun e w' => e = .returned (.bool (decide (x = r))) ∧ Below W.heap.size W w') := Lib.hid fun x wr W hbt hb => leave1_any x r tb W ((hb.cell (p := ⟨tb, 0, none⟩) (Nat.lt_of_lt_of_le hlt hbt.size)).trans ((World.cell?_of_block (hbt.block tb hlt (fun e => hne (by simpa using e)))).trans hc0)) ((hb.cell (p := ⟨tb, 1, none⟩) (Nat.lt_of_lt_of_le hlt hbt.size)).trans ((World.cell?_of_block (hbt.block tb hlt (fun e => hne (by simpa using e)))).trans hc1))
    have hixh := Lib.hid hix
    have hkb : (((k : Int) == -1) = false) := by rw [beq_eq_false_iff_ne]; exact hks
    clear hix hc0 hc1 hout
    replace hown := Lib.hid hown
    replace hk := Lib.hid hk
    replace hkat := Lib.hid hkat
    replace hm := Lib.hid hm
    go_enter Tryd.func48, Tryd.ntmps48
    go_wp2_with (go_at_call 66; go_must (refine hixh.out.mono ?_; rintro e w1 ⟨rfl, hb1⟩; have hz1 := hb1.size; have hmid1 := Lib.hid (hmid0.out w1 hb1)))
    go_loopw [5, 6, 7] (fun vi vj _ wr => ∃ (i j : Nat) (cur : List JRef), vi = .int .i64 (i : Int) ∧ vj = .int .i64 (j : Int) ∧ j ≤ l.length ∧ i < j ∧ MidR w wr H g cap l cur r i j) (fun _ vj _ _ => l.length - (intOf vj).toNat)
    case atStart => exact ⟨k, k + 1, l, rfl, by go_num, by omega, by omega, hmid1.out⟩
    case round =>
      obtain ⟨i, j, cur, rfl, rfl, hj, hij, hmid⟩ := hrel
      have hz := hmid.but.size
      have hgr : g < wr.heap.size := by omega
      have hfz : ∀ t, wr.frozen? ⟨g, t, none⟩ = false := fun t => by
        have h := hmid.own
        rw [← hmid.len] at h
        exact World.ownsRow.frozenAt h t
      by_cases hjl : j < l.length
      · obtain ⟨x, hx⟩ := get_some hjl
        have hxc : cur[j]? = some x := (hmid.rest j (Nat.le_refl _)).trans hx
        obtain ⟨z, hzc⟩ := get_some (show i < cur.length by rw [hmid.len]; omega)
        obtain ⟨q0, q1⟩ := own_cells2 hmid.own hxc
        obtain ⟨s0, s1⟩ := own_cells2 hmid.own hzc
        have i0 : (0 : Int) ≤ (j : Int) := by omega
        have i1 : (j : Int) < (l.length : Int) := by omega
        have i2 : (0 : Int) ≤ (i : Int) := by omega
        have i3 : (i : Int) < (l.length : Int) := by omega
        have hcx := hcl0.out x wr
        have ne1 : g ≠ wr.heap.size := by omega
        have ne2 : wr.heap.size ≠ g := by omega
        have hbt := hmid.but
        by_cases he : x = r
        · have hnx := Lib.hid fun (w2 : World) (hb : Below wr.heap.size wr w2) => hmid.skip hx he hb hH
          rw [decide_eq_true he] at hcx
          have hcl := Lib.hid fun W hb => hcx W hbt hb
          clear hcx hbt
          replace hmid := Lib.hid hmid
          replace hx := Lib.hid hx
          replace he := Lib.hid he
          replace hxc := Lib.hid hxc
          replace hzc := Lib.hid hzc
          go_wp2_with (go_at_fn 49; go_must (refine (hcl.out _ (by repeat (first | (with_reducible exact Below.refl _ _) | (with_reducible refine Below.drew ?_) | (with_reducible refine below_drewN ?_ _) | ((with_reducible refine Below.alloc ?_ ?_ _); rotate_left; focus ((try simp) <;> omega)) | ((with_reducible refine Below.setCell ?_ ?_ _); rotate_left; focus ((try simp) <;> omega)) | ((with_reducible refine Below.trans ?_ (Below.mono (by assumption) ?_)); rotate_left; focus ((try simp) <;> omega))))).mono ?_; rintro e w2 ⟨rfl, hb2⟩; have hz2 := hb2.size; (try simp at hz2)))
          go_roundw
          case rel => exact ⟨i, j + 1, cur, rfl, by go_num, by omega, by omega, hnx.out _ (by repeat (first | (with_reducible exact Below.refl _ _) | (with_reducible refine Below.drew ?_) | (with_reducible refine below_drewN ?_ _) | ((with_reducible refine Below.alloc ?_ ?_ _); rotate_left; focus ((try simp) <;> omega)) | ((with_reducible refine Below.setCell ?_ ?_ _); rotate_left; focus ((try simp) <;> omega)) | ((with_reducible refine Below.trans ?_ (Below.mono (by assumption) ?_)); rotate_left; focus ((try simp) <;> omega))))⟩
          case measure => simp [intOf]; omega
        · have hnx := Lib.hid fun (w2 : World) (hb : Below wr.heap.size wr w2) => hmid.keep hx hij he hb hHg hH
          rw [decide_eq_false he] at hcx
          have hcl := Lib.hid fun W hb => hcx W hbt hb
          clear hcx hbt
          replace hmid := Lib.hid hmid
          replace hx := Lib.hid hx
          replace he := Lib.hid he
          replace hxc := Lib.hid hxc
          replace hzc := Lib.hid hzc
          go_wp2_with (go_at_fn 49; go_must (refine (hcl.out _ (by repeat (first | (with_reducible exact Below.refl _ _) | (with_reducible refine Below.drew ?_) | (with_reducible refine below_drewN ?_ _) | ((with_reducible refine Below.alloc ?_ ?_ _); rotate_left; focus ((try simp) <;> omega)) | ((with_reducible refine Below.setCell ?_ ?_ _); rotate_left; focus ((try simp) <;> omega)) | ((with_reducible refine Below.trans ?_ (Below.mono (by assumption) ?_)); rotate_left; focus ((try simp) <;> omega))))).mono ?_; rintro e w2 ⟨rfl, hb2⟩; have hz2 := hb2.size; (try simp at hz2); obtain ⟨hc2, hf2⟩ := blk_at hb2 g (by (try simp) <;> omega); obtain ⟨hd2, he2⟩ := blk_at hb2 wr.heap.size (by (try simp) <;> omega); have hnx2 := Lib.hid (hnx.out w2 (by repeat (first | (with_reducible exact Below.refl _ _) | (with_reducible refine Below.drew ?_) | (with_reducible refine below_drewN ?_ _) | ((with_reducible refine Below.alloc ?_ ?_ _); rotate_left; focus ((try simp) <;> omega)) | ((with_reducible refine Below.setCell ?_ ?_ _); rotate_left; focus ((try simp) <;> omega)) | ((with_reducible refine Below.trans ?_ (Below.mono (by assumption) ?_)); rotate_left; focus ((try simp) <;> omega)))))))
          go_roundw
          case rel => exact ⟨i + 1, j + 1, _, by go_num, by go_num, by omega, by omega, hnx2.out⟩
          case measure => simp [intOf]; omega
      · have hjl2 : j = l.length := by omega
        have i1 : ¬ (j : Int) < (l.length : Int) := by omega
        have hil : i < l.length := by omega
        have hfin := hmid.pos
        have hhd := hmid.head
        rw [hjl2, List.take_length] at hfin hhd
        have i0 : (0 : Int) ≤ (i : Int) := by omega
        have i2 : (i : Int) ≤ (l.length : Int) := by omega
        have i3 : (i : Int) ≤ (cap : Int) := by omega
        have i4 : ¬ cap = i := by omega
        have hcl : ∀ ty, (Builtin.clear_ #[33] ty #[.slice (some ⟨g, i * 2, none⟩) (l.length - i) (cap - i)]).run Tryd.prog wr = .ok (.tuple #[]) (wr.setCells g (i * 2) (List.replicate ((l.length - i) * 2) (.string ⟨#[]⟩))) := fun ty => run_clear_refs wr ty g (i * 2) (l.length - i) (cap - i) (by omega) (fun t ht => by
          have h := hmid.own
          rw [← hmid.len] at h
          have ht2 : i * 2 + t < cur.length * 2 := by rw [hmid.len]; omega
          rw [World.ownsRow.cellAt h (i * 2 + t) (by simpa using ht2)]
          rw [List.getElem?_eq_getElem (by rw [flat_len jRefE_len]; exact ht2)]
          rfl) (fun t _ => hfz _)
        have hown2 := Lib.hid (own_cut (l := cur) (r := outR l r) (g := g) (cap := cap) (H := H) (w := wr) (by have h := hmid.own; rw [← hmid.len] at h; exact h) (by rw [← hfin]; exact hhd) (List.replicate ((l.length - i) * 2) (.string ⟨#[]⟩)))
        have hbt2 := Lib.hid (But.setCells g (List.replicate ((l.length - i) * 2) (.string ⟨#[]⟩)) (i * 2) wr hmid.but)
        have hbl2 := Lib.hid (below_setCells g hHg (List.replicate ((l.length - i) * 2) (.string ⟨#[]⟩)) (i * 2) wr hmid.bel)
        rw [← hfin] at hown2
        replace hmid := Lib.hid hmid
        replace hfin := Lib.hid hfin
        replace hhd := Lib.hid hhd
        go_wp2_with fail
        go_ret
        rw [← hfin.out]
        exact ⟨rfl, hown2.out, hbt2.out, hbl2.out⟩
  · have hsame : outR l r = l := outR_same fun j y _ hy e => hm (e ▸ List.mem_of_getElem? hy)
    rw [hsame]
    rw [idx_none hm] at hix
    have hixh := Lib.hid hix
    have hfin : Hid (∀ w2, Below w.heap.size w w2 → Own jRefE 2 29 w2 H (.slice (some ⟨g, 0, none⟩) l.length cap) l ∧ But w.heap.size (some g) w w2 ∧ Below H w w2) := Lib.hid fun w2 hb => ⟨hown.all hb, But.below But.refl hb (Nat.le_refl _), hb.mono hH⟩
    clear hix hc0 hc1 hown hsame
    replace hm := Lib.hid hm
    go_enter Tryd.func48, Tryd.ntmps48
    go_wp2_with (go_at_call 66; go_must (refine hixh.out.mono ?_; rintro e w1 ⟨rfl, hb1⟩; have hz1 := hb1.size))
    go_ret
    exact ⟨rfl, hfin.out _ (by repeat (first | (with_reducible exact Below.refl _ _) | (with_reducible refine Below.drew ?_) | (with_reducible refine below_drewN ?_ _) | ((with_reducible refine Below.alloc ?_ ?_ _); rotate_left; focus ((try simp) <;> omega)) | ((with_reducible refine Below.setCell ?_ ?_ _); rotate_left; focus ((try simp) <;> omega)) | ((with_reducible refine Below.trans ?_ (Below.mono (by assumption) ?_)); rotate_left; focus ((try simp) <;> omega))))⟩
set_option maxRecDepth 100000 in
set_option maxHeartbeats 4000000 in
theorem delr_none (r : JRef) (tb n c : Nat) (h0 : n = 0) (w : World) (hc0 : w.cell? ⟨tb, 0, none⟩ = some (.string r.run.1)) (hc1 : w.cell? ⟨tb, 1, none⟩ = some (.string r.job.1)) :
    Calls Tryd.prog 48 #[.slice none n c, .func (.func 49) #[] #[.pointer (some ⟨tb, 0, none⟩)]] w fun e w' => e = .returned (.slice none n c) ∧ Below w.heap.size w w' := by
  subst h0
  have hix := Lib.hid (idxf_any none c [] r tb w Rw.nil (by simp) hc0 hc1)
  clear hc0 hc1
  go_enter Tryd.func48, Tryd.ntmps48
  go_wp2_with (go_at_call 66; go_must (refine hix.out.mono ?_; rintro e w1 ⟨he, hb1⟩; rw [idx_none (by simp)] at he; subst he; have hz1 := hb1.size))
  go_ret
  exact ⟨rfl, (by repeat (first | (with_reducible exact Below.refl _ _) | (with_reducible refine Below.drew ?_) | (with_reducible refine below_drewN ?_ _) | ((with_reducible refine Below.alloc ?_ ?_ _); rotate_left; focus ((try simp) <;> omega)) | ((with_reducible refine Below.setCell ?_ ?_ _); rotate_left; focus ((try simp) <;> omega)) | ((with_reducible refine Below.trans ?_ (Below.mono (by assumption) ?_)); rotate_left; focus ((try simp) <;> omega))))⟩
/-- The jobs of the call's own without one. -/
theorem delr_any (A : Option Addr) (c : Nat) (l : List JRef) (r : JRef) (tb H : Nat) (w : World) (hown : Own jRefE 2 29 w H (.slice A l.length c) l) (hH : H ≤ w.heap.size) (hn : l.length ≤ 1000000) (hc0 : w.cell? ⟨tb, 0, none⟩ = some (.string r.run.1)) (hc1 : w.cell? ⟨tb, 1, none⟩ = some (.string r.job.1)) (hne : (Value.slice A l.length c).ownBlock ≠ some tb) :
    Calls Tryd.prog 48 #[.slice A l.length c, .func (.func 49) #[] #[.pointer (some ⟨tb, 0, none⟩)]] w fun e w' => e = .returned (.slice A (outR l r).length c) ∧ Own jRefE 2 29 w' H (.slice A (outR l r).length c) (outR l r) ∧ But w.heap.size (Value.slice A l.length c).ownBlock w w' ∧ Below H w w' := by
  rcases hown.2 with ⟨hv, h0⟩ | ⟨g, cap, cur, hv, _⟩
  · have hl : l = [] := List.eq_nil_of_length_eq_zero (by simpa using h0)
    subst hl
    have e1 : A = none ∧ c = 0 := by
      simp at hv
      exact ⟨hv.1, hv.2⟩
    obtain ⟨rfl, rfl⟩ := e1
    refine (delr_none r tb 0 0 rfl w hc0 hc1).mono ?_
    rintro e w' ⟨rfl, hb⟩
    exact ⟨rfl, hown.all hb, But.below But.refl hb (Nat.le_refl _), hb.mono hH⟩
  · have e1 : A = some ⟨g, 0, none⟩ ∧ c = cap := by
      simp at hv
      exact ⟨hv.1, hv.2⟩
    obtain ⟨rfl, rfl⟩ := e1
    exact delr_some g c l r tb H w hown hH hn hc0 hc1 fun h => hne (by rw [h]; rfl)
end Go.Proofs.YtbellobjajnlkaaDoor
