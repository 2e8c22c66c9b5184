/-
  The walks of labels: whether labels are valid, by the program, whole.
-/
import Derived.Test.YtnahbfmbmpoljaaDoorLab4


namespace Go.Proofs.YtnahbfmbmpoljaaDoor
open Go.RowKit

set_option maxRecDepth 100000 in
set_option maxHeartbeats 8000000 in
theorem lvalid_any (A : Option Addr) (c : Nat) (ls : List Str) (w : World) (hr : Rw sE 1 w w.heap.size A ls) (hn : ls.length ≤ 9223372036854775807) (hs : ∀ s ∈ ls, s.1.size < 4294967281) (hG : Glob w) :
    Calls Tryd.prog 26 #[.slice A ls.length c] w fun e w' => e = .returned (.int .i64 (labE ls)) ∧ Below w.heap.size w w' := by
  by_cases h32 : 32 < ls.length
  · have hf : labE ls = 3 := by unfold labE; rw [if_pos h32]
    rw [hf]
    have h32z : (ls.length : Int) > 32 := by omega
    go_enter Tryd.func26, Tryd.ntmps26
    go_wp2_with fail
    go_ret
    exact ⟨rfl, Below.refl _ _⟩
  have hlab : Hid (labE ls = firstE (errL ls) ls.length) := Lib.hid (by unfold labE; rw [if_neg h32])
  have h32z : ¬ (ls.length : Int) > 32 := by omega
  have hrd : Hid (∀ W, Below w.heap.size w W → Rw sE 1 W W.heap.size A ls) := Lib.hid fun W hb => (hr.below hb (Nat.le_refl _)).more hb.size
  have hcell : Hid (∀ k y, ls[k]? = some y → ∃ g o, A = some ⟨g, o, none⟩ ∧ g < w.heap.size ∧ ∀ W, Below w.heap.size w W → W.cell? ⟨g, o + k, none⟩ = some (.string y.1)) := Lib.hid fun k y hy => by
    have hk := (List.getElem?_eq_some_iff.1 hy).1
    obtain ⟨g, o, e, hg, h⟩ := hr.str (by omega)
    exact ⟨g, o, e, hg, fun W hb => (hb.cell (p := ⟨g, o + k, none⟩) hg).trans (h k y hy)⟩
  replace hs := Lib.hid hs
  replace hG := Lib.hid hG
  clear hr
  go_enter Tryd.func26, Tryd.ntmps26
  have hmm := @run_makeMap Tryd.prog
  go_wp2_with fail
  clear hmm
  go_loopw [15] (fun vi wr => ∃ k : Nat, k ≤ ls.length ∧ vi = .int .i64 (k : Int) ∧ (∀ j, j < k → errL ls j = 0) ∧ MapB Tryd.prog 9 4 wr w.heap.size k (Seen ls k) ∧ Below w.heap.size w wr) (fun vi _ => ls.length - (intOf vi).toNat)
  case atStart => exact ⟨0, Nat.zero_le _, rfl, fun j h => absurd h (by omega), (MapB.made w Tryd.prog 9 4).congr fun x => ⟨fun ⟨j, y, h, _⟩ => absurd h (by omega), fun h => h.elim⟩, (Below.refl _ _).alloc (Nat.le_refl _) _⟩
  case round =>
    obtain ⟨k, hk, rfl, hok, hmp, hbw⟩ := hrel
    have hz := hbw.size
    have hmlt := hmp.lt
    replace hmp := Lib.hid hmp
    replace hok := Lib.hid hok
    by_cases hkl : k < ls.length
    · obtain ⟨y, hy⟩ := get_some hkl
      obtain ⟨g, o, rfl, hg, hc⟩ := hcell.out k y hy
      have q := hc wr hbw
      have i0 : (0 : Int) ≤ (k : Int) := by omega
      have i1 : (k : Int) < (ls.length : Int) := by omega
      have hys := hs.out y (List.mem_of_getElem? hy)
      have hlo0 := fun W hb => labelof_any y W hys (hG.out.keep hb)
      have has0 := fun W hb => ascends_any (some ⟨g, o, none⟩) c ls k W (hrd.out W hb) hkl hn
      have hsmall := nm_small (s := y)
      have hseen : Hid (∀ nm, (ls.take k).any (fun x => (labP x).2.1 == nm) = true ↔ Seen ls k (.string nm)) := Lib.hid fun nm => seen_iff
      have herr : errL ls k = if labB y = false then 5 else if (ls.take k).any (fun x => (labP x).2.1 == (labP y).2.1) = true then 7 else if ascB ls k = false then 22 else 0 := by
        unfold errL ascB
        rw [get_bang hy]
        split
        · rfl
        · split
          · rfl
          · by_cases h0 : k = 0
            · rw [if_neg (fun h => h.1 h0), decide_eq_true h0]; simp
            · rw [decide_eq_false h0]
              by_cases h1 : cmpS ls[k - 1]! y < 0
              · rw [if_neg (fun h => h.2 h1), decide_eq_true h1]; simp
              · rw [if_pos ⟨h0, h1⟩, decide_eq_false h1]; simp
      have hfe : Hid (errL ls k ≠ 0 → labE ls = errL ls k) := Lib.hid fun h => by rw [hlab.out]; exact first_at hkl hok.out h
      have hnx : Hid (errL ls k = 0 → ∀ j, j < k + 1 → errL ls j = 0) := Lib.hid fun h j hj => by
        by_cases e : j = k
        · rw [e]; exact h
        · exact hok.out j (by omega)
      have hsx : Hid (∀ x, Seen ls (k + 1) x ↔ x = .string (labP y).2.1 ∨ Seen ls k x) := Lib.hid (seen_succ hy)
      obtain ⟨b, hb⟩ : ∃ b, labB y = b := ⟨_, rfl⟩
      obtain ⟨b5, hb5⟩ : ∃ b, isB y = b := ⟨_, rfl⟩
      obtain ⟨⟨f, nm, n⟩, hp⟩ : ∃ p, labP y = p := ⟨_, rfl⟩
      rw [hp, hb, hb5] at hlo0
      rw [hb] at herr hsmall
      rw [hp] at herr hsmall hsx
      have hlo : Hid (∀ W, Below w.heap.size w W → Calls Tryd.prog 55 #[.string y.1] W fun e w' => e = .returned (.tuple #[.agg #[.int .i64 (f : Int), .string ⟨nm.toArray⟩, .int .i64 (n : Int)], .bool b5, .bool b]) ∧ Below W.heap.size W w') := Lib.hid hlo0
      clear hlo0
      replace hy := Lib.hid hy
      replace hp := Lib.hid hp
      replace hb := Lib.hid hb
      replace hb5 := Lib.hid hb5
      clear hc
      rcases b with _ | _
      · rw [if_pos rfl] at herr
        have hfin := Lib.hid (hfe.out (by rw [herr]; decide))
        rw [herr] at hfin
        replace herr := Lib.hid herr
        clear has0
        go_wp2_with (go_at_call 55; go_must (refine (hlo.out _ (by repeat (first | (with_reducible exact Below.refl _ _) | (with_reducible refine Below.drew ?_) | (with_reducible refine below_drewN ?_ _) | ((with_reducible refine Below.alloc ?_ ?_ _); rotate_left; focus ((try simp) <;> omega)) | ((with_reducible refine Below.setCell ?_ ?_ _); rotate_left; focus ((try simp) <;> omega)) | ((with_reducible refine Below.trans ?_ (Below.mono (by assumption) ?_)); rotate_left; focus ((try simp) <;> omega))))).mono ?_; rintro e w1 ⟨rfl, hb1⟩; have hz1 := hb1.size))
        go_ret
        exact ⟨ret_int hfin.out.symm, (by repeat (first | (with_reducible exact Below.refl _ _) | (with_reducible refine Below.drew ?_) | (with_reducible refine below_drewN ?_ _) | ((with_reducible refine Below.alloc ?_ ?_ _); rotate_left; focus ((try simp) <;> omega)) | ((with_reducible refine Below.setCell ?_ ?_ _); rotate_left; focus ((try simp) <;> omega)) | ((with_reducible refine Below.trans ?_ (Below.mono (by assumption) ?_)); rotate_left; focus ((try simp) <;> omega))))⟩
      · rw [if_neg (by decide)] at herr
        have hnl : nm.length ≤ maxLen := by have h : nm.length ≤ 64 := hsmall rfl; simp only [maxLen]; omega
        clear hsmall
        obtain ⟨r, hrr⟩ : ∃ r, (ls.take k).any (fun x => (labP x).2.1 == nm) = r := ⟨_, rfl⟩
        have hsn : Hid (r = true ↔ Seen ls k (.string nm)) := Lib.hid (by rw [← hrr]; exact hseen.out nm)
        rw [hrr] at herr
        replace hrr := Lib.hid hrr
        rcases r with _ | _
        · rw [if_neg (by decide)] at herr
          obtain ⟨a, ha⟩ : ∃ a, ascB ls k = a := ⟨_, rfl⟩
          rw [ha] at herr has0
          have has := Lib.hid has0
          clear has0
          replace ha := Lib.hid ha
          rcases a with _ | _
          · rw [if_pos rfl] at herr
            have hfin := Lib.hid (hfe.out (by rw [herr]; decide))
            rw [herr] at hfin
            replace herr := Lib.hid herr
            go_wp2_with (first
              | (go_at_call 55; go_must (refine (hlo.out _ (by repeat (first | (with_reducible exact Below.refl _ _) | (with_reducible refine Below.drew ?_) | (with_reducible refine below_drewN ?_ _) | ((with_reducible refine Below.alloc ?_ ?_ _); rotate_left; focus ((try simp) <;> omega)) | ((with_reducible refine Below.setCell ?_ ?_ _); rotate_left; focus ((try simp) <;> omega)) | ((with_reducible refine Below.trans ?_ (Below.mono (by assumption) ?_)); rotate_left; focus ((try simp) <;> omega))))).mono ?_; rintro e w1 ⟨rfl, hb1⟩; have hz1 := hb1.size))
              | (go_at_call 56; go_must (refine (has.out _ (by repeat (first | (with_reducible exact Below.refl _ _) | (with_reducible refine Below.drew ?_) | (with_reducible refine below_drewN ?_ _) | ((with_reducible refine Below.alloc ?_ ?_ _); rotate_left; focus ((try simp) <;> omega)) | ((with_reducible refine Below.setCell ?_ ?_ _); rotate_left; focus ((try simp) <;> omega)) | ((with_reducible refine Below.trans ?_ (Below.mono (by assumption) ?_)); rotate_left; focus ((try simp) <;> omega))))).mono ?_; rintro e w2 ⟨rfl, hb2⟩; have hz2 := hb2.size; (try simp at hz2); obtain ⟨hc2, hf2⟩ := blk_at hb2 w1.heap.size (by (try simp) <;> omega)))
              | (at_lookup; refine wpList_look_mapb rfl (.tmp 30) (.tmp 32) 78 rfl 9 4 (Go.Maps.string_keyed Tryd.underlying9) Tryd.underlying78 Tryd.underlying4 (by kernel_rfl) w.heap.size k (Seen ls k) rfl (hmp.out.keep (B := wr.heap.size) (by repeat (first | (with_reducible exact Below.refl _ _) | (with_reducible refine Below.drew ?_) | (with_reducible refine below_drewN ?_ _) | ((with_reducible refine Below.alloc ?_ ?_ _); rotate_left; focus ((try simp) <;> omega)) | ((with_reducible refine Below.setCell ?_ ?_ _); rotate_left; focus ((try simp) <;> omega)) | ((with_reducible refine Below.trans ?_ (Below.mono (by assumption) ?_)); rotate_left; focus ((try simp) <;> omega)))) hmlt) _ (.string nm) rfl (Go.WideMaps.keyOf_string_mk Tryd.underlying9 (by rw [mk_size]; exact hnl)) false (by simpa using hsn.out) ?_))
            go_ret
            exact ⟨ret_int hfin.out.symm, (by repeat (first | (with_reducible exact Below.refl _ _) | (with_reducible refine Below.drew ?_) | (with_reducible refine below_drewN ?_ _) | ((with_reducible refine Below.alloc ?_ ?_ _); rotate_left; focus ((try simp) <;> omega)) | ((with_reducible refine Below.setCell ?_ ?_ _); rotate_left; focus ((try simp) <;> omega)) | ((with_reducible refine Below.trans ?_ (Below.mono (by assumption) ?_)); rotate_left; focus ((try simp) <;> omega))))⟩
          · rw [if_neg (by decide)] at herr
            have hgo := Lib.hid (hnx.out herr)
            replace herr := Lib.hid herr
            go_wp2_with (first
              | (go_at_call 55; go_must (refine (hlo.out _ (by repeat (first | (with_reducible exact Below.refl _ _) | (with_reducible refine Below.drew ?_) | (with_reducible refine below_drewN ?_ _) | ((with_reducible refine Below.alloc ?_ ?_ _); rotate_left; focus ((try simp) <;> omega)) | ((with_reducible refine Below.setCell ?_ ?_ _); rotate_left; focus ((try simp) <;> omega)) | ((with_reducible refine Below.trans ?_ (Below.mono (by assumption) ?_)); rotate_left; focus ((try simp) <;> omega))))).mono ?_; rintro e w1 ⟨rfl, hb1⟩; have hz1 := hb1.size))
              | (go_at_call 56; go_must (refine (has.out _ (by repeat (first | (with_reducible exact Below.refl _ _) | (with_reducible refine Below.drew ?_) | (with_reducible refine below_drewN ?_ _) | ((with_reducible refine Below.alloc ?_ ?_ _); rotate_left; focus ((try simp) <;> omega)) | ((with_reducible refine Below.setCell ?_ ?_ _); rotate_left; focus ((try simp) <;> omega)) | ((with_reducible refine Below.trans ?_ (Below.mono (by assumption) ?_)); rotate_left; focus ((try simp) <;> omega))))).mono ?_; rintro e w2 ⟨rfl, hb2⟩; have hz2 := hb2.size; (try simp at hz2); obtain ⟨hc2, hf2⟩ := blk_at hb2 w1.heap.size (by (try simp) <;> omega)))
              | (at_lookup; refine wpList_look_mapb rfl (.tmp 30) (.tmp 32) 78 rfl 9 4 (Go.Maps.string_keyed Tryd.underlying9) Tryd.underlying78 Tryd.underlying4 (by kernel_rfl) w.heap.size k (Seen ls k) rfl (hmp.out.keep (B := wr.heap.size) (by repeat (first | (with_reducible exact Below.refl _ _) | (with_reducible refine Below.drew ?_) | (with_reducible refine below_drewN ?_ _) | ((with_reducible refine Below.alloc ?_ ?_ _); rotate_left; focus ((try simp) <;> omega)) | ((with_reducible refine Below.setCell ?_ ?_ _); rotate_left; focus ((try simp) <;> omega)) | ((with_reducible refine Below.trans ?_ (Below.mono (by assumption) ?_)); rotate_left; focus ((try simp) <;> omega)))) hmlt) _ (.string nm) rfl (Go.WideMaps.keyOf_string_mk Tryd.underlying9 (by rw [mk_size]; exact hnl)) false (by simpa using hsn.out) ?_)
              | (at_mapUpdate; refine wpList_put_mapb rfl (.tmp 39) (.tmp 41) (.const (.bool true)) 78 rfl 9 4 (Go.Maps.string_keyed Tryd.underlying9) Tryd.underlying78 Tryd.underlying4 w.heap.size k (Seen ls k) rfl (hmp.out.keep (B := wr.heap.size) (by repeat (first | (with_reducible exact Below.refl _ _) | (with_reducible refine Below.drew ?_) | (with_reducible refine below_drewN ?_ _) | ((with_reducible refine Below.alloc ?_ ?_ _); rotate_left; focus ((try simp) <;> omega)) | ((with_reducible refine Below.setCell ?_ ?_ _); rotate_left; focus ((try simp) <;> omega)) | ((with_reducible refine Below.trans ?_ (Below.mono (by assumption) ?_)); rotate_left; focus ((try simp) <;> omega)))) hmlt) (by simp only [maxLen]; omega) _ (.string nm) rfl rfl (Go.WideMaps.keyOf_string_mk Tryd.underlying9 (by rw [mk_size]; exact hnl)) trivial ?_; intro w3 hmp3 hg3; have hz3 := hg3.size))
            go_roundw
            case rel => exact ⟨k + 1, hkl, by go_num, hgo.out, hmp3.congr hsx.out, Below.grown (by repeat (first | (with_reducible exact Below.refl _ _) | (with_reducible refine Below.drew ?_) | (with_reducible refine below_drewN ?_ _) | ((with_reducible refine Below.alloc ?_ ?_ _); rotate_left; focus ((try simp) <;> omega)) | ((with_reducible refine Below.setCell ?_ ?_ _); rotate_left; focus ((try simp) <;> omega)) | ((with_reducible refine Below.trans ?_ (Below.mono (by assumption) ?_)); rotate_left; focus ((try simp) <;> omega)))) hg3 (by (try simp) <;> omega) (fun g hg => by simp at hg; omega)⟩
            case measure => simp [intOf]; omega
        · rw [if_pos rfl] at herr
          have hfin := Lib.hid (hfe.out (by rw [herr]; decide))
          rw [herr] at hfin
          replace herr := Lib.hid herr
          clear has0
          go_wp2_with (first
            | (go_at_call 55; go_must (refine (hlo.out _ (by repeat (first | (with_reducible exact Below.refl _ _) | (with_reducible refine Below.drew ?_) | (with_reducible refine below_drewN ?_ _) | ((with_reducible refine Below.alloc ?_ ?_ _); rotate_left; focus ((try simp) <;> omega)) | ((with_reducible refine Below.setCell ?_ ?_ _); rotate_left; focus ((try simp) <;> omega)) | ((with_reducible refine Below.trans ?_ (Below.mono (by assumption) ?_)); rotate_left; focus ((try simp) <;> omega))))).mono ?_; rintro e w1 ⟨rfl, hb1⟩; have hz1 := hb1.size))
            | (at_lookup; refine wpList_look_mapb rfl (.tmp 30) (.tmp 32) 78 rfl 9 4 (Go.Maps.string_keyed Tryd.underlying9) Tryd.underlying78 Tryd.underlying4 (by kernel_rfl) w.heap.size k (Seen ls k) rfl (hmp.out.keep (B := wr.heap.size) (by repeat (first | (with_reducible exact Below.refl _ _) | (with_reducible refine Below.drew ?_) | (with_reducible refine below_drewN ?_ _) | ((with_reducible refine Below.alloc ?_ ?_ _); rotate_left; focus ((try simp) <;> omega)) | ((with_reducible refine Below.setCell ?_ ?_ _); rotate_left; focus ((try simp) <;> omega)) | ((with_reducible refine Below.trans ?_ (Below.mono (by assumption) ?_)); rotate_left; focus ((try simp) <;> omega)))) hmlt) _ (.string nm) rfl (Go.WideMaps.keyOf_string_mk Tryd.underlying9 (by rw [mk_size]; exact hnl)) true (by simpa using hsn.out) ?_))
          go_ret
          exact ⟨ret_int hfin.out.symm, (by repeat (first | (with_reducible exact Below.refl _ _) | (with_reducible refine Below.drew ?_) | (with_reducible refine below_drewN ?_ _) | ((with_reducible refine Below.alloc ?_ ?_ _); rotate_left; focus ((try simp) <;> omega)) | ((with_reducible refine Below.setCell ?_ ?_ _); rotate_left; focus ((try simp) <;> omega)) | ((with_reducible refine Below.trans ?_ (Below.mono (by assumption) ?_)); rotate_left; focus ((try simp) <;> omega))))⟩
    · have i1 : ¬ (k : Int) < (ls.length : Int) := by omega
      have hfin : Hid (labE ls = 0) := Lib.hid (by rw [hlab.out]; exact first_none fun j hj => hok.out j (by omega))
      go_wp2_with fail
      go_ret
      exact ⟨ret_int hfin.out.symm, hbw⟩
end Go.Proofs.YtnahbfmbmpoljaaDoor
