/-
  The walks of provenance: one name visited, by the program.
-/
import Derived.Test.YtjkijknjngiieaaGreatDoorPrw7


namespace Go.Proofs.YtjkijknjngiieaaGreatDoor
open Go.RowKit

def nE (k : Nat) : List Value := [.int .i64 (k : Int)]
theorem nE_len (k : Nat) : (nE k).length = 1 := rfl
theorem nE_one (k : Nat) : ∀ u ∈ nE k, u.oneCell' = true := by intro u hu; simp [nE] at hu; subst hu; rfl
def bE (b : Bool) : List Value := [.bool b]
theorem bE_len (b : Bool) : (bE b).length = 1 := rfl
theorem bE_one (b : Bool) : ∀ u ∈ bE b, u.oneCell' = true := by intro u hu; simp [bE] at hu; subst hu; rfl
/-- One element of a row written. -/
theorem own_set {α : Type} {enc : α → List Value} {e : TypeId} {w : World} {H g cap k : Nat} {l : List α} {x : α} {u : Value} (hk : ∀ x : α, (enc x).length = 1) (h : Own enc 1 e w H (.slice (some ⟨g, 0, none⟩) l.length cap) l) (hx : enc x = [u]) (hl : k < l.length) :
    Own enc 1 e (w.setCell ⟨g, k, none⟩ u) H (.slice (some ⟨g, 0, none⟩) l.length cap) (l.set k x) := by
  obtain ⟨hH, hc, hm, cur, hg, hs⟩ := own_block h
  have hcell : ∀ t v, (l.flatMap enc)[t]? = some v → w.cell? ⟨g, t, none⟩ = some v := fun t v hv => by
    have ht := (List.getElem?_eq_some_iff.1 hv).1
    rw [flat_len hk] at ht
    rw [h.cellAt t ht]; exact hv
  obtain ⟨c1, hg1, s1⟩ := setCell_block (p := ⟨g, k, none⟩) (v := u) hg
  have hlen : (l.set k x).length = l.length := List.length_set
  rw [← hlen]
  refine own_of_cells hk hH hg1 (by omega) (by omega) hm fun t v hv => ?_
  obtain ⟨i, j, y, rfl, hy, hj⟩ := flat_get hk hv
  have hj0 : j = 0 := by
    have := (List.getElem?_eq_some_iff.1 hj).1
    rw [hk] at this
    omega
  subst hj0
  rw [Nat.mul_one, Nat.add_zero] at hv ⊢
  rw [List.getElem?_set] at hy
  by_cases hik : k = i
  · subst hik
    rw [if_pos rfl, if_pos hl] at hy
    obtain rfl : x = y := by simpa using hy
    obtain ⟨z, hz⟩ := get_some hl
    obtain ⟨v0, hv0⟩ : ∃ v0, (enc z)[0]? = some v0 := get_some (by rw [hk]; omega)
    rw [World.cell?_setCell_same _ _ _ (hcell k v0 (by have := flat_at hk hz hv0; rwa [Nat.mul_one, Nat.add_zero] at this))]
    rw [hx] at hj
    simpa using hj
  · rw [if_neg hik] at hy
    rw [World.cell?_setCell_other _ _ _ _ (by intro e; simp at e <;> omega)]
    exact hcell i v (by have := flat_at hk hy hj; rwa [Nat.mul_one, Nat.add_zero] at this)
/-- A row's beginning. -/
theorem own_take {α : Type} {enc : α → List Value} {e : TypeId} {w : World} {H g cap : Nat} {l r : List α} (hk : ∀ x : α, (enc x).length = 1) (h : Own enc 1 e w H (.slice (some ⟨g, 0, none⟩) (l ++ r).length cap) (l ++ r)) : Own enc 1 e w H (.slice (some ⟨g, 0, none⟩) l.length cap) l := by
  obtain ⟨hH, hc, hm, cur, hg, hs⟩ := own_block h
  refine own_of_cells hk hH hg (by omega) (by rw [List.length_append] at hc; omega) hm fun t v hv => ?_
  have ht := (List.getElem?_eq_some_iff.1 hv).1
  have ht2 : t < ((l ++ r).flatMap enc).length := by rw [List.flatMap_append, List.length_append]; omega
  rw [h.cellAt t (by rwa [flat_len hk] at ht2), List.flatMap_append, List.getElem?_append_left ht]
  exact hv
theorem int_info : (Tryz.prog.info? 3).map (fun i => (i.zero, i.size, i.bytes)) = some (some (.int .i64 0), 1, 8) := by kernel_rfl
/-- What the closure sees: the map, the run, the marks, the stack, each in its variable's block. -/
structure Vis (ls : List Lnk) (run : Str) (w : World) (tr tm mb ts sb tq cnt : Nat) (m : List Bool) (st : List Nat) : Prop where
  map : w.cell? ⟨tm, 0, none⟩ = some (.map (some mb))
  run : w.cell? ⟨tr, 0, none⟩ = some (.string run.1)
  seen : w.cell? ⟨ts, 0, none⟩ = some (.slice (some ⟨sb, 0, none⟩) ls.length ls.length)
  stk : ∃ A c, w.cell? ⟨tq, 0, none⟩ = some (.slice A st.length c) ∧ Own nE 1 3 w (tq + 1) (.slice A st.length c) st
  frz : w.frozen? ⟨tq, 0, none⟩ = false
  know : MapI Tryz.prog 86 3 w mb cnt (ixF ls)
  len : m.length = ls.length
  row : Own bE 1 4 w sb (.slice (some ⟨sb, 0, none⟩) m.length m.length) m
  ord : tr < mb ∧ mb < tm ∧ tm < sb ∧ sb < ts ∧ ts < tq ∧ tq < w.heap.size
theorem Vis.below {ls : List Lnk} {run : Str} {w w' : World} {tr tm mb ts sb tq cnt : Nat} {m : List Bool} {st : List Nat} (h : Vis ls run w tr tm mb ts sb tq cnt m st) (hb : Below w.heap.size w w') : Vis ls run w' tr tm mb ts sb tq cnt m st := by
  obtain ⟨o1, o2, o3, o4, o5, o6⟩ := h.ord
  have hz := hb.size
  obtain ⟨A, c, h1, h2⟩ := h.stk
  exact ⟨(hb.cell (show tm < w.heap.size by omega)).trans h.map, (hb.cell (show tr < w.heap.size by omega)).trans h.run, (hb.cell (show ts < w.heap.size by omega)).trans h.seen, ⟨A, c, (hb.cell o6).trans h1, h2.all hb⟩, (blk_at hb tq o6).2 0 |>.trans h.frz, h.know.keep hb (by omega), h.len, h.row.all hb, o1, o2, o3, o4, o5, by omega⟩
theorem rw_nat {w : World} {g B k : Nat} (hg : g = w.heap.size) (hB : g < B) : Rw nE 1 (w.alloc (.cells #[.int .i64 (k : Int)] 3)) B (some ⟨g, 0, none⟩) [k] := by
  subst hg
  refine fun _ => ⟨_, 0, rfl, hB, fun i y hy j u hu => ?_⟩
  match i, hy with
  | 0, hy =>
    obtain rfl : k = y := by simpa using hy
    simp only [Nat.zero_mul, Nat.zero_add]
    exact box_cells w _ _ j _ hu
  | i + 1, hy => simp at hy
set_option maxRecDepth 100000 in
set_option maxHeartbeats 4000000 in
theorem visit_any (ls : List Lnk) (run s : Str) (w : World) (tr tm mb ts sb tq cnt : Nat) (m : List Bool) (st : List Nat) (h : Vis ls run w tr tm mb ts sb tq cnt m st) (_hn : ls.length ≤ 1000000) (hst : st.length ≤ 3000000) :
    Calls Tryz.prog 72 #[.string s.1, .pointer (some ⟨tm, 0, none⟩), .pointer (some ⟨tr, 0, none⟩), .pointer (some ⟨ts, 0, none⟩), .pointer (some ⟨tq, 0, none⟩)] w fun e w' => e = .returned (.tuple #[]) ∧ Vis ls run w' tr tm mb ts sb tq cnt (visM ls run s m) (visS ls run s m st) ∧ Below sb w w' := by
  have hv := Lib.hid h
  obtain ⟨o1, o2, o3, o4, o5, o6⟩ := h.ord
  have c1 := h.map
  have c2 := h.run
  have c3 := h.seen
  obtain ⟨A, c, c4, hown⟩ := h.stk
  have f4 := h.frz
  have hknow := Lib.hid h.know
  have hat := ixF_at ls run s
  have hrow := h.row
  have hl := h.len
  clear h
  rcases hh : hasL ls run s with _ | _
  · have hvm : Hid (visM ls run s m = m) := Lib.hid (by unfold visM; rw [if_neg (by rw [hh]; decide)])
    have hvs : Hid (visS ls run s m st = st) := Lib.hid (by unfold visS; rw [if_neg (by rw [hh]; simp)])
    rw [if_neg (by rw [hh]; decide)] at hat
    replace hat := Lib.hid hat
    replace hh := Lib.hid hh
    replace hl := Lib.hid hl
    clear hown hrow
    go_enter Tryz.func72, Tryz.ntmps72
    go_wp2_with (at_lookup; refine wpList_look_mapi rfl (.tmp 9) (.tmp 12) 78 rfl 86 3 keyedK Tryz.underlying78 Tryz.underlying3 (by kernel_rfl) mb cnt (ixF ls) rfl hknow.out _ (keyK run s) rfl (key_at run s) none hat.out ?_)
    go_end0
    exact ⟨rfl, by rw [hvm.out, hvs.out]; exact hv.out, Below.refl _ _⟩
  · have hjl := idx_lt hh
    rw [if_pos hh] at hat
    obtain ⟨J, hJ⟩ : ∃ J, idxL ls run s = J := ⟨_, rfl⟩
    rw [hJ] at hat hjl
    have j0 : (0 : Int) ≤ (J : Int) := by omega
    have j1 : (J : Int) < (ls.length : Int) := by omega
    obtain ⟨bb, hb⟩ := get_some (show J < m.length by omega)
    obtain ⟨_, _, _, cur, hgb, _⟩ := own_block hrow
    have cJ : w.cell? ⟨sb, J, none⟩ = some (.bool bb) := by
      have hf : (m.flatMap bE)[J * 1 + 0]? = some (.bool bb) := flat_at bE_len hb rfl
      rw [Nat.mul_one, Nat.add_zero] at hf
      rw [hrow.cellAt J (by rw [Nat.mul_one]; omega)]
      exact hf
    have fJ : w.frozen? ⟨sb, J, none⟩ = false := by simp [World.frozen?, hgb]
    have hm1 : Hid (m[idxL ls run s]? = some bb) := Lib.hid (by rw [hJ]; exact hb)
    clear hgb
    replace hat := Lib.hid hat
    rcases bb with _ | _
    · have hvm : Hid (visM ls run s m = m.set J true) := Lib.hid (by unfold visM; rw [if_pos hh, hJ])
      have hvs : Hid (visS ls run s m st = st ++ [J]) := Lib.hid (by unfold visS; rw [if_pos ⟨hh, hm1.out⟩, hJ])
      obtain ⟨inf, hi0, iz0, iz1, iz2⟩ := info_parts int_info
      have hrow1 : Hid (Own bE 1 4 (w.setCell ⟨sb, J, none⟩ (.bool true)) sb (.slice (some ⟨sb, 0, none⟩) m.length m.length) (m.set J true)) := Lib.hid (own_set bE_len hrow (x := true) rfl (show J < m.length by omega))
      have hvlt := Lib.hid hown.lt
      have nst : sb ≠ tq := by omega
      have nts : tq ≠ sb := by omega
      have nsb : ts ≠ sb := by omega
      have nsb2 : sb ≠ ts := by omega
      replace hown := Lib.hid hown
      replace hh := Lib.hid hh
      replace hJ := Lib.hid hJ
      replace hl := Lib.hid hl
      replace hb := Lib.hid hb
      clear hrow
      have hkl : st.length ≤ 3000000 := hst
      go_enter Tryz.func72, Tryz.ntmps72
      go_wp2_with (first
        | (at_lookup; refine wpList_look_mapi rfl (.tmp 9) (.tmp 12) 78 rfl 86 3 keyedK Tryz.underlying78 Tryz.underlying3 (by kernel_rfl) mb cnt (ixF ls) rfl hknow.out _ (keyK run s) rfl (key_at run s) (some (J : Int)) hat.out ?_)
        | (at_builtin
           refine wpList_append_rw _ rfl (.tmp 27) (.tmp 29) _ rfl nE_len nE_one (tq + 1) 3 inf _ 8 Tryz.underlying64 hi0 iz0 iz1 iz2 rfl (by omega) _ st rfl ((hown.out.setCell (fun q hq => by have := (hvlt.out q hq).1; show q ≠ sb; omega) _).alloc _) _ (some ⟨w.heap.size, 0, none⟩) 1 1 [J] rfl rfl (rw_nat (by simp) (Nat.lt_succ_self _)) ?_ ?_ ?_ ?_
           · (try simp [maxLen]) <;> omega
           · (try simp) <;> omega
           · (try simp) <;> omega
           intro v4 w4 hown4 hg4 hat4
           have hz4 := hg4.size
           (try simp at hz4)
           obtain ⟨e5, f5⟩ := grown_blk hg4 tq (by (try simp) <;> omega) (fun e => by have := (hvlt.out _ e.symm).1; omega)
           obtain ⟨A5, c5, hv4, _, _, hlt4⟩ := hown4.form
           subst hv4
           replace hlt4 := Lib.hid hlt4))
      have hB : Below sb w (w4.setCell ⟨tq, 0, none⟩ (.slice A5 (st.length + 1) c5)) := by
        refine Below.setCell (Below.grown (B := sb) (by repeat (first | (with_reducible exact Below.refl _ _) | (with_reducible refine Below.drew ?_) | (with_reducible refine below_drewN ?_ _) | ((with_reducible refine Below.alloc ?_ ?_ _); rotate_left; focus ((try simp) <;> omega)) | ((with_reducible refine Below.setCell ?_ ?_ _); rotate_left; focus ((try simp) <;> omega)) | ((with_reducible refine Below.trans ?_ (Below.mono (by assumption) ?_)); rotate_left; focus ((try simp) <;> omega)))) hg4 ?_ ?_) ?_ _
        · (try simp) <;> omega
        · exact fun q hq => by have := (hvlt.out q hq).1; omega
        · show sb ≤ tq; omega
      have hsz : w4.heap.size = (w4.setCell ⟨tq, 0, none⟩ (.slice A5 (st.length + 1) c5)).heap.size := by simp
      have c6 : w4.cell? ⟨tq, 0, none⟩ = some (.slice A st.length c) := (e5 0).trans (by go_simp)
      have nsw : ts < w.heap.size := by omega
      have c7 : w4.cell? ⟨ts, 0, none⟩ = some (.slice (some ⟨sb, 0, none⟩) ls.length ls.length) := ((grown_blk hg4 ts (by (try simp) <;> omega) (fun e => by have := (hvlt.out _ e.symm).1; omega)).1 0).trans (by go_simp)
      go_end0
      refine ⟨rfl, ?_, hB⟩
      rw [hvm.out, hvs.out]
      refine ⟨(hB.cell (show tm < sb by omega)).trans c1, (hB.cell (show tr < sb by omega)).trans c2, ?_, ⟨A5, c5, ?_, ?_⟩, ?_, hknow.out.keep hB (by omega), ?_, ?_, o1, o2, o3, o4, o5, ?_⟩
      · rw [World.cell?_setCell_other _ _ _ _ (by intro e; simp at e <;> omega)]
        exact c7
      · rw [List.length_append, List.length_singleton]; exact World.cell?_setCell_same _ _ _ c6
      · exact hown4.setCell (fun q hq => by have := (hlt4.out q hq).1; show q ≠ tq; omega) _
      · have f6 := (f5 0).trans (show _ = false by go_simp)
        go_simp
      · rw [List.length_set]; exact hl.out
      · rw [List.length_set]
        refine Own.setCell (Own.grown (hrow1.out.alloc _) hg4 ?_) ?_ _
        · intro q hq e
          simp [Value.ownBlock] at hq
          have := (hvlt.out q e.symm).1
          omega
        · intro q hq
          simp [Value.ownBlock] at hq
          show q ≠ tq
          omega
      · rw [← hsz]; omega
    · have hvm : Hid (visM ls run s m = m) := Lib.hid (by
        unfold visM
        rw [if_pos hh, hJ]
        apply List.ext_getElem?
        intro j
        rw [List.getElem?_set]
        split
        · rename_i e
          subst e
          rw [if_pos (by omega), hb]
        · rfl)
      have hvs : Hid (visS ls run s m st = st) := Lib.hid (by unfold visS; rw [if_neg (by rw [hm1.out]; simp)])
      replace hh := Lib.hid hh
      replace hJ := Lib.hid hJ
      replace hl := Lib.hid hl
      replace hb := Lib.hid hb
      clear hown hrow
      go_enter Tryz.func72, Tryz.ntmps72
      go_wp2_with (at_lookup; refine wpList_look_mapi rfl (.tmp 9) (.tmp 12) 78 rfl 86 3 keyedK Tryz.underlying78 Tryz.underlying3 (by kernel_rfl) mb cnt (ixF ls) rfl hknow.out _ (keyK run s) rfl (key_at run s) (some (J : Int)) hat.out ?_)
      go_end0
      exact ⟨rfl, by rw [hvm.out, hvs.out]; exact hv.out, Below.refl _ _⟩
end Go.Proofs.YtjkijknjngiieaaGreatDoor
