/-
  The walks of shards: the split, by the program.
-/
import Derived.Test.YtdjepnilmgembaaGreatDoorShw9
import Derived.Deep.RegionHeld3
import Derived.Deep.DeepCutAuto
import Derived.Laws.EntriesVeiled


namespace Go.Proofs.YtdjepnilmgembaaGreatDoor
open Go.RowKit
attribute [local go_sem ↓] Go.wp_at_zero Go.wp_at_succ

theorem ord_nil (t : Str → Int) : ordL t [] = [] := List.mergeSort_nil
theorem ord_len (t : Str → Int) (l : List Str) : (ordL t l).length = l.length := (ord_perm t l).length_eq
/-- The tests sorted, whatever their number. -/
theorem sorta_any (ts : List Tm) (tv H : Nat) (v : Value) (A : Option Addr) (C : Nat) (l : List Str) (w : World) (h1 : w.cell? ⟨tv, 0, none⟩ = some v) (ht : tv < H) (h2 : Clk w H v ts) (hown : Own sE 1 9 w H (.slice A l.length C) l) (hH : H ≤ w.heap.size) (hn : l.length ≤ 1000000) :
    Calls Tryz.prog 31 #[.slice A l.length C, .func (.func 32) #[] #[.pointer (some ⟨tv, 0, none⟩)]] w fun e w' => e = .returned (.tuple #[]) ∧ Rw sE 1 w' w'.heap.size A (ordL (clockT ts) l) ∧ Below H w w' := by
  rcases Nat.eq_zero_or_pos l.length with h0 | h0
  · obtain rfl := List.eq_nil_of_length_eq_zero h0
    refine (Tryz.slices_SortFunc_none (α := Str) A C _ _).mono ?_
    rintro e w2 ⟨rfl, hw⟩
    subst hw
    exact ⟨rfl, by rw [ord_nil]; exact Rw.nil, Below.refl _ _⟩
  · obtain ⟨g, cap, hv, _, _⟩ := World.ownsRow.form hown h0
    simp only [Value.slice.injEq] at hv
    obtain ⟨rfl, _, rfl⟩ := hv
    exact sortT_any ts tv H g C v l w h1 ht h2 hown hH hn
theorem set_cellN {α : Type} {enc : α → List Value} {k : Nat} (hk : ∀ x : α, (enc x).length = k) {e : TypeId} {w : World} {H g cap i n : Nat} {l : List α} (j : Nat) {x y : α} {u : Value} (hown : Own enc k e w H (.slice (some ⟨g, 0, none⟩) n cap) l) (hn : l.length = n) (hx : l[i]? = some x) (hj : j < k) (hy : enc y = (enc x).set j u) :
    Own enc k e (w.setCell ⟨g, i * k + j, none⟩ u) H (.slice (some ⟨g, 0, none⟩) n cap) (l.set i y) := by
  subst hn
  exact set_cell hk hown hx hj hy
theorem hrs_set {L : List HR} {i : Nat} {y : HR} : hrs (L.set i y) = (hrs L).set i y.h := by unfold hrs; rw [List.map_set]
theorem sinkN_any (b g cap H n : Nat) (L : List HR) (w : World) (hl : L.length = n) (hb : w.cell? ⟨b, 0, none⟩ = some (.slice (some ⟨g, 0, none⟩) n cap)) (hown : Own hrE 3 63 w H (.slice (some ⟨g, 0, none⟩) n cap) L) (hbg : b ≠ g) (hL : HeapEx (hrs L) 0) (hpos : 0 < n) (hn : n ≤ 1000) :
    Calls Tryz.prog 36 #[.pointer (some ⟨b, 0, none⟩)] w fun e w' => e = .returned (.tuple #[]) ∧ ∃ L2, Own hrE 3 63 w' H (.slice (some ⟨g, 0, none⟩) n cap) L2 ∧ L2.Perm L ∧ Heap (hrs L2) ∧ w.grownBy w' (some g) := by
  subst hl
  exact sink_any b g cap H L w hb hown hbg hL hpos hn
/-- The shards while they are filled. -/
structure St2 (w4 wr : World) (g cap N : Nat) (bins : List Bin) (L : List HR) : Prop where
  row : Own hrE 3 63 wr (w4.heap.size + 1) (.slice (some ⟨g, 0, none⟩) N cap) L
  own : OwnT tvR HR.ts wr (w4.heap.size + 1) L
  holds : Holds bins (hrs L)
  len : bins.length = N
  cell : wr.cell? ⟨w4.heap.size, 0, none⟩ = some (.slice (some ⟨g, 0, none⟩) N cap)
  bel : Below w4.heap.size w4 wr
theorem St2.llen {w4 wr : World} {g cap N : Nat} {bins : List Bin} {L : List HR} (h : St2 w4 wr g cap N bins L) : L.length = N := by rw [holds_len h.holds, h.len]
/-- .. when the next test has been put into the first of them. -/
structure St2m (w4 wr : World) (g cap N : Nat) (bins : List Bin) (L : List HR) (x : HR) (t : Str → Int) (s : Str) (L' : List HR) : Prop where
  row : Own hrE 3 63 wr (w4.heap.size + 1) (.slice (some ⟨g, 0, none⟩) N cap) L'
  own : OwnT tvR HR.ts wr (w4.heap.size + 1) L'
  holds : Holds bins (hrs L)
  hx : L[0]? = some x
  len : bins.length = N
  llen : L'.length = N
  set : hrs L' = (hrs L).set 0 ⟨x.no, x.load + t s, x.ts ++ [s]⟩
  cell : wr.cell? ⟨w4.heap.size, 0, none⟩ = some (.slice (some ⟨g, 0, none⟩) N cap)
  bel : Below w4.heap.size w4 wr
theorem st2_mid {w4 wr w5 : World} {ob : Obj} {g cap N : Nat} {bins : List Bin} {L : List HR} {x : HR} {s : Str} {A5 : Option Addr} {C5 : Nat} (t : Str → Int) (h : St2 w4 wr g cap N bins L) (hx : L[0]? = some x) (ho5 : Own sE 1 9 w5 (w4.heap.size + 1) (.slice A5 (x.ts.length + 1) C5) (x.ts ++ [s])) (hg5 : (wr.alloc ob).grownBy w5 (tvR x).ownBlock)
    (hat5 : (Value.slice A5 (x.ts.length + 1) C5).ownBlock = (tvR x).ownBlock ∨ (Value.slice A5 (x.ts.length + 1) C5).ownBlock = some (wr.alloc ob).heap.size) :
    St2m w4 ((w5.setCell ⟨g, 2, none⟩ (.slice A5 (x.ts.length + 1) C5)).setCell ⟨g, 1, none⟩ (.int .i64 (x.load + t s))) g cap N bins L x t s (L.set 0 ⟨x.no, x.load + t s, A5, C5, x.ts ++ [s]⟩) := by
  have hxo := h.own.each x (List.mem_of_getElem? hx)
  have hgb := (h.row.lt g rfl).1
  have hcl := World.block_lt_of_cell? _ _ h.cell
  simp only at hcl
  have hrow0 := h.row.alloc ob
  have hown0 := h.own.all (w' := wr.alloc ob) ((Below.refl _ _).alloc (Nat.le_refl _) ob)
  have hrow5 : Own hrE 3 63 w5 (w4.heap.size + 1) (.slice (some ⟨g, 0, none⟩) N cap) L := hrow0.grown hg5 fun q hq e => own_apart hxo h.row (by decide) q e.symm hq
  have hown5 := hown0.set (y := (⟨x.no, x.load + t s, A5, C5, x.ts ++ [s]⟩ : HR)) hx (by show Own sE 1 9 w5 _ (.slice A5 (x.ts ++ [s]).length C5) (x.ts ++ [s]); rw [List.length_append, List.length_singleton]; exact ho5) hg5 (by show (Value.slice A5 (x.ts ++ [s]).length C5).ownBlock = _ ∨ (Value.slice A5 (x.ts ++ [s]).length C5).ownBlock = _; rw [List.length_append, List.length_singleton]; exact hat5)
  have hc5 : w5.cell? ⟨w4.heap.size, 0, none⟩ = some (.slice (some ⟨g, 0, none⟩) N cap) := by
    refine ((grown_blk hg5 w4.heap.size (by simp; omega) (fun e => ?_)).1 0).trans ?_
    · have := (hxo.lt _ e.symm).1
      omega
    · rw [World.cell?_alloc_lt _ _ _ (by exact hcl)]
      exact h.cell
  have hb5 : Below w4.heap.size w4 w5 := (h.bel.alloc (by have := h.bel.size; omega) ob).grown hg5 (by have := h.bel.size; simp; omega) (fun q hq => by have := (hxo.lt q hq).1; omega)
  have h1 := set_cellN hrE_len 2 (y := (⟨x.no, x.load, A5, C5, x.ts ++ [s]⟩ : HR)) (u := .slice A5 (x.ts.length + 1) C5) hrow5 h.llen hx (by omega) (by simp [hrE])
  have h2 := set_cellN hrE_len 1 (x := (⟨x.no, x.load, A5, C5, x.ts ++ [s]⟩ : HR)) (y := (⟨x.no, x.load + t s, A5, C5, x.ts ++ [s]⟩ : HR)) (u := .int .i64 (x.load + t s)) h1 (by rw [List.length_set]; exact h.llen) (List.getElem?_set_self (List.getElem?_eq_some_iff.1 hx).1) (by omega) (by simp [hrE])
  rw [List.set_set] at h2
  simp only [Nat.zero_mul, Nat.zero_add] at h1 h2
  have hne : (⟨w4.heap.size, 0, none⟩ : Addr) ≠ ⟨g, 2, none⟩ := fun e => by simp at e
  have hne1 : (⟨w4.heap.size, 0, none⟩ : Addr) ≠ ⟨g, 1, none⟩ := fun e => by simp at e
  refine ⟨h2, (hown5.rowCell (p := ⟨g, 2, none⟩) hrow5 (by decide) _).rowCell (p := ⟨g, 1, none⟩) h1 (by decide) _, h.holds, hx, h.len, by rw [List.length_set]; exact h.llen, hrs_set, ?_, ?_⟩
  · rw [World.cell?_setCell_other _ _ _ _ hne1.symm, World.cell?_setCell_other _ _ _ _ hne.symm]
    exact hc5
  · exact (hb5.setCell (by show w4.heap.size ≤ g; omega) _).setCell (by show w4.heap.size ≤ g; omega) _
theorem St2m.draw {w4 wr : World} {g cap N : Nat} {bins : List Bin} {L : List HR} {x : HR} {t : Str → Int} {s : Str} {L' : List HR} (h : St2m w4 wr g cap N bins L x t s L') (n : Nat) : St2m w4 (wr.drewN n) g cap N bins L x t s L' :=
  ⟨h.row, ⟨h.own.each, h.own.apart⟩, h.holds, h.hx, h.len, h.llen, h.set, h.cell, below_drewN h.bel n⟩
theorem St2m.drew {w4 wr : World} {g cap N : Nat} {bins : List Bin} {L : List HR} {x : HR} {t : Str → Int} {s : Str} {L' : List HR} (h : St2m w4 wr g cap N bins L x t s L') : St2m w4 wr.drew g cap N bins L x t s L' :=
  ⟨h.row, ⟨h.own.each, h.own.apart⟩, h.holds, h.hx, h.len, h.llen, h.set, h.cell, h.bel.drew⟩
theorem St2m.sunk {w4 wr w7 : World} {g cap N : Nat} {bins : List Bin} {L L2 : List HR} {x : HR} {t : Str → Int} {s : Str} {L' : List HR} (h : St2m w4 wr g cap N bins L x t s L') (ho : Own hrE 3 63 w7 (w4.heap.size + 1) (.slice (some ⟨g, 0, none⟩) N cap) L2) (hp : L2.Perm L') (hh : Heap (hrs L2)) (hg : wr.grownBy w7 (some g)) : St2 w4 w7 g cap N (stepB t bins s) L2 := by
  have hgb := (h.row.lt g rfl).1
  have hcl := World.block_lt_of_cell? _ _ h.cell
  simp only at hcl
  refine ⟨ho, (h.own.row h.row (by decide) hg).perm hp, holds_step h.holds (hrs_at h.hx) s hh (by
    have := hp.map HR.h
    change (hrs L2).Perm (hrs L') at this
    rw [h.set] at this
    exact this), by unfold stepB; rw [List.length_set]; exact h.len, ?_, h.bel.grown hg (by have := h.bel.size; omega) (fun q hq => by simp at hq; omega)⟩
  exact ((grown_blk hg w4.heap.size hcl (by simp; omega)).1 0).trans h.cell
set_option maxRecDepth 100000 in
set_option maxHeartbeats 8000000 in
theorem split_any (A B : Option Addr) (c d : Nat) (l : List Str) (ts : List Tm) (n : Int) (w : World) (hr : Rw sE 1 w w.heap.size A l) (hn : l.length ≤ 1000) (hs : ∀ x ∈ l, x.1.size < 4294967281) (ht : Rw tmE 2 w w.heap.size B ts) (htn : ts.length ≤ 1000000) (hts : ∀ x ∈ ts, x.name.1.size ≤ 1000000) (hG : Glob w) :
    Calls Tryz.prog 14 #[.slice A l.length c, .slice B ts.length d, .int .i64 n] w fun e w' => ∃ A' c' L, e = .returned (.tuple #[.slice A' L.length c', .int .i64 (splErr l n)]) ∧ RwS w' w'.heap.size A' L ∧ L.map SlR.l = shdL ts l n ∧ Below w.heap.size w w' := by
  have hck0 : ∀ W, Below w.heap.size w W → Calls Tryz.prog 29 #[.slice A l.length c, .int .i64 n] W fun e w' => e = .returned (.int .i64 (splErr l n)) ∧ Below W.heap.size W w' := fun W hb => scheck_any A c l n W ((hr.below hb (Nat.le_refl _)).more hb.size) (by omega) hs (hG.keep hb)
  obtain ⟨E, hE⟩ : ∃ E, splErr l n = E := ⟨_, rfl⟩
  rw [hE] at hck0 ⊢
  have hck := Lib.hid hck0
  clear hck0
  by_cases hE0 : E = 0
  rotate_left
  · have hEb : (E != 0) = true := by rw [bne_iff_ne]; exact hE0
    have hf : Hid (shdL ts l n = []) := Lib.hid (shdL_no (by rw [hE]; exact hE0))
    replace hE := Lib.hid hE
    replace hE0 := Lib.hid hE0
    clear hr ht hs hts
    go_enter Tryz.func14, Tryz.ntmps14
    go_wp2_with (go_at_call 29; go_must (refine (hck.out _ (Below.refl _ _)).mono ?_; rintro e w1 ⟨rfl, hb1⟩; have hz1 := hb1.size))
    go_ret2
    exact ⟨none, 0, [], rfl, ⟨Rw.nil, fun _ h => absurd h List.not_mem_nil⟩, by rw [hf.out]; rfl, hb1⟩
  subst hE0
  obtain ⟨n1, n2, _, _, hnd⟩ := splErr_ok hE
  obtain ⟨N, rfl⟩ : ∃ N : Nat, n = (N : Int) := ⟨n.toNat, by omega⟩
  have hN0 : 0 < N := by omega
  have hN1 : N ≤ 64 := by omega
  clear n1 n2
  have hout : Hid (shdL ts l (N : Int) = (fillB (clockT ts) N (ordL (clockT ts) l)).map fun b => srt b.1) := Lib.hid (by rw [shdL_ok hE, Int.toNat_natCast]; rfl)
  replace hE := Lib.hid hE
  replace hnd := Lib.hid hnd
  have hcl : Hid (∀ W, Below w.heap.size w W → Calls Tryz.prog 25 #[.slice B ts.length d] W fun e w' => ∃ v, e = .returned v ∧ Clk w' w'.heap.size v ts ∧ Below W.heap.size W w') := Lib.hid fun W hb => clock_any B d ts W ((ht.below hb (Nat.le_refl _)).more hb.size) htn hts
  have hcn : Hid (∀ W, Below w.heap.size w W → Calls Tryz.prog 30 #[.slice A l.length c] W fun e w' => ∃ A' C', e = .returned (.slice A' l.length C') ∧ Own sE 1 9 w' W.heap.size (.slice A' l.length C') l ∧ Below W.heap.size W w') := Lib.hid fun W hb => sclone_own A c l W ((hr.below hb (Nat.le_refl _)).more hb.size) (by omega)
  obtain ⟨inb, hib, ib0, ib1, ib2⟩ := info_parts bin_info
  obtain ⟨ins, his, is0, is1, is2⟩ := info_parts str_info
  obtain ⟨inl, hil, il0, il1, il2⟩ := info_parts list_info
  clear hr ht hs hts
  go_enter Tryz.func14, Tryz.ntmps14
  go_wp2_with (first
    | (go_at_call 29; go_must (refine (hck.out _ (Below.refl _ _)).mono ?_; rintro e w1 ⟨rfl, hb1⟩; have hz1 := hb1.size))
    | (go_at_call 25; go_must (refine (hcl.out _ hb1).mono ?_; rintro e w2 ⟨v2, rfl, hc2, hb2⟩; have hz2 := hb2.size; obtain ⟨b3, b8, rfl, hb3', hb8', htm0⟩ := clk_call hc2; replace htm0 := Lib.hid htm0))
    | (go_at_call 30; go_must (refine (hcn.out _ (by repeat (first | (with_reducible exact Below.refl _ _) | (with_reducible refine Below.drew ?_) | (with_reducible refine below_drewN ?_ _) | ((with_reducible refine Below.alloc ?_ ?_ _); rotate_left; focus ((try simp) <;> omega)) | ((with_reducible refine Below.setCell ?_ ?_ _); rotate_left; focus ((try simp) <;> omega)) | ((with_reducible refine Below.trans ?_ (Below.mono (by assumption) ?_)); rotate_left; focus ((try simp) <;> omega))))).mono ?_; rintro e w3 ⟨A3, C3, rfl, ho3, hb3⟩; have hz3 := hb3.size; (try simp at hz3); have cv3 := (hb3.cell (p := ⟨w2.heap.size, 0, none⟩) (by simp)).trans (box_cells w2 _ _ 0 _ rfl); replace ho3 := Lib.hid (Own.base ho3 (b' := w2.heap.size + 1) (by simp)); have hbx : Below w2.heap.size w2 w3 := ((Below.refl _ _).alloc (Nat.le_refl _) _).trans (hb3.mono (by simp)); have hc3 := Lib.hid ((hc2.below hbx (Nat.le_refl _)).more (B' := w2.heap.size + 1) (by omega)); clear hb3))
    | (go_at_call 31; go_must (refine (sorta_any ts w2.heap.size (w2.heap.size + 1) (.func (.func 47) #[] #[.pointer (some ⟨b3, 0, none⟩), .pointer (some ⟨b8, 0, none⟩)]) A3 C3 l _ cv3 (by omega) hc3.out ho3.out (by omega) (by omega)).mono ?_; rintro e w4 ⟨rfl, hr4, hb4⟩; have hz4 := hb4.size; replace hr4 := Lib.hid hr4)))
  have hc4 : Clk w4 (w2.heap.size + 1) _ ts := hc3.out.below hb4 (Nat.le_refl _)
  have cv4 : w4.cell? ⟨w2.heap.size, 0, none⟩ = some (.func (.func 47) #[] #[.pointer (some ⟨b3, 0, none⟩), .pointer (some ⟨b8, 0, none⟩)]) := (hb4.cell (p := ⟨w2.heap.size, 0, none⟩) (by show w2.heap.size < _; omega)).trans cv3
  have hb0 : Hid (Below w.heap.size w w4) := Lib.hid ((show Below w.heap.size w w3 from hb1.trans ((hb2.mono hz1).trans (hbx.mono (by omega)))).trans (hb4.mono (by omega)))
  have htm : Hid (∀ (s : Str) (W : World), Below w4.heap.size w4 W → Calls Tryz.prog 47 #[.string s.1, .pointer (some ⟨b3, 0, none⟩), .pointer (some ⟨b8, 0, none⟩)] W fun e w' => e = .returned (.int .i64 (clockT ts s)) ∧ W = w') := Lib.hid fun s W hb => by
    obtain ⟨c3, c8, e, _, _, h⟩ := clk_call hc4
    simp only [Value.func.injEq, true_and] at e
    simp at e
    obtain ⟨rfl, rfl⟩ := e
    exact h s W (by simp only [maxLen]; exact s.2) (hb.mono (by omega))
  clear hck hcl hcn hc2 hc3 hc4 hb1 hb2 hb4 ho3 htm0 cv3 hbx
  obtain ⟨O, hO⟩ : ∃ O, ordL (clockT ts) l = O := ⟨_, rfl⟩
  rw [hO] at hr4 hout
  have hOl0 : O.length = l.length := by rw [← hO]; exact ord_len _ _
  have hOl1 := Nat.le_of_eq hOl0
  have hOl2 := Nat.le_of_eq hOl0.symm
  replace hOl0 := Lib.hid hOl0
  replace hO := Lib.hid hO
  go_loopw [33] (fun vi wr => ∃ (k : Nat) (v : Value), vi = .int .i64 (k : Int) ∧ k ≤ N ∧ wr.cell? ⟨w4.heap.size, 0, none⟩ = some v ∧ wr.frozen? ⟨w4.heap.size, 0, none⟩ = false ∧ Own hrE 3 63 wr (w4.heap.size + 1) v (startR k) ∧ w4.heap.size < wr.heap.size ∧ Below w4.heap.size w4 wr) (fun vi _ => N - (intOf vi).toNat)
  case atStart => exact ⟨0, .slice none 0 0, rfl, Nat.zero_le _, by go_simp, by go_simp, Own.nil _ _ _, by simp, (by repeat (first | (with_reducible exact Below.refl _ _) | (with_reducible refine Below.drew ?_) | (with_reducible refine below_drewN ?_ _) | ((with_reducible refine Below.alloc ?_ ?_ _); rotate_left; focus ((try simp) <;> omega)) | ((with_reducible refine Below.setCell ?_ ?_ _); rotate_left; focus ((try simp) <;> omega)) | ((with_reducible refine Below.trans ?_ (Below.mono (by assumption) ?_)); rotate_left; focus ((try simp) <;> omega))))⟩
  case round =>
    obtain ⟨k, v, rfl, hk, cb, fb, hown, hzr, hbw⟩ := hrel
    by_cases hkn : k < N
    · have i1 : (k : Int) < (N : Int) := by omega
      obtain ⟨A5, c5, hv, hc5, _, hvlt⟩ := hown.form
      rw [startR_len] at hv hc5
      have hsl : (startR k).length = k := startR_len k
      replace hsl := Lib.hid hsl
      subst hv
      have hnx : Hid (startR (k + 1) = startR k ++ [⟨k, 0, none, 0, []⟩]) := Lib.hid (startR_succ k)
      replace hown := Lib.hid hown
      replace hvlt := Lib.hid hvlt
      go_wp2_with (at_builtin
                   refine wpList_append_rw _ rfl (.tmp 37) (.tmp 40) _ rfl hrE_len hrE_one (w4.heap.size + 1) 63 inb _ 40 Tryz.underlying59 hib ib0 ib1 ib2 rfl (by omega) _ (startR k) rfl (hown.out.alloc _) _ (some ⟨wr.heap.size, 0, none⟩) 1 1 [⟨k, 0, none, 0, []⟩] rfl rfl (rw_bin1 (Nat.lt_succ_self _)) ?_ ?_ ?_ ?_
                   · rw [hsl.out]; (try simp [maxLen]) <;> omega
                   · rw [hsl.out]; (try simp) <;> omega
                   · (try simp) <;> omega
                   intro v6 w6 hown6 hg6 hat6
                   have hz6 := hg6.size
                   (try simp at hz6)
                   rw [← hnx.out] at hown6
                   obtain ⟨e6, f6⟩ := grown_blk hg6 w4.heap.size (by (try simp) <;> omega) (fun e => by have := (hvlt.out _ e.symm).1; omega)
                   have c6 : w6.cell? ⟨w4.heap.size, 0, none⟩ = some (.slice A5 k c5) := (e6 0).trans (by go_simp)
                   have f7 : w6.frozen? ⟨w4.heap.size, 0, none⟩ = false := (f6 0).trans (by go_simp)
                   obtain ⟨A7, c7, hv7, _, _, hl7⟩ := hown6.form
                   rw [startR_len] at hv7
                   subst hv7
                   replace hown6 := Lib.hid hown6)
      have hb7 : Below w4.heap.size w4 (w6.setCell ⟨w4.heap.size, 0, none⟩ (.slice A7 (k + 1) c7)) := (Below.grown (hbw.alloc (by omega) _) hg6 (by (try simp) <;> omega) (fun q hq => by have := (hvlt.out q hq).1; omega)).setCell (Nat.le_refl _) _
      go_roundw
      case rel => exact ⟨k + 1, _, by go_num, hkn, World.cell?_setCell_same _ _ _ c6, by go_simp, hown6.out.setCell (fun q hq => by have := (hl7 q hq).1; show q ≠ w4.heap.size; omega) _, by (try simp) <;> omega, hb7⟩
      case measure => simp [intOf]; omega
    · have i1 : ¬ (k : Int) < (N : Int) := by omega
      obtain rfl : N = k := by omega
      obtain ⟨g, cap, hv, hgb, hgl⟩ := World.ownsRow.form hown (by rw [startR_len]; exact hN0)
      rw [startR_len] at hv
      subst hv
      have hst0 : Hid (St2 w4 wr g cap N (fillB (clockT ts) N (O.take 0)) (startR N)) := Lib.hid ⟨hown, startR_own _ _ _, by rw [startR_h]; exact holds_start N, by rw [List.take_zero]; exact List.length_replicate, cb, hbw⟩
      clear hown fb
      go_wp2_with fail
      go_loopw [46] (fun vi wr => ∃ (k : Nat) (L : List HR), vi = .int .i64 (k : Int) ∧ k ≤ l.length ∧ St2 w4 wr g cap N (fillB (clockT ts) N (O.take k)) L) (fun vi _ => l.length - (intOf vi).toNat)
      case atStart => exact ⟨0, _, rfl, Nat.zero_le _, hst0.out⟩
      case round =>
        obtain ⟨k, L, rfl, hk, hS⟩ := hrel
        have hz := hS.bel.size
        have cb := hS.cell
        have hcl := World.block_lt_of_cell? _ _ hS.cell
        simp only at hcl
        by_cases hkl : k < l.length
        · have i0 : (0 : Int) ≤ (k : Int) := by omega
          have i1 : (k : Int) < (l.length : Int) := by omega
          obtain ⟨s, hs⟩ := get_some (show k < O.length by omega)
          obtain ⟨qg, qo, rfl, hqg, hq⟩ := hr4.out (by omega)
          have q0 := (hS.bel.cell (p := ⟨qg, qo + k * 1 + 0, none⟩) hqg).trans (hq k s hs 0 (.string s.1) rfl)
          rw [Nat.add_zero, Nat.mul_one] at q0
          clear hq
          obtain ⟨x, hx⟩ := get_some (show 0 < L.length by rw [hS.llen]; exact hN0)
          obtain ⟨x1, fx1⟩ := own_cells (j := 1) (u := .int .i64 x.load) hrE_len hS.row hx rfl
          obtain ⟨x2, fx2⟩ := own_cells (j := 2) (u := .slice x.tA x.ts.length x.tC) hrE_len hS.row hx rfl
          simp only [Nat.zero_mul, Nat.zero_add] at x1 x2 fx1 fx2
          obtain ⟨m1, m2, m3, m4⟩ := holds_small hN0 hS.holds (List.mem_of_getElem? hx)
          rw [List.length_take] at m1 m3
          replace m1 : x.ts.length ≤ 1000 := by omega
          replace m3 : x.load ≤ 1125899906842624000 := by
            have h9 : ((min k O.length : Nat) : Int) ≤ 1000 := by omega
            omega
          clear m4
          have hgw := (hS.row.lt g rfl).2
          have hgh := (hS.row.lt g rfl).1
          have hxo := hS.own.each x (List.mem_of_getElem? hx)
          have hxlt := Lib.hid hxo.lt
          replace hxo : Hid (Own sE 1 9 wr (w4.heap.size + 1) (.slice x.tA x.ts.length x.tC) x.ts) := Lib.hid hxo
          have hgne : Hid (∀ q, (tvR x).ownBlock = some q → q ≠ g) := Lib.hid fun q hq e => own_apart hxo.out hS.row (by decide) q hq (by rw [e]; rfl)
          have hn0 : (0 : Int) < (N : Int) := by omega
          have htk : Hid (fillB (clockT ts) N (O.take (k + 1)) = stepB (clockT ts) (fillB (clockT ts) N (O.take k)) s) := Lib.hid (by rw [List.take_add_one, hs]; exact fill_snoc _ _ _ _)
          obtain ⟨t1, t2⟩ := time_in ts s
          have htms0 := fun W hb => htm.out s W hb
          obtain ⟨C, hC⟩ : ∃ C, clockT ts s = C := ⟨_, rfl⟩
          rw [hC] at t1 t2 htms0
          have htms := Lib.hid htms0
          clear htms0
          replace hC := Lib.hid hC
          replace hS := Lib.hid hS
          replace hs := Lib.hid hs
          replace hx := Lib.hid hx
          go_upto_region 18 with (first
                     | (at_builtin
                        refine wpList_append_rw _ rfl (.tmp 57) (.tmp 59) _ rfl sE_len sE_one (w4.heap.size + 1) 9 ins _ 16 Tryz.underlying22 his is0 is1 is2 rfl (by omega) (.slice x.tA x.ts.length x.tC) x.ts rfl (hxo.out.alloc _) _ (some ⟨wr.heap.size, 0, none⟩) 1 1 [s] rfl rfl (rw_str1 (Nat.lt_succ_self _)) ?_ ?_ ?_ ?_
                        · (try simp [maxLen]) <;> omega
                        · (try simp) <;> omega
                        · (try simp) <;> omega
                        intro v6 w6 hown6 hg6 hat6
                        have hz6 := hg6.size
                        (try simp at hz6)
                        obtain ⟨A7, c7, hv7, _, _, _⟩ := hown6.form
                        rw [List.length_append, List.length_singleton] at hv7
                        subst hv7
                        obtain ⟨e6, f6⟩ := grown_blk hg6 g (by (try simp) <;> omega) (fun e => hgne.out g e.symm rfl)
                        have x1b : w6.cell? ⟨g, 1, none⟩ = some (.int .i64 x.load) := (e6 1).trans (by go_simp)
                        have x2b : w6.cell? ⟨g, 2, none⟩ = some (.slice x.tA x.ts.length x.tC) := (e6 2).trans (by go_simp)
                        have fx1b : w6.frozen? ⟨g, 1, none⟩ = false := (f6 1).trans (by go_simp)
                        have fx2b : w6.frozen? ⟨g, 2, none⟩ = false := (f6 2).trans (by go_simp)
                        have hSm := st2_mid (clockT ts) hS.out hx.out hown6 hg6 hat6
                        rw [hC.out] at hSm
                        replace hSm := Lib.hid hSm
                        have cv6 : w6.cell? ⟨w2.heap.size, 0, none⟩ = some (.func (.func 47) #[] #[.pointer (some ⟨b3, 0, none⟩), .pointer (some ⟨b8, 0, none⟩)]) := ((grown_blk hg6 w2.heap.size (by (try simp) <;> omega) (fun e => by have := (hxlt.out _ e.symm).1; omega)).1 0).trans ((World.cell?_alloc_lt _ _ _ (by show w2.heap.size < _; omega)).trans ((hS.out.bel.cell (p := ⟨w2.heap.size, 0, none⟩) (by show w2.heap.size < _; omega)).trans cv4))
                        have hb6 : Hid (Below w4.heap.size w4 w6) := Lib.hid (Below.grown (hS.out.bel.alloc hz _) hg6 (by (try simp) <;> omega) (fun q hq => by have := (hxlt.out q hq).1; omega))
                        have hb7 : Hid (Below w4.heap.size w4 ((w6.setCell ⟨g, 2, none⟩ (.slice A7 (x.ts.length + 1) c7)).drew)) := Lib.hid (Below.drew (Below.setCell hb6.out (by show w4.heap.size ≤ g; omega) _))
                        replace hg6 := Lib.hid hg6
                        replace hown6 := Lib.hid hown6
                        replace hat6 := Lib.hid hat6)
                     | fail "none")
          go_cut [15] (fun s15 wx => s15 = .pointer (some ⟨g, 0, none⟩) ∧ St2m w4 wx g cap N (fillB (clockT ts) N (O.take k)) L x (clockT ts) s (L.set 0 ⟨x.no, x.load + C, A7, c7, x.ts ++ [s]⟩))
          case first =>
            go_region_with (go_at_call 47; go_must (refine (htms.out _ hb7.out).mono ?_; rintro e w8 ⟨rfl, rfl⟩))
            all_goals (go_wp2_with fail; go_meet)
            all_goals
              refine ⟨rfl, ?_⟩
              rw [show IntKind.i64.wrap (x.load + C) = x.load + C from IntWalk.i64_in _ (by omega)]
              exact hSm.out.drew
          case rest =>
            obtain ⟨rfl, hM⟩ := hcut
            go_wp2_with (go_at_call 36; go_must (refine (sinkN_any w4.heap.size g cap (w4.heap.size + 1) N _ _ hM.llen hM.cell hM.row (by omega) (by rw [hM.set]; exact heap_start hM.holds.heap _) hN0 (by omega)).mono ?_; rintro e w8 ⟨rfl, L8, ho8, hp8, hh8, hg8⟩; have hS8 := Lib.hid (hM.sunk ho8 hp8 hh8 hg8); clear ho8 hp8 hh8 hg8))
            go_roundw
            case rel => exact ⟨k + 1, L8, by go_num, hkl, by rw [htk.out]; exact hS8.out⟩
            case measure => simp [intOf]; omega
        · have i1 : ¬ (k : Int) < (l.length : Int) := by omega
          rw [List.take_of_length_le (by omega)] at hS
          obtain ⟨w7, rfl⟩ : ∃ w7 : World, w7 = wr := ⟨_, rfl⟩
          have hll := hS.llen
          have hlab : Hid (∀ (i : Nat) (x : HR) (W : World), L[i]? = some x → Below w7.heap.size w7 W → Rw sE 1 W W.heap.size x.tA x.ts ∧ x.ts.length ≤ 1000) := Lib.hid fun i x W hx hb => by
            have h1 := hS.own.each x (List.mem_of_getElem? hx)
            have h2 := (holds_small hN0 hS.holds (List.mem_of_getElem? hx)).1
            exact ⟨((h1.reads (c := x.tC) sE_len).below hb (Nat.le_refl _)).more hb.size, by omega⟩
          have hrow : Hid (∀ (i : Nat) (x : HR), L[i]? = some x → w7.cell? ⟨g, i * 3, none⟩ = some (.int .i64 (x.no : Int)) ∧ w7.cell? ⟨g, i * 3 + 1, none⟩ = some (.int .i64 x.load) ∧ w7.cell? ⟨g, i * 3 + 2, none⟩ = some (.slice x.tA x.ts.length x.tC) ∧ x.no < N) := Lib.hid fun i x hx => by
            have a0 := (own_cells (j := 0) (u := .int .i64 (x.no : Int)) hrE_len hS.row hx rfl).1
            rw [Nat.add_zero] at a0
            exact ⟨a0, (own_cells (j := 1) (u := .int .i64 x.load) hrE_len hS.row hx rfl).1, (own_cells (j := 2) (u := .slice x.tA x.ts.length x.tC) hrE_len hS.row hx rfl).1, (holds_small hN0 hS.holds (List.mem_of_getElem? hx)).2.2.2⟩
          have hgw := (hS.row.lt g rfl).2
          have hfin : Hid (∀ O8 : List SlR, Laid L O8 N → O8.length = N → O8.map SlR.l = shdL ts l (N : Int)) := Lib.hid fun O8 h1 h2 => by
            rw [hout.out]
            exact laid_all hS.holds (by rw [hll]; exact h1) (by rw [h2, hS.len])
          have hnx := Lib.hid fun (O8 : List SlR) (k : Nat) (x : HR) (y : SlR) (h : Laid L O8 k) (hx : L[k]? = some x) (hy : y.l = srt x.ts) (hn : x.no < O8.length) => laid_next hS.holds h hx hy hn
          have hb07 : Hid (Below w.heap.size w w7) := Lib.hid (hb0.out.trans (hS.bel.mono (by have := hb0.out.size; omega)))
          have hL1 := Nat.le_of_eq hll
          have hL2 := Nat.le_of_eq hll.symm
          replace hll := Lib.hid hll
          replace hS := Lib.hid hS
          go_wp2_with (first
            | (at_make
               go_loud (refine wpList_make_full _ rfl (.tmp 75) (.tmp 75) _ rfl w7.heap.size 22 inl _ 1 Tryz.underlying28 hil il0 il1 _ _ _ _ N rfl rfl rfl rfl (by rw [il2]; omega) (by simp [maxLen]; omega) (by (try simp) <;> omega) ?_)
               intro w8 hown8 hg8
               have hz8 := hg8.size
               (try simp at hz8)
               replace hown8 := Lib.hid (own_made_sl hown8)
               obtain ⟨e8, f8⟩ := grown_blk hg8 w4.heap.size (by (try simp) <;> omega) (by simp)
               have cb8 := (e8 0).trans cb
               have hb8 : Hid (Below w7.heap.size w7 w8) := Lib.hid (Below.grown (Below.refl _ _) hg8 (Nat.le_refl _) nofun))
            | fail "none")
          go_loopw [80] (fun vi wr => ∃ (k : Nat) (O8 : List SlR), vi = .int .i64 (k : Int) ∧ k ≤ N ∧ Own slE 1 22 wr w7.heap.size (.slice (some ⟨w7.heap.size, 0, none⟩) N N) O8 ∧ (∀ y ∈ O8, Rw sE 1 wr wr.heap.size y.A y.l) ∧ Laid L O8 k ∧ w7.heap.size < wr.heap.size ∧ Below w7.heap.size w7 wr) (fun vi _ => N - (intOf vi).toNat)
          case atStart => exact ⟨0, _, rfl, Nat.zero_le _, hown8.out, fun y hy => by obtain ⟨_, rfl⟩ := List.mem_replicate.1 hy; exact Rw.nil, fun i x hi => by omega, (hown8.out.lt _ rfl).2, hb8.out⟩
          case round =>
            obtain ⟨k, O8, rfl, hk, ho, hlb, hld, hz9, hbw⟩ := hrel
            have hOl : O8.length = N := by
              obtain ⟨_, _, e, _⟩ := ho.form
              simp only [Value.slice.injEq] at e
              exact e.2.1.symm
            by_cases hkn : k < N
            · have i0 : (0 : Int) ≤ (k : Int) := by omega
              have i1 : (k : Int) < (N : Int) := by omega
              obtain ⟨x, hx⟩ := get_some (show k < L.length by omega)
              obtain ⟨x0, x1, x2, hno⟩ := hrow.out k x hx
              have y0 := (hbw.cell (p := ⟨g, k * 3, none⟩) hgw).trans x0
              have y1 := (hbw.cell (p := ⟨g, k * 3 + 1, none⟩) hgw).trans x1
              have y2 := (hbw.cell (p := ⟨g, k * 3 + 2, none⟩) hgw).trans x2
              clear x0 x1 x2
              have j0 : (0 : Int) ≤ (x.no : Int) := by omega
              have j1 : (x.no : Int) < (N : Int) := by omega
              have hgr : g < wr.heap.size := by omega
              have hso := Lib.hid fun (W : World) (hb : Below w7.heap.size w7 W) => sorted_any x.tA x.tC x.ts W (hlab.out k x W hx hb).1 (by have := (hlab.out k x W hx hb).2; omega)
              obtain ⟨z, hz⟩ := get_some (show x.no < O8.length by omega)
              have cz := (own_cells (j := 0) (u := .slice z.A z.l.length z.c) slE_len ho hz rfl)
              rw [Nat.mul_one, Nat.add_zero] at cz
              obtain ⟨cz1, fz1⟩ := cz
              replace hld := Lib.hid hld
              replace hlb := Lib.hid hlb
              replace ho := Lib.hid ho
              replace hOl := Lib.hid hOl
              replace hx := Lib.hid hx
              replace hz := Lib.hid hz
              have ng1 : w7.heap.size ≠ wr.heap.size := by omega
              go_upto_region 25 with fail
              go_region_held3 (fun w' => w'.cell? ⟨wr.heap.size, 0, none⟩ = some (.int .i64 (x.no : Int)) ∧ w'.cell? ⟨wr.heap.size, 2, none⟩ = some (.slice x.tA x.ts.length x.tC)) (first | (go_keep; done) | (go_simp; done) | go_keep)
                (first
                | (go_at_call 37; go_must (refine (hso.out _ (hbw.trans (Below.mono (B := wr.heap.size) (by repeat (first | (with_reducible exact Below.refl _ _) | (with_reducible refine Below.drew ?_) | (with_reducible refine below_drewN ?_ _) | ((with_reducible refine Below.alloc ?_ ?_ _); rotate_left; focus ((try simp) <;> omega)) | ((with_reducible refine Below.setCell ?_ ?_ _); rotate_left; focus ((try simp) <;> omega)) | ((with_reducible refine Below.trans ?_ (Below.mono (by assumption) ?_)); rotate_left; focus ((try simp) <;> omega)))) (by omega)))).mono ?_; rintro e w9 ⟨A9, c9, rfl, hr9, hb9⟩; have hz10 := hb9.size; (try simp at hz10); obtain ⟨hc9, hf9⟩ := blk_at hb9 wr.heap.size (by (try simp) <;> omega); obtain ⟨hd9, he9⟩ := blk_at hb9 w7.heap.size (by (try simp) <;> omega)))
                | fail "none")
              have hb10 : Below wr.heap.size wr w9 := (by repeat (first | (with_reducible exact Below.refl _ _) | (with_reducible refine Below.drew ?_) | (with_reducible refine below_drewN ?_ _) | ((with_reducible refine Below.alloc ?_ ?_ _); rotate_left; focus ((try simp) <;> omega)) | ((with_reducible refine Below.setCell ?_ ?_ _); rotate_left; focus ((try simp) <;> omega)) | ((with_reducible refine Below.trans ?_ (Below.mono (by assumption) ?_)); rotate_left; focus ((try simp) <;> omega))))
              have ho9 := ho.out.all hb10
              have hnew := set_cellN slE_len 0 (y := (⟨A9, c9, srt x.ts⟩ : SlR)) (u := .slice A9 (srt x.ts).length c9) ho9 hOl.out hz.out (by omega) rfl
              simp only [Nat.mul_one, Nat.add_zero] at hnew
              have hlb9 : ∀ y ∈ O8.set x.no ⟨A9, c9, srt x.ts⟩, Rw sE 1 (w9.setCell ⟨w7.heap.size, x.no, none⟩ (.slice A9 (srt x.ts).length c9)) w9.heap.size y.A y.l := fun y hy => by
                rcases List.mem_or_eq_of_mem_set hy with h | rfl
                · exact rws_apart (((hlb.out y h).below hb10 (Nat.le_refl _)).more hb10.size) ho9 (grown_setCell _ _ _ _) (Nat.le_refl _) (Nat.le_refl _) (full_sl ho9)
                · exact rws_apart hr9 ho9 (grown_setCell _ _ _ _) (Nat.le_refl _) (Nat.le_refl _) (full_sl ho9)
              have hld9 := hnx.out O8 k x ⟨A9, c9, srt x.ts⟩ hld.out hx.out rfl (by have := hOl.out; omega)
              have hb11 : Below w7.heap.size w7 (w9.setCell ⟨w7.heap.size, x.no, none⟩ (.slice A9 (srt x.ts).length c9)) := (hbw.trans (hb10.mono (by omega))).setCell (Nat.le_refl _) _
              have hz11 : w7.heap.size < (w9.setCell ⟨w7.heap.size, x.no, none⟩ (.slice A9 (srt x.ts).length c9)).heap.size := by simp; omega
              replace hnew := Lib.hid hnew
              replace hlb9 := Lib.hid hlb9
              replace hld9 := Lib.hid hld9
              replace hb11 := Lib.hid hb11
              replace ho9 := Lib.hid ho9
              go_wp2_with fail
              go_roundw
              case rel => exact ⟨k + 1, _, by go_num, hkn, hnew.out, fun y hy => (hlb9.out y hy).more (by simp), hld9.out, hz11, hb11.out⟩
              case measure => simp [intOf]; omega
            · have i1 : ¬ (k : Int) < (N : Int) := by omega
              obtain rfl : N = k := by omega
              have hf := Lib.hid (hfin.out O8 hld hOl)
              have hr8 := Lib.hid (RwS.mk (w := wr) (B := wr.heap.size) (ho.reads slE_len) hlb)
              replace hld := Lib.hid hld
              replace hlb := Lib.hid hlb
              replace ho := Lib.hid ho
              go_wp2_with fail
              go_ret2
              exact ⟨_, N, O8, by rw [hOl]; rfl, hr8.out, hf.out, hb07.out.trans (hbw.mono (by have := hb07.out.size; omega))⟩
end Go.Proofs.YtdjepnilmgembaaGreatDoor
