/-
  The walks of workers: a worker inserted into a list; a worker that joins, by the program.
-/
import Derived.Test.YtnahbfmbmpoljaaDoorWk14
import Derived.Test.YtnahbfmbmpoljaaDoorWk15
import Derived.Test.YtnahbfmbmpoljaaDoorWk18
import Derived.Test.YtnahbfmbmpoljaaDoorCopyGr




namespace Go.Proofs.YtnahbfmbmpoljaaDoor
open Go.RowKit

theorem wins_ext (vb g lb cb o : Nat) (hne : vb ≠ g) (cb1 cb2 : Array Value) (w : World) (h1 : w.heap[vb]? = some (.cells cb1 25 (0, 0))) (h2 : w.heap[g]? = some (.cells cb2 25 (0, 0))) (hk : cb2.size ≠ 0) :
    (callFunc 65 #[.slice (some ⟨vb, 0, none⟩) 1 1, .slice (some ⟨g, o, none⟩) lb cb]).run Tryd.prog w = .ok (.value (.bool false)) w := by
  rw [run_callFunc_extern Tryd.func65 (by kernel_rfl) (by kernel_rfl) (by kernel_rfl) (e := Extern.SlicesOverlaps.overlaps #[31, 31] #[4]) (by kernel_rfl),
    Lib.run_overlaps_apart w 31 4 25 Tryd.underlying31 9 (fun w => by kernel_rfl) ⟨vb, 0, none⟩ ⟨g, o, none⟩ 1 1 lb cb hne 25 25 cb1.size cb2.size (by simp [World.shape?, h1]) (by simp [World.shape?, h2]) hk (by simp [World.frozen?, h1]) (by simp [World.frozen?, h1])]
  rfl
set_option maxHeartbeats 4000000 in
set_option maxRecDepth 100000 in
theorem wins_end (v : Value) (l : List Work) (H : Nat) (w : World) (hown : Own workE 9 25 w H v l) (x : Work) (vb : Nat) (hvb : w.heap[vb]? = some (.cells (workE x).toArray 25 (0, 0))) (hH : H ≤ w.heap.size) (hn : l.length ≤ 1000000) :
    Calls Tryd.prog 39 #[v, .int .i64 l.length, .slice (some ⟨vb, 0, none⟩) 1 1] w fun e w' => ∃ v', e = .returned v' ∧ Own workE 9 25 w' H v' (l ++ [x]) ∧ Below H w w' ∧ w.grownBy w' v.ownBlock := by
  obtain ⟨i0, hi0, hz0, hz1, hz2⟩ := info_parts work_info
  have hlt := hown.lt
  obtain ⟨A, c, rfl, hc1, hc2, _⟩ := hown.form
  have hvbs : vb < w.heap.size := by
    rcases Nat.lt_or_ge vb w.heap.size with h | h
    · exact h
    · rw [Array.getElem?_eq_none h] at hvb; cases hvb
  have hx : Rw workE 9 w w.heap.size (some ⟨vb, 0, none⟩) [x] := fun _ => ⟨vb, 0, rfl, hvbs, fun a y hy j u hu => by
    rcases a with _ | a
    · simp at hy; subst hy
      rw [cell_of_row w _ _ _ _ (0, 0) hvb]
      simpa using hu
    · simp at hy⟩
  have hmx : c ≤ 9223372036854775807 := by unfold maxLen at hc2; omega
  replace hvb := Lib.hid hvb
  obtain ⟨n, hn2⟩ : ∃ n, l.length = n := ⟨_, rfl⟩
  have hnn : n ≤ 1000000 := by omega
  rw [hn2] at hown hc1 hlt ⊢
  replace hn2 := Lib.hid hn2
  clear hn
  go_enter Tryd.func39, Tryd.ntmps39
  go_wp2_with (at_builtin
               go_must (refine wpList_append_rw _ rfl (.tmp 23) (.tmp 24) _ rfl workE_len workE_one H 25 i0 _ 112 Tryd.underlying31 hi0 hz0 hz1 hz2 rfl (by omega) (.slice A n c) l rfl (by rw [← hn2.out] at hown ⊢; exact hown) _ (some ⟨vb, 0, none⟩) 1 1 [x] rfl rfl hx (by rw [hn2.out]; simp [maxLen]; omega) (by rw [hn2.out]; omega) hH ?_)
               intro v1 w1 hown1 hg1 hat1)
  all_goals go_ret
  all_goals exact ⟨v1, rfl, hown1, (Below.refl _ _).grown hg1 (by omega) (fun g hg => (hlt g hg).1), by cases A <;> exact hg1⟩
set_option maxHeartbeats 4000000 in
set_option maxRecDepth 100000 in
theorem wins_shift (g cap i : Nat) (l : List Work) (H : Nat) (w : World) (hown : Own workE 9 25 w H (.slice (some ⟨g, 0, none⟩) l.length cap) l) (hi : i < l.length) (hroom : l.length + 1 ≤ cap) (x : Work) (vb : Nat) (hvb : w.heap[vb]? = some (.cells (workE x).toArray 25 (0, 0))) (hne : vb ≠ g) (hn : l.length ≤ 1000000) :
    Calls Tryd.prog 39 #[.slice (some ⟨g, 0, none⟩) l.length cap, .int .i64 i, .slice (some ⟨vb, 0, none⟩) 1 1] w fun e w' => ∃ v', e = .returned v' ∧ Own workE 9 25 w' H v' (l.take i ++ x :: l.drop i) ∧ Below H w w' ∧ w.grownBy w' (some g) := by
  obtain ⟨i0, hi0, hz0, hz1, hz2⟩ := info_parts work_info
  have hsz : (Tryd.prog.info? 25).map (·.size) = some 9 := by rw [hi0]; simp [hz1]
  obtain ⟨hHg, _, hm, cur, hg, hs⟩ := own_block hown
  have hcs : cur.size ≠ 0 := by omega
  have hov := fun lb cb o => wins_ext vb g lb cb o hne _ cur w hvb hg hcs
  obtain ⟨hnew, hbel, hex⟩ := shift_row workE_len (x := x) hown (Nat.le_of_lt hi) hroom
  have hgrw := grown_shift w g ((i + 1) * 9) (i * 9) ((l.drop i).flatMap workE) (workE x)
  have hmx : cap ≤ 9223372036854775807 := by unfold maxLen at hm; omega
  have hcell : ∀ t u, (l.flatMap workE)[t]? = some u → w.cell? ⟨g, t, none⟩ = some u := fun t u hu => by
    have ht := (List.getElem?_eq_some_iff.1 hu).1
    rw [flat_len workE_len] at ht
    rw [hown.cellAt t ht]; exact hu
  have hfro : ∀ t, w.frozen? ⟨g, t, none⟩ = false := fun t => hown.frozenAt t
  have hdl : ((l.drop i).flatMap workE).length = (l.length - i) * 9 := by rw [flat_len workE_len, List.length_drop]
  obtain ⟨n, hn2⟩ : ∃ n, l.length = n := ⟨_, rfl⟩
  have hnn : n ≤ 1000000 := by omega
  rw [hn2] at hown hex hnew hroom hi hdl ⊢
  obtain ⟨W1, hW1⟩ : ∃ W1, W1 = w.drew.setCells g ((i + 1) * 9) ((l.drop i).flatMap workE) := ⟨_, rfl⟩
  have hmn1 : Nat.min (n + 1 - i) (n - i) = n - i := by simp only [Nat.min_def]; split <;> omega
  have hmn2 : Nat.min 1 (n + 1 - i) = 1 := by simp only [Nat.min_def]; split <;> omega
  have hcp1 : ∀ ty dc sc, (Builtin.copy_ #[31, 31] ty #[.slice (some ⟨g, (i + 1) * 9, none⟩) (n - i) dc, .slice (some ⟨g, i * 9, none⟩) (n + 1 - i) sc]).run Tryd.prog w.drew = .ok (goInt ((n - i : Nat) : Int)) W1 := fun ty dc sc => by
    rw [hW1, run_copy_k w.drew _ _ ty 25 g ((i + 1) * 9) (n - i) dc ⟨g, i * 9, none⟩ (n + 1 - i) sc ((l.drop i).flatMap workE) Tryd.underlying31 hsz (by rw [hdl, hmn1])
      (fun j v hj => by rw [addr_plain]; exact hcell _ _ (drop_cells workE_len hj))
      (fun j hj => (hex _ (by omega)).1) (fun j hj => hfro _) (mem_flat_one workE_one _), hmn1]
  have hcp2 : ∀ (W : World), (∀ a, W.cell? a = W1.cell? a) → (∀ a, W.frozen? a = W1.frozen? a) → ∀ ty dc, (Builtin.copy_ #[31, 31] ty #[.slice (some ⟨g, i * 9, none⟩) (n + 1 - i) dc, .slice (some ⟨vb, 0, none⟩) 1 1]).run Tryd.prog W = .ok (goInt ((1 : Nat) : Int)) (W.setCells g (i * 9) (workE x)) := fun W hWc hWf ty dc => by
    rw [run_copy_k W _ _ ty 25 g (i * 9) (n + 1 - i) dc ⟨vb, 0, none⟩ 1 1 (workE x) Tryd.underlying31 hsz (by rw [workE_len, hmn2])
      (fun j v hj => by
        rw [addr_plain, hWc, hW1, World.cell?_setCells_out g _ _ _ _ (fun h _ => absurd h hne)]
        show w.cell? _ = _
        rw [cell_of_row w _ _ _ _ (0, 0) hvb]
        simpa using hj)
      (fun j hj => by rw [hWc, hW1]; rw [workE_len] at hj; exact (hex _ (by omega)).2) (fun j hj => by rw [hWf, hW1, World.frozen?_setCells]; exact hfro _) (workE_one _), hmn2]
  rw [← hW1] at hnew hbel hgrw
  replace hW1 := Lib.hid hW1
  replace hn2 := Lib.hid hn2
  replace hown := Lib.hid hown
  replace hg := Lib.hid hg
  replace hvb := Lib.hid hvb
  replace hs := Lib.hid hs
  replace hdl := Lib.hid hdl
  replace hnew := Lib.hid hnew
  replace hbel := Lib.hid hbel
  replace hgrw := Lib.hid hgrw
  clear hex hcell hn hmn1 hmn2
  have hw1 : IntKind.i64.wrap ((i : Int) + 1) = (i : Int) + 1 := IntWalk.i64_in _ (by omega)
  have hw2 : IntKind.i64.wrap ((n : Int) + 1) = (n : Int) + 1 := IntWalk.i64_in _ (by omega)
  have hb0 : (0 : Int) ≤ (i : Int) := by omega
  have hb1 : (0 : Int) ≤ (i : Int) + 1 := by omega
  have htn : ((i : Int) + 1).toNat = i + 1 := by omega
  have htn2 : ((n : Int) + 1).toNat = n + 1 := by omega
  have hb2 : ¬ (cap = i + 1) := by omega
  have hb3 : ¬ (cap = i) := by omega
  have hb5 : i ≤ n := by omega
  have hb6 : ¬ ((i : Int) = (n : Int)) := by omega
  have hb7 : (i : Int) ≤ (n : Int) + 1 := by omega
  have hb8 : i ≤ n + 1 := by omega
  have hmix : Tryd.prog.follows .mixedOrders = true := by kernel_rfl
  go_enter Tryd.func39, Tryd.ntmps39
  go_wp2_with (simp only [hov])
  go_region_law_o (refine step_copy_runI rfl _ _ 31 31 rfl _ _ (by simp [Act.eval, Act.put]) (by simp [Act.eval, Act.put]) (hcp1 _ _ _) ?_)
  go_wp2_with (at_builtin; refine wpList_copy_runI _ rfl _ _ 31 31 rfl _ _ rfl rfl (hcp2 _ (fun _ => rfl) (fun _ => rfl) _ _) ?_)
  go_ret
  exact ⟨_, rfl, hnew.out, hbel.out, hgrw.out⟩
set_option maxHeartbeats 4000000 in
set_option maxRecDepth 100000 in
theorem wins_grow (g cap i : Nat) (l : List Work) (H : Nat) (w : World) (hown : Own workE 9 25 w H (.slice (some ⟨g, 0, none⟩) l.length cap) l) (hi : i < l.length) (hroom : cap < l.length + 1) (x : Work) (vb : Nat) (hvb : w.heap[vb]? = some (.cells (workE x).toArray 25 (0, 0))) (hH : H ≤ w.heap.size) (hn : l.length ≤ 1000000) :
    Calls Tryd.prog 39 #[.slice (some ⟨g, 0, none⟩) l.length cap, .int .i64 i, .slice (some ⟨vb, 0, none⟩) 1 1] w fun e w' => ∃ v', e = .returned v' ∧ Own workE 9 25 w' H v' (l.take i ++ x :: l.drop i) ∧ Below H w w' ∧ w.grownBy w' (some g) := by
  obtain ⟨i0, hi0, hz0, hz1, hz2⟩ := info_parts work_info
  have hsz : (Tryd.prog.info? 25).map (·.size) = some 9 := by rw [hi0]; simp [hz1]
  obtain ⟨hHg, hnc, hm, cur, hg, hs⟩ := own_block hown
  have hcell : ∀ t u, (l.flatMap workE)[t]? = some u → w.cell? ⟨g, t, none⟩ = some u := fun t u hu => by
    have ht := (List.getElem?_eq_some_iff.1 hu).1
    rw [flat_len workE_len] at ht
    rw [hown.cellAt t ht]; exact hu
  have hgw : g < w.heap.size := by
    rcases Nat.lt_or_ge g w.heap.size with h | h
    · exact h
    · rw [Array.getElem?_eq_none h] at hg; cases hg
  have hvw : vb < w.heap.size := by
    rcases Nat.lt_or_ge vb w.heap.size with h | h
    · exact h
    · rw [Array.getElem?_eq_none h] at hvb; cases hvb
  have hdl : ((l.drop i).flatMap workE).length = (l.length - i) * 9 := by rw [flat_len workE_len, List.length_drop]
  have htl : ((l.take i).flatMap workE).length = i * 9 := by rw [flat_len workE_len, List.length_take, Nat.min_eq_left (Nat.le_of_lt hi)]
  have htk : ∀ (t : Nat) (u : Value), ((l.take i).flatMap workE)[t]? = some u → w.cell? ⟨g, t, none⟩ = some u := fun t u hu => by
    refine hcell t u ?_
    have e : l.flatMap workE = (l.take i).flatMap workE ++ (l.drop i).flatMap workE := by rw [← List.flatMap_append, List.take_append_drop]
    have ht := (List.getElem?_eq_some_iff.1 hu).1
    rw [e, List.getElem?_append_left ht]; exact hu
  have hold : (Builtin.firstCells i0.size i (.slice (some ⟨g, 0, none⟩) i cap)).run Tryd.prog w.drew = .ok ((l.take i).flatMap workE).toArray w.drew := by
    rw [hz1]
    exact run_firstCells_some w.drew 9 i ⟨g, 0, none⟩ i cap _ htl (fun j v hj => by rw [addr_plain, Nat.zero_add]; exact htk j v hj)
  obtain ⟨G, hG⟩ : ∃ G, G = grownCap w (l.length + 1) cap 25 := ⟨_, rfl⟩
  have hGn : l.length + 1 ≤ G := by rw [hG]; exact grownCap_ge w _ _ _
  have hGm : G ≤ maxLen := by rw [hG]; exact grownCap_le_maxLen w _ _ _ (by unfold maxLen; omega)
  have hkk : (l.length : Int) + 1 - (i : Int) = ((l.length + 1 - i : Nat) : Int) := by omega
  have hik : i + (l.length + 1 - i) = l.length + 1 := by omega
  obtain ⟨ROW, hROW⟩ : ∃ ROW : Array Value, ROW = ((l.take i).flatMap workE).toArray ++ Builtin.zeroCells (Value.agg #[.string ByteArray.empty, .slice none 0 0, .int .i64 0, .int .i64 0, .bool false, .int .i64 0, .int .i64 0, .int .i64 0, .slice none 0 0]).cells (l.length + 1 - i) ++ Builtin.zeroCells (Value.agg #[.string ByteArray.empty, .slice none 0 0, .int .i64 0, .int .i64 0, .bool false, .int .i64 0, .int .i64 0, .int .i64 0, .slice none 0 0]).cells (G - (l.length + 1)) := ⟨_, rfl⟩
  have hRs : ROW.size = G * 9 := by
    rw [hROW, Array.size_append, Array.size_append, size_zeroCells, size_zeroCells, List.size_toArray, htl, show ((Value.agg #[.string ByteArray.empty, .slice none 0 0, .int .i64 0, .int .i64 0, .bool false, .int .i64 0, .int .i64 0, .int .i64 0, .slice none 0 0]).cells).size = 9 from rfl]
    omega
  have hRo : ∀ (t : Nat) (u : Value), ((l.take i).flatMap workE)[t]? = some u → ROW[t]? = some u := fun t u hu => by
    have ht := (List.getElem?_eq_some_iff.1 hu).1
    rw [hROW, Array.append_assoc, Array.getElem?_append_left (by simpa using ht)]
    simpa using hu
  obtain ⟨hnew, hbel, hex⟩ := grow_row workE_len (x := x) (e := 25) hH (Nat.le_of_lt hi) hGn hGm hRs hRo
  have hgrw := grown_grow w (some g) (.cells ROW 25) (i * 9) ((i + 1) * 9) (workE x) ((l.drop i).flatMap workE)
  have hrz : ∀ ty, (Builtin.append_ #[31, 3] ty #[.slice (some ⟨g, 0, none⟩) i cap, .int .i64 ((l.length : Int) + 1 - (i : Int))]).run Tryd.prog w = .ok (.slice (some ⟨w.heap.size, 0, none⟩) (l.length + 1) G) (w.drew.alloc (.cells ROW 25)) := fun ty => by
    have h := Lib.run_append_grow_zeros w 31 3 ty 25 i0 _ .i64 .i64 Tryd.underlying31 Tryd.underlying3 hi0 hz0 (some ⟨g, 0, none⟩) i cap _ hold (l.length + 1 - i) (by omega) (by rw [hz1]; omega) (by omega) (by omega) (by rw [hz2]; omega) (by rw [hz2, hik]; exact growslice_fits hroom (by omega))
    rw [hik] at h
    rw [hkk, hROW, hG]
    exact h
  have hmx : cap ≤ 9223372036854775807 := by unfold maxLen at hm; omega
  have hmG : G ≤ 9223372036854775807 := by unfold maxLen at hGm; omega
  obtain ⟨n, hn2⟩ : ∃ n, l.length = n := ⟨_, rfl⟩
  have hnn : n ≤ 1000000 := by omega
  rw [hn2] at hown hex hnew hroom hi hdl hrz hGn hnc ⊢
  clear hkk hik hROW hG hRs hRo hold
  have hcell2 : ∀ t u, ((l.drop i).flatMap workE)[t]? = some u → w.cell? ⟨g, i * 9 + t, none⟩ = some u := fun t u hu => hcell _ _ (drop_cells workE_len hu)
  have hmn1 : Nat.min (n - i) (n - i) = n - i := by simp only [Nat.min_def]; split <;> omega
  have hmn2 : Nat.min 1 (n + 1 - i) = 1 := by simp only [Nat.min_def]; split <;> omega
  obtain ⟨W1, hW1⟩ : ∃ W1, W1 = w.drew.alloc (.cells ROW 25) := ⟨_, rfl⟩
  have hOb : ∀ b j, b < w.heap.size → W1.cell? ⟨b, j, none⟩ = w.cell? ⟨b, j, none⟩ := fun b j h => by rw [hW1, World.cell?_alloc_past (w := w.drew) _ b j h]; rfl
  have hNf : ∀ j, W1.frozen? ⟨w.heap.size, j, none⟩ = false := fun j => by rw [hW1]; exact World.frozen?_alloc_at (w := w.drew) ROW _ w.heap.size j rfl
  have hcpA : ∀ (W : World), (∀ a, W.cell? a = W1.cell? a) → (∀ a, W.frozen? a = W1.frozen? a) → ∀ ty dc, (Builtin.copy_ #[31, 31] ty #[.slice (some ⟨w.heap.size, i * 9, none⟩) (n + 1 - i) dc, .slice (some ⟨vb, 0, none⟩) 1 1]).run Tryd.prog W = .ok (goInt ((1 : Nat) : Int)) (W.setCells w.heap.size (i * 9) (workE x)) := fun W hWc hWf ty dc => by
    rw [run_copy_k W _ _ ty 25 w.heap.size (i * 9) (n + 1 - i) dc ⟨vb, 0, none⟩ 1 1 (workE x) Tryd.underlying31 hsz (by rw [workE_len, hmn2])
      (fun j v hj => by
        rw [addr_plain, hWc, hOb vb _ hvw, cell_of_row w _ _ _ _ (0, 0) hvb]
        simpa using hj)
      (fun j hj => by rw [hWc, hW1]; rw [workE_len] at hj; exact (hex _ (by omega)).1) (fun j hj => by rw [hWf]; exact hNf _) (workE_one _), hmn2]
  have hcpB : ∀ (W : World), (∀ a, W.cell? a = (W1.setCells w.heap.size (i * 9) (workE x)).cell? a) → (∀ a, W.frozen? a = (W1.setCells w.heap.size (i * 9) (workE x)).frozen? a) → ∀ ty dc sc, (Builtin.copy_ #[31, 31] ty #[.slice (some ⟨w.heap.size, (i + 1) * 9, none⟩) (n - i) dc, .slice (some ⟨g, i * 9, none⟩) (n - i) sc]).run Tryd.prog W = .ok (goInt ((n - i : Nat) : Int)) (W.setCells w.heap.size ((i + 1) * 9) ((l.drop i).flatMap workE)) := fun W hWc hWf ty dc sc => by
    rw [run_copy_k W _ _ ty 25 w.heap.size ((i + 1) * 9) (n - i) dc ⟨g, i * 9, none⟩ (n - i) sc ((l.drop i).flatMap workE) Tryd.underlying31 hsz (by rw [hdl, hmn1])
      (fun j v hj => by
        rw [addr_plain, hWc, World.cell?_setCells_out w.heap.size _ _ _ _ (fun h _ => absurd h (by show g ≠ _; omega)), hOb g _ hgw]
        exact hcell2 j v hj)
      (fun j hj => by rw [hWc, hW1, ← drew_cell]; exact (hex _ (by omega)).2) (fun j hj => by rw [hWf, World.frozen?_setCells]; exact hNf _) (mem_flat_one workE_one _), hmn1]
  subst hW1
  have hE1 : ∀ a, ((w.alloc (.cells ROW 25)).drew).cell? a = (w.drew.alloc (.cells ROW 25)).cell? a := fun a => rfl
  have hE2 : ∀ a, ((w.alloc (.cells ROW 25)).drew).frozen? a = (w.drew.alloc (.cells ROW 25)).frozen? a := fun a => rfl
  have hF1 : ∀ a, (((w.alloc (.cells ROW 25)).drew.setCells w.heap.size (i * 9) (workE x)).drew).cell? a = ((w.drew.alloc (.cells ROW 25)).setCells w.heap.size (i * 9) (workE x)).cell? a := fun a => drew_cell _ a
  have hF2 : ∀ a, (((w.alloc (.cells ROW 25)).drew.setCells w.heap.size (i * 9) (workE x)).drew).frozen? a = ((w.drew.alloc (.cells ROW 25)).setCells w.heap.size (i * 9) (workE x)).frozen? a := fun a => drew_frozen _ a
  replace hn2 := Lib.hid hn2
  replace hown := Lib.hid hown
  replace hg := Lib.hid hg
  replace hvb := Lib.hid hvb
  replace hs := Lib.hid hs
  replace hdl := Lib.hid hdl
  replace htl := Lib.hid htl
  replace hnew := Lib.hid hnew
  replace hbel := Lib.hid hbel
  replace hgrw := Lib.hid hgrw
  clear hex hcell hcell2 htk hn hmn1 hmn2 hOb hNf
  have hw1 : IntKind.i64.wrap ((i : Int) + 1) = (i : Int) + 1 := IntWalk.i64_in _ (by omega)
  have hw2 : IntKind.i64.wrap ((n : Int) + 1) = (n : Int) + 1 := IntWalk.i64_in _ (by omega)
  have hw3 : IntKind.i64.wrap ((n : Int) + 1 - (i : Int)) = (n : Int) + 1 - (i : Int) := IntWalk.i64_in _ (by omega)
  have hb0 : (0 : Int) ≤ (i : Int) := by omega
  have hb1 : (0 : Int) ≤ (i : Int) + 1 := by omega
  have htn : ((i : Int) + 1).toNat = i + 1 := by omega
  have hGi : ¬ (G = i) := by omega
  have hGim : ¬ (G = i + 1) := by omega
  have hb3 : ¬ (cap = i) := by omega
  have hz3 : (cap : Int) < (n : Int) + 1 := by omega
  have hb5 : i ≤ n := by omega
  have hb6 : ¬ ((i : Int) = (n : Int)) := by omega
  have hb7 : (i : Int) ≤ (n : Int) + 1 := by omega
  have hb8 : i ≤ n + 1 := by omega
  have hb9 : i ≤ cap := by omega
  have hmix : Tryd.prog.follows .mixedOrders = true := by kernel_rfl
  go_enter Tryd.func39, Tryd.ntmps39
  go_wp2_with (first
    | (at_builtin; refine Lib.wpList_append_run _ rfl _ _ _ _ rfl _ _ rfl rfl _ _ (hrz _) ?_)
    | (at_builtin; refine wpList_copy_runI _ rfl _ _ 31 31 rfl _ _ rfl rfl (hcpA _ hE1 hE2 _ _) ?_))
  go_region_law_o (refine step_copy_runI rfl _ _ 31 31 rfl (.slice (some ⟨w.heap.size, (i + 1) * 9, none⟩) (n - i) (G - (i + 1))) (.slice (some ⟨g, i * 9, none⟩) (n - i) (cap - i)) (by simp [Act.eval, Act.put]) (by simp [Act.eval, Act.put]) (hcpB _ hF1 hF2 3 (G - (i + 1)) (cap - i)) ?_)
  go_wp2_with fail
  go_ret
  exact ⟨_, rfl, hnew.out, hbel.out, hgrw.out⟩
theorem wins_any (v : Value) (i : Nat) (l : List Work) (H : Nat) (w : World) (hown : Own workE 9 25 w H v l) (hi : i ≤ l.length) (x : Work) (vb : Nat) (hvb : w.heap[vb]? = some (.cells (workE x).toArray 25 (0, 0))) (hne : v.ownBlock ≠ some vb) (hH : H ≤ w.heap.size) (hn : l.length ≤ 1000000) :
    Calls Tryd.prog 39 #[v, .int .i64 i, .slice (some ⟨vb, 0, none⟩) 1 1] w fun e w' => ∃ v', e = .returned v' ∧ Own workE 9 25 w' H v' (l.take i ++ x :: l.drop i) ∧ Below H w w' ∧ w.grownBy w' v.ownBlock := by
  rcases Nat.lt_or_eq_of_le hi with h | h
  · rcases hown.2 with ⟨rfl, h0⟩ | ⟨g, cap, cur, rfl, _⟩
    · omega
    · by_cases hr : l.length + 1 ≤ cap
      · exact wins_shift g cap i l H w hown h hr x vb hvb (fun e => hne (by rw [e]; rfl)) hn
      · exact wins_grow g cap i l H w hown h (by omega) x vb hvb hH hn
  · subst h
    rw [List.take_length, List.drop_length]
    exact wins_end v l H w hown x vb hvb hH hn
end Go.Proofs.YtnahbfmbmpoljaaDoor
