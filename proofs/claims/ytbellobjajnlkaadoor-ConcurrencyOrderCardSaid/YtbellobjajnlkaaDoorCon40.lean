/-
  Jobs appended to a list of the call's own whose spare room holds empty texts: what else lies in memory, of valid groups, is kept (plain facts of memory).
-/
import Derived.Test.YtbellobjajnlkaaDoorCon33
import Derived.Test.YtbellobjajnlkaaDoorCon5



namespace Go.Proofs.YtbellobjajnlkaaDoor
open Go.RowKit

/-- The block of a list of the call's own holds texts alone, and empty ones behind the list. -/
def SpareZ (w : World) (v : Value) (n : Nat) : Prop := ∀ g, v.ownBlock = some g → ∃ cur e f, w.heap[g]? = some (.cells cur e f) ∧ ∀ (j : Nat) u, cur[j]? = some u → ∃ s, u = .string s ∧ (n * 2 ≤ j → s = ByteArray.empty)
/-- Of what a world holds, the texts that are not empty are kept, and the blocks that hold anything but texts. -/
structure Kept (w w' : World) : Prop where
  str : ∀ b o s, w.cell? ⟨b, o, none⟩ = some (.string s) → s ≠ ByteArray.empty → w'.cell? ⟨b, o, none⟩ = some (.string s)
  oth : ∀ b o u, w.cell? ⟨b, o, none⟩ = some u → (∀ s, u ≠ .string s) → ∀ k, w'.cell? ⟨b, k, none⟩ = w.cell? ⟨b, k, none⟩
  size : w.heap.size ≤ w'.heap.size
theorem SpareZ.nil (w : World) : SpareZ w (.slice none 0 0) 0 := fun g hg => by simp [Value.ownBlock] at hg
theorem SpareZ.keep {w w' : World} {v : Value} {n : Nat} (h : SpareZ w v n) (hw : ∀ g, v.ownBlock = some g → w'.heap[g]? = w.heap[g]?) : SpareZ w' v n := fun g hg => by
  obtain ⟨cur, e, f, h1, h2⟩ := h g hg
  exact ⟨cur, e, f, (hw g hg).trans h1, h2⟩
theorem SpareZ.below {w w' : World} {v : Value} {n : Nat} (h : SpareZ w v n) {C : Nat} (hb : Below C w w') (hB : ∀ g, v.ownBlock = some g → g < C) : SpareZ w' v n := h.keep fun g hg => hb.block g (hB g hg)
theorem kept_far {w w' : World} (hg : w.grownBy w' none) : Kept w w' :=
  ⟨fun b o s h _ => hg.cell h (by simp), fun b o u h _ k => World.cell?_of_block (hg.block b (World.block_lt_of_cell? w ⟨b, o, none⟩ h) (by simp)), hg.size⟩
theorem kept_alloc (w : World) (o : Obj) : Kept w (w.drew.alloc o) := by
  have h := World.grownBy_alloc w.drew o none
  exact kept_far ⟨h.os, h.tape, h.output, h.size, h.block⟩
theorem Kept.refl (w : World) : Kept w w := ⟨fun _ _ _ h _ => h, fun _ _ _ _ _ _ => rfl, Nat.le_refl _⟩
theorem zero_cells (k j : Nat) (u : Value) (h : (Builtin.zeroCells (Value.agg #[.string ByteArray.empty, .string ByteArray.empty]).cells k)[j]? = some u) : u = .string ByteArray.empty := by
  have hc : (Value.agg #[.string ByteArray.empty, .string ByteArray.empty]).cells = #[.string ByteArray.empty, .string ByteArray.empty] := by rfl
  rw [hc] at h
  unfold Builtin.zeroCells at h
  obtain ⟨hj, e⟩ := Array.getElem?_eq_some_iff.1 h
  rw [Array.getElem_map] at e
  simp only [Array.getElem_range, List.size_toArray, List.length_cons, List.length_nil] at e
  rcases Nat.mod_two_eq_zero_or_one j with h2 | h2
  · rw [h2] at e
    exact e.symm
  · rw [h2] at e
    exact e.symm
theorem flat_str (l : List JRef) (j : Nat) (u : Value) (h : (l.flatMap jRefE)[j]? = some u) : ∃ s, u = .string s := by
  obtain ⟨x, _, hx⟩ := List.mem_flatMap.1 (List.mem_of_getElem? h)
  simp only [jRefE, List.mem_cons, List.not_mem_nil, or_false] at hx
  rcases hx with rfl | rfl
  · exact ⟨_, rfl⟩
  · exact ⟨_, rfl⟩
theorem grow_cells {l : List JRef} {x : JRef} {k j : Nat} {u : Value} (h : ((l.flatMap jRefE).toArray ++ (jRefE x).toArray ++ Builtin.zeroCells (Value.agg #[.string ByteArray.empty, .string ByteArray.empty]).cells k)[j]? = some u) : ∃ s, u = .string s ∧ ((l.length + 1) * 2 ≤ j → s = ByteArray.empty) := by
  have hs : ((l.flatMap jRefE).toArray ++ (jRefE x).toArray).size = (l.length + 1) * 2 := by
    rw [Array.size_append, List.size_toArray, List.size_toArray, flat_len jRefE_len, jRefE_len]; omega
  rw [Array.getElem?_append] at h
  by_cases hj : j < ((l.flatMap jRefE).toArray ++ (jRefE x).toArray).size
  · rw [if_pos hj] at h
    have h2 : ((l ++ [x]).flatMap jRefE)[j]? = some u := by
      rw [List.flatMap_append, List.flatMap_singleton]
      have := h
      rw [← Array.getElem?_toList] at this
      simpa using this
    obtain ⟨s, rfl⟩ := flat_str _ _ _ h2
    exact ⟨s, rfl, fun h3 => absurd hj (by rw [hs]; omega)⟩
  · rw [if_neg hj] at h
    exact ⟨_, zero_cells _ _ _ h, fun _ => rfl⟩

theorem run_append_spare {w : World} {base : Nat} {v : Value} {l : List JRef} (ty : TypeId) (hown : Own jRefE 2 29 w base v l) (hsp : SpareZ w v l.length) {B : Nat} {A : Option Addr} {c : Nat} {x : JRef} (hr : Rw jRefE 2 w B A [x]) (hn : l.length ≤ 1000000) (hbase : base ≤ w.heap.size) :
    ∃ v' w', (Builtin.append_ #[33, 33] ty #[v, .slice A 1 c]).run Tryd.prog w = .ok v' w' ∧ Own jRefE 2 29 w' base v' (l ++ [x]) ∧ w.grownBy w' v.ownBlock ∧ (v'.ownBlock = v.ownBlock ∨ v'.ownBlock = some w.heap.size) ∧ SpareZ w' v' (l ++ [x]).length ∧ Kept w w' := by
  obtain ⟨inf, hi0, iz0, iz1, iz2⟩ := info_three ref_info
  obtain ⟨v', w', hrun, h2, h3, h4⟩ := run_append_rw (P := Tryd.prog) w jRefE_len jRefE_one base 33 ty 29 inf _ 32 Tryd.underlying33 hi0 iz0 iz1 iz2 rfl (by omega) v l hown B A c [x] hr (by unfold maxLen; simp; omega) (by simp; omega) hbase
  refine ⟨v', w', hrun, h2, h3, h4, ?_⟩
  obtain ⟨g0, o0, rfl, _, hc⟩ := hr.flat jRefE_len (by simp)
  have hnews : ∀ j u, (jRefE x)[j]? = some u → w.cell? ((⟨g0, o0, none⟩ : Addr).add j) = some u := fun j u hu => by
    rw [addr_plain]
    exact hc j u (by rw [List.flatMap_singleton]; exact hu)
  have hl1 : (l ++ [x]).length = l.length + 1 := by simp
  rw [hl1]
  change (Builtin.append_ #[33, 33] ty #[v, .slice (some ⟨g0, o0, none⟩) 1 c]).run Tryd.prog w = .ok v' w' at hrun
  have hnl : (jRefE x).length = 1 * inf.size := by rw [iz1]; rfl
  rcases hown.2 with ⟨rfl, hl0⟩ | ⟨g, cap, cur, rfl, hbg, hg, hnc, hcm, hcs, htake⟩
  · have hr2 := run_append_nil (P := Tryd.prog) w 33 ty 29 inf _ Tryd.underlying33 hi0 iz0 ⟨g0, o0, none⟩ 1 c (jRefE x) hnl hnews (by omega) (by omega) (by rw [iz2]; omega)
    rw [hr2] at hrun
    cases hrun
    have hle : l = [] := List.eq_nil_of_length_eq_zero hl0
    subst hle
    refine ⟨fun g hg => ?_, kept_alloc w _⟩
    simp only [Value.ownBlock, Option.some.injEq] at hg
    subst hg
    refine ⟨_, _, _, heap_alloc_new w.drew _, fun j u hu => ?_⟩
    exact grow_cells (l := []) (x := x) (by simpa using hu)
  · by_cases hroom : l.length + 1 ≤ cap
    · have hfit : l.length * inf.size + (jRefE x).length ≤ cur.size := by rw [iz1, hcs, jRefE_len]; omega
      have hr2 := run_append_room (P := Tryd.prog) w 33 ty 29 inf Tryd.underlying33 hi0 g l.length cap cur hg ⟨g0, o0, none⟩ 1 c (jRefE x) hnl hnews (jRefE_one x) hroom hfit
      rw [hr2] at hrun
      cases hrun
      rw [iz1] at hfit ⊢
      obtain ⟨cur', e', f', hg', hz⟩ := hsp g rfl
      rw [hg] at hg'
      obtain ⟨rfl, rfl, rfl⟩ : cur = cur' ∧ _ = e' ∧ _ = f' := by simpa using hg'
      have hnew : ∀ (j : Nat), (cur.toList.take (l.length * 2) ++ jRefE x ++ cur.toList.drop (l.length * 2 + (jRefE x).length)).toArray[j]? = if j < l.length * 2 then cur[j]? else if j < l.length * 2 + 2 then (jRefE x)[j - l.length * 2]? else cur[j]? := fun j => by
        have hlt : (cur.toList.take (l.length * 2)).length = l.length * 2 := by rw [List.length_take, Array.length_toList (xs := cur)]; omega
        rw [List.getElem?_toArray, jRefE_len]
        by_cases h1 : j < l.length * 2
        · rw [if_pos h1, List.append_assoc, List.getElem?_append_left (by omega), List.getElem?_take, if_pos h1, Array.getElem?_toList]
        · rw [if_neg h1]
          by_cases h2 : j < l.length * 2 + 2
          · rw [if_pos h2, List.append_assoc, List.getElem?_append_right (by omega), hlt, List.getElem?_append_left (by rw [jRefE_len]; omega)]
          · rw [if_neg h2, List.getElem?_append_right (by rw [List.length_append, hlt, jRefE_len]; omega), List.length_append, hlt, jRefE_len, List.getElem?_drop, Array.getElem?_toList, show l.length * 2 + 2 + (j - (l.length * 2 + 2)) = j by omega]
      have hset := setRow_heap w g cur (cur.toList.take (l.length * 2) ++ jRefE x ++ cur.toList.drop (l.length * 2 + (jRefE x).length)).toArray _ _ hg
      refine ⟨fun q hq => ?_, ⟨fun b o s hs hne => ?_, fun b o u hu hns k => ?_, by simp⟩⟩
      · simp only [Value.ownBlock, Option.some.injEq] at hq
        subst hq
        refine ⟨_, 29, (0, 0), hset, fun j u hu => ?_⟩
        rw [hnew] at hu
        split at hu
        · rename_i h1
          obtain ⟨s, rfl, _⟩ := hz j u hu
          exact ⟨s, rfl, fun h5 => by omega⟩
        · split at hu
          · rename_i h1 h5
            obtain ⟨s, rfl⟩ := flat_str [x] (j - l.length * 2) u (by rw [List.flatMap_singleton]; exact hu)
            exact ⟨s, rfl, fun h6 => by omega⟩
          · rename_i h1 h5
            obtain ⟨s, rfl, h6⟩ := hz j u hu
            exact ⟨s, rfl, fun h7 => h6 (by omega)⟩
      · by_cases hb : b = g
        · subst hb
          rw [cell_of_row w b o cur _ _ hg] at hs
          obtain ⟨s', e, h6⟩ := hz o _ hs
          obtain rfl : s = s' := by simpa using e
          have hlo : o < l.length * 2 := Nat.lt_of_not_le fun h7 => hne (h6 h7)
          rw [cell_of_row _ b o _ _ _ hset, hnew, if_pos hlo]
          exact hs
        · exact (World.cell?_of_block (setRow_other w g b _ hb)).trans hs
      · have hb : b ≠ g := by
          rintro rfl
          rw [cell_of_row w b o cur _ _ hg] at hu
          obtain ⟨s', e, _⟩ := hz o _ hu
          exact hns s' e
        exact World.cell?_of_block (setRow_other w g b _ hb)
    · have holds : ∀ j u, (l.flatMap jRefE)[j]? = some u → w.cell? ((⟨g, 0, none⟩ : Addr).add j) = some u := hown.cells (g := g) rfl
      have hr2 := run_append_grow (P := Tryd.prog) w 33 ty 29 inf _ Tryd.underlying33 hi0 iz0 ⟨g, 0, none⟩ l.length cap (l.flatMap jRefE) (by rw [iz1, flat_len jRefE_len]) holds ⟨g0, o0, none⟩ 1 c (jRefE x) hnl hnews (by omega) (by omega) (growslice_fits (by omega) (by rw [iz2]; omega))
      rw [hr2] at hrun
      cases hrun
      refine ⟨fun q hq => ?_, kept_alloc w _⟩
      simp only [Value.ownBlock, Option.some.injEq] at hq
      subst hq
      exact ⟨_, _, _, heap_alloc_new w.drew _, fun j u hu => grow_cells hu⟩

/-- At the operation, for the walk. -/
theorem wpList_append_spare {ops : Array Oper} {rest : List Oper} {o : Oper} {a : Act} {w : World} {Q : Exit → Act → World → Prop} (hgd : o.guard = none) (s x : Operand)
    (ho : o.op = .call { callee := .builtin .append, args := #[s, x], argTypes := #[33, 33] })
    (base : Nat) (v : Value) (l : List JRef) (hs : a.eval s = v) (hown : Own jRefE 2 29 w base v l) (hsp : SpareZ w v l.length)
    (B : Nat) (A : Option Addr) (c : Nat) (y : JRef) (hx : a.eval x = .slice A 1 c) (hr : Rw jRefE 2 w B A [y]) (hn : l.length ≤ 1000000) (hbase : base ≤ w.heap.size)
    (h : ∀ v' w', Own jRefE 2 29 w' base v' (l ++ [y]) → w.grownBy w' v.ownBlock → (v'.ownBlock = v.ownBlock ∨ v'.ownBlock = some w.heap.size) → SpareZ w' v' (l ++ [y]).length → Kept w w' → wpList Tryd.prog ops Q rest (a.put o.dst v') w') : wpList Tryd.prog ops Q (o :: rest) a w := by
  refine wpList_plain hgd fun _ hK => ?_
  obtain ⟨v', w', hrun, h2, h3, h4, h5, h6⟩ := run_append_spare o.type hown hsp hr hn hbase (c := c)
  unfold Oper.wp execOp
  simp only [ho, resolve, invoke, builtin, Sem.run_bind, Sem.run_pure, Result.andThen_ok, List.map_toArray, List.map_cons, List.map_nil, hs, hx, hrun]
  exact hK _ _ (h v' w' h2 h3 h4 h5 h6)

theorem job_run {r : JRef} (h : jobB r = true) : r.run.1 ≠ ByteArray.empty ∧ r.job.1 ≠ ByteArray.empty := by
  unfold jobB at h
  rw [Bool.and_eq_true] at h
  refine ⟨fun e => ?_, fun e => ?_⟩
  · have : r.run = zS := Subtype.ext e
    rw [this, path_zero] at h
    exact absurd h.1 (by decide)
  · have : r.job = zS := Subtype.ext e
    rw [this, path_zero] at h
    exact absurd h.2 (by decide)
/-- Valid groups lie where they lay. -/
theorem St.kept {w w' : World} {A : Option Addr} {c : Nat} {L : List Grp} {gs : List G} (h : St w A c L gs) (hv : Val gs) (hk : Kept w w') : St w' A c L gs := by
  refine ⟨⟨fun hn => ?_, fun x hx => ?_⟩, h.le, h.eq⟩
  · obtain ⟨g, o, e, hg, hc⟩ := h.row.row hn
    obtain ⟨x, hx⟩ := get_some hn
    have hs := hc 0 x hx 3 (.slice x.waitA x.wait.length x.waitC) rfl
    have hb := hk.oth g _ _ hs (fun s h => by cases h)
    exact ⟨g, o, e, Nat.lt_of_lt_of_le hg hk.size, fun i x hx j u hu => (hb _).trans (hc i x hx j u hu)⟩
  · obtain ⟨h1, h2, h3⟩ := h.row.labs x hx
    refine ⟨h1, h2, fun hn => ?_⟩
    obtain ⟨g, o, e, hg, hc⟩ := h3 hn
    refine ⟨g, o, e, Nat.lt_of_lt_of_le hg hk.size, fun i y hy j u hu => ?_⟩
    have hxg : x.g ∈ gs := by rw [← h.eq]; exact List.mem_map_of_mem hx
    have hj := job_run (hv.job y (all_mem.2 ⟨x.g, hxg, mem_wait (g := x.g) (List.mem_of_getElem? hy)⟩))
    have hcu := hc i y hy j u hu
    match j, hu with
    | 0, hu =>
      obtain rfl : Value.string y.run.1 = u := by simpa [jRefE] using hu
      exact hk.str _ _ _ hcu hj.1
    | 1, hu =>
      obtain rfl : Value.string y.job.1 = u := by simpa [jRefE] using hu
      exact hk.str _ _ _ hcu hj.2
    | j + 2, hu => simp [jRefE] at hu
end Go.Proofs.YtbellobjajnlkaaDoor
