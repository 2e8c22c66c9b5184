/-
  The walks of the layer of names: lists of strings, sorted without repetitions, by the program.
-/
import Derived.Test.YtnhfbignnnicnaaDoorIdent3
import Derived.Test.YtnhfbignnnicnaaDoorWords
import Derived.Test.YtnhfbignnnicnaaDoorSrt
import Derived.Shelf.SlicesE.Equal


namespace Go.Proofs.YtnhfbignnnicnaaDoor
open Go.RowKit
open Go.Sort hiding Below

/-- A string, as Go has it. -/
abbrev Str : Type := { s : ByteArray // s.size ≤ 9223372036854775807 }
instance : Inhabited Str := ⟨⟨ByteArray.empty, by decide⟩⟩
theorem toList_inj {a b : ByteArray} (h : a.toList = b.toList) : a = b := by
  rw [Lib.toList_data, Lib.toList_data] at h
  rw [← Lib.mk_data a, ← Lib.mk_data b, h]
def cmpS (a b : Str) : Int := Id.cmpN a.1.toList b.1.toList
theorem ord_str : Ord3 cmpS where
  zero a b := by unfold cmpS; rw [Id.cmpN_zero]; exact ⟨fun h => Subtype.ext (toList_inj h), fun h => by rw [h]⟩
  neg a b := Id.cmpN_neg _ _
  trans a b c h1 h2 := Id.cmpN_trans h1 h2
/-- A list of strings, ascending, without repetitions. -/
def srt (l : List Str) : List Str := srtOf cmpS l
def sE (s : Str) : List Value := [.string s.1]
theorem sE_len (s : Str) : (sE s).length = 1 := rfl
theorem sE_one (s : Str) : ∀ u ∈ sE s, u.oneCell' = true := by intro u hu; simp [sE] at hu; subst hu; rfl
theorem flat_sE (l : List Str) : l.flatMap sE = l.map fun s => Value.string s.1 := by
  induction l with
  | nil => rfl
  | cons s l ih => rw [List.flatMap_cons, ih]; rfl
theorem Rw.str {w : World} {B : Nat} {A : Option Addr} {l : List Str} (h : Rw sE 1 w B A l) (hn : 0 < l.length) :
    ∃ g o, A = some ⟨g, o, none⟩ ∧ g < B ∧ ∀ i x, l[i]? = some x → w.cell? ⟨g, o + i, none⟩ = some (.string x.1) := by
  obtain ⟨g, o, e, hb, hc⟩ := h hn
  exact ⟨g, o, e, hb, fun i x hx => by have := hc i x hx 0 (.string x.1) rfl; rwa [Nat.mul_one, Nat.add_zero] at this⟩

/-- A row rewritten, and new blocks: nothing below it has turned. -/
theorem below_sorted {α : Type} [Inhabited α] (enc : α → Value) {w : World} {B g off n : Nat} {d : Array α} {os : Array Obj} (hg : B ≤ g) (hB : B ≤ w.heap.size) : Below B w (Sort.grow (putRow enc (Sort.ahead w n) g off d) os) :=
  ⟨rfl, rfl, rfl, by simp, fun k hk => by
    rw [heap_grow_old _ _ (by simp; omega)]
    have : g ≠ k := by omega
    simp [putRow, mapBlock, Sort.ahead, Array.getElem?_modify, this]⟩

theorem clip_any (A : Option Addr) (n c : Nat) (w : World) (hn : n ≤ c) (_hc : c ≤ 9223372036854775807) :
    Calls Tryd.prog 57 #[.slice A n c] w fun e w' => e = .returned (.slice A n n) ∧ w = w' := by
  go_enter Tryd.func57, Tryd.ntmps57
  go_wp2
  go_ret
  exact ⟨rfl, rfl⟩

theorem cloneS_any_info : (Tryd.prog.info? 9).map (fun i => (i.zero, i.size, i.bytes)) = some (some ((.string ByteArray.empty)), 1, 16) := by kernel_rfl
theorem cloneS_any_nil (n c : Nat) (w : World) :
    Calls Tryd.prog 48 #[.slice none n c] w fun e w' => e = .returned (.slice none 0 0) ∧ w = w' := by
  have hq := fun w => Lib.run_eql_slice_nil (P := Tryd.prog) w 25 9 none n c 0 0 Tryd.underlying25
  go_enter Tryd.func48, Tryd.ntmps48
  go_wp2
  go_ret
  exact ⟨rfl, rfl⟩
theorem cloneS_any_some (a : Addr) (c : Nat) (l : List Str) (w : World) (hr : Rw sE 1 w w.heap.size (some a) l) (hn : l.length * 16 ≤ 140737488355328) :
    Calls Tryd.prog 48 #[.slice (some a) l.length c] w fun e w' => ∃ v, e = .returned v ∧ Own sE 1 9 w' w.heap.size v l ∧ v ≠ .slice none 0 0 ∧ Below w.heap.size w w' := by
  have hq := fun w => Lib.run_eql_slice_nil (P := Tryd.prog) w 25 9 (some a) l.length c 0 0 Tryd.underlying25
  obtain ⟨i0, hi, hz0, hz1, hz2⟩ := info_parts cloneS_any_info
  go_enter Tryd.func48, Tryd.ntmps48
  go_wp2_with (first
    | (at_builtin
       refine wpList_append_rw _ rfl (.tmp 5) (.tmp 6) _ rfl sE_len sE_one w.heap.size 9 i0 _ 16 Tryd.underlying25 hi hz0 hz1 hz2 rfl (by omega) (.slice (some ⟨w.heap.size, 0, none⟩) 0 0) [] rfl
         ?_ w.heap.size (some a) l.length c l rfl rfl (hr.alloc (Nat.le_refl _) _) ?_ ?_ ?_ ?_
       · exact Own.lit (enc := sE) (l := []) #[] (Nat.le_refl _) (by simp) (by simp) sE_len
       · simp [maxLen]; omega
       · simpa using hn
       · simp
       intro v1 w1 hown1 hg1 hat1))
  go_ret
  refine ⟨v1, rfl, by simpa using hown1, ?_, ?_⟩
  · rintro rfl
    rcases hat1 with h | h <;> simp [Value.ownBlock] at h
  · exact ((Below.refl _ _).alloc (Nat.le_refl _) _).grown hg1 (by simp) (fun g hg => by simp [Value.ownBlock] at hg; omega)

theorem cmpS_lays (blk off size : Nat) (w : World) : Go.Proofs.CmpLays1 Tryd.prog 41 #[] (fun s : Str => Value.string s.1) cmpS blk off size w := by
  intro m os dk _ x y
  refine (compare_any x.1 y.1 x.2 y.2 _).mono fun e w' h => ⟨h.1, ?_⟩
  exact h.2.grow

theorem holds_own {w : World} {base : Nat} {g cap : Nat} {l : List Str} (h : Own sE 1 9 w base (.slice (some ⟨g, 0, none⟩) l.length cap) l) : Holds (fun s : Str => Value.string s.1) w g 0 l.toArray := by
  intro j hj
  have hj' : j < l.length := by simpa using hj
  refine ⟨?_, by rw [Nat.zero_add]; exact h.frozenAt j⟩
  rw [Nat.zero_add, h.cellAt j (by omega), flat_sE]
  simp [hj']

theorem eq_str (x y : Str) : (x.1.toList == y.1.toList) = decide (x = y) := by
  rw [Bool.eq_iff_iff]; simp
  exact ⟨fun h => Subtype.ext (toList_inj h), fun h => by rw [h]⟩
theorem eqS : Go.Proofs.EqlAt Tryd.prog 9 (fun s : Str => Value.string s.1) (fun x y => decide (x = y)) := by
  refine ⟨fun x y w => ?_, ?_⟩
  · show _ = Result.ok (Value.bool (decide (x = y))) w; rw [← eq_str]; exact (Go.Proofs.EqlAt.string Tryd.prog 9).1 x.1 y.1 w
  · exact fun op a b x y w => (Go.Proofs.EqlAt.string Tryd.prog 9).2 op a b x.1 y.1 w
theorem neS : Go.Proofs.NeqAt Tryd.prog 9 (fun s : Str => Value.string s.1) (fun x y => decide (x = y)) := by
  refine ⟨fun x y w => ?_, ?_⟩
  · show _ = Result.ok (Value.bool (!decide (x = y))) w; rw [← eq_str]; exact (Go.Proofs.NeqAt.string Tryd.prog 9).1 x.1 y.1 w
  · exact fun op a b x y w => (Go.Proofs.NeqAt.string Tryd.prog 9).2 op a b x.1 y.1 w

/-- A row that was sorted reads as what was laid. -/
theorem holds_grow' {α : Type} [Inhabited α] {enc : α → Value} {w : World} {g off : Nat} {d : Array α} (h : Holds enc w g off d) (os : Array Obj) : Holds enc (Sort.grow w os) g off d := fun j hj => by
  have h1 := (h j hj).1
  have hlt := World.block_lt_of_cell? _ _ h1
  rw [cell?_grow _ os _ hlt, frozen?_grow _ os _ hlt]
  exact h j hj
theorem holds_ahead' {α : Type} [Inhabited α] {enc : α → Value} {w : World} {g off : Nat} {d : Array α} (h : Holds enc w g off d) (n : Nat) : Holds enc (Sort.ahead w n) g off d := h

theorem sorted_any (A : Option Addr) (c : Nat) (l : List Str) (w : World) (hr : Rw sE 1 w w.heap.size A l) (hn : l.length * 16 ≤ 140737488355328) :
    Calls Tryd.prog 44 #[.slice A l.length c] w fun e w' => ∃ A' c', e = .returned (.slice A' (srt l).length c') ∧ Rw sE 1 w' w'.heap.size A' (srt l) ∧ Below w.heap.size w w' := by
  have eg : ∀ args w, (callFunc 41 args).run Tryd.prog w = .ok (.enter 41 args) w := enters_of Tryd.func41 (by kernel_rfl) rfl
  rcases Nat.eq_zero_or_pos l.length with h0 | h0
  · have hl : l = [] := List.eq_nil_of_length_eq_zero h0
    subst hl
    have e0 : srt [] = [] := by unfold srt srtOf; simp [Lib.compact, Lib.compactUpTo]
    rw [e0]
    rcases A with _ | a
    · go_enter Tryd.func44, Tryd.ntmps44
      go_wp2_with fail
      refine (cloneS_any_nil _ _ _).mono ?_
      rintro e w1 ⟨rfl, rfl⟩
      go_wp2_with fail
      refine (Tryd.slices_SortFunc_none (α := Str) none 0 _ _).mono ?_
      rintro e w2 ⟨rfl, hw⟩
      obtain rfl := hw.symm
      go_wp2_with fail
      refine (Tryd.slices_Compact_string_empty none 0 _).mono ?_
      rintro e w3 ⟨rfl, hw⟩
      obtain rfl := hw.symm
      go_wp2_with (first | (go_at_call 57; go_must (refine (clip_any _ _ _ _ (by omega) (by omega)).mono ?_; rintro e w4 ⟨rfl, rfl⟩)))
      go_ret
      exact ⟨_, _, rfl, Rw.nil, Below.refl _ _⟩
    · go_enter Tryd.func44, Tryd.ntmps44
      go_wp2_with fail
      refine (cloneS_any_some a c [] _ Rw.nil (by simp)).mono ?_
      rintro e w1 ⟨v, rfl, hown, hne, hb1⟩
      have hz1 := hb1.size
      obtain ⟨A1, c1, rfl, hc1, hm1, hblk⟩ := hown.form
      unfold maxLen at hm1
      go_wp2_with fail
      refine (Tryd.slices_SortFunc_none (α := Str) A1 c1 _ _).mono ?_
      rintro e w2 ⟨rfl, hw⟩
      obtain rfl := hw.symm
      go_wp2_with fail
      refine (Tryd.slices_Compact_string_empty A1 c1 _).mono ?_
      rintro e w3 ⟨rfl, hw⟩
      obtain rfl := hw.symm
      go_wp2_with (first | (go_at_call 57; go_must (refine (clip_any _ _ _ _ (by omega) (by omega)).mono ?_; rintro e w4 ⟨rfl, rfl⟩)))
      go_ret
      exact ⟨_, _, rfl, Rw.nil, hb1⟩
  · obtain ⟨g0, o0, rfl, _⟩ := hr h0
    go_enter Tryd.func44, Tryd.ntmps44
    go_wp2_with fail
    refine (cloneS_any_some _ c l _ hr (by omega)).mono ?_
    rintro e w1 ⟨v, rfl, hown, hne, hb1⟩
    have hz1 := hb1.size
    obtain ⟨A1, c1, rfl, hc1, hm1, hblk⟩ := hown.form
    obtain ⟨g, cap, hv, hg1, hg2⟩ := World.ownsRow.form hown h0
    obtain ⟨rfl, rfl⟩ : A1 = some ⟨g, 0, none⟩ ∧ c1 = cap := by simpa using hv
    clear hv hne
    unfold maxLen at hm1
    have hH := holds_own hown
    have hlen : l.toArray.size = l.length := by simp
    go_wp2_with fail
    have hs := Tryd.slices_SortFunc_total (fun s : Str => Value.string s.1) (fun _ => rfl) cmpS (swo_of ord_str) 41 #[] g 0 c1 l.toArray w1 eg (cmpS_lays g 0 _ w1) hH hg2 (by rw [hlen]; omega) (tot_of ord_str)
    rw [hlen] at hs
    refine hs.mono ?_
    rintro e w2 ⟨rfl, n, os, rfl⟩
    clear hs
    obtain ⟨L, hL⟩ : ∃ L, (l.toArray.toList.mergeSort fun x y => !ltOf cmpS y x) = L := ⟨_, rfl⟩
    rw [hL]
    have hLl : L.length = l.length := by rw [← hL]; simp
    have hsz : L.toArray.size = l.length := by simpa using hLl
    obtain ⟨W2, hW2⟩ : ∃ W, sortWorld (fun s : Str => Value.string s.1) w1 g 0 n L.toArray os = W := ⟨_, rfl⟩
    have hH2 : Holds (fun s : Str => Value.string s.1) W2 g 0 L.toArray := by
      rw [← hW2]; unfold sortWorld
      exact holds_grow' (holds_putRow _ _ _ _ _ _ (holds_ahead' hH n) (by simp [hLl])) os
    have hb2 : Below w.heap.size w1 W2 := by
      rw [← hW2]; unfold sortWorld
      exact below_sorted _ hg1 hb1.size
    have hz2 := hb2.size
    have hsrt := Lib.hid (show Lib.compactUpTo L.toArray L.toArray.size = srt l by
      unfold srt srtOf Lib.compact
      rw [← hL]; simp)
    rw [hW2]
    clear hW2 hL
    go_wp2_with fail
    have hcp := Tryd.slices_Compact (fun s : Str => Value.string s.1) (fun _ => rfl) eqS neS default (fun w => by kernel_rfl) g 0 c1 L.toArray W2 hH2 (by rw [hsz]; omega) (by rw [hsz]; omega)
    rw [hsz] at hcp
    refine hcp.mono ?_
    rintro e w3 ⟨rfl, q, rfl⟩
    clear hcp
    rw [← hsz, hsrt.out]
    have hm : (srt l).length ≤ l.length := by
      rw [← hsrt.out]; unfold Lib.compactUpTo
      rw [List.length_map]
      exact Nat.le_trans (List.length_filter_le _ _) (by simp [hLl])
    obtain ⟨W3, hW3⟩ : ∃ W, putRow (fun s : Str => Value.string s.1) (Sort.ahead W2 q) g 0 (srt l ++ List.replicate (L.toArray.size - (srt l).length) default).toArray = W := ⟨_, rfl⟩
    have hH3 : Holds (fun s : Str => Value.string s.1) W3 g 0 (srt l ++ List.replicate (L.toArray.size - (srt l).length) default).toArray := by
      rw [← hW3]
      exact holds_putRow _ _ _ _ _ _ (holds_ahead' hH2 q) (by simp; omega)
    have hb3 : Below w.heap.size W2 W3 := by
      rw [← hW3]
      have := below_sorted (fun s : Str => Value.string s.1) (w := W2) (B := w.heap.size) (g := g) (off := 0) (n := q) (d := (srt l ++ List.replicate (L.toArray.size - (srt l).length) default).toArray) (os := #[]) hg1 (by omega)
      rwa [grow_empty] at this
    have hz3 := hb3.size
    rw [hW3]
    clear hW3
    go_wp2_with (first | (go_at_call 57; go_must (refine (clip_any _ _ _ _ (by omega) (by omega)).mono ?_; rintro e w4 ⟨rfl, rfl⟩)))
    go_ret
    refine ⟨_, _, rfl, fun hn0 => ⟨g, 0, rfl, ?_, fun i x hx j u hu => ?_⟩, (hb1.trans hb2).trans hb3⟩
    · have := hH3 0 (by simp; omega)
      exact World.block_lt_of_cell? _ _ this.1
    · obtain ⟨hi, _⟩ := List.getElem?_eq_some_iff.1 hx
      have h1 := (hH3 i (by simp; omega)).1
      obtain rfl : j = 0 := by
        have := (List.getElem?_eq_some_iff.1 hu).1
        simp [sE] at this; exact this
      simp only [sE, List.getElem?_cons_zero, Option.some.injEq] at hu
      subst hu
      rw [Nat.mul_one, Nat.add_zero, h1]
      congr 2
      rw [getElem!_def]
      simp [List.getElem?_append_left hi, hx]
end Go.Proofs.YtnhfbignnnicnaaDoor
