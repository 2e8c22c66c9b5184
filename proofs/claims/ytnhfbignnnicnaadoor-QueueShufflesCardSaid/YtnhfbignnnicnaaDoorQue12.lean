/-
  The walks of the queue: the jobs in order, by the program; the laws' example.
-/
import Derived.Test.YtnhfbignnnicnaaDoorQue11
import Derived.Test.YtnhfbignnnicnaaDoorQue9



namespace Go.Proofs.YtnhfbignnnicnaaDoor
open Go.RowKit
open Go.Sort hiding Below

theorem sumL_core {l m : List Pend} (h : l.map core = m.map core) (hm : sumL m) : sumL l := by
  intro x hx
  obtain ⟨i, hi, rfl⟩ := List.mem_iff_getElem.1 hx
  have hlen : l.length = m.length := by simpa using congrArg List.length h
  have := congrArg (·[i]?) h
  simp only [List.getElem?_map] at this
  rw [List.getElem?_eq_getElem hi, List.getElem?_eq_getElem (by omega)] at this
  simp only [Option.map_some, Option.some.injEq] at this
  have h2 : (core l[i]).labs = (core (m[i]'(by omega))).labs := by rw [this]
  have h3 := hm (m[i]'(by omega)) (List.getElem_mem _)
  rw [show l[i].labs = (m[i]'(by omega)).labs from h2]; exact h3

set_option maxHeartbeats 4000000 in
set_option maxRecDepth 1000000 in
/-- A queue of the call's own, sorted in place. -/
theorem sort_any (now : I64) (b : Nat) (v : Value) (l : List Pend) (H : Nat) (w : World) (hown : OwnL w H v l) (hn : l.length < 40) (hb : w.cell? ⟨b, 0, none⟩ = some (.int .i64 now.1)) (hbH : b < H) (hH : H ≤ w.heap.size) :
    Calls Tryd.prog 37 #[v, .func (.func 38) #[] #[.pointer (some ⟨b, 0, none⟩)]] w fun e w' => e = .returned (.tuple #[]) ∧
      ∃ A' l' c', v = .slice A' l'.length c' ∧ RwL w' w'.heap.size A' l' ∧ StableOf (cfP now.1) l l' ∧ Below H w w' := by
  have eg : ∀ args w, (callFunc 38 args).run Tryd.prog w = .ok (.enter 38 args) w := enters_of Tryd.func38 (by kernel_rfl) rfl
  rcases Nat.eq_zero_or_pos l.length with h0 | h0
  · obtain rfl : l = [] := List.eq_nil_of_length_eq_zero h0
    obtain ⟨A, c, rfl, _, _, _⟩ := hown.row.form
    refine (sortStable_none A c _ w).mono ?_
    rintro e w1 ⟨rfl, rfl⟩
    exact ⟨rfl, A, [], c, rfl, RwL.nil, StableOf.nil, Below.refl _ _⟩
  · obtain ⟨g, cap, hv, hg1, hg2⟩ := World.ownsRow.form hown.row h0
    subst hv
    have hR : RowK pendE2 10 w g 0 l.zipIdx.toArray := ⟨fun x => pendE_len x.1, fun x => pendE_one x.1, holdsK_own hown.row, hg2⟩
    have hsz : l.zipIdx.toArray.size = l.length := by simp
    have h := sortStable_any bare pendE2 38 #[.pointer (some ⟨b, 0, none⟩)] g 0 cap l.zipIdx.toArray w eg (cmp_lays now b g 0 _ w hb (by omega)) hR (by rw [hsz]; exact hn)
    rw [hsz] at h
    refine h.mono ?_
    rintro e w1 ⟨rfl, S⟩
    refine ⟨rfl, ?_⟩
    have hst := stF_stable (cfP_pre now.1) l
    have hps := stF_perm (lt1 (cfP now.1)) l.zipIdx.toArray
    have hd : stF (ltOf fun x y : Pend × Nat => cfP now.1 x.1 y.1) l.zipIdx.toArray = stF (lt1 (cfP now.1)) l.zipIdx.toArray := rfl
    rw [hd] at S
    generalize stF (lt1 (cfP now.1)) l.zipIdx.toArray = d at S hst hps
    have hds : d.size = l.length := by rw [hps.1, hsz]
    have hH2 := S.holds hR.hblk hR.hH (by rw [hds, hsz])
    obtain ⟨n, os, rfl⟩ := S
    refine ⟨some ⟨g, 0, none⟩, d.toList.map (·.1), cap, by simp [hds], ⟨fun _ => ⟨g, 0, rfl, ?_, fun i x hx j u hu => ?_⟩, fun x hx => ?_⟩, hst, below_sortedK _ _ hg1 hH⟩
    · have := (below_sortedK (enc := pendE2) (k := 10) (w := w) (B := 0) (g := g) (off := 0) (n := n) (d := d) (os := os) (Nat.zero_le _) (Nat.zero_le _)).size
      omega
    · rw [List.getElem?_map] at hx
      have hi : i < d.toList.length := by
        rcases Nat.lt_or_ge i d.toList.length with h | h
        · exact h
        · rw [List.getElem?_eq_none h] at hx; cases hx
      rw [List.getElem?_eq_getElem hi] at hx
      simp only [Option.map_some, Option.some.injEq] at hx
      have hi' : i < d.size := by simpa using hi
      have hc := HoldsK.cells hH2 hR.hk hi' j u (by
        rw [getElem!_pos d i hi']
        show (pendE (d[i]).1)[j]? = some u
        rw [← Array.getElem_toList, hx]; exact hu)
      rw [addr_plain] at hc
      exact hc
    · have hx2 : x ∈ l := (hst.perm.mem_iff).1 hx
      have hl := hown.labs x hx2
      have ho := hl.1.at_same (w' := sortWorldK pendE2 10 w g 0 n d os) fun g' hg' => heap_sortedK _ _ ((hl.1.lt g' hg').2) (fun e => hl.2 g' hg' (by rw [e]; rfl))
      exact (LabO.lab (row := none) ⟨ho, fun _ _ => by simp⟩)

set_option maxRecDepth 100000 in
set_option maxHeartbeats 2000000 in
theorem orderq_any (A : Option Addr) (c : Nat) (l : List Pend) (now : I64) (w : World) (hr : RwL w w.heap.size A l) (hn : l.length < 40) (h40 : sumL l) :
    Calls Tryd.prog 20 #[.slice A l.length c, .int .i64 now.1] w fun e w' => ∃ A' l' c', e = .returned (.slice A' l'.length c') ∧ RwL w' w'.heap.size A' l' ∧ StableOf (cfP now.1) (l.map core) (l'.map core) ∧ Below w.heap.size w w' := by
  obtain ⟨W0, hW0⟩ : ∃ W, w.alloc (.cells #[.int .i64 now.1] 3) = W := ⟨_, rfl⟩
  have hb0 : Below w.heap.size w W0 := by rw [← hW0]; exact (Below.refl _ _).alloc (Nat.le_refl _) _
  have hz0 : W0.heap.size = w.heap.size + 1 := by rw [← hW0]; simp
  have b0 := box_cells w #[.int .i64 now.1] 3 0 (.int .i64 now.1) rfl
  rw [hW0] at b0
  have h1 := all_any A c l W0 ((hr.below hb0 (Nat.le_refl _)).more (by omega)) (by omega) h40
  have hz1 := Nat.le_of_eq hz0
  have hz2 := Nat.le_of_eq hz0.symm
  replace hz0 := Lib.hid hz0
  replace b0 := Lib.hid b0
  replace h1 := Lib.hid h1
  clear hr
  go_enter Tryd.func20, Tryd.ntmps20
  go_wp2_with fail
  refine h1.out.mono ?_
  rintro e w1 ⟨v, l1, rfl, hown, hco, hb1⟩
  clear hW0 h1
  have hz3 := hb1.size
  have hl1 : l1.length = l.length := by simpa using congrArg List.length hco
  have hs := sort_any now w.heap.size v l1 W0.heap.size w1 hown (by omega) ((hb1.cell (p := ⟨w.heap.size, 0, none⟩) (by show w.heap.size < _; omega)).trans b0.out) (by omega) hz3
  replace hs := Lib.hid hs
  go_wp2_with (go_at_call 37; go_must (refine hs.out.mono ?_; rintro e w2 ⟨rfl, A2, l2, c2, rfl, hrl, hst, hb2⟩))
  go_ret
  refine ⟨A2, l2, c2, rfl, hrl, ?_, hb0.trans ((hb1.trans hb2).mono (by omega))⟩
  rw [← hco]
  exact hst.map (cfP_core now.1)
end Go.Proofs.YtnhfbignnnicnaaDoor
