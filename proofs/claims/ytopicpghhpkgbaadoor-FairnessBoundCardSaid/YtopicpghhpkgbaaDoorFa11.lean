/-
  The walks of fairness: the project that is served next, by the program and by the reference.
-/
import Derived.Test.YtopicpghhpkgbaaDoorFa10



namespace Go.Proofs.YtopicpghhpkgbaaDoor
open Go.RowKit

/-- Whether a project is listed. -/
def inP (ps : List Str) (s : Str) : Bool := ps.any fun x => decide (x = s)
theorem inP_iff {ps : List Str} {s : Str} : inP ps s = true ↔ s ∈ ps := by
  unfold inP
  rw [List.any_eq_true]
  exact ⟨fun ⟨x, hx, h⟩ => by rwa [← of_decide_eq_true h], fun h => ⟨s, h, decide_eq_true rfl⟩⟩
theorem contains_any (A : Option Addr) (c : Nat) (ps : List Str) (s : Str) (w : World) (hr : Rw sE 1 w w.heap.size A ps) (hn : ps.length ≤ 9223372036854775807) :
    Calls Tryd.prog 36 #[.slice A ps.length c, .string s.1] w fun e w' => e = .returned (.bool (inP ps s)) ∧ w' = w := by
  rcases Nat.eq_zero_or_pos ps.length with h0 | h0
  · have hl : ps = [] := List.eq_nil_of_length_eq_zero h0
    subst hl
    exact Tryd.slices_Contains_string_empty A c s.1 w
  · obtain ⟨g, o, rfl, _, hc⟩ := hr.str h0
    have e : Lib.containsS ((ps.map (·.1)).take ps.length) s.1 = inP ps s := by
      rw [List.take_of_length_le (by simp), Bool.eq_iff_iff, Lib.containsS_iff, inP_iff, List.mem_map]
      exact ⟨fun ⟨x, hx, h⟩ => by rwa [← Subtype.ext h], fun h => ⟨s, h, rfl⟩⟩
    have := Tryd.slices_Contains_string g o ps.length c (ps.map (·.1)) s.1 w (by simp) hn (fun j hj => by
      obtain ⟨x, hx⟩ := get_some (show j < ps.length by simpa using hj)
      rw [hc j x hx]
      simp [List.getD, hx])
    rwa [e] at this

/-- No share. -/
def zS : Share := ⟨⟨⟨#[]⟩, by decide⟩, ⟨0, by omega⟩, ⟨0, by omega⟩⟩
/-- What Pick returns. -/
def pickV (b : Share) (s : Bool) : Value := .tuple #[.string b.proj.1, .bool s]
/-- What a choice says: the smallest share of those that are listed, or none. -/
def Picked (l : List Share) (ps : List Str) (b : Share) (s : Bool) : Prop := Least (fun x => x.proj ∈ ps) l (if s = true then some b else none) ∧ (s = false → b = zS)
/-- How a choice ends. -/
def PickOut (l : List Share) (ps : List Str) (e : Ending) : Prop := ∃ b s, e = .returned (pickV b s) ∧ (validS l = true → Picked l ps b s) ∧ (validS l = false → b = zS ∧ s = false)
theorem Picked.unique {l : List Share} {ps : List Str} {b b' : Share} {s s' : Bool} (ha : AscP l) (h : Picked l ps b s) (h' : Picked l ps b' s') : b = b' ∧ s = s' := by
  have e := h.1.unique ha h'.1
  rcases s with _ | _ <;> rcases s' with _ | _
  · rw [h.2 rfl, h'.2 rfl]; exact ⟨rfl, rfl⟩
  · simp at e
  · simp at e
  · exact ⟨by simpa using e, rfl⟩

set_option maxRecDepth 100000 in
set_option maxHeartbeats 8000000 in
theorem pick_any (A B : Option Addr) (c d : Nat) (l : List Share) (ps : List Str) (w : World) (hr : Rw shareE 3 w w.heap.size A l) (hp : Rw sE 1 w w.heap.size B ps) (hn : l.length ≤ 1000000) (hm : ps.length ≤ 1000000) :
    Calls Tryd.prog 17 #[.slice A l.length c, .slice B ps.length d] w fun e w' => PickOut l ps e ∧ Below w.heap.size w w' := by
  obtain ⟨H, hH⟩ : ∃ H, w.heap.size = H := ⟨_, rfl⟩
  have hva : Hid (Calls Tryd.prog 23 #[.slice A l.length c] w fun e w' => e = .returned (.bool (validS l)) ∧ Below w.heap.size w w') := Lib.hid (valid_any A c l w hr (by omega))
  have hct : Hid (∀ s : Str, ∀ W, Below H w W → Calls Tryd.prog 36 #[.slice B ps.length d, .string s.1] W fun e w' => e = .returned (.bool (inP ps s)) ∧ w' = W) := Lib.hid fun s W hb => contains_any B d ps s W ((hp.below hb (by omega)).more (by have := hb.size; omega)) (by omega)
  clear hp
  rw [hH] at hr ⊢
  obtain ⟨V, hv⟩ : ∃ V, validS l = V := ⟨_, rfl⟩
  rcases V with _ | _
  · rw [hv, hH] at hva
    go_enter Tryd.func17, Tryd.ntmps17
    go_wp2_with (go_at_call 23; go_must (refine hva.out.mono ?_; rintro e w1 ⟨rfl, hb1⟩; have hz1 := hb1.size))
    exact bodyPost_ret (v := .tuple #[.string ⟨#[]⟩, .bool false]) (by simp [results, Tryd.results17, go_sem]) rfl ⟨⟨zS, false, rfl, (fun h => by rw [hv] at h; cases h), fun _ => ⟨rfl, rfl⟩⟩, hb1⟩
  · rw [hv, hH] at hva
    have hok : Hid (∀ x ∈ l, okS x = true) := Lib.hid fun x hx => valid_ok hv hx
    replace hv := Lib.hid hv
    replace hr := Lib.hid hr
    go_enter Tryd.func17, Tryd.ntmps17
    go_wp2_with (go_at_call 23; go_must (refine hva.out.mono ?_; rintro e w1 ⟨rfl, hb1⟩; have hz1 := hb1.size))
    obtain ⟨B0, hB0⟩ : ∃ B0, w1.heap.size = B0 := ⟨_, rfl⟩
    have hHB : H ≤ B0 := by omega
    rw [hB0]
    go_loopw [7, 15] (fun vs vi wr => ∃ (k : Nat) (b : Share) (s : Bool), k ≤ l.length ∧ vs = .bool s ∧ vi = .int .i64 (k : Int) ∧ Least (fun x => x.proj ∈ ps) (l.take k) (if s = true then some b else none) ∧ (s = false → b = zS) ∧ (wr.cell? ⟨B0, 0, none⟩ = some (.string b.proj.1) ∧ wr.cell? ⟨B0, 1, none⟩ = some (.int .i64 b.weight.1) ∧ wr.cell? ⟨B0, 2, none⟩ = some (.int .i64 b.served.1)) ∧ (∀ j, wr.frozen? ⟨B0, j, none⟩ = false) ∧ B0 < wr.heap.size ∧ Below H w wr) (fun _ vi _ => l.length - (intOf vi).toNat)
    case atStart =>
      refine ⟨0, zS, false, Nat.zero_le _, rfl, rfl, (fun y hy => absurd hy (by simp)), fun _ => rfl, ?_, fun j => ?_, by simp; omega, hb1.alloc (by omega) _⟩
      · rw [← hB0]
        exact ⟨box_cells w1 _ _ 0 _ rfl, box_cells w1 _ _ 1 _ rfl, box_cells w1 _ _ 2 _ rfl⟩
      · exact World.frozen?_alloc_at _ _ B0 j hB0.symm
    case round =>
      obtain ⟨k, b, s, hk, rfl, rfl, hle, hbz, ⟨m0, m1, m2⟩, hfz, hBw, hbw⟩ := hrel
      have hz := hbw.size
      replace hle := Lib.hid hle
      replace hbz := Lib.hid hbz
      replace hB0 := Lib.hid hB0
      by_cases hkl : k < l.length
      · obtain ⟨x, hx⟩ := get_some hkl
        obtain ⟨g, o, rfl, hg, hq⟩ := hr.out (by omega)
        have q : ∀ j u, (shareE x)[j]? = some u → wr.cell? ⟨g, o + k * 3 + j, none⟩ = some u := fun j u hu => (hbw.cell (p := ⟨g, o + k * 3 + j, none⟩) hg).trans (hq k x hx j u hu)
        have q0 := q 0 (.string x.proj.1) rfl
        rw [Nat.add_zero] at q0
        have q1 := q 1 (.int .i64 x.weight.1) rfl
        have q2 := q 2 (.int .i64 x.served.1) rfl
        clear q hq
        have i0 : (0 : Int) ≤ (k : Int) := by omega
        have i1 : (k : Int) < (l.length : Int) := by omega
        have hcx := fun W hb => hct.out x.proj W hb
        obtain ⟨W1, hW1⟩ : ∃ W1, wr.alloc (.cells #[.string x.proj.1, .int .i64 x.weight.1, .int .i64 x.served.1] 39) = W1 := ⟨_, rfl⟩
        have hbA : Below wr.heap.size wr W1 := by rw [← hW1]; exact (Below.refl _ _).alloc (Nat.le_refl _) _
        have hzA : W1.heap.size = wr.heap.size + 1 := by rw [← hW1]; simp
        have a0 := box_cells wr #[.string x.proj.1, .int .i64 x.weight.1, .int .i64 x.served.1] 39 0 _ rfl
        have a1 := box_cells wr #[.string x.proj.1, .int .i64 x.weight.1, .int .i64 x.served.1] 39 1 _ rfl
        have a2 := box_cells wr #[.string x.proj.1, .int .i64 x.weight.1, .int .i64 x.served.1] 39 2 _ rfl
        rw [hW1] at a0 a1 a2
        have hbw1 : Below H w W1 := hbw.trans (hbA.mono (by omega))
        have n0 := (hbA.cell (p := ⟨B0, 0, none⟩) hBw).trans m0
        have n1 := (hbA.cell (p := ⟨B0, 1, none⟩) hBw).trans m1
        have n2 := (hbA.cell (p := ⟨B0, 2, none⟩) hBw).trans m2
        have nf : ∀ j, W1.frozen? ⟨B0, j, none⟩ = false := fun j => (hbA.frozen (p := ⟨B0, j, none⟩) hBw).trans (hfz j)
        have hcx2 := hct.out x.proj W1 hbw1
        clear hcx
        have hzA1 := Nat.le_of_eq hzA
        have hzA2 := Nat.le_of_eq hzA.symm
        replace hzA := Lib.hid hzA
        go_wp2_with fail
        clear hW1 q0 q1 q2 m0 m1 m2
        have A0 := Lib.hid a0
        have A1 := Lib.hid a1
        have A2 := Lib.hid a2
        have N0 := Lib.hid n0
        have N1 := Lib.hid n1
        have N2 := Lib.hid n2
        have hcB : ∀ (w2 : World), Below W1.heap.size W1 w2 → (w2.cell? ⟨B0, 0, none⟩ = some (.string b.proj.1) ∧ w2.cell? ⟨B0, 1, none⟩ = some (.int .i64 b.weight.1) ∧ w2.cell? ⟨B0, 2, none⟩ = some (.int .i64 b.served.1)) ∧ ∀ j, w2.frozen? ⟨B0, j, none⟩ = false := fun w2 hb2 => ⟨⟨(hb2.cell (p := ⟨B0, 0, none⟩) (by show B0 < _; omega)).trans N0.out, (hb2.cell (p := ⟨B0, 1, none⟩) (by show B0 < _; omega)).trans N1.out, (hb2.cell (p := ⟨B0, 2, none⟩) (by show B0 < _; omega)).trans N2.out⟩, fun j => (hb2.frozen (p := ⟨B0, j, none⟩) (by show B0 < _; omega)).trans (nf j)⟩
        have hcA : ∀ (w2 : World), Below W1.heap.size W1 w2 → w2.cell? ⟨wr.heap.size, 0, none⟩ = some (.string x.proj.1) ∧ w2.cell? ⟨wr.heap.size, 1, none⟩ = some (.int .i64 x.weight.1) ∧ w2.cell? ⟨wr.heap.size, 2, none⟩ = some (.int .i64 x.served.1) := fun w2 hb2 => ⟨(hb2.cell (p := ⟨wr.heap.size, 0, none⟩) (by show wr.heap.size < _; omega)).trans A0.out, (hb2.cell (p := ⟨wr.heap.size, 1, none⟩) (by show wr.heap.size < _; omega)).trans A1.out, (hb2.cell (p := ⟨wr.heap.size, 2, none⟩) (by show wr.heap.size < _; omega)).trans A2.out⟩
        replace hcB := Lib.hid hcB
        replace hcA := Lib.hid hcA
        rcases hc : inP ps x.proj with _ | _
        · rw [hc] at hcx2
          have hnx := Lib.hid (hle.out.skip hx (fun h => by rw [inP_iff.2 h] at hc; cases hc))
          replace hcx2 := Lib.hid hcx2
          replace hc := Lib.hid hc
          replace hx := Lib.hid hx
          have hb2 := Below.refl W1.heap.size W1
          refine hcx2.out.mono ?_
          rintro e w2 ⟨rfl, rfl⟩
          go_wp2_with fail
          go_roundw
          case rel => exact ⟨k + 1, b, s, hkl, rfl, by go_num, hnx.out, hbz.out, (hcB.out _ hb2).1, (hcB.out _ hb2).2, by omega, hbw1.trans (hb2.mono (by omega))⟩
          case measure => simp [intOf]; omega
        · rw [hc] at hcx2
          have hin := inP_iff.1 hc
          replace hcx2 := Lib.hid hcx2
          replace hc := Lib.hid hc
          rcases s with _ | _
          · have hnx := Lib.hid (show Least (fun x => x.proj ∈ ps) (l.take (k + 1)) (if true = true then some x else none) from Least.first (q := fun x => x.proj ∈ ps) (by simpa using hle.out) hx hin)
            have hb2 := Below.refl W1.heap.size W1
            have hz2 := hb2.size
            obtain ⟨_, nf2⟩ := hcB.out _ hb2
            have f0 := nf2 0
            have f1 := nf2 1
            have f2 := nf2 2
            replace hx := Lib.hid hx
            refine hcx2.out.mono ?_
            rintro e w2 ⟨rfl, rfl⟩
            go_wp2_with fail
            go_roundw
            case rel => exact ⟨k + 1, x, true, hkl, rfl, by go_num, hnx.out, (fun h => by cases h), set3_cells n0 n1 n2, fun j => by simp only [World.frozen?_setCell]; exact nf2 j, by simp; omega, (((hbw1.trans (hb2.mono (by omega))).setCell hHB _).setCell hHB _).setCell hHB _⟩
            case measure => simp [intOf]; omega
          · have hle2 := Lib.hid (show Least (fun x => x.proj ∈ ps) (l.take k) (some b) by simpa using hle.out)
            obtain ⟨C, hC⟩ : ∃ C, befS x b = C := ⟨_, rfl⟩
            have hbf : Hid (∀ W, Calls Tryd.prog 28 #[.agg #[.string x.proj.1, .int .i64 x.weight.1, .int .i64 x.served.1], .agg #[.string b.proj.1, .int .i64 b.weight.1, .int .i64 b.served.1]] W fun e w' => e = .returned (.int .i64 C) ∧ Below W.heap.size W w') := Lib.hid fun W => (before_any x b W).mono fun _ _ h => ⟨by rw [h.1, hC], h.2.toBelow⟩
            by_cases hneg : C < 0
            · have hnx := Lib.hid (show Least (fun x => x.proj ∈ ps) (l.take (k + 1)) (if true = true then some x else none) from Least.turn (q := fun x => x.proj ∈ ps) hok.out hle2.out hx hin (by unfold befB; rw [hC]; exact decide_eq_true hneg))
              replace hC := Lib.hid hC
              replace hx := Lib.hid hx
              refine hcx2.out.mono ?_
              rintro e w2 ⟨rfl, rfl⟩
              go_wp2_with (go_at_call 28; go_must (refine (hbf.out _).mono ?_; rintro e w3 ⟨rfl, hb2⟩; have hz2 := hb2.size; obtain ⟨a0, a1, a2⟩ := hcA.out _ hb2; obtain ⟨⟨n0, n1, n2⟩, nf2⟩ := hcB.out _ hb2; have f0 := nf2 0; have f1 := nf2 1; have f2 := nf2 2))
              go_roundw
              case rel => exact ⟨k + 1, x, true, hkl, rfl, by go_num, hnx.out, (fun h => by cases h), set3_cells n0 n1 n2, fun j => by simp only [World.frozen?_setCell]; exact nf2 j, by simp; omega, (((hbw1.trans (hb2.mono (by omega))).setCell hHB _).setCell hHB _).setCell hHB _⟩
              case measure => simp [intOf]; omega
            · have hnx := Lib.hid (show Least (fun x => x.proj ∈ ps) (l.take (k + 1)) (if true = true then some b else none) from Least.keep (q := fun x => x.proj ∈ ps) hle2.out hx (by unfold befB; rw [hC]; exact decide_eq_false hneg))
              have hnd : decide (C < 0) = false := decide_eq_false hneg
              replace hC := Lib.hid hC
              replace hx := Lib.hid hx
              refine hcx2.out.mono ?_
              rintro e w2 ⟨rfl, rfl⟩
              go_wp2_with (go_at_call 28; go_must (refine (hbf.out _).mono ?_; rintro e w3 ⟨rfl, hb2⟩; have hz2 := hb2.size; obtain ⟨a0, a1, a2⟩ := hcA.out _ hb2; obtain ⟨⟨n0, n1, n2⟩, nf2⟩ := hcB.out _ hb2; have f0 := nf2 0; have f1 := nf2 1; have f2 := nf2 2))
              go_roundw
              case rel => exact ⟨k + 1, b, true, hkl, rfl, by go_num, hnx.out, hbz.out, (hcB.out _ hb2).1, (hcB.out _ hb2).2, by omega, hbw1.trans (hb2.mono (by omega))⟩
              case measure => simp [intOf]; omega
      · have i1 : ¬ (k : Int) < (l.length : Int) := by omega
        have hfin := Lib.hid (show Least (fun x => x.proj ∈ ps) l (if s = true then some b else none) by have := hle.out; rwa [List.take_of_length_le (by omega)] at this)
        go_wp2_with fail
        exact bodyPost_ret (v := .tuple #[.string b.proj.1, .bool s]) (by simp [results, Tryd.results17, go_sem]) rfl ⟨⟨b, s, rfl, fun _ => ⟨hfin.out, hbz.out⟩, (fun h => by rw [hv.out] at h; cases h)⟩, hbw⟩

/-- The state of the reference's choice. -/
def RefBest (l : List Share) (ps : List Str) (i : Nat) (n : Int) : Prop := (n = -1 ∧ Least (fun x => x.proj ∈ ps.take i) l none) ∨ ∃ (j : Nat) (x : Share), n = j ∧ l[j]? = some x ∧ Least (fun x => x.proj ∈ ps.take i) l (some x)
set_option maxRecDepth 100000 in
set_option maxHeartbeats 8000000 in
theorem rpick_any (A B : Option Addr) (c d : Nat) (l : List Share) (ps : List Str) (w : World) (hr : Rw shareE 3 w w.heap.size A l) (hp : Rw sE 1 w w.heap.size B ps) (hn : l.length ≤ 1000000) (hm : ps.length ≤ 1000000) :
    Calls Tryd.prog 18 #[.slice A l.length c, .slice B ps.length d] w fun e w' => PickOut l ps e ∧ Below w.heap.size w w' := by
  have hva : Hid (∀ W, Below w.heap.size w W → Calls Tryd.prog 19 #[.slice A l.length c] W fun e w' => e = .returned (.bool (validS l)) ∧ Below W.heap.size W w') := Lib.hid fun W hb => rvalid_any A c l W ((hr.below hb (Nat.le_refl _)).more hb.size) (by omega)
  obtain ⟨V, hv⟩ : ∃ V, validS l = V := ⟨_, rfl⟩
  rcases V with _ | _
  · rw [hv] at hva
    replace hv := Lib.hid hv
    have hlast : Hid (PickOut l ps (.returned (.tuple #[.string ⟨#[]⟩, .bool false]))) := Lib.hid ⟨zS, false, rfl, (fun h => by rw [hv.out] at h; cases h), fun _ => ⟨rfl, rfl⟩⟩
    go_enter Tryd.func18, Tryd.ntmps18
    go_wp2_with fail
    go_loopw [6, 7] (fun vb vi wr => vb = .int .i64 (-1) ∧ vi = .int .i64 0 ∧ wr = w) (fun _ _ _ => 0)
    case atStart => exact ⟨rfl, rfl, rfl⟩
    case round =>
      obtain ⟨rfl, rfl, rfl⟩ := hrel
      by_cases h0 : (0 : Int) < (ps.length : Int)
      · go_wp2_with (go_at_call 19; go_must (refine (hva.out _ (Below.refl _ _)).mono ?_; rintro e w2 ⟨rfl, hb2⟩))
        exact bodyPost_ret (v := .tuple #[.string ⟨#[]⟩, .bool false]) (by simp [results, Tryd.results18, go_sem]) rfl ⟨hlast.out, hb2⟩
      · go_wp2_with fail
        exact bodyPost_ret (v := .tuple #[.string ⟨#[]⟩, .bool false]) (by simp [results, Tryd.results18, go_sem]) rfl ⟨hlast.out, Below.refl _ _⟩
  · rw [hv] at hva
    have hasc : Hid (AscP l) := Lib.hid (valid_asc hv)
    have hok : Hid (∀ x ∈ l, okS x = true) := Lib.hid fun x hx => valid_ok hv hx
    have hfi0 : Hid (∀ W, Below w.heap.size w W → ∀ s : Str, Calls Tryd.prog 20 #[.slice A l.length c, .string s.1] W fun e w' => e = .returned (.int .i64 (findP s l)) ∧ W = w') := Lib.hid fun W hb s => rfind_any A c l s W ((hr.below hb (Nat.le_refl _)).more hb.size) (by omega)
    have hfin : Hid (∀ n, RefBest l ps ps.length n → (n = -1 ∧ PickOut l ps (.returned (.tuple #[.string ⟨#[]⟩, .bool false]))) ∨ ∃ (j : Nat) (x : Share), n = j ∧ l[j]? = some x ∧ PickOut l ps (.returned (.tuple #[.string x.proj.1, .bool true]))) := Lib.hid fun n h => by
      rw [RefBest, List.take_length] at h
      rcases h with ⟨rfl, h⟩ | ⟨j, x, rfl, hx, h⟩
      · exact Or.inl ⟨rfl, zS, false, rfl, fun _ => ⟨by simpa using h, fun _ => rfl⟩, fun e => by rw [hv] at e; cases e⟩
      · exact Or.inr ⟨j, x, rfl, hx, x, true, rfl, fun _ => ⟨by simpa using h, fun e => by cases e⟩, fun e => by rw [hv] at e; cases e⟩
    have hpc : Hid (∀ i s, ps[i]? = some s → ∃ g o, B = some ⟨g, o, none⟩ ∧ ∀ W, Below w.heap.size w W → W.cell? ⟨g, o + i, none⟩ = some (.string s.1)) := Lib.hid fun i s hs => by
      have hi := (List.getElem?_eq_some_iff.1 hs).1
      obtain ⟨g, o, e, hg, hc⟩ := hp.str (by omega)
      exact ⟨g, o, e, fun W hb => (hb.cell (p := ⟨g, o + i, none⟩) hg).trans (hc i s hs)⟩
    have hxc0 : Hid (0 < l.length → ∃ g o, A = some ⟨g, o, none⟩ ∧ ∀ W, Below w.heap.size w W → ∀ k x, l[k]? = some x → ∀ j u, (shareE x)[j]? = some u → W.cell? ⟨g, o + k * 3 + j, none⟩ = some u) := Lib.hid fun h0 => by
      obtain ⟨g, o, e, hg, hq⟩ := hr h0
      exact ⟨g, o, e, fun W hb k x hx j u hu => (hb.cell (p := ⟨g, o + k * 3 + j, none⟩) hg).trans (hq k x hx j u hu)⟩
    clear hp hr
    replace hv := Lib.hid hv
    go_enter Tryd.func18, Tryd.ntmps18
    go_wp2_with fail
    go_loopw [6, 7] (fun vb vi wr => ∃ (i : Nat) (n : Int), i ≤ ps.length ∧ vb = .int .i64 n ∧ vi = .int .i64 (i : Int) ∧ RefBest l ps i n ∧ Below w.heap.size w wr) (fun _ vi _ => ps.length - (intOf vi).toNat)
    case atStart => exact ⟨0, -1, Nat.zero_le _, rfl, rfl, Or.inl ⟨rfl, fun y hy => by simp⟩, Below.refl _ _⟩
    case round =>
      obtain ⟨i, n, hi, rfl, rfl, hbest, hbw⟩ := hrel
      have hz := hbw.size
      by_cases hil : i < ps.length
      · obtain ⟨s, hs⟩ := get_some hil
        obtain ⟨gp, op, rfl, pc⟩ := hpc.out i s hs
        replace pc := Lib.hid pc
        have i0 : (0 : Int) ≤ (i : Int) := by omega
        have i1 : (i : Int) < (ps.length : Int) := by omega
        have hfi : Hid (∀ W, Below w.heap.size w W → Calls Tryd.prog 20 #[.slice A l.length c, .string s.1] W fun e w' => e = .returned (.int .i64 (findP s l)) ∧ W = w') := Lib.hid fun W hb => hfi0.out W hb s
        rcases find_cases hasc.out s with ⟨_, hfp, x, hx, hxp⟩ | ⟨_, hfp, _, _, hno⟩
        · obtain ⟨k, hk⟩ : ∃ k, atP s l = k := ⟨_, rfl⟩
          rw [hk] at hfp hx
          replace hk := Lib.hid hk
          have hkl := (List.getElem?_eq_some_iff.1 hx).1
          have hxl := List.mem_of_getElem? hx
          rw [hfp] at hfi
          replace hfp := Lib.hid hfp
          have k0 : (0 : Int) ≤ (k : Int) := by omega
          have k1 : (k : Int) < (l.length : Int) := by omega
          obtain ⟨g, o, rfl, hxc⟩ := hxc0.out (by omega)
          replace hxc := Lib.hid hxc
          rcases hbest with ⟨rfl, hle⟩ | ⟨j, b, rfl, hbx, hle⟩
          · have hnx : Hid (RefBest l ps (i + 1) (k : Int)) := Lib.hid (Or.inr ⟨k, x, rfl, hx, hle.ask_first hasc.out hs hxl hxp⟩)
            replace hs := Lib.hid hs
            replace hle := Lib.hid hle
            replace hxp := Lib.hid hxp
            go_wp2_with (first
              | (go_at_call 19; go_must (refine (hva.out _ (by repeat (first | (with_reducible exact Below.refl _ _) | (with_reducible refine Below.drew ?_) | (with_reducible refine below_drewN ?_ _) | ((with_reducible refine Below.alloc ?_ ?_ _); rotate_left; focus ((try simp) <;> omega)) | ((with_reducible refine Below.setCell ?_ ?_ _); rotate_left; focus ((try simp) <;> omega)) | ((with_reducible refine Below.trans ?_ (Below.mono (by assumption) ?_)); rotate_left; focus ((try simp) <;> omega))))).mono ?_; rintro e w2 ⟨rfl, hb2⟩; have hz2 := hb2.size; have pcc := pc.out w2 (by repeat (first | (with_reducible exact Below.refl _ _) | (with_reducible refine Below.drew ?_) | (with_reducible refine below_drewN ?_ _) | ((with_reducible refine Below.alloc ?_ ?_ _); rotate_left; focus ((try simp) <;> omega)) | ((with_reducible refine Below.setCell ?_ ?_ _); rotate_left; focus ((try simp) <;> omega)) | ((with_reducible refine Below.trans ?_ (Below.mono (by assumption) ?_)); rotate_left; focus ((try simp) <;> omega))))))
              | (go_at_call 20; go_must (refine (hfi.out _ (by repeat (first | (with_reducible exact Below.refl _ _) | (with_reducible refine Below.drew ?_) | (with_reducible refine below_drewN ?_ _) | ((with_reducible refine Below.alloc ?_ ?_ _); rotate_left; focus ((try simp) <;> omega)) | ((with_reducible refine Below.setCell ?_ ?_ _); rotate_left; focus ((try simp) <;> omega)) | ((with_reducible refine Below.trans ?_ (Below.mono (by assumption) ?_)); rotate_left; focus ((try simp) <;> omega))))).mono ?_; rintro e w3 ⟨rfl, rfl⟩)))
            have q0 : w2.cell? ⟨g, o + k * 3, none⟩ = some (.string x.proj.1) := by
              have := hxc.out w2 (by repeat (first | (with_reducible exact Below.refl _ _) | (with_reducible refine Below.drew ?_) | (with_reducible refine below_drewN ?_ _) | ((with_reducible refine Below.alloc ?_ ?_ _); rotate_left; focus ((try simp) <;> omega)) | ((with_reducible refine Below.setCell ?_ ?_ _); rotate_left; focus ((try simp) <;> omega)) | ((with_reducible refine Below.trans ?_ (Below.mono (by assumption) ?_)); rotate_left; focus ((try simp) <;> omega)))) k x hx 0 (.string x.proj.1) rfl
              simpa using this
            have q1 : w2.cell? ⟨g, o + k * 3 + 1, none⟩ = some (.int .i64 x.weight.1) := hxc.out w2 (by repeat (first | (with_reducible exact Below.refl _ _) | (with_reducible refine Below.drew ?_) | (with_reducible refine below_drewN ?_ _) | ((with_reducible refine Below.alloc ?_ ?_ _); rotate_left; focus ((try simp) <;> omega)) | ((with_reducible refine Below.setCell ?_ ?_ _); rotate_left; focus ((try simp) <;> omega)) | ((with_reducible refine Below.trans ?_ (Below.mono (by assumption) ?_)); rotate_left; focus ((try simp) <;> omega)))) k x hx 1 (.int .i64 x.weight.1) rfl
            have q2 : w2.cell? ⟨g, o + k * 3 + 2, none⟩ = some (.int .i64 x.served.1) := hxc.out w2 (by repeat (first | (with_reducible exact Below.refl _ _) | (with_reducible refine Below.drew ?_) | (with_reducible refine below_drewN ?_ _) | ((with_reducible refine Below.alloc ?_ ?_ _); rotate_left; focus ((try simp) <;> omega)) | ((with_reducible refine Below.setCell ?_ ?_ _); rotate_left; focus ((try simp) <;> omega)) | ((with_reducible refine Below.trans ?_ (Below.mono (by assumption) ?_)); rotate_left; focus ((try simp) <;> omega)))) k x hx 2 (.int .i64 x.served.1) rfl
            replace hx := Lib.hid hx
            replace q0 := fun d os => cell_regrown q0 d os
            replace q1 := fun d os => cell_regrown q1 d os
            replace q2 := fun d os => cell_regrown q2 d os
            refine wp_region_quiet_below (by kernel_rfl) (by kernel_rfl) ?_
            repeat (go_big_quiet_step (fail))
            refine wpQuiet_nil ?_
            intro w4 hw4
            have hb4 := below_of_regrown hw4
            clear hw4
            have hz4 := hb4.size
            go_wp2_with fail
            go_roundw
            case rel => exact ⟨i + 1, k, hil, rfl, by go_num, hnx.out, (by repeat (first | (with_reducible exact Below.refl _ _) | (with_reducible refine Below.drew ?_) | (with_reducible refine below_drewN ?_ _) | ((with_reducible refine Below.alloc ?_ ?_ _); rotate_left; focus ((try simp) <;> omega)) | ((with_reducible refine Below.setCell ?_ ?_ _); rotate_left; focus ((try simp) <;> omega)) | ((with_reducible refine Below.trans ?_ (Below.mono (by assumption) ?_)); rotate_left; focus ((try simp) <;> omega))))⟩
            case measure => simp [intOf]; omega
          · have hjl := (List.getElem?_eq_some_iff.1 hbx).1
            have j0 : (0 : Int) ≤ (j : Int) := by omega
            have j1 : (j : Int) < (l.length : Int) := by omega
            have j2 : decide ((j : Int) < 0) = false := decide_eq_false (by omega)
            obtain ⟨C, hC⟩ : ∃ C, befB x b = C := ⟨_, rfl⟩
            have hbf : Hid (∀ W, Calls Tryd.prog 37 #[.agg #[.string x.proj.1, .int .i64 x.weight.1, .int .i64 x.served.1], .agg #[.string b.proj.1, .int .i64 b.weight.1, .int .i64 b.served.1]] W fun e w' => e = .returned (.bool C) ∧ Below W.heap.size W w') := Lib.hid fun W => (rbefore_any x b W).mono fun _ _ h => ⟨by rw [h.1, ← hC]; rfl, h.2⟩
            rcases C with _ | _
            · have hnx : Hid (RefBest l ps (i + 1) (j : Int)) := Lib.hid (Or.inr ⟨j, b, rfl, hbx, hle.ask_keep hasc.out hs hxl hxp hC⟩)
              replace hs := Lib.hid hs
              replace hle := Lib.hid hle
              replace hxp := Lib.hid hxp
              replace hC := Lib.hid hC
              go_wp2_with (first
                | (go_at_call 19; go_must (refine (hva.out _ (by repeat (first | (with_reducible exact Below.refl _ _) | (with_reducible refine Below.drew ?_) | (with_reducible refine below_drewN ?_ _) | ((with_reducible refine Below.alloc ?_ ?_ _); rotate_left; focus ((try simp) <;> omega)) | ((with_reducible refine Below.setCell ?_ ?_ _); rotate_left; focus ((try simp) <;> omega)) | ((with_reducible refine Below.trans ?_ (Below.mono (by assumption) ?_)); rotate_left; focus ((try simp) <;> omega))))).mono ?_; rintro e w2 ⟨rfl, hb2⟩; have hz2 := hb2.size; have pcc := pc.out w2 (by repeat (first | (with_reducible exact Below.refl _ _) | (with_reducible refine Below.drew ?_) | (with_reducible refine below_drewN ?_ _) | ((with_reducible refine Below.alloc ?_ ?_ _); rotate_left; focus ((try simp) <;> omega)) | ((with_reducible refine Below.setCell ?_ ?_ _); rotate_left; focus ((try simp) <;> omega)) | ((with_reducible refine Below.trans ?_ (Below.mono (by assumption) ?_)); rotate_left; focus ((try simp) <;> omega))))))
                | (go_at_call 20; go_must (refine (hfi.out _ (by repeat (first | (with_reducible exact Below.refl _ _) | (with_reducible refine Below.drew ?_) | (with_reducible refine below_drewN ?_ _) | ((with_reducible refine Below.alloc ?_ ?_ _); rotate_left; focus ((try simp) <;> omega)) | ((with_reducible refine Below.setCell ?_ ?_ _); rotate_left; focus ((try simp) <;> omega)) | ((with_reducible refine Below.trans ?_ (Below.mono (by assumption) ?_)); rotate_left; focus ((try simp) <;> omega))))).mono ?_; rintro e w3 ⟨rfl, rfl⟩)))
              have q0 : w2.cell? ⟨g, o + k * 3, none⟩ = some (.string x.proj.1) := by
                have := hxc.out w2 (by repeat (first | (with_reducible exact Below.refl _ _) | (with_reducible refine Below.drew ?_) | (with_reducible refine below_drewN ?_ _) | ((with_reducible refine Below.alloc ?_ ?_ _); rotate_left; focus ((try simp) <;> omega)) | ((with_reducible refine Below.setCell ?_ ?_ _); rotate_left; focus ((try simp) <;> omega)) | ((with_reducible refine Below.trans ?_ (Below.mono (by assumption) ?_)); rotate_left; focus ((try simp) <;> omega)))) k x hx 0 (.string x.proj.1) rfl
                simpa using this
              have q1 : w2.cell? ⟨g, o + k * 3 + 1, none⟩ = some (.int .i64 x.weight.1) := hxc.out w2 (by repeat (first | (with_reducible exact Below.refl _ _) | (with_reducible refine Below.drew ?_) | (with_reducible refine below_drewN ?_ _) | ((with_reducible refine Below.alloc ?_ ?_ _); rotate_left; focus ((try simp) <;> omega)) | ((with_reducible refine Below.setCell ?_ ?_ _); rotate_left; focus ((try simp) <;> omega)) | ((with_reducible refine Below.trans ?_ (Below.mono (by assumption) ?_)); rotate_left; focus ((try simp) <;> omega)))) k x hx 1 (.int .i64 x.weight.1) rfl
              have q2 : w2.cell? ⟨g, o + k * 3 + 2, none⟩ = some (.int .i64 x.served.1) := hxc.out w2 (by repeat (first | (with_reducible exact Below.refl _ _) | (with_reducible refine Below.drew ?_) | (with_reducible refine below_drewN ?_ _) | ((with_reducible refine Below.alloc ?_ ?_ _); rotate_left; focus ((try simp) <;> omega)) | ((with_reducible refine Below.setCell ?_ ?_ _); rotate_left; focus ((try simp) <;> omega)) | ((with_reducible refine Below.trans ?_ (Below.mono (by assumption) ?_)); rotate_left; focus ((try simp) <;> omega)))) k x hx 2 (.int .i64 x.served.1) rfl
              have hb := hbx
              have r0 : w2.cell? ⟨g, o + j * 3, none⟩ = some (.string b.proj.1) := by
                have := hxc.out w2 (by repeat (first | (with_reducible exact Below.refl _ _) | (with_reducible refine Below.drew ?_) | (with_reducible refine below_drewN ?_ _) | ((with_reducible refine Below.alloc ?_ ?_ _); rotate_left; focus ((try simp) <;> omega)) | ((with_reducible refine Below.setCell ?_ ?_ _); rotate_left; focus ((try simp) <;> omega)) | ((with_reducible refine Below.trans ?_ (Below.mono (by assumption) ?_)); rotate_left; focus ((try simp) <;> omega)))) j b hb 0 (.string b.proj.1) rfl
                simpa using this
              have r1 : w2.cell? ⟨g, o + j * 3 + 1, none⟩ = some (.int .i64 b.weight.1) := hxc.out w2 (by repeat (first | (with_reducible exact Below.refl _ _) | (with_reducible refine Below.drew ?_) | (with_reducible refine below_drewN ?_ _) | ((with_reducible refine Below.alloc ?_ ?_ _); rotate_left; focus ((try simp) <;> omega)) | ((with_reducible refine Below.setCell ?_ ?_ _); rotate_left; focus ((try simp) <;> omega)) | ((with_reducible refine Below.trans ?_ (Below.mono (by assumption) ?_)); rotate_left; focus ((try simp) <;> omega)))) j b hb 1 (.int .i64 b.weight.1) rfl
              have r2 : w2.cell? ⟨g, o + j * 3 + 2, none⟩ = some (.int .i64 b.served.1) := hxc.out w2 (by repeat (first | (with_reducible exact Below.refl _ _) | (with_reducible refine Below.drew ?_) | (with_reducible refine below_drewN ?_ _) | ((with_reducible refine Below.alloc ?_ ?_ _); rotate_left; focus ((try simp) <;> omega)) | ((with_reducible refine Below.setCell ?_ ?_ _); rotate_left; focus ((try simp) <;> omega)) | ((with_reducible refine Below.trans ?_ (Below.mono (by assumption) ?_)); rotate_left; focus ((try simp) <;> omega)))) j b hb 2 (.int .i64 b.served.1) rfl
              replace hx := Lib.hid hx
              replace hb := Lib.hid hb
              replace hbx := Lib.hid hbx
              replace q0 := fun d os => cell_regrown q0 d os
              replace q1 := fun d os => cell_regrown q1 d os
              replace q2 := fun d os => cell_regrown q2 d os
              replace r0 := fun d os => cell_regrown r0 d os
              replace r1 := fun d os => cell_regrown r1 d os
              replace r2 := fun d os => cell_regrown r2 d os
              refine wp_region_quiet_below (by kernel_rfl) (by kernel_rfl) ?_
              repeat (go_big_quiet_step ((go_at_call 37; exact Calls.regrown_of (hbf.out _))))
              refine wpQuiet_nil ?_
              intro w4 hw4
              have hb4 := below_of_regrown hw4
              clear hw4
              have hz4 := hb4.size
              go_wp2_with fail
              go_roundw
              case rel => exact ⟨i + 1, j, hil, rfl, by go_num, hnx.out, (by repeat (first | (with_reducible exact Below.refl _ _) | (with_reducible refine Below.drew ?_) | (with_reducible refine below_drewN ?_ _) | ((with_reducible refine Below.alloc ?_ ?_ _); rotate_left; focus ((try simp) <;> omega)) | ((with_reducible refine Below.setCell ?_ ?_ _); rotate_left; focus ((try simp) <;> omega)) | ((with_reducible refine Below.trans ?_ (Below.mono (by assumption) ?_)); rotate_left; focus ((try simp) <;> omega))))⟩
              case measure => simp [intOf]; omega
            · have hnx : Hid (RefBest l ps (i + 1) (k : Int)) := Lib.hid (Or.inr ⟨k, x, rfl, hx, hle.ask_turn hasc.out hok.out hs hxl hxp hC⟩)
              replace hs := Lib.hid hs
              replace hle := Lib.hid hle
              replace hxp := Lib.hid hxp
              replace hC := Lib.hid hC
              go_wp2_with (first
                | (go_at_call 19; go_must (refine (hva.out _ (by repeat (first | (with_reducible exact Below.refl _ _) | (with_reducible refine Below.drew ?_) | (with_reducible refine below_drewN ?_ _) | ((with_reducible refine Below.alloc ?_ ?_ _); rotate_left; focus ((try simp) <;> omega)) | ((with_reducible refine Below.setCell ?_ ?_ _); rotate_left; focus ((try simp) <;> omega)) | ((with_reducible refine Below.trans ?_ (Below.mono (by assumption) ?_)); rotate_left; focus ((try simp) <;> omega))))).mono ?_; rintro e w2 ⟨rfl, hb2⟩; have hz2 := hb2.size; have pcc := pc.out w2 (by repeat (first | (with_reducible exact Below.refl _ _) | (with_reducible refine Below.drew ?_) | (with_reducible refine below_drewN ?_ _) | ((with_reducible refine Below.alloc ?_ ?_ _); rotate_left; focus ((try simp) <;> omega)) | ((with_reducible refine Below.setCell ?_ ?_ _); rotate_left; focus ((try simp) <;> omega)) | ((with_reducible refine Below.trans ?_ (Below.mono (by assumption) ?_)); rotate_left; focus ((try simp) <;> omega))))))
                | (go_at_call 20; go_must (refine (hfi.out _ (by repeat (first | (with_reducible exact Below.refl _ _) | (with_reducible refine Below.drew ?_) | (with_reducible refine below_drewN ?_ _) | ((with_reducible refine Below.alloc ?_ ?_ _); rotate_left; focus ((try simp) <;> omega)) | ((with_reducible refine Below.setCell ?_ ?_ _); rotate_left; focus ((try simp) <;> omega)) | ((with_reducible refine Below.trans ?_ (Below.mono (by assumption) ?_)); rotate_left; focus ((try simp) <;> omega))))).mono ?_; rintro e w3 ⟨rfl, rfl⟩)))
              have q0 : w2.cell? ⟨g, o + k * 3, none⟩ = some (.string x.proj.1) := by
                have := hxc.out w2 (by repeat (first | (with_reducible exact Below.refl _ _) | (with_reducible refine Below.drew ?_) | (with_reducible refine below_drewN ?_ _) | ((with_reducible refine Below.alloc ?_ ?_ _); rotate_left; focus ((try simp) <;> omega)) | ((with_reducible refine Below.setCell ?_ ?_ _); rotate_left; focus ((try simp) <;> omega)) | ((with_reducible refine Below.trans ?_ (Below.mono (by assumption) ?_)); rotate_left; focus ((try simp) <;> omega)))) k x hx 0 (.string x.proj.1) rfl
                simpa using this
              have q1 : w2.cell? ⟨g, o + k * 3 + 1, none⟩ = some (.int .i64 x.weight.1) := hxc.out w2 (by repeat (first | (with_reducible exact Below.refl _ _) | (with_reducible refine Below.drew ?_) | (with_reducible refine below_drewN ?_ _) | ((with_reducible refine Below.alloc ?_ ?_ _); rotate_left; focus ((try simp) <;> omega)) | ((with_reducible refine Below.setCell ?_ ?_ _); rotate_left; focus ((try simp) <;> omega)) | ((with_reducible refine Below.trans ?_ (Below.mono (by assumption) ?_)); rotate_left; focus ((try simp) <;> omega)))) k x hx 1 (.int .i64 x.weight.1) rfl
              have q2 : w2.cell? ⟨g, o + k * 3 + 2, none⟩ = some (.int .i64 x.served.1) := hxc.out w2 (by repeat (first | (with_reducible exact Below.refl _ _) | (with_reducible refine Below.drew ?_) | (with_reducible refine below_drewN ?_ _) | ((with_reducible refine Below.alloc ?_ ?_ _); rotate_left; focus ((try simp) <;> omega)) | ((with_reducible refine Below.setCell ?_ ?_ _); rotate_left; focus ((try simp) <;> omega)) | ((with_reducible refine Below.trans ?_ (Below.mono (by assumption) ?_)); rotate_left; focus ((try simp) <;> omega)))) k x hx 2 (.int .i64 x.served.1) rfl
              have hb := hbx
              have r0 : w2.cell? ⟨g, o + j * 3, none⟩ = some (.string b.proj.1) := by
                have := hxc.out w2 (by repeat (first | (with_reducible exact Below.refl _ _) | (with_reducible refine Below.drew ?_) | (with_reducible refine below_drewN ?_ _) | ((with_reducible refine Below.alloc ?_ ?_ _); rotate_left; focus ((try simp) <;> omega)) | ((with_reducible refine Below.setCell ?_ ?_ _); rotate_left; focus ((try simp) <;> omega)) | ((with_reducible refine Below.trans ?_ (Below.mono (by assumption) ?_)); rotate_left; focus ((try simp) <;> omega)))) j b hb 0 (.string b.proj.1) rfl
                simpa using this
              have r1 : w2.cell? ⟨g, o + j * 3 + 1, none⟩ = some (.int .i64 b.weight.1) := hxc.out w2 (by repeat (first | (with_reducible exact Below.refl _ _) | (with_reducible refine Below.drew ?_) | (with_reducible refine below_drewN ?_ _) | ((with_reducible refine Below.alloc ?_ ?_ _); rotate_left; focus ((try simp) <;> omega)) | ((with_reducible refine Below.setCell ?_ ?_ _); rotate_left; focus ((try simp) <;> omega)) | ((with_reducible refine Below.trans ?_ (Below.mono (by assumption) ?_)); rotate_left; focus ((try simp) <;> omega)))) j b hb 1 (.int .i64 b.weight.1) rfl
              have r2 : w2.cell? ⟨g, o + j * 3 + 2, none⟩ = some (.int .i64 b.served.1) := hxc.out w2 (by repeat (first | (with_reducible exact Below.refl _ _) | (with_reducible refine Below.drew ?_) | (with_reducible refine below_drewN ?_ _) | ((with_reducible refine Below.alloc ?_ ?_ _); rotate_left; focus ((try simp) <;> omega)) | ((with_reducible refine Below.setCell ?_ ?_ _); rotate_left; focus ((try simp) <;> omega)) | ((with_reducible refine Below.trans ?_ (Below.mono (by assumption) ?_)); rotate_left; focus ((try simp) <;> omega)))) j b hb 2 (.int .i64 b.served.1) rfl
              replace hx := Lib.hid hx
              replace hb := Lib.hid hb
              replace hbx := Lib.hid hbx
              replace q0 := fun d os => cell_regrown q0 d os
              replace q1 := fun d os => cell_regrown q1 d os
              replace q2 := fun d os => cell_regrown q2 d os
              replace r0 := fun d os => cell_regrown r0 d os
              replace r1 := fun d os => cell_regrown r1 d os
              replace r2 := fun d os => cell_regrown r2 d os
              refine wp_region_quiet_below (by kernel_rfl) (by kernel_rfl) ?_
              repeat (go_big_quiet_step ((go_at_call 37; exact Calls.regrown_of (hbf.out _))))
              refine wpQuiet_nil ?_
              intro w4 hw4
              have hb4 := below_of_regrown hw4
              clear hw4
              have hz4 := hb4.size
              go_wp2_with fail
              go_roundw
              case rel => exact ⟨i + 1, k, hil, rfl, by go_num, hnx.out, (by repeat (first | (with_reducible exact Below.refl _ _) | (with_reducible refine Below.drew ?_) | (with_reducible refine below_drewN ?_ _) | ((with_reducible refine Below.alloc ?_ ?_ _); rotate_left; focus ((try simp) <;> omega)) | ((with_reducible refine Below.setCell ?_ ?_ _); rotate_left; focus ((try simp) <;> omega)) | ((with_reducible refine Below.trans ?_ (Below.mono (by assumption) ?_)); rotate_left; focus ((try simp) <;> omega))))⟩
              case measure => simp [intOf]; omega
        · rw [hfp] at hfi
          have hnx : Hid (RefBest l ps (i + 1) n) := Lib.hid (by
            rcases hbest with ⟨e, hle⟩ | ⟨j, b, e, hbx, hle⟩
            · exact Or.inl ⟨e, hle.none_ask hs hno⟩
            · exact Or.inr ⟨j, b, e, hbx, hle.none_ask hs hno⟩)
          replace hfp := Lib.hid hfp
          replace hs := Lib.hid hs
          replace hbest := Lib.hid hbest
          clear hno
          go_wp2_with (first
            | (go_at_call 19; go_must (refine (hva.out _ (by repeat (first | (with_reducible exact Below.refl _ _) | (with_reducible refine Below.drew ?_) | (with_reducible refine below_drewN ?_ _) | ((with_reducible refine Below.alloc ?_ ?_ _); rotate_left; focus ((try simp) <;> omega)) | ((with_reducible refine Below.setCell ?_ ?_ _); rotate_left; focus ((try simp) <;> omega)) | ((with_reducible refine Below.trans ?_ (Below.mono (by assumption) ?_)); rotate_left; focus ((try simp) <;> omega))))).mono ?_; rintro e w2 ⟨rfl, hb2⟩; have hz2 := hb2.size; have pcc := pc.out w2 (by repeat (first | (with_reducible exact Below.refl _ _) | (with_reducible refine Below.drew ?_) | (with_reducible refine below_drewN ?_ _) | ((with_reducible refine Below.alloc ?_ ?_ _); rotate_left; focus ((try simp) <;> omega)) | ((with_reducible refine Below.setCell ?_ ?_ _); rotate_left; focus ((try simp) <;> omega)) | ((with_reducible refine Below.trans ?_ (Below.mono (by assumption) ?_)); rotate_left; focus ((try simp) <;> omega))))))
            | (go_at_call 20; go_must (refine (hfi.out _ (by repeat (first | (with_reducible exact Below.refl _ _) | (with_reducible refine Below.drew ?_) | (with_reducible refine below_drewN ?_ _) | ((with_reducible refine Below.alloc ?_ ?_ _); rotate_left; focus ((try simp) <;> omega)) | ((with_reducible refine Below.setCell ?_ ?_ _); rotate_left; focus ((try simp) <;> omega)) | ((with_reducible refine Below.trans ?_ (Below.mono (by assumption) ?_)); rotate_left; focus ((try simp) <;> omega))))).mono ?_; rintro e w3 ⟨rfl, rfl⟩)))
          refine wp_region_quiet_below (by kernel_rfl) (by kernel_rfl) ?_
          repeat (go_big_quiet_step (fail))
          refine wpQuiet_nil ?_
          intro w4 hw4
          have hb4 := below_of_regrown hw4
          clear hw4
          have hz4 := hb4.size
          go_wp2_with fail
          go_roundw
          case rel => exact ⟨i + 1, n, hil, rfl, by go_num, hnx.out, (by repeat (first | (with_reducible exact Below.refl _ _) | (with_reducible refine Below.drew ?_) | (with_reducible refine below_drewN ?_ _) | ((with_reducible refine Below.alloc ?_ ?_ _); rotate_left; focus ((try simp) <;> omega)) | ((with_reducible refine Below.setCell ?_ ?_ _); rotate_left; focus ((try simp) <;> omega)) | ((with_reducible refine Below.trans ?_ (Below.mono (by assumption) ?_)); rotate_left; focus ((try simp) <;> omega))))⟩
          case measure => simp [intOf]; omega
      · have i1 : ¬ (i : Int) < (ps.length : Int) := by omega
        have hil2 : i = ps.length := by omega
        rw [hil2] at hbest
        replace hil2 := Lib.hid hil2
        rcases hfin.out n hbest with ⟨rfl, hout⟩ | ⟨j, x, rfl, hx, hout⟩
        · replace hout := Lib.hid hout
          replace hbest := Lib.hid hbest
          go_wp2_with fail
          exact bodyPost_ret (v := .tuple #[.string ⟨#[]⟩, .bool false]) (by simp [results, Tryd.results18, go_sem]) rfl ⟨hout.out, hbw⟩
        · replace hout := Lib.hid hout
          replace hbest := Lib.hid hbest
          have hjl := (List.getElem?_eq_some_iff.1 hx).1
          have j0 : (0 : Int) ≤ (j : Int) := by omega
          have j1 : (j : Int) < (l.length : Int) := by omega
          have j2 : ¬ (j : Int) < 0 := by omega
          obtain ⟨g, o, rfl, hxc⟩ := hxc0.out (by omega)
          replace hxc := Lib.hid hxc
          have q0 : wr.cell? ⟨g, o + j * 3, none⟩ = some (.string x.proj.1) := by
            have := hxc.out wr (by repeat (first | (with_reducible exact Below.refl _ _) | (with_reducible refine Below.drew ?_) | (with_reducible refine below_drewN ?_ _) | ((with_reducible refine Below.alloc ?_ ?_ _); rotate_left; focus ((try simp) <;> omega)) | ((with_reducible refine Below.setCell ?_ ?_ _); rotate_left; focus ((try simp) <;> omega)) | ((with_reducible refine Below.trans ?_ (Below.mono (by assumption) ?_)); rotate_left; focus ((try simp) <;> omega)))) j x hx 0 (.string x.proj.1) rfl
            simpa using this
          have q1 : wr.cell? ⟨g, o + j * 3 + 1, none⟩ = some (.int .i64 x.weight.1) := hxc.out wr (by repeat (first | (with_reducible exact Below.refl _ _) | (with_reducible refine Below.drew ?_) | (with_reducible refine below_drewN ?_ _) | ((with_reducible refine Below.alloc ?_ ?_ _); rotate_left; focus ((try simp) <;> omega)) | ((with_reducible refine Below.setCell ?_ ?_ _); rotate_left; focus ((try simp) <;> omega)) | ((with_reducible refine Below.trans ?_ (Below.mono (by assumption) ?_)); rotate_left; focus ((try simp) <;> omega)))) j x hx 1 (.int .i64 x.weight.1) rfl
          have q2 : wr.cell? ⟨g, o + j * 3 + 2, none⟩ = some (.int .i64 x.served.1) := hxc.out wr (by repeat (first | (with_reducible exact Below.refl _ _) | (with_reducible refine Below.drew ?_) | (with_reducible refine below_drewN ?_ _) | ((with_reducible refine Below.alloc ?_ ?_ _); rotate_left; focus ((try simp) <;> omega)) | ((with_reducible refine Below.setCell ?_ ?_ _); rotate_left; focus ((try simp) <;> omega)) | ((with_reducible refine Below.trans ?_ (Below.mono (by assumption) ?_)); rotate_left; focus ((try simp) <;> omega)))) j x hx 2 (.int .i64 x.served.1) rfl
          replace hx := Lib.hid hx
          go_wp2_with fail
          exact bodyPost_ret (v := .tuple #[.string x.proj.1, .bool true]) (by simp [results, Tryd.results18, go_sem]) rfl ⟨hout.out, hbw⟩
end Go.Proofs.YtopicpghhpkgbaaDoor
