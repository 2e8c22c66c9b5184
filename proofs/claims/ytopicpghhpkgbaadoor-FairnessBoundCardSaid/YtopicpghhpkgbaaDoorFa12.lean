/-
  The walks of fairness's laws' own helpers: few shares, few names; the example.
-/
import Derived.Test.YtopicpghhpkgbaaDoorFa11



namespace Go.Proofs.YtopicpghhpkgbaaDoor
open Go.RowKit

/-- At most n, the first n of them short. -/
def fewG {α : Type} (f : α → Nat) (n : Nat) (l : List α) : Bool := (l.take n).all (fun x => decide (f x ≤ 100)) && decide (l.length ≤ n)
theorem fewG_no {α : Type} {f : α → Nat} {n k : Nat} {l : List α} {x : α} (hx : l[k]? = some x) (hk : k < n) (h : ¬ f x ≤ 100) : fewG f n l = false := by
  unfold fewG
  rw [Bool.and_eq_false_iff]
  left
  rw [List.all_eq_false]
  exact ⟨x, List.mem_of_getElem? (i := k) (by rw [List.getElem?_take_of_lt hk]; exact hx), by simpa using h⟩
theorem fewG_end {α : Type} {f : α → Nat} {n k : Nat} {l : List α} (hk : k = l.length ∧ k ≤ n ∨ k = n) (h : (l.take k).all (fun x => decide (f x ≤ 100)) = true) : fewG f n l = decide (l.length ≤ n) := by
  unfold fewG
  have e : l.take n = l.take k := by
    rcases hk with ⟨h1, h2⟩ | h1
    · rw [List.take_of_length_le (by omega), List.take_of_length_le (by omega)]
    · rw [h1]
  rw [e, h]; rfl
theorem fewG_len {α : Type} {f : α → Nat} {n : Nat} {l : List α} (h : fewG f n l = true) : l.length ≤ n := by
  unfold fewG at h
  rw [Bool.and_eq_true, decide_eq_true_eq] at h
  exact h.2
/-- A project's size. -/
def szP (x : Share) : Nat := x.proj.1.size
def szT (x : Str) : Nat := x.1.size
def fewB (l : List Share) : Bool := fewG szP 66 l
def shortB (l : List Str) : Bool := fewG szT 100 l
theorem few_any (A : Option Addr) (c : Nat) (l : List Share) (w : World) (hr : Rw shareE 3 w w.heap.size A l) (hn : l.length ≤ 9223372036854775807) :
    Calls Tryd.prog 9 #[.slice A l.length c] w fun e w' => e = .returned (.bool (fewB l)) ∧ w = w' := by
  have hc : Hid (∀ k x, l[k]? = some x → ∃ g o, A = some ⟨g, o, none⟩ ∧ w.cell? ⟨g, o + k * 3, none⟩ = some (.string x.proj.1)) := Lib.hid (fun k x hx => by
    have hk := (List.getElem?_eq_some_iff.1 hx).1
    obtain ⟨g, o, e, _, h⟩ := hr (by omega)
    exact ⟨g, o, e, h k x hx 0 (.string x.proj.1) rfl⟩)
  clear hr
  unfold fewB
  go_enter Tryd.func9, Tryd.ntmps9
  go_wp2_with fail
  go_loop [3] (fun vi => ∃ k : Nat, k ≤ l.length ∧ k ≤ 66 ∧ vi = .int .i64 (k : Int) ∧ (l.take k).all (fun x => decide (szP x ≤ 100)) = true) (fun vi => l.length - (intOf vi).toNat)
  case atStart => exact ⟨0, Nat.zero_le _, Nat.zero_le _, rfl, rfl⟩
  case round =>
    obtain ⟨k, hk, hkn, rfl, ht⟩ := hrel
    replace ht := Lib.hid ht
    by_cases hkl : k < l.length
    · have i1 : (k : Int) < (l.length : Int) := by omega
      by_cases hk2 : k < 66
      · have i2 : (k : Int) < 66 := by omega
        obtain ⟨x, hx⟩ := get_some hkl
        obtain ⟨g, o, rfl, q⟩ := hc.out k x hx
        have i0 : (0 : Int) ≤ (k : Int) := by omega
        by_cases h3 : szP x ≤ 100
        · replace hx := Lib.hid hx
          have h3z : x.proj.1.size ≤ 100 := h3
          go_wp2_with fail
          go_round
          case rel => exact ⟨k + 1, by omega, by omega, by go_num, by rw [List.take_add_one, hx.out, List.all_append, ht.out]; simp [h3]⟩
          case measure => simp [intOf]; omega
        · have hf : Hid (fewG szP 66 l = false) := Lib.hid (fewG_no hx hk2 h3)
          have h3z : ¬ x.proj.1.size ≤ 100 := h3
          replace hx := Lib.hid hx
          go_wp2_with fail
          go_ret
          exact ⟨ret_bool hf.out.symm, rfl⟩
      · have i2 : ¬ (k : Int) < 66 := by omega
        have hf : Hid (fewG szP 66 l = decide (l.length ≤ 66)) := Lib.hid (fewG_end (k := k) (by omega) ht.out)
        go_wp2_with fail
        go_ret
        exact ⟨ret_bool (by rw [hf.out, Bool.eq_iff_iff]; simp; try omega), rfl⟩
    · have i1 : ¬ (k : Int) < (l.length : Int) := by omega
      have hf : Hid (fewG szP 66 l = decide (l.length ≤ 66)) := Lib.hid (fewG_end (k := k) (by omega) ht.out)
      go_wp2_with fail
      go_ret
      exact ⟨ret_bool (by rw [hf.out, Bool.eq_iff_iff]; simp; try omega), rfl⟩
theorem short_any (A : Option Addr) (c : Nat) (l : List Str) (w : World) (hr : Rw sE 1 w w.heap.size A l) (hn : l.length ≤ 9223372036854775807) :
    Calls Tryd.prog 16 #[.slice A l.length c] w fun e w' => e = .returned (.bool (shortB l)) ∧ w = w' := by
  have hc : Hid (∀ k x, l[k]? = some x → ∃ g o, A = some ⟨g, o, none⟩ ∧ w.cell? ⟨g, o + k, none⟩ = some (.string x.1)) := Lib.hid (fun k x hx => by
    have hk := (List.getElem?_eq_some_iff.1 hx).1
    obtain ⟨g, o, e, _, h⟩ := hr.str (by omega)
    exact ⟨g, o, e, h k x hx⟩)
  clear hr
  unfold shortB
  go_enter Tryd.func16, Tryd.ntmps16
  go_wp2_with fail
  go_loop [3] (fun vi => ∃ k : Nat, k ≤ l.length ∧ k ≤ 100 ∧ vi = .int .i64 (k : Int) ∧ (l.take k).all (fun x => decide (szT x ≤ 100)) = true) (fun vi => l.length - (intOf vi).toNat)
  case atStart => exact ⟨0, Nat.zero_le _, Nat.zero_le _, rfl, rfl⟩
  case round =>
    obtain ⟨k, hk, hkn, rfl, ht⟩ := hrel
    replace ht := Lib.hid ht
    by_cases hkl : k < l.length
    · have i1 : (k : Int) < (l.length : Int) := by omega
      by_cases hk2 : k < 100
      · have i2 : (k : Int) < 100 := by omega
        obtain ⟨x, hx⟩ := get_some hkl
        obtain ⟨g, o, rfl, q⟩ := hc.out k x hx
        have i0 : (0 : Int) ≤ (k : Int) := by omega
        by_cases h3 : szT x ≤ 100
        · replace hx := Lib.hid hx
          have h3z : x.1.size ≤ 100 := h3
          go_wp2_with fail
          go_round
          case rel => exact ⟨k + 1, by omega, by omega, by go_num, by rw [List.take_add_one, hx.out, List.all_append, ht.out]; simp [h3]⟩
          case measure => simp [intOf]; omega
        · have hf : Hid (fewG szT 100 l = false) := Lib.hid (fewG_no hx hk2 h3)
          have h3z : ¬ x.1.size ≤ 100 := h3
          replace hx := Lib.hid hx
          go_wp2_with fail
          go_ret
          exact ⟨ret_bool hf.out.symm, rfl⟩
      · have i2 : ¬ (k : Int) < 100 := by omega
        have hf : Hid (fewG szT 100 l = decide (l.length ≤ 100)) := Lib.hid (fewG_end (k := k) (by omega) ht.out)
        go_wp2_with fail
        go_ret
        exact ⟨ret_bool (by rw [hf.out, Bool.eq_iff_iff]; simp; try omega), rfl⟩
    · have i1 : ¬ (k : Int) < (l.length : Int) := by omega
      have hf : Hid (fewG szT 100 l = decide (l.length ≤ 100)) := Lib.hid (fewG_end (k := k) (by omega) ht.out)
      go_wp2_with fail
      go_ret
      exact ⟨ret_bool (by rw [hf.out, Bool.eq_iff_iff]; simp; try omega), rfl⟩

/-- The example's projects, its shares ahead of the charge and behind it. -/
abbrev nA : Str := ⟨⟨#[97]⟩, by decide⟩
abbrev nB : Str := ⟨⟨#[98]⟩, by decide⟩
abbrev sA : Share := ⟨nA, ⟨1, by omega⟩, ⟨0, by omega⟩⟩
abbrev sB : Share := ⟨nB, ⟨3, by omega⟩, ⟨0, by omega⟩⟩
abbrev sC : Share := ⟨nA, ⟨1, by omega⟩, ⟨1, by omega⟩⟩
theorem ex_add1 : addE [] nA 1 = 0 ∧ addL [] nA ⟨1, by omega⟩ = [sA] := by decide +kernel
theorem ex_add2 : addE [sA] nB 3 = 0 ∧ addL [sA] nB ⟨3, by omega⟩ = [sA, sB] := by decide +kernel
theorem ex_charge : chE [sA, sB] nA 1 = 0 ∧ chL [sA, sB] nA 1 = [sC, sB] := by decide +kernel
theorem ex_valid1 : validS [sA, sB] = true := by decide +kernel
theorem ex_valid2 : validS [sC, sB] = true := by decide +kernel
theorem ex_pick1 : Picked [sA, sB] [nB, nA] sA true := by
  refine ⟨⟨by simp, by simp, fun y hy _ => ?_⟩, fun h => by cases h⟩
  rcases List.mem_cons.1 hy with rfl | hy
  · exact bef_irrefl _
  · obtain rfl : y = sB := by simpa using hy
    decide +kernel
theorem ex_pick2 : Picked [sC, sB] [nB, nA] sB true := by
  refine ⟨⟨by simp, by simp, fun y hy _ => ?_⟩, fun h => by cases h⟩
  rcases List.mem_cons.1 hy with rfl | hy
  · decide +kernel
  · obtain rfl : y = sB := by simpa using hy
    exact bef_irrefl _
theorem pick_of {l : List Share} {ps : List Str} {b : Share} {s : Bool} {e : Ending} (hv : validS l = true) (h : PickOut l ps e) (hp : Picked l ps b s) : e = .returned (pickV b s) := by
  obtain ⟨b', s', rfl, h1, _⟩ := h
  obtain ⟨rfl, rfl⟩ := (h1 hv).unique (valid_asc hv) hp
  rfl
theorem rw_two (w : World) (x y : Str) : Rw sE 1 (w.alloc (.cells #[.string x.1, .string y.1] 9)) (w.heap.size + 1) (some ⟨w.heap.size, 0, none⟩) [x, y] := fun _ => ⟨w.heap.size, 0, rfl, by omega, fun i z hz j u hu => by
  have hj : j = 0 := by have := (List.getElem?_eq_some_iff.1 hu).1; simp [sE] at this; exact this
  subst hj
  obtain rfl : Value.string z.1 = u := by simpa [sE] using hu
  rcases i with _ | _ | i
  · obtain rfl : x = z := by simpa using hz
    exact box_cells w _ _ 0 _ rfl
  · obtain rfl : y = z := by simpa using hz
    exact box_cells w _ _ 1 _ rfl
  · simp at hz⟩
set_option maxRecDepth 100000 in
set_option maxHeartbeats 4000000 in
theorem awake_any (w : World) :
    Calls Tryd.prog 10 #[] w fun e w' => e = .returned (.bool true) ∧ Below w.heap.size w w' := by
  have h1 : Hid (∀ W, Calls Tryd.prog 11 #[.slice none 0 0, .string ⟨#[97]⟩, .int .i64 1] W fun e w' => ∃ A c, e = .returned (.tuple #[.slice A 1 c, .int .i64 0]) ∧ Rw shareE 3 w' w'.heap.size A [sA] ∧ 1 ≤ c ∧ Below W.heap.size W w') := Lib.hid fun W => by
    refine (add_any none 0 [] nA ⟨1, by omega⟩ W Rw.nil (Nat.le_refl _) (by simp)).mono ?_
    rw [ex_add1.1, ex_add1.2]
    exact fun _ _ h => h
  have h2 : Hid (∀ W A c, Rw shareE 3 W W.heap.size A [sA] → 1 ≤ c → Calls Tryd.prog 11 #[.slice A 1 c, .string ⟨#[98]⟩, .int .i64 3] W fun e w' => ∃ A c, e = .returned (.tuple #[.slice A 2 c, .int .i64 0]) ∧ Rw shareE 3 w' w'.heap.size A [sA, sB] ∧ 2 ≤ c ∧ Below W.heap.size W w') := Lib.hid fun W A c hr hc => by
    refine (add_any A c [sA] nB ⟨3, by omega⟩ W hr hc (by simp)).mono ?_
    rw [ex_add2.1, ex_add2.2]
    exact fun _ _ h => h
  have h3 : Hid (∀ W A c B d, Rw shareE 3 W W.heap.size A [sA, sB] → Rw sE 1 W W.heap.size B [nB, nA] → Calls Tryd.prog 17 #[.slice A 2 c, .slice B 2 d] W fun e w' => e = .returned (.tuple #[.string ⟨#[97]⟩, .bool true]) ∧ Below W.heap.size W w') := Lib.hid fun W A c B d hr hp =>
    (pick_any A B c d [sA, sB] [nB, nA] W hr hp (by simp) (by simp)).mono fun _ _ h => ⟨pick_of ex_valid1 h.1 ex_pick1, h.2⟩
  have h4 : Hid (∀ W A c, Rw shareE 3 W W.heap.size A [sA, sB] → 2 ≤ c → Calls Tryd.prog 14 #[.slice A 2 c, .string ⟨#[97]⟩, .int .i64 1] W fun e w' => ∃ A c, e = .returned (.tuple #[.slice A 2 c, .int .i64 0]) ∧ Rw shareE 3 w' w'.heap.size A [sC, sB] ∧ 2 ≤ c ∧ Below W.heap.size W w') := Lib.hid fun W A c hr hc => by
    refine (charge_any A c [sA, sB] nA ⟨1, by omega⟩ W hr hc (by simp)).mono ?_
    rw [ex_charge.1, ex_charge.2]
    exact fun _ _ h => h
  have h5 : Hid (∀ W A c B d, Rw shareE 3 W W.heap.size A [sC, sB] → Rw sE 1 W W.heap.size B [nB, nA] → Calls Tryd.prog 17 #[.slice A 2 c, .slice B 2 d] W fun e w' => e = .returned (.tuple #[.string ⟨#[98]⟩, .bool true]) ∧ Below W.heap.size W w') := Lib.hid fun W A c B d hr hp =>
    (pick_any A B c d [sC, sB] [nB, nA] W hr hp (by simp) (by simp)).mono fun _ _ h => ⟨pick_of ex_valid2 h.1 ex_pick2, h.2⟩
  have hrl : Hid (∀ (W : World), Rw sE 1 (W.alloc (.cells #[.string ⟨#[98]⟩, .string ⟨#[97]⟩] 9)) (W.alloc (.cells #[.string ⟨#[98]⟩, .string ⟨#[97]⟩] 9)).heap.size (some ⟨W.heap.size, 0, none⟩) [nB, nA]) := Lib.hid fun W => by
    rw [show (W.alloc (.cells #[.string ⟨#[98]⟩, .string ⟨#[97]⟩] 9)).heap.size = W.heap.size + 1 by simp]
    exact rw_two W nB nA
  have hmo : Hid (∀ (W : World) (o : Obj) A l, Rw shareE 3 W W.heap.size A l → Rw shareE 3 (W.alloc o) (W.alloc o).heap.size A l) := Lib.hid fun W o A l h => (h.alloc (Nat.le_refl _) o).more (by simp)
  go_enter Tryd.func10, Tryd.ntmps10
  go_wp2_with (first
    | (go_at_call 11; with_reducible refine (h1.out _).mono ?_; rintro e w1 ⟨A1, c1, rfl, hr1, hc1, hb1⟩; have hz1 := hb1.size)
    | (go_at_call 11; with_reducible refine (h2.out _ A1 c1 hr1 hc1).mono ?_; rintro e w2 ⟨A2, c2, rfl, hr2, hc2, hb2⟩; have hz2 := hb2.size)
    | (go_at_call 17; with_reducible refine (h3.out _ A2 c2 _ _ (hmo.out _ _ _ _ hr2) (hrl.out _)).mono ?_; rintro e w3 ⟨rfl, hb3⟩; have hz3 := hb3.size; (try simp at hz3); have hr3 := ((hmo.out _ _ _ _ hr2).below hb3 (Nat.le_refl _)).more hb3.size)
    | (go_at_call 14; with_reducible refine (h4.out _ A2 c2 hr3 hc2).mono ?_; rintro e w4 ⟨A4, c4, rfl, hr4, hc4, hb4⟩; have hz4 := hb4.size)
    | (go_at_call 17; with_reducible refine (h5.out _ A4 c4 _ _ (hmo.out _ _ _ _ hr4) (hrl.out _)).mono ?_; rintro e w5 ⟨rfl, hb5⟩; have hz5 := hb5.size; (try simp at hz5)))
  go_ret
  exact ⟨rfl, (by repeat (first | (with_reducible exact Below.refl _ _) | (with_reducible refine Below.drew ?_) | (with_reducible refine below_drewN ?_ _) | ((with_reducible refine Below.alloc ?_ ?_ _); rotate_left; focus ((try simp) <;> omega)) | ((with_reducible refine Below.setCell ?_ ?_ _); rotate_left; focus ((try simp) <;> omega)) | ((with_reducible refine Below.trans ?_ (Below.mono (by assumption) ?_)); rotate_left; focus ((try simp) <;> omega))))⟩
end Go.Proofs.YtopicpghhpkgbaaDoor
