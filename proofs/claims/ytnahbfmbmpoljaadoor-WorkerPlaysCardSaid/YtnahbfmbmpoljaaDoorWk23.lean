/-
  The walks of workers: whether a worker is short.
-/
import Derived.Test.YtnahbfmbmpoljaaDoorWk6



namespace Go.Proofs.YtnahbfmbmpoljaaDoor
open Go.RowKit

def shortB (x : Work) : Bool := x.labs.all (fun s => decide (s.1.size ≤ 200)) && decide (x.id.1.size ≤ 200) && decide (x.labs.length ≤ 40) && decide (x.toks.length ≤ 80)
theorem short_in {x : Work} (h : shortB x = true) : (∀ s ∈ x.labs, s.1.size ≤ 200) ∧ x.id.1.size ≤ 200 ∧ x.labs.length ≤ 40 ∧ x.toks.length ≤ 80 := by
  unfold shortB at h
  simp only [Bool.and_eq_true, decide_eq_true_eq, List.all_eq_true] at h
  exact ⟨h.1.1.1, h.1.1.2, h.1.2, h.2⟩
theorem short_lab {x : Work} {k : Nat} {s : Str} (hs : x.labs[k]? = some s) (h : ¬ s.1.size ≤ 200) : shortB x = false := by
  rw [← Bool.not_eq_true]
  exact fun e => h ((short_in e).1 s (List.mem_of_getElem? hs))
theorem short_end {x : Work} {k : Nat} (ha : ∀ j s, j < k → x.labs[j]? = some s → s.1.size ≤ 200) (hk : x.labs.length ≤ k ∨ 40 < x.labs.length) : shortB x = (decide (x.id.1.size ≤ 200) && decide (x.labs.length ≤ 40) && decide (x.toks.length ≤ 80)) := by
  unfold shortB
  rcases hk with h | h
  · have e : (x.labs.all fun s => decide (s.1.size ≤ 200)) = true := by
      rw [List.all_eq_true]
      intro s hs
      obtain ⟨j, hj⟩ := List.getElem?_of_mem hs
      exact decide_eq_true (ha j s (by have := (List.getElem?_eq_some_iff.1 hj).1; omega) hj)
    rw [e, Bool.true_and]
  · rw [decide_eq_false (show ¬ x.labs.length ≤ 40 by omega)]
    simp
set_option maxRecDepth 100000 in
set_option maxHeartbeats 4000000 in
theorem short_any (x : Work) (w : World) (hx : LabWork w w.heap.size x) :
    Calls Tryd.prog 9 #[(.agg #[.string x.id.1, .slice x.labsA x.labs.length x.labsC, .int .i64 x.trust.1, .int .i64 x.slots.1, .bool x.pre, .int .i64 x.phase.1, .int .i64 x.beat.1, .int .i64 x.till.1, .slice x.toksA x.toks.length x.toksC])] w fun e w' => e = .returned (.bool (shortB x)) ∧ Below w.heap.size w w' := by
  have hn : x.labs.length ≤ 9223372036854775807 := by have := hx.1; have := hx.2.1; unfold maxLen at this; omega
  have hrw := hx.2.2.1
  obtain ⟨TA, hTA⟩ : ∃ TA, x.labsA = TA := ⟨_, rfl⟩
  rw [hTA] at hrw ⊢
  replace hTA := Lib.hid hTA
  replace hx := Lib.hid hx
  obtain ⟨W1, hW1⟩ : ∃ W, w.alloc (.cells #[.string x.id.1, .slice TA x.labs.length x.labsC, .int .i64 x.trust.1, .int .i64 x.slots.1, .bool x.pre, .int .i64 x.phase.1, .int .i64 x.beat.1, .int .i64 x.till.1, .slice x.toksA x.toks.length x.toksC] 25) = W := ⟨_, rfl⟩
  have hbW : Below w.heap.size w W1 := by rw [← hW1]; exact (Below.refl _ _).alloc (Nat.le_refl _) _
  have a0 : W1.cell? ⟨w.heap.size, 0, none⟩ = some (.string x.id.1) := by rw [← hW1]; exact box_cells w _ _ 0 _ rfl
  have a1 : W1.cell? ⟨w.heap.size, 1, none⟩ = some (.slice TA x.labs.length x.labsC) := by rw [← hW1]; exact box_cells w _ _ 1 _ rfl
  have a8 : W1.cell? ⟨w.heap.size, 8, none⟩ = some (.slice x.toksA x.toks.length x.toksC) := by rw [← hW1]; exact box_cells w _ _ 8 _ rfl
  have hrW := Lib.hid (hrw.below hbW (Nat.le_refl _))
  clear hrw
  go_enter Tryd.func9, Tryd.ntmps9
  go_wp2_with fail
  clear hW1
  go_loop [3] (fun vi => ∃ k : Nat, k ≤ x.labs.length ∧ k ≤ 40 ∧ vi = .int .i64 (k : Int) ∧ ∀ j s, j < k → x.labs[j]? = some s → s.1.size ≤ 200) (fun vi => x.labs.length - (intOf vi).toNat)
  case atStart => exact ⟨0, Nat.zero_le _, by omega, rfl, fun j s h => absurd h (by omega)⟩
  case round =>
    obtain ⟨k, hk, hk40, rfl, ht⟩ := hrel
    replace ht := Lib.hid ht
    by_cases hlt : k < x.labs.length
    · by_cases h40 : k < 40
      · obtain ⟨s, hs⟩ := get_some hlt
        obtain ⟨g, o, rfl, _, hc⟩ := hrW.out.str (by omega)
        have q := hc k s hs
        clear hc
        have i0 : (0 : Int) ≤ (k : Int) := by omega
        have i1 : (k : Int) < (x.labs.length : Int) := by omega
        have i2 : (k : Int) < 40 := by omega
        by_cases h2 : s.1.size ≤ 200
        · have j1 : ¬ (s.1.size : Int) > 200 := by omega
          have ht2 : Hid (∀ j s, j < k + 1 → x.labs[j]? = some s → s.1.size ≤ 200) := Lib.hid fun j z hj hz => by
            by_cases e : j = k
            · subst e
              rw [hs] at hz
              obtain rfl : s = z := by simpa using hz
              exact h2
            · exact ht.out j z (by omega) hz
          replace hs := Lib.hid hs
          go_wp2_with fail
          go_round
          case rel => exact ⟨k + 1, by omega, by omega, by go_num, ht2.out⟩
          case measure => simp [intOf]; omega
        · have j1 : (s.1.size : Int) > 200 := by omega
          have hfin := Lib.hid (short_lab hs h2)
          replace hs := Lib.hid hs
          go_wp2_with fail
          go_ret
          exact ⟨ret_bool hfin.out.symm, hbW⟩
      · have i1 : (k : Int) < (x.labs.length : Int) := by omega
        have i2 : ¬ (k : Int) < 40 := by omega
        have hkk : x.labs.length ≤ k ∨ 40 < x.labs.length := Or.inr (by omega)
        have hse := Lib.hid (short_end (x := x) ht.out hkk)
        have c2 : ¬ x.labs.length ≤ 40 := by omega
        have hfin := Lib.hid (show shortB x = false by rw [hse.out, decide_eq_false c2]; simp)
        by_cases c1 : x.id.1.size ≤ 200
        · have d1 : (x.id.1.size : Int) ≤ 200 ↔ x.id.1.size ≤ 200 := by omega
          go_wp2_with fail
          go_ret
          first
            | exact ⟨ret_bool hfin.out.symm, hbW⟩
            | exact ⟨ret_bool (by rw [hfin.out]; (try simp) <;> omega), hbW⟩
        · have d1 : (x.id.1.size : Int) ≤ 200 ↔ x.id.1.size ≤ 200 := by omega
          go_wp2_with fail
          go_ret
          first
            | exact ⟨ret_bool hfin.out.symm, hbW⟩
            | exact ⟨ret_bool (by rw [hfin.out]; (try simp) <;> omega), hbW⟩
    · have i1 : ¬ (k : Int) < (x.labs.length : Int) := by omega
      have hkk : x.labs.length ≤ k ∨ 40 < x.labs.length := Or.inl (by omega)
      have hse := Lib.hid (short_end (x := x) ht.out hkk)
      by_cases c1 : x.id.1.size ≤ 200
      · have c2 : x.labs.length ≤ 40 := by omega
        by_cases c3 : x.toks.length ≤ 80
        · have hfin := Lib.hid (show shortB x = true by rw [hse.out, decide_eq_true c1, decide_eq_true c2, decide_eq_true c3]; rfl)
          have d1 : (x.id.1.size : Int) ≤ 200 ↔ x.id.1.size ≤ 200 := by omega
          go_wp2_with fail
          go_ret
          first
            | exact ⟨ret_bool hfin.out.symm, hbW⟩
            | exact ⟨ret_bool (by rw [hfin.out]; (try simp) <;> omega), hbW⟩
        · have hfin := Lib.hid (show shortB x = false by rw [hse.out, decide_eq_false c3]; simp)
          have d1 : (x.id.1.size : Int) ≤ 200 ↔ x.id.1.size ≤ 200 := by omega
          go_wp2_with fail
          go_ret
          first
            | exact ⟨ret_bool hfin.out.symm, hbW⟩
            | exact ⟨ret_bool (by rw [hfin.out]; (try simp) <;> omega), hbW⟩
      · have hfin := Lib.hid (show shortB x = false by rw [hse.out, decide_eq_false c1]; simp)
        have d1 : (x.id.1.size : Int) ≤ 200 ↔ x.id.1.size ≤ 200 := by omega
        go_wp2_with fail
        go_ret
        first
          | exact ⟨ret_bool hfin.out.symm, hbW⟩
          | exact ⟨ret_bool (by rw [hfin.out]; (try simp) <;> omega), hbW⟩
end Go.Proofs.YtnahbfmbmpoljaaDoor
