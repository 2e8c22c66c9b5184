/-
  The walks of groups: a job taken out of a list of the call's own, in place.
-/
import Derived.Test.YtbellobjajnlkaaDoorCon9
import Derived.Test.YtbellobjajnlkaaDoorCon10


namespace Go.Proofs.YtbellobjajnlkaaDoor
open Go.RowKit
attribute [local go_sem ↓] eq_ref ne_ref

/-- A list without a job. -/
def outR (l : List JRef) (r : JRef) : List JRef := l.filter fun x => decide (x ≠ r)
theorem outR_len (l : List JRef) (r : JRef) : (outR l r).length ≤ l.length := List.length_filter_le _ _
theorem outR_snoc (l : List JRef) (x r : JRef) : outR (l ++ [x]) r = outR l r ++ if x = r then [] else [x] := by
  unfold outR
  rw [List.filter_append]
  congr 1
  by_cases h : x = r <;> simp [h]
theorem outR_same {l : List JRef} {r : JRef} (h : ∀ j y, j < l.length → l[j]? = some y → y ≠ r) : outR l r = l := by
  unfold outR
  rw [List.filter_eq_self]
  intro x hx
  obtain ⟨j, hj⟩ := List.getElem?_of_mem hx
  exact decide_eq_true (h j x (List.getElem?_eq_some_iff.1 hj).1 hj)
theorem take_at {α : Type} {l : List α} {k : Nat} {x : α} (h : l[k]? = some x) : l.take (k + 1) = l.take k ++ [x] := by
  rw [List.take_add_one, h]
  rfl
theorem leave1_any (x r : JRef) (b : Nat) (w : World) (b0 : w.cell? ⟨b, 0, none⟩ = some (.string r.run.1)) (b1 : w.cell? ⟨b, 1, none⟩ = some (.string r.job.1)) :
    Calls Tryd.prog 49 #[.agg #[.string x.run.1, .string x.job.1], .pointer (some ⟨b, 0, none⟩)] w fun e w' => e = .returned (.bool (decide (x = r))) ∧ Below w.heap.size w w' := by
  have hlt := World.block_lt_of_cell? _ _ b0
  simp only at hlt
  have ne1 : b ≠ w.heap.size := by omega
  have ne2 : w.heap.size ≠ b := by omega
  have hq := refB_iff x.run x.job r.run r.job
  obtain ⟨D, hD⟩ : ∃ D, decide (x = r) = D := ⟨_, rfl⟩
  have hs : refB x.run.1 x.job.1 r.run.1 r.job.1 = D := hq.trans hD
  rw [hD]
  clear hq
  replace hD := Lib.hid hD
  go_enter Tryd.func49, Tryd.ntmps49
  go_wp2_with fail
  go_ret
  exact ⟨rfl, (by repeat (first | (with_reducible exact Below.refl _ _) | (with_reducible refine Below.drew ?_) | (with_reducible refine below_drewN ?_ _) | ((with_reducible refine Below.alloc ?_ ?_ _); rotate_left; focus ((try simp) <;> omega)) | ((with_reducible refine Below.setCell ?_ ?_ _); rotate_left; focus ((try simp) <;> omega)) | ((with_reducible refine Below.trans ?_ (Below.mono (by assumption) ?_)); rotate_left; focus ((try simp) <;> omega))))⟩
set_option maxRecDepth 100000 in
set_option maxHeartbeats 2000000 in
theorem idxf_any (A : Option Addr) (c : Nat) (l : List JRef) (r : JRef) (b : Nat) (w : World) (hr : Rw jRefE 2 w w.heap.size A l) (hn : l.length ≤ 9223372036854775807) (hb0 : w.cell? ⟨b, 0, none⟩ = some (.string r.run.1)) (hb1 : w.cell? ⟨b, 1, none⟩ = some (.string r.job.1)) :
    Calls Tryd.prog 66 #[.slice A l.length c, .func (.func 49) #[] #[.pointer (some ⟨b, 0, none⟩)]] w fun e w' => e = .returned (.int .i64 (idxI l r)) ∧ Below w.heap.size w w' := by
  have e45 : ∀ args w, (callFunc 49 args).run Tryd.prog w = .ok (.enter 49 args) w := enters_of Tryd.func49 (by kernel_rfl) rfl
  have hlt := World.block_lt_of_cell? _ _ hb0
  simp only at hlt
  have hcl0 : ∀ (x : JRef) W, Below w.heap.size w W → Calls Tryd.prog 49 #[.agg #[.string x.run.1, .string x.job.1], .pointer (some ⟨b, 0, none⟩)] W fun e w' => e = .returned (.bool (decide (x = r))) ∧ Below W.heap.size W w' := fun x W hb => leave1_any x r b W ((hb.cell (p := ⟨b, 0, none⟩) hlt).trans hb0) ((hb.cell (p := ⟨b, 1, none⟩) hlt).trans hb1)
  replace hr := Lib.hid hr
  obtain ⟨R, hR⟩ : ∃ R, idxI l r = R := ⟨_, rfl⟩
  rw [hR]
  replace hR := Lib.hid hR
  clear hb0 hb1
  go_enter Tryd.func66, Tryd.ntmps66
  go_wp2_with fail
  go_loopw [5, 8] (fun _ vi wr => ∃ k : Nat, k ≤ l.length ∧ vi = .int .i64 (k : Int) ∧ (∀ j y, j < k → l[j]? = some y → y ≠ r) ∧ Below w.heap.size w wr) (fun _ vi _ => l.length - (intOf vi).toNat)
  case atStart => exact ⟨0, Nat.zero_le _, rfl, fun j y hj => absurd hj (by omega), Below.refl _ _⟩
  case round =>
    obtain ⟨k, hk, rfl, ht, hbw⟩ := hrel
    have hz := hbw.size
    replace ht := Lib.hid ht
    by_cases hkl : k < l.length
    · obtain ⟨x, hx⟩ := get_some hkl
      obtain ⟨g, o, rfl, hg, q⟩ := hr.out (by omega)
      have q0 : wr.cell? ⟨g, o + k * 2, none⟩ = some (.string x.run.1) := (hbw.cell (p := ⟨g, o + k * 2, none⟩) hg).trans (q k x hx 0 (.string x.run.1) rfl)
      have q1 : wr.cell? ⟨g, o + k * 2 + 1, none⟩ = some (.string x.job.1) := (hbw.cell (p := ⟨g, o + k * 2 + 1, none⟩) hg).trans (q k x hx 1 (.string x.job.1) rfl)
      clear q
      have i0 : (0 : Int) ≤ (k : Int) := by omega
      have i1 : (k : Int) < (l.length : Int) := by omega
      have hcx := hcl0 x
      by_cases he : x = r
      · have hf : Hid (R = (k : Int)) := Lib.hid (by rw [← hR.out]; subst he; exact idx_at ht.out hx)
        rw [decide_eq_true he] at hcx
        have hcl := Lib.hid hcx
        clear hcx
        replace hx := Lib.hid hx
        replace he := Lib.hid he
        go_wp2_with (go_at_fn 49; go_must (refine (hcl.out _ (by repeat (first | (with_reducible exact Below.refl _ _) | (with_reducible refine Below.drew ?_) | (with_reducible refine below_drewN ?_ _) | ((with_reducible refine Below.alloc ?_ ?_ _); rotate_left; focus ((try simp) <;> omega)) | ((with_reducible refine Below.setCell ?_ ?_ _); rotate_left; focus ((try simp) <;> omega)) | ((with_reducible refine Below.trans ?_ (Below.mono (by assumption) ?_)); rotate_left; focus ((try simp) <;> omega))))).mono ?_; rintro e w2 ⟨rfl, hb2⟩; have hz2 := hb2.size; (try simp at hz2)))
        go_ret
        exact ⟨by rw [hf.out]; rfl, (by repeat (first | (with_reducible exact Below.refl _ _) | (with_reducible refine Below.drew ?_) | (with_reducible refine below_drewN ?_ _) | ((with_reducible refine Below.alloc ?_ ?_ _); rotate_left; focus ((try simp) <;> omega)) | ((with_reducible refine Below.setCell ?_ ?_ _); rotate_left; focus ((try simp) <;> omega)) | ((with_reducible refine Below.trans ?_ (Below.mono (by assumption) ?_)); rotate_left; focus ((try simp) <;> omega))))⟩
      · have hn2 : Hid (∀ j y, j < k + 1 → l[j]? = some y → y ≠ r) := Lib.hid fun j y hj hy => by
          by_cases e : j = k
          · subst e
            rw [hx] at hy
            obtain rfl : x = y := by simpa using hy
            exact he
          · exact ht.out j y (by omega) hy
        rw [decide_eq_false he] at hcx
        have hcl := Lib.hid hcx
        clear hcx
        replace hx := Lib.hid hx
        replace he := Lib.hid he
        go_wp2_with (go_at_fn 49; go_must (refine (hcl.out _ (by repeat (first | (with_reducible exact Below.refl _ _) | (with_reducible refine Below.drew ?_) | (with_reducible refine below_drewN ?_ _) | ((with_reducible refine Below.alloc ?_ ?_ _); rotate_left; focus ((try simp) <;> omega)) | ((with_reducible refine Below.setCell ?_ ?_ _); rotate_left; focus ((try simp) <;> omega)) | ((with_reducible refine Below.trans ?_ (Below.mono (by assumption) ?_)); rotate_left; focus ((try simp) <;> omega))))).mono ?_; rintro e w2 ⟨rfl, hb2⟩; have hz2 := hb2.size; (try simp at hz2)))
        go_roundw
        case rel => exact ⟨k + 1, by omega, by go_num, hn2.out, (by repeat (first | (with_reducible exact Below.refl _ _) | (with_reducible refine Below.drew ?_) | (with_reducible refine below_drewN ?_ _) | ((with_reducible refine Below.alloc ?_ ?_ _); rotate_left; focus ((try simp) <;> omega)) | ((with_reducible refine Below.setCell ?_ ?_ _); rotate_left; focus ((try simp) <;> omega)) | ((with_reducible refine Below.trans ?_ (Below.mono (by assumption) ?_)); rotate_left; focus ((try simp) <;> omega))))⟩
        case measure => simp [intOf]; omega
    · have i1 : ¬ (k : Int) < (l.length : Int) := by omega
      have hf : Hid (R = -1) := Lib.hid (by rw [← hR.out]; exact idx_no fun j y hj hy => ht.out j y (by omega) hy)
      go_wp2_with fail
      go_ret
      exact ⟨by rw [hf.out]; rfl, hbw⟩

/-! The rest of the list is cleared. -/
theorem run_clear_refs (w : World) (ty : TypeId) (b o n c : Nat) (hn : 0 < n) (hc : ∀ j, j < n * 2 → (w.cell? ⟨b, o + j, none⟩).isSome = true) (hf : ∀ j, j < n * 2 → w.frozen? ⟨b, o + j, none⟩ = false) :
    (Builtin.clear_ #[33] ty #[.slice (some ⟨b, o, none⟩) n c]).run Tryd.prog w = .ok (.tuple #[]) (w.setCells b o (List.replicate (n * 2) (.string ⟨#[]⟩))) := by
  have hst := run_storeCells_cells (P := Tryd.prog) b o (List.replicate (n * 2) (.string ⟨#[]⟩)) 0 w (by simpa using hc) (by simpa using hf) (by intro v hv; rw [List.eq_of_mem_replicate hv]; rfl)
  simp only [Nat.add_zero] at hst
  have hz : (Builtin.zeroCells (Value.agg #[.string ⟨#[]⟩, .string ⟨#[]⟩]).cells n).toList = List.replicate (n * 2) (.string ⟨#[]⟩) := by
    show (Builtin.zeroCells #[.string ⟨#[]⟩, .string ⟨#[]⟩] n).toList = _
    simp only [Builtin.zeroCells]
    apply List.ext_getElem
    · simp
    · intro i h1 h2
      simp only [List.getElem_replicate]
      have : i % 2 = 0 ∨ i % 2 = 1 := by omega
      rcases this with h | h <;> simp [h]
  obtain ⟨m, rfl⟩ : ∃ m, n = m + 1 := ⟨n - 1, by omega⟩
  simp [Builtin.clear_, run_underlying Tryd.underlying33, Tryd.zeroValue29, hz, hst]
theorem But.setCells {B : Nat} {a : World} (g : Nat) : ∀ (vs : List Value) (o : Nat) (w : World), But B (some g) a w → But B (some g) a (w.setCells g o vs)
  | [], _, _, h => h
  | v :: r, o, w, h => by
    rw [World.setCells]
    exact But.setCells g r (o + 1) _ ⟨by rw [World.size_setCell]; exact h.size, fun k hk hn => (Below.heap_setCell w ⟨g, o, none⟩ v k (fun e => hn (by rw [e]))).trans (h.block k hk hn)⟩
/-- A longer row cut to its beginning, the rest rewritten. -/
theorem own_cut {w : World} {H g cap : Nat} {l r : List JRef} (hown : Own jRefE 2 29 w H (.slice (some ⟨g, 0, none⟩) l.length cap) l) (hr : l.take r.length = r) (vs : List Value) :
    Own jRefE 2 29 (w.setCells g (r.length * 2) vs) H (.slice (some ⟨g, 0, none⟩) r.length cap) r := by
  obtain ⟨hH, hlc, hm, cur, hg, hs⟩ := own_block hown
  obtain ⟨c1, h1, s1⟩ := setCells_block (b := g) vs (r.length * 2) w cur hg
  have hle : r.length ≤ l.length := by rw [← hr, List.length_take]; omega
  refine own_of_cells jRefE_len hH h1 (by omega) (by omega) hm ?_
  intro t u hu
  have ht := (List.getElem?_eq_some_iff.1 hu).1
  rw [flat_len jRefE_len] at ht
  rw [World.cell?_setCells_out g _ _ _ _ (fun _ _ => by show t < _ ∨ _; omega)]
  have h2 : (l.flatMap jRefE)[t]? = some u := by
    have : l = r ++ l.drop r.length := by rw [← hr, List.length_take, Nat.min_eq_left hle, List.take_append_drop]
    rw [this, List.flatMap_append, List.getElem?_append_left (by rw [flat_len jRefE_len]; exact ht)]
    exact hu
  rw [hown.cellAt t (by omega)]
  exact h2
end Go.Proofs.YtbellobjajnlkaaDoor
