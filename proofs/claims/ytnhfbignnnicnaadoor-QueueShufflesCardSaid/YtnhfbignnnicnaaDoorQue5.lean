/-
  The walks of the queue: the first job of a reference, by the reference and by the program.
-/
import Derived.Test.YtnhfbignnnicnaaDoorQue4



namespace Go.Proofs.YtnhfbignnnicnaaDoor
open Go.RowKit
attribute [local go_sem ↓] eq_ref

def isRef (r j : Str) (p : Pend) : Bool := refB p.run.1 p.job.1 r.1 j.1
/-- The place of the first job of a reference, -1 if there is none. -/
def findI (r j : Str) (l : List Pend) : Int := if l.findIdx (isRef r j) < l.length then (l.findIdx (isRef r j) : Int) else -1
theorem findIdx_at {α : Type} {p : α → Bool} {l : List α} {k : Nat} {x : α} (h : (l.take k).all (fun y => !p y) = true) (hx : l[k]? = some x) (hp : p x = true) : l.findIdx p = k := by
  obtain ⟨hk, rfl⟩ := List.getElem?_eq_some_iff.1 hx
  refine (List.findIdx_eq hk).2 ⟨hp, fun j hj => ?_⟩
  have := List.all_eq_true.1 h (l[j]'(by omega)) (by rw [List.mem_take_iff_getElem]; exact ⟨j, by omega, rfl⟩)
  simpa using this
theorem findI_at {r j : Str} {l : List Pend} {k : Nat} {x : Pend} (h : (l.take k).all (fun y => !isRef r j y) = true) (hx : l[k]? = some x) (hp : isRef r j x = true) : findI r j l = k := by
  have hk := (List.getElem?_eq_some_iff.1 hx).1
  unfold findI
  rw [findIdx_at h hx hp, if_pos hk]
theorem findI_none {r j : Str} {l : List Pend} (h : l.all (fun y => !isRef r j y) = true) : findI r j l = -1 := by
  unfold findI
  rw [if_neg]
  rw [List.findIdx_lt_length]
  rintro ⟨x, hx, hp⟩
  have := List.all_eq_true.1 h x hx
  rw [hp] at this; cases this

set_option maxRecDepth 100000 in
set_option maxHeartbeats 2000000 in
theorem find_any (A : Option Addr) (c : Nat) (l : List Pend) (r j : Str) (w : World) (hr : Rw pendE 10 w w.heap.size A l) (hn : l.length ≤ 9223372036854775807) :
    Calls Tryd.prog 22 #[.slice A l.length c, .agg #[.string r.1, .string j.1]] w fun e w' => e = .returned (.int .i64 (findI r j l)) ∧ Below w.heap.size w w' := by
  obtain ⟨W0, hW0⟩ : ∃ W, w.alloc (.cells #[.string r.1, .string j.1] 24) = W := ⟨_, rfl⟩
  have hb0 : Below w.heap.size w W0 := by rw [← hW0]; exact (Below.refl _ _).alloc (Nat.le_refl _) _
  have hz0 : W0.heap.size = w.heap.size + 1 := by rw [← hW0]; simp
  have b0 := box_cells w #[.string r.1, .string j.1] 24 0 (.string r.1) rfl
  have b1 := box_cells w #[.string r.1, .string j.1] 24 1 (.string j.1) rfl
  rw [hW0] at b0 b1
  replace hr := Lib.hid hr
  go_enter Tryd.func22, Tryd.ntmps22
  go_wp2_with fail
  clear hW0
  go_loopw [5] (fun vi wr => ∃ k n : Nat, k ≤ l.length ∧ vi = .int .i64 (k : Int) ∧ (l.take k).all (fun y => !isRef r j y) = true ∧ wr = W0.drewN n) (fun vi _ => l.length - (intOf vi).toNat)
  case atStart => exact ⟨0, 0, Nat.zero_le _, rfl, rfl, rfl⟩
  case round =>
    obtain ⟨k, n, hk, rfl, ht, rfl⟩ := hrel
    replace ht := Lib.hid ht
    by_cases hlt : k < l.length
    · obtain ⟨x, hx⟩ := get_some hlt
      obtain ⟨g, o, rfl, hg, q⟩ := hr.out (by omega)
      have q0 : W0.cell? ⟨g, o + k * 10, none⟩ = some (.string x.run.1) := (hb0.cell (p := ⟨g, o + k * 10, none⟩) hg).trans (q k x hx 0 (.string x.run.1) rfl)
      have q1 : W0.cell? ⟨g, o + k * 10 + 1, none⟩ = some (.string x.job.1) := (hb0.cell (p := ⟨g, o + k * 10 + 1, none⟩) hg).trans (q k x hx 1 (.string x.job.1) rfl)
      clear q
      have i0 : (0 : Int) ≤ (k : Int) := by omega
      have i1 : (k : Int) < (l.length : Int) := by omega
      rcases hs : refB x.run.1 x.job.1 r.1 j.1 with _ | _
      · replace hx := Lib.hid hx
        go_wp2_with fail
        go_quiet (fail)
        go_wp2_with fail
        go_roundw
        case rel => exact ⟨k + 1, _, by omega, by go_num, by rw [List.take_add_one, hx.out, List.all_append, ht.out]; simp [isRef, hs], by first | rfl | exact World.drewN_drewN _ _ _⟩
        case measure => simp [intOf]; omega
      · have hf : Hid (findI r j l = k) := Lib.hid (findI_at ht.out hx hs)
        replace hx := Lib.hid hx
        go_wp2_with fail
        go_quiet (fail)
        go_wp2_with fail
        go_ret
        exact ⟨ret_int hf.out.symm, below_drewN (below_drewN hb0 _) _⟩
    · have i1 : ¬ (k : Int) < (l.length : Int) := by omega
      have hf : Hid (findI r j l = -1) := Lib.hid (findI_none (by have := ht.out; rwa [List.take_of_length_le (by omega)] at this))
      go_wp2_with fail
      go_ret
      exact ⟨ret_int hf.out.symm, below_drewN hb0 _⟩

theorem at1_any (p : Pend) (r j : Str) (b : Nat) (w : World) (h0 : w.cell? ⟨b, 0, none⟩ = some (.string r.1)) (h1 : w.cell? ⟨b, 1, none⟩ = some (.string j.1)) :
    Calls Tryd.prog 47 #[.agg #[.string p.run.1, .string p.job.1, .string p.proj.1, .int .i64 p.prio.1, .int .i64 p.since.1, .int .i64 p.cost.1, .slice p.labsA p.labs.length p.labsC, .int .i64 p.trust.1, .string p.group.1, .int .i64 p.policy.1], .pointer (some ⟨b, 0, none⟩)] w fun e w' => e = .returned (.bool (isRef r j p)) ∧ Below w.heap.size w w' := by
  have hb := World.block_lt_of_cell? _ _ h0
  have hb' : b < w.heap.size := hb
  go_enter Tryd.func47, Tryd.ntmps47
  go_wp2_with fail
  go_ret
  exact ⟨rfl, (by repeat (first | (with_reducible exact Below.refl _ _) | (with_reducible refine Below.drew ?_) | (with_reducible refine below_drewN ?_ _) | ((with_reducible refine Below.alloc ?_ ?_ _); rotate_left; focus ((try simp) <;> omega)) | ((with_reducible refine Below.setCell ?_ ?_ _); rotate_left; focus ((try simp) <;> omega)) | ((with_reducible refine Below.trans ?_ (Below.mono (by assumption) ?_)); rotate_left; focus ((try simp) <;> omega))))⟩

set_option maxRecDepth 100000 in
set_option maxHeartbeats 2000000 in
theorem index_any (A : Option Addr) (c : Nat) (l : List Pend) (r j : Str) (b : Nat) (w : World) (hr : Rw pendE 10 w w.heap.size A l) (hn : l.length ≤ 9223372036854775807) (h0 : w.cell? ⟨b, 0, none⟩ = some (.string r.1)) (h1 : w.cell? ⟨b, 1, none⟩ = some (.string j.1)) :
    Calls Tryd.prog 46 #[.slice A l.length c, .func (.func 47) #[] #[.pointer (some ⟨b, 0, none⟩)]] w fun e w' => e = .returned (.int .i64 (findI r j l)) ∧ Below w.heap.size w w' := by
  have hb : b < w.heap.size := World.block_lt_of_cell? _ _ h0
  obtain ⟨H, hH⟩ : ∃ H, w.heap.size = H := ⟨_, rfl⟩
  rw [hH] at hr hb ⊢
  have hH2 := Nat.le_of_eq hH
  have hH3 := Nat.le_of_eq hH.symm
  replace hH := Lib.hid hH
  replace hr := Lib.hid hr
  replace h0 := Lib.hid h0
  replace h1 := Lib.hid h1
  have e47 : ∀ args w, (callFunc 47 args).run Tryd.prog w = .ok (.enter 47 args) w := enters_of Tryd.func47 (by kernel_rfl) rfl
  go_enter Tryd.func46, Tryd.ntmps46
  go_wp2_with fail
  go_loopw [8] (fun vi wr => ∃ k : Nat, k ≤ l.length ∧ vi = .int .i64 (k : Int) ∧ (l.take k).all (fun y => !isRef r j y) = true ∧ Below H w wr) (fun vi _ => l.length - (intOf vi).toNat)
  case atStart => exact ⟨0, Nat.zero_le _, rfl, rfl, Below.refl _ _⟩
  case round =>
    obtain ⟨k, hk, rfl, ht, hbw⟩ := hrel
    have hz := hbw.size
    replace ht := Lib.hid ht
    by_cases hlt : k < l.length
    · obtain ⟨x, hx⟩ := get_some hlt
      obtain ⟨g, o, rfl, hg, q⟩ := hr.out (by omega)
      replace q := fun j u hu => (hbw.cell (p := ⟨g, o + k * 10 + j, none⟩) hg).trans (q k x hx j u hu)
      have q0 := q 0 (.string x.run.1) rfl
      try rw [Nat.add_zero] at q0
      have q1 := q 1 (.string x.job.1) rfl
      have q2 := q 2 (.string x.proj.1) rfl
      have q3 := q 3 (.int .i64 x.prio.1) rfl
      have q4 := q 4 (.int .i64 x.since.1) rfl
      have q5 := q 5 (.int .i64 x.cost.1) rfl
      have q6 := q 6 (.slice x.labsA x.labs.length x.labsC) rfl
      have q7 := q 7 (.int .i64 x.trust.1) rfl
      have q8 := q 8 (.string x.group.1) rfl
      have q9 := q 9 (.int .i64 x.policy.1) rfl
      clear q
      have hcall : Hid (∀ W, W = wr → Calls Tryd.prog 47 #[.agg #[.string x.run.1, .string x.job.1, .string x.proj.1, .int .i64 x.prio.1, .int .i64 x.since.1, .int .i64 x.cost.1, .slice x.labsA x.labs.length x.labsC, .int .i64 x.trust.1, .string x.group.1, .int .i64 x.policy.1], .pointer (some ⟨b, 0, none⟩)] W fun e w' => e = .returned (.bool (isRef r j x)) ∧ Below W.heap.size W w') := Lib.hid fun W e => by
        subst e
        exact at1_any x r j b W ((hbw.cell (p := ⟨b, 0, none⟩) hb).trans h0.out) ((hbw.cell (p := ⟨b, 1, none⟩) hb).trans h1.out)
      have i0 : (0 : Int) ≤ (k : Int) := by omega
      have i1 : (k : Int) < (l.length : Int) := by omega
      rcases hs : isRef r j x with _ | _
      · replace hx := Lib.hid hx
        go_wp2_with (go_at_fn 47; go_must (refine (hcall.out _ rfl).mono ?_; rw [hs]; rintro e w2 ⟨rfl, hb2⟩; have hz2 := hb2.size))
        go_roundw
        case rel => exact ⟨k + 1, by omega, by go_num, by rw [List.take_add_one, hx.out, List.all_append, ht.out]; simp [hs], hbw.trans (hb2.mono (by omega))⟩
        case measure => simp [intOf]; omega
      · have hf : Hid (findI r j l = k) := Lib.hid (findI_at ht.out hx hs)
        replace hx := Lib.hid hx
        go_wp2_with (go_at_fn 47; go_must (refine (hcall.out _ rfl).mono ?_; rw [hs]; rintro e w2 ⟨rfl, hb2⟩; have hz2 := hb2.size))
        go_ret
        exact ⟨ret_int hf.out.symm, hbw.trans (hb2.mono (by omega))⟩
    · have i1 : ¬ (k : Int) < (l.length : Int) := by omega
      have hf : Hid (findI r j l = -1) := Lib.hid (findI_none (by have := ht.out; rwa [List.take_of_length_le (by omega)] at this))
      go_wp2_with fail
      go_ret
      exact ⟨ret_int hf.out.symm, hbw⟩

set_option maxHeartbeats 1000000 in
theorem at_any (A : Option Addr) (c : Nat) (l : List Pend) (r j : Str) (w : World) (hr : Rw pendE 10 w w.heap.size A l) (hn : l.length ≤ 9223372036854775807) :
    Calls Tryd.prog 30 #[.slice A l.length c, .agg #[.string r.1, .string j.1]] w fun e w' => e = .returned (.int .i64 (findI r j l)) ∧ Below w.heap.size w w' := by
  have b0 := box_cells w #[.string r.1, .string j.1] 24 0 (.string r.1) rfl
  have b1 := box_cells w #[.string r.1, .string j.1] 24 1 (.string j.1) rfl
  have h := index_any A c l r j w.heap.size (w.alloc (.cells #[.string r.1, .string j.1] 24)) ((hr.alloc (Nat.le_refl _) _).more (by simp)) hn b0 b1
  replace h := Lib.hid h
  clear b0 b1 hr
  go_enter Tryd.func30, Tryd.ntmps30
  go_wp2_with (go_at_call 46; go_must (refine h.out.mono ?_; rintro e w2 ⟨rfl, hb2⟩))
  go_ret
  exact ⟨rfl, ((Below.refl _ _).alloc (Nat.le_refl _) _).trans (hb2.mono (by simp))⟩
end Go.Proofs.YtnhfbignnnicnaaDoor
