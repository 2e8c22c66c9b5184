/-
  The walks of histories: whether arguments are small; the laws' example.
-/
import Derived.Test.YtddepmelnemniaaDoorHis29


namespace Go.Proofs.YtddepmelnemniaaDoor
open Go.RowKit

def smallX (x : Hst) : Bool := decide (x.l.length ≤ 40) && decide (x.name.1.size ≤ 1000)
def smallB (l : List Hst) : Bool := decide (l.length ≤ 40) && l.all smallX
def fewX (x : Res) : Bool := decide (x.name.1.size ≤ 1000)
def fewB (l : List Res) : Bool := decide (l.length ≤ 40) && l.all fewX
theorem all_no {α : Type} {l : List α} {k : Nat} {x : α} {f : α → Bool} (h : l[k]? = some x) (hf : f x = false) : l.all f = false := by
  rw [Bool.eq_false_iff]
  intro e
  have := List.all_eq_true.1 e x (List.mem_of_getElem? h)
  rw [hf] at this; cases this
theorem all_next {α : Type} {l : List α} {k : Nat} {x : α} {f : α → Bool} (h : l[k]? = some x) (h0 : (l.take k).all f = true) (hf : f x = true) : (l.take (k + 1)).all f = true := by
  rw [List.take_add_one, h, List.all_append, h0]
  simp [hf]
theorem small_mild {l : List Hst} (h : smallB l = true) : MildH l ∧ l.length ≤ 40 ∧ ∀ x ∈ l, x.l.length ≤ 40 := by
  unfold smallB at h
  rw [Bool.and_eq_true, decide_eq_true_eq, List.all_eq_true] at h
  have h2 : ∀ x ∈ l, x.l.length ≤ 40 ∧ x.name.1.size ≤ 1000 := fun x hx => by
    have := h.2 x hx
    unfold smallX at this
    rwa [Bool.and_eq_true, decide_eq_true_eq, decide_eq_true_eq] at this
  exact ⟨⟨by omega, fun x hx => by have := (h2 x hx).1; omega, fun x hx => by have := (h2 x hx).2; omega⟩, h.1, fun x hx => (h2 x hx).1⟩
theorem few_mild {l : List Res} (h : fewB l = true) : l.length ≤ 40 ∧ ∀ x ∈ l, x.name.1.size < 4294967281 := by
  unfold fewB at h
  rw [Bool.and_eq_true, decide_eq_true_eq, List.all_eq_true] at h
  refine ⟨h.1, fun x hx => ?_⟩
  have := h.2 x hx
  unfold fewX at this
  rw [decide_eq_true_eq] at this
  omega

/-! The laws' example. -/
def tS : Str := ⟨⟨#[116]⟩, by decide⟩
def oneR : Res := ⟨tS, ⟨2, by omega⟩, ⟨7, by omega⟩⟩
def oneS : Samp := ⟨⟨5, by omega⟩, ⟨2, by omega⟩, ⟨7, by omega⟩, ⟨100, by omega⟩⟩
theorem one_err : addErr [] [oneR] 100 = 0 := by decide +kernel
theorem one_add : addL [] [oneR] ⟨5, by omega⟩ ⟨100, by omega⟩ = [⟨tS, [oneS]⟩] := by decide +kernel
theorem one_find : findH [⟨tS, [oneS]⟩] tS = some ⟨tS, [oneS]⟩ := by decide +kernel
theorem one_time : timeI [oneS] = 7 := by decide +kernel
theorem one_rate : rateI [oneS] = 1000 := by decide +kernel
theorem one_times : (timesL [⟨tS, [oneS]⟩]).length = 1 := by decide +kernel
theorem rw_res {w : World} {g B : Nat} {x : Res} (hg : g = w.heap.size) (hB : g < B) : Rw resE 3 (w.alloc (.cells #[.string x.name.1, .int .i64 x.status.1, .int .i64 x.time.1] 35)) B (some ⟨g, 0, none⟩) [x] := by
  subst hg
  refine fun _ => ⟨_, 0, rfl, hB, fun i y hy j u hu => ?_⟩
  match i, hy with
  | 0, hy =>
    obtain rfl : x = y := by simpa using hy
    match j, hu with
    | 0, hu => obtain rfl : Value.string x.name.1 = u := by simpa [resE] using hu
               exact box_cells w _ _ 0 _ rfl
    | 1, hu => obtain rfl : Value.int .i64 x.status.1 = u := by simpa [resE] using hu
               exact box_cells w _ _ 1 _ rfl
    | 2, hu => obtain rfl : Value.int .i64 x.time.1 = u := by simpa [resE] using hu
               exact box_cells w _ _ 2 _ rfl
    | j + 3, hu => simp [resE] at hu
  | i + 1, hy => simp at hy
attribute [local go_sem ↓] eq_samp
set_option maxRecDepth 100000 in
set_option maxHeartbeats 8000000 in
theorem lives_any (w : World) (hG : Glob w) :
    Calls Tryd.prog 4 #[] w fun e w' => e = .returned (.bool true) ∧ Below w.heap.size w w' := by
  have hmn : MildH [] := ⟨Nat.zero_le _, (fun _ h => absurd h List.not_mem_nil), (fun _ h => absurd h List.not_mem_nil)⟩
  have had : Hid (∀ W, Below w.heap.size w W → Calls Tryd.prog 8 #[.slice none 0 0, .slice (some ⟨W.heap.size, 0, none⟩) 1 1, .int .u64 5, .int .i64 100] (W.alloc (.cells #[.string ⟨#[116]⟩, .int .i64 2, .int .i64 7] 35)) fun e w' => ∃ (A' : Option Addr) (c' : Nat) (x : Hst), e = .returned (.tuple #[.slice A' 1 c', .int .i64 0]) ∧ RwH w' w'.heap.size A' [x] ∧ x.h = ⟨tS, [oneS]⟩ ∧ Below w.heap.size w w') := Lib.hid fun W hb => by
    have hb2 : Below w.heap.size w (W.alloc (.cells #[.string ⟨#[116]⟩, .int .i64 2, .int .i64 7] 35)) := hb.alloc hb.size _
    have h := add_any none 0 [] (some ⟨W.heap.size, 0, none⟩) 1 [oneR] ⟨5, by omega⟩ ⟨100, by omega⟩ (W.alloc (.cells #[.string ⟨#[116]⟩, .int .i64 2, .int .i64 7] 35)) RwH.nil (rw_res (x := oneR) rfl (by simp)) hmn (by simp) (fun x hx => by obtain rfl := List.mem_singleton.1 hx; decide) (hG.keep hb2)
    refine h.mono ?_
    rintro e w' ⟨A', c', l', rfl, h1, h2, h3, h4⟩
    have h3' : l'.map Hst.h = [⟨tS, [oneS]⟩] := h3.trans one_add
    obtain ⟨x, rfl, hx⟩ := List.map_eq_singleton_iff.1 h3'
    refine ⟨A', c', x, ?_, h1, hx, hb2.trans (h4.mono hb2.size)⟩
    rw [show addErr (List.map Hst.h []) [oneR] (100 : Int) = 0 from one_err]
    rfl
  have hfd : Hid (∀ (W0 W : World) (A : Option Addr) (c : Nat) (x : Hst), RwH W0 W0.heap.size A [x] → x.h = ⟨tS, [oneS]⟩ → Below W0.heap.size W0 W → Calls Tryd.prog 9 #[.slice A 1 c, .string ⟨#[116]⟩] W fun e w' => ∃ (g o c' : Nat), e = .returned (.tuple #[.agg #[.string ⟨#[116]⟩, .slice (some ⟨g, o, none⟩) 1 c'], .bool true]) ∧ Rw sampE 4 w' w'.heap.size (some ⟨g, o, none⟩) [oneS] ∧ 1 ≤ c' ∧ c' ≤ maxLen ∧ g < w'.heap.size ∧ Below W.heap.size W w') := Lib.hid fun W0 W A c x h1 h2 hb => by
    have hl : x.l = [oneS] := congrArg Hs.l h2
    have h := findh_any A c [x] tS W ((h1.below hb (Nat.le_refl _)).more hb.size) (by simp) (fun y hy => by obtain rfl := List.mem_singleton.1 hy; rw [hl]; simp)
    refine h.mono ?_
    rintro e w' ⟨o, rfl, h3, h4, h5⟩
    rw [show List.map Hst.h [x] = [⟨tS, [oneS]⟩] by rw [List.map_cons, h2]; rfl, one_find] at h3
    match o, h3 with
    | some y, h3 =>
      have h3' : y.h = ⟨tS, [oneS]⟩ := by simpa using h3
      have hyn : y.name = tS := congrArg Hs.name h3'
      have hyl : y.l = [oneS] := congrArg Hs.l h3'
      obtain ⟨k1, k2, k3⟩ := h4 y rfl
      rw [hyl] at k1 k3
      obtain ⟨g, oo, e1, e2, _⟩ := k3 (by simp)
      rw [e1] at k3
      refine ⟨g, oo, y.lC, ?_, k3, k1, k2, e2, h5⟩
      show Ending.returned (.tuple #[.agg #[.string y.name.1, .slice y.lA y.l.length y.lC], .bool true]) = _
      rw [hyn, hyl, e1]
      rfl
  have hti : Hid (∀ (W0 W : World) (g o c : Nat), Rw sampE 4 W0 W0.heap.size (some ⟨g, o, none⟩) [oneS] → 1 ≤ c → c ≤ maxLen → Below W0.heap.size W0 W → Calls Tryd.prog 6 #[.agg #[.string ⟨#[116]⟩, .slice (some ⟨g, o, none⟩) 1 c]] W fun e w' => e = .returned (.int .i64 7) ∧ Below W.heap.size W w') := Lib.hid fun W0 W g o c h1 h2 h3 hb => by
    have h := timeof_any ⟨tS, some ⟨g, o, none⟩, c, [oneS]⟩ W ⟨h2, h3, (h1.below hb (Nat.le_refl _)).more hb.size⟩ (by simp)
    rw [one_time] at h
    exact h
  have hra : Hid (∀ (W0 W : World) (g o c : Nat), Rw sampE 4 W0 W0.heap.size (some ⟨g, o, none⟩) [oneS] → 1 ≤ c → c ≤ maxLen → Below W0.heap.size W0 W → Calls Tryd.prog 7 #[.agg #[.string ⟨#[116]⟩, .slice (some ⟨g, o, none⟩) 1 c]] W fun e w' => e = .returned (.int .i64 1000) ∧ Below W.heap.size W w') := Lib.hid fun W0 W g o c h1 h2 h3 hb => by
    have h := rate_any ⟨tS, some ⟨g, o, none⟩, c, [oneS]⟩ W ⟨h2, h3, (h1.below hb (Nat.le_refl _)).more hb.size⟩ (by simp)
    rw [one_rate] at h
    exact h
  have hts : Hid (∀ (W0 W : World) (A : Option Addr) (c : Nat) (x : Hst), RwH W0 W0.heap.size A [x] → x.h = ⟨tS, [oneS]⟩ → Below W0.heap.size W0 W → Calls Tryd.prog 10 #[.slice A 1 c] W fun e w' => ∃ A' c', e = .returned (.slice A' 1 c') ∧ Below W.heap.size W w') := Lib.hid fun W0 W A c x h1 h2 hb => by
    have hl : x.l = [oneS] := congrArg Hs.l h2
    have h := times_any A c [x] W ((h1.below hb (Nat.le_refl _)).more hb.size) (by simp) (fun y hy => by obtain rfl := List.mem_singleton.1 hy; rw [hl]; simp)
    refine h.mono ?_
    rintro e w' ⟨A', c', L, rfl, h3, _, _, h5⟩
    rw [show List.map Hst.h [x] = [⟨tS, [oneS]⟩] by rw [List.map_cons, h2]; rfl] at h3
    exact ⟨A', c', by rw [h3, one_times], h5⟩
  clear hmn
  go_enter Tryd.func4, Tryd.ntmps4
  go_wp2_with (first
    | (go_at_call 8; go_must (refine (had.out _ (by repeat (first | (with_reducible exact Below.refl _ _) | (with_reducible refine Below.drew ?_) | (with_reducible refine below_drewN ?_ _) | ((with_reducible refine Below.alloc ?_ ?_ _); rotate_left; focus ((try simp) <;> omega)) | ((with_reducible refine Below.setCell ?_ ?_ _); rotate_left; focus ((try simp) <;> omega)) | ((with_reducible refine Below.trans ?_ (Below.mono (by assumption) ?_)); rotate_left; focus ((try simp) <;> omega))))).mono ?_; rintro e w1 ⟨A1, c1, x1, rfl, hr1, hx1, hb1⟩; have hz1 := hb1.size; (try simp at hz1); replace hr1 := Lib.hid hr1; replace hx1 := Lib.hid hx1))
    | (go_at_call 9; go_must (refine (hfd.out w1 _ A1 c1 x1 hr1.out hx1.out (by repeat (first | (with_reducible exact Below.refl _ _) | (with_reducible refine Below.drew ?_) | (with_reducible refine below_drewN ?_ _) | ((with_reducible refine Below.alloc ?_ ?_ _); rotate_left; focus ((try simp) <;> omega)) | ((with_reducible refine Below.setCell ?_ ?_ _); rotate_left; focus ((try simp) <;> omega)) | ((with_reducible refine Below.trans ?_ (Below.mono (by assumption) ?_)); rotate_left; focus ((try simp) <;> omega))))).mono ?_; rintro e w2 ⟨g2, o2, c2, rfl, hr2, hc2, hm2, hg2, hb2⟩; have hz2 := hb2.size; (try simp at hz2); have q := (by obtain ⟨g', o', e', _, q⟩ := hr2 (by simp); simp only [Option.some.injEq, Addr.mk.injEq] at e'; obtain ⟨rfl, rfl, _⟩ := e'; exact q 0 oneS rfl : ∀ j u, (sampE oneS)[j]? = some u → w2.cell? ⟨g2, o2 + 0 * 4 + j, none⟩ = some u); have q0 := q 0 (.int .u64 5) rfl; have q1 := q 1 (.int .i64 2) rfl; have q2 := q 2 (.int .i64 7) rfl; have q3 := q 3 (.int .i64 100) rfl; clear q; simp only [Nat.zero_mul, Nat.add_zero] at q0 q1 q2 q3; replace hr2 := Lib.hid hr2))
    | (go_at_call 6; go_must (refine (hti.out w2 _ g2 o2 c2 hr2.out hc2 hm2 (by repeat (first | (with_reducible exact Below.refl _ _) | (with_reducible refine Below.drew ?_) | (with_reducible refine below_drewN ?_ _) | ((with_reducible refine Below.alloc ?_ ?_ _); rotate_left; focus ((try simp) <;> omega)) | ((with_reducible refine Below.setCell ?_ ?_ _); rotate_left; focus ((try simp) <;> omega)) | ((with_reducible refine Below.trans ?_ (Below.mono (by assumption) ?_)); rotate_left; focus ((try simp) <;> omega))))).mono ?_; rintro e w3 ⟨rfl, hb3⟩; have hz3 := hb3.size; (try simp at hz3); obtain ⟨hd3, he3⟩ := blk_at hb3 w2.heap.size (by (try simp) <;> omega)))
    | (go_at_call 7; go_must (refine (hra.out w2 _ g2 o2 c2 hr2.out hc2 hm2 (by repeat (first | (with_reducible exact Below.refl _ _) | (with_reducible refine Below.drew ?_) | (with_reducible refine below_drewN ?_ _) | ((with_reducible refine Below.alloc ?_ ?_ _); rotate_left; focus ((try simp) <;> omega)) | ((with_reducible refine Below.setCell ?_ ?_ _); rotate_left; focus ((try simp) <;> omega)) | ((with_reducible refine Below.trans ?_ (Below.mono (by assumption) ?_)); rotate_left; focus ((try simp) <;> omega))))).mono ?_; rintro e w4 ⟨rfl, hb4⟩; have hz4 := hb4.size; (try simp at hz4)))
    | (go_at_call 10; go_must (refine (hts.out w1 _ A1 c1 x1 hr1.out hx1.out (by repeat (first | (with_reducible exact Below.refl _ _) | (with_reducible refine Below.drew ?_) | (with_reducible refine below_drewN ?_ _) | ((with_reducible refine Below.alloc ?_ ?_ _); rotate_left; focus ((try simp) <;> omega)) | ((with_reducible refine Below.setCell ?_ ?_ _); rotate_left; focus ((try simp) <;> omega)) | ((with_reducible refine Below.trans ?_ (Below.mono (by assumption) ?_)); rotate_left; focus ((try simp) <;> omega))))).mono ?_; rintro e w5 ⟨A5, c5, rfl, hb5⟩; have hz5 := hb5.size; (try simp at hz5))))
  go_ret
  exact ⟨rfl, (by repeat (first | (with_reducible exact Below.refl _ _) | (with_reducible refine Below.drew ?_) | (with_reducible refine below_drewN ?_ _) | ((with_reducible refine Below.alloc ?_ ?_ _); rotate_left; focus ((try simp) <;> omega)) | ((with_reducible refine Below.setCell ?_ ?_ _); rotate_left; focus ((try simp) <;> omega)) | ((with_reducible refine Below.trans ?_ (Below.mono (by assumption) ?_)); rotate_left; focus ((try simp) <;> omega))))⟩
end Go.Proofs.YtddepmelnemniaaDoor
