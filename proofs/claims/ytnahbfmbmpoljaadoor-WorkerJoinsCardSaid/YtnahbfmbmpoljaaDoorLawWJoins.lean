/-
  WorkerJoins: for every list of workers (of at most 12, with few and short labels), every worker and every time, the workers with the one that joins, and the error, are the reference's; the example holds. No condition.
-/
import Derived.Test.YtnahbfmbmpoljaaDoorWk22
import Derived.Test.YtnahbfmbmpoljaaDoorWk23
import Derived.Test.YtnahbfmbmpoljaaDoorWk21
import Derived.Test.YtnahbfmbmpoljaaDoorSliceRead
import Derived.Test.YtnahbfmbmpoljaaDoorWk12
import Derived.Test.YtnahbfmbmpoljaaDoorLawKit
import Derived.Test.YtnahbfmbmpoljaaDoorLayTab




namespace Go.Proofs.YtnahbfmbmpoljaaDoor.workerJoins
open Go.ChangeShapes Go.WideShapes Go.ChangeAt Go.RowKit Go.Joins
theorem own : ownKnob Tryd.prog.godebug = none := by kernel_rfl
theorem laidOut : laidOutB Tryd.prog = true := by kernel_rfl

theorem short_ok {x : Work} (h : shortB x = true) : LabOk x ∧ x.labs.length ≤ 1000000 ∧ x.toks.length ≤ 1000000 := by
  obtain ⟨h1, _, h2, h3⟩ := short_in h
  exact ⟨⟨fun s hs => by have := h1 s hs; omega, by omega, by omega⟩, by omega, by omega⟩
theorem joinL_len (l : List Work) (x : Work) (now : I64) : (joinL l x now).length ≤ l.length + 1 := by
  unfold joinL
  split
  · omega
  · have := plN_le x.id l
    simp; omega
def okL (l : List Work) : Prop := ∀ y ∈ l, shortB y = true
set_option maxRecDepth 100000 in
set_option maxHeartbeats 8000000 in
theorem walk (A : Option Addr) (c : Nat) (l : List Work) (x : Work) (now : I64) (w : World) (hr : RwW w w.heap.size A l) (hx : LabWork w w.heap.size x) (hlc : l.length ≤ c) (hm : l.length ≤ 9223372036854775807) (hG : Glob w) :
    Calls Tryd.prog 4 #[.slice A l.length c, (.agg #[.string x.id.1, .slice x.labsA x.labs.length x.labsC, .int .i64 x.trust.1, .int .i64 x.slots.1, .bool x.pre, .int .i64 x.phase.1, .int .i64 x.beat.1, .int .i64 x.till.1, .slice x.toksA x.toks.length x.toksC]), .int .i64 now.1] w fun e w' => e = .returned (.bool true) ∧ Below w.heap.size w w' := by
  have hxd : Hid (∀ W, Below w.heap.size w W → LabWork W W.heap.size x) := Lib.hid fun W hb => (hx.below hb (Nat.le_refl _)).more hb.size
  have hrd : Hid (∀ W, Below w.heap.size w W → RwW W W.heap.size A l) := Lib.hid fun W hb => (hr.below hb (Nat.le_refl _)).more hb.size
  have hsx0 : ∀ W, Below w.heap.size w W → Calls Tryd.prog 9 #[(.agg #[.string x.id.1, .slice x.labsA x.labs.length x.labsC, .int .i64 x.trust.1, .int .i64 x.slots.1, .bool x.pre, .int .i64 x.phase.1, .int .i64 x.beat.1, .int .i64 x.till.1, .slice x.toksA x.toks.length x.toksC])] W fun e w' => e = .returned (.bool (shortB x)) ∧ Below W.heap.size W w' := fun W hb => short_any x W (hxd.out W hb)
  replace hG := Lib.hid hG
  replace hlc := Lib.hid hlc
  obtain ⟨W1, hW1⟩ : ∃ W, w.alloc (.cells #[.string x.id.1, .slice x.labsA x.labs.length x.labsC, .int .i64 x.trust.1, .int .i64 x.slots.1, .bool x.pre, .int .i64 x.phase.1, .int .i64 x.beat.1, .int .i64 x.till.1, .slice x.toksA x.toks.length x.toksC] 25) = W := ⟨_, rfl⟩
  have hbA : Below w.heap.size w W1 := by rw [← hW1]; exact (Below.refl _ _).alloc (Nat.le_refl _) _
  have hz1 : W1.heap.size = w.heap.size + 1 := by rw [← hW1]; simp
  have hz1a := Nat.le_of_eq hz1
  have hz1b := Nat.le_of_eq hz1.symm
  have a : Hid (∀ j u, (workE x)[j]? = some u → W1.cell? ⟨w.heap.size, j, none⟩ = some u) := Lib.hid fun j u hu => by rw [← hW1]; exact box_cells w _ 25 j u hu
  replace hz1 := Lib.hid hz1
  clear hx hr
  go_enter Tryd.func4, Tryd.ntmps4
  go_wp2_with fail
  clear hW1
  go_loopw [7] (fun vi wr => ∃ k : Nat, k ≤ l.length ∧ k ≤ 12 ∧ vi = .int .i64 (k : Int) ∧ (∀ j y, j < k → l[j]? = some y → shortB y = true) ∧ Below W1.heap.size W1 wr) (fun vi _ => l.length - (intOf vi).toNat)
  case atStart => exact ⟨0, Nat.zero_le _, by omega, rfl, fun j y h => absurd h (by omega), Below.refl _ _⟩
  case round =>
    obtain ⟨k, hk, hk12, rfl, ht, hbw⟩ := hrel
    have hz := hbw.size
    replace ht := Lib.hid ht
    have hbw0 : Below w.heap.size w wr := hbA.trans (hbw.mono (by omega))
    by_cases hlt : k < l.length
    · by_cases h12 : k < 12
      · obtain ⟨y, hy⟩ := get_some hlt
        have hyl : Hid (LabWork wr wr.heap.size y) := Lib.hid ((hrd.out wr hbw0).labs y (List.mem_of_getElem? hy))
        obtain ⟨g, o, rfl, hg, hq⟩ := (hrd.out wr hbw0).row (by omega)
        have q : ∀ j u, (workE y)[j]? = some u → wr.cell? ⟨g, o + k * 9 + j, none⟩ = some u := fun j u hu => hq k y hy j u hu
        have q0 := q 0 (.string y.id.1) rfl
        try rw [Nat.add_zero] at q0
        have q1 := q 1 (.slice y.labsA y.labs.length y.labsC) rfl
        have q2 := q 2 (.int .i64 y.trust.1) rfl
        have q3 := q 3 (.int .i64 y.slots.1) rfl
        have q4 := q 4 (.bool y.pre) rfl
        have q5 := q 5 (.int .i64 y.phase.1) rfl
        have q6 := q 6 (.int .i64 y.beat.1) rfl
        have q7 := q 7 (.int .i64 y.till.1) rfl
        have q8 := q 8 (.slice y.toksA y.toks.length y.toksC) rfl
        clear q hq
        have i0 : (0 : Int) ≤ (k : Int) := by omega
        have i1 : (k : Int) < (l.length : Int) := by omega
        have i2 : (k : Int) < 12 := by omega
        have hsy0 : Calls Tryd.prog 9 #[(.agg #[.string y.id.1, .slice y.labsA y.labs.length y.labsC, .int .i64 y.trust.1, .int .i64 y.slots.1, .bool y.pre, .int .i64 y.phase.1, .int .i64 y.beat.1, .int .i64 y.till.1, .slice y.toksA y.toks.length y.toksC])] wr fun e w' => e = .returned (.bool (shortB y)) ∧ Below wr.heap.size wr w' := short_any y wr hyl.out
        rcases hs : shortB y with _ | _
        · rw [hs] at hsy0
          have hsy := Lib.hid hsy0
          clear hsy0
          replace hs := Lib.hid hs
          replace hy := Lib.hid hy
          go_wp2_with (first | (go_at_call 9; go_must (refine hsy.out.mono ?_; rintro e w2 ⟨rfl, hb2⟩; have hz2 := hb2.size)) | (go_at_call 12; go_must (refine (awake_any _ (hG.out.keep (by repeat (first | (with_reducible exact Below.refl _ _) | (with_reducible refine Below.drew ?_) | (with_reducible refine below_drewN ?_ _) | ((with_reducible refine Below.alloc ?_ ?_ _); rotate_left; focus ((try simp) <;> omega)) | ((with_reducible refine Below.setCell ?_ ?_ _); rotate_left; focus ((try simp) <;> omega)) | ((with_reducible refine Below.trans ?_ (Below.mono (by assumption) ?_)); rotate_left; focus ((try simp) <;> omega)))))).mono ?_; rintro e w9 ⟨rfl, hb9⟩)))
          go_ret
          exact ⟨rfl, (by repeat (first | (with_reducible exact Below.refl _ _) | (with_reducible refine Below.drew ?_) | (with_reducible refine below_drewN ?_ _) | ((with_reducible refine Below.alloc ?_ ?_ _); rotate_left; focus ((try simp) <;> omega)) | ((with_reducible refine Below.setCell ?_ ?_ _); rotate_left; focus ((try simp) <;> omega)) | ((with_reducible refine Below.trans ?_ (Below.mono (by assumption) ?_)); rotate_left; focus ((try simp) <;> omega))))⟩
        · rw [hs] at hsy0
          have hsy := Lib.hid hsy0
          clear hsy0
          have ht2 : Hid (∀ j z, j < k + 1 → l[j]? = some z → shortB z = true) := Lib.hid fun j z hj hz => by
            by_cases e : j = k
            · subst e
              rw [hy] at hz
              obtain rfl : y = z := by simpa using hz
              exact hs
            · exact ht.out j z (by omega) hz
          replace hs := Lib.hid hs
          replace hy := Lib.hid hy
          go_wp2_with (go_at_call 9; go_must (refine hsy.out.mono ?_; rintro e w2 ⟨rfl, hb2⟩; have hz2 := hb2.size))
          go_roundw
          case rel => exact ⟨k + 1, by omega, by omega, by go_num, ht2.out, hbw.trans (hb2.mono (by omega))⟩
          case measure => simp [intOf]; omega
      · have i1 : (k : Int) < (l.length : Int) := by omega
        have i2 : ¬ (k : Int) < 12 := by omega
        have i3 : (l.length : Int) > 12 := by omega
        go_wp2_with (go_at_call 12; go_must (refine (awake_any _ (hG.out.keep (by repeat (first | (with_reducible exact Below.refl _ _) | (with_reducible refine Below.drew ?_) | (with_reducible refine below_drewN ?_ _) | ((with_reducible refine Below.alloc ?_ ?_ _); rotate_left; focus ((try simp) <;> omega)) | ((with_reducible refine Below.setCell ?_ ?_ _); rotate_left; focus ((try simp) <;> omega)) | ((with_reducible refine Below.trans ?_ (Below.mono (by assumption) ?_)); rotate_left; focus ((try simp) <;> omega)))))).mono ?_; rintro e w9 ⟨rfl, hb9⟩))
        go_ret
        exact ⟨rfl, (by repeat (first | (with_reducible exact Below.refl _ _) | (with_reducible refine Below.drew ?_) | (with_reducible refine below_drewN ?_ _) | ((with_reducible refine Below.alloc ?_ ?_ _); rotate_left; focus ((try simp) <;> omega)) | ((with_reducible refine Below.setCell ?_ ?_ _); rotate_left; focus ((try simp) <;> omega)) | ((with_reducible refine Below.trans ?_ (Below.mono (by assumption) ?_)); rotate_left; focus ((try simp) <;> omega))))⟩
    · have i1 : ¬ (k : Int) < (l.length : Int) := by omega
      have i3 : ¬ (l.length : Int) > 12 := by omega
      have hall : okL l := fun y hy => by
        obtain ⟨j, hj⟩ := List.getElem?_of_mem hy
        exact ht.out j y (by have := (List.getElem?_eq_some_iff.1 hj).1; omega) hj
      have b : ∀ j u, (workE x)[j]? = some u → wr.cell? ⟨w.heap.size, j, none⟩ = some u := fun j u hu => (hbw.cell (p := ⟨w.heap.size, j, none⟩) (by show w.heap.size < _; omega)).trans (a.out j u hu)
      have b0 := b 0 (.string x.id.1) rfl
      try rw [Nat.add_zero] at b0
      have b1 := b 1 (.slice x.labsA x.labs.length x.labsC) rfl
      have b2 := b 2 (.int .i64 x.trust.1) rfl
      have b3 := b 3 (.int .i64 x.slots.1) rfl
      have b4 := b 4 (.bool x.pre) rfl
      have b5 := b 5 (.int .i64 x.phase.1) rfl
      have b6 := b 6 (.int .i64 x.beat.1) rfl
      have b7 := b 7 (.int .i64 x.till.1) rfl
      have b8 := b 8 (.slice x.toksA x.toks.length x.toksC) rfl
      clear b
      have hzw : w.heap.size < wr.heap.size := by omega
      rcases hs : shortB x with _ | _
      · rw [hs] at hsx0
        have hsx := Lib.hid hsx0
        clear hsx0 hall
        replace hs := Lib.hid hs
        go_wp2_with (first | (go_at_call 9; go_must (refine (hsx.out _ (by repeat (first | (with_reducible exact Below.refl _ _) | (with_reducible refine Below.drew ?_) | (with_reducible refine below_drewN ?_ _) | ((with_reducible refine Below.alloc ?_ ?_ _); rotate_left; focus ((try simp) <;> omega)) | ((with_reducible refine Below.setCell ?_ ?_ _); rotate_left; focus ((try simp) <;> omega)) | ((with_reducible refine Below.trans ?_ (Below.mono (by assumption) ?_)); rotate_left; focus ((try simp) <;> omega))))).mono ?_; rintro e w2 ⟨rfl, hb2⟩; have hz2 := hb2.size)) | (go_at_call 12; go_must (refine (awake_any _ (hG.out.keep (by repeat (first | (with_reducible exact Below.refl _ _) | (with_reducible refine Below.drew ?_) | (with_reducible refine below_drewN ?_ _) | ((with_reducible refine Below.alloc ?_ ?_ _); rotate_left; focus ((try simp) <;> omega)) | ((with_reducible refine Below.setCell ?_ ?_ _); rotate_left; focus ((try simp) <;> omega)) | ((with_reducible refine Below.trans ?_ (Below.mono (by assumption) ?_)); rotate_left; focus ((try simp) <;> omega)))))).mono ?_; rintro e w9 ⟨rfl, hb9⟩)))
        go_ret
        exact ⟨rfl, (by repeat (first | (with_reducible exact Below.refl _ _) | (with_reducible refine Below.drew ?_) | (with_reducible refine below_drewN ?_ _) | ((with_reducible refine Below.alloc ?_ ?_ _); rotate_left; focus ((try simp) <;> omega)) | ((with_reducible refine Below.setCell ?_ ?_ _); rotate_left; focus ((try simp) <;> omega)) | ((with_reducible refine Below.trans ?_ (Below.mono (by assumption) ?_)); rotate_left; focus ((try simp) <;> omega))))⟩
      · obtain ⟨hox, hnx, _⟩ := short_ok hs
        have hjn : Hid (∀ W, Below w.heap.size w W → Calls Tryd.prog 13 #[.slice A l.length c, (.agg #[.string x.id.1, .slice x.labsA x.labs.length x.labsC, .int .i64 x.trust.1, .int .i64 x.slots.1, .bool x.pre, .int .i64 x.phase.1, .int .i64 x.beat.1, .int .i64 x.till.1, .slice x.toksA x.toks.length x.toksC]), .int .i64 now.1] W fun e w' => ∃ A' c' l', e = .returned (.tuple #[.slice A' l'.length c', .int .i64 (joinE l x now)]) ∧ RwW w' w'.heap.size A' l' ∧ l'.map core = (joinL l x now).map core ∧ Below W.heap.size W w') := Lib.hid fun W hb => join_any A c l x now W (hrd.out W hb) (hxd.out W hb) (by omega) (fun y hy => (short_ok (hall y hy)).1) (fun y hy => (short_ok (hall y hy)).2) hox hnx (hG.out.keep hb)
        have hrj : Hid (∀ W, Below w.heap.size w W → Calls Tryd.prog 14 #[.slice A l.length c, (.agg #[.string x.id.1, .slice x.labsA x.labs.length x.labsC, .int .i64 x.trust.1, .int .i64 x.slots.1, .bool x.pre, .int .i64 x.phase.1, .int .i64 x.beat.1, .int .i64 x.till.1, .slice x.toksA x.toks.length x.toksC]), .int .i64 now.1] W fun e w' => ∃ A' c', e = .returned (.tuple #[.slice A' (joinL l x now).length c', .int .i64 (joinE l x now)]) ∧ RwW w' w'.heap.size A' (joinL l x now) ∧ (joinL l x now).length ≤ c' ∧ Below W.heap.size W w') := Lib.hid fun W hb => rjoin_any A c l x now W (hrd.out W hb) (hxd.out W hb) hlc.out (by omega) (fun y hy => (short_ok (hall y hy)).1) hox
        have hLl := joinL_len l x now
        generalize joinE l x now = E at hjn hrj
        generalize joinL l x now = L at hjn hrj hLl
        rw [hs] at hsx0
        have hsx := Lib.hid hsx0
        clear hsx0 hall
        replace hs := Lib.hid hs
        have hee : (E == E) = true := by simp
        go_wp2_with (first
          | (go_at_call 9; go_must (refine (hsx.out _ (by repeat (first | (with_reducible exact Below.refl _ _) | (with_reducible refine Below.drew ?_) | (with_reducible refine below_drewN ?_ _) | ((with_reducible refine Below.alloc ?_ ?_ _); rotate_left; focus ((try simp) <;> omega)) | ((with_reducible refine Below.setCell ?_ ?_ _); rotate_left; focus ((try simp) <;> omega)) | ((with_reducible refine Below.trans ?_ (Below.mono (by assumption) ?_)); rotate_left; focus ((try simp) <;> omega))))).mono ?_; rintro e w2 ⟨rfl, hb2⟩; have hz2 := hb2.size; (try simp at hz2); have hz2a : w.heap.size < w2.heap.size := (by omega); obtain ⟨hc2, hf2⟩ := blk_at hb2 w.heap.size (by (try simp) <;> omega)))
          | (go_at_call 13; go_must (refine (hjn.out _ (by repeat (first | (with_reducible exact Below.refl _ _) | (with_reducible refine Below.drew ?_) | (with_reducible refine below_drewN ?_ _) | ((with_reducible refine Below.alloc ?_ ?_ _); rotate_left; focus ((try simp) <;> omega)) | ((with_reducible refine Below.setCell ?_ ?_ _); rotate_left; focus ((try simp) <;> omega)) | ((with_reducible refine Below.trans ?_ (Below.mono (by assumption) ?_)); rotate_left; focus ((try simp) <;> omega))))).mono ?_; rintro e w3 ⟨A3, c3, l3, rfl, hr3, hl3, hb3⟩; have hz3 := hb3.size; (try simp at hz3); have hz3a : w.heap.size < w3.heap.size := (by omega); obtain ⟨hc3, hf3⟩ := blk_at hb3 w.heap.size (by (try simp) <;> omega); replace hl3 := Lib.hid hl3))
          | (go_at_call 14; go_must (refine (hrj.out _ (by repeat (first | (with_reducible exact Below.refl _ _) | (with_reducible refine Below.drew ?_) | (with_reducible refine below_drewN ?_ _) | ((with_reducible refine Below.alloc ?_ ?_ _); rotate_left; focus ((try simp) <;> omega)) | ((with_reducible refine Below.setCell ?_ ?_ _); rotate_left; focus ((try simp) <;> omega)) | ((with_reducible refine Below.trans ?_ (Below.mono (by assumption) ?_)); rotate_left; focus ((try simp) <;> omega))))).mono ?_; rintro e w4 ⟨A4, c4, rfl, hr4, hlc4, hb4⟩; have hz4 := hb4.size; (try simp at hz4)))
          | (go_at_call 15; go_must (refine (samelist_any A3 A4 c3 c4 l3 L _ hl3.out ((hr3.below hb4 (Nat.le_refl _)).more hz4) hr4 (by have := congrArg List.length hl3.out; simp at this; omega)).mono ?_; rintro e w5 ⟨rfl, hb5⟩; have hz5 := hb5.size))
          | (go_at_call 12; go_must (refine (awake_any _ (hG.out.keep (by repeat (first | (with_reducible exact Below.refl _ _) | (with_reducible refine Below.drew ?_) | (with_reducible refine below_drewN ?_ _) | ((with_reducible refine Below.alloc ?_ ?_ _); rotate_left; focus ((try simp) <;> omega)) | ((with_reducible refine Below.setCell ?_ ?_ _); rotate_left; focus ((try simp) <;> omega)) | ((with_reducible refine Below.trans ?_ (Below.mono (by assumption) ?_)); rotate_left; focus ((try simp) <;> omega)))))).mono ?_; rintro e w9 ⟨rfl, hb9⟩)))
        go_ret
        exact ⟨rfl, (by repeat (first | (with_reducible exact Below.refl _ _) | (with_reducible refine Below.drew ?_) | (with_reducible refine below_drewN ?_ _) | ((with_reducible refine Below.alloc ?_ ?_ _); rotate_left; focus ((try simp) <;> omega)) | ((with_reducible refine Below.setCell ?_ ?_ _); rotate_left; focus ((try simp) <;> omega)) | ((with_reducible refine Below.trans ?_ (Below.mono (by assumption) ?_)); rotate_left; focus ((try simp) <;> omega))))⟩

/-- A world for the witness: the settled one, the listed tables holding what their initialisers lay. -/
noncomputable def laidWorld (os : Os) : World :=
  { World.holding Tryd.prog os ⟨#[], #[], []⟩ with heap := layAll Tryd.prog Rows.workerJoinsRow.laid (World.holding Tryd.prog os ⟨#[], #[], []⟩).heap }
theorem laid_met (os : Os) : laidMet Tryd.prog Rows.workerJoinsRow.laid ((laidWorld os).forCall (fun _ _ => 0) ⟨#[], #[.slice none 0 0, (.agg #[.string ByteArray.empty, .slice none 0 0, .int .i64 0, .int .i64 0, .bool false, .int .i64 0, .int .i64 0, .int .i64 0, .slice none 0 0]), .int .i64 0], []⟩).memory :=
  laidMet_of_run' 8 (by kernel_rfl) (by kernel_rfl)
theorem reads (os : Os) {H : Type} (enc : TypeId × Value → H) : ∃ places, DataW.whole enc Tryd.prog ((laidWorld os).forCall (fun _ _ => 0) ⟨#[], #[.slice none 0 0, (.agg #[.string ByteArray.empty, .slice none 0 0, .int .i64 0, .int .i64 0, .bool false, .int .i64 0, .int .i64 0, .int .i64 0, .slice none 0 0]), .int .i64 0], []⟩).memory Tryd.f4.params.toList Rows.workerJoinsSpec.vars false (#[.slice none 0 0, (.agg #[.string ByteArray.empty, .slice none 0 0, .int .i64 0, .int .i64 0, .bool false, .int .i64 0, .int .i64 0, .int .i64 0, .slice none 0 0]), .int .i64 0] : Array Value).toList 8 = some ([.nil, .agg [.lit (.string []), .nil, .lit (.int .i64 0), .lit (.int .i64 0), .lit (.bool false), .lit (.int .i64 0), .lit (.int .i64 0), .lit (.int .i64 0), .nil], .lit (.int .i64 0)], [], places) :=
  ⟨[], by kernel_rfl⟩

set_option maxRecDepth 100000 in
theorem contract (H : Type) (enc : TypeId × Value → H) (W : World) (base : Nat) (args : Array Value) (ds gs : List (DataW H)) (before : List MemPlace)
    (hval : ∀ (j : Nat) t v, Tryd.f4.params[j]? = some t → args[j]? = some v → Value.okWide Tryd.prog W .any base t v)
    (hW : DataW.Whole enc Tryd.prog Tryd.f4.params.toList Rows.workerJoinsSpec.vars false W args.toList ds gs before) (hsh : W.ShapedOpen Tryd.prog) :
    Calls Tryd.prog 4 args W fun e W' => ∃ v, e = .returned v ∧ Rows.workerJoinsSpec.post enc Tryd.prog Tryd.f4 false true false false W args v W' := by
  have hG : Glob W := cell_of_shapedOpen_int (P := Tryd.prog) (g := 2) (t := 3) (zero := #[.int .i64 0]) hsh (of_decide_eq_true (by kernel_rfl)) (by kernel_rfl) rfl (by kernel_rfl) (by kernel_rfl) Tryd.underlying3
  have hW' := hW
  obtain ⟨p, q, hA0, hV, rfl, hfz, hnd⟩ := hW
  have hA : DataW.TrodAll enc Tryd.prog W 0 (fun _ => true) true Tryd.f4.params.toList args.toList ds p := hA0
  have hA1 := hA
  rw [Tryd.params4] at hA hval
  obtain ⟨rfl, rfl⟩ := trodVars_none hV
  simp only [List.append_nil] at hW'
  have hcall : Calls Tryd.prog 4 args W fun e w' => e = .returned (.bool true) ∧ Below W.heap.size W w' := by
    clear hA0 hV hfz hnd
    obtain ⟨v0, vs0, d0, ds0, p0, q0, hargs, rfl, rfl, h0, r0⟩ := trodAll_cons hA
    obtain ⟨v1, vs1, d1, ds1, p1, q1, rfl, rfl, rfl, h1, r1⟩ := trodAll_cons r0
    obtain ⟨v2, vs2, d2, ds2, p2, q2, rfl, rfl, rfl, h2, r2⟩ := trodAll_cons r1
    obtain ⟨rfl, rfl, rfl⟩ := trodAll_nil r2
    obtain rfl : args = #[v0, v1, v2] := by cases args; simp_all
    obtain ⟨A, l, c, rfl, hlc, hcm, hr, hlb⟩ := open_rowsq workE_len (by omega) Tryd.underlying31 (by kernel_rfl) workE_of (hval 0 31 v0 rfl rfl) h0
    obtain ⟨x, rfl, hx⟩ := open_valq Tryd.underlying25 workE_of (hval 1 25 v1 rfl rfl) h1
    obtain ⟨a2, rfl, rfl, rfl, w2⟩ := open_int Tryd.underlying3 (hval 2 3 v2 rfl rfl) h2
    unfold maxLen at hcm
    exact walk A c l x ⟨a2, bounds_i64 w2⟩ W ⟨hr, hlb⟩ hx hlc (by omega) hG
  have hds : ds.length = 3 := (trodAll_length hA).1
  refine hcall.mono fun e W' ⟨he, hb⟩ => ?_
  subst he
  refine ⟨_, rfl, law_post hW' rfl hA1 (by kernel_rfl) laidOut Tryd.underlying4 (by kernel_rfl) ?_ hb⟩
  match ds, hds with
  | [_, _, _], _ => rfl

set_option maxRecDepth 100000 in
theorem lifted (os : Os) (started : os.Started) (H : Type) (enc : TypeId × Value → H) (F : Stop.Interp) :
    ReturnsInHanded {} Tryd.checked os 4 .any ((OpenSpec.ofChange Rows.workerJoinsSpec).preRow enc Tryd.prog Tryd.f4 Rows.workerJoinsRow.domain false Rows.workerJoinsRow.laid) (((OpenSpec.ofChange Rows.workerJoinsSpec).at F).post enc Tryd.prog Tryd.f4 false true false false) := by
  obtain ⟨places, hx⟩ := reads os enc
  refine returnsInHanded_of_row (C := Tryd.checked) (s := OpenSpec.ofChange Rows.workerJoinsSpec) own started (by kernel_rfl) Tryd.func4
    (witness_row_at (enc := enc) (C := Tryd.checked) false (laidWorld os) #[.slice none 0 0, (.agg #[.string ByteArray.empty, .slice none 0 0, .int .i64 0, .int .i64 0, .bool false, .int .i64 0, .int .i64 0, .int .i64 0, .slice none 0 0]), .int .i64 0] rfl (by kernel_rfl) (by kernel_rfl) (by kernel_rfl)
      (OpenSpec.preRow_of_cond 8 hx (by kernel_rfl) (fun k hk => by cases hk) (by kernel_rfl) (laid_met os))) ?_
  intro W base args ds gs before hval hW _ _ _ _ hsh _
  exact contract H enc W base args ds gs before hval hW hsh

theorem said : Rows.WorkerJoinsSaid :=
  OpenClaim.holds_of_cond 4 Tryd.f4 rfl rfl rfl rfl rfl rfl rfl ⟨rfl, rfl, rfl, rfl, rfl⟩ rfl rfl rfl rfl rfl (by kernel_rfl) Tryd.func4 (by kernel_rfl)
    (of_decide_eq_true (by kernel_rfl)) (by unfold Func.isWrapper; first | (rw [if_pos (by decide +kernel)]; kernel_rfl) | (rw [if_neg (by decide +kernel)]; exact ⟨rfl, rfl⟩))
    (fun os started H enc _ F => by rw [OpenClaim.pre_eq_preRow]; exact lifted os started H enc F)

theorem plain (f : FuncId) (fn : Func) (hf : Tryd.pinned.checked.prog.funcNamed Rows.workerJoinsRow.func = some f) (hfn : Tryd.pinned.checked.prog.funcs[f]? = some fn) :
    false = Tryd.pinned.checked.prog.looks [] ∧ ∀ (j : Nat) t, fn.params[j]? = some t → Tryd.pinned.checked.prog.wantsStandIn t = false := by
  obtain rfl : f = 4 := Option.some.inj ((show Tryd.prog.funcNamed Rows.workerJoinsRow.func = some 4 by kernel_rfl).symm.trans hf) |>.symm
  obtain rfl : fn = Tryd.f4 := (Option.some.inj (Tryd.func4.symm.trans hfn)).symm
  refine ⟨by kernel_rfl, fun j t ht => ?_⟩
  have hall : (Tryd.f4.params.toList.all fun t => !(Tryd.pinned.checked.prog.wantsStandIn t)) = true := by kernel_rfl
  have hm : t ∈ Tryd.f4.params.toList := Array.mem_toList_iff.2 (Array.mem_of_getElem? ht)
  simpa using List.all_eq_true.1 hall t hm

theorem proved : Rows.WorkerJoinsCardSaid :=
  Claim7.holds_tied_plain_at .later [] _ _ _ _ said (fun _ h => by cases h) (by kernel_rfl) (fun _ h => by cases h) workerJoins_row_tie rfl ⟨rfl, rfl⟩ (by kernel_rfl) rfl plain (by kernel_rfl)
#print axioms proved
end Go.Proofs.YtnahbfmbmpoljaaDoor.workerJoins
