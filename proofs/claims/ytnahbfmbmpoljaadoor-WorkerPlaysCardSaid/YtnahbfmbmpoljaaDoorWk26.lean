/-
  The walks of workers: a copied worker's lists lie apart; where a token is among ascending ones.
-/
import Derived.Test.YtnahbfmbmpoljaaDoorWk5
import Derived.Test.YtnahbfmbmpoljaaDoorWk25
import Derived.Deep.RegionHeld3



namespace Go.Proofs.YtnahbfmbmpoljaaDoor
open Go.RowKit

set_option maxRecDepth 100000 in
set_option maxHeartbeats 4000000 in
theorem copied_dis (x : Work) (w : World) (hx : LabWork w w.heap.size x) (hn : x.labs.length ≤ 1000000 ∧ x.toks.length ≤ 1000000) :
    Calls Tryd.prog 34 #[(.agg #[.string x.id.1, .slice x.labsA x.labs.length x.labsC, .int .i64 x.trust.1, .int .i64 x.slots.1, .bool x.pre, .int .i64 x.phase.1, .int .i64 x.beat.1, .int .i64 x.till.1, .slice x.toksA x.toks.length x.toksC])] w fun e w' => ∃ A C A2 C2, e = .returned (.agg (workE (atW x A C A2 C2)).toArray) ∧ OwnW w' w.heap.size (atW x A C A2 C2) ∧ (∀ g, (Value.slice A x.labs.length C).ownBlock = some g → (Value.slice A2 x.toks.length C2).ownBlock ≠ some g) ∧ Below w.heap.size w w' := by
  have hcs := Lib.hid fun W (hb : Below w.heap.size w W) => clones_any x.labsA x.labsC x.labs W ((hx.2.2.1.below hb (Nat.le_refl _)).more hb.size) hn.1
  have hci := Lib.hid fun W (hb : Below w.heap.size w W) => clonei_any x.toksA x.toksC x.toks W ((hx.2.2.2.2.2.below hb (Nat.le_refl _)).more hb.size) hn.2
  clear hx hn
  go_enter Tryd.func34, Tryd.ntmps34
  go_wp2_with fail
  go_region_with ((first
    | (go_at_call 59; go_must (refine (hcs.out _ (by repeat (first | (with_reducible exact Below.refl _ _) | (with_reducible refine Below.drew ?_) | (with_reducible refine below_drewN ?_ _) | ((with_reducible refine Below.alloc ?_ ?_ _); rotate_left; focus ((try simp) <;> omega)) | ((with_reducible refine Below.setCell ?_ ?_ _); rotate_left; focus ((try simp) <;> omega)) | ((with_reducible refine Below.trans ?_ (Below.mono (by assumption) ?_)); rotate_left; focus ((try simp) <;> omega))))).mono ?_; rintro e w1 ⟨A1, C1, rfl, ho1, hb1⟩; have hz1 := hb1.size; (try simp at hz1); obtain ⟨hc1, hf1⟩ := blk_at hb1 w.heap.size (by (try simp) <;> omega); obtain ⟨hc1b, hf1b⟩ := blk_at hb1 (w.heap.size + 1) (by (try simp) <;> omega); obtain ⟨hc1c, hf1c⟩ := blk_at hb1 (w.heap.size + 1 + 1) (by (try simp) <;> omega)))
    | (go_at_call 60; go_must (refine (hci.out _ (by repeat (first | (with_reducible exact Below.refl _ _) | (with_reducible refine Below.drew ?_) | (with_reducible refine below_drewN ?_ _) | ((with_reducible refine Below.alloc ?_ ?_ _); rotate_left; focus ((try simp) <;> omega)) | ((with_reducible refine Below.setCell ?_ ?_ _); rotate_left; focus ((try simp) <;> omega)) | ((with_reducible refine Below.trans ?_ (Below.mono (by assumption) ?_)); rotate_left; focus ((try simp) <;> omega))))).mono ?_; rintro e w2 ⟨A2, C2, rfl, ho2, hb2⟩; have hz2 := hb2.size; (try simp at hz2); obtain ⟨hc2, hf2⟩ := blk_at hb2 w.heap.size (by (try simp) <;> omega); obtain ⟨hc2b, hf2b⟩ := blk_at hb2 (w.heap.size + 1) (by (try simp) <;> omega); obtain ⟨hc2c, hf2c⟩ := blk_at hb2 (w.heap.size + 1 + 1) (by (try simp) <;> omega)))))
  all_goals go_wp2_with fail
  all_goals
    refine bodyPost_ret (v := .agg (workE (atW x A1 C1 A2 C2)).toArray) (by simp [results, Tryd.results34, go_sem, workE, atW, hc1b, hc2b]) rfl ⟨A1, C1, A2, C2, rfl, ⟨?_, ?_⟩, (fun g h1 h2 => by have a1 := (ho1.lt g h1).2; have a2 := (ho2.lt g h2).1; omega), (by repeat (first | (with_reducible exact Below.refl _ _) | (with_reducible refine Below.drew ?_) | (with_reducible refine below_drewN ?_ _) | ((with_reducible refine Below.alloc ?_ ?_ _); rotate_left; focus ((try simp) <;> omega)) | ((with_reducible refine Below.setCell ?_ ?_ _); rotate_left; focus ((try simp) <;> omega)) | ((with_reducible refine Below.trans ?_ (Below.mono (by assumption) ?_)); rotate_left; focus ((try simp) <;> omega))))⟩
    · have hlt := ho1.lt
      (try simp at hlt)
      have ho := ho1.base (b' := w.heap.size) (by (try simp) <;> omega)
      show Own sE 1 _ _ _ (.slice A1 x.labs.length C1) x.labs
      (repeat (first
        | (with_reducible exact ho)
        | (refine Own.setCell ?_ (fun g hg => by have := (hlt g hg).1; show g ≠ _; (try simp) <;> omega) _)
        | (with_reducible refine Own.alloc ?_ _)
        | (with_reducible refine Own.drew ?_)
        | (with_reducible refine Own.all ?_ (by assumption))))
    · have hlt := ho2.lt
      (try simp at hlt)
      have ho := ho2.base (b' := w.heap.size) (by (try simp) <;> omega)
      show Own iE 1 _ _ _ (.slice A2 x.toks.length C2) x.toks
      (repeat (first
        | (with_reducible exact ho)
        | (refine Own.setCell ?_ (fun g hg => by have := (hlt g hg).1; show g ≠ _; (try simp) <;> omega) _)
        | (with_reducible refine Own.alloc ?_ _)
        | (with_reducible refine Own.drew ?_)
        | (with_reducible refine Own.all ?_ (by assumption))))

def AscT (l : List I64) : Prop := ∀ (i j : Nat) (x y : I64), i < j → l[i]? = some x → l[j]? = some y → x.1 < y.1
theorem toks_asc {l : List I64} (h : toksB l = true) : AscT l := by
  have hs : ∀ (k : Nat) (x y : I64), l[k + 1]? = some x → l[k]? = some y → y.1 < x.1 := fun k x y hx hy => by
    unfold toksB at h
    rw [List.all_eq_true] at h
    have := h (k + 1) (List.mem_range.2 (List.getElem?_eq_some_iff.1 hx).1)
    unfold tokB at this
    rw [get_bang hx, Nat.add_sub_cancel, get_bang hy] at this
    simp only [Bool.and_eq_true, Bool.or_eq_true, decide_eq_true_eq] at this
    omega
  intro i j
  induction j with
  | zero => intro x y hij; omega
  | succ j ih =>
    intro x y hij hx hy
    obtain ⟨z, hz⟩ := get_some (show j < l.length by have := (List.getElem?_eq_some_iff.1 hy).1; omega)
    have h1 := hs j y z hy hz
    by_cases e : i = j
    · subst e
      rw [hx] at hz
      obtain rfl : x = z := by simpa using hz
      exact h1
    · exact Int.lt_trans (ih x z (by omega) hx hz) h1
theorem atI_spec {l : List I64} (ha : AscT l) (t : Int) : (∀ j y, j < atI t l → l[j]? = some y → y.1 < t) ∧ (∀ j y, atI t l ≤ j → l[j]? = some y → ¬ y.1 < t) := by
  obtain ⟨_, h2, h3, h4⟩ := bsr_spec (fun h => decide (l[h]!.1 < t)) l.length 0 l.length (by omega) (Nat.zero_le _) (fun c c' _ hcc hc' hq => by
    obtain ⟨x, hx⟩ := get_some (show c < l.length by omega)
    obtain ⟨y, hy⟩ := get_some hc'
    simp only [get_bang hx, get_bang hy, decide_eq_false_iff_not] at hq ⊢
    rcases Nat.lt_or_eq_of_le hcc with hlt | rfl
    · have := ha c c' x y hlt hx hy; omega
    · rw [hx] at hy
      obtain rfl : x = y := by simpa using hy
      exact hq)
  refine ⟨fun j y hj hy => ?_, fun j y hj hy => ?_⟩
  · have := h3 j (Nat.zero_le _) hj
    simpa [get_bang hy] using this
  · have := h4 j hj (List.getElem?_eq_some_iff.1 hy).1
    simpa [get_bang hy] using this
theorem hasI_eq {l : List I64} (ha : AscT l) (t : Int) : hasI t l = hasT l t := by
  obtain ⟨h1, h2⟩ := atI_spec ha t
  rw [Bool.eq_iff_iff]
  unfold hasI hasT
  simp only [Bool.and_eq_true, decide_eq_true_eq, List.any_eq_true, beq_iff_eq]
  constructor
  · rintro ⟨hl, he⟩
    obtain ⟨x, hx⟩ := get_some hl
    rw [get_bang hx] at he
    exact ⟨x, List.mem_of_getElem? hx, he⟩
  · rintro ⟨x, hx, he⟩
    obtain ⟨j, hj⟩ := List.getElem?_of_mem hx
    have hjl := (List.getElem?_eq_some_iff.1 hj).1
    have hge : atI t l ≤ j := by
      rcases Nat.lt_or_ge j (atI t l) with h | h
      · have := h1 j x h hj; omega
      · exact h
    have hle : j ≤ atI t l := by
      rcases Nat.lt_or_ge (atI t l) j with h | h
      · obtain ⟨y, hy⟩ := get_some (show atI t l < l.length by omega)
        have a1 := h2 _ y (Nat.le_refl _) hy
        have a2 := ha _ _ y x h hy hj
        omega
      · exact h
    have e : atI t l = j := by omega
    rw [e, get_bang hj]
    exact ⟨hjl, he⟩
theorem plT_eq {l : List I64} (ha : AscT l) (t : Int) : plT l t = atI t l := by
  obtain ⟨h1, h2⟩ := atI_spec ha t
  have key : ∀ (l : List I64) (k : Nat), k ≤ l.length → (∀ (j : Nat) (y : I64), j < k → l[j]? = some y → y.1 < t) → (∀ y : I64, l[k]? = some y → ¬ y.1 < t) → (l.takeWhile fun y => decide (y.1 < t)).length = k := by
    intro l
    induction l with
    | nil => intro k hk _ _; simp at hk; subst hk; rfl
    | cons a l ih =>
      intro k hk ht hf
      rcases k with _ | k
      · have := hf a rfl
        rw [List.takeWhile_cons_of_neg (by simpa using this)]; rfl
      · have h0 := ht 0 a (by omega) rfl
        rw [List.takeWhile_cons_of_pos (by simpa using h0), List.length_cons, ih k (by simpa using hk) (fun j y hj hy => ht (j + 1) y (by omega) hy) (fun y hy => hf y hy)]
  exact key l _ (atI_le t l) (fun j y hj hy => h1 j y hj hy) (fun y hy => h2 _ y (Nat.le_refl _) hy)
theorem attE_1 {x : Work} {t : Int} (h : wErr x ≠ 0) : attE x t = 1 := by unfold attE; rw [if_pos h]
theorem attE_2 {x : Work} {t : Int} (h : wErr x = 0) (h2 : t < 1 ∨ 1125899906842624 < t) : attE x t = 2 := by
  unfold attE
  rw [if_neg (by omega)]
  by_cases h3 : t < 1
  · rw [if_pos h3]
  · rw [if_neg h3, if_pos (by omega)]
theorem attE_3 {x : Work} {t : Int} (h : wErr x = 0) (h2 : ¬ t < 1) (h3 : ¬ 1125899906842624 < t) : attE x t = if hasT x.toks t = true then 7 else if x.phase.1 ≠ 0 then 16 else if x.slots.1 ≤ (x.toks.length : Int) then 21 else 0 := by
  unfold attE
  rw [if_neg (by omega), if_neg h2, if_neg h3]
theorem attW_no {x : Work} {t : I64} {e : Int} (h : attE x t.1 = e) (he : e ≠ 0) : attW x t = x := by unfold attW; rw [if_pos (by rw [h]; exact he)]
theorem attW_ok {x : Work} {t : I64} (h : attE x t.1 = 0) : attW x t = { x with toks := attL x.toks t } := by unfold attW; rw [if_neg (by rw [h]; decide)]
end Go.Proofs.YtnahbfmbmpoljaaDoor
