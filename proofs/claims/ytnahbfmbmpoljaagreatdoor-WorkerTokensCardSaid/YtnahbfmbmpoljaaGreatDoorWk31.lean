/-
  The walks of workers: a lease recorded and a lease removed, by the reference.
-/
import Derived.Test.YtnahbfmbmpoljaaGreatDoorWk3
import Derived.Test.YtnahbfmbmpoljaaGreatDoorWk246



namespace Go.Proofs.YtnahbfmbmpoljaaGreatDoor
open Go.RowKit

theorem plT_at {l : List I64} {t : Int} {k : Nat} (hk : k ≤ l.length) (ht : ∀ (j : Nat) (y : I64), j < k → l[j]? = some y → y.1 < t) (hf : ∀ y : I64, l[k]? = some y → ¬ y.1 < t) : plT l t = k := by
  unfold plT
  induction l generalizing k with
  | nil => simp at hk; subst hk; rfl
  | cons a l ih =>
    rcases k with _ | k
    · have := hf a rfl
      rw [List.takeWhile_cons_of_neg (by simpa using this)]; rfl
    · have h0 := ht 0 a (by omega) rfl
      rw [List.takeWhile_cons_of_pos (by simpa using h0), List.length_cons, ih (by simpa using hk) (fun j y hj hy => ht (j + 1) y (by omega) hy) (fun y hy => hf y hy)]
theorem hasT_at {l : List I64} {t : Int} {k : Nat} {x : I64} (hx : l[k]? = some x) (h : x.1 = t) : hasT l t = true := by
  unfold hasT
  rw [List.any_eq_true]
  exact ⟨x, List.mem_of_getElem? hx, by rw [beq_iff_eq]; exact h⟩
theorem hasT_none {l : List I64} {t : Int} (h : l.all (fun y => !(y.1 == t)) = true) : hasT l t = false := by
  unfold hasT
  rw [Bool.eq_false_iff]
  intro h2
  rw [List.any_eq_true] at h2
  obtain ⟨x, hx, e⟩ := h2
  rw [List.all_eq_true] at h
  have := h x hx
  rw [e] at this
  cases this
theorem rhas_any (A : Option Addr) (c : Nat) (l : List I64) (t : Int) (w : World) (hr : Rw iE 1 w w.heap.size A l) (hn : l.length ≤ 9223372036854775807) :
    Calls Tryz.prog 21 #[.slice A l.length c, .int .i64 t] w fun e w' => e = .returned (.bool (hasT l t)) ∧ w = w' := by
  have hc : Hid (∀ k x, l[k]? = some x → ∃ g o, A = some ⟨g, o, none⟩ ∧ w.cell? ⟨g, o + k, none⟩ = some (.int .i64 x.1)) := Lib.hid (fun k x hx => by
    have hk := (List.getElem?_eq_some_iff.1 hx).1
    obtain ⟨g, o, e, _, h⟩ := hr.int (by omega)
    exact ⟨g, o, e, h k x hx⟩)
  clear hr
  go_enter Tryz.func21, Tryz.ntmps21
  go_wp2_with fail
  go_loop [5] (fun vi => ∃ k : Nat, k ≤ l.length ∧ vi = .int .i64 (k : Int) ∧ (l.take k).all (fun y => !(y.1 == t)) = true) (fun vi => l.length - (intOf vi).toNat)
  case atStart => exact ⟨0, Nat.zero_le _, rfl, rfl⟩
  case round =>
    obtain ⟨k, hk, rfl, ht⟩ := hrel
    replace ht := Lib.hid ht
    by_cases hkl : k < l.length
    · obtain ⟨x, hx⟩ := get_some hkl
      obtain ⟨g, o, rfl, q⟩ := hc.out k x hx
      have i0 : (0 : Int) ≤ (k : Int) := by omega
      have i1 : (k : Int) < (l.length : Int) := by omega
      by_cases hs : x.1 = t
      · have hsb : (x.1 == t) = true := by rw [beq_iff_eq]; exact hs
        have hf : Hid (hasT l t = true) := Lib.hid (hasT_at hx hs)
        replace hx := Lib.hid hx
        replace hs := Lib.hid hs
        go_wp2_with fail
        go_ret
        exact ⟨ret_bool hf.out.symm, rfl⟩
      · have hsb : (x.1 == t) = false := by rw [beq_eq_false_iff_ne]; exact hs
        replace hx := Lib.hid hx
        replace hs := Lib.hid hs
        go_wp2_with fail
        go_round
        case rel => exact ⟨k + 1, by omega, by go_num, by rw [List.take_add_one, hx.out, List.all_append, ht.out]; simp [hs.out]⟩
        case measure => simp [intOf]; omega
    · have i1 : ¬ (k : Int) < (l.length : Int) := by omega
      have hf : Hid (hasT l t = false) := Lib.hid (hasT_none (by have := ht.out; rwa [List.take_of_length_le (by omega)] at this))
      go_wp2_with fail
      go_ret
      exact ⟨ret_bool hf.out.symm, rfl⟩

theorem lab_att {W : World} {B : Nat} {x : Work} {L : List I64} {A5 : Option Addr} {c5 : Nat} (h : LabWork W W.heap.size x) (ho : Own iE 1 3 W B (.slice A5 L.length c5) L) (h1 : L.length ≤ c5) (h2 : c5 ≤ maxLen) : LabWork W W.heap.size (atW { x with toks := L } x.labsA x.labsC A5 c5) := ⟨h.1, h.2.1, h.2.2.1, h1, h2, ho.reads iE_len⟩
set_option maxRecDepth 100000 in
set_option maxHeartbeats 16000000 in
theorem rattach_any (x : Work) (t : I64) (w : World) (hx : LabWork w w.heap.size x) (ho : LabOk x) (hn : x.toks.length ≤ 1000000) :
    Calls Tryz.prog 7 #[(.agg #[.string x.id.1, .slice x.labsA x.labs.length x.labsC, .int .i64 x.trust.1, .int .i64 x.slots.1, .bool x.pre, .int .i64 x.phase.1, .int .i64 x.beat.1, .int .i64 x.till.1, .slice x.toksA x.toks.length x.toksC]), .int .i64 t.1] w fun e w' => ∃ A2 C2, e = .returned (.tuple #[.agg (workE (atW (attW x t) x.labsA x.labsC A2 C2)).toArray, .int .i64 (attE x t.1)]) ∧ LabWork w' w'.heap.size (atW (attW x t) x.labsA x.labsC A2 C2) ∧ Below w.heap.size w w' := by
  obtain ⟨inf, hi0, iz0, iz1, iz2⟩ := info_parts int_info
  have hxd : Hid (∀ W, Below w.heap.size w W → LabWork W W.heap.size x) := Lib.hid fun W hb => (hx.below hb (Nat.le_refl _)).more hb.size
  have hv := fun W (hb : Below w.heap.size w W) => rwvalid_any x W (hxd.out W hb) ho
  have hin0 := fun W => inside_any t.1 1 1125899906842624 W
  have hha0 : ∀ W, Below w.heap.size w W → Calls Tryz.prog 21 #[.slice x.toksA x.toks.length x.toksC, .int .i64 t.1] W fun e w' => e = .returned (.bool (hasT x.toks t.1)) ∧ W = w' := fun W hb => rhas_any x.toksA x.toksC x.toks t.1 W (hxd.out W hb).2.2.2.2.2 (by omega)
  have hrx := Lib.hid hx.2.2.2.2.2
  have hlc := hx.2.2.2.1
  clear hx ho
  by_cases h0 : wErr x = 0
  · rw [h0] at hv
    have hva := Lib.hid hv
    clear hv
    by_cases hrg : 1 ≤ t.1 ∧ t.1 ≤ 1125899906842624
    · obtain ⟨h1, h4⟩ := hrg
      rw [decide_eq_true h1, decide_eq_true h4] at hin0
      have hin := Lib.hid hin0
      clear hin0
      have he3 := attE_3 (x := x) (t := t.1) h0 (show ¬ t.1 < 1 by omega) (show ¬ 1125899906842624 < t.1 by omega)
      replace h0 := Lib.hid h0
      rcases hht : hasT x.toks t.1 with _ | _
      · rw [hht] at hha0 he3
        rw [if_neg (by decide)] at he3
        have hha := Lib.hid hha0
        clear hha0
        replace hht := Lib.hid hht
        by_cases hp : x.phase.1 ≠ 0
        · rw [if_pos hp] at he3
          have hse := Lib.hid he3
          clear he3
          have hsw := Lib.hid (attW_no hse.out (by decide))
          have hpn : (x.phase.1 != 0) = true := by rw [bne_iff_ne]; exact hp
          replace hp := Lib.hid hp
          go_enter Tryz.func7, Tryz.ntmps7
          go_wp2_with (first
            | (go_at_call 19; go_must (refine (hva.out _ (by repeat (first | (with_reducible exact Below.refl _ _) | (with_reducible refine Below.drew ?_) | (with_reducible refine below_drewN ?_ _) | ((with_reducible refine Below.alloc ?_ ?_ _); rotate_left; focus ((try simp) <;> omega)) | ((with_reducible refine Below.setCell ?_ ?_ _); rotate_left; focus ((try simp) <;> omega)) | ((with_reducible refine Below.trans ?_ (Below.mono (by assumption) ?_)); rotate_left; focus ((try simp) <;> omega))))).mono ?_; rintro e w1 ⟨rfl, hb1⟩; have hz1 := hb1.size; (try simp at hz1); have hz1a : w.heap.size < w1.heap.size := (by omega); have hz1b : w.heap.size + 1 < w1.heap.size := (by omega); obtain ⟨hc1, hf1⟩ := blk_at hb1 w.heap.size (by (try simp) <;> omega); obtain ⟨hd1, hg1⟩ := blk_at hb1 (w.heap.size + 1) (by (try simp) <;> omega); have hb01 : Below w.heap.size w w1 := (by repeat (first | (with_reducible exact Below.refl _ _) | (with_reducible refine Below.drew ?_) | (with_reducible refine below_drewN ?_ _) | ((with_reducible refine Below.alloc ?_ ?_ _); rotate_left; focus ((try simp) <;> omega)) | ((with_reducible refine Below.setCell ?_ ?_ _); rotate_left; focus ((try simp) <;> omega)) | ((with_reducible refine Below.trans ?_ (Below.mono (by assumption) ?_)); rotate_left; focus ((try simp) <;> omega))))))
            | (go_at_call 20; go_must (refine (hin.out _).mono ?_; rintro e w2 ⟨rfl, rfl⟩))
            | (go_at_call 21; go_must (refine (hha.out _ (by repeat (first | (with_reducible exact Below.refl _ _) | (with_reducible refine Below.drew ?_) | (with_reducible refine below_drewN ?_ _) | ((with_reducible refine Below.alloc ?_ ?_ _); rotate_left; focus ((try simp) <;> omega)) | ((with_reducible refine Below.setCell ?_ ?_ _); rotate_left; focus ((try simp) <;> omega)) | ((with_reducible refine Below.trans ?_ (Below.mono (by assumption) ?_)); rotate_left; focus ((try simp) <;> omega))))).mono ?_; rintro e w3 ⟨rfl, rfl⟩)))
          exact bodyPost_ret (v := .tuple #[.agg (workE x).toArray, .int .i64 16]) (by simp [results, Tryz.results7, go_sem, hd1, workE]) rfl ⟨x.toksA, x.toksC, by rw [hse.out, hsw.out]; rfl, by rw [hsw.out]; exact hxd.out _ (by repeat (first | (with_reducible exact Below.refl _ _) | (with_reducible refine Below.drew ?_) | (with_reducible refine below_drewN ?_ _) | ((with_reducible refine Below.alloc ?_ ?_ _); rotate_left; focus ((try simp) <;> omega)) | ((with_reducible refine Below.setCell ?_ ?_ _); rotate_left; focus ((try simp) <;> omega)) | ((with_reducible refine Below.trans ?_ (Below.mono (by assumption) ?_)); rotate_left; focus ((try simp) <;> omega)))), (by repeat (first | (with_reducible exact Below.refl _ _) | (with_reducible refine Below.drew ?_) | (with_reducible refine below_drewN ?_ _) | ((with_reducible refine Below.alloc ?_ ?_ _); rotate_left; focus ((try simp) <;> omega)) | ((with_reducible refine Below.setCell ?_ ?_ _); rotate_left; focus ((try simp) <;> omega)) | ((with_reducible refine Below.trans ?_ (Below.mono (by assumption) ?_)); rotate_left; focus ((try simp) <;> omega))))⟩
        rw [if_neg hp] at he3
        have hpn : (x.phase.1 != 0) = false := by rw [bne_eq_false_iff_eq]; omega
        replace hp := Lib.hid hp
        by_cases hfu : x.slots.1 ≤ (x.toks.length : Int)
        · rw [if_pos hfu] at he3
          have hse := Lib.hid he3
          clear he3
          have hsw := Lib.hid (attW_no hse.out (by decide))
          have hfg : (x.toks.length : Int) ≥ x.slots.1 := hfu
          go_enter Tryz.func7, Tryz.ntmps7
          go_wp2_with (first
            | (go_at_call 19; go_must (refine (hva.out _ (by repeat (first | (with_reducible exact Below.refl _ _) | (with_reducible refine Below.drew ?_) | (with_reducible refine below_drewN ?_ _) | ((with_reducible refine Below.alloc ?_ ?_ _); rotate_left; focus ((try simp) <;> omega)) | ((with_reducible refine Below.setCell ?_ ?_ _); rotate_left; focus ((try simp) <;> omega)) | ((with_reducible refine Below.trans ?_ (Below.mono (by assumption) ?_)); rotate_left; focus ((try simp) <;> omega))))).mono ?_; rintro e w1 ⟨rfl, hb1⟩; have hz1 := hb1.size; (try simp at hz1); have hz1a : w.heap.size < w1.heap.size := (by omega); have hz1b : w.heap.size + 1 < w1.heap.size := (by omega); obtain ⟨hc1, hf1⟩ := blk_at hb1 w.heap.size (by (try simp) <;> omega); obtain ⟨hd1, hg1⟩ := blk_at hb1 (w.heap.size + 1) (by (try simp) <;> omega); have hb01 : Below w.heap.size w w1 := (by repeat (first | (with_reducible exact Below.refl _ _) | (with_reducible refine Below.drew ?_) | (with_reducible refine below_drewN ?_ _) | ((with_reducible refine Below.alloc ?_ ?_ _); rotate_left; focus ((try simp) <;> omega)) | ((with_reducible refine Below.setCell ?_ ?_ _); rotate_left; focus ((try simp) <;> omega)) | ((with_reducible refine Below.trans ?_ (Below.mono (by assumption) ?_)); rotate_left; focus ((try simp) <;> omega))))))
            | (go_at_call 20; go_must (refine (hin.out _).mono ?_; rintro e w2 ⟨rfl, rfl⟩))
            | (go_at_call 21; go_must (refine (hha.out _ (by repeat (first | (with_reducible exact Below.refl _ _) | (with_reducible refine Below.drew ?_) | (with_reducible refine below_drewN ?_ _) | ((with_reducible refine Below.alloc ?_ ?_ _); rotate_left; focus ((try simp) <;> omega)) | ((with_reducible refine Below.setCell ?_ ?_ _); rotate_left; focus ((try simp) <;> omega)) | ((with_reducible refine Below.trans ?_ (Below.mono (by assumption) ?_)); rotate_left; focus ((try simp) <;> omega))))).mono ?_; rintro e w3 ⟨rfl, rfl⟩)))
          exact bodyPost_ret (v := .tuple #[.agg (workE x).toArray, .int .i64 21]) (by simp [results, Tryz.results7, go_sem, hd1, workE]) rfl ⟨x.toksA, x.toksC, by rw [hse.out, hsw.out]; rfl, by rw [hsw.out]; exact hxd.out _ (by repeat (first | (with_reducible exact Below.refl _ _) | (with_reducible refine Below.drew ?_) | (with_reducible refine below_drewN ?_ _) | ((with_reducible refine Below.alloc ?_ ?_ _); rotate_left; focus ((try simp) <;> omega)) | ((with_reducible refine Below.setCell ?_ ?_ _); rotate_left; focus ((try simp) <;> omega)) | ((with_reducible refine Below.trans ?_ (Below.mono (by assumption) ?_)); rotate_left; focus ((try simp) <;> omega)))), (by repeat (first | (with_reducible exact Below.refl _ _) | (with_reducible refine Below.drew ?_) | (with_reducible refine below_drewN ?_ _) | ((with_reducible refine Below.alloc ?_ ?_ _); rotate_left; focus ((try simp) <;> omega)) | ((with_reducible refine Below.setCell ?_ ?_ _); rotate_left; focus ((try simp) <;> omega)) | ((with_reducible refine Below.trans ?_ (Below.mono (by assumption) ?_)); rotate_left; focus ((try simp) <;> omega))))⟩
        · rw [if_neg hfu] at he3
          have hse := Lib.hid he3
          clear he3
          obtain ⟨L, hL0⟩ : ∃ L, attL x.toks t = L := ⟨_, rfl⟩
          have hsw : Hid (attW x t = { x with toks := L }) := Lib.hid (by rw [attW_ok hse.out, hL0])
          have hL := Lib.hid hL0.symm
          clear hL0
          have hfg : ¬ (x.toks.length : Int) ≥ x.slots.1 := hfu
          obtain ⟨TA, hTA⟩ : ∃ TA, x.toksA = TA := ⟨_, rfl⟩
          rw [hTA] at hva hha hrx ⊢
          replace hTA := Lib.hid hTA
          go_enter Tryz.func7, Tryz.ntmps7
          go_wp2_with (first
            | (go_at_call 19; go_must (refine (hva.out _ (by repeat (first | (with_reducible exact Below.refl _ _) | (with_reducible refine Below.drew ?_) | (with_reducible refine below_drewN ?_ _) | ((with_reducible refine Below.alloc ?_ ?_ _); rotate_left; focus ((try simp) <;> omega)) | ((with_reducible refine Below.setCell ?_ ?_ _); rotate_left; focus ((try simp) <;> omega)) | ((with_reducible refine Below.trans ?_ (Below.mono (by assumption) ?_)); rotate_left; focus ((try simp) <;> omega))))).mono ?_; rintro e w1 ⟨rfl, hb1⟩; have hz1 := hb1.size; (try simp at hz1); have hz1a : w.heap.size < w1.heap.size := (by omega); have hz1b : w.heap.size + 1 < w1.heap.size := (by omega); obtain ⟨hc1, hf1⟩ := blk_at hb1 w.heap.size (by (try simp) <;> omega); obtain ⟨hd1, hg1⟩ := blk_at hb1 (w.heap.size + 1) (by (try simp) <;> omega); have hb01 : Below w.heap.size w w1 := (by repeat (first | (with_reducible exact Below.refl _ _) | (with_reducible refine Below.drew ?_) | (with_reducible refine below_drewN ?_ _) | ((with_reducible refine Below.alloc ?_ ?_ _); rotate_left; focus ((try simp) <;> omega)) | ((with_reducible refine Below.setCell ?_ ?_ _); rotate_left; focus ((try simp) <;> omega)) | ((with_reducible refine Below.trans ?_ (Below.mono (by assumption) ?_)); rotate_left; focus ((try simp) <;> omega))))))
            | (go_at_call 20; go_must (refine (hin.out _).mono ?_; rintro e w2 ⟨rfl, rfl⟩))
            | (go_at_call 21; go_must (refine (hha.out _ (by repeat (first | (with_reducible exact Below.refl _ _) | (with_reducible refine Below.drew ?_) | (with_reducible refine below_drewN ?_ _) | ((with_reducible refine Below.alloc ?_ ?_ _); rotate_left; focus ((try simp) <;> omega)) | ((with_reducible refine Below.setCell ?_ ?_ _); rotate_left; focus ((try simp) <;> omega)) | ((with_reducible refine Below.trans ?_ (Below.mono (by assumption) ?_)); rotate_left; focus ((try simp) <;> omega))))).mono ?_; rintro e w3 ⟨rfl, rfl⟩)))
          have htk : Hid (∀ W, Below w1.heap.size w1 W → Rw iE 1 W w.heap.size TA x.toks) := Lib.hid fun W hb => hrx.out.below (hb01.trans (hb.mono (by omega))) (Nat.le_refl _)
          go_loop [6] (fun vi => ∃ k : Nat, k ≤ x.toks.length ∧ vi = .int .i64 (k : Int) ∧ (∀ (j : Nat) (y : I64), j < k → x.toks[j]? = some y → y.1 < t.1)) (fun vi => x.toks.length - (intOf vi).toNat)
          case atStart => exact ⟨0, Nat.zero_le _, rfl, fun j y hj => absurd hj (by omega)⟩
          case round =>
            obtain ⟨k, hk, rfl, ht⟩ := hrel
            replace ht := Lib.hid ht
            by_cases hkl : k < x.toks.length
            · obtain ⟨y, hy⟩ := get_some hkl
              obtain ⟨g, o, rfl, hgB, hq⟩ := (htk.out _ (Below.refl _ _)).int (by omega)
              have q0 := hq k y hy
              clear hq
              have i0 : (0 : Int) ≤ (k : Int) := by omega
              have i1 : (k : Int) < (x.toks.length : Int) := by omega
              by_cases hneg : y.1 < t.1
              · replace hy := Lib.hid hy
                go_wp2_with fail
                go_round
                case rel => exact ⟨k + 1, by omega, by go_num, fun j z hj hz => by
                  by_cases e : j = k
                  · subst e
                    rw [hy.out] at hz
                    obtain rfl : y = z := by simpa using hz
                    exact hneg
                  · exact ht.out j z (by omega) hz⟩
                case measure => simp [intOf]; omega
              · have hstop : Hid (∀ z, x.toks[k]? = some z → ¬ z.1 < t.1) := Lib.hid fun z hz => by
                  rw [hy] at hz
                  obtain rfl : y = z := by simpa using hz
                  exact hneg
                replace hy := Lib.hid hy
                have hpl : Hid (plT x.toks t.1 = k) := Lib.hid (plT_at hk ht.out hstop.out)
                have hLe : Hid (x.toks.take k ++ [t] ++ x.toks.drop k = L) := Lib.hid (by rw [hL.out]; unfold attL; rw [hpl.out, List.append_assoc]; rfl)
                go_wp2_with (first
                  | (at_builtin
                     refine wpList_append_rw _ rfl (.tmp 48) (.tmp 52) _ rfl iE_len iE_one w1.heap.size 3 inf _ 8 Tryz.underlying23 hi0 iz0 iz1 iz2 rfl (by omega) (.slice none 0 0) [] rfl (Own.nil _ _ _) w.heap.size _ k x.toksC (x.toks.take k) (by rw [List.length_take]; omega) rfl ?_ ?_ ?_ ?_ ?_
                     · exact (htk.out _ (Below.refl _ _)).take
                     · (try simp [maxLen]) <;> omega
                     · (try simp) <;> omega
                     · (try simp) <;> omega
                     intro v3 w3 hown3 hg3 hat3
                     rw [List.nil_append] at hown3
                     replace hat3 := Lib.hid (show v3.ownBlock = none ∨ v3.ownBlock = some w1.heap.size by simpa [Value.ownBlock] using hat3)
                     have hz3 := hg3.size
                     have hbw3 : Below w1.heap.size w1 w3 := (Below.refl _ _).grown hg3 (by omega) (fun g hg => by simp [Value.ownBlock] at hg)
                     obtain ⟨hc3, hf3⟩ := blk_at hbw3 w.heap.size (by omega)
                     obtain ⟨hd3, hk3⟩ := blk_at hbw3 (w.heap.size + 1) (by omega))
                  | (at_builtin
                     refine wpList_append_rw _ rfl (.tmp 54) (.tmp 56) _ rfl iE_len iE_one w1.heap.size 3 inf _ 8 Tryz.underlying23 hi0 iz0 iz1 iz2 rfl (by omega) v3 (x.toks.take k) rfl (hown3.alloc _) _ (some ⟨w3.heap.size, 0, none⟩) 1 1 [t] rfl rfl ((Own.lit (enc := iE) (l := [t]) (base := 0) #[.int .i64 t.1] (Nat.zero_le _) (by simp [maxLen]) (by simp [iE]) iE_len).reads iE_len) ?_ ?_ ?_ ?_
                     · (try simp [maxLen]) <;> omega
                     · (try simp) <;> omega
                     · (try simp) <;> omega
                     intro v4 w4 hown4 hg4 hat4
                     have hz4 := hg4.size
                     simp at hz4
                     have hbw4 : Below w1.heap.size w1 w4 := (hbw3.alloc (by omega) _).grown hg4 (by simp; omega) (fun g hg => by rcases hat3.out with h | h <;> rw [h] at hg <;> simp at hg <;> omega)
                     obtain ⟨hc4, hf4⟩ := blk_at hbw4 w.heap.size (by omega)
                     obtain ⟨hd4, hk4⟩ := blk_at hbw4 (w.heap.size + 1) (by omega))
                  | (at_builtin
                     go_must (refine wpList_append_rw _ rfl (.tmp 58) (.tmp 62) _ rfl iE_len iE_one w1.heap.size 3 inf _ 8 Tryz.underlying23 hi0 iz0 iz1 iz2 rfl (by omega) v4 (x.toks.take k ++ [t]) rfl hown4 w.heap.size _ (x.toks.length - k) _ (x.toks.drop k) (by rw [List.length_drop]) rfl ?_ ?_ ?_ ?_ ?_)
                     · first
                         | exact (htk.out _ hbw4).drop hlc
                         | (have h := (htk.out _ hbw4).drop (a := k) hlc; simp only [Option.map_some, addr_plain, Nat.mul_one] at h; exact h)
                         | (have h := (htk.out _ hbw4).drop (a := k) hlc; rw [if_neg (by omega)] at h; simp only [Option.map_some, addr_plain, Nat.mul_one] at h; exact h)
                         | (have h := (htk.out _ hbw4).drop (a := k) hlc; simp only [Nat.mul_one] at h; exact h)
                         | (have h := (htk.out _ hbw4).drop (a := k) hlc; rw [if_neg (by omega)] at h; simp only [Nat.mul_one] at h; exact h)
                         | (have h := (htk.out _ hbw4).drop (a := k) hlc; rw [if_pos (by omega)] at h; exact h)
                     · (try simp [maxLen]) <;> omega
                     · (try simp) <;> omega
                     · (try simp) <;> omega
                     intro v5 w5 hown5 hg5 hat5
                     rw [hLe.out] at hown5
                     have hz5 := hg5.size
                     have hbw5 : Below w1.heap.size w1 w5 := hbw4.grown hg5 (by omega) (fun g hg => by
                       rcases hat4 with h | h
                       · rw [h] at hg; rcases hat3.out with h | h <;> rw [h] at hg <;> simp at hg <;> omega
                       · rw [h] at hg; simp at hg; omega)
                     have hz15 : w1.heap.size ≤ w5.heap.size := hbw5.size
                     have hz5a : w.heap.size < w5.heap.size := (by omega)
                     have hz5b : w.heap.size + 1 < w5.heap.size := (by omega)
                     obtain ⟨hc5, hf5⟩ := blk_at hbw5 w.heap.size (by omega)
                     obtain ⟨hd5, hk5⟩ := blk_at hbw5 (w.heap.size + 1) (by omega)
                     obtain ⟨A5, c5, hv5, hlc5, hm5, hlt5⟩ := hown5.form
                     subst hv5
                     have hb05 : Below w.heap.size w w5 := hb01.trans (hbw5.mono (by omega))))
                all_goals
                  refine bodyPost_ret (v := .tuple #[.agg (workE (atW { x with toks := L } x.labsA x.labsC A5 c5)).toArray, .int .i64 0]) (by simp [results, Tryz.results7, go_sem, workE, atW, hd1, hd5]) rfl ⟨A5, c5, by rw [hse.out, hsw.out], ?_, (by repeat (first | (with_reducible exact Below.refl _ _) | (with_reducible refine Below.drew ?_) | (with_reducible refine below_drewN ?_ _) | ((with_reducible refine Below.alloc ?_ ?_ _); rotate_left; focus ((try simp) <;> omega)) | ((with_reducible refine Below.setCell ?_ ?_ _); rotate_left; focus ((try simp) <;> omega)) | ((with_reducible refine Below.trans ?_ (Below.mono (by assumption) ?_)); rotate_left; focus ((try simp) <;> omega))))⟩
                  rw [hsw.out]
                  refine lab_att (B := w1.heap.size) (hxd.out _ (by repeat (first | (with_reducible exact Below.refl _ _) | (with_reducible refine Below.drew ?_) | (with_reducible refine below_drewN ?_ _) | ((with_reducible refine Below.alloc ?_ ?_ _); rotate_left; focus ((try simp) <;> omega)) | ((with_reducible refine Below.setCell ?_ ?_ _); rotate_left; focus ((try simp) <;> omega)) | ((with_reducible refine Below.trans ?_ (Below.mono (by assumption) ?_)); rotate_left; focus ((try simp) <;> omega))))) ?_ hlc5 hm5
                  (repeat (first
                    | (with_reducible exact hown5)
                    | (refine Own.setCell ?_ (fun g hg => by have := (hlt5 g hg).1; show g ≠ _; (try simp) <;> omega) _)
                    | (with_reducible refine Own.alloc ?_ _)
                    | (with_reducible refine Own.drew ?_)
                    | (with_reducible refine Own.all ?_ (by assumption))))
            · have i1 : ¬ (k : Int) < (x.toks.length : Int) := by omega
              have hstop : Hid (∀ z, x.toks[k]? = some z → ¬ z.1 < t.1) := Lib.hid fun z hz => by
                rw [List.getElem?_eq_none (by omega)] at hz; cases hz
              have hpl : Hid (plT x.toks t.1 = k) := Lib.hid (plT_at hk ht.out hstop.out)
              have hLe : Hid (x.toks.take k ++ [t] ++ x.toks.drop k = L) := Lib.hid (by rw [hL.out]; unfold attL; rw [hpl.out, List.append_assoc]; rfl)
              go_wp2_with (first
                | (at_builtin
                   refine wpList_append_rw _ rfl (.tmp 48) (.tmp 52) _ rfl iE_len iE_one w1.heap.size 3 inf _ 8 Tryz.underlying23 hi0 iz0 iz1 iz2 rfl (by omega) (.slice none 0 0) [] rfl (Own.nil _ _ _) w.heap.size _ k x.toksC (x.toks.take k) (by rw [List.length_take]; omega) rfl ?_ ?_ ?_ ?_ ?_
                   · exact (htk.out _ (Below.refl _ _)).take
                   · (try simp [maxLen]) <;> omega
                   · (try simp) <;> omega
                   · (try simp) <;> omega
                   intro v3 w3 hown3 hg3 hat3
                   rw [List.nil_append] at hown3
                   replace hat3 := Lib.hid (show v3.ownBlock = none ∨ v3.ownBlock = some w1.heap.size by simpa [Value.ownBlock] using hat3)
                   have hz3 := hg3.size
                   have hbw3 : Below w1.heap.size w1 w3 := (Below.refl _ _).grown hg3 (by omega) (fun g hg => by simp [Value.ownBlock] at hg)
                   obtain ⟨hc3, hf3⟩ := blk_at hbw3 w.heap.size (by omega)
                   obtain ⟨hd3, hk3⟩ := blk_at hbw3 (w.heap.size + 1) (by omega))
                | (at_builtin
                   refine wpList_append_rw _ rfl (.tmp 54) (.tmp 56) _ rfl iE_len iE_one w1.heap.size 3 inf _ 8 Tryz.underlying23 hi0 iz0 iz1 iz2 rfl (by omega) v3 (x.toks.take k) rfl (hown3.alloc _) _ (some ⟨w3.heap.size, 0, none⟩) 1 1 [t] rfl rfl ((Own.lit (enc := iE) (l := [t]) (base := 0) #[.int .i64 t.1] (Nat.zero_le _) (by simp [maxLen]) (by simp [iE]) iE_len).reads iE_len) ?_ ?_ ?_ ?_
                   · (try simp [maxLen]) <;> omega
                   · (try simp) <;> omega
                   · (try simp) <;> omega
                   intro v4 w4 hown4 hg4 hat4
                   have hz4 := hg4.size
                   simp at hz4
                   have hbw4 : Below w1.heap.size w1 w4 := (hbw3.alloc (by omega) _).grown hg4 (by simp; omega) (fun g hg => by rcases hat3.out with h | h <;> rw [h] at hg <;> simp at hg <;> omega)
                   obtain ⟨hc4, hf4⟩ := blk_at hbw4 w.heap.size (by omega)
                   obtain ⟨hd4, hk4⟩ := blk_at hbw4 (w.heap.size + 1) (by omega))
                | (at_builtin
                   go_must (refine wpList_append_rw _ rfl (.tmp 58) (.tmp 62) _ rfl iE_len iE_one w1.heap.size 3 inf _ 8 Tryz.underlying23 hi0 iz0 iz1 iz2 rfl (by omega) v4 (x.toks.take k ++ [t]) rfl hown4 w.heap.size _ (x.toks.length - k) _ (x.toks.drop k) (by rw [List.length_drop]) rfl ?_ ?_ ?_ ?_ ?_)
                   · first
                       | exact (htk.out _ hbw4).drop hlc
                       | (have h := (htk.out _ hbw4).drop (a := k) hlc; simp only [Nat.mul_one] at h; exact h)
                       | (have h := (htk.out _ hbw4).drop (a := k) hlc; rw [if_neg (by omega)] at h; simp only [Option.map_some, addr_plain, Nat.mul_one] at h; exact h)
                       | (have h := (htk.out _ hbw4).drop (a := k) hlc; simp only [Nat.mul_one] at h; exact h)
                       | (have h := (htk.out _ hbw4).drop (a := k) hlc; rw [if_neg (by omega)] at h; simp only [Nat.mul_one] at h; exact h)
                       | (have h := (htk.out _ hbw4).drop (a := k) hlc; rw [if_pos (by omega)] at h; exact h)
                   · (try simp [maxLen]) <;> omega
                   · (try simp) <;> omega
                   · (try simp) <;> omega
                   intro v5 w5 hown5 hg5 hat5
                   rw [hLe.out] at hown5
                   have hz5 := hg5.size
                   have hbw5 : Below w1.heap.size w1 w5 := hbw4.grown hg5 (by omega) (fun g hg => by
                     rcases hat4 with h | h
                     · rw [h] at hg; rcases hat3.out with h | h <;> rw [h] at hg <;> simp at hg <;> omega
                     · rw [h] at hg; simp at hg; omega)
                   have hz15 : w1.heap.size ≤ w5.heap.size := hbw5.size
                   have hz5a : w.heap.size < w5.heap.size := (by omega)
                   have hz5b : w.heap.size + 1 < w5.heap.size := (by omega)
                   obtain ⟨hc5, hf5⟩ := blk_at hbw5 w.heap.size (by omega)
                   obtain ⟨hd5, hk5⟩ := blk_at hbw5 (w.heap.size + 1) (by omega)
                   obtain ⟨A5, c5, hv5, hlc5, hm5, hlt5⟩ := hown5.form
                   subst hv5
                   have hb05 : Below w.heap.size w w5 := hb01.trans (hbw5.mono (by omega))))
              all_goals
                refine bodyPost_ret (v := .tuple #[.agg (workE (atW { x with toks := L } x.labsA x.labsC A5 c5)).toArray, .int .i64 0]) (by simp [results, Tryz.results7, go_sem, workE, atW, hd1, hd5]) rfl ⟨A5, c5, by rw [hse.out, hsw.out], ?_, (by repeat (first | (with_reducible exact Below.refl _ _) | (with_reducible refine Below.drew ?_) | (with_reducible refine below_drewN ?_ _) | ((with_reducible refine Below.alloc ?_ ?_ _); rotate_left; focus ((try simp) <;> omega)) | ((with_reducible refine Below.setCell ?_ ?_ _); rotate_left; focus ((try simp) <;> omega)) | ((with_reducible refine Below.trans ?_ (Below.mono (by assumption) ?_)); rotate_left; focus ((try simp) <;> omega))))⟩
                rw [hsw.out]
                refine lab_att (B := w1.heap.size) (hxd.out _ (by repeat (first | (with_reducible exact Below.refl _ _) | (with_reducible refine Below.drew ?_) | (with_reducible refine below_drewN ?_ _) | ((with_reducible refine Below.alloc ?_ ?_ _); rotate_left; focus ((try simp) <;> omega)) | ((with_reducible refine Below.setCell ?_ ?_ _); rotate_left; focus ((try simp) <;> omega)) | ((with_reducible refine Below.trans ?_ (Below.mono (by assumption) ?_)); rotate_left; focus ((try simp) <;> omega))))) ?_ hlc5 hm5
                (repeat (first
                  | (with_reducible exact hown5)
                  | (refine Own.setCell ?_ (fun g hg => by have := (hlt5 g hg).1; show g ≠ _; (try simp) <;> omega) _)
                  | (with_reducible refine Own.alloc ?_ _)
                  | (with_reducible refine Own.drew ?_)
                  | (with_reducible refine Own.all ?_ (by assumption))))
      · rw [hht] at hha0 he3
        rw [if_pos rfl] at he3
        have hha := Lib.hid hha0
        clear hha0
        have hse := Lib.hid he3
        clear he3
        have hsw := Lib.hid (attW_no hse.out (by decide))
        replace hht := Lib.hid hht
        go_enter Tryz.func7, Tryz.ntmps7
        go_wp2_with (first
          | (go_at_call 19; go_must (refine (hva.out _ (by repeat (first | (with_reducible exact Below.refl _ _) | (with_reducible refine Below.drew ?_) | (with_reducible refine below_drewN ?_ _) | ((with_reducible refine Below.alloc ?_ ?_ _); rotate_left; focus ((try simp) <;> omega)) | ((with_reducible refine Below.setCell ?_ ?_ _); rotate_left; focus ((try simp) <;> omega)) | ((with_reducible refine Below.trans ?_ (Below.mono (by assumption) ?_)); rotate_left; focus ((try simp) <;> omega))))).mono ?_; rintro e w1 ⟨rfl, hb1⟩; have hz1 := hb1.size; (try simp at hz1); have hz1a : w.heap.size < w1.heap.size := (by omega); have hz1b : w.heap.size + 1 < w1.heap.size := (by omega); obtain ⟨hc1, hf1⟩ := blk_at hb1 w.heap.size (by (try simp) <;> omega); obtain ⟨hd1, hg1⟩ := blk_at hb1 (w.heap.size + 1) (by (try simp) <;> omega); have hb01 : Below w.heap.size w w1 := (by repeat (first | (with_reducible exact Below.refl _ _) | (with_reducible refine Below.drew ?_) | (with_reducible refine below_drewN ?_ _) | ((with_reducible refine Below.alloc ?_ ?_ _); rotate_left; focus ((try simp) <;> omega)) | ((with_reducible refine Below.setCell ?_ ?_ _); rotate_left; focus ((try simp) <;> omega)) | ((with_reducible refine Below.trans ?_ (Below.mono (by assumption) ?_)); rotate_left; focus ((try simp) <;> omega))))))
          | (go_at_call 20; go_must (refine (hin.out _).mono ?_; rintro e w2 ⟨rfl, rfl⟩))
          | (go_at_call 21; go_must (refine (hha.out _ (by repeat (first | (with_reducible exact Below.refl _ _) | (with_reducible refine Below.drew ?_) | (with_reducible refine below_drewN ?_ _) | ((with_reducible refine Below.alloc ?_ ?_ _); rotate_left; focus ((try simp) <;> omega)) | ((with_reducible refine Below.setCell ?_ ?_ _); rotate_left; focus ((try simp) <;> omega)) | ((with_reducible refine Below.trans ?_ (Below.mono (by assumption) ?_)); rotate_left; focus ((try simp) <;> omega))))).mono ?_; rintro e w3 ⟨rfl, rfl⟩)))
        exact bodyPost_ret (v := .tuple #[.agg (workE x).toArray, .int .i64 7]) (by simp [results, Tryz.results7, go_sem, hd1, workE]) rfl ⟨x.toksA, x.toksC, by rw [hse.out, hsw.out]; rfl, by rw [hsw.out]; exact hxd.out _ (by repeat (first | (with_reducible exact Below.refl _ _) | (with_reducible refine Below.drew ?_) | (with_reducible refine below_drewN ?_ _) | ((with_reducible refine Below.alloc ?_ ?_ _); rotate_left; focus ((try simp) <;> omega)) | ((with_reducible refine Below.setCell ?_ ?_ _); rotate_left; focus ((try simp) <;> omega)) | ((with_reducible refine Below.trans ?_ (Below.mono (by assumption) ?_)); rotate_left; focus ((try simp) <;> omega)))), (by repeat (first | (with_reducible exact Below.refl _ _) | (with_reducible refine Below.drew ?_) | (with_reducible refine below_drewN ?_ _) | ((with_reducible refine Below.alloc ?_ ?_ _); rotate_left; focus ((try simp) <;> omega)) | ((with_reducible refine Below.setCell ?_ ?_ _); rotate_left; focus ((try simp) <;> omega)) | ((with_reducible refine Below.trans ?_ (Below.mono (by assumption) ?_)); rotate_left; focus ((try simp) <;> omega))))⟩
    · have hse := Lib.hid (attE_2 (x := x) (t := t.1) h0 (by omega))
      have hsw := Lib.hid (attW_no hse.out (by decide))
      have hib : (decide (1 ≤ t.1) && decide (t.1 ≤ 1125899906842624)) = false := by rw [Bool.eq_false_iff]; simp only [ne_eq, Bool.and_eq_true, decide_eq_true_eq]; exact hrg
      rw [hib] at hin0
      have hin := Lib.hid hin0
      have hha := Lib.hid hha0
      clear hin0 hib hrg hha0
      replace h0 := Lib.hid h0
      go_enter Tryz.func7, Tryz.ntmps7
      go_wp2_with (first
        | (go_at_call 19; go_must (refine (hva.out _ (by repeat (first | (with_reducible exact Below.refl _ _) | (with_reducible refine Below.drew ?_) | (with_reducible refine below_drewN ?_ _) | ((with_reducible refine Below.alloc ?_ ?_ _); rotate_left; focus ((try simp) <;> omega)) | ((with_reducible refine Below.setCell ?_ ?_ _); rotate_left; focus ((try simp) <;> omega)) | ((with_reducible refine Below.trans ?_ (Below.mono (by assumption) ?_)); rotate_left; focus ((try simp) <;> omega))))).mono ?_; rintro e w1 ⟨rfl, hb1⟩; have hz1 := hb1.size; (try simp at hz1); have hz1a : w.heap.size < w1.heap.size := (by omega); have hz1b : w.heap.size + 1 < w1.heap.size := (by omega); obtain ⟨hc1, hf1⟩ := blk_at hb1 w.heap.size (by (try simp) <;> omega); obtain ⟨hd1, hg1⟩ := blk_at hb1 (w.heap.size + 1) (by (try simp) <;> omega); have hb01 : Below w.heap.size w w1 := (by repeat (first | (with_reducible exact Below.refl _ _) | (with_reducible refine Below.drew ?_) | (with_reducible refine below_drewN ?_ _) | ((with_reducible refine Below.alloc ?_ ?_ _); rotate_left; focus ((try simp) <;> omega)) | ((with_reducible refine Below.setCell ?_ ?_ _); rotate_left; focus ((try simp) <;> omega)) | ((with_reducible refine Below.trans ?_ (Below.mono (by assumption) ?_)); rotate_left; focus ((try simp) <;> omega))))))
        | (go_at_call 20; go_must (refine (hin.out _).mono ?_; rintro e w2 ⟨rfl, rfl⟩))
        | (go_at_call 21; go_must (refine (hha.out _ (by repeat (first | (with_reducible exact Below.refl _ _) | (with_reducible refine Below.drew ?_) | (with_reducible refine below_drewN ?_ _) | ((with_reducible refine Below.alloc ?_ ?_ _); rotate_left; focus ((try simp) <;> omega)) | ((with_reducible refine Below.setCell ?_ ?_ _); rotate_left; focus ((try simp) <;> omega)) | ((with_reducible refine Below.trans ?_ (Below.mono (by assumption) ?_)); rotate_left; focus ((try simp) <;> omega))))).mono ?_; rintro e w3 ⟨rfl, rfl⟩)))
      exact bodyPost_ret (v := .tuple #[.agg (workE x).toArray, .int .i64 2]) (by simp [results, Tryz.results7, go_sem, hd1, workE]) rfl ⟨x.toksA, x.toksC, by rw [hse.out, hsw.out]; rfl, by rw [hsw.out]; exact hxd.out _ (by repeat (first | (with_reducible exact Below.refl _ _) | (with_reducible refine Below.drew ?_) | (with_reducible refine below_drewN ?_ _) | ((with_reducible refine Below.alloc ?_ ?_ _); rotate_left; focus ((try simp) <;> omega)) | ((with_reducible refine Below.setCell ?_ ?_ _); rotate_left; focus ((try simp) <;> omega)) | ((with_reducible refine Below.trans ?_ (Below.mono (by assumption) ?_)); rotate_left; focus ((try simp) <;> omega)))), (by repeat (first | (with_reducible exact Below.refl _ _) | (with_reducible refine Below.drew ?_) | (with_reducible refine below_drewN ?_ _) | ((with_reducible refine Below.alloc ?_ ?_ _); rotate_left; focus ((try simp) <;> omega)) | ((with_reducible refine Below.setCell ?_ ?_ _); rotate_left; focus ((try simp) <;> omega)) | ((with_reducible refine Below.trans ?_ (Below.mono (by assumption) ?_)); rotate_left; focus ((try simp) <;> omega))))⟩
  · have hse := Lib.hid (attE_1 (x := x) (t := t.1) h0)
    have hsw := Lib.hid (attW_no hse.out (by decide))
    have hne : (wErr x != 0) = true := by rw [bne_iff_ne]; exact h0
    generalize wErr x = E at *
    have hva := Lib.hid hv
    have hin := Lib.hid hin0
    have hha := Lib.hid hha0
    clear hv hin0 hha0
    replace h0 := Lib.hid h0
    go_enter Tryz.func7, Tryz.ntmps7
    go_wp2_with (first
      | (go_at_call 19; go_must (refine (hva.out _ (by repeat (first | (with_reducible exact Below.refl _ _) | (with_reducible refine Below.drew ?_) | (with_reducible refine below_drewN ?_ _) | ((with_reducible refine Below.alloc ?_ ?_ _); rotate_left; focus ((try simp) <;> omega)) | ((with_reducible refine Below.setCell ?_ ?_ _); rotate_left; focus ((try simp) <;> omega)) | ((with_reducible refine Below.trans ?_ (Below.mono (by assumption) ?_)); rotate_left; focus ((try simp) <;> omega))))).mono ?_; rintro e w1 ⟨rfl, hb1⟩; have hz1 := hb1.size; (try simp at hz1); have hz1a : w.heap.size < w1.heap.size := (by omega); have hz1b : w.heap.size + 1 < w1.heap.size := (by omega); obtain ⟨hc1, hf1⟩ := blk_at hb1 w.heap.size (by (try simp) <;> omega); obtain ⟨hd1, hg1⟩ := blk_at hb1 (w.heap.size + 1) (by (try simp) <;> omega); have hb01 : Below w.heap.size w w1 := (by repeat (first | (with_reducible exact Below.refl _ _) | (with_reducible refine Below.drew ?_) | (with_reducible refine below_drewN ?_ _) | ((with_reducible refine Below.alloc ?_ ?_ _); rotate_left; focus ((try simp) <;> omega)) | ((with_reducible refine Below.setCell ?_ ?_ _); rotate_left; focus ((try simp) <;> omega)) | ((with_reducible refine Below.trans ?_ (Below.mono (by assumption) ?_)); rotate_left; focus ((try simp) <;> omega))))))
      | (go_at_call 20; go_must (refine (hin.out _).mono ?_; rintro e w2 ⟨rfl, rfl⟩))
      | (go_at_call 21; go_must (refine (hha.out _ (by repeat (first | (with_reducible exact Below.refl _ _) | (with_reducible refine Below.drew ?_) | (with_reducible refine below_drewN ?_ _) | ((with_reducible refine Below.alloc ?_ ?_ _); rotate_left; focus ((try simp) <;> omega)) | ((with_reducible refine Below.setCell ?_ ?_ _); rotate_left; focus ((try simp) <;> omega)) | ((with_reducible refine Below.trans ?_ (Below.mono (by assumption) ?_)); rotate_left; focus ((try simp) <;> omega))))).mono ?_; rintro e w3 ⟨rfl, rfl⟩)))
    exact bodyPost_ret (v := .tuple #[.agg (workE x).toArray, .int .i64 1]) (by simp [results, Tryz.results7, go_sem, hd1, workE]) rfl ⟨x.toksA, x.toksC, by rw [hse.out, hsw.out]; rfl, by rw [hsw.out]; exact hxd.out _ (by repeat (first | (with_reducible exact Below.refl _ _) | (with_reducible refine Below.drew ?_) | (with_reducible refine below_drewN ?_ _) | ((with_reducible refine Below.alloc ?_ ?_ _); rotate_left; focus ((try simp) <;> omega)) | ((with_reducible refine Below.setCell ?_ ?_ _); rotate_left; focus ((try simp) <;> omega)) | ((with_reducible refine Below.trans ?_ (Below.mono (by assumption) ?_)); rotate_left; focus ((try simp) <;> omega)))), (by repeat (first | (with_reducible exact Below.refl _ _) | (with_reducible refine Below.drew ?_) | (with_reducible refine below_drewN ?_ _) | ((with_reducible refine Below.alloc ?_ ?_ _); rotate_left; focus ((try simp) <;> omega)) | ((with_reducible refine Below.setCell ?_ ?_ _); rotate_left; focus ((try simp) <;> omega)) | ((with_reducible refine Below.trans ?_ (Below.mono (by assumption) ?_)); rotate_left; focus ((try simp) <;> omega))))⟩

theorem det_yes {l : List I64} {t x : I64} {k : Nat} (hx : l[k]? = some x) (h : x.1 ≠ t.1) : detL (l.take (k + 1)) t = detL (l.take k) t ++ [x] := by
  unfold detL
  rw [List.take_add_one, hx, List.filter_append]
  simp [h]
theorem det_no {l : List I64} {t x : I64} {k : Nat} (hx : l[k]? = some x) (h : x.1 = t.1) : detL (l.take (k + 1)) t = detL (l.take k) t := by
  unfold detL
  rw [List.take_add_one, hx, List.filter_append]
  simp [h]
theorem det_le (l : List I64) (t : I64) : (detL l t).length ≤ l.length := List.length_filter_le _ _
set_option maxRecDepth 100000 in
set_option maxHeartbeats 16000000 in
theorem rdetach_any (x : Work) (t : I64) (w : World) (hx : LabWork w w.heap.size x) (hn : x.toks.length ≤ 1000000) :
    Calls Tryz.prog 10 #[(.agg #[.string x.id.1, .slice x.labsA x.labs.length x.labsC, .int .i64 x.trust.1, .int .i64 x.slots.1, .bool x.pre, .int .i64 x.phase.1, .int .i64 x.beat.1, .int .i64 x.till.1, .slice x.toksA x.toks.length x.toksC]), .int .i64 t.1] w fun e w' => ∃ A2 C2, e = .returned (.agg (workE (atW (detW x t) x.labsA x.labsC A2 C2)).toArray) ∧ LabWork w' w'.heap.size (atW (detW x t) x.labsA x.labsC A2 C2) ∧ Below w.heap.size w w' := by
  obtain ⟨inf, hi0, iz0, iz1, iz2⟩ := info_parts int_info
  have hxd : Hid (∀ W, Below w.heap.size w W → LabWork W W.heap.size x) := Lib.hid fun W hb => (hx.below hb (Nat.le_refl _)).more hb.size
  have hrx := hx.2.2.2.2.2
  clear hx
  obtain ⟨TA, hTA⟩ : ∃ TA, x.toksA = TA := ⟨_, rfl⟩
  rw [hTA] at hrx ⊢
  replace hTA := Lib.hid hTA
  replace hrx := Lib.hid hrx
  go_enter Tryz.func10, Tryz.ntmps10
  go_wp2_with fail
  obtain ⟨W1, hW1, hz1, hb1, d0, d1, d2, d3, d4, d5, d6, d7, d8, e0, e1, e2, e3, e4, e5, e6, e7, e8, hf1, hg1⟩ : ∃ W, (w.alloc (.cells #[.string x.id.1, .slice x.labsA x.labs.length x.labsC, .int .i64 x.trust.1, .int .i64 x.slots.1, .bool x.pre, .int .i64 x.phase.1, .int .i64 x.beat.1, .int .i64 x.till.1, .slice TA x.toks.length x.toksC] 25)).alloc (.cells #[.string ⟨#[]⟩, .slice none 0 0, .int .i64 0, .int .i64 0, .bool false, .int .i64 0, .int .i64 0, .int .i64 0, .slice none 0 0] 25) = W ∧ W.heap.size = w.heap.size + 1 + 1 ∧ Below w.heap.size w W ∧ W.cell? ⟨w.heap.size, 0, none⟩ = some (.string x.id.1) ∧ W.cell? ⟨w.heap.size, 1, none⟩ = some (.slice x.labsA x.labs.length x.labsC) ∧ W.cell? ⟨w.heap.size, 2, none⟩ = some (.int .i64 x.trust.1) ∧ W.cell? ⟨w.heap.size, 3, none⟩ = some (.int .i64 x.slots.1) ∧ W.cell? ⟨w.heap.size, 4, none⟩ = some (.bool x.pre) ∧ W.cell? ⟨w.heap.size, 5, none⟩ = some (.int .i64 x.phase.1) ∧ W.cell? ⟨w.heap.size, 6, none⟩ = some (.int .i64 x.beat.1) ∧ W.cell? ⟨w.heap.size, 7, none⟩ = some (.int .i64 x.till.1) ∧ W.cell? ⟨w.heap.size, 8, none⟩ = some (.slice TA x.toks.length x.toksC) ∧ W.cell? ⟨w.heap.size + 1, 0, none⟩ = some (.string ⟨#[]⟩) ∧ W.cell? ⟨w.heap.size + 1, 1, none⟩ = some (.slice none 0 0) ∧ W.cell? ⟨w.heap.size + 1, 2, none⟩ = some (.int .i64 0) ∧ W.cell? ⟨w.heap.size + 1, 3, none⟩ = some (.int .i64 0) ∧ W.cell? ⟨w.heap.size + 1, 4, none⟩ = some (.bool false) ∧ W.cell? ⟨w.heap.size + 1, 5, none⟩ = some (.int .i64 0) ∧ W.cell? ⟨w.heap.size + 1, 6, none⟩ = some (.int .i64 0) ∧ W.cell? ⟨w.heap.size + 1, 7, none⟩ = some (.int .i64 0) ∧ W.cell? ⟨w.heap.size + 1, 8, none⟩ = some (.slice none 0 0) ∧ (∀ o, W.frozen? ⟨w.heap.size, o, none⟩ = false) ∧ (∀ o, W.frozen? ⟨w.heap.size + 1, o, none⟩ = false) := ⟨_, rfl, by simp, ((Below.refl _ _).alloc (Nat.le_refl _) _).alloc (by simp) _, by go_simp, by go_simp, by go_simp, by go_simp, by go_simp, by go_simp, by go_simp, by go_simp, by go_simp, by go_simp, by go_simp, by go_simp, by go_simp, by go_simp, by go_simp, by go_simp, by go_simp, by go_simp, fun o => by go_simp, fun o => by go_simp⟩
  rw [hW1]
  replace hW1 := Lib.hid hW1
  have hz1a : w.heap.size < W1.heap.size := by omega
  have hz1b : w.heap.size + 1 < W1.heap.size := by omega
  go_loopw [5, 6] (fun vo vi wr => ∃ k : Nat, k ≤ x.toks.length ∧ vi = .int .i64 (k : Int) ∧ Own iE 1 3 wr W1.heap.size vo (detL (x.toks.take k) t) ∧ Below W1.heap.size W1 wr) (fun _ vi _ => x.toks.length - (intOf vi).toNat)
  case atStart => exact ⟨0, Nat.zero_le _, rfl, Own.nil _ _ _, Below.refl _ _⟩
  case round =>
    obtain ⟨k, hk, rfl, hown, hbw⟩ := hrel
    have hz := hbw.size
    obtain ⟨hc2, hf2⟩ := blk_at hbw w.heap.size (by omega)
    obtain ⟨hd2, hg2⟩ := blk_at hbw (w.heap.size + 1) (by omega)
    have hlow := hown.lt
    by_cases hkl : k < x.toks.length
    · obtain ⟨y, hy⟩ := get_some hkl
      obtain ⟨g, o, rfl, hgB, hq⟩ := (hrx.out.below (hb1.trans (hbw.mono (by omega))) (Nat.le_refl _)).int (by omega)
      have q0 := hq k y hy
      clear hq
      have i0 : (0 : Int) ≤ (k : Int) := by omega
      have i1 : (k : Int) < (x.toks.length : Int) := by omega
      by_cases he : y.1 = t.1
      · have hdn := Lib.hid (det_no (t := t) hy he)
        have heb : (y.1 != t.1) = false := by rw [bne_eq_false_iff_eq]; exact he
        replace he := Lib.hid he
        replace hy := Lib.hid hy
        go_wp2_with fail
        go_roundw
        case rel => exact ⟨k + 1, by omega, by go_num, by rw [hdn.out]; exact hown, hbw⟩
        case measure => simp [intOf]; omega
      · have hdy := Lib.hid (det_yes (t := t) hy he)
        have heb : (y.1 != t.1) = true := by rw [bne_iff_ne]; exact he
        have hdl : (detL (x.toks.take k) t).length ≤ k := by have := det_le (x.toks.take k) t; rw [List.length_take] at this; omega
        replace he := Lib.hid he
        replace hy := Lib.hid hy
        go_wp2_with (first
          | (at_builtin
             refine wpList_append_rw _ rfl (.tmp 21) (.tmp 27) _ rfl iE_len iE_one W1.heap.size 3 inf _ 8 Tryz.underlying23 hi0 iz0 iz1 iz2 rfl (by omega) u5 (detL (x.toks.take k) t) rfl (hown.alloc _) _ (some ⟨wr.heap.size, 0, none⟩) 1 1 [y] rfl rfl ((Own.lit (enc := iE) (l := [y]) (base := 0) #[.int .i64 y.1] (Nat.zero_le _) (by simp [maxLen]) (by simp [iE]) iE_len).reads iE_len) ?_ ?_ ?_ ?_
             · (try simp [maxLen]) <;> omega
             · (try simp) <;> omega
             · (try simp) <;> omega
             intro v4 w4 hown4 hg4 hat4
             have hz4 := hg4.size
             simp at hz4
             have hbw4 : Below W1.heap.size W1 w4 := (hbw.alloc (by omega) _).grown hg4 (by simp; omega) (fun g hg => by have := (hlow g hg).1; omega)))
        go_roundw
        case rel => exact ⟨k + 1, by omega, by go_num, by rw [hdy.out]; exact hown4, hbw4⟩
        case measure => simp [intOf]; omega
    · have i1 : ¬ (k : Int) < (x.toks.length : Int) := by omega
      obtain ⟨L, hL⟩ : ∃ L, detL x.toks t = L := ⟨_, rfl⟩
      have hown' : Own iE 1 3 wr W1.heap.size u5 L := by rw [← hL]; have h := hown; rwa [List.take_of_length_le (by omega)] at h
      have hY : Hid (detW x t = { x with toks := L }) := Lib.hid (by unfold detW; rw [hL])
      replace hL := Lib.hid hL
      clear hown
      obtain ⟨A5, c5, hv5, hlc5, hm5, hlt5⟩ := hown'.form
      subst hv5
      have hz2a : w.heap.size < wr.heap.size := by omega
      have hz2b : w.heap.size + 1 < wr.heap.size := by omega
      have hb05 : Below w.heap.size w wr := hb1.trans (hbw.mono (by omega))
      clear hlow
      go_wp2_with fail
      refine bodyPost_ret (v := .agg (workE (atW { x with toks := L } x.labsA x.labsC A5 c5)).toArray) (by simp [results, Tryz.results10, go_sem, workE, atW, hd2, e0, e1, e2, e3, e4, e5, e6, e7, e8]) rfl ⟨A5, c5, by rw [hY.out], ?_, (by repeat (first | (with_reducible exact Below.refl _ _) | (with_reducible refine Below.drew ?_) | (with_reducible refine below_drewN ?_ _) | ((with_reducible refine Below.alloc ?_ ?_ _); rotate_left; focus ((try simp) <;> omega)) | ((with_reducible refine Below.setCell ?_ ?_ _); rotate_left; focus ((try simp) <;> omega)) | ((with_reducible refine Below.trans ?_ (Below.mono (by assumption) ?_)); rotate_left; focus ((try simp) <;> omega))))⟩
      rw [hY.out]
      refine lab_att (B := W1.heap.size) (hxd.out _ (by repeat (first | (with_reducible exact Below.refl _ _) | (with_reducible refine Below.drew ?_) | (with_reducible refine below_drewN ?_ _) | ((with_reducible refine Below.alloc ?_ ?_ _); rotate_left; focus ((try simp) <;> omega)) | ((with_reducible refine Below.setCell ?_ ?_ _); rotate_left; focus ((try simp) <;> omega)) | ((with_reducible refine Below.trans ?_ (Below.mono (by assumption) ?_)); rotate_left; focus ((try simp) <;> omega))))) ?_ hlc5 hm5
      (repeat (first
        | (with_reducible exact hown')
        | (refine Own.setCell ?_ (fun g hg => by have := (hlt5 g hg).1; show g ≠ _; (try simp) <;> omega) _)
        | (with_reducible refine Own.alloc ?_ _)
        | (with_reducible refine Own.drew ?_)
        | (with_reducible refine Own.all ?_ (by assumption))))
end Go.Proofs.YtnahbfmbmpoljaaGreatDoor
