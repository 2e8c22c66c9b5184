/-
  The walks of workers: a lease recorded, by the program.
-/
import Derived.Test.YtnahbfmbmpoljaaDoorWk26



namespace Go.Proofs.YtnahbfmbmpoljaaDoor
open Go.RowKit

set_option maxRecDepth 100000 in
set_option maxHeartbeats 16000000 in
theorem attach_any (x : Work) (t : I64) (w : World) (hx : LabWork w w.heap.size x) (ho : LabOk x) (hn : x.labs.length ≤ 1000000 ∧ x.toks.length ≤ 1000000) (hG : Glob w) :
    Calls Tryd.prog 23 #[(.agg #[.string x.id.1, .slice x.labsA x.labs.length x.labsC, .int .i64 x.trust.1, .int .i64 x.slots.1, .bool x.pre, .int .i64 x.phase.1, .int .i64 x.beat.1, .int .i64 x.till.1, .slice x.toksA x.toks.length x.toksC]), .int .i64 t.1] w fun e w' => ∃ A C A2 C2, e = .returned (.tuple #[.agg (workE (atW (attW x t) A C A2 C2)).toArray, .int .i64 (attE x t.1)]) ∧ OwnW w' w.heap.size (atW (attW x t) A C A2 C2) ∧ Below w.heap.size w w' := by
  have hcp : Hid (∀ W, Below w.heap.size w W → Calls Tryd.prog 34 #[(.agg #[.string x.id.1, .slice x.labsA x.labs.length x.labsC, .int .i64 x.trust.1, .int .i64 x.slots.1, .bool x.pre, .int .i64 x.phase.1, .int .i64 x.beat.1, .int .i64 x.till.1, .slice x.toksA x.toks.length x.toksC])] W fun e w' => ∃ A C A2 C2, e = .returned (.agg #[.string x.id.1, .slice A x.labs.length C, .int .i64 x.trust.1, .int .i64 x.slots.1, .bool x.pre, .int .i64 x.phase.1, .int .i64 x.beat.1, .int .i64 x.till.1, .slice A2 x.toks.length C2]) ∧ OwnW w' W.heap.size (atW x A C A2 C2) ∧ (∀ g, (Value.slice A x.labs.length C).ownBlock = some g → (Value.slice A2 x.toks.length C2).ownBlock ≠ some g) ∧ Below W.heap.size W w') := Lib.hid fun W hb => copied_dis x W ((hx.below hb (Nat.le_refl _)).more hb.size) hn
  have hv : ∀ W, Below w.heap.size w W → Calls Tryd.prog 10 #[(.agg #[.string x.id.1, .slice x.labsA x.labs.length x.labsC, .int .i64 x.trust.1, .int .i64 x.slots.1, .bool x.pre, .int .i64 x.phase.1, .int .i64 x.beat.1, .int .i64 x.till.1, .slice x.toksA x.toks.length x.toksC])] W fun e w' => e = .returned (.int .i64 (wErr x)) ∧ Below W.heap.size W w' := fun W hb => wvalid_any x W ((hx.below hb (Nat.le_refl _)).more hb.size) ho (hG.keep hb)
  have hbs0 : ∀ W, Below w.heap.size w W → Calls Tryd.prog 48 #[.slice x.toksA x.toks.length x.toksC, .int .i64 t.1] W fun e w' => e = .returned (.tuple #[.int .i64 (atI t.1 x.toks : Int), .bool (hasI t.1 x.toks)]) ∧ Below W.heap.size W w' := fun W hb => bsi_any x.toksA x.toksC x.toks t W ((hx.2.2.2.2.2.below hb (Nat.le_refl _)).more hb.size) (by omega)
  have hKle := atI_le t.1 x.toks
  replace hn := Lib.hid hn
  clear hx ho hG
  by_cases h0 : wErr x = 0
  · have hw := wErr_ok h0
    have hasc := toks_asc hw.2.2.2.2.1
    have hhas := hasI_eq hasc t.1
    have hpl := plT_eq hasc t.1
    rw [h0] at hv
    have hva := Lib.hid hv
    clear hv hw
    rw [hhas] at hbs0
    obtain ⟨K, hKe⟩ : ∃ K, atI t.1 x.toks = K := ⟨_, rfl⟩
    rw [hKe] at hbs0 hKle hpl
    have hK := Lib.hid hKle
    clear hKle hasc
    replace hhas := Lib.hid hhas
    replace hKe := Lib.hid hKe
    by_cases h1 : t.1 < 1
    · have hse := Lib.hid (attE_2 (x := x) (t := t.1) h0 (Or.inl h1))
      have hsw := Lib.hid (attW_no hse.out (by decide))
      have hbs := Lib.hid hbs0
      clear hbs0
      replace h0 := Lib.hid h0
      replace hpl := Lib.hid hpl
      go_enter Tryd.func23, Tryd.ntmps23
      go_wp2_with (first
        | (go_at_call 34; go_must (refine (hcp.out _ (by repeat (first | (with_reducible exact Below.refl _ _) | (with_reducible refine Below.drew ?_) | (with_reducible refine below_drewN ?_ _) | ((with_reducible refine Below.alloc ?_ ?_ _); rotate_left; focus ((try simp) <;> omega)) | ((with_reducible refine Below.setCell ?_ ?_ _); rotate_left; focus ((try simp) <;> omega)) | ((with_reducible refine Below.trans ?_ (Below.mono (by assumption) ?_)); rotate_left; focus ((try simp) <;> omega))))).mono ?_; rintro e w1 ⟨A1, C1, A2, C2, rfl, ho1, hdis, hb1⟩; have hz1 := hb1.size; (try simp at hz1); have hz1a : w.heap.size < w1.heap.size := (by omega); have hz1b : w.heap.size + 1 < w1.heap.size := (by omega); obtain ⟨hc1, hf1⟩ := blk_at hb1 w.heap.size (by (try simp) <;> omega); obtain ⟨hd1, hg1⟩ := blk_at hb1 (w.heap.size + 1) (by (try simp) <;> omega)))
        | (go_at_call 48; go_must (refine (hbs.out _ (by repeat (first | (with_reducible exact Below.refl _ _) | (with_reducible refine Below.drew ?_) | (with_reducible refine below_drewN ?_ _) | ((with_reducible refine Below.alloc ?_ ?_ _); rotate_left; focus ((try simp) <;> omega)) | ((with_reducible refine Below.setCell ?_ ?_ _); rotate_left; focus ((try simp) <;> omega)) | ((with_reducible refine Below.trans ?_ (Below.mono (by assumption) ?_)); rotate_left; focus ((try simp) <;> omega))))).mono ?_; rintro e w2 ⟨rfl, hb2⟩; have hz2 := hb2.size; (try simp at hz2); have hz2a : w.heap.size < w2.heap.size := (by omega); have hz2b : w.heap.size + 1 < w2.heap.size := (by omega); have hz2c : w1.heap.size < w2.heap.size := (by omega); obtain ⟨hc2, hf2⟩ := blk_at hb2 w.heap.size (by (try simp) <;> omega); obtain ⟨hd2, hg2⟩ := blk_at hb2 (w.heap.size + 1) (by (try simp) <;> omega); obtain ⟨hk2, hl2⟩ := blk_at hb2 w1.heap.size (by (try simp) <;> omega)))
        | (go_at_call 10; go_must (refine (hva.out _ (by repeat (first | (with_reducible exact Below.refl _ _) | (with_reducible refine Below.drew ?_) | (with_reducible refine below_drewN ?_ _) | ((with_reducible refine Below.alloc ?_ ?_ _); rotate_left; focus ((try simp) <;> omega)) | ((with_reducible refine Below.setCell ?_ ?_ _); rotate_left; focus ((try simp) <;> omega)) | ((with_reducible refine Below.trans ?_ (Below.mono (by assumption) ?_)); rotate_left; focus ((try simp) <;> omega))))).mono ?_; rintro e w3 ⟨rfl, hb3⟩; have hz3 := hb3.size; (try simp at hz3); have hz3a : w.heap.size < w3.heap.size := (by omega); have hz3b : w.heap.size + 1 < w3.heap.size := (by omega); have hz3c : w1.heap.size < w3.heap.size := (by omega); obtain ⟨hc3, hf3⟩ := blk_at hb3 w.heap.size (by (try simp) <;> omega); obtain ⟨hd3, hg3⟩ := blk_at hb3 (w.heap.size + 1) (by (try simp) <;> omega); obtain ⟨hk3, hl3⟩ := blk_at hb3 w1.heap.size (by (try simp) <;> omega)))
        | fail)
      refine bodyPost_ret (v := .tuple #[.agg (workE (atW x A1 C1 A2 C2)).toArray, .int .i64 2]) (by simp [results, Tryd.results23, go_sem, workE, atW, hd1, hd2, hd3, hz1b]) rfl ⟨A1, C1, A2, C2, by rw [hse.out, hsw.out], ⟨?_, ?_⟩, (by repeat (first | (with_reducible exact Below.refl _ _) | (with_reducible refine Below.drew ?_) | (with_reducible refine below_drewN ?_ _) | ((with_reducible refine Below.alloc ?_ ?_ _); rotate_left; focus ((try simp) <;> omega)) | ((with_reducible refine Below.setCell ?_ ?_ _); rotate_left; focus ((try simp) <;> omega)) | ((with_reducible refine Below.trans ?_ (Below.mono (by assumption) ?_)); rotate_left; focus ((try simp) <;> omega))))⟩
      · have hlt := ho1.1.lt
        (try simp at hlt)
        have ho : Own sE 1 _ w1 w.heap.size (.slice A1 x.labs.length C1) x.labs := ho1.1.base (b' := w.heap.size) (by (try simp) <;> omega)
        rw [hsw.out]
        show Own sE 1 _ _ _ (.slice A1 x.labs.length C1) x.labs
        (repeat (first
          | (with_reducible exact ho)
          | (refine Own.setCell ?_ (fun g hg => by have := (hlt g hg).1; have := (hlt g hg).2; show g ≠ _; (try simp) <;> omega) _)
          | (with_reducible refine Own.alloc ?_ _)
          | (with_reducible refine Own.drew ?_)
          | (with_reducible refine Own.all ?_ (by assumption))))
      · have hlt := ho1.2.lt
        (try simp at hlt)
        have ho : Own iE 1 _ w1 w.heap.size (.slice A2 x.toks.length C2) x.toks := ho1.2.base (b' := w.heap.size) (by (try simp) <;> omega)
        rw [hsw.out]
        show Own iE 1 _ _ _ (.slice A2 x.toks.length C2) x.toks
        (repeat (first
          | (with_reducible exact ho)
          | (refine Own.setCell ?_ (fun g hg => by have := (hlt g hg).1; have := (hlt g hg).2; show g ≠ _; (try simp) <;> omega) _)
          | (with_reducible refine Own.alloc ?_ _)
          | (with_reducible refine Own.drew ?_)
          | (with_reducible refine Own.all ?_ (by assumption))))
    by_cases h4 : t.1 > 1125899906842624
    · have hse := Lib.hid (attE_2 (x := x) (t := t.1) h0 (Or.inr h4))
      have hsw := Lib.hid (attW_no hse.out (by decide))
      have hbs := Lib.hid hbs0
      clear hbs0
      replace h0 := Lib.hid h0
      replace hpl := Lib.hid hpl
      go_enter Tryd.func23, Tryd.ntmps23
      go_wp2_with (first
        | (go_at_call 34; go_must (refine (hcp.out _ (by repeat (first | (with_reducible exact Below.refl _ _) | (with_reducible refine Below.drew ?_) | (with_reducible refine below_drewN ?_ _) | ((with_reducible refine Below.alloc ?_ ?_ _); rotate_left; focus ((try simp) <;> omega)) | ((with_reducible refine Below.setCell ?_ ?_ _); rotate_left; focus ((try simp) <;> omega)) | ((with_reducible refine Below.trans ?_ (Below.mono (by assumption) ?_)); rotate_left; focus ((try simp) <;> omega))))).mono ?_; rintro e w1 ⟨A1, C1, A2, C2, rfl, ho1, hdis, hb1⟩; have hz1 := hb1.size; (try simp at hz1); have hz1a : w.heap.size < w1.heap.size := (by omega); have hz1b : w.heap.size + 1 < w1.heap.size := (by omega); obtain ⟨hc1, hf1⟩ := blk_at hb1 w.heap.size (by (try simp) <;> omega); obtain ⟨hd1, hg1⟩ := blk_at hb1 (w.heap.size + 1) (by (try simp) <;> omega)))
        | (go_at_call 48; go_must (refine (hbs.out _ (by repeat (first | (with_reducible exact Below.refl _ _) | (with_reducible refine Below.drew ?_) | (with_reducible refine below_drewN ?_ _) | ((with_reducible refine Below.alloc ?_ ?_ _); rotate_left; focus ((try simp) <;> omega)) | ((with_reducible refine Below.setCell ?_ ?_ _); rotate_left; focus ((try simp) <;> omega)) | ((with_reducible refine Below.trans ?_ (Below.mono (by assumption) ?_)); rotate_left; focus ((try simp) <;> omega))))).mono ?_; rintro e w2 ⟨rfl, hb2⟩; have hz2 := hb2.size; (try simp at hz2); have hz2a : w.heap.size < w2.heap.size := (by omega); have hz2b : w.heap.size + 1 < w2.heap.size := (by omega); have hz2c : w1.heap.size < w2.heap.size := (by omega); obtain ⟨hc2, hf2⟩ := blk_at hb2 w.heap.size (by (try simp) <;> omega); obtain ⟨hd2, hg2⟩ := blk_at hb2 (w.heap.size + 1) (by (try simp) <;> omega); obtain ⟨hk2, hl2⟩ := blk_at hb2 w1.heap.size (by (try simp) <;> omega)))
        | (go_at_call 10; go_must (refine (hva.out _ (by repeat (first | (with_reducible exact Below.refl _ _) | (with_reducible refine Below.drew ?_) | (with_reducible refine below_drewN ?_ _) | ((with_reducible refine Below.alloc ?_ ?_ _); rotate_left; focus ((try simp) <;> omega)) | ((with_reducible refine Below.setCell ?_ ?_ _); rotate_left; focus ((try simp) <;> omega)) | ((with_reducible refine Below.trans ?_ (Below.mono (by assumption) ?_)); rotate_left; focus ((try simp) <;> omega))))).mono ?_; rintro e w3 ⟨rfl, hb3⟩; have hz3 := hb3.size; (try simp at hz3); have hz3a : w.heap.size < w3.heap.size := (by omega); have hz3b : w.heap.size + 1 < w3.heap.size := (by omega); have hz3c : w1.heap.size < w3.heap.size := (by omega); obtain ⟨hc3, hf3⟩ := blk_at hb3 w.heap.size (by (try simp) <;> omega); obtain ⟨hd3, hg3⟩ := blk_at hb3 (w.heap.size + 1) (by (try simp) <;> omega); obtain ⟨hk3, hl3⟩ := blk_at hb3 w1.heap.size (by (try simp) <;> omega)))
        | fail)
      refine bodyPost_ret (v := .tuple #[.agg (workE (atW x A1 C1 A2 C2)).toArray, .int .i64 2]) (by simp [results, Tryd.results23, go_sem, workE, atW, hd1, hd2, hd3, hz1b]) rfl ⟨A1, C1, A2, C2, by rw [hse.out, hsw.out], ⟨?_, ?_⟩, (by repeat (first | (with_reducible exact Below.refl _ _) | (with_reducible refine Below.drew ?_) | (with_reducible refine below_drewN ?_ _) | ((with_reducible refine Below.alloc ?_ ?_ _); rotate_left; focus ((try simp) <;> omega)) | ((with_reducible refine Below.setCell ?_ ?_ _); rotate_left; focus ((try simp) <;> omega)) | ((with_reducible refine Below.trans ?_ (Below.mono (by assumption) ?_)); rotate_left; focus ((try simp) <;> omega))))⟩
      · have hlt := ho1.1.lt
        (try simp at hlt)
        have ho : Own sE 1 _ w1 w.heap.size (.slice A1 x.labs.length C1) x.labs := ho1.1.base (b' := w.heap.size) (by (try simp) <;> omega)
        rw [hsw.out]
        show Own sE 1 _ _ _ (.slice A1 x.labs.length C1) x.labs
        (repeat (first
          | (with_reducible exact ho)
          | (refine Own.setCell ?_ (fun g hg => by have := (hlt g hg).1; have := (hlt g hg).2; show g ≠ _; (try simp) <;> omega) _)
          | (with_reducible refine Own.alloc ?_ _)
          | (with_reducible refine Own.drew ?_)
          | (with_reducible refine Own.all ?_ (by assumption))))
      · have hlt := ho1.2.lt
        (try simp at hlt)
        have ho : Own iE 1 _ w1 w.heap.size (.slice A2 x.toks.length C2) x.toks := ho1.2.base (b' := w.heap.size) (by (try simp) <;> omega)
        rw [hsw.out]
        show Own iE 1 _ _ _ (.slice A2 x.toks.length C2) x.toks
        (repeat (first
          | (with_reducible exact ho)
          | (refine Own.setCell ?_ (fun g hg => by have := (hlt g hg).1; have := (hlt g hg).2; show g ≠ _; (try simp) <;> omega) _)
          | (with_reducible refine Own.alloc ?_ _)
          | (with_reducible refine Own.drew ?_)
          | (with_reducible refine Own.all ?_ (by assumption))))
    have he3 := attE_3 (x := x) (t := t.1) h0 h1 (show ¬ 1125899906842624 < t.1 from h4)
    replace h0 := Lib.hid h0
    rcases hht : hasT x.toks t.1 with _ | _
    · rw [hht] at hbs0 he3
      rw [if_neg (by decide)] at he3
      have hbs := Lib.hid hbs0
      clear hbs0
      replace hht := Lib.hid hht
      by_cases hp : x.phase.1 ≠ 0
      · rw [if_pos hp] at he3
        have hse := Lib.hid he3
        clear he3
        have hsw := Lib.hid (attW_no hse.out (by decide))
        have hpn : (x.phase.1 != 0) = true := by rw [bne_iff_ne]; exact hp
        replace hp := Lib.hid hp
        replace hpl := Lib.hid hpl
        go_enter Tryd.func23, Tryd.ntmps23
        go_wp2_with (first
          | (go_at_call 34; go_must (refine (hcp.out _ (by repeat (first | (with_reducible exact Below.refl _ _) | (with_reducible refine Below.drew ?_) | (with_reducible refine below_drewN ?_ _) | ((with_reducible refine Below.alloc ?_ ?_ _); rotate_left; focus ((try simp) <;> omega)) | ((with_reducible refine Below.setCell ?_ ?_ _); rotate_left; focus ((try simp) <;> omega)) | ((with_reducible refine Below.trans ?_ (Below.mono (by assumption) ?_)); rotate_left; focus ((try simp) <;> omega))))).mono ?_; rintro e w1 ⟨A1, C1, A2, C2, rfl, ho1, hdis, hb1⟩; have hz1 := hb1.size; (try simp at hz1); have hz1a : w.heap.size < w1.heap.size := (by omega); have hz1b : w.heap.size + 1 < w1.heap.size := (by omega); obtain ⟨hc1, hf1⟩ := blk_at hb1 w.heap.size (by (try simp) <;> omega); obtain ⟨hd1, hg1⟩ := blk_at hb1 (w.heap.size + 1) (by (try simp) <;> omega)))
          | (go_at_call 48; go_must (refine (hbs.out _ (by repeat (first | (with_reducible exact Below.refl _ _) | (with_reducible refine Below.drew ?_) | (with_reducible refine below_drewN ?_ _) | ((with_reducible refine Below.alloc ?_ ?_ _); rotate_left; focus ((try simp) <;> omega)) | ((with_reducible refine Below.setCell ?_ ?_ _); rotate_left; focus ((try simp) <;> omega)) | ((with_reducible refine Below.trans ?_ (Below.mono (by assumption) ?_)); rotate_left; focus ((try simp) <;> omega))))).mono ?_; rintro e w2 ⟨rfl, hb2⟩; have hz2 := hb2.size; (try simp at hz2); have hz2a : w.heap.size < w2.heap.size := (by omega); have hz2b : w.heap.size + 1 < w2.heap.size := (by omega); have hz2c : w1.heap.size < w2.heap.size := (by omega); obtain ⟨hc2, hf2⟩ := blk_at hb2 w.heap.size (by (try simp) <;> omega); obtain ⟨hd2, hg2⟩ := blk_at hb2 (w.heap.size + 1) (by (try simp) <;> omega); obtain ⟨hk2, hl2⟩ := blk_at hb2 w1.heap.size (by (try simp) <;> omega)))
          | (go_at_call 10; go_must (refine (hva.out _ (by repeat (first | (with_reducible exact Below.refl _ _) | (with_reducible refine Below.drew ?_) | (with_reducible refine below_drewN ?_ _) | ((with_reducible refine Below.alloc ?_ ?_ _); rotate_left; focus ((try simp) <;> omega)) | ((with_reducible refine Below.setCell ?_ ?_ _); rotate_left; focus ((try simp) <;> omega)) | ((with_reducible refine Below.trans ?_ (Below.mono (by assumption) ?_)); rotate_left; focus ((try simp) <;> omega))))).mono ?_; rintro e w3 ⟨rfl, hb3⟩; have hz3 := hb3.size; (try simp at hz3); have hz3a : w.heap.size < w3.heap.size := (by omega); have hz3b : w.heap.size + 1 < w3.heap.size := (by omega); have hz3c : w1.heap.size < w3.heap.size := (by omega); obtain ⟨hc3, hf3⟩ := blk_at hb3 w.heap.size (by (try simp) <;> omega); obtain ⟨hd3, hg3⟩ := blk_at hb3 (w.heap.size + 1) (by (try simp) <;> omega); obtain ⟨hk3, hl3⟩ := blk_at hb3 w1.heap.size (by (try simp) <;> omega)))
          | fail)
        refine bodyPost_ret (v := .tuple #[.agg (workE (atW x A1 C1 A2 C2)).toArray, .int .i64 16]) (by simp [results, Tryd.results23, go_sem, workE, atW, hd1, hd2, hd3, hz1b]) rfl ⟨A1, C1, A2, C2, by rw [hse.out, hsw.out], ⟨?_, ?_⟩, (by repeat (first | (with_reducible exact Below.refl _ _) | (with_reducible refine Below.drew ?_) | (with_reducible refine below_drewN ?_ _) | ((with_reducible refine Below.alloc ?_ ?_ _); rotate_left; focus ((try simp) <;> omega)) | ((with_reducible refine Below.setCell ?_ ?_ _); rotate_left; focus ((try simp) <;> omega)) | ((with_reducible refine Below.trans ?_ (Below.mono (by assumption) ?_)); rotate_left; focus ((try simp) <;> omega))))⟩
        · have hlt := ho1.1.lt
          (try simp at hlt)
          have ho : Own sE 1 _ w1 w.heap.size (.slice A1 x.labs.length C1) x.labs := ho1.1.base (b' := w.heap.size) (by (try simp) <;> omega)
          rw [hsw.out]
          show Own sE 1 _ _ _ (.slice A1 x.labs.length C1) x.labs
          (repeat (first
            | (with_reducible exact ho)
            | (refine Own.setCell ?_ (fun g hg => by have := (hlt g hg).1; have := (hlt g hg).2; show g ≠ _; (try simp) <;> omega) _)
            | (with_reducible refine Own.alloc ?_ _)
            | (with_reducible refine Own.drew ?_)
            | (with_reducible refine Own.all ?_ (by assumption))))
        · have hlt := ho1.2.lt
          (try simp at hlt)
          have ho : Own iE 1 _ w1 w.heap.size (.slice A2 x.toks.length C2) x.toks := ho1.2.base (b' := w.heap.size) (by (try simp) <;> omega)
          rw [hsw.out]
          show Own iE 1 _ _ _ (.slice A2 x.toks.length C2) x.toks
          (repeat (first
            | (with_reducible exact ho)
            | (refine Own.setCell ?_ (fun g hg => by have := (hlt g hg).1; have := (hlt g hg).2; show g ≠ _; (try simp) <;> omega) _)
            | (with_reducible refine Own.alloc ?_ _)
            | (with_reducible refine Own.drew ?_)
            | (with_reducible refine Own.all ?_ (by assumption))))
      rw [if_neg hp] at he3
      have hpn : (x.phase.1 != 0) = false := by rw [bne_eq_false_iff_eq]; omega
      replace hp := Lib.hid hp
      by_cases hfu : x.slots.1 ≤ (x.toks.length : Int)
      · rw [if_pos hfu] at he3
        have hse := Lib.hid he3
        clear he3
        have hsw := Lib.hid (attW_no hse.out (by decide))
        have hfg : (x.toks.length : Int) ≥ x.slots.1 := hfu
        replace hpl := Lib.hid hpl
        go_enter Tryd.func23, Tryd.ntmps23
        go_wp2_with (first
          | (go_at_call 34; go_must (refine (hcp.out _ (by repeat (first | (with_reducible exact Below.refl _ _) | (with_reducible refine Below.drew ?_) | (with_reducible refine below_drewN ?_ _) | ((with_reducible refine Below.alloc ?_ ?_ _); rotate_left; focus ((try simp) <;> omega)) | ((with_reducible refine Below.setCell ?_ ?_ _); rotate_left; focus ((try simp) <;> omega)) | ((with_reducible refine Below.trans ?_ (Below.mono (by assumption) ?_)); rotate_left; focus ((try simp) <;> omega))))).mono ?_; rintro e w1 ⟨A1, C1, A2, C2, rfl, ho1, hdis, hb1⟩; have hz1 := hb1.size; (try simp at hz1); have hz1a : w.heap.size < w1.heap.size := (by omega); have hz1b : w.heap.size + 1 < w1.heap.size := (by omega); obtain ⟨hc1, hf1⟩ := blk_at hb1 w.heap.size (by (try simp) <;> omega); obtain ⟨hd1, hg1⟩ := blk_at hb1 (w.heap.size + 1) (by (try simp) <;> omega)))
          | (go_at_call 48; go_must (refine (hbs.out _ (by repeat (first | (with_reducible exact Below.refl _ _) | (with_reducible refine Below.drew ?_) | (with_reducible refine below_drewN ?_ _) | ((with_reducible refine Below.alloc ?_ ?_ _); rotate_left; focus ((try simp) <;> omega)) | ((with_reducible refine Below.setCell ?_ ?_ _); rotate_left; focus ((try simp) <;> omega)) | ((with_reducible refine Below.trans ?_ (Below.mono (by assumption) ?_)); rotate_left; focus ((try simp) <;> omega))))).mono ?_; rintro e w2 ⟨rfl, hb2⟩; have hz2 := hb2.size; (try simp at hz2); have hz2a : w.heap.size < w2.heap.size := (by omega); have hz2b : w.heap.size + 1 < w2.heap.size := (by omega); have hz2c : w1.heap.size < w2.heap.size := (by omega); obtain ⟨hc2, hf2⟩ := blk_at hb2 w.heap.size (by (try simp) <;> omega); obtain ⟨hd2, hg2⟩ := blk_at hb2 (w.heap.size + 1) (by (try simp) <;> omega); obtain ⟨hk2, hl2⟩ := blk_at hb2 w1.heap.size (by (try simp) <;> omega)))
          | (go_at_call 10; go_must (refine (hva.out _ (by repeat (first | (with_reducible exact Below.refl _ _) | (with_reducible refine Below.drew ?_) | (with_reducible refine below_drewN ?_ _) | ((with_reducible refine Below.alloc ?_ ?_ _); rotate_left; focus ((try simp) <;> omega)) | ((with_reducible refine Below.setCell ?_ ?_ _); rotate_left; focus ((try simp) <;> omega)) | ((with_reducible refine Below.trans ?_ (Below.mono (by assumption) ?_)); rotate_left; focus ((try simp) <;> omega))))).mono ?_; rintro e w3 ⟨rfl, hb3⟩; have hz3 := hb3.size; (try simp at hz3); have hz3a : w.heap.size < w3.heap.size := (by omega); have hz3b : w.heap.size + 1 < w3.heap.size := (by omega); have hz3c : w1.heap.size < w3.heap.size := (by omega); obtain ⟨hc3, hf3⟩ := blk_at hb3 w.heap.size (by (try simp) <;> omega); obtain ⟨hd3, hg3⟩ := blk_at hb3 (w.heap.size + 1) (by (try simp) <;> omega); obtain ⟨hk3, hl3⟩ := blk_at hb3 w1.heap.size (by (try simp) <;> omega)))
          | fail)
        refine bodyPost_ret (v := .tuple #[.agg (workE (atW x A1 C1 A2 C2)).toArray, .int .i64 21]) (by simp [results, Tryd.results23, go_sem, workE, atW, hd1, hd2, hd3, hz1b]) rfl ⟨A1, C1, A2, C2, by rw [hse.out, hsw.out], ⟨?_, ?_⟩, (by repeat (first | (with_reducible exact Below.refl _ _) | (with_reducible refine Below.drew ?_) | (with_reducible refine below_drewN ?_ _) | ((with_reducible refine Below.alloc ?_ ?_ _); rotate_left; focus ((try simp) <;> omega)) | ((with_reducible refine Below.setCell ?_ ?_ _); rotate_left; focus ((try simp) <;> omega)) | ((with_reducible refine Below.trans ?_ (Below.mono (by assumption) ?_)); rotate_left; focus ((try simp) <;> omega))))⟩
        · have hlt := ho1.1.lt
          (try simp at hlt)
          have ho : Own sE 1 _ w1 w.heap.size (.slice A1 x.labs.length C1) x.labs := ho1.1.base (b' := w.heap.size) (by (try simp) <;> omega)
          rw [hsw.out]
          show Own sE 1 _ _ _ (.slice A1 x.labs.length C1) x.labs
          (repeat (first
            | (with_reducible exact ho)
            | (refine Own.setCell ?_ (fun g hg => by have := (hlt g hg).1; have := (hlt g hg).2; show g ≠ _; (try simp) <;> omega) _)
            | (with_reducible refine Own.alloc ?_ _)
            | (with_reducible refine Own.drew ?_)
            | (with_reducible refine Own.all ?_ (by assumption))))
        · have hlt := ho1.2.lt
          (try simp at hlt)
          have ho : Own iE 1 _ w1 w.heap.size (.slice A2 x.toks.length C2) x.toks := ho1.2.base (b' := w.heap.size) (by (try simp) <;> omega)
          rw [hsw.out]
          show Own iE 1 _ _ _ (.slice A2 x.toks.length C2) x.toks
          (repeat (first
            | (with_reducible exact ho)
            | (refine Own.setCell ?_ (fun g hg => by have := (hlt g hg).1; have := (hlt g hg).2; show g ≠ _; (try simp) <;> omega) _)
            | (with_reducible refine Own.alloc ?_ _)
            | (with_reducible refine Own.drew ?_)
            | (with_reducible refine Own.all ?_ (by assumption))))
      · rw [if_neg hfu] at he3
        have hse := Lib.hid he3
        clear he3
        obtain ⟨L, hL0⟩ : ∃ L, x.toks.take K ++ t :: x.toks.drop K = L := ⟨_, rfl⟩
        have hsw : Hid (attW x t = { x with toks := L }) := Lib.hid (by rw [attW_ok hse.out]; unfold attL; rw [hpl, hL0])
        have hL := Lib.hid hL0
        clear hL0
        have hfg : ¬ (x.toks.length : Int) ≥ x.slots.1 := hfu
        replace hpl := Lib.hid hpl
        go_enter Tryd.func23, Tryd.ntmps23
        go_wp2_with (first
          | (go_at_call 34; go_must (refine (hcp.out _ (by repeat (first | (with_reducible exact Below.refl _ _) | (with_reducible refine Below.drew ?_) | (with_reducible refine below_drewN ?_ _) | ((with_reducible refine Below.alloc ?_ ?_ _); rotate_left; focus ((try simp) <;> omega)) | ((with_reducible refine Below.setCell ?_ ?_ _); rotate_left; focus ((try simp) <;> omega)) | ((with_reducible refine Below.trans ?_ (Below.mono (by assumption) ?_)); rotate_left; focus ((try simp) <;> omega))))).mono ?_; rintro e w1 ⟨A1, C1, A2, C2, rfl, ho1, hdis, hb1⟩; have hz1 := hb1.size; (try simp at hz1); have hz1a : w.heap.size < w1.heap.size := (by omega); have hz1b : w.heap.size + 1 < w1.heap.size := (by omega); obtain ⟨hc1, hf1⟩ := blk_at hb1 w.heap.size (by (try simp) <;> omega); obtain ⟨hd1, hg1⟩ := blk_at hb1 (w.heap.size + 1) (by (try simp) <;> omega)))
          | (go_at_call 48; go_must (refine (hbs.out _ (by repeat (first | (with_reducible exact Below.refl _ _) | (with_reducible refine Below.drew ?_) | (with_reducible refine below_drewN ?_ _) | ((with_reducible refine Below.alloc ?_ ?_ _); rotate_left; focus ((try simp) <;> omega)) | ((with_reducible refine Below.setCell ?_ ?_ _); rotate_left; focus ((try simp) <;> omega)) | ((with_reducible refine Below.trans ?_ (Below.mono (by assumption) ?_)); rotate_left; focus ((try simp) <;> omega))))).mono ?_; rintro e w2 ⟨rfl, hb2⟩; have hz2 := hb2.size; (try simp at hz2); have hz2a : w.heap.size < w2.heap.size := (by omega); have hz2b : w.heap.size + 1 < w2.heap.size := (by omega); have hz2c : w1.heap.size < w2.heap.size := (by omega); obtain ⟨hc2, hf2⟩ := blk_at hb2 w.heap.size (by (try simp) <;> omega); obtain ⟨hd2, hg2⟩ := blk_at hb2 (w.heap.size + 1) (by (try simp) <;> omega); obtain ⟨hk2, hl2⟩ := blk_at hb2 w1.heap.size (by (try simp) <;> omega)))
          | (go_at_call 10; go_must (refine (hva.out _ (by repeat (first | (with_reducible exact Below.refl _ _) | (with_reducible refine Below.drew ?_) | (with_reducible refine below_drewN ?_ _) | ((with_reducible refine Below.alloc ?_ ?_ _); rotate_left; focus ((try simp) <;> omega)) | ((with_reducible refine Below.setCell ?_ ?_ _); rotate_left; focus ((try simp) <;> omega)) | ((with_reducible refine Below.trans ?_ (Below.mono (by assumption) ?_)); rotate_left; focus ((try simp) <;> omega))))).mono ?_; rintro e w3 ⟨rfl, hb3⟩; have hz3 := hb3.size; (try simp at hz3); have hz3a : w.heap.size < w3.heap.size := (by omega); have hz3b : w.heap.size + 1 < w3.heap.size := (by omega); have hz3c : w1.heap.size < w3.heap.size := (by omega); obtain ⟨hc3, hf3⟩ := blk_at hb3 w.heap.size (by (try simp) <;> omega); obtain ⟨hd3, hg3⟩ := blk_at hb3 (w.heap.size + 1) (by (try simp) <;> omega); obtain ⟨hk3, hl3⟩ := blk_at hb3 w1.heap.size (by (try simp) <;> omega)))
          | (go_at_call 49; go_must (have hoT : Own iE 1 3 w1 w.heap.size (.slice A2 x.toks.length C2) x.toks := ho1.2.base (b' := w.heap.size) (by (try simp) <;> omega); have hoL : Own sE 1 9 w1 w.heap.size (.slice A1 x.labs.length C1) x.labs := ho1.1.base (b' := w.heap.size) (by (try simp) <;> omega); have hlL := ho1.1.lt; have hlT := ho1.2.lt; (try simp at hlL); (try simp at hlT); have hoTA : Own iE 1 3 (w3.alloc (.cells (iE t).toArray 3)) w.heap.size (.slice A2 x.toks.length C2) x.toks := hoT.all (w' := w3.alloc (.cells (iE t).toArray 3)) (by repeat (first | (with_reducible exact Below.refl _ _) | (with_reducible refine Below.drew ?_) | (with_reducible refine below_drewN ?_ _) | ((with_reducible refine Below.alloc ?_ ?_ _); rotate_left; focus ((try simp) <;> omega)) | ((with_reducible refine Below.setCell ?_ ?_ _); rotate_left; focus ((try simp) <;> omega)) | ((with_reducible refine Below.trans ?_ (Below.mono (by assumption) ?_)); rotate_left; focus ((try simp) <;> omega)))); have hoLA : Own sE 1 9 (w3.alloc (.cells (iE t).toArray 3)) w.heap.size (.slice A1 x.labs.length C1) x.labs := hoL.all (w' := w3.alloc (.cells (iE t).toArray 3)) (by repeat (first | (with_reducible exact Below.refl _ _) | (with_reducible refine Below.drew ?_) | (with_reducible refine below_drewN ?_ _) | ((with_reducible refine Below.alloc ?_ ?_ _); rotate_left; focus ((try simp) <;> omega)) | ((with_reducible refine Below.setCell ?_ ?_ _); rotate_left; focus ((try simp) <;> omega)) | ((with_reducible refine Below.trans ?_ (Below.mono (by assumption) ?_)); rotate_left; focus ((try simp) <;> omega)))); refine (iins_any (.slice A2 x.toks.length C2) K x.toks w.heap.size _ hoTA hK.out t _ (heap_alloc_new _ _) (fun e => by have h2 := (hlT _ e).2; (try simp at h2) <;> omega) (by (try simp) <;> omega) hn.out.2).mono ?_; rintro e w4 ⟨v4, hv4, ho4, hb4, hg4, hat4⟩; rw [hL.out] at ho4; obtain ⟨A4, c4, hv5, _⟩ := ho4.form; subst hv5; subst hv4; have hz4 := hg4.size; (try simp at hz4); have hz4a : w.heap.size + 1 < w4.heap.size := (by omega); have hz4b : w1.heap.size < w4.heap.size := (by omega); have hoL4 : Own sE 1 9 w4 w.heap.size (.slice A1 x.labs.length C1) x.labs := hoLA.grown hg4 (fun g h1 e => hdis g h1 e.symm); have n1 : some (w.heap.size + 1) ≠ (Value.slice A2 x.toks.length C2).ownBlock := (fun e => by have := (hlT _ e.symm).1; omega); have n2 : some w1.heap.size ≠ (Value.slice A2 x.toks.length C2).ownBlock := (fun e => by have := (hlT _ e.symm).2; omega); have hd4 : ∀ o, w4.cell? ⟨w.heap.size + 1, o, none⟩ = (w3.alloc (.cells (iE t).toArray 3)).cell? ⟨w.heap.size + 1, o, none⟩ := (fun o => World.cell?_of_block (hg4.block (w.heap.size + 1) (by (try simp) <;> omega) n1)); have he4 : ∀ o, w4.frozen? ⟨w.heap.size + 1, o, none⟩ = (w3.alloc (.cells (iE t).toArray 3)).frozen? ⟨w.heap.size + 1, o, none⟩ := (fun o => World.frozen?_of_block (hg4.block (w.heap.size + 1) (by (try simp) <;> omega) n1)); have hk4 : ∀ o, w4.cell? ⟨w1.heap.size, o, none⟩ = (w3.alloc (.cells (iE t).toArray 3)).cell? ⟨w1.heap.size, o, none⟩ := (fun o => World.cell?_of_block (hg4.block w1.heap.size (by (try simp) <;> omega) n2)); have hl4 : ∀ o, w4.frozen? ⟨w1.heap.size, o, none⟩ = (w3.alloc (.cells (iE t).toArray 3)).frozen? ⟨w1.heap.size, o, none⟩ := (fun o => World.frozen?_of_block (hg4.block w1.heap.size (by (try simp) <;> omega) n2)); have hb34 : Below w.heap.size w w4 := (by have h0 : Below w.heap.size w (w3.alloc (.cells (iE t).toArray 3)) := (by repeat (first | (with_reducible exact Below.refl _ _) | (with_reducible refine Below.drew ?_) | (with_reducible refine below_drewN ?_ _) | ((with_reducible refine Below.alloc ?_ ?_ _); rotate_left; focus ((try simp) <;> omega)) | ((with_reducible refine Below.setCell ?_ ?_ _); rotate_left; focus ((try simp) <;> omega)) | ((with_reducible refine Below.trans ?_ (Below.mono (by assumption) ?_)); rotate_left; focus ((try simp) <;> omega)))); exact h0.trans hb4))))
        refine bodyPost_ret (v := .tuple #[.agg (workE (atW { x with toks := L } A1 C1 A4 c4)).toArray, .int .i64 0]) (by simp [results, Tryd.results23, go_sem, workE, atW, hd1, hd2, hd3, hd4, hz1b, hz3b]) rfl ⟨A1, C1, A4, c4, by rw [hse.out, hsw.out], ⟨?_, ?_⟩, (by repeat (first | (with_reducible exact Below.refl _ _) | (with_reducible refine Below.drew ?_) | (with_reducible refine below_drewN ?_ _) | ((with_reducible refine Below.alloc ?_ ?_ _); rotate_left; focus ((try simp) <;> omega)) | ((with_reducible refine Below.setCell ?_ ?_ _); rotate_left; focus ((try simp) <;> omega)) | ((with_reducible refine Below.trans ?_ (Below.mono (by assumption) ?_)); rotate_left; focus ((try simp) <;> omega))))⟩
        · have hlt := hlL
          rw [hsw.out]
          show Own sE 1 _ _ _ (.slice A1 x.labs.length C1) x.labs
          (repeat (first
            | (with_reducible exact hoL4)
            | (refine Own.setCell ?_ (fun g hg => by have := (hlt g hg).1; have := (hlt g hg).2; show g ≠ _; (try simp) <;> omega) _)
            | (with_reducible refine Own.alloc ?_ _)
            | (with_reducible refine Own.drew ?_)
            | (with_reducible refine Own.all ?_ (by assumption))))
        · have hlt : ∀ g, (Value.slice A4 L.length c4).ownBlock = some g → g ≠ w.heap.size + 1 ∧ g ≠ w1.heap.size := fun g h => by
            rcases hat4 with e | e
            · rw [e] at h
              have := hlT g h
              omega
            · rw [e] at h
              simp at h
              omega
          rw [hsw.out]
          show Own iE 1 _ _ _ (.slice A4 L.length c4) L
          repeat (first | (with_reducible exact ho4) | (refine Own.setCell ?_ (fun g hg => by have := (hlt g hg).1; have := (hlt g hg).2; show g ≠ _; (try simp) <;> omega) _))
    · rw [hht] at hbs0 he3
      rw [if_pos rfl] at he3
      have hbs := Lib.hid hbs0
      clear hbs0
      have hse := Lib.hid he3
      clear he3
      have hsw := Lib.hid (attW_no hse.out (by decide))
      replace hht := Lib.hid hht
      replace hpl := Lib.hid hpl
      go_enter Tryd.func23, Tryd.ntmps23
      go_wp2_with (first
        | (go_at_call 34; go_must (refine (hcp.out _ (by repeat (first | (with_reducible exact Below.refl _ _) | (with_reducible refine Below.drew ?_) | (with_reducible refine below_drewN ?_ _) | ((with_reducible refine Below.alloc ?_ ?_ _); rotate_left; focus ((try simp) <;> omega)) | ((with_reducible refine Below.setCell ?_ ?_ _); rotate_left; focus ((try simp) <;> omega)) | ((with_reducible refine Below.trans ?_ (Below.mono (by assumption) ?_)); rotate_left; focus ((try simp) <;> omega))))).mono ?_; rintro e w1 ⟨A1, C1, A2, C2, rfl, ho1, hdis, hb1⟩; have hz1 := hb1.size; (try simp at hz1); have hz1a : w.heap.size < w1.heap.size := (by omega); have hz1b : w.heap.size + 1 < w1.heap.size := (by omega); obtain ⟨hc1, hf1⟩ := blk_at hb1 w.heap.size (by (try simp) <;> omega); obtain ⟨hd1, hg1⟩ := blk_at hb1 (w.heap.size + 1) (by (try simp) <;> omega)))
        | (go_at_call 48; go_must (refine (hbs.out _ (by repeat (first | (with_reducible exact Below.refl _ _) | (with_reducible refine Below.drew ?_) | (with_reducible refine below_drewN ?_ _) | ((with_reducible refine Below.alloc ?_ ?_ _); rotate_left; focus ((try simp) <;> omega)) | ((with_reducible refine Below.setCell ?_ ?_ _); rotate_left; focus ((try simp) <;> omega)) | ((with_reducible refine Below.trans ?_ (Below.mono (by assumption) ?_)); rotate_left; focus ((try simp) <;> omega))))).mono ?_; rintro e w2 ⟨rfl, hb2⟩; have hz2 := hb2.size; (try simp at hz2); have hz2a : w.heap.size < w2.heap.size := (by omega); have hz2b : w.heap.size + 1 < w2.heap.size := (by omega); have hz2c : w1.heap.size < w2.heap.size := (by omega); obtain ⟨hc2, hf2⟩ := blk_at hb2 w.heap.size (by (try simp) <;> omega); obtain ⟨hd2, hg2⟩ := blk_at hb2 (w.heap.size + 1) (by (try simp) <;> omega); obtain ⟨hk2, hl2⟩ := blk_at hb2 w1.heap.size (by (try simp) <;> omega)))
        | (go_at_call 10; go_must (refine (hva.out _ (by repeat (first | (with_reducible exact Below.refl _ _) | (with_reducible refine Below.drew ?_) | (with_reducible refine below_drewN ?_ _) | ((with_reducible refine Below.alloc ?_ ?_ _); rotate_left; focus ((try simp) <;> omega)) | ((with_reducible refine Below.setCell ?_ ?_ _); rotate_left; focus ((try simp) <;> omega)) | ((with_reducible refine Below.trans ?_ (Below.mono (by assumption) ?_)); rotate_left; focus ((try simp) <;> omega))))).mono ?_; rintro e w3 ⟨rfl, hb3⟩; have hz3 := hb3.size; (try simp at hz3); have hz3a : w.heap.size < w3.heap.size := (by omega); have hz3b : w.heap.size + 1 < w3.heap.size := (by omega); have hz3c : w1.heap.size < w3.heap.size := (by omega); obtain ⟨hc3, hf3⟩ := blk_at hb3 w.heap.size (by (try simp) <;> omega); obtain ⟨hd3, hg3⟩ := blk_at hb3 (w.heap.size + 1) (by (try simp) <;> omega); obtain ⟨hk3, hl3⟩ := blk_at hb3 w1.heap.size (by (try simp) <;> omega)))
        | fail)
      refine bodyPost_ret (v := .tuple #[.agg (workE (atW x A1 C1 A2 C2)).toArray, .int .i64 7]) (by simp [results, Tryd.results23, go_sem, workE, atW, hd1, hd2, hd3, hz1b]) rfl ⟨A1, C1, A2, C2, by rw [hse.out, hsw.out], ⟨?_, ?_⟩, (by repeat (first | (with_reducible exact Below.refl _ _) | (with_reducible refine Below.drew ?_) | (with_reducible refine below_drewN ?_ _) | ((with_reducible refine Below.alloc ?_ ?_ _); rotate_left; focus ((try simp) <;> omega)) | ((with_reducible refine Below.setCell ?_ ?_ _); rotate_left; focus ((try simp) <;> omega)) | ((with_reducible refine Below.trans ?_ (Below.mono (by assumption) ?_)); rotate_left; focus ((try simp) <;> omega))))⟩
      · have hlt := ho1.1.lt
        (try simp at hlt)
        have ho : Own sE 1 _ w1 w.heap.size (.slice A1 x.labs.length C1) x.labs := ho1.1.base (b' := w.heap.size) (by (try simp) <;> omega)
        rw [hsw.out]
        show Own sE 1 _ _ _ (.slice A1 x.labs.length C1) x.labs
        (repeat (first
          | (with_reducible exact ho)
          | (refine Own.setCell ?_ (fun g hg => by have := (hlt g hg).1; have := (hlt g hg).2; show g ≠ _; (try simp) <;> omega) _)
          | (with_reducible refine Own.alloc ?_ _)
          | (with_reducible refine Own.drew ?_)
          | (with_reducible refine Own.all ?_ (by assumption))))
      · have hlt := ho1.2.lt
        (try simp at hlt)
        have ho : Own iE 1 _ w1 w.heap.size (.slice A2 x.toks.length C2) x.toks := ho1.2.base (b' := w.heap.size) (by (try simp) <;> omega)
        rw [hsw.out]
        show Own iE 1 _ _ _ (.slice A2 x.toks.length C2) x.toks
        (repeat (first
          | (with_reducible exact ho)
          | (refine Own.setCell ?_ (fun g hg => by have := (hlt g hg).1; have := (hlt g hg).2; show g ≠ _; (try simp) <;> omega) _)
          | (with_reducible refine Own.alloc ?_ _)
          | (with_reducible refine Own.drew ?_)
          | (with_reducible refine Own.all ?_ (by assumption))))
  · have hse := Lib.hid (attE_1 (x := x) (t := t.1) h0)
    have hsw := Lib.hid (attW_no hse.out (by decide))
    have hne : (wErr x != 0) = true := by rw [bne_iff_ne]; exact h0
    generalize wErr x = E at *
    have hva := Lib.hid hv
    have hbs := Lib.hid hbs0
    clear hv hbs0 hKle
    replace h0 := Lib.hid h0
    go_enter Tryd.func23, Tryd.ntmps23
    go_wp2_with (first
      | (go_at_call 34; go_must (refine (hcp.out _ (by repeat (first | (with_reducible exact Below.refl _ _) | (with_reducible refine Below.drew ?_) | (with_reducible refine below_drewN ?_ _) | ((with_reducible refine Below.alloc ?_ ?_ _); rotate_left; focus ((try simp) <;> omega)) | ((with_reducible refine Below.setCell ?_ ?_ _); rotate_left; focus ((try simp) <;> omega)) | ((with_reducible refine Below.trans ?_ (Below.mono (by assumption) ?_)); rotate_left; focus ((try simp) <;> omega))))).mono ?_; rintro e w1 ⟨A1, C1, A2, C2, rfl, ho1, hdis, hb1⟩; have hz1 := hb1.size; (try simp at hz1); have hz1a : w.heap.size < w1.heap.size := (by omega); have hz1b : w.heap.size + 1 < w1.heap.size := (by omega); obtain ⟨hc1, hf1⟩ := blk_at hb1 w.heap.size (by (try simp) <;> omega); obtain ⟨hd1, hg1⟩ := blk_at hb1 (w.heap.size + 1) (by (try simp) <;> omega)))
      | (go_at_call 48; go_must (refine (hbs.out _ (by repeat (first | (with_reducible exact Below.refl _ _) | (with_reducible refine Below.drew ?_) | (with_reducible refine below_drewN ?_ _) | ((with_reducible refine Below.alloc ?_ ?_ _); rotate_left; focus ((try simp) <;> omega)) | ((with_reducible refine Below.setCell ?_ ?_ _); rotate_left; focus ((try simp) <;> omega)) | ((with_reducible refine Below.trans ?_ (Below.mono (by assumption) ?_)); rotate_left; focus ((try simp) <;> omega))))).mono ?_; rintro e w2 ⟨rfl, hb2⟩; have hz2 := hb2.size; (try simp at hz2); have hz2a : w.heap.size < w2.heap.size := (by omega); have hz2b : w.heap.size + 1 < w2.heap.size := (by omega); have hz2c : w1.heap.size < w2.heap.size := (by omega); obtain ⟨hc2, hf2⟩ := blk_at hb2 w.heap.size (by (try simp) <;> omega); obtain ⟨hd2, hg2⟩ := blk_at hb2 (w.heap.size + 1) (by (try simp) <;> omega); obtain ⟨hk2, hl2⟩ := blk_at hb2 w1.heap.size (by (try simp) <;> omega)))
      | (go_at_call 10; go_must (refine (hva.out _ (by repeat (first | (with_reducible exact Below.refl _ _) | (with_reducible refine Below.drew ?_) | (with_reducible refine below_drewN ?_ _) | ((with_reducible refine Below.alloc ?_ ?_ _); rotate_left; focus ((try simp) <;> omega)) | ((with_reducible refine Below.setCell ?_ ?_ _); rotate_left; focus ((try simp) <;> omega)) | ((with_reducible refine Below.trans ?_ (Below.mono (by assumption) ?_)); rotate_left; focus ((try simp) <;> omega))))).mono ?_; rintro e w3 ⟨rfl, hb3⟩; have hz3 := hb3.size; (try simp at hz3); have hz3a : w.heap.size < w3.heap.size := (by omega); have hz3b : w.heap.size + 1 < w3.heap.size := (by omega); have hz3c : w1.heap.size < w3.heap.size := (by omega); obtain ⟨hc3, hf3⟩ := blk_at hb3 w.heap.size (by (try simp) <;> omega); obtain ⟨hd3, hg3⟩ := blk_at hb3 (w.heap.size + 1) (by (try simp) <;> omega); obtain ⟨hk3, hl3⟩ := blk_at hb3 w1.heap.size (by (try simp) <;> omega)))
      | fail)
    refine bodyPost_ret (v := .tuple #[.agg (workE (atW x A1 C1 A2 C2)).toArray, .int .i64 1]) (by simp [results, Tryd.results23, go_sem, workE, atW, hd1, hd2, hd3, hz1b]) rfl ⟨A1, C1, A2, C2, by rw [hse.out, hsw.out], ⟨?_, ?_⟩, (by repeat (first | (with_reducible exact Below.refl _ _) | (with_reducible refine Below.drew ?_) | (with_reducible refine below_drewN ?_ _) | ((with_reducible refine Below.alloc ?_ ?_ _); rotate_left; focus ((try simp) <;> omega)) | ((with_reducible refine Below.setCell ?_ ?_ _); rotate_left; focus ((try simp) <;> omega)) | ((with_reducible refine Below.trans ?_ (Below.mono (by assumption) ?_)); rotate_left; focus ((try simp) <;> omega))))⟩
    · have hlt := ho1.1.lt
      (try simp at hlt)
      have ho : Own sE 1 _ w1 w.heap.size (.slice A1 x.labs.length C1) x.labs := ho1.1.base (b' := w.heap.size) (by (try simp) <;> omega)
      rw [hsw.out]
      show Own sE 1 _ _ _ (.slice A1 x.labs.length C1) x.labs
      (repeat (first
        | (with_reducible exact ho)
        | (refine Own.setCell ?_ (fun g hg => by have := (hlt g hg).1; have := (hlt g hg).2; show g ≠ _; (try simp) <;> omega) _)
        | (with_reducible refine Own.alloc ?_ _)
        | (with_reducible refine Own.drew ?_)
        | (with_reducible refine Own.all ?_ (by assumption))))
    · have hlt := ho1.2.lt
      (try simp at hlt)
      have ho : Own iE 1 _ w1 w.heap.size (.slice A2 x.toks.length C2) x.toks := ho1.2.base (b' := w.heap.size) (by (try simp) <;> omega)
      rw [hsw.out]
      show Own iE 1 _ _ _ (.slice A2 x.toks.length C2) x.toks
      (repeat (first
        | (with_reducible exact ho)
        | (refine Own.setCell ?_ (fun g hg => by have := (hlt g hg).1; have := (hlt g hg).2; show g ≠ _; (try simp) <;> omega) _)
        | (with_reducible refine Own.alloc ?_ _)
        | (with_reducible refine Own.drew ?_)
        | (with_reducible refine Own.all ?_ (by assumption))))
end Go.Proofs.YtnahbfmbmpoljaaDoor
