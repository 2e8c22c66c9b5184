/-
  ConcurrencyOrder: in every sequence of calls (of at most 50) at most one job runs in each group, a running job remains so until it leaves, and jobs begin to run in the order of their arrival; the example holds. No condition.
-/
import Derived.Test.YtbellobjajnlkaaDoorCon35
import Derived.Test.YtbellobjajnlkaaDoorCon38
import Derived.Test.YtbellobjajnlkaaDoorCon39
import Derived.Test.YtbellobjajnlkaaDoorCon40
import Derived.Test.YtbellobjajnlkaaDoorBase1
import Derived.Test.YtbellobjajnlkaaDoorLayTab
import Derived.Deep.DeepCutAuto




namespace Go.Proofs.YtbellobjajnlkaaDoor.concurrencyOrder
open Go.ChangeShapes Go.WideShapes Go.ChangeAt Go.RowKit Go.Joins
theorem own : ownKnob Tryd.prog.godebug = none := by kernel_rfl
theorem laidOut : laidOutB Tryd.prog = true := by kernel_rfl

attribute [local go_sem ↓] eq_ref ne_ref
theorem do_val {gs : List G} {m : Mov} (hv : Val gs) : Val (doL gs m) := by
  unfold doL
  split
  · by_cases h : enterE gs m.name m.ref m.policy.1 = 0
    · exact val_enter h
    · unfold enterL
      rw [if_pos h]
      exact hv
  · split
    · exact val_leave hv
    · split
      · by_cases h : startE gs m.name m.ref = 0
        · exact val_start h
        · unfold startL
          rw [if_pos h]
          exact hv
      · exact hv
theorem do_mild {gs : List G} {m : Mov} (hm : MildG gs) (hn : m.name.1.size < 4294967281) (hr : shortR m.ref) : MildG (doL gs m) := by
  unfold doL
  split
  · exact mild_enter hm hn hr
  · split
    · exact mild_leave hm
    · split
      · exact mild_start hm
      · exact hm
theorem val_nil : Val [] := ⟨nofun, fun i j x y _ h => by simp at h, nofun, by simp [all_nil], by simp [all_nil], by simp [all_nil]⟩
theorem mild_nil : MildG [] := ⟨by simp, by simp [all_nil], nofun, nofun, by simp [all_nil]⟩
/-- The jobs that have arrived, behind a call. -/
def arrL (gs : List G) (m : Mov) (arr : List JRef) : List JRef := if m.kind.1 = 0 ∧ doE gs m = 0 then arr ++ [m.ref] else arr
theorem arr_len (gs : List G) (m : Mov) (arr : List JRef) : (arrL gs m arr).length ≤ arr.length + 1 := by
  unfold arrL
  split
  · simp
  · omega
theorem do_order {gs : List G} {m : Mov} {arr : List JRef} (hv : Val gs) (ho : InOrder arr gs) : InOrder (arrL gs m arr) (doL gs m) := by
  unfold arrL doL doE
  by_cases h0 : m.kind.1 = 0
  · simp only [if_pos h0]
    by_cases hE : enterE gs m.name m.ref m.policy.1 = 0
    · rw [if_pos ⟨h0, hE⟩]
      exact order_enter hE ho
    · rw [if_neg (fun h => hE h.2)]
      unfold enterL
      rw [if_pos hE]
      exact ho
  · rw [if_neg (fun h => h0 h.1)]
    simp only [if_neg h0]
    split
    · exact order_leave hv ho
    · split
      · by_cases h : startE gs m.name m.ref = 0
        · exact order_start h ho
        · unfold startL
          rw [if_pos h]
          exact ho
      · exact ho
theorem do_step {gs : List G} {m : Mov} {arr : List JRef} (hv : Val gs) (ho : InOrder arr gs) {g : G} (hg : g ∈ gs) : StepOk (decide (m.kind.1 ≠ 1)) (arrL gs m arr) (doL gs m) g := by
  unfold arrL doL doE
  by_cases h0 : m.kind.1 = 0
  · simp only [if_pos h0]
    by_cases hE : enterE gs m.name m.ref m.policy.1 = 0
    · exact step_enter hE hg
    · unfold enterL
      rw [if_pos hE]
      exact step_same hv.asc hg
  · rw [if_neg (fun h => h0 h.1)]
    simp only [if_neg h0]
    by_cases h1 : m.kind.1 = 1
    · rw [if_pos h1, show decide (m.kind.1 ≠ 1) = false by simp [h1]]
      exact step_leave hv hg
    · rw [if_neg h1]
      split
      · by_cases h : startE gs m.name m.ref = 0
        · exact step_start h ho hg
        · unfold startL
          rw [if_pos h]
          exact step_same hv.asc hg
      · exact step_same hv.asc hg
theorem ref_zero (x : Grp) : refB x.run.1 x.job.1 ⟨#[]⟩ ⟨#[]⟩ = decide (x.g.rn = zR) := refB_zero x.run x.job
theorem ref_same (x y : Grp) : refB x.run.1 x.job.1 y.run.1 y.job.1 = decide (x.g.rn = y.g.rn) := refB_iff x.run x.job y.run y.job
set_option maxRecDepth 100000 in
set_option maxHeartbeats 16000000 in
theorem walk (A : Option Addr) (c : Nat) (l : List Mov) (w : World) (hr : Rw movE 5 w w.heap.size A l) (hn : l.length ≤ 9223372036854775807) (hG : Glob w) :
    Calls Tryd.prog 8 #[.slice A l.length c] w fun e w' => e = .returned (.bool true) ∧ Below w.heap.size w w' := by
  by_cases hl : l.length ≤ 50
  · have hlz : ¬ (50 : Int) < (l.length : Int) := by omega
    replace hr := Lib.hid hr
    replace hG := Lib.hid hG
    go_enter Tryd.func8, Tryd.ntmps8
    go_wp2_with fail
    go_loopw [3, 4, 5, 6, 7, 8, 9, 10, 11, 12] (fun vg va vi _ _ _ _ _ _ _ wr => ∃ (k : Nat) (A1 : Option Addr) (c1 : Nat) (L1 : List Grp) (gs : List G) (arr : List JRef), vi = .int .i64 (k : Int) ∧ k ≤ l.length ∧ vg = .slice A1 L1.length c1 ∧ St wr A1 c1 L1 gs ∧ Val gs ∧ MildG gs ∧ InOrder arr gs ∧ Own jRefE 2 29 wr w.heap.size va arr ∧ SpareZ wr va arr.length ∧ arr.length ≤ k ∧ Below w.heap.size w wr) (fun _ _ vi _ _ _ _ _ _ _ _ => l.length - (intOf vi).toNat)
    case atStart => exact ⟨0, none, 0, [], [], [], rfl, Nat.zero_le _, rfl, ⟨RwG.nil, Nat.le_refl _, rfl⟩, val_nil, mild_nil, order_nil _, Own.nil _ _ _, SpareZ.nil _, Nat.le_refl _, Below.refl _ _⟩
    case round =>
      obtain ⟨k, A1, c1, L1, gs, arr, rfl, hk, rfl, hs1, hv, hm, hor, hown, hspz, hal, hbw⟩ := hrel
      have hz := hbw.size
      by_cases hkl : k < l.length
      · obtain ⟨a, ha⟩ := get_some hkl
        obtain ⟨g, o, rfl, hg, q⟩ := hr.out (by omega)
        have qk0 : w.cell? ⟨g, o + k * 5, none⟩ = some (.int .i64 a.kind.1) := by
          have h := q k a ha 0 (.int .i64 a.kind.1) rfl
          rwa [Nat.add_zero] at h
        replace q := fun j u hu => (hbw.cell (p := ⟨g, o + k * 5 + j, none⟩) hg).trans (q k a ha j u hu)
        have q0 := q 0 (.int .i64 a.kind.1) rfl
        rw [Nat.add_zero] at q0
        have q1 := q 1 (.string a.name.1) rfl
        have q2 := q 2 (.string a.run.1) rfl
        have q3 := q 3 (.string a.job.1) rfl
        have q4 := q 4 (.int .i64 a.policy.1) rfl
        clear q
        replace qk0 := Lib.hid qk0
        have hgr : g < wr.heap.size := by omega
        have i0 : (0 : Int) ≤ (k : Int) := by omega
        have i1 : (k : Int) < (l.length : Int) := by omega
        have hsh0 := fun W => shortl_any a.ref W
        replace ha := Lib.hid ha
        by_cases hp : (a.name.1.size : Int) ≤ 600
        · have hp2 : ¬ (600 : Int) < (a.name.1.size : Int) := by omega
          rcases hsr : refS a.ref with _ | _
          · rw [hsr] at hsh0
            have hsh : Hid (∀ W, Calls Tryd.prog 13 #[.agg #[.string a.run.1, .string a.job.1]] W fun e w' => e = .returned (.bool false) ∧ Below W.heap.size W w') := Lib.hid hsh0
            clear hsh0 hs1 hv hm hor hown hspz hal
            replace hsr := Lib.hid hsr
            go_wp2_with (first | (go_at_call 13; go_must (refine (hsh.out _).mono ?_; rintro e w2 ⟨rfl, hb2⟩; have hz2 := hb2.size; (try simp at hz2); have hg2 : g < w2.heap.size := (by omega); obtain ⟨ua2, va2⟩ := blk_at hb2 g (by (try simp) <;> omega))) | (go_at_call 12; go_must (refine (awake_any _ (hG.out.keep (by repeat (first | (with_reducible exact Below.refl _ _) | (with_reducible refine Below.drew ?_) | (with_reducible refine below_drewN ?_ _) | ((with_reducible refine Below.alloc ?_ ?_ _); rotate_left; focus ((try simp) <;> omega)) | ((with_reducible refine Below.setCell ?_ ?_ _); rotate_left; focus ((try simp) <;> omega)) | ((with_reducible refine Below.trans ?_ (Below.mono (by assumption) ?_)); rotate_left; focus ((try simp) <;> omega)))))).mono ?_; rintro e w11 ⟨rfl, hb11⟩; have hz11 := hb11.size)))
            go_ret
            exact ⟨rfl, (by repeat (first | (with_reducible exact Below.refl _ _) | (with_reducible refine Below.drew ?_) | (with_reducible refine below_drewN ?_ _) | ((with_reducible refine Below.alloc ?_ ?_ _); rotate_left; focus ((try simp) <;> omega)) | ((with_reducible refine Below.setCell ?_ ?_ _); rotate_left; focus ((try simp) <;> omega)) | ((with_reducible refine Below.trans ?_ (Below.mono (by assumption) ?_)); rotate_left; focus ((try simp) <;> omega))))⟩
          · have hps : a.name.1.size < 4294967281 := by omega
            have hrs := refS_short hsr
            rw [hsr] at hsh0
            have hsh : Hid (∀ W, Calls Tryd.prog 13 #[.agg #[.string a.run.1, .string a.job.1]] W fun e w' => e = .returned (.bool true) ∧ Below W.heap.size W w') := Lib.hid hsh0
            have hnv := Lib.hid (do_val (m := a) hv)
            have hnm2 := Lib.hid (do_mild (m := a) hm hps hrs)
            have hno2 := Lib.hid (do_order (m := a) hv hor)
            have hstep : Hid (∀ g ∈ gs, StepOk (decide (a.kind.1 ≠ 1)) (arrL gs a arr) (doL gs a) g) := Lib.hid fun g hg => do_step hv hor hg
            have hal2 := arr_len gs a arr
            have hL1 : L1.length ≤ 1000000 := by have h1 := hm.len; rw [← hs1.eq, List.length_map] at h1; exact h1
            have har : Hid (arrL gs a arr = if a.kind.1 = 0 ∧ doE gs a = 0 then arr ++ [a.ref] else arr) := Lib.hid rfl
            have hdo : Hid (∀ W, Below wr.heap.size wr W → Calls Tryd.prog 27 #[.slice A1 L1.length c1, .agg #[.int .i64 a.kind.1, .string a.name.1, .string a.run.1, .string a.job.1, .int .i64 a.policy.1]] W fun e w' => ∃ (A' : Option Addr) (c' : Nat) (l' : List Grp) (Ac : Option Addr) (Cc : Nat), e = .returned (.tuple #[.slice A' l'.length c', .agg #[.bool (doRun gs a), .slice Ac (doCan gs a).length Cc], .int .i64 (doE gs a)]) ∧ St w' A' c' l' (doL gs a) ∧ Rw jRefE 2 w' w'.heap.size Ac (doCan gs a) ∧ Below W.heap.size W w') := Lib.hid fun W hb => do_any W hs1 hb hm (hG.out.keep (hbw.trans (hb.mono (by omega)))) a hps hrs
            generalize arrL gs a arr = ar2 at *
            generalize doRun gs a = R at *
            generalize doE gs a = E at *
            generalize doL gs a = G1 at *
            generalize doCan gs a = C at *
            clear hsh0 hm hor
            replace hsr := Lib.hid hsr
            replace hrs := Lib.hid hrs
            replace hv := Lib.hid hv
            replace hs1 := Lib.hid hs1
            replace hown := Lib.hid hown
            replace hspz := Lib.hid hspz
            go_upto_region 11 with (first
              | (go_at_call 13; go_must (refine (hsh.out _).mono ?_; rintro e w2 ⟨rfl, hb2⟩; have hz2 := hb2.size; (try simp at hz2); have hg2 : g < w2.heap.size := (by omega); obtain ⟨ua2, va2⟩ := blk_at hb2 g (by (try simp) <;> omega)))
              | (go_at_call 27; go_must (refine (hdo.out _ (by repeat (first | (with_reducible exact Below.refl _ _) | (with_reducible refine Below.drew ?_) | (with_reducible refine below_drewN ?_ _) | ((with_reducible refine Below.alloc ?_ ?_ _); rotate_left; focus ((try simp) <;> omega)) | ((with_reducible refine Below.setCell ?_ ?_ _); rotate_left; focus ((try simp) <;> omega)) | ((with_reducible refine Below.trans ?_ (Below.mono (by assumption) ?_)); rotate_left; focus ((try simp) <;> omega))))).mono ?_; rintro e w3 ⟨A3, c3, L3, Ac3, Cc3, rfl, hst3, _, hb3⟩; have hz3 := hb3.size; (try simp at hz3); have hg3r : g < w3.heap.size := (by omega); obtain ⟨ua3, va3⟩ := blk_at hb3 g (by (try simp) <;> omega))))
            replace hst3 := Lib.hid hst3
            obtain ⟨B, hB⟩ : ∃ B : Bool, decide (a.kind.1 = 0 ∧ E = 0) = B := ⟨_, rfl⟩
            replace hB := Lib.hid hB
            go_cut [59] (fun s59 wx => s59 = .bool B ∧ wx = w3.alloc (.cells #[.bool R, .slice Ac3 C.length Cc3] 35))
            case first =>
              by_cases hk0 : a.kind.1 = 0
              · have kb : (a.kind.1 == 0) = true := by rw [hk0]; rfl
                by_cases hE : E = 0
                · have hBt : B = true := by rw [← hB.out]; exact decide_eq_true ⟨hk0, hE⟩
                  have Eb : (E == 0) = true := by rw [hE]; rfl
                  subst hBt
                  replace hk0 := Lib.hid hk0
                  replace hE := Lib.hid hE
                  go_wp2_with fail
                  go_meet
                  exact ⟨rfl, rfl⟩
                · have hBt : B = false := by rw [← hB.out]; exact decide_eq_false (fun h => hE h.2)
                  have Eb : (E == 0) = false := by rw [beq_eq_false_iff_ne]; exact hE
                  subst hBt
                  replace hk0 := Lib.hid hk0
                  replace hE := Lib.hid hE
                  go_wp2_with fail
                  go_meet
                  exact ⟨rfl, rfl⟩
              · have hBt : B = false := by rw [← hB.out]; exact decide_eq_false (fun h => hk0 h.1)
                have kb : (a.kind.1 == 0) = false := by rw [beq_eq_false_iff_ne]; exact hk0
                subst hBt
                replace hk0 := Lib.hid hk0
                go_wp2_with fail
                go_meet
                exact ⟨rfl, rfl⟩
            case rest =>
            obtain ⟨rfl, rfl⟩ := hcut
            go_upto_if 59 with fail
            go_cut [4] (fun s4 wx => ∃ (A4 : Option Addr) (c4 : Nat), s4 = .slice A4 ar2.length c4 ∧ Own jRefE 2 29 wx w.heap.size (.slice A4 ar2.length c4) ar2 ∧ SpareZ wx (.slice A4 ar2.length c4) ar2.length ∧ St wx A1 c1 L1 gs ∧ St wx A3 c3 L3 G1 ∧ Below w.heap.size w wx)
            case first =>
              rcases B with _ | _
              · have hae : ar2 = arr := by rw [har.out, if_neg (of_decide_eq_false hB.out)]
                subst hae
                obtain ⟨A4, c4, rfl, _, _, _⟩ := hown.out.form
                go_wp2_with fail
                go_meet
                exact ⟨A4, c4, rfl, Own.all hown.out (by repeat (first | (with_reducible exact Below.refl _ _) | (with_reducible refine Below.drew ?_) | (with_reducible refine below_drewN ?_ _) | ((with_reducible refine Below.alloc ?_ ?_ _); rotate_left; focus ((try simp) <;> omega)) | ((with_reducible refine Below.setCell ?_ ?_ _); rotate_left; focus ((try simp) <;> omega)) | ((with_reducible refine Below.trans ?_ (Below.mono (by assumption) ?_)); rotate_left; focus ((try simp) <;> omega)))), SpareZ.below hspz.out (C := wr.heap.size) (by repeat (first | (with_reducible exact Below.refl _ _) | (with_reducible refine Below.drew ?_) | (with_reducible refine below_drewN ?_ _) | ((with_reducible refine Below.alloc ?_ ?_ _); rotate_left; focus ((try simp) <;> omega)) | ((with_reducible refine Below.setCell ?_ ?_ _); rotate_left; focus ((try simp) <;> omega)) | ((with_reducible refine Below.trans ?_ (Below.mono (by assumption) ?_)); rotate_left; focus ((try simp) <;> omega)))) (fun g hg => (hown.out.lt g hg).2), hs1.out.keep (by repeat (first | (with_reducible exact Below.refl _ _) | (with_reducible refine Below.drew ?_) | (with_reducible refine below_drewN ?_ _) | ((with_reducible refine Below.alloc ?_ ?_ _); rotate_left; focus ((try simp) <;> omega)) | ((with_reducible refine Below.setCell ?_ ?_ _); rotate_left; focus ((try simp) <;> omega)) | ((with_reducible refine Below.trans ?_ (Below.mono (by assumption) ?_)); rotate_left; focus ((try simp) <;> omega)))), hst3.out.keep (by repeat (first | (with_reducible exact Below.refl _ _) | (with_reducible refine Below.drew ?_) | (with_reducible refine below_drewN ?_ _) | ((with_reducible refine Below.alloc ?_ ?_ _); rotate_left; focus ((try simp) <;> omega)) | ((with_reducible refine Below.setCell ?_ ?_ _); rotate_left; focus ((try simp) <;> omega)) | ((with_reducible refine Below.trans ?_ (Below.mono (by assumption) ?_)); rotate_left; focus ((try simp) <;> omega)))), (by repeat (first | (with_reducible exact Below.refl _ _) | (with_reducible refine Below.drew ?_) | (with_reducible refine below_drewN ?_ _) | ((with_reducible refine Below.alloc ?_ ?_ _); rotate_left; focus ((try simp) <;> omega)) | ((with_reducible refine Below.setCell ?_ ?_ _); rotate_left; focus ((try simp) <;> omega)) | ((with_reducible refine Below.trans ?_ (Below.mono (by assumption) ?_)); rotate_left; focus ((try simp) <;> omega))))⟩
              · have hae : ar2 = arr ++ [a.ref] := by rw [har.out, if_pos (of_decide_eq_true hB.out)]
                subst hae
                go_wp2_with (first | (at_builtin; go_loud (refine wpList_append_spare rfl (.tmp 60) (.tmp 66) rfl w.heap.size u4 arr rfl (Own.all hown.out (by repeat (first | (with_reducible exact Below.refl _ _) | (with_reducible refine Below.drew ?_) | (with_reducible refine below_drewN ?_ _) | ((with_reducible refine Below.alloc ?_ ?_ _); rotate_left; focus ((try simp) <;> omega)) | ((with_reducible refine Below.setCell ?_ ?_ _); rotate_left; focus ((try simp) <;> omega)) | ((with_reducible refine Below.trans ?_ (Below.mono (by assumption) ?_)); rotate_left; focus ((try simp) <;> omega))))) (SpareZ.below hspz.out (C := wr.heap.size) (by repeat (first | (with_reducible exact Below.refl _ _) | (with_reducible refine Below.drew ?_) | (with_reducible refine below_drewN ?_ _) | ((with_reducible refine Below.alloc ?_ ?_ _); rotate_left; focus ((try simp) <;> omega)) | ((with_reducible refine Below.setCell ?_ ?_ _); rotate_left; focus ((try simp) <;> omega)) | ((with_reducible refine Below.trans ?_ (Below.mono (by assumption) ?_)); rotate_left; focus ((try simp) <;> omega)))) (fun g hg => (hown.out.lt g hg).2)) (w3.heap.size + 2) _ 1 a.ref rfl (rw_litJ (x := a.ref) (by simp) (by (try simp) <;> omega)) (by omega) (by (try simp) <;> omega) ?_; intro v5 w5 hown5 hg5 hat5 hsp5 hk5)))
                have hB5 := Lib.hid (show Below w.heap.size w w5 from Below.grown (by repeat (first | (with_reducible exact Below.refl _ _) | (with_reducible refine Below.drew ?_) | (with_reducible refine below_drewN ?_ _) | ((with_reducible refine Below.alloc ?_ ?_ _); rotate_left; focus ((try simp) <;> omega)) | ((with_reducible refine Below.setCell ?_ ?_ _); rotate_left; focus ((try simp) <;> omega)) | ((with_reducible refine Below.trans ?_ (Below.mono (by assumption) ?_)); rotate_left; focus ((try simp) <;> omega)))) hg5 (by (try simp) <;> omega) fun q hq => (hown.out.lt q hq).1)
                obtain ⟨A4, c4, rfl, _, _, _⟩ := hown5.form
                go_wp2_with fail
                go_meet
                exact ⟨A4, c4, rfl, hown5, hsp5, (hs1.out.keep (by repeat (first | (with_reducible exact Below.refl _ _) | (with_reducible refine Below.drew ?_) | (with_reducible refine below_drewN ?_ _) | ((with_reducible refine Below.alloc ?_ ?_ _); rotate_left; focus ((try simp) <;> omega)) | ((with_reducible refine Below.setCell ?_ ?_ _); rotate_left; focus ((try simp) <;> omega)) | ((with_reducible refine Below.trans ?_ (Below.mono (by assumption) ?_)); rotate_left; focus ((try simp) <;> omega))))).kept hv.out hk5, (hst3.out.keep (by repeat (first | (with_reducible exact Below.refl _ _) | (with_reducible refine Below.drew ?_) | (with_reducible refine below_drewN ?_ _) | ((with_reducible refine Below.alloc ?_ ?_ _); rotate_left; focus ((try simp) <;> omega)) | ((with_reducible refine Below.setCell ?_ ?_ _); rotate_left; focus ((try simp) <;> omega)) | ((with_reducible refine Below.trans ?_ (Below.mono (by assumption) ?_)); rotate_left; focus ((try simp) <;> omega))))).kept hnv.out hk5, hB5.out⟩
            case rest =>
              obtain ⟨A4, c4, rfl, hoc, hsc, hsA, hsB, hbc⟩ := hcut
              clear hs1 hown hspz hst3 q0 q1 q2 q3 q4 ua3 va3 har hv
              have hzc := hbc.size
              have hlen2 : ar2.length ≤ k + 1 := by omega
              have qkc : wc.cell? ⟨g, o + k * 5, none⟩ = some (.int .i64 a.kind.1) := (hbc.cell (p := ⟨g, o + k * 5, none⟩) hg).trans qk0.out
              have hgc : g < wc.heap.size := by omega
              have hfi : Hid (∀ (p : Str) W, Below wc.heap.size wc W → Calls Tryd.prog 18 #[.slice A3 L3.length c3, .string p.1] W fun e w' => e = .returned (.int .i64 (findN p G1)) ∧ W = w') := Lib.hid fun p W hb => find_st hsB hb hnm2.out p
              have hla : Hid (∀ (r : JRef) W, Below wc.heap.size wc W → Calls Tryd.prog 29 #[.slice A4 ar2.length c4, .agg #[.string r.run.1, .string r.job.1]] W fun e w' => e = .returned (.int .i64 (lastI ar2 r)) ∧ Below W.heap.size W w') := Lib.hid fun r W hb => last_rw (Own.reads jRefE_len hoc) hb (by omega) r
              replace hsA := Lib.hid hsA
              replace hsB := Lib.hid hsB
              replace hoc := Lib.hid hoc
              replace hsc := Lib.hid hsc
              go_wp2_with fail
              go_loopw [9, 10, 11, 12] (fun v9 _ _ _ wr => ∃ n2 : Nat, n2 ≤ L1.length ∧ v9 = .int .i64 (n2 : Int) ∧ Below wc.heap.size wc wr) (fun v9 _ _ _ _ => L1.length - (intOf v9).toNat)
              case atStart => exact ⟨0, Nat.zero_le _, rfl, Below.refl _ _⟩
              case round =>
                obtain ⟨n2, hn2, rfl, hbq⟩ := hrel
                have hzq := hbq.size
                have hgq : g < wr.heap.size := by omega
                have qk : wr.cell? ⟨g, o + k * 5, none⟩ = some (.int .i64 a.kind.1) := (hbq.cell (p := ⟨g, o + k * 5, none⟩) (by show g < _; omega)).trans qkc
                by_cases hnl : n2 < L1.length
                · have hnl2 : n2 < gs.length := by have := hsA.out.eq; rw [← this, List.length_map]; exact hnl
                  obtain ⟨J, hJ⟩ := get_some hnl2
                  have hJm := List.mem_of_getElem? hJ
                  obtain ⟨g1, o1, x, rfl, hg1, hxJ, _, p0, p1, p2, p3, _, _⟩ := hsA.out.at hJ
                  subst hxJ
                  have hg1q : g1 < wr.heap.size := by omega
                  replace p0 := (hbq.cell (p := ⟨g1, o1 + n2 * 4, none⟩) hg1).trans p0
                  replace p1 := (hbq.cell (p := ⟨g1, o1 + n2 * 4 + 1, none⟩) hg1).trans p1
                  replace p2 := (hbq.cell (p := ⟨g1, o1 + n2 * 4 + 2, none⟩) hg1).trans p2
                  clear p3
                  have hst := hstep.out x.g hJm
                  have ex := ref_zero x
                  have j0 : (0 : Int) ≤ (n2 : Int) := by omega
                  have j1 : (n2 : Int) < (L1.length : Int) := by omega
                  replace hJ := Lib.hid hJ
                  have hfx0 := hfi.out x.name
                  rcases find_cases hnv.out.asc x.name with ⟨_, h2, J2, hJ2, hnm⟩ | ⟨_, h2, _, _, hno⟩
                  · obtain ⟨g3, o3, y, hA3e, hg3, hyJ, hKl, y0, y1, y2, y3, _, hyw⟩ := hsB.out.at hJ2
                    subst hyJ
                    have hym := List.mem_of_getElem? hJ2
                    rw [h2] at hfx0
                    clear h2
                    generalize atN x.name G1 = K at *
                    have hfx : Hid (∀ W, Below wc.heap.size wc W → Calls Tryd.prog 18 #[.slice A3 L3.length c3, .string x.name.1] W fun e w' => e = .returned (.int .i64 (K : Int)) ∧ W = w') := Lib.hid hfx0
                    clear hfx0
                    subst hA3e
                    have hg3q : g3 < wr.heap.size := by omega
                    have y1c := Lib.hid fun wt (hb : Below wc.heap.size wc wt) => (hb.cell (p := ⟨g3, o3 + K * 4 + 1, none⟩) hg3).trans y1
                    have y2c := Lib.hid fun wt (hb : Below wc.heap.size wc wt) => (hb.cell (p := ⟨g3, o3 + K * 4 + 2, none⟩) hg3).trans y2
                    have y3c := Lib.hid fun wt (hb : Below wc.heap.size wc wt) => (hb.cell (p := ⟨g3, o3 + K * 4 + 3, none⟩) hg3).trans y3
                    replace y1 := (hbq.cell (p := ⟨g3, o3 + K * 4 + 1, none⟩) hg3).trans y1
                    replace y2 := (hbq.cell (p := ⟨g3, o3 + K * 4 + 2, none⟩) hg3).trans y2
                    replace y3 := (hbq.cell (p := ⟨g3, o3 + K * 4 + 3, none⟩) hg3).trans y3
                    clear y0
                    have hK0 : ¬ (K : Int) < 0 := by omega
                    have hK1 : (0 : Int) ≤ (K : Int) := by omega
                    have hK2 : (K : Int) < (L3.length : Int) := by omega
                    have ey := ref_zero y
                    have exy := ref_same y x
                    replace hJ2 := Lib.hid hJ2
                    by_cases hz : x.g.rn = zR
                    · rw [decide_eq_true hz] at ex
                      by_cases hy : y.g.rn = zR
                      · rw [decide_eq_true hy] at ey
                        clear exy
                        replace hst := Lib.hid hst
                        replace hz := Lib.hid hz
                        replace hy := Lib.hid hy
                        replace hnm := Lib.hid hnm
                        go_wp2_with (first | (go_at_call 18; go_must (refine (hfx.out _ (by repeat (first | (with_reducible exact Below.refl _ _) | (with_reducible refine Below.drew ?_) | (with_reducible refine below_drewN ?_ _) | ((with_reducible refine Below.alloc ?_ ?_ _); rotate_left; focus ((try simp) <;> omega)) | ((with_reducible refine Below.setCell ?_ ?_ _); rotate_left; focus ((try simp) <;> omega)) | ((with_reducible refine Below.trans ?_ (Below.mono (by assumption) ?_)); rotate_left; focus ((try simp) <;> omega))))).mono ?_; rintro e w6 ⟨rfl, rfl⟩)))
                        go_quiet (fail)
                        go_wp2_with fail
                        go_roundw
                        case rel => exact ⟨n2 + 1, by omega, by go_num, (by repeat (first | (with_reducible exact Below.refl _ _) | (with_reducible refine Below.drew ?_) | (with_reducible refine below_drewN ?_ _) | ((with_reducible refine Below.alloc ?_ ?_ _); rotate_left; focus ((try simp) <;> omega)) | ((with_reducible refine Below.setCell ?_ ?_ _); rotate_left; focus ((try simp) <;> omega)) | ((with_reducible refine Below.trans ?_ (Below.mono (by assumption) ?_)); rotate_left; focus ((try simp) <;> omega))))⟩
                        case measure => simp [intOf]; omega
                      · rw [decide_eq_false hy] at ey
                        have hbe := Lib.hid (hst.begins y.g hym hnm hz hy)
                        have hwl : y.wait.length ≤ 1000000 := hnm2.out.wait y.g hym
                        clear exy hst
                        replace hz := Lib.hid hz
                        replace hy := Lib.hid hy
                        replace hnm := Lib.hid hnm
                        go_wp2_with (first | (go_at_call 18; go_must (refine (hfx.out _ (by repeat (first | (with_reducible exact Below.refl _ _) | (with_reducible refine Below.drew ?_) | (with_reducible refine below_drewN ?_ _) | ((with_reducible refine Below.alloc ?_ ?_ _); rotate_left; focus ((try simp) <;> omega)) | ((with_reducible refine Below.setCell ?_ ?_ _); rotate_left; focus ((try simp) <;> omega)) | ((with_reducible refine Below.trans ?_ (Below.mono (by assumption) ?_)); rotate_left; focus ((try simp) <;> omega))))).mono ?_; rintro e w6 ⟨rfl, rfl⟩)))
                        go_quiet (fail)
                        go_wp2_with fail
                        go_loopw [12] (fun v12 wr => ∃ n3 : Nat, n3 ≤ y.wait.length ∧ v12 = .int .i64 (n3 : Int) ∧ Below wc.heap.size wc wr) (fun v12 _ => y.wait.length - (intOf v12).toNat)
                        case atStart => exact ⟨0, Nat.zero_le _, rfl, (by repeat (first | (with_reducible exact Below.refl _ _) | (with_reducible refine Below.drew ?_) | (with_reducible refine below_drewN ?_ _) | ((with_reducible refine Below.alloc ?_ ?_ _); rotate_left; focus ((try simp) <;> omega)) | ((with_reducible refine Below.setCell ?_ ?_ _); rotate_left; focus ((try simp) <;> omega)) | ((with_reducible refine Below.trans ?_ (Below.mono (by assumption) ?_)); rotate_left; focus ((try simp) <;> omega))))⟩
                        case round =>
                          obtain ⟨n3, hn3, rfl, hbt⟩ := hrel
                          have hzt := hbt.size
                          have hg3t : g3 < wr.heap.size := by omega
                          replace y1 := y1c.out wr hbt
                          replace y2 := y2c.out wr hbt
                          replace y3 := y3c.out wr hbt
                          by_cases hnl3 : n3 < y.wait.length
                          · obtain ⟨s, hs⟩ := get_some hnl3
                            obtain ⟨g4, o4, hA4, hg4, q4⟩ := hyw (by omega)
                            have s0 : wr.cell? ⟨g4, o4 + n3 * 2, none⟩ = some (.string s.run.1) := (hbt.cell (p := ⟨g4, o4 + n3 * 2, none⟩) hg4).trans (q4 n3 s hs 0 (.string s.run.1) rfl)
                            have s1 : wr.cell? ⟨g4, o4 + n3 * 2 + 1, none⟩ = some (.string s.job.1) := (hbt.cell (p := ⟨g4, o4 + n3 * 2 + 1, none⟩) hg4).trans (q4 n3 s hs 1 (.string s.job.1) rfl)
                            clear q4
                            have hlt : ¬ lastI ar2 s < lastI ar2 (⟨y.run, y.job⟩ : JRef) := by
                              have h9 := hbe.out s (List.mem_of_getElem? hs)
                              show ¬ lastI ar2 s < lastI ar2 y.g.rn
                              omega
                            have hltb : decide (lastI ar2 s < lastI ar2 (⟨y.run, y.job⟩ : JRef)) = false := decide_eq_false hlt
                            replace hs := Lib.hid hs
                            have m0 : (0 : Int) ≤ (n3 : Int) := by omega
                            have m1 : (n3 : Int) < (y.wait.length : Int) := by omega
                            rw [hA4] at y3
                            go_wp2_with fail
                            refine wp_region_held_drew (S := fun w' => w'.cell? ⟨g3, o3 + K * 4 + 1, none⟩ = some (.string y.run.1) ∧ w'.cell? ⟨g3, o3 + K * 4 + 2, none⟩ = some (.string y.job.1) ∧ w'.cell? ⟨g3, o3 + K * 4 + 3, none⟩ = some (.slice (some ⟨g4, o4, none⟩) y.wait.length y.waitC) ∧ w'.cell? ⟨g4, o4 + n3 * 2, none⟩ = some (.string s.run.1) ∧ w'.cell? ⟨g4, o4 + n3 * 2 + 1, none⟩ = some (.string s.job.1)) (by kernel_rfl) ?_ (fun hHeld => ?_)
                            · (first | (dsimp only; go_keep; done) | (go_keep; done) | (go_simp; done))
                            rw [show (Array.replicate _ false : Array Bool) = #[false, false, false, false, false, false, false, false, false, false, false, false, false, false, false, false, false, false] from rfl]
                            (refine wpAnyH_take (i := 0) (oi := Oper.mk _ _ _ _ _ _) (v := ?_) rfl (by kernel_rfl) (by kernel_rfl) (by kernel_rfl) (fun _ _ _ h => h) ?_ (by assumption) ?_; rotate_left; (focus (refine Or.inl ⟨by rfl, ?_⟩; intro wS hSw; (try dsimp only at hSw); go_simp; first | done | with_reducible rfl)); simp only [Act.put, List.setIfInBounds_toArray, List.set_cons_zero, List.set_cons_succ])
                            (refine wpAnyH_take (i := 1) (oi := Oper.mk _ _ _ _ _ _) (v := ?_) rfl (by kernel_rfl) (by kernel_rfl) (by kernel_rfl) (fun _ _ _ h => h) ?_ (by assumption) ?_; rotate_left; (focus (refine Or.inl ⟨by rfl, ?_⟩; intro wS hSw; (try dsimp only at hSw); go_simp; first | done | with_reducible rfl)); simp only [Act.put, List.setIfInBounds_toArray, List.set_cons_zero, List.set_cons_succ])
                            (refine wpAnyH_take (i := 2) (oi := Oper.mk _ _ _ _ _ _) (v := ?_) rfl (by kernel_rfl) (by kernel_rfl) (by kernel_rfl) (fun _ _ _ h => h) ?_ (by assumption) ?_; rotate_left; (focus (refine Or.inl ⟨by rfl, ?_⟩; intro wS hSw; (try dsimp only at hSw); go_simp; first | done | with_reducible rfl)); simp only [Act.put, List.setIfInBounds_toArray, List.set_cons_zero, List.set_cons_succ])
                            (refine wpAnyH_take (i := 3) (oi := Oper.mk _ _ _ _ _ _) (v := ?_) rfl (by kernel_rfl) (by kernel_rfl) (by kernel_rfl) (fun _ _ _ h => h) ?_ (by assumption) ?_; rotate_left; (focus (refine Or.inl ⟨by rfl, ?_⟩; intro wS hSw; (try dsimp only at hSw); go_simp; first | done | with_reducible rfl)); simp only [Act.put, List.setIfInBounds_toArray, List.set_cons_zero, List.set_cons_succ])
                            (refine wpAnyH_take (i := 4) (oi := Oper.mk _ _ _ _ _ _) (v := ?_) rfl (by kernel_rfl) (by kernel_rfl) (by kernel_rfl) (fun _ _ _ h => h) ?_ (by assumption) ?_; rotate_left; (focus (refine Or.inl ⟨by rfl, ?_⟩; intro wS hSw; (try dsimp only at hSw); go_simp; first | done | with_reducible rfl)); simp only [Act.put, List.setIfInBounds_toArray, List.set_cons_zero, List.set_cons_succ])
                            (refine wpAnyH_take (i := 5) (oi := Oper.mk _ _ _ _ _ _) (v := ?_) rfl (by kernel_rfl) (by kernel_rfl) (by kernel_rfl) (fun _ _ _ h => h) ?_ (by assumption) ?_; rotate_left; (focus (refine Or.inl ⟨by rfl, ?_⟩; intro wS hSw; (try dsimp only at hSw); go_simp; first | done | with_reducible rfl)); simp only [Act.put, List.setIfInBounds_toArray, List.set_cons_zero, List.set_cons_succ])
                            (refine wpAnyH_take (i := 6) (oi := Oper.mk _ _ _ _ _ _) (v := ?_) rfl (by kernel_rfl) (by kernel_rfl) (by kernel_rfl) (fun _ _ _ h => h) ?_ (by assumption) ?_; rotate_left; (focus (refine Or.inl ⟨by rfl, ?_⟩; intro wS hSw; (try dsimp only at hSw); go_simp; first | done | with_reducible rfl)); simp only [Act.put, List.setIfInBounds_toArray, List.set_cons_zero, List.set_cons_succ])
                            (refine wpAnyH_take (i := 7) (oi := Oper.mk _ _ _ _ _ _) (v := ?_) rfl (by kernel_rfl) (by kernel_rfl) (by kernel_rfl) (fun _ _ _ h => h) ?_ (by assumption) ?_; rotate_left; (focus (refine Or.inl ⟨by rfl, ?_⟩; intro wS hSw; (try dsimp only at hSw); go_simp; first | done | with_reducible rfl)); simp only [Act.put, List.setIfInBounds_toArray, List.set_cons_zero, List.set_cons_succ])
                            (refine wpAnyH_take (i := 8) (oi := Oper.mk _ _ _ _ _ _) (v := ?_) rfl (by kernel_rfl) (by kernel_rfl) (by kernel_rfl) (fun _ _ _ h => h) ?_ (by assumption) ?_; rotate_left; (focus (refine Or.inl ⟨by rfl, ?_⟩; intro wS hSw; (try dsimp only at hSw); go_simp; first | done | with_reducible rfl)); simp only [Act.put, List.setIfInBounds_toArray, List.set_cons_zero, List.set_cons_succ])
                            (refine wpAnyH_take (i := 10) (oi := Oper.mk _ _ _ _ _ _) (v := ?_) rfl (by kernel_rfl) (by kernel_rfl) (by kernel_rfl) (fun _ _ _ h => h) ?_ (by assumption) ?_; rotate_left; (focus (refine Or.inl ⟨by rfl, ?_⟩; intro wS hSw; (try dsimp only at hSw); go_simp; first | done | with_reducible rfl)); simp only [Act.put, List.setIfInBounds_toArray, List.set_cons_zero, List.set_cons_succ])
                            (refine wpAnyH_take (i := 11) (oi := Oper.mk _ _ _ _ _ _) (v := ?_) rfl (by kernel_rfl) (by kernel_rfl) (by kernel_rfl) (fun _ _ _ h => h) ?_ (by assumption) ?_; rotate_left; (focus (refine Or.inl ⟨by rfl, ?_⟩; intro wS hSw; (try dsimp only at hSw); go_simp; first | done | with_reducible rfl)); simp only [Act.put, List.setIfInBounds_toArray, List.set_cons_zero, List.set_cons_succ])
                            (refine wpAnyH_take (i := 12) (oi := Oper.mk _ _ _ _ _ _) (v := ?_) rfl (by kernel_rfl) (by kernel_rfl) (by kernel_rfl) (fun _ _ _ h => h) ?_ (by assumption) ?_; rotate_left; (focus (refine Or.inl ⟨by rfl, ?_⟩; intro wS hSw; (try dsimp only at hSw); go_simp; first | done | with_reducible rfl)); simp only [Act.put, List.setIfInBounds_toArray, List.set_cons_zero, List.set_cons_succ])
                            (refine wpAnyH_take (i := 13) (oi := Oper.mk _ _ _ _ _ _) (v := ?_) rfl (by kernel_rfl) (by kernel_rfl) (by kernel_rfl) (fun _ _ _ h => h) ?_ (by assumption) ?_; rotate_left; (focus (refine Or.inl ⟨by rfl, ?_⟩; intro wS hSw; (try dsimp only at hSw); go_simp; first | done | with_reducible rfl)); simp only [Act.put, List.setIfInBounds_toArray, List.set_cons_zero, List.set_cons_succ])
                            (refine wpAnyH_take (i := 14) (oi := Oper.mk _ _ _ _ _ _) (v := ?_) rfl (by kernel_rfl) (by kernel_rfl) (by kernel_rfl) (fun _ _ _ h => h) ?_ (by assumption) ?_; rotate_left; (focus (refine Or.inl ⟨by rfl, ?_⟩; intro wS hSw; (try dsimp only at hSw); go_simp; first | done | with_reducible rfl)); simp only [Act.put, List.setIfInBounds_toArray, List.set_cons_zero, List.set_cons_succ])
                            (refine wpAnyH_take (i := 15) (oi := Oper.mk _ _ _ _ _ _) (v := ?_) rfl (by kernel_rfl) (by kernel_rfl) (by kernel_rfl) (fun _ _ _ h => h) ?_ (by assumption) ?_; rotate_left; (focus (refine Or.inl ⟨by rfl, ?_⟩; intro wS hSw; (try dsimp only at hSw); go_simp; first | done | with_reducible rfl)); simp only [Act.put, List.setIfInBounds_toArray, List.set_cons_zero, List.set_cons_succ])
                            (refine wpAnyH_ready (rs := [9]) (by kernel_rfl) (by simp) ?_
                             refine AllReadyH.cons (o := Oper.mk _ _ _ _ _ _) rfl (fun K hK => ?_) AllReadyH.nil
                             go_simp
                             (go_at_call 29; go_must (refine (hla.out s _ (by repeat (first | (with_reducible exact Below.refl _ _) | (with_reducible refine Below.drew ?_) | (with_reducible refine below_drewN ?_ _) | ((with_reducible refine Below.alloc ?_ ?_ _); rotate_left; focus ((try simp) <;> omega)) | ((with_reducible refine Below.setCell ?_ ?_ _); rotate_left; focus ((try simp) <;> omega)) | ((with_reducible refine Below.trans ?_ (Below.mono (by assumption) ?_)); rotate_left; focus ((try simp) <;> omega))))).mono ?_; rintro e w8 ⟨rfl, hb8⟩; have hz8 := hb8.size; (try simp at hz8); have hs8 : g3 < w8.heap.size := (by omega); obtain ⟨ua8, va8⟩ := blk_at hb8 g3 (by (try simp) <;> omega); have ht8 : g4 < w8.heap.size := (by omega); obtain ⟨uc8, vc8⟩ := blk_at hb8 g4 (by (try simp) <;> omega)))
                             refine hK.out _ _ ?_ (fun hHeld => ?_)
                             · first | (dsimp only; go_keep; done) | (go_keep; done)
                             clear hK K
                             (try simp only [List.setIfInBounds_toArray, List.set_cons_zero, List.set_cons_succ]))
                            (refine wpAnyH_ready (rs := [16]) (by kernel_rfl) (by simp) ?_
                             refine AllReadyH.cons (o := Oper.mk _ _ _ _ _ _) rfl (fun K hK => ?_) AllReadyH.nil
                             go_simp
                             (go_at_call 29; go_must (refine (hla.out (⟨y.run, y.job⟩ : JRef) _ (by repeat (first | (with_reducible exact Below.refl _ _) | (with_reducible refine Below.drew ?_) | (with_reducible refine below_drewN ?_ _) | ((with_reducible refine Below.alloc ?_ ?_ _); rotate_left; focus ((try simp) <;> omega)) | ((with_reducible refine Below.setCell ?_ ?_ _); rotate_left; focus ((try simp) <;> omega)) | ((with_reducible refine Below.trans ?_ (Below.mono (by assumption) ?_)); rotate_left; focus ((try simp) <;> omega))))).mono ?_; rintro e w9 ⟨rfl, hb9⟩; have hz9 := hb9.size; (try simp at hz9); have hs9 : g3 < w9.heap.size := (by omega); obtain ⟨ua9, va9⟩ := blk_at hb9 g3 (by (try simp) <;> omega); have ht9 : g4 < w9.heap.size := (by omega); obtain ⟨uc9, vc9⟩ := blk_at hb9 g4 (by (try simp) <;> omega)))
                             refine hK.out _ _ ?_ (fun hHeld => ?_)
                             · first | (dsimp only; go_keep; done) | (go_keep; done)
                             clear hK K
                             (try simp only [List.setIfInBounds_toArray, List.set_cons_zero, List.set_cons_succ]))
                            (refine wpAnyH_take (i := 17) (oi := Oper.mk _ _ _ _ _ _) (v := ?_) rfl (by kernel_rfl) (by kernel_rfl) (by kernel_rfl) (fun _ _ _ h => h) ?_ (by assumption) ?_; rotate_left; (focus (refine Or.inl ⟨by rfl, ?_⟩; intro wS hSw; (try dsimp only at hSw); go_simp; first | done | with_reducible rfl)); simp only [Act.put, List.setIfInBounds_toArray, List.set_cons_zero, List.set_cons_succ])
                            refine wpAnyH_done (by kernel_rfl) ?_ _
                            go_wp2_with fail
                            go_roundw
                            case rel => exact ⟨n3 + 1, by omega, by go_num, (by repeat (first | (with_reducible exact Below.refl _ _) | (with_reducible refine Below.drew ?_) | (with_reducible refine below_drewN ?_ _) | ((with_reducible refine Below.alloc ?_ ?_ _); rotate_left; focus ((try simp) <;> omega)) | ((with_reducible refine Below.setCell ?_ ?_ _); rotate_left; focus ((try simp) <;> omega)) | ((with_reducible refine Below.trans ?_ (Below.mono (by assumption) ?_)); rotate_left; focus ((try simp) <;> omega))))⟩
                            case measure => simp [intOf]; omega
                          · have m1 : ¬ (n3 : Int) < (y.wait.length : Int) := by omega
                            go_wp2_with fail
                            go_roundw
                            case rel => exact ⟨n2 + 1, by omega, by go_num, (by repeat (first | (with_reducible exact Below.refl _ _) | (with_reducible refine Below.drew ?_) | (with_reducible refine below_drewN ?_ _) | ((with_reducible refine Below.alloc ?_ ?_ _); rotate_left; focus ((try simp) <;> omega)) | ((with_reducible refine Below.setCell ?_ ?_ _); rotate_left; focus ((try simp) <;> omega)) | ((with_reducible refine Below.trans ?_ (Below.mono (by assumption) ?_)); rotate_left; focus ((try simp) <;> omega))))⟩
                            case measure => simp [intOf]; omega
                    · rw [decide_eq_false hz] at ex
                      by_cases hk1 : a.kind.1 = 1
                      · have kb : (a.kind.1 != 1) = false := by rw [hk1]; rfl
                        clear exy hst ey
                        replace hz := Lib.hid hz
                        replace hk1 := Lib.hid hk1
                        replace hnm := Lib.hid hnm
                        go_wp2_with (first | (go_at_call 18; go_must (refine (hfx.out _ (by repeat (first | (with_reducible exact Below.refl _ _) | (with_reducible refine Below.drew ?_) | (with_reducible refine below_drewN ?_ _) | ((with_reducible refine Below.alloc ?_ ?_ _); rotate_left; focus ((try simp) <;> omega)) | ((with_reducible refine Below.setCell ?_ ?_ _); rotate_left; focus ((try simp) <;> omega)) | ((with_reducible refine Below.trans ?_ (Below.mono (by assumption) ?_)); rotate_left; focus ((try simp) <;> omega))))).mono ?_; rintro e w6 ⟨rfl, rfl⟩)))
                        go_quiet (fail)
                        go_wp2_with fail
                        go_roundw
                        case rel => exact ⟨n2 + 1, by omega, by go_num, (by repeat (first | (with_reducible exact Below.refl _ _) | (with_reducible refine Below.drew ?_) | (with_reducible refine below_drewN ?_ _) | ((with_reducible refine Below.alloc ?_ ?_ _); rotate_left; focus ((try simp) <;> omega)) | ((with_reducible refine Below.setCell ?_ ?_ _); rotate_left; focus ((try simp) <;> omega)) | ((with_reducible refine Below.trans ?_ (Below.mono (by assumption) ?_)); rotate_left; focus ((try simp) <;> omega))))⟩
                        case measure => simp [intOf]; omega
                      · have kb : (a.kind.1 != 1) = true := by rw [bne_iff_ne]; exact hk1
                        obtain ⟨h, hh, hhn, hhr⟩ := hst.stays hz (decide_eq_true hk1)
                        have hyh : y.g = h := name_one hnv.out.asc hym hh (by rw [hnm, hhn]; rfl)
                        rw [decide_eq_true (by rw [hyh]; exact hhr)] at exy
                        clear hst ey
                        replace hz := Lib.hid hz
                        replace hk1 := Lib.hid hk1
                        replace hnm := Lib.hid hnm
                        replace hyh := Lib.hid hyh
                        replace hhr := Lib.hid hhr
                        replace hhn := Lib.hid hhn
                        go_wp2_with (first | (go_at_call 18; go_must (refine (hfx.out _ (by repeat (first | (with_reducible exact Below.refl _ _) | (with_reducible refine Below.drew ?_) | (with_reducible refine below_drewN ?_ _) | ((with_reducible refine Below.alloc ?_ ?_ _); rotate_left; focus ((try simp) <;> omega)) | ((with_reducible refine Below.setCell ?_ ?_ _); rotate_left; focus ((try simp) <;> omega)) | ((with_reducible refine Below.trans ?_ (Below.mono (by assumption) ?_)); rotate_left; focus ((try simp) <;> omega))))).mono ?_; rintro e w6 ⟨rfl, rfl⟩)))
                        go_quiet (fail)
                        go_wp2_with fail
                        go_roundw
                        case rel => exact ⟨n2 + 1, by omega, by go_num, (by repeat (first | (with_reducible exact Below.refl _ _) | (with_reducible refine Below.drew ?_) | (with_reducible refine below_drewN ?_ _) | ((with_reducible refine Below.alloc ?_ ?_ _); rotate_left; focus ((try simp) <;> omega)) | ((with_reducible refine Below.setCell ?_ ?_ _); rotate_left; focus ((try simp) <;> omega)) | ((with_reducible refine Below.trans ?_ (Below.mono (by assumption) ?_)); rotate_left; focus ((try simp) <;> omega))))⟩
                        case measure => simp [intOf]; omega
                  · have hF : findN x.name G1 = -1 := by
                      rw [h2]
                    rw [hF] at hfx0
                    have hfx : Hid (∀ W, Below wc.heap.size wc W → Calls Tryd.prog 18 #[.slice A3 L3.length c3, .string x.name.1] W fun e w' => e = .returned (.int .i64 (-1)) ∧ W = w') := Lib.hid hfx0
                    clear hfx0
                    by_cases hz : x.g.rn = zR
                    · rw [decide_eq_true hz] at ex
                      clear hst
                      replace hz := Lib.hid hz
                      go_wp2_with (first | (go_at_call 18; go_must (refine (hfx.out _ (by repeat (first | (with_reducible exact Below.refl _ _) | (with_reducible refine Below.drew ?_) | (with_reducible refine below_drewN ?_ _) | ((with_reducible refine Below.alloc ?_ ?_ _); rotate_left; focus ((try simp) <;> omega)) | ((with_reducible refine Below.setCell ?_ ?_ _); rotate_left; focus ((try simp) <;> omega)) | ((with_reducible refine Below.trans ?_ (Below.mono (by assumption) ?_)); rotate_left; focus ((try simp) <;> omega))))).mono ?_; rintro e w6 ⟨rfl, rfl⟩)))
                      go_quiet (fail)
                      go_wp2_with fail
                      go_roundw
                      case rel => exact ⟨n2 + 1, by omega, by go_num, (by repeat (first | (with_reducible exact Below.refl _ _) | (with_reducible refine Below.drew ?_) | (with_reducible refine below_drewN ?_ _) | ((with_reducible refine Below.alloc ?_ ?_ _); rotate_left; focus ((try simp) <;> omega)) | ((with_reducible refine Below.setCell ?_ ?_ _); rotate_left; focus ((try simp) <;> omega)) | ((with_reducible refine Below.trans ?_ (Below.mono (by assumption) ?_)); rotate_left; focus ((try simp) <;> omega))))⟩
                      case measure => simp [intOf]; omega
                    · rw [decide_eq_false hz] at ex
                      by_cases hk1 : a.kind.1 = 1
                      · have kb : (a.kind.1 != 1) = false := by rw [hk1]; rfl
                        clear hst
                        replace hz := Lib.hid hz
                        replace hk1 := Lib.hid hk1
                        go_wp2_with (first | (go_at_call 18; go_must (refine (hfx.out _ (by repeat (first | (with_reducible exact Below.refl _ _) | (with_reducible refine Below.drew ?_) | (with_reducible refine below_drewN ?_ _) | ((with_reducible refine Below.alloc ?_ ?_ _); rotate_left; focus ((try simp) <;> omega)) | ((with_reducible refine Below.setCell ?_ ?_ _); rotate_left; focus ((try simp) <;> omega)) | ((with_reducible refine Below.trans ?_ (Below.mono (by assumption) ?_)); rotate_left; focus ((try simp) <;> omega))))).mono ?_; rintro e w6 ⟨rfl, rfl⟩)))
                        go_quiet (fail)
                        go_wp2_with fail
                        go_roundw
                        case rel => exact ⟨n2 + 1, by omega, by go_num, (by repeat (first | (with_reducible exact Below.refl _ _) | (with_reducible refine Below.drew ?_) | (with_reducible refine below_drewN ?_ _) | ((with_reducible refine Below.alloc ?_ ?_ _); rotate_left; focus ((try simp) <;> omega)) | ((with_reducible refine Below.setCell ?_ ?_ _); rotate_left; focus ((try simp) <;> omega)) | ((with_reducible refine Below.trans ?_ (Below.mono (by assumption) ?_)); rotate_left; focus ((try simp) <;> omega))))⟩
                        case measure => simp [intOf]; omega
                      · obtain ⟨h, hh, hhn, _⟩ := hst.stays hz (decide_eq_true hk1)
                        exact absurd hhn (hno h hh)
                · have j1 : ¬ (n2 : Int) < (L1.length : Int) := by omega
                  go_wp2_with fail
                  go_roundw
                  case rel => exact ⟨k + 1, A3, c3, L3, G1, ar2, by go_num, by omega, rfl, hsB.out.keep (by repeat (first | (with_reducible exact Below.refl _ _) | (with_reducible refine Below.drew ?_) | (with_reducible refine below_drewN ?_ _) | ((with_reducible refine Below.alloc ?_ ?_ _); rotate_left; focus ((try simp) <;> omega)) | ((with_reducible refine Below.setCell ?_ ?_ _); rotate_left; focus ((try simp) <;> omega)) | ((with_reducible refine Below.trans ?_ (Below.mono (by assumption) ?_)); rotate_left; focus ((try simp) <;> omega)))), hnv.out, hnm2.out, hno2.out, Own.all hoc.out (by repeat (first | (with_reducible exact Below.refl _ _) | (with_reducible refine Below.drew ?_) | (with_reducible refine below_drewN ?_ _) | ((with_reducible refine Below.alloc ?_ ?_ _); rotate_left; focus ((try simp) <;> omega)) | ((with_reducible refine Below.setCell ?_ ?_ _); rotate_left; focus ((try simp) <;> omega)) | ((with_reducible refine Below.trans ?_ (Below.mono (by assumption) ?_)); rotate_left; focus ((try simp) <;> omega)))), SpareZ.below hsc.out (C := wc.heap.size) (by repeat (first | (with_reducible exact Below.refl _ _) | (with_reducible refine Below.drew ?_) | (with_reducible refine below_drewN ?_ _) | ((with_reducible refine Below.alloc ?_ ?_ _); rotate_left; focus ((try simp) <;> omega)) | ((with_reducible refine Below.setCell ?_ ?_ _); rotate_left; focus ((try simp) <;> omega)) | ((with_reducible refine Below.trans ?_ (Below.mono (by assumption) ?_)); rotate_left; focus ((try simp) <;> omega)))) (fun g hg => (hoc.out.lt g hg).2), by omega, (by repeat (first | (with_reducible exact Below.refl _ _) | (with_reducible refine Below.drew ?_) | (with_reducible refine below_drewN ?_ _) | ((with_reducible refine Below.alloc ?_ ?_ _); rotate_left; focus ((try simp) <;> omega)) | ((with_reducible refine Below.setCell ?_ ?_ _); rotate_left; focus ((try simp) <;> omega)) | ((with_reducible refine Below.trans ?_ (Below.mono (by assumption) ?_)); rotate_left; focus ((try simp) <;> omega))))⟩
                  case measure => simp [intOf]; omega
        · have hp2 : (600 : Int) < (a.name.1.size : Int) := by omega
          clear hsh0 hs1 hv hm hor hown hspz hal
          go_wp2_with (go_at_call 12; go_must (refine (awake_any _ (hG.out.keep (by repeat (first | (with_reducible exact Below.refl _ _) | (with_reducible refine Below.drew ?_) | (with_reducible refine below_drewN ?_ _) | ((with_reducible refine Below.alloc ?_ ?_ _); rotate_left; focus ((try simp) <;> omega)) | ((with_reducible refine Below.setCell ?_ ?_ _); rotate_left; focus ((try simp) <;> omega)) | ((with_reducible refine Below.trans ?_ (Below.mono (by assumption) ?_)); rotate_left; focus ((try simp) <;> omega)))))).mono ?_; rintro e w11 ⟨rfl, hb11⟩; have hz11 := hb11.size))
          go_ret
          exact ⟨rfl, (by repeat (first | (with_reducible exact Below.refl _ _) | (with_reducible refine Below.drew ?_) | (with_reducible refine below_drewN ?_ _) | ((with_reducible refine Below.alloc ?_ ?_ _); rotate_left; focus ((try simp) <;> omega)) | ((with_reducible refine Below.setCell ?_ ?_ _); rotate_left; focus ((try simp) <;> omega)) | ((with_reducible refine Below.trans ?_ (Below.mono (by assumption) ?_)); rotate_left; focus ((try simp) <;> omega))))⟩
      · have i1 : ¬ (k : Int) < (l.length : Int) := by omega
        clear hs1 hv hm hor hown hspz hal
        go_wp2_with (go_at_call 12; go_must (refine (awake_any _ (hG.out.keep (by repeat (first | (with_reducible exact Below.refl _ _) | (with_reducible refine Below.drew ?_) | (with_reducible refine below_drewN ?_ _) | ((with_reducible refine Below.alloc ?_ ?_ _); rotate_left; focus ((try simp) <;> omega)) | ((with_reducible refine Below.setCell ?_ ?_ _); rotate_left; focus ((try simp) <;> omega)) | ((with_reducible refine Below.trans ?_ (Below.mono (by assumption) ?_)); rotate_left; focus ((try simp) <;> omega)))))).mono ?_; rintro e w11 ⟨rfl, hb11⟩; have hz11 := hb11.size))
        go_ret
        exact ⟨rfl, (by repeat (first | (with_reducible exact Below.refl _ _) | (with_reducible refine Below.drew ?_) | (with_reducible refine below_drewN ?_ _) | ((with_reducible refine Below.alloc ?_ ?_ _); rotate_left; focus ((try simp) <;> omega)) | ((with_reducible refine Below.setCell ?_ ?_ _); rotate_left; focus ((try simp) <;> omega)) | ((with_reducible refine Below.trans ?_ (Below.mono (by assumption) ?_)); rotate_left; focus ((try simp) <;> omega))))⟩
  · have hlz : (50 : Int) < (l.length : Int) := by omega
    replace hr := Lib.hid hr
    replace hG := Lib.hid hG
    go_enter Tryd.func8, Tryd.ntmps8
    go_wp2_with (go_at_call 12; go_must (refine (awake_any _ (hG.out.keep (by repeat (first | (with_reducible exact Below.refl _ _) | (with_reducible refine Below.drew ?_) | (with_reducible refine below_drewN ?_ _) | ((with_reducible refine Below.alloc ?_ ?_ _); rotate_left; focus ((try simp) <;> omega)) | ((with_reducible refine Below.setCell ?_ ?_ _); rotate_left; focus ((try simp) <;> omega)) | ((with_reducible refine Below.trans ?_ (Below.mono (by assumption) ?_)); rotate_left; focus ((try simp) <;> omega)))))).mono ?_; rintro e w11 ⟨rfl, hb11⟩; have hz11 := hb11.size))
    go_ret
    exact ⟨rfl, (by repeat (first | (with_reducible exact Below.refl _ _) | (with_reducible refine Below.drew ?_) | (with_reducible refine below_drewN ?_ _) | ((with_reducible refine Below.alloc ?_ ?_ _); rotate_left; focus ((try simp) <;> omega)) | ((with_reducible refine Below.setCell ?_ ?_ _); rotate_left; focus ((try simp) <;> omega)) | ((with_reducible refine Below.trans ?_ (Below.mono (by assumption) ?_)); rotate_left; focus ((try simp) <;> omega))))⟩

/-- A world for the witness: the settled one, the listed tables holding what their initialisers lay. -/
noncomputable def laidWorld (os : Os) : World :=
  { World.holding Tryd.prog os ⟨#[], #[], []⟩ with heap := layAll Tryd.prog Rows.concurrencyOrderRow.laid (World.holding Tryd.prog os ⟨#[], #[], []⟩).heap }
theorem laid_met (os : Os) : laidMet Tryd.prog Rows.concurrencyOrderRow.laid ((laidWorld os).forCall (fun _ _ => 0) ⟨#[], #[.slice none 0 0], []⟩).memory :=
  laidMet_of_run' 8 (by kernel_rfl) (by kernel_rfl)
theorem reads (os : Os) {H : Type} (enc : TypeId × Value → H) : ∃ places, DataW.whole enc Tryd.prog ((laidWorld os).forCall (fun _ _ => 0) ⟨#[], #[.slice none 0 0], []⟩).memory Tryd.f8.params.toList Rows.concurrencyOrderSpec.vars false (#[.slice none 0 0] : Array Value).toList 8 = some ([.nil], [], places) :=
  ⟨[], by kernel_rfl⟩

set_option maxRecDepth 100000 in
theorem contract (H : Type) (enc : TypeId × Value → H) (W : World) (base : Nat) (args : Array Value) (ds gs : List (DataW H)) (before : List MemPlace)
    (hval : ∀ (j : Nat) t v, Tryd.f8.params[j]? = some t → args[j]? = some v → Value.okWide Tryd.prog W .any base t v)
    (hW : DataW.Whole enc Tryd.prog Tryd.f8.params.toList Rows.concurrencyOrderSpec.vars false W args.toList ds gs before)
    (hwt : (DataW.weightsEach Tryd.prog (Tryd.f8.params.toList ++ (OpenSpec.ofChange Rows.concurrencyOrderSpec).bare.plain.varTypes Tryd.prog) (ds ++ gs)).all (· ≤ reachBytes) = true) (hsh : W.ShapedOpen Tryd.prog) :
    Calls Tryd.prog 8 args W fun e W' => ∃ v, e = .returned v ∧ Rows.concurrencyOrderSpec.post enc Tryd.prog Tryd.f8 false true false false W args v W' := by
  have hG : Glob W := cell_of_shapedOpen_int (P := Tryd.prog) (g := 0) (t := 3) (zero := #[.int .i64 0]) hsh (of_decide_eq_true (by kernel_rfl)) (by kernel_rfl) rfl (by kernel_rfl) (by kernel_rfl) Tryd.underlying3
  have hW' := hW
  obtain ⟨p, q, hA0, hV, rfl, hfz, hnd⟩ := hW
  have hA : DataW.TrodAll enc Tryd.prog W 0 (fun _ => true) true Tryd.f8.params.toList args.toList ds p := hA0
  have hA1 := hA
  rw [Tryd.params8] at hA hval
  obtain ⟨rfl, rfl⟩ := trodVars_none hV
  simp only [List.append_nil] at hW'
  have hcall : Calls Tryd.prog 8 args W fun e w' => e = .returned (.bool true) ∧ Below W.heap.size W w' := by
    clear hA0 hV hfz hnd
    obtain ⟨v0, vs0, d0, ds0, p0, q0, hargs, rfl, rfl, h0, r0⟩ := trodAll_cons hA
    obtain ⟨rfl, rfl, rfl⟩ := trodAll_nil r0
    obtain rfl : args = #[v0] := by cases args; simp_all
    obtain ⟨A, l, c, rfl, hlc, hcm, hr⟩ := open_rows movE_len (by omega) Tryd.underlying54 (by kernel_rfl) (fun fuel cs x h => movE_of fuel cs x h) (hval 0 54 v0 rfl rfl) h0
    unfold maxLen at hcm
    exact walk A c l W hr (by omega) hG
  have hds : ds.length = 1 := (trodAll_length hA).1
  refine hcall.mono fun e W' ⟨he, hb⟩ => ?_
  subst he
  refine ⟨_, rfl, law_post hW' rfl hA1 (by kernel_rfl) laidOut Tryd.underlying4 (by kernel_rfl) ?_ hb⟩
  match ds, hds with
  | [_], _ => rfl

set_option maxRecDepth 100000 in
theorem lifted (os : Os) (started : os.Started) (H : Type) (enc : TypeId × Value → H) (F : Stop.Interp) :
    ReturnsInHanded {} Tryd.checked os 8 .any ((OpenSpec.ofChange Rows.concurrencyOrderSpec).preRow enc Tryd.prog Tryd.f8 Rows.concurrencyOrderRow.domain false Rows.concurrencyOrderRow.laid) (((OpenSpec.ofChange Rows.concurrencyOrderSpec).at F).post enc Tryd.prog Tryd.f8 false true false false) := by
  obtain ⟨places, hx⟩ := reads os enc
  refine returnsInHanded_of_row (C := Tryd.checked) (s := OpenSpec.ofChange Rows.concurrencyOrderSpec) own started (by kernel_rfl) Tryd.func8
    (witness_row_at (enc := enc) (C := Tryd.checked) false (laidWorld os) #[.slice none 0 0] rfl (by kernel_rfl) (by kernel_rfl) (by kernel_rfl)
      (OpenSpec.preRow_of_cond 8 hx (by kernel_rfl) (fun k hk => by cases hk) (by kernel_rfl) (laid_met os))) ?_
  intro W base args ds gs before hval hW _ _ hwt _ hsh _
  exact contract H enc W base args ds gs before hval hW hwt hsh

theorem said : Rows.ConcurrencyOrderSaid :=
  OpenClaim.holds_of_cond 8 Tryd.f8 rfl rfl rfl rfl rfl rfl rfl ⟨rfl, rfl, rfl, rfl, rfl⟩ rfl rfl rfl rfl rfl (by kernel_rfl) Tryd.func8 (by kernel_rfl)
    (of_decide_eq_true (by kernel_rfl)) (by unfold Func.isWrapper; first | (rw [if_pos (by decide +kernel)]; kernel_rfl) | (rw [if_neg (by decide +kernel)]; exact ⟨rfl, rfl⟩))
    (fun os started H enc _ F => by rw [OpenClaim.pre_eq_preRow]; exact lifted os started H enc F)

theorem plain (f : FuncId) (fn : Func) (hf : Tryd.pinned.checked.prog.funcNamed Rows.concurrencyOrderRow.func = some f) (hfn : Tryd.pinned.checked.prog.funcs[f]? = some fn) :
    false = Tryd.pinned.checked.prog.looks [] ∧ ∀ (j : Nat) t, fn.params[j]? = some t → Tryd.pinned.checked.prog.wantsStandIn t = false := by
  obtain rfl : f = 8 := Option.some.inj ((show Tryd.prog.funcNamed Rows.concurrencyOrderRow.func = some 8 by kernel_rfl).symm.trans hf) |>.symm
  obtain rfl : fn = Tryd.f8 := (Option.some.inj (Tryd.func8.symm.trans hfn)).symm
  refine ⟨by kernel_rfl, fun j t ht => ?_⟩
  have hall : (Tryd.f8.params.toList.all fun t => !(Tryd.pinned.checked.prog.wantsStandIn t)) = true := by kernel_rfl
  have hm : t ∈ Tryd.f8.params.toList := Array.mem_toList_iff.2 (Array.mem_of_getElem? ht)
  simpa using List.all_eq_true.1 hall t hm

theorem proved : Rows.ConcurrencyOrderCardSaid :=
  Claim7.holds_tied_plain_at .later [] _ _ _ _ said (fun _ h => by cases h) (by kernel_rfl) (fun _ h => by cases h) concurrencyOrder_row_tie rfl ⟨rfl, rfl⟩ (by kernel_rfl) rfl plain (by kernel_rfl)
#print axioms proved
end Go.Proofs.YtbellobjajnlkaaDoor.concurrencyOrder
