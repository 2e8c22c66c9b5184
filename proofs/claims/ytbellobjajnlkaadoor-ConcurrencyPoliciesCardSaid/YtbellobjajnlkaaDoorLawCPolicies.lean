/-
  ConcurrencyPolicies: a job that has entered runs or waits last, alone where the policy is not to queue, and no job is lost that was not cancelled; the example holds. No condition.
-/
import Derived.Test.YtbellobjajnlkaaDoorCon35
import Derived.Test.YtbellobjajnlkaaDoorCon37
import Derived.Test.YtbellobjajnlkaaDoorCon39
import Derived.Test.YtbellobjajnlkaaDoorBase1
import Derived.Test.YtbellobjajnlkaaDoorLayTab
import Derived.Deep.DeepCutAuto





namespace Go.Proofs.YtbellobjajnlkaaDoor.concurrencyPolicies
open Go.ChangeShapes Go.WideShapes Go.ChangeAt Go.RowKit Go.Joins
theorem own : ownKnob Tryd.prog.godebug = none := by kernel_rfl
theorem laidOut : laidOutB Tryd.prog = true := by kernel_rfl

attribute [local go_sem ↓] eq_ref ne_ref
set_option maxRecDepth 100000 in
set_option maxHeartbeats 16000000 in
/-- What few, short and the name's length decide. -/
theorem walk_out (A : Option Addr) (c : Nat) (l : List Grp) (m : Mov) (w : World) (hr : RwG w w.heap.size A l) (_hlc : l.length ≤ c) (hn : l.length ≤ 9223372036854775807) (hwb : ∀ x ∈ l, x.wait.length ≤ 4398046511104) (hG : Glob w) (ho : fewB (l.map Grp.g) = false ∨ ¬ m.name.1.size ≤ 600 ∨ refS ⟨m.run, m.job⟩ = false) :
    Calls Tryd.prog 5 #[.slice A l.length c, .agg #[.int .i64 m.kind.1, .string m.name.1, .string m.run.1, .string m.job.1, .int .i64 m.policy.1]] w fun e w' => e = .returned (.bool true) ∧ Below w.heap.size w w' := by
  have hfe0 : ∀ W, Below w.heap.size w W → Calls Tryd.prog 9 #[.slice A l.length c] W fun e w' => e = .returned (.bool (fewB (l.map Grp.g))) ∧ Below W.heap.size W w' := fun W hb => few_any A c l W ((hr.below hb (Nat.le_refl _)).more hb.size) hn hwb
  have hsh0 : ∀ W, Calls Tryd.prog 13 #[.agg #[.string m.run.1, .string m.job.1]] W fun e w' => e = .returned (.bool (refS ⟨m.run, m.job⟩)) ∧ Below W.heap.size W w' := fun W => shortl_any (⟨m.run, m.job⟩ : JRef) W
  rcases hf : fewB (l.map Grp.g) with _ | _
  · rw [hf] at hfe0
    clear hr hwb ho
    have hfe := Lib.hid hfe0
    have hsh := Lib.hid hsh0
    clear hfe0 hsh0
    replace hG := Lib.hid hG
    replace hf := Lib.hid hf
    go_enter Tryd.func5, Tryd.ntmps5
    go_wp2_with fail
    go_region
    all_goals go_wp2_with (first | (go_at_call 9; go_must (refine (hfe.out _ (by repeat (first | (with_reducible exact Below.refl _ _) | (with_reducible refine Below.drew ?_) | (with_reducible refine below_drewN ?_ _) | ((with_reducible refine Below.alloc ?_ ?_ _); rotate_left; focus ((try simp) <;> omega)) | ((with_reducible refine Below.setCell ?_ ?_ _); rotate_left; focus ((try simp) <;> omega)) | ((with_reducible refine Below.trans ?_ (Below.mono (by assumption) ?_)); rotate_left; focus ((try simp) <;> omega))))).mono ?_; rintro e w1 ⟨rfl, hb1⟩; have hz1 := hb1.size; (try simp at hz1); have hs1 : w.heap.size < w1.heap.size := (by omega); have ht1 : w.heap.size + 1 < w1.heap.size := (by omega); obtain ⟨ua1, va1⟩ := blk_at hb1 w.heap.size (by (try simp) <;> omega); obtain ⟨uc1, vc1⟩ := blk_at hb1 (w.heap.size + 1) (by (try simp) <;> omega))) | (go_at_call 12; go_must (refine (awake_any _ (hG.out.keep (by repeat (first | (with_reducible exact Below.refl _ _) | (with_reducible refine Below.drew ?_) | (with_reducible refine below_drewN ?_ _) | ((with_reducible refine Below.alloc ?_ ?_ _); rotate_left; focus ((try simp) <;> omega)) | ((with_reducible refine Below.setCell ?_ ?_ _); rotate_left; focus ((try simp) <;> omega)) | ((with_reducible refine Below.trans ?_ (Below.mono (by assumption) ?_)); rotate_left; focus ((try simp) <;> omega)))))).mono ?_; rintro e w11 ⟨rfl, hb11⟩; have hz11 := hb11.size; (try simp at hz11); have hs11 : w.heap.size < w11.heap.size := (by omega); have ht11 : w.heap.size + 1 < w11.heap.size := (by omega); obtain ⟨ua11, va11⟩ := blk_at hb11 w.heap.size (by (try simp) <;> omega); obtain ⟨uc11, vc11⟩ := blk_at hb11 (w.heap.size + 1) (by (try simp) <;> omega))))
    all_goals go_ret
    all_goals exact ⟨rfl, (by repeat (first | (with_reducible exact Below.refl _ _) | (with_reducible refine Below.drew ?_) | (with_reducible refine below_drewN ?_ _) | ((with_reducible refine Below.alloc ?_ ?_ _); rotate_left; focus ((try simp) <;> omega)) | ((with_reducible refine Below.setCell ?_ ?_ _); rotate_left; focus ((try simp) <;> omega)) | ((with_reducible refine Below.trans ?_ (Below.mono (by assumption) ?_)); rotate_left; focus ((try simp) <;> omega))))⟩
  rw [hf] at hfe0
  by_cases hp : (m.name.1.size : Int) ≤ 600
  · have hp2 : ¬ (600 : Int) < (m.name.1.size : Int) := by omega
    have hsr : refS ⟨m.run, m.job⟩ = false := by
      rcases ho with h | h | h
      · rw [hf] at h; cases h
      · omega
      · exact h
    rw [hsr] at hsh0
    clear hr hwb ho
    have hfe := Lib.hid hfe0
    have hsh := Lib.hid hsh0
    clear hfe0 hsh0
    replace hG := Lib.hid hG
    replace hf := Lib.hid hf
    go_enter Tryd.func5, Tryd.ntmps5
    go_wp2_with fail
    go_region
    all_goals go_wp2_with (first | (go_at_call 9; go_must (refine (hfe.out _ (by repeat (first | (with_reducible exact Below.refl _ _) | (with_reducible refine Below.drew ?_) | (with_reducible refine below_drewN ?_ _) | ((with_reducible refine Below.alloc ?_ ?_ _); rotate_left; focus ((try simp) <;> omega)) | ((with_reducible refine Below.setCell ?_ ?_ _); rotate_left; focus ((try simp) <;> omega)) | ((with_reducible refine Below.trans ?_ (Below.mono (by assumption) ?_)); rotate_left; focus ((try simp) <;> omega))))).mono ?_; rintro e w1 ⟨rfl, hb1⟩; have hz1 := hb1.size; (try simp at hz1); have hs1 : w.heap.size < w1.heap.size := (by omega); have ht1 : w.heap.size + 1 < w1.heap.size := (by omega); obtain ⟨ua1, va1⟩ := blk_at hb1 w.heap.size (by (try simp) <;> omega); obtain ⟨uc1, vc1⟩ := blk_at hb1 (w.heap.size + 1) (by (try simp) <;> omega))) | (go_at_call 13; go_must (refine (hsh.out _).mono ?_; rintro e w2 ⟨rfl, hb2⟩; have hz2 := hb2.size; (try simp at hz2); have hs2 : w.heap.size < w2.heap.size := (by omega); have ht2 : w.heap.size + 1 < w2.heap.size := (by omega); obtain ⟨ua2, va2⟩ := blk_at hb2 w.heap.size (by (try simp) <;> omega); obtain ⟨uc2, vc2⟩ := blk_at hb2 (w.heap.size + 1) (by (try simp) <;> omega))) | (go_at_call 12; go_must (refine (awake_any _ (hG.out.keep (by repeat (first | (with_reducible exact Below.refl _ _) | (with_reducible refine Below.drew ?_) | (with_reducible refine below_drewN ?_ _) | ((with_reducible refine Below.alloc ?_ ?_ _); rotate_left; focus ((try simp) <;> omega)) | ((with_reducible refine Below.setCell ?_ ?_ _); rotate_left; focus ((try simp) <;> omega)) | ((with_reducible refine Below.trans ?_ (Below.mono (by assumption) ?_)); rotate_left; focus ((try simp) <;> omega)))))).mono ?_; rintro e w11 ⟨rfl, hb11⟩; have hz11 := hb11.size; (try simp at hz11); have hs11 : w.heap.size < w11.heap.size := (by omega); have ht11 : w.heap.size + 1 < w11.heap.size := (by omega); obtain ⟨ua11, va11⟩ := blk_at hb11 w.heap.size (by (try simp) <;> omega); obtain ⟨uc11, vc11⟩ := blk_at hb11 (w.heap.size + 1) (by (try simp) <;> omega))))
    all_goals go_ret
    all_goals exact ⟨rfl, (by repeat (first | (with_reducible exact Below.refl _ _) | (with_reducible refine Below.drew ?_) | (with_reducible refine below_drewN ?_ _) | ((with_reducible refine Below.alloc ?_ ?_ _); rotate_left; focus ((try simp) <;> omega)) | ((with_reducible refine Below.setCell ?_ ?_ _); rotate_left; focus ((try simp) <;> omega)) | ((with_reducible refine Below.trans ?_ (Below.mono (by assumption) ?_)); rotate_left; focus ((try simp) <;> omega))))⟩
  · have hp2 : (600 : Int) < (m.name.1.size : Int) := by omega
    clear hr hwb ho
    have hfe := Lib.hid hfe0
    have hsh := Lib.hid hsh0
    clear hfe0 hsh0
    replace hG := Lib.hid hG
    replace hf := Lib.hid hf
    go_enter Tryd.func5, Tryd.ntmps5
    go_wp2_with fail
    go_region
    all_goals go_wp2_with (first | (go_at_call 9; go_must (refine (hfe.out _ (by repeat (first | (with_reducible exact Below.refl _ _) | (with_reducible refine Below.drew ?_) | (with_reducible refine below_drewN ?_ _) | ((with_reducible refine Below.alloc ?_ ?_ _); rotate_left; focus ((try simp) <;> omega)) | ((with_reducible refine Below.setCell ?_ ?_ _); rotate_left; focus ((try simp) <;> omega)) | ((with_reducible refine Below.trans ?_ (Below.mono (by assumption) ?_)); rotate_left; focus ((try simp) <;> omega))))).mono ?_; rintro e w1 ⟨rfl, hb1⟩; have hz1 := hb1.size; (try simp at hz1); have hs1 : w.heap.size < w1.heap.size := (by omega); have ht1 : w.heap.size + 1 < w1.heap.size := (by omega); obtain ⟨ua1, va1⟩ := blk_at hb1 w.heap.size (by (try simp) <;> omega); obtain ⟨uc1, vc1⟩ := blk_at hb1 (w.heap.size + 1) (by (try simp) <;> omega))) | (go_at_call 12; go_must (refine (awake_any _ (hG.out.keep (by repeat (first | (with_reducible exact Below.refl _ _) | (with_reducible refine Below.drew ?_) | (with_reducible refine below_drewN ?_ _) | ((with_reducible refine Below.alloc ?_ ?_ _); rotate_left; focus ((try simp) <;> omega)) | ((with_reducible refine Below.setCell ?_ ?_ _); rotate_left; focus ((try simp) <;> omega)) | ((with_reducible refine Below.trans ?_ (Below.mono (by assumption) ?_)); rotate_left; focus ((try simp) <;> omega)))))).mono ?_; rintro e w11 ⟨rfl, hb11⟩; have hz11 := hb11.size; (try simp at hz11); have hs11 : w.heap.size < w11.heap.size := (by omega); have ht11 : w.heap.size + 1 < w11.heap.size := (by omega); obtain ⟨ua11, va11⟩ := blk_at hb11 w.heap.size (by (try simp) <;> omega); obtain ⟨uc11, vc11⟩ := blk_at hb11 (w.heap.size + 1) (by (try simp) <;> omega))))
    all_goals go_ret
    all_goals exact ⟨rfl, (by repeat (first | (with_reducible exact Below.refl _ _) | (with_reducible refine Below.drew ?_) | (with_reducible refine below_drewN ?_ _) | ((with_reducible refine Below.alloc ?_ ?_ _); rotate_left; focus ((try simp) <;> omega)) | ((with_reducible refine Below.setCell ?_ ?_ _); rotate_left; focus ((try simp) <;> omega)) | ((with_reducible refine Below.trans ?_ (Below.mono (by assumption) ?_)); rotate_left; focus ((try simp) <;> omega))))⟩
set_option maxRecDepth 100000 in
set_option maxHeartbeats 16000000 in
/-- A job that is refused leaves the groups as they were. -/
theorem walk_no (A : Option Addr) (c : Nat) (l : List Grp) (m : Mov) (w : World) (hr : RwG w w.heap.size A l) (hlc : l.length ≤ c) (hn : l.length ≤ 9223372036854775807) (hwb : ∀ x ∈ l, x.wait.length ≤ 4398046511104) (hG : Glob w) (hf : fewB (l.map Grp.g) = true) (hp : m.name.1.size ≤ 600) (hsr : refS ⟨m.run, m.job⟩ = true) (hE : enterE (l.map Grp.g) m.name ⟨m.run, m.job⟩ m.policy.1 ≠ 0) :
    Calls Tryd.prog 5 #[.slice A l.length c, .agg #[.int .i64 m.kind.1, .string m.name.1, .string m.run.1, .string m.job.1, .int .i64 m.policy.1]] w fun e w' => e = .returned (.bool true) ∧ Below w.heap.size w w' := by
  have hfe0 : ∀ W, Below w.heap.size w W → Calls Tryd.prog 9 #[.slice A l.length c] W fun e w' => e = .returned (.bool (fewB (l.map Grp.g))) ∧ Below W.heap.size W w' := fun W hb => few_any A c l W ((hr.below hb (Nat.le_refl _)).more hb.size) hn hwb
  have hsh0 : ∀ W, Calls Tryd.prog 13 #[.agg #[.string m.run.1, .string m.job.1]] W fun e w' => e = .returned (.bool (refS ⟨m.run, m.job⟩)) ∧ Below W.heap.size W w' := fun W => shortl_any (⟨m.run, m.job⟩ : JRef) W
  rw [hf] at hfe0
  rw [hsr] at hsh0
  have hm := few_mild hf
  have hps : m.name.1.size < 4294967281 := by omega
  have hrs := refS_short hsr
  have hst : St w A c l (l.map Grp.g) := ⟨hr, hlc, rfl⟩
  have hen : Hid (∀ W, Below w.heap.size w W → Calls Tryd.prog 14 #[.slice A l.length c, .string m.name.1, .agg #[.string m.run.1, .string m.job.1], .int .i64 m.policy.1] W fun e w' => ∃ (A' : Option Addr) (c' : Nat) (l' : List Grp) (Ac : Option Addr) (Cc : Nat), e = .returned (.tuple #[.slice A' l'.length c', .agg #[.bool (enterRun (l.map Grp.g) m.name ⟨m.run, m.job⟩ m.policy.1), .slice Ac (enterCan (l.map Grp.g) m.name ⟨m.run, m.job⟩ m.policy.1).length Cc], .int .i64 (enterE (l.map Grp.g) m.name ⟨m.run, m.job⟩ m.policy.1)]) ∧ St w' A' c' l' (enterL (l.map Grp.g) m.name ⟨m.run, m.job⟩ m.policy.1) ∧ Rw jRefE 2 w' w'.heap.size Ac (enterCan (l.map Grp.g) m.name ⟨m.run, m.job⟩ m.policy.1) ∧ Below W.heap.size W w') := Lib.hid fun W hb => enter_st hst hb hm (hG.keep hb) m.name ⟨m.run, m.job⟩ m.policy hps hrs
  rw [show enterRun (l.map Grp.g) m.name ⟨m.run, m.job⟩ m.policy.1 = false by unfold enterRun; rw [if_pos hE], show enterCan (l.map Grp.g) m.name ⟨m.run, m.job⟩ m.policy.1 = [] by unfold enterCan; rw [if_pos hE], show enterL (l.map Grp.g) m.name ⟨m.run, m.job⟩ m.policy.1 = l.map Grp.g by unfold enterL; rw [if_pos hE]] at hen
  generalize enterE (l.map Grp.g) m.name ⟨m.run, m.job⟩ m.policy.1 = E at *
  have hEb : (E != 0) = true := by rw [bne_iff_ne]; exact hE
  have hp1 : (m.name.1.size : Int) ≤ 600 := by omega
  have hp2 : ¬ (600 : Int) < (m.name.1.size : Int) := by omega
  clear hr hwb hp
  have hfe := Lib.hid hfe0
  have hsh := Lib.hid hsh0
  clear hfe0 hsh0
  replace hG := Lib.hid hG
  replace hf := Lib.hid hf
  replace hsr := Lib.hid hsr
  replace hrs := Lib.hid hrs
  replace hE := Lib.hid hE
  go_enter Tryd.func5, Tryd.ntmps5
  go_wp2_with fail
  go_region
  all_goals go_wp2_with (first
    | (go_at_call 9; go_must (refine (hfe.out _ (by repeat (first | (with_reducible exact Below.refl _ _) | (with_reducible refine Below.drew ?_) | (with_reducible refine below_drewN ?_ _) | ((with_reducible refine Below.alloc ?_ ?_ _); rotate_left; focus ((try simp) <;> omega)) | ((with_reducible refine Below.setCell ?_ ?_ _); rotate_left; focus ((try simp) <;> omega)) | ((with_reducible refine Below.trans ?_ (Below.mono (by assumption) ?_)); rotate_left; focus ((try simp) <;> omega))))).mono ?_; rintro e w1 ⟨rfl, hb1⟩; have hz1 := hb1.size; (try simp at hz1); have hs1 : w.heap.size < w1.heap.size := (by omega); have ht1 : w.heap.size + 1 < w1.heap.size := (by omega); obtain ⟨ua1, va1⟩ := blk_at hb1 w.heap.size (by (try simp) <;> omega); obtain ⟨uc1, vc1⟩ := blk_at hb1 (w.heap.size + 1) (by (try simp) <;> omega)))
    | (go_at_call 13; go_must (refine (hsh.out _).mono ?_; rintro e w2 ⟨rfl, hb2⟩; have hz2 := hb2.size; (try simp at hz2); have hs2 : w.heap.size < w2.heap.size := (by omega); have ht2 : w.heap.size + 1 < w2.heap.size := (by omega); obtain ⟨ua2, va2⟩ := blk_at hb2 w.heap.size (by (try simp) <;> omega); obtain ⟨uc2, vc2⟩ := blk_at hb2 (w.heap.size + 1) (by (try simp) <;> omega)))
    | (go_at_call 14; go_must (refine (hen.out _ (by repeat (first | (with_reducible exact Below.refl _ _) | (with_reducible refine Below.drew ?_) | (with_reducible refine below_drewN ?_ _) | ((with_reducible refine Below.alloc ?_ ?_ _); rotate_left; focus ((try simp) <;> omega)) | ((with_reducible refine Below.setCell ?_ ?_ _); rotate_left; focus ((try simp) <;> omega)) | ((with_reducible refine Below.trans ?_ (Below.mono (by assumption) ?_)); rotate_left; focus ((try simp) <;> omega))))).mono ?_; rintro e w3 ⟨A3, c3, L3, Ac3, Cc3, rfl, hst3, hcr3, hb3⟩; have hz3 := hb3.size; (try simp at hz3); have hs3 : w.heap.size < w3.heap.size := (by omega); have ht3 : w.heap.size + 1 < w3.heap.size := (by omega); obtain ⟨ua3, va3⟩ := blk_at hb3 w.heap.size (by (try simp) <;> omega); obtain ⟨uc3, vc3⟩ := blk_at hb3 (w.heap.size + 1) (by (try simp) <;> omega)))
    | (go_at_call 16; go_must (refine (same_st hst3 (by repeat (first | (with_reducible exact Below.refl _ _) | (with_reducible refine Below.drew ?_) | (with_reducible refine below_drewN ?_ _) | ((with_reducible refine Below.alloc ?_ ?_ _); rotate_left; focus ((try simp) <;> omega)) | ((with_reducible refine Below.setCell ?_ ?_ _); rotate_left; focus ((try simp) <;> omega)) | ((with_reducible refine Below.trans ?_ (Below.mono (by assumption) ?_)); rotate_left; focus ((try simp) <;> omega)))) hst (by repeat (first | (with_reducible exact Below.refl _ _) | (with_reducible refine Below.drew ?_) | (with_reducible refine below_drewN ?_ _) | ((with_reducible refine Below.alloc ?_ ?_ _); rotate_left; focus ((try simp) <;> omega)) | ((with_reducible refine Below.setCell ?_ ?_ _); rotate_left; focus ((try simp) <;> omega)) | ((with_reducible refine Below.trans ?_ (Below.mono (by assumption) ?_)); rotate_left; focus ((try simp) <;> omega)))) hm).mono ?_; rintro e w5 ⟨rfl, hb5⟩; have hz5 := hb5.size; (try simp at hz5); have hs5 : w.heap.size < w5.heap.size := (by omega); have ht5 : w.heap.size + 1 < w5.heap.size := (by omega); obtain ⟨ua5, va5⟩ := blk_at hb5 w.heap.size (by (try simp) <;> omega); obtain ⟨uc5, vc5⟩ := blk_at hb5 (w.heap.size + 1) (by (try simp) <;> omega)))
    | (go_at_call 12; go_must (refine (awake_any _ (hG.out.keep (by repeat (first | (with_reducible exact Below.refl _ _) | (with_reducible refine Below.drew ?_) | (with_reducible refine below_drewN ?_ _) | ((with_reducible refine Below.alloc ?_ ?_ _); rotate_left; focus ((try simp) <;> omega)) | ((with_reducible refine Below.setCell ?_ ?_ _); rotate_left; focus ((try simp) <;> omega)) | ((with_reducible refine Below.trans ?_ (Below.mono (by assumption) ?_)); rotate_left; focus ((try simp) <;> omega)))))).mono ?_; rintro e w11 ⟨rfl, hb11⟩; have hz11 := hb11.size; (try simp at hz11); have hs11 : w.heap.size < w11.heap.size := (by omega); have ht11 : w.heap.size + 1 < w11.heap.size := (by omega); obtain ⟨ua11, va11⟩ := blk_at hb11 w.heap.size (by (try simp) <;> omega); obtain ⟨uc11, vc11⟩ := blk_at hb11 (w.heap.size + 1) (by (try simp) <;> omega))))
  all_goals go_ret
  all_goals exact ⟨rfl, (by repeat (first | (with_reducible exact Below.refl _ _) | (with_reducible refine Below.drew ?_) | (with_reducible refine below_drewN ?_ _) | ((with_reducible refine Below.alloc ?_ ?_ _); rotate_left; focus ((try simp) <;> omega)) | ((with_reducible refine Below.setCell ?_ ?_ _); rotate_left; focus ((try simp) <;> omega)) | ((with_reducible refine Below.trans ?_ (Below.mono (by assumption) ?_)); rotate_left; focus ((try simp) <;> omega))))⟩
set_option maxRecDepth 100000 in
set_option maxHeartbeats 16000000 in
/-- A job that enters and runs: it is where it was found, and no job is lost. -/
theorem walk_run (A : Option Addr) (c : Nat) (l : List Grp) (m : Mov) (w : World) (hr : RwG w w.heap.size A l) (hlc : l.length ≤ c) (hn : l.length ≤ 9223372036854775807) (hwb : ∀ x ∈ l, x.wait.length ≤ 4398046511104) (hG : Glob w) (hf : fewB (l.map Grp.g) = true) (hp : m.name.1.size ≤ 600) (hsr : refS ⟨m.run, m.job⟩ = true) (hE : enterE (l.map Grp.g) m.name ⟨m.run, m.job⟩ m.policy.1 = 0) (hR : enterRun (l.map Grp.g) m.name ⟨m.run, m.job⟩ m.policy.1 = true) :
    Calls Tryd.prog 5 #[.slice A l.length c, .agg #[.int .i64 m.kind.1, .string m.name.1, .string m.run.1, .string m.job.1, .int .i64 m.policy.1]] w fun e w' => e = .returned (.bool true) ∧ Below w.heap.size w w' := by
  have hfe0 : ∀ W, Below w.heap.size w W → Calls Tryd.prog 9 #[.slice A l.length c] W fun e w' => e = .returned (.bool (fewB (l.map Grp.g))) ∧ Below W.heap.size W w' := fun W hb => few_any A c l W ((hr.below hb (Nat.le_refl _)).more hb.size) hn hwb
  have hsh0 : ∀ W, Calls Tryd.prog 13 #[.agg #[.string m.run.1, .string m.job.1]] W fun e w' => e = .returned (.bool (refS ⟨m.run, m.job⟩)) ∧ Below W.heap.size W w' := fun W => shortl_any (⟨m.run, m.job⟩ : JRef) W
  rw [hf] at hfe0
  rw [hsr] at hsh0
  have hm := few_mild hf
  have hps : m.name.1.size < 4294967281 := by omega
  have hrs := refS_short hsr
  have hst : St w A c l (l.map Grp.g) := ⟨hr, hlc, rfl⟩
  have hen : Hid (∀ W, Below w.heap.size w W → Calls Tryd.prog 14 #[.slice A l.length c, .string m.name.1, .agg #[.string m.run.1, .string m.job.1], .int .i64 m.policy.1] W fun e w' => ∃ (A' : Option Addr) (c' : Nat) (l' : List Grp) (Ac : Option Addr) (Cc : Nat), e = .returned (.tuple #[.slice A' l'.length c', .agg #[.bool (enterRun (l.map Grp.g) m.name ⟨m.run, m.job⟩ m.policy.1), .slice Ac (enterCan (l.map Grp.g) m.name ⟨m.run, m.job⟩ m.policy.1).length Cc], .int .i64 (enterE (l.map Grp.g) m.name ⟨m.run, m.job⟩ m.policy.1)]) ∧ St w' A' c' l' (enterL (l.map Grp.g) m.name ⟨m.run, m.job⟩ m.policy.1) ∧ Rw jRefE 2 w' w'.heap.size Ac (enterCan (l.map Grp.g) m.name ⟨m.run, m.job⟩ m.policy.1) ∧ Below W.heap.size W w') := Lib.hid fun W hb => enter_st hst hb hm (hG.keep hb) m.name ⟨m.run, m.job⟩ m.policy hps hrs
  obtain ⟨_, hfind, hat⟩ := enter_get hE
  have hgrp := enter_group hE
  have hkeep : Hid (∀ s, s ∈ allG (l.map Grp.g) → s ∈ allG (enterL (l.map Grp.g) m.name ⟨m.run, m.job⟩ m.policy.1) ∨ s ∈ enterCan (l.map Grp.g) m.name ⟨m.run, m.job⟩ m.policy.1) := Lib.hid fun s hs => enter_keeps hE hs
  have hmn := mild_enter (p := m.policy.1) hm hps hrs
  have hcl := can_len (nm := m.name) (r := ⟨m.run, m.job⟩) (p := m.policy.1) hm
  have hol : (allG (l.map Grp.g)).length ≤ 1000000 := hm.all
  have hal : Hid (∀ W, Below w.heap.size w W → Calls Tryd.prog 20 #[.slice A l.length c] W fun e w' => ∃ (A' : Option Addr) (c' : Nat), e = .returned (.slice A' (allG (l.map Grp.g)).length c') ∧ Rw jRefE 2 w' w'.heap.size A' (allG (l.map Grp.g)) ∧ Below W.heap.size W w') := Lib.hid fun W hb => all_st hst hb hm
  rw [hE] at hen
  generalize enterRun (l.map Grp.g) m.name ⟨m.run, m.job⟩ m.policy.1 = R at *
  generalize enterCan (l.map Grp.g) m.name ⟨m.run, m.job⟩ m.policy.1 = C at *
  generalize enterL (l.map Grp.g) m.name ⟨m.run, m.job⟩ m.policy.1 = G1 at *
  generalize joinG (getG (l.map Grp.g) m.name) ⟨m.run, m.job⟩ m.policy.1 = J at *
  generalize atN m.name G1 = K at *
  generalize allG (l.map Grp.g) = O at *
  have hfi : Hid (∀ (W0 W : World) (A : Option Addr) (c : Nat) (L : List Grp), St W0 A c L G1 → Below W0.heap.size W0 W → Calls Tryd.prog 18 #[.slice A L.length c, .string m.name.1] W fun e w' => e = .returned (.int .i64 (K : Int)) ∧ W = w') := Lib.hid fun W0 W A c L h hb => by
    have h := find_st h hb hmn m.name
    rwa [hfind] at h
  have hJl : J.wait.length ≤ 1000000 := hmn.wait J (List.mem_of_getElem? hat)
  have hp1 : (m.name.1.size : Int) ≤ 600 := by omega
  have hp2 : ¬ (600 : Int) < (m.name.1.size : Int) := by omega
  have hK0 : ¬ (K : Int) < 0 := by omega
  have hK1 : (0 : Int) ≤ (K : Int) := by omega
  have hn1 := hmn.all
  clear hr hwb hp hst hm hfind
  have hfe := Lib.hid hfe0
  have hsh := Lib.hid hsh0
  clear hfe0 hsh0
  replace hG := Lib.hid hG
  replace hf := Lib.hid hf
  replace hsr := Lib.hid hsr
  replace hrs := Lib.hid hrs
  replace hE := Lib.hid hE
  replace hmn := Lib.hid hmn
  replace hat := Lib.hid hat
  replace hgrp := Lib.hid hgrp
  go_enter Tryd.func5, Tryd.ntmps5
  go_wp2_with fail
  go_region
  all_goals go_wp2_with (first
    | (go_at_call 9; go_must (refine (hfe.out _ (by repeat (first | (with_reducible exact Below.refl _ _) | (with_reducible refine Below.drew ?_) | (with_reducible refine below_drewN ?_ _) | ((with_reducible refine Below.alloc ?_ ?_ _); rotate_left; focus ((try simp) <;> omega)) | ((with_reducible refine Below.setCell ?_ ?_ _); rotate_left; focus ((try simp) <;> omega)) | ((with_reducible refine Below.trans ?_ (Below.mono (by assumption) ?_)); rotate_left; focus ((try simp) <;> omega))))).mono ?_; rintro e w1 ⟨rfl, hb1⟩; have hz1 := hb1.size; (try simp at hz1); have hs1 : w.heap.size < w1.heap.size := (by omega); have ht1 : w.heap.size + 1 < w1.heap.size := (by omega); obtain ⟨ua1, va1⟩ := blk_at hb1 w.heap.size (by (try simp) <;> omega); obtain ⟨uc1, vc1⟩ := blk_at hb1 (w.heap.size + 1) (by (try simp) <;> omega)))
    | (go_at_call 13; go_must (refine (hsh.out _).mono ?_; rintro e w2 ⟨rfl, hb2⟩; have hz2 := hb2.size; (try simp at hz2); have hs2 : w.heap.size < w2.heap.size := (by omega); have ht2 : w.heap.size + 1 < w2.heap.size := (by omega); obtain ⟨ua2, va2⟩ := blk_at hb2 w.heap.size (by (try simp) <;> omega); obtain ⟨uc2, vc2⟩ := blk_at hb2 (w.heap.size + 1) (by (try simp) <;> omega)))
    | (go_at_call 14; go_must (refine (hen.out _ (by repeat (first | (with_reducible exact Below.refl _ _) | (with_reducible refine Below.drew ?_) | (with_reducible refine below_drewN ?_ _) | ((with_reducible refine Below.alloc ?_ ?_ _); rotate_left; focus ((try simp) <;> omega)) | ((with_reducible refine Below.setCell ?_ ?_ _); rotate_left; focus ((try simp) <;> omega)) | ((with_reducible refine Below.trans ?_ (Below.mono (by assumption) ?_)); rotate_left; focus ((try simp) <;> omega))))).mono ?_; rintro e w3 ⟨A3, c3, L3, Ac3, Cc3, rfl, hst3, hcr3, hb3⟩; have hz3 := hb3.size; (try simp at hz3); have hs3 : w.heap.size < w3.heap.size := (by omega); have ht3 : w.heap.size + 1 < w3.heap.size := (by omega); obtain ⟨ua3, va3⟩ := blk_at hb3 w.heap.size (by (try simp) <;> omega); obtain ⟨uc3, vc3⟩ := blk_at hb3 (w.heap.size + 1) (by (try simp) <;> omega)))
    | (go_at_call 18; go_must (refine (hfi.out _ _ _ _ _ hst3 (by repeat (first | (with_reducible exact Below.refl _ _) | (with_reducible refine Below.drew ?_) | (with_reducible refine below_drewN ?_ _) | ((with_reducible refine Below.alloc ?_ ?_ _); rotate_left; focus ((try simp) <;> omega)) | ((with_reducible refine Below.setCell ?_ ?_ _); rotate_left; focus ((try simp) <;> omega)) | ((with_reducible refine Below.trans ?_ (Below.mono (by assumption) ?_)); rotate_left; focus ((try simp) <;> omega))))).mono ?_; rintro e w4 ⟨rfl, rfl⟩)))
  obtain ⟨g3, o3, x, rfl, hg3, rfl, hkl, q0, q1, q2, q3, hwc, hrx⟩ := hst3.at hat.out
  have hK2 : (K : Int) < (L3.length : Int) := by omega
  have hxl : x.wait.length ≤ 1000000 := hJl
  clear hJl
  have hs1 : refB x.run.1 x.job.1 m.run.1 m.job.1 = true := by
    rcases hgrp.out with ⟨_, h⟩ | ⟨h, _⟩
    · rw [refB_iff]; exact decide_eq_true h
    · rw [hR] at h; cases h
  subst hR
  refine wp_region_held_drew (S := fun w' => w'.cell? ⟨w3.heap.size, 0, none⟩ = some (.bool true) ∧ w'.cell? ⟨g3, o3 + K * 4 + 1, none⟩ = some (.string x.run.1) ∧ w'.cell? ⟨g3, o3 + K * 4 + 2, none⟩ = some (.string x.job.1) ∧ w'.cell? ⟨g3, o3 + K * 4 + 3, none⟩ = some (.slice x.waitA x.wait.length x.waitC) ∧ w'.cell? ⟨w.heap.size + 1, 0, none⟩ = some (.string m.run.1) ∧ w'.cell? ⟨w.heap.size + 1, 1, none⟩ = some (.string m.job.1)) (by kernel_rfl) ?_ (fun hHeld => ?_)
  · (first | (dsimp only; go_keep; done) | (go_keep; done) | (go_simp; done))
  rw [show (Array.replicate _ false : Array Bool) = #[false, false, false, false, false, false, false, false, false, false, false, false, false, false, false, false, false, false, false, false, false, false, false, false, false, false, false, false, false, false, false, false, false, false, false, false] from rfl]
  (refine wpAnyH_take (i := 0) (oi := Oper.mk _ _ _ _ _ _) (v := ?_) rfl (by kernel_rfl) (by kernel_rfl) (by kernel_rfl) (fun _ _ _ h => h) ?_ (by assumption) ?_; rotate_left; (focus (refine Or.inl ⟨by rfl, ?_⟩; intro wS hSw; (try dsimp only at hSw); go_simp; first | done | with_reducible rfl)); simp only [Act.put, List.setIfInBounds_toArray, List.set_cons_zero, List.set_cons_succ])
  (refine wpAnyH_take (i := 1) (oi := Oper.mk _ _ _ _ _ _) (v := ?_) rfl (by kernel_rfl) (by kernel_rfl) (by kernel_rfl) (fun _ _ _ h => h) ?_ (by assumption) ?_; rotate_left; (focus (refine Or.inl ⟨by rfl, ?_⟩; intro wS hSw; (try dsimp only at hSw); go_simp; first | done | with_reducible rfl)); simp only [Act.put, List.setIfInBounds_toArray, List.set_cons_zero, List.set_cons_succ])
  (refine wpAnyH_take (i := 2) (oi := Oper.mk _ _ _ _ _ _) (v := ?_) rfl (by kernel_rfl) (by kernel_rfl) (by kernel_rfl) (fun _ _ _ h => h) ?_ (by assumption) ?_; rotate_left; (focus (refine Or.inl ⟨by rfl, ?_⟩; intro wS hSw; (try dsimp only at hSw); go_simp; first | done | with_reducible rfl)); simp only [Act.put, List.setIfInBounds_toArray, List.set_cons_zero, List.set_cons_succ])
  (refine wpAnyH_take (i := 3) (oi := Oper.mk _ _ _ _ _ _) (v := ?_) rfl (by kernel_rfl) (by kernel_rfl) (by kernel_rfl) (fun _ _ _ h => h) ?_ (by assumption) ?_; rotate_left; (focus (refine Or.inl ⟨by rfl, ?_⟩; intro wS hSw; (try dsimp only at hSw); go_simp; first | done | with_reducible rfl)); simp only [Act.put, List.setIfInBounds_toArray, List.set_cons_zero, List.set_cons_succ])
  (refine wpAnyH_take (i := 4) (oi := Oper.mk _ _ _ _ _ _) (v := ?_) rfl (by kernel_rfl) (by kernel_rfl) (by kernel_rfl) (fun _ _ _ h => h) ?_ (by assumption) ?_; rotate_left; (focus (refine Or.inl ⟨by rfl, ?_⟩; intro wS hSw; (try dsimp only at hSw); go_simp; first | done | with_reducible rfl)); simp only [Act.put, List.setIfInBounds_toArray, List.set_cons_zero, List.set_cons_succ])
  (refine wpAnyH_take (i := 5) (oi := Oper.mk _ _ _ _ _ _) (v := ?_) rfl (by kernel_rfl) (by kernel_rfl) (by kernel_rfl) (fun _ _ _ h => h) ?_ (by assumption) ?_; rotate_left; (focus (refine Or.inl ⟨by rfl, ?_⟩; intro wS hSw; (try dsimp only at hSw); go_simp; first | done | with_reducible rfl)); simp only [Act.put, List.setIfInBounds_toArray, List.set_cons_zero, List.set_cons_succ])
  (refine wpAnyH_take (i := 6) (oi := Oper.mk _ _ _ _ _ _) (v := ?_) rfl (by kernel_rfl) (by kernel_rfl) (by kernel_rfl) (fun _ _ _ h => h) ?_ (by assumption) ?_; rotate_left; (focus (refine Or.inl ⟨by rfl, ?_⟩; intro wS hSw; (try dsimp only at hSw); go_simp; first | done | with_reducible rfl)); simp only [Act.put, List.setIfInBounds_toArray, List.set_cons_zero, List.set_cons_succ])
  (refine wpAnyH_take (i := 7) (oi := Oper.mk _ _ _ _ _ _) (v := ?_) rfl (by kernel_rfl) (by kernel_rfl) (by kernel_rfl) (fun _ _ _ h => h) ?_ (by assumption) ?_; rotate_left; (focus (refine Or.inl ⟨by rfl, ?_⟩; intro wS hSw; (try dsimp only at hSw); go_simp; first | done | with_reducible rfl)); simp only [Act.put, List.setIfInBounds_toArray, List.set_cons_zero, List.set_cons_succ])
  (refine wpAnyH_take (i := 8) (oi := Oper.mk _ _ _ _ _ _) (v := ?_) rfl (by kernel_rfl) (by kernel_rfl) (by kernel_rfl) (fun _ _ _ h => h) ?_ (by assumption) ?_; rotate_left; (focus (refine Or.inl ⟨by rfl, ?_⟩; intro wS hSw; (try dsimp only at hSw); go_simp; first | done | with_reducible rfl)); simp only [Act.put, List.setIfInBounds_toArray, List.set_cons_zero, List.set_cons_succ])
  (refine wpAnyH_take (i := 9) (oi := Oper.mk _ _ _ _ _ _) (v := ?_) rfl (by kernel_rfl) (by kernel_rfl) (by kernel_rfl) (fun _ _ _ h => h) ?_ (by assumption) ?_; rotate_left; (focus (refine Or.inl ⟨by rfl, ?_⟩; intro wS hSw; (try dsimp only at hSw); go_simp; first | done | with_reducible rfl)); simp only [Act.put, List.setIfInBounds_toArray, List.set_cons_zero, List.set_cons_succ])
  (refine wpAnyH_take (i := 10) (oi := Oper.mk _ _ _ _ _ _) (v := ?_) rfl (by kernel_rfl) (by kernel_rfl) (by kernel_rfl) (fun _ _ _ h => h) ?_ (by assumption) ?_; rotate_left; (focus (refine Or.inl ⟨by rfl, ?_⟩; intro wS hSw; (try dsimp only at hSw); go_simp; first | done | with_reducible rfl)); simp only [Act.put, List.setIfInBounds_toArray, List.set_cons_zero, List.set_cons_succ])
  (refine wpAnyH_take (i := 11) (oi := Oper.mk _ _ _ _ _ _) (v := ?_) rfl (by kernel_rfl) (by kernel_rfl) (by kernel_rfl) (fun _ _ _ h => h) ?_ (by assumption) ?_; rotate_left; (focus (refine Or.inl ⟨by rfl, ?_⟩; intro wS hSw; (try dsimp only at hSw); go_simp; first | done | with_reducible rfl)); simp only [Act.put, List.setIfInBounds_toArray, List.set_cons_zero, List.set_cons_succ])
  (refine wpAnyH_take (i := 12) (oi := Oper.mk _ _ _ _ _ _) (v := ?_) rfl (by kernel_rfl) (by kernel_rfl) (by kernel_rfl) (fun _ _ _ h => h) ?_ (by assumption) ?_; rotate_left; (focus (refine Or.inl ⟨by rfl, ?_⟩; intro wS hSw; (try dsimp only at hSw); go_simp; first | done | with_reducible rfl)); simp only [Act.put, List.setIfInBounds_toArray, List.set_cons_zero, List.set_cons_succ])
  (refine wpAnyH_take (i := 13) (oi := Oper.mk _ _ _ _ _ _) (v := ?_) rfl (by kernel_rfl) (by kernel_rfl) (by kernel_rfl) (fun _ _ _ h => h) ?_ (by assumption) ?_; rotate_left; (focus (refine Or.inl ⟨by rfl, ?_⟩; intro wS hSw; (try dsimp only at hSw); go_simp; first | done | with_reducible rfl)); simp only [Act.put, List.setIfInBounds_toArray, List.set_cons_zero, List.set_cons_succ])
  (refine wpAnyH_take (i := 14) (oi := Oper.mk _ _ _ _ _ _) (v := ?_) rfl (by kernel_rfl) (by kernel_rfl) (by kernel_rfl) (fun _ _ _ h => h) ?_ (by assumption) ?_; rotate_left; (focus (refine Or.inl ⟨by rfl, ?_⟩; intro wS hSw; (try dsimp only at hSw); go_simp; first | done | with_reducible rfl)); simp only [Act.put, List.setIfInBounds_toArray, List.set_cons_zero, List.set_cons_succ])
  (refine wpAnyH_take (i := 15) (oi := Oper.mk _ _ _ _ _ _) (v := ?_) rfl (by kernel_rfl) (by kernel_rfl) (by kernel_rfl) (fun _ _ _ h => h) ?_ (by assumption) ?_; rotate_left; (focus (refine Or.inl ⟨by rfl, ?_⟩; intro wS hSw; (try dsimp only at hSw); go_simp; first | done | with_reducible rfl)); simp only [Act.put, List.setIfInBounds_toArray, List.set_cons_zero, List.set_cons_succ])
  (refine wpAnyH_take (i := 16) (oi := Oper.mk _ _ _ _ _ _) (v := ?_) rfl (by kernel_rfl) (by kernel_rfl) (by kernel_rfl) (fun _ _ _ h => h) ?_ (by assumption) ?_; rotate_left; (focus (refine Or.inl ⟨by rfl, ?_⟩; intro wS hSw; (try dsimp only at hSw); go_simp; first | done | with_reducible rfl)); simp only [Act.put, List.setIfInBounds_toArray, List.set_cons_zero, List.set_cons_succ])
  (refine wpAnyH_take (i := 17) (oi := Oper.mk _ _ _ _ _ _) (v := ?_) rfl (by kernel_rfl) (by kernel_rfl) (by kernel_rfl) (fun _ _ _ h => h) ?_ (by assumption) ?_; rotate_left; (focus (refine Or.inl ⟨by rfl, ?_⟩; intro wS hSw; (try dsimp only at hSw); go_simp; first | done | with_reducible rfl)); simp only [Act.put, List.setIfInBounds_toArray, List.set_cons_zero, List.set_cons_succ])
  (refine wpAnyH_take (i := 18) (oi := Oper.mk _ _ _ _ _ _) (v := ?_) rfl (by kernel_rfl) (by kernel_rfl) (by kernel_rfl) (fun _ _ _ h => h) ?_ (by assumption) ?_; rotate_left; (focus (refine Or.inl ⟨by rfl, ?_⟩; intro wS hSw; (try dsimp only at hSw); go_simp; first | done | with_reducible rfl)); simp only [Act.put, List.setIfInBounds_toArray, List.set_cons_zero, List.set_cons_succ])
  (refine wpAnyH_take (i := 19) (oi := Oper.mk _ _ _ _ _ _) (v := undef) rfl (by kernel_rfl) (by kernel_rfl) (by kernel_rfl) (fun _ _ _ h => h) (Or.inr ⟨by kernel_rfl, rfl⟩) (by assumption) ?_; simp only [Act.put, List.setIfInBounds_toArray, List.set_cons_zero, List.set_cons_succ])
  (refine wpAnyH_take (i := 20) (oi := Oper.mk _ _ _ _ _ _) (v := undef) rfl (by kernel_rfl) (by kernel_rfl) (by kernel_rfl) (fun _ _ _ h => h) (Or.inr ⟨by kernel_rfl, rfl⟩) (by assumption) ?_; simp only [Act.put, List.setIfInBounds_toArray, List.set_cons_zero, List.set_cons_succ])
  (refine wpAnyH_take (i := 21) (oi := Oper.mk _ _ _ _ _ _) (v := undef) rfl (by kernel_rfl) (by kernel_rfl) (by kernel_rfl) (fun _ _ _ h => h) (Or.inr ⟨by kernel_rfl, rfl⟩) (by assumption) ?_; simp only [Act.put, List.setIfInBounds_toArray, List.set_cons_zero, List.set_cons_succ])
  (refine wpAnyH_take (i := 22) (oi := Oper.mk _ _ _ _ _ _) (v := undef) rfl (by kernel_rfl) (by kernel_rfl) (by kernel_rfl) (fun _ _ _ h => h) (Or.inr ⟨by kernel_rfl, rfl⟩) (by assumption) ?_; simp only [Act.put, List.setIfInBounds_toArray, List.set_cons_zero, List.set_cons_succ])
  (refine wpAnyH_take (i := 23) (oi := Oper.mk _ _ _ _ _ _) (v := undef) rfl (by kernel_rfl) (by kernel_rfl) (by kernel_rfl) (fun _ _ _ h => h) (Or.inr ⟨by kernel_rfl, rfl⟩) (by assumption) ?_; simp only [Act.put, List.setIfInBounds_toArray, List.set_cons_zero, List.set_cons_succ])
  (refine wpAnyH_take (i := 24) (oi := Oper.mk _ _ _ _ _ _) (v := undef) rfl (by kernel_rfl) (by kernel_rfl) (by kernel_rfl) (fun _ _ _ h => h) (Or.inr ⟨by kernel_rfl, rfl⟩) (by assumption) ?_; simp only [Act.put, List.setIfInBounds_toArray, List.set_cons_zero, List.set_cons_succ])
  (refine wpAnyH_take (i := 26) (oi := Oper.mk _ _ _ _ _ _) (v := undef) rfl (by kernel_rfl) (by kernel_rfl) (by kernel_rfl) (fun _ _ _ h => h) (Or.inr ⟨by kernel_rfl, rfl⟩) (by assumption) ?_; simp only [Act.put, List.setIfInBounds_toArray, List.set_cons_zero, List.set_cons_succ])
  (refine wpAnyH_take (i := 27) (oi := Oper.mk _ _ _ _ _ _) (v := undef) rfl (by kernel_rfl) (by kernel_rfl) (by kernel_rfl) (fun _ _ _ h => h) (Or.inr ⟨by kernel_rfl, rfl⟩) (by assumption) ?_; simp only [Act.put, List.setIfInBounds_toArray, List.set_cons_zero, List.set_cons_succ])
  (refine wpAnyH_take (i := 28) (oi := Oper.mk _ _ _ _ _ _) (v := undef) rfl (by kernel_rfl) (by kernel_rfl) (by kernel_rfl) (fun _ _ _ h => h) (Or.inr ⟨by kernel_rfl, rfl⟩) (by assumption) ?_; simp only [Act.put, List.setIfInBounds_toArray, List.set_cons_zero, List.set_cons_succ])
  (refine wpAnyH_take (i := 29) (oi := Oper.mk _ _ _ _ _ _) (v := undef) rfl (by kernel_rfl) (by kernel_rfl) (by kernel_rfl) (fun _ _ _ h => h) (Or.inr ⟨by kernel_rfl, rfl⟩) (by assumption) ?_; simp only [Act.put, List.setIfInBounds_toArray, List.set_cons_zero, List.set_cons_succ])
  (refine wpAnyH_take (i := 30) (oi := Oper.mk _ _ _ _ _ _) (v := undef) rfl (by kernel_rfl) (by kernel_rfl) (by kernel_rfl) (fun _ _ _ h => h) (Or.inr ⟨by kernel_rfl, rfl⟩) (by assumption) ?_; simp only [Act.put, List.setIfInBounds_toArray, List.set_cons_zero, List.set_cons_succ])
  (refine wpAnyH_take (i := 31) (oi := Oper.mk _ _ _ _ _ _) (v := undef) rfl (by kernel_rfl) (by kernel_rfl) (by kernel_rfl) (fun _ _ _ h => h) (Or.inr ⟨by kernel_rfl, rfl⟩) (by assumption) ?_; simp only [Act.put, List.setIfInBounds_toArray, List.set_cons_zero, List.set_cons_succ])
  (refine wpAnyH_take (i := 32) (oi := Oper.mk _ _ _ _ _ _) (v := undef) rfl (by kernel_rfl) (by kernel_rfl) (by kernel_rfl) (fun _ _ _ h => h) (Or.inr ⟨by kernel_rfl, rfl⟩) (by assumption) ?_; simp only [Act.put, List.setIfInBounds_toArray, List.set_cons_zero, List.set_cons_succ])
  (refine wpAnyH_ready (rs := [25]) (by kernel_rfl) (by simp) ?_; refine AllReadyH.cons (o := Oper.mk _ _ _ _ _ _) rfl (fun K hK => ?_) AllReadyH.nil; rw [if_neg (Bool.eq_false_iff.1 (by kernel_rfl))]; refine hK.out _ _ (by assumption) (fun _ => ?_); (clear hK K); (try simp only [Act.put, List.setIfInBounds_toArray, List.set_cons_zero, List.set_cons_succ]))
  (refine wpAnyH_take (i := 33) (oi := Oper.mk _ _ _ _ _ _) (v := undef) rfl (by kernel_rfl) (by kernel_rfl) (by kernel_rfl) (fun _ _ _ h => h) (Or.inr ⟨by kernel_rfl, rfl⟩) (by assumption) ?_; simp only [Act.put, List.setIfInBounds_toArray, List.set_cons_zero, List.set_cons_succ])
  (refine wpAnyH_take (i := 34) (oi := Oper.mk _ _ _ _ _ _) (v := ?_) rfl (by kernel_rfl) (by kernel_rfl) (by kernel_rfl) (fun _ _ _ h => h) ?_ (by assumption) ?_; rotate_left; (focus (refine Or.inl ⟨by rfl, ?_⟩; intro wS hSw; (try dsimp only at hSw); go_simp; first | done | with_reducible rfl)); simp only [Act.put, List.setIfInBounds_toArray, List.set_cons_zero, List.set_cons_succ])
  (refine wpAnyH_take (i := 35) (oi := Oper.mk _ _ _ _ _ _) (v := ?_) rfl (by kernel_rfl) (by kernel_rfl) (by kernel_rfl) (fun _ _ _ h => h) ?_ (by assumption) ?_; rotate_left; (focus (refine Or.inl ⟨by rfl, ?_⟩; intro wS hSw; (try dsimp only at hSw); go_simp; first | done | with_reducible rfl)); simp only [Act.put, List.setIfInBounds_toArray, List.set_cons_zero, List.set_cons_succ])
  refine wpAnyH_done (by kernel_rfl) ?_ _
  rcases Bool.eq_false_or_eq_true (m.policy.1 != 0) with hP | hP
  · go_wp2_with (go_at_call 20; go_must (refine (hal.out _ (by repeat (first | (with_reducible exact Below.refl _ _) | (with_reducible refine Below.drew ?_) | (with_reducible refine below_drewN ?_ _) | ((with_reducible refine Below.alloc ?_ ?_ _); rotate_left; focus ((try simp) <;> omega)) | ((with_reducible refine Below.setCell ?_ ?_ _); rotate_left; focus ((try simp) <;> omega)) | ((with_reducible refine Below.trans ?_ (Below.mono (by assumption) ?_)); rotate_left; focus ((try simp) <;> omega))))).mono ?_; rintro e w6 ⟨A6, c6, rfl, hr6, hb6⟩; have hz6 := hb6.size; (try simp at hz6); have hs6 : w.heap.size < w6.heap.size := (by omega); have ht6 : w.heap.size + 1 < w6.heap.size := (by omega); obtain ⟨ua6, va6⟩ := blk_at hb6 w.heap.size (by (try simp) <;> omega); obtain ⟨uc6, vc6⟩ := blk_at hb6 (w.heap.size + 1) (by (try simp) <;> omega); have hv6 : w3.heap.size < w6.heap.size := (by omega); obtain ⟨ud6, vd6⟩ := blk_at hb6 w3.heap.size (by (try simp) <;> omega); have hw6 : g3 < w6.heap.size := (by omega); obtain ⟨ue6, ve6⟩ := blk_at hb6 g3 (by (try simp) <;> omega)))
    go_loopw [13] (fun vi wr => ∃ k : Nat, k ≤ O.length ∧ vi = .int .i64 (k : Int) ∧ Below w6.heap.size w6 wr) (fun vi _ => O.length - (intOf vi).toNat)
    case atStart => exact ⟨0, Nat.zero_le _, rfl, Below.refl _ _⟩
    case round =>
      obtain ⟨k, hk, rfl, hbw⟩ := hrel
      have hz := hbw.size
      have hzz : w3.heap.size < wr.heap.size := by omega
      by_cases hkl2 : k < O.length
      · obtain ⟨y, hy⟩ := get_some hkl2
        obtain ⟨g6, o6, rfl, hg6, qq⟩ := hr6 (by omega)
        have y0 : wr.cell? ⟨g6, o6 + k * 2, none⟩ = some (.string y.run.1) := (hbw.cell (p := ⟨g6, o6 + k * 2, none⟩) hg6).trans (qq k y hy 0 (.string y.run.1) rfl)
        have y1 : wr.cell? ⟨g6, o6 + k * 2 + 1, none⟩ = some (.string y.job.1) := (hbw.cell (p := ⟨g6, o6 + k * 2 + 1, none⟩) hg6).trans (qq k y hy 1 (.string y.job.1) rfl)
        clear qq
        have z1 : wr.cell? ⟨w3.heap.size, 1, none⟩ = some (.slice Ac3 C.length Cc3) := (hbw.cell (p := ⟨w3.heap.size, 1, none⟩) (by omega)).trans (by go_simp)
        have hg6r : g6 < wr.heap.size := by omega
        have i0 : (0 : Int) ≤ (k : Int) := by omega
        have i1 : (k : Int) < (O.length : Int) := by omega
        have hym := hkeep.out y (List.mem_of_getElem? hy)
        replace hy := Lib.hid hy
        rcases idx_dec (allG G1) y with ⟨h1, h2⟩ | ⟨h1, h2⟩
        · obtain ⟨I, hi1⟩ : ∃ I, idxI (allG G1) y = I := ⟨_, rfl⟩
          rw [hi1] at h1
          have hIn : ¬ I < 0 := by omega
          have hIb : decide (I < 0) = false := decide_eq_false hIn
          replace hi1 := Lib.hid hi1
          replace h2 := Lib.hid h2
          replace hym := Lib.hid hym
          go_wp2_with fail
          refine wp_region_held_drew (S := fun w' => w'.cell? ⟨w3.heap.size, 1, none⟩ = some (.slice Ac3 C.length Cc3) ∧ w'.cell? ⟨g6, o6 + k * 2, none⟩ = some (.string y.run.1) ∧ w'.cell? ⟨g6, o6 + k * 2 + 1, none⟩ = some (.string y.job.1)) (by kernel_rfl) ?_ (fun hHeld => ?_)
          · (first | (dsimp only; go_keep; done) | (go_keep; done) | (go_simp; done))
          rw [show (Array.replicate _ false : Array Bool) = #[false, false, false, false, false, false, false, false, false, false, false, false, false, false, false, false, false, false] from rfl]
          (refine wpAnyH_take (i := 0) (oi := Oper.mk _ _ _ _ _ _) (v := ?_) rfl (by kernel_rfl) (by kernel_rfl) (by kernel_rfl) (fun _ _ _ h => h) ?_ (by assumption) ?_; rotate_left; (focus (refine Or.inl ⟨by rfl, ?_⟩; intro wS hSw; (try dsimp only at hSw); go_simp; first | done | with_reducible rfl)); simp only [Act.put, List.setIfInBounds_toArray, List.set_cons_zero, List.set_cons_succ])
          (refine wpAnyH_take (i := 2) (oi := Oper.mk _ _ _ _ _ _) (v := ?_) rfl (by kernel_rfl) (by kernel_rfl) (by kernel_rfl) (fun _ _ _ h => h) ?_ (by assumption) ?_; rotate_left; (focus (refine Or.inl ⟨by rfl, ?_⟩; intro wS hSw; (try dsimp only at hSw); go_simp; first | done | with_reducible rfl)); simp only [Act.put, List.setIfInBounds_toArray, List.set_cons_zero, List.set_cons_succ])
          (refine wpAnyH_take (i := 3) (oi := Oper.mk _ _ _ _ _ _) (v := ?_) rfl (by kernel_rfl) (by kernel_rfl) (by kernel_rfl) (fun _ _ _ h => h) ?_ (by assumption) ?_; rotate_left; (focus (refine Or.inl ⟨by rfl, ?_⟩; intro wS hSw; (try dsimp only at hSw); go_simp; first | done | with_reducible rfl)); simp only [Act.put, List.setIfInBounds_toArray, List.set_cons_zero, List.set_cons_succ])
          (refine wpAnyH_take (i := 4) (oi := Oper.mk _ _ _ _ _ _) (v := ?_) rfl (by kernel_rfl) (by kernel_rfl) (by kernel_rfl) (fun _ _ _ h => h) ?_ (by assumption) ?_; rotate_left; (focus (refine Or.inl ⟨by rfl, ?_⟩; intro wS hSw; (try dsimp only at hSw); go_simp; first | done | with_reducible rfl)); simp only [Act.put, List.setIfInBounds_toArray, List.set_cons_zero, List.set_cons_succ])
          (refine wpAnyH_take (i := 5) (oi := Oper.mk _ _ _ _ _ _) (v := ?_) rfl (by kernel_rfl) (by kernel_rfl) (by kernel_rfl) (fun _ _ _ h => h) ?_ (by assumption) ?_; rotate_left; (focus (refine Or.inl ⟨by rfl, ?_⟩; intro wS hSw; (try dsimp only at hSw); go_simp; first | done | with_reducible rfl)); simp only [Act.put, List.setIfInBounds_toArray, List.set_cons_zero, List.set_cons_succ])
          (refine wpAnyH_ready (rs := [1]) (by kernel_rfl) (by simp) ?_
           refine AllReadyH.cons (o := Oper.mk _ _ _ _ _ _) rfl (fun K hK => ?_) AllReadyH.nil
           go_simp
           (go_at_call 20; go_must (refine (all_st hst3 (by repeat (first | (with_reducible exact Below.refl _ _) | (with_reducible refine Below.drew ?_) | (with_reducible refine below_drewN ?_ _) | ((with_reducible refine Below.alloc ?_ ?_ _); rotate_left; focus ((try simp) <;> omega)) | ((with_reducible refine Below.setCell ?_ ?_ _); rotate_left; focus ((try simp) <;> omega)) | ((with_reducible refine Below.trans ?_ (Below.mono (by assumption) ?_)); rotate_left; focus ((try simp) <;> omega)))) hmn.out).mono ?_; rintro e w7 ⟨A7, c7, rfl, hr7, hb7⟩; have hz7 := hb7.size; (try simp at hz7); have hs7 : w3.heap.size < w7.heap.size := (by omega); have ht7 : g6 < w7.heap.size := (by omega); obtain ⟨ua7, va7⟩ := blk_at hb7 w3.heap.size (by (try simp) <;> omega); obtain ⟨uc7, vc7⟩ := blk_at hb7 g6 (by (try simp) <;> omega)))
           refine hK.out _ _ ?_ (fun hHeld => ?_)
           · first | (dsimp only; go_keep; done) | (go_keep; done)
           clear hK K
           (try simp only [List.setIfInBounds_toArray, List.set_cons_zero, List.set_cons_succ]))
          (refine wpAnyH_ready (rs := [6]) (by kernel_rfl) (by simp) ?_
           refine AllReadyH.cons (o := Oper.mk _ _ _ _ _ _) rfl (fun K hK => ?_) AllReadyH.nil
           go_simp
           (go_at_call 19; go_must (refine (index_rw hr7 (by repeat (first | (with_reducible exact Below.refl _ _) | (with_reducible refine Below.drew ?_) | (with_reducible refine below_drewN ?_ _) | ((with_reducible refine Below.alloc ?_ ?_ _); rotate_left; focus ((try simp) <;> omega)) | ((with_reducible refine Below.setCell ?_ ?_ _); rotate_left; focus ((try simp) <;> omega)) | ((with_reducible refine Below.trans ?_ (Below.mono (by assumption) ?_)); rotate_left; focus ((try simp) <;> omega)))) (by omega) y).mono ?_; rintro e w8 ⟨rfl, hb8⟩; rw [hi1.out]; have hz8 := hb8.size; (try simp at hz8); have hs8 : w3.heap.size < w8.heap.size := (by omega); have ht8 : g6 < w8.heap.size := (by omega); obtain ⟨ua8, va8⟩ := blk_at hb8 w3.heap.size (by (try simp) <;> omega); obtain ⟨uc8, vc8⟩ := blk_at hb8 g6 (by (try simp) <;> omega)))
           refine hK.out _ _ ?_ (fun hHeld => ?_)
           · first | (dsimp only; go_keep; done) | (go_keep; done)
           clear hK K
           (try simp only [List.setIfInBounds_toArray, List.set_cons_zero, List.set_cons_succ]))
          (refine wpAnyH_take (i := 7) (oi := Oper.mk _ _ _ _ _ _) (v := ?_) rfl (by kernel_rfl) (by kernel_rfl) (by kernel_rfl) (fun _ _ _ h => h) ?_ (by assumption) ?_; rotate_left; (focus (refine Or.inl ⟨by rfl, ?_⟩; intro wS hSw; (try dsimp only at hSw); go_simp; first | done | with_reducible rfl)); simp only [Act.put, List.setIfInBounds_toArray, List.set_cons_zero, List.set_cons_succ])
          (refine wpAnyH_take (i := 8) (oi := Oper.mk _ _ _ _ _ _) (v := ?_) rfl (by kernel_rfl) (by kernel_rfl) (by kernel_rfl) (fun _ _ _ h => h) ?_ (by assumption) ?_; rotate_left; (focus (refine Or.inl ⟨by rfl, ?_⟩; intro wS hSw; (try dsimp only at hSw); go_simp; first | done | with_reducible rfl)); simp only [Act.put, List.setIfInBounds_toArray, List.set_cons_zero, List.set_cons_succ])
          (refine wpAnyH_take (i := 9) (oi := Oper.mk _ _ _ _ _ _) (v := undef) rfl (by kernel_rfl) (by kernel_rfl) (by kernel_rfl) (fun _ _ _ h => h) (Or.inr ⟨by kernel_rfl, rfl⟩) (by assumption) ?_; simp only [Act.put, List.setIfInBounds_toArray, List.set_cons_zero, List.set_cons_succ])
          (refine wpAnyH_take (i := 10) (oi := Oper.mk _ _ _ _ _ _) (v := undef) rfl (by kernel_rfl) (by kernel_rfl) (by kernel_rfl) (fun _ _ _ h => h) (Or.inr ⟨by kernel_rfl, rfl⟩) (by assumption) ?_; simp only [Act.put, List.setIfInBounds_toArray, List.set_cons_zero, List.set_cons_succ])
          (refine wpAnyH_take (i := 11) (oi := Oper.mk _ _ _ _ _ _) (v := undef) rfl (by kernel_rfl) (by kernel_rfl) (by kernel_rfl) (fun _ _ _ h => h) (Or.inr ⟨by kernel_rfl, rfl⟩) (by assumption) ?_; simp only [Act.put, List.setIfInBounds_toArray, List.set_cons_zero, List.set_cons_succ])
          (refine wpAnyH_take (i := 12) (oi := Oper.mk _ _ _ _ _ _) (v := undef) rfl (by kernel_rfl) (by kernel_rfl) (by kernel_rfl) (fun _ _ _ h => h) (Or.inr ⟨by kernel_rfl, rfl⟩) (by assumption) ?_; simp only [Act.put, List.setIfInBounds_toArray, List.set_cons_zero, List.set_cons_succ])
          (refine wpAnyH_take (i := 13) (oi := Oper.mk _ _ _ _ _ _) (v := undef) rfl (by kernel_rfl) (by kernel_rfl) (by kernel_rfl) (fun _ _ _ h => h) (Or.inr ⟨by kernel_rfl, rfl⟩) (by assumption) ?_; simp only [Act.put, List.setIfInBounds_toArray, List.set_cons_zero, List.set_cons_succ])
          (refine wpAnyH_take (i := 14) (oi := Oper.mk _ _ _ _ _ _) (v := undef) rfl (by kernel_rfl) (by kernel_rfl) (by kernel_rfl) (fun _ _ _ h => h) (Or.inr ⟨by kernel_rfl, rfl⟩) (by assumption) ?_; simp only [Act.put, List.setIfInBounds_toArray, List.set_cons_zero, List.set_cons_succ])
          (refine wpAnyH_ready (rs := [15]) (by kernel_rfl) (by simp) ?_; refine AllReadyH.cons (o := Oper.mk _ _ _ _ _ _) rfl (fun K hK => ?_) AllReadyH.nil; rw [if_neg (Bool.eq_false_iff.1 (by kernel_rfl))]; refine hK.out _ _ (by assumption) (fun _ => ?_); (clear hK K); (try simp only [Act.put, List.setIfInBounds_toArray, List.set_cons_zero, List.set_cons_succ]))
          (refine wpAnyH_take (i := 16) (oi := Oper.mk _ _ _ _ _ _) (v := undef) rfl (by kernel_rfl) (by kernel_rfl) (by kernel_rfl) (fun _ _ _ h => h) (Or.inr ⟨by kernel_rfl, rfl⟩) (by assumption) ?_; simp only [Act.put, List.setIfInBounds_toArray, List.set_cons_zero, List.set_cons_succ])
          (refine wpAnyH_take (i := 17) (oi := Oper.mk _ _ _ _ _ _) (v := ?_) rfl (by kernel_rfl) (by kernel_rfl) (by kernel_rfl) (fun _ _ _ h => h) ?_ (by assumption) ?_; rotate_left; (focus (refine Or.inl ⟨by rfl, ?_⟩; intro wS hSw; (try dsimp only at hSw); go_simp; first | done | with_reducible rfl)); simp only [Act.put, List.setIfInBounds_toArray, List.set_cons_zero, List.set_cons_succ])
          refine wpAnyH_done (by kernel_rfl) ?_ _
          go_wp2_with fail
          go_roundw
          case rel => exact ⟨k + 1, by omega, by go_num, (by repeat (first | (with_reducible exact Below.refl _ _) | (with_reducible refine Below.drew ?_) | (with_reducible refine below_drewN ?_ _) | ((with_reducible refine Below.alloc ?_ ?_ _); rotate_left; focus ((try simp) <;> omega)) | ((with_reducible refine Below.setCell ?_ ?_ _); rotate_left; focus ((try simp) <;> omega)) | ((with_reducible refine Below.trans ?_ (Below.mono (by assumption) ?_)); rotate_left; focus ((try simp) <;> omega))))⟩
          case measure => simp [intOf]; omega
        · have hyc : y ∈ C := by
            rcases hym with h | h
            · exact absurd h h2
            · exact h
          have hi1 := Lib.hid h1
          have hic := idx_mem hyc
          obtain ⟨I, hi2⟩ : ∃ I, idxI C y = I := ⟨_, rfl⟩
          rw [hi2] at hic
          have hIn : ¬ I < 0 := by omega
          have hIb : decide (I < 0) = false := decide_eq_false hIn
          replace hi2 := Lib.hid hi2
          replace h2 := Lib.hid h2
          replace hym := Lib.hid hym
          replace hyc := Lib.hid hyc
          clear h1
          go_wp2_with fail
          refine wp_region_held_drew (S := fun w' => w'.cell? ⟨w3.heap.size, 1, none⟩ = some (.slice Ac3 C.length Cc3) ∧ w'.cell? ⟨g6, o6 + k * 2, none⟩ = some (.string y.run.1) ∧ w'.cell? ⟨g6, o6 + k * 2 + 1, none⟩ = some (.string y.job.1)) (by kernel_rfl) ?_ (fun hHeld => ?_)
          · (first | (dsimp only; go_keep; done) | (go_keep; done) | (go_simp; done))
          rw [show (Array.replicate _ false : Array Bool) = #[false, false, false, false, false, false, false, false, false, false, false, false, false, false, false, false, false, false] from rfl]
          (refine wpAnyH_take (i := 0) (oi := Oper.mk _ _ _ _ _ _) (v := ?_) rfl (by kernel_rfl) (by kernel_rfl) (by kernel_rfl) (fun _ _ _ h => h) ?_ (by assumption) ?_; rotate_left; (focus (refine Or.inl ⟨by rfl, ?_⟩; intro wS hSw; (try dsimp only at hSw); go_simp; first | done | with_reducible rfl)); simp only [Act.put, List.setIfInBounds_toArray, List.set_cons_zero, List.set_cons_succ])
          (refine wpAnyH_take (i := 2) (oi := Oper.mk _ _ _ _ _ _) (v := ?_) rfl (by kernel_rfl) (by kernel_rfl) (by kernel_rfl) (fun _ _ _ h => h) ?_ (by assumption) ?_; rotate_left; (focus (refine Or.inl ⟨by rfl, ?_⟩; intro wS hSw; (try dsimp only at hSw); go_simp; first | done | with_reducible rfl)); simp only [Act.put, List.setIfInBounds_toArray, List.set_cons_zero, List.set_cons_succ])
          (refine wpAnyH_take (i := 3) (oi := Oper.mk _ _ _ _ _ _) (v := ?_) rfl (by kernel_rfl) (by kernel_rfl) (by kernel_rfl) (fun _ _ _ h => h) ?_ (by assumption) ?_; rotate_left; (focus (refine Or.inl ⟨by rfl, ?_⟩; intro wS hSw; (try dsimp only at hSw); go_simp; first | done | with_reducible rfl)); simp only [Act.put, List.setIfInBounds_toArray, List.set_cons_zero, List.set_cons_succ])
          (refine wpAnyH_take (i := 4) (oi := Oper.mk _ _ _ _ _ _) (v := ?_) rfl (by kernel_rfl) (by kernel_rfl) (by kernel_rfl) (fun _ _ _ h => h) ?_ (by assumption) ?_; rotate_left; (focus (refine Or.inl ⟨by rfl, ?_⟩; intro wS hSw; (try dsimp only at hSw); go_simp; first | done | with_reducible rfl)); simp only [Act.put, List.setIfInBounds_toArray, List.set_cons_zero, List.set_cons_succ])
          (refine wpAnyH_take (i := 5) (oi := Oper.mk _ _ _ _ _ _) (v := ?_) rfl (by kernel_rfl) (by kernel_rfl) (by kernel_rfl) (fun _ _ _ h => h) ?_ (by assumption) ?_; rotate_left; (focus (refine Or.inl ⟨by rfl, ?_⟩; intro wS hSw; (try dsimp only at hSw); go_simp; first | done | with_reducible rfl)); simp only [Act.put, List.setIfInBounds_toArray, List.set_cons_zero, List.set_cons_succ])
          (refine wpAnyH_ready (rs := [1]) (by kernel_rfl) (by simp) ?_
           refine AllReadyH.cons (o := Oper.mk _ _ _ _ _ _) rfl (fun K hK => ?_) AllReadyH.nil
           go_simp
           (go_at_call 20; go_must (refine (all_st hst3 (by repeat (first | (with_reducible exact Below.refl _ _) | (with_reducible refine Below.drew ?_) | (with_reducible refine below_drewN ?_ _) | ((with_reducible refine Below.alloc ?_ ?_ _); rotate_left; focus ((try simp) <;> omega)) | ((with_reducible refine Below.setCell ?_ ?_ _); rotate_left; focus ((try simp) <;> omega)) | ((with_reducible refine Below.trans ?_ (Below.mono (by assumption) ?_)); rotate_left; focus ((try simp) <;> omega)))) hmn.out).mono ?_; rintro e w7 ⟨A7, c7, rfl, hr7, hb7⟩; have hz7 := hb7.size; (try simp at hz7); have hs7 : w3.heap.size < w7.heap.size := (by omega); have ht7 : g6 < w7.heap.size := (by omega); obtain ⟨ua7, va7⟩ := blk_at hb7 w3.heap.size (by (try simp) <;> omega); obtain ⟨uc7, vc7⟩ := blk_at hb7 g6 (by (try simp) <;> omega)))
           refine hK.out _ _ ?_ (fun hHeld => ?_)
           · first | (dsimp only; go_keep; done) | (go_keep; done)
           clear hK K
           (try simp only [List.setIfInBounds_toArray, List.set_cons_zero, List.set_cons_succ]))
          (refine wpAnyH_ready (rs := [6]) (by kernel_rfl) (by simp) ?_
           refine AllReadyH.cons (o := Oper.mk _ _ _ _ _ _) rfl (fun K hK => ?_) AllReadyH.nil
           go_simp
           (go_at_call 19; go_must (refine (index_rw hr7 (by repeat (first | (with_reducible exact Below.refl _ _) | (with_reducible refine Below.drew ?_) | (with_reducible refine below_drewN ?_ _) | ((with_reducible refine Below.alloc ?_ ?_ _); rotate_left; focus ((try simp) <;> omega)) | ((with_reducible refine Below.setCell ?_ ?_ _); rotate_left; focus ((try simp) <;> omega)) | ((with_reducible refine Below.trans ?_ (Below.mono (by assumption) ?_)); rotate_left; focus ((try simp) <;> omega)))) (by omega) y).mono ?_; rintro e w8 ⟨rfl, hb8⟩; rw [hi1.out]; have hz8 := hb8.size; (try simp at hz8); have hs8 : w3.heap.size < w8.heap.size := (by omega); have ht8 : g6 < w8.heap.size := (by omega); obtain ⟨ua8, va8⟩ := blk_at hb8 w3.heap.size (by (try simp) <;> omega); obtain ⟨uc8, vc8⟩ := blk_at hb8 g6 (by (try simp) <;> omega)))
           refine hK.out _ _ ?_ (fun hHeld => ?_)
           · first | (dsimp only; go_keep; done) | (go_keep; done)
           clear hK K
           (try simp only [List.setIfInBounds_toArray, List.set_cons_zero, List.set_cons_succ]))
          (refine wpAnyH_take (i := 7) (oi := Oper.mk _ _ _ _ _ _) (v := ?_) rfl (by kernel_rfl) (by kernel_rfl) (by kernel_rfl) (fun _ _ _ h => h) ?_ (by assumption) ?_; rotate_left; (focus (refine Or.inl ⟨by rfl, ?_⟩; intro wS hSw; (try dsimp only at hSw); go_simp; first | done | with_reducible rfl)); simp only [Act.put, List.setIfInBounds_toArray, List.set_cons_zero, List.set_cons_succ])
          (refine wpAnyH_take (i := 8) (oi := Oper.mk _ _ _ _ _ _) (v := ?_) rfl (by kernel_rfl) (by kernel_rfl) (by kernel_rfl) (fun _ _ _ h => h) ?_ (by assumption) ?_; rotate_left; (focus (refine Or.inl ⟨by rfl, ?_⟩; intro wS hSw; (try dsimp only at hSw); go_simp; first | done | with_reducible rfl)); simp only [Act.put, List.setIfInBounds_toArray, List.set_cons_zero, List.set_cons_succ])
          (refine wpAnyH_take (i := 9) (oi := Oper.mk _ _ _ _ _ _) (v := ?_) rfl (by kernel_rfl) (by kernel_rfl) (by kernel_rfl) (fun _ _ _ h => h) ?_ (by assumption) ?_; rotate_left; (focus (refine Or.inl ⟨by rfl, ?_⟩; intro wS hSw; (try dsimp only at hSw); go_simp; first | done | with_reducible rfl)); simp only [Act.put, List.setIfInBounds_toArray, List.set_cons_zero, List.set_cons_succ])
          (refine wpAnyH_take (i := 10) (oi := Oper.mk _ _ _ _ _ _) (v := ?_) rfl (by kernel_rfl) (by kernel_rfl) (by kernel_rfl) (fun _ _ _ h => h) ?_ (by assumption) ?_; rotate_left; (focus (refine Or.inl ⟨by rfl, ?_⟩; intro wS hSw; (try dsimp only at hSw); go_simp; first | done | with_reducible rfl)); simp only [Act.put, List.setIfInBounds_toArray, List.set_cons_zero, List.set_cons_succ])
          (refine wpAnyH_take (i := 11) (oi := Oper.mk _ _ _ _ _ _) (v := ?_) rfl (by kernel_rfl) (by kernel_rfl) (by kernel_rfl) (fun _ _ _ h => h) ?_ (by assumption) ?_; rotate_left; (focus (refine Or.inl ⟨by rfl, ?_⟩; intro wS hSw; (try dsimp only at hSw); go_simp; first | done | with_reducible rfl)); simp only [Act.put, List.setIfInBounds_toArray, List.set_cons_zero, List.set_cons_succ])
          (refine wpAnyH_take (i := 12) (oi := Oper.mk _ _ _ _ _ _) (v := ?_) rfl (by kernel_rfl) (by kernel_rfl) (by kernel_rfl) (fun _ _ _ h => h) ?_ (by assumption) ?_; rotate_left; (focus (refine Or.inl ⟨by rfl, ?_⟩; intro wS hSw; (try dsimp only at hSw); go_simp; first | done | with_reducible rfl)); simp only [Act.put, List.setIfInBounds_toArray, List.set_cons_zero, List.set_cons_succ])
          (refine wpAnyH_take (i := 13) (oi := Oper.mk _ _ _ _ _ _) (v := ?_) rfl (by kernel_rfl) (by kernel_rfl) (by kernel_rfl) (fun _ _ _ h => h) ?_ (by assumption) ?_; rotate_left; (focus (refine Or.inl ⟨by rfl, ?_⟩; intro wS hSw; (try dsimp only at hSw); go_simp; first | done | with_reducible rfl)); simp only [Act.put, List.setIfInBounds_toArray, List.set_cons_zero, List.set_cons_succ])
          (refine wpAnyH_take (i := 14) (oi := Oper.mk _ _ _ _ _ _) (v := ?_) rfl (by kernel_rfl) (by kernel_rfl) (by kernel_rfl) (fun _ _ _ h => h) ?_ (by assumption) ?_; rotate_left; (focus (refine Or.inl ⟨by rfl, ?_⟩; intro wS hSw; (try dsimp only at hSw); go_simp; first | done | with_reducible rfl)); simp only [Act.put, List.setIfInBounds_toArray, List.set_cons_zero, List.set_cons_succ])
          (refine wpAnyH_ready (rs := [15]) (by kernel_rfl) (by simp) ?_
           refine AllReadyH.cons (o := Oper.mk _ _ _ _ _ _) rfl (fun K hK => ?_) AllReadyH.nil
           go_simp
           (go_at_call 19; go_must (refine (index_rw hcr3 (by repeat (first | (with_reducible exact Below.refl _ _) | (with_reducible refine Below.drew ?_) | (with_reducible refine below_drewN ?_ _) | ((with_reducible refine Below.alloc ?_ ?_ _); rotate_left; focus ((try simp) <;> omega)) | ((with_reducible refine Below.setCell ?_ ?_ _); rotate_left; focus ((try simp) <;> omega)) | ((with_reducible refine Below.trans ?_ (Below.mono (by assumption) ?_)); rotate_left; focus ((try simp) <;> omega)))) (by omega) y).mono ?_; rintro e w9 ⟨rfl, hb9⟩; rw [hi2.out]; have hz9 := hb9.size; (try simp at hz9); have hs9 : w3.heap.size < w9.heap.size := (by omega); have ht9 : g6 < w9.heap.size := (by omega); obtain ⟨ua9, va9⟩ := blk_at hb9 w3.heap.size (by (try simp) <;> omega); obtain ⟨uc9, vc9⟩ := blk_at hb9 g6 (by (try simp) <;> omega)))
           refine hK.out _ _ ?_ (fun hHeld => ?_)
           · first | (dsimp only; go_keep; done) | (go_keep; done)
           clear hK K
           (try simp only [List.setIfInBounds_toArray, List.set_cons_zero, List.set_cons_succ]))
          (refine wpAnyH_take (i := 16) (oi := Oper.mk _ _ _ _ _ _) (v := ?_) rfl (by kernel_rfl) (by kernel_rfl) (by kernel_rfl) (fun _ _ _ h => h) ?_ (by assumption) ?_; rotate_left; (focus (refine Or.inl ⟨by rfl, ?_⟩; intro wS hSw; (try dsimp only at hSw); go_simp; first | done | with_reducible rfl)); simp only [Act.put, List.setIfInBounds_toArray, List.set_cons_zero, List.set_cons_succ])
          (refine wpAnyH_take (i := 17) (oi := Oper.mk _ _ _ _ _ _) (v := ?_) rfl (by kernel_rfl) (by kernel_rfl) (by kernel_rfl) (fun _ _ _ h => h) ?_ (by assumption) ?_; rotate_left; (focus (refine Or.inl ⟨by rfl, ?_⟩; intro wS hSw; (try dsimp only at hSw); go_simp; first | done | with_reducible rfl)); simp only [Act.put, List.setIfInBounds_toArray, List.set_cons_zero, List.set_cons_succ])
          refine wpAnyH_done (by kernel_rfl) ?_ _
          go_wp2_with fail
          go_roundw
          case rel => exact ⟨k + 1, by omega, by go_num, (by repeat (first | (with_reducible exact Below.refl _ _) | (with_reducible refine Below.drew ?_) | (with_reducible refine below_drewN ?_ _) | ((with_reducible refine Below.alloc ?_ ?_ _); rotate_left; focus ((try simp) <;> omega)) | ((with_reducible refine Below.setCell ?_ ?_ _); rotate_left; focus ((try simp) <;> omega)) | ((with_reducible refine Below.trans ?_ (Below.mono (by assumption) ?_)); rotate_left; focus ((try simp) <;> omega))))⟩
          case measure => simp [intOf]; omega
      · have i1 : ¬ (k : Int) < (O.length : Int) := by omega
        go_wp2_with (go_at_call 12; go_must (refine (awake_any _ (hG.out.keep (by repeat (first | (with_reducible exact Below.refl _ _) | (with_reducible refine Below.drew ?_) | (with_reducible refine below_drewN ?_ _) | ((with_reducible refine Below.alloc ?_ ?_ _); rotate_left; focus ((try simp) <;> omega)) | ((with_reducible refine Below.setCell ?_ ?_ _); rotate_left; focus ((try simp) <;> omega)) | ((with_reducible refine Below.trans ?_ (Below.mono (by assumption) ?_)); rotate_left; focus ((try simp) <;> omega)))))).mono ?_; rintro e w11 ⟨rfl, hb11⟩; have hz11 := hb11.size; (try simp at hz11); have hs11 : w.heap.size < w11.heap.size := (by omega); have ht11 : w.heap.size + 1 < w11.heap.size := (by omega); obtain ⟨ua11, va11⟩ := blk_at hb11 w.heap.size (by (try simp) <;> omega); obtain ⟨uc11, vc11⟩ := blk_at hb11 (w.heap.size + 1) (by (try simp) <;> omega)))
        go_ret
        exact ⟨rfl, (by repeat (first | (with_reducible exact Below.refl _ _) | (with_reducible refine Below.drew ?_) | (with_reducible refine below_drewN ?_ _) | ((with_reducible refine Below.alloc ?_ ?_ _); rotate_left; focus ((try simp) <;> omega)) | ((with_reducible refine Below.setCell ?_ ?_ _); rotate_left; focus ((try simp) <;> omega)) | ((with_reducible refine Below.trans ?_ (Below.mono (by assumption) ?_)); rotate_left; focus ((try simp) <;> omega))))⟩
  · go_wp2_with (go_at_call 20; go_must (refine (hal.out _ (by repeat (first | (with_reducible exact Below.refl _ _) | (with_reducible refine Below.drew ?_) | (with_reducible refine below_drewN ?_ _) | ((with_reducible refine Below.alloc ?_ ?_ _); rotate_left; focus ((try simp) <;> omega)) | ((with_reducible refine Below.setCell ?_ ?_ _); rotate_left; focus ((try simp) <;> omega)) | ((with_reducible refine Below.trans ?_ (Below.mono (by assumption) ?_)); rotate_left; focus ((try simp) <;> omega))))).mono ?_; rintro e w6 ⟨A6, c6, rfl, hr6, hb6⟩; have hz6 := hb6.size; (try simp at hz6); have hs6 : w.heap.size < w6.heap.size := (by omega); have ht6 : w.heap.size + 1 < w6.heap.size := (by omega); obtain ⟨ua6, va6⟩ := blk_at hb6 w.heap.size (by (try simp) <;> omega); obtain ⟨uc6, vc6⟩ := blk_at hb6 (w.heap.size + 1) (by (try simp) <;> omega); have hv6 : w3.heap.size < w6.heap.size := (by omega); obtain ⟨ud6, vd6⟩ := blk_at hb6 w3.heap.size (by (try simp) <;> omega); have hw6 : g3 < w6.heap.size := (by omega); obtain ⟨ue6, ve6⟩ := blk_at hb6 g3 (by (try simp) <;> omega)))
    go_loopw [13] (fun vi wr => ∃ k : Nat, k ≤ O.length ∧ vi = .int .i64 (k : Int) ∧ Below w6.heap.size w6 wr) (fun vi _ => O.length - (intOf vi).toNat)
    case atStart => exact ⟨0, Nat.zero_le _, rfl, Below.refl _ _⟩
    case round =>
      obtain ⟨k, hk, rfl, hbw⟩ := hrel
      have hz := hbw.size
      have hzz : w3.heap.size < wr.heap.size := by omega
      by_cases hkl2 : k < O.length
      · obtain ⟨y, hy⟩ := get_some hkl2
        obtain ⟨g6, o6, rfl, hg6, qq⟩ := hr6 (by omega)
        have y0 : wr.cell? ⟨g6, o6 + k * 2, none⟩ = some (.string y.run.1) := (hbw.cell (p := ⟨g6, o6 + k * 2, none⟩) hg6).trans (qq k y hy 0 (.string y.run.1) rfl)
        have y1 : wr.cell? ⟨g6, o6 + k * 2 + 1, none⟩ = some (.string y.job.1) := (hbw.cell (p := ⟨g6, o6 + k * 2 + 1, none⟩) hg6).trans (qq k y hy 1 (.string y.job.1) rfl)
        clear qq
        have z1 : wr.cell? ⟨w3.heap.size, 1, none⟩ = some (.slice Ac3 C.length Cc3) := (hbw.cell (p := ⟨w3.heap.size, 1, none⟩) (by omega)).trans (by go_simp)
        have hg6r : g6 < wr.heap.size := by omega
        have i0 : (0 : Int) ≤ (k : Int) := by omega
        have i1 : (k : Int) < (O.length : Int) := by omega
        have hym := hkeep.out y (List.mem_of_getElem? hy)
        replace hy := Lib.hid hy
        rcases idx_dec (allG G1) y with ⟨h1, h2⟩ | ⟨h1, h2⟩
        · obtain ⟨I, hi1⟩ : ∃ I, idxI (allG G1) y = I := ⟨_, rfl⟩
          rw [hi1] at h1
          have hIn : ¬ I < 0 := by omega
          have hIb : decide (I < 0) = false := decide_eq_false hIn
          replace hi1 := Lib.hid hi1
          replace h2 := Lib.hid h2
          replace hym := Lib.hid hym
          go_wp2_with fail
          refine wp_region_held_drew (S := fun w' => w'.cell? ⟨w3.heap.size, 1, none⟩ = some (.slice Ac3 C.length Cc3) ∧ w'.cell? ⟨g6, o6 + k * 2, none⟩ = some (.string y.run.1) ∧ w'.cell? ⟨g6, o6 + k * 2 + 1, none⟩ = some (.string y.job.1)) (by kernel_rfl) ?_ (fun hHeld => ?_)
          · (first | (dsimp only; go_keep; done) | (go_keep; done) | (go_simp; done))
          rw [show (Array.replicate _ false : Array Bool) = #[false, false, false, false, false, false, false, false, false, false, false, false, false, false, false, false, false, false] from rfl]
          (refine wpAnyH_take (i := 0) (oi := Oper.mk _ _ _ _ _ _) (v := ?_) rfl (by kernel_rfl) (by kernel_rfl) (by kernel_rfl) (fun _ _ _ h => h) ?_ (by assumption) ?_; rotate_left; (focus (refine Or.inl ⟨by rfl, ?_⟩; intro wS hSw; (try dsimp only at hSw); go_simp; first | done | with_reducible rfl)); simp only [Act.put, List.setIfInBounds_toArray, List.set_cons_zero, List.set_cons_succ])
          (refine wpAnyH_take (i := 2) (oi := Oper.mk _ _ _ _ _ _) (v := ?_) rfl (by kernel_rfl) (by kernel_rfl) (by kernel_rfl) (fun _ _ _ h => h) ?_ (by assumption) ?_; rotate_left; (focus (refine Or.inl ⟨by rfl, ?_⟩; intro wS hSw; (try dsimp only at hSw); go_simp; first | done | with_reducible rfl)); simp only [Act.put, List.setIfInBounds_toArray, List.set_cons_zero, List.set_cons_succ])
          (refine wpAnyH_take (i := 3) (oi := Oper.mk _ _ _ _ _ _) (v := ?_) rfl (by kernel_rfl) (by kernel_rfl) (by kernel_rfl) (fun _ _ _ h => h) ?_ (by assumption) ?_; rotate_left; (focus (refine Or.inl ⟨by rfl, ?_⟩; intro wS hSw; (try dsimp only at hSw); go_simp; first | done | with_reducible rfl)); simp only [Act.put, List.setIfInBounds_toArray, List.set_cons_zero, List.set_cons_succ])
          (refine wpAnyH_take (i := 4) (oi := Oper.mk _ _ _ _ _ _) (v := ?_) rfl (by kernel_rfl) (by kernel_rfl) (by kernel_rfl) (fun _ _ _ h => h) ?_ (by assumption) ?_; rotate_left; (focus (refine Or.inl ⟨by rfl, ?_⟩; intro wS hSw; (try dsimp only at hSw); go_simp; first | done | with_reducible rfl)); simp only [Act.put, List.setIfInBounds_toArray, List.set_cons_zero, List.set_cons_succ])
          (refine wpAnyH_take (i := 5) (oi := Oper.mk _ _ _ _ _ _) (v := ?_) rfl (by kernel_rfl) (by kernel_rfl) (by kernel_rfl) (fun _ _ _ h => h) ?_ (by assumption) ?_; rotate_left; (focus (refine Or.inl ⟨by rfl, ?_⟩; intro wS hSw; (try dsimp only at hSw); go_simp; first | done | with_reducible rfl)); simp only [Act.put, List.setIfInBounds_toArray, List.set_cons_zero, List.set_cons_succ])
          (refine wpAnyH_ready (rs := [1]) (by kernel_rfl) (by simp) ?_
           refine AllReadyH.cons (o := Oper.mk _ _ _ _ _ _) rfl (fun K hK => ?_) AllReadyH.nil
           go_simp
           (go_at_call 20; go_must (refine (all_st hst3 (by repeat (first | (with_reducible exact Below.refl _ _) | (with_reducible refine Below.drew ?_) | (with_reducible refine below_drewN ?_ _) | ((with_reducible refine Below.alloc ?_ ?_ _); rotate_left; focus ((try simp) <;> omega)) | ((with_reducible refine Below.setCell ?_ ?_ _); rotate_left; focus ((try simp) <;> omega)) | ((with_reducible refine Below.trans ?_ (Below.mono (by assumption) ?_)); rotate_left; focus ((try simp) <;> omega)))) hmn.out).mono ?_; rintro e w7 ⟨A7, c7, rfl, hr7, hb7⟩; have hz7 := hb7.size; (try simp at hz7); have hs7 : w3.heap.size < w7.heap.size := (by omega); have ht7 : g6 < w7.heap.size := (by omega); obtain ⟨ua7, va7⟩ := blk_at hb7 w3.heap.size (by (try simp) <;> omega); obtain ⟨uc7, vc7⟩ := blk_at hb7 g6 (by (try simp) <;> omega)))
           refine hK.out _ _ ?_ (fun hHeld => ?_)
           · first | (dsimp only; go_keep; done) | (go_keep; done)
           clear hK K
           (try simp only [List.setIfInBounds_toArray, List.set_cons_zero, List.set_cons_succ]))
          (refine wpAnyH_ready (rs := [6]) (by kernel_rfl) (by simp) ?_
           refine AllReadyH.cons (o := Oper.mk _ _ _ _ _ _) rfl (fun K hK => ?_) AllReadyH.nil
           go_simp
           (go_at_call 19; go_must (refine (index_rw hr7 (by repeat (first | (with_reducible exact Below.refl _ _) | (with_reducible refine Below.drew ?_) | (with_reducible refine below_drewN ?_ _) | ((with_reducible refine Below.alloc ?_ ?_ _); rotate_left; focus ((try simp) <;> omega)) | ((with_reducible refine Below.setCell ?_ ?_ _); rotate_left; focus ((try simp) <;> omega)) | ((with_reducible refine Below.trans ?_ (Below.mono (by assumption) ?_)); rotate_left; focus ((try simp) <;> omega)))) (by omega) y).mono ?_; rintro e w8 ⟨rfl, hb8⟩; rw [hi1.out]; have hz8 := hb8.size; (try simp at hz8); have hs8 : w3.heap.size < w8.heap.size := (by omega); have ht8 : g6 < w8.heap.size := (by omega); obtain ⟨ua8, va8⟩ := blk_at hb8 w3.heap.size (by (try simp) <;> omega); obtain ⟨uc8, vc8⟩ := blk_at hb8 g6 (by (try simp) <;> omega)))
           refine hK.out _ _ ?_ (fun hHeld => ?_)
           · first | (dsimp only; go_keep; done) | (go_keep; done)
           clear hK K
           (try simp only [List.setIfInBounds_toArray, List.set_cons_zero, List.set_cons_succ]))
          (refine wpAnyH_take (i := 7) (oi := Oper.mk _ _ _ _ _ _) (v := ?_) rfl (by kernel_rfl) (by kernel_rfl) (by kernel_rfl) (fun _ _ _ h => h) ?_ (by assumption) ?_; rotate_left; (focus (refine Or.inl ⟨by rfl, ?_⟩; intro wS hSw; (try dsimp only at hSw); go_simp; first | done | with_reducible rfl)); simp only [Act.put, List.setIfInBounds_toArray, List.set_cons_zero, List.set_cons_succ])
          (refine wpAnyH_take (i := 8) (oi := Oper.mk _ _ _ _ _ _) (v := ?_) rfl (by kernel_rfl) (by kernel_rfl) (by kernel_rfl) (fun _ _ _ h => h) ?_ (by assumption) ?_; rotate_left; (focus (refine Or.inl ⟨by rfl, ?_⟩; intro wS hSw; (try dsimp only at hSw); go_simp; first | done | with_reducible rfl)); simp only [Act.put, List.setIfInBounds_toArray, List.set_cons_zero, List.set_cons_succ])
          (refine wpAnyH_take (i := 9) (oi := Oper.mk _ _ _ _ _ _) (v := undef) rfl (by kernel_rfl) (by kernel_rfl) (by kernel_rfl) (fun _ _ _ h => h) (Or.inr ⟨by kernel_rfl, rfl⟩) (by assumption) ?_; simp only [Act.put, List.setIfInBounds_toArray, List.set_cons_zero, List.set_cons_succ])
          (refine wpAnyH_take (i := 10) (oi := Oper.mk _ _ _ _ _ _) (v := undef) rfl (by kernel_rfl) (by kernel_rfl) (by kernel_rfl) (fun _ _ _ h => h) (Or.inr ⟨by kernel_rfl, rfl⟩) (by assumption) ?_; simp only [Act.put, List.setIfInBounds_toArray, List.set_cons_zero, List.set_cons_succ])
          (refine wpAnyH_take (i := 11) (oi := Oper.mk _ _ _ _ _ _) (v := undef) rfl (by kernel_rfl) (by kernel_rfl) (by kernel_rfl) (fun _ _ _ h => h) (Or.inr ⟨by kernel_rfl, rfl⟩) (by assumption) ?_; simp only [Act.put, List.setIfInBounds_toArray, List.set_cons_zero, List.set_cons_succ])
          (refine wpAnyH_take (i := 12) (oi := Oper.mk _ _ _ _ _ _) (v := undef) rfl (by kernel_rfl) (by kernel_rfl) (by kernel_rfl) (fun _ _ _ h => h) (Or.inr ⟨by kernel_rfl, rfl⟩) (by assumption) ?_; simp only [Act.put, List.setIfInBounds_toArray, List.set_cons_zero, List.set_cons_succ])
          (refine wpAnyH_take (i := 13) (oi := Oper.mk _ _ _ _ _ _) (v := undef) rfl (by kernel_rfl) (by kernel_rfl) (by kernel_rfl) (fun _ _ _ h => h) (Or.inr ⟨by kernel_rfl, rfl⟩) (by assumption) ?_; simp only [Act.put, List.setIfInBounds_toArray, List.set_cons_zero, List.set_cons_succ])
          (refine wpAnyH_take (i := 14) (oi := Oper.mk _ _ _ _ _ _) (v := undef) rfl (by kernel_rfl) (by kernel_rfl) (by kernel_rfl) (fun _ _ _ h => h) (Or.inr ⟨by kernel_rfl, rfl⟩) (by assumption) ?_; simp only [Act.put, List.setIfInBounds_toArray, List.set_cons_zero, List.set_cons_succ])
          (refine wpAnyH_ready (rs := [15]) (by kernel_rfl) (by simp) ?_; refine AllReadyH.cons (o := Oper.mk _ _ _ _ _ _) rfl (fun K hK => ?_) AllReadyH.nil; rw [if_neg (Bool.eq_false_iff.1 (by kernel_rfl))]; refine hK.out _ _ (by assumption) (fun _ => ?_); (clear hK K); (try simp only [Act.put, List.setIfInBounds_toArray, List.set_cons_zero, List.set_cons_succ]))
          (refine wpAnyH_take (i := 16) (oi := Oper.mk _ _ _ _ _ _) (v := undef) rfl (by kernel_rfl) (by kernel_rfl) (by kernel_rfl) (fun _ _ _ h => h) (Or.inr ⟨by kernel_rfl, rfl⟩) (by assumption) ?_; simp only [Act.put, List.setIfInBounds_toArray, List.set_cons_zero, List.set_cons_succ])
          (refine wpAnyH_take (i := 17) (oi := Oper.mk _ _ _ _ _ _) (v := ?_) rfl (by kernel_rfl) (by kernel_rfl) (by kernel_rfl) (fun _ _ _ h => h) ?_ (by assumption) ?_; rotate_left; (focus (refine Or.inl ⟨by rfl, ?_⟩; intro wS hSw; (try dsimp only at hSw); go_simp; first | done | with_reducible rfl)); simp only [Act.put, List.setIfInBounds_toArray, List.set_cons_zero, List.set_cons_succ])
          refine wpAnyH_done (by kernel_rfl) ?_ _
          go_wp2_with fail
          go_roundw
          case rel => exact ⟨k + 1, by omega, by go_num, (by repeat (first | (with_reducible exact Below.refl _ _) | (with_reducible refine Below.drew ?_) | (with_reducible refine below_drewN ?_ _) | ((with_reducible refine Below.alloc ?_ ?_ _); rotate_left; focus ((try simp) <;> omega)) | ((with_reducible refine Below.setCell ?_ ?_ _); rotate_left; focus ((try simp) <;> omega)) | ((with_reducible refine Below.trans ?_ (Below.mono (by assumption) ?_)); rotate_left; focus ((try simp) <;> omega))))⟩
          case measure => simp [intOf]; omega
        · have hyc : y ∈ C := by
            rcases hym with h | h
            · exact absurd h h2
            · exact h
          have hi1 := Lib.hid h1
          have hic := idx_mem hyc
          obtain ⟨I, hi2⟩ : ∃ I, idxI C y = I := ⟨_, rfl⟩
          rw [hi2] at hic
          have hIn : ¬ I < 0 := by omega
          have hIb : decide (I < 0) = false := decide_eq_false hIn
          replace hi2 := Lib.hid hi2
          replace h2 := Lib.hid h2
          replace hym := Lib.hid hym
          replace hyc := Lib.hid hyc
          clear h1
          go_wp2_with fail
          refine wp_region_held_drew (S := fun w' => w'.cell? ⟨w3.heap.size, 1, none⟩ = some (.slice Ac3 C.length Cc3) ∧ w'.cell? ⟨g6, o6 + k * 2, none⟩ = some (.string y.run.1) ∧ w'.cell? ⟨g6, o6 + k * 2 + 1, none⟩ = some (.string y.job.1)) (by kernel_rfl) ?_ (fun hHeld => ?_)
          · (first | (dsimp only; go_keep; done) | (go_keep; done) | (go_simp; done))
          rw [show (Array.replicate _ false : Array Bool) = #[false, false, false, false, false, false, false, false, false, false, false, false, false, false, false, false, false, false] from rfl]
          (refine wpAnyH_take (i := 0) (oi := Oper.mk _ _ _ _ _ _) (v := ?_) rfl (by kernel_rfl) (by kernel_rfl) (by kernel_rfl) (fun _ _ _ h => h) ?_ (by assumption) ?_; rotate_left; (focus (refine Or.inl ⟨by rfl, ?_⟩; intro wS hSw; (try dsimp only at hSw); go_simp; first | done | with_reducible rfl)); simp only [Act.put, List.setIfInBounds_toArray, List.set_cons_zero, List.set_cons_succ])
          (refine wpAnyH_take (i := 2) (oi := Oper.mk _ _ _ _ _ _) (v := ?_) rfl (by kernel_rfl) (by kernel_rfl) (by kernel_rfl) (fun _ _ _ h => h) ?_ (by assumption) ?_; rotate_left; (focus (refine Or.inl ⟨by rfl, ?_⟩; intro wS hSw; (try dsimp only at hSw); go_simp; first | done | with_reducible rfl)); simp only [Act.put, List.setIfInBounds_toArray, List.set_cons_zero, List.set_cons_succ])
          (refine wpAnyH_take (i := 3) (oi := Oper.mk _ _ _ _ _ _) (v := ?_) rfl (by kernel_rfl) (by kernel_rfl) (by kernel_rfl) (fun _ _ _ h => h) ?_ (by assumption) ?_; rotate_left; (focus (refine Or.inl ⟨by rfl, ?_⟩; intro wS hSw; (try dsimp only at hSw); go_simp; first | done | with_reducible rfl)); simp only [Act.put, List.setIfInBounds_toArray, List.set_cons_zero, List.set_cons_succ])
          (refine wpAnyH_take (i := 4) (oi := Oper.mk _ _ _ _ _ _) (v := ?_) rfl (by kernel_rfl) (by kernel_rfl) (by kernel_rfl) (fun _ _ _ h => h) ?_ (by assumption) ?_; rotate_left; (focus (refine Or.inl ⟨by rfl, ?_⟩; intro wS hSw; (try dsimp only at hSw); go_simp; first | done | with_reducible rfl)); simp only [Act.put, List.setIfInBounds_toArray, List.set_cons_zero, List.set_cons_succ])
          (refine wpAnyH_take (i := 5) (oi := Oper.mk _ _ _ _ _ _) (v := ?_) rfl (by kernel_rfl) (by kernel_rfl) (by kernel_rfl) (fun _ _ _ h => h) ?_ (by assumption) ?_; rotate_left; (focus (refine Or.inl ⟨by rfl, ?_⟩; intro wS hSw; (try dsimp only at hSw); go_simp; first | done | with_reducible rfl)); simp only [Act.put, List.setIfInBounds_toArray, List.set_cons_zero, List.set_cons_succ])
          (refine wpAnyH_ready (rs := [1]) (by kernel_rfl) (by simp) ?_
           refine AllReadyH.cons (o := Oper.mk _ _ _ _ _ _) rfl (fun K hK => ?_) AllReadyH.nil
           go_simp
           (go_at_call 20; go_must (refine (all_st hst3 (by repeat (first | (with_reducible exact Below.refl _ _) | (with_reducible refine Below.drew ?_) | (with_reducible refine below_drewN ?_ _) | ((with_reducible refine Below.alloc ?_ ?_ _); rotate_left; focus ((try simp) <;> omega)) | ((with_reducible refine Below.setCell ?_ ?_ _); rotate_left; focus ((try simp) <;> omega)) | ((with_reducible refine Below.trans ?_ (Below.mono (by assumption) ?_)); rotate_left; focus ((try simp) <;> omega)))) hmn.out).mono ?_; rintro e w7 ⟨A7, c7, rfl, hr7, hb7⟩; have hz7 := hb7.size; (try simp at hz7); have hs7 : w3.heap.size < w7.heap.size := (by omega); have ht7 : g6 < w7.heap.size := (by omega); obtain ⟨ua7, va7⟩ := blk_at hb7 w3.heap.size (by (try simp) <;> omega); obtain ⟨uc7, vc7⟩ := blk_at hb7 g6 (by (try simp) <;> omega)))
           refine hK.out _ _ ?_ (fun hHeld => ?_)
           · first | (dsimp only; go_keep; done) | (go_keep; done)
           clear hK K
           (try simp only [List.setIfInBounds_toArray, List.set_cons_zero, List.set_cons_succ]))
          (refine wpAnyH_ready (rs := [6]) (by kernel_rfl) (by simp) ?_
           refine AllReadyH.cons (o := Oper.mk _ _ _ _ _ _) rfl (fun K hK => ?_) AllReadyH.nil
           go_simp
           (go_at_call 19; go_must (refine (index_rw hr7 (by repeat (first | (with_reducible exact Below.refl _ _) | (with_reducible refine Below.drew ?_) | (with_reducible refine below_drewN ?_ _) | ((with_reducible refine Below.alloc ?_ ?_ _); rotate_left; focus ((try simp) <;> omega)) | ((with_reducible refine Below.setCell ?_ ?_ _); rotate_left; focus ((try simp) <;> omega)) | ((with_reducible refine Below.trans ?_ (Below.mono (by assumption) ?_)); rotate_left; focus ((try simp) <;> omega)))) (by omega) y).mono ?_; rintro e w8 ⟨rfl, hb8⟩; rw [hi1.out]; have hz8 := hb8.size; (try simp at hz8); have hs8 : w3.heap.size < w8.heap.size := (by omega); have ht8 : g6 < w8.heap.size := (by omega); obtain ⟨ua8, va8⟩ := blk_at hb8 w3.heap.size (by (try simp) <;> omega); obtain ⟨uc8, vc8⟩ := blk_at hb8 g6 (by (try simp) <;> omega)))
           refine hK.out _ _ ?_ (fun hHeld => ?_)
           · first | (dsimp only; go_keep; done) | (go_keep; done)
           clear hK K
           (try simp only [List.setIfInBounds_toArray, List.set_cons_zero, List.set_cons_succ]))
          (refine wpAnyH_take (i := 7) (oi := Oper.mk _ _ _ _ _ _) (v := ?_) rfl (by kernel_rfl) (by kernel_rfl) (by kernel_rfl) (fun _ _ _ h => h) ?_ (by assumption) ?_; rotate_left; (focus (refine Or.inl ⟨by rfl, ?_⟩; intro wS hSw; (try dsimp only at hSw); go_simp; first | done | with_reducible rfl)); simp only [Act.put, List.setIfInBounds_toArray, List.set_cons_zero, List.set_cons_succ])
          (refine wpAnyH_take (i := 8) (oi := Oper.mk _ _ _ _ _ _) (v := ?_) rfl (by kernel_rfl) (by kernel_rfl) (by kernel_rfl) (fun _ _ _ h => h) ?_ (by assumption) ?_; rotate_left; (focus (refine Or.inl ⟨by rfl, ?_⟩; intro wS hSw; (try dsimp only at hSw); go_simp; first | done | with_reducible rfl)); simp only [Act.put, List.setIfInBounds_toArray, List.set_cons_zero, List.set_cons_succ])
          (refine wpAnyH_take (i := 9) (oi := Oper.mk _ _ _ _ _ _) (v := ?_) rfl (by kernel_rfl) (by kernel_rfl) (by kernel_rfl) (fun _ _ _ h => h) ?_ (by assumption) ?_; rotate_left; (focus (refine Or.inl ⟨by rfl, ?_⟩; intro wS hSw; (try dsimp only at hSw); go_simp; first | done | with_reducible rfl)); simp only [Act.put, List.setIfInBounds_toArray, List.set_cons_zero, List.set_cons_succ])
          (refine wpAnyH_take (i := 10) (oi := Oper.mk _ _ _ _ _ _) (v := ?_) rfl (by kernel_rfl) (by kernel_rfl) (by kernel_rfl) (fun _ _ _ h => h) ?_ (by assumption) ?_; rotate_left; (focus (refine Or.inl ⟨by rfl, ?_⟩; intro wS hSw; (try dsimp only at hSw); go_simp; first | done | with_reducible rfl)); simp only [Act.put, List.setIfInBounds_toArray, List.set_cons_zero, List.set_cons_succ])
          (refine wpAnyH_take (i := 11) (oi := Oper.mk _ _ _ _ _ _) (v := ?_) rfl (by kernel_rfl) (by kernel_rfl) (by kernel_rfl) (fun _ _ _ h => h) ?_ (by assumption) ?_; rotate_left; (focus (refine Or.inl ⟨by rfl, ?_⟩; intro wS hSw; (try dsimp only at hSw); go_simp; first | done | with_reducible rfl)); simp only [Act.put, List.setIfInBounds_toArray, List.set_cons_zero, List.set_cons_succ])
          (refine wpAnyH_take (i := 12) (oi := Oper.mk _ _ _ _ _ _) (v := ?_) rfl (by kernel_rfl) (by kernel_rfl) (by kernel_rfl) (fun _ _ _ h => h) ?_ (by assumption) ?_; rotate_left; (focus (refine Or.inl ⟨by rfl, ?_⟩; intro wS hSw; (try dsimp only at hSw); go_simp; first | done | with_reducible rfl)); simp only [Act.put, List.setIfInBounds_toArray, List.set_cons_zero, List.set_cons_succ])
          (refine wpAnyH_take (i := 13) (oi := Oper.mk _ _ _ _ _ _) (v := ?_) rfl (by kernel_rfl) (by kernel_rfl) (by kernel_rfl) (fun _ _ _ h => h) ?_ (by assumption) ?_; rotate_left; (focus (refine Or.inl ⟨by rfl, ?_⟩; intro wS hSw; (try dsimp only at hSw); go_simp; first | done | with_reducible rfl)); simp only [Act.put, List.setIfInBounds_toArray, List.set_cons_zero, List.set_cons_succ])
          (refine wpAnyH_take (i := 14) (oi := Oper.mk _ _ _ _ _ _) (v := ?_) rfl (by kernel_rfl) (by kernel_rfl) (by kernel_rfl) (fun _ _ _ h => h) ?_ (by assumption) ?_; rotate_left; (focus (refine Or.inl ⟨by rfl, ?_⟩; intro wS hSw; (try dsimp only at hSw); go_simp; first | done | with_reducible rfl)); simp only [Act.put, List.setIfInBounds_toArray, List.set_cons_zero, List.set_cons_succ])
          (refine wpAnyH_ready (rs := [15]) (by kernel_rfl) (by simp) ?_
           refine AllReadyH.cons (o := Oper.mk _ _ _ _ _ _) rfl (fun K hK => ?_) AllReadyH.nil
           go_simp
           (go_at_call 19; go_must (refine (index_rw hcr3 (by repeat (first | (with_reducible exact Below.refl _ _) | (with_reducible refine Below.drew ?_) | (with_reducible refine below_drewN ?_ _) | ((with_reducible refine Below.alloc ?_ ?_ _); rotate_left; focus ((try simp) <;> omega)) | ((with_reducible refine Below.setCell ?_ ?_ _); rotate_left; focus ((try simp) <;> omega)) | ((with_reducible refine Below.trans ?_ (Below.mono (by assumption) ?_)); rotate_left; focus ((try simp) <;> omega)))) (by omega) y).mono ?_; rintro e w9 ⟨rfl, hb9⟩; rw [hi2.out]; have hz9 := hb9.size; (try simp at hz9); have hs9 : w3.heap.size < w9.heap.size := (by omega); have ht9 : g6 < w9.heap.size := (by omega); obtain ⟨ua9, va9⟩ := blk_at hb9 w3.heap.size (by (try simp) <;> omega); obtain ⟨uc9, vc9⟩ := blk_at hb9 g6 (by (try simp) <;> omega)))
           refine hK.out _ _ ?_ (fun hHeld => ?_)
           · first | (dsimp only; go_keep; done) | (go_keep; done)
           clear hK K
           (try simp only [List.setIfInBounds_toArray, List.set_cons_zero, List.set_cons_succ]))
          (refine wpAnyH_take (i := 16) (oi := Oper.mk _ _ _ _ _ _) (v := ?_) rfl (by kernel_rfl) (by kernel_rfl) (by kernel_rfl) (fun _ _ _ h => h) ?_ (by assumption) ?_; rotate_left; (focus (refine Or.inl ⟨by rfl, ?_⟩; intro wS hSw; (try dsimp only at hSw); go_simp; first | done | with_reducible rfl)); simp only [Act.put, List.setIfInBounds_toArray, List.set_cons_zero, List.set_cons_succ])
          (refine wpAnyH_take (i := 17) (oi := Oper.mk _ _ _ _ _ _) (v := ?_) rfl (by kernel_rfl) (by kernel_rfl) (by kernel_rfl) (fun _ _ _ h => h) ?_ (by assumption) ?_; rotate_left; (focus (refine Or.inl ⟨by rfl, ?_⟩; intro wS hSw; (try dsimp only at hSw); go_simp; first | done | with_reducible rfl)); simp only [Act.put, List.setIfInBounds_toArray, List.set_cons_zero, List.set_cons_succ])
          refine wpAnyH_done (by kernel_rfl) ?_ _
          go_wp2_with fail
          go_roundw
          case rel => exact ⟨k + 1, by omega, by go_num, (by repeat (first | (with_reducible exact Below.refl _ _) | (with_reducible refine Below.drew ?_) | (with_reducible refine below_drewN ?_ _) | ((with_reducible refine Below.alloc ?_ ?_ _); rotate_left; focus ((try simp) <;> omega)) | ((with_reducible refine Below.setCell ?_ ?_ _); rotate_left; focus ((try simp) <;> omega)) | ((with_reducible refine Below.trans ?_ (Below.mono (by assumption) ?_)); rotate_left; focus ((try simp) <;> omega))))⟩
          case measure => simp [intOf]; omega
      · have i1 : ¬ (k : Int) < (O.length : Int) := by omega
        go_wp2_with (go_at_call 12; go_must (refine (awake_any _ (hG.out.keep (by repeat (first | (with_reducible exact Below.refl _ _) | (with_reducible refine Below.drew ?_) | (with_reducible refine below_drewN ?_ _) | ((with_reducible refine Below.alloc ?_ ?_ _); rotate_left; focus ((try simp) <;> omega)) | ((with_reducible refine Below.setCell ?_ ?_ _); rotate_left; focus ((try simp) <;> omega)) | ((with_reducible refine Below.trans ?_ (Below.mono (by assumption) ?_)); rotate_left; focus ((try simp) <;> omega)))))).mono ?_; rintro e w11 ⟨rfl, hb11⟩; have hz11 := hb11.size; (try simp at hz11); have hs11 : w.heap.size < w11.heap.size := (by omega); have ht11 : w.heap.size + 1 < w11.heap.size := (by omega); obtain ⟨ua11, va11⟩ := blk_at hb11 w.heap.size (by (try simp) <;> omega); obtain ⟨uc11, vc11⟩ := blk_at hb11 (w.heap.size + 1) (by (try simp) <;> omega)))
        go_ret
        exact ⟨rfl, (by repeat (first | (with_reducible exact Below.refl _ _) | (with_reducible refine Below.drew ?_) | (with_reducible refine below_drewN ?_ _) | ((with_reducible refine Below.alloc ?_ ?_ _); rotate_left; focus ((try simp) <;> omega)) | ((with_reducible refine Below.setCell ?_ ?_ _); rotate_left; focus ((try simp) <;> omega)) | ((with_reducible refine Below.trans ?_ (Below.mono (by assumption) ?_)); rotate_left; focus ((try simp) <;> omega))))⟩
set_option maxRecDepth 100000 in
set_option maxHeartbeats 16000000 in
/-- A job that enters and waits: it is the last one there, the only one where the policy is not to queue, and no job is lost. -/
theorem walk_wait (A : Option Addr) (c : Nat) (l : List Grp) (m : Mov) (w : World) (hr : RwG w w.heap.size A l) (hlc : l.length ≤ c) (hn : l.length ≤ 9223372036854775807) (hwb : ∀ x ∈ l, x.wait.length ≤ 4398046511104) (hG : Glob w) (hf : fewB (l.map Grp.g) = true) (hp : m.name.1.size ≤ 600) (hsr : refS ⟨m.run, m.job⟩ = true) (hE : enterE (l.map Grp.g) m.name ⟨m.run, m.job⟩ m.policy.1 = 0) (hR : enterRun (l.map Grp.g) m.name ⟨m.run, m.job⟩ m.policy.1 = false) :
    Calls Tryd.prog 5 #[.slice A l.length c, .agg #[.int .i64 m.kind.1, .string m.name.1, .string m.run.1, .string m.job.1, .int .i64 m.policy.1]] w fun e w' => e = .returned (.bool true) ∧ Below w.heap.size w w' := by
  have hfe0 : ∀ W, Below w.heap.size w W → Calls Tryd.prog 9 #[.slice A l.length c] W fun e w' => e = .returned (.bool (fewB (l.map Grp.g))) ∧ Below W.heap.size W w' := fun W hb => few_any A c l W ((hr.below hb (Nat.le_refl _)).more hb.size) hn hwb
  have hsh0 : ∀ W, Calls Tryd.prog 13 #[.agg #[.string m.run.1, .string m.job.1]] W fun e w' => e = .returned (.bool (refS ⟨m.run, m.job⟩)) ∧ Below W.heap.size W w' := fun W => shortl_any (⟨m.run, m.job⟩ : JRef) W
  rw [hf] at hfe0
  rw [hsr] at hsh0
  have hm := few_mild hf
  have hps : m.name.1.size < 4294967281 := by omega
  have hrs := refS_short hsr
  have hst : St w A c l (l.map Grp.g) := ⟨hr, hlc, rfl⟩
  have hen : Hid (∀ W, Below w.heap.size w W → Calls Tryd.prog 14 #[.slice A l.length c, .string m.name.1, .agg #[.string m.run.1, .string m.job.1], .int .i64 m.policy.1] W fun e w' => ∃ (A' : Option Addr) (c' : Nat) (l' : List Grp) (Ac : Option Addr) (Cc : Nat), e = .returned (.tuple #[.slice A' l'.length c', .agg #[.bool (enterRun (l.map Grp.g) m.name ⟨m.run, m.job⟩ m.policy.1), .slice Ac (enterCan (l.map Grp.g) m.name ⟨m.run, m.job⟩ m.policy.1).length Cc], .int .i64 (enterE (l.map Grp.g) m.name ⟨m.run, m.job⟩ m.policy.1)]) ∧ St w' A' c' l' (enterL (l.map Grp.g) m.name ⟨m.run, m.job⟩ m.policy.1) ∧ Rw jRefE 2 w' w'.heap.size Ac (enterCan (l.map Grp.g) m.name ⟨m.run, m.job⟩ m.policy.1) ∧ Below W.heap.size W w') := Lib.hid fun W hb => enter_st hst hb hm (hG.keep hb) m.name ⟨m.run, m.job⟩ m.policy hps hrs
  obtain ⟨_, hfind, hat⟩ := enter_get hE
  have hgrp := enter_group hE
  have hkeep : Hid (∀ s, s ∈ allG (l.map Grp.g) → s ∈ allG (enterL (l.map Grp.g) m.name ⟨m.run, m.job⟩ m.policy.1) ∨ s ∈ enterCan (l.map Grp.g) m.name ⟨m.run, m.job⟩ m.policy.1) := Lib.hid fun s hs => enter_keeps hE hs
  have hmn := mild_enter (p := m.policy.1) hm hps hrs
  have hcl := can_len (nm := m.name) (r := ⟨m.run, m.job⟩) (p := m.policy.1) hm
  have hol : (allG (l.map Grp.g)).length ≤ 1000000 := hm.all
  have hal : Hid (∀ W, Below w.heap.size w W → Calls Tryd.prog 20 #[.slice A l.length c] W fun e w' => ∃ (A' : Option Addr) (c' : Nat), e = .returned (.slice A' (allG (l.map Grp.g)).length c') ∧ Rw jRefE 2 w' w'.heap.size A' (allG (l.map Grp.g)) ∧ Below W.heap.size W w') := Lib.hid fun W hb => all_st hst hb hm
  rw [hE] at hen
  generalize enterRun (l.map Grp.g) m.name ⟨m.run, m.job⟩ m.policy.1 = R at *
  generalize enterCan (l.map Grp.g) m.name ⟨m.run, m.job⟩ m.policy.1 = C at *
  generalize enterL (l.map Grp.g) m.name ⟨m.run, m.job⟩ m.policy.1 = G1 at *
  generalize joinG (getG (l.map Grp.g) m.name) ⟨m.run, m.job⟩ m.policy.1 = J at *
  generalize atN m.name G1 = K at *
  generalize allG (l.map Grp.g) = O at *
  have hfi : Hid (∀ (W0 W : World) (A : Option Addr) (c : Nat) (L : List Grp), St W0 A c L G1 → Below W0.heap.size W0 W → Calls Tryd.prog 18 #[.slice A L.length c, .string m.name.1] W fun e w' => e = .returned (.int .i64 (K : Int)) ∧ W = w') := Lib.hid fun W0 W A c L h hb => by
    have h := find_st h hb hmn m.name
    rwa [hfind] at h
  have hJl : J.wait.length ≤ 1000000 := hmn.wait J (List.mem_of_getElem? hat)
  have hp1 : (m.name.1.size : Int) ≤ 600 := by omega
  have hp2 : ¬ (600 : Int) < (m.name.1.size : Int) := by omega
  have hK0 : ¬ (K : Int) < 0 := by omega
  have hK1 : (0 : Int) ≤ (K : Int) := by omega
  have hn1 := hmn.all
  clear hr hwb hp hst hm hfind
  have hfe := Lib.hid hfe0
  have hsh := Lib.hid hsh0
  clear hfe0 hsh0
  replace hG := Lib.hid hG
  replace hf := Lib.hid hf
  replace hsr := Lib.hid hsr
  replace hrs := Lib.hid hrs
  replace hE := Lib.hid hE
  replace hmn := Lib.hid hmn
  replace hat := Lib.hid hat
  replace hgrp := Lib.hid hgrp
  go_enter Tryd.func5, Tryd.ntmps5
  go_wp2_with fail
  go_region
  all_goals go_wp2_with (first
    | (go_at_call 9; go_must (refine (hfe.out _ (by repeat (first | (with_reducible exact Below.refl _ _) | (with_reducible refine Below.drew ?_) | (with_reducible refine below_drewN ?_ _) | ((with_reducible refine Below.alloc ?_ ?_ _); rotate_left; focus ((try simp) <;> omega)) | ((with_reducible refine Below.setCell ?_ ?_ _); rotate_left; focus ((try simp) <;> omega)) | ((with_reducible refine Below.trans ?_ (Below.mono (by assumption) ?_)); rotate_left; focus ((try simp) <;> omega))))).mono ?_; rintro e w1 ⟨rfl, hb1⟩; have hz1 := hb1.size; (try simp at hz1); have hs1 : w.heap.size < w1.heap.size := (by omega); have ht1 : w.heap.size + 1 < w1.heap.size := (by omega); obtain ⟨ua1, va1⟩ := blk_at hb1 w.heap.size (by (try simp) <;> omega); obtain ⟨uc1, vc1⟩ := blk_at hb1 (w.heap.size + 1) (by (try simp) <;> omega)))
    | (go_at_call 13; go_must (refine (hsh.out _).mono ?_; rintro e w2 ⟨rfl, hb2⟩; have hz2 := hb2.size; (try simp at hz2); have hs2 : w.heap.size < w2.heap.size := (by omega); have ht2 : w.heap.size + 1 < w2.heap.size := (by omega); obtain ⟨ua2, va2⟩ := blk_at hb2 w.heap.size (by (try simp) <;> omega); obtain ⟨uc2, vc2⟩ := blk_at hb2 (w.heap.size + 1) (by (try simp) <;> omega)))
    | (go_at_call 14; go_must (refine (hen.out _ (by repeat (first | (with_reducible exact Below.refl _ _) | (with_reducible refine Below.drew ?_) | (with_reducible refine below_drewN ?_ _) | ((with_reducible refine Below.alloc ?_ ?_ _); rotate_left; focus ((try simp) <;> omega)) | ((with_reducible refine Below.setCell ?_ ?_ _); rotate_left; focus ((try simp) <;> omega)) | ((with_reducible refine Below.trans ?_ (Below.mono (by assumption) ?_)); rotate_left; focus ((try simp) <;> omega))))).mono ?_; rintro e w3 ⟨A3, c3, L3, Ac3, Cc3, rfl, hst3, hcr3, hb3⟩; have hz3 := hb3.size; (try simp at hz3); have hs3 : w.heap.size < w3.heap.size := (by omega); have ht3 : w.heap.size + 1 < w3.heap.size := (by omega); obtain ⟨ua3, va3⟩ := blk_at hb3 w.heap.size (by (try simp) <;> omega); obtain ⟨uc3, vc3⟩ := blk_at hb3 (w.heap.size + 1) (by (try simp) <;> omega)))
    | (go_at_call 18; go_must (refine (hfi.out _ _ _ _ _ hst3 (by repeat (first | (with_reducible exact Below.refl _ _) | (with_reducible refine Below.drew ?_) | (with_reducible refine below_drewN ?_ _) | ((with_reducible refine Below.alloc ?_ ?_ _); rotate_left; focus ((try simp) <;> omega)) | ((with_reducible refine Below.setCell ?_ ?_ _); rotate_left; focus ((try simp) <;> omega)) | ((with_reducible refine Below.trans ?_ (Below.mono (by assumption) ?_)); rotate_left; focus ((try simp) <;> omega))))).mono ?_; rintro e w4 ⟨rfl, rfl⟩)))
  obtain ⟨g3, o3, x, rfl, hg3, rfl, hkl, q0, q1, q2, q3, hwc, hrx⟩ := hst3.at hat.out
  have hK2 : (K : Int) < (L3.length : Int) := by omega
  have hxl : x.wait.length ≤ 1000000 := hJl
  clear hJl
  obtain ⟨hrn, l0, hw, hnr, hpo⟩ : x.g.rn ≠ ⟨m.run, m.job⟩ ∧ ∃ l0, x.g.wait = l0 ++ [⟨m.run, m.job⟩] ∧ ⟨m.run, m.job⟩ ∉ l0 ∧ (m.policy.1 ≠ 0 → l0 = []) := by
    rcases hgrp.out with ⟨h, _⟩ | ⟨_, h⟩
    · rw [hR] at h; cases h
    · exact h
  have hs1 : refB x.run.1 x.job.1 m.run.1 m.job.1 = false := by
    rw [refB_iff]; exact decide_eq_false hrn
  have hi := Lib.hid (index_end hw hnr)
  have hone : Hid ((m.policy.1 != 0) = true → x.wait.length = 1) := Lib.hid fun h => by
    have h2 := hpo (by rw [bne_iff_ne] at h; exact h)
    have h3 : x.wait = l0 ++ [⟨m.run, m.job⟩] := hw
    rw [h3, h2]; rfl
  have hpos : 1 ≤ x.wait.length := by
    have h3 : x.wait = l0 ++ [⟨m.run, m.job⟩] := hw
    rw [h3]; simp
  have hwr : IntKind.i64.wrap (((x.wait.length : Nat) : Int) - 1) = ((x.wait.length : Nat) : Int) - 1 := IntWalk.i64_in _ (by omega)
  replace hw := Lib.hid hw
  replace hrn := Lib.hid hrn
  replace hnr := Lib.hid hnr
  replace hpo := Lib.hid hpo
  subst hR
  refine wp_region_held_drew (S := fun w' => w'.cell? ⟨w3.heap.size, 0, none⟩ = some (.bool false) ∧ w'.cell? ⟨g3, o3 + K * 4 + 1, none⟩ = some (.string x.run.1) ∧ w'.cell? ⟨g3, o3 + K * 4 + 2, none⟩ = some (.string x.job.1) ∧ w'.cell? ⟨g3, o3 + K * 4 + 3, none⟩ = some (.slice x.waitA x.wait.length x.waitC) ∧ w'.cell? ⟨w.heap.size + 1, 0, none⟩ = some (.string m.run.1) ∧ w'.cell? ⟨w.heap.size + 1, 1, none⟩ = some (.string m.job.1)) (by kernel_rfl) ?_ (fun hHeld => ?_)
  · (first | (dsimp only; go_keep; done) | (go_keep; done) | (go_simp; done))
  rw [show (Array.replicate _ false : Array Bool) = #[false, false, false, false, false, false, false, false, false, false, false, false, false, false, false, false, false, false, false, false, false, false, false, false, false, false, false, false, false, false, false, false, false, false, false, false] from rfl]
  (refine wpAnyH_take (i := 0) (oi := Oper.mk _ _ _ _ _ _) (v := ?_) rfl (by kernel_rfl) (by kernel_rfl) (by kernel_rfl) (fun _ _ _ h => h) ?_ (by assumption) ?_; rotate_left; (focus (refine Or.inl ⟨by rfl, ?_⟩; intro wS hSw; (try dsimp only at hSw); go_simp; first | done | with_reducible rfl)); simp only [Act.put, List.setIfInBounds_toArray, List.set_cons_zero, List.set_cons_succ])
  (refine wpAnyH_take (i := 1) (oi := Oper.mk _ _ _ _ _ _) (v := ?_) rfl (by kernel_rfl) (by kernel_rfl) (by kernel_rfl) (fun _ _ _ h => h) ?_ (by assumption) ?_; rotate_left; (focus (refine Or.inl ⟨by rfl, ?_⟩; intro wS hSw; (try dsimp only at hSw); go_simp; first | done | with_reducible rfl)); simp only [Act.put, List.setIfInBounds_toArray, List.set_cons_zero, List.set_cons_succ])
  (refine wpAnyH_take (i := 2) (oi := Oper.mk _ _ _ _ _ _) (v := ?_) rfl (by kernel_rfl) (by kernel_rfl) (by kernel_rfl) (fun _ _ _ h => h) ?_ (by assumption) ?_; rotate_left; (focus (refine Or.inl ⟨by rfl, ?_⟩; intro wS hSw; (try dsimp only at hSw); go_simp; first | done | with_reducible rfl)); simp only [Act.put, List.setIfInBounds_toArray, List.set_cons_zero, List.set_cons_succ])
  (refine wpAnyH_take (i := 3) (oi := Oper.mk _ _ _ _ _ _) (v := ?_) rfl (by kernel_rfl) (by kernel_rfl) (by kernel_rfl) (fun _ _ _ h => h) ?_ (by assumption) ?_; rotate_left; (focus (refine Or.inl ⟨by rfl, ?_⟩; intro wS hSw; (try dsimp only at hSw); go_simp; first | done | with_reducible rfl)); simp only [Act.put, List.setIfInBounds_toArray, List.set_cons_zero, List.set_cons_succ])
  (refine wpAnyH_take (i := 4) (oi := Oper.mk _ _ _ _ _ _) (v := ?_) rfl (by kernel_rfl) (by kernel_rfl) (by kernel_rfl) (fun _ _ _ h => h) ?_ (by assumption) ?_; rotate_left; (focus (refine Or.inl ⟨by rfl, ?_⟩; intro wS hSw; (try dsimp only at hSw); go_simp; first | done | with_reducible rfl)); simp only [Act.put, List.setIfInBounds_toArray, List.set_cons_zero, List.set_cons_succ])
  (refine wpAnyH_take (i := 5) (oi := Oper.mk _ _ _ _ _ _) (v := ?_) rfl (by kernel_rfl) (by kernel_rfl) (by kernel_rfl) (fun _ _ _ h => h) ?_ (by assumption) ?_; rotate_left; (focus (refine Or.inl ⟨by rfl, ?_⟩; intro wS hSw; (try dsimp only at hSw); go_simp; first | done | with_reducible rfl)); simp only [Act.put, List.setIfInBounds_toArray, List.set_cons_zero, List.set_cons_succ])
  (refine wpAnyH_take (i := 6) (oi := Oper.mk _ _ _ _ _ _) (v := ?_) rfl (by kernel_rfl) (by kernel_rfl) (by kernel_rfl) (fun _ _ _ h => h) ?_ (by assumption) ?_; rotate_left; (focus (refine Or.inl ⟨by rfl, ?_⟩; intro wS hSw; (try dsimp only at hSw); go_simp; first | done | with_reducible rfl)); simp only [Act.put, List.setIfInBounds_toArray, List.set_cons_zero, List.set_cons_succ])
  (refine wpAnyH_take (i := 7) (oi := Oper.mk _ _ _ _ _ _) (v := ?_) rfl (by kernel_rfl) (by kernel_rfl) (by kernel_rfl) (fun _ _ _ h => h) ?_ (by assumption) ?_; rotate_left; (focus (refine Or.inl ⟨by rfl, ?_⟩; intro wS hSw; (try dsimp only at hSw); go_simp; first | done | with_reducible rfl)); simp only [Act.put, List.setIfInBounds_toArray, List.set_cons_zero, List.set_cons_succ])
  (refine wpAnyH_take (i := 8) (oi := Oper.mk _ _ _ _ _ _) (v := ?_) rfl (by kernel_rfl) (by kernel_rfl) (by kernel_rfl) (fun _ _ _ h => h) ?_ (by assumption) ?_; rotate_left; (focus (refine Or.inl ⟨by rfl, ?_⟩; intro wS hSw; (try dsimp only at hSw); go_simp; first | done | with_reducible rfl)); simp only [Act.put, List.setIfInBounds_toArray, List.set_cons_zero, List.set_cons_succ])
  (refine wpAnyH_take (i := 9) (oi := Oper.mk _ _ _ _ _ _) (v := ?_) rfl (by kernel_rfl) (by kernel_rfl) (by kernel_rfl) (fun _ _ _ h => h) ?_ (by assumption) ?_; rotate_left; (focus (refine Or.inl ⟨by rfl, ?_⟩; intro wS hSw; (try dsimp only at hSw); go_simp; first | done | with_reducible rfl)); simp only [Act.put, List.setIfInBounds_toArray, List.set_cons_zero, List.set_cons_succ])
  (refine wpAnyH_take (i := 10) (oi := Oper.mk _ _ _ _ _ _) (v := ?_) rfl (by kernel_rfl) (by kernel_rfl) (by kernel_rfl) (fun _ _ _ h => h) ?_ (by assumption) ?_; rotate_left; (focus (refine Or.inl ⟨by rfl, ?_⟩; intro wS hSw; (try dsimp only at hSw); go_simp; first | done | with_reducible rfl)); simp only [Act.put, List.setIfInBounds_toArray, List.set_cons_zero, List.set_cons_succ])
  (refine wpAnyH_take (i := 11) (oi := Oper.mk _ _ _ _ _ _) (v := ?_) rfl (by kernel_rfl) (by kernel_rfl) (by kernel_rfl) (fun _ _ _ h => h) ?_ (by assumption) ?_; rotate_left; (focus (refine Or.inl ⟨by rfl, ?_⟩; intro wS hSw; (try dsimp only at hSw); go_simp; first | done | with_reducible rfl)); simp only [Act.put, List.setIfInBounds_toArray, List.set_cons_zero, List.set_cons_succ])
  (refine wpAnyH_take (i := 12) (oi := Oper.mk _ _ _ _ _ _) (v := ?_) rfl (by kernel_rfl) (by kernel_rfl) (by kernel_rfl) (fun _ _ _ h => h) ?_ (by assumption) ?_; rotate_left; (focus (refine Or.inl ⟨by rfl, ?_⟩; intro wS hSw; (try dsimp only at hSw); go_simp; first | done | with_reducible rfl)); simp only [Act.put, List.setIfInBounds_toArray, List.set_cons_zero, List.set_cons_succ])
  (refine wpAnyH_take (i := 13) (oi := Oper.mk _ _ _ _ _ _) (v := ?_) rfl (by kernel_rfl) (by kernel_rfl) (by kernel_rfl) (fun _ _ _ h => h) ?_ (by assumption) ?_; rotate_left; (focus (refine Or.inl ⟨by rfl, ?_⟩; intro wS hSw; (try dsimp only at hSw); go_simp; first | done | with_reducible rfl)); simp only [Act.put, List.setIfInBounds_toArray, List.set_cons_zero, List.set_cons_succ])
  (refine wpAnyH_take (i := 14) (oi := Oper.mk _ _ _ _ _ _) (v := ?_) rfl (by kernel_rfl) (by kernel_rfl) (by kernel_rfl) (fun _ _ _ h => h) ?_ (by assumption) ?_; rotate_left; (focus (refine Or.inl ⟨by rfl, ?_⟩; intro wS hSw; (try dsimp only at hSw); go_simp; first | done | with_reducible rfl)); simp only [Act.put, List.setIfInBounds_toArray, List.set_cons_zero, List.set_cons_succ])
  (refine wpAnyH_take (i := 15) (oi := Oper.mk _ _ _ _ _ _) (v := ?_) rfl (by kernel_rfl) (by kernel_rfl) (by kernel_rfl) (fun _ _ _ h => h) ?_ (by assumption) ?_; rotate_left; (focus (refine Or.inl ⟨by rfl, ?_⟩; intro wS hSw; (try dsimp only at hSw); go_simp; first | done | with_reducible rfl)); simp only [Act.put, List.setIfInBounds_toArray, List.set_cons_zero, List.set_cons_succ])
  (refine wpAnyH_take (i := 16) (oi := Oper.mk _ _ _ _ _ _) (v := ?_) rfl (by kernel_rfl) (by kernel_rfl) (by kernel_rfl) (fun _ _ _ h => h) ?_ (by assumption) ?_; rotate_left; (focus (refine Or.inl ⟨by rfl, ?_⟩; intro wS hSw; (try dsimp only at hSw); go_simp; first | done | with_reducible rfl)); simp only [Act.put, List.setIfInBounds_toArray, List.set_cons_zero, List.set_cons_succ])
  (refine wpAnyH_take (i := 17) (oi := Oper.mk _ _ _ _ _ _) (v := ?_) rfl (by kernel_rfl) (by kernel_rfl) (by kernel_rfl) (fun _ _ _ h => h) ?_ (by assumption) ?_; rotate_left; (focus (refine Or.inl ⟨by rfl, ?_⟩; intro wS hSw; (try dsimp only at hSw); go_simp; first | done | with_reducible rfl)); simp only [Act.put, List.setIfInBounds_toArray, List.set_cons_zero, List.set_cons_succ])
  (refine wpAnyH_take (i := 18) (oi := Oper.mk _ _ _ _ _ _) (v := ?_) rfl (by kernel_rfl) (by kernel_rfl) (by kernel_rfl) (fun _ _ _ h => h) ?_ (by assumption) ?_; rotate_left; (focus (refine Or.inl ⟨by rfl, ?_⟩; intro wS hSw; (try dsimp only at hSw); go_simp; first | done | with_reducible rfl)); simp only [Act.put, List.setIfInBounds_toArray, List.set_cons_zero, List.set_cons_succ])
  (refine wpAnyH_take (i := 19) (oi := Oper.mk _ _ _ _ _ _) (v := ?_) rfl (by kernel_rfl) (by kernel_rfl) (by kernel_rfl) (fun _ _ _ h => h) ?_ (by assumption) ?_; rotate_left; (focus (refine Or.inl ⟨by rfl, ?_⟩; intro wS hSw; (try dsimp only at hSw); go_simp; first | done | with_reducible rfl)); simp only [Act.put, List.setIfInBounds_toArray, List.set_cons_zero, List.set_cons_succ])
  (refine wpAnyH_take (i := 20) (oi := Oper.mk _ _ _ _ _ _) (v := ?_) rfl (by kernel_rfl) (by kernel_rfl) (by kernel_rfl) (fun _ _ _ h => h) ?_ (by assumption) ?_; rotate_left; (focus (refine Or.inl ⟨by rfl, ?_⟩; intro wS hSw; (try dsimp only at hSw); go_simp; first | done | with_reducible rfl)); simp only [Act.put, List.setIfInBounds_toArray, List.set_cons_zero, List.set_cons_succ])
  (refine wpAnyH_take (i := 21) (oi := Oper.mk _ _ _ _ _ _) (v := ?_) rfl (by kernel_rfl) (by kernel_rfl) (by kernel_rfl) (fun _ _ _ h => h) ?_ (by assumption) ?_; rotate_left; (focus (refine Or.inl ⟨by rfl, ?_⟩; intro wS hSw; (try dsimp only at hSw); go_simp; first | done | with_reducible rfl)); simp only [Act.put, List.setIfInBounds_toArray, List.set_cons_zero, List.set_cons_succ])
  (refine wpAnyH_take (i := 22) (oi := Oper.mk _ _ _ _ _ _) (v := ?_) rfl (by kernel_rfl) (by kernel_rfl) (by kernel_rfl) (fun _ _ _ h => h) ?_ (by assumption) ?_; rotate_left; (focus (refine Or.inl ⟨by rfl, ?_⟩; intro wS hSw; (try dsimp only at hSw); go_simp; first | done | with_reducible rfl)); simp only [Act.put, List.setIfInBounds_toArray, List.set_cons_zero, List.set_cons_succ])
  (refine wpAnyH_take (i := 23) (oi := Oper.mk _ _ _ _ _ _) (v := ?_) rfl (by kernel_rfl) (by kernel_rfl) (by kernel_rfl) (fun _ _ _ h => h) ?_ (by assumption) ?_; rotate_left; (focus (refine Or.inl ⟨by rfl, ?_⟩; intro wS hSw; (try dsimp only at hSw); go_simp; first | done | with_reducible rfl)); simp only [Act.put, List.setIfInBounds_toArray, List.set_cons_zero, List.set_cons_succ])
  (refine wpAnyH_take (i := 24) (oi := Oper.mk _ _ _ _ _ _) (v := ?_) rfl (by kernel_rfl) (by kernel_rfl) (by kernel_rfl) (fun _ _ _ h => h) ?_ (by assumption) ?_; rotate_left; (focus (refine Or.inl ⟨by rfl, ?_⟩; intro wS hSw; (try dsimp only at hSw); go_simp; first | done | with_reducible rfl)); simp only [Act.put, List.setIfInBounds_toArray, List.set_cons_zero, List.set_cons_succ])
  (refine wpAnyH_take (i := 26) (oi := Oper.mk _ _ _ _ _ _) (v := ?_) rfl (by kernel_rfl) (by kernel_rfl) (by kernel_rfl) (fun _ _ _ h => h) ?_ (by assumption) ?_; rotate_left; (focus (refine Or.inl ⟨by rfl, ?_⟩; intro wS hSw; (try dsimp only at hSw); go_simp; first | done | with_reducible rfl)); simp only [Act.put, List.setIfInBounds_toArray, List.set_cons_zero, List.set_cons_succ])
  (refine wpAnyH_take (i := 27) (oi := Oper.mk _ _ _ _ _ _) (v := ?_) rfl (by kernel_rfl) (by kernel_rfl) (by kernel_rfl) (fun _ _ _ h => h) ?_ (by assumption) ?_; rotate_left; (focus (refine Or.inl ⟨by rfl, ?_⟩; intro wS hSw; (try dsimp only at hSw); go_simp; first | done | with_reducible rfl)); simp only [Act.put, List.setIfInBounds_toArray, List.set_cons_zero, List.set_cons_succ])
  (refine wpAnyH_take (i := 28) (oi := Oper.mk _ _ _ _ _ _) (v := ?_) rfl (by kernel_rfl) (by kernel_rfl) (by kernel_rfl) (fun _ _ _ h => h) ?_ (by assumption) ?_; rotate_left; (focus (refine Or.inl ⟨by rfl, ?_⟩; intro wS hSw; (try dsimp only at hSw); go_simp; first | done | with_reducible rfl)); simp only [Act.put, List.setIfInBounds_toArray, List.set_cons_zero, List.set_cons_succ])
  (refine wpAnyH_take (i := 29) (oi := Oper.mk _ _ _ _ _ _) (v := ?_) rfl (by kernel_rfl) (by kernel_rfl) (by kernel_rfl) (fun _ _ _ h => h) ?_ (by assumption) ?_; rotate_left; (focus (refine Or.inl ⟨by rfl, ?_⟩; intro wS hSw; (try dsimp only at hSw); go_simp; first | done | with_reducible rfl)); simp only [Act.put, List.setIfInBounds_toArray, List.set_cons_zero, List.set_cons_succ])
  (refine wpAnyH_take (i := 30) (oi := Oper.mk _ _ _ _ _ _) (v := ?_) rfl (by kernel_rfl) (by kernel_rfl) (by kernel_rfl) (fun _ _ _ h => h) ?_ (by assumption) ?_; rotate_left; (focus (refine Or.inl ⟨by rfl, ?_⟩; intro wS hSw; (try dsimp only at hSw); go_simp; first | done | with_reducible rfl)); simp only [Act.put, List.setIfInBounds_toArray, List.set_cons_zero, List.set_cons_succ])
  (refine wpAnyH_take (i := 31) (oi := Oper.mk _ _ _ _ _ _) (v := ?_) rfl (by kernel_rfl) (by kernel_rfl) (by kernel_rfl) (fun _ _ _ h => h) ?_ (by assumption) ?_; rotate_left; (focus (refine Or.inl ⟨by rfl, ?_⟩; intro wS hSw; (try dsimp only at hSw); go_simp; first | done | with_reducible rfl)); simp only [Act.put, List.setIfInBounds_toArray, List.set_cons_zero, List.set_cons_succ])
  (refine wpAnyH_take (i := 32) (oi := Oper.mk _ _ _ _ _ _) (v := ?_) rfl (by kernel_rfl) (by kernel_rfl) (by kernel_rfl) (fun _ _ _ h => h) ?_ (by assumption) ?_; rotate_left; (focus (refine Or.inl ⟨by rfl, ?_⟩; intro wS hSw; (try dsimp only at hSw); go_simp; first | done | with_reducible rfl)); simp only [Act.put, List.setIfInBounds_toArray, List.set_cons_zero, List.set_cons_succ])
  (refine wpAnyH_ready (rs := [25]) (by kernel_rfl) (by simp) ?_
   refine AllReadyH.cons (o := Oper.mk _ _ _ _ _ _) rfl (fun K hK => ?_) AllReadyH.nil
   go_simp
   (go_at_call 19; go_must (refine (index_rw hrx (by repeat (first | (with_reducible exact Below.refl _ _) | (with_reducible refine Below.drew ?_) | (with_reducible refine below_drewN ?_ _) | ((with_reducible refine Below.alloc ?_ ?_ _); rotate_left; focus ((try simp) <;> omega)) | ((with_reducible refine Below.setCell ?_ ?_ _); rotate_left; focus ((try simp) <;> omega)) | ((with_reducible refine Below.trans ?_ (Below.mono (by assumption) ?_)); rotate_left; focus ((try simp) <;> omega)))) (by omega) ⟨m.run, m.job⟩).mono ?_; rintro e w5 ⟨rfl, hb5⟩; rw [show idxI x.wait ⟨m.run, m.job⟩ = ((x.wait.length : Nat) : Int) - 1 from hi.out]; have hz5 := hb5.size; (try simp at hz5); have hs5 : w.heap.size < w5.heap.size := (by omega); have ht5 : w.heap.size + 1 < w5.heap.size := (by omega); obtain ⟨ua5, va5⟩ := blk_at hb5 w.heap.size (by (try simp) <;> omega); obtain ⟨uc5, vc5⟩ := blk_at hb5 (w.heap.size + 1) (by (try simp) <;> omega); have hv5 : w3.heap.size < w5.heap.size := (by omega); obtain ⟨ud5, vd5⟩ := blk_at hb5 w3.heap.size (by (try simp) <;> omega); have hw5 : g3 < w5.heap.size := (by omega); obtain ⟨ue5, ve5⟩ := blk_at hb5 g3 (by (try simp) <;> omega)))
   refine hK.out _ _ ?_ (fun hHeld => ?_)
   · first | (dsimp only; go_keep; done) | (go_keep; done)
   clear hK K
   (try simp only [List.setIfInBounds_toArray, List.set_cons_zero, List.set_cons_succ]))
  (refine wpAnyH_take (i := 33) (oi := Oper.mk _ _ _ _ _ _) (v := ?_) rfl (by kernel_rfl) (by kernel_rfl) (by kernel_rfl) (fun _ _ _ h => h) ?_ (by assumption) ?_; rotate_left; (focus (refine Or.inl ⟨by rfl, ?_⟩; intro wS hSw; (try dsimp only at hSw); go_simp; first | done | with_reducible rfl)); simp only [Act.put, List.setIfInBounds_toArray, List.set_cons_zero, List.set_cons_succ])
  (refine wpAnyH_take (i := 34) (oi := Oper.mk _ _ _ _ _ _) (v := ?_) rfl (by kernel_rfl) (by kernel_rfl) (by kernel_rfl) (fun _ _ _ h => h) ?_ (by assumption) ?_; rotate_left; (focus (refine Or.inl ⟨by rfl, ?_⟩; intro wS hSw; (try dsimp only at hSw); go_simp; first | done | with_reducible rfl)); simp only [Act.put, List.setIfInBounds_toArray, List.set_cons_zero, List.set_cons_succ])
  (refine wpAnyH_take (i := 35) (oi := Oper.mk _ _ _ _ _ _) (v := ?_) rfl (by kernel_rfl) (by kernel_rfl) (by kernel_rfl) (fun _ _ _ h => h) ?_ (by assumption) ?_; rotate_left; (focus (refine Or.inl ⟨by rfl, ?_⟩; intro wS hSw; (try dsimp only at hSw); go_simp; first | done | with_reducible rfl)); simp only [Act.put, List.setIfInBounds_toArray, List.set_cons_zero, List.set_cons_succ])
  refine wpAnyH_done (by kernel_rfl) ?_ _
  rcases Bool.eq_false_or_eq_true (m.policy.1 != 0) with hP | hP
  · have hl1 := hone.out hP
    have hl2 : ((x.wait.length : Nat) : Int) = 1 := by omega
    have hl3 := hl2
    clear hl1
    go_wp2_with (go_at_call 20; go_must (refine (hal.out _ (by repeat (first | (with_reducible exact Below.refl _ _) | (with_reducible refine Below.drew ?_) | (with_reducible refine below_drewN ?_ _) | ((with_reducible refine Below.alloc ?_ ?_ _); rotate_left; focus ((try simp) <;> omega)) | ((with_reducible refine Below.setCell ?_ ?_ _); rotate_left; focus ((try simp) <;> omega)) | ((with_reducible refine Below.trans ?_ (Below.mono (by assumption) ?_)); rotate_left; focus ((try simp) <;> omega))))).mono ?_; rintro e w6 ⟨A6, c6, rfl, hr6, hb6⟩; have hz6 := hb6.size; (try simp at hz6); have hs6 : w.heap.size < w6.heap.size := (by omega); have ht6 : w.heap.size + 1 < w6.heap.size := (by omega); obtain ⟨ua6, va6⟩ := blk_at hb6 w.heap.size (by (try simp) <;> omega); obtain ⟨uc6, vc6⟩ := blk_at hb6 (w.heap.size + 1) (by (try simp) <;> omega); have hv6 : w3.heap.size < w6.heap.size := (by omega); obtain ⟨ud6, vd6⟩ := blk_at hb6 w3.heap.size (by (try simp) <;> omega); have hw6 : g3 < w6.heap.size := (by omega); obtain ⟨ue6, ve6⟩ := blk_at hb6 g3 (by (try simp) <;> omega)))
    go_loopw [13] (fun vi wr => ∃ k : Nat, k ≤ O.length ∧ vi = .int .i64 (k : Int) ∧ Below w6.heap.size w6 wr) (fun vi _ => O.length - (intOf vi).toNat)
    case atStart => exact ⟨0, Nat.zero_le _, rfl, Below.refl _ _⟩
    case round =>
      obtain ⟨k, hk, rfl, hbw⟩ := hrel
      have hz := hbw.size
      have hzz : w3.heap.size < wr.heap.size := by omega
      by_cases hkl2 : k < O.length
      · obtain ⟨y, hy⟩ := get_some hkl2
        obtain ⟨g6, o6, rfl, hg6, qq⟩ := hr6 (by omega)
        have y0 : wr.cell? ⟨g6, o6 + k * 2, none⟩ = some (.string y.run.1) := (hbw.cell (p := ⟨g6, o6 + k * 2, none⟩) hg6).trans (qq k y hy 0 (.string y.run.1) rfl)
        have y1 : wr.cell? ⟨g6, o6 + k * 2 + 1, none⟩ = some (.string y.job.1) := (hbw.cell (p := ⟨g6, o6 + k * 2 + 1, none⟩) hg6).trans (qq k y hy 1 (.string y.job.1) rfl)
        clear qq
        have z1 : wr.cell? ⟨w3.heap.size, 1, none⟩ = some (.slice Ac3 C.length Cc3) := (hbw.cell (p := ⟨w3.heap.size, 1, none⟩) (by omega)).trans (by go_simp)
        have hg6r : g6 < wr.heap.size := by omega
        have i0 : (0 : Int) ≤ (k : Int) := by omega
        have i1 : (k : Int) < (O.length : Int) := by omega
        have hym := hkeep.out y (List.mem_of_getElem? hy)
        replace hy := Lib.hid hy
        rcases idx_dec (allG G1) y with ⟨h1, h2⟩ | ⟨h1, h2⟩
        · obtain ⟨I, hi1⟩ : ∃ I, idxI (allG G1) y = I := ⟨_, rfl⟩
          rw [hi1] at h1
          have hIn : ¬ I < 0 := by omega
          have hIb : decide (I < 0) = false := decide_eq_false hIn
          replace hi1 := Lib.hid hi1
          replace h2 := Lib.hid h2
          replace hym := Lib.hid hym
          go_wp2_with fail
          refine wp_region_held_drew (S := fun w' => w'.cell? ⟨w3.heap.size, 1, none⟩ = some (.slice Ac3 C.length Cc3) ∧ w'.cell? ⟨g6, o6 + k * 2, none⟩ = some (.string y.run.1) ∧ w'.cell? ⟨g6, o6 + k * 2 + 1, none⟩ = some (.string y.job.1)) (by kernel_rfl) ?_ (fun hHeld => ?_)
          · (first | (dsimp only; go_keep; done) | (go_keep; done) | (go_simp; done))
          rw [show (Array.replicate _ false : Array Bool) = #[false, false, false, false, false, false, false, false, false, false, false, false, false, false, false, false, false, false] from rfl]
          (refine wpAnyH_take (i := 0) (oi := Oper.mk _ _ _ _ _ _) (v := ?_) rfl (by kernel_rfl) (by kernel_rfl) (by kernel_rfl) (fun _ _ _ h => h) ?_ (by assumption) ?_; rotate_left; (focus (refine Or.inl ⟨by rfl, ?_⟩; intro wS hSw; (try dsimp only at hSw); go_simp; first | done | with_reducible rfl)); simp only [Act.put, List.setIfInBounds_toArray, List.set_cons_zero, List.set_cons_succ])
          (refine wpAnyH_take (i := 2) (oi := Oper.mk _ _ _ _ _ _) (v := ?_) rfl (by kernel_rfl) (by kernel_rfl) (by kernel_rfl) (fun _ _ _ h => h) ?_ (by assumption) ?_; rotate_left; (focus (refine Or.inl ⟨by rfl, ?_⟩; intro wS hSw; (try dsimp only at hSw); go_simp; first | done | with_reducible rfl)); simp only [Act.put, List.setIfInBounds_toArray, List.set_cons_zero, List.set_cons_succ])
          (refine wpAnyH_take (i := 3) (oi := Oper.mk _ _ _ _ _ _) (v := ?_) rfl (by kernel_rfl) (by kernel_rfl) (by kernel_rfl) (fun _ _ _ h => h) ?_ (by assumption) ?_; rotate_left; (focus (refine Or.inl ⟨by rfl, ?_⟩; intro wS hSw; (try dsimp only at hSw); go_simp; first | done | with_reducible rfl)); simp only [Act.put, List.setIfInBounds_toArray, List.set_cons_zero, List.set_cons_succ])
          (refine wpAnyH_take (i := 4) (oi := Oper.mk _ _ _ _ _ _) (v := ?_) rfl (by kernel_rfl) (by kernel_rfl) (by kernel_rfl) (fun _ _ _ h => h) ?_ (by assumption) ?_; rotate_left; (focus (refine Or.inl ⟨by rfl, ?_⟩; intro wS hSw; (try dsimp only at hSw); go_simp; first | done | with_reducible rfl)); simp only [Act.put, List.setIfInBounds_toArray, List.set_cons_zero, List.set_cons_succ])
          (refine wpAnyH_take (i := 5) (oi := Oper.mk _ _ _ _ _ _) (v := ?_) rfl (by kernel_rfl) (by kernel_rfl) (by kernel_rfl) (fun _ _ _ h => h) ?_ (by assumption) ?_; rotate_left; (focus (refine Or.inl ⟨by rfl, ?_⟩; intro wS hSw; (try dsimp only at hSw); go_simp; first | done | with_reducible rfl)); simp only [Act.put, List.setIfInBounds_toArray, List.set_cons_zero, List.set_cons_succ])
          (refine wpAnyH_ready (rs := [1]) (by kernel_rfl) (by simp) ?_
           refine AllReadyH.cons (o := Oper.mk _ _ _ _ _ _) rfl (fun K hK => ?_) AllReadyH.nil
           go_simp
           (go_at_call 20; go_must (refine (all_st hst3 (by repeat (first | (with_reducible exact Below.refl _ _) | (with_reducible refine Below.drew ?_) | (with_reducible refine below_drewN ?_ _) | ((with_reducible refine Below.alloc ?_ ?_ _); rotate_left; focus ((try simp) <;> omega)) | ((with_reducible refine Below.setCell ?_ ?_ _); rotate_left; focus ((try simp) <;> omega)) | ((with_reducible refine Below.trans ?_ (Below.mono (by assumption) ?_)); rotate_left; focus ((try simp) <;> omega)))) hmn.out).mono ?_; rintro e w7 ⟨A7, c7, rfl, hr7, hb7⟩; have hz7 := hb7.size; (try simp at hz7); have hs7 : w3.heap.size < w7.heap.size := (by omega); have ht7 : g6 < w7.heap.size := (by omega); obtain ⟨ua7, va7⟩ := blk_at hb7 w3.heap.size (by (try simp) <;> omega); obtain ⟨uc7, vc7⟩ := blk_at hb7 g6 (by (try simp) <;> omega)))
           refine hK.out _ _ ?_ (fun hHeld => ?_)
           · first | (dsimp only; go_keep; done) | (go_keep; done)
           clear hK K
           (try simp only [List.setIfInBounds_toArray, List.set_cons_zero, List.set_cons_succ]))
          (refine wpAnyH_ready (rs := [6]) (by kernel_rfl) (by simp) ?_
           refine AllReadyH.cons (o := Oper.mk _ _ _ _ _ _) rfl (fun K hK => ?_) AllReadyH.nil
           go_simp
           (go_at_call 19; go_must (refine (index_rw hr7 (by repeat (first | (with_reducible exact Below.refl _ _) | (with_reducible refine Below.drew ?_) | (with_reducible refine below_drewN ?_ _) | ((with_reducible refine Below.alloc ?_ ?_ _); rotate_left; focus ((try simp) <;> omega)) | ((with_reducible refine Below.setCell ?_ ?_ _); rotate_left; focus ((try simp) <;> omega)) | ((with_reducible refine Below.trans ?_ (Below.mono (by assumption) ?_)); rotate_left; focus ((try simp) <;> omega)))) (by omega) y).mono ?_; rintro e w8 ⟨rfl, hb8⟩; rw [hi1.out]; have hz8 := hb8.size; (try simp at hz8); have hs8 : w3.heap.size < w8.heap.size := (by omega); have ht8 : g6 < w8.heap.size := (by omega); obtain ⟨ua8, va8⟩ := blk_at hb8 w3.heap.size (by (try simp) <;> omega); obtain ⟨uc8, vc8⟩ := blk_at hb8 g6 (by (try simp) <;> omega)))
           refine hK.out _ _ ?_ (fun hHeld => ?_)
           · first | (dsimp only; go_keep; done) | (go_keep; done)
           clear hK K
           (try simp only [List.setIfInBounds_toArray, List.set_cons_zero, List.set_cons_succ]))
          (refine wpAnyH_take (i := 7) (oi := Oper.mk _ _ _ _ _ _) (v := ?_) rfl (by kernel_rfl) (by kernel_rfl) (by kernel_rfl) (fun _ _ _ h => h) ?_ (by assumption) ?_; rotate_left; (focus (refine Or.inl ⟨by rfl, ?_⟩; intro wS hSw; (try dsimp only at hSw); go_simp; first | done | with_reducible rfl)); simp only [Act.put, List.setIfInBounds_toArray, List.set_cons_zero, List.set_cons_succ])
          (refine wpAnyH_take (i := 8) (oi := Oper.mk _ _ _ _ _ _) (v := ?_) rfl (by kernel_rfl) (by kernel_rfl) (by kernel_rfl) (fun _ _ _ h => h) ?_ (by assumption) ?_; rotate_left; (focus (refine Or.inl ⟨by rfl, ?_⟩; intro wS hSw; (try dsimp only at hSw); go_simp; first | done | with_reducible rfl)); simp only [Act.put, List.setIfInBounds_toArray, List.set_cons_zero, List.set_cons_succ])
          (refine wpAnyH_take (i := 9) (oi := Oper.mk _ _ _ _ _ _) (v := undef) rfl (by kernel_rfl) (by kernel_rfl) (by kernel_rfl) (fun _ _ _ h => h) (Or.inr ⟨by kernel_rfl, rfl⟩) (by assumption) ?_; simp only [Act.put, List.setIfInBounds_toArray, List.set_cons_zero, List.set_cons_succ])
          (refine wpAnyH_take (i := 10) (oi := Oper.mk _ _ _ _ _ _) (v := undef) rfl (by kernel_rfl) (by kernel_rfl) (by kernel_rfl) (fun _ _ _ h => h) (Or.inr ⟨by kernel_rfl, rfl⟩) (by assumption) ?_; simp only [Act.put, List.setIfInBounds_toArray, List.set_cons_zero, List.set_cons_succ])
          (refine wpAnyH_take (i := 11) (oi := Oper.mk _ _ _ _ _ _) (v := undef) rfl (by kernel_rfl) (by kernel_rfl) (by kernel_rfl) (fun _ _ _ h => h) (Or.inr ⟨by kernel_rfl, rfl⟩) (by assumption) ?_; simp only [Act.put, List.setIfInBounds_toArray, List.set_cons_zero, List.set_cons_succ])
          (refine wpAnyH_take (i := 12) (oi := Oper.mk _ _ _ _ _ _) (v := undef) rfl (by kernel_rfl) (by kernel_rfl) (by kernel_rfl) (fun _ _ _ h => h) (Or.inr ⟨by kernel_rfl, rfl⟩) (by assumption) ?_; simp only [Act.put, List.setIfInBounds_toArray, List.set_cons_zero, List.set_cons_succ])
          (refine wpAnyH_take (i := 13) (oi := Oper.mk _ _ _ _ _ _) (v := undef) rfl (by kernel_rfl) (by kernel_rfl) (by kernel_rfl) (fun _ _ _ h => h) (Or.inr ⟨by kernel_rfl, rfl⟩) (by assumption) ?_; simp only [Act.put, List.setIfInBounds_toArray, List.set_cons_zero, List.set_cons_succ])
          (refine wpAnyH_take (i := 14) (oi := Oper.mk _ _ _ _ _ _) (v := undef) rfl (by kernel_rfl) (by kernel_rfl) (by kernel_rfl) (fun _ _ _ h => h) (Or.inr ⟨by kernel_rfl, rfl⟩) (by assumption) ?_; simp only [Act.put, List.setIfInBounds_toArray, List.set_cons_zero, List.set_cons_succ])
          (refine wpAnyH_ready (rs := [15]) (by kernel_rfl) (by simp) ?_; refine AllReadyH.cons (o := Oper.mk _ _ _ _ _ _) rfl (fun K hK => ?_) AllReadyH.nil; rw [if_neg (Bool.eq_false_iff.1 (by kernel_rfl))]; refine hK.out _ _ (by assumption) (fun _ => ?_); (clear hK K); (try simp only [Act.put, List.setIfInBounds_toArray, List.set_cons_zero, List.set_cons_succ]))
          (refine wpAnyH_take (i := 16) (oi := Oper.mk _ _ _ _ _ _) (v := undef) rfl (by kernel_rfl) (by kernel_rfl) (by kernel_rfl) (fun _ _ _ h => h) (Or.inr ⟨by kernel_rfl, rfl⟩) (by assumption) ?_; simp only [Act.put, List.setIfInBounds_toArray, List.set_cons_zero, List.set_cons_succ])
          (refine wpAnyH_take (i := 17) (oi := Oper.mk _ _ _ _ _ _) (v := ?_) rfl (by kernel_rfl) (by kernel_rfl) (by kernel_rfl) (fun _ _ _ h => h) ?_ (by assumption) ?_; rotate_left; (focus (refine Or.inl ⟨by rfl, ?_⟩; intro wS hSw; (try dsimp only at hSw); go_simp; first | done | with_reducible rfl)); simp only [Act.put, List.setIfInBounds_toArray, List.set_cons_zero, List.set_cons_succ])
          refine wpAnyH_done (by kernel_rfl) ?_ _
          go_wp2_with fail
          go_roundw
          case rel => exact ⟨k + 1, by omega, by go_num, (by repeat (first | (with_reducible exact Below.refl _ _) | (with_reducible refine Below.drew ?_) | (with_reducible refine below_drewN ?_ _) | ((with_reducible refine Below.alloc ?_ ?_ _); rotate_left; focus ((try simp) <;> omega)) | ((with_reducible refine Below.setCell ?_ ?_ _); rotate_left; focus ((try simp) <;> omega)) | ((with_reducible refine Below.trans ?_ (Below.mono (by assumption) ?_)); rotate_left; focus ((try simp) <;> omega))))⟩
          case measure => simp [intOf]; omega
        · have hyc : y ∈ C := by
            rcases hym with h | h
            · exact absurd h h2
            · exact h
          have hi1 := Lib.hid h1
          have hic := idx_mem hyc
          obtain ⟨I, hi2⟩ : ∃ I, idxI C y = I := ⟨_, rfl⟩
          rw [hi2] at hic
          have hIn : ¬ I < 0 := by omega
          have hIb : decide (I < 0) = false := decide_eq_false hIn
          replace hi2 := Lib.hid hi2
          replace h2 := Lib.hid h2
          replace hym := Lib.hid hym
          replace hyc := Lib.hid hyc
          clear h1
          go_wp2_with fail
          refine wp_region_held_drew (S := fun w' => w'.cell? ⟨w3.heap.size, 1, none⟩ = some (.slice Ac3 C.length Cc3) ∧ w'.cell? ⟨g6, o6 + k * 2, none⟩ = some (.string y.run.1) ∧ w'.cell? ⟨g6, o6 + k * 2 + 1, none⟩ = some (.string y.job.1)) (by kernel_rfl) ?_ (fun hHeld => ?_)
          · (first | (dsimp only; go_keep; done) | (go_keep; done) | (go_simp; done))
          rw [show (Array.replicate _ false : Array Bool) = #[false, false, false, false, false, false, false, false, false, false, false, false, false, false, false, false, false, false] from rfl]
          (refine wpAnyH_take (i := 0) (oi := Oper.mk _ _ _ _ _ _) (v := ?_) rfl (by kernel_rfl) (by kernel_rfl) (by kernel_rfl) (fun _ _ _ h => h) ?_ (by assumption) ?_; rotate_left; (focus (refine Or.inl ⟨by rfl, ?_⟩; intro wS hSw; (try dsimp only at hSw); go_simp; first | done | with_reducible rfl)); simp only [Act.put, List.setIfInBounds_toArray, List.set_cons_zero, List.set_cons_succ])
          (refine wpAnyH_take (i := 2) (oi := Oper.mk _ _ _ _ _ _) (v := ?_) rfl (by kernel_rfl) (by kernel_rfl) (by kernel_rfl) (fun _ _ _ h => h) ?_ (by assumption) ?_; rotate_left; (focus (refine Or.inl ⟨by rfl, ?_⟩; intro wS hSw; (try dsimp only at hSw); go_simp; first | done | with_reducible rfl)); simp only [Act.put, List.setIfInBounds_toArray, List.set_cons_zero, List.set_cons_succ])
          (refine wpAnyH_take (i := 3) (oi := Oper.mk _ _ _ _ _ _) (v := ?_) rfl (by kernel_rfl) (by kernel_rfl) (by kernel_rfl) (fun _ _ _ h => h) ?_ (by assumption) ?_; rotate_left; (focus (refine Or.inl ⟨by rfl, ?_⟩; intro wS hSw; (try dsimp only at hSw); go_simp; first | done | with_reducible rfl)); simp only [Act.put, List.setIfInBounds_toArray, List.set_cons_zero, List.set_cons_succ])
          (refine wpAnyH_take (i := 4) (oi := Oper.mk _ _ _ _ _ _) (v := ?_) rfl (by kernel_rfl) (by kernel_rfl) (by kernel_rfl) (fun _ _ _ h => h) ?_ (by assumption) ?_; rotate_left; (focus (refine Or.inl ⟨by rfl, ?_⟩; intro wS hSw; (try dsimp only at hSw); go_simp; first | done | with_reducible rfl)); simp only [Act.put, List.setIfInBounds_toArray, List.set_cons_zero, List.set_cons_succ])
          (refine wpAnyH_take (i := 5) (oi := Oper.mk _ _ _ _ _ _) (v := ?_) rfl (by kernel_rfl) (by kernel_rfl) (by kernel_rfl) (fun _ _ _ h => h) ?_ (by assumption) ?_; rotate_left; (focus (refine Or.inl ⟨by rfl, ?_⟩; intro wS hSw; (try dsimp only at hSw); go_simp; first | done | with_reducible rfl)); simp only [Act.put, List.setIfInBounds_toArray, List.set_cons_zero, List.set_cons_succ])
          (refine wpAnyH_ready (rs := [1]) (by kernel_rfl) (by simp) ?_
           refine AllReadyH.cons (o := Oper.mk _ _ _ _ _ _) rfl (fun K hK => ?_) AllReadyH.nil
           go_simp
           (go_at_call 20; go_must (refine (all_st hst3 (by repeat (first | (with_reducible exact Below.refl _ _) | (with_reducible refine Below.drew ?_) | (with_reducible refine below_drewN ?_ _) | ((with_reducible refine Below.alloc ?_ ?_ _); rotate_left; focus ((try simp) <;> omega)) | ((with_reducible refine Below.setCell ?_ ?_ _); rotate_left; focus ((try simp) <;> omega)) | ((with_reducible refine Below.trans ?_ (Below.mono (by assumption) ?_)); rotate_left; focus ((try simp) <;> omega)))) hmn.out).mono ?_; rintro e w7 ⟨A7, c7, rfl, hr7, hb7⟩; have hz7 := hb7.size; (try simp at hz7); have hs7 : w3.heap.size < w7.heap.size := (by omega); have ht7 : g6 < w7.heap.size := (by omega); obtain ⟨ua7, va7⟩ := blk_at hb7 w3.heap.size (by (try simp) <;> omega); obtain ⟨uc7, vc7⟩ := blk_at hb7 g6 (by (try simp) <;> omega)))
           refine hK.out _ _ ?_ (fun hHeld => ?_)
           · first | (dsimp only; go_keep; done) | (go_keep; done)
           clear hK K
           (try simp only [List.setIfInBounds_toArray, List.set_cons_zero, List.set_cons_succ]))
          (refine wpAnyH_ready (rs := [6]) (by kernel_rfl) (by simp) ?_
           refine AllReadyH.cons (o := Oper.mk _ _ _ _ _ _) rfl (fun K hK => ?_) AllReadyH.nil
           go_simp
           (go_at_call 19; go_must (refine (index_rw hr7 (by repeat (first | (with_reducible exact Below.refl _ _) | (with_reducible refine Below.drew ?_) | (with_reducible refine below_drewN ?_ _) | ((with_reducible refine Below.alloc ?_ ?_ _); rotate_left; focus ((try simp) <;> omega)) | ((with_reducible refine Below.setCell ?_ ?_ _); rotate_left; focus ((try simp) <;> omega)) | ((with_reducible refine Below.trans ?_ (Below.mono (by assumption) ?_)); rotate_left; focus ((try simp) <;> omega)))) (by omega) y).mono ?_; rintro e w8 ⟨rfl, hb8⟩; rw [hi1.out]; have hz8 := hb8.size; (try simp at hz8); have hs8 : w3.heap.size < w8.heap.size := (by omega); have ht8 : g6 < w8.heap.size := (by omega); obtain ⟨ua8, va8⟩ := blk_at hb8 w3.heap.size (by (try simp) <;> omega); obtain ⟨uc8, vc8⟩ := blk_at hb8 g6 (by (try simp) <;> omega)))
           refine hK.out _ _ ?_ (fun hHeld => ?_)
           · first | (dsimp only; go_keep; done) | (go_keep; done)
           clear hK K
           (try simp only [List.setIfInBounds_toArray, List.set_cons_zero, List.set_cons_succ]))
          (refine wpAnyH_take (i := 7) (oi := Oper.mk _ _ _ _ _ _) (v := ?_) rfl (by kernel_rfl) (by kernel_rfl) (by kernel_rfl) (fun _ _ _ h => h) ?_ (by assumption) ?_; rotate_left; (focus (refine Or.inl ⟨by rfl, ?_⟩; intro wS hSw; (try dsimp only at hSw); go_simp; first | done | with_reducible rfl)); simp only [Act.put, List.setIfInBounds_toArray, List.set_cons_zero, List.set_cons_succ])
          (refine wpAnyH_take (i := 8) (oi := Oper.mk _ _ _ _ _ _) (v := ?_) rfl (by kernel_rfl) (by kernel_rfl) (by kernel_rfl) (fun _ _ _ h => h) ?_ (by assumption) ?_; rotate_left; (focus (refine Or.inl ⟨by rfl, ?_⟩; intro wS hSw; (try dsimp only at hSw); go_simp; first | done | with_reducible rfl)); simp only [Act.put, List.setIfInBounds_toArray, List.set_cons_zero, List.set_cons_succ])
          (refine wpAnyH_take (i := 9) (oi := Oper.mk _ _ _ _ _ _) (v := ?_) rfl (by kernel_rfl) (by kernel_rfl) (by kernel_rfl) (fun _ _ _ h => h) ?_ (by assumption) ?_; rotate_left; (focus (refine Or.inl ⟨by rfl, ?_⟩; intro wS hSw; (try dsimp only at hSw); go_simp; first | done | with_reducible rfl)); simp only [Act.put, List.setIfInBounds_toArray, List.set_cons_zero, List.set_cons_succ])
          (refine wpAnyH_take (i := 10) (oi := Oper.mk _ _ _ _ _ _) (v := ?_) rfl (by kernel_rfl) (by kernel_rfl) (by kernel_rfl) (fun _ _ _ h => h) ?_ (by assumption) ?_; rotate_left; (focus (refine Or.inl ⟨by rfl, ?_⟩; intro wS hSw; (try dsimp only at hSw); go_simp; first | done | with_reducible rfl)); simp only [Act.put, List.setIfInBounds_toArray, List.set_cons_zero, List.set_cons_succ])
          (refine wpAnyH_take (i := 11) (oi := Oper.mk _ _ _ _ _ _) (v := ?_) rfl (by kernel_rfl) (by kernel_rfl) (by kernel_rfl) (fun _ _ _ h => h) ?_ (by assumption) ?_; rotate_left; (focus (refine Or.inl ⟨by rfl, ?_⟩; intro wS hSw; (try dsimp only at hSw); go_simp; first | done | with_reducible rfl)); simp only [Act.put, List.setIfInBounds_toArray, List.set_cons_zero, List.set_cons_succ])
          (refine wpAnyH_take (i := 12) (oi := Oper.mk _ _ _ _ _ _) (v := ?_) rfl (by kernel_rfl) (by kernel_rfl) (by kernel_rfl) (fun _ _ _ h => h) ?_ (by assumption) ?_; rotate_left; (focus (refine Or.inl ⟨by rfl, ?_⟩; intro wS hSw; (try dsimp only at hSw); go_simp; first | done | with_reducible rfl)); simp only [Act.put, List.setIfInBounds_toArray, List.set_cons_zero, List.set_cons_succ])
          (refine wpAnyH_take (i := 13) (oi := Oper.mk _ _ _ _ _ _) (v := ?_) rfl (by kernel_rfl) (by kernel_rfl) (by kernel_rfl) (fun _ _ _ h => h) ?_ (by assumption) ?_; rotate_left; (focus (refine Or.inl ⟨by rfl, ?_⟩; intro wS hSw; (try dsimp only at hSw); go_simp; first | done | with_reducible rfl)); simp only [Act.put, List.setIfInBounds_toArray, List.set_cons_zero, List.set_cons_succ])
          (refine wpAnyH_take (i := 14) (oi := Oper.mk _ _ _ _ _ _) (v := ?_) rfl (by kernel_rfl) (by kernel_rfl) (by kernel_rfl) (fun _ _ _ h => h) ?_ (by assumption) ?_; rotate_left; (focus (refine Or.inl ⟨by rfl, ?_⟩; intro wS hSw; (try dsimp only at hSw); go_simp; first | done | with_reducible rfl)); simp only [Act.put, List.setIfInBounds_toArray, List.set_cons_zero, List.set_cons_succ])
          (refine wpAnyH_ready (rs := [15]) (by kernel_rfl) (by simp) ?_
           refine AllReadyH.cons (o := Oper.mk _ _ _ _ _ _) rfl (fun K hK => ?_) AllReadyH.nil
           go_simp
           (go_at_call 19; go_must (refine (index_rw hcr3 (by repeat (first | (with_reducible exact Below.refl _ _) | (with_reducible refine Below.drew ?_) | (with_reducible refine below_drewN ?_ _) | ((with_reducible refine Below.alloc ?_ ?_ _); rotate_left; focus ((try simp) <;> omega)) | ((with_reducible refine Below.setCell ?_ ?_ _); rotate_left; focus ((try simp) <;> omega)) | ((with_reducible refine Below.trans ?_ (Below.mono (by assumption) ?_)); rotate_left; focus ((try simp) <;> omega)))) (by omega) y).mono ?_; rintro e w9 ⟨rfl, hb9⟩; rw [hi2.out]; have hz9 := hb9.size; (try simp at hz9); have hs9 : w3.heap.size < w9.heap.size := (by omega); have ht9 : g6 < w9.heap.size := (by omega); obtain ⟨ua9, va9⟩ := blk_at hb9 w3.heap.size (by (try simp) <;> omega); obtain ⟨uc9, vc9⟩ := blk_at hb9 g6 (by (try simp) <;> omega)))
           refine hK.out _ _ ?_ (fun hHeld => ?_)
           · first | (dsimp only; go_keep; done) | (go_keep; done)
           clear hK K
           (try simp only [List.setIfInBounds_toArray, List.set_cons_zero, List.set_cons_succ]))
          (refine wpAnyH_take (i := 16) (oi := Oper.mk _ _ _ _ _ _) (v := ?_) rfl (by kernel_rfl) (by kernel_rfl) (by kernel_rfl) (fun _ _ _ h => h) ?_ (by assumption) ?_; rotate_left; (focus (refine Or.inl ⟨by rfl, ?_⟩; intro wS hSw; (try dsimp only at hSw); go_simp; first | done | with_reducible rfl)); simp only [Act.put, List.setIfInBounds_toArray, List.set_cons_zero, List.set_cons_succ])
          (refine wpAnyH_take (i := 17) (oi := Oper.mk _ _ _ _ _ _) (v := ?_) rfl (by kernel_rfl) (by kernel_rfl) (by kernel_rfl) (fun _ _ _ h => h) ?_ (by assumption) ?_; rotate_left; (focus (refine Or.inl ⟨by rfl, ?_⟩; intro wS hSw; (try dsimp only at hSw); go_simp; first | done | with_reducible rfl)); simp only [Act.put, List.setIfInBounds_toArray, List.set_cons_zero, List.set_cons_succ])
          refine wpAnyH_done (by kernel_rfl) ?_ _
          go_wp2_with fail
          go_roundw
          case rel => exact ⟨k + 1, by omega, by go_num, (by repeat (first | (with_reducible exact Below.refl _ _) | (with_reducible refine Below.drew ?_) | (with_reducible refine below_drewN ?_ _) | ((with_reducible refine Below.alloc ?_ ?_ _); rotate_left; focus ((try simp) <;> omega)) | ((with_reducible refine Below.setCell ?_ ?_ _); rotate_left; focus ((try simp) <;> omega)) | ((with_reducible refine Below.trans ?_ (Below.mono (by assumption) ?_)); rotate_left; focus ((try simp) <;> omega))))⟩
          case measure => simp [intOf]; omega
      · have i1 : ¬ (k : Int) < (O.length : Int) := by omega
        go_wp2_with (go_at_call 12; go_must (refine (awake_any _ (hG.out.keep (by repeat (first | (with_reducible exact Below.refl _ _) | (with_reducible refine Below.drew ?_) | (with_reducible refine below_drewN ?_ _) | ((with_reducible refine Below.alloc ?_ ?_ _); rotate_left; focus ((try simp) <;> omega)) | ((with_reducible refine Below.setCell ?_ ?_ _); rotate_left; focus ((try simp) <;> omega)) | ((with_reducible refine Below.trans ?_ (Below.mono (by assumption) ?_)); rotate_left; focus ((try simp) <;> omega)))))).mono ?_; rintro e w11 ⟨rfl, hb11⟩; have hz11 := hb11.size; (try simp at hz11); have hs11 : w.heap.size < w11.heap.size := (by omega); have ht11 : w.heap.size + 1 < w11.heap.size := (by omega); obtain ⟨ua11, va11⟩ := blk_at hb11 w.heap.size (by (try simp) <;> omega); obtain ⟨uc11, vc11⟩ := blk_at hb11 (w.heap.size + 1) (by (try simp) <;> omega)))
        go_ret
        exact ⟨rfl, (by repeat (first | (with_reducible exact Below.refl _ _) | (with_reducible refine Below.drew ?_) | (with_reducible refine below_drewN ?_ _) | ((with_reducible refine Below.alloc ?_ ?_ _); rotate_left; focus ((try simp) <;> omega)) | ((with_reducible refine Below.setCell ?_ ?_ _); rotate_left; focus ((try simp) <;> omega)) | ((with_reducible refine Below.trans ?_ (Below.mono (by assumption) ?_)); rotate_left; focus ((try simp) <;> omega))))⟩
  · go_wp2_with (go_at_call 20; go_must (refine (hal.out _ (by repeat (first | (with_reducible exact Below.refl _ _) | (with_reducible refine Below.drew ?_) | (with_reducible refine below_drewN ?_ _) | ((with_reducible refine Below.alloc ?_ ?_ _); rotate_left; focus ((try simp) <;> omega)) | ((with_reducible refine Below.setCell ?_ ?_ _); rotate_left; focus ((try simp) <;> omega)) | ((with_reducible refine Below.trans ?_ (Below.mono (by assumption) ?_)); rotate_left; focus ((try simp) <;> omega))))).mono ?_; rintro e w6 ⟨A6, c6, rfl, hr6, hb6⟩; have hz6 := hb6.size; (try simp at hz6); have hs6 : w.heap.size < w6.heap.size := (by omega); have ht6 : w.heap.size + 1 < w6.heap.size := (by omega); obtain ⟨ua6, va6⟩ := blk_at hb6 w.heap.size (by (try simp) <;> omega); obtain ⟨uc6, vc6⟩ := blk_at hb6 (w.heap.size + 1) (by (try simp) <;> omega); have hv6 : w3.heap.size < w6.heap.size := (by omega); obtain ⟨ud6, vd6⟩ := blk_at hb6 w3.heap.size (by (try simp) <;> omega); have hw6 : g3 < w6.heap.size := (by omega); obtain ⟨ue6, ve6⟩ := blk_at hb6 g3 (by (try simp) <;> omega)))
    go_loopw [13] (fun vi wr => ∃ k : Nat, k ≤ O.length ∧ vi = .int .i64 (k : Int) ∧ Below w6.heap.size w6 wr) (fun vi _ => O.length - (intOf vi).toNat)
    case atStart => exact ⟨0, Nat.zero_le _, rfl, Below.refl _ _⟩
    case round =>
      obtain ⟨k, hk, rfl, hbw⟩ := hrel
      have hz := hbw.size
      have hzz : w3.heap.size < wr.heap.size := by omega
      by_cases hkl2 : k < O.length
      · obtain ⟨y, hy⟩ := get_some hkl2
        obtain ⟨g6, o6, rfl, hg6, qq⟩ := hr6 (by omega)
        have y0 : wr.cell? ⟨g6, o6 + k * 2, none⟩ = some (.string y.run.1) := (hbw.cell (p := ⟨g6, o6 + k * 2, none⟩) hg6).trans (qq k y hy 0 (.string y.run.1) rfl)
        have y1 : wr.cell? ⟨g6, o6 + k * 2 + 1, none⟩ = some (.string y.job.1) := (hbw.cell (p := ⟨g6, o6 + k * 2 + 1, none⟩) hg6).trans (qq k y hy 1 (.string y.job.1) rfl)
        clear qq
        have z1 : wr.cell? ⟨w3.heap.size, 1, none⟩ = some (.slice Ac3 C.length Cc3) := (hbw.cell (p := ⟨w3.heap.size, 1, none⟩) (by omega)).trans (by go_simp)
        have hg6r : g6 < wr.heap.size := by omega
        have i0 : (0 : Int) ≤ (k : Int) := by omega
        have i1 : (k : Int) < (O.length : Int) := by omega
        have hym := hkeep.out y (List.mem_of_getElem? hy)
        replace hy := Lib.hid hy
        rcases idx_dec (allG G1) y with ⟨h1, h2⟩ | ⟨h1, h2⟩
        · obtain ⟨I, hi1⟩ : ∃ I, idxI (allG G1) y = I := ⟨_, rfl⟩
          rw [hi1] at h1
          have hIn : ¬ I < 0 := by omega
          have hIb : decide (I < 0) = false := decide_eq_false hIn
          replace hi1 := Lib.hid hi1
          replace h2 := Lib.hid h2
          replace hym := Lib.hid hym
          go_wp2_with fail
          refine wp_region_held_drew (S := fun w' => w'.cell? ⟨w3.heap.size, 1, none⟩ = some (.slice Ac3 C.length Cc3) ∧ w'.cell? ⟨g6, o6 + k * 2, none⟩ = some (.string y.run.1) ∧ w'.cell? ⟨g6, o6 + k * 2 + 1, none⟩ = some (.string y.job.1)) (by kernel_rfl) ?_ (fun hHeld => ?_)
          · (first | (dsimp only; go_keep; done) | (go_keep; done) | (go_simp; done))
          rw [show (Array.replicate _ false : Array Bool) = #[false, false, false, false, false, false, false, false, false, false, false, false, false, false, false, false, false, false] from rfl]
          (refine wpAnyH_take (i := 0) (oi := Oper.mk _ _ _ _ _ _) (v := ?_) rfl (by kernel_rfl) (by kernel_rfl) (by kernel_rfl) (fun _ _ _ h => h) ?_ (by assumption) ?_; rotate_left; (focus (refine Or.inl ⟨by rfl, ?_⟩; intro wS hSw; (try dsimp only at hSw); go_simp; first | done | with_reducible rfl)); simp only [Act.put, List.setIfInBounds_toArray, List.set_cons_zero, List.set_cons_succ])
          (refine wpAnyH_take (i := 2) (oi := Oper.mk _ _ _ _ _ _) (v := ?_) rfl (by kernel_rfl) (by kernel_rfl) (by kernel_rfl) (fun _ _ _ h => h) ?_ (by assumption) ?_; rotate_left; (focus (refine Or.inl ⟨by rfl, ?_⟩; intro wS hSw; (try dsimp only at hSw); go_simp; first | done | with_reducible rfl)); simp only [Act.put, List.setIfInBounds_toArray, List.set_cons_zero, List.set_cons_succ])
          (refine wpAnyH_take (i := 3) (oi := Oper.mk _ _ _ _ _ _) (v := ?_) rfl (by kernel_rfl) (by kernel_rfl) (by kernel_rfl) (fun _ _ _ h => h) ?_ (by assumption) ?_; rotate_left; (focus (refine Or.inl ⟨by rfl, ?_⟩; intro wS hSw; (try dsimp only at hSw); go_simp; first | done | with_reducible rfl)); simp only [Act.put, List.setIfInBounds_toArray, List.set_cons_zero, List.set_cons_succ])
          (refine wpAnyH_take (i := 4) (oi := Oper.mk _ _ _ _ _ _) (v := ?_) rfl (by kernel_rfl) (by kernel_rfl) (by kernel_rfl) (fun _ _ _ h => h) ?_ (by assumption) ?_; rotate_left; (focus (refine Or.inl ⟨by rfl, ?_⟩; intro wS hSw; (try dsimp only at hSw); go_simp; first | done | with_reducible rfl)); simp only [Act.put, List.setIfInBounds_toArray, List.set_cons_zero, List.set_cons_succ])
          (refine wpAnyH_take (i := 5) (oi := Oper.mk _ _ _ _ _ _) (v := ?_) rfl (by kernel_rfl) (by kernel_rfl) (by kernel_rfl) (fun _ _ _ h => h) ?_ (by assumption) ?_; rotate_left; (focus (refine Or.inl ⟨by rfl, ?_⟩; intro wS hSw; (try dsimp only at hSw); go_simp; first | done | with_reducible rfl)); simp only [Act.put, List.setIfInBounds_toArray, List.set_cons_zero, List.set_cons_succ])
          (refine wpAnyH_ready (rs := [1]) (by kernel_rfl) (by simp) ?_
           refine AllReadyH.cons (o := Oper.mk _ _ _ _ _ _) rfl (fun K hK => ?_) AllReadyH.nil
           go_simp
           (go_at_call 20; go_must (refine (all_st hst3 (by repeat (first | (with_reducible exact Below.refl _ _) | (with_reducible refine Below.drew ?_) | (with_reducible refine below_drewN ?_ _) | ((with_reducible refine Below.alloc ?_ ?_ _); rotate_left; focus ((try simp) <;> omega)) | ((with_reducible refine Below.setCell ?_ ?_ _); rotate_left; focus ((try simp) <;> omega)) | ((with_reducible refine Below.trans ?_ (Below.mono (by assumption) ?_)); rotate_left; focus ((try simp) <;> omega)))) hmn.out).mono ?_; rintro e w7 ⟨A7, c7, rfl, hr7, hb7⟩; have hz7 := hb7.size; (try simp at hz7); have hs7 : w3.heap.size < w7.heap.size := (by omega); have ht7 : g6 < w7.heap.size := (by omega); obtain ⟨ua7, va7⟩ := blk_at hb7 w3.heap.size (by (try simp) <;> omega); obtain ⟨uc7, vc7⟩ := blk_at hb7 g6 (by (try simp) <;> omega)))
           refine hK.out _ _ ?_ (fun hHeld => ?_)
           · first | (dsimp only; go_keep; done) | (go_keep; done)
           clear hK K
           (try simp only [List.setIfInBounds_toArray, List.set_cons_zero, List.set_cons_succ]))
          (refine wpAnyH_ready (rs := [6]) (by kernel_rfl) (by simp) ?_
           refine AllReadyH.cons (o := Oper.mk _ _ _ _ _ _) rfl (fun K hK => ?_) AllReadyH.nil
           go_simp
           (go_at_call 19; go_must (refine (index_rw hr7 (by repeat (first | (with_reducible exact Below.refl _ _) | (with_reducible refine Below.drew ?_) | (with_reducible refine below_drewN ?_ _) | ((with_reducible refine Below.alloc ?_ ?_ _); rotate_left; focus ((try simp) <;> omega)) | ((with_reducible refine Below.setCell ?_ ?_ _); rotate_left; focus ((try simp) <;> omega)) | ((with_reducible refine Below.trans ?_ (Below.mono (by assumption) ?_)); rotate_left; focus ((try simp) <;> omega)))) (by omega) y).mono ?_; rintro e w8 ⟨rfl, hb8⟩; rw [hi1.out]; have hz8 := hb8.size; (try simp at hz8); have hs8 : w3.heap.size < w8.heap.size := (by omega); have ht8 : g6 < w8.heap.size := (by omega); obtain ⟨ua8, va8⟩ := blk_at hb8 w3.heap.size (by (try simp) <;> omega); obtain ⟨uc8, vc8⟩ := blk_at hb8 g6 (by (try simp) <;> omega)))
           refine hK.out _ _ ?_ (fun hHeld => ?_)
           · first | (dsimp only; go_keep; done) | (go_keep; done)
           clear hK K
           (try simp only [List.setIfInBounds_toArray, List.set_cons_zero, List.set_cons_succ]))
          (refine wpAnyH_take (i := 7) (oi := Oper.mk _ _ _ _ _ _) (v := ?_) rfl (by kernel_rfl) (by kernel_rfl) (by kernel_rfl) (fun _ _ _ h => h) ?_ (by assumption) ?_; rotate_left; (focus (refine Or.inl ⟨by rfl, ?_⟩; intro wS hSw; (try dsimp only at hSw); go_simp; first | done | with_reducible rfl)); simp only [Act.put, List.setIfInBounds_toArray, List.set_cons_zero, List.set_cons_succ])
          (refine wpAnyH_take (i := 8) (oi := Oper.mk _ _ _ _ _ _) (v := ?_) rfl (by kernel_rfl) (by kernel_rfl) (by kernel_rfl) (fun _ _ _ h => h) ?_ (by assumption) ?_; rotate_left; (focus (refine Or.inl ⟨by rfl, ?_⟩; intro wS hSw; (try dsimp only at hSw); go_simp; first | done | with_reducible rfl)); simp only [Act.put, List.setIfInBounds_toArray, List.set_cons_zero, List.set_cons_succ])
          (refine wpAnyH_take (i := 9) (oi := Oper.mk _ _ _ _ _ _) (v := undef) rfl (by kernel_rfl) (by kernel_rfl) (by kernel_rfl) (fun _ _ _ h => h) (Or.inr ⟨by kernel_rfl, rfl⟩) (by assumption) ?_; simp only [Act.put, List.setIfInBounds_toArray, List.set_cons_zero, List.set_cons_succ])
          (refine wpAnyH_take (i := 10) (oi := Oper.mk _ _ _ _ _ _) (v := undef) rfl (by kernel_rfl) (by kernel_rfl) (by kernel_rfl) (fun _ _ _ h => h) (Or.inr ⟨by kernel_rfl, rfl⟩) (by assumption) ?_; simp only [Act.put, List.setIfInBounds_toArray, List.set_cons_zero, List.set_cons_succ])
          (refine wpAnyH_take (i := 11) (oi := Oper.mk _ _ _ _ _ _) (v := undef) rfl (by kernel_rfl) (by kernel_rfl) (by kernel_rfl) (fun _ _ _ h => h) (Or.inr ⟨by kernel_rfl, rfl⟩) (by assumption) ?_; simp only [Act.put, List.setIfInBounds_toArray, List.set_cons_zero, List.set_cons_succ])
          (refine wpAnyH_take (i := 12) (oi := Oper.mk _ _ _ _ _ _) (v := undef) rfl (by kernel_rfl) (by kernel_rfl) (by kernel_rfl) (fun _ _ _ h => h) (Or.inr ⟨by kernel_rfl, rfl⟩) (by assumption) ?_; simp only [Act.put, List.setIfInBounds_toArray, List.set_cons_zero, List.set_cons_succ])
          (refine wpAnyH_take (i := 13) (oi := Oper.mk _ _ _ _ _ _) (v := undef) rfl (by kernel_rfl) (by kernel_rfl) (by kernel_rfl) (fun _ _ _ h => h) (Or.inr ⟨by kernel_rfl, rfl⟩) (by assumption) ?_; simp only [Act.put, List.setIfInBounds_toArray, List.set_cons_zero, List.set_cons_succ])
          (refine wpAnyH_take (i := 14) (oi := Oper.mk _ _ _ _ _ _) (v := undef) rfl (by kernel_rfl) (by kernel_rfl) (by kernel_rfl) (fun _ _ _ h => h) (Or.inr ⟨by kernel_rfl, rfl⟩) (by assumption) ?_; simp only [Act.put, List.setIfInBounds_toArray, List.set_cons_zero, List.set_cons_succ])
          (refine wpAnyH_ready (rs := [15]) (by kernel_rfl) (by simp) ?_; refine AllReadyH.cons (o := Oper.mk _ _ _ _ _ _) rfl (fun K hK => ?_) AllReadyH.nil; rw [if_neg (Bool.eq_false_iff.1 (by kernel_rfl))]; refine hK.out _ _ (by assumption) (fun _ => ?_); (clear hK K); (try simp only [Act.put, List.setIfInBounds_toArray, List.set_cons_zero, List.set_cons_succ]))
          (refine wpAnyH_take (i := 16) (oi := Oper.mk _ _ _ _ _ _) (v := undef) rfl (by kernel_rfl) (by kernel_rfl) (by kernel_rfl) (fun _ _ _ h => h) (Or.inr ⟨by kernel_rfl, rfl⟩) (by assumption) ?_; simp only [Act.put, List.setIfInBounds_toArray, List.set_cons_zero, List.set_cons_succ])
          (refine wpAnyH_take (i := 17) (oi := Oper.mk _ _ _ _ _ _) (v := ?_) rfl (by kernel_rfl) (by kernel_rfl) (by kernel_rfl) (fun _ _ _ h => h) ?_ (by assumption) ?_; rotate_left; (focus (refine Or.inl ⟨by rfl, ?_⟩; intro wS hSw; (try dsimp only at hSw); go_simp; first | done | with_reducible rfl)); simp only [Act.put, List.setIfInBounds_toArray, List.set_cons_zero, List.set_cons_succ])
          refine wpAnyH_done (by kernel_rfl) ?_ _
          go_wp2_with fail
          go_roundw
          case rel => exact ⟨k + 1, by omega, by go_num, (by repeat (first | (with_reducible exact Below.refl _ _) | (with_reducible refine Below.drew ?_) | (with_reducible refine below_drewN ?_ _) | ((with_reducible refine Below.alloc ?_ ?_ _); rotate_left; focus ((try simp) <;> omega)) | ((with_reducible refine Below.setCell ?_ ?_ _); rotate_left; focus ((try simp) <;> omega)) | ((with_reducible refine Below.trans ?_ (Below.mono (by assumption) ?_)); rotate_left; focus ((try simp) <;> omega))))⟩
          case measure => simp [intOf]; omega
        · have hyc : y ∈ C := by
            rcases hym with h | h
            · exact absurd h h2
            · exact h
          have hi1 := Lib.hid h1
          have hic := idx_mem hyc
          obtain ⟨I, hi2⟩ : ∃ I, idxI C y = I := ⟨_, rfl⟩
          rw [hi2] at hic
          have hIn : ¬ I < 0 := by omega
          have hIb : decide (I < 0) = false := decide_eq_false hIn
          replace hi2 := Lib.hid hi2
          replace h2 := Lib.hid h2
          replace hym := Lib.hid hym
          replace hyc := Lib.hid hyc
          clear h1
          go_wp2_with fail
          refine wp_region_held_drew (S := fun w' => w'.cell? ⟨w3.heap.size, 1, none⟩ = some (.slice Ac3 C.length Cc3) ∧ w'.cell? ⟨g6, o6 + k * 2, none⟩ = some (.string y.run.1) ∧ w'.cell? ⟨g6, o6 + k * 2 + 1, none⟩ = some (.string y.job.1)) (by kernel_rfl) ?_ (fun hHeld => ?_)
          · (first | (dsimp only; go_keep; done) | (go_keep; done) | (go_simp; done))
          rw [show (Array.replicate _ false : Array Bool) = #[false, false, false, false, false, false, false, false, false, false, false, false, false, false, false, false, false, false] from rfl]
          (refine wpAnyH_take (i := 0) (oi := Oper.mk _ _ _ _ _ _) (v := ?_) rfl (by kernel_rfl) (by kernel_rfl) (by kernel_rfl) (fun _ _ _ h => h) ?_ (by assumption) ?_; rotate_left; (focus (refine Or.inl ⟨by rfl, ?_⟩; intro wS hSw; (try dsimp only at hSw); go_simp; first | done | with_reducible rfl)); simp only [Act.put, List.setIfInBounds_toArray, List.set_cons_zero, List.set_cons_succ])
          (refine wpAnyH_take (i := 2) (oi := Oper.mk _ _ _ _ _ _) (v := ?_) rfl (by kernel_rfl) (by kernel_rfl) (by kernel_rfl) (fun _ _ _ h => h) ?_ (by assumption) ?_; rotate_left; (focus (refine Or.inl ⟨by rfl, ?_⟩; intro wS hSw; (try dsimp only at hSw); go_simp; first | done | with_reducible rfl)); simp only [Act.put, List.setIfInBounds_toArray, List.set_cons_zero, List.set_cons_succ])
          (refine wpAnyH_take (i := 3) (oi := Oper.mk _ _ _ _ _ _) (v := ?_) rfl (by kernel_rfl) (by kernel_rfl) (by kernel_rfl) (fun _ _ _ h => h) ?_ (by assumption) ?_; rotate_left; (focus (refine Or.inl ⟨by rfl, ?_⟩; intro wS hSw; (try dsimp only at hSw); go_simp; first | done | with_reducible rfl)); simp only [Act.put, List.setIfInBounds_toArray, List.set_cons_zero, List.set_cons_succ])
          (refine wpAnyH_take (i := 4) (oi := Oper.mk _ _ _ _ _ _) (v := ?_) rfl (by kernel_rfl) (by kernel_rfl) (by kernel_rfl) (fun _ _ _ h => h) ?_ (by assumption) ?_; rotate_left; (focus (refine Or.inl ⟨by rfl, ?_⟩; intro wS hSw; (try dsimp only at hSw); go_simp; first | done | with_reducible rfl)); simp only [Act.put, List.setIfInBounds_toArray, List.set_cons_zero, List.set_cons_succ])
          (refine wpAnyH_take (i := 5) (oi := Oper.mk _ _ _ _ _ _) (v := ?_) rfl (by kernel_rfl) (by kernel_rfl) (by kernel_rfl) (fun _ _ _ h => h) ?_ (by assumption) ?_; rotate_left; (focus (refine Or.inl ⟨by rfl, ?_⟩; intro wS hSw; (try dsimp only at hSw); go_simp; first | done | with_reducible rfl)); simp only [Act.put, List.setIfInBounds_toArray, List.set_cons_zero, List.set_cons_succ])
          (refine wpAnyH_ready (rs := [1]) (by kernel_rfl) (by simp) ?_
           refine AllReadyH.cons (o := Oper.mk _ _ _ _ _ _) rfl (fun K hK => ?_) AllReadyH.nil
           go_simp
           (go_at_call 20; go_must (refine (all_st hst3 (by repeat (first | (with_reducible exact Below.refl _ _) | (with_reducible refine Below.drew ?_) | (with_reducible refine below_drewN ?_ _) | ((with_reducible refine Below.alloc ?_ ?_ _); rotate_left; focus ((try simp) <;> omega)) | ((with_reducible refine Below.setCell ?_ ?_ _); rotate_left; focus ((try simp) <;> omega)) | ((with_reducible refine Below.trans ?_ (Below.mono (by assumption) ?_)); rotate_left; focus ((try simp) <;> omega)))) hmn.out).mono ?_; rintro e w7 ⟨A7, c7, rfl, hr7, hb7⟩; have hz7 := hb7.size; (try simp at hz7); have hs7 : w3.heap.size < w7.heap.size := (by omega); have ht7 : g6 < w7.heap.size := (by omega); obtain ⟨ua7, va7⟩ := blk_at hb7 w3.heap.size (by (try simp) <;> omega); obtain ⟨uc7, vc7⟩ := blk_at hb7 g6 (by (try simp) <;> omega)))
           refine hK.out _ _ ?_ (fun hHeld => ?_)
           · first | (dsimp only; go_keep; done) | (go_keep; done)
           clear hK K
           (try simp only [List.setIfInBounds_toArray, List.set_cons_zero, List.set_cons_succ]))
          (refine wpAnyH_ready (rs := [6]) (by kernel_rfl) (by simp) ?_
           refine AllReadyH.cons (o := Oper.mk _ _ _ _ _ _) rfl (fun K hK => ?_) AllReadyH.nil
           go_simp
           (go_at_call 19; go_must (refine (index_rw hr7 (by repeat (first | (with_reducible exact Below.refl _ _) | (with_reducible refine Below.drew ?_) | (with_reducible refine below_drewN ?_ _) | ((with_reducible refine Below.alloc ?_ ?_ _); rotate_left; focus ((try simp) <;> omega)) | ((with_reducible refine Below.setCell ?_ ?_ _); rotate_left; focus ((try simp) <;> omega)) | ((with_reducible refine Below.trans ?_ (Below.mono (by assumption) ?_)); rotate_left; focus ((try simp) <;> omega)))) (by omega) y).mono ?_; rintro e w8 ⟨rfl, hb8⟩; rw [hi1.out]; have hz8 := hb8.size; (try simp at hz8); have hs8 : w3.heap.size < w8.heap.size := (by omega); have ht8 : g6 < w8.heap.size := (by omega); obtain ⟨ua8, va8⟩ := blk_at hb8 w3.heap.size (by (try simp) <;> omega); obtain ⟨uc8, vc8⟩ := blk_at hb8 g6 (by (try simp) <;> omega)))
           refine hK.out _ _ ?_ (fun hHeld => ?_)
           · first | (dsimp only; go_keep; done) | (go_keep; done)
           clear hK K
           (try simp only [List.setIfInBounds_toArray, List.set_cons_zero, List.set_cons_succ]))
          (refine wpAnyH_take (i := 7) (oi := Oper.mk _ _ _ _ _ _) (v := ?_) rfl (by kernel_rfl) (by kernel_rfl) (by kernel_rfl) (fun _ _ _ h => h) ?_ (by assumption) ?_; rotate_left; (focus (refine Or.inl ⟨by rfl, ?_⟩; intro wS hSw; (try dsimp only at hSw); go_simp; first | done | with_reducible rfl)); simp only [Act.put, List.setIfInBounds_toArray, List.set_cons_zero, List.set_cons_succ])
          (refine wpAnyH_take (i := 8) (oi := Oper.mk _ _ _ _ _ _) (v := ?_) rfl (by kernel_rfl) (by kernel_rfl) (by kernel_rfl) (fun _ _ _ h => h) ?_ (by assumption) ?_; rotate_left; (focus (refine Or.inl ⟨by rfl, ?_⟩; intro wS hSw; (try dsimp only at hSw); go_simp; first | done | with_reducible rfl)); simp only [Act.put, List.setIfInBounds_toArray, List.set_cons_zero, List.set_cons_succ])
          (refine wpAnyH_take (i := 9) (oi := Oper.mk _ _ _ _ _ _) (v := ?_) rfl (by kernel_rfl) (by kernel_rfl) (by kernel_rfl) (fun _ _ _ h => h) ?_ (by assumption) ?_; rotate_left; (focus (refine Or.inl ⟨by rfl, ?_⟩; intro wS hSw; (try dsimp only at hSw); go_simp; first | done | with_reducible rfl)); simp only [Act.put, List.setIfInBounds_toArray, List.set_cons_zero, List.set_cons_succ])
          (refine wpAnyH_take (i := 10) (oi := Oper.mk _ _ _ _ _ _) (v := ?_) rfl (by kernel_rfl) (by kernel_rfl) (by kernel_rfl) (fun _ _ _ h => h) ?_ (by assumption) ?_; rotate_left; (focus (refine Or.inl ⟨by rfl, ?_⟩; intro wS hSw; (try dsimp only at hSw); go_simp; first | done | with_reducible rfl)); simp only [Act.put, List.setIfInBounds_toArray, List.set_cons_zero, List.set_cons_succ])
          (refine wpAnyH_take (i := 11) (oi := Oper.mk _ _ _ _ _ _) (v := ?_) rfl (by kernel_rfl) (by kernel_rfl) (by kernel_rfl) (fun _ _ _ h => h) ?_ (by assumption) ?_; rotate_left; (focus (refine Or.inl ⟨by rfl, ?_⟩; intro wS hSw; (try dsimp only at hSw); go_simp; first | done | with_reducible rfl)); simp only [Act.put, List.setIfInBounds_toArray, List.set_cons_zero, List.set_cons_succ])
          (refine wpAnyH_take (i := 12) (oi := Oper.mk _ _ _ _ _ _) (v := ?_) rfl (by kernel_rfl) (by kernel_rfl) (by kernel_rfl) (fun _ _ _ h => h) ?_ (by assumption) ?_; rotate_left; (focus (refine Or.inl ⟨by rfl, ?_⟩; intro wS hSw; (try dsimp only at hSw); go_simp; first | done | with_reducible rfl)); simp only [Act.put, List.setIfInBounds_toArray, List.set_cons_zero, List.set_cons_succ])
          (refine wpAnyH_take (i := 13) (oi := Oper.mk _ _ _ _ _ _) (v := ?_) rfl (by kernel_rfl) (by kernel_rfl) (by kernel_rfl) (fun _ _ _ h => h) ?_ (by assumption) ?_; rotate_left; (focus (refine Or.inl ⟨by rfl, ?_⟩; intro wS hSw; (try dsimp only at hSw); go_simp; first | done | with_reducible rfl)); simp only [Act.put, List.setIfInBounds_toArray, List.set_cons_zero, List.set_cons_succ])
          (refine wpAnyH_take (i := 14) (oi := Oper.mk _ _ _ _ _ _) (v := ?_) rfl (by kernel_rfl) (by kernel_rfl) (by kernel_rfl) (fun _ _ _ h => h) ?_ (by assumption) ?_; rotate_left; (focus (refine Or.inl ⟨by rfl, ?_⟩; intro wS hSw; (try dsimp only at hSw); go_simp; first | done | with_reducible rfl)); simp only [Act.put, List.setIfInBounds_toArray, List.set_cons_zero, List.set_cons_succ])
          (refine wpAnyH_ready (rs := [15]) (by kernel_rfl) (by simp) ?_
           refine AllReadyH.cons (o := Oper.mk _ _ _ _ _ _) rfl (fun K hK => ?_) AllReadyH.nil
           go_simp
           (go_at_call 19; go_must (refine (index_rw hcr3 (by repeat (first | (with_reducible exact Below.refl _ _) | (with_reducible refine Below.drew ?_) | (with_reducible refine below_drewN ?_ _) | ((with_reducible refine Below.alloc ?_ ?_ _); rotate_left; focus ((try simp) <;> omega)) | ((with_reducible refine Below.setCell ?_ ?_ _); rotate_left; focus ((try simp) <;> omega)) | ((with_reducible refine Below.trans ?_ (Below.mono (by assumption) ?_)); rotate_left; focus ((try simp) <;> omega)))) (by omega) y).mono ?_; rintro e w9 ⟨rfl, hb9⟩; rw [hi2.out]; have hz9 := hb9.size; (try simp at hz9); have hs9 : w3.heap.size < w9.heap.size := (by omega); have ht9 : g6 < w9.heap.size := (by omega); obtain ⟨ua9, va9⟩ := blk_at hb9 w3.heap.size (by (try simp) <;> omega); obtain ⟨uc9, vc9⟩ := blk_at hb9 g6 (by (try simp) <;> omega)))
           refine hK.out _ _ ?_ (fun hHeld => ?_)
           · first | (dsimp only; go_keep; done) | (go_keep; done)
           clear hK K
           (try simp only [List.setIfInBounds_toArray, List.set_cons_zero, List.set_cons_succ]))
          (refine wpAnyH_take (i := 16) (oi := Oper.mk _ _ _ _ _ _) (v := ?_) rfl (by kernel_rfl) (by kernel_rfl) (by kernel_rfl) (fun _ _ _ h => h) ?_ (by assumption) ?_; rotate_left; (focus (refine Or.inl ⟨by rfl, ?_⟩; intro wS hSw; (try dsimp only at hSw); go_simp; first | done | with_reducible rfl)); simp only [Act.put, List.setIfInBounds_toArray, List.set_cons_zero, List.set_cons_succ])
          (refine wpAnyH_take (i := 17) (oi := Oper.mk _ _ _ _ _ _) (v := ?_) rfl (by kernel_rfl) (by kernel_rfl) (by kernel_rfl) (fun _ _ _ h => h) ?_ (by assumption) ?_; rotate_left; (focus (refine Or.inl ⟨by rfl, ?_⟩; intro wS hSw; (try dsimp only at hSw); go_simp; first | done | with_reducible rfl)); simp only [Act.put, List.setIfInBounds_toArray, List.set_cons_zero, List.set_cons_succ])
          refine wpAnyH_done (by kernel_rfl) ?_ _
          go_wp2_with fail
          go_roundw
          case rel => exact ⟨k + 1, by omega, by go_num, (by repeat (first | (with_reducible exact Below.refl _ _) | (with_reducible refine Below.drew ?_) | (with_reducible refine below_drewN ?_ _) | ((with_reducible refine Below.alloc ?_ ?_ _); rotate_left; focus ((try simp) <;> omega)) | ((with_reducible refine Below.setCell ?_ ?_ _); rotate_left; focus ((try simp) <;> omega)) | ((with_reducible refine Below.trans ?_ (Below.mono (by assumption) ?_)); rotate_left; focus ((try simp) <;> omega))))⟩
          case measure => simp [intOf]; omega
      · have i1 : ¬ (k : Int) < (O.length : Int) := by omega
        go_wp2_with (go_at_call 12; go_must (refine (awake_any _ (hG.out.keep (by repeat (first | (with_reducible exact Below.refl _ _) | (with_reducible refine Below.drew ?_) | (with_reducible refine below_drewN ?_ _) | ((with_reducible refine Below.alloc ?_ ?_ _); rotate_left; focus ((try simp) <;> omega)) | ((with_reducible refine Below.setCell ?_ ?_ _); rotate_left; focus ((try simp) <;> omega)) | ((with_reducible refine Below.trans ?_ (Below.mono (by assumption) ?_)); rotate_left; focus ((try simp) <;> omega)))))).mono ?_; rintro e w11 ⟨rfl, hb11⟩; have hz11 := hb11.size; (try simp at hz11); have hs11 : w.heap.size < w11.heap.size := (by omega); have ht11 : w.heap.size + 1 < w11.heap.size := (by omega); obtain ⟨ua11, va11⟩ := blk_at hb11 w.heap.size (by (try simp) <;> omega); obtain ⟨uc11, vc11⟩ := blk_at hb11 (w.heap.size + 1) (by (try simp) <;> omega)))
        go_ret
        exact ⟨rfl, (by repeat (first | (with_reducible exact Below.refl _ _) | (with_reducible refine Below.drew ?_) | (with_reducible refine below_drewN ?_ _) | ((with_reducible refine Below.alloc ?_ ?_ _); rotate_left; focus ((try simp) <;> omega)) | ((with_reducible refine Below.setCell ?_ ?_ _); rotate_left; focus ((try simp) <;> omega)) | ((with_reducible refine Below.trans ?_ (Below.mono (by assumption) ?_)); rotate_left; focus ((try simp) <;> omega))))⟩
theorem walk (A : Option Addr) (c : Nat) (l : List Grp) (m : Mov) (w : World) (hr : RwG w w.heap.size A l) (hlc : l.length ≤ c) (hn : l.length ≤ 9223372036854775807) (hwb : ∀ x ∈ l, x.wait.length ≤ 4398046511104) (hG : Glob w) :
    Calls Tryd.prog 5 #[.slice A l.length c, .agg #[.int .i64 m.kind.1, .string m.name.1, .string m.run.1, .string m.job.1, .int .i64 m.policy.1]] w fun e w' => e = .returned (.bool true) ∧ Below w.heap.size w w' := by
  by_cases hf : fewB (l.map Grp.g) = true
  · by_cases hp : m.name.1.size ≤ 600
    · by_cases hsr : refS ⟨m.run, m.job⟩ = true
      · by_cases hE : enterE (l.map Grp.g) m.name ⟨m.run, m.job⟩ m.policy.1 = 0
        · rcases hR : enterRun (l.map Grp.g) m.name ⟨m.run, m.job⟩ m.policy.1 with _ | _
          · exact walk_wait A c l m w hr hlc hn hwb hG hf hp hsr hE hR
          · exact walk_run A c l m w hr hlc hn hwb hG hf hp hsr hE hR
        · exact walk_no A c l m w hr hlc hn hwb hG hf hp hsr hE
      · exact walk_out A c l m w hr hlc hn hwb hG (.inr (.inr (by simpa using hsr)))
    · exact walk_out A c l m w hr hlc hn hwb hG (.inr (.inl hp))
  · exact walk_out A c l m w hr hlc hn hwb hG (.inl (by simpa using hf))

/-- A world for the witness: the settled one, the listed tables holding what their initialisers lay. -/
noncomputable def laidWorld (os : Os) : World :=
  { World.holding Tryd.prog os ⟨#[], #[], []⟩ with heap := layAll Tryd.prog Rows.concurrencyPoliciesRow.laid (World.holding Tryd.prog os ⟨#[], #[], []⟩).heap }
theorem laid_met (os : Os) : laidMet Tryd.prog Rows.concurrencyPoliciesRow.laid ((laidWorld os).forCall (fun _ _ => 0) ⟨#[], #[.slice none 0 0, .agg #[.int .i64 0, .string ByteArray.empty, .string ByteArray.empty, .string ByteArray.empty, .int .i64 0]], []⟩).memory :=
  laidMet_of_run' 8 (by kernel_rfl) (by kernel_rfl)
theorem reads (os : Os) {H : Type} (enc : TypeId × Value → H) : ∃ places, DataW.whole enc Tryd.prog ((laidWorld os).forCall (fun _ _ => 0) ⟨#[], #[.slice none 0 0, .agg #[.int .i64 0, .string ByteArray.empty, .string ByteArray.empty, .string ByteArray.empty, .int .i64 0]], []⟩).memory Tryd.f5.params.toList Rows.concurrencyPoliciesSpec.vars false (#[.slice none 0 0, .agg #[.int .i64 0, .string ByteArray.empty, .string ByteArray.empty, .string ByteArray.empty, .int .i64 0]] : Array Value).toList 8 = some ([.nil, .agg [.lit (.int .i64 0), .lit (.string []), .agg [.lit (.string []), .lit (.string [])], .lit (.int .i64 0)]], [], places) :=
  ⟨[], by kernel_rfl⟩

set_option maxRecDepth 100000 in
theorem contract (H : Type) (enc : TypeId × Value → H) (W : World) (base : Nat) (args : Array Value) (ds gs : List (DataW H)) (before : List MemPlace)
    (hval : ∀ (j : Nat) t v, Tryd.f5.params[j]? = some t → args[j]? = some v → Value.okWide Tryd.prog W .any base t v)
    (hW : DataW.Whole enc Tryd.prog Tryd.f5.params.toList Rows.concurrencyPoliciesSpec.vars false W args.toList ds gs before)
    (hwt : (DataW.weightsEach Tryd.prog (Tryd.f5.params.toList ++ (OpenSpec.ofChange Rows.concurrencyPoliciesSpec).bare.plain.varTypes Tryd.prog) (ds ++ gs)).all (· ≤ reachBytes) = true) (hsh : W.ShapedOpen Tryd.prog) :
    Calls Tryd.prog 5 args W fun e W' => ∃ v, e = .returned v ∧ Rows.concurrencyPoliciesSpec.post enc Tryd.prog Tryd.f5 false true false false W args v W' := by
  have hG : Glob W := cell_of_shapedOpen_int (P := Tryd.prog) (g := 0) (t := 3) (zero := #[.int .i64 0]) hsh (of_decide_eq_true (by kernel_rfl)) (by kernel_rfl) rfl (by kernel_rfl) (by kernel_rfl) Tryd.underlying3
  have hW' := hW
  obtain ⟨p, q, hA0, hV, rfl, hfz, hnd⟩ := hW
  have hA : DataW.TrodAll enc Tryd.prog W 0 (fun _ => true) true Tryd.f5.params.toList args.toList ds p := hA0
  have hA1 := hA
  rw [Tryd.params5] at hA hval
  obtain ⟨rfl, rfl⟩ := trodVars_none hV
  simp only [List.append_nil] at hW'
  have hcall : Calls Tryd.prog 5 args W fun e w' => e = .returned (.bool true) ∧ Below W.heap.size W w' := by
    clear hA0 hV hfz hnd
    obtain ⟨v0, vs0, d0, ds0, p0, q0, hargs, rfl, rfl, h0, r0⟩ := trodAll_cons hA
    obtain ⟨v1, vs1, d1, ds1, p1, q1, rfl, rfl, rfl, h1, r1⟩ := trodAll_cons r0
    obtain ⟨rfl, rfl, rfl⟩ := trodAll_nil r1
    obtain rfl : args = #[v0, v1] := by cases args; simp_all
    obtain ⟨A, l, c, rfl, hlc, hcm, hr, hq⟩ := open_rowsW (R := reachBytes) (Q := fun x : Grp => LabGrp W W.heap.size x ∧ x.waitC * 32 ≤ reachBytes) grpE_len (by omega) Tryd.underlying22 (by kernel_rfl) (fun fuel cs x h hR => refs_waitW fuel cs x h hR) (hval 0 22 v0 rfl rfl) h0 (fun n hn => by simpa using List.all_eq_true.1 hwt n (DataW.weights_mem_each (j := 0) (t := 22) (d := d0) (by kernel_rfl) rfl n hn))
    obtain ⟨y, rfl⟩ := open_val (E := movE) Tryd.underlying31 movE_of (hval 1 31 v1 rfl rfl) h1
    have hrb := reachBytes_lt
    unfold maxLen at hcm
    exact walk A c l y W ⟨hr, fun x hx => (hq x hx).1⟩ hlc (by omega) (fun x hx => by have h1 := (hq x hx).2; have h2 := (hq x hx).1.1; omega) hG
  have hds : ds.length = 2 := (trodAll_length hA).1
  refine hcall.mono fun e W' ⟨he, hb⟩ => ?_
  subst he
  refine ⟨_, rfl, law_post hW' rfl hA1 (by kernel_rfl) laidOut Tryd.underlying4 (by kernel_rfl) ?_ hb⟩
  match ds, hds with
  | [_, _], _ => rfl

set_option maxRecDepth 100000 in
theorem lifted (os : Os) (started : os.Started) (H : Type) (enc : TypeId × Value → H) (F : Stop.Interp) :
    ReturnsInHanded {} Tryd.checked os 5 .any ((OpenSpec.ofChange Rows.concurrencyPoliciesSpec).preRow enc Tryd.prog Tryd.f5 Rows.concurrencyPoliciesRow.domain false Rows.concurrencyPoliciesRow.laid) (((OpenSpec.ofChange Rows.concurrencyPoliciesSpec).at F).post enc Tryd.prog Tryd.f5 false true false false) := by
  obtain ⟨places, hx⟩ := reads os enc
  refine returnsInHanded_of_row (C := Tryd.checked) (s := OpenSpec.ofChange Rows.concurrencyPoliciesSpec) own started (by kernel_rfl) Tryd.func5
    (witness_row_at (enc := enc) (C := Tryd.checked) false (laidWorld os) #[.slice none 0 0, .agg #[.int .i64 0, .string ByteArray.empty, .string ByteArray.empty, .string ByteArray.empty, .int .i64 0]] rfl (by kernel_rfl) (by kernel_rfl) (by kernel_rfl)
      (OpenSpec.preRow_of_cond 8 hx (by kernel_rfl) (fun k hk => by cases hk) (by kernel_rfl) (laid_met os))) ?_
  intro W base args ds gs before hval hW _ _ hwt _ hsh _
  exact contract H enc W base args ds gs before hval hW hwt hsh

theorem said : Rows.ConcurrencyPoliciesSaid :=
  OpenClaim.holds_of_cond 5 Tryd.f5 rfl rfl rfl rfl rfl rfl rfl ⟨rfl, rfl, rfl, rfl, rfl⟩ rfl rfl rfl rfl rfl (by kernel_rfl) Tryd.func5 (by kernel_rfl)
    (of_decide_eq_true (by kernel_rfl)) (by unfold Func.isWrapper; first | (rw [if_pos (by decide +kernel)]; kernel_rfl) | (rw [if_neg (by decide +kernel)]; exact ⟨rfl, rfl⟩))
    (fun os started H enc _ F => by rw [OpenClaim.pre_eq_preRow]; exact lifted os started H enc F)

theorem plain (f : FuncId) (fn : Func) (hf : Tryd.pinned.checked.prog.funcNamed Rows.concurrencyPoliciesRow.func = some f) (hfn : Tryd.pinned.checked.prog.funcs[f]? = some fn) :
    false = Tryd.pinned.checked.prog.looks [] ∧ ∀ (j : Nat) t, fn.params[j]? = some t → Tryd.pinned.checked.prog.wantsStandIn t = false := by
  obtain rfl : f = 5 := Option.some.inj ((show Tryd.prog.funcNamed Rows.concurrencyPoliciesRow.func = some 5 by kernel_rfl).symm.trans hf) |>.symm
  obtain rfl : fn = Tryd.f5 := (Option.some.inj (Tryd.func5.symm.trans hfn)).symm
  refine ⟨by kernel_rfl, fun j t ht => ?_⟩
  have hall : (Tryd.f5.params.toList.all fun t => !(Tryd.pinned.checked.prog.wantsStandIn t)) = true := by kernel_rfl
  have hm : t ∈ Tryd.f5.params.toList := Array.mem_toList_iff.2 (Array.mem_of_getElem? ht)
  simpa using List.all_eq_true.1 hall t hm

theorem proved : Rows.ConcurrencyPoliciesCardSaid :=
  Claim7.holds_tied_plain_at .later [] _ _ _ _ said (fun _ h => by cases h) (by kernel_rfl) (fun _ h => by cases h) concurrencyPolicies_row_tie rfl ⟨rfl, rfl⟩ (by kernel_rfl) rfl plain (by kernel_rfl)
#print axioms proved
end Go.Proofs.YtbellobjajnlkaaDoor.concurrencyPolicies
