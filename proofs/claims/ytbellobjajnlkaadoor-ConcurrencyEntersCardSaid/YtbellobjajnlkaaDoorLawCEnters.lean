/-
  ConcurrencyEnters: a job that enters few groups runs or waits, and cancels, as the reference says, with the same error; the example holds. No condition.
-/
import Derived.Test.YtbellobjajnlkaaDoorCon35
import Derived.Test.YtbellobjajnlkaaDoorCon37
import Derived.Test.YtbellobjajnlkaaDoorBase1
import Derived.Test.YtbellobjajnlkaaDoorLayTab



namespace Go.Proofs.YtbellobjajnlkaaDoor.concurrencyEnters
open Go.ChangeShapes Go.WideShapes Go.ChangeAt Go.RowKit Go.Joins
theorem own : ownKnob Tryd.prog.godebug = none := by kernel_rfl
theorem laidOut : laidOutB Tryd.prog = true := by kernel_rfl

set_option maxRecDepth 100000 in
set_option maxHeartbeats 16000000 in
theorem walk (A : Option Addr) (c : Nat) (l : List Grp) (m : Mov) (w : World) (hr : RwG w w.heap.size A l) (hlc : l.length ≤ c) (hn : l.length ≤ 9223372036854775807) (hwb : ∀ x ∈ l, x.wait.length ≤ 4398046511104) (hG : Glob w) :
    Calls Tryd.prog 4 #[.slice A l.length c, .agg (movE m).toArray] w fun e w' => e = .returned (.bool true) ∧ Below w.heap.size w w' := by
  have hfe0 : ∀ W, Below w.heap.size w W → Calls Tryd.prog 9 #[.slice A l.length c] W fun e w' => e = .returned (.bool (fewB (l.map Grp.g))) ∧ Below W.heap.size W w' := fun W hb => few_any A c l W ((hr.below hb (Nat.le_refl _)).more hb.size) hn hwb
  have hsh0 := fun W => shortl_any (⟨m.run, m.job⟩ : JRef) W
  show Calls Tryd.prog 4 #[.slice A l.length c, .agg #[.int .i64 m.kind.1, .string m.name.1, .string m.run.1, .string m.job.1, .int .i64 m.policy.1]] w _
  rcases hf : fewB (l.map Grp.g) with _ | _
  · rw [hf] at hfe0
    have hfe := Lib.hid hfe0
    clear hfe0 hr hwb hsh0
    replace hG := Lib.hid hG
    replace hf := Lib.hid hf
    go_enter Tryd.func4, Tryd.ntmps4
    go_wp2_with (first | (go_at_call 9; go_must (refine (hfe.out _ (by repeat (first | (with_reducible exact Below.refl _ _) | (with_reducible refine Below.drew ?_) | (with_reducible refine below_drewN ?_ _) | ((with_reducible refine Below.alloc ?_ ?_ _); rotate_left; focus ((try simp) <;> omega)) | ((with_reducible refine Below.setCell ?_ ?_ _); rotate_left; focus ((try simp) <;> omega)) | ((with_reducible refine Below.trans ?_ (Below.mono (by assumption) ?_)); rotate_left; focus ((try simp) <;> omega))))).mono ?_; rintro e w1 ⟨rfl, hb1⟩; have hz1 := hb1.size; (try simp at hz1); have hs1 : w.heap.size < w1.heap.size := (by omega); obtain ⟨ua1, va1⟩ := blk_at hb1 w.heap.size (by (try simp) <;> omega))) | (go_at_call 12; go_must (refine (awake_any _ (hG.out.keep (by repeat (first | (with_reducible exact Below.refl _ _) | (with_reducible refine Below.drew ?_) | (with_reducible refine below_drewN ?_ _) | ((with_reducible refine Below.alloc ?_ ?_ _); rotate_left; focus ((try simp) <;> omega)) | ((with_reducible refine Below.setCell ?_ ?_ _); rotate_left; focus ((try simp) <;> omega)) | ((with_reducible refine Below.trans ?_ (Below.mono (by assumption) ?_)); rotate_left; focus ((try simp) <;> omega)))))).mono ?_; rintro e w11 ⟨rfl, hb11⟩; have hz11 := hb11.size; (try simp at hz11); have hs11 : w.heap.size < w11.heap.size := (by omega); obtain ⟨ua11, va11⟩ := blk_at hb11 w.heap.size (by (try simp) <;> omega))))
    go_ret
    exact ⟨rfl, (by repeat (first | (with_reducible exact Below.refl _ _) | (with_reducible refine Below.drew ?_) | (with_reducible refine below_drewN ?_ _) | ((with_reducible refine Below.alloc ?_ ?_ _); rotate_left; focus ((try simp) <;> omega)) | ((with_reducible refine Below.setCell ?_ ?_ _); rotate_left; focus ((try simp) <;> omega)) | ((with_reducible refine Below.trans ?_ (Below.mono (by assumption) ?_)); rotate_left; focus ((try simp) <;> omega))))⟩
  rw [hf] at hfe0
  by_cases hp : (m.name.1.size : Int) ≤ 600
  · have hp2 : ¬ (600 : Int) < (m.name.1.size : Int) := by omega
    rcases hsr : refS (⟨m.run, m.job⟩ : JRef) with _ | _
    · rw [hsr] at hsh0
      have hfe := Lib.hid hfe0
      have hsh := Lib.hid hsh0
      clear hfe0 hsh0 hr hwb
      replace hG := Lib.hid hG
      replace hf := Lib.hid hf
      replace hsr := Lib.hid hsr
      go_enter Tryd.func4, Tryd.ntmps4
      go_wp2_with (first | (go_at_call 9; go_must (refine (hfe.out _ (by repeat (first | (with_reducible exact Below.refl _ _) | (with_reducible refine Below.drew ?_) | (with_reducible refine below_drewN ?_ _) | ((with_reducible refine Below.alloc ?_ ?_ _); rotate_left; focus ((try simp) <;> omega)) | ((with_reducible refine Below.setCell ?_ ?_ _); rotate_left; focus ((try simp) <;> omega)) | ((with_reducible refine Below.trans ?_ (Below.mono (by assumption) ?_)); rotate_left; focus ((try simp) <;> omega))))).mono ?_; rintro e w1 ⟨rfl, hb1⟩; have hz1 := hb1.size; (try simp at hz1); have hs1 : w.heap.size < w1.heap.size := (by omega); obtain ⟨ua1, va1⟩ := blk_at hb1 w.heap.size (by (try simp) <;> omega))) | (go_at_call 13; go_must (refine (hsh.out _).mono ?_; rintro e w2 ⟨rfl, hb2⟩; have hz2 := hb2.size; (try simp at hz2); have hs2 : w.heap.size < w2.heap.size := (by omega); obtain ⟨ua2, va2⟩ := blk_at hb2 w.heap.size (by (try simp) <;> omega))) | (go_at_call 12; go_must (refine (awake_any _ (hG.out.keep (by repeat (first | (with_reducible exact Below.refl _ _) | (with_reducible refine Below.drew ?_) | (with_reducible refine below_drewN ?_ _) | ((with_reducible refine Below.alloc ?_ ?_ _); rotate_left; focus ((try simp) <;> omega)) | ((with_reducible refine Below.setCell ?_ ?_ _); rotate_left; focus ((try simp) <;> omega)) | ((with_reducible refine Below.trans ?_ (Below.mono (by assumption) ?_)); rotate_left; focus ((try simp) <;> omega)))))).mono ?_; rintro e w11 ⟨rfl, hb11⟩; have hz11 := hb11.size; (try simp at hz11); have hs11 : w.heap.size < w11.heap.size := (by omega); obtain ⟨ua11, va11⟩ := blk_at hb11 w.heap.size (by (try simp) <;> omega))))
      go_ret
      exact ⟨rfl, (by repeat (first | (with_reducible exact Below.refl _ _) | (with_reducible refine Below.drew ?_) | (with_reducible refine below_drewN ?_ _) | ((with_reducible refine Below.alloc ?_ ?_ _); rotate_left; focus ((try simp) <;> omega)) | ((with_reducible refine Below.setCell ?_ ?_ _); rotate_left; focus ((try simp) <;> omega)) | ((with_reducible refine Below.trans ?_ (Below.mono (by assumption) ?_)); rotate_left; focus ((try simp) <;> omega))))⟩
    · rw [hsr] at hsh0
      have hm := few_mild hf
      have hps : m.name.1.size < 4294967281 := by omega
      have hrs := refS_short hsr
      have hml := Lib.hid (mild_enter (nm := m.name) (r := (⟨m.run, m.job⟩ : JRef)) (p := m.policy.1) hm hps hrs)
      have hst : St w A c l (l.map Grp.g) := ⟨hr, hlc, rfl⟩
      obtain ⟨E, hE⟩ : ∃ E, enterE (l.map Grp.g) m.name ⟨m.run, m.job⟩ m.policy.1 = E := ⟨_, rfl⟩
      obtain ⟨R, hR⟩ : ∃ R, enterRun (l.map Grp.g) m.name ⟨m.run, m.job⟩ m.policy.1 = R := ⟨_, rfl⟩
      obtain ⟨C, hC⟩ : ∃ C, enterCan (l.map Grp.g) m.name ⟨m.run, m.job⟩ m.policy.1 = C := ⟨_, rfl⟩
      obtain ⟨L0, hL0⟩ : ∃ L, enterL (l.map Grp.g) m.name ⟨m.run, m.job⟩ m.policy.1 = L := ⟨_, rfl⟩
      have hCl : C.length ≤ 9223372036854775807 := by
        have h := can_len (nm := m.name) (r := (⟨m.run, m.job⟩ : JRef)) (p := m.policy.1) hm
        rw [hC] at h
        omega
      rw [hL0] at hml
      have hen : Hid (∀ W, Below w.heap.size w W → Calls Tryd.prog 14 #[.slice A l.length c, .string m.name.1, .agg #[.string m.run.1, .string m.job.1], .int .i64 m.policy.1] W fun e w' => ∃ (A' : Option Addr) (c' : Nat) (l' : List Grp) (Ac : Option Addr) (Cc : Nat), e = .returned (.tuple #[.slice A' l'.length c', .agg #[.bool R, .slice Ac C.length Cc], .int .i64 E]) ∧ St w' A' c' l' L0 ∧ Rw jRefE 2 w' w'.heap.size Ac C ∧ Below W.heap.size W w') := Lib.hid fun W hb => by
        have h := enter_st hst hb hm (hG.keep hb) m.name ⟨m.run, m.job⟩ m.policy hps hrs
        rwa [hE, hR, hC, hL0] at h
      have hre : Hid (∀ W, Below w.heap.size w W → Calls Tryd.prog 15 #[.slice A l.length c, .string m.name.1, .agg #[.string m.run.1, .string m.job.1], .int .i64 m.policy.1] W fun e w' => ∃ (A' : Option Addr) (c' : Nat) (l' : List Grp) (Ac : Option Addr) (Cc : Nat), e = .returned (.tuple #[.slice A' l'.length c', .agg #[.bool R, .slice Ac C.length Cc], .int .i64 E]) ∧ St w' A' c' l' L0 ∧ Rw jRefE 2 w' w'.heap.size Ac C ∧ Below W.heap.size W w') := Lib.hid fun W hb => by
        have h := renter_st hst hb hm m.name ⟨m.run, m.job⟩ m.policy hps hrs
        rwa [hE, hR, hC, hL0] at h
      have hfe := Lib.hid hfe0
      have hsh := Lib.hid hsh0
      clear hfe0 hsh0 hr hwb hm hst
      replace hG := Lib.hid hG
      replace hf := Lib.hid hf
      replace hsr := Lib.hid hsr
      replace hE := Lib.hid hE
      replace hR := Lib.hid hR
      replace hC := Lib.hid hC
      replace hL0 := Lib.hid hL0
      replace hrs := Lib.hid hrs
      go_enter Tryd.func4, Tryd.ntmps4
      go_upto_region 4 with (first
        | (go_at_call 9; go_must (refine (hfe.out _ (by repeat (first | (with_reducible exact Below.refl _ _) | (with_reducible refine Below.drew ?_) | (with_reducible refine below_drewN ?_ _) | ((with_reducible refine Below.alloc ?_ ?_ _); rotate_left; focus ((try simp) <;> omega)) | ((with_reducible refine Below.setCell ?_ ?_ _); rotate_left; focus ((try simp) <;> omega)) | ((with_reducible refine Below.trans ?_ (Below.mono (by assumption) ?_)); rotate_left; focus ((try simp) <;> omega))))).mono ?_; rintro e w1 ⟨rfl, hb1⟩; have hz1 := hb1.size; (try simp at hz1); have hs1 : w.heap.size < w1.heap.size := (by omega); obtain ⟨ua1, va1⟩ := blk_at hb1 w.heap.size (by (try simp) <;> omega)))
        | (go_at_call 13; go_must (refine (hsh.out _).mono ?_; rintro e w2 ⟨rfl, hb2⟩; have hz2 := hb2.size; (try simp at hz2); have hs2 : w.heap.size < w2.heap.size := (by omega); obtain ⟨ua2, va2⟩ := blk_at hb2 w.heap.size (by (try simp) <;> omega)))
        | (go_at_call 14; go_must (refine (hen.out _ (by repeat (first | (with_reducible exact Below.refl _ _) | (with_reducible refine Below.drew ?_) | (with_reducible refine below_drewN ?_ _) | ((with_reducible refine Below.alloc ?_ ?_ _); rotate_left; focus ((try simp) <;> omega)) | ((with_reducible refine Below.setCell ?_ ?_ _); rotate_left; focus ((try simp) <;> omega)) | ((with_reducible refine Below.trans ?_ (Below.mono (by assumption) ?_)); rotate_left; focus ((try simp) <;> omega))))).mono ?_; rintro e w3 ⟨A3, c3, L3, Ac3, Cc3, rfl, hst3, hcr3, hb3⟩; have hz3 := hb3.size; (try simp at hz3); have hs3 : w.heap.size < w3.heap.size := (by omega); obtain ⟨ua3, va3⟩ := blk_at hb3 w.heap.size (by (try simp) <;> omega))))
      go_upto_region 5 with (go_at_call 15; go_must (refine (hre.out _ (by repeat (first | (with_reducible exact Below.refl _ _) | (with_reducible refine Below.drew ?_) | (with_reducible refine below_drewN ?_ _) | ((with_reducible refine Below.alloc ?_ ?_ _); rotate_left; focus ((try simp) <;> omega)) | ((with_reducible refine Below.setCell ?_ ?_ _); rotate_left; focus ((try simp) <;> omega)) | ((with_reducible refine Below.trans ?_ (Below.mono (by assumption) ?_)); rotate_left; focus ((try simp) <;> omega))))).mono ?_; rintro e w4 ⟨A4, c4, L4, Ac4, Cc4, rfl, hst4, hcr4, hb4⟩; have hz4 := hb4.size; (try simp at hz4); have hs4 : w.heap.size < w4.heap.size := (by omega); obtain ⟨ua4, va4⟩ := blk_at hb4 w.heap.size (by (try simp) <;> omega); have ht4 : w3.heap.size < w4.heap.size := (by omega); obtain ⟨uc4, vc4⟩ := blk_at hb4 w3.heap.size (by (try simp) <;> omega)))
      go_wp2_with (first
        | (go_at_call 16; go_must (refine (same_st hst3 (by repeat (first | (with_reducible exact Below.refl _ _) | (with_reducible refine Below.drew ?_) | (with_reducible refine below_drewN ?_ _) | ((with_reducible refine Below.alloc ?_ ?_ _); rotate_left; focus ((try simp) <;> omega)) | ((with_reducible refine Below.setCell ?_ ?_ _); rotate_left; focus ((try simp) <;> omega)) | ((with_reducible refine Below.trans ?_ (Below.mono (by assumption) ?_)); rotate_left; focus ((try simp) <;> omega)))) hst4 (by repeat (first | (with_reducible exact Below.refl _ _) | (with_reducible refine Below.drew ?_) | (with_reducible refine below_drewN ?_ _) | ((with_reducible refine Below.alloc ?_ ?_ _); rotate_left; focus ((try simp) <;> omega)) | ((with_reducible refine Below.setCell ?_ ?_ _); rotate_left; focus ((try simp) <;> omega)) | ((with_reducible refine Below.trans ?_ (Below.mono (by assumption) ?_)); rotate_left; focus ((try simp) <;> omega)))) hml.out).mono ?_; rintro e w5 ⟨rfl, hb5⟩; have hz5 := hb5.size; (try simp at hz5); have hs5 : w.heap.size < w5.heap.size := (by omega); obtain ⟨ua5, va5⟩ := blk_at hb5 w.heap.size (by (try simp) <;> omega); have ht5 : w3.heap.size < w5.heap.size := (by omega); obtain ⟨uc5, vc5⟩ := blk_at hb5 w3.heap.size (by (try simp) <;> omega); have hr5 : w4.heap.size < w5.heap.size := (by omega); obtain ⟨ud5, vd5⟩ := blk_at hb5 w4.heap.size (by (try simp) <;> omega)))
        | (go_at_call 17; go_must (refine (samej_eq Ac3 Ac4 Cc3 Cc4 C _ (Rw.more (Rw.below hcr3 (by repeat (first | (with_reducible exact Below.refl _ _) | (with_reducible refine Below.drew ?_) | (with_reducible refine below_drewN ?_ _) | ((with_reducible refine Below.alloc ?_ ?_ _); rotate_left; focus ((try simp) <;> omega)) | ((with_reducible refine Below.setCell ?_ ?_ _); rotate_left; focus ((try simp) <;> omega)) | ((with_reducible refine Below.trans ?_ (Below.mono (by assumption) ?_)); rotate_left; focus ((try simp) <;> omega)))) (Nat.le_refl _)) (by (try simp) <;> omega)) (Rw.more (Rw.below hcr4 (by repeat (first | (with_reducible exact Below.refl _ _) | (with_reducible refine Below.drew ?_) | (with_reducible refine below_drewN ?_ _) | ((with_reducible refine Below.alloc ?_ ?_ _); rotate_left; focus ((try simp) <;> omega)) | ((with_reducible refine Below.setCell ?_ ?_ _); rotate_left; focus ((try simp) <;> omega)) | ((with_reducible refine Below.trans ?_ (Below.mono (by assumption) ?_)); rotate_left; focus ((try simp) <;> omega)))) (Nat.le_refl _)) (by (try simp) <;> omega)) hCl).mono ?_; rintro e w6 ⟨rfl, hb6⟩; have hz6 := hb6.size; (try simp at hz6); have hs6 : w.heap.size < w6.heap.size := (by omega); obtain ⟨ua6, va6⟩ := blk_at hb6 w.heap.size (by (try simp) <;> omega); have ht6 : w3.heap.size < w6.heap.size := (by omega); obtain ⟨uc6, vc6⟩ := blk_at hb6 w3.heap.size (by (try simp) <;> omega); have hr6 : w4.heap.size < w6.heap.size := (by omega); obtain ⟨ud6, vd6⟩ := blk_at hb6 w4.heap.size (by (try simp) <;> omega)))
        | (go_at_call 12; go_must (refine (awake_any _ (hG.out.keep (by repeat (first | (with_reducible exact Below.refl _ _) | (with_reducible refine Below.drew ?_) | (with_reducible refine below_drewN ?_ _) | ((with_reducible refine Below.alloc ?_ ?_ _); rotate_left; focus ((try simp) <;> omega)) | ((with_reducible refine Below.setCell ?_ ?_ _); rotate_left; focus ((try simp) <;> omega)) | ((with_reducible refine Below.trans ?_ (Below.mono (by assumption) ?_)); rotate_left; focus ((try simp) <;> omega)))))).mono ?_; rintro e w11 ⟨rfl, hb11⟩; have hz11 := hb11.size; (try simp at hz11); have hs11 : w.heap.size < w11.heap.size := (by omega); obtain ⟨ua11, va11⟩ := blk_at hb11 w.heap.size (by (try simp) <;> omega))))
      go_ret
      exact ⟨rfl, (by repeat (first | (with_reducible exact Below.refl _ _) | (with_reducible refine Below.drew ?_) | (with_reducible refine below_drewN ?_ _) | ((with_reducible refine Below.alloc ?_ ?_ _); rotate_left; focus ((try simp) <;> omega)) | ((with_reducible refine Below.setCell ?_ ?_ _); rotate_left; focus ((try simp) <;> omega)) | ((with_reducible refine Below.trans ?_ (Below.mono (by assumption) ?_)); rotate_left; focus ((try simp) <;> omega))))⟩
  · have hp2 : (600 : Int) < (m.name.1.size : Int) := by omega
    have hfe := Lib.hid hfe0
    clear hfe0 hsh0 hr hwb
    replace hG := Lib.hid hG
    replace hf := Lib.hid hf
    go_enter Tryd.func4, Tryd.ntmps4
    go_wp2_with (first | (go_at_call 9; go_must (refine (hfe.out _ (by repeat (first | (with_reducible exact Below.refl _ _) | (with_reducible refine Below.drew ?_) | (with_reducible refine below_drewN ?_ _) | ((with_reducible refine Below.alloc ?_ ?_ _); rotate_left; focus ((try simp) <;> omega)) | ((with_reducible refine Below.setCell ?_ ?_ _); rotate_left; focus ((try simp) <;> omega)) | ((with_reducible refine Below.trans ?_ (Below.mono (by assumption) ?_)); rotate_left; focus ((try simp) <;> omega))))).mono ?_; rintro e w1 ⟨rfl, hb1⟩; have hz1 := hb1.size; (try simp at hz1); have hs1 : w.heap.size < w1.heap.size := (by omega); obtain ⟨ua1, va1⟩ := blk_at hb1 w.heap.size (by (try simp) <;> omega))) | (go_at_call 12; go_must (refine (awake_any _ (hG.out.keep (by repeat (first | (with_reducible exact Below.refl _ _) | (with_reducible refine Below.drew ?_) | (with_reducible refine below_drewN ?_ _) | ((with_reducible refine Below.alloc ?_ ?_ _); rotate_left; focus ((try simp) <;> omega)) | ((with_reducible refine Below.setCell ?_ ?_ _); rotate_left; focus ((try simp) <;> omega)) | ((with_reducible refine Below.trans ?_ (Below.mono (by assumption) ?_)); rotate_left; focus ((try simp) <;> omega)))))).mono ?_; rintro e w11 ⟨rfl, hb11⟩; have hz11 := hb11.size; (try simp at hz11); have hs11 : w.heap.size < w11.heap.size := (by omega); obtain ⟨ua11, va11⟩ := blk_at hb11 w.heap.size (by (try simp) <;> omega))))
    go_ret
    exact ⟨rfl, (by repeat (first | (with_reducible exact Below.refl _ _) | (with_reducible refine Below.drew ?_) | (with_reducible refine below_drewN ?_ _) | ((with_reducible refine Below.alloc ?_ ?_ _); rotate_left; focus ((try simp) <;> omega)) | ((with_reducible refine Below.setCell ?_ ?_ _); rotate_left; focus ((try simp) <;> omega)) | ((with_reducible refine Below.trans ?_ (Below.mono (by assumption) ?_)); rotate_left; focus ((try simp) <;> omega))))⟩

/-- A world for the witness: the settled one, the listed tables holding what their initialisers lay. -/
noncomputable def laidWorld (os : Os) : World :=
  { World.holding Tryd.prog os ⟨#[], #[], []⟩ with heap := layAll Tryd.prog Rows.concurrencyEntersRow.laid (World.holding Tryd.prog os ⟨#[], #[], []⟩).heap }
theorem laid_met (os : Os) : laidMet Tryd.prog Rows.concurrencyEntersRow.laid ((laidWorld os).forCall (fun _ _ => 0) ⟨#[], #[.slice none 0 0, .agg #[.int .i64 0, .string ByteArray.empty, .string ByteArray.empty, .string ByteArray.empty, .int .i64 0]], []⟩).memory :=
  laidMet_of_run' 8 (by kernel_rfl) (by kernel_rfl)
theorem reads (os : Os) {H : Type} (enc : TypeId × Value → H) : ∃ places, DataW.whole enc Tryd.prog ((laidWorld os).forCall (fun _ _ => 0) ⟨#[], #[.slice none 0 0, .agg #[.int .i64 0, .string ByteArray.empty, .string ByteArray.empty, .string ByteArray.empty, .int .i64 0]], []⟩).memory Tryd.f4.params.toList Rows.concurrencyEntersSpec.vars false (#[.slice none 0 0, .agg #[.int .i64 0, .string ByteArray.empty, .string ByteArray.empty, .string ByteArray.empty, .int .i64 0]] : Array Value).toList 8 = some ([.nil, .agg [.lit (.int .i64 0), .lit (.string []), .agg [.lit (.string []), .lit (.string [])], .lit (.int .i64 0)]], [], places) :=
  ⟨[], by kernel_rfl⟩

set_option maxRecDepth 100000 in
theorem contract (H : Type) (enc : TypeId × Value → H) (W : World) (base : Nat) (args : Array Value) (ds gs : List (DataW H)) (before : List MemPlace)
    (hval : ∀ (j : Nat) t v, Tryd.f4.params[j]? = some t → args[j]? = some v → Value.okWide Tryd.prog W .any base t v)
    (hW : DataW.Whole enc Tryd.prog Tryd.f4.params.toList Rows.concurrencyEntersSpec.vars false W args.toList ds gs before)
    (hwt : (DataW.weightsEach Tryd.prog (Tryd.f4.params.toList ++ (OpenSpec.ofChange Rows.concurrencyEntersSpec).bare.plain.varTypes Tryd.prog) (ds ++ gs)).all (· ≤ reachBytes) = true) (hsh : W.ShapedOpen Tryd.prog) :
    Calls Tryd.prog 4 args W fun e W' => ∃ v, e = .returned v ∧ Rows.concurrencyEntersSpec.post enc Tryd.prog Tryd.f4 false true false false W args v W' := by
  have hG : Glob W := cell_of_shapedOpen_int (P := Tryd.prog) (g := 0) (t := 3) (zero := #[.int .i64 0]) hsh (of_decide_eq_true (by kernel_rfl)) (by kernel_rfl) rfl (by kernel_rfl) (by kernel_rfl) Tryd.underlying3
  have hW' := hW
  obtain ⟨p, q, hA0, hV, rfl, hfz, hnd⟩ := hW
  have hA : DataW.TrodAll enc Tryd.prog W 0 (fun _ => true) true Tryd.f4.params.toList args.toList ds p := hA0
  have hA1 := hA
  rw [Tryd.params4] at hA hval
  obtain ⟨rfl, rfl⟩ := trodVars_none hV
  simp only [List.append_nil] at hW'
  have hcall : Calls Tryd.prog 4 args W fun e w' => e = .returned (.bool true) ∧ Below W.heap.size W w' := by
    clear hA0 hV hfz hnd
    obtain ⟨v0, vs0, d0, ds0, p0, q0, hargs, rfl, rfl, h0, r0⟩ := trodAll_cons hA
    obtain ⟨v1, vs1, d1, ds1, p1, q1, rfl, rfl, rfl, h1, r1⟩ := trodAll_cons r0
    obtain ⟨rfl, rfl, rfl⟩ := trodAll_nil r1
    obtain rfl : args = #[v0, v1] := by cases args; simp_all
    obtain ⟨A, l, c, rfl, hlc, hcm, hr, hq⟩ := open_rowsW (R := reachBytes) (Q := fun x : Grp => LabGrp W W.heap.size x ∧ x.waitC * 32 ≤ reachBytes) grpE_len (by omega) Tryd.underlying22 (by kernel_rfl) (fun fuel cs x h hR => refs_waitW fuel cs x h hR) (hval 0 22 v0 rfl rfl) h0 (fun n hn => by simpa using List.all_eq_true.1 hwt n (DataW.weights_mem_each (j := 0) (t := 22) (d := d0) (by kernel_rfl) rfl n hn))
    obtain ⟨y, rfl⟩ := open_val (E := movE) Tryd.underlying31 movE_of (hval 1 31 v1 rfl rfl) h1
    have hrb := reachBytes_lt
    unfold maxLen at hcm
    exact walk A c l y W ⟨hr, fun x hx => (hq x hx).1⟩ hlc (by omega) (fun x hx => by have h1 := (hq x hx).2; have h2 := (hq x hx).1.1; omega) hG
  have hds : ds.length = 2 := (trodAll_length hA).1
  refine hcall.mono fun e W' ⟨he, hb⟩ => ?_
  subst he
  refine ⟨_, rfl, law_post hW' rfl hA1 (by kernel_rfl) laidOut Tryd.underlying4 (by kernel_rfl) ?_ hb⟩
  match ds, hds with
  | [_, _], _ => rfl

set_option maxRecDepth 100000 in
theorem lifted (os : Os) (started : os.Started) (H : Type) (enc : TypeId × Value → H) (F : Stop.Interp) :
    ReturnsInHanded {} Tryd.checked os 4 .any ((OpenSpec.ofChange Rows.concurrencyEntersSpec).preRow enc Tryd.prog Tryd.f4 Rows.concurrencyEntersRow.domain false Rows.concurrencyEntersRow.laid) (((OpenSpec.ofChange Rows.concurrencyEntersSpec).at F).post enc Tryd.prog Tryd.f4 false true false false) := by
  obtain ⟨places, hx⟩ := reads os enc
  refine returnsInHanded_of_row (C := Tryd.checked) (s := OpenSpec.ofChange Rows.concurrencyEntersSpec) own started (by kernel_rfl) Tryd.func4
    (witness_row_at (enc := enc) (C := Tryd.checked) false (laidWorld os) #[.slice none 0 0, .agg #[.int .i64 0, .string ByteArray.empty, .string ByteArray.empty, .string ByteArray.empty, .int .i64 0]] rfl (by kernel_rfl) (by kernel_rfl) (by kernel_rfl)
      (OpenSpec.preRow_of_cond 8 hx (by kernel_rfl) (fun k hk => by cases hk) (by kernel_rfl) (laid_met os))) ?_
  intro W base args ds gs before hval hW _ _ hwt _ hsh _
  exact contract H enc W base args ds gs before hval hW hwt hsh

theorem said : Rows.ConcurrencyEntersSaid :=
  OpenClaim.holds_of_cond 4 Tryd.f4 rfl rfl rfl rfl rfl rfl rfl ⟨rfl, rfl, rfl, rfl, rfl⟩ rfl rfl rfl rfl rfl (by kernel_rfl) Tryd.func4 (by kernel_rfl)
    (of_decide_eq_true (by kernel_rfl)) (by unfold Func.isWrapper; first | (rw [if_pos (by decide +kernel)]; kernel_rfl) | (rw [if_neg (by decide +kernel)]; exact ⟨rfl, rfl⟩))
    (fun os started H enc _ F => by rw [OpenClaim.pre_eq_preRow]; exact lifted os started H enc F)

theorem plain (f : FuncId) (fn : Func) (hf : Tryd.pinned.checked.prog.funcNamed Rows.concurrencyEntersRow.func = some f) (hfn : Tryd.pinned.checked.prog.funcs[f]? = some fn) :
    false = Tryd.pinned.checked.prog.looks [] ∧ ∀ (j : Nat) t, fn.params[j]? = some t → Tryd.pinned.checked.prog.wantsStandIn t = false := by
  obtain rfl : f = 4 := Option.some.inj ((show Tryd.prog.funcNamed Rows.concurrencyEntersRow.func = some 4 by kernel_rfl).symm.trans hf) |>.symm
  obtain rfl : fn = Tryd.f4 := (Option.some.inj (Tryd.func4.symm.trans hfn)).symm
  refine ⟨by kernel_rfl, fun j t ht => ?_⟩
  have hall : (Tryd.f4.params.toList.all fun t => !(Tryd.pinned.checked.prog.wantsStandIn t)) = true := by kernel_rfl
  have hm : t ∈ Tryd.f4.params.toList := Array.mem_toList_iff.2 (Array.mem_of_getElem? ht)
  simpa using List.all_eq_true.1 hall t hm

theorem proved : Rows.ConcurrencyEntersCardSaid :=
  Claim7.holds_tied_plain_at .later [] _ _ _ _ said (fun _ h => by cases h) (by kernel_rfl) (fun _ h => by cases h) concurrencyEnters_row_tie rfl ⟨rfl, rfl⟩ (by kernel_rfl) rfl plain (by kernel_rfl)
#print axioms proved
end Go.Proofs.YtbellobjajnlkaaDoor.concurrencyEnters
