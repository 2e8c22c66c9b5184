/-
  ConcurrencyPlays: every sequence of calls (of at most 50) leads to valid groups, which are those of the reference; the example holds. No condition.
-/
import Derived.Test.YtbellobjajnlkaaDoorCon35
import Derived.Test.YtbellobjajnlkaaDoorCon38
import Derived.Test.YtbellobjajnlkaaDoorBase1
import Derived.Test.YtbellobjajnlkaaDoorLayTab
import Derived.Deep.DeepCutAuto



namespace Go.Proofs.YtbellobjajnlkaaDoor.concurrencyPlays
open Go.ChangeShapes Go.WideShapes Go.ChangeAt Go.RowKit Go.Joins
theorem own : ownKnob Tryd.prog.godebug = none := by kernel_rfl
theorem laidOut : laidOutB Tryd.prog = true := by kernel_rfl

theorem do_val {gs : List G} {m : Mov} (hv : Val gs) : Val (doL gs m) := by
  unfold doL
  split
  · by_cases h : enterE gs m.name m.ref m.policy.1 = 0
    · exact val_enter h
    · unfold enterL
      rw [if_pos h]
      exact hv
  · split
    · exact val_leave hv
    · split
      · by_cases h : startE gs m.name m.ref = 0
        · exact val_start h
        · unfold startL
          rw [if_pos h]
          exact hv
      · exact hv
theorem do_mild {gs : List G} {m : Mov} (hm : MildG gs) (hn : m.name.1.size < 4294967281) (hr : shortR m.ref) : MildG (doL gs m) := by
  unfold doL
  split
  · exact mild_enter hm hn hr
  · split
    · exact mild_leave hm
    · split
      · exact mild_start hm
      · exact hm
theorem do_can {gs : List G} {m : Mov} (hm : MildG gs) : (doCan gs m).length ≤ 1000001 := by
  unfold doCan
  split
  · exact can_len hm
  · simp
theorem val_nil : Val [] := ⟨nofun, fun i j x y _ h => by simp at h, nofun, by simp [all_nil], by simp [all_nil], by simp [all_nil]⟩
theorem mild_nil : MildG [] := ⟨by simp, by simp [all_nil], nofun, nofun, by simp [all_nil]⟩
theorem valid_st {W0 W : World} {A : Option Addr} {c : Nat} {L : List Grp} {gs : List G} (h : St W0 A c L gs) (hb : Below W0.heap.size W0 W) (hm : MildG gs) (hv : Val gs) (hG : Glob W) :
    Calls Tryd.prog 10 #[.slice A L.length c] W fun e w' => e = .returned (.int .i64 0) ∧ Below W.heap.size W w' := by
  obtain ⟨h1, h2, rfl⟩ := h.keep hb
  have h := valid_any A c L W h1 h2 hm.mild hG
  rwa [show validE (L.map Grp.g) = 0 by unfold validE; rw [val_iff.2 hv]; rfl] at h
set_option maxRecDepth 100000 in
set_option maxHeartbeats 16000000 in
theorem walk (A : Option Addr) (c : Nat) (l : List Mov) (w : World) (hr : Rw movE 5 w w.heap.size A l) (hn : l.length ≤ 9223372036854775807) (hG : Glob w) :
    Calls Tryd.prog 7 #[.slice A l.length c] w fun e w' => e = .returned (.bool true) ∧ Below w.heap.size w w' := by
  by_cases hl : l.length ≤ 50
  · have hlz : ¬ (50 : Int) < (l.length : Int) := by omega
    replace hr := Lib.hid hr
    replace hG := Lib.hid hG
    go_enter Tryd.func7, Tryd.ntmps7
    go_wp2_with fail
    go_loopw [3, 4, 5, 6, 7, 8, 9, 10, 11] (fun vg vm vi _ _ _ _ _ _ wr => ∃ (k : Nat) (A1 : Option Addr) (c1 : Nat) (L1 : List Grp) (A2 : Option Addr) (c2 : Nat) (L2 : List Grp) (gs : List G), vi = .int .i64 (k : Int) ∧ k ≤ l.length ∧ vg = .slice A1 L1.length c1 ∧ vm = .slice A2 L2.length c2 ∧ St wr A1 c1 L1 gs ∧ St wr A2 c2 L2 gs ∧ Val gs ∧ MildG gs ∧ Below w.heap.size w wr) (fun _ _ vi _ _ _ _ _ _ _ => l.length - (intOf vi).toNat)
    case atStart => exact ⟨0, none, 0, [], none, 0, [], [], rfl, Nat.zero_le _, rfl, rfl, ⟨RwG.nil, Nat.le_refl _, rfl⟩, ⟨RwG.nil, Nat.le_refl _, rfl⟩, val_nil, mild_nil, Below.refl _ _⟩
    case round =>
      obtain ⟨k, A1, c1, L1, A2, c2, L2, gs, rfl, hk, rfl, rfl, hs1, hs2, hv, hm, hbw⟩ := hrel
      have hz := hbw.size
      by_cases hkl : k < l.length
      · obtain ⟨a, ha⟩ := get_some hkl
        obtain ⟨g, o, rfl, hg, q⟩ := hr.out (by omega)
        replace q := fun j u hu => (hbw.cell (p := ⟨g, o + k * 5 + j, none⟩) hg).trans (q k a ha j u hu)
        have q0 := q 0 (.int .i64 a.kind.1) rfl
        rw [Nat.add_zero] at q0
        have q1 := q 1 (.string a.name.1) rfl
        have q2 := q 2 (.string a.run.1) rfl
        have q3 := q 3 (.string a.job.1) rfl
        have q4 := q 4 (.int .i64 a.policy.1) rfl
        clear q
        have hgr : g < wr.heap.size := by omega
        have i0 : (0 : Int) ≤ (k : Int) := by omega
        have i1 : (k : Int) < (l.length : Int) := by omega
        have hsh0 := fun W => shortl_any a.ref W
        replace ha := Lib.hid ha
        by_cases hp : (a.name.1.size : Int) ≤ 600
        · have hp2 : ¬ (600 : Int) < (a.name.1.size : Int) := by omega
          rcases hsr : refS a.ref with _ | _
          · rw [hsr] at hsh0
            have hsh : Hid (∀ W, Calls Tryd.prog 13 #[.agg #[.string a.run.1, .string a.job.1]] W fun e w' => e = .returned (.bool false) ∧ Below W.heap.size W w') := Lib.hid hsh0
            clear hsh0 hs1 hs2 hv hm
            replace hsr := Lib.hid hsr
            go_wp2_with (first | (go_at_call 13; go_must (refine (hsh.out _).mono ?_; rintro e w2 ⟨rfl, hb2⟩; have hz2 := hb2.size; (try simp at hz2); have hg2 : g < w2.heap.size := (by omega); obtain ⟨ua2, va2⟩ := blk_at hb2 g (by (try simp) <;> omega))) | (go_at_call 12; go_must (refine (awake_any _ (hG.out.keep (by repeat (first | (with_reducible exact Below.refl _ _) | (with_reducible refine Below.drew ?_) | (with_reducible refine below_drewN ?_ _) | ((with_reducible refine Below.alloc ?_ ?_ _); rotate_left; focus ((try simp) <;> omega)) | ((with_reducible refine Below.setCell ?_ ?_ _); rotate_left; focus ((try simp) <;> omega)) | ((with_reducible refine Below.trans ?_ (Below.mono (by assumption) ?_)); rotate_left; focus ((try simp) <;> omega)))))).mono ?_; rintro e w11 ⟨rfl, hb11⟩; have hz11 := hb11.size)))
            go_ret
            exact ⟨rfl, (by repeat (first | (with_reducible exact Below.refl _ _) | (with_reducible refine Below.drew ?_) | (with_reducible refine below_drewN ?_ _) | ((with_reducible refine Below.alloc ?_ ?_ _); rotate_left; focus ((try simp) <;> omega)) | ((with_reducible refine Below.setCell ?_ ?_ _); rotate_left; focus ((try simp) <;> omega)) | ((with_reducible refine Below.trans ?_ (Below.mono (by assumption) ?_)); rotate_left; focus ((try simp) <;> omega))))⟩
          · have hps : a.name.1.size < 4294967281 := by omega
            have hrs := refS_short hsr
            rw [hsr] at hsh0
            have hsh : Hid (∀ W, Calls Tryd.prog 13 #[.agg #[.string a.run.1, .string a.job.1]] W fun e w' => e = .returned (.bool true) ∧ Below W.heap.size W w') := Lib.hid hsh0
            have hnv := Lib.hid (do_val (m := a) hv)
            have hnm := Lib.hid (do_mild (m := a) hm hps hrs)
            have hcl := do_can (m := a) hm
            have hdo : Hid (∀ W, Below wr.heap.size wr W → Calls Tryd.prog 27 #[.slice A1 L1.length c1, .agg #[.int .i64 a.kind.1, .string a.name.1, .string a.run.1, .string a.job.1, .int .i64 a.policy.1]] W fun e w' => ∃ (A' : Option Addr) (c' : Nat) (l' : List Grp) (Ac : Option Addr) (Cc : Nat), e = .returned (.tuple #[.slice A' l'.length c', .agg #[.bool (doRun gs a), .slice Ac (doCan gs a).length Cc], .int .i64 (doE gs a)]) ∧ St w' A' c' l' (doL gs a) ∧ Rw jRefE 2 w' w'.heap.size Ac (doCan gs a) ∧ Below W.heap.size W w') := Lib.hid fun W hb => do_any W hs1 hb hm (hG.out.keep (hbw.trans (hb.mono (by omega)))) a hps hrs
            have hmo : Hid (∀ W, Below wr.heap.size wr W → Calls Tryd.prog 28 #[.slice A2 L2.length c2, .agg #[.int .i64 a.kind.1, .string a.name.1, .string a.run.1, .string a.job.1, .int .i64 a.policy.1]] W fun e w' => ∃ (A' : Option Addr) (c' : Nat) (l' : List Grp) (Ac : Option Addr) (Cc : Nat), e = .returned (.tuple #[.slice A' l'.length c', .agg #[.bool (doRun gs a), .slice Ac (doCan gs a).length Cc], .int .i64 (doE gs a)]) ∧ St w' A' c' l' (doL gs a) ∧ Rw jRefE 2 w' w'.heap.size Ac (doCan gs a) ∧ Below W.heap.size W w') := Lib.hid fun W hb => model_any W hs2 hb hm a hps hrs
            generalize doRun gs a = R at *
            generalize doE gs a = E at *
            generalize doL gs a = G1 at *
            generalize doCan gs a = C at *
            clear hsh0 hs1 hs2 hv hm
            replace hsr := Lib.hid hsr
            replace hrs := Lib.hid hrs
            go_upto_region 10 with (first
              | (go_at_call 13; go_must (refine (hsh.out _).mono ?_; rintro e w2 ⟨rfl, hb2⟩; have hz2 := hb2.size; (try simp at hz2); have hg2 : g < w2.heap.size := (by omega); obtain ⟨ua2, va2⟩ := blk_at hb2 g (by (try simp) <;> omega)))
              | (go_at_call 27; go_must (refine (hdo.out _ (by repeat (first | (with_reducible exact Below.refl _ _) | (with_reducible refine Below.drew ?_) | (with_reducible refine below_drewN ?_ _) | ((with_reducible refine Below.alloc ?_ ?_ _); rotate_left; focus ((try simp) <;> omega)) | ((with_reducible refine Below.setCell ?_ ?_ _); rotate_left; focus ((try simp) <;> omega)) | ((with_reducible refine Below.trans ?_ (Below.mono (by assumption) ?_)); rotate_left; focus ((try simp) <;> omega))))).mono ?_; rintro e w3 ⟨A3, c3, L3, Ac3, Cc3, rfl, hst3, hcr3, hb3⟩; have hz3 := hb3.size; (try simp at hz3); have hg3 : g < w3.heap.size := (by omega); obtain ⟨ua3, va3⟩ := blk_at hb3 g (by (try simp) <;> omega))))
            go_upto_region 11 with (go_at_call 28; go_must (refine (hmo.out _ (by repeat (first | (with_reducible exact Below.refl _ _) | (with_reducible refine Below.drew ?_) | (with_reducible refine below_drewN ?_ _) | ((with_reducible refine Below.alloc ?_ ?_ _); rotate_left; focus ((try simp) <;> omega)) | ((with_reducible refine Below.setCell ?_ ?_ _); rotate_left; focus ((try simp) <;> omega)) | ((with_reducible refine Below.trans ?_ (Below.mono (by assumption) ?_)); rotate_left; focus ((try simp) <;> omega))))).mono ?_; rintro e w4 ⟨A4, c4, L4, Ac4, Cc4, rfl, hst4, hcr4, hb4⟩; have hz4 := hb4.size; (try simp at hz4); have ht4 : w3.heap.size < w4.heap.size := (by omega); obtain ⟨ub4, vb4⟩ := blk_at hb4 w3.heap.size (by (try simp) <;> omega)))
            go_wp2_with (first
              | (go_at_call 16; go_must (refine (same_st hst3 (by repeat (first | (with_reducible exact Below.refl _ _) | (with_reducible refine Below.drew ?_) | (with_reducible refine below_drewN ?_ _) | ((with_reducible refine Below.alloc ?_ ?_ _); rotate_left; focus ((try simp) <;> omega)) | ((with_reducible refine Below.setCell ?_ ?_ _); rotate_left; focus ((try simp) <;> omega)) | ((with_reducible refine Below.trans ?_ (Below.mono (by assumption) ?_)); rotate_left; focus ((try simp) <;> omega)))) hst4 (by repeat (first | (with_reducible exact Below.refl _ _) | (with_reducible refine Below.drew ?_) | (with_reducible refine below_drewN ?_ _) | ((with_reducible refine Below.alloc ?_ ?_ _); rotate_left; focus ((try simp) <;> omega)) | ((with_reducible refine Below.setCell ?_ ?_ _); rotate_left; focus ((try simp) <;> omega)) | ((with_reducible refine Below.trans ?_ (Below.mono (by assumption) ?_)); rotate_left; focus ((try simp) <;> omega)))) hnm.out).mono ?_; rintro e w5 ⟨rfl, hb5⟩; have hz5 := hb5.size; (try simp at hz5); have ht5 : w3.heap.size < w5.heap.size := (by omega); have hs5 : w4.heap.size < w5.heap.size := (by omega); obtain ⟨ub5, vb5⟩ := blk_at hb5 w3.heap.size (by (try simp) <;> omega); obtain ⟨uc5, vc5⟩ := blk_at hb5 w4.heap.size (by (try simp) <;> omega)))
              | (go_at_call 17; go_must (refine (samej_eq Ac3 Ac4 Cc3 Cc4 C _ (Rw.more (Rw.below hcr3 (by repeat (first | (with_reducible exact Below.refl _ _) | (with_reducible refine Below.drew ?_) | (with_reducible refine below_drewN ?_ _) | ((with_reducible refine Below.alloc ?_ ?_ _); rotate_left; focus ((try simp) <;> omega)) | ((with_reducible refine Below.setCell ?_ ?_ _); rotate_left; focus ((try simp) <;> omega)) | ((with_reducible refine Below.trans ?_ (Below.mono (by assumption) ?_)); rotate_left; focus ((try simp) <;> omega)))) (Nat.le_refl _)) (by (try simp) <;> omega)) (Rw.more (Rw.below hcr4 (by repeat (first | (with_reducible exact Below.refl _ _) | (with_reducible refine Below.drew ?_) | (with_reducible refine below_drewN ?_ _) | ((with_reducible refine Below.alloc ?_ ?_ _); rotate_left; focus ((try simp) <;> omega)) | ((with_reducible refine Below.setCell ?_ ?_ _); rotate_left; focus ((try simp) <;> omega)) | ((with_reducible refine Below.trans ?_ (Below.mono (by assumption) ?_)); rotate_left; focus ((try simp) <;> omega)))) (Nat.le_refl _)) (by (try simp) <;> omega)) (by omega)).mono ?_; rintro e w6 ⟨rfl, hb6⟩; have hz6 := hb6.size; (try simp at hz6)))
              | (go_at_call 10; go_must (refine (valid_st hst3 (by repeat (first | (with_reducible exact Below.refl _ _) | (with_reducible refine Below.drew ?_) | (with_reducible refine below_drewN ?_ _) | ((with_reducible refine Below.alloc ?_ ?_ _); rotate_left; focus ((try simp) <;> omega)) | ((with_reducible refine Below.setCell ?_ ?_ _); rotate_left; focus ((try simp) <;> omega)) | ((with_reducible refine Below.trans ?_ (Below.mono (by assumption) ?_)); rotate_left; focus ((try simp) <;> omega)))) hnm.out hnv.out (hG.out.keep (by repeat (first | (with_reducible exact Below.refl _ _) | (with_reducible refine Below.drew ?_) | (with_reducible refine below_drewN ?_ _) | ((with_reducible refine Below.alloc ?_ ?_ _); rotate_left; focus ((try simp) <;> omega)) | ((with_reducible refine Below.setCell ?_ ?_ _); rotate_left; focus ((try simp) <;> omega)) | ((with_reducible refine Below.trans ?_ (Below.mono (by assumption) ?_)); rotate_left; focus ((try simp) <;> omega)))))).mono ?_; rintro e w7 ⟨rfl, hb7⟩; have hz7 := hb7.size; (try simp at hz7))))
            go_roundw
            case rel => exact ⟨k + 1, A3, c3, L3, A4, c4, L4, G1, by go_num, by omega, rfl, rfl, hst3.keep (by repeat (first | (with_reducible exact Below.refl _ _) | (with_reducible refine Below.drew ?_) | (with_reducible refine below_drewN ?_ _) | ((with_reducible refine Below.alloc ?_ ?_ _); rotate_left; focus ((try simp) <;> omega)) | ((with_reducible refine Below.setCell ?_ ?_ _); rotate_left; focus ((try simp) <;> omega)) | ((with_reducible refine Below.trans ?_ (Below.mono (by assumption) ?_)); rotate_left; focus ((try simp) <;> omega)))), hst4.keep (by repeat (first | (with_reducible exact Below.refl _ _) | (with_reducible refine Below.drew ?_) | (with_reducible refine below_drewN ?_ _) | ((with_reducible refine Below.alloc ?_ ?_ _); rotate_left; focus ((try simp) <;> omega)) | ((with_reducible refine Below.setCell ?_ ?_ _); rotate_left; focus ((try simp) <;> omega)) | ((with_reducible refine Below.trans ?_ (Below.mono (by assumption) ?_)); rotate_left; focus ((try simp) <;> omega)))), hnv.out, hnm.out, (by repeat (first | (with_reducible exact Below.refl _ _) | (with_reducible refine Below.drew ?_) | (with_reducible refine below_drewN ?_ _) | ((with_reducible refine Below.alloc ?_ ?_ _); rotate_left; focus ((try simp) <;> omega)) | ((with_reducible refine Below.setCell ?_ ?_ _); rotate_left; focus ((try simp) <;> omega)) | ((with_reducible refine Below.trans ?_ (Below.mono (by assumption) ?_)); rotate_left; focus ((try simp) <;> omega))))⟩
            case measure => simp [intOf]; omega
        · have hp2 : (600 : Int) < (a.name.1.size : Int) := by omega
          clear hsh0 hs1 hs2 hv hm
          go_wp2_with (go_at_call 12; go_must (refine (awake_any _ (hG.out.keep (by repeat (first | (with_reducible exact Below.refl _ _) | (with_reducible refine Below.drew ?_) | (with_reducible refine below_drewN ?_ _) | ((with_reducible refine Below.alloc ?_ ?_ _); rotate_left; focus ((try simp) <;> omega)) | ((with_reducible refine Below.setCell ?_ ?_ _); rotate_left; focus ((try simp) <;> omega)) | ((with_reducible refine Below.trans ?_ (Below.mono (by assumption) ?_)); rotate_left; focus ((try simp) <;> omega)))))).mono ?_; rintro e w11 ⟨rfl, hb11⟩; have hz11 := hb11.size))
          go_ret
          exact ⟨rfl, (by repeat (first | (with_reducible exact Below.refl _ _) | (with_reducible refine Below.drew ?_) | (with_reducible refine below_drewN ?_ _) | ((with_reducible refine Below.alloc ?_ ?_ _); rotate_left; focus ((try simp) <;> omega)) | ((with_reducible refine Below.setCell ?_ ?_ _); rotate_left; focus ((try simp) <;> omega)) | ((with_reducible refine Below.trans ?_ (Below.mono (by assumption) ?_)); rotate_left; focus ((try simp) <;> omega))))⟩
      · have i1 : ¬ (k : Int) < (l.length : Int) := by omega
        clear hs1 hs2 hv hm
        go_wp2_with (go_at_call 12; go_must (refine (awake_any _ (hG.out.keep (by repeat (first | (with_reducible exact Below.refl _ _) | (with_reducible refine Below.drew ?_) | (with_reducible refine below_drewN ?_ _) | ((with_reducible refine Below.alloc ?_ ?_ _); rotate_left; focus ((try simp) <;> omega)) | ((with_reducible refine Below.setCell ?_ ?_ _); rotate_left; focus ((try simp) <;> omega)) | ((with_reducible refine Below.trans ?_ (Below.mono (by assumption) ?_)); rotate_left; focus ((try simp) <;> omega)))))).mono ?_; rintro e w11 ⟨rfl, hb11⟩; have hz11 := hb11.size))
        go_ret
        exact ⟨rfl, (by repeat (first | (with_reducible exact Below.refl _ _) | (with_reducible refine Below.drew ?_) | (with_reducible refine below_drewN ?_ _) | ((with_reducible refine Below.alloc ?_ ?_ _); rotate_left; focus ((try simp) <;> omega)) | ((with_reducible refine Below.setCell ?_ ?_ _); rotate_left; focus ((try simp) <;> omega)) | ((with_reducible refine Below.trans ?_ (Below.mono (by assumption) ?_)); rotate_left; focus ((try simp) <;> omega))))⟩
  · have hlz : (50 : Int) < (l.length : Int) := by omega
    replace hr := Lib.hid hr
    replace hG := Lib.hid hG
    go_enter Tryd.func7, Tryd.ntmps7
    go_wp2_with (go_at_call 12; go_must (refine (awake_any _ (hG.out.keep (by repeat (first | (with_reducible exact Below.refl _ _) | (with_reducible refine Below.drew ?_) | (with_reducible refine below_drewN ?_ _) | ((with_reducible refine Below.alloc ?_ ?_ _); rotate_left; focus ((try simp) <;> omega)) | ((with_reducible refine Below.setCell ?_ ?_ _); rotate_left; focus ((try simp) <;> omega)) | ((with_reducible refine Below.trans ?_ (Below.mono (by assumption) ?_)); rotate_left; focus ((try simp) <;> omega)))))).mono ?_; rintro e w11 ⟨rfl, hb11⟩; have hz11 := hb11.size))
    go_ret
    exact ⟨rfl, (by repeat (first | (with_reducible exact Below.refl _ _) | (with_reducible refine Below.drew ?_) | (with_reducible refine below_drewN ?_ _) | ((with_reducible refine Below.alloc ?_ ?_ _); rotate_left; focus ((try simp) <;> omega)) | ((with_reducible refine Below.setCell ?_ ?_ _); rotate_left; focus ((try simp) <;> omega)) | ((with_reducible refine Below.trans ?_ (Below.mono (by assumption) ?_)); rotate_left; focus ((try simp) <;> omega))))⟩

/-- A world for the witness: the settled one, the listed tables holding what their initialisers lay. -/
noncomputable def laidWorld (os : Os) : World :=
  { World.holding Tryd.prog os ⟨#[], #[], []⟩ with heap := layAll Tryd.prog Rows.concurrencyPlaysRow.laid (World.holding Tryd.prog os ⟨#[], #[], []⟩).heap }
theorem laid_met (os : Os) : laidMet Tryd.prog Rows.concurrencyPlaysRow.laid ((laidWorld os).forCall (fun _ _ => 0) ⟨#[], #[.slice none 0 0], []⟩).memory :=
  laidMet_of_run' 8 (by kernel_rfl) (by kernel_rfl)
theorem reads (os : Os) {H : Type} (enc : TypeId × Value → H) : ∃ places, DataW.whole enc Tryd.prog ((laidWorld os).forCall (fun _ _ => 0) ⟨#[], #[.slice none 0 0], []⟩).memory Tryd.f7.params.toList Rows.concurrencyPlaysSpec.vars false (#[.slice none 0 0] : Array Value).toList 8 = some ([.nil], [], places) :=
  ⟨[], by kernel_rfl⟩

set_option maxRecDepth 100000 in
theorem contract (H : Type) (enc : TypeId × Value → H) (W : World) (base : Nat) (args : Array Value) (ds gs : List (DataW H)) (before : List MemPlace)
    (hval : ∀ (j : Nat) t v, Tryd.f7.params[j]? = some t → args[j]? = some v → Value.okWide Tryd.prog W .any base t v)
    (hW : DataW.Whole enc Tryd.prog Tryd.f7.params.toList Rows.concurrencyPlaysSpec.vars false W args.toList ds gs before)
    (hwt : (DataW.weightsEach Tryd.prog (Tryd.f7.params.toList ++ (OpenSpec.ofChange Rows.concurrencyPlaysSpec).bare.plain.varTypes Tryd.prog) (ds ++ gs)).all (· ≤ reachBytes) = true) (hsh : W.ShapedOpen Tryd.prog) :
    Calls Tryd.prog 7 args W fun e W' => ∃ v, e = .returned v ∧ Rows.concurrencyPlaysSpec.post enc Tryd.prog Tryd.f7 false true false false W args v W' := by
  have hG : Glob W := cell_of_shapedOpen_int (P := Tryd.prog) (g := 0) (t := 3) (zero := #[.int .i64 0]) hsh (of_decide_eq_true (by kernel_rfl)) (by kernel_rfl) rfl (by kernel_rfl) (by kernel_rfl) Tryd.underlying3
  have hW' := hW
  obtain ⟨p, q, hA0, hV, rfl, hfz, hnd⟩ := hW
  have hA : DataW.TrodAll enc Tryd.prog W 0 (fun _ => true) true Tryd.f7.params.toList args.toList ds p := hA0
  have hA1 := hA
  rw [Tryd.params7] at hA hval
  obtain ⟨rfl, rfl⟩ := trodVars_none hV
  simp only [List.append_nil] at hW'
  have hcall : Calls Tryd.prog 7 args W fun e w' => e = .returned (.bool true) ∧ Below W.heap.size W w' := by
    clear hA0 hV hfz hnd
    obtain ⟨v0, vs0, d0, ds0, p0, q0, hargs, rfl, rfl, h0, r0⟩ := trodAll_cons hA
    obtain ⟨rfl, rfl, rfl⟩ := trodAll_nil r0
    obtain rfl : args = #[v0] := by cases args; simp_all
    obtain ⟨A, l, c, rfl, hlc, hcm, hr⟩ := open_rows movE_len (by omega) Tryd.underlying54 (by kernel_rfl) (fun fuel cs x h => movE_of fuel cs x h) (hval 0 54 v0 rfl rfl) h0
    unfold maxLen at hcm
    exact walk A c l W hr (by omega) hG
  have hds : ds.length = 1 := (trodAll_length hA).1
  refine hcall.mono fun e W' ⟨he, hb⟩ => ?_
  subst he
  refine ⟨_, rfl, law_post hW' rfl hA1 (by kernel_rfl) laidOut Tryd.underlying4 (by kernel_rfl) ?_ hb⟩
  match ds, hds with
  | [_], _ => rfl

set_option maxRecDepth 100000 in
theorem lifted (os : Os) (started : os.Started) (H : Type) (enc : TypeId × Value → H) (F : Stop.Interp) :
    ReturnsInHanded {} Tryd.checked os 7 .any ((OpenSpec.ofChange Rows.concurrencyPlaysSpec).preRow enc Tryd.prog Tryd.f7 Rows.concurrencyPlaysRow.domain false Rows.concurrencyPlaysRow.laid) (((OpenSpec.ofChange Rows.concurrencyPlaysSpec).at F).post enc Tryd.prog Tryd.f7 false true false false) := by
  obtain ⟨places, hx⟩ := reads os enc
  refine returnsInHanded_of_row (C := Tryd.checked) (s := OpenSpec.ofChange Rows.concurrencyPlaysSpec) own started (by kernel_rfl) Tryd.func7
    (witness_row_at (enc := enc) (C := Tryd.checked) false (laidWorld os) #[.slice none 0 0] rfl (by kernel_rfl) (by kernel_rfl) (by kernel_rfl)
      (OpenSpec.preRow_of_cond 8 hx (by kernel_rfl) (fun k hk => by cases hk) (by kernel_rfl) (laid_met os))) ?_
  intro W base args ds gs before hval hW _ _ hwt _ hsh _
  exact contract H enc W base args ds gs before hval hW hwt hsh

theorem said : Rows.ConcurrencyPlaysSaid :=
  OpenClaim.holds_of_cond 7 Tryd.f7 rfl rfl rfl rfl rfl rfl rfl ⟨rfl, rfl, rfl, rfl, rfl⟩ rfl rfl rfl rfl rfl (by kernel_rfl) Tryd.func7 (by kernel_rfl)
    (of_decide_eq_true (by kernel_rfl)) (by unfold Func.isWrapper; first | (rw [if_pos (by decide +kernel)]; kernel_rfl) | (rw [if_neg (by decide +kernel)]; exact ⟨rfl, rfl⟩))
    (fun os started H enc _ F => by rw [OpenClaim.pre_eq_preRow]; exact lifted os started H enc F)

theorem plain (f : FuncId) (fn : Func) (hf : Tryd.pinned.checked.prog.funcNamed Rows.concurrencyPlaysRow.func = some f) (hfn : Tryd.pinned.checked.prog.funcs[f]? = some fn) :
    false = Tryd.pinned.checked.prog.looks [] ∧ ∀ (j : Nat) t, fn.params[j]? = some t → Tryd.pinned.checked.prog.wantsStandIn t = false := by
  obtain rfl : f = 7 := Option.some.inj ((show Tryd.prog.funcNamed Rows.concurrencyPlaysRow.func = some 7 by kernel_rfl).symm.trans hf) |>.symm
  obtain rfl : fn = Tryd.f7 := (Option.some.inj (Tryd.func7.symm.trans hfn)).symm
  refine ⟨by kernel_rfl, fun j t ht => ?_⟩
  have hall : (Tryd.f7.params.toList.all fun t => !(Tryd.pinned.checked.prog.wantsStandIn t)) = true := by kernel_rfl
  have hm : t ∈ Tryd.f7.params.toList := Array.mem_toList_iff.2 (Array.mem_of_getElem? ht)
  simpa using List.all_eq_true.1 hall t hm

theorem proved : Rows.ConcurrencyPlaysCardSaid :=
  Claim7.holds_tied_plain_at .later [] _ _ _ _ said (fun _ h => by cases h) (by kernel_rfl) (fun _ h => by cases h) concurrencyPlays_row_tie rfl ⟨rfl, rfl⟩ (by kernel_rfl) rfl plain (by kernel_rfl)
#print axioms proved
end Go.Proofs.YtbellobjajnlkaaDoor.concurrencyPlays
