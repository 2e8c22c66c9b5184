/-
  The walks of groups: a job joins a group by policy 2, a job running, by the program.
-/
import Derived.Test.YtbellobjajnlkaaDoorCon11



namespace Go.Proofs.YtbellobjajnlkaaDoor
open Go.RowKit
attribute [local go_sem ↓] eq_ref ne_ref
set_option maxRecDepth 100000 in
set_option maxHeartbeats 4000000 in
theorem joined_replace (x : Grp) (r : JRef) (H : Nat) (w : World) (ho : OwnG w H x) (hH : H ≤ w.heap.size) (hn : x.wait.length ≤ 1000000) (hzw : ¬ (x.g.rn = zR ∧ x.g.wait = [])) (hp2 : x.g.rn ≠ zR) :
    Calls Tryd.prog 45 #[(.agg #[.string x.name.1, .string x.run.1, .string x.job.1, .slice x.waitA x.wait.length x.waitC]), .agg #[.string r.run.1, .string r.job.1], .int .i64 2] w (fun e w' => ∃ (y : Grp) (A : Option Addr) (C : Nat), e = .returned (.tuple #[(.agg #[.string y.name.1, .string y.run.1, .string y.job.1, .slice y.waitA y.wait.length y.waitC]), .agg #[.bool (joinRun (x).g), .slice A (joinCan (x).g 2).length C]]) ∧ y.g = joinG (x).g r 2 ∧ OwnG w' H y ∧ (blkG y = blkG x ∨ ∀ g, blkG y = some g → w.heap.size ≤ g) ∧ Own jRefE 2 29 w' w.heap.size (.slice A (joinCan (x).g 2).length C) (joinCan (x).g 2) ∧ Below H w w' ∧ But w.heap.size (blkG x) w w') := by
  obtain ⟨inf, hi0, iz0, iz1, iz2⟩ := info_three ref_info
  have hq := refB_zero x.run x.job
  have hg : joinG x.g r 2 = ⟨x.name, ⟨x.run, x.job⟩, [] ++ [r]⟩ := by unfold joinG; rw [if_neg hzw, if_neg (by omega)]; rfl
  have hr : joinRun x.g = false := by
    unfold joinRun
    rcases Decidable.em (x.g.rn = zR) with h | h
    · rw [decide_eq_false (show ¬ x.g.wait = [] from fun e => hzw ⟨h, e⟩), Bool.and_false]
    · rw [decide_eq_false h, Bool.false_and]
  have hc : joinCan x.g 2 = [⟨x.run, x.job⟩] ++ x.wait := by unfold joinCan; rw [if_neg hzw, if_pos ⟨rfl, hp2⟩, if_neg (by omega)]; rfl
  have hrd : Hid (Rw jRefE 2 w w.heap.size x.waitA x.wait) := Lib.hid (Own.reads jRefE_len ho)
  have hs : refB x.run.1 x.job.1 ⟨#[]⟩ ⟨#[]⟩ = false := hq.trans (decide_eq_false hp2)
  rw [hg, hr, hc]
  clear hg hr hc hzw hq hp2
  all_goals
    replace ho := Lib.hid ho
    go_enter Tryd.func45, Tryd.ntmps45
    go_wp2_with (first
      | (at_builtin
         refine wpList_append_rw _ rfl (.tmp 32) (.tmp 35) _ rfl jRefE_len jRefE_one w.heap.size 29 inf _ 32 Tryd.underlying33 hi0 iz0 iz1 iz2 rfl (by omega) (.slice none 0 0) [] rfl (Own.nil _ _ _) (w.heap.size + 1 + 1 + 1 + 1 + 1 + 1) _ 1 1 [⟨x.run, x.job⟩] rfl rfl ?_ ?_ ?_ ?_ ?_
         · exact rw_lit (r := ⟨x.run, x.job⟩) (by (try simp) <;> omega) (by go_simp) (by go_simp)
         · (try simp [maxLen]) <;> omega
         · (try simp) <;> omega
         · (try simp) <;> omega
         intro v0 w0 hown0 hg0 hat0
         have hz0 := hg0.size
         (try simp at hz0)
         have nn : ∀ k, some (w.heap.size + k) ≠ (Value.slice none 0 0).ownBlock := fun k e => by simp [Value.ownBlock] at e
         obtain ⟨r0, f0⟩ := grown_at hg0 w.heap.size (by (try simp) <;> omega) (nn 0)
         obtain ⟨r1, f1⟩ := grown_at hg0 (w.heap.size + 1) (by (try simp) <;> omega) (nn 1)
         obtain ⟨r2, f2⟩ := grown_at hg0 (w.heap.size + 1 + 1) (by (try simp) <;> omega) (nn 2)
         obtain ⟨r3, f3⟩ := grown_at hg0 (w.heap.size + 1 + 1 + 1) (by (try simp) <;> omega) (nn 3)
         obtain ⟨r4, f4⟩ := grown_at hg0 (w.heap.size + 1 + 1 + 1 + 1) (by (try simp) <;> omega) (nn 4)
         clear nn
         rw [List.nil_append] at hown0
         have hB0 : Hid (Below w.heap.size w w0) := Lib.hid (Below.grown (by repeat (first | (with_reducible exact Below.refl _ _) | (with_reducible refine Below.drew ?_) | (with_reducible refine below_drewN ?_ _) | ((with_reducible refine Below.alloc ?_ ?_ _); rotate_left; focus ((try simp) <;> omega)) | ((with_reducible refine Below.setCell ?_ ?_ _); rotate_left; focus ((try simp) <;> omega)) | ((with_reducible refine Below.trans ?_ (Below.mono (by assumption) ?_)); rotate_left; focus ((try simp) <;> omega)))) hg0 (by (try simp) <;> omega) fun k hk => by simp [Value.ownBlock] at hk)
         have hl0 : Hid (∀ g, v0.ownBlock = some g → w.heap.size + 5 ≤ g ∧ g < w0.heap.size) := Lib.hid fun g hg => by
           have h1 := hown0.lt g hg
           rcases hat0 with h | h
           · rw [hg] at h; simp [Value.ownBlock] at h
           · rw [hg] at h
             simp at h
             omega
         obtain ⟨A0, C0, rfl, _, _, _⟩ := hown0.form
         replace hown0 := Lib.hid hown0
         clear hg0 hat0
         have : w0.cell? ⟨w.heap.size, 0, none⟩ = some (.string x.name.1) := (r0 0).trans (by go_simp)
         have : w0.cell? ⟨w.heap.size, 1, none⟩ = some (.string x.run.1) := (r0 1).trans (by go_simp)
         have : w0.cell? ⟨w.heap.size, 2, none⟩ = some (.string x.job.1) := (r0 2).trans (by go_simp)
         have : w0.cell? ⟨w.heap.size, 3, none⟩ = some (.slice x.waitA x.wait.length x.waitC) := (r0 3).trans (by go_simp)
         have : w0.cell? ⟨w.heap.size + 1, 0, none⟩ = some (.string r.run.1) := (r1 0).trans (by go_simp)
         have : w0.cell? ⟨w.heap.size + 1, 1, none⟩ = some (.string r.job.1) := (r1 1).trans (by go_simp)
         have : w0.cell? ⟨w.heap.size + 1 + 1, 0, none⟩ = some (.string ⟨#[]⟩) := (r2 0).trans (by go_simp)
         have : w0.cell? ⟨w.heap.size + 1 + 1, 1, none⟩ = some (.string ⟨#[]⟩) := (r2 1).trans (by go_simp)
         have : w0.cell? ⟨w.heap.size + 1 + 1, 2, none⟩ = some (.string ⟨#[]⟩) := (r2 2).trans (by go_simp)
         have : w0.cell? ⟨w.heap.size + 1 + 1, 3, none⟩ = some (.slice none 0 0) := (r2 3).trans (by go_simp)
         have : w0.cell? ⟨w.heap.size + 1 + 1 + 1, 0, none⟩ = some (.bool false) := (r3 0).trans (by go_simp)
         have : w0.cell? ⟨w.heap.size + 1 + 1 + 1, 1, none⟩ = some (.slice none 0 0) := (r3 1).trans (by go_simp)
         have : w0.cell? ⟨w.heap.size + 1 + 1 + 1 + 1, 0, none⟩ = some (.bool false) := (r4 0).trans (by go_simp)
         have hk4 : w0.cell? ⟨w.heap.size + 1 + 1 + 1 + 1, 1, none⟩ = some (.slice none 0 0) := (r4 1).trans (by go_simp)
         have e0 : ∀ o, w0.frozen? ⟨w.heap.size, o, none⟩ = false := fun o => (f0 o).trans (by go_simp)
         have e2 : ∀ o, w0.frozen? ⟨w.heap.size + 1 + 1, o, none⟩ = false := fun o => (f2 o).trans (by go_simp)
         have e3 : ∀ o, w0.frozen? ⟨w.heap.size + 1 + 1 + 1, o, none⟩ = false := fun o => (f3 o).trans (by go_simp)
         have e4 : ∀ o, w0.frozen? ⟨w.heap.size + 1 + 1 + 1 + 1, o, none⟩ = false := fun o => (f4 o).trans (by go_simp)
         clear r0 f0 r1 f1 r2 f2 r3 f3 r4 f4
         have hz0a : w.heap.size < w0.heap.size := (by omega)
         have hz0b : w.heap.size + 1 < w0.heap.size := (by omega)
         have hz0c : w.heap.size + 1 + 1 < w0.heap.size := (by omega)
         have hz0d : w.heap.size + 1 + 1 + 1 < w0.heap.size := (by omega)
         have hz0e : w.heap.size + 1 + 1 + 1 + 1 < w0.heap.size := (by omega))
      | (at_builtin
         refine wpList_append_rw _ rfl (.tmp 41) (.tmp 43) _ rfl jRefE_len jRefE_one w.heap.size 29 inf _ 32 Tryd.underlying33 hi0 iz0 iz1 iz2 rfl (by omega) (.slice A0 1 C0) [⟨x.run, x.job⟩] rfl (hown0.out.setCell (p := ⟨w.heap.size + 1 + 1 + 1 + 1, 1, none⟩) (fun g hg e => by have := (hl0.out g hg).1; simp at e; omega) _) w.heap.size x.waitA x.wait.length x.waitC x.wait rfl rfl (Rw.below hrd.out (hB0.out.setCell (by (try simp) <;> omega) _) (Nat.le_refl _)) ?_ ?_ ?_ ?_
         · (try simp [maxLen]) <;> omega
         · (try simp) <;> omega
         · (try simp) <;> omega
         intro v1 w1 hown1 hg1 hat1
         have hz1 := hg1.size
         (try simp at hz1)
         have nn : ∀ k, k < 5 → some (w.heap.size + k) ≠ (Value.slice A0 1 C0).ownBlock := fun k hk e => by have := (hl0.out _ e.symm).1; omega
         obtain ⟨r0, f0⟩ := grown_at hg1 w.heap.size (by (try simp) <;> omega) (nn 0 (by omega))
         obtain ⟨r1, f1⟩ := grown_at hg1 (w.heap.size + 1) (by (try simp) <;> omega) (nn 1 (by omega))
         obtain ⟨r2, f2⟩ := grown_at hg1 (w.heap.size + 1 + 1) (by (try simp) <;> omega) (nn 2 (by omega))
         obtain ⟨r3, f3⟩ := grown_at hg1 (w.heap.size + 1 + 1 + 1) (by (try simp) <;> omega) (nn 3 (by omega))
         obtain ⟨r4, f4⟩ := grown_at hg1 (w.heap.size + 1 + 1 + 1 + 1) (by (try simp) <;> omega) (nn 4 (by omega))
         clear nn
         have hB1 : Hid (Below w.heap.size w w1) := Lib.hid (Below.grown (hB0.out.setCell (by (try simp) <;> omega) _) hg1 (by (try simp) <;> omega) fun k hk => by have := (hl0.out k hk).1; omega)
         have hl1 : Hid (∀ g, v1.ownBlock = some g → w.heap.size + 5 ≤ g ∧ g < w1.heap.size) := Lib.hid fun g hg => by
           have h1 := hown1.lt g hg
           rcases hat1 with h | h
           · rw [hg] at h
             have := (hl0.out g h.symm).1
             omega
           · rw [hg] at h
             simp at h
             omega
         obtain ⟨A1, C1, rfl, _, _, _⟩ := hown1.form
         replace hown1 := Lib.hid hown1
         clear hg1 hat1
         have : w1.cell? ⟨w.heap.size, 0, none⟩ = some (.string x.name.1) := (r0 0).trans (by go_simp)
         have : w1.cell? ⟨w.heap.size, 1, none⟩ = some (.string x.run.1) := (r0 1).trans (by go_simp)
         have : w1.cell? ⟨w.heap.size, 2, none⟩ = some (.string x.job.1) := (r0 2).trans (by go_simp)
         have : w1.cell? ⟨w.heap.size, 3, none⟩ = some (.slice x.waitA x.wait.length x.waitC) := (r0 3).trans (by go_simp)
         have : w1.cell? ⟨w.heap.size + 1, 0, none⟩ = some (.string r.run.1) := (r1 0).trans (by go_simp)
         have : w1.cell? ⟨w.heap.size + 1, 1, none⟩ = some (.string r.job.1) := (r1 1).trans (by go_simp)
         have : w1.cell? ⟨w.heap.size + 1 + 1, 0, none⟩ = some (.string ⟨#[]⟩) := (r2 0).trans (by go_simp)
         have : w1.cell? ⟨w.heap.size + 1 + 1, 1, none⟩ = some (.string ⟨#[]⟩) := (r2 1).trans (by go_simp)
         have : w1.cell? ⟨w.heap.size + 1 + 1, 2, none⟩ = some (.string ⟨#[]⟩) := (r2 2).trans (by go_simp)
         have : w1.cell? ⟨w.heap.size + 1 + 1, 3, none⟩ = some (.slice none 0 0) := (r2 3).trans (by go_simp)
         have : w1.cell? ⟨w.heap.size + 1 + 1 + 1, 0, none⟩ = some (.bool false) := (r3 0).trans (by go_simp)
         have : w1.cell? ⟨w.heap.size + 1 + 1 + 1, 1, none⟩ = some (.slice none 0 0) := (r3 1).trans (by go_simp)
         have : w1.cell? ⟨w.heap.size + 1 + 1 + 1 + 1, 0, none⟩ = some (.bool false) := (r4 0).trans (by go_simp)
         have : w1.cell? ⟨w.heap.size + 1 + 1 + 1 + 1, 1, none⟩ = some (.slice A0 1 C0) := (r4 1).trans (World.cell?_setCell_same _ _ _ hk4)
         have m0 : ∀ o, w1.frozen? ⟨w.heap.size, o, none⟩ = false := fun o => (f0 o).trans (by go_simp)
         have m2 : ∀ o, w1.frozen? ⟨w.heap.size + 1 + 1, o, none⟩ = false := fun o => (f2 o).trans (by go_simp)
         have m3 : ∀ o, w1.frozen? ⟨w.heap.size + 1 + 1 + 1, o, none⟩ = false := fun o => (f3 o).trans (by go_simp)
         have m4 : ∀ o, w1.frozen? ⟨w.heap.size + 1 + 1 + 1 + 1, o, none⟩ = false := fun o => (f4 o).trans (by go_simp)
         clear r0 f0 r1 f1 r2 f2 r3 f3 r4 f4
         have hz1a : w.heap.size < w1.heap.size := (by omega)
         have hz1b : w.heap.size + 1 < w1.heap.size := (by omega)
         have hz1c : w.heap.size + 1 + 1 < w1.heap.size := (by omega)
         have hz1d : w.heap.size + 1 + 1 + 1 < w1.heap.size := (by omega)
         have hz1e : w.heap.size + 1 + 1 + 1 + 1 < w1.heap.size := (by omega))
      | (at_builtin
         refine wpList_append_rw _ rfl (.tmp 48) (.tmp 50) _ rfl jRefE_len jRefE_one w.heap.size 29 inf _ 32 Tryd.underlying33 hi0 iz0 iz1 iz2 rfl (by omega) (.slice none 0 0) [] rfl (Own.nil _ _ _) (w1.heap.size + 1) _ 1 1 [r] rfl rfl ?_ ?_ ?_ ?_ ?_
         · exact rw_lit (by (try simp) <;> omega) (by go_simp) (by go_simp)
         · (try simp [maxLen]) <;> omega
         · (try simp) <;> omega
         · (try simp) <;> omega
         intro v3 w3 hown3 hg3 hat3
         have hz3 := hg3.size
         (try simp at hz3)
         have nn : ∀ k, some (w.heap.size + k) ≠ (Value.slice none 0 0).ownBlock := fun k e => by simp [Value.ownBlock] at e
         obtain ⟨r0, f0⟩ := grown_at hg3 w.heap.size (by (try simp) <;> omega) (nn 0)
         obtain ⟨r2, f2⟩ := grown_at hg3 (w.heap.size + 1 + 1) (by (try simp) <;> omega) (nn 2)
         obtain ⟨r3, f3⟩ := grown_at hg3 (w.heap.size + 1 + 1 + 1) (by (try simp) <;> omega) (nn 3)
         obtain ⟨r4, f4⟩ := grown_at hg3 (w.heap.size + 1 + 1 + 1 + 1) (by (try simp) <;> omega) (nn 4)
         clear nn
         rw [List.nil_append] at hown3
         have hB3 : Hid (Below w.heap.size w w3) := Lib.hid (Below.grown (Below.alloc (Below.setCell (Below.setCell hB1.out (by (try simp) <;> omega) _) (by (try simp) <;> omega) _) (by (try simp) <;> omega) _) hg3 (by (try simp) <;> omega) fun k hk => by simp [Value.ownBlock] at hk)
         have hl3 : Hid (∀ g, v3.ownBlock = some g → w.heap.size + 5 ≤ g) := Lib.hid fun g hg => by
           rcases hat3 with h | h
           · rw [hg] at h; simp [Value.ownBlock] at h
           · rw [hg] at h
             simp at h
             omega
         have hown1c : Hid (Own jRefE 2 29 w3 w.heap.size (.slice A1 ([(⟨x.run, x.job⟩ : JRef)] ++ x.wait).length C1) ([(⟨x.run, x.job⟩ : JRef)] ++ x.wait)) := Lib.hid (((((hown1.out.setCell (p := ⟨w.heap.size + 1 + 1 + 1 + 1, 1, none⟩) (fun g hg e => by have := (hl1.out g hg).1; simp at e; omega) _).setCell (p := ⟨w.heap.size, 3, none⟩) (fun g hg e => by have := (hl1.out g hg).1; simp at e; omega) _).alloc _)).grown hg3 (fun g hg e => by simp [Value.ownBlock] at e))
         obtain ⟨A3, C3, rfl, _, _, _⟩ := hown3.form
         replace hown3 := Lib.hid hown3
         clear hg3 hat3
         have : w3.cell? ⟨w.heap.size, 0, none⟩ = some (.string x.name.1) := (r0 0).trans (by go_simp)
         have : w3.cell? ⟨w.heap.size, 1, none⟩ = some (.string x.run.1) := (r0 1).trans (by go_simp)
         have : w3.cell? ⟨w.heap.size, 2, none⟩ = some (.string x.job.1) := (r0 2).trans (by go_simp)
         have k03 : w3.cell? ⟨w.heap.size, 3, none⟩ = some (.slice none 0 0) := (r0 3).trans (by go_simp)
         have : w3.cell? ⟨w.heap.size + 1 + 1, 0, none⟩ = some (.string ⟨#[]⟩) := (r2 0).trans (by go_simp)
         have : w3.cell? ⟨w.heap.size + 1 + 1, 1, none⟩ = some (.string ⟨#[]⟩) := (r2 1).trans (by go_simp)
         have : w3.cell? ⟨w.heap.size + 1 + 1, 2, none⟩ = some (.string ⟨#[]⟩) := (r2 2).trans (by go_simp)
         have : w3.cell? ⟨w.heap.size + 1 + 1, 3, none⟩ = some (.slice none 0 0) := (r2 3).trans (by go_simp)
         have : w3.cell? ⟨w.heap.size + 1 + 1 + 1, 0, none⟩ = some (.bool false) := (r3 0).trans (by go_simp)
         have : w3.cell? ⟨w.heap.size + 1 + 1 + 1, 1, none⟩ = some (.slice none 0 0) := (r3 1).trans (by go_simp)
         have : w3.cell? ⟨w.heap.size + 1 + 1 + 1 + 1, 0, none⟩ = some (.bool false) := (r4 0).trans (by go_simp)
         have : w3.cell? ⟨w.heap.size + 1 + 1 + 1 + 1, 1, none⟩ = some (.slice A1 (x.wait.length + 1) C1) := (r4 1).trans (by go_simp)
         have n0 : ∀ o, w3.frozen? ⟨w.heap.size, o, none⟩ = false := fun o => (f0 o).trans (by go_simp)
         have n2 : ∀ o, w3.frozen? ⟨w.heap.size + 1 + 1, o, none⟩ = false := fun o => (f2 o).trans (by go_simp)
         have n3 : ∀ o, w3.frozen? ⟨w.heap.size + 1 + 1 + 1, o, none⟩ = false := fun o => (f3 o).trans (by go_simp)
         clear r0 f0 r2 f2 r3 f3 r4 f4
         have hz3a : w.heap.size + 5 < w3.heap.size := (by omega)))
    have hB4 := Lib.hid (show Below w.heap.size w (w3.setCell ⟨w.heap.size, 3, none⟩ (.slice A3 1 C3)) from hB3.out.setCell (Nat.le_refl _) _)
    have : (w3.setCell ⟨w.heap.size, 3, none⟩ (.slice A3 1 C3)).cell? ⟨w.heap.size, 0, none⟩ = some (.string x.name.1) := by go_simp
    have : (w3.setCell ⟨w.heap.size, 3, none⟩ (.slice A3 1 C3)).cell? ⟨w.heap.size, 1, none⟩ = some (.string x.run.1) := by go_simp
    have : (w3.setCell ⟨w.heap.size, 3, none⟩ (.slice A3 1 C3)).cell? ⟨w.heap.size, 2, none⟩ = some (.string x.job.1) := by go_simp
    have k3 : (w3.setCell ⟨w.heap.size, 3, none⟩ (.slice A3 1 C3)).cell? ⟨w.heap.size, 3, none⟩ = some (.slice A3 1 C3) := World.cell?_setCell_same _ _ _ k03
    clear k03
    have : (w3.setCell ⟨w.heap.size, 3, none⟩ (.slice A3 1 C3)).cell? ⟨w.heap.size + 1 + 1, 0, none⟩ = some (.string ⟨#[]⟩) := by go_simp
    have : (w3.setCell ⟨w.heap.size, 3, none⟩ (.slice A3 1 C3)).cell? ⟨w.heap.size + 1 + 1, 1, none⟩ = some (.string ⟨#[]⟩) := by go_simp
    have : (w3.setCell ⟨w.heap.size, 3, none⟩ (.slice A3 1 C3)).cell? ⟨w.heap.size + 1 + 1, 2, none⟩ = some (.string ⟨#[]⟩) := by go_simp
    have : (w3.setCell ⟨w.heap.size, 3, none⟩ (.slice A3 1 C3)).cell? ⟨w.heap.size + 1 + 1, 3, none⟩ = some (.slice none 0 0) := by go_simp
    have : (w3.setCell ⟨w.heap.size, 3, none⟩ (.slice A3 1 C3)).cell? ⟨w.heap.size + 1 + 1 + 1, 0, none⟩ = some (.bool false) := by go_simp
    have : (w3.setCell ⟨w.heap.size, 3, none⟩ (.slice A3 1 C3)).cell? ⟨w.heap.size + 1 + 1 + 1, 1, none⟩ = some (.slice none 0 0) := by go_simp
    have : (w3.setCell ⟨w.heap.size, 3, none⟩ (.slice A3 1 C3)).cell? ⟨w.heap.size + 1 + 1 + 1 + 1, 0, none⟩ = some (.bool false) := by go_simp
    have : (w3.setCell ⟨w.heap.size, 3, none⟩ (.slice A3 1 C3)).cell? ⟨w.heap.size + 1 + 1 + 1 + 1, 1, none⟩ = some (.slice A1 (x.wait.length + 1) C1) := by go_simp
    have p2 : ∀ o, (w3.setCell ⟨w.heap.size, 3, none⟩ (.slice A3 1 C3)).frozen? ⟨w.heap.size + 1 + 1, o, none⟩ = false := fun o => by go_simp
    have p3 : ∀ o, (w3.setCell ⟨w.heap.size, 3, none⟩ (.slice A3 1 C3)).frozen? ⟨w.heap.size + 1 + 1 + 1, o, none⟩ = false := fun o => by go_simp
    have hz4 : w.heap.size + 6 ≤ (w3.setCell ⟨w.heap.size, 3, none⟩ (.slice A3 1 C3)).heap.size := by rw [World.size_setCell]; omega
    have ho4 := Lib.hid (hown3.out.setCell (p := ⟨w.heap.size, 3, none⟩) (fun g hg e => by have := hl3.out g hg; simp at e; omega) (.slice A3 1 C3))
    have hc4 := Lib.hid (hown1c.out.setCell (p := ⟨w.heap.size, 3, none⟩) (fun g hg e => by have := (hl1.out g hg).1; simp at e; omega) (.slice A3 1 C3))
    generalize (w3.setCell ⟨w.heap.size, 3, none⟩ (.slice A3 1 C3)) = w4 at *
    go_region
    obtain ⟨q0, q1, q2, q3, q4, q5⟩ := set6 w4 (a := (w.heap.size + 1 + 1)) (b := (w.heap.size + 1 + 1 + 1)) (.string x.name.1) (.string x.run.1) (.string x.job.1) (.slice A3 1 C3) (.bool false) (.slice A1 (x.wait.length + 1) C1) (by omega) (by assumption) (by assumption) (by assumption) (by assumption) (by assumption) (by assumption)
    have hB5 := Lib.hid (show Below w.heap.size w (W6 w4 (w.heap.size + 1 + 1) (w.heap.size + 1 + 1 + 1) (.string x.name.1) (.string x.run.1) (.string x.job.1) (.slice A3 1 C3) (.bool false) (.slice A1 (x.wait.length + 1) C1)) from hB4.out.trans (W6.below (by omega) (by omega)))
    have ho5 := Lib.hid (show Own jRefE 2 29 (W6 w4 (w.heap.size + 1 + 1) (w.heap.size + 1 + 1 + 1) (.string x.name.1) (.string x.run.1) (.string x.job.1) (.slice A3 1 C3) (.bool false) (.slice A1 (x.wait.length + 1) C1)) w.heap.size _ _ from by
      have n2 : ∀ g, _ = some g → g ≠ w.heap.size + 1 + 1 := fun g hg e => by have := hl3.out g hg; omega
      have n3 : ∀ g, _ = some g → g ≠ w.heap.size + 1 + 1 + 1 := fun g hg e => by have := hl3.out g hg; omega
      exact (((((ho4.out.setCell n2 _).setCell n2 _).setCell n2 _).setCell n2 _).setCell n3 _).setCell n3 _)
    have hc5 := Lib.hid (show Own jRefE 2 29 (W6 w4 (w.heap.size + 1 + 1) (w.heap.size + 1 + 1 + 1) (.string x.name.1) (.string x.run.1) (.string x.job.1) (.slice A3 1 C3) (.bool false) (.slice A1 (x.wait.length + 1) C1)) w.heap.size _ _ from by
      have n2 : ∀ g, _ = some g → g ≠ w.heap.size + 1 + 1 := fun g hg e => by have := (hl1.out g hg).1; omega
      have n3 : ∀ g, _ = some g → g ≠ w.heap.size + 1 + 1 + 1 := fun g hg e => by have := (hl1.out g hg).1; omega
      exact (((((hc4.out.setCell n2 _).setCell n2 _).setCell n2 _).setCell n2 _).setCell n3 _).setCell n3 _)
    change Exit.then _ _ _ _ (W6 w4 (w.heap.size + 1 + 1) (w.heap.size + 1 + 1 + 1) (.string x.name.1) (.string x.run.1) (.string x.job.1) (.slice A3 1 C3) (.bool false) (.slice A1 (x.wait.length + 1) C1)).drew
    generalize W6 w4 (w.heap.size + 1 + 1) (w.heap.size + 1 + 1 + 1) (.string x.name.1) (.string x.run.1) (.string x.job.1) (.slice A3 1 C3) (.bool false) (.slice A1 (x.wait.length + 1) C1) = w5 at *
    go_wp2_with fail
    exact bodyPost_ret (v := .tuple #[.agg #[.string x.name.1, .string x.run.1, .string x.job.1, .slice A3 1 C3], .agg #[.bool false, .slice A1 (x.wait.length + 1) C1]]) (by simp [results, Tryd.results45, go_sem, q0, q1, q2, q3, q4, q5]) rfl ⟨⟨x.name, x.run, x.job, A3, C3, [r]⟩, A1, C1, by simp, rfl, Own.base ho5.out.drew hH, .inr fun g hg => by have := hl3.out g hg; omega, hc5.out.drew, (hB5.out.mono hH).drew, But.drew (But.below But.refl hB5.out (Nat.le_refl _))⟩
end Go.Proofs.YtbellobjajnlkaaDoor
