/-
  The walks of groups: a job enters, by the reference: its group is there.
-/
import Derived.Test.YtbellobjajnlkaaDoorCon31
import Derived.Test.YtbellobjajnlkaaDoorCon14
import Derived.Deep.RegionHeld3
import Derived.Deep.DeepCutAuto





namespace Go.Proofs.YtbellobjajnlkaaDoor
open Go.RowKit

attribute [local go_sem ↓] eq_ref ne_ref
theorem blk_low {B : Nat} {W w1 : World} (hb : Below B W w1) (g : Nat) (hg : g < B) : (∀ o, w1.cell? ⟨g, o, none⟩ = W.cell? ⟨g, o, none⟩) ∧ (∀ o, w1.frozen? ⟨g, o, none⟩ = W.frozen? ⟨g, o, none⟩) :=
  ⟨fun o => hb.cell (p := ⟨g, o, none⟩) hg, fun o => hb.frozen (p := ⟨g, o, none⟩) hg⟩
set_option maxRecDepth 100000 in
set_option maxHeartbeats 8000000 in
theorem renter_queue (A : Option Addr) (c : Nat) (l : List Grp) (p : Str) (r : JRef) (P : I64) (w : World) (hr : RwG w w.heap.size A l) (hm : Mild l) (hp : p.1.size < 4294967281) (hs : shortR r) (hE : enterE (l.map Grp.g) p r P.1 = 0) (hh : hasN p (l.map Grp.g) = true) (hP : P.1 = 0) :
    Calls Tryd.prog 15 #[.slice A l.length c, .string p.1, .agg #[.string r.run.1, .string r.job.1], .int .i64 P.1] w (fun e w' => ∃ (A' : Option Addr) (c' : Nat) (l' : List Grp) (Ac : Option Addr) (Cc : Nat), e = .returned (.tuple #[.slice A' l'.length c', .agg #[.bool (enterRun (l.map Grp.g) p r P.1), .slice Ac (enterCan (l.map Grp.g) p r P.1).length Cc], .int .i64 (enterE (l.map Grp.g) p r P.1)]) ∧ RwG w' w'.heap.size A' l' ∧ l'.length ≤ c' ∧ l'.map Grp.g = enterL (l.map Grp.g) p r P.1 ∧ Rw jRefE 2 w' w'.heap.size Ac (enterCan (l.map Grp.g) p r P.1) ∧ Below w.heap.size w w') := by
  obtain ⟨inf, hi0, iz0, iz1, iz2⟩ := info_three ref_info
  obtain ⟨hv0, hj, hpp, h0, h2, hi, hl⟩ := enterE_ok hE
  have hv := val_iff.2 hv0
  have hRun : enterRun (l.map Grp.g) p r P.1 = joinRun (getG (l.map Grp.g) p) := by unfold enterRun; rw [if_neg (by rw [hE]; decide)]
  have hCan : enterCan (l.map Grp.g) p r P.1 = joinCan (getG (l.map Grp.g) p) P.1 := by unfold enterCan; rw [if_neg (by rw [hE]; decide)]
  have hLst : enterL (l.map Grp.g) p r P.1 = putG (l.map Grp.g) (joinG (getG (l.map Grp.g) p) r P.1) := by unfold enterL; rw [if_neg (by rw [hE]; decide)]
  rw [hRun, hCan, hLst, hE]
  clear hRun hCan hLst hE
  have hva : ∀ W, Below w.heap.size w W → Calls Tryd.prog 11 #[.slice A l.length c] W fun e w' => e = .returned (.int .i64 (validE (l.map Grp.g))) ∧ Below W.heap.size W w' := fun W hb => rvalid_any A c l W ((hr.below hb (Nat.le_refl _)).more hb.size) hm
  have hal : ∀ W, Below w.heap.size w W → Calls Tryd.prog 20 #[.slice A l.length c] W fun e w' => ∃ v, e = .returned v ∧ Own jRefE 2 29 w' W.heap.size v (allG (l.map Grp.g)) ∧ Below W.heap.size W w' := fun W hb => rall_any A c l W ((hr.below hb (Nat.le_refl _)).more hb.size) hm.all hm.wait hm.len
  have hja : ∀ W, Below w.heap.size w W → Calls Tryd.prog 37 #[.agg #[.string r.run.1, .string r.job.1]] W fun e w' => e = .returned (.bool (jobB r)) ∧ Below W.heap.size W w' := fun W hb => rjob_any r W hs
  have hpa : ∀ W, Below w.heap.size w W → Calls Tryd.prog 34 #[.string p.1] W fun e w' => e = .returned (.bool (pathB p)) ∧ Below W.heap.size W w' := fun W hb => rpath_any p W hp
  have hln : (allG (l.map Grp.g)).length ≤ 9223372036854775807 := by have := hm.all; omega
  have hha : ∀ (W : World) (A1 : Option Addr) (c1 : Nat), Rw jRefE 2 W W.heap.size A1 (allG (l.map Grp.g)) → Calls Tryd.prog 38 #[.slice A1 (allG (l.map Grp.g)).length c1, .agg #[.string r.run.1, .string r.job.1]] W fun e w' => e = .returned (.bool (hasR (allG (l.map Grp.g)) r)) ∧ Below W.heap.size W w' := fun W A1 c1 h => (rhas_any A1 c1 (allG (l.map Grp.g)) r W h hln).mono fun e w' h => ⟨h.1, h.2⟩
  rw [show validE (l.map Grp.g) = 0 by unfold validE; rw [hv]; rfl] at hva
  rw [hj] at hja
  rw [hpp] at hpa
  rw [show hasR (allG (l.map Grp.g)) r = false from decide_eq_false hi] at hha
  have hq0 : ¬ P.1 < 0 := by omega
  have hq2 : ¬ 2 < P.1 := by omega
  have hl2 : ¬ (4096 : Int) ≤ ((allG (l.map Grp.g)).length : Int) := by omega
  clear hl
  have hfi : ∀ W, Below w.heap.size w W → Calls Tryd.prog 18 #[.slice A l.length c, .string p.1] W fun e w' => e = .returned (.int .i64 (findN p (l.map Grp.g))) ∧ W = w' := fun W hb => rfind_any A c l p W ((hr.row.below hb (Nat.le_refl _)).more hb.size) (by have := hm.len; omega)
  have hback : Hid (∀ W, Below w.heap.size w W → RwG W W.heap.size A l) := Lib.hid fun W hb => (hr.below hb (Nat.le_refl _)).more hb.size
  have hlm := hm.len
  have ha := Lib.hid hv0.asc
  have hfc := find_neg hv0.asc p
  replace hi := Lib.hid hi
  have hF : findN p (l.map Grp.g) = (atN p (l.map Grp.g) : Int) := by
    rcases hfc with ⟨_, h⟩ | ⟨h, _⟩
    · exact h
    · rw [hh] at h; cases h
  rw [hF] at hfi
  obtain ⟨x, hx, hxb, hxp⟩ := at_grp hh
  have hgp : getG (l.map Grp.g) p = x.g := by unfold getG; rw [if_pos hh, hxb]
  rw [hgp]
  have hat := (List.getElem?_eq_some_iff.1 hx).1
  obtain ⟨k, hk⟩ : ∃ k, atN p (l.map Grp.g) = k := ⟨_, rfl⟩
  rw [hk] at hfi hx hat
  obtain ⟨g, o, rfl, hg, q⟩ := hr.row (by omega)
  replace q := q k x hx
  have q0 := q 0 (.string x.name.1) rfl
  try rw [Nat.add_zero] at q0
  have q1 := q 1 (.string x.run.1) rfl
  have q2 := q 2 (.string x.job.1) rfl
  have q3 := q 3 (.slice x.waitA x.wait.length x.waitC) rfl
  clear q
  have i0 : (0 : Int) ≤ (k : Int) := by omega
  have i00 : ¬ (k : Int) < 0 := by omega
  have i1 : (k : Int) < (l.length : Int) := by omega
  have hxm := List.mem_of_getElem? hx
  have hxr := Lib.hid (hr.labs x hxm).2.2
  have hxl := hm.wait x hxm
  have hjne : jobsG x.g ≠ [] := hv0.some x.g (List.mem_map_of_mem hxm)
  have hq := refB_zero x.run x.job
  have hz : ¬ (x.g.rn = zR ∧ x.g.wait = []) := fun h => hjne (by unfold jobsG; rw [if_pos h.1]; exact h.2)
  have hjr : joinRun x.g = false := by
    unfold joinRun
    rcases Decidable.em (x.g.rn = zR) with h | h
    · rw [decide_eq_false (show ¬ x.g.wait = [] from fun e => hz ⟨h, e⟩), Bool.and_false]
    · rw [decide_eq_false h, Bool.false_and]
  have hjg := join_old (r := r) (p := P.1) hjne
  have hgw : g < w.heap.size := hg
  rw [hjr]
  clear hF hfc hgp h0 h2 hxb hxm hat hjr hjne
  replace hh := Lib.hid hh
  replace hk := Lib.hid hk
  replace hx := Lib.hid hx
  replace hxp := Lib.hid hxp
  replace hv0 := Lib.hid hv0
  replace hfi := Lib.hid hfi
  have hjc : joinCan x.g P.1 = [] := by unfold joinCan; rw [if_neg hz, if_neg (by omega), if_pos hP]; rfl
  rw [if_pos hP] at hjg
  rw [hP] at hq0 hq2 hjg hjc ⊢
  have hjg' := Lib.hid hjg
  have hjc' := Lib.hid hjc
  clear hjg hjc hz
  replace hP := Lib.hid hP
  replace hq := Lib.hid hq
  replace hva := Lib.hid hva
  replace hal := Lib.hid hal
  replace hja := Lib.hid hja
  replace hpa := Lib.hid hpa
  replace hha := Lib.hid hha
  replace hv := Lib.hid hv
  try replace hj := Lib.hid hj
  try replace hpp := Lib.hid hpp
  replace hr := Lib.hid hr
  replace hm := Lib.hid hm
  replace hs := Lib.hid hs
  clear hln hp
  go_enter Tryd.func15, Tryd.ntmps15
  go_wp2_with (first | (go_at_call 11; go_must (refine (hva.out _ (by repeat (first | (with_reducible exact Below.refl _ _) | (with_reducible refine Below.drew ?_) | (with_reducible refine below_drewN ?_ _) | ((with_reducible refine Below.alloc ?_ ?_ _); rotate_left; focus ((try simp) <;> omega)) | ((with_reducible refine Below.setCell ?_ ?_ _); rotate_left; focus ((try simp) <;> omega)) | ((with_reducible refine Below.trans ?_ (Below.mono (by assumption) ?_)); rotate_left; focus ((try simp) <;> omega))))).mono ?_; rintro e w1 ⟨rfl, hb1⟩; have hz1 := hb1.size; (try simp at hz1); have hza1 : w.heap.size < w1.heap.size := (by omega); have hzb1 : w.heap.size + 1 < w1.heap.size := (by omega); obtain ⟨p1, f1⟩ := blk_at hb1 w.heap.size (by (try simp) <;> omega); obtain ⟨pp1, ff1⟩ := blk_at hb1 (w.heap.size + 1) (by (try simp) <;> omega))) | (go_at_call 37; go_must (refine (hja.out _ (by repeat (first | (with_reducible exact Below.refl _ _) | (with_reducible refine Below.drew ?_) | (with_reducible refine below_drewN ?_ _) | ((with_reducible refine Below.alloc ?_ ?_ _); rotate_left; focus ((try simp) <;> omega)) | ((with_reducible refine Below.setCell ?_ ?_ _); rotate_left; focus ((try simp) <;> omega)) | ((with_reducible refine Below.trans ?_ (Below.mono (by assumption) ?_)); rotate_left; focus ((try simp) <;> omega))))).mono ?_; rintro e w2 ⟨rfl, hb2⟩; have hz2 := hb2.size; (try simp at hz2); have hza2 : w.heap.size < w2.heap.size := (by omega); have hzb2 : w.heap.size + 1 < w2.heap.size := (by omega); obtain ⟨p2, f2⟩ := blk_at hb2 w.heap.size (by (try simp) <;> omega); obtain ⟨pp2, ff2⟩ := blk_at hb2 (w.heap.size + 1) (by (try simp) <;> omega))) | (go_at_call 34; go_must (refine (hpa.out _ (by repeat (first | (with_reducible exact Below.refl _ _) | (with_reducible refine Below.drew ?_) | (with_reducible refine below_drewN ?_ _) | ((with_reducible refine Below.alloc ?_ ?_ _); rotate_left; focus ((try simp) <;> omega)) | ((with_reducible refine Below.setCell ?_ ?_ _); rotate_left; focus ((try simp) <;> omega)) | ((with_reducible refine Below.trans ?_ (Below.mono (by assumption) ?_)); rotate_left; focus ((try simp) <;> omega))))).mono ?_; rintro e w3 ⟨rfl, hb3⟩; have hz3 := hb3.size; (try simp at hz3); have hza3 : w.heap.size < w3.heap.size := (by omega); have hzb3 : w.heap.size + 1 < w3.heap.size := (by omega); obtain ⟨p3, f3⟩ := blk_at hb3 w.heap.size (by (try simp) <;> omega); obtain ⟨pp3, ff3⟩ := blk_at hb3 (w.heap.size + 1) (by (try simp) <;> omega))))
  refine wp_region_held_drew (S := fun w' => w'.cell? ⟨w.heap.size, 0, none⟩ = some (.string r.run.1) ∧ w'.cell? ⟨w.heap.size, 1, none⟩ = some (.string r.job.1)) (by kernel_rfl) ?_ (fun hHeld => ?_)
  · first | (dsimp only; go_keep; done) | (go_keep; done) | (go_simp; done)
  rw [show (Array.replicate _ false : Array Bool) = #[false, false, false, false] from rfl]
  (refine wpAnyH_take (i := 0) (oi := Oper.mk _ _ _ _ _ _) (v := ?_) rfl (by kernel_rfl) (by kernel_rfl) (by kernel_rfl) (fun _ _ _ h => h) ?_ (by assumption) ?_; rotate_left; (focus (refine Or.inl ⟨by rfl, ?_⟩; intro wS hSw; (try dsimp only at hSw); go_simp; first | done | with_reducible rfl)); simp only [Act.put, List.setIfInBounds_toArray, List.set_cons_zero, List.set_cons_succ])
  (refine wpAnyH_take (i := 2) (oi := Oper.mk _ _ _ _ _ _) (v := ?_) rfl (by kernel_rfl) (by kernel_rfl) (by kernel_rfl) (fun _ _ _ h => h) ?_ (by assumption) ?_; rotate_left; (focus (refine Or.inl ⟨by rfl, ?_⟩; intro wS hSw; (try dsimp only at hSw); go_simp; first | done | with_reducible rfl)); simp only [Act.put, List.setIfInBounds_toArray, List.set_cons_zero, List.set_cons_succ])
  (refine wpAnyH_ready (rs := [1]) (by kernel_rfl) (by simp) ?_
   refine AllReadyH.cons (o := Oper.mk _ _ _ _ _ _) rfl (fun K hK => ?_) AllReadyH.nil
   go_simp
   (go_at_call 20; go_must (refine (hal.out _ (by repeat (first | (with_reducible exact Below.refl _ _) | (with_reducible refine Below.drew ?_) | (with_reducible refine below_drewN ?_ _) | ((with_reducible refine Below.alloc ?_ ?_ _); rotate_left; focus ((try simp) <;> omega)) | ((with_reducible refine Below.setCell ?_ ?_ _); rotate_left; focus ((try simp) <;> omega)) | ((with_reducible refine Below.trans ?_ (Below.mono (by assumption) ?_)); rotate_left; focus ((try simp) <;> omega))))).mono ?_; rintro e w4 ⟨v4, rfl, hown4, hb4⟩; have hz4 := hb4.size; (try simp at hz4); have hza4 : w.heap.size < w4.heap.size := (by omega); have hzb4 : w.heap.size + 1 < w4.heap.size := (by omega); obtain ⟨p4, f4⟩ := blk_at hb4 w.heap.size (by (try simp) <;> omega); obtain ⟨pp4, ff4⟩ := blk_at hb4 (w.heap.size + 1) (by (try simp) <;> omega); obtain ⟨A4, c4, rfl, _, _, _⟩ := hown4.form; have hrd4 := Lib.hid (hown4.reads jRefE_len); clear hown4))
   refine hK.out _ _ ?_ (fun hHeld => ?_)
   · first | (dsimp only; go_keep; done) | (go_keep; done)
   clear hK K
   (try simp only [List.setIfInBounds_toArray, List.set_cons_zero, List.set_cons_succ]))
  (refine wpAnyH_ready (rs := [3]) (by kernel_rfl) (by simp) ?_
   refine AllReadyH.cons (o := Oper.mk _ _ _ _ _ _) rfl (fun K hK => ?_) AllReadyH.nil
   go_simp
   (go_at_call 38; go_must (refine (hha.out _ A4 c4 (Rw.more (Rw.below hrd4.out (by repeat (first | (with_reducible exact Below.refl _ _) | (with_reducible refine Below.drew ?_) | (with_reducible refine below_drewN ?_ _) | ((with_reducible refine Below.alloc ?_ ?_ _); rotate_left; focus ((try simp) <;> omega)) | ((with_reducible refine Below.setCell ?_ ?_ _); rotate_left; focus ((try simp) <;> omega)) | ((with_reducible refine Below.trans ?_ (Below.mono (by assumption) ?_)); rotate_left; focus ((try simp) <;> omega)))) (Nat.le_refl _)) (by (try simp) <;> omega))).mono ?_; rintro e w5 ⟨rfl, hb5⟩; have hz5 := hb5.size; (try simp at hz5); have hza5 : w.heap.size < w5.heap.size := (by omega); have hzb5 : w.heap.size + 1 < w5.heap.size := (by omega); obtain ⟨p5, f5⟩ := blk_at hb5 w.heap.size (by (try simp) <;> omega); obtain ⟨pp5, ff5⟩ := blk_at hb5 (w.heap.size + 1) (by (try simp) <;> omega)))
   refine hK.out _ _ ?_ (fun hHeld => ?_)
   · first | (dsimp only; go_keep; done) | (go_keep; done)
   clear hK K
   (try simp only [List.setIfInBounds_toArray, List.set_cons_zero, List.set_cons_succ]))
  refine wpAnyH_done (by kernel_rfl) ?_ _
  go_upto_region 23 with (first
    | (go_at_call 20; go_must (refine (hal.out _ (by repeat (first | (with_reducible exact Below.refl _ _) | (with_reducible refine Below.drew ?_) | (with_reducible refine below_drewN ?_ _) | ((with_reducible refine Below.alloc ?_ ?_ _); rotate_left; focus ((try simp) <;> omega)) | ((with_reducible refine Below.setCell ?_ ?_ _); rotate_left; focus ((try simp) <;> omega)) | ((with_reducible refine Below.trans ?_ (Below.mono (by assumption) ?_)); rotate_left; focus ((try simp) <;> omega))))).mono ?_; rintro e w6 ⟨v6, rfl, hown6, hb6⟩; have hz6 := hb6.size; (try simp at hz6); have hza6 : w.heap.size < w6.heap.size := (by omega); have hzb6 : w.heap.size + 1 < w6.heap.size := (by omega); obtain ⟨p6, f6⟩ := blk_at hb6 w.heap.size (by (try simp) <;> omega); obtain ⟨pp6, ff6⟩ := blk_at hb6 (w.heap.size + 1) (by (try simp) <;> omega); obtain ⟨A6, c6, rfl, _, _, _⟩ := hown6.form; have hrd6 := Lib.hid (hown6.reads jRefE_len); clear hown6))
    | (go_at_call 18; go_must (refine (hfi.out _ (by repeat (first | (with_reducible exact Below.refl _ _) | (with_reducible refine Below.drew ?_) | (with_reducible refine below_drewN ?_ _) | ((with_reducible refine Below.alloc ?_ ?_ _); rotate_left; focus ((try simp) <;> omega)) | ((with_reducible refine Below.setCell ?_ ?_ _); rotate_left; focus ((try simp) <;> omega)) | ((with_reducible refine Below.trans ?_ (Below.mono (by assumption) ?_)); rotate_left; focus ((try simp) <;> omega))))).mono ?_; rintro e w8 ⟨rfl, rfl⟩; have hgb : Below w.heap.size w w6 := (by repeat (first | (with_reducible exact Below.refl _ _) | (with_reducible refine Below.drew ?_) | (with_reducible refine below_drewN ?_ _) | ((with_reducible refine Below.alloc ?_ ?_ _); rotate_left; focus ((try simp) <;> omega)) | ((with_reducible refine Below.setCell ?_ ?_ _); rotate_left; focus ((try simp) <;> omega)) | ((with_reducible refine Below.trans ?_ (Below.mono (by assumption) ?_)); rotate_left; focus ((try simp) <;> omega)))); obtain ⟨gc, gf⟩ := blk_low hgb g hgw; have t0 := (gc _).trans q0; have t1 := (gc _).trans q1; have t2 := (gc _).trans q2; have t3 := (gc _).trans q3; have rr0 : w6.cell? ⟨w.heap.size, 0, none⟩ = some (.string r.run.1) := (by go_simp); have rr1 : w6.cell? ⟨w.heap.size, 1, none⟩ = some (.string r.job.1) := (by go_simp); have tt0 : w6.cell? ⟨w.heap.size + 1, 0, none⟩ = some (.bool false) := (by go_simp); have tt1 : w6.cell? ⟨w.heap.size + 1, 1, none⟩ = some (.slice none 0 0) := (by go_simp); have ttf : ∀ o, w6.frozen? ⟨w.heap.size + 1, o, none⟩ = false := (fun o => by go_simp); have hq61 : w.heap.size < w6.heap.size := (by omega); have hq62 : w.heap.size < w6.heap.size + 1 := (by omega); have hq63 : w.heap.size < w6.heap.size + 1 + 1 := (by omega); have hq64 : w.heap.size + 1 < w6.heap.size := (by omega); clear gc gf hgb p1 p2 p3 p4 p5 p6 f1 f2 f3 f4 f5 f6 pp1 pp2 pp3 pp4 pp5 pp6 ff1 ff2 ff3 ff4 ff5 ff6))
    | (first
      | (at_builtin
         refine wpList_append_rw _ rfl (.tmp 82) (.tmp 84) _ rfl jRefE_len jRefE_one (w6.heap.size + 2) 29 inf _ 32 Tryd.underlying33 hi0 iz0 iz1 iz2 rfl (by omega) (.slice none 0 0) [] rfl ?_ (w.heap.size) x.waitA x.wait.length x.waitC x.wait rfl rfl ?_ ?_ ?_ ?_ ?_
         · exact Own.nil _ _ _
         · exact Rw.below hxr.out (by repeat (first | (with_reducible exact Below.refl _ _) | (with_reducible refine Below.drew ?_) | (with_reducible refine below_drewN ?_ _) | ((with_reducible refine Below.alloc ?_ ?_ _); rotate_left; focus ((try simp) <;> omega)) | ((with_reducible refine Below.setCell ?_ ?_ _); rotate_left; focus ((try simp) <;> omega)) | ((with_reducible refine Below.trans ?_ (Below.mono (by assumption) ?_)); rotate_left; focus ((try simp) <;> omega)))) (Nat.le_refl _)
         · (try simp [maxLen]) <;> omega
         · (try simp) <;> omega
         · (try simp) <;> omega
         intro v9 w9 hown9 hg9 hat9
         have hb9 := (Below.refl (w6.heap.size + 2) _).grown hg9 (by (try simp) <;> omega) (fun q hq => (by simp [Value.ownBlock] at hq))
         have hz9 := hg9.size
         (try simp at hz9)
         obtain ⟨L9, hL9⟩ : ∃ L, [] ++ x.wait = L := ⟨_, rfl⟩
         rw [hL9] at hown9
         have hLl9 : L9.length ≤ 9 * 1000000 := (by rw [← hL9]; (try simp) <;> omega)
         replace hL9 := Lib.hid hL9
         obtain ⟨ya9, yb9⟩ := blk_low hb9 w.heap.size (by omega); obtain ⟨yc9, yd9⟩ := blk_low hb9 (w.heap.size + 1) (by omega); obtain ⟨ye9, yf9⟩ := blk_low hb9 w6.heap.size (by omega); obtain ⟨yg9, yh9⟩ := blk_low hb9 (w6.heap.size + 1) (by omega)
         have ra9 : w9.cell? ⟨w.heap.size, 0, none⟩ = some (.string r.run.1) := (ya9 _).trans (by go_simp); have rb9 : w9.cell? ⟨w.heap.size, 1, none⟩ = some (.string r.job.1) := (ya9 _).trans (by go_simp); have rc9 : w9.cell? ⟨w.heap.size + 1, 0, none⟩ = some (.bool false) := (yc9 _).trans (by go_simp); have rd9 : w9.cell? ⟨w.heap.size + 1, 1, none⟩ = some (.slice none 0 0) := (yc9 _).trans (by go_simp); have re9 : ∀ o, w9.frozen? ⟨w.heap.size + 1, o, none⟩ = false := (fun o => (yd9 o).trans (by go_simp)); have rf9 : w9.cell? ⟨w6.heap.size, 0, none⟩ = some (.string x.name.1) := (ye9 _).trans (by go_simp); have rg9 : w9.cell? ⟨w6.heap.size, 1, none⟩ = some (.string x.run.1) := (ye9 _).trans (by go_simp); have rh9 : w9.cell? ⟨w6.heap.size, 2, none⟩ = some (.string x.job.1) := (ye9 _).trans (by go_simp); have ri9 : w9.cell? ⟨w6.heap.size, 3, none⟩ = some (.slice x.waitA x.wait.length x.waitC) := (ye9 _).trans (by go_simp); have rj9 : ∀ o, w9.frozen? ⟨w6.heap.size, o, none⟩ = false := (fun o => (yf9 o).trans (by go_simp)); clear ya9 yb9 yc9 yd9 ye9 yf9
         have hy9 : w6.heap.size + 1 < w9.heap.size := (by omega)
         have hx9 : w6.heap.size < w9.heap.size := (by omega)
         have hu9 : w.heap.size < w9.heap.size := (by omega)
         have ht9 : w.heap.size + 1 < w9.heap.size := (by omega)
         obtain ⟨A9, C9, rfl, _, _, _⟩ := hown9.form
         skip
         clear hg9 hat9)
      | fail)
    | (first
      | (at_builtin
         refine wpList_append_rw _ rfl (.tmp 92) (.tmp 94) _ rfl jRefE_len jRefE_one (w6.heap.size + 2) 29 inf _ 32 Tryd.underlying33 hi0 iz0 iz1 iz2 rfl (by omega) (.slice A9 L9.length C9) L9 rfl ?_ (w9.heap.size + 1) _ 1 1 [r] rfl rfl ?_ ?_ ?_ ?_ ?_
         · exact hown9.all (by repeat (first | (with_reducible exact Below.refl _ _) | (with_reducible refine Below.drew ?_) | (with_reducible refine below_drewN ?_ _) | ((with_reducible refine Below.alloc ?_ ?_ _); rotate_left; focus ((try simp) <;> omega)) | ((with_reducible refine Below.setCell ?_ ?_ _); rotate_left; focus ((try simp) <;> omega)) | ((with_reducible refine Below.trans ?_ (Below.mono (by assumption) ?_)); rotate_left; focus ((try simp) <;> omega))))
         · exact rw_litJ (by simp) (by (try simp) <;> omega)
         · (try simp [maxLen]) <;> omega
         · (try simp) <;> omega
         · (try simp) <;> omega
         intro v10 w10 hown10 hg10 hat10
         have hb10 := (Below.refl (w6.heap.size + 2) _).grown hg10 (by (try simp) <;> omega) (fun q hq => (hown9.lt q hq).1)
         have hz10 := hg10.size
         (try simp at hz10)
         obtain ⟨L10, hL10⟩ : ∃ L, L9 ++ [r] = L := ⟨_, rfl⟩
         rw [hL10] at hown10
         have hLl10 : L10.length ≤ 10 * 1000000 := (by rw [← hL10]; (try simp) <;> omega)
         replace hL10 := Lib.hid hL10
         obtain ⟨ya10, yb10⟩ := blk_low hb10 w.heap.size (by omega); obtain ⟨yc10, yd10⟩ := blk_low hb10 (w.heap.size + 1) (by omega); obtain ⟨ye10, yf10⟩ := blk_low hb10 w6.heap.size (by omega); obtain ⟨yg10, yh10⟩ := blk_low hb10 (w6.heap.size + 1) (by omega)
         have ra10 : w10.cell? ⟨w.heap.size, 0, none⟩ = some (.string r.run.1) := (ya10 _).trans (by go_simp); have rb10 : w10.cell? ⟨w.heap.size, 1, none⟩ = some (.string r.job.1) := (ya10 _).trans (by go_simp); have rc10 : w10.cell? ⟨w.heap.size + 1, 0, none⟩ = some (.bool false) := (yc10 _).trans (by go_simp); have rd10 : w10.cell? ⟨w.heap.size + 1, 1, none⟩ = some (.slice none 0 0) := (yc10 _).trans (by go_simp); have re10 : ∀ o, w10.frozen? ⟨w.heap.size + 1, o, none⟩ = false := (fun o => (yd10 o).trans (by go_simp)); have rf10 : w10.cell? ⟨w6.heap.size, 0, none⟩ = some (.string x.name.1) := (ye10 _).trans (by go_simp); have rg10 : w10.cell? ⟨w6.heap.size, 1, none⟩ = some (.string x.run.1) := (ye10 _).trans (by go_simp); have rh10 : w10.cell? ⟨w6.heap.size, 2, none⟩ = some (.string x.job.1) := (ye10 _).trans (by go_simp); have ri10 : w10.cell? ⟨w6.heap.size, 3, none⟩ = some (.slice x.waitA x.wait.length x.waitC) := (ye10 _).trans (by go_simp); have rj10 : ∀ o, w10.frozen? ⟨w6.heap.size, o, none⟩ = false := (fun o => (yf10 o).trans (by go_simp)); clear ya10 yb10 yc10 yd10 ye10 yf10
         have hy10 : w6.heap.size + 1 < w10.heap.size := (by omega)
         have hx10 : w6.heap.size < w10.heap.size := (by omega)
         have hu10 : w.heap.size < w10.heap.size := (by omega)
         have ht10 : w.heap.size + 1 < w10.heap.size := (by omega)
         obtain ⟨A10, C10, rfl, _, _, _⟩ := hown10.form
         skip
         clear hg10 hat10)
      | fail))
  have hcan : Own jRefE 2 29 w10 (w6.heap.size + 2) (.slice none 0 0) [] := Own.nil _ _ _
  have hsY : Own jRefE 2 29 (w10.setCell ⟨w6.heap.size, 3, none⟩ (.slice A10 L10.length C10)) (w6.heap.size + 2) (.slice A10 L10.length C10) L10 := hown10.setCell (fun q hq e => by have := (hown10.lt q hq).1; (try simp at e); omega) _
  have hYb := Lib.hid (show OwnG (w10.setCell ⟨w6.heap.size, 3, none⟩ (.slice A10 L10.length C10)) (w6.heap.size + 2) (⟨x.name, x.run, x.job, A10, C10, L10⟩ : Grp) from hsY)
  have hCb := Lib.hid (show Own jRefE 2 29 (w10.setCell ⟨w6.heap.size, 3, none⟩ (.slice A10 L10.length C10)) (w6.heap.size + 2) (.slice none 0 0) [] from hcan.setCell (fun q hq e => by have := (hcan.lt q hq).1; (try simp at e); omega) _)
  have s3' : w10.cell? ⟨w6.heap.size, 3, none⟩ = some (.slice x.waitA x.wait.length x.waitC) := by go_simp
  have s0 : (w10.setCell ⟨w6.heap.size, 3, none⟩ (.slice A10 L10.length C10)).cell? ⟨w6.heap.size, 0, none⟩ = some (.string x.name.1) := by go_simp
  have s1 : (w10.setCell ⟨w6.heap.size, 3, none⟩ (.slice A10 L10.length C10)).cell? ⟨w6.heap.size, 1, none⟩ = some (.string x.run.1) := by go_simp
  have s2 : (w10.setCell ⟨w6.heap.size, 3, none⟩ (.slice A10 L10.length C10)).cell? ⟨w6.heap.size, 2, none⟩ = some (.string x.job.1) := by go_simp
  have s3 : (w10.setCell ⟨w6.heap.size, 3, none⟩ (.slice A10 L10.length C10)).cell? ⟨w6.heap.size, 3, none⟩ = some (.slice A10 L10.length C10) := World.cell?_setCell_same _ _ _ s3'
  have s4 : (w10.setCell ⟨w6.heap.size, 3, none⟩ (.slice A10 L10.length C10)).cell? ⟨w6.heap.size + 1, 0, none⟩ = some (.bool false) := by go_simp
  have s5 : (w10.setCell ⟨w6.heap.size, 3, none⟩ (.slice A10 L10.length C10)).cell? ⟨w6.heap.size + 1, 1, none⟩ = some (.slice none 0 0) := by go_simp
  have n0 : (w10.setCell ⟨w6.heap.size, 3, none⟩ (.slice A10 L10.length C10)).cell? ⟨w.heap.size + 1, 0, none⟩ = some (.bool false) := by go_simp
  have n1 : (w10.setCell ⟨w6.heap.size, 3, none⟩ (.slice A10 L10.length C10)).cell? ⟨w.heap.size + 1, 1, none⟩ = some (.slice none 0 0) := by go_simp
  have nf : ∀ o, (w10.setCell ⟨w6.heap.size, 3, none⟩ (.slice A10 L10.length C10)).frozen? ⟨w.heap.size + 1, o, none⟩ = false := fun o => by go_simp
  have hbb : Below w.heap.size w (w10.setCell ⟨w6.heap.size, 3, none⟩ (.slice A10 L10.length C10)) := (by repeat (first | (with_reducible exact Below.refl _ _) | (with_reducible refine Below.drew ?_) | (with_reducible refine below_drewN ?_ _) | ((with_reducible refine Below.alloc ?_ ?_ _); rotate_left; focus ((try simp) <;> omega)) | ((with_reducible refine Below.setCell ?_ ?_ _); rotate_left; focus ((try simp) <;> omega)) | ((with_reducible refine Below.trans ?_ (Below.mono (by assumption) ?_)); rotate_left; focus ((try simp) <;> omega))))
  have hzb : w10.heap.size ≤ (w10.setCell ⟨w6.heap.size, 3, none⟩ (.slice A10 L10.length C10)).heap.size := Nat.le_of_eq (World.size_setCell ..).symm
  clear hsY s3' hcan
  replace hown10 := Lib.hid hown10
  generalize (w10.setCell ⟨w6.heap.size, 3, none⟩ (.slice A10 L10.length C10)) = wb at *
  have hxb1 : w6.heap.size < wb.heap.size := by omega
  have hxb2 : w6.heap.size + 1 < wb.heap.size := by omega
  have hxb3 : w.heap.size + 1 < wb.heap.size := by omega
  have hn1 : w.heap.size + 1 ≠ w6.heap.size := by omega
  have hn2 : w.heap.size + 1 ≠ w6.heap.size + 1 := by omega
  go_region_held3 (fun w' => w'.cell? ⟨w6.heap.size, 0, none⟩ = some (.string x.name.1) ∧ w'.cell? ⟨w6.heap.size, 1, none⟩ = some (.string x.run.1) ∧ w'.cell? ⟨w6.heap.size, 2, none⟩ = some (.string x.job.1) ∧ w'.cell? ⟨w6.heap.size, 3, none⟩ = some (.slice A10 L10.length C10) ∧ w'.cell? ⟨w6.heap.size + 1, 0, none⟩ = some (.bool false) ∧ w'.cell? ⟨w6.heap.size + 1, 1, none⟩ = some (.slice none 0 0)) (first | (go_keep; done) | (go_simp; done) | go_keep)
    (first | (go_at_call 46; go_must (refine (rput_own _ c l (⟨x.name, x.run, x.job, A10, C10, L10⟩ : Grp) _ (hback.out _ (by repeat (first | (with_reducible exact Below.refl _ _) | (with_reducible refine Below.drew ?_) | (with_reducible refine below_drewN ?_ _) | ((with_reducible refine Below.alloc ?_ ?_ _); rotate_left; focus ((try simp) <;> omega)) | ((with_reducible refine Below.setCell ?_ ?_ _); rotate_left; focus ((try simp) <;> omega)) | ((with_reducible refine Below.trans ?_ (Below.mono (by assumption) ?_)); rotate_left; focus ((try simp) <;> omega))))) (OwnG.lab (OwnG.all hYb.out (by repeat (first | (with_reducible exact Below.refl _ _) | (with_reducible refine Below.drew ?_) | (with_reducible refine below_drewN ?_ _) | ((with_reducible refine Below.alloc ?_ ?_ _); rotate_left; focus ((try simp) <;> omega)) | ((with_reducible refine Below.setCell ?_ ?_ _); rotate_left; focus ((try simp) <;> omega)) | ((with_reducible refine Below.trans ?_ (Below.mono (by assumption) ?_)); rotate_left; focus ((try simp) <;> omega)))))) ha.out hlm).mono ?_; rintro e w7 ⟨A7, c7, L7, rfl, ho7, hin7, hm7, hb7⟩; have hz7 := hb7.size; (try simp at hz7); obtain ⟨xa, xb⟩ := blk_at hb7 (w.heap.size + 1) (by (try simp) <;> omega); obtain ⟨xc, xd⟩ := blk_at hb7 w6.heap.size (by (try simp) <;> omega); obtain ⟨xe, xf⟩ := blk_at hb7 (w6.heap.size + 1) (by (try simp) <;> omega); have hx7a : w6.heap.size < w7.heap.size := (by omega); have hx7b : w6.heap.size + 1 < w7.heap.size := (by omega); have hx7c : w.heap.size + 1 < w7.heap.size := (by omega); have ho7h := Lib.hid ho7; have hin7h := Lib.hid hin7; have hm7h := Lib.hid hm7; clear ho7 hin7 hm7)))
  go_wp2_with fail
  have m0 : w7.cell? ⟨w.heap.size + 1, 0, none⟩ = some (.bool false) := by go_simp
  have m1 : w7.cell? ⟨w.heap.size + 1, 1, none⟩ = some (.slice none 0 0) := by go_simp
  have hBw : Below w.heap.size w w7 := (by repeat (first | (with_reducible exact Below.refl _ _) | (with_reducible refine Below.drew ?_) | (with_reducible refine below_drewN ?_ _) | ((with_reducible refine Below.alloc ?_ ?_ _); rotate_left; focus ((try simp) <;> omega)) | ((with_reducible refine Below.setCell ?_ ?_ _); rotate_left; focus ((try simp) <;> omega)) | ((with_reducible refine Below.trans ?_ (Below.mono (by assumption) ?_)); rotate_left; focus ((try simp) <;> omega))))
  have hBb : Below wb.heap.size wb w7 := by first | exact ((Below.refl wb.heap.size wb).drew).trans hb7 | exact (Below.refl wb.heap.size wb).trans hb7 | exact (by repeat (first | (with_reducible exact Below.refl _ _) | (with_reducible refine Below.drew ?_) | (with_reducible refine below_drewN ?_ _) | ((with_reducible refine Below.alloc ?_ ?_ _); rotate_left; focus ((try simp) <;> omega)) | ((with_reducible refine Below.setCell ?_ ?_ _); rotate_left; focus ((try simp) <;> omega)) | ((with_reducible refine Below.trans ?_ (Below.mono (by assumption) ?_)); rotate_left; focus ((try simp) <;> omega))))
  obtain ⟨z0, z1⟩ := fin2_cells (u0 := .bool false) (u1 := .slice none 0 0) m0 m1
  have hB9 := Lib.hid (hBw.trans (fin2_below (u0 := .bool false) (u1 := .slice none 0 0) (show w.heap.size ≤ w.heap.size + 1 by omega)))
  have ho9 := Lib.hid (fin2_row (b := w.heap.size + 1) (u0 := .bool false) (u1 := .slice none 0 0) ho7h.out (by (try simp) <;> omega))
  have hY9 := Lib.hid (show OwnG (fin2 w7 (w.heap.size + 1) (.bool false) (.slice none 0 0)) (w6.heap.size + 2) (⟨x.name, x.run, x.job, A10, C10, L10⟩ : Grp) from fin2_row (Own.all (show Own jRefE 2 29 wb (w6.heap.size + 2) (.slice A10 L10.length C10) L10 from hYb.out) hBb) (by omega))
  have hC9 := Lib.hid (fin2_row (b := w.heap.size + 1) (u0 := .bool false) (u1 := .slice none 0 0) (Own.all hCb.out hBb) (by omega))
  obtain ⟨_, _, e2, hc7, _⟩ := ho7h.out.form
  simp only [Value.slice.injEq] at e2
  obtain ⟨rfl, -, rfl⟩ := e2
  have hpc : Hid (joinCan x.g 0 = []) := Lib.hid (by exact hjc'.out)
  have hpg : Hid (((⟨x.name, x.run, x.job, A10, C10, L10⟩ : Grp)).g = joinG x.g r 0) := Lib.hid (by rw [hjg'.out, ← hL10.out, ← hL9.out]; rfl)
  change bodyPost _ _ _ _ _ (fin2 w7 (w.heap.size + 1) (.bool false) (.slice none 0 0))
  generalize fin2 w7 (w.heap.size + 1) (.bool false) (.slice none 0 0) = w9 at *
  exact bodyPost_ret (v := .tuple #[.slice A7 L7.length c7, .agg #[.bool false, .slice none 0 0], .int .i64 0]) (by simp [results, Tryd.results15, go_sem, z0, z1]) rfl ⟨A7, c7, L7, none, 0, by rw [hpc.out] <;> rfl, ⟨ho9.out.reads grpE_len, fun y hy => by
    rcases hin7h.out y hy with h | rfl
    · exact (hback.out _ hB9.out).labs y h
    · exact OwnG.lab hY9.out⟩, hc7, by rw [hm7h.out, hpg.out], by rw [hpc.out]; exact hC9.out.reads jRefE_len, hB9.out⟩
set_option maxRecDepth 100000 in
set_option maxHeartbeats 8000000 in
theorem renter_cancel (A : Option Addr) (c : Nat) (l : List Grp) (p : Str) (r : JRef) (P : I64) (w : World) (hr : RwG w w.heap.size A l) (hm : Mild l) (hp : p.1.size < 4294967281) (hs : shortR r) (hE : enterE (l.map Grp.g) p r P.1 = 0) (hh : hasN p (l.map Grp.g) = true) (hP : P.1 ≠ 0) (hP2 : ¬ (P.1 = 2 ∧ (getG (l.map Grp.g) p).rn ≠ zR)) :
    Calls Tryd.prog 15 #[.slice A l.length c, .string p.1, .agg #[.string r.run.1, .string r.job.1], .int .i64 P.1] w (fun e w' => ∃ (A' : Option Addr) (c' : Nat) (l' : List Grp) (Ac : Option Addr) (Cc : Nat), e = .returned (.tuple #[.slice A' l'.length c', .agg #[.bool (enterRun (l.map Grp.g) p r P.1), .slice Ac (enterCan (l.map Grp.g) p r P.1).length Cc], .int .i64 (enterE (l.map Grp.g) p r P.1)]) ∧ RwG w' w'.heap.size A' l' ∧ l'.length ≤ c' ∧ l'.map Grp.g = enterL (l.map Grp.g) p r P.1 ∧ Rw jRefE 2 w' w'.heap.size Ac (enterCan (l.map Grp.g) p r P.1) ∧ Below w.heap.size w w') := by
  have hP2' := Lib.hid hP2
  clear hP2
  obtain ⟨inf, hi0, iz0, iz1, iz2⟩ := info_three ref_info
  obtain ⟨hv0, hj, hpp, h0, h2, hi, hl⟩ := enterE_ok hE
  have hv := val_iff.2 hv0
  have hRun : enterRun (l.map Grp.g) p r P.1 = joinRun (getG (l.map Grp.g) p) := by unfold enterRun; rw [if_neg (by rw [hE]; decide)]
  have hCan : enterCan (l.map Grp.g) p r P.1 = joinCan (getG (l.map Grp.g) p) P.1 := by unfold enterCan; rw [if_neg (by rw [hE]; decide)]
  have hLst : enterL (l.map Grp.g) p r P.1 = putG (l.map Grp.g) (joinG (getG (l.map Grp.g) p) r P.1) := by unfold enterL; rw [if_neg (by rw [hE]; decide)]
  rw [hRun, hCan, hLst, hE]
  clear hRun hCan hLst hE
  have hva : ∀ W, Below w.heap.size w W → Calls Tryd.prog 11 #[.slice A l.length c] W fun e w' => e = .returned (.int .i64 (validE (l.map Grp.g))) ∧ Below W.heap.size W w' := fun W hb => rvalid_any A c l W ((hr.below hb (Nat.le_refl _)).more hb.size) hm
  have hal : ∀ W, Below w.heap.size w W → Calls Tryd.prog 20 #[.slice A l.length c] W fun e w' => ∃ v, e = .returned v ∧ Own jRefE 2 29 w' W.heap.size v (allG (l.map Grp.g)) ∧ Below W.heap.size W w' := fun W hb => rall_any A c l W ((hr.below hb (Nat.le_refl _)).more hb.size) hm.all hm.wait hm.len
  have hja : ∀ W, Below w.heap.size w W → Calls Tryd.prog 37 #[.agg #[.string r.run.1, .string r.job.1]] W fun e w' => e = .returned (.bool (jobB r)) ∧ Below W.heap.size W w' := fun W hb => rjob_any r W hs
  have hpa : ∀ W, Below w.heap.size w W → Calls Tryd.prog 34 #[.string p.1] W fun e w' => e = .returned (.bool (pathB p)) ∧ Below W.heap.size W w' := fun W hb => rpath_any p W hp
  have hln : (allG (l.map Grp.g)).length ≤ 9223372036854775807 := by have := hm.all; omega
  have hha : ∀ (W : World) (A1 : Option Addr) (c1 : Nat), Rw jRefE 2 W W.heap.size A1 (allG (l.map Grp.g)) → Calls Tryd.prog 38 #[.slice A1 (allG (l.map Grp.g)).length c1, .agg #[.string r.run.1, .string r.job.1]] W fun e w' => e = .returned (.bool (hasR (allG (l.map Grp.g)) r)) ∧ Below W.heap.size W w' := fun W A1 c1 h => (rhas_any A1 c1 (allG (l.map Grp.g)) r W h hln).mono fun e w' h => ⟨h.1, h.2⟩
  rw [show validE (l.map Grp.g) = 0 by unfold validE; rw [hv]; rfl] at hva
  rw [hj] at hja
  rw [hpp] at hpa
  rw [show hasR (allG (l.map Grp.g)) r = false from decide_eq_false hi] at hha
  have hq0 : ¬ P.1 < 0 := by omega
  have hq2 : ¬ 2 < P.1 := by omega
  have hl2 : ¬ (4096 : Int) ≤ ((allG (l.map Grp.g)).length : Int) := by omega
  clear hl
  have hfi : ∀ W, Below w.heap.size w W → Calls Tryd.prog 18 #[.slice A l.length c, .string p.1] W fun e w' => e = .returned (.int .i64 (findN p (l.map Grp.g))) ∧ W = w' := fun W hb => rfind_any A c l p W ((hr.row.below hb (Nat.le_refl _)).more hb.size) (by have := hm.len; omega)
  have hback : Hid (∀ W, Below w.heap.size w W → RwG W W.heap.size A l) := Lib.hid fun W hb => (hr.below hb (Nat.le_refl _)).more hb.size
  have hlm := hm.len
  have ha := Lib.hid hv0.asc
  have hfc := find_neg hv0.asc p
  replace hi := Lib.hid hi
  have hF : findN p (l.map Grp.g) = (atN p (l.map Grp.g) : Int) := by
    rcases hfc with ⟨_, h⟩ | ⟨h, _⟩
    · exact h
    · rw [hh] at h; cases h
  rw [hF] at hfi
  obtain ⟨x, hx, hxb, hxp⟩ := at_grp hh
  have hgp : getG (l.map Grp.g) p = x.g := by unfold getG; rw [if_pos hh, hxb]
  rw [hgp]
  have hat := (List.getElem?_eq_some_iff.1 hx).1
  obtain ⟨k, hk⟩ : ∃ k, atN p (l.map Grp.g) = k := ⟨_, rfl⟩
  rw [hk] at hfi hx hat
  obtain ⟨g, o, rfl, hg, q⟩ := hr.row (by omega)
  replace q := q k x hx
  have q0 := q 0 (.string x.name.1) rfl
  try rw [Nat.add_zero] at q0
  have q1 := q 1 (.string x.run.1) rfl
  have q2 := q 2 (.string x.job.1) rfl
  have q3 := q 3 (.slice x.waitA x.wait.length x.waitC) rfl
  clear q
  have i0 : (0 : Int) ≤ (k : Int) := by omega
  have i00 : ¬ (k : Int) < 0 := by omega
  have i1 : (k : Int) < (l.length : Int) := by omega
  have hxm := List.mem_of_getElem? hx
  have hxr := Lib.hid (hr.labs x hxm).2.2
  have hxl := hm.wait x hxm
  have hjne : jobsG x.g ≠ [] := hv0.some x.g (List.mem_map_of_mem hxm)
  have hq := refB_zero x.run x.job
  have hz : ¬ (x.g.rn = zR ∧ x.g.wait = []) := fun h => hjne (by unfold jobsG; rw [if_pos h.1]; exact h.2)
  have hjr : joinRun x.g = false := by
    unfold joinRun
    rcases Decidable.em (x.g.rn = zR) with h | h
    · rw [decide_eq_false (show ¬ x.g.wait = [] from fun e => hz ⟨h, e⟩), Bool.and_false]
    · rw [decide_eq_false h, Bool.false_and]
  have hjg := join_old (r := r) (p := P.1) hjne
  have hgw : g < w.heap.size := hg
  rw [hjr]
  clear hF hfc hgp h0 h2 hxb hxm hat hjr hjne
  replace hh := Lib.hid hh
  replace hk := Lib.hid hk
  replace hx := Lib.hid hx
  replace hxp := Lib.hid hxp
  replace hv0 := Lib.hid hv0
  replace hfi := Lib.hid hfi
  have hP3 : ¬ (P.1 = 2 ∧ x.g.rn ≠ zR) := by have h := hP2'.out; unfold getG at h; rw [if_pos hh.out, hk.out, get_bang (show (l.map Grp.g)[k]? = some x.g by rw [List.getElem?_map, hx.out]; rfl)] at h; exact h
  have hjc : joinCan x.g P.1 = x.wait := by unfold joinCan; rw [if_neg hz, if_neg hP3, if_neg hP]; rfl
  rw [if_neg hP] at hjg
  have hjg' := Lib.hid hjg
  have hjc' := Lib.hid hjc
  clear hjg hjc hz
  have hb0 : (P.1 == 0) = false := by simpa using hP
  have h3 : (P.1 == 2) = false ∨ ((P.1 == 2) = true ∧ refB x.run.1 x.job.1 ⟨#[]⟩ ⟨#[]⟩ = true) := by
    by_cases h2 : P.1 = 2
    · refine .inr ⟨by simpa using h2, hq.trans (decide_eq_true ?_)⟩
      exact Decidable.byContradiction fun e => hP3 ⟨h2, e⟩
    · exact .inl (by simpa using h2)
  clear hP hP3
  replace hq := Lib.hid hq
  replace hva := Lib.hid hva
  replace hal := Lib.hid hal
  replace hja := Lib.hid hja
  replace hpa := Lib.hid hpa
  replace hha := Lib.hid hha
  replace hv := Lib.hid hv
  try replace hj := Lib.hid hj
  try replace hpp := Lib.hid hpp
  replace hr := Lib.hid hr
  replace hm := Lib.hid hm
  replace hs := Lib.hid hs
  clear hln hp
  rcases h3 with h3 | ⟨h3, hs0⟩
  all_goals
    go_enter Tryd.func15, Tryd.ntmps15
    go_wp2_with (first | (go_at_call 11; go_must (refine (hva.out _ (by repeat (first | (with_reducible exact Below.refl _ _) | (with_reducible refine Below.drew ?_) | (with_reducible refine below_drewN ?_ _) | ((with_reducible refine Below.alloc ?_ ?_ _); rotate_left; focus ((try simp) <;> omega)) | ((with_reducible refine Below.setCell ?_ ?_ _); rotate_left; focus ((try simp) <;> omega)) | ((with_reducible refine Below.trans ?_ (Below.mono (by assumption) ?_)); rotate_left; focus ((try simp) <;> omega))))).mono ?_; rintro e w1 ⟨rfl, hb1⟩; have hz1 := hb1.size; (try simp at hz1); have hza1 : w.heap.size < w1.heap.size := (by omega); have hzb1 : w.heap.size + 1 < w1.heap.size := (by omega); obtain ⟨p1, f1⟩ := blk_at hb1 w.heap.size (by (try simp) <;> omega); obtain ⟨pp1, ff1⟩ := blk_at hb1 (w.heap.size + 1) (by (try simp) <;> omega))) | (go_at_call 37; go_must (refine (hja.out _ (by repeat (first | (with_reducible exact Below.refl _ _) | (with_reducible refine Below.drew ?_) | (with_reducible refine below_drewN ?_ _) | ((with_reducible refine Below.alloc ?_ ?_ _); rotate_left; focus ((try simp) <;> omega)) | ((with_reducible refine Below.setCell ?_ ?_ _); rotate_left; focus ((try simp) <;> omega)) | ((with_reducible refine Below.trans ?_ (Below.mono (by assumption) ?_)); rotate_left; focus ((try simp) <;> omega))))).mono ?_; rintro e w2 ⟨rfl, hb2⟩; have hz2 := hb2.size; (try simp at hz2); have hza2 : w.heap.size < w2.heap.size := (by omega); have hzb2 : w.heap.size + 1 < w2.heap.size := (by omega); obtain ⟨p2, f2⟩ := blk_at hb2 w.heap.size (by (try simp) <;> omega); obtain ⟨pp2, ff2⟩ := blk_at hb2 (w.heap.size + 1) (by (try simp) <;> omega))) | (go_at_call 34; go_must (refine (hpa.out _ (by repeat (first | (with_reducible exact Below.refl _ _) | (with_reducible refine Below.drew ?_) | (with_reducible refine below_drewN ?_ _) | ((with_reducible refine Below.alloc ?_ ?_ _); rotate_left; focus ((try simp) <;> omega)) | ((with_reducible refine Below.setCell ?_ ?_ _); rotate_left; focus ((try simp) <;> omega)) | ((with_reducible refine Below.trans ?_ (Below.mono (by assumption) ?_)); rotate_left; focus ((try simp) <;> omega))))).mono ?_; rintro e w3 ⟨rfl, hb3⟩; have hz3 := hb3.size; (try simp at hz3); have hza3 : w.heap.size < w3.heap.size := (by omega); have hzb3 : w.heap.size + 1 < w3.heap.size := (by omega); obtain ⟨p3, f3⟩ := blk_at hb3 w.heap.size (by (try simp) <;> omega); obtain ⟨pp3, ff3⟩ := blk_at hb3 (w.heap.size + 1) (by (try simp) <;> omega))))
    refine wp_region_held_drew (S := fun w' => w'.cell? ⟨w.heap.size, 0, none⟩ = some (.string r.run.1) ∧ w'.cell? ⟨w.heap.size, 1, none⟩ = some (.string r.job.1)) (by kernel_rfl) ?_ (fun hHeld => ?_)
    · first | (dsimp only; go_keep; done) | (go_keep; done) | (go_simp; done)
    rw [show (Array.replicate _ false : Array Bool) = #[false, false, false, false] from rfl]
    (refine wpAnyH_take (i := 0) (oi := Oper.mk _ _ _ _ _ _) (v := ?_) rfl (by kernel_rfl) (by kernel_rfl) (by kernel_rfl) (fun _ _ _ h => h) ?_ (by assumption) ?_; rotate_left; (focus (refine Or.inl ⟨by rfl, ?_⟩; intro wS hSw; (try dsimp only at hSw); go_simp; first | done | with_reducible rfl)); simp only [Act.put, List.setIfInBounds_toArray, List.set_cons_zero, List.set_cons_succ])
    (refine wpAnyH_take (i := 2) (oi := Oper.mk _ _ _ _ _ _) (v := ?_) rfl (by kernel_rfl) (by kernel_rfl) (by kernel_rfl) (fun _ _ _ h => h) ?_ (by assumption) ?_; rotate_left; (focus (refine Or.inl ⟨by rfl, ?_⟩; intro wS hSw; (try dsimp only at hSw); go_simp; first | done | with_reducible rfl)); simp only [Act.put, List.setIfInBounds_toArray, List.set_cons_zero, List.set_cons_succ])
    (refine wpAnyH_ready (rs := [1]) (by kernel_rfl) (by simp) ?_
     refine AllReadyH.cons (o := Oper.mk _ _ _ _ _ _) rfl (fun K hK => ?_) AllReadyH.nil
     go_simp
     (go_at_call 20; go_must (refine (hal.out _ (by repeat (first | (with_reducible exact Below.refl _ _) | (with_reducible refine Below.drew ?_) | (with_reducible refine below_drewN ?_ _) | ((with_reducible refine Below.alloc ?_ ?_ _); rotate_left; focus ((try simp) <;> omega)) | ((with_reducible refine Below.setCell ?_ ?_ _); rotate_left; focus ((try simp) <;> omega)) | ((with_reducible refine Below.trans ?_ (Below.mono (by assumption) ?_)); rotate_left; focus ((try simp) <;> omega))))).mono ?_; rintro e w4 ⟨v4, rfl, hown4, hb4⟩; have hz4 := hb4.size; (try simp at hz4); have hza4 : w.heap.size < w4.heap.size := (by omega); have hzb4 : w.heap.size + 1 < w4.heap.size := (by omega); obtain ⟨p4, f4⟩ := blk_at hb4 w.heap.size (by (try simp) <;> omega); obtain ⟨pp4, ff4⟩ := blk_at hb4 (w.heap.size + 1) (by (try simp) <;> omega); obtain ⟨A4, c4, rfl, _, _, _⟩ := hown4.form; have hrd4 := Lib.hid (hown4.reads jRefE_len); clear hown4))
     refine hK.out _ _ ?_ (fun hHeld => ?_)
     · first | (dsimp only; go_keep; done) | (go_keep; done)
     clear hK K
     (try simp only [List.setIfInBounds_toArray, List.set_cons_zero, List.set_cons_succ]))
    (refine wpAnyH_ready (rs := [3]) (by kernel_rfl) (by simp) ?_
     refine AllReadyH.cons (o := Oper.mk _ _ _ _ _ _) rfl (fun K hK => ?_) AllReadyH.nil
     go_simp
     (go_at_call 38; go_must (refine (hha.out _ A4 c4 (Rw.more (Rw.below hrd4.out (by repeat (first | (with_reducible exact Below.refl _ _) | (with_reducible refine Below.drew ?_) | (with_reducible refine below_drewN ?_ _) | ((with_reducible refine Below.alloc ?_ ?_ _); rotate_left; focus ((try simp) <;> omega)) | ((with_reducible refine Below.setCell ?_ ?_ _); rotate_left; focus ((try simp) <;> omega)) | ((with_reducible refine Below.trans ?_ (Below.mono (by assumption) ?_)); rotate_left; focus ((try simp) <;> omega)))) (Nat.le_refl _)) (by (try simp) <;> omega))).mono ?_; rintro e w5 ⟨rfl, hb5⟩; have hz5 := hb5.size; (try simp at hz5); have hza5 : w.heap.size < w5.heap.size := (by omega); have hzb5 : w.heap.size + 1 < w5.heap.size := (by omega); obtain ⟨p5, f5⟩ := blk_at hb5 w.heap.size (by (try simp) <;> omega); obtain ⟨pp5, ff5⟩ := blk_at hb5 (w.heap.size + 1) (by (try simp) <;> omega)))
     refine hK.out _ _ ?_ (fun hHeld => ?_)
     · first | (dsimp only; go_keep; done) | (go_keep; done)
     clear hK K
     (try simp only [List.setIfInBounds_toArray, List.set_cons_zero, List.set_cons_succ]))
    refine wpAnyH_done (by kernel_rfl) ?_ _
    go_upto_region 23 with (first
      | (go_at_call 20; go_must (refine (hal.out _ (by repeat (first | (with_reducible exact Below.refl _ _) | (with_reducible refine Below.drew ?_) | (with_reducible refine below_drewN ?_ _) | ((with_reducible refine Below.alloc ?_ ?_ _); rotate_left; focus ((try simp) <;> omega)) | ((with_reducible refine Below.setCell ?_ ?_ _); rotate_left; focus ((try simp) <;> omega)) | ((with_reducible refine Below.trans ?_ (Below.mono (by assumption) ?_)); rotate_left; focus ((try simp) <;> omega))))).mono ?_; rintro e w6 ⟨v6, rfl, hown6, hb6⟩; have hz6 := hb6.size; (try simp at hz6); have hza6 : w.heap.size < w6.heap.size := (by omega); have hzb6 : w.heap.size + 1 < w6.heap.size := (by omega); obtain ⟨p6, f6⟩ := blk_at hb6 w.heap.size (by (try simp) <;> omega); obtain ⟨pp6, ff6⟩ := blk_at hb6 (w.heap.size + 1) (by (try simp) <;> omega); obtain ⟨A6, c6, rfl, _, _, _⟩ := hown6.form; have hrd6 := Lib.hid (hown6.reads jRefE_len); clear hown6))
      | (go_at_call 18; go_must (refine (hfi.out _ (by repeat (first | (with_reducible exact Below.refl _ _) | (with_reducible refine Below.drew ?_) | (with_reducible refine below_drewN ?_ _) | ((with_reducible refine Below.alloc ?_ ?_ _); rotate_left; focus ((try simp) <;> omega)) | ((with_reducible refine Below.setCell ?_ ?_ _); rotate_left; focus ((try simp) <;> omega)) | ((with_reducible refine Below.trans ?_ (Below.mono (by assumption) ?_)); rotate_left; focus ((try simp) <;> omega))))).mono ?_; rintro e w8 ⟨rfl, rfl⟩; have hgb : Below w.heap.size w w6 := (by repeat (first | (with_reducible exact Below.refl _ _) | (with_reducible refine Below.drew ?_) | (with_reducible refine below_drewN ?_ _) | ((with_reducible refine Below.alloc ?_ ?_ _); rotate_left; focus ((try simp) <;> omega)) | ((with_reducible refine Below.setCell ?_ ?_ _); rotate_left; focus ((try simp) <;> omega)) | ((with_reducible refine Below.trans ?_ (Below.mono (by assumption) ?_)); rotate_left; focus ((try simp) <;> omega)))); obtain ⟨gc, gf⟩ := blk_low hgb g hgw; have t0 := (gc _).trans q0; have t1 := (gc _).trans q1; have t2 := (gc _).trans q2; have t3 := (gc _).trans q3; have rr0 : w6.cell? ⟨w.heap.size, 0, none⟩ = some (.string r.run.1) := (by go_simp); have rr1 : w6.cell? ⟨w.heap.size, 1, none⟩ = some (.string r.job.1) := (by go_simp); have tt0 : w6.cell? ⟨w.heap.size + 1, 0, none⟩ = some (.bool false) := (by go_simp); have tt1 : w6.cell? ⟨w.heap.size + 1, 1, none⟩ = some (.slice none 0 0) := (by go_simp); have ttf : ∀ o, w6.frozen? ⟨w.heap.size + 1, o, none⟩ = false := (fun o => by go_simp); have hq61 : w.heap.size < w6.heap.size := (by omega); have hq62 : w.heap.size < w6.heap.size + 1 := (by omega); have hq63 : w.heap.size < w6.heap.size + 1 + 1 := (by omega); have hq64 : w.heap.size + 1 < w6.heap.size := (by omega); clear gc gf hgb p1 p2 p3 p4 p5 p6 f1 f2 f3 f4 f5 f6 pp1 pp2 pp3 pp4 pp5 pp6 ff1 ff2 ff3 ff4 ff5 ff6))
      | (first
        | (at_builtin
           refine wpList_append_rw _ rfl (.tmp 87) (.tmp 89) _ rfl jRefE_len jRefE_one (w6.heap.size + 2) 29 inf _ 32 Tryd.underlying33 hi0 iz0 iz1 iz2 rfl (by omega) (.slice none 0 0) [] rfl ?_ (w.heap.size) x.waitA x.wait.length x.waitC x.wait rfl rfl ?_ ?_ ?_ ?_ ?_
           · exact Own.nil _ _ _
           · exact Rw.below hxr.out (by repeat (first | (with_reducible exact Below.refl _ _) | (with_reducible refine Below.drew ?_) | (with_reducible refine below_drewN ?_ _) | ((with_reducible refine Below.alloc ?_ ?_ _); rotate_left; focus ((try simp) <;> omega)) | ((with_reducible refine Below.setCell ?_ ?_ _); rotate_left; focus ((try simp) <;> omega)) | ((with_reducible refine Below.trans ?_ (Below.mono (by assumption) ?_)); rotate_left; focus ((try simp) <;> omega)))) (Nat.le_refl _)
           · (try simp [maxLen]) <;> omega
           · (try simp) <;> omega
           · (try simp) <;> omega
           intro v9 w9 hown9 hg9 hat9
           have hb9 := (Below.refl (w6.heap.size + 2) _).grown hg9 (by (try simp) <;> omega) (fun q hq => (by simp [Value.ownBlock] at hq))
           have hz9 := hg9.size
           (try simp at hz9)
           obtain ⟨L9, hL9⟩ : ∃ L, [] ++ x.wait = L := ⟨_, rfl⟩
           rw [hL9] at hown9
           have hLl9 : L9.length ≤ 9 * 1000000 := (by rw [← hL9]; (try simp) <;> omega)
           replace hL9 := Lib.hid hL9
           obtain ⟨ya9, yb9⟩ := blk_low hb9 w.heap.size (by omega); obtain ⟨yc9, yd9⟩ := blk_low hb9 (w.heap.size + 1) (by omega); obtain ⟨ye9, yf9⟩ := blk_low hb9 w6.heap.size (by omega); obtain ⟨yg9, yh9⟩ := blk_low hb9 (w6.heap.size + 1) (by omega)
           have ra9 : w9.cell? ⟨w.heap.size, 0, none⟩ = some (.string r.run.1) := (ya9 _).trans (by go_simp); have rb9 : w9.cell? ⟨w.heap.size, 1, none⟩ = some (.string r.job.1) := (ya9 _).trans (by go_simp); have rc9 : w9.cell? ⟨w.heap.size + 1, 0, none⟩ = some (.bool false) := (yc9 _).trans (by go_simp); have rd9 : w9.cell? ⟨w.heap.size + 1, 1, none⟩ = some (.slice none 0 0) := (yc9 _).trans (by go_simp); have re9 : ∀ o, w9.frozen? ⟨w.heap.size + 1, o, none⟩ = false := (fun o => (yd9 o).trans (by go_simp)); have rf9 : w9.cell? ⟨w6.heap.size, 0, none⟩ = some (.string x.name.1) := (ye9 _).trans (by go_simp); have rg9 : w9.cell? ⟨w6.heap.size, 1, none⟩ = some (.string x.run.1) := (ye9 _).trans (by go_simp); have rh9 : w9.cell? ⟨w6.heap.size, 2, none⟩ = some (.string x.job.1) := (ye9 _).trans (by go_simp); have ri9 : w9.cell? ⟨w6.heap.size, 3, none⟩ = some (.slice x.waitA x.wait.length x.waitC) := (ye9 _).trans (by go_simp); have rj9 : ∀ o, w9.frozen? ⟨w6.heap.size, o, none⟩ = false := (fun o => (yf9 o).trans (by go_simp)); clear ya9 yb9 yc9 yd9 ye9 yf9
           have hy9 : w6.heap.size + 1 < w9.heap.size := (by omega)
           have hx9 : w6.heap.size < w9.heap.size := (by omega)
           have hu9 : w.heap.size < w9.heap.size := (by omega)
           have ht9 : w.heap.size + 1 < w9.heap.size := (by omega)
           obtain ⟨A9, C9, rfl, _, _, _⟩ := hown9.form
           skip
           clear hg9 hat9)
        | fail)
      | (first
        | (at_builtin
           refine wpList_append_rw _ rfl (.tmp 92) (.tmp 94) _ rfl jRefE_len jRefE_one (w6.heap.size + 2) 29 inf _ 32 Tryd.underlying33 hi0 iz0 iz1 iz2 rfl (by omega) (.slice none 0 0) [] rfl ?_ (w9.heap.size + 1) _ 1 1 [r] rfl rfl ?_ ?_ ?_ ?_ ?_
           · exact Own.nil _ _ _
           · exact rw_litJ (by simp) (by (try simp) <;> omega)
           · (try simp [maxLen]) <;> omega
           · (try simp) <;> omega
           · (try simp) <;> omega
           intro v10 w10 hown10 hg10 hat10
           have hb10 := (Below.refl (w6.heap.size + 2) _).grown hg10 (by (try simp) <;> omega) (fun q hq => (by simp [Value.ownBlock] at hq))
           have hz10 := hg10.size
           (try simp at hz10)
           obtain ⟨L10, hL10⟩ : ∃ L, [] ++ [r] = L := ⟨_, rfl⟩
           rw [hL10] at hown10
           have hLl10 : L10.length ≤ 10 * 1000000 := (by rw [← hL10]; (try simp) <;> omega)
           replace hL10 := Lib.hid hL10
           obtain ⟨ya10, yb10⟩ := blk_low hb10 w.heap.size (by omega); obtain ⟨yc10, yd10⟩ := blk_low hb10 (w.heap.size + 1) (by omega); obtain ⟨ye10, yf10⟩ := blk_low hb10 w6.heap.size (by omega); obtain ⟨yg10, yh10⟩ := blk_low hb10 (w6.heap.size + 1) (by omega)
           have ra10 : w10.cell? ⟨w.heap.size, 0, none⟩ = some (.string r.run.1) := (ya10 _).trans (by go_simp); have rb10 : w10.cell? ⟨w.heap.size, 1, none⟩ = some (.string r.job.1) := (ya10 _).trans (by go_simp); have rc10 : w10.cell? ⟨w.heap.size + 1, 0, none⟩ = some (.bool false) := (yc10 _).trans (by go_simp); have rd10 : w10.cell? ⟨w.heap.size + 1, 1, none⟩ = some (.slice none 0 0) := (yc10 _).trans (by go_simp); have re10 : ∀ o, w10.frozen? ⟨w.heap.size + 1, o, none⟩ = false := (fun o => (yd10 o).trans (by go_simp)); have rf10 : w10.cell? ⟨w6.heap.size, 0, none⟩ = some (.string x.name.1) := (ye10 _).trans (by go_simp); have rg10 : w10.cell? ⟨w6.heap.size, 1, none⟩ = some (.string x.run.1) := (ye10 _).trans (by go_simp); have rh10 : w10.cell? ⟨w6.heap.size, 2, none⟩ = some (.string x.job.1) := (ye10 _).trans (by go_simp); have ri10 : w10.cell? ⟨w6.heap.size, 3, none⟩ = some (.slice x.waitA x.wait.length x.waitC) := (ye10 _).trans (by go_simp); have rj10 : ∀ o, w10.frozen? ⟨w6.heap.size, o, none⟩ = false := (fun o => (yf10 o).trans (by go_simp)); clear ya10 yb10 yc10 yd10 ye10 yf10
           have hy10 : w6.heap.size + 1 < w10.heap.size := (by omega)
           have hx10 : w6.heap.size < w10.heap.size := (by omega)
           have hu10 : w.heap.size < w10.heap.size := (by omega)
           have ht10 : w.heap.size + 1 < w10.heap.size := (by omega)
           obtain ⟨A10, C10, rfl, _, _, _⟩ := hown10.form
           have hcan0 := Lib.hid (show Own jRefE 2 29 w10 (w6.heap.size + 2) (.slice A9 L9.length C9) L9 from Own.grown (by repeat (first
             | (with_reducible exact hown9)
             | ((with_reducible refine Own.setCell ?_ ?_ _); rotate_left; focus (intro q hq e; have := (hown9.lt q hq).1; (try simp at this); (try simp at e); omega))
             | (with_reducible refine Own.alloc ?_ _)
             | (with_reducible refine Own.drew ?_))) hg10 (fun q hq => nofun))
           clear hg10 hat10)
        | fail))
    have hcan := hcan0.out
    have hsY : Own jRefE 2 29 (w10.setCell ⟨w6.heap.size, 3, none⟩ (.slice A10 L10.length C10)) (w6.heap.size + 2) (.slice A10 L10.length C10) L10 := hown10.setCell (fun q hq e => by have := (hown10.lt q hq).1; (try simp at e); omega) _
    have hYb := Lib.hid (show OwnG (w10.setCell ⟨w6.heap.size, 3, none⟩ (.slice A10 L10.length C10)) (w6.heap.size + 2) (⟨x.name, x.run, x.job, A10, C10, L10⟩ : Grp) from hsY)
    have hCb := Lib.hid (show Own jRefE 2 29 (w10.setCell ⟨w6.heap.size, 3, none⟩ (.slice A10 L10.length C10)) (w6.heap.size + 2) (.slice A9 L9.length C9) L9 from hcan.setCell (fun q hq e => by have := (hcan.lt q hq).1; (try simp at e); omega) _)
    have s3' : w10.cell? ⟨w6.heap.size, 3, none⟩ = some (.slice x.waitA x.wait.length x.waitC) := by go_simp
    have s0 : (w10.setCell ⟨w6.heap.size, 3, none⟩ (.slice A10 L10.length C10)).cell? ⟨w6.heap.size, 0, none⟩ = some (.string x.name.1) := by go_simp
    have s1 : (w10.setCell ⟨w6.heap.size, 3, none⟩ (.slice A10 L10.length C10)).cell? ⟨w6.heap.size, 1, none⟩ = some (.string x.run.1) := by go_simp
    have s2 : (w10.setCell ⟨w6.heap.size, 3, none⟩ (.slice A10 L10.length C10)).cell? ⟨w6.heap.size, 2, none⟩ = some (.string x.job.1) := by go_simp
    have s3 : (w10.setCell ⟨w6.heap.size, 3, none⟩ (.slice A10 L10.length C10)).cell? ⟨w6.heap.size, 3, none⟩ = some (.slice A10 L10.length C10) := World.cell?_setCell_same _ _ _ s3'
    have s4 : (w10.setCell ⟨w6.heap.size, 3, none⟩ (.slice A10 L10.length C10)).cell? ⟨w6.heap.size + 1, 0, none⟩ = some (.bool false) := by go_simp
    have s5 : (w10.setCell ⟨w6.heap.size, 3, none⟩ (.slice A10 L10.length C10)).cell? ⟨w6.heap.size + 1, 1, none⟩ = some (.slice A9 L9.length C9) := by go_simp
    have n0 : (w10.setCell ⟨w6.heap.size, 3, none⟩ (.slice A10 L10.length C10)).cell? ⟨w.heap.size + 1, 0, none⟩ = some (.bool false) := by go_simp
    have n1 : (w10.setCell ⟨w6.heap.size, 3, none⟩ (.slice A10 L10.length C10)).cell? ⟨w.heap.size + 1, 1, none⟩ = some (.slice none 0 0) := by go_simp
    have nf : ∀ o, (w10.setCell ⟨w6.heap.size, 3, none⟩ (.slice A10 L10.length C10)).frozen? ⟨w.heap.size + 1, o, none⟩ = false := fun o => by go_simp
    have hbb : Below w.heap.size w (w10.setCell ⟨w6.heap.size, 3, none⟩ (.slice A10 L10.length C10)) := (by repeat (first | (with_reducible exact Below.refl _ _) | (with_reducible refine Below.drew ?_) | (with_reducible refine below_drewN ?_ _) | ((with_reducible refine Below.alloc ?_ ?_ _); rotate_left; focus ((try simp) <;> omega)) | ((with_reducible refine Below.setCell ?_ ?_ _); rotate_left; focus ((try simp) <;> omega)) | ((with_reducible refine Below.trans ?_ (Below.mono (by assumption) ?_)); rotate_left; focus ((try simp) <;> omega))))
    have hzb : w10.heap.size ≤ (w10.setCell ⟨w6.heap.size, 3, none⟩ (.slice A10 L10.length C10)).heap.size := Nat.le_of_eq (World.size_setCell ..).symm
    clear hsY s3' hcan
    replace hown10 := Lib.hid hown10
    generalize (w10.setCell ⟨w6.heap.size, 3, none⟩ (.slice A10 L10.length C10)) = wb at *
    have hxb1 : w6.heap.size < wb.heap.size := by omega
    have hxb2 : w6.heap.size + 1 < wb.heap.size := by omega
    have hxb3 : w.heap.size + 1 < wb.heap.size := by omega
    have hn1 : w.heap.size + 1 ≠ w6.heap.size := by omega
    have hn2 : w.heap.size + 1 ≠ w6.heap.size + 1 := by omega
    go_region_held3 (fun w' => w'.cell? ⟨w6.heap.size, 0, none⟩ = some (.string x.name.1) ∧ w'.cell? ⟨w6.heap.size, 1, none⟩ = some (.string x.run.1) ∧ w'.cell? ⟨w6.heap.size, 2, none⟩ = some (.string x.job.1) ∧ w'.cell? ⟨w6.heap.size, 3, none⟩ = some (.slice A10 L10.length C10) ∧ w'.cell? ⟨w6.heap.size + 1, 0, none⟩ = some (.bool false) ∧ w'.cell? ⟨w6.heap.size + 1, 1, none⟩ = some (.slice A9 L9.length C9)) (first | (go_keep; done) | (go_simp; done) | go_keep)
      (first | (go_at_call 46; go_must (refine (rput_own _ c l (⟨x.name, x.run, x.job, A10, C10, L10⟩ : Grp) _ (hback.out _ (by repeat (first | (with_reducible exact Below.refl _ _) | (with_reducible refine Below.drew ?_) | (with_reducible refine below_drewN ?_ _) | ((with_reducible refine Below.alloc ?_ ?_ _); rotate_left; focus ((try simp) <;> omega)) | ((with_reducible refine Below.setCell ?_ ?_ _); rotate_left; focus ((try simp) <;> omega)) | ((with_reducible refine Below.trans ?_ (Below.mono (by assumption) ?_)); rotate_left; focus ((try simp) <;> omega))))) (OwnG.lab (OwnG.all hYb.out (by repeat (first | (with_reducible exact Below.refl _ _) | (with_reducible refine Below.drew ?_) | (with_reducible refine below_drewN ?_ _) | ((with_reducible refine Below.alloc ?_ ?_ _); rotate_left; focus ((try simp) <;> omega)) | ((with_reducible refine Below.setCell ?_ ?_ _); rotate_left; focus ((try simp) <;> omega)) | ((with_reducible refine Below.trans ?_ (Below.mono (by assumption) ?_)); rotate_left; focus ((try simp) <;> omega)))))) ha.out hlm).mono ?_; rintro e w7 ⟨A7, c7, L7, rfl, ho7, hin7, hm7, hb7⟩; have hz7 := hb7.size; (try simp at hz7); obtain ⟨xa, xb⟩ := blk_at hb7 (w.heap.size + 1) (by (try simp) <;> omega); obtain ⟨xc, xd⟩ := blk_at hb7 w6.heap.size (by (try simp) <;> omega); obtain ⟨xe, xf⟩ := blk_at hb7 (w6.heap.size + 1) (by (try simp) <;> omega); have hx7a : w6.heap.size < w7.heap.size := (by omega); have hx7b : w6.heap.size + 1 < w7.heap.size := (by omega); have hx7c : w.heap.size + 1 < w7.heap.size := (by omega); have ho7h := Lib.hid ho7; have hin7h := Lib.hid hin7; have hm7h := Lib.hid hm7; clear ho7 hin7 hm7)))
    go_wp2_with fail
    have m0 : w7.cell? ⟨w.heap.size + 1, 0, none⟩ = some (.bool false) := by go_simp
    have m1 : w7.cell? ⟨w.heap.size + 1, 1, none⟩ = some (.slice none 0 0) := by go_simp
    have hBw : Below w.heap.size w w7 := (by repeat (first | (with_reducible exact Below.refl _ _) | (with_reducible refine Below.drew ?_) | (with_reducible refine below_drewN ?_ _) | ((with_reducible refine Below.alloc ?_ ?_ _); rotate_left; focus ((try simp) <;> omega)) | ((with_reducible refine Below.setCell ?_ ?_ _); rotate_left; focus ((try simp) <;> omega)) | ((with_reducible refine Below.trans ?_ (Below.mono (by assumption) ?_)); rotate_left; focus ((try simp) <;> omega))))
    have hBb : Below wb.heap.size wb w7 := by first | exact ((Below.refl wb.heap.size wb).drew).trans hb7 | exact (Below.refl wb.heap.size wb).trans hb7 | exact (by repeat (first | (with_reducible exact Below.refl _ _) | (with_reducible refine Below.drew ?_) | (with_reducible refine below_drewN ?_ _) | ((with_reducible refine Below.alloc ?_ ?_ _); rotate_left; focus ((try simp) <;> omega)) | ((with_reducible refine Below.setCell ?_ ?_ _); rotate_left; focus ((try simp) <;> omega)) | ((with_reducible refine Below.trans ?_ (Below.mono (by assumption) ?_)); rotate_left; focus ((try simp) <;> omega))))
    obtain ⟨z0, z1⟩ := fin2_cells (u0 := .bool false) (u1 := .slice A9 L9.length C9) m0 m1
    have hB9 := Lib.hid (hBw.trans (fin2_below (u0 := .bool false) (u1 := .slice A9 L9.length C9) (show w.heap.size ≤ w.heap.size + 1 by omega)))
    have ho9 := Lib.hid (fin2_row (b := w.heap.size + 1) (u0 := .bool false) (u1 := .slice A9 L9.length C9) ho7h.out (by (try simp) <;> omega))
    have hY9 := Lib.hid (show OwnG (fin2 w7 (w.heap.size + 1) (.bool false) (.slice A9 L9.length C9)) (w6.heap.size + 2) (⟨x.name, x.run, x.job, A10, C10, L10⟩ : Grp) from fin2_row (Own.all (show Own jRefE 2 29 wb (w6.heap.size + 2) (.slice A10 L10.length C10) L10 from hYb.out) hBb) (by omega))
    have hC9 := Lib.hid (fin2_row (b := w.heap.size + 1) (u0 := .bool false) (u1 := .slice A9 L9.length C9) (Own.all hCb.out hBb) (by omega))
    obtain ⟨_, _, e2, hc7, _⟩ := ho7h.out.form
    simp only [Value.slice.injEq] at e2
    obtain ⟨rfl, -, rfl⟩ := e2
    have hpc : Hid (joinCan x.g P.1 = L9) := Lib.hid (by rw [hjc'.out, ← hL9.out] <;> rfl)
    have hpg : Hid (((⟨x.name, x.run, x.job, A10, C10, L10⟩ : Grp)).g = joinG x.g r P.1) := Lib.hid (by rw [hjg'.out, ← hL10.out]; rfl)
    change bodyPost _ _ _ _ _ (fin2 w7 (w.heap.size + 1) (.bool false) (.slice A9 L9.length C9))
    generalize fin2 w7 (w.heap.size + 1) (.bool false) (.slice A9 L9.length C9) = w9 at *
    exact bodyPost_ret (v := .tuple #[.slice A7 L7.length c7, .agg #[.bool false, .slice A9 L9.length C9], .int .i64 0]) (by simp [results, Tryd.results15, go_sem, z0, z1]) rfl ⟨A7, c7, L7, A9, C9, by rw [hpc.out] <;> rfl, ⟨ho9.out.reads grpE_len, fun y hy => by
      rcases hin7h.out y hy with h | rfl
      · exact (hback.out _ hB9.out).labs y h
      · exact OwnG.lab hY9.out⟩, hc7, by rw [hm7h.out, hpg.out], by rw [hpc.out]; exact hC9.out.reads jRefE_len, hB9.out⟩
set_option maxRecDepth 100000 in
set_option maxHeartbeats 8000000 in
theorem renter_replace (A : Option Addr) (c : Nat) (l : List Grp) (p : Str) (r : JRef) (P : I64) (w : World) (hr : RwG w w.heap.size A l) (hm : Mild l) (hp : p.1.size < 4294967281) (hs : shortR r) (hE : enterE (l.map Grp.g) p r P.1 = 0) (hh : hasN p (l.map Grp.g) = true) (hP : P.1 = 2) (hP2 : (getG (l.map Grp.g) p).rn ≠ zR) :
    Calls Tryd.prog 15 #[.slice A l.length c, .string p.1, .agg #[.string r.run.1, .string r.job.1], .int .i64 P.1] w (fun e w' => ∃ (A' : Option Addr) (c' : Nat) (l' : List Grp) (Ac : Option Addr) (Cc : Nat), e = .returned (.tuple #[.slice A' l'.length c', .agg #[.bool (enterRun (l.map Grp.g) p r P.1), .slice Ac (enterCan (l.map Grp.g) p r P.1).length Cc], .int .i64 (enterE (l.map Grp.g) p r P.1)]) ∧ RwG w' w'.heap.size A' l' ∧ l'.length ≤ c' ∧ l'.map Grp.g = enterL (l.map Grp.g) p r P.1 ∧ Rw jRefE 2 w' w'.heap.size Ac (enterCan (l.map Grp.g) p r P.1) ∧ Below w.heap.size w w') := by
  have hP2' := Lib.hid hP2
  clear hP2
  obtain ⟨inf, hi0, iz0, iz1, iz2⟩ := info_three ref_info
  obtain ⟨hv0, hj, hpp, h0, h2, hi, hl⟩ := enterE_ok hE
  have hv := val_iff.2 hv0
  have hRun : enterRun (l.map Grp.g) p r P.1 = joinRun (getG (l.map Grp.g) p) := by unfold enterRun; rw [if_neg (by rw [hE]; decide)]
  have hCan : enterCan (l.map Grp.g) p r P.1 = joinCan (getG (l.map Grp.g) p) P.1 := by unfold enterCan; rw [if_neg (by rw [hE]; decide)]
  have hLst : enterL (l.map Grp.g) p r P.1 = putG (l.map Grp.g) (joinG (getG (l.map Grp.g) p) r P.1) := by unfold enterL; rw [if_neg (by rw [hE]; decide)]
  rw [hRun, hCan, hLst, hE]
  clear hRun hCan hLst hE
  have hva : ∀ W, Below w.heap.size w W → Calls Tryd.prog 11 #[.slice A l.length c] W fun e w' => e = .returned (.int .i64 (validE (l.map Grp.g))) ∧ Below W.heap.size W w' := fun W hb => rvalid_any A c l W ((hr.below hb (Nat.le_refl _)).more hb.size) hm
  have hal : ∀ W, Below w.heap.size w W → Calls Tryd.prog 20 #[.slice A l.length c] W fun e w' => ∃ v, e = .returned v ∧ Own jRefE 2 29 w' W.heap.size v (allG (l.map Grp.g)) ∧ Below W.heap.size W w' := fun W hb => rall_any A c l W ((hr.below hb (Nat.le_refl _)).more hb.size) hm.all hm.wait hm.len
  have hja : ∀ W, Below w.heap.size w W → Calls Tryd.prog 37 #[.agg #[.string r.run.1, .string r.job.1]] W fun e w' => e = .returned (.bool (jobB r)) ∧ Below W.heap.size W w' := fun W hb => rjob_any r W hs
  have hpa : ∀ W, Below w.heap.size w W → Calls Tryd.prog 34 #[.string p.1] W fun e w' => e = .returned (.bool (pathB p)) ∧ Below W.heap.size W w' := fun W hb => rpath_any p W hp
  have hln : (allG (l.map Grp.g)).length ≤ 9223372036854775807 := by have := hm.all; omega
  have hha : ∀ (W : World) (A1 : Option Addr) (c1 : Nat), Rw jRefE 2 W W.heap.size A1 (allG (l.map Grp.g)) → Calls Tryd.prog 38 #[.slice A1 (allG (l.map Grp.g)).length c1, .agg #[.string r.run.1, .string r.job.1]] W fun e w' => e = .returned (.bool (hasR (allG (l.map Grp.g)) r)) ∧ Below W.heap.size W w' := fun W A1 c1 h => (rhas_any A1 c1 (allG (l.map Grp.g)) r W h hln).mono fun e w' h => ⟨h.1, h.2⟩
  rw [show validE (l.map Grp.g) = 0 by unfold validE; rw [hv]; rfl] at hva
  rw [hj] at hja
  rw [hpp] at hpa
  rw [show hasR (allG (l.map Grp.g)) r = false from decide_eq_false hi] at hha
  have hq0 : ¬ P.1 < 0 := by omega
  have hq2 : ¬ 2 < P.1 := by omega
  have hl2 : ¬ (4096 : Int) ≤ ((allG (l.map Grp.g)).length : Int) := by omega
  clear hl
  have hfi : ∀ W, Below w.heap.size w W → Calls Tryd.prog 18 #[.slice A l.length c, .string p.1] W fun e w' => e = .returned (.int .i64 (findN p (l.map Grp.g))) ∧ W = w' := fun W hb => rfind_any A c l p W ((hr.row.below hb (Nat.le_refl _)).more hb.size) (by have := hm.len; omega)
  have hback : Hid (∀ W, Below w.heap.size w W → RwG W W.heap.size A l) := Lib.hid fun W hb => (hr.below hb (Nat.le_refl _)).more hb.size
  have hlm := hm.len
  have ha := Lib.hid hv0.asc
  have hfc := find_neg hv0.asc p
  replace hi := Lib.hid hi
  have hF : findN p (l.map Grp.g) = (atN p (l.map Grp.g) : Int) := by
    rcases hfc with ⟨_, h⟩ | ⟨h, _⟩
    · exact h
    · rw [hh] at h; cases h
  rw [hF] at hfi
  obtain ⟨x, hx, hxb, hxp⟩ := at_grp hh
  have hgp : getG (l.map Grp.g) p = x.g := by unfold getG; rw [if_pos hh, hxb]
  rw [hgp]
  have hat := (List.getElem?_eq_some_iff.1 hx).1
  obtain ⟨k, hk⟩ : ∃ k, atN p (l.map Grp.g) = k := ⟨_, rfl⟩
  rw [hk] at hfi hx hat
  obtain ⟨g, o, rfl, hg, q⟩ := hr.row (by omega)
  replace q := q k x hx
  have q0 := q 0 (.string x.name.1) rfl
  try rw [Nat.add_zero] at q0
  have q1 := q 1 (.string x.run.1) rfl
  have q2 := q 2 (.string x.job.1) rfl
  have q3 := q 3 (.slice x.waitA x.wait.length x.waitC) rfl
  clear q
  have i0 : (0 : Int) ≤ (k : Int) := by omega
  have i00 : ¬ (k : Int) < 0 := by omega
  have i1 : (k : Int) < (l.length : Int) := by omega
  have hxm := List.mem_of_getElem? hx
  have hxr := Lib.hid (hr.labs x hxm).2.2
  have hxl := hm.wait x hxm
  have hjne : jobsG x.g ≠ [] := hv0.some x.g (List.mem_map_of_mem hxm)
  have hq := refB_zero x.run x.job
  have hz : ¬ (x.g.rn = zR ∧ x.g.wait = []) := fun h => hjne (by unfold jobsG; rw [if_pos h.1]; exact h.2)
  have hjr : joinRun x.g = false := by
    unfold joinRun
    rcases Decidable.em (x.g.rn = zR) with h | h
    · rw [decide_eq_false (show ¬ x.g.wait = [] from fun e => hz ⟨h, e⟩), Bool.and_false]
    · rw [decide_eq_false h, Bool.false_and]
  have hjg := join_old (r := r) (p := P.1) hjne
  have hgw : g < w.heap.size := hg
  rw [hjr]
  clear hF hfc hgp h0 h2 hxb hxm hat hjr hjne
  replace hh := Lib.hid hh
  replace hk := Lib.hid hk
  replace hx := Lib.hid hx
  replace hxp := Lib.hid hxp
  replace hv0 := Lib.hid hv0
  replace hfi := Lib.hid hfi
  have hP3 : x.g.rn ≠ zR := by have h := hP2'.out; unfold getG at h; rw [if_pos hh.out, hk.out, get_bang (show (l.map Grp.g)[k]? = some x.g by rw [List.getElem?_map, hx.out]; rfl)] at h; exact h
  have hjc : joinCan x.g P.1 = (⟨x.run, x.job⟩ : JRef) :: x.wait := by unfold joinCan; rw [if_neg hz, if_pos ⟨hP, hP3⟩, if_neg (by omega)]; rfl
  rw [if_neg (by omega)] at hjg
  rw [hP] at hq0 hq2 hjg hjc ⊢
  have hjg' := Lib.hid hjg
  have hjc' := Lib.hid hjc
  clear hjg hjc hz
  have hs0 : refB x.run.1 x.job.1 ⟨#[]⟩ ⟨#[]⟩ = false := hq.trans (decide_eq_false hP3)
  clear hP3
  replace hP := Lib.hid hP
  replace hq := Lib.hid hq
  replace hva := Lib.hid hva
  replace hal := Lib.hid hal
  replace hja := Lib.hid hja
  replace hpa := Lib.hid hpa
  replace hha := Lib.hid hha
  replace hv := Lib.hid hv
  try replace hj := Lib.hid hj
  try replace hpp := Lib.hid hpp
  replace hr := Lib.hid hr
  replace hm := Lib.hid hm
  replace hs := Lib.hid hs
  clear hln hp
  go_enter Tryd.func15, Tryd.ntmps15
  go_wp2_with (first | (go_at_call 11; go_must (refine (hva.out _ (by repeat (first | (with_reducible exact Below.refl _ _) | (with_reducible refine Below.drew ?_) | (with_reducible refine below_drewN ?_ _) | ((with_reducible refine Below.alloc ?_ ?_ _); rotate_left; focus ((try simp) <;> omega)) | ((with_reducible refine Below.setCell ?_ ?_ _); rotate_left; focus ((try simp) <;> omega)) | ((with_reducible refine Below.trans ?_ (Below.mono (by assumption) ?_)); rotate_left; focus ((try simp) <;> omega))))).mono ?_; rintro e w1 ⟨rfl, hb1⟩; have hz1 := hb1.size; (try simp at hz1); have hza1 : w.heap.size < w1.heap.size := (by omega); have hzb1 : w.heap.size + 1 < w1.heap.size := (by omega); obtain ⟨p1, f1⟩ := blk_at hb1 w.heap.size (by (try simp) <;> omega); obtain ⟨pp1, ff1⟩ := blk_at hb1 (w.heap.size + 1) (by (try simp) <;> omega))) | (go_at_call 37; go_must (refine (hja.out _ (by repeat (first | (with_reducible exact Below.refl _ _) | (with_reducible refine Below.drew ?_) | (with_reducible refine below_drewN ?_ _) | ((with_reducible refine Below.alloc ?_ ?_ _); rotate_left; focus ((try simp) <;> omega)) | ((with_reducible refine Below.setCell ?_ ?_ _); rotate_left; focus ((try simp) <;> omega)) | ((with_reducible refine Below.trans ?_ (Below.mono (by assumption) ?_)); rotate_left; focus ((try simp) <;> omega))))).mono ?_; rintro e w2 ⟨rfl, hb2⟩; have hz2 := hb2.size; (try simp at hz2); have hza2 : w.heap.size < w2.heap.size := (by omega); have hzb2 : w.heap.size + 1 < w2.heap.size := (by omega); obtain ⟨p2, f2⟩ := blk_at hb2 w.heap.size (by (try simp) <;> omega); obtain ⟨pp2, ff2⟩ := blk_at hb2 (w.heap.size + 1) (by (try simp) <;> omega))) | (go_at_call 34; go_must (refine (hpa.out _ (by repeat (first | (with_reducible exact Below.refl _ _) | (with_reducible refine Below.drew ?_) | (with_reducible refine below_drewN ?_ _) | ((with_reducible refine Below.alloc ?_ ?_ _); rotate_left; focus ((try simp) <;> omega)) | ((with_reducible refine Below.setCell ?_ ?_ _); rotate_left; focus ((try simp) <;> omega)) | ((with_reducible refine Below.trans ?_ (Below.mono (by assumption) ?_)); rotate_left; focus ((try simp) <;> omega))))).mono ?_; rintro e w3 ⟨rfl, hb3⟩; have hz3 := hb3.size; (try simp at hz3); have hza3 : w.heap.size < w3.heap.size := (by omega); have hzb3 : w.heap.size + 1 < w3.heap.size := (by omega); obtain ⟨p3, f3⟩ := blk_at hb3 w.heap.size (by (try simp) <;> omega); obtain ⟨pp3, ff3⟩ := blk_at hb3 (w.heap.size + 1) (by (try simp) <;> omega))))
  refine wp_region_held_drew (S := fun w' => w'.cell? ⟨w.heap.size, 0, none⟩ = some (.string r.run.1) ∧ w'.cell? ⟨w.heap.size, 1, none⟩ = some (.string r.job.1)) (by kernel_rfl) ?_ (fun hHeld => ?_)
  · first | (dsimp only; go_keep; done) | (go_keep; done) | (go_simp; done)
  rw [show (Array.replicate _ false : Array Bool) = #[false, false, false, false] from rfl]
  (refine wpAnyH_take (i := 0) (oi := Oper.mk _ _ _ _ _ _) (v := ?_) rfl (by kernel_rfl) (by kernel_rfl) (by kernel_rfl) (fun _ _ _ h => h) ?_ (by assumption) ?_; rotate_left; (focus (refine Or.inl ⟨by rfl, ?_⟩; intro wS hSw; (try dsimp only at hSw); go_simp; first | done | with_reducible rfl)); simp only [Act.put, List.setIfInBounds_toArray, List.set_cons_zero, List.set_cons_succ])
  (refine wpAnyH_take (i := 2) (oi := Oper.mk _ _ _ _ _ _) (v := ?_) rfl (by kernel_rfl) (by kernel_rfl) (by kernel_rfl) (fun _ _ _ h => h) ?_ (by assumption) ?_; rotate_left; (focus (refine Or.inl ⟨by rfl, ?_⟩; intro wS hSw; (try dsimp only at hSw); go_simp; first | done | with_reducible rfl)); simp only [Act.put, List.setIfInBounds_toArray, List.set_cons_zero, List.set_cons_succ])
  (refine wpAnyH_ready (rs := [1]) (by kernel_rfl) (by simp) ?_
   refine AllReadyH.cons (o := Oper.mk _ _ _ _ _ _) rfl (fun K hK => ?_) AllReadyH.nil
   go_simp
   (go_at_call 20; go_must (refine (hal.out _ (by repeat (first | (with_reducible exact Below.refl _ _) | (with_reducible refine Below.drew ?_) | (with_reducible refine below_drewN ?_ _) | ((with_reducible refine Below.alloc ?_ ?_ _); rotate_left; focus ((try simp) <;> omega)) | ((with_reducible refine Below.setCell ?_ ?_ _); rotate_left; focus ((try simp) <;> omega)) | ((with_reducible refine Below.trans ?_ (Below.mono (by assumption) ?_)); rotate_left; focus ((try simp) <;> omega))))).mono ?_; rintro e w4 ⟨v4, rfl, hown4, hb4⟩; have hz4 := hb4.size; (try simp at hz4); have hza4 : w.heap.size < w4.heap.size := (by omega); have hzb4 : w.heap.size + 1 < w4.heap.size := (by omega); obtain ⟨p4, f4⟩ := blk_at hb4 w.heap.size (by (try simp) <;> omega); obtain ⟨pp4, ff4⟩ := blk_at hb4 (w.heap.size + 1) (by (try simp) <;> omega); obtain ⟨A4, c4, rfl, _, _, _⟩ := hown4.form; have hrd4 := Lib.hid (hown4.reads jRefE_len); clear hown4))
   refine hK.out _ _ ?_ (fun hHeld => ?_)
   · first | (dsimp only; go_keep; done) | (go_keep; done)
   clear hK K
   (try simp only [List.setIfInBounds_toArray, List.set_cons_zero, List.set_cons_succ]))
  (refine wpAnyH_ready (rs := [3]) (by kernel_rfl) (by simp) ?_
   refine AllReadyH.cons (o := Oper.mk _ _ _ _ _ _) rfl (fun K hK => ?_) AllReadyH.nil
   go_simp
   (go_at_call 38; go_must (refine (hha.out _ A4 c4 (Rw.more (Rw.below hrd4.out (by repeat (first | (with_reducible exact Below.refl _ _) | (with_reducible refine Below.drew ?_) | (with_reducible refine below_drewN ?_ _) | ((with_reducible refine Below.alloc ?_ ?_ _); rotate_left; focus ((try simp) <;> omega)) | ((with_reducible refine Below.setCell ?_ ?_ _); rotate_left; focus ((try simp) <;> omega)) | ((with_reducible refine Below.trans ?_ (Below.mono (by assumption) ?_)); rotate_left; focus ((try simp) <;> omega)))) (Nat.le_refl _)) (by (try simp) <;> omega))).mono ?_; rintro e w5 ⟨rfl, hb5⟩; have hz5 := hb5.size; (try simp at hz5); have hza5 : w.heap.size < w5.heap.size := (by omega); have hzb5 : w.heap.size + 1 < w5.heap.size := (by omega); obtain ⟨p5, f5⟩ := blk_at hb5 w.heap.size (by (try simp) <;> omega); obtain ⟨pp5, ff5⟩ := blk_at hb5 (w.heap.size + 1) (by (try simp) <;> omega)))
   refine hK.out _ _ ?_ (fun hHeld => ?_)
   · first | (dsimp only; go_keep; done) | (go_keep; done)
   clear hK K
   (try simp only [List.setIfInBounds_toArray, List.set_cons_zero, List.set_cons_succ]))
  refine wpAnyH_done (by kernel_rfl) ?_ _
  go_upto_region 23 with (first
    | (go_at_call 20; go_must (refine (hal.out _ (by repeat (first | (with_reducible exact Below.refl _ _) | (with_reducible refine Below.drew ?_) | (with_reducible refine below_drewN ?_ _) | ((with_reducible refine Below.alloc ?_ ?_ _); rotate_left; focus ((try simp) <;> omega)) | ((with_reducible refine Below.setCell ?_ ?_ _); rotate_left; focus ((try simp) <;> omega)) | ((with_reducible refine Below.trans ?_ (Below.mono (by assumption) ?_)); rotate_left; focus ((try simp) <;> omega))))).mono ?_; rintro e w6 ⟨v6, rfl, hown6, hb6⟩; have hz6 := hb6.size; (try simp at hz6); have hza6 : w.heap.size < w6.heap.size := (by omega); have hzb6 : w.heap.size + 1 < w6.heap.size := (by omega); obtain ⟨p6, f6⟩ := blk_at hb6 w.heap.size (by (try simp) <;> omega); obtain ⟨pp6, ff6⟩ := blk_at hb6 (w.heap.size + 1) (by (try simp) <;> omega); obtain ⟨A6, c6, rfl, _, _, _⟩ := hown6.form; have hrd6 := Lib.hid (hown6.reads jRefE_len); clear hown6))
    | (go_at_call 18; go_must (refine (hfi.out _ (by repeat (first | (with_reducible exact Below.refl _ _) | (with_reducible refine Below.drew ?_) | (with_reducible refine below_drewN ?_ _) | ((with_reducible refine Below.alloc ?_ ?_ _); rotate_left; focus ((try simp) <;> omega)) | ((with_reducible refine Below.setCell ?_ ?_ _); rotate_left; focus ((try simp) <;> omega)) | ((with_reducible refine Below.trans ?_ (Below.mono (by assumption) ?_)); rotate_left; focus ((try simp) <;> omega))))).mono ?_; rintro e w8 ⟨rfl, rfl⟩; have hgb : Below w.heap.size w w6 := (by repeat (first | (with_reducible exact Below.refl _ _) | (with_reducible refine Below.drew ?_) | (with_reducible refine below_drewN ?_ _) | ((with_reducible refine Below.alloc ?_ ?_ _); rotate_left; focus ((try simp) <;> omega)) | ((with_reducible refine Below.setCell ?_ ?_ _); rotate_left; focus ((try simp) <;> omega)) | ((with_reducible refine Below.trans ?_ (Below.mono (by assumption) ?_)); rotate_left; focus ((try simp) <;> omega)))); obtain ⟨gc, gf⟩ := blk_low hgb g hgw; have t0 := (gc _).trans q0; have t1 := (gc _).trans q1; have t2 := (gc _).trans q2; have t3 := (gc _).trans q3; have rr0 : w6.cell? ⟨w.heap.size, 0, none⟩ = some (.string r.run.1) := (by go_simp); have rr1 : w6.cell? ⟨w.heap.size, 1, none⟩ = some (.string r.job.1) := (by go_simp); have tt0 : w6.cell? ⟨w.heap.size + 1, 0, none⟩ = some (.bool false) := (by go_simp); have tt1 : w6.cell? ⟨w.heap.size + 1, 1, none⟩ = some (.slice none 0 0) := (by go_simp); have ttf : ∀ o, w6.frozen? ⟨w.heap.size + 1, o, none⟩ = false := (fun o => by go_simp); have hq61 : w.heap.size < w6.heap.size := (by omega); have hq62 : w.heap.size < w6.heap.size + 1 := (by omega); have hq63 : w.heap.size < w6.heap.size + 1 + 1 := (by omega); have hq64 : w.heap.size + 1 < w6.heap.size := (by omega); clear gc gf hgb p1 p2 p3 p4 p5 p6 f1 f2 f3 f4 f5 f6 pp1 pp2 pp3 pp4 pp5 pp6 ff1 ff2 ff3 ff4 ff5 ff6))
    | (first
      | (at_builtin
         refine wpList_append_rw _ rfl (.tmp 74) (.tmp 77) _ rfl jRefE_len jRefE_one (w6.heap.size + 2) 29 inf _ 32 Tryd.underlying33 hi0 iz0 iz1 iz2 rfl (by omega) (.slice none 0 0) [] rfl ?_ (w6.heap.size + 3) _ 1 1 [(⟨x.run, x.job⟩ : JRef)] rfl rfl ?_ ?_ ?_ ?_ ?_
         · exact Own.nil _ _ _
         · exact rw_litJ (by simp) (by (try simp) <;> omega)
         · (try simp [maxLen]) <;> omega
         · (try simp) <;> omega
         · (try simp) <;> omega
         intro v8 w8 hown8 hg8 hat8
         have hb8 := (Below.refl (w6.heap.size + 2) _).grown hg8 (by (try simp) <;> omega) (fun q hq => (by simp [Value.ownBlock] at hq))
         have hz8 := hg8.size
         (try simp at hz8)
         obtain ⟨L8, hL8⟩ : ∃ L, [] ++ [(⟨x.run, x.job⟩ : JRef)] = L := ⟨_, rfl⟩
         rw [hL8] at hown8
         have hLl8 : L8.length ≤ 8 * 1000000 := (by rw [← hL8]; (try simp) <;> omega)
         replace hL8 := Lib.hid hL8
         obtain ⟨ya8, yb8⟩ := blk_low hb8 w.heap.size (by omega); obtain ⟨yc8, yd8⟩ := blk_low hb8 (w.heap.size + 1) (by omega); obtain ⟨ye8, yf8⟩ := blk_low hb8 w6.heap.size (by omega); obtain ⟨yg8, yh8⟩ := blk_low hb8 (w6.heap.size + 1) (by omega)
         have ra8 : w8.cell? ⟨w.heap.size, 0, none⟩ = some (.string r.run.1) := (ya8 _).trans (by go_simp); have rb8 : w8.cell? ⟨w.heap.size, 1, none⟩ = some (.string r.job.1) := (ya8 _).trans (by go_simp); have rc8 : w8.cell? ⟨w.heap.size + 1, 0, none⟩ = some (.bool false) := (yc8 _).trans (by go_simp); have rd8 : w8.cell? ⟨w.heap.size + 1, 1, none⟩ = some (.slice none 0 0) := (yc8 _).trans (by go_simp); have re8 : ∀ o, w8.frozen? ⟨w.heap.size + 1, o, none⟩ = false := (fun o => (yd8 o).trans (by go_simp)); have rf8 : w8.cell? ⟨w6.heap.size, 0, none⟩ = some (.string x.name.1) := (ye8 _).trans (by go_simp); have rg8 : w8.cell? ⟨w6.heap.size, 1, none⟩ = some (.string x.run.1) := (ye8 _).trans (by go_simp); have rh8 : w8.cell? ⟨w6.heap.size, 2, none⟩ = some (.string x.job.1) := (ye8 _).trans (by go_simp); have ri8 : w8.cell? ⟨w6.heap.size, 3, none⟩ = some (.slice x.waitA x.wait.length x.waitC) := (ye8 _).trans (by go_simp); have rj8 : ∀ o, w8.frozen? ⟨w6.heap.size, o, none⟩ = false := (fun o => (yf8 o).trans (by go_simp)); clear ya8 yb8 yc8 yd8 ye8 yf8
         have hy8 : w6.heap.size + 1 < w8.heap.size := (by omega)
         have hx8 : w6.heap.size < w8.heap.size := (by omega)
         have hu8 : w.heap.size < w8.heap.size := (by omega)
         have ht8 : w.heap.size + 1 < w8.heap.size := (by omega)
         obtain ⟨A8, C8, rfl, _, _, _⟩ := hown8.form
         have rk8 : w8.cell? ⟨w6.heap.size + 1, 1, none⟩ = some (.slice none 0 0) := (yg8 _).trans (by go_simp)
         clear hg8 hat8)
      | fail)
    | (first
      | (at_builtin
         refine wpList_append_rw _ rfl (.tmp 87) (.tmp 89) _ rfl jRefE_len jRefE_one (w6.heap.size + 2) 29 inf _ 32 Tryd.underlying33 hi0 iz0 iz1 iz2 rfl (by omega) (.slice A8 L8.length C8) L8 rfl ?_ (w.heap.size) x.waitA x.wait.length x.waitC x.wait rfl rfl ?_ ?_ ?_ ?_ ?_
         · exact (by repeat (first
           | (with_reducible exact hown8)
           | ((with_reducible refine Own.setCell ?_ ?_ _); rotate_left; focus (intro q hq e; have := (hown8.lt q hq).1; (try simp at this); (try simp at e); omega))
           | (with_reducible refine Own.alloc ?_ _)
           | (with_reducible refine Own.drew ?_)))
         · exact Rw.below hxr.out (by repeat (first | (with_reducible exact Below.refl _ _) | (with_reducible refine Below.drew ?_) | (with_reducible refine below_drewN ?_ _) | ((with_reducible refine Below.alloc ?_ ?_ _); rotate_left; focus ((try simp) <;> omega)) | ((with_reducible refine Below.setCell ?_ ?_ _); rotate_left; focus ((try simp) <;> omega)) | ((with_reducible refine Below.trans ?_ (Below.mono (by assumption) ?_)); rotate_left; focus ((try simp) <;> omega)))) (Nat.le_refl _)
         · (try simp [maxLen]) <;> omega
         · (try simp) <;> omega
         · (try simp) <;> omega
         intro v9 w9 hown9 hg9 hat9
         have hb9 := (Below.refl (w6.heap.size + 2) _).grown hg9 (by (try simp) <;> omega) (fun q hq => (hown8.lt q hq).1)
         have hz9 := hg9.size
         (try simp at hz9)
         obtain ⟨L9, hL9⟩ : ∃ L, L8 ++ x.wait = L := ⟨_, rfl⟩
         rw [hL9] at hown9
         have hLl9 : L9.length ≤ 9 * 1000000 := (by rw [← hL9]; (try simp) <;> omega)
         replace hL9 := Lib.hid hL9
         obtain ⟨ya9, yb9⟩ := blk_low hb9 w.heap.size (by omega); obtain ⟨yc9, yd9⟩ := blk_low hb9 (w.heap.size + 1) (by omega); obtain ⟨ye9, yf9⟩ := blk_low hb9 w6.heap.size (by omega); obtain ⟨yg9, yh9⟩ := blk_low hb9 (w6.heap.size + 1) (by omega)
         have ra9 : w9.cell? ⟨w.heap.size, 0, none⟩ = some (.string r.run.1) := (ya9 _).trans (by go_simp); have rb9 : w9.cell? ⟨w.heap.size, 1, none⟩ = some (.string r.job.1) := (ya9 _).trans (by go_simp); have rc9 : w9.cell? ⟨w.heap.size + 1, 0, none⟩ = some (.bool false) := (yc9 _).trans (by go_simp); have rd9 : w9.cell? ⟨w.heap.size + 1, 1, none⟩ = some (.slice none 0 0) := (yc9 _).trans (by go_simp); have re9 : ∀ o, w9.frozen? ⟨w.heap.size + 1, o, none⟩ = false := (fun o => (yd9 o).trans (by go_simp)); have rf9 : w9.cell? ⟨w6.heap.size, 0, none⟩ = some (.string x.name.1) := (ye9 _).trans (by go_simp); have rg9 : w9.cell? ⟨w6.heap.size, 1, none⟩ = some (.string x.run.1) := (ye9 _).trans (by go_simp); have rh9 : w9.cell? ⟨w6.heap.size, 2, none⟩ = some (.string x.job.1) := (ye9 _).trans (by go_simp); have ri9 : w9.cell? ⟨w6.heap.size, 3, none⟩ = some (.slice x.waitA x.wait.length x.waitC) := (ye9 _).trans (by go_simp); have rj9 : ∀ o, w9.frozen? ⟨w6.heap.size, o, none⟩ = false := (fun o => (yf9 o).trans (by go_simp)); clear ya9 yb9 yc9 yd9 ye9 yf9
         have hy9 : w6.heap.size + 1 < w9.heap.size := (by omega)
         have hx9 : w6.heap.size < w9.heap.size := (by omega)
         have hu9 : w.heap.size < w9.heap.size := (by omega)
         have ht9 : w.heap.size + 1 < w9.heap.size := (by omega)
         obtain ⟨A9, C9, rfl, _, _, _⟩ := hown9.form
         have rk9 : w9.cell? ⟨w6.heap.size + 1, 1, none⟩ = some (.slice A8 L8.length C8) := (yg9 _).trans (World.cell?_setCell_same _ _ _ rk8); have rl9 : w9.cell? ⟨w6.heap.size + 1, 0, none⟩ = some (.bool false) := (yg9 _).trans (by go_simp); clear yg9
         clear hg9 hat9)
      | fail)
    | (first
      | (at_builtin
         refine wpList_append_rw _ rfl (.tmp 92) (.tmp 94) _ rfl jRefE_len jRefE_one (w6.heap.size + 2) 29 inf _ 32 Tryd.underlying33 hi0 iz0 iz1 iz2 rfl (by omega) (.slice none 0 0) [] rfl ?_ (w9.heap.size + 1) _ 1 1 [r] rfl rfl ?_ ?_ ?_ ?_ ?_
         · exact Own.nil _ _ _
         · exact rw_litJ (by simp) (by (try simp) <;> omega)
         · (try simp [maxLen]) <;> omega
         · (try simp) <;> omega
         · (try simp) <;> omega
         intro v10 w10 hown10 hg10 hat10
         have hb10 := (Below.refl (w6.heap.size + 2) _).grown hg10 (by (try simp) <;> omega) (fun q hq => (by simp [Value.ownBlock] at hq))
         have hz10 := hg10.size
         (try simp at hz10)
         obtain ⟨L10, hL10⟩ : ∃ L, [] ++ [r] = L := ⟨_, rfl⟩
         rw [hL10] at hown10
         have hLl10 : L10.length ≤ 10 * 1000000 := (by rw [← hL10]; (try simp) <;> omega)
         replace hL10 := Lib.hid hL10
         obtain ⟨ya10, yb10⟩ := blk_low hb10 w.heap.size (by omega); obtain ⟨yc10, yd10⟩ := blk_low hb10 (w.heap.size + 1) (by omega); obtain ⟨ye10, yf10⟩ := blk_low hb10 w6.heap.size (by omega); obtain ⟨yg10, yh10⟩ := blk_low hb10 (w6.heap.size + 1) (by omega)
         have ra10 : w10.cell? ⟨w.heap.size, 0, none⟩ = some (.string r.run.1) := (ya10 _).trans (by go_simp); have rb10 : w10.cell? ⟨w.heap.size, 1, none⟩ = some (.string r.job.1) := (ya10 _).trans (by go_simp); have rc10 : w10.cell? ⟨w.heap.size + 1, 0, none⟩ = some (.bool false) := (yc10 _).trans (by go_simp); have rd10 : w10.cell? ⟨w.heap.size + 1, 1, none⟩ = some (.slice none 0 0) := (yc10 _).trans (by go_simp); have re10 : ∀ o, w10.frozen? ⟨w.heap.size + 1, o, none⟩ = false := (fun o => (yd10 o).trans (by go_simp)); have rf10 : w10.cell? ⟨w6.heap.size, 0, none⟩ = some (.string x.name.1) := (ye10 _).trans (by go_simp); have rg10 : w10.cell? ⟨w6.heap.size, 1, none⟩ = some (.string x.run.1) := (ye10 _).trans (by go_simp); have rh10 : w10.cell? ⟨w6.heap.size, 2, none⟩ = some (.string x.job.1) := (ye10 _).trans (by go_simp); have ri10 : w10.cell? ⟨w6.heap.size, 3, none⟩ = some (.slice x.waitA x.wait.length x.waitC) := (ye10 _).trans (by go_simp); have rj10 : ∀ o, w10.frozen? ⟨w6.heap.size, o, none⟩ = false := (fun o => (yf10 o).trans (by go_simp)); clear ya10 yb10 yc10 yd10 ye10 yf10
         have hy10 : w6.heap.size + 1 < w10.heap.size := (by omega)
         have hx10 : w6.heap.size < w10.heap.size := (by omega)
         have hu10 : w.heap.size < w10.heap.size := (by omega)
         have ht10 : w.heap.size + 1 < w10.heap.size := (by omega)
         obtain ⟨A10, C10, rfl, _, _, _⟩ := hown10.form
         have hcan0 := Lib.hid (show Own jRefE 2 29 w10 (w6.heap.size + 2) (.slice A9 L9.length C9) L9 from Own.grown (by repeat (first
           | (with_reducible exact hown9)
           | ((with_reducible refine Own.setCell ?_ ?_ _); rotate_left; focus (intro q hq e; have := (hown9.lt q hq).1; (try simp at this); (try simp at e); omega))
           | (with_reducible refine Own.alloc ?_ _)
           | (with_reducible refine Own.drew ?_))) hg10 (fun q hq => nofun))
         clear hg10 hat10)
      | fail))
  have hcan := hcan0.out
  have hsY : Own jRefE 2 29 (w10.setCell ⟨w6.heap.size, 3, none⟩ (.slice A10 L10.length C10)) (w6.heap.size + 2) (.slice A10 L10.length C10) L10 := hown10.setCell (fun q hq e => by have := (hown10.lt q hq).1; (try simp at e); omega) _
  have hYb := Lib.hid (show OwnG (w10.setCell ⟨w6.heap.size, 3, none⟩ (.slice A10 L10.length C10)) (w6.heap.size + 2) (⟨x.name, x.run, x.job, A10, C10, L10⟩ : Grp) from hsY)
  have hCb := Lib.hid (show Own jRefE 2 29 (w10.setCell ⟨w6.heap.size, 3, none⟩ (.slice A10 L10.length C10)) (w6.heap.size + 2) (.slice A9 L9.length C9) L9 from hcan.setCell (fun q hq e => by have := (hcan.lt q hq).1; (try simp at e); omega) _)
  have s3' : w10.cell? ⟨w6.heap.size, 3, none⟩ = some (.slice x.waitA x.wait.length x.waitC) := by go_simp
  have s0 : (w10.setCell ⟨w6.heap.size, 3, none⟩ (.slice A10 L10.length C10)).cell? ⟨w6.heap.size, 0, none⟩ = some (.string x.name.1) := by go_simp
  have s1 : (w10.setCell ⟨w6.heap.size, 3, none⟩ (.slice A10 L10.length C10)).cell? ⟨w6.heap.size, 1, none⟩ = some (.string x.run.1) := by go_simp
  have s2 : (w10.setCell ⟨w6.heap.size, 3, none⟩ (.slice A10 L10.length C10)).cell? ⟨w6.heap.size, 2, none⟩ = some (.string x.job.1) := by go_simp
  have s3 : (w10.setCell ⟨w6.heap.size, 3, none⟩ (.slice A10 L10.length C10)).cell? ⟨w6.heap.size, 3, none⟩ = some (.slice A10 L10.length C10) := World.cell?_setCell_same _ _ _ s3'
  have s4 : (w10.setCell ⟨w6.heap.size, 3, none⟩ (.slice A10 L10.length C10)).cell? ⟨w6.heap.size + 1, 0, none⟩ = some (.bool false) := by go_simp
  have s5 : (w10.setCell ⟨w6.heap.size, 3, none⟩ (.slice A10 L10.length C10)).cell? ⟨w6.heap.size + 1, 1, none⟩ = some (.slice A9 L9.length C9) := by go_simp
  have n0 : (w10.setCell ⟨w6.heap.size, 3, none⟩ (.slice A10 L10.length C10)).cell? ⟨w.heap.size + 1, 0, none⟩ = some (.bool false) := by go_simp
  have n1 : (w10.setCell ⟨w6.heap.size, 3, none⟩ (.slice A10 L10.length C10)).cell? ⟨w.heap.size + 1, 1, none⟩ = some (.slice none 0 0) := by go_simp
  have nf : ∀ o, (w10.setCell ⟨w6.heap.size, 3, none⟩ (.slice A10 L10.length C10)).frozen? ⟨w.heap.size + 1, o, none⟩ = false := fun o => by go_simp
  have hbb : Below w.heap.size w (w10.setCell ⟨w6.heap.size, 3, none⟩ (.slice A10 L10.length C10)) := (by repeat (first | (with_reducible exact Below.refl _ _) | (with_reducible refine Below.drew ?_) | (with_reducible refine below_drewN ?_ _) | ((with_reducible refine Below.alloc ?_ ?_ _); rotate_left; focus ((try simp) <;> omega)) | ((with_reducible refine Below.setCell ?_ ?_ _); rotate_left; focus ((try simp) <;> omega)) | ((with_reducible refine Below.trans ?_ (Below.mono (by assumption) ?_)); rotate_left; focus ((try simp) <;> omega))))
  have hzb : w10.heap.size ≤ (w10.setCell ⟨w6.heap.size, 3, none⟩ (.slice A10 L10.length C10)).heap.size := Nat.le_of_eq (World.size_setCell ..).symm
  clear hsY s3' hcan
  replace hown10 := Lib.hid hown10
  generalize (w10.setCell ⟨w6.heap.size, 3, none⟩ (.slice A10 L10.length C10)) = wb at *
  have hxb1 : w6.heap.size < wb.heap.size := by omega
  have hxb2 : w6.heap.size + 1 < wb.heap.size := by omega
  have hxb3 : w.heap.size + 1 < wb.heap.size := by omega
  have hn1 : w.heap.size + 1 ≠ w6.heap.size := by omega
  have hn2 : w.heap.size + 1 ≠ w6.heap.size + 1 := by omega
  go_region_held3 (fun w' => w'.cell? ⟨w6.heap.size, 0, none⟩ = some (.string x.name.1) ∧ w'.cell? ⟨w6.heap.size, 1, none⟩ = some (.string x.run.1) ∧ w'.cell? ⟨w6.heap.size, 2, none⟩ = some (.string x.job.1) ∧ w'.cell? ⟨w6.heap.size, 3, none⟩ = some (.slice A10 L10.length C10) ∧ w'.cell? ⟨w6.heap.size + 1, 0, none⟩ = some (.bool false) ∧ w'.cell? ⟨w6.heap.size + 1, 1, none⟩ = some (.slice A9 L9.length C9)) (first | (go_keep; done) | (go_simp; done) | go_keep)
    (first | (go_at_call 46; go_must (refine (rput_own _ c l (⟨x.name, x.run, x.job, A10, C10, L10⟩ : Grp) _ (hback.out _ (by repeat (first | (with_reducible exact Below.refl _ _) | (with_reducible refine Below.drew ?_) | (with_reducible refine below_drewN ?_ _) | ((with_reducible refine Below.alloc ?_ ?_ _); rotate_left; focus ((try simp) <;> omega)) | ((with_reducible refine Below.setCell ?_ ?_ _); rotate_left; focus ((try simp) <;> omega)) | ((with_reducible refine Below.trans ?_ (Below.mono (by assumption) ?_)); rotate_left; focus ((try simp) <;> omega))))) (OwnG.lab (OwnG.all hYb.out (by repeat (first | (with_reducible exact Below.refl _ _) | (with_reducible refine Below.drew ?_) | (with_reducible refine below_drewN ?_ _) | ((with_reducible refine Below.alloc ?_ ?_ _); rotate_left; focus ((try simp) <;> omega)) | ((with_reducible refine Below.setCell ?_ ?_ _); rotate_left; focus ((try simp) <;> omega)) | ((with_reducible refine Below.trans ?_ (Below.mono (by assumption) ?_)); rotate_left; focus ((try simp) <;> omega)))))) ha.out hlm).mono ?_; rintro e w7 ⟨A7, c7, L7, rfl, ho7, hin7, hm7, hb7⟩; have hz7 := hb7.size; (try simp at hz7); obtain ⟨xa, xb⟩ := blk_at hb7 (w.heap.size + 1) (by (try simp) <;> omega); obtain ⟨xc, xd⟩ := blk_at hb7 w6.heap.size (by (try simp) <;> omega); obtain ⟨xe, xf⟩ := blk_at hb7 (w6.heap.size + 1) (by (try simp) <;> omega); have hx7a : w6.heap.size < w7.heap.size := (by omega); have hx7b : w6.heap.size + 1 < w7.heap.size := (by omega); have hx7c : w.heap.size + 1 < w7.heap.size := (by omega); have ho7h := Lib.hid ho7; have hin7h := Lib.hid hin7; have hm7h := Lib.hid hm7; clear ho7 hin7 hm7)))
  go_wp2_with fail
  have m0 : w7.cell? ⟨w.heap.size + 1, 0, none⟩ = some (.bool false) := by go_simp
  have m1 : w7.cell? ⟨w.heap.size + 1, 1, none⟩ = some (.slice none 0 0) := by go_simp
  have hBw : Below w.heap.size w w7 := (by repeat (first | (with_reducible exact Below.refl _ _) | (with_reducible refine Below.drew ?_) | (with_reducible refine below_drewN ?_ _) | ((with_reducible refine Below.alloc ?_ ?_ _); rotate_left; focus ((try simp) <;> omega)) | ((with_reducible refine Below.setCell ?_ ?_ _); rotate_left; focus ((try simp) <;> omega)) | ((with_reducible refine Below.trans ?_ (Below.mono (by assumption) ?_)); rotate_left; focus ((try simp) <;> omega))))
  have hBb : Below wb.heap.size wb w7 := by first | exact ((Below.refl wb.heap.size wb).drew).trans hb7 | exact (Below.refl wb.heap.size wb).trans hb7 | exact (by repeat (first | (with_reducible exact Below.refl _ _) | (with_reducible refine Below.drew ?_) | (with_reducible refine below_drewN ?_ _) | ((with_reducible refine Below.alloc ?_ ?_ _); rotate_left; focus ((try simp) <;> omega)) | ((with_reducible refine Below.setCell ?_ ?_ _); rotate_left; focus ((try simp) <;> omega)) | ((with_reducible refine Below.trans ?_ (Below.mono (by assumption) ?_)); rotate_left; focus ((try simp) <;> omega))))
  obtain ⟨z0, z1⟩ := fin2_cells (u0 := .bool false) (u1 := .slice A9 L9.length C9) m0 m1
  have hB9 := Lib.hid (hBw.trans (fin2_below (u0 := .bool false) (u1 := .slice A9 L9.length C9) (show w.heap.size ≤ w.heap.size + 1 by omega)))
  have ho9 := Lib.hid (fin2_row (b := w.heap.size + 1) (u0 := .bool false) (u1 := .slice A9 L9.length C9) ho7h.out (by (try simp) <;> omega))
  have hY9 := Lib.hid (show OwnG (fin2 w7 (w.heap.size + 1) (.bool false) (.slice A9 L9.length C9)) (w6.heap.size + 2) (⟨x.name, x.run, x.job, A10, C10, L10⟩ : Grp) from fin2_row (Own.all (show Own jRefE 2 29 wb (w6.heap.size + 2) (.slice A10 L10.length C10) L10 from hYb.out) hBb) (by omega))
  have hC9 := Lib.hid (fin2_row (b := w.heap.size + 1) (u0 := .bool false) (u1 := .slice A9 L9.length C9) (Own.all hCb.out hBb) (by omega))
  obtain ⟨_, _, e2, hc7, _⟩ := ho7h.out.form
  simp only [Value.slice.injEq] at e2
  obtain ⟨rfl, -, rfl⟩ := e2
  have hpc : Hid (joinCan x.g 2 = L9) := Lib.hid (by rw [hjc'.out, ← hL9.out, ← hL8.out] <;> rfl)
  have hpg : Hid (((⟨x.name, x.run, x.job, A10, C10, L10⟩ : Grp)).g = joinG x.g r 2) := Lib.hid (by rw [hjg'.out, ← hL10.out]; rfl)
  change bodyPost _ _ _ _ _ (fin2 w7 (w.heap.size + 1) (.bool false) (.slice A9 L9.length C9))
  generalize fin2 w7 (w.heap.size + 1) (.bool false) (.slice A9 L9.length C9) = w9 at *
  exact bodyPost_ret (v := .tuple #[.slice A7 L7.length c7, .agg #[.bool false, .slice A9 L9.length C9], .int .i64 0]) (by simp [results, Tryd.results15, go_sem, z0, z1]) rfl ⟨A7, c7, L7, A9, C9, by rw [hpc.out] <;> rfl, ⟨ho9.out.reads grpE_len, fun y hy => by
    rcases hin7h.out y hy with h | rfl
    · exact (hback.out _ hB9.out).labs y h
    · exact OwnG.lab hY9.out⟩, hc7, by rw [hm7h.out, hpg.out], by rw [hpc.out]; exact hC9.out.reads jRefE_len, hB9.out⟩
end Go.Proofs.YtbellobjajnlkaaDoor
