/-
  The walks of groups: a job enters, by the reference: its group is new.
-/
import Derived.Test.YtbellobjajnlkaaDoorCon30
import Derived.Test.YtbellobjajnlkaaDoorCon26





namespace Go.Proofs.YtbellobjajnlkaaDoor
open Go.RowKit

attribute [local go_sem ↓] eq_ref ne_ref
/-- The two cells of a result. -/
def fin2 (w : World) (b : Nat) (u0 u1 : Value) : World := (w.setCell ⟨b, 0, none⟩ u0).setCell ⟨b, 1, none⟩ u1
theorem fin2_cells {w : World} {b : Nat} {u0 u1 t0 t1 : Value} (h0 : w.cell? ⟨b, 0, none⟩ = some t0) (h1 : w.cell? ⟨b, 1, none⟩ = some t1) : (fin2 w b u0 u1).cell? ⟨b, 0, none⟩ = some u0 ∧ (fin2 w b u0 u1).cell? ⟨b, 1, none⟩ = some u1 := by
  unfold fin2
  refine ⟨?_, ?_⟩ <;> simp [World.cell?_setCell_other, World.cell?_setCell_same', h0, h1]
theorem fin2_below {w : World} {b B : Nat} {u0 u1 : Value} (hb : B ≤ b) : Below B w (fin2 w b u0 u1) := ((Below.refl _ _).setCell hb _).setCell hb _
theorem fin2_size (w : World) (b : Nat) (u0 u1 : Value) : (fin2 w b u0 u1).heap.size = w.heap.size := by unfold fin2; rw [World.size_setCell, World.size_setCell]
theorem fin2_row {α : Type} {enc : α → List Value} {j : Nat} {e : TypeId} {w : World} {B : Nat} {v : Value} {l : List α} (h : Own enc j e w B v l) {b : Nat} {u0 u1 : Value} (hb : b < B) : Own enc j e (fin2 w b u0 u1) B v l :=
  (h.setCell (p := ⟨b, _, none⟩) (fun q hq e => by have := (h.lt q hq).1; simp at e; omega) _).setCell (p := ⟨b, _, none⟩) (fun q hq e => by have := (h.lt q hq).1; simp at e; omega) _
set_option maxRecDepth 100000 in
set_option maxHeartbeats 4000000 in
theorem renter_new (A : Option Addr) (c : Nat) (l : List Grp) (p : Str) (r : JRef) (P : I64) (w : World) (hr : RwG w w.heap.size A l) (hm : Mild l) (hp : p.1.size < 4294967281) (hs : shortR r) (hE : enterE (l.map Grp.g) p r P.1 = 0) (hh : hasN p (l.map Grp.g) = false) :
    Calls Tryd.prog 15 #[.slice A l.length c, .string p.1, .agg #[.string r.run.1, .string r.job.1], .int .i64 P.1] w (fun e w' => ∃ (A' : Option Addr) (c' : Nat) (l' : List Grp) (Ac : Option Addr) (Cc : Nat), e = .returned (.tuple #[.slice A' l'.length c', .agg #[.bool (enterRun (l.map Grp.g) p r P.1), .slice Ac (enterCan (l.map Grp.g) p r P.1).length Cc], .int .i64 (enterE (l.map Grp.g) p r P.1)]) ∧ RwG w' w'.heap.size A' l' ∧ l'.length ≤ c' ∧ l'.map Grp.g = enterL (l.map Grp.g) p r P.1 ∧ Rw jRefE 2 w' w'.heap.size Ac (enterCan (l.map Grp.g) p r P.1) ∧ Below w.heap.size w w') := by
  obtain ⟨hv0, hj, hpp, h0, h2, hi, hl⟩ := enterE_ok hE
  have hv := val_iff.2 hv0
  have hRun : enterRun (l.map Grp.g) p r P.1 = joinRun (getG (l.map Grp.g) p) := by unfold enterRun; rw [if_neg (by rw [hE]; decide)]
  have hCan : enterCan (l.map Grp.g) p r P.1 = joinCan (getG (l.map Grp.g) p) P.1 := by unfold enterCan; rw [if_neg (by rw [hE]; decide)]
  have hLst : enterL (l.map Grp.g) p r P.1 = putG (l.map Grp.g) (joinG (getG (l.map Grp.g) p) r P.1) := by unfold enterL; rw [if_neg (by rw [hE]; decide)]
  rw [hRun, hCan, hLst, hE]
  clear hRun hCan hLst hE
  have hva : ∀ W, Below w.heap.size w W → Calls Tryd.prog 11 #[.slice A l.length c] W fun e w' => e = .returned (.int .i64 (validE (l.map Grp.g))) ∧ Below W.heap.size W w' := fun W hb => rvalid_any A c l W ((hr.below hb (Nat.le_refl _)).more hb.size) hm
  have hal : ∀ W, Below w.heap.size w W → Calls Tryd.prog 20 #[.slice A l.length c] W fun e w' => ∃ v, e = .returned v ∧ Own jRefE 2 29 w' W.heap.size v (allG (l.map Grp.g)) ∧ Below W.heap.size W w' := fun W hb => rall_any A c l W ((hr.below hb (Nat.le_refl _)).more hb.size) hm.all hm.wait hm.len
  have hja : ∀ W, Below w.heap.size w W → Calls Tryd.prog 37 #[.agg #[.string r.run.1, .string r.job.1]] W fun e w' => e = .returned (.bool (jobB r)) ∧ Below W.heap.size W w' := fun W hb => rjob_any r W hs
  have hpa : ∀ W, Below w.heap.size w W → Calls Tryd.prog 34 #[.string p.1] W fun e w' => e = .returned (.bool (pathB p)) ∧ Below W.heap.size W w' := fun W hb => rpath_any p W hp
  have hln : (allG (l.map Grp.g)).length ≤ 9223372036854775807 := by have := hm.all; omega
  have hha : ∀ (W : World) (A1 : Option Addr) (c1 : Nat), Rw jRefE 2 W W.heap.size A1 (allG (l.map Grp.g)) → Calls Tryd.prog 38 #[.slice A1 (allG (l.map Grp.g)).length c1, .agg #[.string r.run.1, .string r.job.1]] W fun e w' => e = .returned (.bool (hasR (allG (l.map Grp.g)) r)) ∧ Below W.heap.size W w' := fun W A1 c1 h => (rhas_any A1 c1 (allG (l.map Grp.g)) r W h hln).mono fun e w' h => ⟨h.1, h.2⟩
  rw [show validE (l.map Grp.g) = 0 by unfold validE; rw [hv]; rfl] at hva
  rw [hj] at hja
  rw [hpp] at hpa
  rw [show hasR (allG (l.map Grp.g)) r = false from decide_eq_false hi] at hha
  have hq0 : ¬ P.1 < 0 := by omega
  have hq2 : ¬ 2 < P.1 := by omega
  have hl2 : ¬ (4096 : Int) ≤ ((allG (l.map Grp.g)).length : Int) := by omega
  clear hl
  have hfi : ∀ W, Below w.heap.size w W → Calls Tryd.prog 18 #[.slice A l.length c, .string p.1] W fun e w' => e = .returned (.int .i64 (findN p (l.map Grp.g))) ∧ W = w' := fun W hb => rfind_any A c l p W ((hr.row.below hb (Nat.le_refl _)).more hb.size) (by have := hm.len; omega)
  have hback : Hid (∀ W, Below w.heap.size w W → RwG W W.heap.size A l) := Lib.hid fun W hb => (hr.below hb (Nat.le_refl _)).more hb.size
  have hlm := hm.len
  have ha := Lib.hid hv0.asc
  have hfc := find_neg hv0.asc p
  replace hi := Lib.hid hi
  have hF : findN p (l.map Grp.g) = -1 := by
    rcases hfc with ⟨h, _⟩ | ⟨_, h⟩
    · rw [hh] at h; cases h
    · exact h
  rw [hF] at hfi
  have hgp : getG (l.map Grp.g) p = ⟨p, zR, []⟩ := by unfold getG; rw [if_neg (by rw [hh]; decide)]
  rw [hgp]
  have hjr : joinRun (⟨p, zR, []⟩ : G) = true := by unfold joinRun; rw [decide_eq_true rfl]; rfl
  have hjc : joinCan (⟨p, zR, []⟩ : G) P.1 = [] := by unfold joinCan; rw [if_pos ⟨rfl, rfl⟩]
  have hjg : joinG (⟨p, zR, []⟩ : G) r P.1 = (⟨p, r.run, r.job, none, 0, []⟩ : Grp).g := by unfold joinG; rw [if_pos ⟨rfl, rfl⟩]; rfl
  rw [hjr, hjc, hjg]
  clear hF hfc hgp hjr hjc hjg h0 h2
  replace hh := Lib.hid hh
  replace hv0 := Lib.hid hv0
  replace hfi := Lib.hid hfi
  replace hva := Lib.hid hva
  replace hal := Lib.hid hal
  replace hja := Lib.hid hja
  replace hpa := Lib.hid hpa
  replace hha := Lib.hid hha
  replace hv := Lib.hid hv
  try replace hj := Lib.hid hj
  try replace hpp := Lib.hid hpp
  replace hr := Lib.hid hr
  replace hm := Lib.hid hm
  replace hs := Lib.hid hs
  clear hln hp
  go_enter Tryd.func15, Tryd.ntmps15
  go_wp2_with (first | (go_at_call 11; go_must (refine (hva.out _ (by repeat (first | (with_reducible exact Below.refl _ _) | (with_reducible refine Below.drew ?_) | (with_reducible refine below_drewN ?_ _) | ((with_reducible refine Below.alloc ?_ ?_ _); rotate_left; focus ((try simp) <;> omega)) | ((with_reducible refine Below.setCell ?_ ?_ _); rotate_left; focus ((try simp) <;> omega)) | ((with_reducible refine Below.trans ?_ (Below.mono (by assumption) ?_)); rotate_left; focus ((try simp) <;> omega))))).mono ?_; rintro e w1 ⟨rfl, hb1⟩; have hz1 := hb1.size; (try simp at hz1); have hza1 : w.heap.size < w1.heap.size := (by omega); have hzb1 : w.heap.size + 1 < w1.heap.size := (by omega); obtain ⟨p1, f1⟩ := blk_at hb1 w.heap.size (by (try simp) <;> omega); obtain ⟨pp1, ff1⟩ := blk_at hb1 (w.heap.size + 1) (by (try simp) <;> omega))) | (go_at_call 37; go_must (refine (hja.out _ (by repeat (first | (with_reducible exact Below.refl _ _) | (with_reducible refine Below.drew ?_) | (with_reducible refine below_drewN ?_ _) | ((with_reducible refine Below.alloc ?_ ?_ _); rotate_left; focus ((try simp) <;> omega)) | ((with_reducible refine Below.setCell ?_ ?_ _); rotate_left; focus ((try simp) <;> omega)) | ((with_reducible refine Below.trans ?_ (Below.mono (by assumption) ?_)); rotate_left; focus ((try simp) <;> omega))))).mono ?_; rintro e w2 ⟨rfl, hb2⟩; have hz2 := hb2.size; (try simp at hz2); have hza2 : w.heap.size < w2.heap.size := (by omega); have hzb2 : w.heap.size + 1 < w2.heap.size := (by omega); obtain ⟨p2, f2⟩ := blk_at hb2 w.heap.size (by (try simp) <;> omega); obtain ⟨pp2, ff2⟩ := blk_at hb2 (w.heap.size + 1) (by (try simp) <;> omega))) | (go_at_call 34; go_must (refine (hpa.out _ (by repeat (first | (with_reducible exact Below.refl _ _) | (with_reducible refine Below.drew ?_) | (with_reducible refine below_drewN ?_ _) | ((with_reducible refine Below.alloc ?_ ?_ _); rotate_left; focus ((try simp) <;> omega)) | ((with_reducible refine Below.setCell ?_ ?_ _); rotate_left; focus ((try simp) <;> omega)) | ((with_reducible refine Below.trans ?_ (Below.mono (by assumption) ?_)); rotate_left; focus ((try simp) <;> omega))))).mono ?_; rintro e w3 ⟨rfl, hb3⟩; have hz3 := hb3.size; (try simp at hz3); have hza3 : w.heap.size < w3.heap.size := (by omega); have hzb3 : w.heap.size + 1 < w3.heap.size := (by omega); obtain ⟨p3, f3⟩ := blk_at hb3 w.heap.size (by (try simp) <;> omega); obtain ⟨pp3, ff3⟩ := blk_at hb3 (w.heap.size + 1) (by (try simp) <;> omega))))
  refine wp_region_held_drew (S := fun w' => w'.cell? ⟨w.heap.size, 0, none⟩ = some (.string r.run.1) ∧ w'.cell? ⟨w.heap.size, 1, none⟩ = some (.string r.job.1)) (by kernel_rfl) ?_ (fun hHeld => ?_)
  · first | (dsimp only; go_keep; done) | (go_keep; done) | (go_simp; done)
  rw [show (Array.replicate _ false : Array Bool) = #[false, false, false, false] from rfl]
  (refine wpAnyH_take (i := 0) (oi := Oper.mk _ _ _ _ _ _) (v := ?_) rfl (by kernel_rfl) (by kernel_rfl) (by kernel_rfl) (fun _ _ _ h => h) ?_ (by assumption) ?_; rotate_left; (focus (refine Or.inl ⟨by rfl, ?_⟩; intro wS hSw; (try dsimp only at hSw); go_simp; first | done | with_reducible rfl)); simp only [Act.put, List.setIfInBounds_toArray, List.set_cons_zero, List.set_cons_succ])
  (refine wpAnyH_take (i := 2) (oi := Oper.mk _ _ _ _ _ _) (v := ?_) rfl (by kernel_rfl) (by kernel_rfl) (by kernel_rfl) (fun _ _ _ h => h) ?_ (by assumption) ?_; rotate_left; (focus (refine Or.inl ⟨by rfl, ?_⟩; intro wS hSw; (try dsimp only at hSw); go_simp; first | done | with_reducible rfl)); simp only [Act.put, List.setIfInBounds_toArray, List.set_cons_zero, List.set_cons_succ])
  (refine wpAnyH_ready (rs := [1]) (by kernel_rfl) (by simp) ?_
   refine AllReadyH.cons (o := Oper.mk _ _ _ _ _ _) rfl (fun K hK => ?_) AllReadyH.nil
   go_simp
   (go_at_call 20; go_must (refine (hal.out _ (by repeat (first | (with_reducible exact Below.refl _ _) | (with_reducible refine Below.drew ?_) | (with_reducible refine below_drewN ?_ _) | ((with_reducible refine Below.alloc ?_ ?_ _); rotate_left; focus ((try simp) <;> omega)) | ((with_reducible refine Below.setCell ?_ ?_ _); rotate_left; focus ((try simp) <;> omega)) | ((with_reducible refine Below.trans ?_ (Below.mono (by assumption) ?_)); rotate_left; focus ((try simp) <;> omega))))).mono ?_; rintro e w4 ⟨v4, rfl, hown4, hb4⟩; have hz4 := hb4.size; (try simp at hz4); have hza4 : w.heap.size < w4.heap.size := (by omega); have hzb4 : w.heap.size + 1 < w4.heap.size := (by omega); obtain ⟨p4, f4⟩ := blk_at hb4 w.heap.size (by (try simp) <;> omega); obtain ⟨pp4, ff4⟩ := blk_at hb4 (w.heap.size + 1) (by (try simp) <;> omega); obtain ⟨A4, c4, rfl, _, _, _⟩ := hown4.form; have hrd4 := Lib.hid (hown4.reads jRefE_len); clear hown4))
   refine hK.out _ _ ?_ (fun hHeld => ?_)
   · first | (dsimp only; go_keep; done) | (go_keep; done)
   clear hK K
   (try simp only [List.setIfInBounds_toArray, List.set_cons_zero, List.set_cons_succ]))
  (refine wpAnyH_ready (rs := [3]) (by kernel_rfl) (by simp) ?_
   refine AllReadyH.cons (o := Oper.mk _ _ _ _ _ _) rfl (fun K hK => ?_) AllReadyH.nil
   go_simp
   (go_at_call 38; go_must (refine (hha.out _ A4 c4 (Rw.more (Rw.below hrd4.out (by repeat (first | (with_reducible exact Below.refl _ _) | (with_reducible refine Below.drew ?_) | (with_reducible refine below_drewN ?_ _) | ((with_reducible refine Below.alloc ?_ ?_ _); rotate_left; focus ((try simp) <;> omega)) | ((with_reducible refine Below.setCell ?_ ?_ _); rotate_left; focus ((try simp) <;> omega)) | ((with_reducible refine Below.trans ?_ (Below.mono (by assumption) ?_)); rotate_left; focus ((try simp) <;> omega)))) (Nat.le_refl _)) (by (try simp) <;> omega))).mono ?_; rintro e w5 ⟨rfl, hb5⟩; have hz5 := hb5.size; (try simp at hz5); have hza5 : w.heap.size < w5.heap.size := (by omega); have hzb5 : w.heap.size + 1 < w5.heap.size := (by omega); obtain ⟨p5, f5⟩ := blk_at hb5 w.heap.size (by (try simp) <;> omega); obtain ⟨pp5, ff5⟩ := blk_at hb5 (w.heap.size + 1) (by (try simp) <;> omega)))
   refine hK.out _ _ ?_ (fun hHeld => ?_)
   · first | (dsimp only; go_keep; done) | (go_keep; done)
   clear hK K
   (try simp only [List.setIfInBounds_toArray, List.set_cons_zero, List.set_cons_succ]))
  refine wpAnyH_done (by kernel_rfl) ?_ _
  go_wp2_with (first
    | (go_at_call 20; go_must (refine (hal.out _ (by repeat (first | (with_reducible exact Below.refl _ _) | (with_reducible refine Below.drew ?_) | (with_reducible refine below_drewN ?_ _) | ((with_reducible refine Below.alloc ?_ ?_ _); rotate_left; focus ((try simp) <;> omega)) | ((with_reducible refine Below.setCell ?_ ?_ _); rotate_left; focus ((try simp) <;> omega)) | ((with_reducible refine Below.trans ?_ (Below.mono (by assumption) ?_)); rotate_left; focus ((try simp) <;> omega))))).mono ?_; rintro e w6 ⟨v6, rfl, hown6, hb6⟩; have hz6 := hb6.size; (try simp at hz6); have hza6 : w.heap.size < w6.heap.size := (by omega); have hzb6 : w.heap.size + 1 < w6.heap.size := (by omega); obtain ⟨p6, f6⟩ := blk_at hb6 w.heap.size (by (try simp) <;> omega); obtain ⟨pp6, ff6⟩ := blk_at hb6 (w.heap.size + 1) (by (try simp) <;> omega); obtain ⟨A6, c6, rfl, _, _, _⟩ := hown6.form; have hrd6 := Lib.hid (hown6.reads jRefE_len); clear hown6))
    | (go_at_call 18; go_must (refine (hfi.out _ (by repeat (first | (with_reducible exact Below.refl _ _) | (with_reducible refine Below.drew ?_) | (with_reducible refine below_drewN ?_ _) | ((with_reducible refine Below.alloc ?_ ?_ _); rotate_left; focus ((try simp) <;> omega)) | ((with_reducible refine Below.setCell ?_ ?_ _); rotate_left; focus ((try simp) <;> omega)) | ((with_reducible refine Below.trans ?_ (Below.mono (by assumption) ?_)); rotate_left; focus ((try simp) <;> omega))))).mono ?_; rintro e w8 ⟨rfl, rfl⟩))
    | (go_at_call 46; go_must (refine (rput_own _ c l (⟨p, r.run, r.job, none, 0, []⟩ : Grp) _ (hback.out _ (by repeat (first | (with_reducible exact Below.refl _ _) | (with_reducible refine Below.drew ?_) | (with_reducible refine below_drewN ?_ _) | ((with_reducible refine Below.alloc ?_ ?_ _); rotate_left; focus ((try simp) <;> omega)) | ((with_reducible refine Below.setCell ?_ ?_ _); rotate_left; focus ((try simp) <;> omega)) | ((with_reducible refine Below.trans ?_ (Below.mono (by assumption) ?_)); rotate_left; focus ((try simp) <;> omega))))) ⟨Nat.le_refl _, Nat.zero_le _, Rw.nil⟩ ha.out hlm).mono ?_; rintro e w7 ⟨A7, c7, L7, rfl, ho7, hin7, hm7, hb7⟩; have hz7 := hb7.size; (try simp at hz7); have hza7 : w.heap.size < w7.heap.size := (by omega); have hzb7 : w.heap.size + 1 < w7.heap.size := (by omega); obtain ⟨p7, f7⟩ := blk_at hb7 w.heap.size (by (try simp) <;> omega); obtain ⟨pp7, ff7⟩ := blk_at hb7 (w.heap.size + 1) (by (try simp) <;> omega); have ho7h := Lib.hid ho7; have hin7h := Lib.hid hin7; have hm7h := Lib.hid hm7; clear ho7 hin7 hm7)))
  have n0 : w7.cell? ⟨w.heap.size + 1, 0, none⟩ = some (.bool false) := by go_simp
  have n1 : w7.cell? ⟨w.heap.size + 1, 1, none⟩ = some (.slice none 0 0) := by go_simp
  have hBw : Below w.heap.size w w7 := (by repeat (first | (with_reducible exact Below.refl _ _) | (with_reducible refine Below.drew ?_) | (with_reducible refine below_drewN ?_ _) | ((with_reducible refine Below.alloc ?_ ?_ _); rotate_left; focus ((try simp) <;> omega)) | ((with_reducible refine Below.setCell ?_ ?_ _); rotate_left; focus ((try simp) <;> omega)) | ((with_reducible refine Below.trans ?_ (Below.mono (by assumption) ?_)); rotate_left; focus ((try simp) <;> omega))))
  obtain ⟨z0, z1⟩ := fin2_cells (u0 := .bool true) (u1 := .slice none 0 0) n0 n1
  have hB9 := Lib.hid (hBw.trans (fin2_below (u0 := .bool true) (u1 := .slice none 0 0) (show w.heap.size ≤ w.heap.size + 1 by omega)))
  have ho9 := Lib.hid (fin2_row (b := w.heap.size + 1) (u0 := .bool true) (u1 := .slice none 0 0) ho7h.out (by (try simp) <;> omega))
  obtain ⟨_, _, e2, hc7, _⟩ := ho7h.out.form
  simp only [Value.slice.injEq] at e2
  obtain ⟨rfl, -, rfl⟩ := e2
  change bodyPost _ _ _ _ _ (fin2 w7 (w.heap.size + 1) (.bool true) (.slice none 0 0))
  generalize fin2 w7 (w.heap.size + 1) (.bool true) (.slice none 0 0) = w9 at *
  exact bodyPost_ret (v := .tuple #[.slice A7 L7.length c7, .agg #[.bool true, .slice none 0 0], .int .i64 0]) (by simp [results, Tryd.results15, go_sem, z0, z1]) rfl ⟨A7, c7, L7, none, 0, rfl, ⟨ho9.out.reads grpE_len, fun y hy => by
    rcases hin7h.out y hy with h | rfl
    · exact (hback.out _ hB9.out).labs y h
    · exact ⟨Nat.le_refl _, Nat.zero_le _, Rw.nil⟩⟩, hc7, hm7h.out, Rw.nil, hB9.out⟩
end Go.Proofs.YtbellobjajnlkaaDoor
