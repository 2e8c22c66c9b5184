/-
  The walks of groups: a job joins a group, by the program.
-/
import Derived.Test.YtbellobjajnlkaaDoorCon9



namespace Go.Proofs.YtbellobjajnlkaaDoor
open Go.RowKit

/-- No block below B is touched but one. -/
structure But (B : Nat) (row : Option Nat) (a w : World) : Prop where
  size : a.heap.size ≤ w.heap.size
  block : ∀ k, k < B → some k ≠ row → w.heap[k]? = a.heap[k]?
section
variable {B : Nat} {row : Option Nat} {a w w' : World}
theorem But.refl : But B row a a := ⟨Nat.le_refl _, fun _ _ _ => rfl⟩
theorem But.drew (h : But B row a w) : But B row a w.drew := ⟨h.size, h.block⟩
theorem But.below (h : But B row a w) {C : Nat} (hb : Below C w w') (hC : B ≤ C) : But B row a w' := ⟨Nat.le_trans h.size hb.size, fun k hk hn => (hb.block k (by omega)).trans (h.block k hk hn)⟩
theorem But.alloc (h : But B row a w) (hB : B ≤ w.heap.size) (o : Obj) : But B row a (w.alloc o) := h.below ((Below.refl _ _).alloc (Nat.le_refl _) o) hB
theorem But.setCell (h : But B row a w) {p : Addr} (hp : B ≤ p.block) (u : Value) : But B row a (w.setCell p u) := h.below ((Below.refl _ _).setCell (Nat.le_refl _) u) hp
theorem But.grown (h : But B row a w) {r : Option Nat} (hg : w.grownBy w' r) (hB : B ≤ w.heap.size) (hr : ∀ k, r = some k → B ≤ k ∨ row = some k) : But B row a w' := ⟨Nat.le_trans h.size hg.size, fun k hk hn => (hg.block k (by omega) (fun e => by
  rcases hr k e.symm with h1 | h1
  · omega
  · exact hn h1.symm)).trans (h.block k hk hn)⟩
end
theorem Own.far {α : Type} {enc : α → List Value} {k : Nat} {e : TypeId} {w w' : World} {b : Nat} {v : Value} {l : List α} (h : Own enc k e w b v l) (hk : ∀ g, v.ownBlock = some g → w'.heap[g]? = w.heap[g]?) : Own enc k e w' b v l := by
  refine ⟨h.1, ?_⟩
  rcases h.2 with hn | ⟨g, cap, cur, rfl, hb1, hg, r⟩
  · exact .inl hn
  · exact .inr ⟨g, cap, cur, rfl, hb1, (hk g rfl).trans hg, r⟩
theorem OwnG.but {w w' : World} {H : Nat} {row : Option Nat} {x : Grp} (h : OwnG w H x) (hb : But w.heap.size row w w') (hx : ∀ g, blkG x = some g → row ≠ some g) : OwnG w' H x :=
  Own.far h fun g hg => hb.block g (OwnG.lt h hg).2 fun e => hx g hg e.symm
attribute [local go_sem ↓] eq_ref ne_ref
theorem grown_at {W W' : World} {row : Option Nat} (hg : W.grownBy W' row) (b : Nat) (hlt : b < W.heap.size) (hne : some b ≠ row) : (∀ o, W'.cell? ⟨b, o, none⟩ = W.cell? ⟨b, o, none⟩) ∧ (∀ o, W'.frozen? ⟨b, o, none⟩ = W.frozen? ⟨b, o, none⟩) :=
  ⟨fun _o => World.cell?_of_block (hg.block b hlt hne), fun _o => World.frozen?_of_block (hg.block b hlt hne)⟩
theorem rw_lit {w : World} {g B : Nat} {r : JRef} (hB : g < B) (h0 : w.cell? ⟨g, 0, none⟩ = some (.string r.run.1)) (h1 : w.cell? ⟨g, 1, none⟩ = some (.string r.job.1)) : Rw jRefE 2 w B (some ⟨g, 0, none⟩) [r] := fun _ => ⟨g, 0, rfl, hB, fun i y hy j u hu => by
  match i, hy with
  | 0, hy =>
    obtain rfl : r = y := by simpa using hy
    match j, hu with
    | 0, hu => obtain rfl : Value.string r.run.1 = u := by simpa [jRefE] using hu
               exact h0
    | 1, hu => obtain rfl : Value.string r.job.1 = u := by simpa [jRefE] using hu
               exact h1
    | j + 2, hu => simp [jRefE] at hu
  | i + 1, hy => simp at hy⟩
/-- Both results are stored. -/
def W6 (w : World) (a b : Nat) (u0 u1 u2 u3 v0 v1 : Value) : World := (((((w.setCell ⟨a, 0, none⟩ u0).setCell ⟨a, 1, none⟩ u1).setCell ⟨a, 2, none⟩ u2).setCell ⟨a, 3, none⟩ u3).setCell ⟨b, 0, none⟩ v0).setCell ⟨b, 1, none⟩ v1
theorem set6 (w : World) {a b : Nat} (u0 u1 u2 u3 v0 v1 : Value) {t0 t1 t2 t3 s0 s1 : Value} (hab : a ≠ b) (h0 : w.cell? ⟨a, 0, none⟩ = some t0) (h1 : w.cell? ⟨a, 1, none⟩ = some t1) (h2 : w.cell? ⟨a, 2, none⟩ = some t2) (h3 : w.cell? ⟨a, 3, none⟩ = some t3) (k0 : w.cell? ⟨b, 0, none⟩ = some s0) (k1 : w.cell? ⟨b, 1, none⟩ = some s1) :
    (W6 w a b u0 u1 u2 u3 v0 v1).cell? ⟨a, 0, none⟩ = some u0 ∧ (W6 w a b u0 u1 u2 u3 v0 v1).cell? ⟨a, 1, none⟩ = some u1 ∧ (W6 w a b u0 u1 u2 u3 v0 v1).cell? ⟨a, 2, none⟩ = some u2 ∧ (W6 w a b u0 u1 u2 u3 v0 v1).cell? ⟨a, 3, none⟩ = some u3 ∧ (W6 w a b u0 u1 u2 u3 v0 v1).cell? ⟨b, 0, none⟩ = some v0 ∧ (W6 w a b u0 u1 u2 u3 v0 v1).cell? ⟨b, 1, none⟩ = some v1 := by
  unfold W6
  refine ⟨?_, ?_, ?_, ?_, ?_, ?_⟩ <;> simp [World.cell?_setCell_other, World.cell?_setCell_same', h0, h1, h2, h3, k0, k1]
theorem W6.size (w : World) (a b : Nat) (u0 u1 u2 u3 v0 v1 : Value) : (W6 w a b u0 u1 u2 u3 v0 v1).heap.size = w.heap.size := by unfold W6; simp only [World.size_setCell]
theorem W6.below {w : World} {a b B : Nat} {u0 u1 u2 u3 v0 v1 : Value} (ha : B ≤ a) (hb : B ≤ b) : Below B w (W6 w a b u0 u1 u2 u3 v0 v1) := (((((((Below.refl _ _).setCell ha _).setCell ha _).setCell ha _).setCell ha _).setCell hb _).setCell hb _)
set_option maxRecDepth 100000 in
set_option maxHeartbeats 4000000 in
theorem joined_new (x : Grp) (r : JRef) (p : Int) (H : Nat) (w : World) (ho : OwnG w H x) (hH : H ≤ w.heap.size) (hz : x.g.rn = zR) (hw : x.wait = []) :
    Calls Tryd.prog 45 #[(.agg #[.string x.name.1, .string x.run.1, .string x.job.1, .slice x.waitA x.wait.length x.waitC]), .agg #[.string r.run.1, .string r.job.1], .int .i64 p] w (fun e w' => ∃ (y : Grp) (A : Option Addr) (C : Nat), e = .returned (.tuple #[(.agg #[.string y.name.1, .string y.run.1, .string y.job.1, .slice y.waitA y.wait.length y.waitC]), .agg #[.bool (joinRun (x).g), .slice A (joinCan (x).g p).length C]]) ∧ y.g = joinG (x).g r p ∧ OwnG w' H y ∧ (blkG y = blkG x ∨ ∀ g, blkG y = some g → w.heap.size ≤ g) ∧ Own jRefE 2 29 w' w.heap.size (.slice A (joinCan (x).g p).length C) (joinCan (x).g p) ∧ Below H w w' ∧ But w.heap.size (blkG x) w w') := by
  have hq := refB_zero x.run x.job
  have hs : refB x.run.1 x.job.1 ⟨#[]⟩ ⟨#[]⟩ = true := hq.trans (decide_eq_true hz)
  clear hq
  have hlen : (x.wait.length : Int) = 0 := by rw [hw]; rfl
  have hg : joinG x.g r p = ⟨x.name, r, x.wait⟩ := by unfold joinG; rw [if_pos ⟨hz, hw⟩]; rfl
  have hr : joinRun x.g = true := by unfold joinRun; rw [decide_eq_true hz, decide_eq_true (show x.g.wait = [] from hw)]; rfl
  have hc : joinCan x.g p = [] := by unfold joinCan; rw [if_pos ⟨hz, hw⟩]
  rw [hg, hr, hc]
  replace ho := Lib.hid ho
  clear hg hr hc hz hw
  go_enter Tryd.func45, Tryd.ntmps45
  go_wp2_with fail
  exact bodyPost_ret (v := .tuple #[(.agg #[.string (⟨x.name, r.run, r.job, x.waitA, x.waitC, x.wait⟩ : Grp).name.1, .string (⟨x.name, r.run, r.job, x.waitA, x.waitC, x.wait⟩ : Grp).run.1, .string (⟨x.name, r.run, r.job, x.waitA, x.waitC, x.wait⟩ : Grp).job.1, .slice (⟨x.name, r.run, r.job, x.waitA, x.waitC, x.wait⟩ : Grp).waitA (⟨x.name, r.run, r.job, x.waitA, x.waitC, x.wait⟩ : Grp).wait.length (⟨x.name, r.run, r.job, x.waitA, x.waitC, x.wait⟩ : Grp).waitC]), .agg #[.bool true, .slice none 0 0]]) (by simp [results, Tryd.results45, go_sem]) rfl ⟨⟨x.name, r.run, r.job, x.waitA, x.waitC, x.wait⟩, none, 0, rfl, rfl, Own.all ho.out (by repeat (first | (with_reducible exact Below.refl _ _) | (with_reducible refine Below.drew ?_) | (with_reducible refine below_drewN ?_ _) | ((with_reducible refine Below.alloc ?_ ?_ _); rotate_left; focus ((try simp) <;> omega)) | ((with_reducible refine Below.setCell ?_ ?_ _); rotate_left; focus ((try simp) <;> omega)) | ((with_reducible refine Below.trans ?_ (Below.mono (by assumption) ?_)); rotate_left; focus ((try simp) <;> omega)))), .inl rfl, Own.nil _ _ _, (by repeat (first | (with_reducible exact Below.refl _ _) | (with_reducible refine Below.drew ?_) | (with_reducible refine below_drewN ?_ _) | ((with_reducible refine Below.alloc ?_ ?_ _); rotate_left; focus ((try simp) <;> omega)) | ((with_reducible refine Below.setCell ?_ ?_ _); rotate_left; focus ((try simp) <;> omega)) | ((with_reducible refine Below.trans ?_ (Below.mono (by assumption) ?_)); rotate_left; focus ((try simp) <;> omega)))), (by repeat (first | (with_reducible exact But.refl) | (with_reducible refine But.drew ?_) | ((with_reducible refine But.alloc ?_ ?_ _); rotate_left; focus ((try simp) <;> omega)) | ((with_reducible refine But.setCell ?_ ?_ _); rotate_left; focus ((try simp) <;> omega))))⟩
set_option maxRecDepth 100000 in
set_option maxHeartbeats 4000000 in
theorem joined_queue (x : Grp) (r : JRef) (H : Nat) (w : World) (ho : OwnG w H x) (hH : H ≤ w.heap.size) (hn : x.wait.length ≤ 1000000) (hzw : ¬ (x.g.rn = zR ∧ x.g.wait = [])) :
    Calls Tryd.prog 45 #[(.agg #[.string x.name.1, .string x.run.1, .string x.job.1, .slice x.waitA x.wait.length x.waitC]), .agg #[.string r.run.1, .string r.job.1], .int .i64 0] w (fun e w' => ∃ (y : Grp) (A : Option Addr) (C : Nat), e = .returned (.tuple #[(.agg #[.string y.name.1, .string y.run.1, .string y.job.1, .slice y.waitA y.wait.length y.waitC]), .agg #[.bool (joinRun (x).g), .slice A (joinCan (x).g 0).length C]]) ∧ y.g = joinG (x).g r 0 ∧ OwnG w' H y ∧ (blkG y = blkG x ∨ ∀ g, blkG y = some g → w.heap.size ≤ g) ∧ Own jRefE 2 29 w' w.heap.size (.slice A (joinCan (x).g 0).length C) (joinCan (x).g 0) ∧ Below H w w' ∧ But w.heap.size (blkG x) w w') := by
  obtain ⟨inf, hi0, iz0, iz1, iz2⟩ := info_three ref_info
  have hq := refB_zero x.run x.job
  have hg : joinG x.g r 0 = ⟨x.name, ⟨x.run, x.job⟩, x.wait ++ [r]⟩ := by unfold joinG; rw [if_neg hzw, if_pos rfl]; rfl
  have hr : joinRun x.g = false := by
    unfold joinRun
    rcases Decidable.em (x.g.rn = zR) with h | h
    · rw [decide_eq_false (show ¬ x.g.wait = [] from fun e => hzw ⟨h, e⟩), Bool.and_false]
    · rw [decide_eq_false h, Bool.false_and]
  have hc : joinCan x.g 0 = [] := by unfold joinCan; rw [if_neg hzw, if_neg (by omega), if_pos rfl]; rfl
  have hlen : refB x.run.1 x.job.1 ⟨#[]⟩ ⟨#[]⟩ = true → ¬ (x.wait.length : Int) = 0 := fun e h => hzw ⟨of_decide_eq_true (hq.symm.trans e), List.eq_nil_of_length_eq_zero (show x.wait.length = 0 by omega)⟩
  have hlt : ∀ g, blkG x = some g → g < w.heap.size := fun g hg => (OwnG.lt ho hg).2
  have hge : ∀ g, blkG x = some g → H ≤ g := fun g hg => (OwnG.lt ho hg).1
  have hbk : ∀ k, some (w.heap.size + k) ≠ (Value.slice x.waitA x.wait.length x.waitC).ownBlock := fun k e => by
    have := hlt _ e.symm
    omega
  have hb0 := hbk 0
  rw [hg, hr, hc]
  clear hg hr hc hzw hq
  rcases hs : refB x.run.1 x.job.1 ⟨#[]⟩ ⟨#[]⟩ with _ | _
  all_goals
    try replace hlen := hlen hs
    first
    | (have hlen2 : (((x.wait.length : Int) == 0) = false) := by simpa using hlen
       clear hlen)
    | clear hlen
    replace ho := Lib.hid ho
    replace hlt := Lib.hid hlt
    replace hge := Lib.hid hge
    replace hbk := Lib.hid hbk
    replace hb0 := Lib.hid hb0
    go_enter Tryd.func45, Tryd.ntmps45
    go_wp2_with (at_builtin
                 refine wpList_append_rw _ rfl (.tmp 48) (.tmp 50) _ rfl jRefE_len jRefE_one H 29 inf _ 32 Tryd.underlying33 hi0 iz0 iz1 iz2 rfl (by omega) (.slice x.waitA x.wait.length x.waitC) x.wait rfl ?_ (w.heap.size + 1 + 1 + 1 + 1 + 1 + 1) _ 1 1 [r] rfl rfl ?_ ?_ ?_ ?_ ?_
                 · exact Own.all ho.out (by repeat (first | (with_reducible exact Below.refl _ _) | (with_reducible refine Below.drew ?_) | (with_reducible refine below_drewN ?_ _) | ((with_reducible refine Below.alloc ?_ ?_ _); rotate_left; focus ((try simp) <;> omega)) | ((with_reducible refine Below.setCell ?_ ?_ _); rotate_left; focus ((try simp) <;> omega)) | ((with_reducible refine Below.trans ?_ (Below.mono (by assumption) ?_)); rotate_left; focus ((try simp) <;> omega))))
                 · exact rw_lit (Nat.lt_succ_self _) (by go_simp) (by go_simp)
                 · (try simp [maxLen]) <;> omega
                 · (try simp) <;> omega
                 · (try simp) <;> omega
                 intro v3 w3 hown3 hg3 hat3
                 have hz3 := hg3.size
                 (try simp at hz3)
                 obtain ⟨r0, f0⟩ := grown_at hg3 w.heap.size (by (try simp) <;> omega) hb0.out
                 obtain ⟨r2, f2⟩ := grown_at hg3 (w.heap.size + 1 + 1) (by (try simp) <;> omega) (hbk.out 2)
                 obtain ⟨r3, f3⟩ := grown_at hg3 (w.heap.size + 1 + 1 + 1) (by (try simp) <;> omega) (hbk.out 3)
                 obtain ⟨r4, f4⟩ := grown_at hg3 (w.heap.size + 1 + 1 + 1 + 1) (by (try simp) <;> omega) (hbk.out 4)
                 have k03 : w3.cell? ⟨w.heap.size, 3, none⟩ = some (.slice x.waitA x.wait.length x.waitC) := by go_simp
                 obtain ⟨A3, C3, rfl, _, _, hlt3⟩ := hown3.form
                 replace hown3 := Lib.hid hown3
                 replace hat3 := Lib.hid hat3
                 replace hlt3 := Lib.hid hlt3
                 have hB3 := Lib.hid (show Below H w w3 from Below.grown (by repeat (first | (with_reducible exact Below.refl _ _) | (with_reducible refine Below.drew ?_) | (with_reducible refine below_drewN ?_ _) | ((with_reducible refine Below.alloc ?_ ?_ _); rotate_left; focus ((try simp) <;> omega)) | ((with_reducible refine Below.setCell ?_ ?_ _); rotate_left; focus ((try simp) <;> omega)) | ((with_reducible refine Below.trans ?_ (Below.mono (by assumption) ?_)); rotate_left; focus ((try simp) <;> omega)))) hg3 (by (try simp) <;> omega) fun k hk => hge.out k hk)
                 have hT3 := Lib.hid (show But w.heap.size (blkG x) w w3 from But.grown (by repeat (first | (with_reducible exact But.refl) | (with_reducible refine But.drew ?_) | ((with_reducible refine But.alloc ?_ ?_ _); rotate_left; focus ((try simp) <;> omega)) | ((with_reducible refine But.setCell ?_ ?_ _); rotate_left; focus ((try simp) <;> omega)))) hg3 (by (try simp) <;> omega) fun k hk => .inr hk)
                 clear hg3)
    have hB4 := Lib.hid (show Below H w (w3.setCell ⟨w.heap.size, 3, none⟩ (.slice A3 (x.wait.length + 1) C3)) from hB3.out.setCell (by (try simp) <;> omega) _)
    have hT4 := Lib.hid (show But w.heap.size (blkG x) w (w3.setCell ⟨w.heap.size, 3, none⟩ (.slice A3 (x.wait.length + 1) C3)) from hT3.out.setCell (by (try simp) <;> omega) _)
    have : (w3.setCell ⟨w.heap.size, 3, none⟩ (.slice A3 (x.wait.length + 1) C3)).cell? ⟨w.heap.size, 0, none⟩ = some (.string x.name.1) := by
      go_simp
    have : (w3.setCell ⟨w.heap.size, 3, none⟩ (.slice A3 (x.wait.length + 1) C3)).cell? ⟨w.heap.size, 1, none⟩ = some (.string x.run.1) := by
      go_simp
    have : (w3.setCell ⟨w.heap.size, 3, none⟩ (.slice A3 (x.wait.length + 1) C3)).cell? ⟨w.heap.size, 2, none⟩ = some (.string x.job.1) := by
      go_simp
    have k3 : (w3.setCell ⟨w.heap.size, 3, none⟩ (.slice A3 (x.wait.length + 1) C3)).cell? ⟨w.heap.size, 3, none⟩ = some (.slice A3 (x.wait.length + 1) C3) := by first | exact World.cell?_setCell_same k03 | exact World.cell?_setCell_same _ _ _ k03 | exact World.cell?_setCell_same (h := k03)
    clear k03 r0 f0
    have : (w3.setCell ⟨w.heap.size, 3, none⟩ (.slice A3 (x.wait.length + 1) C3)).cell? ⟨w.heap.size + 1 + 1, 0, none⟩ = some (.string ⟨#[]⟩) := by
      go_simp
    have : (w3.setCell ⟨w.heap.size, 3, none⟩ (.slice A3 (x.wait.length + 1) C3)).cell? ⟨w.heap.size + 1 + 1, 1, none⟩ = some (.string ⟨#[]⟩) := by
      go_simp
    have : (w3.setCell ⟨w.heap.size, 3, none⟩ (.slice A3 (x.wait.length + 1) C3)).cell? ⟨w.heap.size + 1 + 1, 2, none⟩ = some (.string ⟨#[]⟩) := by
      go_simp
    have : (w3.setCell ⟨w.heap.size, 3, none⟩ (.slice A3 (x.wait.length + 1) C3)).cell? ⟨w.heap.size + 1 + 1, 3, none⟩ = some (.slice none 0 0) := by
      go_simp
    have : (w3.setCell ⟨w.heap.size, 3, none⟩ (.slice A3 (x.wait.length + 1) C3)).cell? ⟨w.heap.size + 1 + 1 + 1, 0, none⟩ = some (.bool false) := by
      go_simp
    have : (w3.setCell ⟨w.heap.size, 3, none⟩ (.slice A3 (x.wait.length + 1) C3)).cell? ⟨w.heap.size + 1 + 1 + 1, 1, none⟩ = some (.slice none 0 0) := by
      go_simp
    have : (w3.setCell ⟨w.heap.size, 3, none⟩ (.slice A3 (x.wait.length + 1) C3)).cell? ⟨w.heap.size + 1 + 1 + 1 + 1, 0, none⟩ = some (.bool false) := by
      go_simp
    have : (w3.setCell ⟨w.heap.size, 3, none⟩ (.slice A3 (x.wait.length + 1) C3)).cell? ⟨w.heap.size + 1 + 1 + 1 + 1, 1, none⟩ = some (.slice none 0 0) := by
      go_simp
    have m2 : ∀ o, (w3.setCell ⟨w.heap.size, 3, none⟩ (.slice A3 (x.wait.length + 1) C3)).frozen? ⟨w.heap.size + 1 + 1, o, none⟩ = false := fun o => by go_simp
    have m3 : ∀ o, (w3.setCell ⟨w.heap.size, 3, none⟩ (.slice A3 (x.wait.length + 1) C3)).frozen? ⟨w.heap.size + 1 + 1 + 1, o, none⟩ = false := fun o => by go_simp
    clear r2 f2 r3 f3 r4 f4
    have hz4 : w.heap.size + 6 ≤ (w3.setCell ⟨w.heap.size, 3, none⟩ (.slice A3 (x.wait.length + 1) C3)).heap.size := by rw [World.size_setCell]; omega
    have ho4 := Lib.hid (hown3.out.setCell (p := ⟨w.heap.size, 3, none⟩) (fun g hg e => by
      have := hlt3.out g hg
      rcases hat3.out with h | h
      · exact hbk.out 0 (by rw [← h, hg, e]; rfl)
      · have := h.symm.trans hg
        simp at this e
        omega) (.slice A3 (x.wait.length + 1) C3))
    generalize (w3.setCell ⟨w.heap.size, 3, none⟩ (.slice A3 (x.wait.length + 1) C3)) = w4 at *
    go_region
    obtain ⟨q0, q1, q2, q3, q4, q5⟩ := set6 w4 (a := w.heap.size + 1 + 1) (b := w.heap.size + 1 + 1 + 1) (.string x.name.1) (.string x.run.1) (.string x.job.1) (.slice A3 (x.wait.length + 1) C3) (.bool false) (.slice none 0 0) (by omega) (by assumption) (by assumption) (by assumption) (by assumption) (by assumption) (by assumption)
    have hB5 := Lib.hid (show Below H w _ from hB4.out.trans ((W6.below (w := w4) (a := w.heap.size + 1 + 1) (b := w.heap.size + 1 + 1 + 1) (u0 := .string x.name.1) (u1 := .string x.run.1) (u2 := .string x.job.1) (u3 := .slice A3 (x.wait.length + 1) C3) (v0 := .bool false) (v1 := .slice none 0 0) (by omega) (by omega)) : Below H w4 _))
    have hT5 := Lib.hid (show But w.heap.size (blkG x) w _ from hT4.out.below ((W6.below (w := w4) (a := w.heap.size + 1 + 1) (b := w.heap.size + 1 + 1 + 1) (u0 := .string x.name.1) (u1 := .string x.run.1) (u2 := .string x.job.1) (u3 := .slice A3 (x.wait.length + 1) C3) (v0 := .bool false) (v1 := .slice none 0 0) (by omega) (by omega)) : Below w.heap.size w4 _) (Nat.le_refl _))
    have ho5 := Lib.hid (show Own jRefE 2 29 (W6 w4 (w.heap.size + 1 + 1) (w.heap.size + 1 + 1 + 1) (.string x.name.1) (.string x.run.1) (.string x.job.1) (.slice A3 (x.wait.length + 1) C3) (.bool false) (.slice none 0 0)) H _ _ from by
      have hne : ∀ k, k = 2 ∨ k = 3 → ∀ g, (Value.slice A3 (x.wait ++ [r]).length C3).ownBlock = some g → g ≠ w.heap.size + k := fun k hk g hg e => by
        rcases hat3.out with h | h
        · exact hbk.out k (by rw [← h, hg, e])
        · have := h.symm.trans hg
          simp at this
          omega
      have n2 := hne 2 (.inl rfl)
      have n3 := hne 3 (.inr rfl)
      exact (((((ho4.out.setCell n2 _).setCell n2 _).setCell n2 _).setCell n2 _).setCell n3 _).setCell n3 _)
    have hz5 := W6.size w4 (w.heap.size + 1 + 1) (w.heap.size + 1 + 1 + 1) (.string x.name.1) (.string x.run.1) (.string x.job.1) (.slice A3 (x.wait.length + 1) C3) (.bool false) (.slice none 0 0)
    change Exit.then _ _ _ _ (W6 w4 (w.heap.size + 1 + 1) (w.heap.size + 1 + 1 + 1) (.string x.name.1) (.string x.run.1) (.string x.job.1) (.slice A3 (x.wait.length + 1) C3) (.bool false) (.slice none 0 0)).drew
    generalize W6 w4 (w.heap.size + 1 + 1) (w.heap.size + 1 + 1 + 1) (.string x.name.1) (.string x.run.1) (.string x.job.1) (.slice A3 (x.wait.length + 1) C3) (.bool false) (.slice none 0 0) = w5 at *
    replace hz5 := Lib.hid hz5
    all_goals go_wp2_with fail
    all_goals
      exact bodyPost_ret (v := .tuple #[.agg #[.string x.name.1, .string x.run.1, .string x.job.1, .slice A3 (x.wait.length + 1) C3], .agg #[.bool false, .slice none 0 0]]) (by simp [results, Tryd.results45, go_sem, q0, q1, q2, q3, q4, q5]) rfl ⟨⟨x.name, x.run, x.job, A3, C3, x.wait ++ [r]⟩, none, 0, by simp, rfl, ho5.out.drew, hat3.out.elim Or.inl (fun h => .inr fun g hg => by have := h.symm.trans hg; simp at this; omega), Own.nil _ _ _, hB5.out.drew, hT5.out.drew⟩
end Go.Proofs.YtbellobjajnlkaaDoor
