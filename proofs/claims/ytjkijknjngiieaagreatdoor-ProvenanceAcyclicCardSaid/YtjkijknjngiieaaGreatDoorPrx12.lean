/-
  The walks of provenance: what the law of its sources asks of a chain.
-/
import Derived.Test.YtjkijknjngiieaaGreatDoorPrx11



namespace Go.Proofs.YtjkijknjngiieaaGreatDoor
open Go.RowKit

/-- What is asked of a chain: each link once, behind those of its inputs. -/
def EachC (ls : List Lnk) (run : Str) : Prop := ∀ p b, ls[p]? = some b → idxL ls run (nameL b) = p ∧ hasL ls run (nameL b) = true ∧ b.run = run ∧ ∀ y ∈ b.ins, artB y.name = true → hasL ls run y.name = true ∧ idxL ls run y.name < p
set_option maxRecDepth 100000 in
set_option maxHeartbeats 8000000 in
theorem chained_any (A : Option Addr) (c n : Nat) (L : List Lkr) (x : Lkr) (w : World) (hr : RwL w w.heap.size A L) (hm : MildL L) (hx : LabLkr w w.heap.size x) (hn : L.length = n + 1) (hlast : ∀ z, L[n]? = some z → z.h = x.h) (he : EachC (L.map Lkr.h) x.run) :
    Calls Tryz.prog 27 #[.slice A (n + 1) c, .agg #[.string x.run.1, .string x.job.1, .int .i64 x.attempt.1, .int .u64 x.spec.1, .slice x.insA x.ins.length x.insC, .string x.name.1, .int .u64 x.digest.1, .int .i64 x.size.1]] w fun e w' => e = .returned (.bool true) ∧ Below w.heap.size w w' := by
  have hid0 : Hid (∀ (nm : Str) W, Below w.heap.size w W → Calls Tryz.prog 38 #[.slice A (n + 1) c, .string x.run.1, .string nm.1] W fun e w' => e = .returned (.int .i64 (idxI (L.map Lkr.h) x.run nm)) ∧ Below W.heap.size W w') := Lib.hid fun nm W hb => by
    have h := rindex_any A c L x.run nm W ((hr.row.below hb (Nat.le_refl _)).more hb.size) hm.len (fun y hy => (hm.each y hy).nm)
    rwa [hn] at h
  have hnb : n + 1 ≤ 1000000 := by rw [← hn]; exact hm.len
  obtain ⟨zl, hzl⟩ := get_some (show n < L.length by omega)
  have hsl : Hid (∀ W, Below w.heap.size w W → Calls Tryz.prog 18 #[.agg #[.string zl.run.1, .string zl.job.1, .int .i64 zl.attempt.1, .int .u64 zl.spec.1, .slice zl.insA zl.ins.length zl.insC, .string zl.name.1, .int .u64 zl.digest.1, .int .i64 zl.size.1], .agg #[.string x.run.1, .string x.job.1, .int .i64 x.attempt.1, .int .u64 x.spec.1, .slice x.insA x.ins.length x.insC, .string x.name.1, .int .u64 x.digest.1, .int .i64 x.size.1]] W fun e w' => e = .returned (.bool true) ∧ Below W.heap.size W w') := Lib.hid fun W hb => samelink_eq zl x W (((hr.labs zl (List.mem_of_getElem? hzl)).below hb (Nat.le_refl _)).more hb.size) ((hx.below hb (Nat.le_refl _)).more hb.size) (hlast zl hzl) (hm.each zl (List.mem_of_getElem? hzl)).len
  have hln0 : Hid (∀ z ∈ L, ∀ W, Calls Tryz.prog 23 #[.agg #[.string z.run.1, .string z.job.1, .int .i64 z.attempt.1, .int .u64 z.spec.1, .slice z.insA z.ins.length z.insC, .string z.name.1, .int .u64 z.digest.1, .int .i64 z.size.1]] W fun e w' => e = .returned (.string (nameL z.h).1) ∧ Below W.heap.size W w') := Lib.hid fun z hz W => rname_any35 z W (hm.each z hz).nm
  have hrow := Lib.hid hr.row
  have hlab := Lib.hid hr.labs
  have hmil := Lib.hid hm.each
  replace he := Lib.hid he
  obtain ⟨g, o, rfl, hg, hq⟩ := hr.row (by omega)
  replace hq := Lib.hid hq
  replace hn := Lib.hid hn
  obtain ⟨IA, hIA⟩ : ∃ IA, x.insA = IA := ⟨_, rfl⟩
  rw [hIA] at hsl ⊢
  replace hIA := Lib.hid hIA
  clear hr hm hx hlast
  have q0 := hq.out n zl hzl 0 (.string zl.run.1) rfl
  rw [Nat.add_zero] at q0
  have q1 := hq.out n zl hzl 1 (.string zl.job.1) rfl
  have q2 := hq.out n zl hzl 2 (.int .i64 zl.attempt.1) rfl
  have q3 := hq.out n zl hzl 3 (.int .u64 zl.spec.1) rfl
  have q4 := hq.out n zl hzl 4 (.slice zl.insA zl.ins.length zl.insC) rfl
  have q5 := hq.out n zl hzl 5 (.string zl.name.1) rfl
  have q6 := hq.out n zl hzl 6 (.int .u64 zl.digest.1) rfl
  have q7 := hq.out n zl hzl 7 (.int .i64 zl.size.1) rfl
  replace hzl := Lib.hid hzl
  have n0 : (0 : Int) ≤ (n : Int) := by omega
  have n1 : (n : Int) < (n : Int) + 1 := by omega
  have n3 : ((n : Int) + 1 == 0) = false := by rw [beq_eq_false_iff_ne]; omega
  have n5 : ¬ (n : Int) + 1 = 0 := by omega
  have n4 : IntKind.i64.wrap ((n : Int) + 1 - 1) = (n : Int) := by rw [Int.add_sub_cancel]; exact IntWalk.i64_in _ (by omega)
  have n6 : IntKind.i64.wrap (n : Int) = (n : Int) := IntWalk.i64_in _ (by omega)
  go_enter Tryz.func27, Tryz.ntmps27
  go_upto_region 1 with fail
  have hb00 : Hid (Below w.heap.size w (w.alloc (.cells #[.string x.run.1, .string x.job.1, .int .i64 x.attempt.1, .int .u64 x.spec.1, .slice IA x.ins.length x.insC, .string x.name.1, .int .u64 x.digest.1, .int .i64 x.size.1] 31))) := Lib.hid (by repeat (first | (with_reducible exact Below.refl _ _) | (with_reducible refine Below.drew ?_) | (with_reducible refine below_drewN ?_ _) | ((with_reducible refine Below.alloc ?_ ?_ _); rotate_left; focus ((try simp) <;> omega)) | ((with_reducible refine Below.setCell ?_ ?_ _); rotate_left; focus ((try simp) <;> omega)) | ((with_reducible refine Below.trans ?_ (Below.mono (by assumption) ?_)); rotate_left; focus ((try simp) <;> omega))))
  have hx1 : Hid (Box8 x IA (w.alloc (.cells #[.string x.run.1, .string x.job.1, .int .i64 x.attempt.1, .int .u64 x.spec.1, .slice IA x.ins.length x.insC, .string x.name.1, .int .u64 x.digest.1, .int .i64 x.size.1] 31)) w.heap.size) := Lib.hid ⟨by go_simp, by go_simp, by go_simp, by go_simp, by go_simp, by go_simp, by go_simp, by go_simp⟩
  have hz1 : w.heap.size < (w.alloc (.cells #[.string x.run.1, .string x.job.1, .int .i64 x.attempt.1, .int .u64 x.spec.1, .slice IA x.ins.length x.insC, .string x.name.1, .int .u64 x.digest.1, .int .i64 x.size.1] 31)).heap.size := by simp
  obtain ⟨W1, hW1⟩ : ∃ W, w.alloc (.cells #[.string x.run.1, .string x.job.1, .int .i64 x.attempt.1, .int .u64 x.spec.1, .slice IA x.ins.length x.insC, .string x.name.1, .int .u64 x.digest.1, .int .i64 x.size.1] 31) = W := ⟨_, rfl⟩
  rw [hW1] at hb00 hx1 hz1 ⊢
  clear hW1
  have hbW := hb00.out
  obtain ⟨p0, p1, p2, p3, p4, p5, p6, p7⟩ := hx1.out
  replace q0 := (hbW.cell (p := ⟨g, o + n * 8, none⟩) hg).trans q0
  replace q1 := (hbW.cell (p := ⟨g, o + n * 8 + 1, none⟩) hg).trans q1
  replace q2 := (hbW.cell (p := ⟨g, o + n * 8 + 2, none⟩) hg).trans q2
  replace q3 := (hbW.cell (p := ⟨g, o + n * 8 + 3, none⟩) hg).trans q3
  replace q4 := (hbW.cell (p := ⟨g, o + n * 8 + 4, none⟩) hg).trans q4
  replace q5 := (hbW.cell (p := ⟨g, o + n * 8 + 5, none⟩) hg).trans q5
  replace q6 := (hbW.cell (p := ⟨g, o + n * 8 + 6, none⟩) hg).trans q6
  replace q7 := (hbW.cell (p := ⟨g, o + n * 8 + 7, none⟩) hg).trans q7
  refine wp_region_held_drew (S := fun w' => (w'.cell? ⟨w.heap.size, 0, none⟩ = some (.string x.run.1) ∧ w'.cell? ⟨w.heap.size, 1, none⟩ = some (.string x.job.1) ∧ w'.cell? ⟨w.heap.size, 2, none⟩ = some (.int .i64 x.attempt.1) ∧ w'.cell? ⟨w.heap.size, 3, none⟩ = some (.int .u64 x.spec.1) ∧ w'.cell? ⟨w.heap.size, 4, none⟩ = some (.slice IA x.ins.length x.insC) ∧ w'.cell? ⟨w.heap.size, 5, none⟩ = some (.string x.name.1) ∧ w'.cell? ⟨w.heap.size, 6, none⟩ = some (.int .u64 x.digest.1) ∧ w'.cell? ⟨w.heap.size, 7, none⟩ = some (.int .i64 x.size.1)) ∧ (w'.cell? ⟨g, o + n * 8, none⟩ = some (.string zl.run.1) ∧ w'.cell? ⟨g, o + n * 8 + 1, none⟩ = some (.string zl.job.1) ∧ w'.cell? ⟨g, o + n * 8 + 2, none⟩ = some (.int .i64 zl.attempt.1) ∧ w'.cell? ⟨g, o + n * 8 + 3, none⟩ = some (.int .u64 zl.spec.1) ∧ w'.cell? ⟨g, o + n * 8 + 4, none⟩ = some (.slice zl.insA zl.ins.length zl.insC) ∧ w'.cell? ⟨g, o + n * 8 + 5, none⟩ = some (.string zl.name.1) ∧ w'.cell? ⟨g, o + n * 8 + 6, none⟩ = some (.int .u64 zl.digest.1) ∧ w'.cell? ⟨g, o + n * 8 + 7, none⟩ = some (.int .i64 zl.size.1))) (by kernel_rfl) ?_ (fun hHeld => ?_)
  · first | (dsimp only; go_keep; done) | (go_keep; done) | (go_simp; done)
  rw [show (Array.replicate _ false : Array Bool) = #[false, false, false, false, false, false, false, false, false, false, false, false, false, false] from rfl]
  (refine wpAnyH_take (i := 0) (oi := Oper.mk _ _ _ _ _ _) (v := ?_) rfl (by kernel_rfl) (by kernel_rfl) (by kernel_rfl) (fun _ _ _ h => h) ?_ (by assumption) ?_; rotate_left; (focus (refine Or.inl ⟨by rfl, ?_⟩; intro wS hSw; (try dsimp only at hSw); go_simp; first | done | with_reducible rfl)); simp only [Act.put, List.setIfInBounds_toArray, List.set_cons_zero, List.set_cons_succ])
  (refine wpAnyH_take (i := 1) (oi := Oper.mk _ _ _ _ _ _) (v := ?_) rfl (by kernel_rfl) (by kernel_rfl) (by kernel_rfl) (fun _ _ _ h => h) ?_ (by assumption) ?_; rotate_left; (focus (refine Or.inl ⟨by rfl, ?_⟩; intro wS hSw; (try dsimp only at hSw); go_simp; first | done | with_reducible rfl)); simp only [Act.put, List.setIfInBounds_toArray, List.set_cons_zero, List.set_cons_succ])
  (refine wpAnyH_take (i := 2) (oi := Oper.mk _ _ _ _ _ _) (v := ?_) rfl (by kernel_rfl) (by kernel_rfl) (by kernel_rfl) (fun _ _ _ h => h) ?_ (by assumption) ?_; rotate_left; (focus (refine Or.inl ⟨by rfl, ?_⟩; intro wS hSw; (try dsimp only at hSw); go_simp; first | done | with_reducible rfl)); simp only [Act.put, List.setIfInBounds_toArray, List.set_cons_zero, List.set_cons_succ])
  (refine wpAnyH_take (i := 3) (oi := Oper.mk _ _ _ _ _ _) (v := ?_) rfl (by kernel_rfl) (by kernel_rfl) (by kernel_rfl) (fun _ _ _ h => h) ?_ (by assumption) ?_; rotate_left; (focus (refine Or.inl ⟨by rfl, ?_⟩; intro wS hSw; (try dsimp only at hSw); go_simp; first | done | with_reducible rfl)); simp only [Act.put, List.setIfInBounds_toArray, List.set_cons_zero, List.set_cons_succ])
  (refine wpAnyH_take (i := 4) (oi := Oper.mk _ _ _ _ _ _) (v := ?_) rfl (by kernel_rfl) (by kernel_rfl) (by kernel_rfl) (fun _ _ _ h => h) ?_ (by assumption) ?_; rotate_left; (focus (refine Or.inl ⟨by rfl, ?_⟩; intro wS hSw; (try dsimp only at hSw); go_simp; first | done | with_reducible rfl)); simp only [Act.put, List.setIfInBounds_toArray, List.set_cons_zero, List.set_cons_succ])
  (refine wpAnyH_take (i := 5) (oi := Oper.mk _ _ _ _ _ _) (v := ?_) rfl (by kernel_rfl) (by kernel_rfl) (by kernel_rfl) (fun _ _ _ h => h) ?_ (by assumption) ?_; rotate_left; (focus (refine Or.inl ⟨by rfl, ?_⟩; intro wS hSw; (try dsimp only at hSw); go_simp; first | done | with_reducible rfl)); simp only [Act.put, List.setIfInBounds_toArray, List.set_cons_zero, List.set_cons_succ])
  (refine wpAnyH_take (i := 6) (oi := Oper.mk _ _ _ _ _ _) (v := ?_) rfl (by kernel_rfl) (by kernel_rfl) (by kernel_rfl) (fun _ _ _ h => h) ?_ (by assumption) ?_; rotate_left; (focus (refine Or.inl ⟨by rfl, ?_⟩; intro wS hSw; (try dsimp only at hSw); go_simp; first | done | with_reducible rfl)); simp only [Act.put, List.setIfInBounds_toArray, List.set_cons_zero, List.set_cons_succ])
  (refine wpAnyH_take (i := 7) (oi := Oper.mk _ _ _ _ _ _) (v := ?_) rfl (by kernel_rfl) (by kernel_rfl) (by kernel_rfl) (fun _ _ _ h => h) ?_ (by assumption) ?_; rotate_left; (focus (refine Or.inl ⟨by rfl, ?_⟩; intro wS hSw; (try dsimp only at hSw); go_simp; first | done | with_reducible rfl)); simp only [Act.put, List.setIfInBounds_toArray, List.set_cons_zero, List.set_cons_succ])
  (refine wpAnyH_take (i := 8) (oi := Oper.mk _ _ _ _ _ _) (v := ?_) rfl (by kernel_rfl) (by kernel_rfl) (by kernel_rfl) (fun _ _ _ h => h) ?_ (by assumption) ?_; rotate_left; (focus (refine Or.inl ⟨by rfl, ?_⟩; intro wS hSw; (try dsimp only at hSw); go_simp; first | done | with_reducible rfl)); simp only [Act.put, List.setIfInBounds_toArray, List.set_cons_zero, List.set_cons_succ])
  (refine wpAnyH_take (i := 9) (oi := Oper.mk _ _ _ _ _ _) (v := ?_) rfl (by kernel_rfl) (by kernel_rfl) (by kernel_rfl) (fun _ _ _ h => h) ?_ (by assumption) ?_; rotate_left; (focus (refine Or.inl ⟨by rfl, ?_⟩; intro wS hSw; (try dsimp only at hSw); go_simp; first | done | with_reducible rfl)); simp only [Act.put, List.setIfInBounds_toArray, List.set_cons_zero, List.set_cons_succ])
  (refine wpAnyH_take (i := 10) (oi := Oper.mk _ _ _ _ _ _) (v := ?_) rfl (by kernel_rfl) (by kernel_rfl) (by kernel_rfl) (fun _ _ _ h => h) ?_ (by assumption) ?_; rotate_left; (focus (refine Or.inl ⟨by rfl, ?_⟩; intro wS hSw; (try dsimp only at hSw); go_simp; first | done | with_reducible rfl)); simp only [Act.put, List.setIfInBounds_toArray, List.set_cons_zero, List.set_cons_succ])
  (refine wpAnyH_ready (rs := [11]) (by kernel_rfl) (by simp) ?_
   refine AllReadyH.cons (o := Oper.mk _ _ _ _ _ _) rfl (fun K hK => ?_) AllReadyH.nil
   go_simp
   (go_at_call 18; go_must (refine (hsl.out _ (by repeat (first | (with_reducible exact Below.refl _ _) | (with_reducible refine Below.drew ?_) | (with_reducible refine below_drewN ?_ _) | ((with_reducible refine Below.alloc ?_ ?_ _); rotate_left; focus ((try simp) <;> omega)) | ((with_reducible refine Below.setCell ?_ ?_ _); rotate_left; focus ((try simp) <;> omega)) | ((with_reducible refine Below.trans ?_ (Below.mono (by assumption) ?_)); rotate_left; focus ((try simp) <;> omega))))).mono ?_; rintro e w5 ⟨rfl, hb5⟩; have hz5 := hb5.size; (try simp at hz5); obtain ⟨e5, f5⟩ := blk_at hb5 w.heap.size (by (try simp) <;> omega); obtain ⟨d5, g5⟩ := blk_at hb5 g (by (try simp) <;> omega)))
   refine hK.out _ _ ?_ (fun hHeld => ?_)
   · first | (dsimp only; go_keep; done) | (go_keep; done)
   clear hK K
   (try simp only [List.setIfInBounds_toArray, List.set_cons_zero, List.set_cons_succ]))
  (refine wpAnyH_take (i := 12) (oi := Oper.mk _ _ _ _ _ _) (v := ?_) rfl (by kernel_rfl) (by kernel_rfl) (by kernel_rfl) (fun _ _ _ h => h) ?_ (by assumption) ?_; rotate_left; (focus (refine Or.inl ⟨by rfl, ?_⟩; intro wS hSw; (try dsimp only at hSw); go_simp; first | done | with_reducible rfl)); simp only [Act.put, List.setIfInBounds_toArray, List.set_cons_zero, List.set_cons_succ])
  (refine wpAnyH_take (i := 13) (oi := Oper.mk _ _ _ _ _ _) (v := ?_) rfl (by kernel_rfl) (by kernel_rfl) (by kernel_rfl) (fun _ _ _ h => h) ?_ (by assumption) ?_; rotate_left; (focus (refine Or.inl ⟨by rfl, ?_⟩; intro wS hSw; (try dsimp only at hSw); go_simp; first | done | with_reducible rfl)); simp only [Act.put, List.setIfInBounds_toArray, List.set_cons_zero, List.set_cons_succ])
  refine wpAnyH_done (by kernel_rfl) ?_ _
  go_wp2_with fail
  have hb05 : Hid (Below w.heap.size w w5) := Lib.hid (hb00.out.trans (Below.mono (B := W1.heap.size) (show Below W1.heap.size W1 w5 from (by repeat (first | (with_reducible exact Below.refl _ _) | (with_reducible refine Below.drew ?_) | (with_reducible refine below_drewN ?_ _) | ((with_reducible refine Below.alloc ?_ ?_ _); rotate_left; focus ((try simp) <;> omega)) | ((with_reducible refine Below.setCell ?_ ?_ _); rotate_left; focus ((try simp) <;> omega)) | ((with_reducible refine Below.trans ?_ (Below.mono (by assumption) ?_)); rotate_left; focus ((try simp) <;> omega))))) (by omega)))
  have hbx5 : Hid (Box8 x IA w5 w.heap.size) := Lib.hid (by
   obtain ⟨m0, m1, m2, m3, m4, m5, m6, m7⟩ := hx1.out
   exact ⟨(e5 _).trans m0, (e5 _).trans m1, (e5 _).trans m2, (e5 _).trans m3, (e5 _).trans m4, (e5 _).trans m5, (e5 _).trans m6, (e5 _).trans m7⟩)
  have hk5 : w.heap.size < w5.heap.size := by omega
  clear q0 q1 q2 q3 q4 q5 q6 q7 p0 p1 p2 p3 p4 p5 p6 p7 e5 f5 d5 g5 hbW hz1 n0 n1 n3 n4 n5 n6 hsl
  go_loopw [5] (fun vi wr => ∃ k : Nat, k ≤ n + 1 ∧ vi = .int .i64 (k : Int) ∧ Box8 x IA wr w.heap.size ∧ w.heap.size < wr.heap.size ∧ Below w.heap.size w wr) (fun vi _ => n + 1 - (intOf vi).toNat)
  case atStart => exact ⟨0, Nat.zero_le _, rfl, hbx5.out, hk5, hb05.out⟩
  case round =>
    obtain ⟨k, hk, rfl, hbox, hzr, hbw⟩ := hrel
    have hz := hbw.size
    have hbx2 := Lib.hid hbox
    by_cases hkl : k < n + 1
    · obtain ⟨z, hx⟩ := get_some (show k < L.length by rw [hn.out]; exact hkl)
      have hxm : (L.map Lkr.h)[k]? = some z.h := by rw [List.getElem?_map, hx]; rfl
      obtain ⟨j1, j2, j3, j4⟩ := he.out k z.h hxm
      have hzrun : z.run = x.run := j3
      have q0 := (hbw.cell (p := ⟨g, o + k * 8 + 0, none⟩) hg).trans (hq.out k z hx 0 (.string z.run.1) rfl)
      rw [Nat.add_zero, hzrun] at q0
      have q1 := (hbw.cell (p := ⟨g, o + k * 8 + 1, none⟩) hg).trans (hq.out k z hx 1 (.string z.job.1) rfl)
      have q2 := (hbw.cell (p := ⟨g, o + k * 8 + 2, none⟩) hg).trans (hq.out k z hx 2 (.int .i64 z.attempt.1) rfl)
      have q3 := (hbw.cell (p := ⟨g, o + k * 8 + 3, none⟩) hg).trans (hq.out k z hx 3 (.int .u64 z.spec.1) rfl)
      have q4 := (hbw.cell (p := ⟨g, o + k * 8 + 4, none⟩) hg).trans (hq.out k z hx 4 (.slice z.insA z.ins.length z.insC) rfl)
      have q5 := (hbw.cell (p := ⟨g, o + k * 8 + 5, none⟩) hg).trans (hq.out k z hx 5 (.string z.name.1) rfl)
      have q6 := (hbw.cell (p := ⟨g, o + k * 8 + 6, none⟩) hg).trans (hq.out k z hx 6 (.int .u64 z.digest.1) rfl)
      have q7 := (hbw.cell (p := ⟨g, o + k * 8 + 7, none⟩) hg).trans (hq.out k z hx 7 (.int .i64 z.size.1) rfl)
      have hln1 := fun W => hln0.out z (List.mem_of_getElem? hx) W
      rw [hzrun] at hln1
      have hix1 := fun W hb => hid0.out (nameL z.h) W hb
      have hik : idxI (L.map Lkr.h) x.run (nameL z.h) = (k : Int) := by unfold idxI; rw [if_pos j2, j1]
      rw [hik] at hix1
      obtain ⟨NM, hNM⟩ : ∃ NM, nameL z.h = NM := ⟨_, rfl⟩
      rw [hNM] at hix1 hln1
      have hln := Lib.hid hln1
      have hix := Lib.hid hix1
      have hxi := (hlab.out z (List.mem_of_getElem? hx)).2.2
      have hxn := Lib.hid (hmil.out z (List.mem_of_getElem? hx)).ins
      have hxl := (hmil.out z (List.mem_of_getElem? hx)).len
      have hj4 := Lib.hid j4
      replace hNM := Lib.hid hNM
      have i0 : (0 : Int) ≤ (k : Int) := by omega
      have i1 : (k : Int) < (n : Int) + 1 := by omega
      have hgr : g < wr.heap.size := by omega
      obtain ⟨p0, p1, p2, p3, p4, p5, p6, p7⟩ := hbox
      clear hln1 hix1 j1 j2 j3 j4 hik hxm hzrun hNM
      replace hx := Lib.hid hx
      go_upto_region 6 with fail
      refine wp_region_held_drew (S := fun w' => w'.cell? ⟨w.heap.size, 0, none⟩ = some (.string x.run.1) ∧ (w'.cell? ⟨g, o + k * 8, none⟩ = some (.string x.run.1) ∧ w'.cell? ⟨g, o + k * 8 + 1, none⟩ = some (.string z.job.1) ∧ w'.cell? ⟨g, o + k * 8 + 2, none⟩ = some (.int .i64 z.attempt.1) ∧ w'.cell? ⟨g, o + k * 8 + 3, none⟩ = some (.int .u64 z.spec.1) ∧ w'.cell? ⟨g, o + k * 8 + 4, none⟩ = some (.slice z.insA z.ins.length z.insC) ∧ w'.cell? ⟨g, o + k * 8 + 5, none⟩ = some (.string z.name.1) ∧ w'.cell? ⟨g, o + k * 8 + 6, none⟩ = some (.int .u64 z.digest.1) ∧ w'.cell? ⟨g, o + k * 8 + 7, none⟩ = some (.int .i64 z.size.1))) (by kernel_rfl) ?_ (fun hHeld => ?_)
      · first | (dsimp only; go_keep; done) | (go_keep; done) | (go_simp; done)
      rw [show (Array.replicate _ false : Array Bool) = #[false, false, false, false, false, false, false, false, false, false, false, false, false, false, false, false, false, false, false, false, false, false, false, false] from rfl]
      (refine wpAnyH_take (i := 0) (oi := Oper.mk _ _ _ _ _ _) (v := ?_) rfl (by kernel_rfl) (by kernel_rfl) (by kernel_rfl) (fun _ _ _ h => h) ?_ (by assumption) ?_; rotate_left; (focus (refine Or.inl ⟨by rfl, ?_⟩; intro wS hSw; (try dsimp only at hSw); go_simp; first | done | with_reducible rfl)); simp only [Act.put, List.setIfInBounds_toArray, List.set_cons_zero, List.set_cons_succ])
      (refine wpAnyH_take (i := 1) (oi := Oper.mk _ _ _ _ _ _) (v := ?_) rfl (by kernel_rfl) (by kernel_rfl) (by kernel_rfl) (fun _ _ _ h => h) ?_ (by assumption) ?_; rotate_left; (focus (refine Or.inl ⟨by rfl, ?_⟩; intro wS hSw; (try dsimp only at hSw); go_simp; first | done | with_reducible rfl)); simp only [Act.put, List.setIfInBounds_toArray, List.set_cons_zero, List.set_cons_succ])
      (refine wpAnyH_take (i := 2) (oi := Oper.mk _ _ _ _ _ _) (v := ?_) rfl (by kernel_rfl) (by kernel_rfl) (by kernel_rfl) (fun _ _ _ h => h) ?_ (by assumption) ?_; rotate_left; (focus (refine Or.inl ⟨by rfl, ?_⟩; intro wS hSw; (try dsimp only at hSw); go_simp; first | done | with_reducible rfl)); simp only [Act.put, List.setIfInBounds_toArray, List.set_cons_zero, List.set_cons_succ])
      (refine wpAnyH_take (i := 3) (oi := Oper.mk _ _ _ _ _ _) (v := ?_) rfl (by kernel_rfl) (by kernel_rfl) (by kernel_rfl) (fun _ _ _ h => h) ?_ (by assumption) ?_; rotate_left; (focus (refine Or.inl ⟨by rfl, ?_⟩; intro wS hSw; (try dsimp only at hSw); go_simp; first | done | with_reducible rfl)); simp only [Act.put, List.setIfInBounds_toArray, List.set_cons_zero, List.set_cons_succ])
      (refine wpAnyH_take (i := 4) (oi := Oper.mk _ _ _ _ _ _) (v := ?_) rfl (by kernel_rfl) (by kernel_rfl) (by kernel_rfl) (fun _ _ _ h => h) ?_ (by assumption) ?_; rotate_left; (focus (refine Or.inl ⟨by rfl, ?_⟩; intro wS hSw; (try dsimp only at hSw); go_simp; first | done | with_reducible rfl)); simp only [Act.put, List.setIfInBounds_toArray, List.set_cons_zero, List.set_cons_succ])
      (refine wpAnyH_take (i := 5) (oi := Oper.mk _ _ _ _ _ _) (v := ?_) rfl (by kernel_rfl) (by kernel_rfl) (by kernel_rfl) (fun _ _ _ h => h) ?_ (by assumption) ?_; rotate_left; (focus (refine Or.inl ⟨by rfl, ?_⟩; intro wS hSw; (try dsimp only at hSw); go_simp; first | done | with_reducible rfl)); simp only [Act.put, List.setIfInBounds_toArray, List.set_cons_zero, List.set_cons_succ])
      (refine wpAnyH_take (i := 6) (oi := Oper.mk _ _ _ _ _ _) (v := ?_) rfl (by kernel_rfl) (by kernel_rfl) (by kernel_rfl) (fun _ _ _ h => h) ?_ (by assumption) ?_; rotate_left; (focus (refine Or.inl ⟨by rfl, ?_⟩; intro wS hSw; (try dsimp only at hSw); go_simp; first | done | with_reducible rfl)); simp only [Act.put, List.setIfInBounds_toArray, List.set_cons_zero, List.set_cons_succ])
      (refine wpAnyH_take (i := 7) (oi := Oper.mk _ _ _ _ _ _) (v := ?_) rfl (by kernel_rfl) (by kernel_rfl) (by kernel_rfl) (fun _ _ _ h => h) ?_ (by assumption) ?_; rotate_left; (focus (refine Or.inl ⟨by rfl, ?_⟩; intro wS hSw; (try dsimp only at hSw); go_simp; first | done | with_reducible rfl)); simp only [Act.put, List.setIfInBounds_toArray, List.set_cons_zero, List.set_cons_succ])
      (refine wpAnyH_take (i := 10) (oi := Oper.mk _ _ _ _ _ _) (v := ?_) rfl (by kernel_rfl) (by kernel_rfl) (by kernel_rfl) (fun _ _ _ h => h) ?_ (by assumption) ?_; rotate_left; (focus (refine Or.inl ⟨by rfl, ?_⟩; intro wS hSw; (try dsimp only at hSw); go_simp; first | done | with_reducible rfl)); simp only [Act.put, List.setIfInBounds_toArray, List.set_cons_zero, List.set_cons_succ])
      (refine wpAnyH_ready (rs := [8]) (by kernel_rfl) (by simp) ?_
       refine AllReadyH.cons (o := Oper.mk _ _ _ _ _ _) rfl (fun K hK => ?_) AllReadyH.nil
       go_simp
       (go_at_call 23; go_must (refine (hln.out _).mono ?_; rintro e w6 ⟨rfl, hb6⟩; have hz6 := hb6.size; (try simp at hz6); obtain ⟨e6, f6⟩ := blk_at hb6 w.heap.size (by (try simp) <;> omega); obtain ⟨d6, g6⟩ := blk_at hb6 g (by (try simp) <;> omega)))
       refine hK.out _ _ ?_ (fun hHeld => ?_)
       · first | (dsimp only; go_keep; done) | (go_keep; done)
       clear hK K
       (try simp only [List.setIfInBounds_toArray, List.set_cons_zero, List.set_cons_succ]))
      (refine wpAnyH_ready (rs := [9]) (by kernel_rfl) (by simp) ?_
       refine AllReadyH.cons (o := Oper.mk _ _ _ _ _ _) rfl (fun K hK => ?_) AllReadyH.nil
       go_simp
       (go_at_call 38; go_must (refine (hix.out _ (by repeat (first | (with_reducible exact Below.refl _ _) | (with_reducible refine Below.drew ?_) | (with_reducible refine below_drewN ?_ _) | ((with_reducible refine Below.alloc ?_ ?_ _); rotate_left; focus ((try simp) <;> omega)) | ((with_reducible refine Below.setCell ?_ ?_ _); rotate_left; focus ((try simp) <;> omega)) | ((with_reducible refine Below.trans ?_ (Below.mono (by assumption) ?_)); rotate_left; focus ((try simp) <;> omega))))).mono ?_; rintro e w7 ⟨rfl, hb7⟩; have hz7 := hb7.size; (try simp at hz7); obtain ⟨e7, f7⟩ := blk_at hb7 w.heap.size (by (try simp) <;> omega); obtain ⟨d7, g7⟩ := blk_at hb7 g (by (try simp) <;> omega)))
       refine hK.out _ _ ?_ (fun hHeld => ?_)
       · first | (dsimp only; go_keep; done) | (go_keep; done)
       clear hK K
       (try simp only [List.setIfInBounds_toArray, List.set_cons_zero, List.set_cons_succ]))
      (refine wpAnyH_take (i := 11) (oi := Oper.mk _ _ _ _ _ _) (v := ?_) rfl (by kernel_rfl) (by kernel_rfl) (by kernel_rfl) (fun _ _ _ h => h) ?_ (by assumption) ?_; rotate_left; (focus (refine Or.inl ⟨by rfl, ?_⟩; intro wS hSw; (try dsimp only at hSw); go_simp; first | done | with_reducible rfl)); simp only [Act.put, List.setIfInBounds_toArray, List.set_cons_zero, List.set_cons_succ])
      (refine wpAnyH_take (i := 12) (oi := Oper.mk _ _ _ _ _ _) (v := ?_) rfl (by kernel_rfl) (by kernel_rfl) (by kernel_rfl) (fun _ _ _ h => h) ?_ (by assumption) ?_; rotate_left; (focus (refine Or.inl ⟨by rfl, ?_⟩; intro wS hSw; (try dsimp only at hSw); go_simp; first | done | with_reducible rfl)); simp only [Act.put, List.setIfInBounds_toArray, List.set_cons_zero, List.set_cons_succ])
      (refine wpAnyH_take (i := 13) (oi := Oper.mk _ _ _ _ _ _) (v := ?_) rfl (by kernel_rfl) (by kernel_rfl) (by kernel_rfl) (fun _ _ _ h => h) ?_ (by assumption) ?_; rotate_left; (focus (refine Or.inl ⟨by rfl, ?_⟩; intro wS hSw; (try dsimp only at hSw); go_simp; first | done | with_reducible rfl)); simp only [Act.put, List.setIfInBounds_toArray, List.set_cons_zero, List.set_cons_succ])
      (refine wpAnyH_take (i := 14) (oi := Oper.mk _ _ _ _ _ _) (v := ?_) rfl (by kernel_rfl) (by kernel_rfl) (by kernel_rfl) (fun _ _ _ h => h) ?_ (by assumption) ?_; rotate_left; (focus (refine Or.inl ⟨by rfl, ?_⟩; intro wS hSw; (try dsimp only at hSw); go_simp; first | done | with_reducible rfl)); simp only [Act.put, List.setIfInBounds_toArray, List.set_cons_zero, List.set_cons_succ])
      (refine wpAnyH_take (i := 15) (oi := Oper.mk _ _ _ _ _ _) (v := ?_) rfl (by kernel_rfl) (by kernel_rfl) (by kernel_rfl) (fun _ _ _ h => h) ?_ (by assumption) ?_; rotate_left; (focus (refine Or.inl ⟨by rfl, ?_⟩; intro wS hSw; (try dsimp only at hSw); go_simp; first | done | with_reducible rfl)); simp only [Act.put, List.setIfInBounds_toArray, List.set_cons_zero, List.set_cons_succ])
      (refine wpAnyH_take (i := 16) (oi := Oper.mk _ _ _ _ _ _) (v := ?_) rfl (by kernel_rfl) (by kernel_rfl) (by kernel_rfl) (fun _ _ _ h => h) ?_ (by assumption) ?_; rotate_left; (focus (refine Or.inl ⟨by rfl, ?_⟩; intro wS hSw; (try dsimp only at hSw); go_simp; first | done | with_reducible rfl)); simp only [Act.put, List.setIfInBounds_toArray, List.set_cons_zero, List.set_cons_succ])
      (refine wpAnyH_take (i := 17) (oi := Oper.mk _ _ _ _ _ _) (v := ?_) rfl (by kernel_rfl) (by kernel_rfl) (by kernel_rfl) (fun _ _ _ h => h) ?_ (by assumption) ?_; rotate_left; (focus (refine Or.inl ⟨by rfl, ?_⟩; intro wS hSw; (try dsimp only at hSw); go_simp; first | done | with_reducible rfl)); simp only [Act.put, List.setIfInBounds_toArray, List.set_cons_zero, List.set_cons_succ])
      (refine wpAnyH_take (i := 18) (oi := Oper.mk _ _ _ _ _ _) (v := ?_) rfl (by kernel_rfl) (by kernel_rfl) (by kernel_rfl) (fun _ _ _ h => h) ?_ (by assumption) ?_; rotate_left; (focus (refine Or.inl ⟨by rfl, ?_⟩; intro wS hSw; (try dsimp only at hSw); go_simp; first | done | with_reducible rfl)); simp only [Act.put, List.setIfInBounds_toArray, List.set_cons_zero, List.set_cons_succ])
      (refine wpAnyH_take (i := 19) (oi := Oper.mk _ _ _ _ _ _) (v := ?_) rfl (by kernel_rfl) (by kernel_rfl) (by kernel_rfl) (fun _ _ _ h => h) ?_ (by assumption) ?_; rotate_left; (focus (refine Or.inl ⟨by rfl, ?_⟩; intro wS hSw; (try dsimp only at hSw); go_simp; first | done | with_reducible rfl)); simp only [Act.put, List.setIfInBounds_toArray, List.set_cons_zero, List.set_cons_succ])
      (refine wpAnyH_take (i := 20) (oi := Oper.mk _ _ _ _ _ _) (v := ?_) rfl (by kernel_rfl) (by kernel_rfl) (by kernel_rfl) (fun _ _ _ h => h) ?_ (by assumption) ?_; rotate_left; (focus (refine Or.inl ⟨by rfl, ?_⟩; intro wS hSw; (try dsimp only at hSw); go_simp; first | done | with_reducible rfl)); simp only [Act.put, List.setIfInBounds_toArray, List.set_cons_zero, List.set_cons_succ])
      (refine wpAnyH_take (i := 21) (oi := Oper.mk _ _ _ _ _ _) (v := ?_) rfl (by kernel_rfl) (by kernel_rfl) (by kernel_rfl) (fun _ _ _ h => h) ?_ (by assumption) ?_; rotate_left; (focus (refine Or.inl ⟨by rfl, ?_⟩; intro wS hSw; (try dsimp only at hSw); go_simp; first | done | with_reducible rfl)); simp only [Act.put, List.setIfInBounds_toArray, List.set_cons_zero, List.set_cons_succ])
      (refine wpAnyH_take (i := 22) (oi := Oper.mk _ _ _ _ _ _) (v := ?_) rfl (by kernel_rfl) (by kernel_rfl) (by kernel_rfl) (fun _ _ _ h => h) ?_ (by assumption) ?_; rotate_left; (focus (refine Or.inl ⟨by rfl, ?_⟩; intro wS hSw; (try dsimp only at hSw); go_simp; first | done | with_reducible rfl)); simp only [Act.put, List.setIfInBounds_toArray, List.set_cons_zero, List.set_cons_succ])
      (refine wpAnyH_take (i := 23) (oi := Oper.mk _ _ _ _ _ _) (v := ?_) rfl (by kernel_rfl) (by kernel_rfl) (by kernel_rfl) (fun _ _ _ h => h) ?_ (by assumption) ?_; rotate_left; (focus (refine Or.inl ⟨by rfl, ?_⟩; intro wS hSw; (try dsimp only at hSw); go_simp; first | done | with_reducible rfl)); simp only [Act.put, List.setIfInBounds_toArray, List.set_cons_zero, List.set_cons_succ])
      refine wpAnyH_done (by kernel_rfl) ?_ _
      go_wp2_with fail
      have hb07 : Hid (Below w.heap.size w w7) := Lib.hid (hbw.trans (Below.mono (B := wr.heap.size) (show Below wr.heap.size wr w7 from (by repeat (first | (with_reducible exact Below.refl _ _) | (with_reducible refine Below.drew ?_) | (with_reducible refine below_drewN ?_ _) | ((with_reducible refine Below.alloc ?_ ?_ _); rotate_left; focus ((try simp) <;> omega)) | ((with_reducible refine Below.setCell ?_ ?_ _); rotate_left; focus ((try simp) <;> omega)) | ((with_reducible refine Below.trans ?_ (Below.mono (by assumption) ?_)); rotate_left; focus ((try simp) <;> omega))))) (by omega)))
      have hbx7 : Hid (Box8 x IA w7 w.heap.size) := Lib.hid (by
        obtain ⟨m0, m1, m2, m3, m4, m5, m6, m7⟩ := hbx2.out
        exact ⟨(e7 _).trans ((e6 _).trans m0), (e7 _).trans ((e6 _).trans m1), (e7 _).trans ((e6 _).trans m2), (e7 _).trans ((e6 _).trans m3), (e7 _).trans ((e6 _).trans m4), (e7 _).trans ((e6 _).trans m5), (e7 _).trans ((e6 _).trans m6), (e7 _).trans ((e6 _).trans m7)⟩)
      have hk7 : w.heap.size < w7.heap.size := by omega
      clear q0 q1 q2 q3 q4 q5 q6 q7 p0 p1 p2 p3 p4 p5 p6 p7 e6 f6 d6 g6 e7 f7 d7 g7 hb6 hb7
      replace hbw := Lib.hid hbw
      go_loopw [6] (fun vi wr => ∃ p : Nat, p ≤ z.ins.length ∧ vi = .int .i64 (p : Int) ∧ Box8 x IA wr w.heap.size ∧ w.heap.size < wr.heap.size ∧ Below w.heap.size w wr) (fun vi _ => z.ins.length - (intOf vi).toNat)
      case atStart => exact ⟨0, Nat.zero_le _, rfl, hbx7.out, hk7, hb07.out⟩
      case round =>
        clear hz hzr hgr hz6 hz7
        obtain ⟨p, hp, rfl, hbox, hzr, hbw⟩ := hrel
        have hz := hbw.size
        have hgr : g < wr.heap.size := by omega
        have hbx3 := Lib.hid hbox
        have q4 := (hbw.cell (p := ⟨g, o + k * 8 + 4, none⟩) hg).trans (hq.out k z hx.out 4 (.slice z.insA z.ins.length z.insC) rfl)
        by_cases hpl : p < z.ins.length
        · obtain ⟨y, hy⟩ := get_some hpl
          obtain ⟨gi, oi, e0, hgi, hqi⟩ := hxi (by omega)
          rw [e0] at q4
          have r0 := (hbw.cell (p := ⟨gi, oi + p * 3 + 0, none⟩) hgi).trans (hqi p y hy 0 (.string y.name.1) rfl)
          rw [Nat.add_zero] at r0
          clear hqi
          have hgir : gi < wr.heap.size := by omega
          have p0' : (0 : Int) ≤ (p : Int) := by omega
          have p1' : (p : Int) < (z.ins.length : Int) := by omega
          have hym := List.mem_of_getElem? hy
          have har0 := fun W => rartifact_any y.name W (hxn.out y hym)
          have hiy0 := fun W hb => hid0.out y.name W hb
          have hj5 := hj4.out y hym
          obtain ⟨AT, hAT⟩ : ∃ AT, idxI (L.map Lkr.h) x.run y.name = AT := ⟨_, rfl⟩
          obtain ⟨B, hB⟩ : ∃ B, artB y.name = B := ⟨_, rfl⟩
          rw [hAT] at hiy0
          rw [hB] at har0 hj5
          have hfa : B = true → 0 ≤ AT ∧ AT < (k : Int) := fun h => by
            obtain ⟨h1, h2⟩ := hj5 h
            rw [← hAT]
            unfold idxI
            rw [if_pos h1]
            omega
          have har := Lib.hid har0
          have hiy := Lib.hid hiy0
          clear har0 hiy0 hj5 hym e0
          replace hAT := Lib.hid hAT
          replace hB := Lib.hid hB
          replace hy := Lib.hid hy
          obtain ⟨b0, b1, b2, b3, b4, b5, b6, b7⟩ := hbox
          clear b1 b2 b3 b4 b5 b6 b7
          go_upto_region 11 with fail
          go_cut [7] (fun s7 wx => s7 = .int .i64 AT ∧ Below wr.heap.size wr wx)
          case first =>
            go_region_held3 (fun w' => w'.cell? ⟨w.heap.size, 0, none⟩ = some (.string x.run.1) ∧ w'.cell? ⟨g, o + k * 8 + 4, none⟩ = some (.slice (some ⟨gi, oi, none⟩) z.ins.length z.insC) ∧ w'.cell? ⟨gi, oi + p * 3, none⟩ = some (.string y.name.1)) (first | (go_keep; done) | (go_simp; done) | go_keep)
              (first
              | (go_at_call 38; go_must (refine (hiy.out _ (by repeat (first | (with_reducible exact Below.refl _ _) | (with_reducible refine Below.drew ?_) | (with_reducible refine below_drewN ?_ _) | ((with_reducible refine Below.alloc ?_ ?_ _); rotate_left; focus ((try simp) <;> omega)) | ((with_reducible refine Below.setCell ?_ ?_ _); rotate_left; focus ((try simp) <;> omega)) | ((with_reducible refine Below.trans ?_ (Below.mono (by assumption) ?_)); rotate_left; focus ((try simp) <;> omega))))).mono ?_; rintro e w8 ⟨rfl, hb8⟩; have hz8 := hb8.size; (try simp at hz8); obtain ⟨e8, f8⟩ := blk_at hb8 w.heap.size (by (try simp) <;> omega); obtain ⟨d8, g8⟩ := blk_at hb8 g (by (try simp) <;> omega); obtain ⟨c8, h8⟩ := blk_at hb8 gi (by (try simp) <;> omega)))
              | fail "none")
            all_goals (go_wp2_with fail; go_meet)
            all_goals exact ⟨rfl, (by repeat (first | (with_reducible exact Below.refl _ _) | (with_reducible refine Below.drew ?_) | (with_reducible refine below_drewN ?_ _) | ((with_reducible refine Below.alloc ?_ ?_ _); rotate_left; focus ((try simp) <;> omega)) | ((with_reducible refine Below.setCell ?_ ?_ _); rotate_left; focus ((try simp) <;> omega)) | ((with_reducible refine Below.trans ?_ (Below.mono (by assumption) ?_)); rotate_left; focus ((try simp) <;> omega))))⟩
          case rest =>
            obtain ⟨rfl, hbx⟩ := hcut
            have hzx := hbx.size
            have hbf : Hid (Below w.heap.size w wc) := Lib.hid (hbw.trans (hbx.mono hz))
            obtain ⟨e5, _⟩ := blk_at hbx w.heap.size hzr
            have hbn : Hid (Box8 x IA wc w.heap.size) := Lib.hid (by
             obtain ⟨m0, m1, m2, m3, m4, m5, m6, m7⟩ := hbx3.out
             exact ⟨(e5 _).trans m0, (e5 _).trans m1, (e5 _).trans m2, (e5 _).trans m3, (e5 _).trans m4, (e5 _).trans m5, (e5 _).trans m6, (e5 _).trans m7⟩)
            replace q4 := (hbx.cell (p := ⟨g, o + k * 8 + 4, none⟩) hgr).trans q4
            replace r0 := (hbx.cell (p := ⟨gi, oi + p * 3, none⟩) hgir).trans r0
            have hkc : w.heap.size < wc.heap.size := by omega
            clear e5 b0
            replace hbw := Lib.hid hbw
            rcases B with _ | _
            · clear hfa
              go_wp2_with (go_at_call 39; go_must (refine (har.out _).mono ?_; rintro e w9 ⟨rfl, hb9⟩; have hz9 := hb9.size; (try simp at hz9); obtain ⟨e9, f9⟩ := blk_at hb9 w.heap.size (by (try simp) <;> omega)))
              go_roundw
              case rel => exact ⟨p + 1, by omega, by go_num, (by
               obtain ⟨m0, m1, m2, m3, m4, m5, m6, m7⟩ := hbn.out
               exact ⟨(e9 _).trans m0, (e9 _).trans m1, (e9 _).trans m2, (e9 _).trans m3, (e9 _).trans m4, (e9 _).trans m5, (e9 _).trans m6, (e9 _).trans m7⟩), by omega, hbf.out.trans (hb9.mono (by omega))⟩
              case measure => simp [intOf]; omega
            · obtain ⟨a1, a2⟩ := hfa rfl
              have a3 : ¬ AT < 0 := by omega
              have a4 : ¬ (k : Int) ≤ AT := by omega
              go_wp2_with (go_at_call 39; go_must (refine (har.out _).mono ?_; rintro e w9 ⟨rfl, hb9⟩; have hz9 := hb9.size; (try simp at hz9); obtain ⟨e9, f9⟩ := blk_at hb9 w.heap.size (by (try simp) <;> omega)))
              go_roundw
              case rel => exact ⟨p + 1, by omega, by go_num, (by
               obtain ⟨m0, m1, m2, m3, m4, m5, m6, m7⟩ := hbn.out
               exact ⟨(e9 _).trans m0, (e9 _).trans m1, (e9 _).trans m2, (e9 _).trans m3, (e9 _).trans m4, (e9 _).trans m5, (e9 _).trans m6, (e9 _).trans m7⟩), by omega, hbf.out.trans (hb9.mono (by omega))⟩
              case measure => simp [intOf]; omega
        · have p1' : ¬ (p : Int) < (z.ins.length : Int) := by omega
          go_wp2_with fail
          go_roundw
          case rel => exact ⟨k + 1, by omega, by go_num, hbx3.out, hzr, hbw⟩
          case measure => simp [intOf]; omega
    · have i1 : ¬ (k : Int) < (n : Int) + 1 := by omega
      go_wp2_with fail
      go_ret
      exact ⟨rfl, hbw⟩
end Go.Proofs.YtjkijknjngiieaaGreatDoor
