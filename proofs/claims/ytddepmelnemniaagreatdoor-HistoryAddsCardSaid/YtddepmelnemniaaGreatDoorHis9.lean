/-
  The walks of histories: one history, by the reference.
-/
import Derived.Test.YtddepmelnemniaaGreatDoorHis8



namespace Go.Proofs.YtddepmelnemniaaGreatDoor
open Go.RowKit

set_option maxRecDepth 100000 in
set_option maxHeartbeats 4000000 in
theorem rhistory_any (A : Option Addr) (c : Nat) (l : List Hst) (k : Nat) (x : Hst) (hx : l[k]? = some x) (w : World) (hr : RwH w w.heap.size A l) (hn : l.length ≤ 9223372036854775807) (hs : x.name.1.size < 4294967281) :
    Calls Tryz.prog 30 #[.slice A l.length c, .int .i64 (k : Int)] w fun e w' => e = .returned (.int .i64 (hisErr (prevN (l.map Hst.h) k) x.h)) ∧ Below w.heap.size w w' := by
  have hkl := (List.getElem?_eq_some_iff.1 hx).1
  obtain ⟨g, o, rfl, hg, q⟩ := hr.row (by omega)
  have q0 := q k x hx 0 (.string x.name.1) rfl
  rw [Nat.add_zero] at q0
  have q1 := q k x hx 1 (.slice x.lA x.l.length x.lC) rfl
  have hlb := Lib.hid (hr.labs x (List.mem_of_getElem? hx))
  have i0 : (0 : Int) ≤ (k : Int) := by omega
  have i1 : (k : Int) < (l.length : Int) := by omega
  have ng1 : g ≠ w.heap.size := by omega
  have ng2 : w.heap.size ≠ g := by omega
  have hll : x.l.length ≤ 9223372036854775807 := by have := hlb.out; have h1 := this.1; have h2 := this.2.1; unfold maxLen at h2; omega
  obtain ⟨P, hP⟩ : ∃ P, pathB x.name = P := ⟨_, rfl⟩
  have hip : Hid (∀ W, Calls Tryz.prog 54 #[.string x.name.1] W fun e w' => e = .returned (.bool P) ∧ Below W.heap.size W w') := Lib.hid fun W => by
    have h := rispath_any x.name W hs
    rwa [hP] at h
  obtain ⟨R, hR⟩ : ∃ R, hisErr (prevN (l.map Hst.h) k) x.h = R := ⟨_, rfl⟩
  rw [hR]
  rcases P with _ | _
  · have hf : Hid (R = 1) := Lib.hid (by rw [← hR]; exact his_path hP)
    replace hR := Lib.hid hR
    replace hP := Lib.hid hP
    replace hx := Lib.hid hx
    clear hr q
    go_enter Tryz.func30, Tryz.ntmps30
    go_wp2_with (go_at_call 54; go_must (refine (hip.out _).mono ?_; rintro e w1 ⟨rfl, hb1⟩; have hz1 := hb1.size; (try simp at hz1); have hg1 : g < w1.heap.size := (by omega); have hv1 : w.heap.size < w1.heap.size := (by omega); obtain ⟨hc1, hf1⟩ := blk_at hb1 g (by (try simp) <;> omega); obtain ⟨hd1, he1⟩ := blk_at hb1 w.heap.size (by (try simp) <;> omega)))
    go_ret
    exact ⟨by rw [hf.out]; rfl, (by repeat (first | (with_reducible exact Below.refl _ _) | (with_reducible refine Below.drew ?_) | (with_reducible refine below_drewN ?_ _) | ((with_reducible refine Below.alloc ?_ ?_ _); rotate_left; focus ((try simp) <;> omega)) | ((with_reducible refine Below.setCell ?_ ?_ _); rotate_left; focus ((try simp) <;> omega)) | ((with_reducible refine Below.trans ?_ (Below.mono (by assumption) ?_)); rotate_left; focus ((try simp) <;> omega))))⟩
  rcases k with _ | j
  · simp only [Nat.zero_mul, Nat.add_zero] at q0 q1
    by_cases h3 : 32 < x.l.length
    · have hf : Hid (R = 15) := Lib.hid (by rw [← hR]; exact his_len hP rfl h3)
      have h3b : (32 : Int) < (x.l.length : Int) := by omega
      replace hR := Lib.hid hR
      replace hP := Lib.hid hP
      replace hx := Lib.hid hx
      clear hr q
      go_enter Tryz.func30, Tryz.ntmps30
      go_wp2_with (go_at_call 54; go_must (refine (hip.out _).mono ?_; rintro e w1 ⟨rfl, hb1⟩; have hz1 := hb1.size; (try simp at hz1); have hg1 : g < w1.heap.size := (by omega); have hv1 : w.heap.size < w1.heap.size := (by omega); obtain ⟨hc1, hf1⟩ := blk_at hb1 g (by (try simp) <;> omega); obtain ⟨hd1, he1⟩ := blk_at hb1 w.heap.size (by (try simp) <;> omega)))
      refine wp_region_held_drew (S := fun w' => w'.cell? ⟨w.heap.size, 0, none⟩ = some (.string x.name.1)) (by kernel_rfl) ?_ (fun hHeld => ?_)
      · first | (dsimp only; go_keep; done) | (go_keep; done) | (go_simp; done)
      rw [show (Array.replicate _ false : Array Bool) = #[false, false, false, false, false, false, false, false, false, false, false, false, false, false] from rfl]
      (refine wpAnyH_take (i := 0) (oi := Oper.mk _ _ _ _ _ _) (v := ?_) rfl (by kernel_rfl) (by kernel_rfl) (by kernel_rfl) (fun _ _ _ h => h) ?_ (by assumption) ?_; rotate_left; (focus (refine Or.inl ⟨by rfl, ?_⟩; intro wS hSw; (try dsimp only at hSw); go_simp; first | done | with_reducible rfl)); simp only [Act.put, List.setIfInBounds_toArray, List.set_cons_zero, List.set_cons_succ])
      (refine wpAnyH_take (i := 1) (oi := Oper.mk _ _ _ _ _ _) (v := ?_) rfl (by kernel_rfl) (by kernel_rfl) (by kernel_rfl) (fun _ _ _ h => h) ?_ (by assumption) ?_; rotate_left; (focus (refine Or.inl ⟨by rfl, ?_⟩; intro wS hSw; (try dsimp only at hSw); go_simp; first | done | with_reducible rfl)); simp only [Act.put, List.setIfInBounds_toArray, List.set_cons_zero, List.set_cons_succ])
      (refine wpAnyH_take (i := 2) (oi := Oper.mk _ _ _ _ _ _) (v := ?_) rfl (by kernel_rfl) (by kernel_rfl) (by kernel_rfl) (fun _ _ _ h => h) ?_ (by assumption) ?_; rotate_left; (focus (refine Or.inl ⟨by rfl, ?_⟩; intro wS hSw; (try dsimp only at hSw); go_simp; first | done | with_reducible rfl)); simp only [Act.put, List.setIfInBounds_toArray, List.set_cons_zero, List.set_cons_succ])
      (refine wpAnyH_take (i := 3) (oi := Oper.mk _ _ _ _ _ _) (v := undef) rfl (by kernel_rfl) (by kernel_rfl) (by kernel_rfl) (fun _ _ _ h => h) (Or.inr ⟨by kernel_rfl, rfl⟩) (by assumption) ?_; simp only [Act.put, List.setIfInBounds_toArray, List.set_cons_zero, List.set_cons_succ])
      (refine wpAnyH_take (i := 4) (oi := Oper.mk _ _ _ _ _ _) (v := undef) rfl (by kernel_rfl) (by kernel_rfl) (by kernel_rfl) (fun _ _ _ h => h) (Or.inr ⟨by kernel_rfl, rfl⟩) (by assumption) ?_; simp only [Act.put, List.setIfInBounds_toArray, List.set_cons_zero, List.set_cons_succ])
      (refine wpAnyH_take (i := 5) (oi := Oper.mk _ _ _ _ _ _) (v := undef) rfl (by kernel_rfl) (by kernel_rfl) (by kernel_rfl) (fun _ _ _ h => h) (Or.inr ⟨by kernel_rfl, rfl⟩) (by assumption) ?_; simp only [Act.put, List.setIfInBounds_toArray, List.set_cons_zero, List.set_cons_succ])
      (refine wpAnyH_take (i := 6) (oi := Oper.mk _ _ _ _ _ _) (v := undef) rfl (by kernel_rfl) (by kernel_rfl) (by kernel_rfl) (fun _ _ _ h => h) (Or.inr ⟨by kernel_rfl, rfl⟩) (by assumption) ?_; simp only [Act.put, List.setIfInBounds_toArray, List.set_cons_zero, List.set_cons_succ])
      (refine wpAnyH_take (i := 7) (oi := Oper.mk _ _ _ _ _ _) (v := undef) rfl (by kernel_rfl) (by kernel_rfl) (by kernel_rfl) (fun _ _ _ h => h) (Or.inr ⟨by kernel_rfl, rfl⟩) (by assumption) ?_; simp only [Act.put, List.setIfInBounds_toArray, List.set_cons_zero, List.set_cons_succ])
      (refine wpAnyH_take (i := 8) (oi := Oper.mk _ _ _ _ _ _) (v := undef) rfl (by kernel_rfl) (by kernel_rfl) (by kernel_rfl) (fun _ _ _ h => h) (Or.inr ⟨by kernel_rfl, rfl⟩) (by assumption) ?_; simp only [Act.put, List.setIfInBounds_toArray, List.set_cons_zero, List.set_cons_succ])
      (refine wpAnyH_take (i := 9) (oi := Oper.mk _ _ _ _ _ _) (v := undef) rfl (by kernel_rfl) (by kernel_rfl) (by kernel_rfl) (fun _ _ _ h => h) (Or.inr ⟨by kernel_rfl, rfl⟩) (by assumption) ?_; simp only [Act.put, List.setIfInBounds_toArray, List.set_cons_zero, List.set_cons_succ])
      (refine wpAnyH_take (i := 10) (oi := Oper.mk _ _ _ _ _ _) (v := undef) rfl (by kernel_rfl) (by kernel_rfl) (by kernel_rfl) (fun _ _ _ h => h) (Or.inr ⟨by kernel_rfl, rfl⟩) (by assumption) ?_; simp only [Act.put, List.setIfInBounds_toArray, List.set_cons_zero, List.set_cons_succ])
      (refine wpAnyH_ready (rs := [11]) (by kernel_rfl) (by simp) ?_; refine AllReadyH.cons (o := Oper.mk _ _ _ _ _ _) rfl (fun K hK => ?_) AllReadyH.nil; rw [if_neg (Bool.eq_false_iff.1 (by kernel_rfl))]; refine hK.out _ _ (by assumption) (fun _ => ?_); (clear hK K); (try simp only [Act.put, List.setIfInBounds_toArray, List.set_cons_zero, List.set_cons_succ]))
      (refine wpAnyH_take (i := 12) (oi := Oper.mk _ _ _ _ _ _) (v := undef) rfl (by kernel_rfl) (by kernel_rfl) (by kernel_rfl) (fun _ _ _ h => h) (Or.inr ⟨by kernel_rfl, rfl⟩) (by assumption) ?_; simp only [Act.put, List.setIfInBounds_toArray, List.set_cons_zero, List.set_cons_succ])
      (refine wpAnyH_take (i := 13) (oi := Oper.mk _ _ _ _ _ _) (v := ?_) rfl (by kernel_rfl) (by kernel_rfl) (by kernel_rfl) (fun _ _ _ h => h) ?_ (by assumption) ?_; rotate_left; (focus (refine Or.inl ⟨by rfl, ?_⟩; intro wS hSw; (try dsimp only at hSw); go_simp; first | done | with_reducible rfl)); simp only [Act.put, List.setIfInBounds_toArray, List.set_cons_zero, List.set_cons_succ])
      refine wpAnyH_done (by kernel_rfl) ?_ _
      go_wp2_with fail
      go_ret
      exact ⟨by rw [hf.out]; rfl, (by repeat (first | (with_reducible exact Below.refl _ _) | (with_reducible refine Below.drew ?_) | (with_reducible refine below_drewN ?_ _) | ((with_reducible refine Below.alloc ?_ ?_ _); rotate_left; focus ((try simp) <;> omega)) | ((with_reducible refine Below.setCell ?_ ?_ _); rotate_left; focus ((try simp) <;> omega)) | ((with_reducible refine Below.trans ?_ (Below.mono (by assumption) ?_)); rotate_left; focus ((try simp) <;> omega))))⟩
    · have h3b : ¬ (32 : Int) < (x.l.length : Int) := by omega
      have hR0 : Hid (smpsErr 0 x.l = R) := Lib.hid (by rw [← hR]; exact (his_samps (h := x.h) (p := prevN (l.map Hst.h) 0) hP rfl h3).symm)
      replace hR := Lib.hid hR
      replace hP := Lib.hid hP
      replace hx := Lib.hid hx
      clear hr q
      go_enter Tryz.func30, Tryz.ntmps30
      go_wp2_with (go_at_call 54; go_must (refine (hip.out _).mono ?_; rintro e w1 ⟨rfl, hb1⟩; have hz1 := hb1.size; (try simp at hz1); have hg1 : g < w1.heap.size := (by omega); have hv1 : w.heap.size < w1.heap.size := (by omega); obtain ⟨hc1, hf1⟩ := blk_at hb1 g (by (try simp) <;> omega); obtain ⟨hd1, he1⟩ := blk_at hb1 w.heap.size (by (try simp) <;> omega)))
      refine wp_region_held_drew (S := fun w' => w'.cell? ⟨w.heap.size, 0, none⟩ = some (.string x.name.1)) (by kernel_rfl) ?_ (fun hHeld => ?_)
      · first | (dsimp only; go_keep; done) | (go_keep; done) | (go_simp; done)
      rw [show (Array.replicate _ false : Array Bool) = #[false, false, false, false, false, false, false, false, false, false, false, false, false, false] from rfl]
      (refine wpAnyH_take (i := 0) (oi := Oper.mk _ _ _ _ _ _) (v := ?_) rfl (by kernel_rfl) (by kernel_rfl) (by kernel_rfl) (fun _ _ _ h => h) ?_ (by assumption) ?_; rotate_left; (focus (refine Or.inl ⟨by rfl, ?_⟩; intro wS hSw; (try dsimp only at hSw); go_simp; first | done | with_reducible rfl)); simp only [Act.put, List.setIfInBounds_toArray, List.set_cons_zero, List.set_cons_succ])
      (refine wpAnyH_take (i := 1) (oi := Oper.mk _ _ _ _ _ _) (v := ?_) rfl (by kernel_rfl) (by kernel_rfl) (by kernel_rfl) (fun _ _ _ h => h) ?_ (by assumption) ?_; rotate_left; (focus (refine Or.inl ⟨by rfl, ?_⟩; intro wS hSw; (try dsimp only at hSw); go_simp; first | done | with_reducible rfl)); simp only [Act.put, List.setIfInBounds_toArray, List.set_cons_zero, List.set_cons_succ])
      (refine wpAnyH_take (i := 2) (oi := Oper.mk _ _ _ _ _ _) (v := ?_) rfl (by kernel_rfl) (by kernel_rfl) (by kernel_rfl) (fun _ _ _ h => h) ?_ (by assumption) ?_; rotate_left; (focus (refine Or.inl ⟨by rfl, ?_⟩; intro wS hSw; (try dsimp only at hSw); go_simp; first | done | with_reducible rfl)); simp only [Act.put, List.setIfInBounds_toArray, List.set_cons_zero, List.set_cons_succ])
      (refine wpAnyH_take (i := 3) (oi := Oper.mk _ _ _ _ _ _) (v := undef) rfl (by kernel_rfl) (by kernel_rfl) (by kernel_rfl) (fun _ _ _ h => h) (Or.inr ⟨by kernel_rfl, rfl⟩) (by assumption) ?_; simp only [Act.put, List.setIfInBounds_toArray, List.set_cons_zero, List.set_cons_succ])
      (refine wpAnyH_take (i := 4) (oi := Oper.mk _ _ _ _ _ _) (v := undef) rfl (by kernel_rfl) (by kernel_rfl) (by kernel_rfl) (fun _ _ _ h => h) (Or.inr ⟨by kernel_rfl, rfl⟩) (by assumption) ?_; simp only [Act.put, List.setIfInBounds_toArray, List.set_cons_zero, List.set_cons_succ])
      (refine wpAnyH_take (i := 5) (oi := Oper.mk _ _ _ _ _ _) (v := undef) rfl (by kernel_rfl) (by kernel_rfl) (by kernel_rfl) (fun _ _ _ h => h) (Or.inr ⟨by kernel_rfl, rfl⟩) (by assumption) ?_; simp only [Act.put, List.setIfInBounds_toArray, List.set_cons_zero, List.set_cons_succ])
      (refine wpAnyH_take (i := 6) (oi := Oper.mk _ _ _ _ _ _) (v := undef) rfl (by kernel_rfl) (by kernel_rfl) (by kernel_rfl) (fun _ _ _ h => h) (Or.inr ⟨by kernel_rfl, rfl⟩) (by assumption) ?_; simp only [Act.put, List.setIfInBounds_toArray, List.set_cons_zero, List.set_cons_succ])
      (refine wpAnyH_take (i := 7) (oi := Oper.mk _ _ _ _ _ _) (v := undef) rfl (by kernel_rfl) (by kernel_rfl) (by kernel_rfl) (fun _ _ _ h => h) (Or.inr ⟨by kernel_rfl, rfl⟩) (by assumption) ?_; simp only [Act.put, List.setIfInBounds_toArray, List.set_cons_zero, List.set_cons_succ])
      (refine wpAnyH_take (i := 8) (oi := Oper.mk _ _ _ _ _ _) (v := undef) rfl (by kernel_rfl) (by kernel_rfl) (by kernel_rfl) (fun _ _ _ h => h) (Or.inr ⟨by kernel_rfl, rfl⟩) (by assumption) ?_; simp only [Act.put, List.setIfInBounds_toArray, List.set_cons_zero, List.set_cons_succ])
      (refine wpAnyH_take (i := 9) (oi := Oper.mk _ _ _ _ _ _) (v := undef) rfl (by kernel_rfl) (by kernel_rfl) (by kernel_rfl) (fun _ _ _ h => h) (Or.inr ⟨by kernel_rfl, rfl⟩) (by assumption) ?_; simp only [Act.put, List.setIfInBounds_toArray, List.set_cons_zero, List.set_cons_succ])
      (refine wpAnyH_take (i := 10) (oi := Oper.mk _ _ _ _ _ _) (v := undef) rfl (by kernel_rfl) (by kernel_rfl) (by kernel_rfl) (fun _ _ _ h => h) (Or.inr ⟨by kernel_rfl, rfl⟩) (by assumption) ?_; simp only [Act.put, List.setIfInBounds_toArray, List.set_cons_zero, List.set_cons_succ])
      (refine wpAnyH_ready (rs := [11]) (by kernel_rfl) (by simp) ?_; refine AllReadyH.cons (o := Oper.mk _ _ _ _ _ _) rfl (fun K hK => ?_) AllReadyH.nil; rw [if_neg (Bool.eq_false_iff.1 (by kernel_rfl))]; refine hK.out _ _ (by assumption) (fun _ => ?_); (clear hK K); (try simp only [Act.put, List.setIfInBounds_toArray, List.set_cons_zero, List.set_cons_succ]))
      (refine wpAnyH_take (i := 12) (oi := Oper.mk _ _ _ _ _ _) (v := undef) rfl (by kernel_rfl) (by kernel_rfl) (by kernel_rfl) (fun _ _ _ h => h) (Or.inr ⟨by kernel_rfl, rfl⟩) (by assumption) ?_; simp only [Act.put, List.setIfInBounds_toArray, List.set_cons_zero, List.set_cons_succ])
      (refine wpAnyH_take (i := 13) (oi := Oper.mk _ _ _ _ _ _) (v := ?_) rfl (by kernel_rfl) (by kernel_rfl) (by kernel_rfl) (fun _ _ _ h => h) ?_ (by assumption) ?_; rotate_left; (focus (refine Or.inl ⟨by rfl, ?_⟩; intro wS hSw; (try dsimp only at hSw); go_simp; first | done | with_reducible rfl)); simp only [Act.put, List.setIfInBounds_toArray, List.set_cons_zero, List.set_cons_succ])
      refine wpAnyH_done (by kernel_rfl) ?_ _
      go_wp2_with fail
      have b1X : (w1.drew).cell? ⟨w.heap.size, 1, none⟩ = some (.slice x.lA x.l.length x.lC) := by go_simp
      have hBX : Below w.heap.size w w1.drew := (by repeat (first | (with_reducible exact Below.refl _ _) | (with_reducible refine Below.drew ?_) | (with_reducible refine below_drewN ?_ _) | ((with_reducible refine Below.alloc ?_ ?_ _); rotate_left; focus ((try simp) <;> omega)) | ((with_reducible refine Below.setCell ?_ ?_ _); rotate_left; focus ((try simp) <;> omega)) | ((with_reducible refine Below.trans ?_ (Below.mono (by assumption) ?_)); rotate_left; focus ((try simp) <;> omega))))
      have hzX : w.heap.size < (w1.drew).heap.size := by (try simp) <;> omega
      go_loopw [6, 7] (fun vl vi wr => ∃ (m : Nat) (L : Int), m ≤ x.l.length ∧ vi = .int .i64 (m : Int) ∧ vl = .int .i64 L ∧ smpsErr L (x.l.drop m) = R ∧ Below (w1.drew).heap.size w1.drew wr) (fun _ vi _ => x.l.length - (intOf vi).toNat)
      case atStart => exact ⟨0, 0, Nat.zero_le _, rfl, rfl, hR0.out, Below.refl _ _⟩
      case round =>
        obtain ⟨m, L, hm, rfl, rfl, ht, hbw⟩ := hrel
        have hz := hbw.size
        have bx : wr.cell? ⟨w.heap.size, 1, none⟩ = some (.slice x.lA x.l.length x.lC) := (hbw.cell (p := ⟨w.heap.size, 1, none⟩) hzX).trans b1X
        have hbr : Below w.heap.size w wr := hBX.trans (hbw.mono (by omega))
        have hwz : w.heap.size < wr.heap.size := by omega
        by_cases hml : m < x.l.length
        · obtain ⟨s, hs⟩ := get_some hml
          rw [smps_at hs] at ht
          obtain ⟨g2, o2, hA2, hg2, q⟩ := hlb.out.2.2 (by omega)
          rw [hA2] at bx
          have q0 : wr.cell? ⟨g2, o2 + m * 4, none⟩ = some (.int .u64 s.code.1) := (hbr.cell (p := ⟨g2, o2 + m * 4, none⟩) hg2).trans (q m s hs 0 (.int .u64 s.code.1) rfl)
          have q1 : wr.cell? ⟨g2, o2 + m * 4 + 1, none⟩ = some (.int .i64 s.status.1) := (hbr.cell (p := ⟨g2, o2 + m * 4 + 1, none⟩) hg2).trans (q m s hs 1 (.int .i64 s.status.1) rfl)
          have q2 : wr.cell? ⟨g2, o2 + m * 4 + 2, none⟩ = some (.int .i64 s.time.1) := (hbr.cell (p := ⟨g2, o2 + m * 4 + 2, none⟩) hg2).trans (q m s hs 2 (.int .i64 s.time.1) rfl)
          have q3 : wr.cell? ⟨g2, o2 + m * 4 + 3, none⟩ = some (.int .i64 s.stamp.1) := (hbr.cell (p := ⟨g2, o2 + m * 4 + 3, none⟩) hg2).trans (q m s hs 3 (.int .i64 s.stamp.1) rfl)
          clear q
          have hg2r : g2 < wr.heap.size := by omega
          have m0 : (0 : Int) ≤ (m : Int) := by omega
          have m1 : (m : Int) < (x.l.length : Int) := by omega
          obtain ⟨E, hE⟩ : ∃ E, smpErr s L = E := ⟨_, rfl⟩
          have hsm : Hid (∀ W, Calls Tryz.prog 56 #[.agg #[.int .u64 s.code.1, .int .i64 s.status.1, .int .i64 s.time.1, .int .i64 s.stamp.1], .int .i64 L] W fun e w' => e = .returned (.int .i64 E) ∧ Below W.heap.size W w') := Lib.hid fun W => by
            have h := rsample_any s L W
            rwa [hE] at h
          rw [hE] at ht
          replace hE := Lib.hid hE
          replace hs := Lib.hid hs
          replace hA2 := Lib.hid hA2
          by_cases h0 : E = 0
          · rw [if_pos h0] at ht
            subst h0
            replace ht := Lib.hid ht
            go_wp2_with (go_at_call 56; go_must (refine (hsm.out _).mono ?_; rintro e w4 ⟨rfl, hb4⟩; have hz4 := hb4.size; (try simp at hz4); have hk4 : w.heap.size < w4.heap.size := (by omega); obtain ⟨hd4, he4⟩ := blk_at hb4 w.heap.size (by (try simp) <;> omega); have hq4 : g2 < w4.heap.size := (by omega); obtain ⟨hm4, hn4⟩ := blk_at hb4 g2 (by (try simp) <;> omega)))
            go_roundw
            case rel => exact ⟨m + 1, s.stamp.1, by omega, by go_num, rfl, ht.out, hbw.trans (hb4.mono hbw.size)⟩
            case measure => simp [intOf]; omega
          · rw [if_neg h0] at ht
            have hf : Hid (R = E) := Lib.hid ht.symm
            have hEb : (E != 0) = true := by rw [bne_iff_ne]; exact h0
            clear ht
            replace h0 := Lib.hid h0
            go_wp2_with (go_at_call 56; go_must (refine (hsm.out _).mono ?_; rintro e w4 ⟨rfl, hb4⟩; have hz4 := hb4.size; (try simp at hz4); have hk4 : w.heap.size < w4.heap.size := (by omega); obtain ⟨hd4, he4⟩ := blk_at hb4 w.heap.size (by (try simp) <;> omega); have hq4 : g2 < w4.heap.size := (by omega); obtain ⟨hm4, hn4⟩ := blk_at hb4 g2 (by (try simp) <;> omega)))
            go_ret
            exact ⟨by rw [hf.out]; rfl, (by repeat (first | (with_reducible exact Below.refl _ _) | (with_reducible refine Below.drew ?_) | (with_reducible refine below_drewN ?_ _) | ((with_reducible refine Below.alloc ?_ ?_ _); rotate_left; focus ((try simp) <;> omega)) | ((with_reducible refine Below.setCell ?_ ?_ _); rotate_left; focus ((try simp) <;> omega)) | ((with_reducible refine Below.trans ?_ (Below.mono (by assumption) ?_)); rotate_left; focus ((try simp) <;> omega))))⟩
        · have m1 : ¬ (m : Int) < (x.l.length : Int) := by omega
          have hf : Hid (R = 0) := Lib.hid (by rw [← ht, smps_end hml])
          replace ht := Lib.hid ht
          go_wp2_with fail
          go_ret
          exact ⟨by rw [hf.out]; rfl, (by repeat (first | (with_reducible exact Below.refl _ _) | (with_reducible refine Below.drew ?_) | (with_reducible refine below_drewN ?_ _) | ((with_reducible refine Below.alloc ?_ ?_ _); rotate_left; focus ((try simp) <;> omega)) | ((with_reducible refine Below.setCell ?_ ?_ _); rotate_left; focus ((try simp) <;> omega)) | ((with_reducible refine Below.trans ?_ (Below.mono (by assumption) ?_)); rotate_left; focus ((try simp) <;> omega))))⟩
  · obtain ⟨y, hy⟩ := get_some (show j < l.length by omega)
    have r0 := q j y hy 0 (.string y.name.1) rfl
    rw [Nat.add_zero] at r0
    have hpn : prevN (l.map Hst.h) (j + 1) = some y.name := prevN_succ (h := y.h) (by rw [List.getElem?_map, hy]; rfl)
    rw [hpn] at hR
    have ej : ((j + 1 : Nat) : Int) - 1 = (j : Int) := by omega
    have j0 : (0 : Int) ≤ (j : Int) := by omega
    have j1 : (j : Int) < (l.length : Int) := by omega
    have j2 : (0 : Int) < ((j + 1 : Nat) : Int) := by omega
    have jw : IntKind.i64.wrap (j : Int) = (j : Int) := IntWalk.i64_in _ (by omega)
    obtain ⟨C, hC⟩ : ∃ C, cmpS y.name x.name = C := ⟨_, rfl⟩
    have hcm : Hid (∀ W, Calls Tryz.prog 55 #[.string y.name.1, .string x.name.1] W fun e w' => e = .returned (.int .i64 C) ∧ Below W.heap.size W w') := Lib.hid fun W => (rcompare_any _ _ y.name.2 x.name.2 W).mono fun _ _ h => ⟨by rw [h.1, ← hC]; rfl, by obtain ⟨n, e⟩ := h.2; rw [e]; exact below_drewN (Below.refl _ _) _⟩
    by_cases h2 : C < 0
    · have hbh : behindB (some y.name) x.h.name = true := by show decide (cmpS y.name x.name < 0) = true; rw [hC]; exact decide_eq_true h2
      have h2b : decide (0 ≤ C) = false := decide_eq_false (by omega)
      by_cases h3 : 32 < x.l.length
      · have hf : Hid (R = 15) := Lib.hid (by rw [← hR]; exact his_len (h := x.h) hP hbh h3)
        have h3b : (32 : Int) < (x.l.length : Int) := by omega
        replace hR := Lib.hid hR
        replace hP := Lib.hid hP
        replace hx := Lib.hid hx
        replace hC := Lib.hid hC
        replace hy := Lib.hid hy
        replace hpn := Lib.hid hpn
        clear hr q
        go_enter Tryz.func30, Tryz.ntmps30
        go_wp2_with (go_at_call 54; go_must (refine (hip.out _).mono ?_; rintro e w1 ⟨rfl, hb1⟩; have hz1 := hb1.size; (try simp at hz1); have hg1 : g < w1.heap.size := (by omega); have hv1 : w.heap.size < w1.heap.size := (by omega); obtain ⟨hc1, hf1⟩ := blk_at hb1 g (by (try simp) <;> omega); obtain ⟨hd1, he1⟩ := blk_at hb1 w.heap.size (by (try simp) <;> omega)))
        refine wp_region_held_drew (S := fun w' => w'.cell? ⟨w.heap.size, 0, none⟩ = some (.string x.name.1) ∧ w'.cell? ⟨g, o + j * 2, none⟩ = some (.string y.name.1)) (by kernel_rfl) ?_ (fun hHeld => ?_)
        · first | (dsimp only; go_keep; done) | (go_keep; done) | (go_simp; done)
        rw [show (Array.replicate _ false : Array Bool) = #[false, false, false, false, false, false, false, false, false, false, false, false, false, false] from rfl]
        (refine wpAnyH_take (i := 0) (oi := Oper.mk _ _ _ _ _ _) (v := ?_) rfl (by kernel_rfl) (by kernel_rfl) (by kernel_rfl) (fun _ _ _ h => h) ?_ (by assumption) ?_; rotate_left; (focus (refine Or.inl ⟨by rfl, ?_⟩; intro wS hSw; (try dsimp only at hSw); go_simp; first | done | with_reducible rfl)); simp only [Act.put, List.setIfInBounds_toArray, List.set_cons_zero, List.set_cons_succ])
        (refine wpAnyH_take (i := 1) (oi := Oper.mk _ _ _ _ _ _) (v := ?_) rfl (by kernel_rfl) (by kernel_rfl) (by kernel_rfl) (fun _ _ _ h => h) ?_ (by assumption) ?_; rotate_left; (focus (refine Or.inl ⟨by rfl, ?_⟩; intro wS hSw; (try dsimp only at hSw); go_simp; first | done | with_reducible rfl)); simp only [Act.put, List.setIfInBounds_toArray, List.set_cons_zero, List.set_cons_succ])
        (refine wpAnyH_take (i := 2) (oi := Oper.mk _ _ _ _ _ _) (v := ?_) rfl (by kernel_rfl) (by kernel_rfl) (by kernel_rfl) (fun _ _ _ h => h) ?_ (by assumption) ?_; rotate_left; (focus (refine Or.inl ⟨by rfl, ?_⟩; intro wS hSw; (try dsimp only at hSw); go_simp; first | done | with_reducible rfl)); simp only [Act.put, List.setIfInBounds_toArray, List.set_cons_zero, List.set_cons_succ])
        (refine wpAnyH_take (i := 3) (oi := Oper.mk _ _ _ _ _ _) (v := ?_) rfl (by kernel_rfl) (by kernel_rfl) (by kernel_rfl) (fun _ _ _ h => h) ?_ (by assumption) ?_; rotate_left; (focus (refine Or.inl ⟨by rfl, ?_⟩; intro wS hSw; (try dsimp only at hSw); go_simp; first | done | with_reducible rfl)); simp only [Act.put, List.setIfInBounds_toArray, List.set_cons_zero, List.set_cons_succ])
        (refine wpAnyH_take (i := 4) (oi := Oper.mk _ _ _ _ _ _) (v := ?_) rfl (by kernel_rfl) (by kernel_rfl) (by kernel_rfl) (fun _ _ _ h => h) ?_ (by assumption) ?_; rotate_left; (focus (refine Or.inl ⟨by rfl, ?_⟩; intro wS hSw; (try dsimp only at hSw); go_simp; first | done | with_reducible rfl)); simp only [Act.put, List.setIfInBounds_toArray, List.set_cons_zero, List.set_cons_succ])
        (refine wpAnyH_take (i := 5) (oi := Oper.mk _ _ _ _ _ _) (v := ?_) rfl (by kernel_rfl) (by kernel_rfl) (by kernel_rfl) (fun _ _ _ h => h) ?_ (by assumption) ?_; rotate_left; (focus (refine Or.inl ⟨by rfl, ?_⟩; intro wS hSw; (try dsimp only at hSw); go_simp; first | done | with_reducible rfl)); simp only [Act.put, List.setIfInBounds_toArray, List.set_cons_zero, List.set_cons_succ])
        (refine wpAnyH_take (i := 6) (oi := Oper.mk _ _ _ _ _ _) (v := ?_) rfl (by kernel_rfl) (by kernel_rfl) (by kernel_rfl) (fun _ _ _ h => h) ?_ (by assumption) ?_; rotate_left; (focus (refine Or.inl ⟨by rfl, ?_⟩; intro wS hSw; (try dsimp only at hSw); go_simp; first | done | with_reducible rfl)); simp only [Act.put, List.setIfInBounds_toArray, List.set_cons_zero, List.set_cons_succ])
        (refine wpAnyH_take (i := 7) (oi := Oper.mk _ _ _ _ _ _) (v := ?_) rfl (by kernel_rfl) (by kernel_rfl) (by kernel_rfl) (fun _ _ _ h => h) ?_ (by assumption) ?_; rotate_left; (focus (refine Or.inl ⟨by rfl, ?_⟩; intro wS hSw; (try dsimp only at hSw); go_simp; first | done | with_reducible rfl)); simp only [Act.put, List.setIfInBounds_toArray, List.set_cons_zero, List.set_cons_succ])
        (refine wpAnyH_take (i := 8) (oi := Oper.mk _ _ _ _ _ _) (v := ?_) rfl (by kernel_rfl) (by kernel_rfl) (by kernel_rfl) (fun _ _ _ h => h) ?_ (by assumption) ?_; rotate_left; (focus (refine Or.inl ⟨by rfl, ?_⟩; intro wS hSw; (try dsimp only at hSw); go_simp; first | done | with_reducible rfl)); simp only [Act.put, List.setIfInBounds_toArray, List.set_cons_zero, List.set_cons_succ])
        (refine wpAnyH_take (i := 9) (oi := Oper.mk _ _ _ _ _ _) (v := ?_) rfl (by kernel_rfl) (by kernel_rfl) (by kernel_rfl) (fun _ _ _ h => h) ?_ (by assumption) ?_; rotate_left; (focus (refine Or.inl ⟨by rfl, ?_⟩; intro wS hSw; (try dsimp only at hSw); go_simp; first | done | with_reducible rfl)); simp only [Act.put, List.setIfInBounds_toArray, List.set_cons_zero, List.set_cons_succ])
        (refine wpAnyH_take (i := 10) (oi := Oper.mk _ _ _ _ _ _) (v := ?_) rfl (by kernel_rfl) (by kernel_rfl) (by kernel_rfl) (fun _ _ _ h => h) ?_ (by assumption) ?_; rotate_left; (focus (refine Or.inl ⟨by rfl, ?_⟩; intro wS hSw; (try dsimp only at hSw); go_simp; first | done | with_reducible rfl)); simp only [Act.put, List.setIfInBounds_toArray, List.set_cons_zero, List.set_cons_succ])
        (refine wpAnyH_ready (rs := [11]) (by kernel_rfl) (by simp) ?_
         refine AllReadyH.cons (o := Oper.mk _ _ _ _ _ _) rfl (fun K hK => ?_) AllReadyH.nil
         go_simp
         (go_at_call 55; go_must (refine (hcm.out _).mono ?_; rintro e w3 ⟨rfl, hb3⟩; have hz3 := hb3.size; (try simp at hz3); have hk3 : w.heap.size < w3.heap.size := (by omega); have hg3 : g < w3.heap.size := (by omega); obtain ⟨hc3, hf3⟩ := blk_at hb3 g (by (try simp) <;> omega); obtain ⟨hd3, he3⟩ := blk_at hb3 w.heap.size (by (try simp) <;> omega)))
         refine hK.out _ _ ?_ (fun hHeld => ?_)
         · first | (dsimp only; go_keep; done) | (go_keep; done)
         clear hK K
         (try simp only [List.setIfInBounds_toArray, List.set_cons_zero, List.set_cons_succ]))
        (refine wpAnyH_take (i := 12) (oi := Oper.mk _ _ _ _ _ _) (v := ?_) rfl (by kernel_rfl) (by kernel_rfl) (by kernel_rfl) (fun _ _ _ h => h) ?_ (by assumption) ?_; rotate_left; (focus (refine Or.inl ⟨by rfl, ?_⟩; intro wS hSw; (try dsimp only at hSw); go_simp; first | done | with_reducible rfl)); simp only [Act.put, List.setIfInBounds_toArray, List.set_cons_zero, List.set_cons_succ])
        (refine wpAnyH_take (i := 13) (oi := Oper.mk _ _ _ _ _ _) (v := ?_) rfl (by kernel_rfl) (by kernel_rfl) (by kernel_rfl) (fun _ _ _ h => h) ?_ (by assumption) ?_; rotate_left; (focus (refine Or.inl ⟨by rfl, ?_⟩; intro wS hSw; (try dsimp only at hSw); go_simp; first | done | with_reducible rfl)); simp only [Act.put, List.setIfInBounds_toArray, List.set_cons_zero, List.set_cons_succ])
        refine wpAnyH_done (by kernel_rfl) ?_ _
        go_wp2_with fail
        go_ret
        exact ⟨by rw [hf.out]; rfl, (by repeat (first | (with_reducible exact Below.refl _ _) | (with_reducible refine Below.drew ?_) | (with_reducible refine below_drewN ?_ _) | ((with_reducible refine Below.alloc ?_ ?_ _); rotate_left; focus ((try simp) <;> omega)) | ((with_reducible refine Below.setCell ?_ ?_ _); rotate_left; focus ((try simp) <;> omega)) | ((with_reducible refine Below.trans ?_ (Below.mono (by assumption) ?_)); rotate_left; focus ((try simp) <;> omega))))⟩
      · have h3b : ¬ (32 : Int) < (x.l.length : Int) := by omega
        have hR0 : Hid (smpsErr 0 x.l = R) := Lib.hid (by rw [← hR]; exact (his_samps (h := x.h) hP hbh h3).symm)
        replace hR := Lib.hid hR
        replace hP := Lib.hid hP
        replace hx := Lib.hid hx
        replace hC := Lib.hid hC
        replace hy := Lib.hid hy
        replace hpn := Lib.hid hpn
        clear hr q
        go_enter Tryz.func30, Tryz.ntmps30
        go_wp2_with (go_at_call 54; go_must (refine (hip.out _).mono ?_; rintro e w1 ⟨rfl, hb1⟩; have hz1 := hb1.size; (try simp at hz1); have hg1 : g < w1.heap.size := (by omega); have hv1 : w.heap.size < w1.heap.size := (by omega); obtain ⟨hc1, hf1⟩ := blk_at hb1 g (by (try simp) <;> omega); obtain ⟨hd1, he1⟩ := blk_at hb1 w.heap.size (by (try simp) <;> omega)))
        refine wp_region_held_drew (S := fun w' => w'.cell? ⟨w.heap.size, 0, none⟩ = some (.string x.name.1) ∧ w'.cell? ⟨g, o + j * 2, none⟩ = some (.string y.name.1)) (by kernel_rfl) ?_ (fun hHeld => ?_)
        · first | (dsimp only; go_keep; done) | (go_keep; done) | (go_simp; done)
        rw [show (Array.replicate _ false : Array Bool) = #[false, false, false, false, false, false, false, false, false, false, false, false, false, false] from rfl]
        (refine wpAnyH_take (i := 0) (oi := Oper.mk _ _ _ _ _ _) (v := ?_) rfl (by kernel_rfl) (by kernel_rfl) (by kernel_rfl) (fun _ _ _ h => h) ?_ (by assumption) ?_; rotate_left; (focus (refine Or.inl ⟨by rfl, ?_⟩; intro wS hSw; (try dsimp only at hSw); go_simp; first | done | with_reducible rfl)); simp only [Act.put, List.setIfInBounds_toArray, List.set_cons_zero, List.set_cons_succ])
        (refine wpAnyH_take (i := 1) (oi := Oper.mk _ _ _ _ _ _) (v := ?_) rfl (by kernel_rfl) (by kernel_rfl) (by kernel_rfl) (fun _ _ _ h => h) ?_ (by assumption) ?_; rotate_left; (focus (refine Or.inl ⟨by rfl, ?_⟩; intro wS hSw; (try dsimp only at hSw); go_simp; first | done | with_reducible rfl)); simp only [Act.put, List.setIfInBounds_toArray, List.set_cons_zero, List.set_cons_succ])
        (refine wpAnyH_take (i := 2) (oi := Oper.mk _ _ _ _ _ _) (v := ?_) rfl (by kernel_rfl) (by kernel_rfl) (by kernel_rfl) (fun _ _ _ h => h) ?_ (by assumption) ?_; rotate_left; (focus (refine Or.inl ⟨by rfl, ?_⟩; intro wS hSw; (try dsimp only at hSw); go_simp; first | done | with_reducible rfl)); simp only [Act.put, List.setIfInBounds_toArray, List.set_cons_zero, List.set_cons_succ])
        (refine wpAnyH_take (i := 3) (oi := Oper.mk _ _ _ _ _ _) (v := ?_) rfl (by kernel_rfl) (by kernel_rfl) (by kernel_rfl) (fun _ _ _ h => h) ?_ (by assumption) ?_; rotate_left; (focus (refine Or.inl ⟨by rfl, ?_⟩; intro wS hSw; (try dsimp only at hSw); go_simp; first | done | with_reducible rfl)); simp only [Act.put, List.setIfInBounds_toArray, List.set_cons_zero, List.set_cons_succ])
        (refine wpAnyH_take (i := 4) (oi := Oper.mk _ _ _ _ _ _) (v := ?_) rfl (by kernel_rfl) (by kernel_rfl) (by kernel_rfl) (fun _ _ _ h => h) ?_ (by assumption) ?_; rotate_left; (focus (refine Or.inl ⟨by rfl, ?_⟩; intro wS hSw; (try dsimp only at hSw); go_simp; first | done | with_reducible rfl)); simp only [Act.put, List.setIfInBounds_toArray, List.set_cons_zero, List.set_cons_succ])
        (refine wpAnyH_take (i := 5) (oi := Oper.mk _ _ _ _ _ _) (v := ?_) rfl (by kernel_rfl) (by kernel_rfl) (by kernel_rfl) (fun _ _ _ h => h) ?_ (by assumption) ?_; rotate_left; (focus (refine Or.inl ⟨by rfl, ?_⟩; intro wS hSw; (try dsimp only at hSw); go_simp; first | done | with_reducible rfl)); simp only [Act.put, List.setIfInBounds_toArray, List.set_cons_zero, List.set_cons_succ])
        (refine wpAnyH_take (i := 6) (oi := Oper.mk _ _ _ _ _ _) (v := ?_) rfl (by kernel_rfl) (by kernel_rfl) (by kernel_rfl) (fun _ _ _ h => h) ?_ (by assumption) ?_; rotate_left; (focus (refine Or.inl ⟨by rfl, ?_⟩; intro wS hSw; (try dsimp only at hSw); go_simp; first | done | with_reducible rfl)); simp only [Act.put, List.setIfInBounds_toArray, List.set_cons_zero, List.set_cons_succ])
        (refine wpAnyH_take (i := 7) (oi := Oper.mk _ _ _ _ _ _) (v := ?_) rfl (by kernel_rfl) (by kernel_rfl) (by kernel_rfl) (fun _ _ _ h => h) ?_ (by assumption) ?_; rotate_left; (focus (refine Or.inl ⟨by rfl, ?_⟩; intro wS hSw; (try dsimp only at hSw); go_simp; first | done | with_reducible rfl)); simp only [Act.put, List.setIfInBounds_toArray, List.set_cons_zero, List.set_cons_succ])
        (refine wpAnyH_take (i := 8) (oi := Oper.mk _ _ _ _ _ _) (v := ?_) rfl (by kernel_rfl) (by kernel_rfl) (by kernel_rfl) (fun _ _ _ h => h) ?_ (by assumption) ?_; rotate_left; (focus (refine Or.inl ⟨by rfl, ?_⟩; intro wS hSw; (try dsimp only at hSw); go_simp; first | done | with_reducible rfl)); simp only [Act.put, List.setIfInBounds_toArray, List.set_cons_zero, List.set_cons_succ])
        (refine wpAnyH_take (i := 9) (oi := Oper.mk _ _ _ _ _ _) (v := ?_) rfl (by kernel_rfl) (by kernel_rfl) (by kernel_rfl) (fun _ _ _ h => h) ?_ (by assumption) ?_; rotate_left; (focus (refine Or.inl ⟨by rfl, ?_⟩; intro wS hSw; (try dsimp only at hSw); go_simp; first | done | with_reducible rfl)); simp only [Act.put, List.setIfInBounds_toArray, List.set_cons_zero, List.set_cons_succ])
        (refine wpAnyH_take (i := 10) (oi := Oper.mk _ _ _ _ _ _) (v := ?_) rfl (by kernel_rfl) (by kernel_rfl) (by kernel_rfl) (fun _ _ _ h => h) ?_ (by assumption) ?_; rotate_left; (focus (refine Or.inl ⟨by rfl, ?_⟩; intro wS hSw; (try dsimp only at hSw); go_simp; first | done | with_reducible rfl)); simp only [Act.put, List.setIfInBounds_toArray, List.set_cons_zero, List.set_cons_succ])
        (refine wpAnyH_ready (rs := [11]) (by kernel_rfl) (by simp) ?_
         refine AllReadyH.cons (o := Oper.mk _ _ _ _ _ _) rfl (fun K hK => ?_) AllReadyH.nil
         go_simp
         (go_at_call 55; go_must (refine (hcm.out _).mono ?_; rintro e w3 ⟨rfl, hb3⟩; have hz3 := hb3.size; (try simp at hz3); have hk3 : w.heap.size < w3.heap.size := (by omega); have hg3 : g < w3.heap.size := (by omega); obtain ⟨hc3, hf3⟩ := blk_at hb3 g (by (try simp) <;> omega); obtain ⟨hd3, he3⟩ := blk_at hb3 w.heap.size (by (try simp) <;> omega)))
         refine hK.out _ _ ?_ (fun hHeld => ?_)
         · first | (dsimp only; go_keep; done) | (go_keep; done)
         clear hK K
         (try simp only [List.setIfInBounds_toArray, List.set_cons_zero, List.set_cons_succ]))
        (refine wpAnyH_take (i := 12) (oi := Oper.mk _ _ _ _ _ _) (v := ?_) rfl (by kernel_rfl) (by kernel_rfl) (by kernel_rfl) (fun _ _ _ h => h) ?_ (by assumption) ?_; rotate_left; (focus (refine Or.inl ⟨by rfl, ?_⟩; intro wS hSw; (try dsimp only at hSw); go_simp; first | done | with_reducible rfl)); simp only [Act.put, List.setIfInBounds_toArray, List.set_cons_zero, List.set_cons_succ])
        (refine wpAnyH_take (i := 13) (oi := Oper.mk _ _ _ _ _ _) (v := ?_) rfl (by kernel_rfl) (by kernel_rfl) (by kernel_rfl) (fun _ _ _ h => h) ?_ (by assumption) ?_; rotate_left; (focus (refine Or.inl ⟨by rfl, ?_⟩; intro wS hSw; (try dsimp only at hSw); go_simp; first | done | with_reducible rfl)); simp only [Act.put, List.setIfInBounds_toArray, List.set_cons_zero, List.set_cons_succ])
        refine wpAnyH_done (by kernel_rfl) ?_ _
        go_wp2_with fail
        have b1X : (w3).cell? ⟨w.heap.size, 1, none⟩ = some (.slice x.lA x.l.length x.lC) := by go_simp
        have hBX : Below w.heap.size w w3 := (by repeat (first | (with_reducible exact Below.refl _ _) | (with_reducible refine Below.drew ?_) | (with_reducible refine below_drewN ?_ _) | ((with_reducible refine Below.alloc ?_ ?_ _); rotate_left; focus ((try simp) <;> omega)) | ((with_reducible refine Below.setCell ?_ ?_ _); rotate_left; focus ((try simp) <;> omega)) | ((with_reducible refine Below.trans ?_ (Below.mono (by assumption) ?_)); rotate_left; focus ((try simp) <;> omega))))
        have hzX : w.heap.size < (w3).heap.size := by (try simp) <;> omega
        go_loopw [6, 7] (fun vl vi wr => ∃ (m : Nat) (L : Int), m ≤ x.l.length ∧ vi = .int .i64 (m : Int) ∧ vl = .int .i64 L ∧ smpsErr L (x.l.drop m) = R ∧ Below (w3).heap.size w3 wr) (fun _ vi _ => x.l.length - (intOf vi).toNat)
        case atStart => exact ⟨0, 0, Nat.zero_le _, rfl, rfl, hR0.out, Below.refl _ _⟩
        case round =>
          obtain ⟨m, L, hm, rfl, rfl, ht, hbw⟩ := hrel
          have hz := hbw.size
          have bx : wr.cell? ⟨w.heap.size, 1, none⟩ = some (.slice x.lA x.l.length x.lC) := (hbw.cell (p := ⟨w.heap.size, 1, none⟩) hzX).trans b1X
          have hbr : Below w.heap.size w wr := hBX.trans (hbw.mono (by omega))
          have hwz : w.heap.size < wr.heap.size := by omega
          by_cases hml : m < x.l.length
          · obtain ⟨s, hs⟩ := get_some hml
            rw [smps_at hs] at ht
            obtain ⟨g2, o2, hA2, hg2, q⟩ := hlb.out.2.2 (by omega)
            rw [hA2] at bx
            have q0 : wr.cell? ⟨g2, o2 + m * 4, none⟩ = some (.int .u64 s.code.1) := (hbr.cell (p := ⟨g2, o2 + m * 4, none⟩) hg2).trans (q m s hs 0 (.int .u64 s.code.1) rfl)
            have q1 : wr.cell? ⟨g2, o2 + m * 4 + 1, none⟩ = some (.int .i64 s.status.1) := (hbr.cell (p := ⟨g2, o2 + m * 4 + 1, none⟩) hg2).trans (q m s hs 1 (.int .i64 s.status.1) rfl)
            have q2 : wr.cell? ⟨g2, o2 + m * 4 + 2, none⟩ = some (.int .i64 s.time.1) := (hbr.cell (p := ⟨g2, o2 + m * 4 + 2, none⟩) hg2).trans (q m s hs 2 (.int .i64 s.time.1) rfl)
            have q3 : wr.cell? ⟨g2, o2 + m * 4 + 3, none⟩ = some (.int .i64 s.stamp.1) := (hbr.cell (p := ⟨g2, o2 + m * 4 + 3, none⟩) hg2).trans (q m s hs 3 (.int .i64 s.stamp.1) rfl)
            clear q
            have hg2r : g2 < wr.heap.size := by omega
            have m0 : (0 : Int) ≤ (m : Int) := by omega
            have m1 : (m : Int) < (x.l.length : Int) := by omega
            obtain ⟨E, hE⟩ : ∃ E, smpErr s L = E := ⟨_, rfl⟩
            have hsm : Hid (∀ W, Calls Tryz.prog 56 #[.agg #[.int .u64 s.code.1, .int .i64 s.status.1, .int .i64 s.time.1, .int .i64 s.stamp.1], .int .i64 L] W fun e w' => e = .returned (.int .i64 E) ∧ Below W.heap.size W w') := Lib.hid fun W => by
              have h := rsample_any s L W
              rwa [hE] at h
            rw [hE] at ht
            replace hE := Lib.hid hE
            replace hs := Lib.hid hs
            replace hA2 := Lib.hid hA2
            by_cases h0 : E = 0
            · rw [if_pos h0] at ht
              subst h0
              replace ht := Lib.hid ht
              go_wp2_with (go_at_call 56; go_must (refine (hsm.out _).mono ?_; rintro e w4 ⟨rfl, hb4⟩; have hz4 := hb4.size; (try simp at hz4); have hk4 : w.heap.size < w4.heap.size := (by omega); obtain ⟨hd4, he4⟩ := blk_at hb4 w.heap.size (by (try simp) <;> omega); have hq4 : g2 < w4.heap.size := (by omega); obtain ⟨hm4, hn4⟩ := blk_at hb4 g2 (by (try simp) <;> omega)))
              go_roundw
              case rel => exact ⟨m + 1, s.stamp.1, by omega, by go_num, rfl, ht.out, hbw.trans (hb4.mono hbw.size)⟩
              case measure => simp [intOf]; omega
            · rw [if_neg h0] at ht
              have hf : Hid (R = E) := Lib.hid ht.symm
              have hEb : (E != 0) = true := by rw [bne_iff_ne]; exact h0
              clear ht
              replace h0 := Lib.hid h0
              go_wp2_with (go_at_call 56; go_must (refine (hsm.out _).mono ?_; rintro e w4 ⟨rfl, hb4⟩; have hz4 := hb4.size; (try simp at hz4); have hk4 : w.heap.size < w4.heap.size := (by omega); obtain ⟨hd4, he4⟩ := blk_at hb4 w.heap.size (by (try simp) <;> omega); have hq4 : g2 < w4.heap.size := (by omega); obtain ⟨hm4, hn4⟩ := blk_at hb4 g2 (by (try simp) <;> omega)))
              go_ret
              exact ⟨by rw [hf.out]; rfl, (by repeat (first | (with_reducible exact Below.refl _ _) | (with_reducible refine Below.drew ?_) | (with_reducible refine below_drewN ?_ _) | ((with_reducible refine Below.alloc ?_ ?_ _); rotate_left; focus ((try simp) <;> omega)) | ((with_reducible refine Below.setCell ?_ ?_ _); rotate_left; focus ((try simp) <;> omega)) | ((with_reducible refine Below.trans ?_ (Below.mono (by assumption) ?_)); rotate_left; focus ((try simp) <;> omega))))⟩
          · have m1 : ¬ (m : Int) < (x.l.length : Int) := by omega
            have hf : Hid (R = 0) := Lib.hid (by rw [← ht, smps_end hml])
            replace ht := Lib.hid ht
            go_wp2_with fail
            go_ret
            exact ⟨by rw [hf.out]; rfl, (by repeat (first | (with_reducible exact Below.refl _ _) | (with_reducible refine Below.drew ?_) | (with_reducible refine below_drewN ?_ _) | ((with_reducible refine Below.alloc ?_ ?_ _); rotate_left; focus ((try simp) <;> omega)) | ((with_reducible refine Below.setCell ?_ ?_ _); rotate_left; focus ((try simp) <;> omega)) | ((with_reducible refine Below.trans ?_ (Below.mono (by assumption) ?_)); rotate_left; focus ((try simp) <;> omega))))⟩
    · have hbh : behindB (some y.name) x.h.name = false := by show decide (cmpS y.name x.name < 0) = false; rw [hC]; exact decide_eq_false h2
      have h2b : decide (0 ≤ C) = true := decide_eq_true (by omega)
      have hf : Hid (R = 22) := Lib.hid (by rw [← hR]; exact his_order (h := x.h) hP hbh)
      replace hR := Lib.hid hR
      replace hP := Lib.hid hP
      replace hx := Lib.hid hx
      replace hC := Lib.hid hC
      replace hy := Lib.hid hy
      replace hpn := Lib.hid hpn
      clear hr q
      go_enter Tryz.func30, Tryz.ntmps30
      go_wp2_with (go_at_call 54; go_must (refine (hip.out _).mono ?_; rintro e w1 ⟨rfl, hb1⟩; have hz1 := hb1.size; (try simp at hz1); have hg1 : g < w1.heap.size := (by omega); have hv1 : w.heap.size < w1.heap.size := (by omega); obtain ⟨hc1, hf1⟩ := blk_at hb1 g (by (try simp) <;> omega); obtain ⟨hd1, he1⟩ := blk_at hb1 w.heap.size (by (try simp) <;> omega)))
      refine wp_region_held_drew (S := fun w' => w'.cell? ⟨w.heap.size, 0, none⟩ = some (.string x.name.1) ∧ w'.cell? ⟨g, o + j * 2, none⟩ = some (.string y.name.1)) (by kernel_rfl) ?_ (fun hHeld => ?_)
      · first | (dsimp only; go_keep; done) | (go_keep; done) | (go_simp; done)
      rw [show (Array.replicate _ false : Array Bool) = #[false, false, false, false, false, false, false, false, false, false, false, false, false, false] from rfl]
      (refine wpAnyH_take (i := 0) (oi := Oper.mk _ _ _ _ _ _) (v := ?_) rfl (by kernel_rfl) (by kernel_rfl) (by kernel_rfl) (fun _ _ _ h => h) ?_ (by assumption) ?_; rotate_left; (focus (refine Or.inl ⟨by rfl, ?_⟩; intro wS hSw; (try dsimp only at hSw); go_simp; first | done | with_reducible rfl)); simp only [Act.put, List.setIfInBounds_toArray, List.set_cons_zero, List.set_cons_succ])
      (refine wpAnyH_take (i := 1) (oi := Oper.mk _ _ _ _ _ _) (v := ?_) rfl (by kernel_rfl) (by kernel_rfl) (by kernel_rfl) (fun _ _ _ h => h) ?_ (by assumption) ?_; rotate_left; (focus (refine Or.inl ⟨by rfl, ?_⟩; intro wS hSw; (try dsimp only at hSw); go_simp; first | done | with_reducible rfl)); simp only [Act.put, List.setIfInBounds_toArray, List.set_cons_zero, List.set_cons_succ])
      (refine wpAnyH_take (i := 2) (oi := Oper.mk _ _ _ _ _ _) (v := ?_) rfl (by kernel_rfl) (by kernel_rfl) (by kernel_rfl) (fun _ _ _ h => h) ?_ (by assumption) ?_; rotate_left; (focus (refine Or.inl ⟨by rfl, ?_⟩; intro wS hSw; (try dsimp only at hSw); go_simp; first | done | with_reducible rfl)); simp only [Act.put, List.setIfInBounds_toArray, List.set_cons_zero, List.set_cons_succ])
      (refine wpAnyH_take (i := 3) (oi := Oper.mk _ _ _ _ _ _) (v := ?_) rfl (by kernel_rfl) (by kernel_rfl) (by kernel_rfl) (fun _ _ _ h => h) ?_ (by assumption) ?_; rotate_left; (focus (refine Or.inl ⟨by rfl, ?_⟩; intro wS hSw; (try dsimp only at hSw); go_simp; first | done | with_reducible rfl)); simp only [Act.put, List.setIfInBounds_toArray, List.set_cons_zero, List.set_cons_succ])
      (refine wpAnyH_take (i := 4) (oi := Oper.mk _ _ _ _ _ _) (v := ?_) rfl (by kernel_rfl) (by kernel_rfl) (by kernel_rfl) (fun _ _ _ h => h) ?_ (by assumption) ?_; rotate_left; (focus (refine Or.inl ⟨by rfl, ?_⟩; intro wS hSw; (try dsimp only at hSw); go_simp; first | done | with_reducible rfl)); simp only [Act.put, List.setIfInBounds_toArray, List.set_cons_zero, List.set_cons_succ])
      (refine wpAnyH_take (i := 5) (oi := Oper.mk _ _ _ _ _ _) (v := ?_) rfl (by kernel_rfl) (by kernel_rfl) (by kernel_rfl) (fun _ _ _ h => h) ?_ (by assumption) ?_; rotate_left; (focus (refine Or.inl ⟨by rfl, ?_⟩; intro wS hSw; (try dsimp only at hSw); go_simp; first | done | with_reducible rfl)); simp only [Act.put, List.setIfInBounds_toArray, List.set_cons_zero, List.set_cons_succ])
      (refine wpAnyH_take (i := 6) (oi := Oper.mk _ _ _ _ _ _) (v := ?_) rfl (by kernel_rfl) (by kernel_rfl) (by kernel_rfl) (fun _ _ _ h => h) ?_ (by assumption) ?_; rotate_left; (focus (refine Or.inl ⟨by rfl, ?_⟩; intro wS hSw; (try dsimp only at hSw); go_simp; first | done | with_reducible rfl)); simp only [Act.put, List.setIfInBounds_toArray, List.set_cons_zero, List.set_cons_succ])
      (refine wpAnyH_take (i := 7) (oi := Oper.mk _ _ _ _ _ _) (v := ?_) rfl (by kernel_rfl) (by kernel_rfl) (by kernel_rfl) (fun _ _ _ h => h) ?_ (by assumption) ?_; rotate_left; (focus (refine Or.inl ⟨by rfl, ?_⟩; intro wS hSw; (try dsimp only at hSw); go_simp; first | done | with_reducible rfl)); simp only [Act.put, List.setIfInBounds_toArray, List.set_cons_zero, List.set_cons_succ])
      (refine wpAnyH_take (i := 8) (oi := Oper.mk _ _ _ _ _ _) (v := ?_) rfl (by kernel_rfl) (by kernel_rfl) (by kernel_rfl) (fun _ _ _ h => h) ?_ (by assumption) ?_; rotate_left; (focus (refine Or.inl ⟨by rfl, ?_⟩; intro wS hSw; (try dsimp only at hSw); go_simp; first | done | with_reducible rfl)); simp only [Act.put, List.setIfInBounds_toArray, List.set_cons_zero, List.set_cons_succ])
      (refine wpAnyH_take (i := 9) (oi := Oper.mk _ _ _ _ _ _) (v := ?_) rfl (by kernel_rfl) (by kernel_rfl) (by kernel_rfl) (fun _ _ _ h => h) ?_ (by assumption) ?_; rotate_left; (focus (refine Or.inl ⟨by rfl, ?_⟩; intro wS hSw; (try dsimp only at hSw); go_simp; first | done | with_reducible rfl)); simp only [Act.put, List.setIfInBounds_toArray, List.set_cons_zero, List.set_cons_succ])
      (refine wpAnyH_take (i := 10) (oi := Oper.mk _ _ _ _ _ _) (v := ?_) rfl (by kernel_rfl) (by kernel_rfl) (by kernel_rfl) (fun _ _ _ h => h) ?_ (by assumption) ?_; rotate_left; (focus (refine Or.inl ⟨by rfl, ?_⟩; intro wS hSw; (try dsimp only at hSw); go_simp; first | done | with_reducible rfl)); simp only [Act.put, List.setIfInBounds_toArray, List.set_cons_zero, List.set_cons_succ])
      (refine wpAnyH_ready (rs := [11]) (by kernel_rfl) (by simp) ?_
       refine AllReadyH.cons (o := Oper.mk _ _ _ _ _ _) rfl (fun K hK => ?_) AllReadyH.nil
       go_simp
       (go_at_call 55; go_must (refine (hcm.out _).mono ?_; rintro e w3 ⟨rfl, hb3⟩; have hz3 := hb3.size; (try simp at hz3); have hk3 : w.heap.size < w3.heap.size := (by omega); have hg3 : g < w3.heap.size := (by omega); obtain ⟨hc3, hf3⟩ := blk_at hb3 g (by (try simp) <;> omega); obtain ⟨hd3, he3⟩ := blk_at hb3 w.heap.size (by (try simp) <;> omega)))
       refine hK.out _ _ ?_ (fun hHeld => ?_)
       · first | (dsimp only; go_keep; done) | (go_keep; done)
       clear hK K
       (try simp only [List.setIfInBounds_toArray, List.set_cons_zero, List.set_cons_succ]))
      (refine wpAnyH_take (i := 12) (oi := Oper.mk _ _ _ _ _ _) (v := ?_) rfl (by kernel_rfl) (by kernel_rfl) (by kernel_rfl) (fun _ _ _ h => h) ?_ (by assumption) ?_; rotate_left; (focus (refine Or.inl ⟨by rfl, ?_⟩; intro wS hSw; (try dsimp only at hSw); go_simp; first | done | with_reducible rfl)); simp only [Act.put, List.setIfInBounds_toArray, List.set_cons_zero, List.set_cons_succ])
      (refine wpAnyH_take (i := 13) (oi := Oper.mk _ _ _ _ _ _) (v := ?_) rfl (by kernel_rfl) (by kernel_rfl) (by kernel_rfl) (fun _ _ _ h => h) ?_ (by assumption) ?_; rotate_left; (focus (refine Or.inl ⟨by rfl, ?_⟩; intro wS hSw; (try dsimp only at hSw); go_simp; first | done | with_reducible rfl)); simp only [Act.put, List.setIfInBounds_toArray, List.set_cons_zero, List.set_cons_succ])
      refine wpAnyH_done (by kernel_rfl) ?_ _
      go_wp2_with fail
      go_ret
      exact ⟨by rw [hf.out]; rfl, (by repeat (first | (with_reducible exact Below.refl _ _) | (with_reducible refine Below.drew ?_) | (with_reducible refine below_drewN ?_ _) | ((with_reducible refine Below.alloc ?_ ?_ _); rotate_left; focus ((try simp) <;> omega)) | ((with_reducible refine Below.setCell ?_ ?_ _); rotate_left; focus ((try simp) <;> omega)) | ((with_reducible refine Below.trans ?_ (Below.mono (by assumption) ?_)); rotate_left; focus ((try simp) <;> omega))))⟩
end Go.Proofs.YtddepmelnemniaaGreatDoor
