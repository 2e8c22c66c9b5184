/-
  The walks of histories: whether results are valid, by the reference.
-/
import Derived.Test.YtddepmelnemniaaGreatDoorHis16



namespace Go.Proofs.YtddepmelnemniaaGreatDoor
open Go.RowKit

set_option maxRecDepth 100000 in
set_option maxHeartbeats 8000000 in
theorem rrepv_any (A : Option Addr) (c : Nat) (l : List Res) (w : World) (hr : Rw resE 3 w w.heap.size A l) (hlc : l.length ≤ c) (_hn : c ≤ 9223372036854775807) (hs : ∀ x ∈ l, x.name.1.size < 4294967281) :
    Calls Tryz.prog 36 #[.slice A l.length c] w fun e w' => e = .returned (.int .i64 (repErr l)) ∧ Below w.heap.size w w' := by
  obtain ⟨R, hR⟩ : ∃ R, repErr l = R := ⟨_, rfl⟩
  rw [hR]
  by_cases hl : 4096 < l.length
  · have hf : Hid (R = 15) := Lib.hid (by rw [← hR]; unfold repErr; rw [if_pos hl])
    have hlz : (4096 : Int) < (l.length : Int) := by omega
    replace hR := Lib.hid hR
    clear hr
    go_enter Tryz.func36, Tryz.ntmps36
    go_wp2_with fail
    go_ret
    exact ⟨by rw [hf.out]; rfl, (by repeat (first | (with_reducible exact Below.refl _ _) | (with_reducible refine Below.drew ?_) | (with_reducible refine below_drewN ?_ _) | ((with_reducible refine Below.alloc ?_ ?_ _); rotate_left; focus ((try simp) <;> omega)) | ((with_reducible refine Below.setCell ?_ ?_ _); rotate_left; focus ((try simp) <;> omega)) | ((with_reducible refine Below.trans ?_ (Below.mono (by assumption) ?_)); rotate_left; focus ((try simp) <;> omega))))⟩
  have hR0 : Hid (ressErr [] l = R) := Lib.hid (by rw [← hR]; unfold repErr; rw [if_neg hl])
  have hlz : ¬ (4096 : Int) < (l.length : Int) := by omega
  replace hR := Lib.hid hR
  replace hr := Lib.hid hr
  replace hs := Lib.hid hs
  go_enter Tryz.func36, Tryz.ntmps36
  go_wp2_with fail
  go_loopw [3] (fun vi wr => ∃ k : Nat, k ≤ l.length ∧ vi = .int .i64 (k : Int) ∧ ressErr ((l.take k).map Res.name) (l.drop k) = R ∧ Below w.heap.size w wr) (fun vi _ => l.length - (intOf vi).toNat)
  case atStart => exact ⟨0, Nat.zero_le _, rfl, hR0.out, Below.refl _ _⟩
  case round =>
    obtain ⟨k, hk, rfl, ht, hbw⟩ := hrel
    have hz := hbw.size
    by_cases hkl : k < l.length
    · obtain ⟨x, hx⟩ := get_some hkl
      rw [ress_at hx] at ht
      have hns : (l.take (k + 1)).map Res.name = (l.take k).map Res.name ++ [x.name] := by rw [List.take_add_one, hx, List.map_append]; rfl
      have hha0 : ∀ W, Below w.heap.size w W → Calls Tryz.prog 17 #[.slice A k c, .string x.name.1] W fun e w' => e = .returned (.bool (hasS ((l.take k).map Res.name) x.name)) ∧ W = w' := fun W hb => by
        have h := rhasn_any A c (l.take k) x.name W (((hr.out.below hb (Nat.le_refl _)).more hb.size).take) (by rw [List.length_take]; omega)
        rwa [List.length_take, Nat.min_eq_left hk] at h
      obtain ⟨g, o, rfl, hg, hq⟩ := hr.out (by omega)
      have q := fun j u hu => (hbw.cell (p := ⟨g, o + k * 3 + j, none⟩) hg).trans (hq k x hx j u hu)
      have q0 := q 0 (.string x.name.1) rfl
      rw [Nat.add_zero] at q0
      have q1 := q 1 (.int .i64 x.status.1) rfl
      have q2 := q 2 (.int .i64 x.time.1) rfl
      clear q hq
      have hgr : g < wr.heap.size := by omega
      have i0 : (0 : Int) ≤ (k : Int) := by omega
      have i1 : (k : Int) < (l.length : Int) := by omega
      have i2 : (k : Int) ≤ (c : Int) := by omega
      have hxs := hs.out x (List.mem_of_getElem? hx)
      obtain ⟨P, hP⟩ : ∃ P, pathB x.name = P := ⟨_, rfl⟩
      have hip : Hid (∀ W, Calls Tryz.prog 54 #[.string x.name.1] W fun e w' => e = .returned (.bool P) ∧ Below W.heap.size W w') := Lib.hid fun W => by
        have h := rispath_any x.name W hxs
        rwa [hP] at h
      obtain ⟨S, hS⟩ : ∃ S, hasS ((l.take k).map Res.name) x.name = S := ⟨_, rfl⟩
      rw [hS] at hha0
      have hha := Lib.hid hha0
      clear hha0
      obtain ⟨B, hB⟩ : ∃ B, wordB x.status.1 = B := ⟨_, rfl⟩
      have hwn := word_none (n := x.status.1)
      have hwd : Hid (∀ W, Calls Tryz.prog 62 #[.int .i64 x.status.1] W fun e w' => e = .returned (.string B) ∧ W = w') := Lib.hid fun W => by
        have h := rword_any x.status.1 W
        rwa [hB] at h
      rw [hB] at hwn
      replace hB := Lib.hid hB
      replace hwn := Lib.hid hwn
      rcases P with _ | _
      · have hf : Hid (R = 1) := Lib.hid (by rw [res_1 (.inl hP)] at ht; exact ht.symm)
        replace hx := Lib.hid hx
        replace hP := Lib.hid hP
        replace hS := Lib.hid hS
        replace ht := Lib.hid ht
        replace hns := Lib.hid hns
        go_wp2_with (go_at_call 54; go_must (refine (hip.out _).mono ?_; rintro e w1 ⟨rfl, hb1⟩; have hz1 := hb1.size; (try simp at hz1); have hg1 : g < w1.heap.size := (by omega); obtain ⟨hc1, hf1⟩ := blk_at hb1 g (by (try simp) <;> omega)))
        go_ret
        exact ⟨by rw [hf.out]; rfl, (by repeat (first | (with_reducible exact Below.refl _ _) | (with_reducible refine Below.drew ?_) | (with_reducible refine below_drewN ?_ _) | ((with_reducible refine Below.alloc ?_ ?_ _); rotate_left; focus ((try simp) <;> omega)) | ((with_reducible refine Below.setCell ?_ ?_ _); rotate_left; focus ((try simp) <;> omega)) | ((with_reducible refine Below.trans ?_ (Below.mono (by assumption) ?_)); rotate_left; focus ((try simp) <;> omega))))⟩
      by_cases h1 : x.status.1 < 1 ∨ 3 < x.status.1
      · have hf : Hid (R = 1) := Lib.hid (by rw [res_1 (.inr h1)] at ht; exact ht.symm)
        have hwb : B.toList.isEmpty = true := hwn.out.2 h1
        have hwe : B.toList = [] := List.isEmpty_iff.1 hwb
        replace hx := Lib.hid hx
        replace hP := Lib.hid hP
        replace hS := Lib.hid hS
        replace ht := Lib.hid ht
        replace hns := Lib.hid hns
        replace h1 := Lib.hid h1
        go_wp2_with (first
          | (go_at_call 54; go_must (refine (hip.out _).mono ?_; rintro e w1 ⟨rfl, hb1⟩; have hz1 := hb1.size; (try simp at hz1); have hg1 : g < w1.heap.size := (by omega); obtain ⟨hc1, hf1⟩ := blk_at hb1 g (by (try simp) <;> omega)))
          | (go_at_call 62; go_must (refine (hwd.out _).mono ?_; rintro e w2 ⟨rfl, rfl⟩)))
        go_ret
        exact ⟨by rw [hf.out]; rfl, (by repeat (first | (with_reducible exact Below.refl _ _) | (with_reducible refine Below.drew ?_) | (with_reducible refine below_drewN ?_ _) | ((with_reducible refine Below.alloc ?_ ?_ _); rotate_left; focus ((try simp) <;> omega)) | ((with_reducible refine Below.setCell ?_ ?_ _); rotate_left; focus ((try simp) <;> omega)) | ((with_reducible refine Below.trans ?_ (Below.mono (by assumption) ?_)); rotate_left; focus ((try simp) <;> omega))))⟩
      have hwb : B.toList.isEmpty = false := by rw [Bool.eq_false_iff]; exact fun e => h1 (hwn.out.1 e)
      have hwe : ¬ B.toList = [] := fun e => by rw [e] at hwb; cases hwb
      have h12 : Hid (¬ (pathB x.name = false ∨ x.status.1 < 1 ∨ 3 < x.status.1)) := Lib.hid (by rw [hP]; simp; omega)
      replace h1 := Lib.hid h1
      by_cases h3 : x.time.1 < 0
      · have hf : Hid (R = 2) := Lib.hid (by rw [res_2 h12.out (timeB_no (.inl h3))] at ht; exact ht.symm)
        replace hx := Lib.hid hx
        replace hP := Lib.hid hP
        replace hS := Lib.hid hS
        replace ht := Lib.hid ht
        replace hns := Lib.hid hns
        go_wp2_with (first
          | (go_at_call 54; go_must (refine (hip.out _).mono ?_; rintro e w1 ⟨rfl, hb1⟩; have hz1 := hb1.size; (try simp at hz1); have hg1 : g < w1.heap.size := (by omega); obtain ⟨hc1, hf1⟩ := blk_at hb1 g (by (try simp) <;> omega)))
          | (go_at_call 62; go_must (refine (hwd.out _).mono ?_; rintro e w2 ⟨rfl, rfl⟩)))
        go_ret
        exact ⟨by rw [hf.out]; rfl, (by repeat (first | (with_reducible exact Below.refl _ _) | (with_reducible refine Below.drew ?_) | (with_reducible refine below_drewN ?_ _) | ((with_reducible refine Below.alloc ?_ ?_ _); rotate_left; focus ((try simp) <;> omega)) | ((with_reducible refine Below.setCell ?_ ?_ _); rotate_left; focus ((try simp) <;> omega)) | ((with_reducible refine Below.trans ?_ (Below.mono (by assumption) ?_)); rotate_left; focus ((try simp) <;> omega))))⟩
      by_cases h4 : 1125899906842624 < x.time.1
      · have hf : Hid (R = 2) := Lib.hid (by rw [res_2 h12.out (timeB_no (.inr h4))] at ht; exact ht.symm)
        replace hx := Lib.hid hx
        replace hP := Lib.hid hP
        replace hS := Lib.hid hS
        replace ht := Lib.hid ht
        replace hns := Lib.hid hns
        go_wp2_with (first
          | (go_at_call 54; go_must (refine (hip.out _).mono ?_; rintro e w1 ⟨rfl, hb1⟩; have hz1 := hb1.size; (try simp at hz1); have hg1 : g < w1.heap.size := (by omega); obtain ⟨hc1, hf1⟩ := blk_at hb1 g (by (try simp) <;> omega)))
          | (go_at_call 62; go_must (refine (hwd.out _).mono ?_; rintro e w2 ⟨rfl, rfl⟩)))
        go_ret
        exact ⟨by rw [hf.out]; rfl, (by repeat (first | (with_reducible exact Below.refl _ _) | (with_reducible refine Below.drew ?_) | (with_reducible refine below_drewN ?_ _) | ((with_reducible refine Below.alloc ?_ ?_ _); rotate_left; focus ((try simp) <;> omega)) | ((with_reducible refine Below.setCell ?_ ?_ _); rotate_left; focus ((try simp) <;> omega)) | ((with_reducible refine Below.trans ?_ (Below.mono (by assumption) ?_)); rotate_left; focus ((try simp) <;> omega))))⟩
      have htb : timeB x.time.1 = true := timeB_iff.2 (by omega)
      rcases S with _ | _
      · have hn2 : Hid (ressErr ((l.take (k + 1)).map Res.name) (l.drop (k + 1)) = R) := Lib.hid (by rw [hns]; rw [res_0 h12.out htb hS, if_pos rfl] at ht; exact ht)
        replace hx := Lib.hid hx
        replace hP := Lib.hid hP
        replace hS := Lib.hid hS
        replace ht := Lib.hid ht
        replace hns := Lib.hid hns
        replace htb := Lib.hid htb
        go_wp2_with (first
          | (go_at_call 54; go_must (refine (hip.out _).mono ?_; rintro e w1 ⟨rfl, hb1⟩; have hz1 := hb1.size; (try simp at hz1); have hg1 : g < w1.heap.size := (by omega); obtain ⟨hc1, hf1⟩ := blk_at hb1 g (by (try simp) <;> omega)))
          | (go_at_call 62; go_must (refine (hwd.out _).mono ?_; rintro e w2 ⟨rfl, rfl⟩)))
        refine wp_region_held_drew (S := fun w' => w'.cell? ⟨g, o + k * 3, none⟩ = some (.string x.name.1)) (by kernel_rfl) ?_ (fun hHeld => ?_)
        · first | (dsimp only; go_keep; done) | (go_keep; done) | (go_simp; done)
        rw [show (Array.replicate _ false : Array Bool) = #[false, false, false, false, false, false, false, false, false] from rfl]
        (refine wpAnyH_take (i := 0) (oi := Oper.mk _ _ _ _ _ _) (v := ?_) rfl (by kernel_rfl) (by kernel_rfl) (by kernel_rfl) (fun _ _ _ h => h) ?_ (by assumption) ?_; rotate_left; (focus (refine Or.inl ⟨by rfl, ?_⟩; intro wS hSw; (try dsimp only at hSw); go_simp; first | done | with_reducible rfl)); simp only [Act.put, List.setIfInBounds_toArray, List.set_cons_zero, List.set_cons_succ])
        (refine wpAnyH_take (i := 1) (oi := Oper.mk _ _ _ _ _ _) (v := ?_) rfl (by kernel_rfl) (by kernel_rfl) (by kernel_rfl) (fun _ _ _ h => h) ?_ (by assumption) ?_; rotate_left; (focus (refine Or.inl ⟨by rfl, ?_⟩; intro wS hSw; (try dsimp only at hSw); go_simp; first | done | with_reducible rfl)); simp only [Act.put, List.setIfInBounds_toArray, List.set_cons_zero, List.set_cons_succ])
        (refine wpAnyH_take (i := 2) (oi := Oper.mk _ _ _ _ _ _) (v := ?_) rfl (by kernel_rfl) (by kernel_rfl) (by kernel_rfl) (fun _ _ _ h => h) ?_ (by assumption) ?_; rotate_left; (focus (refine Or.inl ⟨by rfl, ?_⟩; intro wS hSw; (try dsimp only at hSw); go_simp; first | done | with_reducible rfl)); simp only [Act.put, List.setIfInBounds_toArray, List.set_cons_zero, List.set_cons_succ])
        (refine wpAnyH_take (i := 3) (oi := Oper.mk _ _ _ _ _ _) (v := ?_) rfl (by kernel_rfl) (by kernel_rfl) (by kernel_rfl) (fun _ _ _ h => h) ?_ (by assumption) ?_; rotate_left; (focus (refine Or.inl ⟨by rfl, ?_⟩; intro wS hSw; (try dsimp only at hSw); go_simp; first | done | with_reducible rfl)); simp only [Act.put, List.setIfInBounds_toArray, List.set_cons_zero, List.set_cons_succ])
        (refine wpAnyH_take (i := 4) (oi := Oper.mk _ _ _ _ _ _) (v := ?_) rfl (by kernel_rfl) (by kernel_rfl) (by kernel_rfl) (fun _ _ _ h => h) ?_ (by assumption) ?_; rotate_left; (focus (refine Or.inl ⟨by rfl, ?_⟩; intro wS hSw; (try dsimp only at hSw); go_simp; first | done | with_reducible rfl)); simp only [Act.put, List.setIfInBounds_toArray, List.set_cons_zero, List.set_cons_succ])
        (refine wpAnyH_take (i := 5) (oi := Oper.mk _ _ _ _ _ _) (v := ?_) rfl (by kernel_rfl) (by kernel_rfl) (by kernel_rfl) (fun _ _ _ h => h) ?_ (by assumption) ?_; rotate_left; (focus (refine Or.inl ⟨by rfl, ?_⟩; intro wS hSw; (try dsimp only at hSw); go_simp; first | done | with_reducible rfl)); simp only [Act.put, List.setIfInBounds_toArray, List.set_cons_zero, List.set_cons_succ])
        (refine wpAnyH_take (i := 6) (oi := Oper.mk _ _ _ _ _ _) (v := ?_) rfl (by kernel_rfl) (by kernel_rfl) (by kernel_rfl) (fun _ _ _ h => h) ?_ (by assumption) ?_; rotate_left; (focus (refine Or.inl ⟨by rfl, ?_⟩; intro wS hSw; (try dsimp only at hSw); go_simp; first | done | with_reducible rfl)); simp only [Act.put, List.setIfInBounds_toArray, List.set_cons_zero, List.set_cons_succ])
        (refine wpAnyH_take (i := 7) (oi := Oper.mk _ _ _ _ _ _) (v := ?_) rfl (by kernel_rfl) (by kernel_rfl) (by kernel_rfl) (fun _ _ _ h => h) ?_ (by assumption) ?_; rotate_left; (focus (refine Or.inl ⟨by rfl, ?_⟩; intro wS hSw; (try dsimp only at hSw); go_simp; first | done | with_reducible rfl)); simp only [Act.put, List.setIfInBounds_toArray, List.set_cons_zero, List.set_cons_succ])
        (refine wpAnyH_ready (rs := [8]) (by kernel_rfl) (by simp) ?_
         refine AllReadyH.cons (o := Oper.mk _ _ _ _ _ _) rfl (fun K hK => ?_) AllReadyH.nil
         go_simp
         (go_at_call 17; go_must (refine (hha.out _ (by repeat (first | (with_reducible exact Below.refl _ _) | (with_reducible refine Below.drew ?_) | (with_reducible refine below_drewN ?_ _) | ((with_reducible refine Below.alloc ?_ ?_ _); rotate_left; focus ((try simp) <;> omega)) | ((with_reducible refine Below.setCell ?_ ?_ _); rotate_left; focus ((try simp) <;> omega)) | ((with_reducible refine Below.trans ?_ (Below.mono (by assumption) ?_)); rotate_left; focus ((try simp) <;> omega))))).mono ?_; rintro e w3 ⟨rfl, rfl⟩))
         refine hK.out _ _ ?_ (fun hHeld => ?_)
         · first | (dsimp only; go_keep; done) | (go_keep; done)
         clear hK K
         (try simp only [List.setIfInBounds_toArray, List.set_cons_zero, List.set_cons_succ]))
        refine wpAnyH_done (by kernel_rfl) ?_ _
        go_wp2_with fail
        go_roundw
        case rel => exact ⟨k + 1, hkl, by go_num, hn2.out, (by repeat (first | (with_reducible exact Below.refl _ _) | (with_reducible refine Below.drew ?_) | (with_reducible refine below_drewN ?_ _) | ((with_reducible refine Below.alloc ?_ ?_ _); rotate_left; focus ((try simp) <;> omega)) | ((with_reducible refine Below.setCell ?_ ?_ _); rotate_left; focus ((try simp) <;> omega)) | ((with_reducible refine Below.trans ?_ (Below.mono (by assumption) ?_)); rotate_left; focus ((try simp) <;> omega))))⟩
        case measure => simp [intOf]; omega
      · have hf : Hid (R = 7) := Lib.hid (by rw [res_7 h12.out htb hS] at ht; exact ht.symm)
        replace hx := Lib.hid hx
        replace hP := Lib.hid hP
        replace hS := Lib.hid hS
        replace ht := Lib.hid ht
        replace hns := Lib.hid hns
        replace htb := Lib.hid htb
        go_wp2_with (first
          | (go_at_call 54; go_must (refine (hip.out _).mono ?_; rintro e w1 ⟨rfl, hb1⟩; have hz1 := hb1.size; (try simp at hz1); have hg1 : g < w1.heap.size := (by omega); obtain ⟨hc1, hf1⟩ := blk_at hb1 g (by (try simp) <;> omega)))
          | (go_at_call 62; go_must (refine (hwd.out _).mono ?_; rintro e w2 ⟨rfl, rfl⟩)))
        refine wp_region_held_drew (S := fun w' => w'.cell? ⟨g, o + k * 3, none⟩ = some (.string x.name.1)) (by kernel_rfl) ?_ (fun hHeld => ?_)
        · first | (dsimp only; go_keep; done) | (go_keep; done) | (go_simp; done)
        rw [show (Array.replicate _ false : Array Bool) = #[false, false, false, false, false, false, false, false, false] from rfl]
        (refine wpAnyH_take (i := 0) (oi := Oper.mk _ _ _ _ _ _) (v := ?_) rfl (by kernel_rfl) (by kernel_rfl) (by kernel_rfl) (fun _ _ _ h => h) ?_ (by assumption) ?_; rotate_left; (focus (refine Or.inl ⟨by rfl, ?_⟩; intro wS hSw; (try dsimp only at hSw); go_simp; first | done | with_reducible rfl)); simp only [Act.put, List.setIfInBounds_toArray, List.set_cons_zero, List.set_cons_succ])
        (refine wpAnyH_take (i := 1) (oi := Oper.mk _ _ _ _ _ _) (v := ?_) rfl (by kernel_rfl) (by kernel_rfl) (by kernel_rfl) (fun _ _ _ h => h) ?_ (by assumption) ?_; rotate_left; (focus (refine Or.inl ⟨by rfl, ?_⟩; intro wS hSw; (try dsimp only at hSw); go_simp; first | done | with_reducible rfl)); simp only [Act.put, List.setIfInBounds_toArray, List.set_cons_zero, List.set_cons_succ])
        (refine wpAnyH_take (i := 2) (oi := Oper.mk _ _ _ _ _ _) (v := ?_) rfl (by kernel_rfl) (by kernel_rfl) (by kernel_rfl) (fun _ _ _ h => h) ?_ (by assumption) ?_; rotate_left; (focus (refine Or.inl ⟨by rfl, ?_⟩; intro wS hSw; (try dsimp only at hSw); go_simp; first | done | with_reducible rfl)); simp only [Act.put, List.setIfInBounds_toArray, List.set_cons_zero, List.set_cons_succ])
        (refine wpAnyH_take (i := 3) (oi := Oper.mk _ _ _ _ _ _) (v := ?_) rfl (by kernel_rfl) (by kernel_rfl) (by kernel_rfl) (fun _ _ _ h => h) ?_ (by assumption) ?_; rotate_left; (focus (refine Or.inl ⟨by rfl, ?_⟩; intro wS hSw; (try dsimp only at hSw); go_simp; first | done | with_reducible rfl)); simp only [Act.put, List.setIfInBounds_toArray, List.set_cons_zero, List.set_cons_succ])
        (refine wpAnyH_take (i := 4) (oi := Oper.mk _ _ _ _ _ _) (v := ?_) rfl (by kernel_rfl) (by kernel_rfl) (by kernel_rfl) (fun _ _ _ h => h) ?_ (by assumption) ?_; rotate_left; (focus (refine Or.inl ⟨by rfl, ?_⟩; intro wS hSw; (try dsimp only at hSw); go_simp; first | done | with_reducible rfl)); simp only [Act.put, List.setIfInBounds_toArray, List.set_cons_zero, List.set_cons_succ])
        (refine wpAnyH_take (i := 5) (oi := Oper.mk _ _ _ _ _ _) (v := ?_) rfl (by kernel_rfl) (by kernel_rfl) (by kernel_rfl) (fun _ _ _ h => h) ?_ (by assumption) ?_; rotate_left; (focus (refine Or.inl ⟨by rfl, ?_⟩; intro wS hSw; (try dsimp only at hSw); go_simp; first | done | with_reducible rfl)); simp only [Act.put, List.setIfInBounds_toArray, List.set_cons_zero, List.set_cons_succ])
        (refine wpAnyH_take (i := 6) (oi := Oper.mk _ _ _ _ _ _) (v := ?_) rfl (by kernel_rfl) (by kernel_rfl) (by kernel_rfl) (fun _ _ _ h => h) ?_ (by assumption) ?_; rotate_left; (focus (refine Or.inl ⟨by rfl, ?_⟩; intro wS hSw; (try dsimp only at hSw); go_simp; first | done | with_reducible rfl)); simp only [Act.put, List.setIfInBounds_toArray, List.set_cons_zero, List.set_cons_succ])
        (refine wpAnyH_take (i := 7) (oi := Oper.mk _ _ _ _ _ _) (v := ?_) rfl (by kernel_rfl) (by kernel_rfl) (by kernel_rfl) (fun _ _ _ h => h) ?_ (by assumption) ?_; rotate_left; (focus (refine Or.inl ⟨by rfl, ?_⟩; intro wS hSw; (try dsimp only at hSw); go_simp; first | done | with_reducible rfl)); simp only [Act.put, List.setIfInBounds_toArray, List.set_cons_zero, List.set_cons_succ])
        (refine wpAnyH_ready (rs := [8]) (by kernel_rfl) (by simp) ?_
         refine AllReadyH.cons (o := Oper.mk _ _ _ _ _ _) rfl (fun K hK => ?_) AllReadyH.nil
         go_simp
         (go_at_call 17; go_must (refine (hha.out _ (by repeat (first | (with_reducible exact Below.refl _ _) | (with_reducible refine Below.drew ?_) | (with_reducible refine below_drewN ?_ _) | ((with_reducible refine Below.alloc ?_ ?_ _); rotate_left; focus ((try simp) <;> omega)) | ((with_reducible refine Below.setCell ?_ ?_ _); rotate_left; focus ((try simp) <;> omega)) | ((with_reducible refine Below.trans ?_ (Below.mono (by assumption) ?_)); rotate_left; focus ((try simp) <;> omega))))).mono ?_; rintro e w3 ⟨rfl, rfl⟩))
         refine hK.out _ _ ?_ (fun hHeld => ?_)
         · first | (dsimp only; go_keep; done) | (go_keep; done)
         clear hK K
         (try simp only [List.setIfInBounds_toArray, List.set_cons_zero, List.set_cons_succ]))
        refine wpAnyH_done (by kernel_rfl) ?_ _
        go_wp2_with fail
        go_ret
        exact ⟨by rw [hf.out]; rfl, (by repeat (first | (with_reducible exact Below.refl _ _) | (with_reducible refine Below.drew ?_) | (with_reducible refine below_drewN ?_ _) | ((with_reducible refine Below.alloc ?_ ?_ _); rotate_left; focus ((try simp) <;> omega)) | ((with_reducible refine Below.setCell ?_ ?_ _); rotate_left; focus ((try simp) <;> omega)) | ((with_reducible refine Below.trans ?_ (Below.mono (by assumption) ?_)); rotate_left; focus ((try simp) <;> omega))))⟩
    · have i1 : ¬ (k : Int) < (l.length : Int) := by omega
      have hf : Hid (R = 0) := Lib.hid (by rw [← ht, ress_end hkl])
      replace ht := Lib.hid ht
      go_wp2_with fail
      go_ret
      exact ⟨by rw [hf.out]; rfl, (by repeat (first | (with_reducible exact Below.refl _ _) | (with_reducible refine Below.drew ?_) | (with_reducible refine below_drewN ?_ _) | ((with_reducible refine Below.alloc ?_ ?_ _); rotate_left; focus ((try simp) <;> omega)) | ((with_reducible refine Below.setCell ?_ ?_ _); rotate_left; focus ((try simp) <;> omega)) | ((with_reducible refine Below.trans ?_ (Below.mono (by assumption) ?_)); rotate_left; focus ((try simp) <;> omega))))⟩
end Go.Proofs.YtddepmelnemniaaGreatDoor
