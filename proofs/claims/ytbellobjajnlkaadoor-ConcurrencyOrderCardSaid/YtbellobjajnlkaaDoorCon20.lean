/-
  The walks of groups: a group put among others, by the reference.
-/
import Derived.Test.YtbellobjajnlkaaDoorCon6
import Derived.Test.YtbellobjajnlkaaDoorCon1315




namespace Go.Proofs.YtbellobjajnlkaaDoor
open Go.RowKit
attribute [local go_sem ↓] eq_ref ne_ref

theorem grp_infoR : (Tryd.prog.info? 45).map (fun i => (i.zero, i.size, i.bytes)) = some (some (.agg #[.string ByteArray.empty, .string ByteArray.empty, .string ByteArray.empty, .slice none 0 0]), 4, 72) := by kernel_rfl
theorem putR_len {gs : List G} {g : G} (ha : AscN gs) (k : Nat) : (putR gs g k).length ≤ gs.length + 1 := by
  have h := putG_len (g := g) ha
  unfold putR
  split
  · rw [List.length_take]; omega
  · rw [List.length_take, h]
    split <;> omega
/-- The element that the reference's loop puts in its k-th round, with what stands ahead. -/
theorem rw_litg {w : World} {g B : Nat} {x : Grp} (hB : g < B) (h0 : w.cell? ⟨g, 0, none⟩ = some (.string x.name.1)) (h1 : w.cell? ⟨g, 1, none⟩ = some (.string x.run.1)) (h2 : w.cell? ⟨g, 2, none⟩ = some (.string x.job.1)) (h3 : w.cell? ⟨g, 3, none⟩ = some (.slice x.waitA x.wait.length x.waitC)) : Rw grpE 4 w B (some ⟨g, 0, none⟩) [x] := fun _ => ⟨g, 0, rfl, hB, fun i y hy j u hu => by
  match i, hy with
  | 0, hy =>
    obtain rfl : x = y := by simpa using hy
    match j, hu with
    | 0, hu => obtain rfl : Value.string x.name.1 = u := by simpa [grpE] using hu
               exact h0
    | 1, hu => obtain rfl : Value.string x.run.1 = u := by simpa [grpE] using hu
               exact h1
    | 2, hu => obtain rfl : Value.string x.job.1 = u := by simpa [grpE] using hu
               exact h2
    | 3, hu => obtain rfl : Value.slice x.waitA x.wait.length x.waitC = u := by simpa [grpE] using hu
               exact h3
    | j + 4, hu => simp [grpE] at hu
  | i + 1, hy => simp at hy⟩
theorem grown_blk {W W' : World} {row : Option Nat} (hg : W.grownBy W' row) (b : Nat) (hlt : b < W.heap.size) (hne : some b ≠ row) : (∀ o, W'.cell? ⟨b, o, none⟩ = W.cell? ⟨b, o, none⟩) ∧ (∀ o, W'.frozen? ⟨b, o, none⟩ = W.frozen? ⟨b, o, none⟩) :=
  ⟨fun _o => World.cell?_of_block (hg.block b hlt hne), fun _o => World.frozen?_of_block (hg.block b hlt hne)⟩
theorem rw_litA {w : World} {g B : Nat} {x : Grp} (hg : g = w.heap.size) (hB : g < B) : Rw grpE 4 (w.alloc (.cells #[.string x.name.1, .string x.run.1, .string x.job.1, .slice x.waitA x.wait.length x.waitC] 45)) B (some ⟨g, 0, none⟩) [x] := by
  subst hg
  exact rw_litg hB (box_cells w _ _ 0 _ rfl) (box_cells w _ _ 1 _ rfl) (box_cells w _ _ 2 _ rfl) (box_cells w _ _ 3 _ rfl)
set_option maxRecDepth 100000 in
set_option maxHeartbeats 8000000 in
theorem rput_own (A : Option Addr) (c : Nat) (l : List Grp) (x : Grp) (w : World) (hr : RwG w w.heap.size A l) (_hx : LabGrp w w.heap.size x) (ha : AscN (l.map Grp.g)) (hn : l.length ≤ 1000000) :
    Calls Tryd.prog 46 #[.slice A l.length c, (.agg #[.string x.name.1, .string x.run.1, .string x.job.1, .slice x.waitA x.wait.length x.waitC])] w fun e w' => ∃ (A' : Option Addr) (c' : Nat) (L : List Grp), e = .returned (.slice A' L.length c') ∧ Own grpE 4 45 w' (w.heap.size + 1) (.slice A' L.length c') L ∧ (∀ y ∈ L, y ∈ l ∨ y = x) ∧ L.map Grp.g = putG (l.map Grp.g) x.g ∧ Below w.heap.size w w' := by
  obtain ⟨inf, hi0, iz0, iz1, iz2⟩ := info_three grp_infoR
  have hple := Lib.hid (putR_len (g := x.g) ha)
  have hrow : Hid (Rw grpE 4 w w.heap.size A l) := Lib.hid hr.row
  clear hr
  obtain ⟨W1, hW1, hb1, hz1, c0, c1, c2, c3⟩ : ∃ W, w.alloc (.cells #[.string x.name.1, .string x.run.1, .string x.job.1, .slice x.waitA x.wait.length x.waitC] 45) = W ∧ Below w.heap.size w W ∧ W.heap.size = w.heap.size + 1 ∧ W.cell? ⟨w.heap.size, 0, none⟩ = some (.string x.name.1) ∧ W.cell? ⟨w.heap.size, 1, none⟩ = some (.string x.run.1) ∧ W.cell? ⟨w.heap.size, 2, none⟩ = some (.string x.job.1) ∧ W.cell? ⟨w.heap.size, 3, none⟩ = some (.slice x.waitA x.wait.length x.waitC) := ⟨_, rfl, (Below.refl _ _).alloc (Nat.le_refl _) _, by simp, by go_simp, by go_simp, by go_simp, by go_simp⟩
  have hz1a := Nat.le_of_eq hz1
  have hz1b := Nat.le_of_eq hz1.symm
  replace hz1 := Lib.hid hz1
  obtain ⟨T, hT⟩ : ∃ T, atN x.g.name (l.map Grp.g) = T := ⟨_, rfl⟩
  replace hT := Lib.hid hT
  replace ha := Lib.hid ha
  go_enter Tryd.func46, Tryd.ntmps46
  go_wp2_with fail
  go_loopw [5, 6, 7] (fun vo vd vi wr => ∃ (k : Nat) (L : List Grp), vi = .int .i64 (k : Int) ∧ k ≤ l.length ∧ vd = .bool (decide (T < k)) ∧ Own grpE 4 45 wr (w.heap.size + 1) vo L ∧ L.map Grp.g = putR (l.map Grp.g) x.g k ∧ (∀ y ∈ L, y ∈ l ∨ y = x) ∧ Below (w.heap.size + 1) W1 wr) (fun _ _ vi _ => l.length - (intOf vi).toNat)
  case atStart => exact ⟨0, [], rfl, Nat.zero_le _, by simp, Own.nil _ _ _, by rw [putR_zero]; rfl, by simp, Below.refl _ _⟩
  case round =>
    obtain ⟨k, L, rfl, hk, rfl, hown, hL, hin, hbw⟩ := hrel
    have hz := hbw.size
    have hgw : w.heap.size < wr.heap.size := by omega
    have b0 := (hbw.cell (p := ⟨w.heap.size, 0, none⟩) (Nat.lt_succ_self _)).trans c0
    have b1 := (hbw.cell (p := ⟨w.heap.size, 1, none⟩) (Nat.lt_succ_self _)).trans c1
    have b2 := (hbw.cell (p := ⟨w.heap.size, 2, none⟩) (Nat.lt_succ_self _)).trans c2
    have b3 := (hbw.cell (p := ⟨w.heap.size, 3, none⟩) (Nat.lt_succ_self _)).trans c3
    clear c0 c1 c2 c3
    have hLl : L.length ≤ l.length + 1 := by
      have h1 := congrArg List.length hL
      have h2 := hple.out k
      rw [List.length_map] at h1 h2
      omega
    have hlow := hown.lt
    have hbw0 : Below w.heap.size w wr := hb1.trans (hbw.mono (by omega))
    replace hin := Lib.hid hin
    replace hL := Lib.hid hL
    by_cases hkl : k < l.length
    · obtain ⟨y, hy⟩ := get_some hkl
      obtain ⟨g, o, rfl, hg, q⟩ := hrow.out (by omega)
      have qy := fun j u hu => (hbw0.cell (p := ⟨g, o + k * 4 + j, none⟩) hg).trans (q k y hy j u hu)
      have c0 := qy 0 (.string y.name.1) rfl
      try rw [Nat.add_zero] at c0
      have c1 := qy 1 (.string y.run.1) rfl
      have c2 := qy 2 (.string y.job.1) rfl
      have c3 := qy 3 (.slice y.waitA y.wait.length y.waitC) rfl
      clear qy q
      have hgr : g < wr.heap.size := by omega
      have i0 : (0 : Int) ≤ (k : Int) := by omega
      have i1 : (k : Int) < (l.length : Int) := by omega
      have hym : (l.map Grp.g)[k]? = some y.g := by rw [List.getElem?_map, hy]; rfl
      have hyl := List.mem_of_getElem? hy
      obtain ⟨C, hC⟩ : ∃ C, cmpS x.name y.name = C := ⟨_, rfl⟩
      have hcm : Hid (∀ W, Calls Tryd.prog 35 #[.string x.name.1, .string y.name.1] W fun e w' => e = .returned (.int .i64 C) ∧ Below W.heap.size W w') := Lib.hid fun W => (rcompare_any _ _ x.name.2 y.name.2 W).mono fun _ _ h => ⟨by rw [h.1, ← hC]; rfl, by obtain ⟨n, e⟩ := h.2; rw [e]; exact below_drewN (Below.refl _ _) _⟩
      replace hy := Lib.hid hy
      rcases Nat.lt_trichotomy k T with hlt | hlt | hlt
      · have hcase := at_low (p := x.g.name) ha.out hym (by rw [hT.out]; exact hlt)
        have hnx := Lib.hid (putR_low (g := x.g) hym (by rw [hT.out]; exact hlt))
        have h1 : ¬ C ≤ 0 := by rw [← hC]; exact hcase.1
        have h2 : (y.name.1.toList == x.name.1.toList) = false := by rw [eq_str]; exact decide_eq_false hcase.2
        rw [show decide (T < k) = false from decide_eq_false (by omega)]
        clear hcase
        replace hym := Lib.hid hym
        replace hC := Lib.hid hC
        replace hlow := Lib.hid hlow
        go_wp2_with fail
        refine wp_region_held_drew (S := fun w' => w'.cell? ⟨w.heap.size, 0, none⟩ = some (.string x.name.1) ∧ w'.cell? ⟨g, o + k * 4, none⟩ = some (.string y.name.1)) (by kernel_rfl) ?_ (fun hHeld => ?_)
        · first | (dsimp only; go_keep; done) | (go_keep; done) | (go_simp; done)
        rw [show (Array.replicate _ false : Array Bool) = #[false, false, false, false, false, false, false, false, false, false, false, false, false] from rfl]
        (refine wpAnyH_take (i := 0) (oi := Oper.mk _ _ _ _ _ _) (v := ?_) rfl (by kernel_rfl) (by kernel_rfl) (by kernel_rfl) (fun _ _ _ h => h) ?_ (by assumption) ?_; rotate_left; (focus (refine Or.inl ⟨by rfl, ?_⟩; intro wS hSw; (try dsimp only at hSw); go_simp; first | done | with_reducible rfl)); simp only [Act.put, List.setIfInBounds_toArray, List.set_cons_zero, List.set_cons_succ])
        (refine wpAnyH_take (i := 1) (oi := Oper.mk _ _ _ _ _ _) (v := ?_) rfl (by kernel_rfl) (by kernel_rfl) (by kernel_rfl) (fun _ _ _ h => h) ?_ (by assumption) ?_; rotate_left; (focus (refine Or.inl ⟨by rfl, ?_⟩; intro wS hSw; (try dsimp only at hSw); go_simp; first | done | with_reducible rfl)); simp only [Act.put, List.setIfInBounds_toArray, List.set_cons_zero, List.set_cons_succ])
        (refine wpAnyH_take (i := 2) (oi := Oper.mk _ _ _ _ _ _) (v := ?_) rfl (by kernel_rfl) (by kernel_rfl) (by kernel_rfl) (fun _ _ _ h => h) ?_ (by assumption) ?_; rotate_left; (focus (refine Or.inl ⟨by rfl, ?_⟩; intro wS hSw; (try dsimp only at hSw); go_simp; first | done | with_reducible rfl)); simp only [Act.put, List.setIfInBounds_toArray, List.set_cons_zero, List.set_cons_succ])
        (refine wpAnyH_take (i := 3) (oi := Oper.mk _ _ _ _ _ _) (v := ?_) rfl (by kernel_rfl) (by kernel_rfl) (by kernel_rfl) (fun _ _ _ h => h) ?_ (by assumption) ?_; rotate_left; (focus (refine Or.inl ⟨by rfl, ?_⟩; intro wS hSw; (try dsimp only at hSw); go_simp; first | done | with_reducible rfl)); simp only [Act.put, List.setIfInBounds_toArray, List.set_cons_zero, List.set_cons_succ])
        (refine wpAnyH_take (i := 4) (oi := Oper.mk _ _ _ _ _ _) (v := ?_) rfl (by kernel_rfl) (by kernel_rfl) (by kernel_rfl) (fun _ _ _ h => h) ?_ (by assumption) ?_; rotate_left; (focus (refine Or.inl ⟨by rfl, ?_⟩; intro wS hSw; (try dsimp only at hSw); go_simp; first | done | with_reducible rfl)); simp only [Act.put, List.setIfInBounds_toArray, List.set_cons_zero, List.set_cons_succ])
        (refine wpAnyH_take (i := 5) (oi := Oper.mk _ _ _ _ _ _) (v := ?_) rfl (by kernel_rfl) (by kernel_rfl) (by kernel_rfl) (fun _ _ _ h => h) ?_ (by assumption) ?_; rotate_left; (focus (refine Or.inl ⟨by rfl, ?_⟩; intro wS hSw; (try dsimp only at hSw); go_simp; first | done | with_reducible rfl)); simp only [Act.put, List.setIfInBounds_toArray, List.set_cons_zero, List.set_cons_succ])
        (refine wpAnyH_take (i := 6) (oi := Oper.mk _ _ _ _ _ _) (v := ?_) rfl (by kernel_rfl) (by kernel_rfl) (by kernel_rfl) (fun _ _ _ h => h) ?_ (by assumption) ?_; rotate_left; (focus (refine Or.inl ⟨by rfl, ?_⟩; intro wS hSw; (try dsimp only at hSw); go_simp; first | done | with_reducible rfl)); simp only [Act.put, List.setIfInBounds_toArray, List.set_cons_zero, List.set_cons_succ])
        (refine wpAnyH_take (i := 7) (oi := Oper.mk _ _ _ _ _ _) (v := ?_) rfl (by kernel_rfl) (by kernel_rfl) (by kernel_rfl) (fun _ _ _ h => h) ?_ (by assumption) ?_; rotate_left; (focus (refine Or.inl ⟨by rfl, ?_⟩; intro wS hSw; (try dsimp only at hSw); go_simp; first | done | with_reducible rfl)); simp only [Act.put, List.setIfInBounds_toArray, List.set_cons_zero, List.set_cons_succ])
        (refine wpAnyH_take (i := 8) (oi := Oper.mk _ _ _ _ _ _) (v := ?_) rfl (by kernel_rfl) (by kernel_rfl) (by kernel_rfl) (fun _ _ _ h => h) ?_ (by assumption) ?_; rotate_left; (focus (refine Or.inl ⟨by rfl, ?_⟩; intro wS hSw; (try dsimp only at hSw); go_simp; first | done | with_reducible rfl)); simp only [Act.put, List.setIfInBounds_toArray, List.set_cons_zero, List.set_cons_succ])
        (refine wpAnyH_take (i := 9) (oi := Oper.mk _ _ _ _ _ _) (v := ?_) rfl (by kernel_rfl) (by kernel_rfl) (by kernel_rfl) (fun _ _ _ h => h) ?_ (by assumption) ?_; rotate_left; (focus (refine Or.inl ⟨by rfl, ?_⟩; intro wS hSw; (try dsimp only at hSw); go_simp; first | done | with_reducible rfl)); simp only [Act.put, List.setIfInBounds_toArray, List.set_cons_zero, List.set_cons_succ])
        (refine wpAnyH_ready (rs := [10]) (by kernel_rfl) (by simp) ?_
         refine AllReadyH.cons (o := Oper.mk _ _ _ _ _ _) rfl (fun K hK => ?_) AllReadyH.nil
         go_simp
         (go_at_call 35; go_must (refine (hcm.out _).mono ?_; rintro e w3 ⟨rfl, hb3⟩; have hz3 := hb3.size; (try simp at hz3); have hk3 : w.heap.size < w3.heap.size := (by omega); have hg3 : g < w3.heap.size := (by omega); obtain ⟨hc3, hf3⟩ := blk_at hb3 g (by (try simp) <;> omega); obtain ⟨hd3, he3⟩ := blk_at hb3 w.heap.size (by (try simp) <;> omega)))
         refine hK.out _ _ ?_ (fun hHeld => ?_)
         · first | (dsimp only; go_keep; done) | (go_keep; done)
         clear hK K
         (try simp only [List.setIfInBounds_toArray, List.set_cons_zero, List.set_cons_succ]))
        (refine wpAnyH_take (i := 11) (oi := Oper.mk _ _ _ _ _ _) (v := ?_) rfl (by kernel_rfl) (by kernel_rfl) (by kernel_rfl) (fun _ _ _ h => h) ?_ (by assumption) ?_; rotate_left; (focus (refine Or.inl ⟨by rfl, ?_⟩; intro wS hSw; (try dsimp only at hSw); go_simp; first | done | with_reducible rfl)); simp only [Act.put, List.setIfInBounds_toArray, List.set_cons_zero, List.set_cons_succ])
        (refine wpAnyH_take (i := 12) (oi := Oper.mk _ _ _ _ _ _) (v := ?_) rfl (by kernel_rfl) (by kernel_rfl) (by kernel_rfl) (fun _ _ _ h => h) ?_ (by assumption) ?_; rotate_left; (focus (refine Or.inl ⟨by rfl, ?_⟩; intro wS hSw; (try dsimp only at hSw); go_simp; first | done | with_reducible rfl)); simp only [Act.put, List.setIfInBounds_toArray, List.set_cons_zero, List.set_cons_succ])
        refine wpAnyH_done (by kernel_rfl) ?_ _
        go_wp2_with fail
        go_quiet (fail)
        go_wp2_with (first
        | (at_builtin
           go_loud (refine wpList_append_rw _ rfl (.tmp 39) (.tmp 44) _ rfl grpE_len grpE_one (w.heap.size + 1) 45 inf _ 72 Tryd.underlying22 hi0 iz0 iz1 iz2 rfl (by omega) u5 L rfl ?_ (w3.heap.size + 1) _ 1 1 [y] rfl rfl ?_ ?_ ?_ ?_ ?_
                    · exact Own.all hown (by repeat (first | (with_reducible exact Below.refl _ _) | (with_reducible refine Below.drew ?_) | (with_reducible refine below_drewN ?_ _) | ((with_reducible refine Below.alloc ?_ ?_ _); rotate_left; focus ((try simp) <;> omega)) | ((with_reducible refine Below.setCell ?_ ?_ _); rotate_left; focus ((try simp) <;> omega)) | ((with_reducible refine Below.trans ?_ (Below.mono (by assumption) ?_)); rotate_left; focus ((try simp) <;> omega))))
                    · exact rw_litA (by simp) (by (try simp) <;> omega)
                    · (try simp [maxLen]) <;> omega
                    · (try simp) <;> omega
                    · (try simp) <;> omega
                    intro v4 w4 hown4 hg4 hat4
                    have hz4 := hg4.size
                    (try simp at hz4)
                    skip))
        | (at_builtin; fail))
        go_roundw
        case rel =>
          refine ⟨k + 1, L ++ [y], by go_num, by omega, ?_, hown4, ?_, ?_, ?_⟩
          · rw [show decide (T < k + 1) = false from decide_eq_false (by omega)]
          · rw [List.map_append, hL.out, hnx.out]; rfl
          · intro z hz
            rcases List.mem_append.1 hz with h | h
            · exact hin.out z h
            · exact .inl ((List.mem_singleton.1 h) ▸ hyl)
          · exact (Below.grown (hbw.trans (Below.mono (B := wr.heap.size) (by repeat (first | (with_reducible exact Below.refl _ _) | (with_reducible refine Below.drew ?_) | (with_reducible refine below_drewN ?_ _) | ((with_reducible refine Below.alloc ?_ ?_ _); rotate_left; focus ((try simp) <;> omega)) | ((with_reducible refine Below.setCell ?_ ?_ _); rotate_left; focus ((try simp) <;> omega)) | ((with_reducible refine Below.trans ?_ (Below.mono (by assumption) ?_)); rotate_left; focus ((try simp) <;> omega)))) (by omega))) hg4 (by (try simp) <;> omega) fun q hq => (hlow.out q hq).1)
        case measure => simp [intOf]; omega
      · subst hlt
        rw [show decide (k < k) = false from decide_eq_false (Nat.lt_irrefl _)]
        have hTk := hT.out
        rcases hh : hasN x.g.name (l.map Grp.g) with _ | _
        · have hcase := at_no (p := x.g.name) ha.out (by rw [hTk]; exact hym) hh
          have hnx := Lib.hid (show putR (l.map Grp.g) x.g (k + 1) = putR (l.map Grp.g) x.g k ++ [x.g] ++ [y.g] by rw [← hTk]; exact putR_no (g := x.g) ha.out (by rw [hTk]; exact hym) hh)
          have h1 : C ≤ 0 := by rw [← hC]; exact hcase.1
          have h2 : (y.name.1.toList == x.name.1.toList) = false := by rw [eq_str]; exact decide_eq_false hcase.2
          clear hcase
          replace hh := Lib.hid hh
          replace hTk := Lib.hid hTk
          replace hym := Lib.hid hym
          replace hC := Lib.hid hC
          replace hlow := Lib.hid hlow
          go_wp2_with fail
          refine wp_region_held_drew (S := fun w' => w'.cell? ⟨w.heap.size, 0, none⟩ = some (.string x.name.1) ∧ w'.cell? ⟨g, o + k * 4, none⟩ = some (.string y.name.1)) (by kernel_rfl) ?_ (fun hHeld => ?_)
          · first | (dsimp only; go_keep; done) | (go_keep; done) | (go_simp; done)
          rw [show (Array.replicate _ false : Array Bool) = #[false, false, false, false, false, false, false, false, false, false, false, false, false] from rfl]
          (refine wpAnyH_take (i := 0) (oi := Oper.mk _ _ _ _ _ _) (v := ?_) rfl (by kernel_rfl) (by kernel_rfl) (by kernel_rfl) (fun _ _ _ h => h) ?_ (by assumption) ?_; rotate_left; (focus (refine Or.inl ⟨by rfl, ?_⟩; intro wS hSw; (try dsimp only at hSw); go_simp; first | done | with_reducible rfl)); simp only [Act.put, List.setIfInBounds_toArray, List.set_cons_zero, List.set_cons_succ])
          (refine wpAnyH_take (i := 1) (oi := Oper.mk _ _ _ _ _ _) (v := ?_) rfl (by kernel_rfl) (by kernel_rfl) (by kernel_rfl) (fun _ _ _ h => h) ?_ (by assumption) ?_; rotate_left; (focus (refine Or.inl ⟨by rfl, ?_⟩; intro wS hSw; (try dsimp only at hSw); go_simp; first | done | with_reducible rfl)); simp only [Act.put, List.setIfInBounds_toArray, List.set_cons_zero, List.set_cons_succ])
          (refine wpAnyH_take (i := 2) (oi := Oper.mk _ _ _ _ _ _) (v := ?_) rfl (by kernel_rfl) (by kernel_rfl) (by kernel_rfl) (fun _ _ _ h => h) ?_ (by assumption) ?_; rotate_left; (focus (refine Or.inl ⟨by rfl, ?_⟩; intro wS hSw; (try dsimp only at hSw); go_simp; first | done | with_reducible rfl)); simp only [Act.put, List.setIfInBounds_toArray, List.set_cons_zero, List.set_cons_succ])
          (refine wpAnyH_take (i := 3) (oi := Oper.mk _ _ _ _ _ _) (v := ?_) rfl (by kernel_rfl) (by kernel_rfl) (by kernel_rfl) (fun _ _ _ h => h) ?_ (by assumption) ?_; rotate_left; (focus (refine Or.inl ⟨by rfl, ?_⟩; intro wS hSw; (try dsimp only at hSw); go_simp; first | done | with_reducible rfl)); simp only [Act.put, List.setIfInBounds_toArray, List.set_cons_zero, List.set_cons_succ])
          (refine wpAnyH_take (i := 4) (oi := Oper.mk _ _ _ _ _ _) (v := ?_) rfl (by kernel_rfl) (by kernel_rfl) (by kernel_rfl) (fun _ _ _ h => h) ?_ (by assumption) ?_; rotate_left; (focus (refine Or.inl ⟨by rfl, ?_⟩; intro wS hSw; (try dsimp only at hSw); go_simp; first | done | with_reducible rfl)); simp only [Act.put, List.setIfInBounds_toArray, List.set_cons_zero, List.set_cons_succ])
          (refine wpAnyH_take (i := 5) (oi := Oper.mk _ _ _ _ _ _) (v := ?_) rfl (by kernel_rfl) (by kernel_rfl) (by kernel_rfl) (fun _ _ _ h => h) ?_ (by assumption) ?_; rotate_left; (focus (refine Or.inl ⟨by rfl, ?_⟩; intro wS hSw; (try dsimp only at hSw); go_simp; first | done | with_reducible rfl)); simp only [Act.put, List.setIfInBounds_toArray, List.set_cons_zero, List.set_cons_succ])
          (refine wpAnyH_take (i := 6) (oi := Oper.mk _ _ _ _ _ _) (v := ?_) rfl (by kernel_rfl) (by kernel_rfl) (by kernel_rfl) (fun _ _ _ h => h) ?_ (by assumption) ?_; rotate_left; (focus (refine Or.inl ⟨by rfl, ?_⟩; intro wS hSw; (try dsimp only at hSw); go_simp; first | done | with_reducible rfl)); simp only [Act.put, List.setIfInBounds_toArray, List.set_cons_zero, List.set_cons_succ])
          (refine wpAnyH_take (i := 7) (oi := Oper.mk _ _ _ _ _ _) (v := ?_) rfl (by kernel_rfl) (by kernel_rfl) (by kernel_rfl) (fun _ _ _ h => h) ?_ (by assumption) ?_; rotate_left; (focus (refine Or.inl ⟨by rfl, ?_⟩; intro wS hSw; (try dsimp only at hSw); go_simp; first | done | with_reducible rfl)); simp only [Act.put, List.setIfInBounds_toArray, List.set_cons_zero, List.set_cons_succ])
          (refine wpAnyH_take (i := 8) (oi := Oper.mk _ _ _ _ _ _) (v := ?_) rfl (by kernel_rfl) (by kernel_rfl) (by kernel_rfl) (fun _ _ _ h => h) ?_ (by assumption) ?_; rotate_left; (focus (refine Or.inl ⟨by rfl, ?_⟩; intro wS hSw; (try dsimp only at hSw); go_simp; first | done | with_reducible rfl)); simp only [Act.put, List.setIfInBounds_toArray, List.set_cons_zero, List.set_cons_succ])
          (refine wpAnyH_take (i := 9) (oi := Oper.mk _ _ _ _ _ _) (v := ?_) rfl (by kernel_rfl) (by kernel_rfl) (by kernel_rfl) (fun _ _ _ h => h) ?_ (by assumption) ?_; rotate_left; (focus (refine Or.inl ⟨by rfl, ?_⟩; intro wS hSw; (try dsimp only at hSw); go_simp; first | done | with_reducible rfl)); simp only [Act.put, List.setIfInBounds_toArray, List.set_cons_zero, List.set_cons_succ])
          (refine wpAnyH_ready (rs := [10]) (by kernel_rfl) (by simp) ?_
           refine AllReadyH.cons (o := Oper.mk _ _ _ _ _ _) rfl (fun K hK => ?_) AllReadyH.nil
           go_simp
           (go_at_call 35; go_must (refine (hcm.out _).mono ?_; rintro e w3 ⟨rfl, hb3⟩; have hz3 := hb3.size; (try simp at hz3); have hk3 : w.heap.size < w3.heap.size := (by omega); have hg3 : g < w3.heap.size := (by omega); obtain ⟨hc3, hf3⟩ := blk_at hb3 g (by (try simp) <;> omega); obtain ⟨hd3, he3⟩ := blk_at hb3 w.heap.size (by (try simp) <;> omega)))
           refine hK.out _ _ ?_ (fun hHeld => ?_)
           · first | (dsimp only; go_keep; done) | (go_keep; done)
           clear hK K
           (try simp only [List.setIfInBounds_toArray, List.set_cons_zero, List.set_cons_succ]))
          (refine wpAnyH_take (i := 11) (oi := Oper.mk _ _ _ _ _ _) (v := ?_) rfl (by kernel_rfl) (by kernel_rfl) (by kernel_rfl) (fun _ _ _ h => h) ?_ (by assumption) ?_; rotate_left; (focus (refine Or.inl ⟨by rfl, ?_⟩; intro wS hSw; (try dsimp only at hSw); go_simp; first | done | with_reducible rfl)); simp only [Act.put, List.setIfInBounds_toArray, List.set_cons_zero, List.set_cons_succ])
          (refine wpAnyH_take (i := 12) (oi := Oper.mk _ _ _ _ _ _) (v := ?_) rfl (by kernel_rfl) (by kernel_rfl) (by kernel_rfl) (fun _ _ _ h => h) ?_ (by assumption) ?_; rotate_left; (focus (refine Or.inl ⟨by rfl, ?_⟩; intro wS hSw; (try dsimp only at hSw); go_simp; first | done | with_reducible rfl)); simp only [Act.put, List.setIfInBounds_toArray, List.set_cons_zero, List.set_cons_succ])
          refine wpAnyH_done (by kernel_rfl) ?_ _
          go_wp2_with (first
          | (at_builtin
             go_loud (refine wpList_append_rw _ rfl (.tmp 27) (.tmp 29) _ rfl grpE_len grpE_one (w.heap.size + 1) 45 inf _ 72 Tryd.underlying22 hi0 iz0 iz1 iz2 rfl (by omega) u5 L rfl ?_ (w3.heap.size + 1) _ 1 1 [x] rfl rfl ?_ ?_ ?_ ?_ ?_
                      · exact Own.all hown (by repeat (first | (with_reducible exact Below.refl _ _) | (with_reducible refine Below.drew ?_) | (with_reducible refine below_drewN ?_ _) | ((with_reducible refine Below.alloc ?_ ?_ _); rotate_left; focus ((try simp) <;> omega)) | ((with_reducible refine Below.setCell ?_ ?_ _); rotate_left; focus ((try simp) <;> omega)) | ((with_reducible refine Below.trans ?_ (Below.mono (by assumption) ?_)); rotate_left; focus ((try simp) <;> omega))))
                      · exact rw_litA (by simp) (by (try simp) <;> omega)
                      · (try simp [maxLen]) <;> omega
                      · (try simp) <;> omega
                      · (try simp) <;> omega
                      intro v4 w4 hown4 hg4 hat4
                      have hz4 := hg4.size
                      (try simp at hz4)
                      have hB4 := Lib.hid (show Below (w.heap.size + 1) W1 w4 from (Below.grown (hbw.trans (Below.mono (B := wr.heap.size) (by repeat (first | (with_reducible exact Below.refl _ _) | (with_reducible refine Below.drew ?_) | (with_reducible refine below_drewN ?_ _) | ((with_reducible refine Below.alloc ?_ ?_ _); rotate_left; focus ((try simp) <;> omega)) | ((with_reducible refine Below.setCell ?_ ?_ _); rotate_left; focus ((try simp) <;> omega)) | ((with_reducible refine Below.trans ?_ (Below.mono (by assumption) ?_)); rotate_left; focus ((try simp) <;> omega)))) (by omega))) hg4 (by (try simp) <;> omega) fun q hq => (hlow.out q hq).1)); obtain ⟨r4, s4⟩ := grown_blk hg4 g (by (try simp) <;> omega) (fun e => by have := hlow.out g e.symm; omega); obtain ⟨t4, x4⟩ := grown_blk hg4 w.heap.size (by (try simp) <;> omega) (fun e => by have := (hlow.out w.heap.size e.symm).1; omega); have hz4a : w.heap.size < w4.heap.size := (by omega); have hz4b : g < w4.heap.size := (by omega); obtain ⟨A4, C4, rfl, _, _, hlt4⟩ := hown4.form; clear hg4 hat4))
          | (at_builtin; fail))
          go_quiet (fail)
          go_wp2_with (first
          | (at_builtin
             go_loud (refine wpList_append_rw _ rfl (.tmp 39) (.tmp 44) _ rfl grpE_len grpE_one (w.heap.size + 1) 45 inf _ 72 Tryd.underlying22 hi0 iz0 iz1 iz2 rfl (by omega) (.slice A4 (L.length + 1) C4) (L ++ [x]) rfl ?_ (w4.heap.size + 1) _ 1 1 [y] rfl rfl ?_ ?_ ?_ ?_ ?_
                      · exact (by rw [List.length_append] at hown4; exact hown4.all (by repeat (first | (with_reducible exact Below.refl _ _) | (with_reducible refine Below.drew ?_) | (with_reducible refine below_drewN ?_ _) | ((with_reducible refine Below.alloc ?_ ?_ _); rotate_left; focus ((try simp) <;> omega)) | ((with_reducible refine Below.setCell ?_ ?_ _); rotate_left; focus ((try simp) <;> omega)) | ((with_reducible refine Below.trans ?_ (Below.mono (by assumption) ?_)); rotate_left; focus ((try simp) <;> omega)))))
                      · exact rw_litA (by simp) (by (try simp) <;> omega)
                      · (try simp [maxLen]) <;> omega
                      · (try simp) <;> omega
                      · (try simp) <;> omega
                      intro v5 w5 hown5 hg5 hat5
                      have hz5 := hg5.size
                      (try simp at hz5)
                      skip))
          | (at_builtin; fail))
          go_roundw
          case rel =>
            refine ⟨k + 1, L ++ [x] ++ [y], by go_num, by omega, ?_, hown5, ?_, ?_, ?_⟩
            · rw [show decide (k < k + 1) = true from decide_eq_true (by omega)]
            · rw [List.map_append, List.map_append, hL.out, hnx.out]; rfl
            · intro z hz
              rcases List.mem_append.1 hz with h | h
              · rcases List.mem_append.1 h with h | h
                · exact hin.out z h
                · exact .inr (List.mem_singleton.1 h)
              · exact .inl ((List.mem_singleton.1 h) ▸ hyl)
            · exact Below.grown (hB4.out.trans (Below.mono (B := w4.heap.size) (by repeat (first | (with_reducible exact Below.refl _ _) | (with_reducible refine Below.drew ?_) | (with_reducible refine below_drewN ?_ _) | ((with_reducible refine Below.alloc ?_ ?_ _); rotate_left; focus ((try simp) <;> omega)) | ((with_reducible refine Below.setCell ?_ ?_ _); rotate_left; focus ((try simp) <;> omega)) | ((with_reducible refine Below.trans ?_ (Below.mono (by assumption) ?_)); rotate_left; focus ((try simp) <;> omega)))) (by omega))) hg5 (by (try simp) <;> omega) fun q hq => (hown4.lt q (by cases A4 <;> exact hq)).1
          case measure => simp [intOf]; omega
        · have hcase := at_has (p := x.g.name) (by rw [hTk]; exact hym) hh
          have hnx := Lib.hid (show putR (l.map Grp.g) x.g (k + 1) = putR (l.map Grp.g) x.g k ++ [x.g] by rw [← hTk]; exact putR_has (g := x.g) ha.out hh)
          have h1 : C ≤ 0 := by rw [← hC]; exact hcase.1
          have h2 : (y.name.1.toList == x.name.1.toList) = true := by rw [eq_str]; exact decide_eq_true hcase.2
          clear hcase
          replace hh := Lib.hid hh
          replace hTk := Lib.hid hTk
          replace hym := Lib.hid hym
          replace hC := Lib.hid hC
          replace hlow := Lib.hid hlow
          go_wp2_with fail
          refine wp_region_held_drew (S := fun w' => w'.cell? ⟨w.heap.size, 0, none⟩ = some (.string x.name.1) ∧ w'.cell? ⟨g, o + k * 4, none⟩ = some (.string y.name.1)) (by kernel_rfl) ?_ (fun hHeld => ?_)
          · first | (dsimp only; go_keep; done) | (go_keep; done) | (go_simp; done)
          rw [show (Array.replicate _ false : Array Bool) = #[false, false, false, false, false, false, false, false, false, false, false, false, false] from rfl]
          (refine wpAnyH_take (i := 0) (oi := Oper.mk _ _ _ _ _ _) (v := ?_) rfl (by kernel_rfl) (by kernel_rfl) (by kernel_rfl) (fun _ _ _ h => h) ?_ (by assumption) ?_; rotate_left; (focus (refine Or.inl ⟨by rfl, ?_⟩; intro wS hSw; (try dsimp only at hSw); go_simp; first | done | with_reducible rfl)); simp only [Act.put, List.setIfInBounds_toArray, List.set_cons_zero, List.set_cons_succ])
          (refine wpAnyH_take (i := 1) (oi := Oper.mk _ _ _ _ _ _) (v := ?_) rfl (by kernel_rfl) (by kernel_rfl) (by kernel_rfl) (fun _ _ _ h => h) ?_ (by assumption) ?_; rotate_left; (focus (refine Or.inl ⟨by rfl, ?_⟩; intro wS hSw; (try dsimp only at hSw); go_simp; first | done | with_reducible rfl)); simp only [Act.put, List.setIfInBounds_toArray, List.set_cons_zero, List.set_cons_succ])
          (refine wpAnyH_take (i := 2) (oi := Oper.mk _ _ _ _ _ _) (v := ?_) rfl (by kernel_rfl) (by kernel_rfl) (by kernel_rfl) (fun _ _ _ h => h) ?_ (by assumption) ?_; rotate_left; (focus (refine Or.inl ⟨by rfl, ?_⟩; intro wS hSw; (try dsimp only at hSw); go_simp; first | done | with_reducible rfl)); simp only [Act.put, List.setIfInBounds_toArray, List.set_cons_zero, List.set_cons_succ])
          (refine wpAnyH_take (i := 3) (oi := Oper.mk _ _ _ _ _ _) (v := ?_) rfl (by kernel_rfl) (by kernel_rfl) (by kernel_rfl) (fun _ _ _ h => h) ?_ (by assumption) ?_; rotate_left; (focus (refine Or.inl ⟨by rfl, ?_⟩; intro wS hSw; (try dsimp only at hSw); go_simp; first | done | with_reducible rfl)); simp only [Act.put, List.setIfInBounds_toArray, List.set_cons_zero, List.set_cons_succ])
          (refine wpAnyH_take (i := 4) (oi := Oper.mk _ _ _ _ _ _) (v := ?_) rfl (by kernel_rfl) (by kernel_rfl) (by kernel_rfl) (fun _ _ _ h => h) ?_ (by assumption) ?_; rotate_left; (focus (refine Or.inl ⟨by rfl, ?_⟩; intro wS hSw; (try dsimp only at hSw); go_simp; first | done | with_reducible rfl)); simp only [Act.put, List.setIfInBounds_toArray, List.set_cons_zero, List.set_cons_succ])
          (refine wpAnyH_take (i := 5) (oi := Oper.mk _ _ _ _ _ _) (v := ?_) rfl (by kernel_rfl) (by kernel_rfl) (by kernel_rfl) (fun _ _ _ h => h) ?_ (by assumption) ?_; rotate_left; (focus (refine Or.inl ⟨by rfl, ?_⟩; intro wS hSw; (try dsimp only at hSw); go_simp; first | done | with_reducible rfl)); simp only [Act.put, List.setIfInBounds_toArray, List.set_cons_zero, List.set_cons_succ])
          (refine wpAnyH_take (i := 6) (oi := Oper.mk _ _ _ _ _ _) (v := ?_) rfl (by kernel_rfl) (by kernel_rfl) (by kernel_rfl) (fun _ _ _ h => h) ?_ (by assumption) ?_; rotate_left; (focus (refine Or.inl ⟨by rfl, ?_⟩; intro wS hSw; (try dsimp only at hSw); go_simp; first | done | with_reducible rfl)); simp only [Act.put, List.setIfInBounds_toArray, List.set_cons_zero, List.set_cons_succ])
          (refine wpAnyH_take (i := 7) (oi := Oper.mk _ _ _ _ _ _) (v := ?_) rfl (by kernel_rfl) (by kernel_rfl) (by kernel_rfl) (fun _ _ _ h => h) ?_ (by assumption) ?_; rotate_left; (focus (refine Or.inl ⟨by rfl, ?_⟩; intro wS hSw; (try dsimp only at hSw); go_simp; first | done | with_reducible rfl)); simp only [Act.put, List.setIfInBounds_toArray, List.set_cons_zero, List.set_cons_succ])
          (refine wpAnyH_take (i := 8) (oi := Oper.mk _ _ _ _ _ _) (v := ?_) rfl (by kernel_rfl) (by kernel_rfl) (by kernel_rfl) (fun _ _ _ h => h) ?_ (by assumption) ?_; rotate_left; (focus (refine Or.inl ⟨by rfl, ?_⟩; intro wS hSw; (try dsimp only at hSw); go_simp; first | done | with_reducible rfl)); simp only [Act.put, List.setIfInBounds_toArray, List.set_cons_zero, List.set_cons_succ])
          (refine wpAnyH_take (i := 9) (oi := Oper.mk _ _ _ _ _ _) (v := ?_) rfl (by kernel_rfl) (by kernel_rfl) (by kernel_rfl) (fun _ _ _ h => h) ?_ (by assumption) ?_; rotate_left; (focus (refine Or.inl ⟨by rfl, ?_⟩; intro wS hSw; (try dsimp only at hSw); go_simp; first | done | with_reducible rfl)); simp only [Act.put, List.setIfInBounds_toArray, List.set_cons_zero, List.set_cons_succ])
          (refine wpAnyH_ready (rs := [10]) (by kernel_rfl) (by simp) ?_
           refine AllReadyH.cons (o := Oper.mk _ _ _ _ _ _) rfl (fun K hK => ?_) AllReadyH.nil
           go_simp
           (go_at_call 35; go_must (refine (hcm.out _).mono ?_; rintro e w3 ⟨rfl, hb3⟩; have hz3 := hb3.size; (try simp at hz3); have hk3 : w.heap.size < w3.heap.size := (by omega); have hg3 : g < w3.heap.size := (by omega); obtain ⟨hc3, hf3⟩ := blk_at hb3 g (by (try simp) <;> omega); obtain ⟨hd3, he3⟩ := blk_at hb3 w.heap.size (by (try simp) <;> omega)))
           refine hK.out _ _ ?_ (fun hHeld => ?_)
           · first | (dsimp only; go_keep; done) | (go_keep; done)
           clear hK K
           (try simp only [List.setIfInBounds_toArray, List.set_cons_zero, List.set_cons_succ]))
          (refine wpAnyH_take (i := 11) (oi := Oper.mk _ _ _ _ _ _) (v := ?_) rfl (by kernel_rfl) (by kernel_rfl) (by kernel_rfl) (fun _ _ _ h => h) ?_ (by assumption) ?_; rotate_left; (focus (refine Or.inl ⟨by rfl, ?_⟩; intro wS hSw; (try dsimp only at hSw); go_simp; first | done | with_reducible rfl)); simp only [Act.put, List.setIfInBounds_toArray, List.set_cons_zero, List.set_cons_succ])
          (refine wpAnyH_take (i := 12) (oi := Oper.mk _ _ _ _ _ _) (v := ?_) rfl (by kernel_rfl) (by kernel_rfl) (by kernel_rfl) (fun _ _ _ h => h) ?_ (by assumption) ?_; rotate_left; (focus (refine Or.inl ⟨by rfl, ?_⟩; intro wS hSw; (try dsimp only at hSw); go_simp; first | done | with_reducible rfl)); simp only [Act.put, List.setIfInBounds_toArray, List.set_cons_zero, List.set_cons_succ])
          refine wpAnyH_done (by kernel_rfl) ?_ _
          go_wp2_with (first
          | (at_builtin
             go_loud (refine wpList_append_rw _ rfl (.tmp 27) (.tmp 29) _ rfl grpE_len grpE_one (w.heap.size + 1) 45 inf _ 72 Tryd.underlying22 hi0 iz0 iz1 iz2 rfl (by omega) u5 L rfl ?_ (w3.heap.size + 1) _ 1 1 [x] rfl rfl ?_ ?_ ?_ ?_ ?_
                      · exact Own.all hown (by repeat (first | (with_reducible exact Below.refl _ _) | (with_reducible refine Below.drew ?_) | (with_reducible refine below_drewN ?_ _) | ((with_reducible refine Below.alloc ?_ ?_ _); rotate_left; focus ((try simp) <;> omega)) | ((with_reducible refine Below.setCell ?_ ?_ _); rotate_left; focus ((try simp) <;> omega)) | ((with_reducible refine Below.trans ?_ (Below.mono (by assumption) ?_)); rotate_left; focus ((try simp) <;> omega))))
                      · exact rw_litA (by simp) (by (try simp) <;> omega)
                      · (try simp [maxLen]) <;> omega
                      · (try simp) <;> omega
                      · (try simp) <;> omega
                      intro v4 w4 hown4 hg4 hat4
                      have hz4 := hg4.size
                      (try simp at hz4)
                      have hB4 := Lib.hid (show Below (w.heap.size + 1) W1 w4 from (Below.grown (hbw.trans (Below.mono (B := wr.heap.size) (by repeat (first | (with_reducible exact Below.refl _ _) | (with_reducible refine Below.drew ?_) | (with_reducible refine below_drewN ?_ _) | ((with_reducible refine Below.alloc ?_ ?_ _); rotate_left; focus ((try simp) <;> omega)) | ((with_reducible refine Below.setCell ?_ ?_ _); rotate_left; focus ((try simp) <;> omega)) | ((with_reducible refine Below.trans ?_ (Below.mono (by assumption) ?_)); rotate_left; focus ((try simp) <;> omega)))) (by omega))) hg4 (by (try simp) <;> omega) fun q hq => (hlow.out q hq).1)); obtain ⟨r4, s4⟩ := grown_blk hg4 g (by (try simp) <;> omega) (fun e => by have := hlow.out g e.symm; omega); obtain ⟨t4, x4⟩ := grown_blk hg4 w.heap.size (by (try simp) <;> omega) (fun e => by have := (hlow.out w.heap.size e.symm).1; omega); have hz4a : w.heap.size < w4.heap.size := (by omega); have hz4b : g < w4.heap.size := (by omega); obtain ⟨A4, C4, rfl, _, _, hlt4⟩ := hown4.form; clear hg4 hat4))
          | (at_builtin; fail))
          go_quiet (fail)
          go_wp2_with fail
          go_roundw
          case rel =>
            refine ⟨k + 1, L ++ [x], by go_num, by omega, ?_, (by rw [List.length_append] at hown4; exact hown4.all (by repeat (first | (with_reducible exact Below.refl _ _) | (with_reducible refine Below.drew ?_) | (with_reducible refine below_drewN ?_ _) | ((with_reducible refine Below.alloc ?_ ?_ _); rotate_left; focus ((try simp) <;> omega)) | ((with_reducible refine Below.setCell ?_ ?_ _); rotate_left; focus ((try simp) <;> omega)) | ((with_reducible refine Below.trans ?_ (Below.mono (by assumption) ?_)); rotate_left; focus ((try simp) <;> omega))))), ?_, ?_, ?_⟩
            · rw [show decide (k < k + 1) = true from decide_eq_true (by omega)]
            · rw [List.map_append, hL.out, hnx.out]; rfl
            · intro z hz
              rcases List.mem_append.1 hz with h | h
              · exact hin.out z h
              · exact .inr (List.mem_singleton.1 h)
            · exact hB4.out.trans (Below.mono (B := w4.heap.size) (by repeat (first | (with_reducible exact Below.refl _ _) | (with_reducible refine Below.drew ?_) | (with_reducible refine below_drewN ?_ _) | ((with_reducible refine Below.alloc ?_ ?_ _); rotate_left; focus ((try simp) <;> omega)) | ((with_reducible refine Below.setCell ?_ ?_ _); rotate_left; focus ((try simp) <;> omega)) | ((with_reducible refine Below.trans ?_ (Below.mono (by assumption) ?_)); rotate_left; focus ((try simp) <;> omega)))) (by omega))
          case measure => simp [intOf]; omega
      · have hcase := at_high (p := x.g.name) ha.out hym (by rw [hT.out]; exact hlt)
        have hnx := Lib.hid (putR_high (g := x.g) ha.out hym (by rw [hT.out]; exact hlt))
        have h2 : (y.name.1.toList == x.name.1.toList) = false := by rw [eq_str]; exact decide_eq_false hcase
        rw [show decide (T < k) = true from decide_eq_true hlt]
        clear hcase
        replace hym := Lib.hid hym
        replace hC := Lib.hid hC
        replace hlow := Lib.hid hlow
        go_wp2_with fail
        refine wp_region_held_drew (S := fun w' => w'.cell? ⟨w.heap.size, 0, none⟩ = some (.string x.name.1) ∧ w'.cell? ⟨g, o + k * 4, none⟩ = some (.string y.name.1)) (by kernel_rfl) ?_ (fun hHeld => ?_)
        · first | (dsimp only; go_keep; done) | (go_keep; done) | (go_simp; done)
        rw [show (Array.replicate _ false : Array Bool) = #[false, false, false, false, false, false, false, false, false, false, false, false, false] from rfl]
        (refine wpAnyH_take (i := 0) (oi := Oper.mk _ _ _ _ _ _) (v := ?_) rfl (by kernel_rfl) (by kernel_rfl) (by kernel_rfl) (fun _ _ _ h => h) ?_ (by assumption) ?_; rotate_left; (focus (refine Or.inl ⟨by rfl, ?_⟩; intro wS hSw; (try dsimp only at hSw); go_simp; first | done | with_reducible rfl)); simp only [Act.put, List.setIfInBounds_toArray, List.set_cons_zero, List.set_cons_succ])
        (refine wpAnyH_take (i := 1) (oi := Oper.mk _ _ _ _ _ _) (v := ?_) rfl (by kernel_rfl) (by kernel_rfl) (by kernel_rfl) (fun _ _ _ h => h) ?_ (by assumption) ?_; rotate_left; (focus (refine Or.inl ⟨by rfl, ?_⟩; intro wS hSw; (try dsimp only at hSw); go_simp; first | done | with_reducible rfl)); simp only [Act.put, List.setIfInBounds_toArray, List.set_cons_zero, List.set_cons_succ])
        (refine wpAnyH_take (i := 2) (oi := Oper.mk _ _ _ _ _ _) (v := ?_) rfl (by kernel_rfl) (by kernel_rfl) (by kernel_rfl) (fun _ _ _ h => h) ?_ (by assumption) ?_; rotate_left; (focus (refine Or.inl ⟨by rfl, ?_⟩; intro wS hSw; (try dsimp only at hSw); go_simp; first | done | with_reducible rfl)); simp only [Act.put, List.setIfInBounds_toArray, List.set_cons_zero, List.set_cons_succ])
        (refine wpAnyH_take (i := 3) (oi := Oper.mk _ _ _ _ _ _) (v := undef) rfl (by kernel_rfl) (by kernel_rfl) (by kernel_rfl) (fun _ _ _ h => h) (Or.inr ⟨by kernel_rfl, rfl⟩) (by assumption) ?_; simp only [Act.put, List.setIfInBounds_toArray, List.set_cons_zero, List.set_cons_succ])
        (refine wpAnyH_take (i := 4) (oi := Oper.mk _ _ _ _ _ _) (v := undef) rfl (by kernel_rfl) (by kernel_rfl) (by kernel_rfl) (fun _ _ _ h => h) (Or.inr ⟨by kernel_rfl, rfl⟩) (by assumption) ?_; simp only [Act.put, List.setIfInBounds_toArray, List.set_cons_zero, List.set_cons_succ])
        (refine wpAnyH_take (i := 5) (oi := Oper.mk _ _ _ _ _ _) (v := undef) rfl (by kernel_rfl) (by kernel_rfl) (by kernel_rfl) (fun _ _ _ h => h) (Or.inr ⟨by kernel_rfl, rfl⟩) (by assumption) ?_; simp only [Act.put, List.setIfInBounds_toArray, List.set_cons_zero, List.set_cons_succ])
        (refine wpAnyH_take (i := 6) (oi := Oper.mk _ _ _ _ _ _) (v := undef) rfl (by kernel_rfl) (by kernel_rfl) (by kernel_rfl) (fun _ _ _ h => h) (Or.inr ⟨by kernel_rfl, rfl⟩) (by assumption) ?_; simp only [Act.put, List.setIfInBounds_toArray, List.set_cons_zero, List.set_cons_succ])
        (refine wpAnyH_take (i := 7) (oi := Oper.mk _ _ _ _ _ _) (v := undef) rfl (by kernel_rfl) (by kernel_rfl) (by kernel_rfl) (fun _ _ _ h => h) (Or.inr ⟨by kernel_rfl, rfl⟩) (by assumption) ?_; simp only [Act.put, List.setIfInBounds_toArray, List.set_cons_zero, List.set_cons_succ])
        (refine wpAnyH_take (i := 8) (oi := Oper.mk _ _ _ _ _ _) (v := undef) rfl (by kernel_rfl) (by kernel_rfl) (by kernel_rfl) (fun _ _ _ h => h) (Or.inr ⟨by kernel_rfl, rfl⟩) (by assumption) ?_; simp only [Act.put, List.setIfInBounds_toArray, List.set_cons_zero, List.set_cons_succ])
        (refine wpAnyH_take (i := 9) (oi := Oper.mk _ _ _ _ _ _) (v := undef) rfl (by kernel_rfl) (by kernel_rfl) (by kernel_rfl) (fun _ _ _ h => h) (Or.inr ⟨by kernel_rfl, rfl⟩) (by assumption) ?_; simp only [Act.put, List.setIfInBounds_toArray, List.set_cons_zero, List.set_cons_succ])
        (refine wpAnyH_ready (rs := [10]) (by kernel_rfl) (by simp) ?_; refine AllReadyH.cons (o := Oper.mk _ _ _ _ _ _) rfl (fun K hK => ?_) AllReadyH.nil; rw [if_neg (Bool.eq_false_iff.1 (by kernel_rfl))]; refine hK.out _ _ (by assumption) (fun _ => ?_); (clear hK K); (try simp only [Act.put, List.setIfInBounds_toArray, List.set_cons_zero, List.set_cons_succ]))
        (refine wpAnyH_take (i := 11) (oi := Oper.mk _ _ _ _ _ _) (v := undef) rfl (by kernel_rfl) (by kernel_rfl) (by kernel_rfl) (fun _ _ _ h => h) (Or.inr ⟨by kernel_rfl, rfl⟩) (by assumption) ?_; simp only [Act.put, List.setIfInBounds_toArray, List.set_cons_zero, List.set_cons_succ])
        (refine wpAnyH_take (i := 12) (oi := Oper.mk _ _ _ _ _ _) (v := ?_) rfl (by kernel_rfl) (by kernel_rfl) (by kernel_rfl) (fun _ _ _ h => h) ?_ (by assumption) ?_; rotate_left; (focus (refine Or.inl ⟨by rfl, ?_⟩; intro wS hSw; (try dsimp only at hSw); go_simp; first | done | with_reducible rfl)); simp only [Act.put, List.setIfInBounds_toArray, List.set_cons_zero, List.set_cons_succ])
        refine wpAnyH_done (by kernel_rfl) ?_ _
        go_wp2_with fail
        go_quiet (fail)
        go_wp2_with (first
        | (at_builtin
           go_loud (refine wpList_append_rw _ rfl (.tmp 39) (.tmp 44) _ rfl grpE_len grpE_one (w.heap.size + 1) 45 inf _ 72 Tryd.underlying22 hi0 iz0 iz1 iz2 rfl (by omega) u5 L rfl ?_ (wr.heap.size + 1) _ 1 1 [y] rfl rfl ?_ ?_ ?_ ?_ ?_
                    · exact Own.all hown (by repeat (first | (with_reducible exact Below.refl _ _) | (with_reducible refine Below.drew ?_) | (with_reducible refine below_drewN ?_ _) | ((with_reducible refine Below.alloc ?_ ?_ _); rotate_left; focus ((try simp) <;> omega)) | ((with_reducible refine Below.setCell ?_ ?_ _); rotate_left; focus ((try simp) <;> omega)) | ((with_reducible refine Below.trans ?_ (Below.mono (by assumption) ?_)); rotate_left; focus ((try simp) <;> omega))))
                    · exact rw_litA (by simp) (by (try simp) <;> omega)
                    · (try simp [maxLen]) <;> omega
                    · (try simp) <;> omega
                    · (try simp) <;> omega
                    intro v4 w4 hown4 hg4 hat4
                    have hz4 := hg4.size
                    (try simp at hz4)
                    skip))
        | (at_builtin; fail))
        go_roundw
        case rel =>
          refine ⟨k + 1, L ++ [y], by go_num, by omega, ?_, hown4, ?_, ?_, ?_⟩
          · rw [show decide (T < k + 1) = true from decide_eq_true (by omega)]
          · rw [List.map_append, hL.out, hnx.out]; rfl
          · intro z hz
            rcases List.mem_append.1 hz with h | h
            · exact hin.out z h
            · exact .inl ((List.mem_singleton.1 h) ▸ hyl)
          · exact (Below.grown (hbw.trans (Below.mono (B := wr.heap.size) (by repeat (first | (with_reducible exact Below.refl _ _) | (with_reducible refine Below.drew ?_) | (with_reducible refine below_drewN ?_ _) | ((with_reducible refine Below.alloc ?_ ?_ _); rotate_left; focus ((try simp) <;> omega)) | ((with_reducible refine Below.setCell ?_ ?_ _); rotate_left; focus ((try simp) <;> omega)) | ((with_reducible refine Below.trans ?_ (Below.mono (by assumption) ?_)); rotate_left; focus ((try simp) <;> omega)))) (by omega))) hg4 (by (try simp) <;> omega) fun q hq => (hlow.out q hq).1)
        case measure => simp [intOf]; omega
    · have i1 : ¬ (k : Int) < (l.length : Int) := by omega
      have hkl2 : k = l.length := by omega
      by_cases hTl : T < k
      · rw [show decide (T < k) = true from decide_eq_true hTl]
        have hfin := putR_end (g := x.g) ha.out (by rw [hT.out]; simpa [← hkl2] using hTl)
        rw [List.length_map, ← hkl2] at hfin
        go_wp2_with fail
        go_ret
        obtain ⟨A', c', rfl, h1, h2, _⟩ := hown.form
        exact ⟨A', c', L, rfl, hown, hin.out, hL.out.trans hfin, hbw0⟩
      · rw [show decide (T < k) = false from decide_eq_false hTl]
        have hfin := putR_last (g := x.g) ha.out (by rw [hT.out]; simpa [← hkl2] using hTl)
        rw [List.length_map, ← hkl2] at hfin
        replace hfin := Lib.hid hfin
        replace hlow := Lib.hid hlow
        go_wp2_with (first
        | (at_builtin
           go_loud (refine wpList_append_rw _ rfl (.tmp 48) (.tmp 50) _ rfl grpE_len grpE_one (w.heap.size + 1) 45 inf _ 72 Tryd.underlying22 hi0 iz0 iz1 iz2 rfl (by omega) u5 L rfl ?_ (wr.heap.size + 1) _ 1 1 [x] rfl rfl ?_ ?_ ?_ ?_ ?_
                    · exact Own.all hown (by repeat (first | (with_reducible exact Below.refl _ _) | (with_reducible refine Below.drew ?_) | (with_reducible refine below_drewN ?_ _) | ((with_reducible refine Below.alloc ?_ ?_ _); rotate_left; focus ((try simp) <;> omega)) | ((with_reducible refine Below.setCell ?_ ?_ _); rotate_left; focus ((try simp) <;> omega)) | ((with_reducible refine Below.trans ?_ (Below.mono (by assumption) ?_)); rotate_left; focus ((try simp) <;> omega))))
                    · exact rw_litA (by simp) (by (try simp) <;> omega)
                    · (try simp [maxLen]) <;> omega
                    · (try simp) <;> omega
                    · (try simp) <;> omega
                    intro v4 w4 hown4 hg4 hat4
                    have hz4 := hg4.size
                    (try simp at hz4)
                    skip))
        | (at_builtin; fail))
        go_ret
        have hb4 : Below w.heap.size w w4 := hb1.trans (Below.mono (B := w.heap.size + 1) (Below.grown (hbw.trans (Below.mono (B := wr.heap.size) (by repeat (first | (with_reducible exact Below.refl _ _) | (with_reducible refine Below.drew ?_) | (with_reducible refine below_drewN ?_ _) | ((with_reducible refine Below.alloc ?_ ?_ _); rotate_left; focus ((try simp) <;> omega)) | ((with_reducible refine Below.setCell ?_ ?_ _); rotate_left; focus ((try simp) <;> omega)) | ((with_reducible refine Below.trans ?_ (Below.mono (by assumption) ?_)); rotate_left; focus ((try simp) <;> omega)))) (by omega))) hg4 (by (try simp) <;> omega) fun q hq => (hlow.out q hq).1) (by omega))
        obtain ⟨A', c', rfl, h1, h2, _⟩ := hown4.form
        exact ⟨A', c', L ++ [x], rfl, hown4, (fun z hz => by
          rcases List.mem_append.1 hz with h | h
          · exact hin.out z h
          · exact .inr (List.mem_singleton.1 h)), by rw [List.map_append, hL.out]; exact hfin.out, hb4⟩
theorem rput_any (A : Option Addr) (c : Nat) (l : List Grp) (x : Grp) (w : World) (hr : RwG w w.heap.size A l) (hx : LabGrp w w.heap.size x) (ha : AscN (l.map Grp.g)) (hn : l.length ≤ 1000000) :
    Calls Tryd.prog 46 #[.slice A l.length c, (.agg #[.string x.name.1, .string x.run.1, .string x.job.1, .slice x.waitA x.wait.length x.waitC])] w fun e w' => ∃ (A' : Option Addr) (c' : Nat) (L : List Grp), e = .returned (.slice A' L.length c') ∧ RwG w' w'.heap.size A' L ∧ L.length ≤ c' ∧ L.map Grp.g = putG (l.map Grp.g) x.g ∧ Below w.heap.size w w' := by
  refine (rput_own A c l x w hr hx ha hn).mono ?_
  rintro e w' ⟨A', c', L, rfl, ho, hin, hm, hb⟩
  obtain ⟨_, _, e2, h1, _⟩ := ho.form
  simp only [Value.slice.injEq] at e2
  obtain ⟨rfl, -, rfl⟩ := e2
  refine ⟨_, _, L, rfl, ⟨ho.reads grpE_len, fun y hy => ?_⟩, h1, hm, hb⟩
  rcases hin y hy with h | rfl
  · exact ((hr.labs y h).below hb (Nat.le_refl _)).more hb.size
  · exact (hx.below hb (Nat.le_refl _)).more hb.size
end Go.Proofs.YtbellobjajnlkaaDoor
