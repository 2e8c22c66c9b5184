/-
  The walks of groups: a job leaves all groups, by the reference.
-/
import Derived.Test.YtbellobjajnlkaaDoorCon24



namespace Go.Proofs.YtbellobjajnlkaaDoor
open Go.RowKit

attribute [local go_sem ↓] eq_ref ne_ref
theorem rw_litJ {w : World} {g B : Nat} {x : JRef} (hg : g = w.heap.size) (hB : g < B) : Rw jRefE 2 (w.alloc (.cells #[.string x.run.1, .string x.job.1] 29)) B (some ⟨g, 0, none⟩) [x] := by
  subst hg
  exact rw_lit hB (box_cells w _ _ 0 _ rfl) (box_cells w _ _ 1 _ rfl)
set_option maxRecDepth 100000 in
set_option maxHeartbeats 4000000 in
theorem rwithout_any (A : Option Addr) (c : Nat) (l : List JRef) (r : JRef) (w : World) (hr : Rw jRefE 2 w w.heap.size A l) (hn : l.length ≤ 1000000) :
    Calls Tryd.prog 47 #[.slice A l.length c, .agg #[.string r.run.1, .string r.job.1]] w fun e w' => ∃ (A' : Option Addr) (c' : Nat), e = .returned (.slice A' (outR l r).length c') ∧ Own jRefE 2 29 w' w.heap.size (.slice A' (outR l r).length c') (outR l r) ∧ Below w.heap.size w w' := by
  obtain ⟨inf, hi0, iz0, iz1, iz2⟩ := info_three ref_info
  obtain ⟨W1, hW1, hbW, hzW, c0, c1⟩ : ∃ W, w.alloc (.cells #[.string r.run.1, .string r.job.1] 29) = W ∧ Below w.heap.size w W ∧ W.heap.size = w.heap.size + 1 ∧ W.cell? ⟨w.heap.size, 0, none⟩ = some (.string r.run.1) ∧ W.cell? ⟨w.heap.size, 1, none⟩ = some (.string r.job.1) := ⟨_, rfl, (Below.refl _ _).alloc (Nat.le_refl _) _, by simp, by go_simp, by go_simp⟩
  have hz1a := Nat.le_of_eq hzW
  have hz1b := Nat.le_of_eq hzW.symm
  replace hzW := Lib.hid hzW
  have hbx : Hid (∀ W, Below (w.heap.size + 1) W1 W → W.cell? ⟨w.heap.size, 0, none⟩ = some (.string r.run.1) ∧ W.cell? ⟨w.heap.size, 1, none⟩ = some (.string r.job.1)) := Lib.hid fun W hb => ⟨(hb.cell (p := ⟨w.heap.size, 0, none⟩) (Nat.lt_succ_self _)).trans c0, (hb.cell (p := ⟨w.heap.size, 1, none⟩) (Nat.lt_succ_self _)).trans c1⟩
  replace hr := Lib.hid hr
  go_enter Tryd.func47, Tryd.ntmps47
  go_wp2_with fail
  go_loopw [5, 6] (fun vo vi wr => ∃ k : Nat, k ≤ l.length ∧ vi = .int .i64 (k : Int) ∧ Own jRefE 2 29 wr (w.heap.size + 1) vo (outR (l.take k) r) ∧ Below (w.heap.size + 1) W1 wr) (fun _ vi _ => l.length - (intOf vi).toNat)
  case atStart => exact ⟨0, Nat.zero_le _, rfl, Own.nil _ _ _, Below.refl _ _⟩
  case round =>
    obtain ⟨k, hk, rfl, hown, hbw⟩ := hrel
    have hz := hbw.size
    have hlow := Lib.hid hown.lt
    have hbw0 : Below w.heap.size w wr := hbW.trans (hbw.mono (by omega))
    by_cases hkl : k < l.length
    · obtain ⟨x, hx⟩ := get_some hkl
      obtain ⟨g, o, rfl, hg, q⟩ := hr.out (by omega)
      have q0 : wr.cell? ⟨g, o + k * 2, none⟩ = some (.string x.run.1) := (hbw0.cell (p := ⟨g, o + k * 2, none⟩) hg).trans (q k x hx 0 (.string x.run.1) rfl)
      have q1 : wr.cell? ⟨g, o + k * 2 + 1, none⟩ = some (.string x.job.1) := (hbw0.cell (p := ⟨g, o + k * 2 + 1, none⟩) hg).trans (q k x hx 1 (.string x.job.1) rfl)
      clear q
      obtain ⟨b0, b1⟩ := hbx.out wr hbw
      have hgr : g < wr.heap.size := by omega
      have hwr : w.heap.size < wr.heap.size := by omega
      have i0 : (0 : Int) ≤ (k : Int) := by omega
      have i1 : (k : Int) < (l.length : Int) := by omega
      have hq := refB_iff x.run x.job r.run r.job
      obtain ⟨L, hL⟩ : ∃ L, outR (l.take k) r = L := ⟨_, rfl⟩
      have hLl : L.length ≤ l.length := by
        have h1 := outR_len (l.take k) r
        rw [hL, List.length_take] at h1
        omega
      have hsn : outR (l.take (k + 1)) r = L ++ if x = r then [] else [x] := by rw [take_at hx, outR_snoc, hL]
      rw [hL] at hown
      replace hL := Lib.hid hL
      replace hx := Lib.hid hx
      by_cases he : x = r
      · have hs : refB x.run.1 x.job.1 r.run.1 r.job.1 = true := hq.trans (decide_eq_true he)
        rw [if_pos he, List.append_nil] at hsn
        replace hsn := Lib.hid hsn
        clear hq
        replace he := Lib.hid he
        go_wp2_with fail
        go_quiet (fail)
        go_wp2_with fail
        go_roundw
        case rel => exact ⟨k + 1, by omega, by go_num, by rw [hsn.out]; exact hown.all (by repeat (first | (with_reducible exact Below.refl _ _) | (with_reducible refine Below.drew ?_) | (with_reducible refine below_drewN ?_ _) | ((with_reducible refine Below.alloc ?_ ?_ _); rotate_left; focus ((try simp) <;> omega)) | ((with_reducible refine Below.setCell ?_ ?_ _); rotate_left; focus ((try simp) <;> omega)) | ((with_reducible refine Below.trans ?_ (Below.mono (by assumption) ?_)); rotate_left; focus ((try simp) <;> omega)))), hbw.trans (Below.mono (B := wr.heap.size) (by repeat (first | (with_reducible exact Below.refl _ _) | (with_reducible refine Below.drew ?_) | (with_reducible refine below_drewN ?_ _) | ((with_reducible refine Below.alloc ?_ ?_ _); rotate_left; focus ((try simp) <;> omega)) | ((with_reducible refine Below.setCell ?_ ?_ _); rotate_left; focus ((try simp) <;> omega)) | ((with_reducible refine Below.trans ?_ (Below.mono (by assumption) ?_)); rotate_left; focus ((try simp) <;> omega)))) (by omega))⟩
        case measure => simp [intOf]; omega
      · have hs : refB x.run.1 x.job.1 r.run.1 r.job.1 = false := hq.trans (decide_eq_false he)
        rw [if_neg he] at hsn
        replace hsn := Lib.hid hsn
        clear hq
        replace he := Lib.hid he
        go_wp2_with fail
        go_quiet (fail)
        go_wp2_with (first
          | (at_builtin
             go_loud (refine wpList_append_rw _ rfl (.tmp 19) (.tmp 24) _ rfl jRefE_len jRefE_one (w.heap.size + 1) 29 inf _ 32 Tryd.underlying33 hi0 iz0 iz1 iz2 rfl (by omega) u5 L rfl ?_ (wr.heap.size + 1) _ 1 1 [x] rfl rfl ?_ ?_ ?_ ?_ ?_
                      · exact hown.all (by repeat (first | (with_reducible exact Below.refl _ _) | (with_reducible refine Below.drew ?_) | (with_reducible refine below_drewN ?_ _) | ((with_reducible refine Below.alloc ?_ ?_ _); rotate_left; focus ((try simp) <;> omega)) | ((with_reducible refine Below.setCell ?_ ?_ _); rotate_left; focus ((try simp) <;> omega)) | ((with_reducible refine Below.trans ?_ (Below.mono (by assumption) ?_)); rotate_left; focus ((try simp) <;> omega))))
                      · exact rw_litJ (by simp) (by (try simp) <;> omega)
                      · (try simp [maxLen]) <;> omega
                      · (try simp) <;> omega
                      · (try simp) <;> omega
                      intro v3 w3 hown3 hg3 hat3
                      have hz3 := hg3.size
                      (try simp at hz3)
                      have hB3 := Lib.hid (Below.grown (hbw.trans (Below.mono (B := wr.heap.size) (by repeat (first | (with_reducible exact Below.refl _ _) | (with_reducible refine Below.drew ?_) | (with_reducible refine below_drewN ?_ _) | ((with_reducible refine Below.alloc ?_ ?_ _); rotate_left; focus ((try simp) <;> omega)) | ((with_reducible refine Below.setCell ?_ ?_ _); rotate_left; focus ((try simp) <;> omega)) | ((with_reducible refine Below.trans ?_ (Below.mono (by assumption) ?_)); rotate_left; focus ((try simp) <;> omega)))) (by omega))) hg3 (by (try simp) <;> omega) fun q hq => (hlow.out q hq).1)))
          | fail)
        go_roundw
        case rel => exact ⟨k + 1, by omega, by go_num, by rw [hsn.out]; exact hown3, hB3.out⟩
        case measure => simp [intOf]; omega
    · have i1 : ¬ (k : Int) < (l.length : Int) := by omega
      have he : l.take k = l := List.take_of_length_le (by omega)
      rw [he] at hown
      go_wp2_with fail
      go_ret
      obtain ⟨A', c', rfl, _, _, _⟩ := hown.form
      exact ⟨A', c', rfl, hown.base (by omega), hbw0⟩
/-- The groups kept by the reference: of the call's own, apart from their row by their kind. -/
structure MidM (B : Nat) (w : World) (l L : List Grp) (vo : Value) (r : JRef) (i : Nat) : Prop where
  out : Own grpE 4 45 w B vo L
  outs : ∀ y ∈ L, OwnG w B y
  maps : L.map Grp.g = leaveT (l.map Grp.g) r i
theorem MidM.all {B : Nat} {w w' : World} {l L : List Grp} {vo : Value} {r : JRef} {i : Nat} (h : MidM B w l L vo r i) (hb : Below w.heap.size w w') : MidM B w' l L vo r i := ⟨h.out.all hb, fun y hy => (h.outs y hy).all hb, h.maps⟩
theorem MidM.drop {B : Nat} {w : World} {l L : List Grp} {vo : Value} {r : JRef} {i : Nat} (h : MidM B w l L vo r i) {x : Grp} (hx : l[i]? = some x) (hj : jobsG (dropG r x.g) = []) : MidM B w l L vo r (i + 1) := ⟨h.out, h.outs, by
  rw [leaveT_next (x := x.g) (by rw [List.getElem?_map, hx]; rfl), if_pos hj, List.append_nil]
  exact h.maps⟩
theorem MidM.keep {B : Nat} {w w' : World} {l L : List Grp} {vo v' : Value} {r : JRef} {i : Nat} (h : MidM B w l L vo r i) {x y : Grp} (hx : l[i]? = some x) (hyg : y.g = dropG r x.g) (hj : ¬ jobsG (dropG r x.g) = []) (hy : OwnG w B y) (hg : w.grownBy w' vo.ownBlock) (ho : Own grpE 4 45 w' B v' (L ++ [y])) : MidM B w' l (L ++ [y]) v' r (i + 1) := by
  have hk : ∀ {z : Grp}, OwnG w B z → OwnG w' B z := fun {z} hz => Own.grown hz hg fun q hq e => own_types hz h.out q hq e.symm
  refine ⟨ho, fun z hz => ?_, ?_⟩
  · rcases List.mem_append.1 hz with h4 | h4
    · exact hk (h.outs z h4)
    · obtain rfl := List.mem_singleton.1 h4
      exact hk hy
  · rw [leaveT_next (x := x.g) (by rw [List.getElem?_map, hx]; rfl), if_neg hj, List.map_append, h.maps, ← hyg]
    rfl
theorem leaveT_len (gs : List G) (r : JRef) (i : Nat) : (leaveT gs r i).length ≤ i := by
  unfold leaveT
  refine Nat.le_trans (List.length_filter_le _ _) ?_
  rw [List.length_map, List.length_take]
  omega
end Go.Proofs.YtbellobjajnlkaaDoor
