/-
  The walks of the queue: a job removed, by the program and by the reference.
-/
import Derived.Test.YtnhfbignnnicnaaDoorQue15



namespace Go.Proofs.YtnhfbignnnicnaaDoor
open Go.RowKit

theorem map_erase {α β : Type} (f : α → β) (l : List α) (k : Nat) : (l.eraseIdx k).map f = (l.map f).eraseIdx k := by
  rw [List.eraseIdx_eq_take_drop_succ, List.map_append, List.map_take, List.map_drop, ← List.eraseIdx_eq_take_drop_succ]
def remB (r j : Str) (l : List Pend) : Bool := decide (0 ≤ findI r j l)
def remL (r j : Str) (l : List Pend) : List Pend := if 0 ≤ findI r j l then l.eraseIdx (findI r j l).toNat else l
theorem findI_range (r j : Str) (l : List Pend) : findI r j l = -1 ∨ ∃ k : Nat, findI r j l = k ∧ k < l.length := by
  unfold findI
  split
  · rename_i h; exact Or.inr ⟨_, rfl, h⟩
  · exact Or.inl rfl
theorem rem_no {r j : Str} {l : List Pend} (h : findI r j l = -1) : remB r j l = false ∧ remL r j l = l := by
  unfold remB remL; rw [h]; exact ⟨rfl, rfl⟩
theorem rem_yes {r j : Str} {l : List Pend} {k : Nat} (h : findI r j l = k) : remB r j l = true ∧ remL r j l = l.eraseIdx k := by
  unfold remB remL; rw [h]; refine ⟨by simp, by rw [if_pos (by omega)]; rfl⟩

set_option maxRecDepth 100000 in
set_option maxHeartbeats 4000000 in
theorem remove_any (A : Option Addr) (c : Nat) (l : List Pend) (r j : Str) (w : World) (hr : RwL w w.heap.size A l) (hn : l.length ≤ 5000) (h40 : sumL l) :
    Calls Tryd.prog 24 #[.slice A l.length c, .agg #[.string r.1, .string j.1]] w fun e w' => ∃ A' l' c', e = .returned (.tuple #[.slice A' l'.length c', .bool (remB r j l)]) ∧ RwL w' w'.heap.size A' l' ∧ l'.map core = (remL r j l).map core ∧ Below w.heap.size w w' := by
  have hfd : Hid (∀ W, Below w.heap.size w W → Calls Tryd.prog 30 #[.slice A l.length c, .agg #[.string r.1, .string j.1]] W fun e w' => e = .returned (.int .i64 (findI r j l)) ∧ Below W.heap.size W w') := Lib.hid fun W hb => at_any A c l r j W ((hr.row.below hb (Nat.le_refl _)).more hb.size) (by omega)
  have hrd : Hid (∀ W, Below w.heap.size w W → RwL W W.heap.size A l) := Lib.hid fun W hb => (hr.below hb (Nat.le_refl _)).more hb.size
  have hal : Hid (∀ W, Below w.heap.size w W → Calls Tryd.prog 31 #[.slice A l.length c] W fun e w' => ∃ v l', e = .returned v ∧ OwnL w' W.heap.size v l' ∧ l'.map core = l.map core ∧ Below W.heap.size W w') := Lib.hid fun W hb => all_any A c l W ((hr.below hb (Nat.le_refl _)).more hb.size) hn h40
  clear hr
  rcases findI_range r j l with h1 | ⟨k, h1, hk⟩
  · obtain ⟨e1, e2⟩ := rem_no h1
    rw [e1, e2]
    rw [h1] at hfd
    go_enter Tryd.func24, Tryd.ntmps24
    go_wp2_with (first
      | (go_at_call 30; go_must (refine (hfd.out _ (by repeat (first | (with_reducible exact Below.refl _ _) | (with_reducible refine Below.drew ?_) | (with_reducible refine below_drewN ?_ _) | ((with_reducible refine Below.alloc ?_ ?_ _); rotate_left; focus ((try simp) <;> omega)) | ((with_reducible refine Below.setCell ?_ ?_ _); rotate_left; focus ((try simp) <;> omega)) | ((with_reducible refine Below.trans ?_ (Below.mono (by assumption) ?_)); rotate_left; focus ((try simp) <;> omega))))).mono ?_; rintro e w2 ⟨rfl, hb2⟩; have hz2 := hb2.size)))
    exact bodyPost_ret (v := .tuple #[.slice A l.length c, .bool false]) (by simp [results, Tryd.results24, go_sem]) rfl ⟨A, l, c, rfl, hrd.out _ (by repeat (first | (with_reducible exact Below.refl _ _) | (with_reducible refine Below.drew ?_) | (with_reducible refine below_drewN ?_ _) | ((with_reducible refine Below.alloc ?_ ?_ _); rotate_left; focus ((try simp) <;> omega)) | ((with_reducible refine Below.setCell ?_ ?_ _); rotate_left; focus ((try simp) <;> omega)) | ((with_reducible refine Below.trans ?_ (Below.mono (by assumption) ?_)); rotate_left; focus ((try simp) <;> omega)))), rfl, (by repeat (first | (with_reducible exact Below.refl _ _) | (with_reducible refine Below.drew ?_) | (with_reducible refine below_drewN ?_ _) | ((with_reducible refine Below.alloc ?_ ?_ _); rotate_left; focus ((try simp) <;> omega)) | ((with_reducible refine Below.setCell ?_ ?_ _); rotate_left; focus ((try simp) <;> omega)) | ((with_reducible refine Below.trans ?_ (Below.mono (by assumption) ?_)); rotate_left; focus ((try simp) <;> omega))))⟩
  · obtain ⟨e1, e2⟩ := rem_yes h1
    rw [e1, e2]
    rw [h1] at hfd
    replace h1 := Lib.hid h1
    replace e1 := Lib.hid e1
    replace e2 := Lib.hid e2
    go_enter Tryd.func24, Tryd.ntmps24
    have hkz : ¬ (k : Int) < 0 := by omega
    obtain ⟨j1, hj1⟩ : ∃ j1, j1 = k + 1 := ⟨_, rfl⟩
    have hjz : (k : Int) + 1 = (j1 : Int) := by omega
    replace hj1 := Lib.hid hj1
    go_wp2_with (first
      | (go_at_call 30; go_must (refine (hfd.out _ (by repeat (first | (with_reducible exact Below.refl _ _) | (with_reducible refine Below.drew ?_) | (with_reducible refine below_drewN ?_ _) | ((with_reducible refine Below.alloc ?_ ?_ _); rotate_left; focus ((try simp) <;> omega)) | ((with_reducible refine Below.setCell ?_ ?_ _); rotate_left; focus ((try simp) <;> omega)) | ((with_reducible refine Below.trans ?_ (Below.mono (by assumption) ?_)); rotate_left; focus ((try simp) <;> omega))))).mono ?_; rintro e w2 ⟨rfl, hb2⟩; have hz2 := hb2.size; (try simp at hz2)))
      | (go_at_call 31; go_must (refine (hal.out _ (by repeat (first | (with_reducible exact Below.refl _ _) | (with_reducible refine Below.drew ?_) | (with_reducible refine below_drewN ?_ _) | ((with_reducible refine Below.alloc ?_ ?_ _); rotate_left; focus ((try simp) <;> omega)) | ((with_reducible refine Below.setCell ?_ ?_ _); rotate_left; focus ((try simp) <;> omega)) | ((with_reducible refine Below.trans ?_ (Below.mono (by assumption) ?_)); rotate_left; focus ((try simp) <;> omega))))).mono ?_; rintro e w5 ⟨v5, l5, rfl, hown5, hco5, hb5⟩; have hz5 := hb5.size; have hl5 : l5.length = l.length := (by simpa using congrArg List.length hco5); obtain ⟨g, cap, hv, hg1, hg2⟩ := World.ownsRow.form hown5.row (by omega); subst hv; obtain ⟨_, _, hform, hcap, hm5, _⟩ := hown5.row.form; obtain ⟨rfl, rfl⟩ : some (⟨g, 0, none⟩ : Addr) = _ ∧ cap = _ := (by simpa using hform); unfold maxLen at hm5; clear hform))
      | (go_at_call 43; go_must (rw [← hl5]; refine (delete_any g cap k j1 hj1.out l5 w2.heap.size w5 hown5.row (by omega) hg1 hg2 hcap hm5).mono ?_; rintro e w6 ⟨rfl, hrow6, hblk6, hb6⟩; rw [hl5])))
    have hz6 := hb6.size
    have hlen : (l5.eraseIdx k).length = l.length - 1 := by rw [List.length_eraseIdx, if_pos (by omega), hl5]
    exact bodyPost_ret (v := .tuple #[.slice (some ⟨g, 0, none⟩) (l.length - 1) cap, .bool true]) (by simp [results, Tryd.results24, go_sem]) rfl ⟨some ⟨g, 0, none⟩, l5.eraseIdx k, cap, by rw [hlen], ⟨hrow6.more (by omega), fun x hx => by
      have hx2 := List.mem_of_mem_eraseIdx hx
      have hl := hown5.labs x hx2
      have ho := hl.1.at_same (w' := w6) fun g' hg' => hblk6 g' ((hl.1.lt g' hg').2) (fun e => hl.2 g' hg' (by rw [e]; rfl))
      exact LabO.lab (row := none) ⟨ho, fun _ _ => by simp⟩⟩, by rw [map_erase, map_erase, hco5], (by repeat (first | (with_reducible exact Below.refl _ _) | (with_reducible refine Below.drew ?_) | (with_reducible refine below_drewN ?_ _) | ((with_reducible refine Below.alloc ?_ ?_ _); rotate_left; focus ((try simp) <;> omega)) | ((with_reducible refine Below.setCell ?_ ?_ _); rotate_left; focus ((try simp) <;> omega)) | ((with_reducible refine Below.trans ?_ (Below.mono (by assumption) ?_)); rotate_left; focus ((try simp) <;> omega))))⟩
set_option maxRecDepth 100000 in
set_option maxHeartbeats 4000000 in
theorem rremove_any (A : Option Addr) (c : Nat) (l : List Pend) (r j : Str) (w : World) (hr : RwL w w.heap.size A l) (hn : l.length ≤ 5000) (hlc : l.length ≤ c) :
    Calls Tryd.prog 25 #[.slice A l.length c, .agg #[.string r.1, .string j.1]] w fun e w' => ∃ A' l' c', e = .returned (.tuple #[.slice A' l'.length c', .bool (remB r j l)]) ∧ RwL w' w'.heap.size A' l' ∧ l'.map core = (remL r j l).map core ∧ Below w.heap.size w w' := by
  obtain ⟨inf, hi0, iz0, iz1, iz2⟩ := info_parts pend_info
  have hfd : Hid (∀ W, Below w.heap.size w W → Calls Tryd.prog 22 #[.slice A l.length c, .agg #[.string r.1, .string j.1]] W fun e w' => e = .returned (.int .i64 (findI r j l)) ∧ Below W.heap.size W w') := Lib.hid fun W hb => find_any A c l r j W ((hr.row.below hb (Nat.le_refl _)).more hb.size) (by omega)
  have hrd : Hid (∀ W, Below w.heap.size w W → RwL W W.heap.size A l) := Lib.hid fun W hb => (hr.below hb (Nat.le_refl _)).more hb.size
  rcases findI_range r j l with h1 | ⟨k, h1, hk⟩
  · clear hr
    obtain ⟨e1, e2⟩ := rem_no h1
    rw [e1, e2]
    rw [h1] at hfd
    go_enter Tryd.func25, Tryd.ntmps25
    go_wp2_with (first
      | (go_at_call 22; go_must (refine (hfd.out _ (by repeat (first | (with_reducible exact Below.refl _ _) | (with_reducible refine Below.drew ?_) | (with_reducible refine below_drewN ?_ _) | ((with_reducible refine Below.alloc ?_ ?_ _); rotate_left; focus ((try simp) <;> omega)) | ((with_reducible refine Below.setCell ?_ ?_ _); rotate_left; focus ((try simp) <;> omega)) | ((with_reducible refine Below.trans ?_ (Below.mono (by assumption) ?_)); rotate_left; focus ((try simp) <;> omega))))).mono ?_; rintro e w2 ⟨rfl, hb2⟩; have hz2 := hb2.size)))
    exact bodyPost_ret (v := .tuple #[.slice A l.length c, .bool false]) (by simp [results, Tryd.results25, go_sem]) rfl ⟨A, l, c, rfl, hrd.out _ (by repeat (first | (with_reducible exact Below.refl _ _) | (with_reducible refine Below.drew ?_) | (with_reducible refine below_drewN ?_ _) | ((with_reducible refine Below.alloc ?_ ?_ _); rotate_left; focus ((try simp) <;> omega)) | ((with_reducible refine Below.setCell ?_ ?_ _); rotate_left; focus ((try simp) <;> omega)) | ((with_reducible refine Below.trans ?_ (Below.mono (by assumption) ?_)); rotate_left; focus ((try simp) <;> omega)))), rfl, (by repeat (first | (with_reducible exact Below.refl _ _) | (with_reducible refine Below.drew ?_) | (with_reducible refine below_drewN ?_ _) | ((with_reducible refine Below.alloc ?_ ?_ _); rotate_left; focus ((try simp) <;> omega)) | ((with_reducible refine Below.setCell ?_ ?_ _); rotate_left; focus ((try simp) <;> omega)) | ((with_reducible refine Below.trans ?_ (Below.mono (by assumption) ?_)); rotate_left; focus ((try simp) <;> omega))))⟩
  · obtain ⟨e1, e2⟩ := rem_yes h1
    rw [e1, e2]
    rw [h1] at hfd
    obtain ⟨g, o, rfl, hgB, _⟩ := hr.row (by omega)
    clear hr
    replace h1 := Lib.hid h1
    replace e1 := Lib.hid e1
    replace e2 := Lib.hid e2
    go_enter Tryd.func25, Tryd.ntmps25
    have hkz : ¬ (k : Int) < 0 := by omega
    have hk1 : k ≤ c := by omega
    have hk2 : (k : Int) ≤ (c : Int) := by omega
    obtain ⟨j1, hj1⟩ : ∃ j1, k + 1 = j1 := ⟨_, rfl⟩
    have hjz : (k : Int) + 1 = (j1 : Int) := by omega
    have hj2 : (j1 : Int) ≤ (l.length : Int) := by omega
    have hj3 : j1 ≤ l.length := by omega
    have hj4 : j1 ≤ c := by omega
    replace hj1 := Lib.hid hj1
    go_wp2_with (first
      | (go_at_call 22; go_must (refine (hfd.out _ (by repeat (first | (with_reducible exact Below.refl _ _) | (with_reducible refine Below.drew ?_) | (with_reducible refine below_drewN ?_ _) | ((with_reducible refine Below.alloc ?_ ?_ _); rotate_left; focus ((try simp) <;> omega)) | ((with_reducible refine Below.setCell ?_ ?_ _); rotate_left; focus ((try simp) <;> omega)) | ((with_reducible refine Below.trans ?_ (Below.mono (by assumption) ?_)); rotate_left; focus ((try simp) <;> omega))))).mono ?_; rintro e w2 ⟨rfl, hb2⟩; have hz2 := hb2.size; (try simp at hz2)))
      | (at_builtin
         refine wpList_append_rw _ rfl (.tmp 14) (.tmp 17) _ rfl pendE_len pendE_one w.heap.size 27 inf _ 128 Tryd.underlying22 hi0 iz0 iz1 iz2 rfl (by omega) (.slice none 0 0) [] rfl (Own.nil _ _ _) w2.heap.size (some ⟨g, o, none⟩) k c (l.take k) (by rw [List.length_take]; omega) rfl (hrd.out _ (by repeat (first | (with_reducible exact Below.refl _ _) | (with_reducible refine Below.drew ?_) | (with_reducible refine below_drewN ?_ _) | ((with_reducible refine Below.alloc ?_ ?_ _); rotate_left; focus ((try simp) <;> omega)) | ((with_reducible refine Below.setCell ?_ ?_ _); rotate_left; focus ((try simp) <;> omega)) | ((with_reducible refine Below.trans ?_ (Below.mono (by assumption) ?_)); rotate_left; focus ((try simp) <;> omega))))).row.take ?_ ?_ ?_ ?_
         · (try simp [maxLen]) <;> omega
         · (try simp) <;> omega
         · (try simp) <;> omega
         intro v3 w3 hown3 hg3 hat3
         have hz3 := hg3.size
         have hb02 : Below w.heap.size w w2 := (by repeat (first | (with_reducible exact Below.refl _ _) | (with_reducible refine Below.drew ?_) | (with_reducible refine below_drewN ?_ _) | ((with_reducible refine Below.alloc ?_ ?_ _); rotate_left; focus ((try simp) <;> omega)) | ((with_reducible refine Below.setCell ?_ ?_ _); rotate_left; focus ((try simp) <;> omega)) | ((with_reducible refine Below.trans ?_ (Below.mono (by assumption) ?_)); rotate_left; focus ((try simp) <;> omega))))
         have hbw3 : Below w.heap.size w w3 := hb02.grown hg3 (by omega) (fun g hg => by simp [Value.ownBlock] at hg)
         rw [List.nil_append] at hown3)
      | (at_builtin
         go_must (refine wpList_append_rw _ rfl (.tmp 19) (.tmp 23) _ rfl pendE_len pendE_one w.heap.size 27 inf _ 128 Tryd.underlying22 hi0 iz0 iz1 iz2 rfl (by omega) v3 (l.take k) rfl hown3 w3.heap.size _ (l.length - j1) _ (l.drop j1) (by rw [List.length_drop]) rfl ?_ ?_ ?_ ?_ ?_)
         · first
             | exact (hrd.out _ hbw3).row.drop hlc
             | (have h := (hrd.out _ hbw3).row.drop (a := j1) hlc; simp only [Option.map_some, addr_plain] at h; exact h)
         · (try simp [maxLen]) <;> omega
         · (try simp) <;> omega
         · (try simp) <;> omega
         intro v4 w4 hown4 hg4 hat4
         have hz4 := hg4.size
         have hbw4 : Below w.heap.size w w4 := hbw3.grown hg4 (by omega) (fun g hg => (hown3.lt g hg).1)))
    all_goals
      obtain ⟨A4, c4, rfl, _, _, _⟩ := hown4.form
      have hle : l.take k ++ l.drop j1 = l.eraseIdx k := by rw [← hj1.out, List.eraseIdx_eq_take_drop_succ]
      exact bodyPost_ret (v := .tuple #[.slice A4 (l.take k ++ l.drop j1).length c4, .bool true]) (by simp [results, Tryd.results25, go_sem]) rfl ⟨A4, l.take k ++ l.drop j1, ⟨c4, rfl⟩, ⟨hown4.reads pendE_len, fun x hx => (hrd.out w4 hbw4).labs x (List.mem_of_mem_eraseIdx (by rw [← hle]; exact hx))⟩, by rw [hle], hbw4⟩
end Go.Proofs.YtnhfbignnnicnaaDoor
