/-
  The walks of groups: the jobs of a group, and of all groups, by the reference and by the program.
-/
import Derived.Test.YtbellobjajnlkaaDoorCon4



namespace Go.Proofs.YtbellobjajnlkaaDoor
open Go.RowKit
attribute [local go_sem ↓] eq_ref ne_ref

theorem ref_info : (Tryd.prog.info? 29).map (fun i => (i.zero, i.size, i.bytes)) = some (some (.agg #[.string ByteArray.empty, .string ByteArray.empty]), 2, 32) := by kernel_rfl
theorem all_take {l : List Grp} {k : Nat} {x : Grp} (hx : l[k]? = some x) : allG ((l.map Grp.g).take (k + 1)) = allG ((l.map Grp.g).take k) ++ jobsG x.g := by
  rw [List.take_add_one, List.getElem?_map, hx]
  show allG ((l.map Grp.g).take k ++ [x.g]) = _
  rw [all_app, all_cons, all_nil, List.append_nil]
theorem all_le (gs : List G) (k : Nat) : (allG (gs.take k)).length ≤ (allG gs).length := by
  conv => rhs; rw [← List.take_append_drop k gs, all_app, List.length_append]
  omega
theorem jobs_zero {x : Grp} (h : (⟨x.run, x.job⟩ : JRef) = zR) : jobsG x.g = x.wait := by unfold jobsG; rw [if_pos (by exact h)]; rfl
theorem jobs_more {x : Grp} (h : ¬ (⟨x.run, x.job⟩ : JRef) = zR) : jobsG x.g = ⟨x.run, x.job⟩ :: x.wait := by unfold jobsG; rw [if_neg (by exact h)]; rfl
set_option maxRecDepth 100000 in
set_option maxHeartbeats 4000000 in
theorem jobs_any (x : Grp) (w : World) (hx : LabGrp w w.heap.size x) (hn : x.wait.length ≤ 1000000) :
    Calls Tryd.prog 36 #[(.agg #[.string x.name.1, .string x.run.1, .string x.job.1, .slice x.waitA x.wait.length x.waitC])] w fun e w' => ∃ v, e = .returned v ∧ Own jRefE 2 29 w' w.heap.size v (jobsG x.g) ∧ Below w.heap.size w w' := by
  obtain ⟨inf, hi0, iz0, iz1, iz2⟩ := info_three ref_info
  have hrd : Hid (∀ W, Below w.heap.size w W → Rw jRefE 2 W W.heap.size x.waitA x.wait) := Lib.hid fun W hb => (hx.2.2.below hb (Nat.le_refl _)).more hb.size
  have hq := refB_zero x.run x.job
  clear hx
  by_cases hz : (⟨x.run, x.job⟩ : JRef) = zR
  · have hs : refB x.run.1 x.job.1 ⟨#[]⟩ ⟨#[]⟩ = true := hq.trans (decide_eq_true hz)
    rw [jobs_zero hz]
    replace hz := Lib.hid hz
    clear hq
    go_enter Tryd.func36, Tryd.ntmps36
    go_wp2_with (first
      | (at_builtin
         refine wpList_append_rw _ rfl (.tmp 13) (.tmp 15) _ rfl jRefE_len jRefE_one w.heap.size 29 inf _ 32 Tryd.underlying33 hi0 iz0 iz1 iz2 rfl (by omega) (.slice none 0 0) [] rfl (Own.nil _ _ _) (w.heap.size + 1) x.waitA x.wait.length x.waitC x.wait rfl rfl (by have h := hrd.out (w.alloc (.cells #[.string x.name.1, .string x.run.1, .string x.job.1, .slice x.waitA x.wait.length x.waitC] 45)) (by repeat (first | (with_reducible exact Below.refl _ _) | (with_reducible refine Below.drew ?_) | (with_reducible refine below_drewN ?_ _) | ((with_reducible refine Below.alloc ?_ ?_ _); rotate_left; focus ((try simp) <;> omega)) | ((with_reducible refine Below.setCell ?_ ?_ _); rotate_left; focus ((try simp) <;> omega)) | ((with_reducible refine Below.trans ?_ (Below.mono (by assumption) ?_)); rotate_left; focus ((try simp) <;> omega)))); rwa [World.size_alloc] at h) ?_ ?_ ?_ ?_
         · (try simp [maxLen]) <;> omega
         · (try simp) <;> omega
         · (try simp) <;> omega
         intro v3 w3 hown3 hg3 hat3
         rw [List.nil_append] at hown3))
    go_ret
    exact ⟨v3, rfl, hown3, ((Below.refl _ _).alloc (Nat.le_refl _) _).grown hg3 (by simp) (fun g hg => by simp [Value.ownBlock] at hg)⟩
  · have hs : refB x.run.1 x.job.1 ⟨#[]⟩ ⟨#[]⟩ = false := hq.trans (decide_eq_false hz)
    rw [jobs_more hz]
    replace hz := Lib.hid hz
    clear hq
    obtain ⟨W1, hW1, hb1, hz1, c0, c1, c2, c3⟩ : ∃ W, w.alloc (.cells #[.string x.name.1, .string x.run.1, .string x.job.1, .slice x.waitA x.wait.length x.waitC] 45) = W ∧ Below w.heap.size w W ∧ W.heap.size = w.heap.size + 1 ∧ W.cell? ⟨w.heap.size, 0, none⟩ = some (.string x.name.1) ∧ W.cell? ⟨w.heap.size, 1, none⟩ = some (.string x.run.1) ∧ W.cell? ⟨w.heap.size, 2, none⟩ = some (.string x.job.1) ∧ W.cell? ⟨w.heap.size, 3, none⟩ = some (.slice x.waitA x.wait.length x.waitC) := ⟨_, rfl, (Below.refl _ _).alloc (Nat.le_refl _) _, by simp, by go_simp, by go_simp, by go_simp, by go_simp⟩
    have hz1a := Nat.le_of_eq hz1
    have hz1b := Nat.le_of_eq hz1.symm
    replace hz1 := Lib.hid hz1
    go_enter Tryd.func36, Tryd.ntmps36
    go_wp2_with (first
      | (at_builtin
         refine wpList_append_rw _ rfl (.tmp 8) (.tmp 11) _ rfl jRefE_len jRefE_one w.heap.size 29 inf _ 32 Tryd.underlying33 hi0 iz0 iz1 iz2 rfl (by omega) (.slice none 0 0) [] rfl (Own.nil _ _ _) _ (some ⟨W1.heap.size, 0, none⟩) 1 1 [⟨x.run, x.job⟩] rfl rfl ((Own.lit (enc := jRefE) (l := [⟨x.run, x.job⟩]) (base := 0) #[.string x.run.1, .string x.job.1] (Nat.zero_le _) (by simp [maxLen]) (by simp [jRefE]) jRefE_len).reads jRefE_len) ?_ ?_ ?_ ?_
         · (try simp [maxLen]) <;> omega
         · (try simp) <;> omega
         · (try simp) <;> omega
         intro v2 w2 hown2 hg2 hat2
         rw [List.nil_append] at hown2
         have hz2 := hg2.size
         simp at hz2
         have hb2 : Below w.heap.size w w2 := (hb1.alloc (by omega) _).grown hg2 (by simp; omega) (fun g hg => by simp [Value.ownBlock] at hg)
         have hb12 : Below W1.heap.size W1 w2 := ((Below.refl _ _).alloc (Nat.le_refl _) _).grown hg2 (by simp) (fun g hg => by simp [Value.ownBlock] at hg)
         obtain ⟨hc2, hf2⟩ := blk_at hb12 w.heap.size (by omega)
         have hlt2 := hown2.lt)
      | (at_builtin
         refine wpList_append_rw _ rfl (.tmp 13) (.tmp 15) _ rfl jRefE_len jRefE_one w.heap.size 29 inf _ 32 Tryd.underlying33 hi0 iz0 iz1 iz2 rfl (by omega) v2 [⟨x.run, x.job⟩] rfl hown2 w2.heap.size x.waitA x.wait.length x.waitC x.wait rfl rfl (hrd.out _ hb2) ?_ ?_ ?_ ?_
         · (try simp [maxLen]) <;> omega
         · (try simp) <;> omega
         · (try simp) <;> omega
         intro v3 w3 hown3 hg3 hat3
         have hz3 := hg3.size))
    go_ret
    exact ⟨v3, rfl, hown3, hb2.grown hg3 (by omega) (fun g hg => (hlt2 g hg).1)⟩
set_option maxRecDepth 100000 in
set_option maxHeartbeats 4000000 in
theorem rall_any (A : Option Addr) (c : Nat) (l : List Grp) (w : World) (hr : RwG w w.heap.size A l) (hn : (allG (l.map Grp.g)).length ≤ 1000000) (hw : ∀ x ∈ l, x.wait.length ≤ 1000000) (hln : l.length ≤ 1000000) :
    Calls Tryd.prog 20 #[.slice A l.length c] w fun e w' => ∃ v, e = .returned v ∧ Own jRefE 2 29 w' w.heap.size v (allG (l.map Grp.g)) ∧ Below w.heap.size w w' := by
  obtain ⟨inf, hi0, iz0, iz1, iz2⟩ := info_three ref_info
  have hle := Lib.hid fun k => all_le (l.map Grp.g) k
  replace hr := Lib.hid hr
  replace hw := Lib.hid hw
  go_enter Tryd.func20, Tryd.ntmps20
  go_wp2_with fail
  go_loopw [3, 4] (fun vo vi wr => ∃ k : Nat, k ≤ l.length ∧ vi = .int .i64 (k : Int) ∧ Own jRefE 2 29 wr w.heap.size vo (allG ((l.map Grp.g).take k)) ∧ Below w.heap.size w wr) (fun _ vi _ => l.length - (intOf vi).toNat)
  case atStart => exact ⟨0, Nat.zero_le _, rfl, Own.nil _ _ _, Below.refl _ _⟩
  case round =>
    obtain ⟨k, hk, rfl, hown, hbw⟩ := hrel
    have hz := hbw.size
    by_cases hkl : k < l.length
    · obtain ⟨x, hx⟩ := get_some hkl
      obtain ⟨g, o, rfl, hg, q⟩ := hr.out.row (by omega)
      replace q := fun j u hu => (hbw.cell (p := ⟨g, o + k * 4 + j, none⟩) hg).trans (q k x hx j u hu)
      have q0 := q 0 (.string x.name.1) rfl
      try rw [Nat.add_zero] at q0
      have q1 := q 1 (.string x.run.1) rfl
      have q2 := q 2 (.string x.job.1) rfl
      have q3 := q 3 (.slice x.waitA x.wait.length x.waitC) rfl
      clear q
      have hxm := List.mem_of_getElem? hx
      have hjb := Lib.hid (jobs_any x wr (((hr.out.labs x hxm).below hbw (Nat.le_refl _)).more hz) (hw.out x hxm))
      obtain ⟨L, hL⟩ : ∃ L, allG ((l.map Grp.g).take k) = L := ⟨_, rfl⟩
      obtain ⟨J, hJ⟩ : ∃ J, jobsG x.g = J := ⟨_, rfl⟩
      have hnext : Hid (allG ((l.map Grp.g).take (k + 1)) = L ++ J) := Lib.hid (by rw [all_take hx, hL, hJ])
      have hlen : L.length + J.length ≤ 1000000 := by
        have := hle.out (k + 1)
        rw [hnext.out, List.length_append] at this
        omega
      rw [hL] at hown
      rw [hJ] at hjb
      have i0 : (0 : Int) ≤ (k : Int) := by omega
      have i1 : (k : Int) < (l.length : Int) := by omega
      replace hx := Lib.hid hx
      replace hL := Lib.hid hL
      replace hJ := Lib.hid hJ
      clear hxm
      have hlow := hown.lt
      go_wp2_with (first
        | (go_at_call 36; go_must (refine hjb.out.mono ?_; rintro e w2 ⟨v2, rfl, hown2, hb2⟩; have hz2 := hb2.size; obtain ⟨A2, c2, hv2, _, _, hlt2⟩ := hown2.form; subst hv2))
        | (at_builtin
           refine wpList_append_rw _ rfl (.tmp 11) (.tmp 16) _ rfl jRefE_len jRefE_one w.heap.size 29 inf _ 32 Tryd.underlying33 hi0 iz0 iz1 iz2 rfl (by omega) u3 L rfl (hown.all hb2) w2.heap.size A2 J.length c2 J rfl rfl (hown2.reads jRefE_len) ?_ ?_ ?_ ?_
           · (try simp [maxLen]) <;> omega
           · (try simp) <;> omega
           · (try simp) <;> omega
           intro v3 w3 hown3 hg3 hat3
           have hz3 := hg3.size
           have hb3 : Below w.heap.size w w3 := (hbw.trans (hb2.mono (by omega))).grown hg3 (by omega) (fun g hg => (hlow g hg).1)))
      go_roundw
      case rel => exact ⟨k + 1, by omega, by go_num, by rw [hnext.out]; exact hown3, hb3⟩
      case measure => simp [intOf]; omega
    · have i1 : ¬ (k : Int) < (l.length : Int) := by omega
      have he : (l.map Grp.g).take k = l.map Grp.g := List.take_of_length_le (by simp; omega)
      rw [he] at hown
      go_wp2_with fail
      go_ret
      exact ⟨_, rfl, hown, hbw⟩
set_option maxRecDepth 100000 in
set_option maxHeartbeats 4000000 in
theorem all_any (A : Option Addr) (c : Nat) (l : List Grp) (w : World) (hr : RwG w w.heap.size A l) (hn : (allG (l.map Grp.g)).length ≤ 1000000) (hw : ∀ x ∈ l, x.wait.length ≤ 1000000) (hln : l.length ≤ 1000000) :
    Calls Tryd.prog 32 #[.slice A l.length c] w fun e w' => ∃ v, e = .returned v ∧ Own jRefE 2 29 w' w.heap.size v (allG (l.map Grp.g)) ∧ Below w.heap.size w w' := by
  obtain ⟨inf, hi0, iz0, iz1, iz2⟩ := info_three ref_info
  have hle := Lib.hid fun k => all_le (l.map Grp.g) k
  replace hr := Lib.hid hr
  replace hw := Lib.hid hw
  go_enter Tryd.func32, Tryd.ntmps32
  go_wp2_with fail
  go_loopw [3, 8] (fun vo vi wr => ∃ k : Nat, k ≤ l.length ∧ vi = .int .i64 (k : Int) ∧ Own jRefE 2 29 wr w.heap.size vo (allG ((l.map Grp.g).take k)) ∧ Below w.heap.size w wr) (fun _ vi _ => l.length - (intOf vi).toNat)
  case atStart => exact ⟨0, Nat.zero_le _, rfl, Own.nil _ _ _, Below.refl _ _⟩
  case round =>
    obtain ⟨k, hk, rfl, hown, hbw⟩ := hrel
    have hz := hbw.size
    by_cases hkl : k < l.length
    · obtain ⟨x, hx⟩ := get_some hkl
      obtain ⟨g, o, rfl, hg, q⟩ := hr.out.row (by omega)
      replace q := fun j u hu => (hbw.cell (p := ⟨g, o + k * 4 + j, none⟩) hg).trans (q k x hx j u hu)
      have q0 := q 0 (.string x.name.1) rfl
      try rw [Nat.add_zero] at q0
      have q1 := q 1 (.string x.run.1) rfl
      have q2 := q 2 (.string x.job.1) rfl
      have q3 := q 3 (.slice x.waitA x.wait.length x.waitC) rfl
      clear q
      have hxm := List.mem_of_getElem? hx
      have hlab := (((hr.out.labs x hxm).below hbw (Nat.le_refl _)).more hz)
      have hwl := hw.out x hxm
      obtain ⟨L, hL⟩ : ∃ L, allG ((l.map Grp.g).take k) = L := ⟨_, rfl⟩
      have hnext0 := all_take hx
      have hlen0 := hle.out (k + 1)
      rw [hnext0, List.length_append] at hlen0
      rw [hL] at hown hnext0 hlen0
      have i0 : (0 : Int) ≤ (k : Int) := by omega
      have i1 : (k : Int) < (l.length : Int) := by omega
      have hq := refB_zero x.run x.job
      obtain ⟨W1, hW1, hb1, hz1, d0, d1, d2, d3⟩ : ∃ W, wr.alloc (.cells #[.string x.name.1, .string x.run.1, .string x.job.1, .slice x.waitA x.wait.length x.waitC] 45) = W ∧ Below wr.heap.size wr W ∧ W.heap.size = wr.heap.size + 1 ∧ W.cell? ⟨wr.heap.size, 0, none⟩ = some (.string x.name.1) ∧ W.cell? ⟨wr.heap.size, 1, none⟩ = some (.string x.run.1) ∧ W.cell? ⟨wr.heap.size, 2, none⟩ = some (.string x.job.1) ∧ W.cell? ⟨wr.heap.size, 3, none⟩ = some (.slice x.waitA x.wait.length x.waitC) := ⟨_, rfl, (Below.refl _ _).alloc (Nat.le_refl _) _, by simp, by go_simp, by go_simp, by go_simp, by go_simp⟩
      have hz1a := Nat.le_of_eq hz1
      have hz1b := Nat.le_of_eq hz1.symm
      replace hz1 := Lib.hid hz1
      have hrw1 := Lib.hid ((hlab.2.2.below hb1 (Nat.le_refl _)).more hb1.size)
      have hown1 := hown.all hb1
      have hb01 := hbw.trans (hb1.mono (show w.heap.size ≤ wr.heap.size by omega))
      replace hx := Lib.hid hx
      replace hL := Lib.hid hL
      clear hxm hlab
      have hlow := hown.lt
      by_cases hzr : (⟨x.run, x.job⟩ : JRef) = zR
      · have hs : refB x.run.1 x.job.1 ⟨#[]⟩ ⟨#[]⟩ = true := hq.trans (decide_eq_true hzr)
        rw [jobs_zero hzr] at hnext0 hlen0
        have hnext := Lib.hid hnext0
        clear hnext0 hq
        replace hzr := Lib.hid hzr
        go_wp2_with (first
          | (at_builtin
             refine wpList_append_rw _ rfl (.tmp 21) (.tmp 23) _ rfl jRefE_len jRefE_one w.heap.size 29 inf _ 32 Tryd.underlying33 hi0 iz0 iz1 iz2 rfl (by omega) u3 L rfl hown1 W1.heap.size x.waitA x.wait.length x.waitC x.wait rfl rfl hrw1.out ?_ ?_ ?_ ?_
             · (try simp [maxLen]) <;> omega
             · (try simp) <;> omega
             · (try simp) <;> omega
             intro v3 w3 hown3 hg3 hat3
             have hz3 := hg3.size
             have hb3 : Below w.heap.size w w3 := hb01.grown hg3 (by omega) (fun g hg => (hlow g hg).1)))
        go_roundw
        case rel => exact ⟨k + 1, by omega, by go_num, by rw [hnext.out]; exact hown3, hb3⟩
        case measure => simp [intOf]; omega
      · have hs : refB x.run.1 x.job.1 ⟨#[]⟩ ⟨#[]⟩ = false := hq.trans (decide_eq_false hzr)
        rw [jobs_more hzr] at hnext0 hlen0
        have hnext := Lib.hid hnext0
        clear hnext0 hq
        replace hzr := Lib.hid hzr
        simp only [List.length_cons] at hlen0
        go_wp2_with (first
          | (at_builtin
             refine wpList_append_rw _ rfl (.tmp 16) (.tmp 19) _ rfl jRefE_len jRefE_one w.heap.size 29 inf _ 32 Tryd.underlying33 hi0 iz0 iz1 iz2 rfl (by omega) u3 L rfl (hown1.alloc _) _ (some ⟨W1.heap.size, 0, none⟩) 1 1 [⟨x.run, x.job⟩] rfl rfl ((Own.lit (enc := jRefE) (l := [⟨x.run, x.job⟩]) (base := 0) #[.string x.run.1, .string x.job.1] (Nat.zero_le _) (by simp [maxLen]) (by simp [jRefE]) jRefE_len).reads jRefE_len) ?_ ?_ ?_ ?_
             · (try simp [maxLen]) <;> omega
             · (try simp) <;> omega
             · (try simp) <;> omega
             intro v2 w2 hown2 hg2 hat2
             have hz2 := hg2.size
             simp at hz2
             have hb02 : Below w.heap.size w w2 := (hb01.alloc (by omega) _).grown hg2 (by simp; omega) (fun g hg => (hlow g hg).1)
             have hgb2 := hg2.block wr.heap.size (by simp; omega) (fun e => by have := (hlow _ e.symm).2; omega)
             have hc2 : ∀ q, w2.cell? ⟨wr.heap.size, q, none⟩ = W1.cell? ⟨wr.heap.size, q, none⟩ := fun q => (World.cell?_of_block hgb2).trans (World.cell?_alloc_lt _ _ _ (by show wr.heap.size < _; omega))
             have hrw2 := Lib.hid ((((hrw1.out.alloc (Nat.le_refl _) (.cells #[.string x.run.1, .string x.job.1] 29)))))
             have hlt2 := hown2.lt
             have hwr2 : wr.heap.size < w2.heap.size := (by omega))
          | (at_builtin
             refine wpList_append_rw _ rfl (.tmp 21) (.tmp 23) _ rfl jRefE_len jRefE_one w.heap.size 29 inf _ 32 Tryd.underlying33 hi0 iz0 iz1 iz2 rfl (by omega) v2 (L ++ [⟨x.run, x.job⟩]) rfl hown2 w2.heap.size x.waitA x.wait.length x.waitC x.wait rfl rfl (((hr.out.labs x (List.mem_of_getElem? hx.out)).2.2.below hb02 (Nat.le_refl _)).more hb02.size) ?_ ?_ ?_ ?_
             · (try simp [maxLen]) <;> omega
             · (try simp) <;> omega
             · (try simp) <;> omega
             intro v3 w3 hown3 hg3 hat3
             have hz3 := hg3.size
             have hb3 : Below w.heap.size w w3 := hb02.grown hg3 (by omega) (fun g hg => (hlt2 g hg).1)))
        go_roundw
        case rel => exact ⟨k + 1, by omega, by go_num, by rw [hnext.out]; simpa using hown3, hb3⟩
        case measure => simp [intOf]; omega
    · have i1 : ¬ (k : Int) < (l.length : Int) := by omega
      have he : (l.map Grp.g).take k = l.map Grp.g := List.take_of_length_le (by simp; omega)
      rw [he] at hown
      go_wp2_with fail
      go_ret
      exact ⟨_, rfl, hown, hbw⟩
end Go.Proofs.YtbellobjajnlkaaDoor
