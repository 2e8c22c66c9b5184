/-
  The walks of groups: whether a job may run.
-/
import Derived.Test.YtbellobjajnlkaaDoorCon9
import Derived.Deep.RegionHeld3



namespace Go.Proofs.YtbellobjajnlkaaDoor
open Go.RowKit

attribute [local go_sem ↓] eq_ref ne_ref
theorem at_grp {l : List Grp} {p : Str} (h : hasN p (l.map Grp.g) = true) : ∃ y, l[atN p (l.map Grp.g)]? = some y ∧ (l.map Grp.g)[atN p (l.map Grp.g)]! = y.g ∧ y.name = p := by
  obtain ⟨x, hx, e⟩ := has_at h
  have hb := get_bang hx
  rw [List.getElem?_map, Option.map_eq_some_iff] at hx
  obtain ⟨y, hy, rfl⟩ := hx
  exact ⟨y, hy, hb, e⟩
theorem valid_some {l : List Grp} (hv : validB (l.map Grp.g) = true) {y : Grp} (hy : y ∈ l) (hz : (⟨y.run, y.job⟩ : JRef) = zR) : ∃ s t, y.wait = s :: t := by
  have h := (val_iff.1 hv).some y.g (List.mem_map_of_mem hy)
  rw [jobs_zero hz] at h
  exact List.exists_cons_of_ne_nil h
set_option maxRecDepth 100000 in
set_option maxHeartbeats 4000000 in
theorem may_any (A : Option Addr) (c : Nat) (l : List Grp) (p : Str) (r : JRef) (w : World) (hr : RwG w w.heap.size A l) (hlc : l.length ≤ c) (hm : Mild l) (hG : Glob w) :
    Calls Tryd.prog 25 #[.slice A l.length c, .string p.1, .agg #[.string r.run.1, .string r.job.1]] w fun e w' => e = .returned (.bool (mayB (l.map Grp.g) p r)) ∧ Below w.heap.size w w' := by
  by_cases hp : p = zS
  · subst hp
    have hR : mayB (l.map Grp.g) zS r = true := by unfold mayB; rw [if_pos rfl]
    rw [hR]
    clear hR hr hm hG
    go_enter Tryd.func25, Tryd.ntmps25
    go_wp2_with fail
    go_ret
    exact ⟨rfl, (by repeat (first | (with_reducible exact Below.refl _ _) | (with_reducible refine Below.drew ?_) | (with_reducible refine below_drewN ?_ _) | ((with_reducible refine Below.alloc ?_ ?_ _); rotate_left; focus ((try simp) <;> omega)) | ((with_reducible refine Below.setCell ?_ ?_ _); rotate_left; focus ((try simp) <;> omega)) | ((with_reducible refine Below.trans ?_ (Below.mono (by assumption) ?_)); rotate_left; focus ((try simp) <;> omega))))⟩
  have hpn : p.1.toList.isEmpty = false := by rw [← Bool.not_eq_true, List.isEmpty_iff]; exact fun e => hp (Subtype.ext (toList_inj (e.trans (by rw [Lib.toList_data]))))
  have hva : Hid (∀ W, Below w.heap.size w W → Calls Tryd.prog 10 #[.slice A l.length c] W fun e w' => e = .returned (.int .i64 (validE (l.map Grp.g))) ∧ Below W.heap.size W w') := Lib.hid fun W hb => valid_any A c l W ((hr.below hb (Nat.le_refl _)).more hb.size) hlc hm (hG.keep hb)
  rcases hv : validB (l.map Grp.g) with _ | _
  · have hV : validE (l.map Grp.g) = 1 := by unfold validE; rw [hv]; rfl
    have hR : mayB (l.map Grp.g) p r = false := by unfold mayB; rw [if_neg hp, if_pos hv]
    rw [hR]
    rw [hV] at hva
    clear hR hV hr hm hG
    replace hp := Lib.hid hp
    replace hv := Lib.hid hv
    go_enter Tryd.func25, Tryd.ntmps25
    go_wp2_with (go_at_call 10; go_must (refine (hva.out _ (by repeat (first | (with_reducible exact Below.refl _ _) | (with_reducible refine Below.drew ?_) | (with_reducible refine below_drewN ?_ _) | ((with_reducible refine Below.alloc ?_ ?_ _); rotate_left; focus ((try simp) <;> omega)) | ((with_reducible refine Below.setCell ?_ ?_ _); rotate_left; focus ((try simp) <;> omega)) | ((with_reducible refine Below.trans ?_ (Below.mono (by assumption) ?_)); rotate_left; focus ((try simp) <;> omega))))).mono ?_; rintro e w1 ⟨rfl, hb1⟩; have hz1 := hb1.size; (try simp at hz1); have hz1a : w.heap.size < w1.heap.size := (by omega); obtain ⟨hc1, hf1⟩ := blk_at hb1 w.heap.size (by (try simp) <;> omega)))
    go_ret
    exact ⟨rfl, (by repeat (first | (with_reducible exact Below.refl _ _) | (with_reducible refine Below.drew ?_) | (with_reducible refine below_drewN ?_ _) | ((with_reducible refine Below.alloc ?_ ?_ _); rotate_left; focus ((try simp) <;> omega)) | ((with_reducible refine Below.setCell ?_ ?_ _); rotate_left; focus ((try simp) <;> omega)) | ((with_reducible refine Below.trans ?_ (Below.mono (by assumption) ?_)); rotate_left; focus ((try simp) <;> omega))))⟩
  have hV : validE (l.map Grp.g) = 0 := by unfold validE; rw [hv]; rfl
  rw [hV] at hva
  have hga : Hid (∀ W, Below w.heap.size w W → Calls Tryd.prog 43 #[.slice A l.length c, .string p.1] W fun e w' => e = .returned (.tuple #[.int .i64 (atN p (l.map Grp.g) : Int), .bool (hasN p (l.map Grp.g))]) ∧ Below W.heap.size W w') := Lib.hid fun W hb => group_any A c l p W ((hr.row.below hb (Nat.le_refl _)).more hb.size) (by have := hm.len; omega)
  rcases hh : hasN p (l.map Grp.g) with _ | _
  · have hR : mayB (l.map Grp.g) p r = false := by unfold mayB; rw [if_neg hp, hv, if_neg (by decide), if_pos hh]
    rw [hR]
    rw [hh] at hga
    clear hR hV hr hm hG
    replace hp := Lib.hid hp
    replace hv := Lib.hid hv
    replace hh := Lib.hid hh
    go_enter Tryd.func25, Tryd.ntmps25
    go_wp2_with (first | (go_at_call 10; go_must (refine (hva.out _ (by repeat (first | (with_reducible exact Below.refl _ _) | (with_reducible refine Below.drew ?_) | (with_reducible refine below_drewN ?_ _) | ((with_reducible refine Below.alloc ?_ ?_ _); rotate_left; focus ((try simp) <;> omega)) | ((with_reducible refine Below.setCell ?_ ?_ _); rotate_left; focus ((try simp) <;> omega)) | ((with_reducible refine Below.trans ?_ (Below.mono (by assumption) ?_)); rotate_left; focus ((try simp) <;> omega))))).mono ?_; rintro e w1 ⟨rfl, hb1⟩; have hz1 := hb1.size; (try simp at hz1); have hz1a : w.heap.size < w1.heap.size := (by omega); obtain ⟨hc1, hf1⟩ := blk_at hb1 w.heap.size (by (try simp) <;> omega))) | (go_at_call 43; go_must (refine (hga.out _ (by repeat (first | (with_reducible exact Below.refl _ _) | (with_reducible refine Below.drew ?_) | (with_reducible refine below_drewN ?_ _) | ((with_reducible refine Below.alloc ?_ ?_ _); rotate_left; focus ((try simp) <;> omega)) | ((with_reducible refine Below.setCell ?_ ?_ _); rotate_left; focus ((try simp) <;> omega)) | ((with_reducible refine Below.trans ?_ (Below.mono (by assumption) ?_)); rotate_left; focus ((try simp) <;> omega))))).mono ?_; rintro e w2 ⟨rfl, hb2⟩; have hz2 := hb2.size)))
    go_ret
    exact ⟨rfl, (by repeat (first | (with_reducible exact Below.refl _ _) | (with_reducible refine Below.drew ?_) | (with_reducible refine below_drewN ?_ _) | ((with_reducible refine Below.alloc ?_ ?_ _); rotate_left; focus ((try simp) <;> omega)) | ((with_reducible refine Below.setCell ?_ ?_ _); rotate_left; focus ((try simp) <;> omega)) | ((with_reducible refine Below.trans ?_ (Below.mono (by assumption) ?_)); rotate_left; focus ((try simp) <;> omega))))⟩
  obtain ⟨x, hx, hxb, _⟩ := at_grp hh
  have hR : mayB (l.map Grp.g) p r = if (⟨x.run, x.job⟩ : JRef) ≠ zR then decide ((⟨x.run, x.job⟩ : JRef) = r) else decide (x.wait.head? = some r) := by unfold mayB; rw [if_neg hp, hv, if_neg (by decide), hh, if_neg (by decide), hxb]; rfl
  rw [hR]
  rw [hh] at hga
  have hat := (List.getElem?_eq_some_iff.1 hx).1
  obtain ⟨k, hk⟩ : ∃ k, atN p (l.map Grp.g) = k := ⟨_, rfl⟩
  rw [hk] at hga hx hat
  obtain ⟨g, o, rfl, hg, q⟩ := hr.row (by omega)
  replace q := q k x hx
  have q0 := q 0 (.string x.name.1) rfl
  try rw [Nat.add_zero] at q0
  have q1 := q 1 (.string x.run.1) rfl
  have q2 := q 2 (.string x.job.1) rfl
  have q3 := q 3 (.slice x.waitA x.wait.length x.waitC) rfl
  clear q
  have i0 : (0 : Int) ≤ (k : Int) := by omega
  have i1 : (k : Int) < (l.length : Int) := by omega
  have hxm := List.mem_of_getElem? hx
  have hlab := hr.labs x hxm
  have hvs := valid_some hv hxm
  have hq := refB_zero x.run x.job
  have hq2 := refB_iff x.run x.job r.run r.job
  clear hR hV hm hG hxb
  replace hp := Lib.hid hp
  replace hv := Lib.hid hv
  replace hh := Lib.hid hh
  replace hk := Lib.hid hk
  replace hx := Lib.hid hx
  replace hr := Lib.hid hr
  by_cases hz : (⟨x.run, x.job⟩ : JRef) = zR
  · have hs : refB x.run.1 x.job.1 ⟨#[]⟩ ⟨#[]⟩ = true := hq.trans (decide_eq_true hz)
    rw [if_neg (by simp [hz])]
    obtain ⟨s, t, hst⟩ := hvs hz
    obtain ⟨-, -, hw⟩ := hlab
    rw [hst] at hw ⊢
    obtain ⟨b, o2, hA, hb, hq3⟩ := hw (by simp)
    have h0 := hq3 0 s rfl 0 (.string s.run.1) rfl
    have h1 := hq3 0 s rfl 1 (.string s.job.1) rfl
    simp only [Nat.zero_mul, Nat.add_zero] at h0 h1
    clear hq3
    obtain ⟨n, hn⟩ : ∃ n, x.wait.length = n + 1 := ⟨t.length, by rw [hst]; rfl⟩
    rw [hA, hn] at q3
    replace hn := Lib.hid hn
    have hqs := refB_iff s.run s.job r.run r.job
    have hfin : Hid (decide ((s :: t).head? = some r) = refB s.run.1 s.job.1 r.run.1 r.job.1) := Lib.hid (by rw [hqs]; exact decide_eq_decide.2 ⟨fun h => Option.some.inj h, fun h => congrArg some h⟩)
    rw [hfin.out]
    replace hz := Lib.hid hz
    replace hst := Lib.hid hst
    replace hA := Lib.hid hA
    clear hq hq2 hqs hvs
    go_enter Tryd.func25, Tryd.ntmps25
    go_wp2_with (first | (go_at_call 10; go_must (refine (hva.out _ (by repeat (first | (with_reducible exact Below.refl _ _) | (with_reducible refine Below.drew ?_) | (with_reducible refine below_drewN ?_ _) | ((with_reducible refine Below.alloc ?_ ?_ _); rotate_left; focus ((try simp) <;> omega)) | ((with_reducible refine Below.setCell ?_ ?_ _); rotate_left; focus ((try simp) <;> omega)) | ((with_reducible refine Below.trans ?_ (Below.mono (by assumption) ?_)); rotate_left; focus ((try simp) <;> omega))))).mono ?_; rintro e w1 ⟨rfl, hb1⟩; have hz1 := hb1.size; (try simp at hz1); have hz1a : w.heap.size < w1.heap.size := (by omega); obtain ⟨hc1, hf1⟩ := blk_at hb1 w.heap.size (by (try simp) <;> omega); obtain ⟨hd1, he1⟩ := blk_at hb1 g (by (try simp) <;> omega); obtain ⟨hk1, hj1⟩ := blk_at hb1 b (by (try simp) <;> omega))) | (go_at_call 43; go_must (refine (hga.out _ (by repeat (first | (with_reducible exact Below.refl _ _) | (with_reducible refine Below.drew ?_) | (with_reducible refine below_drewN ?_ _) | ((with_reducible refine Below.alloc ?_ ?_ _); rotate_left; focus ((try simp) <;> omega)) | ((with_reducible refine Below.setCell ?_ ?_ _); rotate_left; focus ((try simp) <;> omega)) | ((with_reducible refine Below.trans ?_ (Below.mono (by assumption) ?_)); rotate_left; focus ((try simp) <;> omega))))).mono ?_; rintro e w2 ⟨rfl, hb2⟩; have hz2 := hb2.size; have hz2a : w.heap.size < w2.heap.size := (by omega); obtain ⟨hc2, hf2⟩ := blk_at hb2 w.heap.size (by omega); obtain ⟨hc3, hf3⟩ := blk_at hb2 g (by omega); obtain ⟨hc4, hf4⟩ := blk_at hb2 b (by omega); have hz2b : b < w2.heap.size := (by omega))))
    go_region
    all_goals go_wp2_with fail
    all_goals go_ret
    all_goals exact ⟨rfl, (by repeat (first | (with_reducible exact Below.refl _ _) | (with_reducible refine Below.drew ?_) | (with_reducible refine below_drewN ?_ _) | ((with_reducible refine Below.alloc ?_ ?_ _); rotate_left; focus ((try simp) <;> omega)) | ((with_reducible refine Below.setCell ?_ ?_ _); rotate_left; focus ((try simp) <;> omega)) | ((with_reducible refine Below.trans ?_ (Below.mono (by assumption) ?_)); rotate_left; focus ((try simp) <;> omega))))⟩
  · have hs : refB x.run.1 x.job.1 ⟨#[]⟩ ⟨#[]⟩ = false := hq.trans (decide_eq_false hz)
    rw [if_pos hz]
    have hfin : Hid (decide ((⟨x.run, x.job⟩ : JRef) = r) = refB x.run.1 x.job.1 r.run.1 r.job.1) := Lib.hid hq2.symm
    rw [hfin.out]
    replace hz := Lib.hid hz
    clear hq hq2 hvs
    go_enter Tryd.func25, Tryd.ntmps25
    go_wp2_with (first | (go_at_call 10; go_must (refine (hva.out _ (by repeat (first | (with_reducible exact Below.refl _ _) | (with_reducible refine Below.drew ?_) | (with_reducible refine below_drewN ?_ _) | ((with_reducible refine Below.alloc ?_ ?_ _); rotate_left; focus ((try simp) <;> omega)) | ((with_reducible refine Below.setCell ?_ ?_ _); rotate_left; focus ((try simp) <;> omega)) | ((with_reducible refine Below.trans ?_ (Below.mono (by assumption) ?_)); rotate_left; focus ((try simp) <;> omega))))).mono ?_; rintro e w1 ⟨rfl, hb1⟩; have hz1 := hb1.size; (try simp at hz1); have hz1a : w.heap.size < w1.heap.size := (by omega); obtain ⟨hc1, hf1⟩ := blk_at hb1 w.heap.size (by (try simp) <;> omega); obtain ⟨hd1, he1⟩ := blk_at hb1 g (by (try simp) <;> omega); obtain ⟨hk1, hj1⟩ := blk_at hb1 g (by (try simp) <;> omega))) | (go_at_call 43; go_must (refine (hga.out _ (by repeat (first | (with_reducible exact Below.refl _ _) | (with_reducible refine Below.drew ?_) | (with_reducible refine below_drewN ?_ _) | ((with_reducible refine Below.alloc ?_ ?_ _); rotate_left; focus ((try simp) <;> omega)) | ((with_reducible refine Below.setCell ?_ ?_ _); rotate_left; focus ((try simp) <;> omega)) | ((with_reducible refine Below.trans ?_ (Below.mono (by assumption) ?_)); rotate_left; focus ((try simp) <;> omega))))).mono ?_; rintro e w2 ⟨rfl, hb2⟩; have hz2 := hb2.size; have hz2a : w.heap.size < w2.heap.size := (by omega); obtain ⟨hc2, hf2⟩ := blk_at hb2 w.heap.size (by omega); obtain ⟨hc3, hf3⟩ := blk_at hb2 g (by omega); obtain ⟨hc4, hf4⟩ := blk_at hb2 g (by omega); have hz2b : g < w2.heap.size := (by omega))))
    go_ret
    exact ⟨rfl, (by repeat (first | (with_reducible exact Below.refl _ _) | (with_reducible refine Below.drew ?_) | (with_reducible refine below_drewN ?_ _) | ((with_reducible refine Below.alloc ?_ ?_ _); rotate_left; focus ((try simp) <;> omega)) | ((with_reducible refine Below.setCell ?_ ?_ _); rotate_left; focus ((try simp) <;> omega)) | ((with_reducible refine Below.trans ?_ (Below.mono (by assumption) ?_)); rotate_left; focus ((try simp) <;> omega))))⟩
end Go.Proofs.YtbellobjajnlkaaDoor
