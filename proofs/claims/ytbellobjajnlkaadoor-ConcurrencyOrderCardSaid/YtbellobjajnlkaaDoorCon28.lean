/-
  The walks of groups: whether a job may run, the first waiting job runs, by the reference.
-/
import Derived.Test.YtbellobjajnlkaaDoorCon27



namespace Go.Proofs.YtbellobjajnlkaaDoor
open Go.RowKit

attribute [local go_sem ↓] eq_ref ne_ref
theorem filter_head {t : List JRef} {s : JRef} (h : s ∉ t) : outR (s :: t) s = t := by
  unfold outR
  rw [List.filter_cons_of_neg (by simp), List.filter_eq_self]
  intro x hx
  exact decide_eq_true fun e => h (e ▸ hx)
set_option maxRecDepth 100000 in
set_option maxHeartbeats 8000000 in
theorem rmay_any (A : Option Addr) (c : Nat) (l : List Grp) (p : Str) (r : JRef) (w : World) (hr : RwG w w.heap.size A l) (hm : Mild l) :
    Calls Tryd.prog 26 #[.slice A l.length c, .string p.1, .agg #[.string r.run.1, .string r.job.1]] w fun e w' => e = .returned (.bool (mayB (l.map Grp.g) p r)) ∧ Below w.heap.size w w' := by
  by_cases hp : p = zS
  · subst hp
    have hR : mayB (l.map Grp.g) zS r = true := by unfold mayB; rw [if_pos rfl]
    rw [hR]
    clear hR hr hm
    go_enter Tryd.func26, Tryd.ntmps26
    go_wp2_with fail
    go_ret
    exact ⟨rfl, (by repeat (first | (with_reducible exact Below.refl _ _) | (with_reducible refine Below.drew ?_) | (with_reducible refine below_drewN ?_ _) | ((with_reducible refine Below.alloc ?_ ?_ _); rotate_left; focus ((try simp) <;> omega)) | ((with_reducible refine Below.setCell ?_ ?_ _); rotate_left; focus ((try simp) <;> omega)) | ((with_reducible refine Below.trans ?_ (Below.mono (by assumption) ?_)); rotate_left; focus ((try simp) <;> omega))))⟩
  have hpn : p.1.toList.isEmpty = false := by rw [← Bool.not_eq_true, List.isEmpty_iff]; exact fun e => hp (Subtype.ext (toList_inj (e.trans (by rw [Lib.toList_data]))))
  have hva : ∀ W, Below w.heap.size w W → Calls Tryd.prog 11 #[.slice A l.length c] W fun e w' => e = .returned (.int .i64 (validE (l.map Grp.g))) ∧ Below W.heap.size W w' := fun W hb => rvalid_any A c l W ((hr.below hb (Nat.le_refl _)).more hb.size) hm
  have hfi : ∀ W, Below w.heap.size w W → Calls Tryd.prog 18 #[.slice A l.length c, .string p.1] W fun e w' => e = .returned (.int .i64 (findN p (l.map Grp.g))) ∧ W = w' := fun W hb => rfind_any A c l p W ((hr.row.below hb (Nat.le_refl _)).more hb.size) (by have := hm.len; omega)
  have hback : Hid (∀ W, Below w.heap.size w W → RwG W W.heap.size A l) := Lib.hid fun W hb => (hr.below hb (Nat.le_refl _)).more hb.size
  clear hback
  rcases hv : validB (l.map Grp.g) with _ | _
  · have hV : validE (l.map Grp.g) = 1 := by unfold validE; rw [hv]; rfl
    have hR : mayB (l.map Grp.g) p r = false := by unfold mayB; rw [if_neg hp, if_pos hv]
    rw [hR]
    rw [hV] at hva
    obtain ⟨F, hF⟩ : ∃ F, findN p (l.map Grp.g) = F := ⟨_, rfl⟩
    rw [hF] at hfi
    clear hR hV hr hm
    replace hva := Lib.hid hva
    replace hfi := Lib.hid hfi
    replace hF := Lib.hid hF
    replace hp := Lib.hid hp
    replace hv := Lib.hid hv
    go_enter Tryd.func26, Tryd.ntmps26
    go_wp2_with (first
      | (go_at_call 11; go_must (refine (hva.out _ (by repeat (first | (with_reducible exact Below.refl _ _) | (with_reducible refine Below.drew ?_) | (with_reducible refine below_drewN ?_ _) | ((with_reducible refine Below.alloc ?_ ?_ _); rotate_left; focus ((try simp) <;> omega)) | ((with_reducible refine Below.setCell ?_ ?_ _); rotate_left; focus ((try simp) <;> omega)) | ((with_reducible refine Below.trans ?_ (Below.mono (by assumption) ?_)); rotate_left; focus ((try simp) <;> omega))))).mono ?_; rintro e w1 ⟨rfl, hb1⟩; have hz1 := hb1.size; (try simp at hz1); have hz1a : w.heap.size < w1.heap.size := (by omega); obtain ⟨hc1, hf1⟩ := blk_at hb1 w.heap.size (by (try simp) <;> omega); skip))
      | (go_at_call 18; go_must (refine (hfi.out _ (by repeat (first | (with_reducible exact Below.refl _ _) | (with_reducible refine Below.drew ?_) | (with_reducible refine below_drewN ?_ _) | ((with_reducible refine Below.alloc ?_ ?_ _); rotate_left; focus ((try simp) <;> omega)) | ((with_reducible refine Below.setCell ?_ ?_ _); rotate_left; focus ((try simp) <;> omega)) | ((with_reducible refine Below.trans ?_ (Below.mono (by assumption) ?_)); rotate_left; focus ((try simp) <;> omega))))).mono ?_; rintro e w2 ⟨rfl, rfl⟩)))
    go_ret
    exact ⟨rfl, (by repeat (first | (with_reducible exact Below.refl _ _) | (with_reducible refine Below.drew ?_) | (with_reducible refine below_drewN ?_ _) | ((with_reducible refine Below.alloc ?_ ?_ _); rotate_left; focus ((try simp) <;> omega)) | ((with_reducible refine Below.setCell ?_ ?_ _); rotate_left; focus ((try simp) <;> omega)) | ((with_reducible refine Below.trans ?_ (Below.mono (by assumption) ?_)); rotate_left; focus ((try simp) <;> omega))))⟩
  have hV : validE (l.map Grp.g) = 0 := by unfold validE; rw [hv]; rfl
  rw [hV] at hva
  have hfc := find_neg (val_iff.1 hv).asc p
  rcases hh : hasN p (l.map Grp.g) with _ | _
  · have hR : mayB (l.map Grp.g) p r = false := by unfold mayB; rw [if_neg hp, hv, if_neg (by decide), if_pos hh]
    rw [hR]
    have hF : findN p (l.map Grp.g) = -1 := by
      rcases hfc with ⟨h, _⟩ | ⟨_, h⟩
      · rw [hh] at h; cases h
      · exact h
    rw [hF] at hfi
    clear hR hV hr hm hfc hF
    replace hva := Lib.hid hva
    replace hfi := Lib.hid hfi
    replace hp := Lib.hid hp
    replace hv := Lib.hid hv
    replace hh := Lib.hid hh
    go_enter Tryd.func26, Tryd.ntmps26
    go_wp2_with (first
      | (go_at_call 11; go_must (refine (hva.out _ (by repeat (first | (with_reducible exact Below.refl _ _) | (with_reducible refine Below.drew ?_) | (with_reducible refine below_drewN ?_ _) | ((with_reducible refine Below.alloc ?_ ?_ _); rotate_left; focus ((try simp) <;> omega)) | ((with_reducible refine Below.setCell ?_ ?_ _); rotate_left; focus ((try simp) <;> omega)) | ((with_reducible refine Below.trans ?_ (Below.mono (by assumption) ?_)); rotate_left; focus ((try simp) <;> omega))))).mono ?_; rintro e w1 ⟨rfl, hb1⟩; have hz1 := hb1.size; (try simp at hz1); have hz1a : w.heap.size < w1.heap.size := (by omega); obtain ⟨hc1, hf1⟩ := blk_at hb1 w.heap.size (by (try simp) <;> omega); skip))
      | (go_at_call 18; go_must (refine (hfi.out _ (by repeat (first | (with_reducible exact Below.refl _ _) | (with_reducible refine Below.drew ?_) | (with_reducible refine below_drewN ?_ _) | ((with_reducible refine Below.alloc ?_ ?_ _); rotate_left; focus ((try simp) <;> omega)) | ((with_reducible refine Below.setCell ?_ ?_ _); rotate_left; focus ((try simp) <;> omega)) | ((with_reducible refine Below.trans ?_ (Below.mono (by assumption) ?_)); rotate_left; focus ((try simp) <;> omega))))).mono ?_; rintro e w2 ⟨rfl, rfl⟩)))
    go_ret
    exact ⟨rfl, (by repeat (first | (with_reducible exact Below.refl _ _) | (with_reducible refine Below.drew ?_) | (with_reducible refine below_drewN ?_ _) | ((with_reducible refine Below.alloc ?_ ?_ _); rotate_left; focus ((try simp) <;> omega)) | ((with_reducible refine Below.setCell ?_ ?_ _); rotate_left; focus ((try simp) <;> omega)) | ((with_reducible refine Below.trans ?_ (Below.mono (by assumption) ?_)); rotate_left; focus ((try simp) <;> omega))))⟩
  have hF : findN p (l.map Grp.g) = (atN p (l.map Grp.g) : Int) := by
    rcases hfc with ⟨_, h⟩ | ⟨h, _⟩
    · exact h
    · rw [hh] at h; cases h
  rw [hF] at hfi
  obtain ⟨x, hx, hxb, _⟩ := at_grp hh
  have hR : mayB (l.map Grp.g) p r = if (⟨x.run, x.job⟩ : JRef) ≠ zR then decide ((⟨x.run, x.job⟩ : JRef) = r) else decide (x.wait.head? = some r) := by unfold mayB; rw [if_neg hp, hv, if_neg (by decide), hh, if_neg (by decide), hxb]; rfl
  rw [hR]
  have hat := (List.getElem?_eq_some_iff.1 hx).1
  obtain ⟨k, hk⟩ : ∃ k, atN p (l.map Grp.g) = k := ⟨_, rfl⟩
  rw [hk] at hfi hx hat
  obtain ⟨g, o, rfl, hg, q⟩ := hr.row (by omega)
  replace q := q k x hx
  have q0 := q 0 (.string x.name.1) rfl
  try rw [Nat.add_zero] at q0
  have q1 := q 1 (.string x.run.1) rfl
  have q2 := q 2 (.string x.job.1) rfl
  have q3 := q 3 (.slice x.waitA x.wait.length x.waitC) rfl
  clear q
  have i0 : (0 : Int) ≤ (k : Int) := by omega
  have i00 : ¬ (k : Int) < 0 := by omega
  have i1 : (k : Int) < (l.length : Int) := by omega
  have hxm := List.mem_of_getElem? hx
  have hlab := hr.labs x hxm
  have hvs := valid_some hv hxm
  have hq := refB_zero x.run x.job
  have hq2 := refB_iff x.run x.job r.run r.job
  clear hR hV hm hxb hF hfc
  replace hva := Lib.hid hva
  replace hfi := Lib.hid hfi
  replace hp := Lib.hid hp
  replace hv := Lib.hid hv
  replace hh := Lib.hid hh
  replace hk := Lib.hid hk
  replace hx := Lib.hid hx
  replace hr := Lib.hid hr
  by_cases hz : (⟨x.run, x.job⟩ : JRef) = zR
  · have hs : refB x.run.1 x.job.1 ⟨#[]⟩ ⟨#[]⟩ = true := hq.trans (decide_eq_true hz)
    rw [if_neg (by simp [hz])]
    obtain ⟨s, t, hst⟩ := hvs hz
    obtain ⟨-, -, hw⟩ := hlab
    rw [hst] at hw ⊢
    obtain ⟨b, o2, hA, hb, hq3⟩ := hw (by simp)
    have h0 := hq3 0 s rfl 0 (.string s.run.1) rfl
    have h1 := hq3 0 s rfl 1 (.string s.job.1) rfl
    simp only [Nat.zero_mul, Nat.add_zero] at h0 h1
    clear hq3
    obtain ⟨n, hn⟩ : ∃ n, x.wait.length = n + 1 := ⟨t.length, by rw [hst]; rfl⟩
    rw [hA, hn] at q3
    replace hn := Lib.hid hn
    have hqs := refB_iff s.run s.job r.run r.job
    have hfin : Hid (decide ((s :: t).head? = some r) = refB s.run.1 s.job.1 r.run.1 r.job.1) := Lib.hid (by rw [hqs]; exact decide_eq_decide.2 ⟨fun h => Option.some.inj h, fun h => congrArg some h⟩)
    rw [hfin.out]
    replace hz := Lib.hid hz
    replace hst := Lib.hid hst
    replace hA := Lib.hid hA
    clear hq hq2 hqs hvs
    go_enter Tryd.func26, Tryd.ntmps26
    go_wp2_with (first
      | (go_at_call 11; go_must (refine (hva.out _ (by repeat (first | (with_reducible exact Below.refl _ _) | (with_reducible refine Below.drew ?_) | (with_reducible refine below_drewN ?_ _) | ((with_reducible refine Below.alloc ?_ ?_ _); rotate_left; focus ((try simp) <;> omega)) | ((with_reducible refine Below.setCell ?_ ?_ _); rotate_left; focus ((try simp) <;> omega)) | ((with_reducible refine Below.trans ?_ (Below.mono (by assumption) ?_)); rotate_left; focus ((try simp) <;> omega))))).mono ?_; rintro e w1 ⟨rfl, hb1⟩; have hz1 := hb1.size; (try simp at hz1); have hz1a : w.heap.size < w1.heap.size := (by omega); obtain ⟨hc1, hf1⟩ := blk_at hb1 w.heap.size (by (try simp) <;> omega); obtain ⟨hd1, he1⟩ := blk_at hb1 g (by (try simp) <;> omega); obtain ⟨hk1, hj1⟩ := blk_at hb1 b (by (try simp) <;> omega); have hz1b : b < w1.heap.size := (by omega); have hz1c : g < w1.heap.size := (by omega)))
      | (go_at_call 18; go_must (refine (hfi.out _ (by repeat (first | (with_reducible exact Below.refl _ _) | (with_reducible refine Below.drew ?_) | (with_reducible refine below_drewN ?_ _) | ((with_reducible refine Below.alloc ?_ ?_ _); rotate_left; focus ((try simp) <;> omega)) | ((with_reducible refine Below.setCell ?_ ?_ _); rotate_left; focus ((try simp) <;> omega)) | ((with_reducible refine Below.trans ?_ (Below.mono (by assumption) ?_)); rotate_left; focus ((try simp) <;> omega))))).mono ?_; rintro e w2 ⟨rfl, rfl⟩)))
    go_region
    all_goals go_wp2_with fail
    all_goals go_ret
    all_goals exact ⟨rfl, (by repeat (first | (with_reducible exact Below.refl _ _) | (with_reducible refine Below.drew ?_) | (with_reducible refine below_drewN ?_ _) | ((with_reducible refine Below.alloc ?_ ?_ _); rotate_left; focus ((try simp) <;> omega)) | ((with_reducible refine Below.setCell ?_ ?_ _); rotate_left; focus ((try simp) <;> omega)) | ((with_reducible refine Below.trans ?_ (Below.mono (by assumption) ?_)); rotate_left; focus ((try simp) <;> omega))))⟩
  · have hs : refB x.run.1 x.job.1 ⟨#[]⟩ ⟨#[]⟩ = false := hq.trans (decide_eq_false hz)
    rw [if_pos hz]
    have hfin : Hid (decide ((⟨x.run, x.job⟩ : JRef) = r) = refB x.run.1 x.job.1 r.run.1 r.job.1) := Lib.hid hq2.symm
    rw [hfin.out]
    replace hz := Lib.hid hz
    clear hq hq2 hvs
    go_enter Tryd.func26, Tryd.ntmps26
    go_wp2_with (first
      | (go_at_call 11; go_must (refine (hva.out _ (by repeat (first | (with_reducible exact Below.refl _ _) | (with_reducible refine Below.drew ?_) | (with_reducible refine below_drewN ?_ _) | ((with_reducible refine Below.alloc ?_ ?_ _); rotate_left; focus ((try simp) <;> omega)) | ((with_reducible refine Below.setCell ?_ ?_ _); rotate_left; focus ((try simp) <;> omega)) | ((with_reducible refine Below.trans ?_ (Below.mono (by assumption) ?_)); rotate_left; focus ((try simp) <;> omega))))).mono ?_; rintro e w1 ⟨rfl, hb1⟩; have hz1 := hb1.size; (try simp at hz1); have hz1a : w.heap.size < w1.heap.size := (by omega); obtain ⟨hc1, hf1⟩ := blk_at hb1 w.heap.size (by (try simp) <;> omega); obtain ⟨hd1, he1⟩ := blk_at hb1 g (by (try simp) <;> omega); have hz1c : g < w1.heap.size := (by omega)))
      | (go_at_call 18; go_must (refine (hfi.out _ (by repeat (first | (with_reducible exact Below.refl _ _) | (with_reducible refine Below.drew ?_) | (with_reducible refine below_drewN ?_ _) | ((with_reducible refine Below.alloc ?_ ?_ _); rotate_left; focus ((try simp) <;> omega)) | ((with_reducible refine Below.setCell ?_ ?_ _); rotate_left; focus ((try simp) <;> omega)) | ((with_reducible refine Below.trans ?_ (Below.mono (by assumption) ?_)); rotate_left; focus ((try simp) <;> omega))))).mono ?_; rintro e w2 ⟨rfl, rfl⟩)))
    go_ret
    exact ⟨rfl, (by repeat (first | (with_reducible exact Below.refl _ _) | (with_reducible refine Below.drew ?_) | (with_reducible refine below_drewN ?_ _) | ((with_reducible refine Below.alloc ?_ ?_ _); rotate_left; focus ((try simp) <;> omega)) | ((with_reducible refine Below.setCell ?_ ?_ _); rotate_left; focus ((try simp) <;> omega)) | ((with_reducible refine Below.trans ?_ (Below.mono (by assumption) ?_)); rotate_left; focus ((try simp) <;> omega))))⟩
theorem jobs_nodup {gs : List G} (hn : (allG gs).Nodup) {g : G} (hg : g ∈ gs) : (jobsG g).Nodup := by
  obtain ⟨k, hk⟩ := List.getElem?_of_mem hg
  obtain ⟨e, _⟩ := set_split g hk
  rw [e, all_app, all_cons] at hn
  have h1 := (List.nodup_append.1 hn).2.1
  exact (List.nodup_append.1 h1).1
set_option maxRecDepth 100000 in
set_option maxHeartbeats 8000000 in
theorem rstart_any (A : Option Addr) (c : Nat) (l : List Grp) (p : Str) (r : JRef) (w : World) (hr : RwG w w.heap.size A l) (hlc : l.length ≤ c) (hm : Mild l) :
    Calls Tryd.prog 22 #[.slice A l.length c, .string p.1, .agg #[.string r.run.1, .string r.job.1]] w fun e w' => ∃ (A' : Option Addr) (c' : Nat) (l' : List Grp), e = .returned (.tuple #[.slice A' l'.length c', .int .i64 (startE (l.map Grp.g) p r)]) ∧ RwG w' w'.heap.size A' l' ∧ l'.length ≤ c' ∧ l'.map Grp.g = startL (l.map Grp.g) p r ∧ Below w.heap.size w w' := by
  have hva : ∀ W, Below w.heap.size w W → Calls Tryd.prog 11 #[.slice A l.length c] W fun e w' => e = .returned (.int .i64 (validE (l.map Grp.g))) ∧ Below W.heap.size W w' := fun W hb => rvalid_any A c l W ((hr.below hb (Nat.le_refl _)).more hb.size) hm
  have hfi : ∀ W, Below w.heap.size w W → Calls Tryd.prog 18 #[.slice A l.length c, .string p.1] W fun e w' => e = .returned (.int .i64 (findN p (l.map Grp.g))) ∧ W = w' := fun W hb => rfind_any A c l p W ((hr.row.below hb (Nat.le_refl _)).more hb.size) (by have := hm.len; omega)
  have hback : Hid (∀ W, Below w.heap.size w W → RwG W W.heap.size A l) := Lib.hid fun W hb => (hr.below hb (Nat.le_refl _)).more hb.size
  have hlm := hm.len
  rcases hv : validB (l.map Grp.g) with _ | _
  · have hR : startE (l.map Grp.g) p r = 1 := by unfold startE; rw [if_pos hv]
    have hL : Hid (l.map Grp.g = startL (l.map Grp.g) p r) := Lib.hid (by unfold startL; rw [if_pos (by rw [hR]; decide)])
    rw [hR]
    rw [show validE (l.map Grp.g) = 1 by unfold validE; rw [hv]; rfl] at hva
    clear hR hr hm
    replace hva := Lib.hid hva
    replace hfi := Lib.hid hfi
    replace hv := Lib.hid hv
    go_enter Tryd.func22, Tryd.ntmps22
    go_wp2_with (go_at_call 11; go_must (refine (hva.out _ (by repeat (first | (with_reducible exact Below.refl _ _) | (with_reducible refine Below.drew ?_) | (with_reducible refine below_drewN ?_ _) | ((with_reducible refine Below.alloc ?_ ?_ _); rotate_left; focus ((try simp) <;> omega)) | ((with_reducible refine Below.setCell ?_ ?_ _); rotate_left; focus ((try simp) <;> omega)) | ((with_reducible refine Below.trans ?_ (Below.mono (by assumption) ?_)); rotate_left; focus ((try simp) <;> omega))))).mono ?_; rintro e w1 ⟨rfl, hb1⟩; have hz1 := hb1.size; (try simp at hz1); have hz1a : w.heap.size < w1.heap.size := (by omega); obtain ⟨hc1, hf1⟩ := blk_at hb1 w.heap.size (by (try simp) <;> omega); skip))
    exact bodyPost_ret (v := .tuple #[.slice A l.length c, .int .i64 1]) (by simp [results, Tryd.results22, go_sem]) rfl ⟨A, c, l, rfl, hback.out _ (by repeat (first | (with_reducible exact Below.refl _ _) | (with_reducible refine Below.drew ?_) | (with_reducible refine below_drewN ?_ _) | ((with_reducible refine Below.alloc ?_ ?_ _); rotate_left; focus ((try simp) <;> omega)) | ((with_reducible refine Below.setCell ?_ ?_ _); rotate_left; focus ((try simp) <;> omega)) | ((with_reducible refine Below.trans ?_ (Below.mono (by assumption) ?_)); rotate_left; focus ((try simp) <;> omega)))), hlc, hL.out, (by repeat (first | (with_reducible exact Below.refl _ _) | (with_reducible refine Below.drew ?_) | (with_reducible refine below_drewN ?_ _) | ((with_reducible refine Below.alloc ?_ ?_ _); rotate_left; focus ((try simp) <;> omega)) | ((with_reducible refine Below.setCell ?_ ?_ _); rotate_left; focus ((try simp) <;> omega)) | ((with_reducible refine Below.trans ?_ (Below.mono (by assumption) ?_)); rotate_left; focus ((try simp) <;> omega))))⟩
  rw [show validE (l.map Grp.g) = 0 by unfold validE; rw [hv]; rfl] at hva
  have hfc := find_neg (val_iff.1 hv).asc p
  rcases hh : hasN p (l.map Grp.g) with _ | _
  · have hR : startE (l.map Grp.g) p r = 8 := by unfold startE; rw [if_neg (by rw [hv]; decide), if_pos hh]
    have hL : Hid (l.map Grp.g = startL (l.map Grp.g) p r) := Lib.hid (by unfold startL; rw [if_pos (by rw [hR]; decide)])
    rw [hR]
    have hF : findN p (l.map Grp.g) = -1 := by
      rcases hfc with ⟨h, _⟩ | ⟨_, h⟩
      · rw [hh] at h; cases h
      · exact h
    rw [hF] at hfi
    clear hR hr hm hfc hF
    replace hva := Lib.hid hva
    replace hfi := Lib.hid hfi
    replace hv := Lib.hid hv
    replace hh := Lib.hid hh
    go_enter Tryd.func22, Tryd.ntmps22
    go_wp2_with (first
      | (go_at_call 11; go_must (refine (hva.out _ (by repeat (first | (with_reducible exact Below.refl _ _) | (with_reducible refine Below.drew ?_) | (with_reducible refine below_drewN ?_ _) | ((with_reducible refine Below.alloc ?_ ?_ _); rotate_left; focus ((try simp) <;> omega)) | ((with_reducible refine Below.setCell ?_ ?_ _); rotate_left; focus ((try simp) <;> omega)) | ((with_reducible refine Below.trans ?_ (Below.mono (by assumption) ?_)); rotate_left; focus ((try simp) <;> omega))))).mono ?_; rintro e w1 ⟨rfl, hb1⟩; have hz1 := hb1.size; (try simp at hz1); have hz1a : w.heap.size < w1.heap.size := (by omega); obtain ⟨hc1, hf1⟩ := blk_at hb1 w.heap.size (by (try simp) <;> omega); skip))
      | (go_at_call 18; go_must (refine (hfi.out _ (by repeat (first | (with_reducible exact Below.refl _ _) | (with_reducible refine Below.drew ?_) | (with_reducible refine below_drewN ?_ _) | ((with_reducible refine Below.alloc ?_ ?_ _); rotate_left; focus ((try simp) <;> omega)) | ((with_reducible refine Below.setCell ?_ ?_ _); rotate_left; focus ((try simp) <;> omega)) | ((with_reducible refine Below.trans ?_ (Below.mono (by assumption) ?_)); rotate_left; focus ((try simp) <;> omega))))).mono ?_; rintro e w2 ⟨rfl, rfl⟩)))
    exact bodyPost_ret (v := .tuple #[.slice A l.length c, .int .i64 8]) (by simp [results, Tryd.results22, go_sem]) rfl ⟨A, c, l, rfl, hback.out _ (by repeat (first | (with_reducible exact Below.refl _ _) | (with_reducible refine Below.drew ?_) | (with_reducible refine below_drewN ?_ _) | ((with_reducible refine Below.alloc ?_ ?_ _); rotate_left; focus ((try simp) <;> omega)) | ((with_reducible refine Below.setCell ?_ ?_ _); rotate_left; focus ((try simp) <;> omega)) | ((with_reducible refine Below.trans ?_ (Below.mono (by assumption) ?_)); rotate_left; focus ((try simp) <;> omega)))), hlc, hL.out, (by repeat (first | (with_reducible exact Below.refl _ _) | (with_reducible refine Below.drew ?_) | (with_reducible refine below_drewN ?_ _) | ((with_reducible refine Below.alloc ?_ ?_ _); rotate_left; focus ((try simp) <;> omega)) | ((with_reducible refine Below.setCell ?_ ?_ _); rotate_left; focus ((try simp) <;> omega)) | ((with_reducible refine Below.trans ?_ (Below.mono (by assumption) ?_)); rotate_left; focus ((try simp) <;> omega))))⟩
  have hF : findN p (l.map Grp.g) = (atN p (l.map Grp.g) : Int) := by
    rcases hfc with ⟨_, h⟩ | ⟨h, _⟩
    · exact h
    · rw [hh] at h; cases h
  rw [hF] at hfi
  obtain ⟨x, hx, hxb, hxp⟩ := at_grp hh
  have hSE : startE (l.map Grp.g) p r = if (⟨x.run, x.job⟩ : JRef) ≠ zR then 16 else if x.wait.head? ≠ some r then 22 else 0 := by unfold startE; rw [if_neg (by rw [hv]; decide), if_neg (by rw [hh]; decide), hxb]; rfl
  have hSL : startE (l.map Grp.g) p r = 0 → startL (l.map Grp.g) p r = (l.map Grp.g).set (atN p (l.map Grp.g)) (startG x.g r) := fun h => by unfold startL; rw [if_neg (by rw [h]; decide), hxb]
  have hPG : ∀ y : G, y.name = p → putG (l.map Grp.g) y = (l.map Grp.g).set (atN p (l.map Grp.g)) y := fun y hy => by unfold putG; rw [hy, if_pos hh]
  have hat := (List.getElem?_eq_some_iff.1 hx).1
  obtain ⟨k, hk⟩ : ∃ k, atN p (l.map Grp.g) = k := ⟨_, rfl⟩
  rw [hk] at hfi hx hat hSL hPG
  obtain ⟨g, o, rfl, hg, q⟩ := hr.row (by omega)
  replace q := q k x hx
  have q0 := q 0 (.string x.name.1) rfl
  try rw [Nat.add_zero] at q0
  have q1 := q 1 (.string x.run.1) rfl
  have q2 := q 2 (.string x.job.1) rfl
  have q3 := q 3 (.slice x.waitA x.wait.length x.waitC) rfl
  clear q
  have i0 : (0 : Int) ≤ (k : Int) := by omega
  have i00 : ¬ (k : Int) < 0 := by omega
  have i1 : (k : Int) < (l.length : Int) := by omega
  have hxm := List.mem_of_getElem? hx
  have hlab := hr.labs x hxm
  have hvs := valid_some hv hxm
  have hnd := jobs_nodup (val_iff.1 hv).nodup (List.mem_map_of_mem (f := Grp.g) hxm)
  have ha := Lib.hid (val_iff.1 hv).asc
  have hq := refB_zero x.run x.job
  have hxwl := hm.wait x hxm
  clear hxb hF hfc
  replace hva := Lib.hid hva
  replace hfi := Lib.hid hfi
  replace hv := Lib.hid hv
  replace hh := Lib.hid hh
  replace hk := Lib.hid hk
  replace hr := Lib.hid hr
  replace hm := Lib.hid hm
  replace hPG := Lib.hid hPG
  replace hxp := Lib.hid hxp
  by_cases hz : (⟨x.run, x.job⟩ : JRef) = zR
  · have hs : refB x.run.1 x.job.1 ⟨#[]⟩ ⟨#[]⟩ = true := hq.trans (decide_eq_true hz)
    rw [if_neg (by simp [hz])] at hSE
    obtain ⟨s, t, hst⟩ := hvs hz
    rw [jobs_zero hz, hst] at hnd
    obtain ⟨l1, l2, hw⟩ := hlab
    have hw0 := hw
    rw [hst] at hw hSE
    obtain ⟨b, o2, hA, hb, hq3⟩ := hw (by simp)
    have h0 := hq3 0 s rfl 0 (.string s.run.1) rfl
    have h1 := hq3 0 s rfl 1 (.string s.job.1) rfl
    simp only [Nat.zero_mul, Nat.add_zero] at h0 h1
    clear hq3 hw
    obtain ⟨n, hn⟩ : ∃ n, x.wait.length = n + 1 := ⟨t.length, by rw [hst]; rfl⟩
    rw [hA, hn] at q3
    have hqs := refB_iff s.run s.job r.run r.job
    by_cases hsr : s = r
    · subst hsr
      have hs2 : refB s.run.1 s.job.1 s.run.1 s.job.1 = true := hqs.trans (decide_eq_true rfl)
      rw [if_neg (by simp)] at hSE
      have hL := Lib.hid (hSL hSE)
      rw [hSE]
      have hwi : Hid (∀ W, Below w.heap.size w W → Calls Tryd.prog 47 #[.slice (some ⟨b, o2, none⟩) (n + 1) x.waitC, .agg #[.string s.run.1, .string s.job.1]] W fun e w' => ∃ (A' : Option Addr) (c' : Nat), e = .returned (.slice A' t.length c') ∧ Own jRefE 2 29 w' W.heap.size (.slice A' t.length c') t ∧ Below W.heap.size W w') := Lib.hid fun W hb2 => by
        have h := rwithout_any x.waitA x.waitC x.wait s W ((hw0.below hb2 (Nat.le_refl _)).more hb2.size) hxwl
        rw [hn, hst, filter_head (List.nodup_cons.1 hnd).1, hA] at h
        exact h
      have hmp : Hid (∀ (A' : Option Addr) (c' : Nat), putG (l.map Grp.g) (⟨x.name, s.run, s.job, A', c', t⟩ : Grp).g = startL (l.map Grp.g) p s) := Lib.hid fun A' c' => by
        rw [hL.out, hPG.out _ (show x.name = p from hxp.out)]
        congr 1
        show (⟨x.name, ⟨s.run, s.job⟩, t⟩ : G) = ⟨x.name, s, x.wait.tail⟩
        rw [hst]
        rfl
      clear hSE hSL hq hqs hvs hnd hw0
      replace hn := Lib.hid hn
      replace hz := Lib.hid hz
      replace hst := Lib.hid hst
      replace hA := Lib.hid hA
      replace hx := Lib.hid hx
      clear l1 l2
      go_enter Tryd.func22, Tryd.ntmps22
      go_wp2_with (first
        | (go_at_call 11; go_must (refine (hva.out _ (by repeat (first | (with_reducible exact Below.refl _ _) | (with_reducible refine Below.drew ?_) | (with_reducible refine below_drewN ?_ _) | ((with_reducible refine Below.alloc ?_ ?_ _); rotate_left; focus ((try simp) <;> omega)) | ((with_reducible refine Below.setCell ?_ ?_ _); rotate_left; focus ((try simp) <;> omega)) | ((with_reducible refine Below.trans ?_ (Below.mono (by assumption) ?_)); rotate_left; focus ((try simp) <;> omega))))).mono ?_; rintro e w1 ⟨rfl, hb1⟩; have hz1 := hb1.size; (try simp at hz1); have hz1a : w.heap.size < w1.heap.size := (by omega); obtain ⟨hc1, hf1⟩ := blk_at hb1 w.heap.size (by (try simp) <;> omega); obtain ⟨hd1, he1⟩ := blk_at hb1 g (by (try simp) <;> omega); obtain ⟨hk1, hj1⟩ := blk_at hb1 b (by (try simp) <;> omega); have hz1b : b < w1.heap.size := (by omega); have hz1c : g < w1.heap.size := (by omega)))
        | (go_at_call 18; go_must (refine (hfi.out _ (by repeat (first | (with_reducible exact Below.refl _ _) | (with_reducible refine Below.drew ?_) | (with_reducible refine below_drewN ?_ _) | ((with_reducible refine Below.alloc ?_ ?_ _); rotate_left; focus ((try simp) <;> omega)) | ((with_reducible refine Below.setCell ?_ ?_ _); rotate_left; focus ((try simp) <;> omega)) | ((with_reducible refine Below.trans ?_ (Below.mono (by assumption) ?_)); rotate_left; focus ((try simp) <;> omega))))).mono ?_; rintro e w2 ⟨rfl, rfl⟩)))
      go_region
      go_wp2_with (first
        | (go_at_call 47; go_must (refine (hwi.out _ (by repeat (first | (with_reducible exact Below.refl _ _) | (with_reducible refine Below.drew ?_) | (with_reducible refine below_drewN ?_ _) | ((with_reducible refine Below.alloc ?_ ?_ _); rotate_left; focus ((try simp) <;> omega)) | ((with_reducible refine Below.setCell ?_ ?_ _); rotate_left; focus ((try simp) <;> omega)) | ((with_reducible refine Below.trans ?_ (Below.mono (by assumption) ?_)); rotate_left; focus ((try simp) <;> omega))))).mono ?_; rintro e w5 ⟨A5, c5, rfl, hO5, hb5⟩; have hz5 := hb5.size; (try simp at hz5); obtain ⟨hc5, hf5⟩ := blk_at hb5 w1.heap.size (by (try simp) <;> omega); have k0 : w5.cell? ⟨w1.heap.size, 0, none⟩ = some (.string x.name.1) := (hc5 _).trans (by go_simp); have k1 : w5.cell? ⟨w1.heap.size, 1, none⟩ = some (.string s.run.1) := (hc5 _).trans (by go_simp); have k2 : w5.cell? ⟨w1.heap.size, 2, none⟩ = some (.string s.job.1) := (hc5 _).trans (by go_simp); have k3 : w5.cell? ⟨w1.heap.size, 3, none⟩ = some (.slice (some ⟨b, o2, none⟩) (n + 1) x.waitC) := (hc5 _).trans (by go_simp); have kf : ∀ o, w5.frozen? ⟨w1.heap.size, o, none⟩ = false := (fun o => (hf5 o).trans (by go_simp)); have hz5a : w1.heap.size < w5.heap.size := (by omega); have hY := Lib.hid (show OwnG (w5.setCell ⟨w1.heap.size, 3, none⟩ (.slice A5 t.length c5)) w.heap.size (⟨x.name, s.run, s.job, A5, c5, t⟩ : Grp) from Own.setCell (Own.base hO5 (by (try simp) <;> omega)) (fun q hq e => by have := (hO5.lt q hq).1; (try simp at this); (try simp at e); omega) _); clear hc5 hf5 hO5))
        | (go_at_call 46; go_must (refine (rput_any _ c l (⟨x.name, s.run, s.job, A5, c5, t⟩ : Grp) _ (hback.out _ (by repeat (first | (with_reducible exact Below.refl _ _) | (with_reducible refine Below.drew ?_) | (with_reducible refine below_drewN ?_ _) | ((with_reducible refine Below.alloc ?_ ?_ _); rotate_left; focus ((try simp) <;> omega)) | ((with_reducible refine Below.setCell ?_ ?_ _); rotate_left; focus ((try simp) <;> omega)) | ((with_reducible refine Below.trans ?_ (Below.mono (by assumption) ?_)); rotate_left; focus ((try simp) <;> omega))))) (OwnG.lab (OwnG.all hY.out (by repeat (first | (with_reducible exact Below.refl _ _) | (with_reducible refine Below.drew ?_) | (with_reducible refine below_drewN ?_ _) | ((with_reducible refine Below.alloc ?_ ?_ _); rotate_left; focus ((try simp) <;> omega)) | ((with_reducible refine Below.setCell ?_ ?_ _); rotate_left; focus ((try simp) <;> omega)) | ((with_reducible refine Below.trans ?_ (Below.mono (by assumption) ?_)); rotate_left; focus ((try simp) <;> omega)))))) ha.out hlm).mono ?_; rintro e w6 ⟨A6, c6, L6, rfl, hr6, hl6, hm6, hb6⟩; have hz6 := hb6.size; (try simp at hz6); have hr6h := Lib.hid hr6; have hm6h := Lib.hid hm6; clear hr6 hm6)))
      exact bodyPost_ret (v := .tuple #[.slice A6 L6.length c6, .int .i64 0]) (by simp [results, Tryd.results22, go_sem]) rfl ⟨A6, c6, L6, rfl, hr6h.out, hl6, by rw [hm6h.out, hmp.out], (by repeat (first | (with_reducible exact Below.refl _ _) | (with_reducible refine Below.drew ?_) | (with_reducible refine below_drewN ?_ _) | ((with_reducible refine Below.alloc ?_ ?_ _); rotate_left; focus ((try simp) <;> omega)) | ((with_reducible refine Below.setCell ?_ ?_ _); rotate_left; focus ((try simp) <;> omega)) | ((with_reducible refine Below.trans ?_ (Below.mono (by assumption) ?_)); rotate_left; focus ((try simp) <;> omega))))⟩
    · have hs2 : refB s.run.1 s.job.1 r.run.1 r.job.1 = false := hqs.trans (decide_eq_false hsr)
      rw [if_pos (by simpa using hsr)] at hSE
      have hL : Hid (l.map Grp.g = startL (l.map Grp.g) p r) := Lib.hid (by unfold startL; rw [if_pos (by rw [hSE]; decide)])
      rw [hSE]
      clear hSE hSL hq hqs hvs
      replace hn := Lib.hid hn
      replace hz := Lib.hid hz
      replace hst := Lib.hid hst
      replace hA := Lib.hid hA
      replace hx := Lib.hid hx
      clear hw0 l1 l2 hnd hxwl
      go_enter Tryd.func22, Tryd.ntmps22
      go_wp2_with (first
        | (go_at_call 11; go_must (refine (hva.out _ (by repeat (first | (with_reducible exact Below.refl _ _) | (with_reducible refine Below.drew ?_) | (with_reducible refine below_drewN ?_ _) | ((with_reducible refine Below.alloc ?_ ?_ _); rotate_left; focus ((try simp) <;> omega)) | ((with_reducible refine Below.setCell ?_ ?_ _); rotate_left; focus ((try simp) <;> omega)) | ((with_reducible refine Below.trans ?_ (Below.mono (by assumption) ?_)); rotate_left; focus ((try simp) <;> omega))))).mono ?_; rintro e w1 ⟨rfl, hb1⟩; have hz1 := hb1.size; (try simp at hz1); have hz1a : w.heap.size < w1.heap.size := (by omega); obtain ⟨hc1, hf1⟩ := blk_at hb1 w.heap.size (by (try simp) <;> omega); obtain ⟨hd1, he1⟩ := blk_at hb1 g (by (try simp) <;> omega); obtain ⟨hk1, hj1⟩ := blk_at hb1 b (by (try simp) <;> omega); have hz1b : b < w1.heap.size := (by omega); have hz1c : g < w1.heap.size := (by omega)))
        | (go_at_call 18; go_must (refine (hfi.out _ (by repeat (first | (with_reducible exact Below.refl _ _) | (with_reducible refine Below.drew ?_) | (with_reducible refine below_drewN ?_ _) | ((with_reducible refine Below.alloc ?_ ?_ _); rotate_left; focus ((try simp) <;> omega)) | ((with_reducible refine Below.setCell ?_ ?_ _); rotate_left; focus ((try simp) <;> omega)) | ((with_reducible refine Below.trans ?_ (Below.mono (by assumption) ?_)); rotate_left; focus ((try simp) <;> omega))))).mono ?_; rintro e w2 ⟨rfl, rfl⟩)))
      go_region
      all_goals go_wp2_with fail
      all_goals exact bodyPost_ret (v := .tuple #[.slice (some ⟨g, o, none⟩) l.length c, .int .i64 22]) (by simp [results, Tryd.results22, go_sem]) rfl ⟨(some ⟨g, o, none⟩), c, l, rfl, hback.out _ (by repeat (first | (with_reducible exact Below.refl _ _) | (with_reducible refine Below.drew ?_) | (with_reducible refine below_drewN ?_ _) | ((with_reducible refine Below.alloc ?_ ?_ _); rotate_left; focus ((try simp) <;> omega)) | ((with_reducible refine Below.setCell ?_ ?_ _); rotate_left; focus ((try simp) <;> omega)) | ((with_reducible refine Below.trans ?_ (Below.mono (by assumption) ?_)); rotate_left; focus ((try simp) <;> omega)))), hlc, hL.out, (by repeat (first | (with_reducible exact Below.refl _ _) | (with_reducible refine Below.drew ?_) | (with_reducible refine below_drewN ?_ _) | ((with_reducible refine Below.alloc ?_ ?_ _); rotate_left; focus ((try simp) <;> omega)) | ((with_reducible refine Below.setCell ?_ ?_ _); rotate_left; focus ((try simp) <;> omega)) | ((with_reducible refine Below.trans ?_ (Below.mono (by assumption) ?_)); rotate_left; focus ((try simp) <;> omega))))⟩
  · have hs : refB x.run.1 x.job.1 ⟨#[]⟩ ⟨#[]⟩ = false := hq.trans (decide_eq_false hz)
    rw [if_pos hz] at hSE
    have hL : Hid (l.map Grp.g = startL (l.map Grp.g) p r) := Lib.hid (by unfold startL; rw [if_pos (by rw [hSE]; decide)])
    rw [hSE]
    clear hSE hSL hq hvs hnd
    replace hz := Lib.hid hz
    replace hx := Lib.hid hx
    go_enter Tryd.func22, Tryd.ntmps22
    go_wp2_with (first
      | (go_at_call 11; go_must (refine (hva.out _ (by repeat (first | (with_reducible exact Below.refl _ _) | (with_reducible refine Below.drew ?_) | (with_reducible refine below_drewN ?_ _) | ((with_reducible refine Below.alloc ?_ ?_ _); rotate_left; focus ((try simp) <;> omega)) | ((with_reducible refine Below.setCell ?_ ?_ _); rotate_left; focus ((try simp) <;> omega)) | ((with_reducible refine Below.trans ?_ (Below.mono (by assumption) ?_)); rotate_left; focus ((try simp) <;> omega))))).mono ?_; rintro e w1 ⟨rfl, hb1⟩; have hz1 := hb1.size; (try simp at hz1); have hz1a : w.heap.size < w1.heap.size := (by omega); obtain ⟨hc1, hf1⟩ := blk_at hb1 w.heap.size (by (try simp) <;> omega); obtain ⟨hd1, he1⟩ := blk_at hb1 g (by (try simp) <;> omega); have hz1c : g < w1.heap.size := (by omega)))
      | (go_at_call 18; go_must (refine (hfi.out _ (by repeat (first | (with_reducible exact Below.refl _ _) | (with_reducible refine Below.drew ?_) | (with_reducible refine below_drewN ?_ _) | ((with_reducible refine Below.alloc ?_ ?_ _); rotate_left; focus ((try simp) <;> omega)) | ((with_reducible refine Below.setCell ?_ ?_ _); rotate_left; focus ((try simp) <;> omega)) | ((with_reducible refine Below.trans ?_ (Below.mono (by assumption) ?_)); rotate_left; focus ((try simp) <;> omega))))).mono ?_; rintro e w2 ⟨rfl, rfl⟩)))
    exact bodyPost_ret (v := .tuple #[.slice (some ⟨g, o, none⟩) l.length c, .int .i64 16]) (by simp [results, Tryd.results22, go_sem]) rfl ⟨(some ⟨g, o, none⟩), c, l, rfl, hback.out _ (by repeat (first | (with_reducible exact Below.refl _ _) | (with_reducible refine Below.drew ?_) | (with_reducible refine below_drewN ?_ _) | ((with_reducible refine Below.alloc ?_ ?_ _); rotate_left; focus ((try simp) <;> omega)) | ((with_reducible refine Below.setCell ?_ ?_ _); rotate_left; focus ((try simp) <;> omega)) | ((with_reducible refine Below.trans ?_ (Below.mono (by assumption) ?_)); rotate_left; focus ((try simp) <;> omega)))), hlc, hL.out, (by repeat (first | (with_reducible exact Below.refl _ _) | (with_reducible refine Below.drew ?_) | (with_reducible refine below_drewN ?_ _) | ((with_reducible refine Below.alloc ?_ ?_ _); rotate_left; focus ((try simp) <;> omega)) | ((with_reducible refine Below.setCell ?_ ?_ _); rotate_left; focus ((try simp) <;> omega)) | ((with_reducible refine Below.trans ?_ (Below.mono (by assumption) ?_)); rotate_left; focus ((try simp) <;> omega))))⟩
end Go.Proofs.YtbellobjajnlkaaDoor
