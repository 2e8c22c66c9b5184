/-
  The walks of groups: the first waiting job of a group runs, by the program.
-/
import Derived.Test.YtbellobjajnlkaaDoorCon14
import Derived.Test.YtbellobjajnlkaaDoorCon1315
import Derived.Deep.RegionHeld3
import Derived.Deep.DeepCutAuto



namespace Go.Proofs.YtbellobjajnlkaaDoor
open Go.RowKit

attribute [local go_sem ↓] eq_ref ne_ref
/-- A group whose first waiting job runs: three cells of its row. -/
def put3 (w : World) (g k : Nat) (r : JRef) (v : Value) : World := ((w.setCell ⟨g, k * 4 + 1, none⟩ (.string r.run.1)).setCell ⟨g, k * 4 + 2, none⟩ (.string r.job.1)).setCell ⟨g, k * 4 + 3, none⟩ v
theorem put3_size (w : World) (g k : Nat) (r : JRef) (v : Value) : (put3 w g k r v).heap.size = w.heap.size := by unfold put3; simp only [World.size_setCell]
theorem put3_below {w : World} {g k B : Nat} {r : JRef} {v : Value} (hg : B ≤ g) : Below B w (put3 w g k r v) := (((Below.refl _ _).setCell hg _).setCell hg _).setCell hg _
theorem Own.put3 {α : Type} {enc : α → List Value} {j : Nat} {e : TypeId} {w : World} {b : Nat} {v : Value} {l : List α} (h : Own enc j e w b v l) {g k : Nat} {r : JRef} {u : Value} (hg : ∀ q, v.ownBlock = some q → q ≠ g) : Own enc j e (put3 w g k r u) b v l :=
  ((h.setCell (p := ⟨g, _, none⟩) hg _).setCell (p := ⟨g, _, none⟩) hg _).setCell (p := ⟨g, _, none⟩) hg _
/-- The first job of a group begun. -/
theorem start_rw {w : World} {H g cap k n : Nat} {l : List Grp} {x : Grp} {r : JRef} {t : List JRef} {A2 : Option Addr} {C2 : Nat} (h : OwnGL w H (.slice (some ⟨g, 0, none⟩) n cap) l) (hx : l[k]? = some x) (hw : x.wait = r :: t) (hc : x.waitC = C2 + 1) (hA : t = [] ∨ ∃ b, x.waitA = some ⟨b, 0, none⟩ ∧ A2 = some ⟨b, 2, none⟩) :
    RwG (put3 w g k r (.slice A2 t.length C2)) w.heap.size (some ⟨g, 0, none⟩) (l.set k ⟨x.name, r.run, r.job, A2, C2, t⟩) := by
  have hk := (List.getElem?_eq_some_iff.1 hx).1
  have hxm := List.mem_of_getElem? hx
  have hn : l.length = n := by
    obtain ⟨A, c, e, _⟩ := h.row.form
    simp at e
    exact e.2.1.symm
  have h0 := set_cellN grpE_len 1 (y := ({ x with run := r.run } : Grp)) (u := .string r.run.1) h.row hn hx (by omega) rfl
  have h1 := set_cellN grpE_len 2 (x := ({ x with run := r.run } : Grp)) (y := ({ x with run := r.run, job := r.job } : Grp)) (u := .string r.job.1) h0 (by rw [List.length_set]; exact hn) (List.getElem?_set_self hk) (by omega) rfl
  have h2 := set_cellN grpE_len 3 (x := ({ x with run := r.run, job := r.job } : Grp)) (y := (⟨x.name, r.run, r.job, A2, C2, t⟩ : Grp)) (u := .slice A2 t.length C2) h1 (by rw [List.length_set, List.length_set]; exact hn) (by rw [List.set_set]; exact List.getElem?_set_self hk) (by omega) rfl
  simp only [List.set_set] at h2
  have hoth : ∀ z ∈ l, OwnG (put3 w g k r (.slice A2 t.length C2)) H z := fun z hz => Own.put3 (h.labs z hz).1 fun q hq e => (h.labs z hz).2 q hq (by rw [e]; rfl)
  have hsz := put3_size w g k r (.slice A2 t.length C2)
  refine ⟨?_, fun z hz => ?_⟩
  · have h3 := h2.reads grpE_len
    exact h3.more (Nat.le_of_eq hsz)
  · obtain ⟨j, hj⟩ := List.getElem?_of_mem hz
    rw [List.getElem?_set] at hj
    split at hj
    · obtain rfl : (⟨x.name, r.run, r.job, A2, C2, t⟩ : Grp) = z := by simp at hj; first | exact hj | exact hj.2
      obtain ⟨l1, l2, l3⟩ := (hoth x hxm).lab
      rw [hw, hc] at l1
      rw [hc] at l2
      refine ⟨by simpa using l1, by show C2 ≤ maxLen; omega, ?_⟩
      rcases hA with h4 | ⟨b, h4, h5⟩
      · show Rw jRefE 2 _ _ A2 t
        rw [h4]
        exact Rw.nil
      · rw [h4, hw] at l3
        have h6 := l3.cut (a := 1) (b := (r :: t).length)
        rw [List.take_length] at h6
        show Rw jRefE 2 _ _ A2 t
        have h7 : Rw jRefE 2 (put3 w g k r (.slice A2 t.length C2)) (put3 w g k r (.slice A2 t.length C2)).heap.size (some ⟨b, 2, none⟩) t := by simpa using h6
        rw [← h5] at h7
        exact h7.more (Nat.le_of_eq hsz)
    · exact ((hoth z (List.mem_of_getElem? hj)).lab).more (Nat.le_of_eq hsz)
theorem grp_cells {w : World} {H g cap n i : Nat} {l : List Grp} {x : Grp} (hown : Own grpE 4 45 w H (.slice (some ⟨g, 0, none⟩) n cap) l) (hx : l[i]? = some x) : w.cell? ⟨g, i * 4, none⟩ = some (.string x.name.1) ∧ w.cell? ⟨g, i * 4 + 1, none⟩ = some (.string x.run.1) ∧ w.cell? ⟨g, i * 4 + 2, none⟩ = some (.string x.job.1) ∧ w.cell? ⟨g, i * 4 + 3, none⟩ = some (.slice x.waitA x.wait.length x.waitC) := by
  have hil := (List.getElem?_eq_some_iff.1 hx).1
  obtain ⟨g', o', e', _, q⟩ := hown.reads grpE_len (by omega)
  simp only [Option.some.injEq, Addr.mk.injEq] at e'
  obtain ⟨rfl, rfl, _⟩ := e'
  have h0 := q i x hx 0 (.string x.name.1) rfl
  have h1 := q i x hx 1 (.string x.run.1) rfl
  have h2 := q i x hx 2 (.string x.job.1) rfl
  have h3 := q i x hx 3 (.slice x.waitA x.wait.length x.waitC) rfl
  rw [Nat.zero_add] at h0 h1 h2 h3
  exact ⟨h0, h1, h2, h3⟩
set_option maxRecDepth 100000 in
set_option maxHeartbeats 8000000 in
theorem start_any (A : Option Addr) (c : Nat) (l : List Grp) (p : Str) (r : JRef) (w : World) (hr : RwG w w.heap.size A l) (hlc : l.length ≤ c) (hm : Mild l) (hG : Glob w) :
    Calls Tryd.prog 21 #[.slice A l.length c, .string p.1, .agg #[.string r.run.1, .string r.job.1]] w fun e w' => ∃ (A' : Option Addr) (c' : Nat) (l' : List Grp), e = .returned (.tuple #[.slice A' l'.length c', .int .i64 (startE (l.map Grp.g) p r)]) ∧ RwG w' w'.heap.size A' l' ∧ l'.length ≤ c' ∧ l'.map Grp.g = startL (l.map Grp.g) p r ∧ Below w.heap.size w w' := by
  have hva : ∀ W, Below w.heap.size w W → Calls Tryd.prog 10 #[.slice A l.length c] W fun e w' => e = .returned (.int .i64 (validE (l.map Grp.g))) ∧ Below W.heap.size W w' := fun W hb => valid_any A c l W ((hr.below hb (Nat.le_refl _)).more hb.size) hlc hm (hG.keep hb)
  have hga : ∀ W, Below w.heap.size w W → Calls Tryd.prog 43 #[.slice A l.length c, .string p.1] W fun e w' => e = .returned (.tuple #[.int .i64 (atN p (l.map Grp.g) : Int), .bool (hasN p (l.map Grp.g))]) ∧ Below W.heap.size W w' := fun W hb => group_any A c l p W ((hr.row.below hb (Nat.le_refl _)).more hb.size) (by have := hm.len; omega)
  have hco : Hid (∀ W, Below w.heap.size w W → Calls Tryd.prog 42 #[.slice A l.length c] W fun e w' => ∃ A' c' l', e = .returned (.slice A' l'.length c') ∧ OwnGL w' W.heap.size (.slice A' l'.length c') l' ∧ l'.map Grp.g = l.map Grp.g ∧ Below W.heap.size W w') := Lib.hid fun W hb => copied_any A c l W ((hr.below hb (Nat.le_refl _)).more hb.size) hm
  have hback : Hid (∀ W, Below w.heap.size w W → RwG W W.heap.size A l) := Lib.hid fun W hb => (hr.below hb (Nat.le_refl _)).more hb.size
  rcases hv : validB (l.map Grp.g) with _ | _
  · have hR : startE (l.map Grp.g) p r = 1 := by unfold startE; rw [if_pos hv]
    have hL : Hid (l.map Grp.g = startL (l.map Grp.g) p r) := Lib.hid (by unfold startL; rw [if_pos (by rw [hR]; decide)])
    rw [hR]
    rw [show validE (l.map Grp.g) = 1 by unfold validE; rw [hv]; rfl] at hva
    clear hR hr hm hG
    replace hva := Lib.hid hva
    replace hga := Lib.hid hga
    replace hv := Lib.hid hv
    go_enter Tryd.func21, Tryd.ntmps21
    go_wp2_with (go_at_call 10; go_must (refine (hva.out _ (by repeat (first | (with_reducible exact Below.refl _ _) | (with_reducible refine Below.drew ?_) | (with_reducible refine below_drewN ?_ _) | ((with_reducible refine Below.alloc ?_ ?_ _); rotate_left; focus ((try simp) <;> omega)) | ((with_reducible refine Below.setCell ?_ ?_ _); rotate_left; focus ((try simp) <;> omega)) | ((with_reducible refine Below.trans ?_ (Below.mono (by assumption) ?_)); rotate_left; focus ((try simp) <;> omega))))).mono ?_; rintro e w1 ⟨rfl, hb1⟩; have hz1 := hb1.size; (try simp at hz1); have hz1a : w.heap.size < w1.heap.size := (by omega); obtain ⟨hc1, hf1⟩ := blk_at hb1 w.heap.size (by (try simp) <;> omega); skip))
    exact bodyPost_ret (v := .tuple #[.slice A l.length c, .int .i64 1]) (by simp [results, Tryd.results21, go_sem]) rfl ⟨A, c, l, rfl, hback.out _ (by repeat (first | (with_reducible exact Below.refl _ _) | (with_reducible refine Below.drew ?_) | (with_reducible refine below_drewN ?_ _) | ((with_reducible refine Below.alloc ?_ ?_ _); rotate_left; focus ((try simp) <;> omega)) | ((with_reducible refine Below.setCell ?_ ?_ _); rotate_left; focus ((try simp) <;> omega)) | ((with_reducible refine Below.trans ?_ (Below.mono (by assumption) ?_)); rotate_left; focus ((try simp) <;> omega)))), hlc, hL.out, (by repeat (first | (with_reducible exact Below.refl _ _) | (with_reducible refine Below.drew ?_) | (with_reducible refine below_drewN ?_ _) | ((with_reducible refine Below.alloc ?_ ?_ _); rotate_left; focus ((try simp) <;> omega)) | ((with_reducible refine Below.setCell ?_ ?_ _); rotate_left; focus ((try simp) <;> omega)) | ((with_reducible refine Below.trans ?_ (Below.mono (by assumption) ?_)); rotate_left; focus ((try simp) <;> omega))))⟩
  rw [show validE (l.map Grp.g) = 0 by unfold validE; rw [hv]; rfl] at hva
  rcases hh : hasN p (l.map Grp.g) with _ | _
  · have hR : startE (l.map Grp.g) p r = 8 := by unfold startE; rw [if_neg (by rw [hv]; decide), if_pos hh]
    have hL : Hid (l.map Grp.g = startL (l.map Grp.g) p r) := Lib.hid (by unfold startL; rw [if_pos (by rw [hR]; decide)])
    rw [hR]
    rw [hh] at hga
    clear hR hr hm hG
    replace hva := Lib.hid hva
    replace hga := Lib.hid hga
    replace hv := Lib.hid hv
    replace hh := Lib.hid hh
    go_enter Tryd.func21, Tryd.ntmps21
    go_wp2_with (first
      | (go_at_call 10; go_must (refine (hva.out _ (by repeat (first | (with_reducible exact Below.refl _ _) | (with_reducible refine Below.drew ?_) | (with_reducible refine below_drewN ?_ _) | ((with_reducible refine Below.alloc ?_ ?_ _); rotate_left; focus ((try simp) <;> omega)) | ((with_reducible refine Below.setCell ?_ ?_ _); rotate_left; focus ((try simp) <;> omega)) | ((with_reducible refine Below.trans ?_ (Below.mono (by assumption) ?_)); rotate_left; focus ((try simp) <;> omega))))).mono ?_; rintro e w1 ⟨rfl, hb1⟩; have hz1 := hb1.size; (try simp at hz1); have hz1a : w.heap.size < w1.heap.size := (by omega); obtain ⟨hc1, hf1⟩ := blk_at hb1 w.heap.size (by (try simp) <;> omega); skip))
      | (go_at_call 43; go_must (refine (hga.out _ (by repeat (first | (with_reducible exact Below.refl _ _) | (with_reducible refine Below.drew ?_) | (with_reducible refine below_drewN ?_ _) | ((with_reducible refine Below.alloc ?_ ?_ _); rotate_left; focus ((try simp) <;> omega)) | ((with_reducible refine Below.setCell ?_ ?_ _); rotate_left; focus ((try simp) <;> omega)) | ((with_reducible refine Below.trans ?_ (Below.mono (by assumption) ?_)); rotate_left; focus ((try simp) <;> omega))))).mono ?_; rintro e w2 ⟨rfl, hb2⟩; have hz2 := hb2.size; have hz2a : w.heap.size < w2.heap.size := (by omega); obtain ⟨hc2, hf2⟩ := blk_at hb2 w.heap.size (by omega); skip)))
    exact bodyPost_ret (v := .tuple #[.slice A l.length c, .int .i64 8]) (by simp [results, Tryd.results21, go_sem]) rfl ⟨A, c, l, rfl, hback.out _ (by repeat (first | (with_reducible exact Below.refl _ _) | (with_reducible refine Below.drew ?_) | (with_reducible refine below_drewN ?_ _) | ((with_reducible refine Below.alloc ?_ ?_ _); rotate_left; focus ((try simp) <;> omega)) | ((with_reducible refine Below.setCell ?_ ?_ _); rotate_left; focus ((try simp) <;> omega)) | ((with_reducible refine Below.trans ?_ (Below.mono (by assumption) ?_)); rotate_left; focus ((try simp) <;> omega)))), hlc, hL.out, (by repeat (first | (with_reducible exact Below.refl _ _) | (with_reducible refine Below.drew ?_) | (with_reducible refine below_drewN ?_ _) | ((with_reducible refine Below.alloc ?_ ?_ _); rotate_left; focus ((try simp) <;> omega)) | ((with_reducible refine Below.setCell ?_ ?_ _); rotate_left; focus ((try simp) <;> omega)) | ((with_reducible refine Below.trans ?_ (Below.mono (by assumption) ?_)); rotate_left; focus ((try simp) <;> omega))))⟩
  obtain ⟨x, hx, hxb, _⟩ := at_grp hh
  rw [hh] at hga
  have hSE : startE (l.map Grp.g) p r = if (⟨x.run, x.job⟩ : JRef) ≠ zR then 16 else if x.wait.head? ≠ some r then 22 else 0 := by unfold startE; rw [if_neg (by rw [hv]; decide), if_neg (by rw [hh]; decide), hxb]; rfl
  have hSL : startE (l.map Grp.g) p r = 0 → startL (l.map Grp.g) p r = (l.map Grp.g).set (atN p (l.map Grp.g)) (startG x.g r) := fun h => by unfold startL; rw [if_neg (by rw [h]; decide), hxb]
  have hat := (List.getElem?_eq_some_iff.1 hx).1
  obtain ⟨k, hk⟩ : ∃ k, atN p (l.map Grp.g) = k := ⟨_, rfl⟩
  rw [hk] at hga hx hat hSL
  obtain ⟨g, o, rfl, hg, q⟩ := hr.row (by omega)
  replace q := q k x hx
  have q0 := q 0 (.string x.name.1) rfl
  try rw [Nat.add_zero] at q0
  have q1 := q 1 (.string x.run.1) rfl
  have q2 := q 2 (.string x.job.1) rfl
  have q3 := q 3 (.slice x.waitA x.wait.length x.waitC) rfl
  clear q
  have i0 : (0 : Int) ≤ (k : Int) := by omega
  have i1 : (k : Int) < (l.length : Int) := by omega
  have hxm := List.mem_of_getElem? hx
  have hlab := hr.labs x hxm
  have hvs := valid_some hv hxm
  have hq := refB_zero x.run x.job
  clear hG hxb
  replace hva := Lib.hid hva
  replace hga := Lib.hid hga
  replace hv := Lib.hid hv
  replace hh := Lib.hid hh
  replace hk := Lib.hid hk
  replace hr := Lib.hid hr
  replace hm := Lib.hid hm
  by_cases hz : (⟨x.run, x.job⟩ : JRef) = zR
  · have hs : refB x.run.1 x.job.1 ⟨#[]⟩ ⟨#[]⟩ = true := hq.trans (decide_eq_true hz)
    rw [if_neg (by simp [hz])] at hSE
    obtain ⟨s, t, hst⟩ := hvs hz
    obtain ⟨l1, l2, hw⟩ := hlab
    rw [hst] at hw hSE
    obtain ⟨b, o2, hA, hb, hq3⟩ := hw (by simp)
    have h0 := hq3 0 s rfl 0 (.string s.run.1) rfl
    have h1 := hq3 0 s rfl 1 (.string s.job.1) rfl
    simp only [Nat.zero_mul, Nat.add_zero] at h0 h1
    clear hq3 hw
    obtain ⟨n, hn⟩ : ∃ n, x.wait.length = n + 1 := ⟨t.length, by rw [hst]; rfl⟩
    rw [hA, hn] at q3
    replace hn := Lib.hid hn
    have hqs := refB_iff s.run s.job r.run r.job
    by_cases hsr : s = r
    · subst hsr
      have hs2 : refB s.run.1 s.job.1 s.run.1 s.job.1 = true := hqs.trans (decide_eq_true rfl)
      rw [if_neg (by simp)] at hSE
      have hL := Lib.hid (hSL hSE)
      rw [hSE]
      clear hSE hSL hq hqs hvs
      replace hz := Lib.hid hz
      replace hst := Lib.hid hst
      replace hA := Lib.hid hA
      replace hx := Lib.hid hx
      clear l1 l2
      go_enter Tryd.func21, Tryd.ntmps21
      go_wp2_with (first
        | (go_at_call 10; go_must (refine (hva.out _ (by repeat (first | (with_reducible exact Below.refl _ _) | (with_reducible refine Below.drew ?_) | (with_reducible refine below_drewN ?_ _) | ((with_reducible refine Below.alloc ?_ ?_ _); rotate_left; focus ((try simp) <;> omega)) | ((with_reducible refine Below.setCell ?_ ?_ _); rotate_left; focus ((try simp) <;> omega)) | ((with_reducible refine Below.trans ?_ (Below.mono (by assumption) ?_)); rotate_left; focus ((try simp) <;> omega))))).mono ?_; rintro e w1 ⟨rfl, hb1⟩; have hz1 := hb1.size; (try simp at hz1); have hz1a : w.heap.size < w1.heap.size := (by omega); obtain ⟨hc1, hf1⟩ := blk_at hb1 w.heap.size (by (try simp) <;> omega); obtain ⟨hd1, he1⟩ := blk_at hb1 g (by (try simp) <;> omega); obtain ⟨hk1, hj1⟩ := blk_at hb1 b (by (try simp) <;> omega); have hz1b : b < w1.heap.size := (by omega); have hz1c : g < w1.heap.size := (by omega)))
        | (go_at_call 43; go_must (refine (hga.out _ (by repeat (first | (with_reducible exact Below.refl _ _) | (with_reducible refine Below.drew ?_) | (with_reducible refine below_drewN ?_ _) | ((with_reducible refine Below.alloc ?_ ?_ _); rotate_left; focus ((try simp) <;> omega)) | ((with_reducible refine Below.setCell ?_ ?_ _); rotate_left; focus ((try simp) <;> omega)) | ((with_reducible refine Below.trans ?_ (Below.mono (by assumption) ?_)); rotate_left; focus ((try simp) <;> omega))))).mono ?_; rintro e w2 ⟨rfl, hb2⟩; have hz2 := hb2.size; have hz2a : w.heap.size < w2.heap.size := (by omega); obtain ⟨hc2, hf2⟩ := blk_at hb2 w.heap.size (by omega); obtain ⟨hd2, he2⟩ := blk_at hb2 g (by omega); obtain ⟨hk2, hj2⟩ := blk_at hb2 b (by omega); have hz2b : b < w2.heap.size := (by omega); have hz2c : g < w2.heap.size := (by omega))))
      go_region
      go_upto_region 11 with (go_at_call 42; go_must (refine (hco.out _ (by repeat (first | (with_reducible exact Below.refl _ _) | (with_reducible refine Below.drew ?_) | (with_reducible refine below_drewN ?_ _) | ((with_reducible refine Below.alloc ?_ ?_ _); rotate_left; focus ((try simp) <;> omega)) | ((with_reducible refine Below.setCell ?_ ?_ _); rotate_left; focus ((try simp) <;> omega)) | ((with_reducible refine Below.trans ?_ (Below.mono (by assumption) ?_)); rotate_left; focus ((try simp) <;> omega))))).mono ?_; rintro e w3 ⟨A6, c6, l6, rfl, ho6, hl6, hb3⟩; have hz3 := hb3.size; (try simp at hz3); obtain ⟨hc3, hf3⟩ := blk_at hb3 w.heap.size (by (try simp) <;> omega); have hz3a : w.heap.size < w3.heap.size := (by omega); obtain ⟨x6, hx6, hx6g⟩ : ∃ x6, l6[k]? = some x6 ∧ x6.g = x.g := (by have h : (l6.map Grp.g)[k]? = some x.g := (by rw [hl6, List.getElem?_map, hx.out]; rfl); rw [List.getElem?_map, Option.map_eq_some_iff] at h; exact h); have hk6 : k < l6.length := (List.getElem?_eq_some_iff.1 hx6).1; obtain ⟨g6, cap6, hv6, hHg6, hgl6⟩ := World.ownsRow.form ho6.row (by omega); simp only [Value.slice.injEq] at hv6; obtain ⟨rfl, -, rfl⟩ := hv6; have hHg7 : w2.heap.size ≤ g6 := hHg6; have hw6 := Lib.hid (show x6.wait = s :: t from (congrArg G.wait hx6g).trans hst.out); have ho6x := (ho6.labs x6 (List.mem_of_getElem? hx6)).1; obtain ⟨b6, cp6, hv, _, _⟩ := World.ownsRow.form ho6x (by rw [hw6.out]; simp); simp only [Value.slice.injEq] at hv; obtain ⟨hA6, -, -⟩ := hv; obtain ⟨C2, hC2⟩ : ∃ C2, x6.waitC = C2 + 1 := ⟨x6.waitC - 1, by have h := (OwnG.lab ho6x).1; rw [hw6.out] at h; simp at h; omega⟩; have hC6 := Lib.hid hC2; have hn6 : x6.wait.length = n + 1 := (by rw [hw6.out, ← hst.out]; exact hn.out); have u3 : w3.cell? ⟨g6, k * 4 + 3, none⟩ = some (.slice (some ⟨b6, 0, none⟩) (n + 1) (C2 + 1)) := (by have h := (grp_cells ho6.row hx6).2.2.2; rw [hA6, hn6, hC2] at h; exact h); have u1 := (grp_cells ho6.row hx6).2.1; have u2 := (grp_cells ho6.row hx6).2.2.1; have uf : ∀ o, w3.frozen? ⟨g6, o, none⟩ = false := (fun o => World.ownsRow.frozenAt ho6.row o); have j1 : (k : Int) < (l6.length : Int) := (by omega); have hcap : l6.length ≤ c6 := (by obtain ⟨_, _, e, h1, _⟩ := ho6.row.form; simp only [Value.slice.injEq] at e; obtain ⟨-, -, rfl⟩ := e; exact h1); clear hC2 hn6 ho6x; replace ho6 := Lib.hid ho6; replace hx6 := Lib.hid hx6; replace hA6 := Lib.hid hA6))
      have hx6g' := Lib.hid hx6g
      have hfin := Lib.hid fun (A2 : Option Addr) (hA : t = [] ∨ ∃ b, x6.waitA = some ⟨b, 0, none⟩ ∧ A2 = some ⟨b, 2, none⟩) => start_rw (A2 := A2) (C2 := C2) ho6.out hx6.out hw6.out hC6.out hA
      have hmp : Hid (∀ A2 : Option Addr, (l6.set k ⟨x6.name, s.run, s.job, A2, C2, t⟩).map Grp.g = startL (l.map Grp.g) p s) := Lib.hid fun A2 => by
        rw [hL.out, List.map_set, hl6]
        congr 1
        have e1 : x6.name = x.name := congrArg G.name hx6g
        show (⟨x6.name, ⟨s.run, s.job⟩, t⟩ : G) = ⟨x.name, s, x.wait.tail⟩
        rw [e1, hst.out]
        rfl
      clear hx6g hl6
      have hBw := Lib.hid (show Below w.heap.size w w3 from (by repeat (first | (with_reducible exact Below.refl _ _) | (with_reducible refine Below.drew ?_) | (with_reducible refine below_drewN ?_ _) | ((with_reducible refine Below.alloc ?_ ?_ _); rotate_left; focus ((try simp) <;> omega)) | ((with_reducible refine Below.setCell ?_ ?_ _); rotate_left; focus ((try simp) <;> omega)) | ((with_reducible refine Below.trans ?_ (Below.mono (by assumption) ?_)); rotate_left; focus ((try simp) <;> omega)))))
      have hnt : t.length = n := by have h := hn.out; rw [hst.out] at h; simpa using h
      by_cases hC0 : C2 = 0
      · subst hC0
        have ht0 : t = [] := by
          have h := (OwnG.lab (ho6.out.labs x6 (List.mem_of_getElem? hx6.out)).1).1
          rw [hw6.out, hC6.out] at h
          exact List.eq_nil_of_length_eq_zero (by simpa using h)
        have hn0 : n = 0 := by rw [← hnt, ht0]; rfl
        subst hn0
        replace hnt := Lib.hid hnt
        replace ht0 := Lib.hid ht0
        go_region
        go_wp2_with fail
        change bodyPost _ _ _ _ _ (World.drew (put3 w3 g6 k s (.slice (some ⟨b6, 0, none⟩) 0 0)))
        have hF := (hfin.out (some ⟨b6, 0, none⟩) (.inl ht0.out)).more (Nat.le_of_eq (put3_size w3 g6 k s (.slice (some ⟨b6, 0, none⟩) t.length 0)).symm)
        rw [hnt.out] at hF
        have hB3 : Below w.heap.size w (World.drew (put3 w3 g6 k s (.slice (some ⟨b6, 0, none⟩) 0 0))) := (hBw.out.trans (put3_below (show w.heap.size ≤ g6 by omega))).drew
        exact bodyPost_ret (v := .tuple #[.slice (some ⟨g6, 0, none⟩) l6.length c6, .int .i64 0]) (by simp [results, Tryd.results21, go_sem]) rfl ⟨some ⟨g6, 0, none⟩, c6, l6.set k ⟨x6.name, s.run, s.job, some ⟨b6, 0, none⟩, 0, t⟩, by rw [List.length_set], hF.below (Below.refl _ _).drew (Nat.le_refl _), by rw [List.length_set]; exact hcap, hmp.out _, hB3⟩
      · go_region
        go_wp2_with fail
        change bodyPost _ _ _ _ _ (World.drew (put3 w3 g6 k s (.slice (some ⟨b6, 2, none⟩) n C2)))
        have hF := (hfin.out (some ⟨b6, 2, none⟩) (.inr ⟨b6, hA6.out, rfl⟩)).more (Nat.le_of_eq (put3_size w3 g6 k s (.slice (some ⟨b6, 2, none⟩) t.length C2)).symm)
        rw [hnt] at hF
        have hB3 : Below w.heap.size w (World.drew (put3 w3 g6 k s (.slice (some ⟨b6, 2, none⟩) n C2))) := (hBw.out.trans (put3_below (show w.heap.size ≤ g6 by omega))).drew
        exact bodyPost_ret (v := .tuple #[.slice (some ⟨g6, 0, none⟩) l6.length c6, .int .i64 0]) (by simp [results, Tryd.results21, go_sem]) rfl ⟨some ⟨g6, 0, none⟩, c6, l6.set k ⟨x6.name, s.run, s.job, some ⟨b6, 2, none⟩, C2, t⟩, by rw [List.length_set], hF.below (Below.refl _ _).drew (Nat.le_refl _), by rw [List.length_set]; exact hcap, hmp.out _, hB3⟩
    · have hs2 : refB s.run.1 s.job.1 r.run.1 r.job.1 = false := hqs.trans (decide_eq_false hsr)
      rw [if_pos (by simpa using hsr)] at hSE
      have hL : Hid (l.map Grp.g = startL (l.map Grp.g) p r) := Lib.hid (by unfold startL; rw [if_pos (by rw [hSE]; decide)])
      rw [hSE]
      clear hSE hSL hq hqs hvs
      replace hz := Lib.hid hz
      replace hst := Lib.hid hst
      replace hA := Lib.hid hA
      replace hx := Lib.hid hx
      go_enter Tryd.func21, Tryd.ntmps21
      go_wp2_with (first
        | (go_at_call 10; go_must (refine (hva.out _ (by repeat (first | (with_reducible exact Below.refl _ _) | (with_reducible refine Below.drew ?_) | (with_reducible refine below_drewN ?_ _) | ((with_reducible refine Below.alloc ?_ ?_ _); rotate_left; focus ((try simp) <;> omega)) | ((with_reducible refine Below.setCell ?_ ?_ _); rotate_left; focus ((try simp) <;> omega)) | ((with_reducible refine Below.trans ?_ (Below.mono (by assumption) ?_)); rotate_left; focus ((try simp) <;> omega))))).mono ?_; rintro e w1 ⟨rfl, hb1⟩; have hz1 := hb1.size; (try simp at hz1); have hz1a : w.heap.size < w1.heap.size := (by omega); obtain ⟨hc1, hf1⟩ := blk_at hb1 w.heap.size (by (try simp) <;> omega); obtain ⟨hd1, he1⟩ := blk_at hb1 g (by (try simp) <;> omega); obtain ⟨hk1, hj1⟩ := blk_at hb1 b (by (try simp) <;> omega); have hz1b : b < w1.heap.size := (by omega); have hz1c : g < w1.heap.size := (by omega)))
        | (go_at_call 43; go_must (refine (hga.out _ (by repeat (first | (with_reducible exact Below.refl _ _) | (with_reducible refine Below.drew ?_) | (with_reducible refine below_drewN ?_ _) | ((with_reducible refine Below.alloc ?_ ?_ _); rotate_left; focus ((try simp) <;> omega)) | ((with_reducible refine Below.setCell ?_ ?_ _); rotate_left; focus ((try simp) <;> omega)) | ((with_reducible refine Below.trans ?_ (Below.mono (by assumption) ?_)); rotate_left; focus ((try simp) <;> omega))))).mono ?_; rintro e w2 ⟨rfl, hb2⟩; have hz2 := hb2.size; have hz2a : w.heap.size < w2.heap.size := (by omega); obtain ⟨hc2, hf2⟩ := blk_at hb2 w.heap.size (by omega); obtain ⟨hd2, he2⟩ := blk_at hb2 g (by omega); obtain ⟨hk2, hj2⟩ := blk_at hb2 b (by omega); have hz2b : b < w2.heap.size := (by omega); have hz2c : g < w2.heap.size := (by omega))))
      go_region
      all_goals go_wp2_with fail
      all_goals exact bodyPost_ret (v := .tuple #[.slice (some ⟨g, o, none⟩) l.length c, .int .i64 22]) (by simp [results, Tryd.results21, go_sem]) rfl ⟨(some ⟨g, o, none⟩), c, l, rfl, hback.out _ (by repeat (first | (with_reducible exact Below.refl _ _) | (with_reducible refine Below.drew ?_) | (with_reducible refine below_drewN ?_ _) | ((with_reducible refine Below.alloc ?_ ?_ _); rotate_left; focus ((try simp) <;> omega)) | ((with_reducible refine Below.setCell ?_ ?_ _); rotate_left; focus ((try simp) <;> omega)) | ((with_reducible refine Below.trans ?_ (Below.mono (by assumption) ?_)); rotate_left; focus ((try simp) <;> omega)))), hlc, hL.out, (by repeat (first | (with_reducible exact Below.refl _ _) | (with_reducible refine Below.drew ?_) | (with_reducible refine below_drewN ?_ _) | ((with_reducible refine Below.alloc ?_ ?_ _); rotate_left; focus ((try simp) <;> omega)) | ((with_reducible refine Below.setCell ?_ ?_ _); rotate_left; focus ((try simp) <;> omega)) | ((with_reducible refine Below.trans ?_ (Below.mono (by assumption) ?_)); rotate_left; focus ((try simp) <;> omega))))⟩
  · have hs : refB x.run.1 x.job.1 ⟨#[]⟩ ⟨#[]⟩ = false := hq.trans (decide_eq_false hz)
    rw [if_pos hz] at hSE
    have hL : Hid (l.map Grp.g = startL (l.map Grp.g) p r) := Lib.hid (by unfold startL; rw [if_pos (by rw [hSE]; decide)])
    rw [hSE]
    clear hSE hSL hq hvs
    replace hz := Lib.hid hz
    replace hx := Lib.hid hx
    go_enter Tryd.func21, Tryd.ntmps21
    go_wp2_with (first
      | (go_at_call 10; go_must (refine (hva.out _ (by repeat (first | (with_reducible exact Below.refl _ _) | (with_reducible refine Below.drew ?_) | (with_reducible refine below_drewN ?_ _) | ((with_reducible refine Below.alloc ?_ ?_ _); rotate_left; focus ((try simp) <;> omega)) | ((with_reducible refine Below.setCell ?_ ?_ _); rotate_left; focus ((try simp) <;> omega)) | ((with_reducible refine Below.trans ?_ (Below.mono (by assumption) ?_)); rotate_left; focus ((try simp) <;> omega))))).mono ?_; rintro e w1 ⟨rfl, hb1⟩; have hz1 := hb1.size; (try simp at hz1); have hz1a : w.heap.size < w1.heap.size := (by omega); obtain ⟨hc1, hf1⟩ := blk_at hb1 w.heap.size (by (try simp) <;> omega); obtain ⟨hd1, he1⟩ := blk_at hb1 g (by (try simp) <;> omega); have hz1c : g < w1.heap.size := (by omega)))
      | (go_at_call 43; go_must (refine (hga.out _ (by repeat (first | (with_reducible exact Below.refl _ _) | (with_reducible refine Below.drew ?_) | (with_reducible refine below_drewN ?_ _) | ((with_reducible refine Below.alloc ?_ ?_ _); rotate_left; focus ((try simp) <;> omega)) | ((with_reducible refine Below.setCell ?_ ?_ _); rotate_left; focus ((try simp) <;> omega)) | ((with_reducible refine Below.trans ?_ (Below.mono (by assumption) ?_)); rotate_left; focus ((try simp) <;> omega))))).mono ?_; rintro e w2 ⟨rfl, hb2⟩; have hz2 := hb2.size; have hz2a : w.heap.size < w2.heap.size := (by omega); obtain ⟨hc2, hf2⟩ := blk_at hb2 w.heap.size (by omega); obtain ⟨hd2, he2⟩ := blk_at hb2 g (by omega); have hz2c : g < w2.heap.size := (by omega))))
    exact bodyPost_ret (v := .tuple #[.slice (some ⟨g, o, none⟩) l.length c, .int .i64 16]) (by simp [results, Tryd.results21, go_sem]) rfl ⟨(some ⟨g, o, none⟩), c, l, rfl, hback.out _ (by repeat (first | (with_reducible exact Below.refl _ _) | (with_reducible refine Below.drew ?_) | (with_reducible refine below_drewN ?_ _) | ((with_reducible refine Below.alloc ?_ ?_ _); rotate_left; focus ((try simp) <;> omega)) | ((with_reducible refine Below.setCell ?_ ?_ _); rotate_left; focus ((try simp) <;> omega)) | ((with_reducible refine Below.trans ?_ (Below.mono (by assumption) ?_)); rotate_left; focus ((try simp) <;> omega)))), hlc, hL.out, (by repeat (first | (with_reducible exact Below.refl _ _) | (with_reducible refine Below.drew ?_) | (with_reducible refine below_drewN ?_ _) | ((with_reducible refine Below.alloc ?_ ?_ _); rotate_left; focus ((try simp) <;> omega)) | ((with_reducible refine Below.setCell ?_ ?_ _); rotate_left; focus ((try simp) <;> omega)) | ((with_reducible refine Below.trans ?_ (Below.mono (by assumption) ?_)); rotate_left; focus ((try simp) <;> omega))))⟩
end Go.Proofs.YtbellobjajnlkaaDoor
