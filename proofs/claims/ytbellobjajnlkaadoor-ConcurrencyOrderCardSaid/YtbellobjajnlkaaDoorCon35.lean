/-
  The walks of groups: the laws' few.
-/
import Derived.Test.YtbellobjajnlkaaDoorCon34
import Derived.Test.YtbellobjajnlkaaDoorCon36



namespace Go.Proofs.YtbellobjajnlkaaDoor
open Go.RowKit

def fewR : Nat → Nat → List G → Bool
  | 0, _, _ => true
  | _ + 1, _, [] => true
  | f + 1, n, g :: gs => sB g.name && refS g.rn && decide (n + g.wait.length + 1 ≤ 80) && g.wait.all refS && fewR f (n + g.wait.length + 1) gs
def fewB (gs : List G) : Bool := fewR 21 0 gs && decide (gs.length ≤ 20)
theorem fewR_mild : ∀ (gs : List G) (f n : Nat), gs.length ≤ f → fewR f n gs = true → n ≤ 80 → (∀ g ∈ gs, sB g.name = true ∧ refS g.rn = true ∧ g.wait.all refS = true) ∧ n + (allG gs).length ≤ 80 ∧ ∀ g ∈ gs, g.wait.length ≤ 80
  | [], f, n, _, _, hn => ⟨fun g h => absurd h (by simp), by rw [all_nil]; simpa using hn, fun g h => absurd h (by simp)⟩
  | g :: gs, 0, n, hl, _, _ => absurd hl (by simp)
  | g :: gs, f + 1, n, hl, h, hn => by
    simp only [fewR, Bool.and_eq_true, decide_eq_true_eq] at h
    obtain ⟨⟨⟨⟨h1, h2⟩, h3⟩, h4⟩, h5⟩ := h
    obtain ⟨i1, i2, i3⟩ := fewR_mild gs f _ (by simpa using hl) h5 h3
    refine ⟨fun x hx => ?_, ?_, fun x hx => ?_⟩
    · rcases List.mem_cons.1 hx with rfl | h
      · exact ⟨h1, h2, h4⟩
      · exact i1 x h
    · rw [all_cons, List.length_append]
      have : (jobsG g).length ≤ g.wait.length + 1 := by unfold jobsG; split <;> simp
      omega
    · rcases List.mem_cons.1 hx with rfl | h
      · omega
      · exact i3 x h
theorem few_mild {gs : List G} (h : fewB gs = true) : MildG gs := by
  unfold fewB at h
  simp only [Bool.and_eq_true, decide_eq_true_eq] at h
  obtain ⟨h1, h2, h3⟩ := fewR_mild gs 21 0 (by omega) h.1 (by omega)
  refine ⟨by omega, by omega, fun g hg => by have := h3 g hg; omega, fun g hg => ?_, fun r hr => ?_⟩
  · have := (h1 g hg).1
    unfold sB at this
    simp only [decide_eq_true_eq] at this
    omega
  · obtain ⟨g, hg, hr⟩ := all_mem.1 hr
    obtain ⟨_, h5, h6⟩ := h1 g hg
    unfold jobsG at hr
    split at hr
    · exact refS_short (List.all_eq_true.1 h6 r hr)
    · rcases List.mem_cons.1 hr with rfl | h7
      · exact refS_short h5
      · exact refS_short (List.all_eq_true.1 h6 r h7)
theorem few_step {gs : List G} {i n : Nat} {g : G} (hx : gs[i]? = some g) (hi : i < 21) : fewR (21 - i) n (gs.drop i) = (sB g.name && refS g.rn && decide (n + g.wait.length + 1 ≤ 80) && g.wait.all refS && fewR (21 - (i + 1)) (n + g.wait.length + 1) (gs.drop (i + 1))) := by
  obtain ⟨hl, rfl⟩ := List.getElem?_eq_some_iff.1 hx
  rw [List.drop_eq_getElem_cons hl, show 21 - i = (21 - (i + 1)) + 1 by omega]
  rfl
theorem few_stop {gs : List G} {i n : Nat} (h : ¬ (i < gs.length ∧ i < 21)) : fewR (21 - i) n (gs.drop i) = true := by
  by_cases h1 : i < 21
  · rw [List.drop_of_length_le (by omega), show 21 - i = (21 - (i + 1)) + 1 by omega]
    rfl
  · rw [show 21 - i = 0 by omega]
    unfold fewR
    rfl
set_option maxRecDepth 100000 in
set_option maxHeartbeats 8000000 in
theorem few_any (A : Option Addr) (c : Nat) (l : List Grp) (w : World) (hr : RwG w w.heap.size A l) (hn : l.length ≤ 9223372036854775807) (hwb : ∀ x ∈ l, x.wait.length ≤ 4398046511104) :
    Calls Tryd.prog 9 #[.slice A l.length c] w fun e w' => e = .returned (.bool (fewB (l.map Grp.g))) ∧ Below w.heap.size w w' := by
  obtain ⟨V, hVV⟩ : ∃ V, fewB (l.map Grp.g) = V := ⟨_, rfl⟩
  rw [hVV]
  have hVd : Hid ((fewR 21 0 (l.map Grp.g) && decide (l.length ≤ 20)) = V) := Lib.hid (by rw [← hVV]; unfold fewB; rw [List.length_map])
  clear hVV
  replace hr := Lib.hid hr
  replace hwb := Lib.hid hwb
  go_enter Tryd.func9, Tryd.ntmps9
  go_wp2_with fail
  go_loopw [3, 4, 5] (fun vn vi _ wr => ∃ i n : Nat, vn = .int .i64 (n : Int) ∧ vi = .int .i64 (i : Int) ∧ i ≤ l.length ∧ i ≤ 21 ∧ n ≤ 80 ∧ fewR 21 0 (l.map Grp.g) = fewR (21 - i) n ((l.map Grp.g).drop i) ∧ Below w.heap.size w wr) (fun _ vi _ _ => l.length - (intOf vi).toNat)
  case atStart => exact ⟨0, 0, rfl, rfl, Nat.zero_le _, by omega, by omega, rfl, Below.refl _ _⟩
  case round =>
    obtain ⟨i, n, rfl, rfl, hi, hi21, hn80, hst0, hbw⟩ := hrel
    have hz := hbw.size
    have hst := Lib.hid hst0
    clear hst0
    by_cases hil : i < l.length ∧ i < 21
    · obtain ⟨hil, hil2⟩ := hil
      obtain ⟨x, hx⟩ := get_some hil
      obtain ⟨g, o, rfl, hg, q⟩ := hr.out.row (by omega)
      have hq0 := Lib.hid (q i x hx)
      replace q := fun j u hu => (hbw.cell (p := ⟨g, o + i * 4 + j, none⟩) hg).trans (q i x hx j u hu)
      have c0 := q 0 (.string x.name.1) rfl
      try rw [Nat.add_zero] at c0
      have c1 := q 1 (.string x.run.1) rfl
      have c2 := q 2 (.string x.job.1) rfl
      have c3 := q 3 (.slice x.waitA x.wait.length x.waitC) rfl
      clear q
      have hlab := hr.out.labs x (List.mem_of_getElem? hx)
      have hxb := hwb.out x (List.mem_of_getElem? hx)
      have hstep := few_step (n := n) (show (l.map Grp.g)[i]? = some x.g by rw [List.getElem?_map, hx]; rfl) hil2
      obtain ⟨lw1, lw2, hwr⟩ := hlab
      unfold maxLen at lw2
      have hgr : g < wr.heap.size := by omega
      have i0 : (0 : Int) ≤ (i : Int) := by omega
      have i1 : (i : Int) < (l.length : Int) := by omega
      have i2 : (i : Int) < 21 := by omega
      obtain ⟨M, hM⟩ : ∃ M, n + x.wait.length = M := ⟨_, rfl⟩
      have hw1 : IntKind.i64.wrap ((n : Int) + (x.wait.length : Int)) = (M : Int) := by
        rw [show (n : Int) + (x.wait.length : Int) = (M : Int) by omega]; exact IntWalk.i64_in _ (by omega)
      obtain ⟨N, hN⟩ : ∃ N, M + 1 = N := ⟨_, rfl⟩
      have hw2 : IntKind.i64.wrap ((M : Int) + 1) = (N : Int) := by
        rw [show (M : Int) + 1 = (N : Int) by omega]; exact IntWalk.i64_in _ (by omega)
      have hMN : n + x.wait.length + 1 = N := by omega
      have hstep' : fewR (21 - i) n ((l.map Grp.g).drop i) = (sB x.name && refS ⟨x.run, x.job⟩ && decide (N ≤ 80) && x.wait.all refS && fewR (21 - (i + 1)) N ((l.map Grp.g).drop (i + 1))) := by
        rw [hstep]
        show (sB x.name && refS ⟨x.run, x.job⟩ && decide (n + x.wait.length + 1 ≤ 80) && x.wait.all refS && fewR (21 - (i + 1)) (n + x.wait.length + 1) ((l.map Grp.g).drop (i + 1))) = _
        rw [hMN]
      clear hstep
      replace hM := Lib.hid hM
      replace hN := Lib.hid hN
      replace hMN := Lib.hid hMN
      replace hx := Lib.hid hx
      have hwl := Lib.hid hwr
      clear hwr
      have hsh0 := fun W => shortl_any (⟨x.run, x.job⟩ : JRef) W
      by_cases c1' : x.name.1.size ≤ 600
      · have c5 : (x.name.1.size : Int) ≤ 600 := by omega
        have c6 : ¬ (600 : Int) < (x.name.1.size : Int) := by omega
        have hs1 : sB x.name = true := decide_eq_true c1'
        rcases hsr : refS (⟨x.run, x.job⟩ : JRef) with _ | _
        · have hV : Hid (V = false) := Lib.hid (by
            rw [← hVd.out, hst.out, hstep', hs1, hsr]
            rfl)
          rw [hsr] at hsh0
          have hsh := Lib.hid hsh0
          clear hstep' hsh0 hsr hs1
          go_wp2_with (go_at_call 13; go_must (refine (hsh.out _).mono ?_; rintro e w1 ⟨rfl, hb1⟩; have hz1 := hb1.size; (try simp at hz1); have hgk1 : g < w1.heap.size := (by omega); obtain ⟨ua1, va1⟩ := blk_at hb1 g (by (try simp) <;> omega)))
          go_ret
          exact ⟨by rw [hV.out]; rfl, (by repeat (first | (with_reducible exact Below.refl _ _) | (with_reducible refine Below.drew ?_) | (with_reducible refine below_drewN ?_ _) | ((with_reducible refine Below.alloc ?_ ?_ _); rotate_left; focus ((try simp) <;> omega)) | ((with_reducible refine Below.setCell ?_ ?_ _); rotate_left; focus ((try simp) <;> omega)) | ((with_reducible refine Below.trans ?_ (Below.mono (by assumption) ?_)); rotate_left; focus ((try simp) <;> omega))))⟩
        · rw [hsr] at hsh0
          have hsh := Lib.hid hsh0
          by_cases c80 : N ≤ 80
          · have c81 : ¬ (80 : Int) < (N : Int) := by omega
            rw [hs1, hsr, decide_eq_true c80] at hstep'
            have hst2 := Lib.hid hstep'
            clear hstep' hsh0 hsr hs1
            go_wp2_with (go_at_call 13; go_must (refine (hsh.out _).mono ?_; rintro e w1 ⟨rfl, hb1⟩; have hz1 := hb1.size; (try simp at hz1); have hgk1 : g < w1.heap.size := (by omega); obtain ⟨ua1, va1⟩ := blk_at hb1 g (by (try simp) <;> omega)))
            have hbw1 : Below w.heap.size w w1 := (by repeat (first | (with_reducible exact Below.refl _ _) | (with_reducible refine Below.drew ?_) | (with_reducible refine below_drewN ?_ _) | ((with_reducible refine Below.alloc ?_ ?_ _); rotate_left; focus ((try simp) <;> omega)) | ((with_reducible refine Below.setCell ?_ ?_ _); rotate_left; focus ((try simp) <;> omega)) | ((with_reducible refine Below.trans ?_ (Below.mono (by assumption) ?_)); rotate_left; focus ((try simp) <;> omega))))
            go_loopw [5] (fun vk wr => ∃ j : Nat, vk = .int .i64 (j : Int) ∧ j ≤ x.wait.length ∧ (x.wait.take j).all refS = true ∧ Below w.heap.size w wr) (fun vk _ => x.wait.length - (intOf vk).toNat)
            case atStart => exact ⟨0, rfl, Nat.zero_le _, rfl, hbw1⟩
            case round =>
              obtain ⟨j, rfl, hj, hall0, hbj⟩ := hrel
              have hall := Lib.hid hall0
              clear hall0
              have hzj := hbj.size
              have d3 : wr.cell? ⟨g, o + i * 4 + 3, none⟩ = some (.slice x.waitA x.wait.length x.waitC) := (hbj.cell (p := ⟨g, o + i * 4 + 3, none⟩) hg).trans (hq0.out 3 _ rfl)
              have hgr2 : g < wr.heap.size := by omega
              by_cases hjl : j < x.wait.length
              · obtain ⟨y, hy⟩ := get_some hjl
                obtain ⟨b, o2, hA, hb, hq3⟩ := hwl.out (by omega)
                have h0 : wr.cell? ⟨b, o2 + j * 2, none⟩ = some (.string y.run.1) := (hbj.cell (p := ⟨b, o2 + j * 2, none⟩) hb).trans (hq3 j y hy 0 (.string y.run.1) rfl)
                have h1 : wr.cell? ⟨b, o2 + j * 2 + 1, none⟩ = some (.string y.job.1) := (hbj.cell (p := ⟨b, o2 + j * 2 + 1, none⟩) hb).trans (hq3 j y hy 1 (.string y.job.1) rfl)
                clear hq3
                rw [hA] at d3
                have j0 : (0 : Int) ≤ (j : Int) := by omega
                have j1 : (j : Int) < (x.wait.length : Int) := by omega
                have hsy0 := fun W => shortl_any y W
                have hall2 : (x.wait.take (j + 1)).all refS = refS y := by rw [take_at hy, List.all_append, hall.out]; simp
                have hym := List.mem_of_getElem? hy
                replace hA := Lib.hid hA
                replace hy := Lib.hid hy
                rcases hr2 : refS y with _ | _
                · have hV : Hid (V = false) := Lib.hid (by
                    rw [← hVd.out, hst.out, hst2.out, show x.wait.all refS = false from ?_]
                    · rfl
                    · rw [← Bool.not_eq_true, List.all_eq_true]
                      intro h
                      rw [h y hym] at hr2
                      cases hr2)
                  rw [hr2] at hsy0
                  have hsy := Lib.hid hsy0
                  clear hsy0 hall2 hym hr2
                  go_wp2_with (go_at_call 13; go_must (refine (hsy.out _).mono ?_; rintro e w2 ⟨rfl, hb2⟩; have hz2 := hb2.size; (try simp at hz2)))
                  go_ret
                  exact ⟨by rw [hV.out]; rfl, (by repeat (first | (with_reducible exact Below.refl _ _) | (with_reducible refine Below.drew ?_) | (with_reducible refine below_drewN ?_ _) | ((with_reducible refine Below.alloc ?_ ?_ _); rotate_left; focus ((try simp) <;> omega)) | ((with_reducible refine Below.setCell ?_ ?_ _); rotate_left; focus ((try simp) <;> omega)) | ((with_reducible refine Below.trans ?_ (Below.mono (by assumption) ?_)); rotate_left; focus ((try simp) <;> omega))))⟩
                · rw [hr2] at hsy0 hall2
                  have hsy := Lib.hid hsy0
                  replace hall2 := Lib.hid hall2
                  clear hsy0 hym hr2
                  go_wp2_with (go_at_call 13; go_must (refine (hsy.out _).mono ?_; rintro e w2 ⟨rfl, hb2⟩; have hz2 := hb2.size; (try simp at hz2)))
                  go_roundw
                  case rel => exact ⟨j + 1, by go_num, by omega, hall2.out, (by repeat (first | (with_reducible exact Below.refl _ _) | (with_reducible refine Below.drew ?_) | (with_reducible refine below_drewN ?_ _) | ((with_reducible refine Below.alloc ?_ ?_ _); rotate_left; focus ((try simp) <;> omega)) | ((with_reducible refine Below.setCell ?_ ?_ _); rotate_left; focus ((try simp) <;> omega)) | ((with_reducible refine Below.trans ?_ (Below.mono (by assumption) ?_)); rotate_left; focus ((try simp) <;> omega))))⟩
                  case measure => simp [intOf]; omega
              · have j1 : ¬ (j : Int) < (x.wait.length : Int) := by omega
                have hfin : Hid (fewR 21 0 (l.map Grp.g) = fewR (21 - (i + 1)) N ((l.map Grp.g).drop (i + 1))) := Lib.hid (by
                  have h := hall.out
                  rw [List.take_of_length_le (by omega)] at h
                  rw [hst.out, hst2.out, h]
                  simp)
                go_wp2_with fail
                go_roundw
                case rel => exact ⟨i + 1, N, rfl, by go_num, by omega, by omega, c80, hfin.out, hbj⟩
                case measure => simp [intOf]; omega
          · have c81 : (80 : Int) < (N : Int) := by omega
            have hV : Hid (V = false) := Lib.hid (by
              rw [← hVd.out, hst.out, hstep', hs1, hsr, decide_eq_false c80]
              rfl)
            clear hstep' hsh0 hsr hs1
            go_wp2_with (go_at_call 13; go_must (refine (hsh.out _).mono ?_; rintro e w1 ⟨rfl, hb1⟩; have hz1 := hb1.size; (try simp at hz1); have hgk1 : g < w1.heap.size := (by omega); obtain ⟨ua1, va1⟩ := blk_at hb1 g (by (try simp) <;> omega)))
            go_ret
            exact ⟨by rw [hV.out]; rfl, (by repeat (first | (with_reducible exact Below.refl _ _) | (with_reducible refine Below.drew ?_) | (with_reducible refine below_drewN ?_ _) | ((with_reducible refine Below.alloc ?_ ?_ _); rotate_left; focus ((try simp) <;> omega)) | ((with_reducible refine Below.setCell ?_ ?_ _); rotate_left; focus ((try simp) <;> omega)) | ((with_reducible refine Below.trans ?_ (Below.mono (by assumption) ?_)); rotate_left; focus ((try simp) <;> omega))))⟩
      · have hV : Hid (V = false) := Lib.hid (by
          rw [← hVd.out, hst.out, hstep', show sB x.name = false from decide_eq_false c1']
          rfl)
        have c5 : ¬ (x.name.1.size : Int) ≤ 600 := by omega
        have c6 : (600 : Int) < (x.name.1.size : Int) := by omega
        clear hstep' hsh0
        go_wp2_with fail
        go_ret
        exact ⟨by rw [hV.out]; rfl, (by repeat (first | (with_reducible exact Below.refl _ _) | (with_reducible refine Below.drew ?_) | (with_reducible refine below_drewN ?_ _) | ((with_reducible refine Below.alloc ?_ ?_ _); rotate_left; focus ((try simp) <;> omega)) | ((with_reducible refine Below.setCell ?_ ?_ _); rotate_left; focus ((try simp) <;> omega)) | ((with_reducible refine Below.trans ?_ (Below.mono (by assumption) ?_)); rotate_left; focus ((try simp) <;> omega))))⟩
    · have hV : Hid (V = decide ((l.length : Int) ≤ 20)) := Lib.hid (by
        rw [← hVd.out, hst.out, few_stop (by rw [List.length_map]; exact hil), Bool.true_and]
        exact decide_eq_decide.2 (by omega))
      by_cases h1 : i < l.length
      · have h2 : ¬ (i : Int) < 21 := by omega
        have h3 : (i : Int) < (l.length : Int) := by omega
        clear hil
        go_wp2_with fail
        go_ret
        exact ⟨by rw [hV.out]; rfl, hbw⟩
      · have h3 : ¬ (i : Int) < (l.length : Int) := by omega
        clear hil
        go_wp2_with fail
        go_ret
        exact ⟨by rw [hV.out]; rfl, hbw⟩
end Go.Proofs.YtbellobjajnlkaaDoor
