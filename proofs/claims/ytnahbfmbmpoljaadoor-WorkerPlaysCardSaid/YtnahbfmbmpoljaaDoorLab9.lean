/-
  The walks of labels: whether labels are valid, by the reference.
-/
import Derived.Test.YtnahbfmbmpoljaaDoorLab8


namespace Go.Proofs.YtnahbfmbmpoljaaDoor
open Go.RowKit
attribute [local go_sem] Instr.field asAgg

theorem err_lab {ls : List Str} {k : Nat} {y : Str} (hy : ls[k]? = some y) (h : errL ls k = 0) : labB y = true := by
  unfold errL at h
  rw [get_bang hy] at h
  rcases hb : labB y with _ | _
  · rw [hb, if_pos rfl] at h; exact absurd h (by decide)
  · rfl
theorem err_eq {ls : List Str} {k : Nat} {y : Str} (hy : ls[k]? = some y) : errL ls k = if labB y = false then 5 else if (ls.take k).any (fun x => (labP x).2.1 == (labP y).2.1) = true then 7 else if ascB ls k = false then 22 else 0 := by
  unfold errL ascB
  rw [get_bang hy]
  split
  · rfl
  · split
    · rfl
    · by_cases h0 : k = 0
      · rw [if_neg (fun h => h.1 h0), decide_eq_true h0]; simp
      · rw [decide_eq_false h0]
        by_cases h1 : cmpS ls[k - 1]! y < 0
        · rw [if_neg (fun h => h.2 h1), decide_eq_true h1]; simp
        · rw [if_pos ⟨h0, h1⟩, decide_eq_false h1]; simp
theorem any_take {ls : List Str} {k : Nat} {nm : List UInt8} : (ls.take k).any (fun x => (labP x).2.1 == nm) = true ↔ ∃ j y, j < k ∧ ls[j]? = some y ∧ (labP y).2.1 = nm := by
  rw [seen_iff]
  constructor
  · rintro ⟨j, y, h1, h2, h3⟩; exact ⟨j, y, h1, h2, (Lit.string.inj h3).symm⟩
  · rintro ⟨j, y, h1, h2, h3⟩; exact ⟨j, y, h1, h2, by rw [h3]⟩
set_option maxRecDepth 100000 in
set_option maxHeartbeats 8000000 in
theorem rvalid_any (A : Option Addr) (c : Nat) (ls : List Str) (w : World) (hr : Rw sE 1 w w.heap.size A ls) (hn : ls.length ≤ 9223372036854775807) :
    Calls Tryd.prog 30 #[.slice A ls.length c] w fun e w' => e = .returned (.int .i64 (labE ls)) ∧ Below w.heap.size w w' := by
  by_cases h32 : 32 < ls.length
  · have hf : labE ls = 3 := by unfold labE; rw [if_pos h32]
    rw [hf]
    have h32z : (ls.length : Int) > 32 := by omega
    go_enter Tryd.func30, Tryd.ntmps30
    go_wp2_with fail
    go_ret
    exact ⟨rfl, Below.refl _ _⟩
  have hlab : Hid (labE ls = firstE (errL ls) ls.length) := Lib.hid (by unfold labE; rw [if_neg h32])
  have h32z : ¬ (ls.length : Int) > 32 := by omega
  have hcell : Hid (∀ k y, ls[k]? = some y → ∃ g o, A = some ⟨g, o, none⟩ ∧ g < w.heap.size ∧ ∀ j x, ls[j]? = some x → ∀ W, Below w.heap.size w W → W.cell? ⟨g, o + j, none⟩ = some (.string x.1)) := Lib.hid fun k y hy => by
    have hk := (List.getElem?_eq_some_iff.1 hy).1
    obtain ⟨g, o, e, hg, h⟩ := hr.str (by omega)
    exact ⟨g, o, e, hg, fun j x hx W hb => (hb.cell (p := ⟨g, o + j, none⟩) hg).trans (h j x hx)⟩
  clear hr
  go_enter Tryd.func30, Tryd.ntmps30
  go_wp2_with fail
  go_loopw [3] (fun vi wr => ∃ k : Nat, k ≤ ls.length ∧ vi = .int .i64 (k : Int) ∧ (∀ j, j < k → errL ls j = 0) ∧ Below w.heap.size w wr) (fun vi _ => ls.length - (intOf vi).toNat)
  case atStart => exact ⟨0, Nat.zero_le _, rfl, fun j h => absurd h (by omega), Below.refl _ _⟩
  case round =>
    obtain ⟨k, hk, rfl, hok, hbw⟩ := hrel
    have hz := hbw.size
    replace hok := Lib.hid hok
    by_cases hkl : k < ls.length
    · obtain ⟨y, hy⟩ := get_some hkl
      obtain ⟨g, o, rfl, hg, hc0⟩ := hcell.out k y hy
      have hc := Lib.hid hc0
      clear hc0
      have q := hc.out k y hy wr hbw
      have i0 : (0 : Int) ≤ (k : Int) := by omega
      have i1 : (k : Int) < (ls.length : Int) := by omega
      have hl20 := fun W => rlabel_any y W
      have herr0 := err_eq hy
      have hfe : Hid (errL ls k ≠ 0 → labE ls = errL ls k) := Lib.hid fun h => by rw [hlab.out]; exact first_at hkl hok.out h
      have hnx : Hid (errL ls k = 0 → ∀ j, j < k + 1 → errL ls j = 0) := Lib.hid fun h j hj => by
        by_cases e : j = k
        · rw [e]; exact h
        · exact hok.out j (by omega)
      rcases hb : labB y with _ | _
      · rw [hb, if_pos rfl] at herr0
        have hfin0 := hfe.out (by rw [herr0]; decide)
        rw [herr0] at hfin0
        have hfin := Lib.hid hfin0
        clear hfin0
        replace herr0 := Lib.hid herr0
        have hf0 := (labQ_form y).2 hb
        obtain ⟨⟨f, nm, n⟩, hp⟩ : ∃ p, labQ y = p := ⟨_, rfl⟩
        rw [hp] at hl20 hf0
        have hf1 : f = 0 := hf0
        subst hf1
        have hl2 : Hid (∀ W, Calls Tryd.prog 58 #[.string y.1] W fun e w' => e = .returned (.agg #[.int .i64 0, .string ⟨nm.toArray⟩, .int .i64 (n : Int)]) ∧ Below W.heap.size W w') := Lib.hid hl20
        clear hl20 hf0
        replace hb := Lib.hid hb
        replace hp := Lib.hid hp
        replace hy := Lib.hid hy
        go_wp2_with (go_at_call 58; go_must (refine (hl2.out _).mono ?_; rintro e w1 ⟨rfl, hb1⟩; have hz1 := hb1.size))
        go_ret
        exact ⟨ret_int hfin.out.symm, (by repeat (first | (with_reducible exact Below.refl _ _) | (with_reducible refine Below.drew ?_) | (with_reducible refine below_drewN ?_ _) | ((with_reducible refine Below.alloc ?_ ?_ _); rotate_left; focus ((try simp) <;> omega)) | ((with_reducible refine Below.setCell ?_ ?_ _); rotate_left; focus ((try simp) <;> omega)) | ((with_reducible refine Below.trans ?_ (Below.mono (by assumption) ?_)); rotate_left; focus ((try simp) <;> omega))))⟩
      · rw [hb, if_neg (by decide)] at herr0
        have hf0 : ¬ (labQ y).1 = 0 := by rw [labQ_form, hb]; decide
        have hlq := labQ_at hb
        obtain ⟨⟨f, nm, n⟩, hp⟩ : ∃ p, labP y = p := ⟨_, rfl⟩
        rw [hp] at hlq
        rw [hlq] at hl20 hf0
        have hfz : ((f : Int) == 0) = false := by rw [beq_eq_false_iff_ne]; have h : ¬ f = 0 := hf0; omega
        have hl2 : Hid (∀ W, Calls Tryd.prog 58 #[.string y.1] W fun e w' => e = .returned (.agg #[.int .i64 (f : Int), .string ⟨nm.toArray⟩, .int .i64 (n : Int)]) ∧ Below W.heap.size W w') := Lib.hid hl20
        rw [hp] at herr0
        have herr := Lib.hid herr0
        clear hl20 hf0 hlq herr0
        replace hb := Lib.hid hb
        replace hp := Lib.hid hp
        replace hy := Lib.hid hy
        go_wp2_with (go_at_call 58; go_must (refine (hl2.out _).mono ?_; rintro e w1 ⟨rfl, hb1⟩; have hz1 := hb1.size))
        go_loopw [4] (fun vj wj => ∃ j : Nat, j ≤ k ∧ vj = .int .i64 (j : Int) ∧ (∀ i x, i < j → ls[i]? = some x → (labP x).2.1 ≠ nm) ∧ Below w.heap.size w wj) (fun vj _ => k - (intOf vj).toNat)
        case atStart => exact ⟨0, Nat.zero_le _, rfl, fun i x h => absurd h (by omega), (by repeat (first | (with_reducible exact Below.refl _ _) | (with_reducible refine Below.drew ?_) | (with_reducible refine below_drewN ?_ _) | ((with_reducible refine Below.alloc ?_ ?_ _); rotate_left; focus ((try simp) <;> omega)) | ((with_reducible refine Below.setCell ?_ ?_ _); rotate_left; focus ((try simp) <;> omega)) | ((with_reducible refine Below.trans ?_ (Below.mono (by assumption) ?_)); rotate_left; focus ((try simp) <;> omega))))⟩
        case round =>
          obtain ⟨j, hj, rfl, hno, hbj⟩ := hrel
          have hzj := hbj.size
          clear q
          replace hno := Lib.hid hno
          by_cases hjk : j < k
          · obtain ⟨x, hx⟩ := get_some (show j < ls.length by omega)
            have q0 := fun d os => cell_regrown (hc.out j x hx _ hbj) d os
            have q1 := fun d os => cell_regrown (hc.out k y hy.out _ hbj) d os
            have j0 : (0 : Int) ≤ (j : Int) := by omega
            have j1 : (j : Int) < (ls.length : Int) := by omega
            have jk : (j : Int) < (k : Int) := by omega
            have hxb := err_lab hx (hok.out j hjk)
            have hl10 := fun W => rlabel_any x W
            rw [labQ_at hxb] at hl10
            obtain ⟨⟨f', nm', n'⟩, hp'⟩ : ∃ p, labP x = p := ⟨_, rfl⟩
            rw [hp'] at hl10
            have hl1 : Hid (∀ W, Calls Tryd.prog 58 #[.string x.1] W fun e w' => e = .returned (.agg #[.int .i64 (f' : Int), .string ⟨nm'.toArray⟩, .int .i64 (n' : Int)]) ∧ Below W.heap.size W w') := Lib.hid hl10
            clear hl10
            have hxn : Hid ((labP x).2.1 = nm') := Lib.hid (by rw [hp'])
            replace hp' := Lib.hid hp'
            replace hxb := Lib.hid hxb
            by_cases hnn : nm' = nm
            · subst hnn
              have hany : (ls.take k).any (fun x => (labP x).2.1 == nm') = true := any_take.2 ⟨j, x, hjk, hx, hxn.out⟩
              have herr7 := herr.out
              rw [if_pos hany] at herr7
              have hfin0 := hfe.out (by rw [herr7]; decide)
              rw [herr7] at hfin0
              have hfin := Lib.hid hfin0
              clear hfin0 herr7 hany
              replace hx := Lib.hid hx
              go_wp2_with fail
              refine wp_region_quiet_below (by kernel_rfl) (by kernel_rfl) ?_
              repeat (go_big_quiet_step ((go_at_call 58; first | (with_reducible exact Calls.regrown_of (hl1.out _)) | (with_reducible exact Calls.regrown_of (hl2.out _)))))
              refine wpQuiet_nil ?_
              intro w2 hw2
              have hb2 := below_of_regrown hw2
              clear hw2
              go_wp2_with fail
              go_ret
              exact ⟨ret_int hfin.out.symm, (by repeat (first | (with_reducible exact Below.refl _ _) | (with_reducible refine Below.drew ?_) | (with_reducible refine below_drewN ?_ _) | ((with_reducible refine Below.alloc ?_ ?_ _); rotate_left; focus ((try simp) <;> omega)) | ((with_reducible refine Below.setCell ?_ ?_ _); rotate_left; focus ((try simp) <;> omega)) | ((with_reducible refine Below.trans ?_ (Below.mono (by assumption) ?_)); rotate_left; focus ((try simp) <;> omega))))⟩
            · replace hx := Lib.hid hx
              have hn1 : (nm' == nm) = false := by simpa using hnn
              go_wp2_with fail
              refine wp_region_quiet_below (by kernel_rfl) (by kernel_rfl) ?_
              repeat (go_big_quiet_step ((go_at_call 58; first | (with_reducible exact Calls.regrown_of (hl1.out _)) | (with_reducible exact Calls.regrown_of (hl2.out _)))))
              refine wpQuiet_nil ?_
              intro w2 hw2
              have hb2 := below_of_regrown hw2
              clear hw2
              go_wp2_with fail
              go_roundw
              case rel =>
                refine ⟨j + 1, by omega, by go_num, fun i z hi hzz => ?_, (by repeat (first | (with_reducible exact Below.refl _ _) | (with_reducible refine Below.drew ?_) | (with_reducible refine below_drewN ?_ _) | ((with_reducible refine Below.alloc ?_ ?_ _); rotate_left; focus ((try simp) <;> omega)) | ((with_reducible refine Below.setCell ?_ ?_ _); rotate_left; focus ((try simp) <;> omega)) | ((with_reducible refine Below.trans ?_ (Below.mono (by assumption) ?_)); rotate_left; focus ((try simp) <;> omega))))⟩
                by_cases e : i = j
                · subst e
                  rw [hx.out] at hzz
                  obtain rfl := Option.some.inj hzz
                  rw [hxn.out]; exact hnn
                · exact hno.out i z (by omega) hzz
              case measure => simp [intOf]; omega
          · have jk : ¬ (j : Int) < (k : Int) := by omega
            have hany : ¬ (ls.take k).any (fun x => (labP x).2.1 == nm) = true := fun h => by
              obtain ⟨i, x, h1, h2, h3⟩ := any_take.1 h
              exact hno.out i x (by omega) h2 h3
            have herr1 := herr.out
            rw [if_neg hany] at herr1
            clear hany
            by_cases hk0 : k = 0
            · have ha : ascB ls k = true := by unfold ascB; rw [decide_eq_true hk0]; rfl
              rw [ha, if_neg (by decide)] at herr1
              have hgo := Lib.hid (hnx.out herr1)
              have hk0z : ¬ (k : Int) > 0 := by omega
              have hk1 : ¬ 0 < k := by omega
              have hk2 : decide (0 < k) = false := decide_eq_false hk1
              replace herr1 := Lib.hid herr1
              replace ha := Lib.hid ha
              replace hk0 := Lib.hid hk0
              go_wp2_with fail
              refine wp_region_quiet_below (by kernel_rfl) (by kernel_rfl) ?_
              repeat (go_big_quiet_step (fail))
              refine wpQuiet_nil ?_
              intro w2 hw2
              have hb2 := below_of_regrown hw2
              clear hw2
              go_wp2_with fail
              go_roundw
              case rel => exact ⟨k + 1, hkl, by go_num, hgo.out, (by repeat (first | (with_reducible exact Below.refl _ _) | (with_reducible refine Below.drew ?_) | (with_reducible refine below_drewN ?_ _) | ((with_reducible refine Below.alloc ?_ ?_ _); rotate_left; focus ((try simp) <;> omega)) | ((with_reducible refine Below.setCell ?_ ?_ _); rotate_left; focus ((try simp) <;> omega)) | ((with_reducible refine Below.trans ?_ (Below.mono (by assumption) ?_)); rotate_left; focus ((try simp) <;> omega))))⟩
              case measure => simp [intOf]; omega
            · obtain ⟨m, hm⟩ : ∃ m, m + 1 = k := ⟨k - 1, by omega⟩
              obtain ⟨x, hx⟩ := get_some (show m < ls.length by omega)
              have ha : ascB ls k = decide (cmpS x y < 0) := by
                unfold ascB
                rw [decide_eq_false hk0, show k - 1 = m by omega, get_bang hx, get_bang hy.out]; rfl
              rw [ha] at herr1
              have q0 := fun d os => cell_regrown (hc.out m x hx _ hbj) d os
              have q1 := fun d os => cell_regrown (hc.out k y hy.out _ hbj) d os
              have m0 : (0 : Int) ≤ (m : Int) := by omega
              have m1 : (m : Int) < (ls.length : Int) := by omega
              have hk0z : (k : Int) > 0 := by omega
              have hk1 : 0 < k := by omega
              have hk2 : decide (0 < k) = true := decide_eq_true hk1
              have hw : IntKind.i64.wrap ((k : Int) - 1) = (m : Int) := by
                rw [show (k : Int) - 1 = (m : Int) by omega]; exact IntWalk.i64_in _ (by omega)
              have hcm : Hid (∀ W, Calls Tryd.prog 42 #[.string x.1, .string y.1] W fun e w' => e = .returned (.int .i64 (cmpS x y)) ∧ Below W.heap.size W w') := Lib.hid fun W => (rcompare_any _ _ x.2 y.2 W).mono fun _ _ h => ⟨by rw [h.1]; rfl, by obtain ⟨n, e⟩ := h.2; rw [e]; exact below_drewN (Below.refl _ _) _⟩
              generalize cmpS x y = C at hcm herr1 ha
              replace ha := Lib.hid ha
              replace hx := Lib.hid hx
              replace hm := Lib.hid hm
              replace hk0 := Lib.hid hk0
              by_cases hC : C < 0
              · rw [decide_eq_true hC, if_neg (by decide)] at herr1
                have hgo := Lib.hid (hnx.out herr1)
                replace herr1 := Lib.hid herr1
                have hC2 : ¬ C ≥ 0 := by omega
                go_wp2_with fail
                refine wp_region_quiet_below (by kernel_rfl) (by kernel_rfl) ?_
                repeat (go_big_quiet_step ((go_at_call 42; exact Calls.regrown_of (hcm.out _))))
                refine wpQuiet_nil ?_
                intro w2 hw2
                have hb2 := below_of_regrown hw2
                clear hw2
                go_wp2_with fail
                go_roundw
                case rel => exact ⟨k + 1, hkl, by go_num, hgo.out, (by repeat (first | (with_reducible exact Below.refl _ _) | (with_reducible refine Below.drew ?_) | (with_reducible refine below_drewN ?_ _) | ((with_reducible refine Below.alloc ?_ ?_ _); rotate_left; focus ((try simp) <;> omega)) | ((with_reducible refine Below.setCell ?_ ?_ _); rotate_left; focus ((try simp) <;> omega)) | ((with_reducible refine Below.trans ?_ (Below.mono (by assumption) ?_)); rotate_left; focus ((try simp) <;> omega))))⟩
                case measure => simp [intOf]; omega
              · rw [decide_eq_false hC, if_pos rfl] at herr1
                have hfin0 := hfe.out (by rw [herr1]; decide)
                rw [herr1] at hfin0
                have hfin := Lib.hid hfin0
                clear hfin0
                replace herr1 := Lib.hid herr1
                have hC2 : C ≥ 0 := by omega
                go_wp2_with fail
                refine wp_region_quiet_below (by kernel_rfl) (by kernel_rfl) ?_
                repeat (go_big_quiet_step ((go_at_call 42; exact Calls.regrown_of (hcm.out _))))
                refine wpQuiet_nil ?_
                intro w2 hw2
                have hb2 := below_of_regrown hw2
                clear hw2
                go_wp2_with fail
                go_ret
                exact ⟨ret_int hfin.out.symm, (by repeat (first | (with_reducible exact Below.refl _ _) | (with_reducible refine Below.drew ?_) | (with_reducible refine below_drewN ?_ _) | ((with_reducible refine Below.alloc ?_ ?_ _); rotate_left; focus ((try simp) <;> omega)) | ((with_reducible refine Below.setCell ?_ ?_ _); rotate_left; focus ((try simp) <;> omega)) | ((with_reducible refine Below.trans ?_ (Below.mono (by assumption) ?_)); rotate_left; focus ((try simp) <;> omega))))⟩
    · have i1 : ¬ (k : Int) < (ls.length : Int) := by omega
      have hfin : Hid (labE ls = 0) := Lib.hid (by rw [hlab.out]; exact first_none fun j hj => hok.out j (by omega))
      go_wp2_with fail
      go_ret
      exact ⟨ret_int hfin.out.symm, hbw⟩
end Go.Proofs.YtnahbfmbmpoljaaDoor
