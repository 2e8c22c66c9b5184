/-
  The walks of fairness: a cost charged, by the program and by the reference; whether shares are the same.
-/
import Derived.Test.YtopicpghhpkgbaaDoorFa9r





namespace Go.Proofs.YtopicpghhpkgbaaDoor
open Go.RowKit

theorem ch_err {l : List Share} {p : Str} {co : Int} (h : chE l p co ≠ 0) : chL l p co = l := if_pos h
theorem ch_yes {l : List Share} {p : Str} {co : Int} {V : I64} {k : Nat} {x : Share} (h : chE l p co = 0) (hk : findP p l = k) (hx : l[k]? = some x) (hV : x.served.1 + co = V.1) : chL l p co = l.set k ⟨x.proj, x.weight, V⟩ := by
  unfold chL
  rw [if_neg (by rw [h]; decide), hk, Int.toNat_natCast, get_bang hx, hV, i64_of]

set_option maxRecDepth 100000 in
set_option maxHeartbeats 8000000 in
theorem charge_any (A : Option Addr) (c : Nat) (l : List Share) (p : Str) (co : I64) (w : World) (hr : Rw shareE 3 w w.heap.size A l) (hlc : l.length ≤ c) (hn : l.length ≤ 1000000) :
    Calls Tryd.prog 14 #[.slice A l.length c, .string p.1, .int .i64 co.1] w fun e w' => ∃ A' c', e = .returned (.tuple #[.slice A' (chL l p co.1).length c', .int .i64 (chE l p co.1)]) ∧ Rw shareE 3 w' w'.heap.size A' (chL l p co.1) ∧ (chL l p co.1).length ≤ c' ∧ Below w.heap.size w w' := by
  have hrd : Hid (∀ W, Below w.heap.size w W → Rw shareE 3 W W.heap.size A l) := Lib.hid fun W hb => (hr.below hb (Nat.le_refl _)).more hb.size
  have hva : Hid (∀ W, Below w.heap.size w W → Calls Tryd.prog 23 #[.slice A l.length c] W fun e w' => e = .returned (.bool (validS l)) ∧ Below W.heap.size W w') := Lib.hid fun W hb => valid_any A c l W (hrd.out W hb) (by omega)
  have hnm : Hid (∀ W, Calls Tryd.prog 24 #[.string p.1] W fun e w' => e = .returned (.bool (nameB p.1)) ∧ Below W.heap.size W w') := Lib.hid fun W => (name_any _ W p.2).mono fun _ _ h => ⟨h.1, h.2.toBelow⟩
  have hfi : Hid (∀ W, Below w.heap.size w W → Calls Tryd.prog 25 #[.slice A l.length c, .string p.1] W fun e w' => e = .returned (.tuple #[.int .i64 (atP p l : Int), .bool (isAt p l)]) ∧ Below W.heap.size W w') := Lib.hid fun W hb => find_any A c l p W (hrd.out W hb) (by omega)
  clear hr
  clear hnm
  rcases hv : validS l with _ | _
  · have hE : chE l p co.1 = 1 := by unfold chE; rw [if_pos hv]
    rw [hE, ch_err (by rw [hE]; decide)]
    rw [hv] at hva
    go_enter Tryd.func14, Tryd.ntmps14
    go_wp2_with (go_at_call 23; go_must (refine (hva.out _ (by repeat (first | (with_reducible exact Below.refl _ _) | (with_reducible refine Below.drew ?_) | (with_reducible refine below_drewN ?_ _) | ((with_reducible refine Below.alloc ?_ ?_ _); rotate_left; focus ((try simp) <;> omega)) | ((with_reducible refine Below.setCell ?_ ?_ _); rotate_left; focus ((try simp) <;> omega)) | ((with_reducible refine Below.trans ?_ (Below.mono (by assumption) ?_)); rotate_left; focus ((try simp) <;> omega))))).mono ?_; rintro e w1 ⟨rfl, hb1⟩; have hz1 := hb1.size))
    exact bodyPost_ret (v := .tuple #[.slice A l.length c, .int .i64 1]) (by simp [results, Tryd.results14, go_sem]) rfl ⟨A, c, rfl, hrd.out _ (by repeat (first | (with_reducible exact Below.refl _ _) | (with_reducible refine Below.drew ?_) | (with_reducible refine below_drewN ?_ _) | ((with_reducible refine Below.alloc ?_ ?_ _); rotate_left; focus ((try simp) <;> omega)) | ((with_reducible refine Below.setCell ?_ ?_ _); rotate_left; focus ((try simp) <;> omega)) | ((with_reducible refine Below.trans ?_ (Below.mono (by assumption) ?_)); rotate_left; focus ((try simp) <;> omega)))), hlc, (by repeat (first | (with_reducible exact Below.refl _ _) | (with_reducible refine Below.drew ?_) | (with_reducible refine below_drewN ?_ _) | ((with_reducible refine Below.alloc ?_ ?_ _); rotate_left; focus ((try simp) <;> omega)) | ((with_reducible refine Below.setCell ?_ ?_ _); rotate_left; focus ((try simp) <;> omega)) | ((with_reducible refine Below.trans ?_ (Below.mono (by assumption) ?_)); rotate_left; focus ((try simp) <;> omega))))⟩
  rw [hv] at hva
  by_cases c1 : co.1 < 1
  · have hE : chE l p co.1 = 2 := by unfold chE; rw [if_neg (by rw [hv]; decide), if_pos (Or.inl c1)]
    rw [hE, ch_err (by rw [hE]; decide)]
    go_enter Tryd.func14, Tryd.ntmps14
    go_wp2_with (go_at_call 23; go_must (refine (hva.out _ (by repeat (first | (with_reducible exact Below.refl _ _) | (with_reducible refine Below.drew ?_) | (with_reducible refine below_drewN ?_ _) | ((with_reducible refine Below.alloc ?_ ?_ _); rotate_left; focus ((try simp) <;> omega)) | ((with_reducible refine Below.setCell ?_ ?_ _); rotate_left; focus ((try simp) <;> omega)) | ((with_reducible refine Below.trans ?_ (Below.mono (by assumption) ?_)); rotate_left; focus ((try simp) <;> omega))))).mono ?_; rintro e w1 ⟨rfl, hb1⟩; have hz1 := hb1.size))
    exact bodyPost_ret (v := .tuple #[.slice A l.length c, .int .i64 2]) (by simp [results, Tryd.results14, go_sem]) rfl ⟨A, c, rfl, hrd.out _ (by repeat (first | (with_reducible exact Below.refl _ _) | (with_reducible refine Below.drew ?_) | (with_reducible refine below_drewN ?_ _) | ((with_reducible refine Below.alloc ?_ ?_ _); rotate_left; focus ((try simp) <;> omega)) | ((with_reducible refine Below.setCell ?_ ?_ _); rotate_left; focus ((try simp) <;> omega)) | ((with_reducible refine Below.trans ?_ (Below.mono (by assumption) ?_)); rotate_left; focus ((try simp) <;> omega)))), hlc, (by repeat (first | (with_reducible exact Below.refl _ _) | (with_reducible refine Below.drew ?_) | (with_reducible refine below_drewN ?_ _) | ((with_reducible refine Below.alloc ?_ ?_ _); rotate_left; focus ((try simp) <;> omega)) | ((with_reducible refine Below.setCell ?_ ?_ _); rotate_left; focus ((try simp) <;> omega)) | ((with_reducible refine Below.trans ?_ (Below.mono (by assumption) ?_)); rotate_left; focus ((try simp) <;> omega))))⟩
  by_cases c2 : co.1 > 1000000
  · have hE : chE l p co.1 = 2 := by unfold chE; rw [if_neg (by rw [hv]; decide), if_pos (Or.inr c2)]
    rw [hE, ch_err (by rw [hE]; decide)]
    go_enter Tryd.func14, Tryd.ntmps14
    go_wp2_with (go_at_call 23; go_must (refine (hva.out _ (by repeat (first | (with_reducible exact Below.refl _ _) | (with_reducible refine Below.drew ?_) | (with_reducible refine below_drewN ?_ _) | ((with_reducible refine Below.alloc ?_ ?_ _); rotate_left; focus ((try simp) <;> omega)) | ((with_reducible refine Below.setCell ?_ ?_ _); rotate_left; focus ((try simp) <;> omega)) | ((with_reducible refine Below.trans ?_ (Below.mono (by assumption) ?_)); rotate_left; focus ((try simp) <;> omega))))).mono ?_; rintro e w1 ⟨rfl, hb1⟩; have hz1 := hb1.size))
    exact bodyPost_ret (v := .tuple #[.slice A l.length c, .int .i64 2]) (by simp [results, Tryd.results14, go_sem]) rfl ⟨A, c, rfl, hrd.out _ (by repeat (first | (with_reducible exact Below.refl _ _) | (with_reducible refine Below.drew ?_) | (with_reducible refine below_drewN ?_ _) | ((with_reducible refine Below.alloc ?_ ?_ _); rotate_left; focus ((try simp) <;> omega)) | ((with_reducible refine Below.setCell ?_ ?_ _); rotate_left; focus ((try simp) <;> omega)) | ((with_reducible refine Below.trans ?_ (Below.mono (by assumption) ?_)); rotate_left; focus ((try simp) <;> omega)))), hlc, (by repeat (first | (with_reducible exact Below.refl _ _) | (with_reducible refine Below.drew ?_) | (with_reducible refine below_drewN ?_ _) | ((with_reducible refine Below.alloc ?_ ?_ _); rotate_left; focus ((try simp) <;> omega)) | ((with_reducible refine Below.setCell ?_ ?_ _); rotate_left; focus ((try simp) <;> omega)) | ((with_reducible refine Below.trans ?_ (Below.mono (by assumption) ?_)); rotate_left; focus ((try simp) <;> omega))))⟩
  have hE0 : Hid (¬ findP p l < 0 → chE l p co.1 = if l[(findP p l).toNat]!.served.1 + co.1 > 1125899906842624 then 15 else 0) := Lib.hid (fun h => by
    unfold chE; rw [if_neg (by rw [hv]; decide), if_neg (by omega), if_neg h])
  have hE1 : Hid (findP p l < 0 → chE l p co.1 = 8) := Lib.hid (fun h => by
    unfold chE; rw [if_neg (by rw [hv]; decide), if_neg (by omega), if_pos h])
  have hasc := valid_asc hv
  have hok : Hid (∀ x ∈ l, okS x = true) := Lib.hid fun x hx => valid_ok hv hx
  have hlen := valid_len hv
  replace hv := Lib.hid hv
  have hcl : Hid (∀ W, Below w.heap.size w W → Calls Tryd.prog 29 #[.slice A l.length c] W fun e w' => ∃ v, e = .returned v ∧ Own shareE 3 39 w' W.heap.size v l ∧ Below W.heap.size W w') := Lib.hid fun W hb => sclone_own A c l W (hrd.out W hb) hn
  rcases find_cases hasc p with ⟨hia, hfp, x, hx, hxp⟩ | ⟨hia, hfp, hpl, hle, hno⟩
  · generalize atP p l = k at *
    have hkl := (List.getElem?_eq_some_iff.1 hx).1
    obtain ⟨r1, r2, r3, r4⟩ := okS_range (hok.out x (List.mem_of_getElem? hx))
    have hE := hE0.out (by omega)
    rw [hfp, Int.toNat_natCast, get_bang hx] at hE
    obtain ⟨V, hV⟩ := as_i64 (n := x.served.1 + co.1) (by omega)
    have hwr : IntKind.i64.wrap (x.served.1 + co.1) = V.1 := by rw [← hV]; exact IntWalk.i64_in _ (by omega)
    have hVr := hV
    rw [hia] at hfi
    have hcell : Hid (∃ g o, A = some ⟨g, o, none⟩ ∧ g < w.heap.size ∧ ∀ W, Below w.heap.size w W → W.cell? ⟨g, o + k * 3, none⟩ = some (.string x.proj.1) ∧ W.cell? ⟨g, o + k * 3 + 1, none⟩ = some (.int .i64 x.weight.1) ∧ W.cell? ⟨g, o + k * 3 + 2, none⟩ = some (.int .i64 x.served.1)) := Lib.hid (by
      obtain ⟨g, o, e, hg, hq⟩ := hrd.out w (Below.refl _ _) (by omega)
      refine ⟨g, o, e, hg, fun W hb => ⟨?_, ?_, ?_⟩⟩
      · have := (hb.cell (p := ⟨g, o + k * 3 + 0, none⟩) hg).trans (hq k x hx 0 (.string x.proj.1) rfl)
        simpa using this
      · exact (hb.cell (p := ⟨g, o + k * 3 + 1, none⟩) hg).trans (hq k x hx 1 (.int .i64 x.weight.1) rfl)
      · exact (hb.cell (p := ⟨g, o + k * 3 + 2, none⟩) hg).trans (hq k x hx 2 (.int .i64 x.served.1) rfl))
    obtain ⟨g, o, rfl, hg, hq⟩ := hcell.out
    replace hq := Lib.hid hq
    have i0 : (0 : Int) ≤ (k : Int) := by omega
    have i1 : (k : Int) < (l.length : Int) := by omega
    rw [hV] at hE
    by_cases c3 : V.1 > 1125899906842624
    · rw [if_pos c3] at hE
      rw [hE, ch_err (by rw [hE]; decide)]
      replace hE := Lib.hid hE
      replace hfp := Lib.hid hfp
      replace hx := Lib.hid hx
      replace hia := Lib.hid hia
      replace hxp := Lib.hid hxp
      replace hV := Lib.hid hV
      replace hVr := Lib.hid hVr
      go_enter Tryd.func14, Tryd.ntmps14
      go_wp2_with (first | (go_at_call 23; go_must (refine (hva.out _ (by repeat (first | (with_reducible exact Below.refl _ _) | (with_reducible refine Below.drew ?_) | (with_reducible refine below_drewN ?_ _) | ((with_reducible refine Below.alloc ?_ ?_ _); rotate_left; focus ((try simp) <;> omega)) | ((with_reducible refine Below.setCell ?_ ?_ _); rotate_left; focus ((try simp) <;> omega)) | ((with_reducible refine Below.trans ?_ (Below.mono (by assumption) ?_)); rotate_left; focus ((try simp) <;> omega))))).mono ?_; rintro e w1 ⟨rfl, hb1⟩; have hz1 := hb1.size)) | (go_at_call 25; go_must (refine (hfi.out _ (by repeat (first | (with_reducible exact Below.refl _ _) | (with_reducible refine Below.drew ?_) | (with_reducible refine below_drewN ?_ _) | ((with_reducible refine Below.alloc ?_ ?_ _); rotate_left; focus ((try simp) <;> omega)) | ((with_reducible refine Below.setCell ?_ ?_ _); rotate_left; focus ((try simp) <;> omega)) | ((with_reducible refine Below.trans ?_ (Below.mono (by assumption) ?_)); rotate_left; focus ((try simp) <;> omega))))).mono ?_; rintro e w3 ⟨rfl, hb3⟩; have hz3 := hb3.size; obtain ⟨q0, q1, q2⟩ := hq.out w3 (by repeat (first | (with_reducible exact Below.refl _ _) | (with_reducible refine Below.drew ?_) | (with_reducible refine below_drewN ?_ _) | ((with_reducible refine Below.alloc ?_ ?_ _); rotate_left; focus ((try simp) <;> omega)) | ((with_reducible refine Below.setCell ?_ ?_ _); rotate_left; focus ((try simp) <;> omega)) | ((with_reducible refine Below.trans ?_ (Below.mono (by assumption) ?_)); rotate_left; focus ((try simp) <;> omega)))); have hg3 : g < w3.heap.size := (by omega))))
      exact bodyPost_ret (v := .tuple #[.slice (some ⟨g, o, none⟩) l.length c, .int .i64 15]) (by simp [results, Tryd.results14, go_sem]) rfl ⟨_, c, rfl, hrd.out _ (by repeat (first | (with_reducible exact Below.refl _ _) | (with_reducible refine Below.drew ?_) | (with_reducible refine below_drewN ?_ _) | ((with_reducible refine Below.alloc ?_ ?_ _); rotate_left; focus ((try simp) <;> omega)) | ((with_reducible refine Below.setCell ?_ ?_ _); rotate_left; focus ((try simp) <;> omega)) | ((with_reducible refine Below.trans ?_ (Below.mono (by assumption) ?_)); rotate_left; focus ((try simp) <;> omega)))), hlc, (by repeat (first | (with_reducible exact Below.refl _ _) | (with_reducible refine Below.drew ?_) | (with_reducible refine below_drewN ?_ _) | ((with_reducible refine Below.alloc ?_ ?_ _); rotate_left; focus ((try simp) <;> omega)) | ((with_reducible refine Below.setCell ?_ ?_ _); rotate_left; focus ((try simp) <;> omega)) | ((with_reducible refine Below.trans ?_ (Below.mono (by assumption) ?_)); rotate_left; focus ((try simp) <;> omega))))⟩
    · rw [if_neg c3] at hE
      have hL := ch_yes hE hfp hx hV
      rw [hE, hL]
      have hx2 := Lib.hid hx
      replace hE := Lib.hid hE
      replace hfp := Lib.hid hfp
      replace hx := Lib.hid hx
      replace hia := Lib.hid hia
      replace hxp := Lib.hid hxp
      replace hV := Lib.hid hV
      replace hVr := Lib.hid hVr
      replace hL := Lib.hid hL
      go_enter Tryd.func14, Tryd.ntmps14
      go_wp2_with (first
        | (go_at_call 23; go_must (refine (hva.out _ (by repeat (first | (with_reducible exact Below.refl _ _) | (with_reducible refine Below.drew ?_) | (with_reducible refine below_drewN ?_ _) | ((with_reducible refine Below.alloc ?_ ?_ _); rotate_left; focus ((try simp) <;> omega)) | ((with_reducible refine Below.setCell ?_ ?_ _); rotate_left; focus ((try simp) <;> omega)) | ((with_reducible refine Below.trans ?_ (Below.mono (by assumption) ?_)); rotate_left; focus ((try simp) <;> omega))))).mono ?_; rintro e w1 ⟨rfl, hb1⟩; have hz1 := hb1.size)) | (go_at_call 25; go_must (refine (hfi.out _ (by repeat (first | (with_reducible exact Below.refl _ _) | (with_reducible refine Below.drew ?_) | (with_reducible refine below_drewN ?_ _) | ((with_reducible refine Below.alloc ?_ ?_ _); rotate_left; focus ((try simp) <;> omega)) | ((with_reducible refine Below.setCell ?_ ?_ _); rotate_left; focus ((try simp) <;> omega)) | ((with_reducible refine Below.trans ?_ (Below.mono (by assumption) ?_)); rotate_left; focus ((try simp) <;> omega))))).mono ?_; rintro e w3 ⟨rfl, hb3⟩; have hz3 := hb3.size; obtain ⟨q0, q1, q2⟩ := hq.out w3 (by repeat (first | (with_reducible exact Below.refl _ _) | (with_reducible refine Below.drew ?_) | (with_reducible refine below_drewN ?_ _) | ((with_reducible refine Below.alloc ?_ ?_ _); rotate_left; focus ((try simp) <;> omega)) | ((with_reducible refine Below.setCell ?_ ?_ _); rotate_left; focus ((try simp) <;> omega)) | ((with_reducible refine Below.trans ?_ (Below.mono (by assumption) ?_)); rotate_left; focus ((try simp) <;> omega)))); have hg3 : g < w3.heap.size := (by omega)))
        | (go_at_call 29
           go_must (refine (hcl.out _ (by repeat (first | (with_reducible exact Below.refl _ _) | (with_reducible refine Below.drew ?_) | (with_reducible refine below_drewN ?_ _) | ((with_reducible refine Below.alloc ?_ ?_ _); rotate_left; focus ((try simp) <;> omega)) | ((with_reducible refine Below.setCell ?_ ?_ _); rotate_left; focus ((try simp) <;> omega)) | ((with_reducible refine Below.trans ?_ (Below.mono (by assumption) ?_)); rotate_left; focus ((try simp) <;> omega))))).mono ?_)
           rintro e w5 ⟨v5, rfl, hown5, hb5⟩
           have hz5 := hb5.size
           obtain ⟨g5, cap, rfl⟩ : ∃ g cap, v5 = .slice (some ⟨g, 0, none⟩) l.length cap := by
             rcases hown5.2 with ⟨rfl, h⟩ | ⟨g, cap, _, rfl, _⟩
             · omega
             · exact ⟨g, cap, rfl⟩
           obtain ⟨hHg, _⟩ := own_block hown5
           have d2 : w5.cell? ⟨g5, k * 3 + 2, none⟩ = some (.int .i64 x.served.1) := (hown5.cellAt _ (by omega)).trans (flat_at shareE_len hx2.out rfl)
           have f2 : w5.frozen? ⟨g5, k * 3 + 2, none⟩ = false := hown5.frozenAt _
           replace hown5 := Lib.hid hown5))
      have hs := set_cell shareE_len (y := ⟨x.proj, x.weight, V⟩) (j := 2) (u := .int .i64 V.1) hown5.out hx2.out (by omega) rfl
      have hbb : Below w.heap.size w (w5.setCell ⟨g5, k * 3 + 2, none⟩ (.int .i64 V.1)) := by
        refine Below.setCell ?_ (by show w.heap.size ≤ g5; omega) _
        exact (by repeat (first | (with_reducible exact Below.refl _ _) | (with_reducible refine Below.drew ?_) | (with_reducible refine below_drewN ?_ _) | ((with_reducible refine Below.alloc ?_ ?_ _); rotate_left; focus ((try simp) <;> omega)) | ((with_reducible refine Below.setCell ?_ ?_ _); rotate_left; focus ((try simp) <;> omega)) | ((with_reducible refine Below.trans ?_ (Below.mono (by assumption) ?_)); rotate_left; focus ((try simp) <;> omega))))
      obtain ⟨A', c', hv, hrw, hlc'⟩ := own_out hs
      rw [List.length_set] at hv
      simp only [Value.slice.injEq] at hv
      obtain ⟨rfl, _, rfl⟩ := hv
      exact bodyPost_ret (v := .tuple #[.slice (some ⟨g5, 0, none⟩) l.length cap, .int .i64 0]) (by simp [results, Tryd.results14, go_sem]) rfl ⟨_, cap, by rw [List.length_set], hrw, hlc', hbb⟩
  · have hE := hE1.out (by omega)
    rw [hE, ch_err (by rw [hE]; decide)]
    rw [hia] at hfi
    replace hE := Lib.hid hE
    replace hfp := Lib.hid hfp
    replace hia := Lib.hid hia
    replace hpl := Lib.hid hpl
    go_enter Tryd.func14, Tryd.ntmps14
    go_wp2_with (first | (go_at_call 23; go_must (refine (hva.out _ (by repeat (first | (with_reducible exact Below.refl _ _) | (with_reducible refine Below.drew ?_) | (with_reducible refine below_drewN ?_ _) | ((with_reducible refine Below.alloc ?_ ?_ _); rotate_left; focus ((try simp) <;> omega)) | ((with_reducible refine Below.setCell ?_ ?_ _); rotate_left; focus ((try simp) <;> omega)) | ((with_reducible refine Below.trans ?_ (Below.mono (by assumption) ?_)); rotate_left; focus ((try simp) <;> omega))))).mono ?_; rintro e w1 ⟨rfl, hb1⟩; have hz1 := hb1.size)) | (go_at_call 25; go_must (refine (hfi.out _ (by repeat (first | (with_reducible exact Below.refl _ _) | (with_reducible refine Below.drew ?_) | (with_reducible refine below_drewN ?_ _) | ((with_reducible refine Below.alloc ?_ ?_ _); rotate_left; focus ((try simp) <;> omega)) | ((with_reducible refine Below.setCell ?_ ?_ _); rotate_left; focus ((try simp) <;> omega)) | ((with_reducible refine Below.trans ?_ (Below.mono (by assumption) ?_)); rotate_left; focus ((try simp) <;> omega))))).mono ?_; rintro e w3 ⟨rfl, hb3⟩; have hz3 := hb3.size; skip)))
    exact bodyPost_ret (v := .tuple #[.slice A l.length c, .int .i64 8]) (by simp [results, Tryd.results14, go_sem]) rfl ⟨A, c, rfl, hrd.out _ (by repeat (first | (with_reducible exact Below.refl _ _) | (with_reducible refine Below.drew ?_) | (with_reducible refine below_drewN ?_ _) | ((with_reducible refine Below.alloc ?_ ?_ _); rotate_left; focus ((try simp) <;> omega)) | ((with_reducible refine Below.setCell ?_ ?_ _); rotate_left; focus ((try simp) <;> omega)) | ((with_reducible refine Below.trans ?_ (Below.mono (by assumption) ?_)); rotate_left; focus ((try simp) <;> omega)))), hlc, (by repeat (first | (with_reducible exact Below.refl _ _) | (with_reducible refine Below.drew ?_) | (with_reducible refine below_drewN ?_ _) | ((with_reducible refine Below.alloc ?_ ?_ _); rotate_left; focus ((try simp) <;> omega)) | ((with_reducible refine Below.setCell ?_ ?_ _); rotate_left; focus ((try simp) <;> omega)) | ((with_reducible refine Below.trans ?_ (Below.mono (by assumption) ?_)); rotate_left; focus ((try simp) <;> omega))))⟩

set_option maxRecDepth 100000 in
set_option maxHeartbeats 8000000 in
theorem rcharge_any (A : Option Addr) (c : Nat) (l : List Share) (p : Str) (co : I64) (w : World) (hr : Rw shareE 3 w w.heap.size A l) (hlc : l.length ≤ c) (hn : l.length ≤ 1000000) :
    Calls Tryd.prog 15 #[.slice A l.length c, .string p.1, .int .i64 co.1] w fun e w' => ∃ A' c', e = .returned (.tuple #[.slice A' (chL l p co.1).length c', .int .i64 (chE l p co.1)]) ∧ Rw shareE 3 w' w'.heap.size A' (chL l p co.1) ∧ (chL l p co.1).length ≤ c' ∧ Below w.heap.size w w' := by
  have hrs : Hid (∀ W, Below w.heap.size w W → ∀ i x, i < l.length → Calls Tryd.prog 35 #[.slice A l.length c, .int .i64 i, .agg #[.string x.proj.1, .int .i64 x.weight.1, .int .i64 x.served.1]] W fun e w' => ∃ v, e = .returned v ∧ Own shareE 3 39 w' W.heap.size v (l.set i x) ∧ Below W.heap.size W w') := Lib.hid fun W hb i x hi => rset_any A c i l x W ((hr.below hb (Nat.le_refl _)).more hb.size) hi hn
  have hrd : Hid (∀ W, Below w.heap.size w W → Rw shareE 3 W W.heap.size A l) := Lib.hid fun W hb => (hr.below hb (Nat.le_refl _)).more hb.size
  have hva : Hid (∀ W, Below w.heap.size w W → Calls Tryd.prog 19 #[.slice A l.length c] W fun e w' => e = .returned (.bool (validS l)) ∧ Below W.heap.size W w') := Lib.hid fun W hb => rvalid_any A c l W (hrd.out W hb) (by omega)
  have hnm : Hid (∀ W, Calls Tryd.prog 31 #[.string p.1] W fun e w' => e = .returned (.bool (nameB p.1)) ∧ Below W.heap.size W w') := Lib.hid fun W => (rname_any _ W p.2).mono fun _ _ h => ⟨h.1, by rw [← h.2]; exact Below.refl _ _⟩
  have hfi : Hid (∀ W, Below w.heap.size w W → Calls Tryd.prog 20 #[.slice A l.length c, .string p.1] W fun e w' => e = .returned (.int .i64 (findP p l)) ∧ Below W.heap.size W w') := Lib.hid fun W hb => (rfind_any A c l p W (hrd.out W hb) (by omega)).mono fun _ _ h => ⟨h.1, by rw [← h.2]; exact Below.refl _ _⟩
  clear hr
  clear hnm
  rcases hv : validS l with _ | _
  · have hE : chE l p co.1 = 1 := by unfold chE; rw [if_pos hv]
    rw [hE, ch_err (by rw [hE]; decide)]
    rw [hv] at hva
    go_enter Tryd.func15, Tryd.ntmps15
    go_wp2_with (go_at_call 19; go_must (refine (hva.out _ (by repeat (first | (with_reducible exact Below.refl _ _) | (with_reducible refine Below.drew ?_) | (with_reducible refine below_drewN ?_ _) | ((with_reducible refine Below.alloc ?_ ?_ _); rotate_left; focus ((try simp) <;> omega)) | ((with_reducible refine Below.setCell ?_ ?_ _); rotate_left; focus ((try simp) <;> omega)) | ((with_reducible refine Below.trans ?_ (Below.mono (by assumption) ?_)); rotate_left; focus ((try simp) <;> omega))))).mono ?_; rintro e w1 ⟨rfl, hb1⟩; have hz1 := hb1.size))
    exact bodyPost_ret (v := .tuple #[.slice A l.length c, .int .i64 1]) (by simp [results, Tryd.results15, go_sem]) rfl ⟨A, c, rfl, hrd.out _ (by repeat (first | (with_reducible exact Below.refl _ _) | (with_reducible refine Below.drew ?_) | (with_reducible refine below_drewN ?_ _) | ((with_reducible refine Below.alloc ?_ ?_ _); rotate_left; focus ((try simp) <;> omega)) | ((with_reducible refine Below.setCell ?_ ?_ _); rotate_left; focus ((try simp) <;> omega)) | ((with_reducible refine Below.trans ?_ (Below.mono (by assumption) ?_)); rotate_left; focus ((try simp) <;> omega)))), hlc, (by repeat (first | (with_reducible exact Below.refl _ _) | (with_reducible refine Below.drew ?_) | (with_reducible refine below_drewN ?_ _) | ((with_reducible refine Below.alloc ?_ ?_ _); rotate_left; focus ((try simp) <;> omega)) | ((with_reducible refine Below.setCell ?_ ?_ _); rotate_left; focus ((try simp) <;> omega)) | ((with_reducible refine Below.trans ?_ (Below.mono (by assumption) ?_)); rotate_left; focus ((try simp) <;> omega))))⟩
  rw [hv] at hva
  by_cases c1 : co.1 < 1
  · have hE : chE l p co.1 = 2 := by unfold chE; rw [if_neg (by rw [hv]; decide), if_pos (Or.inl c1)]
    rw [hE, ch_err (by rw [hE]; decide)]
    go_enter Tryd.func15, Tryd.ntmps15
    go_wp2_with (go_at_call 19; go_must (refine (hva.out _ (by repeat (first | (with_reducible exact Below.refl _ _) | (with_reducible refine Below.drew ?_) | (with_reducible refine below_drewN ?_ _) | ((with_reducible refine Below.alloc ?_ ?_ _); rotate_left; focus ((try simp) <;> omega)) | ((with_reducible refine Below.setCell ?_ ?_ _); rotate_left; focus ((try simp) <;> omega)) | ((with_reducible refine Below.trans ?_ (Below.mono (by assumption) ?_)); rotate_left; focus ((try simp) <;> omega))))).mono ?_; rintro e w1 ⟨rfl, hb1⟩; have hz1 := hb1.size))
    exact bodyPost_ret (v := .tuple #[.slice A l.length c, .int .i64 2]) (by simp [results, Tryd.results15, go_sem]) rfl ⟨A, c, rfl, hrd.out _ (by repeat (first | (with_reducible exact Below.refl _ _) | (with_reducible refine Below.drew ?_) | (with_reducible refine below_drewN ?_ _) | ((with_reducible refine Below.alloc ?_ ?_ _); rotate_left; focus ((try simp) <;> omega)) | ((with_reducible refine Below.setCell ?_ ?_ _); rotate_left; focus ((try simp) <;> omega)) | ((with_reducible refine Below.trans ?_ (Below.mono (by assumption) ?_)); rotate_left; focus ((try simp) <;> omega)))), hlc, (by repeat (first | (with_reducible exact Below.refl _ _) | (with_reducible refine Below.drew ?_) | (with_reducible refine below_drewN ?_ _) | ((with_reducible refine Below.alloc ?_ ?_ _); rotate_left; focus ((try simp) <;> omega)) | ((with_reducible refine Below.setCell ?_ ?_ _); rotate_left; focus ((try simp) <;> omega)) | ((with_reducible refine Below.trans ?_ (Below.mono (by assumption) ?_)); rotate_left; focus ((try simp) <;> omega))))⟩
  by_cases c2 : co.1 > 1000000
  · have hE : chE l p co.1 = 2 := by unfold chE; rw [if_neg (by rw [hv]; decide), if_pos (Or.inr c2)]
    rw [hE, ch_err (by rw [hE]; decide)]
    go_enter Tryd.func15, Tryd.ntmps15
    go_wp2_with (go_at_call 19; go_must (refine (hva.out _ (by repeat (first | (with_reducible exact Below.refl _ _) | (with_reducible refine Below.drew ?_) | (with_reducible refine below_drewN ?_ _) | ((with_reducible refine Below.alloc ?_ ?_ _); rotate_left; focus ((try simp) <;> omega)) | ((with_reducible refine Below.setCell ?_ ?_ _); rotate_left; focus ((try simp) <;> omega)) | ((with_reducible refine Below.trans ?_ (Below.mono (by assumption) ?_)); rotate_left; focus ((try simp) <;> omega))))).mono ?_; rintro e w1 ⟨rfl, hb1⟩; have hz1 := hb1.size))
    exact bodyPost_ret (v := .tuple #[.slice A l.length c, .int .i64 2]) (by simp [results, Tryd.results15, go_sem]) rfl ⟨A, c, rfl, hrd.out _ (by repeat (first | (with_reducible exact Below.refl _ _) | (with_reducible refine Below.drew ?_) | (with_reducible refine below_drewN ?_ _) | ((with_reducible refine Below.alloc ?_ ?_ _); rotate_left; focus ((try simp) <;> omega)) | ((with_reducible refine Below.setCell ?_ ?_ _); rotate_left; focus ((try simp) <;> omega)) | ((with_reducible refine Below.trans ?_ (Below.mono (by assumption) ?_)); rotate_left; focus ((try simp) <;> omega)))), hlc, (by repeat (first | (with_reducible exact Below.refl _ _) | (with_reducible refine Below.drew ?_) | (with_reducible refine below_drewN ?_ _) | ((with_reducible refine Below.alloc ?_ ?_ _); rotate_left; focus ((try simp) <;> omega)) | ((with_reducible refine Below.setCell ?_ ?_ _); rotate_left; focus ((try simp) <;> omega)) | ((with_reducible refine Below.trans ?_ (Below.mono (by assumption) ?_)); rotate_left; focus ((try simp) <;> omega))))⟩
  have hE0 : Hid (¬ findP p l < 0 → chE l p co.1 = if l[(findP p l).toNat]!.served.1 + co.1 > 1125899906842624 then 15 else 0) := Lib.hid (fun h => by
    unfold chE; rw [if_neg (by rw [hv]; decide), if_neg (by omega), if_neg h])
  have hE1 : Hid (findP p l < 0 → chE l p co.1 = 8) := Lib.hid (fun h => by
    unfold chE; rw [if_neg (by rw [hv]; decide), if_neg (by omega), if_pos h])
  have hasc := valid_asc hv
  have hok : Hid (∀ x ∈ l, okS x = true) := Lib.hid fun x hx => valid_ok hv hx
  have hlen := valid_len hv
  replace hv := Lib.hid hv
  rcases find_cases hasc p with ⟨hia, hfp, x, hx, hxp⟩ | ⟨hia, hfp, hpl, hle, hno⟩
  · generalize atP p l = k at *
    have hkl := (List.getElem?_eq_some_iff.1 hx).1
    obtain ⟨r1, r2, r3, r4⟩ := okS_range (hok.out x (List.mem_of_getElem? hx))
    have hE := hE0.out (by omega)
    rw [hfp, Int.toNat_natCast, get_bang hx] at hE
    obtain ⟨V, hV⟩ := as_i64 (n := x.served.1 + co.1) (by omega)
    have hwr : IntKind.i64.wrap (x.served.1 + co.1) = V.1 := by rw [← hV]; exact IntWalk.i64_in _ (by omega)
    have hws : IntKind.i64.wrap (1125899906842624 - co.1) = 1125899906842624 - co.1 := IntWalk.i64_in _ (by omega)
    rw [hfp] at hfi
    have hcell : Hid (∃ g o, A = some ⟨g, o, none⟩ ∧ g < w.heap.size ∧ ∀ W, Below w.heap.size w W → W.cell? ⟨g, o + k * 3, none⟩ = some (.string x.proj.1) ∧ W.cell? ⟨g, o + k * 3 + 1, none⟩ = some (.int .i64 x.weight.1) ∧ W.cell? ⟨g, o + k * 3 + 2, none⟩ = some (.int .i64 x.served.1)) := Lib.hid (by
      obtain ⟨g, o, e, hg, hq⟩ := hrd.out w (Below.refl _ _) (by omega)
      refine ⟨g, o, e, hg, fun W hb => ⟨?_, ?_, ?_⟩⟩
      · have := (hb.cell (p := ⟨g, o + k * 3 + 0, none⟩) hg).trans (hq k x hx 0 (.string x.proj.1) rfl)
        simpa using this
      · exact (hb.cell (p := ⟨g, o + k * 3 + 1, none⟩) hg).trans (hq k x hx 1 (.int .i64 x.weight.1) rfl)
      · exact (hb.cell (p := ⟨g, o + k * 3 + 2, none⟩) hg).trans (hq k x hx 2 (.int .i64 x.served.1) rfl))
    obtain ⟨g, o, rfl, hg, hq⟩ := hcell.out
    replace hq := Lib.hid hq
    have i0 : (0 : Int) ≤ (k : Int) := by omega
    have i1 : (k : Int) < (l.length : Int) := by omega
    have i2 : ¬ (k : Int) < 0 := by omega
    rw [hV] at hE
    by_cases c3 : V.1 > 1125899906842624
    · rw [if_pos c3] at hE
      rw [hE, ch_err (by rw [hE]; decide)]
      have c4 : x.served.1 > 1125899906842624 - co.1 := by omega
      replace hE := Lib.hid hE
      replace hfp := Lib.hid hfp
      replace hx := Lib.hid hx
      replace hia := Lib.hid hia
      replace hxp := Lib.hid hxp
      replace hV := Lib.hid hV
      go_enter Tryd.func15, Tryd.ntmps15
      go_wp2_with (first | (go_at_call 19; go_must (refine (hva.out _ (by repeat (first | (with_reducible exact Below.refl _ _) | (with_reducible refine Below.drew ?_) | (with_reducible refine below_drewN ?_ _) | ((with_reducible refine Below.alloc ?_ ?_ _); rotate_left; focus ((try simp) <;> omega)) | ((with_reducible refine Below.setCell ?_ ?_ _); rotate_left; focus ((try simp) <;> omega)) | ((with_reducible refine Below.trans ?_ (Below.mono (by assumption) ?_)); rotate_left; focus ((try simp) <;> omega))))).mono ?_; rintro e w1 ⟨rfl, hb1⟩; have hz1 := hb1.size)) | (go_at_call 20; go_must (refine (hfi.out _ (by repeat (first | (with_reducible exact Below.refl _ _) | (with_reducible refine Below.drew ?_) | (with_reducible refine below_drewN ?_ _) | ((with_reducible refine Below.alloc ?_ ?_ _); rotate_left; focus ((try simp) <;> omega)) | ((with_reducible refine Below.setCell ?_ ?_ _); rotate_left; focus ((try simp) <;> omega)) | ((with_reducible refine Below.trans ?_ (Below.mono (by assumption) ?_)); rotate_left; focus ((try simp) <;> omega))))).mono ?_; rintro e w3 ⟨rfl, hb3⟩; have hz3 := hb3.size; obtain ⟨q0, q1, q2⟩ := hq.out w3 (by repeat (first | (with_reducible exact Below.refl _ _) | (with_reducible refine Below.drew ?_) | (with_reducible refine below_drewN ?_ _) | ((with_reducible refine Below.alloc ?_ ?_ _); rotate_left; focus ((try simp) <;> omega)) | ((with_reducible refine Below.setCell ?_ ?_ _); rotate_left; focus ((try simp) <;> omega)) | ((with_reducible refine Below.trans ?_ (Below.mono (by assumption) ?_)); rotate_left; focus ((try simp) <;> omega)))); have hg3 : g < w3.heap.size := (by omega))))
      exact bodyPost_ret (v := .tuple #[.slice (some ⟨g, o, none⟩) l.length c, .int .i64 15]) (by simp [results, Tryd.results15, go_sem]) rfl ⟨_, c, rfl, hrd.out _ (by repeat (first | (with_reducible exact Below.refl _ _) | (with_reducible refine Below.drew ?_) | (with_reducible refine below_drewN ?_ _) | ((with_reducible refine Below.alloc ?_ ?_ _); rotate_left; focus ((try simp) <;> omega)) | ((with_reducible refine Below.setCell ?_ ?_ _); rotate_left; focus ((try simp) <;> omega)) | ((with_reducible refine Below.trans ?_ (Below.mono (by assumption) ?_)); rotate_left; focus ((try simp) <;> omega)))), hlc, (by repeat (first | (with_reducible exact Below.refl _ _) | (with_reducible refine Below.drew ?_) | (with_reducible refine below_drewN ?_ _) | ((with_reducible refine Below.alloc ?_ ?_ _); rotate_left; focus ((try simp) <;> omega)) | ((with_reducible refine Below.setCell ?_ ?_ _); rotate_left; focus ((try simp) <;> omega)) | ((with_reducible refine Below.trans ?_ (Below.mono (by assumption) ?_)); rotate_left; focus ((try simp) <;> omega))))⟩
    · rw [if_neg c3] at hE
      have hL := ch_yes hE hfp hx hV
      have hsv : Hid (∀ W, Below w.heap.size w W → Calls Tryd.prog 35 #[.slice (some ⟨g, o, none⟩) l.length c, .int .i64 (k : Int), .agg #[.string x.proj.1, .int .i64 x.weight.1, .int .i64 V.1]] W fun e w' => ∃ A' c', e = .returned (.slice A' (chL l p co.1).length c') ∧ Rw shareE 3 w' w'.heap.size A' (chL l p co.1) ∧ (chL l p co.1).length ≤ c' ∧ Below W.heap.size W w') := Lib.hid fun W hb => by
        rw [hL]
        refine (hrs.out W hb k ⟨x.proj, x.weight, V⟩ hkl).mono ?_
        rintro e w' ⟨v, rfl, hown, hb'⟩
        obtain ⟨A', c', rfl, h1, h2⟩ := own_out hown
        exact ⟨A', c', rfl, h1, h2, hb'⟩
      rw [hE]
      generalize chL l p co.1 = L at hsv ⊢
      have c4 : ¬ x.served.1 > 1125899906842624 - co.1 := by omega
      replace hE := Lib.hid hE
      replace hfp := Lib.hid hfp
      replace hx := Lib.hid hx
      replace hia := Lib.hid hia
      replace hxp := Lib.hid hxp
      replace hV := Lib.hid hV
      clear hL
      go_enter Tryd.func15, Tryd.ntmps15
      go_wp2_with (first
        | (go_at_call 19; go_must (refine (hva.out _ (by repeat (first | (with_reducible exact Below.refl _ _) | (with_reducible refine Below.drew ?_) | (with_reducible refine below_drewN ?_ _) | ((with_reducible refine Below.alloc ?_ ?_ _); rotate_left; focus ((try simp) <;> omega)) | ((with_reducible refine Below.setCell ?_ ?_ _); rotate_left; focus ((try simp) <;> omega)) | ((with_reducible refine Below.trans ?_ (Below.mono (by assumption) ?_)); rotate_left; focus ((try simp) <;> omega))))).mono ?_; rintro e w1 ⟨rfl, hb1⟩; have hz1 := hb1.size)) | (go_at_call 20; go_must (refine (hfi.out _ (by repeat (first | (with_reducible exact Below.refl _ _) | (with_reducible refine Below.drew ?_) | (with_reducible refine below_drewN ?_ _) | ((with_reducible refine Below.alloc ?_ ?_ _); rotate_left; focus ((try simp) <;> omega)) | ((with_reducible refine Below.setCell ?_ ?_ _); rotate_left; focus ((try simp) <;> omega)) | ((with_reducible refine Below.trans ?_ (Below.mono (by assumption) ?_)); rotate_left; focus ((try simp) <;> omega))))).mono ?_; rintro e w3 ⟨rfl, hb3⟩; have hz3 := hb3.size; obtain ⟨q0, q1, q2⟩ := hq.out w3 (by repeat (first | (with_reducible exact Below.refl _ _) | (with_reducible refine Below.drew ?_) | (with_reducible refine below_drewN ?_ _) | ((with_reducible refine Below.alloc ?_ ?_ _); rotate_left; focus ((try simp) <;> omega)) | ((with_reducible refine Below.setCell ?_ ?_ _); rotate_left; focus ((try simp) <;> omega)) | ((with_reducible refine Below.trans ?_ (Below.mono (by assumption) ?_)); rotate_left; focus ((try simp) <;> omega)))); have hg3 : g < w3.heap.size := (by omega)))
        | (go_at_call 35; go_must (refine (hsv.out _ (by repeat (first | (with_reducible exact Below.refl _ _) | (with_reducible refine Below.drew ?_) | (with_reducible refine below_drewN ?_ _) | ((with_reducible refine Below.alloc ?_ ?_ _); rotate_left; focus ((try simp) <;> omega)) | ((with_reducible refine Below.setCell ?_ ?_ _); rotate_left; focus ((try simp) <;> omega)) | ((with_reducible refine Below.trans ?_ (Below.mono (by assumption) ?_)); rotate_left; focus ((try simp) <;> omega))))).mono ?_; rintro e w5 ⟨A5, c5, rfl, hr5, hl5, hb5⟩; have hz5 := hb5.size)))
      exact bodyPost_ret (v := .tuple #[.slice A5 L.length c5, .int .i64 0]) (by simp [results, Tryd.results15, go_sem]) rfl ⟨_, c5, rfl, hr5, hl5, (by repeat (first | (with_reducible exact Below.refl _ _) | (with_reducible refine Below.drew ?_) | (with_reducible refine below_drewN ?_ _) | ((with_reducible refine Below.alloc ?_ ?_ _); rotate_left; focus ((try simp) <;> omega)) | ((with_reducible refine Below.setCell ?_ ?_ _); rotate_left; focus ((try simp) <;> omega)) | ((with_reducible refine Below.trans ?_ (Below.mono (by assumption) ?_)); rotate_left; focus ((try simp) <;> omega))))⟩
  · have hE := hE1.out (by omega)
    rw [hE, ch_err (by rw [hE]; decide)]
    rw [hfp] at hfi
    replace hE := Lib.hid hE
    replace hfp := Lib.hid hfp
    replace hia := Lib.hid hia
    replace hpl := Lib.hid hpl
    go_enter Tryd.func15, Tryd.ntmps15
    go_wp2_with (first | (go_at_call 19; go_must (refine (hva.out _ (by repeat (first | (with_reducible exact Below.refl _ _) | (with_reducible refine Below.drew ?_) | (with_reducible refine below_drewN ?_ _) | ((with_reducible refine Below.alloc ?_ ?_ _); rotate_left; focus ((try simp) <;> omega)) | ((with_reducible refine Below.setCell ?_ ?_ _); rotate_left; focus ((try simp) <;> omega)) | ((with_reducible refine Below.trans ?_ (Below.mono (by assumption) ?_)); rotate_left; focus ((try simp) <;> omega))))).mono ?_; rintro e w1 ⟨rfl, hb1⟩; have hz1 := hb1.size)) | (go_at_call 20; go_must (refine (hfi.out _ (by repeat (first | (with_reducible exact Below.refl _ _) | (with_reducible refine Below.drew ?_) | (with_reducible refine below_drewN ?_ _) | ((with_reducible refine Below.alloc ?_ ?_ _); rotate_left; focus ((try simp) <;> omega)) | ((with_reducible refine Below.setCell ?_ ?_ _); rotate_left; focus ((try simp) <;> omega)) | ((with_reducible refine Below.trans ?_ (Below.mono (by assumption) ?_)); rotate_left; focus ((try simp) <;> omega))))).mono ?_; rintro e w3 ⟨rfl, hb3⟩; have hz3 := hb3.size; skip)))
    exact bodyPost_ret (v := .tuple #[.slice A l.length c, .int .i64 8]) (by simp [results, Tryd.results15, go_sem]) rfl ⟨A, c, rfl, hrd.out _ (by repeat (first | (with_reducible exact Below.refl _ _) | (with_reducible refine Below.drew ?_) | (with_reducible refine below_drewN ?_ _) | ((with_reducible refine Below.alloc ?_ ?_ _); rotate_left; focus ((try simp) <;> omega)) | ((with_reducible refine Below.setCell ?_ ?_ _); rotate_left; focus ((try simp) <;> omega)) | ((with_reducible refine Below.trans ?_ (Below.mono (by assumption) ?_)); rotate_left; focus ((try simp) <;> omega)))), hlc, (by repeat (first | (with_reducible exact Below.refl _ _) | (with_reducible refine Below.drew ?_) | (with_reducible refine below_drewN ?_ _) | ((with_reducible refine Below.alloc ?_ ?_ _); rotate_left; focus ((try simp) <;> omega)) | ((with_reducible refine Below.setCell ?_ ?_ _); rotate_left; focus ((try simp) <;> omega)) | ((with_reducible refine Below.trans ?_ (Below.mono (by assumption) ?_)); rotate_left; focus ((try simp) <;> omega))))⟩

/-- Whether two shares' cells are the same. -/
def shB (a : ByteArray) (b c : Int) (a' : ByteArray) (b' c' : Int) : Bool := decide (a.toList = a'.toList ∧ b = b' ∧ c = c')
theorem shB_self (a : ByteArray) (b c : Int) : shB a b c a b c = true := by simp [shB]
theorem neq_share (w : World) (a : ByteArray) (b c : Int) (a' : ByteArray) (b' c' : Int) : (binOp .neq 39 (.agg #[.string a, .int .i64 b, .int .i64 c]) (.agg #[.string a', .int .i64 b', .int .i64 c'])).run Tryd.prog w = .ok (.bool (!shB a b c a' b' c')) w := by
  have hp : Tryd.prog.stoodInHeld 39 = false := by kernel_rfl
  unfold shB
  go_simp
  by_cases h1 : a.toList = a'.toList <;> by_cases h2 : b = b' <;> by_cases h3 : c = c' <;> simp [h1, h2, h3]
attribute [local go_sem ↓] neq_share

set_option maxHeartbeats 1000000 in
theorem sameS_any (A B : Option Addr) (c d : Nat) (l : List Share) (w : World) (ha : Rw shareE 3 w w.heap.size A l) (hb : Rw shareE 3 w w.heap.size B l) (hn : l.length ≤ 9223372036854775807) :
    Calls Tryd.prog 13 #[.slice A l.length c, .slice B l.length d] w fun e w' => e = .returned (.bool true) ∧ Below w.heap.size w w' := by
  obtain ⟨H, hB⟩ : ∃ H, w.heap.size = H := ⟨_, rfl⟩
  rw [hB] at ha hb ⊢
  have hB2 := Nat.le_of_eq hB
  have hB3 := Nat.le_of_eq hB.symm
  replace hB := Lib.hid hB
  replace ha := Lib.hid ha
  replace hb := Lib.hid hb
  go_enter Tryd.func13, Tryd.ntmps13
  go_wp2_with fail
  go_loopw [5] (fun vi wr => ∃ k : Nat, k ≤ l.length ∧ vi = .int .i64 (k : Int) ∧ Below H w wr) (fun vi _ => l.length - (intOf vi).toNat)
  case atStart => exact ⟨0, Nat.zero_le _, rfl, Below.refl _ _⟩
  case round =>
    obtain ⟨k, hk, rfl, hbw⟩ := hrel
    have hz := hbw.size
    by_cases hkl : k < l.length
    · obtain ⟨x, hx⟩ := get_some hkl
      obtain ⟨g, o, rfl, hg, hq⟩ := ha.out (by omega)
      obtain ⟨g', o', rfl, hg', hq'⟩ := hb.out (by omega)
      have q : ∀ j u, (shareE x)[j]? = some u → wr.cell? ⟨g, o + k * 3 + j, none⟩ = some u := fun j u hu => (hbw.cell (p := ⟨g, o + k * 3 + j, none⟩) hg).trans (hq k x hx j u hu)
      have r : ∀ j u, (shareE x)[j]? = some u → wr.cell? ⟨g', o' + k * 3 + j, none⟩ = some u := fun j u hu => (hbw.cell (p := ⟨g', o' + k * 3 + j, none⟩) hg').trans (hq' k x hx j u hu)
      have q0 := q 0 (.string x.proj.1) rfl
      rw [Nat.add_zero] at q0
      have q1 := q 1 (.int .i64 x.weight.1) rfl
      have q2 := q 2 (.int .i64 x.served.1) rfl
      have r0 := r 0 (.string x.proj.1) rfl
      rw [Nat.add_zero] at r0
      have r1 := r 1 (.int .i64 x.weight.1) rfl
      have r2 := r 2 (.int .i64 x.served.1) rfl
      clear q r hq hq'
      have i0 : (0 : Int) ≤ (k : Int) := by omega
      have i1 : (k : Int) < (l.length : Int) := by omega
      replace hx := Lib.hid hx
      have hsb := shB_self x.proj.1 x.weight.1 x.served.1
      replace q0 := fun d os => cell_regrown q0 d os
      replace q1 := fun d os => cell_regrown q1 d os
      replace q2 := fun d os => cell_regrown q2 d os
      replace r0 := fun d os => cell_regrown r0 d os
      replace r1 := fun d os => cell_regrown r1 d os
      replace r2 := fun d os => cell_regrown r2 d os
      go_wp2_with fail
      refine wp_region_quiet_below (by kernel_rfl) (by kernel_rfl) ?_
      repeat (go_big_quiet_step (fail))
      refine wpQuiet_nil ?_
      intro w2 hw2
      have hb2 := below_of_regrown hw2
      clear hw2
      have hz2 := hb2.size
      go_wp2_with fail
      go_roundw
      case rel => exact ⟨k + 1, by omega, by go_num, hbw.trans (hb2.mono (by omega))⟩
      case measure => simp [intOf]; omega
    · have i1 : ¬ (k : Int) < (l.length : Int) := by omega
      go_wp2_with fail
      go_ret
      exact ⟨rfl, hbw⟩
end Go.Proofs.YtopicpghhpkgbaaDoor
