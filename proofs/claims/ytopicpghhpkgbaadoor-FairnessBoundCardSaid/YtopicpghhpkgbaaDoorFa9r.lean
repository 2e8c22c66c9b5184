/-
  The walks of fairness: a project added, by the reference.
-/
import Derived.Test.YtopicpghhpkgbaaDoorFa9





namespace Go.Proofs.YtopicpghhpkgbaaDoor
open Go.RowKit

theorem rleast_nil (A : Option Addr) (c : Nat) (l : List Share) (wt : Int) (w : World) (h0 : l.length = 0) :
    Calls Tryd.prog 32 #[.slice A l.length c, .int .i64 wt] w fun e w' => e = .returned (.int .i64 0) ∧ Below w.heap.size w w' := by
  rw [h0]
  go_enter Tryd.func32, Tryd.ntmps32
  go_wp2_with fail
  go_ret
  exact ⟨rfl, Below.refl _ _⟩
set_option maxRecDepth 100000 in
set_option maxHeartbeats 8000000 in
theorem radd_any (A : Option Addr) (c : Nat) (l : List Share) (p : Str) (wt : I64) (w : World) (hr : Rw shareE 3 w w.heap.size A l) (hlc : l.length ≤ c) (hn : l.length ≤ 1000000) :
    Calls Tryd.prog 12 #[.slice A l.length c, .string p.1, .int .i64 wt.1] w fun e w' => ∃ A' c', e = .returned (.tuple #[.slice A' (addL l p wt).length c', .int .i64 (addE l p wt.1)]) ∧ Rw shareE 3 w' w'.heap.size A' (addL l p wt) ∧ (addL l p wt).length ≤ c' ∧ Below w.heap.size w w' := by
  have hrd : Hid (∀ W, Below w.heap.size w W → Rw shareE 3 W W.heap.size A l) := Lib.hid fun W hb => (hr.below hb (Nat.le_refl _)).more hb.size
  have hva : Hid (∀ W, Below w.heap.size w W → Calls Tryd.prog 19 #[.slice A l.length c] W fun e w' => e = .returned (.bool (validS l)) ∧ Below W.heap.size W w') := Lib.hid fun W hb => rvalid_any A c l W (hrd.out W hb) (by omega)
  have hnm : Hid (∀ W, Calls Tryd.prog 31 #[.string p.1] W fun e w' => e = .returned (.bool (nameB p.1)) ∧ Below W.heap.size W w') := Lib.hid fun W => (rname_any _ W p.2).mono fun _ _ h => ⟨h.1, by rw [← h.2]; exact Below.refl _ _⟩
  have hfi : Hid (∀ W, Below w.heap.size w W → Calls Tryd.prog 20 #[.slice A l.length c, .string p.1] W fun e w' => e = .returned (.int .i64 (findP p l)) ∧ Below W.heap.size W w') := Lib.hid fun W hb => (rfind_any A c l p W (hrd.out W hb) (by omega)).mono fun _ _ h => ⟨h.1, by rw [← h.2]; exact Below.refl _ _⟩
  clear hr
  rcases hv : validS l with _ | _
  · have hE : addE l p wt.1 = 1 := by unfold addE; rw [if_pos hv]
    rw [hE, add_err (by rw [hE]; decide)]
    rw [hv] at hva
    go_enter Tryd.func12, Tryd.ntmps12
    go_wp2_with (go_at_call 19; go_must (refine (hva.out _ (by repeat (first | (with_reducible exact Below.refl _ _) | (with_reducible refine Below.drew ?_) | (with_reducible refine below_drewN ?_ _) | ((with_reducible refine Below.alloc ?_ ?_ _); rotate_left; focus ((try simp) <;> omega)) | ((with_reducible refine Below.setCell ?_ ?_ _); rotate_left; focus ((try simp) <;> omega)) | ((with_reducible refine Below.trans ?_ (Below.mono (by assumption) ?_)); rotate_left; focus ((try simp) <;> omega))))).mono ?_; rintro e w1 ⟨rfl, hb1⟩; have hz1 := hb1.size))
    exact bodyPost_ret (v := .tuple #[.slice A l.length c, .int .i64 1]) (by simp [results, Tryd.results12, go_sem]) rfl ⟨A, c, rfl, hrd.out _ (by repeat (first | (with_reducible exact Below.refl _ _) | (with_reducible refine Below.drew ?_) | (with_reducible refine below_drewN ?_ _) | ((with_reducible refine Below.alloc ?_ ?_ _); rotate_left; focus ((try simp) <;> omega)) | ((with_reducible refine Below.setCell ?_ ?_ _); rotate_left; focus ((try simp) <;> omega)) | ((with_reducible refine Below.trans ?_ (Below.mono (by assumption) ?_)); rotate_left; focus ((try simp) <;> omega)))), hlc, (by repeat (first | (with_reducible exact Below.refl _ _) | (with_reducible refine Below.drew ?_) | (with_reducible refine below_drewN ?_ _) | ((with_reducible refine Below.alloc ?_ ?_ _); rotate_left; focus ((try simp) <;> omega)) | ((with_reducible refine Below.setCell ?_ ?_ _); rotate_left; focus ((try simp) <;> omega)) | ((with_reducible refine Below.trans ?_ (Below.mono (by assumption) ?_)); rotate_left; focus ((try simp) <;> omega))))⟩
  rw [hv] at hva
  rcases hnb : nameB p.1 with _ | _
  · have hE : addE l p wt.1 = 10 := by unfold addE; rw [if_neg (by rw [hv]; decide), if_pos hnb]
    rw [hE, add_err (by rw [hE]; decide)]
    rw [hnb] at hnm
    go_enter Tryd.func12, Tryd.ntmps12
    go_wp2_with (first | (go_at_call 19; go_must (refine (hva.out _ (by repeat (first | (with_reducible exact Below.refl _ _) | (with_reducible refine Below.drew ?_) | (with_reducible refine below_drewN ?_ _) | ((with_reducible refine Below.alloc ?_ ?_ _); rotate_left; focus ((try simp) <;> omega)) | ((with_reducible refine Below.setCell ?_ ?_ _); rotate_left; focus ((try simp) <;> omega)) | ((with_reducible refine Below.trans ?_ (Below.mono (by assumption) ?_)); rotate_left; focus ((try simp) <;> omega))))).mono ?_; rintro e w1 ⟨rfl, hb1⟩; have hz1 := hb1.size)) | (go_at_call 31; go_must (refine (hnm.out _).mono ?_; rintro e w2 ⟨rfl, hb2⟩; have hz2 := hb2.size)))
    exact bodyPost_ret (v := .tuple #[.slice A l.length c, .int .i64 10]) (by simp [results, Tryd.results12, go_sem]) rfl ⟨A, c, rfl, hrd.out _ (by repeat (first | (with_reducible exact Below.refl _ _) | (with_reducible refine Below.drew ?_) | (with_reducible refine below_drewN ?_ _) | ((with_reducible refine Below.alloc ?_ ?_ _); rotate_left; focus ((try simp) <;> omega)) | ((with_reducible refine Below.setCell ?_ ?_ _); rotate_left; focus ((try simp) <;> omega)) | ((with_reducible refine Below.trans ?_ (Below.mono (by assumption) ?_)); rotate_left; focus ((try simp) <;> omega)))), hlc, (by repeat (first | (with_reducible exact Below.refl _ _) | (with_reducible refine Below.drew ?_) | (with_reducible refine below_drewN ?_ _) | ((with_reducible refine Below.alloc ?_ ?_ _); rotate_left; focus ((try simp) <;> omega)) | ((with_reducible refine Below.setCell ?_ ?_ _); rotate_left; focus ((try simp) <;> omega)) | ((with_reducible refine Below.trans ?_ (Below.mono (by assumption) ?_)); rotate_left; focus ((try simp) <;> omega))))⟩
  rw [hnb] at hnm
  by_cases c1 : wt.1 < 1
  · have hE : addE l p wt.1 = 2 := by unfold addE; rw [if_neg (by rw [hv]; decide), if_neg (by rw [hnb]; decide), if_pos (Or.inl c1)]
    rw [hE, add_err (by rw [hE]; decide)]
    go_enter Tryd.func12, Tryd.ntmps12
    go_wp2_with (first | (go_at_call 19; go_must (refine (hva.out _ (by repeat (first | (with_reducible exact Below.refl _ _) | (with_reducible refine Below.drew ?_) | (with_reducible refine below_drewN ?_ _) | ((with_reducible refine Below.alloc ?_ ?_ _); rotate_left; focus ((try simp) <;> omega)) | ((with_reducible refine Below.setCell ?_ ?_ _); rotate_left; focus ((try simp) <;> omega)) | ((with_reducible refine Below.trans ?_ (Below.mono (by assumption) ?_)); rotate_left; focus ((try simp) <;> omega))))).mono ?_; rintro e w1 ⟨rfl, hb1⟩; have hz1 := hb1.size)) | (go_at_call 31; go_must (refine (hnm.out _).mono ?_; rintro e w2 ⟨rfl, hb2⟩; have hz2 := hb2.size)))
    exact bodyPost_ret (v := .tuple #[.slice A l.length c, .int .i64 2]) (by simp [results, Tryd.results12, go_sem]) rfl ⟨A, c, rfl, hrd.out _ (by repeat (first | (with_reducible exact Below.refl _ _) | (with_reducible refine Below.drew ?_) | (with_reducible refine below_drewN ?_ _) | ((with_reducible refine Below.alloc ?_ ?_ _); rotate_left; focus ((try simp) <;> omega)) | ((with_reducible refine Below.setCell ?_ ?_ _); rotate_left; focus ((try simp) <;> omega)) | ((with_reducible refine Below.trans ?_ (Below.mono (by assumption) ?_)); rotate_left; focus ((try simp) <;> omega)))), hlc, (by repeat (first | (with_reducible exact Below.refl _ _) | (with_reducible refine Below.drew ?_) | (with_reducible refine below_drewN ?_ _) | ((with_reducible refine Below.alloc ?_ ?_ _); rotate_left; focus ((try simp) <;> omega)) | ((with_reducible refine Below.setCell ?_ ?_ _); rotate_left; focus ((try simp) <;> omega)) | ((with_reducible refine Below.trans ?_ (Below.mono (by assumption) ?_)); rotate_left; focus ((try simp) <;> omega))))⟩
  by_cases c2 : wt.1 > 1000
  · have hE : addE l p wt.1 = 2 := by unfold addE; rw [if_neg (by rw [hv]; decide), if_neg (by rw [hnb]; decide), if_pos (Or.inr c2)]
    rw [hE, add_err (by rw [hE]; decide)]
    go_enter Tryd.func12, Tryd.ntmps12
    go_wp2_with (first | (go_at_call 19; go_must (refine (hva.out _ (by repeat (first | (with_reducible exact Below.refl _ _) | (with_reducible refine Below.drew ?_) | (with_reducible refine below_drewN ?_ _) | ((with_reducible refine Below.alloc ?_ ?_ _); rotate_left; focus ((try simp) <;> omega)) | ((with_reducible refine Below.setCell ?_ ?_ _); rotate_left; focus ((try simp) <;> omega)) | ((with_reducible refine Below.trans ?_ (Below.mono (by assumption) ?_)); rotate_left; focus ((try simp) <;> omega))))).mono ?_; rintro e w1 ⟨rfl, hb1⟩; have hz1 := hb1.size)) | (go_at_call 31; go_must (refine (hnm.out _).mono ?_; rintro e w2 ⟨rfl, hb2⟩; have hz2 := hb2.size)))
    exact bodyPost_ret (v := .tuple #[.slice A l.length c, .int .i64 2]) (by simp [results, Tryd.results12, go_sem]) rfl ⟨A, c, rfl, hrd.out _ (by repeat (first | (with_reducible exact Below.refl _ _) | (with_reducible refine Below.drew ?_) | (with_reducible refine below_drewN ?_ _) | ((with_reducible refine Below.alloc ?_ ?_ _); rotate_left; focus ((try simp) <;> omega)) | ((with_reducible refine Below.setCell ?_ ?_ _); rotate_left; focus ((try simp) <;> omega)) | ((with_reducible refine Below.trans ?_ (Below.mono (by assumption) ?_)); rotate_left; focus ((try simp) <;> omega)))), hlc, (by repeat (first | (with_reducible exact Below.refl _ _) | (with_reducible refine Below.drew ?_) | (with_reducible refine below_drewN ?_ _) | ((with_reducible refine Below.alloc ?_ ?_ _); rotate_left; focus ((try simp) <;> omega)) | ((with_reducible refine Below.setCell ?_ ?_ _); rotate_left; focus ((try simp) <;> omega)) | ((with_reducible refine Below.trans ?_ (Below.mono (by assumption) ?_)); rotate_left; focus ((try simp) <;> omega))))⟩
  have hE0 : Hid (¬ (findP p l < 0 ∧ 64 ≤ l.length) → addE l p wt.1 = if addV l p wt.1 > 1125899906842624 then 15 else 0) := Lib.hid (fun h => by
    unfold addE; rw [if_neg (by rw [hv]; decide), if_neg (by rw [hnb]; decide), if_neg (by omega), if_neg h])
  have hE1 : Hid (findP p l < 0 ∧ 64 ≤ l.length → addE l p wt.1 = 21) := Lib.hid (fun h => by
    unfold addE; rw [if_neg (by rw [hv]; decide), if_neg (by rw [hnb]; decide), if_neg (by omega), if_pos h])
  have hasc := valid_asc hv
  have hok : Hid (∀ x ∈ l, okS x = true) := Lib.hid fun x hx => valid_ok hv hx
  have hlen := valid_len hv
  replace hv := Lib.hid hv
  replace hnb := Lib.hid hnb
  rcases find_cases hasc p with ⟨hia, hfp, x, hx, hxp⟩ | ⟨hia, hfp, hpl, hle, hno⟩
  · generalize atP p l = k at *
    have hkl := (List.getElem?_eq_some_iff.1 hx).1
    have hxk := hok.out x (List.mem_of_getElem? hx)
    have hav : addV l p wt.1 = scaS x wt.1 := by unfold addV; rw [hfp, if_neg (by omega), Int.toNat_natCast, get_bang hx]
    obtain ⟨V, hV⟩ := as_i64 (n := scaS x wt.1) (by have := sca_range hxk (by omega : 1 ≤ wt.1) (by omega); omega)
    have hsc : Hid (∀ W, Calls Tryd.prog 33 #[.agg #[.string x.proj.1, .int .i64 x.weight.1, .int .i64 x.served.1], .int .i64 wt.1] W fun e w' => e = .returned (.int .i64 V.1) ∧ Below W.heap.size W w') := Lib.hid fun W => by rw [← hV]; exact rscaled_any x wt.1 hxk (by omega) (by omega) W
    have hE := hE0.out (by omega)
    rw [hav, hV] at hE
    rw [hfp] at hfi
    have hcell : Hid (∃ g o, A = some ⟨g, o, none⟩ ∧ g < w.heap.size ∧ ∀ W, Below w.heap.size w W → W.cell? ⟨g, o + k * 3, none⟩ = some (.string x.proj.1) ∧ W.cell? ⟨g, o + k * 3 + 1, none⟩ = some (.int .i64 x.weight.1) ∧ W.cell? ⟨g, o + k * 3 + 2, none⟩ = some (.int .i64 x.served.1)) := Lib.hid (by
      obtain ⟨g, o, e, hg, hq⟩ := hrd.out w (Below.refl _ _) (by omega)
      refine ⟨g, o, e, hg, fun W hb => ⟨?_, ?_, ?_⟩⟩
      · have := (hb.cell (p := ⟨g, o + k * 3 + 0, none⟩) hg).trans (hq k x hx 0 (.string x.proj.1) rfl)
        simpa using this
      · exact (hb.cell (p := ⟨g, o + k * 3 + 1, none⟩) hg).trans (hq k x hx 1 (.int .i64 x.weight.1) rfl)
      · exact (hb.cell (p := ⟨g, o + k * 3 + 2, none⟩) hg).trans (hq k x hx 2 (.int .i64 x.served.1) rfl))
    have hrs : Hid (∀ W, Below w.heap.size w W → Calls Tryd.prog 35 #[.slice A l.length c, .int .i64 (k : Int), .agg #[.string p.1, .int .i64 wt.1, .int .i64 V.1]] W fun e w' => ∃ v, e = .returned v ∧ Own shareE 3 39 w' W.heap.size v (l.set k ⟨p, wt, V⟩) ∧ Below W.heap.size W w') := Lib.hid fun W hb => rset_any A c k l ⟨p, wt, V⟩ W (hrd.out W hb) hkl hn
    obtain ⟨g, o, rfl, hg, hq⟩ := hcell.out
    replace hq := Lib.hid hq
    have i0 : (0 : Int) ≤ (k : Int) := by omega
    have i1 : (k : Int) < (l.length : Int) := by omega
    have i2 : ¬ (k : Int) < 0 := by omega
    by_cases c3 : V.1 > 1125899906842624
    · rw [if_pos c3] at hE
      rw [hE, add_err (by rw [hE]; decide)]
      replace hE := Lib.hid hE
      replace hav := Lib.hid hav
      replace hV := Lib.hid hV
      replace hfp := Lib.hid hfp
      replace hx := Lib.hid hx
      replace hia := Lib.hid hia
      replace hxp := Lib.hid hxp
      go_enter Tryd.func12, Tryd.ntmps12
      go_wp2_with (first | (go_at_call 19; go_must (refine (hva.out _ (by repeat (first | (with_reducible exact Below.refl _ _) | (with_reducible refine Below.drew ?_) | (with_reducible refine below_drewN ?_ _) | ((with_reducible refine Below.alloc ?_ ?_ _); rotate_left; focus ((try simp) <;> omega)) | ((with_reducible refine Below.setCell ?_ ?_ _); rotate_left; focus ((try simp) <;> omega)) | ((with_reducible refine Below.trans ?_ (Below.mono (by assumption) ?_)); rotate_left; focus ((try simp) <;> omega))))).mono ?_; rintro e w1 ⟨rfl, hb1⟩; have hz1 := hb1.size)) | (go_at_call 31; go_must (refine (hnm.out _).mono ?_; rintro e w2 ⟨rfl, hb2⟩; have hz2 := hb2.size)) | (go_at_call 20; go_must (refine (hfi.out _ (by repeat (first | (with_reducible exact Below.refl _ _) | (with_reducible refine Below.drew ?_) | (with_reducible refine below_drewN ?_ _) | ((with_reducible refine Below.alloc ?_ ?_ _); rotate_left; focus ((try simp) <;> omega)) | ((with_reducible refine Below.setCell ?_ ?_ _); rotate_left; focus ((try simp) <;> omega)) | ((with_reducible refine Below.trans ?_ (Below.mono (by assumption) ?_)); rotate_left; focus ((try simp) <;> omega))))).mono ?_; rintro e w3 ⟨rfl, hb3⟩; have hz3 := hb3.size; obtain ⟨q0, q1, q2⟩ := hq.out w3 (by repeat (first | (with_reducible exact Below.refl _ _) | (with_reducible refine Below.drew ?_) | (with_reducible refine below_drewN ?_ _) | ((with_reducible refine Below.alloc ?_ ?_ _); rotate_left; focus ((try simp) <;> omega)) | ((with_reducible refine Below.setCell ?_ ?_ _); rotate_left; focus ((try simp) <;> omega)) | ((with_reducible refine Below.trans ?_ (Below.mono (by assumption) ?_)); rotate_left; focus ((try simp) <;> omega)))); have hg3 : g < w3.heap.size := (by omega))) | (go_at_call 33; go_must (refine (hsc.out _).mono ?_; rintro e w4 ⟨rfl, hb4⟩; have hz4 := hb4.size; (try simp at hz4); obtain ⟨hc4, hf4⟩ := blk_at hb4 w3.heap.size (by (try simp) <;> omega))))
      exact bodyPost_ret (v := .tuple #[.slice (some ⟨g, o, none⟩) l.length c, .int .i64 15]) (by simp [results, Tryd.results12, go_sem]) rfl ⟨_, c, rfl, hrd.out _ (by repeat (first | (with_reducible exact Below.refl _ _) | (with_reducible refine Below.drew ?_) | (with_reducible refine below_drewN ?_ _) | ((with_reducible refine Below.alloc ?_ ?_ _); rotate_left; focus ((try simp) <;> omega)) | ((with_reducible refine Below.setCell ?_ ?_ _); rotate_left; focus ((try simp) <;> omega)) | ((with_reducible refine Below.trans ?_ (Below.mono (by assumption) ?_)); rotate_left; focus ((try simp) <;> omega)))), hlc, (by repeat (first | (with_reducible exact Below.refl _ _) | (with_reducible refine Below.drew ?_) | (with_reducible refine below_drewN ?_ _) | ((with_reducible refine Below.alloc ?_ ?_ _); rotate_left; focus ((try simp) <;> omega)) | ((with_reducible refine Below.setCell ?_ ?_ _); rotate_left; focus ((try simp) <;> omega)) | ((with_reducible refine Below.trans ?_ (Below.mono (by assumption) ?_)); rotate_left; focus ((try simp) <;> omega))))⟩
    · rw [if_neg c3] at hE
      have hL := add_yes (V := V) hE hfp (hav.trans hV)
      rw [hE, hL]
      obtain ⟨L, hLL⟩ : ∃ L, l.set k ⟨p, wt, V⟩ = L := ⟨_, rfl⟩
      rw [hLL] at hrs ⊢
      replace hL := Lib.hid hL
      replace hLL := Lib.hid hLL
      replace hE := Lib.hid hE
      replace hav := Lib.hid hav
      replace hV := Lib.hid hV
      replace hfp := Lib.hid hfp
      replace hx := Lib.hid hx
      replace hia := Lib.hid hia
      replace hxp := Lib.hid hxp
      go_enter Tryd.func12, Tryd.ntmps12
      go_wp2_with (first | (go_at_call 19; go_must (refine (hva.out _ (by repeat (first | (with_reducible exact Below.refl _ _) | (with_reducible refine Below.drew ?_) | (with_reducible refine below_drewN ?_ _) | ((with_reducible refine Below.alloc ?_ ?_ _); rotate_left; focus ((try simp) <;> omega)) | ((with_reducible refine Below.setCell ?_ ?_ _); rotate_left; focus ((try simp) <;> omega)) | ((with_reducible refine Below.trans ?_ (Below.mono (by assumption) ?_)); rotate_left; focus ((try simp) <;> omega))))).mono ?_; rintro e w1 ⟨rfl, hb1⟩; have hz1 := hb1.size)) | (go_at_call 31; go_must (refine (hnm.out _).mono ?_; rintro e w2 ⟨rfl, hb2⟩; have hz2 := hb2.size)) | (go_at_call 20; go_must (refine (hfi.out _ (by repeat (first | (with_reducible exact Below.refl _ _) | (with_reducible refine Below.drew ?_) | (with_reducible refine below_drewN ?_ _) | ((with_reducible refine Below.alloc ?_ ?_ _); rotate_left; focus ((try simp) <;> omega)) | ((with_reducible refine Below.setCell ?_ ?_ _); rotate_left; focus ((try simp) <;> omega)) | ((with_reducible refine Below.trans ?_ (Below.mono (by assumption) ?_)); rotate_left; focus ((try simp) <;> omega))))).mono ?_; rintro e w3 ⟨rfl, hb3⟩; have hz3 := hb3.size; obtain ⟨q0, q1, q2⟩ := hq.out w3 (by repeat (first | (with_reducible exact Below.refl _ _) | (with_reducible refine Below.drew ?_) | (with_reducible refine below_drewN ?_ _) | ((with_reducible refine Below.alloc ?_ ?_ _); rotate_left; focus ((try simp) <;> omega)) | ((with_reducible refine Below.setCell ?_ ?_ _); rotate_left; focus ((try simp) <;> omega)) | ((with_reducible refine Below.trans ?_ (Below.mono (by assumption) ?_)); rotate_left; focus ((try simp) <;> omega)))); have hg3 : g < w3.heap.size := (by omega))) | (go_at_call 33; go_must (refine (hsc.out _).mono ?_; rintro e w4 ⟨rfl, hb4⟩; have hz4 := hb4.size; (try simp at hz4); obtain ⟨hc4, hf4⟩ := blk_at hb4 w3.heap.size (by (try simp) <;> omega))))
      refine (hrs.out _ (by repeat (first | (with_reducible exact Below.refl _ _) | (with_reducible refine Below.drew ?_) | (with_reducible refine below_drewN ?_ _) | ((with_reducible refine Below.alloc ?_ ?_ _); rotate_left; focus ((try simp) <;> omega)) | ((with_reducible refine Below.setCell ?_ ?_ _); rotate_left; focus ((try simp) <;> omega)) | ((with_reducible refine Below.trans ?_ (Below.mono (by assumption) ?_)); rotate_left; focus ((try simp) <;> omega))))).mono ?_
      rintro e w6 ⟨v6, rfl, hown6, hb6⟩
      obtain ⟨A6, c6, e6, hr6, hl6⟩ := own_out hown6
      obtain ⟨N, hN⟩ : ∃ N, L.length = N := ⟨_, rfl⟩
      rw [hN] at e6
      subst e6
      replace hN := Lib.hid hN
      have hz6 := hb6.size
      (try simp at hz6)
      have hbb : Below w.heap.size w w6 := (by repeat (first | (with_reducible exact Below.refl _ _) | (with_reducible refine Below.drew ?_) | (with_reducible refine below_drewN ?_ _) | ((with_reducible refine Below.alloc ?_ ?_ _); rotate_left; focus ((try simp) <;> omega)) | ((with_reducible refine Below.setCell ?_ ?_ _); rotate_left; focus ((try simp) <;> omega)) | ((with_reducible refine Below.trans ?_ (Below.mono (by assumption) ?_)); rotate_left; focus ((try simp) <;> omega))))
      go_wp2_with fail
      exact bodyPost_ret (v := .tuple #[.slice A6 N c6, .int .i64 0]) (by simp [results, Tryd.results12, go_sem]) rfl ⟨A6, c6, by rw [hN.out], hr6, hl6, hbb⟩
  · clear hno
    rw [hfp] at hfi
    by_cases hfull : 64 ≤ l.length
    · have hE := hE1.out ⟨by omega, hfull⟩
      rw [hE, add_err (by rw [hE]; decide)]
      replace hE := Lib.hid hE
      replace hfp := Lib.hid hfp
      replace hpl := Lib.hid hpl
      replace hia := Lib.hid hia
      have c4 : (l.length : Int) ≥ 64 := by omega
      go_enter Tryd.func12, Tryd.ntmps12
      go_wp2_with (first | (go_at_call 19; go_must (refine (hva.out _ (by repeat (first | (with_reducible exact Below.refl _ _) | (with_reducible refine Below.drew ?_) | (with_reducible refine below_drewN ?_ _) | ((with_reducible refine Below.alloc ?_ ?_ _); rotate_left; focus ((try simp) <;> omega)) | ((with_reducible refine Below.setCell ?_ ?_ _); rotate_left; focus ((try simp) <;> omega)) | ((with_reducible refine Below.trans ?_ (Below.mono (by assumption) ?_)); rotate_left; focus ((try simp) <;> omega))))).mono ?_; rintro e w1 ⟨rfl, hb1⟩; have hz1 := hb1.size)) | (go_at_call 31; go_must (refine (hnm.out _).mono ?_; rintro e w2 ⟨rfl, hb2⟩; have hz2 := hb2.size)) | (go_at_call 20; go_must (refine (hfi.out _ (by repeat (first | (with_reducible exact Below.refl _ _) | (with_reducible refine Below.drew ?_) | (with_reducible refine below_drewN ?_ _) | ((with_reducible refine Below.alloc ?_ ?_ _); rotate_left; focus ((try simp) <;> omega)) | ((with_reducible refine Below.setCell ?_ ?_ _); rotate_left; focus ((try simp) <;> omega)) | ((with_reducible refine Below.trans ?_ (Below.mono (by assumption) ?_)); rotate_left; focus ((try simp) <;> omega))))).mono ?_; rintro e w3 ⟨rfl, hb3⟩; have hz3 := hb3.size; skip)))
      exact bodyPost_ret (v := .tuple #[.slice A l.length c, .int .i64 21]) (by simp [results, Tryd.results12, go_sem]) rfl ⟨A, c, rfl, hrd.out _ (by repeat (first | (with_reducible exact Below.refl _ _) | (with_reducible refine Below.drew ?_) | (with_reducible refine below_drewN ?_ _) | ((with_reducible refine Below.alloc ?_ ?_ _); rotate_left; focus ((try simp) <;> omega)) | ((with_reducible refine Below.setCell ?_ ?_ _); rotate_left; focus ((try simp) <;> omega)) | ((with_reducible refine Below.trans ?_ (Below.mono (by assumption) ?_)); rotate_left; focus ((try simp) <;> omega)))), hlc, (by repeat (first | (with_reducible exact Below.refl _ _) | (with_reducible refine Below.drew ?_) | (with_reducible refine below_drewN ?_ _) | ((with_reducible refine Below.alloc ?_ ?_ _); rotate_left; focus ((try simp) <;> omega)) | ((with_reducible refine Below.setCell ?_ ?_ _); rotate_left; focus ((try simp) <;> omega)) | ((with_reducible refine Below.trans ?_ (Below.mono (by assumption) ?_)); rotate_left; focus ((try simp) <;> omega))))⟩
    have c4 : ¬ (l.length : Int) ≥ 64 := by omega
    have hE := hE0.out (by omega)
    obtain ⟨V0, hav, hvr⟩ : ∃ V0, addV l p wt.1 = V0 ∧ (0 ≤ V0 ∧ V0 ≤ 1125899906842625000) := ⟨_, rfl, addV_range hv.out (by omega) (by omega)⟩
    obtain ⟨V, hV⟩ := as_i64 (n := V0) (by omega)
    subst hV
    rw [hav] at hE
    have hls : Hid (∀ W, Below w.heap.size w W → Calls Tryd.prog 32 #[.slice A l.length c, .int .i64 wt.1] W fun e w' => e = .returned (.int .i64 V.1) ∧ Below W.heap.size W w') := Lib.hid fun W hb => by
      rw [← hav]
      unfold addV
      rw [hfp, if_pos (by omega)]
      by_cases h0 : l.length = 0
      · rw [if_pos h0]; exact rleast_nil A c l wt.1 W h0
      · rw [if_neg h0]; exact rleast_any A c l wt.1 W (hrd.out W hb) (fun x hx => hok.out x hx) (by omega) (by omega) (by omega) hn
    by_cases c3 : V.1 > 1125899906842624
    · rw [if_pos c3] at hE
      rw [hE, add_err (by rw [hE]; decide)]
      replace hE := Lib.hid hE
      replace hav := Lib.hid hav
      replace hfp := Lib.hid hfp
      replace hpl := Lib.hid hpl
      replace hia := Lib.hid hia
      go_enter Tryd.func12, Tryd.ntmps12
      go_wp2_with (first | (go_at_call 19; go_must (refine (hva.out _ (by repeat (first | (with_reducible exact Below.refl _ _) | (with_reducible refine Below.drew ?_) | (with_reducible refine below_drewN ?_ _) | ((with_reducible refine Below.alloc ?_ ?_ _); rotate_left; focus ((try simp) <;> omega)) | ((with_reducible refine Below.setCell ?_ ?_ _); rotate_left; focus ((try simp) <;> omega)) | ((with_reducible refine Below.trans ?_ (Below.mono (by assumption) ?_)); rotate_left; focus ((try simp) <;> omega))))).mono ?_; rintro e w1 ⟨rfl, hb1⟩; have hz1 := hb1.size)) | (go_at_call 31; go_must (refine (hnm.out _).mono ?_; rintro e w2 ⟨rfl, hb2⟩; have hz2 := hb2.size)) | (go_at_call 20; go_must (refine (hfi.out _ (by repeat (first | (with_reducible exact Below.refl _ _) | (with_reducible refine Below.drew ?_) | (with_reducible refine below_drewN ?_ _) | ((with_reducible refine Below.alloc ?_ ?_ _); rotate_left; focus ((try simp) <;> omega)) | ((with_reducible refine Below.setCell ?_ ?_ _); rotate_left; focus ((try simp) <;> omega)) | ((with_reducible refine Below.trans ?_ (Below.mono (by assumption) ?_)); rotate_left; focus ((try simp) <;> omega))))).mono ?_; rintro e w3 ⟨rfl, hb3⟩; have hz3 := hb3.size; skip)) | (go_at_call 32; go_must (refine (hls.out _ (by repeat (first | (with_reducible exact Below.refl _ _) | (with_reducible refine Below.drew ?_) | (with_reducible refine below_drewN ?_ _) | ((with_reducible refine Below.alloc ?_ ?_ _); rotate_left; focus ((try simp) <;> omega)) | ((with_reducible refine Below.setCell ?_ ?_ _); rotate_left; focus ((try simp) <;> omega)) | ((with_reducible refine Below.trans ?_ (Below.mono (by assumption) ?_)); rotate_left; focus ((try simp) <;> omega))))).mono ?_; rintro e w4 ⟨rfl, hb4⟩; have hz4 := hb4.size; (try simp at hz4); obtain ⟨hc4, hf4⟩ := blk_at hb4 w3.heap.size (by (try simp) <;> omega))))
      exact bodyPost_ret (v := .tuple #[.slice A l.length c, .int .i64 15]) (by simp [results, Tryd.results12, go_sem]) rfl ⟨A, c, rfl, hrd.out _ (by repeat (first | (with_reducible exact Below.refl _ _) | (with_reducible refine Below.drew ?_) | (with_reducible refine below_drewN ?_ _) | ((with_reducible refine Below.alloc ?_ ?_ _); rotate_left; focus ((try simp) <;> omega)) | ((with_reducible refine Below.setCell ?_ ?_ _); rotate_left; focus ((try simp) <;> omega)) | ((with_reducible refine Below.trans ?_ (Below.mono (by assumption) ?_)); rotate_left; focus ((try simp) <;> omega)))), hlc, (by repeat (first | (with_reducible exact Below.refl _ _) | (with_reducible refine Below.drew ?_) | (with_reducible refine below_drewN ?_ _) | ((with_reducible refine Below.alloc ?_ ?_ _); rotate_left; focus ((try simp) <;> omega)) | ((with_reducible refine Below.setCell ?_ ?_ _); rotate_left; focus ((try simp) <;> omega)) | ((with_reducible refine Below.trans ?_ (Below.mono (by assumption) ?_)); rotate_left; focus ((try simp) <;> omega))))⟩
    · rw [if_neg c3] at hE
      have hL := add_no (V := V) hE hfp rfl hav
      rw [hE, hL]
      have hrs : Hid (∀ W, Below w.heap.size w W → Calls Tryd.prog 34 #[.slice A l.length c, .agg #[.string p.1, .int .i64 wt.1, .int .i64 V.1]] W fun e w' => ∃ v, e = .returned v ∧ Own shareE 3 39 w' W.heap.size v (l.take (plK p l) ++ ⟨p, wt, V⟩ :: l.drop (plK p l)) ∧ Below W.heap.size W w') := Lib.hid fun W hb => rinsert_any A c l ⟨p, wt, V⟩ W (hrd.out W hb) hlc hn
      obtain ⟨L, hLL⟩ : ∃ L, l.take (plK p l) ++ ⟨p, wt, V⟩ :: l.drop (plK p l) = L := ⟨_, rfl⟩
      rw [hLL] at hrs ⊢
      replace hL := Lib.hid hL
      replace hLL := Lib.hid hLL
      replace hE := Lib.hid hE
      replace hav := Lib.hid hav
      replace hfp := Lib.hid hfp
      replace hpl := Lib.hid hpl
      replace hia := Lib.hid hia
      go_enter Tryd.func12, Tryd.ntmps12
      go_wp2_with (first | (go_at_call 19; go_must (refine (hva.out _ (by repeat (first | (with_reducible exact Below.refl _ _) | (with_reducible refine Below.drew ?_) | (with_reducible refine below_drewN ?_ _) | ((with_reducible refine Below.alloc ?_ ?_ _); rotate_left; focus ((try simp) <;> omega)) | ((with_reducible refine Below.setCell ?_ ?_ _); rotate_left; focus ((try simp) <;> omega)) | ((with_reducible refine Below.trans ?_ (Below.mono (by assumption) ?_)); rotate_left; focus ((try simp) <;> omega))))).mono ?_; rintro e w1 ⟨rfl, hb1⟩; have hz1 := hb1.size)) | (go_at_call 31; go_must (refine (hnm.out _).mono ?_; rintro e w2 ⟨rfl, hb2⟩; have hz2 := hb2.size)) | (go_at_call 20; go_must (refine (hfi.out _ (by repeat (first | (with_reducible exact Below.refl _ _) | (with_reducible refine Below.drew ?_) | (with_reducible refine below_drewN ?_ _) | ((with_reducible refine Below.alloc ?_ ?_ _); rotate_left; focus ((try simp) <;> omega)) | ((with_reducible refine Below.setCell ?_ ?_ _); rotate_left; focus ((try simp) <;> omega)) | ((with_reducible refine Below.trans ?_ (Below.mono (by assumption) ?_)); rotate_left; focus ((try simp) <;> omega))))).mono ?_; rintro e w3 ⟨rfl, hb3⟩; have hz3 := hb3.size; skip)) | (go_at_call 32; go_must (refine (hls.out _ (by repeat (first | (with_reducible exact Below.refl _ _) | (with_reducible refine Below.drew ?_) | (with_reducible refine below_drewN ?_ _) | ((with_reducible refine Below.alloc ?_ ?_ _); rotate_left; focus ((try simp) <;> omega)) | ((with_reducible refine Below.setCell ?_ ?_ _); rotate_left; focus ((try simp) <;> omega)) | ((with_reducible refine Below.trans ?_ (Below.mono (by assumption) ?_)); rotate_left; focus ((try simp) <;> omega))))).mono ?_; rintro e w4 ⟨rfl, hb4⟩; have hz4 := hb4.size; (try simp at hz4); obtain ⟨hc4, hf4⟩ := blk_at hb4 w3.heap.size (by (try simp) <;> omega))))
      refine (hrs.out _ (by repeat (first | (with_reducible exact Below.refl _ _) | (with_reducible refine Below.drew ?_) | (with_reducible refine below_drewN ?_ _) | ((with_reducible refine Below.alloc ?_ ?_ _); rotate_left; focus ((try simp) <;> omega)) | ((with_reducible refine Below.setCell ?_ ?_ _); rotate_left; focus ((try simp) <;> omega)) | ((with_reducible refine Below.trans ?_ (Below.mono (by assumption) ?_)); rotate_left; focus ((try simp) <;> omega))))).mono ?_
      rintro e w6 ⟨v6, rfl, hown6, hb6⟩
      obtain ⟨A6, c6, e6, hr6, hl6⟩ := own_out hown6
      obtain ⟨N, hN⟩ : ∃ N, L.length = N := ⟨_, rfl⟩
      rw [hN] at e6
      subst e6
      replace hN := Lib.hid hN
      have hz6 := hb6.size
      (try simp at hz6)
      have hbb : Below w.heap.size w w6 := (by repeat (first | (with_reducible exact Below.refl _ _) | (with_reducible refine Below.drew ?_) | (with_reducible refine below_drewN ?_ _) | ((with_reducible refine Below.alloc ?_ ?_ _); rotate_left; focus ((try simp) <;> omega)) | ((with_reducible refine Below.setCell ?_ ?_ _); rotate_left; focus ((try simp) <;> omega)) | ((with_reducible refine Below.trans ?_ (Below.mono (by assumption) ?_)); rotate_left; focus ((try simp) <;> omega))))
      go_wp2_with fail
      exact bodyPost_ret (v := .tuple #[.slice A6 N c6, .int .i64 0]) (by simp [results, Tryd.results12, go_sem]) rfl ⟨A6, c6, by rw [hN.out], hr6, hl6, hbb⟩
end Go.Proofs.YtopicpghhpkgbaaDoor
