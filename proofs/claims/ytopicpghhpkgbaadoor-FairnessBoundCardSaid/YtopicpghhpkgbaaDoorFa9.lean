/-
  The walks of fairness: a project added, by the program and by the reference.
-/
import Derived.Test.YtopicpghhpkgbaaDoorFa8





namespace Go.Proofs.YtopicpghhpkgbaaDoor
open Go.RowKit

theorem i64_of (n : I64) : i64 n.1 = n := by unfold i64; rw [dif_pos n.2]
theorem as_i64 {n : Int} (h : -9223372036854775808 ≤ n ∧ n ≤ 9223372036854775807) : ∃ V : I64, n = V.1 := ⟨⟨n, h⟩, rfl⟩
theorem add_err {l : List Share} {p : Str} {wt : I64} (h : addE l p wt.1 ≠ 0) : addL l p wt = l := if_pos h
theorem add_yes {l : List Share} {p : Str} {wt V : I64} {k : Nat} (h : addE l p wt.1 = 0) (hk : findP p l = k) (hV : addV l p wt.1 = V.1) : addL l p wt = l.set k ⟨p, wt, V⟩ := by
  unfold addL
  rw [if_neg (by rw [h]; decide), hk, hV, if_neg (by omega), i64_of]; rfl
theorem add_no {l : List Share} {p : Str} {wt V : I64} {k : Nat} (h : addE l p wt.1 = 0) (hk : findP p l = -1) (hp : plK p l = k) (hV : addV l p wt.1 = V.1) : addL l p wt = l.take k ++ ⟨p, wt, V⟩ :: l.drop k := by
  unfold addL
  rw [if_neg (by rw [h]; decide), hk, hV, if_pos (by omega), i64_of, hp]
theorem own_out {l : List Share} {w' : World} {B : Nat} {v : Value} (h : Own shareE 3 39 w' B v l) : ∃ A c, v = .slice A l.length c ∧ Rw shareE 3 w' w'.heap.size A l ∧ l.length ≤ c := by
  obtain ⟨A, c, rfl, hc, _, _⟩ := h.form
  exact ⟨A, c, rfl, h.reads shareE_len, hc⟩

theorem own_more {α : Type} {enc : α → List Value} {k : Nat} {e : TypeId} {w : World} {B C : Nat} {v : Value} {l : List α} (h : Own enc k e w B v l) (hB : C ≤ B) : Own enc k e w C v l :=
  ⟨h.1, h.2.imp id fun ⟨g, cap, cur, a, b, r⟩ => ⟨g, cap, cur, a, by omega, r⟩⟩

set_option maxRecDepth 100000 in
set_option maxHeartbeats 8000000 in
theorem add_any (A : Option Addr) (c : Nat) (l : List Share) (p : Str) (wt : I64) (w : World) (hr : Rw shareE 3 w w.heap.size A l) (hlc : l.length ≤ c) (hn : l.length ≤ 1000000) :
    Calls Tryd.prog 11 #[.slice A l.length c, .string p.1, .int .i64 wt.1] w fun e w' => ∃ A' c', e = .returned (.tuple #[.slice A' (addL l p wt).length c', .int .i64 (addE l p wt.1)]) ∧ Rw shareE 3 w' w'.heap.size A' (addL l p wt) ∧ (addL l p wt).length ≤ c' ∧ Below w.heap.size w w' := by
  have hrd : Hid (∀ W, Below w.heap.size w W → Rw shareE 3 W W.heap.size A l) := Lib.hid fun W hb => (hr.below hb (Nat.le_refl _)).more hb.size
  have hva : Hid (∀ W, Below w.heap.size w W → Calls Tryd.prog 23 #[.slice A l.length c] W fun e w' => e = .returned (.bool (validS l)) ∧ Below W.heap.size W w') := Lib.hid fun W hb => valid_any A c l W (hrd.out W hb) (by omega)
  have hnm : Hid (∀ W, Calls Tryd.prog 24 #[.string p.1] W fun e w' => e = .returned (.bool (nameB p.1)) ∧ Below W.heap.size W w') := Lib.hid fun W => (name_any _ W p.2).mono fun _ _ h => ⟨h.1, h.2.toBelow⟩
  have hfi : Hid (∀ W, Below w.heap.size w W → Calls Tryd.prog 25 #[.slice A l.length c, .string p.1] W fun e w' => e = .returned (.tuple #[.int .i64 (atP p l : Int), .bool (isAt p l)]) ∧ Below W.heap.size W w') := Lib.hid fun W hb => find_any A c l p W (hrd.out W hb) (by omega)
  clear hr
  rcases hv : validS l with _ | _
  · have hE : addE l p wt.1 = 1 := by unfold addE; rw [if_pos hv]
    rw [hE, add_err (by rw [hE]; decide)]
    rw [hv] at hva
    go_enter Tryd.func11, Tryd.ntmps11
    go_wp2_with (go_at_call 23; go_must (refine (hva.out _ (by repeat (first | (with_reducible exact Below.refl _ _) | (with_reducible refine Below.drew ?_) | (with_reducible refine below_drewN ?_ _) | ((with_reducible refine Below.alloc ?_ ?_ _); rotate_left; focus ((try simp) <;> omega)) | ((with_reducible refine Below.setCell ?_ ?_ _); rotate_left; focus ((try simp) <;> omega)) | ((with_reducible refine Below.trans ?_ (Below.mono (by assumption) ?_)); rotate_left; focus ((try simp) <;> omega))))).mono ?_; rintro e w1 ⟨rfl, hb1⟩; have hz1 := hb1.size))
    exact bodyPost_ret (v := .tuple #[.slice A l.length c, .int .i64 1]) (by simp [results, Tryd.results11, go_sem]) rfl ⟨A, c, rfl, hrd.out _ (by repeat (first | (with_reducible exact Below.refl _ _) | (with_reducible refine Below.drew ?_) | (with_reducible refine below_drewN ?_ _) | ((with_reducible refine Below.alloc ?_ ?_ _); rotate_left; focus ((try simp) <;> omega)) | ((with_reducible refine Below.setCell ?_ ?_ _); rotate_left; focus ((try simp) <;> omega)) | ((with_reducible refine Below.trans ?_ (Below.mono (by assumption) ?_)); rotate_left; focus ((try simp) <;> omega)))), hlc, (by repeat (first | (with_reducible exact Below.refl _ _) | (with_reducible refine Below.drew ?_) | (with_reducible refine below_drewN ?_ _) | ((with_reducible refine Below.alloc ?_ ?_ _); rotate_left; focus ((try simp) <;> omega)) | ((with_reducible refine Below.setCell ?_ ?_ _); rotate_left; focus ((try simp) <;> omega)) | ((with_reducible refine Below.trans ?_ (Below.mono (by assumption) ?_)); rotate_left; focus ((try simp) <;> omega))))⟩
  rw [hv] at hva
  rcases hnb : nameB p.1 with _ | _
  · have hE : addE l p wt.1 = 10 := by unfold addE; rw [if_neg (by rw [hv]; decide), if_pos hnb]
    rw [hE, add_err (by rw [hE]; decide)]
    rw [hnb] at hnm
    go_enter Tryd.func11, Tryd.ntmps11
    go_wp2_with (first | (go_at_call 23; go_must (refine (hva.out _ (by repeat (first | (with_reducible exact Below.refl _ _) | (with_reducible refine Below.drew ?_) | (with_reducible refine below_drewN ?_ _) | ((with_reducible refine Below.alloc ?_ ?_ _); rotate_left; focus ((try simp) <;> omega)) | ((with_reducible refine Below.setCell ?_ ?_ _); rotate_left; focus ((try simp) <;> omega)) | ((with_reducible refine Below.trans ?_ (Below.mono (by assumption) ?_)); rotate_left; focus ((try simp) <;> omega))))).mono ?_; rintro e w1 ⟨rfl, hb1⟩; have hz1 := hb1.size)) | (go_at_call 24; go_must (refine (hnm.out _).mono ?_; rintro e w2 ⟨rfl, hb2⟩; have hz2 := hb2.size)))
    exact bodyPost_ret (v := .tuple #[.slice A l.length c, .int .i64 10]) (by simp [results, Tryd.results11, go_sem]) rfl ⟨A, c, rfl, hrd.out _ (by repeat (first | (with_reducible exact Below.refl _ _) | (with_reducible refine Below.drew ?_) | (with_reducible refine below_drewN ?_ _) | ((with_reducible refine Below.alloc ?_ ?_ _); rotate_left; focus ((try simp) <;> omega)) | ((with_reducible refine Below.setCell ?_ ?_ _); rotate_left; focus ((try simp) <;> omega)) | ((with_reducible refine Below.trans ?_ (Below.mono (by assumption) ?_)); rotate_left; focus ((try simp) <;> omega)))), hlc, (by repeat (first | (with_reducible exact Below.refl _ _) | (with_reducible refine Below.drew ?_) | (with_reducible refine below_drewN ?_ _) | ((with_reducible refine Below.alloc ?_ ?_ _); rotate_left; focus ((try simp) <;> omega)) | ((with_reducible refine Below.setCell ?_ ?_ _); rotate_left; focus ((try simp) <;> omega)) | ((with_reducible refine Below.trans ?_ (Below.mono (by assumption) ?_)); rotate_left; focus ((try simp) <;> omega))))⟩
  rw [hnb] at hnm
  by_cases c1 : wt.1 < 1
  · have hE : addE l p wt.1 = 2 := by unfold addE; rw [if_neg (by rw [hv]; decide), if_neg (by rw [hnb]; decide), if_pos (Or.inl c1)]
    rw [hE, add_err (by rw [hE]; decide)]
    go_enter Tryd.func11, Tryd.ntmps11
    go_wp2_with (first | (go_at_call 23; go_must (refine (hva.out _ (by repeat (first | (with_reducible exact Below.refl _ _) | (with_reducible refine Below.drew ?_) | (with_reducible refine below_drewN ?_ _) | ((with_reducible refine Below.alloc ?_ ?_ _); rotate_left; focus ((try simp) <;> omega)) | ((with_reducible refine Below.setCell ?_ ?_ _); rotate_left; focus ((try simp) <;> omega)) | ((with_reducible refine Below.trans ?_ (Below.mono (by assumption) ?_)); rotate_left; focus ((try simp) <;> omega))))).mono ?_; rintro e w1 ⟨rfl, hb1⟩; have hz1 := hb1.size)) | (go_at_call 24; go_must (refine (hnm.out _).mono ?_; rintro e w2 ⟨rfl, hb2⟩; have hz2 := hb2.size)))
    exact bodyPost_ret (v := .tuple #[.slice A l.length c, .int .i64 2]) (by simp [results, Tryd.results11, go_sem]) rfl ⟨A, c, rfl, hrd.out _ (by repeat (first | (with_reducible exact Below.refl _ _) | (with_reducible refine Below.drew ?_) | (with_reducible refine below_drewN ?_ _) | ((with_reducible refine Below.alloc ?_ ?_ _); rotate_left; focus ((try simp) <;> omega)) | ((with_reducible refine Below.setCell ?_ ?_ _); rotate_left; focus ((try simp) <;> omega)) | ((with_reducible refine Below.trans ?_ (Below.mono (by assumption) ?_)); rotate_left; focus ((try simp) <;> omega)))), hlc, (by repeat (first | (with_reducible exact Below.refl _ _) | (with_reducible refine Below.drew ?_) | (with_reducible refine below_drewN ?_ _) | ((with_reducible refine Below.alloc ?_ ?_ _); rotate_left; focus ((try simp) <;> omega)) | ((with_reducible refine Below.setCell ?_ ?_ _); rotate_left; focus ((try simp) <;> omega)) | ((with_reducible refine Below.trans ?_ (Below.mono (by assumption) ?_)); rotate_left; focus ((try simp) <;> omega))))⟩
  by_cases c2 : wt.1 > 1000
  · have hE : addE l p wt.1 = 2 := by unfold addE; rw [if_neg (by rw [hv]; decide), if_neg (by rw [hnb]; decide), if_pos (Or.inr c2)]
    rw [hE, add_err (by rw [hE]; decide)]
    go_enter Tryd.func11, Tryd.ntmps11
    go_wp2_with (first | (go_at_call 23; go_must (refine (hva.out _ (by repeat (first | (with_reducible exact Below.refl _ _) | (with_reducible refine Below.drew ?_) | (with_reducible refine below_drewN ?_ _) | ((with_reducible refine Below.alloc ?_ ?_ _); rotate_left; focus ((try simp) <;> omega)) | ((with_reducible refine Below.setCell ?_ ?_ _); rotate_left; focus ((try simp) <;> omega)) | ((with_reducible refine Below.trans ?_ (Below.mono (by assumption) ?_)); rotate_left; focus ((try simp) <;> omega))))).mono ?_; rintro e w1 ⟨rfl, hb1⟩; have hz1 := hb1.size)) | (go_at_call 24; go_must (refine (hnm.out _).mono ?_; rintro e w2 ⟨rfl, hb2⟩; have hz2 := hb2.size)))
    exact bodyPost_ret (v := .tuple #[.slice A l.length c, .int .i64 2]) (by simp [results, Tryd.results11, go_sem]) rfl ⟨A, c, rfl, hrd.out _ (by repeat (first | (with_reducible exact Below.refl _ _) | (with_reducible refine Below.drew ?_) | (with_reducible refine below_drewN ?_ _) | ((with_reducible refine Below.alloc ?_ ?_ _); rotate_left; focus ((try simp) <;> omega)) | ((with_reducible refine Below.setCell ?_ ?_ _); rotate_left; focus ((try simp) <;> omega)) | ((with_reducible refine Below.trans ?_ (Below.mono (by assumption) ?_)); rotate_left; focus ((try simp) <;> omega)))), hlc, (by repeat (first | (with_reducible exact Below.refl _ _) | (with_reducible refine Below.drew ?_) | (with_reducible refine below_drewN ?_ _) | ((with_reducible refine Below.alloc ?_ ?_ _); rotate_left; focus ((try simp) <;> omega)) | ((with_reducible refine Below.setCell ?_ ?_ _); rotate_left; focus ((try simp) <;> omega)) | ((with_reducible refine Below.trans ?_ (Below.mono (by assumption) ?_)); rotate_left; focus ((try simp) <;> omega))))⟩
  have hE0 : Hid (¬ (findP p l < 0 ∧ 64 ≤ l.length) → addE l p wt.1 = if addV l p wt.1 > 1125899906842624 then 15 else 0) := Lib.hid (fun h => by
    unfold addE; rw [if_neg (by rw [hv]; decide), if_neg (by rw [hnb]; decide), if_neg (by omega), if_neg h])
  have hE1 : Hid (findP p l < 0 ∧ 64 ≤ l.length → addE l p wt.1 = 21) := Lib.hid (fun h => by
    unfold addE; rw [if_neg (by rw [hv]; decide), if_neg (by rw [hnb]; decide), if_neg (by omega), if_pos h])
  have hasc := valid_asc hv
  have hok : Hid (∀ x ∈ l, okS x = true) := Lib.hid fun x hx => valid_ok hv hx
  have hlen := valid_len hv
  replace hv := Lib.hid hv
  replace hnb := Lib.hid hnb
  have hcl : Hid (∀ W, Below w.heap.size w W → Calls Tryd.prog 29 #[.slice A l.length c] W fun e w' => ∃ v, e = .returned v ∧ Own shareE 3 39 w' w.heap.size v l ∧ Below W.heap.size W w') := Lib.hid fun W hb => (sclone_own A c l W (hrd.out W hb) hn).mono fun _ _ ⟨v, h1, h2, h3⟩ => ⟨v, h1, own_more h2 hb.size, h3⟩
  rcases find_cases hasc p with ⟨hia, hfp, x, hx, hxp⟩ | ⟨hia, hfp, hpl, hle, hno⟩
  · generalize atP p l = k at *
    have hkl := (List.getElem?_eq_some_iff.1 hx).1
    have hxk := hok.out x (List.mem_of_getElem? hx)
    have hav : addV l p wt.1 = scaS x wt.1 := by unfold addV; rw [hfp, if_neg (by omega), Int.toNat_natCast, get_bang hx]
    obtain ⟨V, hV⟩ := as_i64 (n := scaS x wt.1) (by have := sca_range hxk (by omega : 1 ≤ wt.1) (by omega); omega)
    have hsc : Hid (∀ W, Calls Tryd.prog 26 #[.agg #[.string x.proj.1, .int .i64 x.weight.1, .int .i64 x.served.1], .int .i64 wt.1] W fun e w' => e = .returned (.int .i64 V.1) ∧ Below W.heap.size W w') := Lib.hid fun W => by rw [← hV]; exact scaled_any x wt.1 hxk (by omega) (by omega) W
    have hE := hE0.out (by omega)
    rw [hav, hV] at hE
    rw [hia] at hfi
    have hcell : Hid (∃ g o, A = some ⟨g, o, none⟩ ∧ g < w.heap.size ∧ ∀ W, Below w.heap.size w W → W.cell? ⟨g, o + k * 3, none⟩ = some (.string x.proj.1) ∧ W.cell? ⟨g, o + k * 3 + 1, none⟩ = some (.int .i64 x.weight.1) ∧ W.cell? ⟨g, o + k * 3 + 2, none⟩ = some (.int .i64 x.served.1)) := Lib.hid (by
      obtain ⟨g, o, e, hg, hq⟩ := hrd.out w (Below.refl _ _) (by omega)
      refine ⟨g, o, e, hg, fun W hb => ⟨?_, ?_, ?_⟩⟩
      · have := (hb.cell (p := ⟨g, o + k * 3 + 0, none⟩) hg).trans (hq k x hx 0 (.string x.proj.1) rfl)
        simpa using this
      · exact (hb.cell (p := ⟨g, o + k * 3 + 1, none⟩) hg).trans (hq k x hx 1 (.int .i64 x.weight.1) rfl)
      · exact (hb.cell (p := ⟨g, o + k * 3 + 2, none⟩) hg).trans (hq k x hx 2 (.int .i64 x.served.1) rfl))
    obtain ⟨g, o, rfl, hg, hq⟩ := hcell.out
    replace hq := Lib.hid hq
    have i0 : (0 : Int) ≤ (k : Int) := by omega
    have i1 : (k : Int) < (l.length : Int) := by omega
    by_cases c3 : V.1 > 1125899906842624
    · rw [if_pos c3] at hE
      rw [hE, add_err (by rw [hE]; decide)]
      replace hE := Lib.hid hE
      replace hav := Lib.hid hav
      replace hV := Lib.hid hV
      replace hfp := Lib.hid hfp
      replace hx := Lib.hid hx
      replace hia := Lib.hid hia
      replace hxp := Lib.hid hxp
      go_enter Tryd.func11, Tryd.ntmps11
      go_wp2_with (first | (go_at_call 23; go_must (refine (hva.out _ (by repeat (first | (with_reducible exact Below.refl _ _) | (with_reducible refine Below.drew ?_) | (with_reducible refine below_drewN ?_ _) | ((with_reducible refine Below.alloc ?_ ?_ _); rotate_left; focus ((try simp) <;> omega)) | ((with_reducible refine Below.setCell ?_ ?_ _); rotate_left; focus ((try simp) <;> omega)) | ((with_reducible refine Below.trans ?_ (Below.mono (by assumption) ?_)); rotate_left; focus ((try simp) <;> omega))))).mono ?_; rintro e w1 ⟨rfl, hb1⟩; have hz1 := hb1.size)) | (go_at_call 24; go_must (refine (hnm.out _).mono ?_; rintro e w2 ⟨rfl, hb2⟩; have hz2 := hb2.size)) | (go_at_call 25; go_must (refine (hfi.out _ (by repeat (first | (with_reducible exact Below.refl _ _) | (with_reducible refine Below.drew ?_) | (with_reducible refine below_drewN ?_ _) | ((with_reducible refine Below.alloc ?_ ?_ _); rotate_left; focus ((try simp) <;> omega)) | ((with_reducible refine Below.setCell ?_ ?_ _); rotate_left; focus ((try simp) <;> omega)) | ((with_reducible refine Below.trans ?_ (Below.mono (by assumption) ?_)); rotate_left; focus ((try simp) <;> omega))))).mono ?_; rintro e w3 ⟨rfl, hb3⟩; have hz3 := hb3.size; obtain ⟨q0, q1, q2⟩ := hq.out w3 (by repeat (first | (with_reducible exact Below.refl _ _) | (with_reducible refine Below.drew ?_) | (with_reducible refine below_drewN ?_ _) | ((with_reducible refine Below.alloc ?_ ?_ _); rotate_left; focus ((try simp) <;> omega)) | ((with_reducible refine Below.setCell ?_ ?_ _); rotate_left; focus ((try simp) <;> omega)) | ((with_reducible refine Below.trans ?_ (Below.mono (by assumption) ?_)); rotate_left; focus ((try simp) <;> omega)))); have hg3 : g < w3.heap.size := (by omega))) | (go_at_call 26; go_must (refine (hsc.out _).mono ?_; rintro e w4 ⟨rfl, hb4⟩; have hz4 := hb4.size; (try simp at hz4); obtain ⟨hc4, hf4⟩ := blk_at hb4 w3.heap.size (by (try simp) <;> omega))))
      exact bodyPost_ret (v := .tuple #[.slice (some ⟨g, o, none⟩) l.length c, .int .i64 15]) (by simp [results, Tryd.results11, go_sem]) rfl ⟨_, c, rfl, hrd.out _ (by repeat (first | (with_reducible exact Below.refl _ _) | (with_reducible refine Below.drew ?_) | (with_reducible refine below_drewN ?_ _) | ((with_reducible refine Below.alloc ?_ ?_ _); rotate_left; focus ((try simp) <;> omega)) | ((with_reducible refine Below.setCell ?_ ?_ _); rotate_left; focus ((try simp) <;> omega)) | ((with_reducible refine Below.trans ?_ (Below.mono (by assumption) ?_)); rotate_left; focus ((try simp) <;> omega)))), hlc, (by repeat (first | (with_reducible exact Below.refl _ _) | (with_reducible refine Below.drew ?_) | (with_reducible refine below_drewN ?_ _) | ((with_reducible refine Below.alloc ?_ ?_ _); rotate_left; focus ((try simp) <;> omega)) | ((with_reducible refine Below.setCell ?_ ?_ _); rotate_left; focus ((try simp) <;> omega)) | ((with_reducible refine Below.trans ?_ (Below.mono (by assumption) ?_)); rotate_left; focus ((try simp) <;> omega))))⟩
    · rw [if_neg c3] at hE
      have hL := add_yes (V := V) hE hfp (hav.trans hV)
      rw [hE, hL]
      replace hE := Lib.hid hE
      replace hL := Lib.hid hL
      replace hav := Lib.hid hav
      replace hV := Lib.hid hV
      replace hfp := Lib.hid hfp
      replace hx := Lib.hid hx
      replace hia := Lib.hid hia
      replace hxp := Lib.hid hxp
      go_enter Tryd.func11, Tryd.ntmps11
      go_wp2_with (first
        | (go_at_call 23; go_must (refine (hva.out _ (by repeat (first | (with_reducible exact Below.refl _ _) | (with_reducible refine Below.drew ?_) | (with_reducible refine below_drewN ?_ _) | ((with_reducible refine Below.alloc ?_ ?_ _); rotate_left; focus ((try simp) <;> omega)) | ((with_reducible refine Below.setCell ?_ ?_ _); rotate_left; focus ((try simp) <;> omega)) | ((with_reducible refine Below.trans ?_ (Below.mono (by assumption) ?_)); rotate_left; focus ((try simp) <;> omega))))).mono ?_; rintro e w1 ⟨rfl, hb1⟩; have hz1 := hb1.size)) | (go_at_call 24; go_must (refine (hnm.out _).mono ?_; rintro e w2 ⟨rfl, hb2⟩; have hz2 := hb2.size)) | (go_at_call 25; go_must (refine (hfi.out _ (by repeat (first | (with_reducible exact Below.refl _ _) | (with_reducible refine Below.drew ?_) | (with_reducible refine below_drewN ?_ _) | ((with_reducible refine Below.alloc ?_ ?_ _); rotate_left; focus ((try simp) <;> omega)) | ((with_reducible refine Below.setCell ?_ ?_ _); rotate_left; focus ((try simp) <;> omega)) | ((with_reducible refine Below.trans ?_ (Below.mono (by assumption) ?_)); rotate_left; focus ((try simp) <;> omega))))).mono ?_; rintro e w3 ⟨rfl, hb3⟩; have hz3 := hb3.size; obtain ⟨q0, q1, q2⟩ := hq.out w3 (by repeat (first | (with_reducible exact Below.refl _ _) | (with_reducible refine Below.drew ?_) | (with_reducible refine below_drewN ?_ _) | ((with_reducible refine Below.alloc ?_ ?_ _); rotate_left; focus ((try simp) <;> omega)) | ((with_reducible refine Below.setCell ?_ ?_ _); rotate_left; focus ((try simp) <;> omega)) | ((with_reducible refine Below.trans ?_ (Below.mono (by assumption) ?_)); rotate_left; focus ((try simp) <;> omega)))); have hg3 : g < w3.heap.size := (by omega))) | (go_at_call 26; go_must (refine (hsc.out _).mono ?_; rintro e w4 ⟨rfl, hb4⟩; have hz4 := hb4.size; (try simp at hz4); obtain ⟨hc4, hf4⟩ := blk_at hb4 w3.heap.size (by (try simp) <;> omega)))
        | (go_at_call 29
           go_must (refine (hcl.out _ (by repeat (first | (with_reducible exact Below.refl _ _) | (with_reducible refine Below.drew ?_) | (with_reducible refine below_drewN ?_ _) | ((with_reducible refine Below.alloc ?_ ?_ _); rotate_left; focus ((try simp) <;> omega)) | ((with_reducible refine Below.setCell ?_ ?_ _); rotate_left; focus ((try simp) <;> omega)) | ((with_reducible refine Below.trans ?_ (Below.mono (by assumption) ?_)); rotate_left; focus ((try simp) <;> omega))))).mono ?_)
           rintro e w5 ⟨v5, rfl, hown5, hb5⟩
           have hz5 := hb5.size
           (try simp at hz5)
           obtain ⟨hc5, hf5⟩ := blk_at hb5 w3.heap.size (by (try simp) <;> omega)
           obtain ⟨g5, cap, rfl⟩ : ∃ g cap, v5 = .slice (some ⟨g, 0, none⟩) l.length cap := by
            rcases hown5.2 with ⟨rfl, h⟩ | ⟨g, cap, _, rfl, _⟩
            · omega
            · exact ⟨g, cap, rfl⟩
           have hset := Lib.hid (set_row shareE_len (x := ⟨p, wt, V⟩) hown5 hkl)
           obtain ⟨hHg, _⟩ := own_block hown5
           have hs : ∀ j, j < 3 → (∃ u, w5.cell? ⟨g5, k * 3 + j, none⟩ = some u) ∧ w5.frozen? ⟨g5, k * 3 + j, none⟩ = false := fun j hj => ⟨by
             have ht : k * 3 + j < l.length * 3 := by omega
             exact ⟨_, (hown5.cellAt _ ht).trans (List.getElem?_eq_getElem (by rw [flat_len shareE_len]; exact ht))⟩, hown5.frozenAt _⟩
           obtain ⟨⟨u0, d0⟩, f0⟩ := hs 0 (by omega)
           rw [Nat.add_zero] at d0 f0
           obtain ⟨⟨u1, d1⟩, f1⟩ := hs 1 (by omega)
           obtain ⟨⟨u2, d2⟩, f2⟩ := hs 2 (by omega)
           clear hs
           have hb05 : Below w.heap.size w w5 := (by repeat (first | (with_reducible exact Below.refl _ _) | (with_reducible refine Below.drew ?_) | (with_reducible refine below_drewN ?_ _) | ((with_reducible refine Below.alloc ?_ ?_ _); rotate_left; focus ((try simp) <;> omega)) | ((with_reducible refine Below.setCell ?_ ?_ _); rotate_left; focus ((try simp) <;> omega)) | ((with_reducible refine Below.trans ?_ (Below.mono (by assumption) ?_)); rotate_left; focus ((try simp) <;> omega))))
           have hbs := below_setCells g5 hHg (shareE ⟨p, wt, V⟩) (k * 3) _ hb05
           replace hown5 := Lib.hid hown5))
      obtain ⟨A', c', hv, hrw, hlc'⟩ := own_out hset.out
      rw [List.length_set] at hv
      simp only [Value.slice.injEq] at hv
      obtain ⟨rfl, _, rfl⟩ := hv
      exact bodyPost_ret (v := .tuple #[.slice (some ⟨g5, 0, none⟩) l.length cap, .int .i64 0]) (by simp [results, Tryd.results11, go_sem]) rfl ⟨_, cap, by rw [List.length_set], hrw, hlc', hbs⟩
  · clear hno
    rw [hia] at hfi
    by_cases hfull : 64 ≤ l.length
    · have hE := hE1.out ⟨by omega, hfull⟩
      rw [hE, add_err (by rw [hE]; decide)]
      replace hE := Lib.hid hE
      replace hfp := Lib.hid hfp
      replace hpl := Lib.hid hpl
      replace hia := Lib.hid hia
      have c4 : (l.length : Int) ≥ 64 := by omega
      go_enter Tryd.func11, Tryd.ntmps11
      go_wp2_with (first | (go_at_call 23; go_must (refine (hva.out _ (by repeat (first | (with_reducible exact Below.refl _ _) | (with_reducible refine Below.drew ?_) | (with_reducible refine below_drewN ?_ _) | ((with_reducible refine Below.alloc ?_ ?_ _); rotate_left; focus ((try simp) <;> omega)) | ((with_reducible refine Below.setCell ?_ ?_ _); rotate_left; focus ((try simp) <;> omega)) | ((with_reducible refine Below.trans ?_ (Below.mono (by assumption) ?_)); rotate_left; focus ((try simp) <;> omega))))).mono ?_; rintro e w1 ⟨rfl, hb1⟩; have hz1 := hb1.size)) | (go_at_call 24; go_must (refine (hnm.out _).mono ?_; rintro e w2 ⟨rfl, hb2⟩; have hz2 := hb2.size)) | (go_at_call 25; go_must (refine (hfi.out _ (by repeat (first | (with_reducible exact Below.refl _ _) | (with_reducible refine Below.drew ?_) | (with_reducible refine below_drewN ?_ _) | ((with_reducible refine Below.alloc ?_ ?_ _); rotate_left; focus ((try simp) <;> omega)) | ((with_reducible refine Below.setCell ?_ ?_ _); rotate_left; focus ((try simp) <;> omega)) | ((with_reducible refine Below.trans ?_ (Below.mono (by assumption) ?_)); rotate_left; focus ((try simp) <;> omega))))).mono ?_; rintro e w3 ⟨rfl, hb3⟩; have hz3 := hb3.size; skip)))
      exact bodyPost_ret (v := .tuple #[.slice A l.length c, .int .i64 21]) (by simp [results, Tryd.results11, go_sem]) rfl ⟨A, c, rfl, hrd.out _ (by repeat (first | (with_reducible exact Below.refl _ _) | (with_reducible refine Below.drew ?_) | (with_reducible refine below_drewN ?_ _) | ((with_reducible refine Below.alloc ?_ ?_ _); rotate_left; focus ((try simp) <;> omega)) | ((with_reducible refine Below.setCell ?_ ?_ _); rotate_left; focus ((try simp) <;> omega)) | ((with_reducible refine Below.trans ?_ (Below.mono (by assumption) ?_)); rotate_left; focus ((try simp) <;> omega)))), hlc, (by repeat (first | (with_reducible exact Below.refl _ _) | (with_reducible refine Below.drew ?_) | (with_reducible refine below_drewN ?_ _) | ((with_reducible refine Below.alloc ?_ ?_ _); rotate_left; focus ((try simp) <;> omega)) | ((with_reducible refine Below.setCell ?_ ?_ _); rotate_left; focus ((try simp) <;> omega)) | ((with_reducible refine Below.trans ?_ (Below.mono (by assumption) ?_)); rotate_left; focus ((try simp) <;> omega))))⟩
    have c4 : ¬ (l.length : Int) ≥ 64 := by omega
    have hE := hE0.out (by omega)
    generalize atP p l = k at *
    have hins : Hid (∀ W v vb, w.heap.size ≤ W.heap.size → ∀ {y : Share}, Own shareE 3 39 W w.heap.size v l → W.heap[vb]? = some (.cells (shareE y).toArray 39 (0, 0)) → v.ownBlock ≠ some vb → Calls Tryd.prog 30 #[v, .int .i64 (k : Int), .slice (some ⟨vb, 0, none⟩) 1 1] W fun e w' => ∃ v', e = .returned v' ∧ Own shareE 3 39 w' w.heap.size v' (l.take k ++ y :: l.drop k) ∧ Below w.heap.size W w') := Lib.hid fun W v vb hB y hown hvb hne => sins_any v k l w.heap.size W hown hle y vb hvb hne hB hn
    have i0 : (0 : Int) ≤ (k : Int) := by omega
    by_cases h0 : l.length = 0
    · have hav : addV l p wt.1 = 0 := by unfold addV; rw [hfp, if_pos (by omega), if_pos h0]
      rw [hav, if_neg (by omega)] at hE
      have hL := add_no (V := ⟨0, by omega⟩) hE hfp hpl hav
      rw [hE, hL]
      have h0z : ¬ (l.length : Int) > 0 := by omega
      replace hE := Lib.hid hE
      replace hL := Lib.hid hL
      replace hav := Lib.hid hav
      replace hfp := Lib.hid hfp
      replace hpl := Lib.hid hpl
      replace hia := Lib.hid hia
      replace h0 := Lib.hid h0
      go_enter Tryd.func11, Tryd.ntmps11
      go_wp2_with (first | (go_at_call 23; go_must (refine (hva.out _ (by repeat (first | (with_reducible exact Below.refl _ _) | (with_reducible refine Below.drew ?_) | (with_reducible refine below_drewN ?_ _) | ((with_reducible refine Below.alloc ?_ ?_ _); rotate_left; focus ((try simp) <;> omega)) | ((with_reducible refine Below.setCell ?_ ?_ _); rotate_left; focus ((try simp) <;> omega)) | ((with_reducible refine Below.trans ?_ (Below.mono (by assumption) ?_)); rotate_left; focus ((try simp) <;> omega))))).mono ?_; rintro e w1 ⟨rfl, hb1⟩; have hz1 := hb1.size)) | (go_at_call 24; go_must (refine (hnm.out _).mono ?_; rintro e w2 ⟨rfl, hb2⟩; have hz2 := hb2.size)) | (go_at_call 25; go_must (refine (hfi.out _ (by repeat (first | (with_reducible exact Below.refl _ _) | (with_reducible refine Below.drew ?_) | (with_reducible refine below_drewN ?_ _) | ((with_reducible refine Below.alloc ?_ ?_ _); rotate_left; focus ((try simp) <;> omega)) | ((with_reducible refine Below.setCell ?_ ?_ _); rotate_left; focus ((try simp) <;> omega)) | ((with_reducible refine Below.trans ?_ (Below.mono (by assumption) ?_)); rotate_left; focus ((try simp) <;> omega))))).mono ?_; rintro e w3 ⟨rfl, hb3⟩; have hz3 := hb3.size; skip)))
      refine (hcl.out _ (by repeat (first | (with_reducible exact Below.refl _ _) | (with_reducible refine Below.drew ?_) | (with_reducible refine below_drewN ?_ _) | ((with_reducible refine Below.alloc ?_ ?_ _); rotate_left; focus ((try simp) <;> omega)) | ((with_reducible refine Below.setCell ?_ ?_ _); rotate_left; focus ((try simp) <;> omega)) | ((with_reducible refine Below.trans ?_ (Below.mono (by assumption) ?_)); rotate_left; focus ((try simp) <;> omega))))).mono ?_
      rintro e w5 ⟨v5, rfl, hown5, hb5⟩
      have hz5 := hb5.size
      (try simp at hz5)
      obtain ⟨hc5, hf5⟩ := blk_at hb5 w3.heap.size (by (try simp) <;> omega)
      replace hown5 := Lib.hid hown5
      go_wp2_with fail
      refine (hins.out _ v5 w5.heap.size (y := (⟨p, wt, ⟨0, by omega⟩⟩ : Share)) (by (try simp) <;> omega) (hown5.out.alloc _) (heap_alloc_new w5 _) (fun h => by have := (hown5.out.lt _ h).2; omega)).mono ?_
      rintro e w6 ⟨v6, rfl, hown6, hb6⟩
      obtain ⟨A6, c6, e6, hr6, hl6⟩ := own_out hown6
      obtain ⟨N, hN⟩ : ∃ N, (l.take k ++ (⟨p, wt, ⟨0, by omega⟩⟩ : Share) :: l.drop k).length = N := ⟨_, rfl⟩
      rw [hN] at e6
      subst e6
      replace hN := Lib.hid hN
      have hz6 := hb6.size
      (try simp at hz6)
      have hb05 : Below w.heap.size w w5 := (by repeat (first | (with_reducible exact Below.refl _ _) | (with_reducible refine Below.drew ?_) | (with_reducible refine below_drewN ?_ _) | ((with_reducible refine Below.alloc ?_ ?_ _); rotate_left; focus ((try simp) <;> omega)) | ((with_reducible refine Below.setCell ?_ ?_ _); rotate_left; focus ((try simp) <;> omega)) | ((with_reducible refine Below.trans ?_ (Below.mono (by assumption) ?_)); rotate_left; focus ((try simp) <;> omega))))
      have hbb : Below w.heap.size w w6 := (hb05.alloc (by omega) _).trans hb6
      go_wp2_with fail
      exact bodyPost_ret (v := .tuple #[.slice A6 N c6, .int .i64 0]) (by simp [results, Tryd.results11, go_sem]) rfl ⟨A6, c6, by rw [hN.out], hr6, hl6, hbb⟩
    · obtain ⟨m, hm⟩ : ∃ m, mnK lesS l (l.length - 1) = m := ⟨_, rfl⟩
      have hmk : okS m = true := by rw [← hm]; exact hok.out _ (mnK_mem _ (by omega))
      have hav : addV l p wt.1 = scaS m wt.1 := by unfold addV; rw [hfp, if_pos (by omega), if_neg h0, hm]
      obtain ⟨V, hV⟩ := as_i64 (n := scaS m wt.1) (by have := sca_range hmk (by omega : 1 ≤ wt.1) (by omega); omega)
      have hsc : Hid (∀ W, Calls Tryd.prog 26 #[.agg #[.string m.proj.1, .int .i64 m.weight.1, .int .i64 m.served.1], .int .i64 wt.1] W fun e w' => e = .returned (.int .i64 V.1) ∧ Below W.heap.size W w') := Lib.hid fun W => by rw [← hV]; exact scaled_any m wt.1 hmk (by omega) (by omega) W
      have hmn : Hid (∀ W, Below w.heap.size w W → Calls Tryd.prog 27 #[.slice A l.length c, .func (.func 28) #[] #[]] W fun e w' => e = .returned (.agg #[.string m.proj.1, .int .i64 m.weight.1, .int .i64 m.served.1]) ∧ Below W.heap.size W w') := Lib.hid fun W hb => (min_any A c l W (hrd.out W hb) (by omega) hn).mono fun _ _ ⟨m', e, h1, h2⟩ => ⟨by rw [h1, e, mnK_eq hasc _ (by omega), hm], h2⟩
      rw [hav, hV] at hE
      have h0z : (l.length : Int) > 0 := by omega
      by_cases c3 : V.1 > 1125899906842624
      · rw [if_pos c3] at hE
        rw [hE, add_err (by rw [hE]; decide)]
        replace hE := Lib.hid hE
        replace hav := Lib.hid hav
        replace hV := Lib.hid hV
        replace hfp := Lib.hid hfp
        replace hpl := Lib.hid hpl
        replace hia := Lib.hid hia
        replace hm := Lib.hid hm
        replace hmk := Lib.hid hmk
        go_enter Tryd.func11, Tryd.ntmps11
        go_wp2_with (first | (go_at_call 23; go_must (refine (hva.out _ (by repeat (first | (with_reducible exact Below.refl _ _) | (with_reducible refine Below.drew ?_) | (with_reducible refine below_drewN ?_ _) | ((with_reducible refine Below.alloc ?_ ?_ _); rotate_left; focus ((try simp) <;> omega)) | ((with_reducible refine Below.setCell ?_ ?_ _); rotate_left; focus ((try simp) <;> omega)) | ((with_reducible refine Below.trans ?_ (Below.mono (by assumption) ?_)); rotate_left; focus ((try simp) <;> omega))))).mono ?_; rintro e w1 ⟨rfl, hb1⟩; have hz1 := hb1.size)) | (go_at_call 24; go_must (refine (hnm.out _).mono ?_; rintro e w2 ⟨rfl, hb2⟩; have hz2 := hb2.size)) | (go_at_call 25; go_must (refine (hfi.out _ (by repeat (first | (with_reducible exact Below.refl _ _) | (with_reducible refine Below.drew ?_) | (with_reducible refine below_drewN ?_ _) | ((with_reducible refine Below.alloc ?_ ?_ _); rotate_left; focus ((try simp) <;> omega)) | ((with_reducible refine Below.setCell ?_ ?_ _); rotate_left; focus ((try simp) <;> omega)) | ((with_reducible refine Below.trans ?_ (Below.mono (by assumption) ?_)); rotate_left; focus ((try simp) <;> omega))))).mono ?_; rintro e w3 ⟨rfl, hb3⟩; have hz3 := hb3.size; skip)) | (go_at_call 27; go_must (refine (hmn.out _ (by repeat (first | (with_reducible exact Below.refl _ _) | (with_reducible refine Below.drew ?_) | (with_reducible refine below_drewN ?_ _) | ((with_reducible refine Below.alloc ?_ ?_ _); rotate_left; focus ((try simp) <;> omega)) | ((with_reducible refine Below.setCell ?_ ?_ _); rotate_left; focus ((try simp) <;> omega)) | ((with_reducible refine Below.trans ?_ (Below.mono (by assumption) ?_)); rotate_left; focus ((try simp) <;> omega))))).mono ?_; rintro e w7 ⟨rfl, hb7⟩; have hz7 := hb7.size; (try simp at hz7); obtain ⟨hc7, hf7⟩ := blk_at hb7 w3.heap.size (by (try simp) <;> omega))) | (go_at_call 26; go_must (refine (hsc.out _).mono ?_; rintro e w4 ⟨rfl, hb4⟩; have hz4 := hb4.size; (try simp at hz4); obtain ⟨hc4, hf4⟩ := blk_at hb4 w3.heap.size (by (try simp) <;> omega))))
        exact bodyPost_ret (v := .tuple #[.slice A l.length c, .int .i64 15]) (by simp [results, Tryd.results11, go_sem]) rfl ⟨A, c, rfl, hrd.out _ (by repeat (first | (with_reducible exact Below.refl _ _) | (with_reducible refine Below.drew ?_) | (with_reducible refine below_drewN ?_ _) | ((with_reducible refine Below.alloc ?_ ?_ _); rotate_left; focus ((try simp) <;> omega)) | ((with_reducible refine Below.setCell ?_ ?_ _); rotate_left; focus ((try simp) <;> omega)) | ((with_reducible refine Below.trans ?_ (Below.mono (by assumption) ?_)); rotate_left; focus ((try simp) <;> omega)))), hlc, (by repeat (first | (with_reducible exact Below.refl _ _) | (with_reducible refine Below.drew ?_) | (with_reducible refine below_drewN ?_ _) | ((with_reducible refine Below.alloc ?_ ?_ _); rotate_left; focus ((try simp) <;> omega)) | ((with_reducible refine Below.setCell ?_ ?_ _); rotate_left; focus ((try simp) <;> omega)) | ((with_reducible refine Below.trans ?_ (Below.mono (by assumption) ?_)); rotate_left; focus ((try simp) <;> omega))))⟩
      · rw [if_neg c3] at hE
        have hL := add_no (V := V) hE hfp hpl (hav.trans hV)
        rw [hE, hL]
        replace hL := Lib.hid hL
        replace hE := Lib.hid hE
        replace hav := Lib.hid hav
        replace hV := Lib.hid hV
        replace hfp := Lib.hid hfp
        replace hpl := Lib.hid hpl
        replace hia := Lib.hid hia
        replace hm := Lib.hid hm
        replace hmk := Lib.hid hmk
        go_enter Tryd.func11, Tryd.ntmps11
        go_wp2_with (first | (go_at_call 23; go_must (refine (hva.out _ (by repeat (first | (with_reducible exact Below.refl _ _) | (with_reducible refine Below.drew ?_) | (with_reducible refine below_drewN ?_ _) | ((with_reducible refine Below.alloc ?_ ?_ _); rotate_left; focus ((try simp) <;> omega)) | ((with_reducible refine Below.setCell ?_ ?_ _); rotate_left; focus ((try simp) <;> omega)) | ((with_reducible refine Below.trans ?_ (Below.mono (by assumption) ?_)); rotate_left; focus ((try simp) <;> omega))))).mono ?_; rintro e w1 ⟨rfl, hb1⟩; have hz1 := hb1.size)) | (go_at_call 24; go_must (refine (hnm.out _).mono ?_; rintro e w2 ⟨rfl, hb2⟩; have hz2 := hb2.size)) | (go_at_call 25; go_must (refine (hfi.out _ (by repeat (first | (with_reducible exact Below.refl _ _) | (with_reducible refine Below.drew ?_) | (with_reducible refine below_drewN ?_ _) | ((with_reducible refine Below.alloc ?_ ?_ _); rotate_left; focus ((try simp) <;> omega)) | ((with_reducible refine Below.setCell ?_ ?_ _); rotate_left; focus ((try simp) <;> omega)) | ((with_reducible refine Below.trans ?_ (Below.mono (by assumption) ?_)); rotate_left; focus ((try simp) <;> omega))))).mono ?_; rintro e w3 ⟨rfl, hb3⟩; have hz3 := hb3.size; skip)) | (go_at_call 27; go_must (refine (hmn.out _ (by repeat (first | (with_reducible exact Below.refl _ _) | (with_reducible refine Below.drew ?_) | (with_reducible refine below_drewN ?_ _) | ((with_reducible refine Below.alloc ?_ ?_ _); rotate_left; focus ((try simp) <;> omega)) | ((with_reducible refine Below.setCell ?_ ?_ _); rotate_left; focus ((try simp) <;> omega)) | ((with_reducible refine Below.trans ?_ (Below.mono (by assumption) ?_)); rotate_left; focus ((try simp) <;> omega))))).mono ?_; rintro e w7 ⟨rfl, hb7⟩; have hz7 := hb7.size; (try simp at hz7); obtain ⟨hc7, hf7⟩ := blk_at hb7 w3.heap.size (by (try simp) <;> omega))) | (go_at_call 26; go_must (refine (hsc.out _).mono ?_; rintro e w4 ⟨rfl, hb4⟩; have hz4 := hb4.size; (try simp at hz4); obtain ⟨hc4, hf4⟩ := blk_at hb4 w3.heap.size (by (try simp) <;> omega))))
        refine (hcl.out _ (by repeat (first | (with_reducible exact Below.refl _ _) | (with_reducible refine Below.drew ?_) | (with_reducible refine below_drewN ?_ _) | ((with_reducible refine Below.alloc ?_ ?_ _); rotate_left; focus ((try simp) <;> omega)) | ((with_reducible refine Below.setCell ?_ ?_ _); rotate_left; focus ((try simp) <;> omega)) | ((with_reducible refine Below.trans ?_ (Below.mono (by assumption) ?_)); rotate_left; focus ((try simp) <;> omega))))).mono ?_
        rintro e w5 ⟨v5, rfl, hown5, hb5⟩
        have hz5 := hb5.size
        (try simp at hz5)
        obtain ⟨hc5, hf5⟩ := blk_at hb5 w3.heap.size (by (try simp) <;> omega)
        replace hown5 := Lib.hid hown5
        go_wp2_with fail
        refine (hins.out _ v5 w5.heap.size (y := (⟨p, wt, V⟩ : Share)) (by (try simp) <;> omega) (hown5.out.alloc _) (heap_alloc_new w5 _) (fun h => by have := (hown5.out.lt _ h).2; omega)).mono ?_
        rintro e w6 ⟨v6, rfl, hown6, hb6⟩
        obtain ⟨A6, c6, e6, hr6, hl6⟩ := own_out hown6
        obtain ⟨N, hN⟩ : ∃ N, (l.take k ++ (⟨p, wt, V⟩ : Share) :: l.drop k).length = N := ⟨_, rfl⟩
        rw [hN] at e6
        subst e6
        replace hN := Lib.hid hN
        have hz6 := hb6.size
        (try simp at hz6)
        have hb05 : Below w.heap.size w w5 := (by repeat (first | (with_reducible exact Below.refl _ _) | (with_reducible refine Below.drew ?_) | (with_reducible refine below_drewN ?_ _) | ((with_reducible refine Below.alloc ?_ ?_ _); rotate_left; focus ((try simp) <;> omega)) | ((with_reducible refine Below.setCell ?_ ?_ _); rotate_left; focus ((try simp) <;> omega)) | ((with_reducible refine Below.trans ?_ (Below.mono (by assumption) ?_)); rotate_left; focus ((try simp) <;> omega))))
        have hbb : Below w.heap.size w w6 := (hb05.alloc (by omega) _).trans hb6
        go_wp2_with fail
        exact bodyPost_ret (v := .tuple #[.slice A6 N c6, .int .i64 0]) (by simp [results, Tryd.results11, go_sem]) rfl ⟨A6, c6, by rw [hN.out], hr6, hl6, hbb⟩
end Go.Proofs.YtopicpghhpkgbaaDoor
