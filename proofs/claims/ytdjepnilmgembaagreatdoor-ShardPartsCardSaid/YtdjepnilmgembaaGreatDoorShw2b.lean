/-
  The walks of shards: the median, times and loads by the reference.
-/
import Derived.Test.YtdjepnilmgembaaGreatDoorShw2


namespace Go.Proofs.YtdjepnilmgembaaGreatDoor
open Go.RowKit

theorem rlimit5_any (n : I64) (w : World) : Calls Tryz.prog 45 #[.int .i64 n.1] w fun e w' => e = .returned (.int .i64 (limI n).1) ∧ w = w' := by
  have h : (limI n).1 = max 0 (min n.1 1125899906842624) := rfl
  rw [h]
  clear h
  obtain ⟨n, h1, h2⟩ := n
  go_enter Tryz.func45, Tryz.ntmps45
  go_wp2
  all_goals
    go_ret
    refine ⟨ret_int ?_, rfl⟩
    (try simp only at *)
    omega
theorem rlimit_any (n : I64) (w : World) : Calls Tryz.prog 23 #[.int .i64 n.1] w fun e w' => e = .returned (.int .i64 (limI n).1) ∧ w = w' := by
  go_enter Tryz.func23, Tryz.ntmps23
  go_wp2_with (go_at_call 45; go_must (refine (rlimit5_any _ _).mono ?_; rintro e w' ⟨rfl, rfl⟩))
  go_ret
  exact ⟨rfl, rfl⟩
set_option maxRecDepth 100000 in
set_option maxHeartbeats 1000000 in
theorem rmedt_any (A : Option Addr) (c : Nat) (l : List Tm) (w : World) (hr : Rw tmE 2 w w.heap.size A l) (hn : l.length ≤ 1000000) :
    Calls Tryz.prog 11 #[.slice A l.length c] w fun e w' => e = .returned (.int .i64 (medT l)) ∧ Below w.heap.size w w' := by
  obtain ⟨inf, hi0, iz0, iz1, iz2⟩ := info_parts int_info
  have hrd := Lib.hid hr
  clear hr
  have hR0 : Hid (medT l = max 1 (medI (valI (limsT l)))) := Lib.hid (by unfold medT; rw [lims_val])
  go_enter Tryz.func11, Tryz.ntmps11
  go_wp2_with fail
  go_loopw [3, 4] (fun vo vi wr => ∃ k : Nat, k ≤ l.length ∧ vi = .int .i64 (k : Int) ∧ Own iE 1 3 wr w.heap.size vo (limsT (l.take k)) ∧ Below w.heap.size w wr) (fun _ vi _ => l.length - (intOf vi).toNat)
  case atStart => exact ⟨0, Nat.zero_le _, rfl, Own.nil _ _ _, (by repeat (first | (with_reducible exact Below.refl _ _) | (with_reducible refine Below.drew ?_) | (with_reducible refine below_drewN ?_ _) | ((with_reducible refine Below.alloc ?_ ?_ _); rotate_left; focus ((try simp) <;> omega)) | ((with_reducible refine Below.setCell ?_ ?_ _); rotate_left; focus ((try simp) <;> omega)) | ((with_reducible refine Below.trans ?_ (Below.mono (by assumption) ?_)); rotate_left; focus ((try simp) <;> omega))))⟩
  case round =>
    obtain ⟨k, hk, rfl, hown, hbw⟩ := hrel
    have hz := hbw.size
    have hvlt := Lib.hid hown.lt
    have htl : (limsT (l.take k)).length = k := by unfold limsT; rw [List.length_map, List.length_take]; omega
    by_cases hkl : k < l.length
    · obtain ⟨s, hs⟩ := get_some hkl
      obtain ⟨g, o, rfl, hg, hq⟩ := hrd.out (by omega)
      have q1 := (hbw.cell (p := ⟨g, o + k * 2 + 1, none⟩) hg).trans (hq k s hs 1 (.int .i64 s.time.1) rfl)
      clear hq
      have i0 : (0 : Int) ≤ (k : Int) := by omega
      have i1 : (k : Int) < (l.length : Int) := by omega
      have hnx : Hid (limsT (l.take (k + 1)) = limsT (l.take k) ++ [limI s.time]) := Lib.hid (by unfold limsT; rw [List.take_add_one, hs, List.map_append]; rfl)
      have htl1 := Nat.le_of_eq htl
      replace htl := Lib.hid htl
      replace hs := Lib.hid hs
      replace hown := Lib.hid hown
      go_wp2_with (first
        | (go_at_call 23; go_must (refine (rlimit_any _ _).mono ?_; rintro e w2 ⟨rfl, rfl⟩))
        | (at_builtin
           refine wpList_append_rw _ rfl (.tmp 11) (.tmp 18) _ rfl iE_len iE_one w.heap.size 3 inf _ 8 Tryz.underlying46 hi0 iz0 iz1 iz2 rfl (by omega) _ (limsT (l.take k)) rfl (hown.out.alloc _) _ (some ⟨wr.heap.size, 0, none⟩) 1 1 [limI s.time] rfl rfl (rw_int1 rfl (Nat.lt_succ_self _)) ?_ ?_ ?_ ?_
           · (try simp [maxLen]) <;> omega
           · (try simp) <;> omega
           · (try simp) <;> omega
           intro v4 w4 hown4 hg4 hat4
           have hz4 := hg4.size))
      go_roundw
      case rel => exact ⟨k + 1, hkl, by go_num, by rw [hnx.out]; exact hown4, Below.grown (hbw.trans (Below.mono (B := wr.heap.size) (by repeat (first | (with_reducible exact Below.refl _ _) | (with_reducible refine Below.drew ?_) | (with_reducible refine below_drewN ?_ _) | ((with_reducible refine Below.alloc ?_ ?_ _); rotate_left; focus ((try simp) <;> omega)) | ((with_reducible refine Below.setCell ?_ ?_ _); rotate_left; focus ((try simp) <;> omega)) | ((with_reducible refine Below.trans ?_ (Below.mono (by assumption) ?_)); rotate_left; focus ((try simp) <;> omega)))) (by omega))) hg4 (by (try simp) <;> omega) (fun q hq => (hvlt.out q hq).1)⟩
      case measure => simp [intOf]; omega
    · have i1 : ¬ (k : Int) < (l.length : Int) := by omega
      obtain rfl : k = l.length := by omega
      rw [List.take_length] at hown htl
      obtain ⟨A2, c2, hv, hc2, _, _⟩ := hown.form
      rw [htl] at hv
      subst hv
      have hm0 := fun W (hb : Below wr.heap.size wr W) => rmedian_any A2 c2 (limsT l) W (((hown.reads iE_len).below hb (Nat.le_refl _)).more hb.size) (by omega)
      rw [htl] at hm0
      obtain ⟨R, hR⟩ : ∃ R, medI (valI (limsT l)) = R := ⟨_, rfl⟩
      rw [hR] at hm0 hR0
      have hmd := Lib.hid hm0
      clear hm0 hc2
      replace hown := Lib.hid hown
      replace htl := Lib.hid htl
      replace hR := Lib.hid hR
      go_wp2_with (go_at_call 24; go_must (refine (hmd.out _ (Below.refl _ _)).mono ?_; rintro e w5 ⟨rfl, hb5⟩))
      go_ret
      exact ⟨by rw [hR0.out]; rfl, hbw.trans (hb5.mono hz)⟩

theorem time_nil (m : Int) (s : Str) : timeT [] m s = m := rfl
theorem time_yes {l : List Tm} {k : Nat} {t : Tm} (m : Int) {s : Str} (h : l[k]? = some t) (e : t.name = s) : timeT (l.drop k) m s = limT t.time.1 := by
  obtain ⟨hk, rfl⟩ := List.getElem?_eq_some_iff.1 h
  rw [List.drop_eq_getElem_cons hk]
  unfold timeT
  rw [List.find?_cons_of_pos (by simpa using e)]
theorem time_no {l : List Tm} {k : Nat} {t : Tm} (m : Int) {s : Str} (h : l[k]? = some t) (e : t.name ≠ s) : timeT (l.drop k) m s = timeT (l.drop (k + 1)) m s := by
  obtain ⟨hk, rfl⟩ := List.getElem?_eq_some_iff.1 h
  rw [List.drop_eq_getElem_cons hk]
  unfold timeT
  rw [List.find?_cons_of_neg (by simpa using e)]
set_option maxRecDepth 100000 in
set_option maxHeartbeats 1000000 in
theorem rtimet_any (A : Option Addr) (c : Nat) (l : List Tm) (s : Str) (m : Int) (w : World) (hr : Rw tmE 2 w w.heap.size A l) (hn : l.length ≤ 9223372036854775807) :
    Calls Tryz.prog 28 #[.string s.1, .slice A l.length c, .int .i64 m] w fun e w' => e = .returned (.int .i64 (timeT l m s)) ∧ w = w' := by
  have hrd := Lib.hid hr
  clear hr
  obtain ⟨R, hR⟩ : ∃ R, timeT l m s = R := ⟨_, rfl⟩
  rw [hR]
  replace hR := Lib.hid hR
  go_enter Tryz.func28, Tryz.ntmps28
  go_wp2_with fail
  go_loop [7] (fun vi => ∃ k : Nat, k ≤ l.length ∧ vi = .int .i64 (k : Int) ∧ timeT (l.drop k) m s = R) (fun vi => l.length - (intOf vi).toNat)
  case atStart => exact ⟨0, Nat.zero_le _, rfl, hR.out⟩
  case round =>
    obtain ⟨k, hk, rfl, ht⟩ := hrel
    replace ht := Lib.hid ht
    by_cases hkl : k < l.length
    · obtain ⟨t, hx⟩ := get_some hkl
      obtain ⟨g, o, rfl, hg, hq⟩ := hrd.out (by omega)
      have q0 := hq k t hx 0 (.string t.name.1) rfl
      rw [Nat.add_zero] at q0
      have q1 := hq k t hx 1 (.int .i64 t.time.1) rfl
      clear hq
      have i0 : (0 : Int) ≤ (k : Int) := by omega
      have i1 : (k : Int) < (l.length : Int) := by omega
      by_cases hxy : t.name = s
      · have t1 := str_eqq hxy
        have hf : Hid ((limI t.time).1 = R) := Lib.hid ((time_yes m hx hxy).symm.trans ht.out)
        replace hx := Lib.hid hx
        replace hxy := Lib.hid hxy
        go_wp2_with (go_at_call 23; go_must (refine (rlimit_any _ _).mono ?_; rintro e w2 ⟨rfl, rfl⟩))
        go_ret
        exact ⟨ret_int hf.out, rfl⟩
      · have t1 := str_neq hxy
        have hf : Hid (timeT (l.drop (k + 1)) m s = R) := Lib.hid ((time_no m hx hxy).symm.trans ht.out)
        replace hx := Lib.hid hx
        replace hxy := Lib.hid hxy
        go_wp2_with fail
        go_round
        case rel => exact ⟨k + 1, hkl, by go_num, hf.out⟩
        case measure => simp [intOf]; omega
    · have i1 : ¬ (k : Int) < (l.length : Int) := by omega
      have hf : Hid (m = R) := Lib.hid (by rw [← ht.out, List.drop_eq_nil_of_le (by omega)]; rfl)
      go_wp2_with fail
      go_ret
      exact ⟨ret_int hf.out, rfl⟩
/-- Sums of times that are not too great. -/
theorem rsum_small (a b : Int) (a1 : 0 ≤ a) (b1 : 0 ≤ b) (h : a + b ≤ 9223372036854775807) (w : World) :
    Calls Tryz.prog 27 #[.int .i64 a, .int .i64 b] w fun e w' => e = .returned (.int .i64 (a + b)) ∧ w = w' := by
  go_enter Tryz.func27, Tryz.ntmps27
  go_wp2_with fail
  all_goals
    go_ret
    refine ⟨ret_int ?_, rfl⟩
    omega
theorem sum_small (a b : Int) (a1 : 0 ≤ a) (b1 : 0 ≤ b) (h : a + b ≤ 9223372036854775807) (w : World) :
    Calls Tryz.prog 26 #[.int .i64 a, .int .i64 b] w fun e w' => e = .returned (.int .i64 (a + b)) ∧ w = w' := by
  have d1 : decide (a < 0) = false := by simp; omega
  have d2 : decide (b < 0) = false := by simp; omega
  have d3 : decide (a + b < 0) = false := by simp; omega
  go_enter Tryz.func26, Tryz.ntmps26
  go_wp2_with fail
  go_ret
  exact ⟨rfl, rfl⟩
theorem sumt_take {t : Str → Int} {l : List Str} {k : Nat} {s : Str} (h : l[k]? = some s) : sumT t (l.take (k + 1)) = sumT t (l.take k) + t s := by
  rw [List.take_add_one, h]
  exact sum_snoc t _ s
theorem load_take (l : List Str) (ts : List Tm) (k : Nat) (hk : k ≤ 1000) : 0 ≤ sumT (clockT ts) (l.take k) ∧ sumT (clockT ts) (l.take k) ≤ 1125899906842624000 := by
  have h := load_in (l.take k) ts
  unfold loadT at h
  have : (l.take k).length ≤ 1000 := by rw [List.length_take]; omega
  omega
set_option maxRecDepth 100000 in
set_option maxHeartbeats 1000000 in
theorem rload_any (A B : Option Addr) (c d : Nat) (l : List Str) (ts : List Tm) (w : World) (hr : Rw sE 1 w w.heap.size A l) (hl : l.length ≤ 1000) (ht : Rw tmE 2 w w.heap.size B ts) (hn : ts.length ≤ 1000000) :
    Calls Tryz.prog 13 #[.slice A l.length c, .slice B ts.length d] w fun e w' => e = .returned (.int .i64 (loadT l ts)) ∧ Below w.heap.size w w' := by
  have hmd : Hid (∀ W, Below w.heap.size w W → Calls Tryz.prog 11 #[.slice B ts.length d] W fun e w' => e = .returned (.int .i64 (medT ts)) ∧ Below W.heap.size W w') := Lib.hid fun W hb => rmedt_any B d ts W ((ht.below hb (Nat.le_refl _)).more hb.size) hn
  have htm : Hid (∀ (s : Str) W, Below w.heap.size w W → Calls Tryz.prog 28 #[.string s.1, .slice B ts.length d, .int .i64 (medT ts)] W fun e w' => e = .returned (.int .i64 (clockT ts s)) ∧ W = w') := Lib.hid fun s W hb => rtimet_any B d ts s (medT ts) W ((ht.below hb (Nat.le_refl _)).more hb.size) (by omega)
  have hti := Lib.hid (time_in ts)
  have hlt := Lib.hid (load_take l ts)
  have hrd := Lib.hid hr
  have hfin : Hid (sumT (clockT ts) l = loadT l ts) := Lib.hid rfl
  have hsn := Lib.hid (fun (k : Nat) (s : Str) (h : l[k]? = some s) => sumt_take (t := clockT ts) h)
  clear hr ht
  generalize medT ts = M at hmd htm
  obtain ⟨R, hR⟩ : ∃ R, loadT l ts = R := ⟨_, rfl⟩
  rw [hR] at hfin ⊢
  replace hR := Lib.hid hR
  generalize clockT ts = ck at htm hti hlt hfin hsn
  go_enter Tryz.func13, Tryz.ntmps13
  go_wp2_with (go_at_call 11; go_must (refine (hmd.out _ (Below.refl _ _)).mono ?_; rintro e w2 ⟨rfl, hb2⟩))
  have hz2 := hb2.size
  go_loop [5, 7] (fun vs vi => ∃ k : Nat, k ≤ l.length ∧ vi = .int .i64 (k : Int) ∧ vs = .int .i64 (sumT ck (l.take k))) (fun _ vi => l.length - (intOf vi).toNat)
  case atStart => exact ⟨0, Nat.zero_le _, rfl, rfl⟩
  case round =>
    obtain ⟨k, hk, rfl, rfl⟩ := hrel
    by_cases hkl : k < l.length
    · obtain ⟨s, hs⟩ := get_some hkl
      obtain ⟨g, o, rfl, hg, hq⟩ := hrd.out (by omega)
      have q0 := (hb2.cell (p := ⟨g, o + k * 1 + 0, none⟩) hg).trans (hq k s hs 0 (.string s.1) rfl)
      rw [Nat.add_zero, Nat.mul_one] at q0
      clear hq
      have i0 : (0 : Int) ≤ (k : Int) := by omega
      have i1 : (k : Int) < (l.length : Int) := by omega
      have hn1 := hsn.out k s hs
      obtain ⟨l1, l2⟩ := hlt.out k (by omega)
      obtain ⟨l3, l4⟩ := hti.out s
      have hts0 := htm.out s _ hb2
      obtain ⟨C, hC⟩ : ∃ C, ck s = C := ⟨_, rfl⟩
      obtain ⟨S, hS⟩ : ∃ S, sumT ck (l.take k) = S := ⟨_, rfl⟩
      rw [hC] at hts0 hn1 l3 l4
      rw [hS] at hn1 l1 l2 ⊢
      have hts := Lib.hid hts0
      clear hts0
      replace hn1 := Lib.hid hn1
      replace hC := Lib.hid hC
      replace hS := Lib.hid hS
      replace hs := Lib.hid hs
      go_wp2_with (first
        | (go_at_call 28; go_must (refine hts.out.mono ?_; rintro e w4 ⟨rfl, rfl⟩))
        | (go_at_call 27; go_must (refine (rsum_small _ _ l1 l3 (by omega) _).mono ?_; rintro e w4 ⟨rfl, rfl⟩)))
      go_round
      case rel => exact ⟨k + 1, hkl, by go_num, by rw [hn1.out]⟩
      case measure => simp [intOf]; omega
    · have i1 : ¬ (k : Int) < (l.length : Int) := by omega
      have hf : Hid (sumT ck (l.take k) = R) := Lib.hid (by rw [List.take_of_length_le (by omega)]; exact hfin.out)
      go_wp2_with fail
      go_ret
      exact ⟨ret_int hf.out, hb2⟩
end Go.Proofs.YtdjepnilmgembaaGreatDoor
