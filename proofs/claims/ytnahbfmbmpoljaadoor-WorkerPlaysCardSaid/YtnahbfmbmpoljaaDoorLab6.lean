/-
  The walks of labels: a requirement read, by the reference.
-/
import Derived.Test.YtnahbfmbmpoljaaDoorLab5


namespace Go.Proofs.YtnahbfmbmpoljaaDoor
open Go.RowKit

set_option maxRecDepth 100000 in
set_option maxHeartbeats 4000000 in
theorem rdigits_any (s : ByteArray) (w : World) (hs : s.size ≤ 9223372036854775807) : Calls Tryd.prog 101 #[.string s] w fun e w' => e = .returned (.tuple #[.int .i64 (numL s.toList), .bool (okD s.toList)]) ∧ w = w' := by
  have hlen := toList_len s
  rcases hp : preD s.toList with _ | _
  · obtain ⟨e1, e2⟩ := num_bad (Or.inl hp)
    rw [e1, e2]
    by_cases h0 : s.size = 0
    · have hem : s.toList.isEmpty = true := (empty_iff s).2 h0
      replace hp := Lib.hid hp
      replace hlen := Lib.hid hlen
      replace h0 := Lib.hid h0
      go_enter Tryd.func101, Tryd.ntmps101
      go_wp2_with fail
      exact bodyPost_ret (v := .tuple #[.int .i64 0, .bool false]) (by simp [results, Tryd.results101, go_sem]) rfl ⟨rfl, rfl⟩
    have hem : s.toList.isEmpty = false := by rw [← Bool.not_eq_true, empty_iff]; exact h0
    by_cases h16 : s.size > 16
    · have h16z : (s.size : Int) > 16 := by omega
      replace hp := Lib.hid hp
      replace hlen := Lib.hid hlen
      go_enter Tryd.func101, Tryd.ntmps101
      go_wp2_with fail
      exact bodyPost_ret (v := .tuple #[.int .i64 0, .bool false]) (by simp [results, Tryd.results101, go_sem]) rfl ⟨rfl, rfl⟩
    have h16z : ¬ (s.size : Int) > 16 := by omega
    have hz := (head_get s (by omega)).2
    have hh : 1 < s.size ∧ s[0] = 48 := by
      unfold preD at hp
      rw [hem, hlen, decide_eq_true (by omega), hz] at hp
      simpa using hp
    have h1z : (s.size : Int) > 1 := by omega
    have h48 : (s[0].toNat : Int) = 48 := by rw [hh.2]; rfl
    have i1 : (0 : Int) < (s.size : Int) := by omega
    replace hh := Lib.hid hh
    replace hp := Lib.hid hp
    replace hlen := Lib.hid hlen
    replace hz := Lib.hid hz
    go_enter Tryd.func101, Tryd.ntmps101
    go_wp2_with fail
    exact bodyPost_ret (v := .tuple #[.int .i64 0, .bool false]) (by simp [results, Tryd.results101, go_sem]) rfl ⟨rfl, rfl⟩
  · obtain ⟨p0, p16⟩ := preD_small hp
    rw [hlen] at p0 p16
    have hem : s.toList.isEmpty = false := by rw [← Bool.not_eq_true, empty_iff]; omega
    have hz := (head_get s (by omega)).2
    have h16z : ¬ (s.size : Int) > 16 := by omega
    have hh : Hid (1 < s.size → ¬ s[0] = 48) := Lib.hid fun h1 e => by
      unfold preD at hp
      rw [hem, hlen, decide_eq_true (by omega), hz, e, decide_eq_true h1] at hp
      simp at hp
    replace hlen := Lib.hid hlen
    replace hz := Lib.hid hz
    replace hp := Lib.hid hp
    by_cases h1 : 1 < s.size
    · have h1z : (s.size : Int) > 1 := by omega
      have h48 : ¬ (s[0].toNat : Int) = 48 := by
        have := hh.out h1
        intro e
        exact this (by rw [← UInt8.toNat_inj]; show s[0].toNat = 48; omega)
      have i1 : (0 : Int) < (s.size : Int) := by omega
      go_enter Tryd.func101, Tryd.ntmps101
      go_wp2_with fail
      go_loop [4, 5] (fun vn vi => ∃ k : Nat, k ≤ s.size ∧ vn = .int .i64 (valL (s.toList.take k) : Int) ∧ vi = .int .i64 (k : Int) ∧ (s.toList.take k).all Id.dig = true) (fun _ vi => s.size - (intOf vi).toNat)
      case atStart => exact ⟨0, Nat.zero_le _, rfl, rfl, rfl⟩
      case round =>
        obtain ⟨k, hk, rfl, rfl, ht⟩ := hrel
        have hv := val_lt k (s.toList.take k) (by rw [List.length_take, hlen.out]; omega) ht
        have hv2 : 10 ^ k ≤ 10 ^ 16 := Nat.pow_le_pow_right (by omega) (by omega)
        have hv3 : valL (s.toList.take k) < 10000000000000000 := by omega
        clear hv hv2
        by_cases hks : k < s.size
        · have i0 : (0 : Int) ≤ (k : Int) := by omega
          have i1 : (k : Int) < (s.size : Int) := by omega
          have hget := toList_get s k hks
          have hsn : Hid (s.toList.take (k + 1) = s.toList.take k ++ [s[k]]) := Lib.hid (by rw [List.take_add_one, hget]; rfl)
          obtain ⟨n, hn⟩ : ∃ n, valL (s.toList.take k) = n := ⟨_, rfl⟩
          rw [hn] at hv3 ⊢
          replace ht := Lib.hid ht
          replace hget := Lib.hid hget
          obtain ⟨c, hc⟩ : ∃ c, s[k].toNat = c := ⟨_, rfl⟩
          have hc8 : c < 256 := by rw [← hc]; exact UInt8.toNat_lt _
          by_cases hd : 48 ≤ c ∧ c ≤ 57
          · have d1 : ¬ (c : Int) < 48 := by omega
            have d2 : ¬ (c : Int) > 57 := by omega
            have hw1 : IntKind.u8.wrap ((c : Int) - 48) = ((c - 48 : Nat) : Int) := by
              rw [show (c : Int) - 48 = ((c - 48 : Nat) : Int) by omega]
              simp [IntKind.wrap, IntKind.bits, IntKind.signed]; omega
            obtain ⟨m, hm⟩ : ∃ m, c - 48 = m := ⟨_, rfl⟩
            rw [hm] at hw1
            have hm9 : m ≤ 9 := by omega
            have hw2 : IntKind.i64.wrap (10 * (n : Int)) = 10 * (n : Int) := IntWalk.i64_in _ (by omega)
            have hw3 : IntKind.i64.wrap (10 * (n : Int) + (m : Int)) = 10 * (n : Int) + (m : Int) := IntWalk.i64_in _ (by omega)
            have hw4 : IntKind.i64.wrap (m : Int) = (m : Int) := IntWalk.i64_in _ (by omega)
            have hdg : Hid (Id.dig s[k] = true) := Lib.hid (by unfold Id.dig; rw [hc]; simp; omega)
            have hnx : Hid (valL (s.toList.take (k + 1)) = 10 * n + m) := Lib.hid (by rw [hsn.out, val_snoc, hn, hc, hm])
            replace hn := Lib.hid hn
            replace hm := Lib.hid hm
            go_wp2_with fail
            go_round
            case rel => exact ⟨k + 1, by omega, by rw [hnx.out]; go_num, by go_num, by rw [hsn.out, List.all_append, ht.out]; simp [hdg.out]⟩
            case measure => simp [intOf]; omega
          · have hbad : Hid (s.toList.all Id.dig = false) := Lib.hid (by
              rw [List.all_eq_false]
              exact ⟨s[k], List.mem_of_getElem? hget.out, by unfold Id.dig; rw [hc]; simp; omega⟩)
            obtain ⟨e1, e2⟩ := num_bad (Or.inr hbad.out)
            replace e1 := Lib.hid e1
            replace e2 := Lib.hid e2
            replace hn := Lib.hid hn
            by_cases hd1 : c < 48
            · have d1 : (c : Int) < 48 := by omega
              go_wp2_with fail
              exact bodyPost_ret (v := .tuple #[.int .i64 0, .bool false]) (by simp [results, Tryd.results101, go_sem]) rfl ⟨by rw [e1.out, e2.out]; rfl, rfl⟩
            · have d1 : ¬ (c : Int) < 48 := by omega
              have d2 : (c : Int) > 57 := by omega
              go_wp2_with fail
              exact bodyPost_ret (v := .tuple #[.int .i64 0, .bool false]) (by simp [results, Tryd.results101, go_sem]) rfl ⟨by rw [e1.out, e2.out]; rfl, rfl⟩
        · have i1 : ¬ (k : Int) < (s.size : Int) := by omega
          have htk : s.toList.take k = s.toList := List.take_of_length_le (by rw [hlen.out]; omega)
          rw [htk] at ht hv3
          rw [htk]
          have e1 : numL s.toList = valL s.toList := by unfold numL; rw [if_pos ⟨hp.out, ht⟩]
          have e2 : okD s.toList = decide (valL s.toList ≤ 9007199254740992) := by unfold okD; rw [hp.out, ht]; rfl
          generalize valL s.toList = n at hv3 e1 e2 ⊢
          replace e1 := Lib.hid e1
          replace e2 := Lib.hid e2
          replace ht := Lib.hid ht
          replace htk := Lib.hid htk
          go_wp2_with fail
          exact bodyPost_ret (v := .tuple #[.int .i64 (n : Int), .bool (decide ((n : Int) ≤ 9007199254740992))]) (by simp [results, Tryd.results101, go_sem]) rfl ⟨by rw [e1.out, e2.out]; congr 4; simp; omega, rfl⟩
    · have h1z : ¬ (s.size : Int) > 1 := by omega
      go_enter Tryd.func101, Tryd.ntmps101
      go_wp2_with fail
      go_loop [4, 5] (fun vn vi => ∃ k : Nat, k ≤ s.size ∧ vn = .int .i64 (valL (s.toList.take k) : Int) ∧ vi = .int .i64 (k : Int) ∧ (s.toList.take k).all Id.dig = true) (fun _ vi => s.size - (intOf vi).toNat)
      case atStart => exact ⟨0, Nat.zero_le _, rfl, rfl, rfl⟩
      case round =>
        obtain ⟨k, hk, rfl, rfl, ht⟩ := hrel
        have hv := val_lt k (s.toList.take k) (by rw [List.length_take, hlen.out]; omega) ht
        have hv2 : 10 ^ k ≤ 10 ^ 16 := Nat.pow_le_pow_right (by omega) (by omega)
        have hv3 : valL (s.toList.take k) < 10000000000000000 := by omega
        clear hv hv2
        by_cases hks : k < s.size
        · have i0 : (0 : Int) ≤ (k : Int) := by omega
          have i1 : (k : Int) < (s.size : Int) := by omega
          have hget := toList_get s k hks
          have hsn : Hid (s.toList.take (k + 1) = s.toList.take k ++ [s[k]]) := Lib.hid (by rw [List.take_add_one, hget]; rfl)
          obtain ⟨n, hn⟩ : ∃ n, valL (s.toList.take k) = n := ⟨_, rfl⟩
          rw [hn] at hv3 ⊢
          replace ht := Lib.hid ht
          replace hget := Lib.hid hget
          obtain ⟨c, hc⟩ : ∃ c, s[k].toNat = c := ⟨_, rfl⟩
          have hc8 : c < 256 := by rw [← hc]; exact UInt8.toNat_lt _
          by_cases hd : 48 ≤ c ∧ c ≤ 57
          · have d1 : ¬ (c : Int) < 48 := by omega
            have d2 : ¬ (c : Int) > 57 := by omega
            have hw1 : IntKind.u8.wrap ((c : Int) - 48) = ((c - 48 : Nat) : Int) := by
              rw [show (c : Int) - 48 = ((c - 48 : Nat) : Int) by omega]
              simp [IntKind.wrap, IntKind.bits, IntKind.signed]; omega
            obtain ⟨m, hm⟩ : ∃ m, c - 48 = m := ⟨_, rfl⟩
            rw [hm] at hw1
            have hm9 : m ≤ 9 := by omega
            have hw2 : IntKind.i64.wrap (10 * (n : Int)) = 10 * (n : Int) := IntWalk.i64_in _ (by omega)
            have hw3 : IntKind.i64.wrap (10 * (n : Int) + (m : Int)) = 10 * (n : Int) + (m : Int) := IntWalk.i64_in _ (by omega)
            have hw4 : IntKind.i64.wrap (m : Int) = (m : Int) := IntWalk.i64_in _ (by omega)
            have hdg : Hid (Id.dig s[k] = true) := Lib.hid (by unfold Id.dig; rw [hc]; simp; omega)
            have hnx : Hid (valL (s.toList.take (k + 1)) = 10 * n + m) := Lib.hid (by rw [hsn.out, val_snoc, hn, hc, hm])
            replace hn := Lib.hid hn
            replace hm := Lib.hid hm
            go_wp2_with fail
            go_round
            case rel => exact ⟨k + 1, by omega, by rw [hnx.out]; go_num, by go_num, by rw [hsn.out, List.all_append, ht.out]; simp [hdg.out]⟩
            case measure => simp [intOf]; omega
          · have hbad : Hid (s.toList.all Id.dig = false) := Lib.hid (by
              rw [List.all_eq_false]
              exact ⟨s[k], List.mem_of_getElem? hget.out, by unfold Id.dig; rw [hc]; simp; omega⟩)
            obtain ⟨e1, e2⟩ := num_bad (Or.inr hbad.out)
            replace e1 := Lib.hid e1
            replace e2 := Lib.hid e2
            replace hn := Lib.hid hn
            by_cases hd1 : c < 48
            · have d1 : (c : Int) < 48 := by omega
              go_wp2_with fail
              exact bodyPost_ret (v := .tuple #[.int .i64 0, .bool false]) (by simp [results, Tryd.results101, go_sem]) rfl ⟨by rw [e1.out, e2.out]; rfl, rfl⟩
            · have d1 : ¬ (c : Int) < 48 := by omega
              have d2 : (c : Int) > 57 := by omega
              go_wp2_with fail
              exact bodyPost_ret (v := .tuple #[.int .i64 0, .bool false]) (by simp [results, Tryd.results101, go_sem]) rfl ⟨by rw [e1.out, e2.out]; rfl, rfl⟩
        · have i1 : ¬ (k : Int) < (s.size : Int) := by omega
          have htk : s.toList.take k = s.toList := List.take_of_length_le (by rw [hlen.out]; omega)
          rw [htk] at ht hv3
          rw [htk]
          have e1 : numL s.toList = valL s.toList := by unfold numL; rw [if_pos ⟨hp.out, ht⟩]
          have e2 : okD s.toList = decide (valL s.toList ≤ 9007199254740992) := by unfold okD; rw [hp.out, ht]; rfl
          generalize valL s.toList = n at hv3 e1 e2 ⊢
          replace e1 := Lib.hid e1
          replace e2 := Lib.hid e2
          replace ht := Lib.hid ht
          replace htk := Lib.hid htk
          go_wp2_with fail
          exact bodyPost_ret (v := .tuple #[.int .i64 (n : Int), .bool (decide ((n : Int) ≤ 9007199254740992))]) (by simp [results, Tryd.results101, go_sem]) rfl ⟨by rw [e1.out, e2.out]; congr 4; simp; omega, rfl⟩

theorem sp_or (c : UInt8) : sp c = (decide (c.toNat = 60) || decide (c.toNat = 61) || decide (c.toNat = 62)) := rfl
theorem toList_at (s : ByteArray) (k : Nat) (h : k < s.size) : s.toList[k]'(by rw [toList_len]; exact h) = s[k] := by
  have := toList_get s k h
  rw [List.getElem?_eq_getElem (by rw [toList_len]; exact h)] at this
  simpa using this
theorem split_k {s : ByteArray} {k : Nat} (hks : k < s.size) (hno : (s.toList.take k).all (fun c => !sp c) = true) (hc : sp s[k] = true) : hdL s.toList = s.toList.take k ∧ tlL s.toList = s.toList.drop k := by
  have hd : s.toList.drop k = s[k] :: s.toList.drop (k + 1) := by
    rw [List.drop_eq_getElem_cons (by rw [toList_len]; exact hks), toList_at s k hks]
  have h := split_at (s := s.toList) (a := s.toList.take k) (b := s.toList.drop (k + 1)) (c := s[k]) (by rw [← hd, List.take_append_drop]) (fun x hx => by have := List.all_eq_true.1 hno x hx; simpa using this) hc
  rw [← hd] at h
  exact h
theorem split_end {s : List UInt8} (hno : s.all (fun c => !sp c) = true) : hdL s = s ∧ tlL s = [] := by
  have e1 : hdL s = s := by
    unfold hdL
    have := List.takeWhile_append_of_pos (p := fun c => !sp c) (l₁ := s) (l₂ := []) (fun x hx => List.all_eq_true.1 hno x hx)
    simpa using this
  refine ⟨e1, ?_⟩
  have := hd_tl s
  rw [e1] at this
  simpa using this
set_option maxRecDepth 100000 in
set_option maxHeartbeats 4000000 in
theorem split_any (s : ByteArray) (w : World) (hs : s.size ≤ 9223372036854775807) : Calls Tryd.prog 88 #[.string s] w fun e w' => ∃ a b, e = .returned (.tuple #[.string a, .string b]) ∧ a.toList = hdL s.toList ∧ b.toList = tlL s.toList ∧ Below w.heap.size w w' := by
  go_enter Tryd.func88, Tryd.ntmps88
  go_wp2_with fail
  go_loop [4] (fun vi => ∃ k : Nat, k ≤ s.size ∧ vi = .int .i64 (k : Int) ∧ (s.toList.take k).all (fun c => !sp c) = true) (fun vi => s.size - (intOf vi).toNat)
  case atStart => exact ⟨0, Nat.zero_le _, rfl, rfl⟩
  case round =>
    obtain ⟨k, hk, rfl, ht⟩ := hrel
    replace ht := Lib.hid ht
    by_cases hks : k < s.size
    · have i0 : (0 : Int) ≤ (k : Int) := by omega
      have i1 : (k : Int) < (s.size : Int) := by omega
      have i2 : (k : Int) ≤ (s.size : Int) := by omega
      have i3 : k ≤ s.size := by omega
      obtain ⟨c, hc⟩ : ∃ c, s[k].toNat = c := ⟨_, rfl⟩
      by_cases h60 : c = 60
      · have hz : ((c : Int) == 60) = true := by rw [h60]; rfl
        subst h60
        have hsc : sp s[k] = true := by rw [sp_or, hc]; simp [*]
        obtain ⟨e1, e2⟩ := split_k hks ht.out hsc
        replace e1 := Lib.hid e1
        replace e2 := Lib.hid e2
        replace hsc := Lib.hid hsc
        go_wp2_with fail
        refine wp_region_quiet_below (by kernel_rfl) (by kernel_rfl) ?_
        repeat (go_big_quiet_step (fail))
        refine wpQuiet_nil ?_
        intro w2 hw2
        have hb2 := below_of_regrown hw2
        clear hw2
        go_wp2_with fail
        exact bodyPost_ret (v := .tuple #[.string (s.extract 0 k), .string (s.extract k s.size)]) (by simp [results, Tryd.results88, go_sem]) rfl ⟨s.extract 0 k, s.extract k s.size, rfl, by rw [e1.out, ext_head], by rw [e2.out, ext_end], hb2⟩
      · have hz : ((c : Int) == 60) = false := by rw [beq_eq_false_iff_ne]; omega
        by_cases h62 : c = 62
        · subst h62
          have hsc : sp s[k] = true := by rw [sp_or, hc]; simp [*]
          obtain ⟨e1, e2⟩ := split_k hks ht.out hsc
          replace e1 := Lib.hid e1
          replace e2 := Lib.hid e2
          replace hsc := Lib.hid hsc
          go_wp2_with fail
          refine wp_region_quiet_below (by kernel_rfl) (by kernel_rfl) ?_
          repeat (go_big_quiet_step (fail))
          refine wpQuiet_nil ?_
          intro w2 hw2
          have hb2 := below_of_regrown hw2
          clear hw2
          go_wp2_with fail
          exact bodyPost_ret (v := .tuple #[.string (s.extract 0 k), .string (s.extract k s.size)]) (by simp [results, Tryd.results88, go_sem]) rfl ⟨s.extract 0 k, s.extract k s.size, rfl, by rw [e1.out, ext_head], by rw [e2.out, ext_end], hb2⟩
        · have hz2 : ((c : Int) == 62) = false := by rw [beq_eq_false_iff_ne]; omega
          by_cases h61 : c = 61
          · subst h61
            have hsc : sp s[k] = true := by rw [sp_or, hc]; simp [*]
            obtain ⟨e1, e2⟩ := split_k hks ht.out hsc
            replace e1 := Lib.hid e1
            replace e2 := Lib.hid e2
            replace hsc := Lib.hid hsc
            go_wp2_with fail
            refine wp_region_quiet_below (by kernel_rfl) (by kernel_rfl) ?_
            repeat (go_big_quiet_step (fail))
            refine wpQuiet_nil ?_
            intro w2 hw2
            have hb2 := below_of_regrown hw2
            clear hw2
            go_wp2_with fail
            exact bodyPost_ret (v := .tuple #[.string (s.extract 0 k), .string (s.extract k s.size)]) (by simp [results, Tryd.results88, go_sem]) rfl ⟨s.extract 0 k, s.extract k s.size, rfl, by rw [e1.out, ext_head], by rw [e2.out, ext_end], hb2⟩
          · have hz3 : ((c : Int) == 61) = false := by rw [beq_eq_false_iff_ne]; omega
            have hsc : Hid (sp s[k] = false) := Lib.hid (by rw [sp_or, hc]; simp [*])
            have hget := toList_get s k hks
            have hsn : Hid (s.toList.take (k + 1) = s.toList.take k ++ [s[k]]) := Lib.hid (by rw [List.take_add_one, hget]; rfl)
            replace hget := Lib.hid hget
            go_wp2_with fail
            go_round
            case rel => exact ⟨k + 1, by omega, by go_num, by rw [hsn.out, List.all_append, ht.out]; simp [hsc.out]⟩
            case measure => simp [intOf]; omega
    · have i1 : ¬ (k : Int) < (s.size : Int) := by omega
      have htk : s.toList.take k = s.toList := List.take_of_length_le (by rw [toList_len]; omega)
      rw [htk] at ht
      obtain ⟨e1, e2⟩ := split_end ht.out
      replace e1 := Lib.hid e1
      replace e2 := Lib.hid e2
      replace htk := Lib.hid htk
      go_wp2_with fail
      exact bodyPost_ret (v := .tuple #[.string s, .string ⟨#[]⟩]) (by simp [results, Tryd.results88, go_sem]) rfl ⟨s, ⟨#[]⟩, rfl, e1.out.symm, by rw [e2.out, Lib.toList_data], Below.refl _ _⟩
end Go.Proofs.YtnahbfmbmpoljaaDoor
