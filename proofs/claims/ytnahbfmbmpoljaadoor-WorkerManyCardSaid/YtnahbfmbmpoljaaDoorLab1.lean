/-
  The walks of labels: a number read, by the program.
-/
import Derived.Test.YtnahbfmbmpoljaaDoorLab0
import Derived.Test.YtnahbfmbmpoljaaDoorOpens2
import Derived.Laws.StructEq
import Derived.Lib.QuietBelow

namespace Go.Proofs.YtnahbfmbmpoljaaDoor
open Go.RowKit

theorem val_snoc (l : List UInt8) (c : UInt8) : valL (l ++ [c]) = 10 * valL l + (c.toNat - 48) := by
  unfold valL; rw [List.foldl_append]; rfl
theorem val_lt : ∀ (n : Nat) (l : List UInt8), l.length = n → l.all Id.dig = true → valL l < 10 ^ n
  | 0, l, h, _ => by
    obtain rfl : l = [] := List.eq_nil_of_length_eq_zero h
    decide
  | n + 1, l, h, hd => by
    have hne : l ≠ [] := by intro e; subst e; simp at h
    obtain ⟨l', c, rfl⟩ : ∃ l' c, l = l' ++ [c] := ⟨l.dropLast, l.getLast hne, (List.dropLast_concat_getLast hne).symm⟩
    rw [List.all_append, Bool.and_eq_true] at hd
    have h1 := val_lt n l' (by simpa using h) hd.1
    have hc : Id.dig c = true := by simpa using hd.2
    unfold Id.dig at hc
    simp at hc
    rw [val_snoc, Nat.pow_succ]
    omega
/-- The number that is returned. -/
def numL (l : List UInt8) : Nat := if preD l = true ∧ l.all Id.dig = true then valL l else 0
theorem preD_small {l : List UInt8} (h : preD l = true) : 0 < l.length ∧ l.length ≤ 16 := by
  unfold preD at h
  simp only [Bool.and_eq_true, decide_eq_true_eq, Bool.not_eq_true'] at h
  refine ⟨?_, h.1.2⟩
  rcases l with _ | ⟨c, l⟩
  · simp at h
  · simp
theorem num_bad {l : List UInt8} (h : preD l = false ∨ l.all Id.dig = false) : numL l = 0 ∧ okD l = false := by
  unfold numL okD
  rcases h with h | h <;> rw [h] <;> simp

set_option maxRecDepth 100000 in
set_option maxHeartbeats 4000000 in
theorem number_any (s : ByteArray) (w : World) (hs : s.size ≤ 9223372036854775807) : Calls Tryd.prog 100 #[.string s] w fun e w' => e = .returned (.tuple #[.int .i64 (numL s.toList), .bool (okD s.toList)]) ∧ Bel w.heap.size w w' := by
  have hlen := toList_len s
  rcases hp : preD s.toList with _ | _
  · obtain ⟨e1, e2⟩ := num_bad (Or.inl hp)
    rw [e1, e2]
    by_cases h0 : s.size = 0
    · have hem : s.toList.isEmpty = true := (empty_iff s).2 h0
      replace hp := Lib.hid hp
      replace hlen := Lib.hid hlen
      replace h0 := Lib.hid h0
      go_enter Tryd.func100, Tryd.ntmps100
      go_wp2_with fail
      exact bodyPost_ret (v := .tuple #[.int .i64 0, .bool false]) (by simp [results, Tryd.results100, go_sem]) rfl ⟨rfl, Bel.refl _ _⟩
    have hem : s.toList.isEmpty = false := by rw [← Bool.not_eq_true, empty_iff]; exact h0
    by_cases h16 : s.size > 16
    · have h16z : (s.size : Int) > 16 := by omega
      replace hp := Lib.hid hp
      replace hlen := Lib.hid hlen
      go_enter Tryd.func100, Tryd.ntmps100
      go_wp2_with fail
      exact bodyPost_ret (v := .tuple #[.int .i64 0, .bool false]) (by simp [results, Tryd.results100, go_sem]) rfl ⟨rfl, Bel.refl _ _⟩
    have h16z : ¬ (s.size : Int) > 16 := by omega
    have hz := (head_get s (by omega)).2
    have hh : 1 < s.size ∧ s[0] = 48 := by
      unfold preD at hp
      rw [hem, hlen, decide_eq_true (by omega), hz] at hp
      simpa using hp
    have h1z : (s.size : Int) > 1 := by omega
    have h48 : (s[0].toNat : Int) = 48 := by rw [hh.2]; rfl
    have i1 : (0 : Int) < (s.size : Int) := by omega
    replace hh := Lib.hid hh
    replace hp := Lib.hid hp
    replace hlen := Lib.hid hlen
    replace hz := Lib.hid hz
    go_enter Tryd.func100, Tryd.ntmps100
    go_wp2_with fail
    exact bodyPost_ret (v := .tuple #[.int .i64 0, .bool false]) (by simp [results, Tryd.results100, go_sem]) rfl ⟨rfl, Bel.refl _ _⟩
  · obtain ⟨p0, p16⟩ := preD_small hp
    rw [hlen] at p0 p16
    have hem : s.toList.isEmpty = false := by rw [← Bool.not_eq_true, empty_iff]; omega
    have hz := (head_get s (by omega)).2
    have h16z : ¬ (s.size : Int) > 16 := by omega
    have hh : Hid (1 < s.size → ¬ s[0] = 48) := Lib.hid fun h1 e => by
      unfold preD at hp
      rw [hem, hlen, decide_eq_true (by omega), hz, e, decide_eq_true h1] at hp
      simp at hp
    have hcv := run_bytes_of_string (P := Tryd.prog) w 9 76 5 s Tryd.underlying9 Tryd.underlying76 Tryd.underlying5
    have hcl : ∀ (C : Nat) (F : Nat × Nat) (k : Nat) (h : k < s.size), (w.alloc (.cells (bytesRow s C) 5 F)).cell? ⟨w.heap.size, k, none⟩ = some (.int .u8 (s[k].toNat : Int)) := fun C F k h => by
      rw [cell_of_row _ _ _ (bytesRow s C) 5 F (heap_alloc_new w _), bytesRow_at s C k h]
      rfl
    have hbl : ∀ (C : Nat) (F : Nat × Nat), Bel w.heap.size w (w.alloc (.cells (bytesRow s C) 5 F)) := fun C F => (Bel.refl _ _).alloc (Nat.le_refl _) _
    replace hlen := Lib.hid hlen
    replace hz := Lib.hid hz
    replace hp := Lib.hid hp
    replace hcl := Lib.hid hcl
    by_cases h1 : 1 < s.size
    · have h1z : (s.size : Int) > 1 := by omega
      have h48 : ¬ (s[0].toNat : Int) = 48 := by
        have := hh.out h1
        intro e
        exact this (by rw [← UInt8.toNat_inj]; show s[0].toNat = 48; omega)
      have i1 : (0 : Int) < (s.size : Int) := by omega
      go_enter Tryd.func100, Tryd.ntmps100
      go_wp2_with fail
      go_loop [4, 27] (fun vn vi => ∃ k : Nat, k ≤ s.size ∧ vn = .int .i64 (valL (s.toList.take k) : Int) ∧ vi = .int .i64 (k : Int) ∧ (s.toList.take k).all Id.dig = true) (fun _ vi => s.size - (intOf vi).toNat)
      case atStart => exact ⟨0, Nat.zero_le _, rfl, rfl, rfl⟩
      case round =>
        obtain ⟨k, hk, rfl, rfl, ht⟩ := hrel
        have hv := val_lt k (s.toList.take k) (by rw [List.length_take, hlen.out]; omega) ht
        have hv2 : 10 ^ k ≤ 10 ^ 16 := Nat.pow_le_pow_right (by omega) (by omega)
        have hv3 : valL (s.toList.take k) < 10000000000000000 := by omega
        clear hv hv2
        by_cases hks : k < s.size
        · have i0 : (0 : Int) ≤ (k : Int) := by omega
          have i1 : (k : Int) < (s.size : Int) := by omega
          have q := fun C F => hcl.out C F k hks
          have hget := toList_get s k hks
          have hsn : Hid (s.toList.take (k + 1) = s.toList.take k ++ [s[k]]) := Lib.hid (by rw [List.take_add_one, hget]; rfl)
          obtain ⟨n, hn⟩ : ∃ n, valL (s.toList.take k) = n := ⟨_, rfl⟩
          rw [hn] at hv3 ⊢
          replace ht := Lib.hid ht
          replace hget := Lib.hid hget
          obtain ⟨c, hc⟩ : ∃ c, s[k].toNat = c := ⟨_, rfl⟩
          have hc8 : c < 256 := by rw [← hc]; exact UInt8.toNat_lt _
          simp only [hc] at q
          by_cases hd : 48 ≤ c ∧ c ≤ 57
          · have d1 : ¬ (c : Int) < 48 := by omega
            have d2 : ¬ (c : Int) > 57 := by omega
            have hw1 : IntKind.u8.wrap ((c : Int) - 48) = ((c - 48 : Nat) : Int) := by
              rw [show (c : Int) - 48 = ((c - 48 : Nat) : Int) by omega]
              simp [IntKind.wrap, IntKind.bits, IntKind.signed]; omega
            obtain ⟨m, hm⟩ : ∃ m, c - 48 = m := ⟨_, rfl⟩
            rw [hm] at hw1
            have hm9 : m ≤ 9 := by omega
            have hw2 : IntKind.i64.wrap (10 * (n : Int)) = 10 * (n : Int) := IntWalk.i64_in _ (by omega)
            have hw3 : IntKind.i64.wrap (10 * (n : Int) + (m : Int)) = 10 * (n : Int) + (m : Int) := IntWalk.i64_in _ (by omega)
            have hw4 : IntKind.i64.wrap (m : Int) = (m : Int) := IntWalk.i64_in _ (by omega)
            have hdg : Hid (Id.dig s[k] = true) := Lib.hid (by unfold Id.dig; rw [hc]; simp; omega)
            have hnx : Hid (valL (s.toList.take (k + 1)) = 10 * n + m) := Lib.hid (by rw [hsn.out, val_snoc, hn, hc, hm])
            replace hn := Lib.hid hn
            replace hc := Lib.hid hc
            replace hm := Lib.hid hm
            go_wp2_with fail
            go_round
            case rel => exact ⟨k + 1, by omega, by rw [hnx.out]; go_num, by go_num, by rw [hsn.out, List.all_append, ht.out]; simp [hdg.out]⟩
            case measure => simp [intOf]; omega
          · have hbad : Hid (s.toList.all Id.dig = false) := Lib.hid (by
              rw [List.all_eq_false]
              exact ⟨s[k], List.mem_of_getElem? hget.out, by unfold Id.dig; rw [hc]; simp; omega⟩)
            obtain ⟨e1, e2⟩ := num_bad (Or.inr hbad.out)
            replace e1 := Lib.hid e1
            replace e2 := Lib.hid e2
            replace hn := Lib.hid hn
            replace hc := Lib.hid hc
            by_cases hd1 : c < 48
            · have d1 : (c : Int) < 48 := by omega
              go_wp2_with fail
              exact bodyPost_ret (v := .tuple #[.int .i64 0, .bool false]) (by simp [results, Tryd.results100, go_sem]) rfl ⟨by rw [e1.out, e2.out]; rfl, (by repeat (first | (with_reducible exact Bel.refl _ _) | (with_reducible refine Bel.drew ?_) | (with_reducible refine Bel.drewN ?_ _) | ((with_reducible refine Bel.alloc ?_ ?_ _); rotate_left; focus ((try simp) <;> omega)) | ((with_reducible refine Bel.setCell ?_ ?_ _); rotate_left; focus ((try simp) <;> omega)) | ((with_reducible refine Bel.trans ?_ (Bel.mono (by assumption) ?_)); rotate_left; focus ((try simp) <;> omega))))⟩
            · have d1 : ¬ (c : Int) < 48 := by omega
              have d2 : (c : Int) > 57 := by omega
              go_wp2_with fail
              exact bodyPost_ret (v := .tuple #[.int .i64 0, .bool false]) (by simp [results, Tryd.results100, go_sem]) rfl ⟨by rw [e1.out, e2.out]; rfl, (by repeat (first | (with_reducible exact Bel.refl _ _) | (with_reducible refine Bel.drew ?_) | (with_reducible refine Bel.drewN ?_ _) | ((with_reducible refine Bel.alloc ?_ ?_ _); rotate_left; focus ((try simp) <;> omega)) | ((with_reducible refine Bel.setCell ?_ ?_ _); rotate_left; focus ((try simp) <;> omega)) | ((with_reducible refine Bel.trans ?_ (Bel.mono (by assumption) ?_)); rotate_left; focus ((try simp) <;> omega))))⟩
        · have i1 : ¬ (k : Int) < (s.size : Int) := by omega
          have htk : s.toList.take k = s.toList := List.take_of_length_le (by rw [hlen.out]; omega)
          rw [htk] at ht hv3
          rw [htk]
          have e1 : numL s.toList = valL s.toList := by unfold numL; rw [if_pos ⟨hp.out, ht⟩]
          have e2 : okD s.toList = decide (valL s.toList ≤ 9007199254740992) := by unfold okD; rw [hp.out, ht]; rfl
          generalize valL s.toList = n at hv3 e1 e2 ⊢
          replace e1 := Lib.hid e1
          replace e2 := Lib.hid e2
          replace ht := Lib.hid ht
          replace htk := Lib.hid htk
          go_wp2_with fail
          exact bodyPost_ret (v := .tuple #[.int .i64 (n : Int), .bool (decide ((n : Int) ≤ 9007199254740992))]) (by simp [results, Tryd.results100, go_sem]) rfl ⟨by rw [e1.out, e2.out]; congr 4; simp; omega, (by repeat (first | (with_reducible exact Bel.refl _ _) | (with_reducible refine Bel.drew ?_) | (with_reducible refine Bel.drewN ?_ _) | ((with_reducible refine Bel.alloc ?_ ?_ _); rotate_left; focus ((try simp) <;> omega)) | ((with_reducible refine Bel.setCell ?_ ?_ _); rotate_left; focus ((try simp) <;> omega)) | ((with_reducible refine Bel.trans ?_ (Bel.mono (by assumption) ?_)); rotate_left; focus ((try simp) <;> omega))))⟩
    · have h1z : ¬ (s.size : Int) > 1 := by omega
      go_enter Tryd.func100, Tryd.ntmps100
      go_wp2_with fail
      go_loop [4, 27] (fun vn vi => ∃ k : Nat, k ≤ s.size ∧ vn = .int .i64 (valL (s.toList.take k) : Int) ∧ vi = .int .i64 (k : Int) ∧ (s.toList.take k).all Id.dig = true) (fun _ vi => s.size - (intOf vi).toNat)
      case atStart => exact ⟨0, Nat.zero_le _, rfl, rfl, rfl⟩
      case round =>
        obtain ⟨k, hk, rfl, rfl, ht⟩ := hrel
        have hv := val_lt k (s.toList.take k) (by rw [List.length_take, hlen.out]; omega) ht
        have hv2 : 10 ^ k ≤ 10 ^ 16 := Nat.pow_le_pow_right (by omega) (by omega)
        have hv3 : valL (s.toList.take k) < 10000000000000000 := by omega
        clear hv hv2
        by_cases hks : k < s.size
        · have i0 : (0 : Int) ≤ (k : Int) := by omega
          have i1 : (k : Int) < (s.size : Int) := by omega
          have q := fun C F => hcl.out C F k hks
          have hget := toList_get s k hks
          have hsn : Hid (s.toList.take (k + 1) = s.toList.take k ++ [s[k]]) := Lib.hid (by rw [List.take_add_one, hget]; rfl)
          obtain ⟨n, hn⟩ : ∃ n, valL (s.toList.take k) = n := ⟨_, rfl⟩
          rw [hn] at hv3 ⊢
          replace ht := Lib.hid ht
          replace hget := Lib.hid hget
          obtain ⟨c, hc⟩ : ∃ c, s[k].toNat = c := ⟨_, rfl⟩
          have hc8 : c < 256 := by rw [← hc]; exact UInt8.toNat_lt _
          simp only [hc] at q
          by_cases hd : 48 ≤ c ∧ c ≤ 57
          · have d1 : ¬ (c : Int) < 48 := by omega
            have d2 : ¬ (c : Int) > 57 := by omega
            have hw1 : IntKind.u8.wrap ((c : Int) - 48) = ((c - 48 : Nat) : Int) := by
              rw [show (c : Int) - 48 = ((c - 48 : Nat) : Int) by omega]
              simp [IntKind.wrap, IntKind.bits, IntKind.signed]; omega
            obtain ⟨m, hm⟩ : ∃ m, c - 48 = m := ⟨_, rfl⟩
            rw [hm] at hw1
            have hm9 : m ≤ 9 := by omega
            have hw2 : IntKind.i64.wrap (10 * (n : Int)) = 10 * (n : Int) := IntWalk.i64_in _ (by omega)
            have hw3 : IntKind.i64.wrap (10 * (n : Int) + (m : Int)) = 10 * (n : Int) + (m : Int) := IntWalk.i64_in _ (by omega)
            have hw4 : IntKind.i64.wrap (m : Int) = (m : Int) := IntWalk.i64_in _ (by omega)
            have hdg : Hid (Id.dig s[k] = true) := Lib.hid (by unfold Id.dig; rw [hc]; simp; omega)
            have hnx : Hid (valL (s.toList.take (k + 1)) = 10 * n + m) := Lib.hid (by rw [hsn.out, val_snoc, hn, hc, hm])
            replace hn := Lib.hid hn
            replace hc := Lib.hid hc
            replace hm := Lib.hid hm
            go_wp2_with fail
            go_round
            case rel => exact ⟨k + 1, by omega, by rw [hnx.out]; go_num, by go_num, by rw [hsn.out, List.all_append, ht.out]; simp [hdg.out]⟩
            case measure => simp [intOf]; omega
          · have hbad : Hid (s.toList.all Id.dig = false) := Lib.hid (by
              rw [List.all_eq_false]
              exact ⟨s[k], List.mem_of_getElem? hget.out, by unfold Id.dig; rw [hc]; simp; omega⟩)
            obtain ⟨e1, e2⟩ := num_bad (Or.inr hbad.out)
            replace e1 := Lib.hid e1
            replace e2 := Lib.hid e2
            replace hn := Lib.hid hn
            replace hc := Lib.hid hc
            by_cases hd1 : c < 48
            · have d1 : (c : Int) < 48 := by omega
              go_wp2_with fail
              exact bodyPost_ret (v := .tuple #[.int .i64 0, .bool false]) (by simp [results, Tryd.results100, go_sem]) rfl ⟨by rw [e1.out, e2.out]; rfl, (by repeat (first | (with_reducible exact Bel.refl _ _) | (with_reducible refine Bel.drew ?_) | (with_reducible refine Bel.drewN ?_ _) | ((with_reducible refine Bel.alloc ?_ ?_ _); rotate_left; focus ((try simp) <;> omega)) | ((with_reducible refine Bel.setCell ?_ ?_ _); rotate_left; focus ((try simp) <;> omega)) | ((with_reducible refine Bel.trans ?_ (Bel.mono (by assumption) ?_)); rotate_left; focus ((try simp) <;> omega))))⟩
            · have d1 : ¬ (c : Int) < 48 := by omega
              have d2 : (c : Int) > 57 := by omega
              go_wp2_with fail
              exact bodyPost_ret (v := .tuple #[.int .i64 0, .bool false]) (by simp [results, Tryd.results100, go_sem]) rfl ⟨by rw [e1.out, e2.out]; rfl, (by repeat (first | (with_reducible exact Bel.refl _ _) | (with_reducible refine Bel.drew ?_) | (with_reducible refine Bel.drewN ?_ _) | ((with_reducible refine Bel.alloc ?_ ?_ _); rotate_left; focus ((try simp) <;> omega)) | ((with_reducible refine Bel.setCell ?_ ?_ _); rotate_left; focus ((try simp) <;> omega)) | ((with_reducible refine Bel.trans ?_ (Bel.mono (by assumption) ?_)); rotate_left; focus ((try simp) <;> omega))))⟩
        · have i1 : ¬ (k : Int) < (s.size : Int) := by omega
          have htk : s.toList.take k = s.toList := List.take_of_length_le (by rw [hlen.out]; omega)
          rw [htk] at ht hv3
          rw [htk]
          have e1 : numL s.toList = valL s.toList := by unfold numL; rw [if_pos ⟨hp.out, ht⟩]
          have e2 : okD s.toList = decide (valL s.toList ≤ 9007199254740992) := by unfold okD; rw [hp.out, ht]; rfl
          generalize valL s.toList = n at hv3 e1 e2 ⊢
          replace e1 := Lib.hid e1
          replace e2 := Lib.hid e2
          replace ht := Lib.hid ht
          replace htk := Lib.hid htk
          go_wp2_with fail
          exact bodyPost_ret (v := .tuple #[.int .i64 (n : Int), .bool (decide ((n : Int) ≤ 9007199254740992))]) (by simp [results, Tryd.results100, go_sem]) rfl ⟨by rw [e1.out, e2.out]; congr 4; simp; omega, (by repeat (first | (with_reducible exact Bel.refl _ _) | (with_reducible refine Bel.drew ?_) | (with_reducible refine Bel.drewN ?_ _) | ((with_reducible refine Bel.alloc ?_ ?_ _); rotate_left; focus ((try simp) <;> omega)) | ((with_reducible refine Bel.setCell ?_ ?_ _); rotate_left; focus ((try simp) <;> omega)) | ((with_reducible refine Bel.trans ?_ (Bel.mono (by assumption) ?_)); rotate_left; focus ((try simp) <;> omega))))⟩
end Go.Proofs.YtnahbfmbmpoljaaDoor
