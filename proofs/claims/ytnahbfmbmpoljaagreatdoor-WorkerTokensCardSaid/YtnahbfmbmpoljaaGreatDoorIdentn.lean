/-
  The walks of the layer of names: whether a string is a name, by the program and by the reference.
-/
import Derived.Test.YtnahbfmbmpoljaaGreatDoorIdent4

namespace Go.Proofs.YtnahbfmbmpoljaaGreatDoor
open Go.RowKit

/-- A letter or a digit; a byte of a name at a place. -/
def letB (c : UInt8) : Bool := (decide (97 ≤ c.toNat) && decide (c.toNat ≤ 122)) || (decide (48 ≤ c.toNat) && decide (c.toNat ≤ 57))
def nmB (i : Nat) (c : UInt8) : Bool := letB c || (decide (0 < i) && (decide (c.toNat = 95) || decide (c.toNat = 45) || decide (c.toNat = 46)))
/-- Whether a string is a name. -/
def nameB (s : ByteArray) : Bool := decide (0 < s.size) && decide (s.size ≤ 64) && (List.range s.size).all fun i => nmB i s[i]!

theorem letter_any (c : UInt8) (w : World) : Calls Tryz.prog 61 #[.int .u8 c.toNat] w fun e w' => e = .returned (.bool (letB c)) ∧ w = w' := by
  unfold letB
  go_enter Tryz.func61, Tryz.ntmps61
  go_wp2_with fail
  all_goals
    go_ret
    exact ⟨ret_bool (by rw [Bool.eq_iff_iff]; (try simp) <;> (try omega)), rfl⟩
theorem name1_any (i : Nat) (c : UInt8) (w : World) : Calls Tryz.prog 56 #[.int .i64 i, .int .u8 c.toNat] w fun e w' => e = .returned (.bool (nmB i c)) ∧ w = w' := by
  unfold nmB letB
  by_cases hA : 48 ≤ c.toNat ∧ c.toNat ≤ 57
  · have hd : digI (c.toNat : Int) = true := by unfold digI; simp; omega
    go_enter Tryz.func56, Tryz.ntmps56
    go_wp2_with (go_at_call 57; go_must (refine (digit_any _ _).mono ?_; rw [hd]; rintro e w2 ⟨rfl, rfl⟩))
    all_goals
      go_ret
      exact ⟨ret_bool (by rw [Bool.eq_iff_iff]; (try simp) <;> (try omega)), rfl⟩
  · have hd : digI (c.toNat : Int) = false := by unfold digI; simp; omega
    go_enter Tryz.func56, Tryz.ntmps56
    go_wp2_with (go_at_call 57; go_must (refine (digit_any _ _).mono ?_; rw [hd]; rintro e w2 ⟨rfl, rfl⟩))
    all_goals
      go_ret
      exact ⟨ret_bool (by rw [Bool.eq_iff_iff]; (try simp) <;> (try omega)), rfl⟩

theorem name_range {s : ByteArray} (h0 : 0 < s.size) (h64 : s.size ≤ 64) : nameB s = (List.range s.size).all fun i => nmB i s[i]! := by
  unfold nameB; rw [decide_eq_true h0, decide_eq_true h64]; rfl
theorem range_take {n k : Nat} (p : Nat → Bool) (_hk : k < n) (h : (List.range k).all p = true) : (List.range (k + 1)).all p = p k := by
  rw [List.range_succ, List.all_append, h]; simp
theorem range_false {n k : Nat} (p : Nat → Bool) (hk : k < n) (h : p k = false) : (List.range n).all p = false := by
  rw [List.all_eq_false]
  exact ⟨k, List.mem_range.2 hk, by rw [h]; decide⟩
theorem byte_at (s : ByteArray) (k : Nat) (h : k < s.size) : s[k]! = s[k] := getElem!_pos s k h

set_option maxHeartbeats 1000000 in
theorem rname_any (s : ByteArray) (w : World) (hs : s.size ≤ 9223372036854775807) : Calls Tryz.prog 44 #[.string s] w fun e w' => e = .returned (.bool (nameB s)) ∧ w = w' := by
  by_cases h0 : s.size < 1
  · have hf : nameB s = false := by unfold nameB; rw [decide_eq_false (by omega)]; rfl
    rw [hf]
    have h0z : (s.size : Int) < 1 := by omega
    go_enter Tryz.func44, Tryz.ntmps44
    go_wp2_with fail
    go_ret
    exact ⟨rfl, rfl⟩
  by_cases h64 : s.size > 64
  · have hf : nameB s = false := by unfold nameB; rw [decide_eq_true (by omega), decide_eq_false (by omega)]; rfl
    rw [hf]
    have h0z : ¬ (s.size : Int) < 1 := by omega
    have h1z : (s.size : Int) > 64 := by omega
    go_enter Tryz.func44, Tryz.ntmps44
    go_wp2_with fail
    go_ret
    exact ⟨rfl, rfl⟩
  have h0z : ¬ (s.size : Int) < 1 := by omega
  have h1z : ¬ (s.size : Int) > 64 := by omega
  have hp : 0 < s.size := by omega
  have hall : Hid (nameB s = (List.range s.size).all fun i => nmB i s[i]!) := Lib.hid (name_range (by omega) (by omega))
  rcases hl : letB s[0] with _ | _
  · have hf : Hid (nameB s = false) := Lib.hid (by
      rw [hall.out]
      refine range_false _ hp ?_
      rw [byte_at s 0 hp]; unfold nmB; rw [hl]; rfl)
    go_enter Tryz.func44, Tryz.ntmps44
    go_wp2_with (go_at_call 61; go_must (refine (letter_any _ _).mono ?_; rw [hl]; rintro e w2 ⟨rfl, rfl⟩))
    go_ret
    exact ⟨ret_bool hf.out.symm, rfl⟩
  · go_enter Tryz.func44, Tryz.ntmps44
    go_wp2_with (go_at_call 61; go_must (refine (letter_any _ _).mono ?_; rw [hl]; rintro e w2 ⟨rfl, rfl⟩))
    go_loop [3] (fun vi => ∃ k : Nat, k ≤ s.size ∧ vi = .int .i64 (k : Int) ∧ (List.range k).all (fun i => nmB i s[i]!) = true) (fun vi => s.size - (intOf vi).toNat)
    case atStart => exact ⟨0, Nat.zero_le _, rfl, rfl⟩
    case round =>
      obtain ⟨k, hk, rfl, ht⟩ := hrel
      replace ht := Lib.hid ht
      by_cases hks : k < s.size
      · have i0 : (0 : Int) ≤ (k : Int) := by omega
        have i1 : (k : Int) < (s.size : Int) := by omega
        have hnm : Hid (nmB k s[k]! = (letB s[k] || (decide (0 < k) && (decide (s[k].toNat = 95) || decide (s[k].toNat = 45) || decide (s[k].toNat = 46))))) := Lib.hid (by rw [byte_at s k hks]; rfl)
        rcases hlk : letB s[k] with _ | _
        · have hk0 : 0 < k := by
            rcases Nat.eq_zero_or_pos k with h | h
            · subst h; rw [hl] at hlk; cases hlk
            · exact h
          by_cases e1 : s[k].toNat = 95
          · have b1 : ((s[k].toNat : Int) != 95) = false := by rw [e1]; rfl
            have hn : Hid (nmB k s[k]! = true) := Lib.hid (by rw [hnm.out, hlk, e1]; simp [hk0])
            replace e1 := Lib.hid e1
            go_wp2_with (go_at_call 61; go_must (refine (letter_any _ _).mono ?_; rw [hlk]; rintro e w2 ⟨rfl, rfl⟩))
            go_round
            case rel => exact ⟨k + 1, by omega, by go_num, by rw [range_take _ hks ht.out]; exact hn.out⟩
            case measure => simp [intOf]; omega
          · have b1 : ((s[k].toNat : Int) != 95) = true := by rw [bne_iff_ne]; omega
            by_cases e2 : s[k].toNat = 45
            · have b2 : ((s[k].toNat : Int) != 45) = false := by rw [e2]; rfl
              have hn : Hid (nmB k s[k]! = true) := Lib.hid (by rw [hnm.out, hlk, e2]; simp [hk0])
              replace e1 := Lib.hid e1
              replace e2 := Lib.hid e2
              go_wp2_with (go_at_call 61; go_must (refine (letter_any _ _).mono ?_; rw [hlk]; rintro e w2 ⟨rfl, rfl⟩))
              go_round
              case rel => exact ⟨k + 1, by omega, by go_num, by rw [range_take _ hks ht.out]; exact hn.out⟩
              case measure => simp [intOf]; omega
            · have b2 : ((s[k].toNat : Int) != 45) = true := by rw [bne_iff_ne]; omega
              by_cases e3 : s[k].toNat = 46
              · have b3 : ((s[k].toNat : Int) != 46) = false := by rw [e3]; rfl
                have hn : Hid (nmB k s[k]! = true) := Lib.hid (by rw [hnm.out, hlk, e3]; simp [hk0])
                replace e1 := Lib.hid e1
                replace e2 := Lib.hid e2
                replace e3 := Lib.hid e3
                go_wp2_with (go_at_call 61; go_must (refine (letter_any _ _).mono ?_; rw [hlk]; rintro e w2 ⟨rfl, rfl⟩))
                go_round
                case rel => exact ⟨k + 1, by omega, by go_num, by rw [range_take _ hks ht.out]; exact hn.out⟩
                case measure => simp [intOf]; omega
              · have b3 : ((s[k].toNat : Int) != 46) = true := by rw [bne_iff_ne]; omega
                have hf : Hid (nameB s = false) := Lib.hid (by
                  rw [hall.out]
                  refine range_false _ hks ?_
                  show nmB k s[k]! = false
                  rw [hnm.out, hlk, decide_eq_false e1, decide_eq_false e2, decide_eq_false e3]; simp)
                replace e1 := Lib.hid e1
                replace e2 := Lib.hid e2
                replace e3 := Lib.hid e3
                go_wp2_with (go_at_call 61; go_must (refine (letter_any _ _).mono ?_; rw [hlk]; rintro e w2 ⟨rfl, rfl⟩))
                go_ret
                exact ⟨ret_bool hf.out.symm, rfl⟩
        · have hn : Hid (nmB k s[k]! = true) := Lib.hid (by rw [hnm.out, hlk]; rfl)
          go_wp2_with (go_at_call 61; go_must (refine (letter_any _ _).mono ?_; rw [hlk]; rintro e w2 ⟨rfl, rfl⟩))
          go_round
          case rel => exact ⟨k + 1, by omega, by go_num, by rw [range_take _ hks ht.out]; exact hn.out⟩
          case measure => simp [intOf]; omega
      · have i1 : ¬ (k : Int) < (s.size : Int) := by omega
        have hf : Hid (nameB s = true) := Lib.hid (by rw [hall.out, show s.size = k by omega]; exact ht.out)
        go_wp2_with fail
        go_ret
        exact ⟨ret_bool hf.out.symm, rfl⟩

set_option maxHeartbeats 1000000 in
theorem every_any (s : ByteArray) (g c : Nat) (w : World) (hc : ∀ k (h : k < s.size), w.cell? ⟨g, k, none⟩ = some (.int .u8 (s[k].toNat : Int))) (hs : s.size ≤ 9223372036854775807) :
    Calls Tryz.prog 55 #[.slice (some ⟨g, 0, none⟩) s.size c, .func (.func 56) #[] #[]] w fun e w' => e = .returned (.bool ((List.range s.size).all fun i => nmB i s[i]!)) ∧ w = w' := by
  have e45 : ∀ args w, (callFunc 56 args).run Tryz.prog w = .ok (.enter 56 args) w := enters_of Tryz.func56 (by kernel_rfl) rfl
  replace hc := Lib.hid hc
  obtain ⟨B, hB⟩ : ∃ B, ((List.range s.size).all fun i => nmB i s[i]!) = B := ⟨_, rfl⟩
  rw [hB]
  replace hB := Lib.hid hB
  go_enter Tryz.func55, Tryz.ntmps55
  go_wp2_with fail
  go_loop [9] (fun vi => ∃ k : Nat, k ≤ s.size ∧ vi = .int .i64 (k : Int) ∧ (List.range k).all (fun i => nmB i s[i]!) = true) (fun vi => s.size - (intOf vi).toNat)
  case atStart => exact ⟨0, Nat.zero_le _, rfl, rfl⟩
  case round =>
    obtain ⟨k, hk, rfl, ht⟩ := hrel
    replace ht := Lib.hid ht
    by_cases hks : k < s.size
    · have i0 : (0 : Int) ≤ (k : Int) := by omega
      have i1 : (k : Int) < (s.size : Int) := by omega
      have q := hc.out k hks
      have hnm : Hid (nmB k s[k]! = nmB k s[k]) := Lib.hid (by rw [byte_at s k hks])
      rcases hn : nmB k s[k] with _ | _
      · have hf : Hid (B = false) := Lib.hid (by
          rw [← hB.out]
          refine range_false _ hks ?_
          show nmB k s[k]! = false
          rw [hnm.out, hn])
        go_wp2_with (go_at_fn 56; go_must (refine (name1_any _ _ _).mono ?_; rw [hn]; rintro e w2 ⟨rfl, rfl⟩))
        go_ret
        exact ⟨ret_bool hf.out.symm, rfl⟩
      · go_wp2_with (go_at_fn 56; go_must (refine (name1_any _ _ _).mono ?_; rw [hn]; rintro e w2 ⟨rfl, rfl⟩))
        go_round
        case rel => exact ⟨k + 1, by omega, by go_num, by rw [range_take _ hks ht.out, hnm.out]; exact hn⟩
        case measure => simp [intOf]; omega
    · have i1 : ¬ (k : Int) < (s.size : Int) := by omega
      have hf : Hid (B = true) := Lib.hid (by rw [← hB.out, show s.size = k by omega]; exact ht.out)
      go_wp2_with fail
      go_ret
      exact ⟨ret_bool hf.out.symm, rfl⟩

set_option maxHeartbeats 1000000 in
theorem name_any (s : ByteArray) (w : World) (hs : s.size ≤ 9223372036854775807) : Calls Tryz.prog 39 #[.string s] w fun e w' => e = .returned (.bool (nameB s)) ∧ Bel w.heap.size w w' := by
  by_cases h0 : 0 < s.size
  · have h0z : (0 : Int) < (s.size : Int) := by omega
    by_cases h64 : s.size ≤ 64
    · have h1z : (s.size : Int) ≤ 64 := by omega
      have hall : Hid (nameB s = (List.range s.size).all fun i => nmB i s[i]!) := Lib.hid (name_range h0 h64)
      have hcv := run_bytes_of_string (P := Tryz.prog) w 9 76 5 s Tryz.underlying9 Tryz.underlying76 Tryz.underlying5
      go_enter Tryz.func39, Tryz.ntmps39
      have hcl : ∀ (C : Nat) (F : Nat × Nat) (k : Nat) (h : k < s.size), ((w.alloc (.cells (bytesRow s C) 5 F)).drew).cell? ⟨w.heap.size, k, none⟩ = some (.int .u8 (s[k].toNat : Int)) := fun C F k h => by
        show (w.alloc (.cells (bytesRow s C) 5 F)).cell? ⟨w.heap.size, k, none⟩ = _
        rw [cell_of_row _ _ _ (bytesRow s C) 5 F (heap_alloc_new w _), bytesRow_at s C k h]
        rfl
      replace hcl := Lib.hid hcl
      go_wp2_with (go_at_call 55; go_must (refine (every_any s w.heap.size _ _ (hcl.out _ _) hs).mono ?_; rw [← hall.out]; rintro e w2 ⟨rfl, rfl⟩))
      go_ret
      exact ⟨rfl, ((Bel.refl _ _).alloc (Nat.le_refl _) _).drew⟩
    · have h1z : ¬ (s.size : Int) ≤ 64 := by omega
      have hf : nameB s = false := by unfold nameB; rw [decide_eq_true h0, decide_eq_false h64]; rfl
      rw [hf]
      go_enter Tryz.func39, Tryz.ntmps39
      go_wp2_with fail
      go_ret
      exact ⟨rfl, Bel.refl _ _⟩
  · have h0z : ¬ (0 : Int) < (s.size : Int) := by omega
    have hf : nameB s = false := by unfold nameB; rw [decide_eq_false h0]; rfl
    rw [hf]
    go_enter Tryz.func39, Tryz.ntmps39
    go_wp2_with fail
    go_ret
    exact ⟨rfl, Bel.refl _ _⟩
end Go.Proofs.YtnahbfmbmpoljaaGreatDoor
