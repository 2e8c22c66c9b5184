/-
  The walks of the layer of names: digits, runs of digits, the library's comparisons.
-/
import Derived.Test.YtdjepnilmgembaaGreatDoorRows
import Derived.Test.YtdjepnilmgembaaGreatDoorBase1
import Derived.WalkKit
import Derived.WalkSpells
import Derived.WalkLawsBesides
import Derived.Lib.Hide
import Derived.Deep.QuietTactic
import Derived.BigQuiet
import Derived.Deep.RegionHeld3

namespace Go.Proofs.YtdjepnilmgembaaGreatDoor
open Go.RowKit

theorem below_drewN {B : Nat} {a w : World} (h : Below B a w) (n : Nat) : Below B a (w.drewN n) := ⟨h.os, h.tape, h.output, h.size, h.block⟩
theorem quiet_add_same {P : Program} {f : FuncId} {args : Array Value} {w : World} {a n : Nat} {v : Value}
    (h : Calls P f args (w.drewN (a + n)) fun e w' => e = .returned v ∧ w.drewN (a + n) = w') :
    Calls P f args (w.drewN (a + n)) fun e w'' => e = .returned v ∧ ∃ m, w'' = w.drewN (a + m) :=
  h.mono fun _ _ ⟨he, hm⟩ => ⟨he, n, hm.symm⟩
theorem quiet_same {P : Program} {f : FuncId} {args : Array Value} {w : World} {n : Nat} {v : Value}
    (h : Calls P f args (w.drewN n) fun e w' => e = .returned v ∧ w.drewN n = w') : Calls P f args (w.drewN n) fun e w'' => e = .returned v ∧ ∃ m, w'' = w.drewN m :=
  h.mono fun _ _ ⟨he, hm⟩ => ⟨he, n, hm.symm⟩
theorem ret_int {k : IntKind} {a b : Int} (h : a = b) : Ending.returned (.int k a) = .returned (.int k b) := by rw [h]
theorem ret_bool {a b : Bool} (h : a = b) : Ending.returned (.bool a) = .returned (.bool b) := by rw [h]
theorem cmpI_lt {a b : Int} (h : a < b) : Id.cmpI a b = -1 := by unfold Id.cmpI; rw [if_pos h]
theorem cmpI_gt {a b : Int} (h : b < a) : Id.cmpI a b = 1 := by unfold Id.cmpI; rw [if_neg (by omega), if_pos h]
theorem cmpI_eq {a b : Int} (h1 : ¬ a < b) (h2 : ¬ b < a) : Id.cmpI a b = 0 := by unfold Id.cmpI; rw [if_neg h1, if_neg h2]

def digI (c : Int) : Bool := decide (48 ≤ c) && decide (c ≤ 57)

theorem digit_any (c : Int) (w : World) :
    Calls Tryz.prog 80 #[.int .u8 c] w fun e w' => e = .returned (.bool (digI c)) ∧ w = w' := by
  unfold digI
  by_cases h : 48 ≤ c
  · go_enter Tryz.func80, Tryz.ntmps80
    go_wp2
    go_ret
    exact ⟨ret_bool (by simp [h]), rfl⟩
  · go_enter Tryz.func80, Tryz.ntmps80
    go_wp2
    go_ret
    exact ⟨ret_bool (by simp; omega), rfl⟩

theorem cmpInt_any (a b : Int) (w : World) :
    Calls Tryz.prog 34 #[.int .i64 a, .int .i64 b] w fun e w' => e = .returned (.int .i64 (Id.cmpI a b)) ∧ w = w' := by
  by_cases h : a < b
  · go_enter Tryz.func34, Tryz.ntmps34
    go_wp2
    go_ret
    exact ⟨ret_int (cmpI_lt h).symm, rfl⟩
  · by_cases h2 : b < a
    · go_enter Tryz.func34, Tryz.ntmps34
      go_wp2
      go_ret
      exact ⟨ret_int (cmpI_gt h2).symm, rfl⟩
    · go_enter Tryz.func34, Tryz.ntmps34
      go_wp2
      go_ret
      exact ⟨ret_int (cmpI_eq (by omega) (by omega)).symm, rfl⟩
theorem cmpByte_any (a b : Int) (w : World) :
    Calls Tryz.prog 54 #[.int .u8 a, .int .u8 b] w fun e w' => e = .returned (.int .i64 (Id.cmpI a b)) ∧ w = w' := by
  by_cases h : a < b
  · go_enter Tryz.func54, Tryz.ntmps54
    go_wp2
    go_ret
    exact ⟨ret_int (cmpI_lt h).symm, rfl⟩
  · by_cases h2 : b < a
    · go_enter Tryz.func54, Tryz.ntmps54
      go_wp2
      go_ret
      exact ⟨ret_int (cmpI_gt h2).symm, rfl⟩
    · go_enter Tryz.func54, Tryz.ntmps54
      go_wp2
      go_ret
      exact ⟨ret_int (cmpI_eq (by omega) (by omega)).symm, rfl⟩

/-- What the walk calls a string's bytes. -/
theorem toList_len (s : ByteArray) : s.toList.length = s.size := by rw [Lib.toList_data, Lib.size_eq]
theorem toList_get (s : ByteArray) (k : Nat) (h : k < s.size) : s.toList[k]? = some s[k] := by
  rw [Lib.toList_data]
  have h2 : k < s.data.toList.length := by rw [← Lib.size_eq]; exact h
  rw [List.getElem?_eq_getElem h2]
  rfl
theorem ext_toList (s : ByteArray) (a b : Nat) : (s.extract a b).toList = (s.toList.drop a).take (b - a) := by rw [Lib.extract_toList, Lib.toList_data]
theorem ext_end (s : ByteArray) (a : Nat) : (s.extract a s.size).toList = s.toList.drop a := by
  rw [ext_toList, List.take_of_length_le (by rw [List.length_drop, toList_len]; omega)]
theorem ext_head (s : ByteArray) (b : Nat) : (s.extract 0 b).toList = s.toList.take b := by rw [ext_toList]; simp

theorem bytesLess_irrefl : ∀ (x : List UInt8), Op.bytesLess x x = false
  | [] => rfl
  | a :: x => by unfold Op.bytesLess; simp [bytesLess_irrefl x]

theorem cmpStr_any (a b : ByteArray) (w : World) :
    Calls Tryz.prog 82 #[.string a, .string b] w fun e w' => e = .returned (.int .i64 (Id.cmpB a.toList b.toList)) ∧ w = w' := by
  by_cases h : Op.bytesLess a.toList b.toList = true
  · have hne : (a.toList == b.toList) = false := by
      rw [beq_eq_false_iff_ne]; intro e; rw [e, bytesLess_irrefl] at h; cases h
    have e : Id.cmpB a.toList b.toList = -1 := by unfold Id.cmpB; rw [if_pos h]
    rw [e]
    go_enter Tryz.func82, Tryz.ntmps82
    go_wp2
    go_ret
    exact ⟨rfl, rfl⟩
  · replace h : Op.bytesLess a.toList b.toList = false := by simpa using h
    by_cases he : a.toList = b.toList
    · have hne : (a.toList == b.toList) = true := by simpa using he
      have e : Id.cmpB a.toList b.toList = 0 := by unfold Id.cmpB; rw [h]; simp [he]
      rw [e]
      replace he := Lib.hid he
      go_enter Tryz.func82, Tryz.ntmps82
      go_wp2
      go_ret
      exact ⟨rfl, rfl⟩
    · have hne : (a.toList == b.toList) = false := by simpa using he
      have e : Id.cmpB a.toList b.toList = 1 := by unfold Id.cmpB; rw [h]; simp [he]
      rw [e]
      go_enter Tryz.func82, Tryz.ntmps82
      go_wp2
      go_ret
      exact ⟨rfl, rfl⟩

theorem digI_dig (c : UInt8) : digI (c.toNat : Int) = Id.dig c := by
  unfold digI Id.dig
  rw [Bool.eq_iff_iff]; simp; omega
theorem runN_drop {l : List UInt8} {k : Nat} {c : UInt8} (h : l[k]? = some c) : Id.runN (l.drop k) = if Id.dig c then Id.runN (l.drop (k + 1)) + 1 else 0 := by
  obtain ⟨hk, he⟩ := List.getElem?_eq_some_iff.1 h
  rw [List.drop_eq_getElem_cons hk, he]
  rfl
theorem runN_end {l : List UInt8} {k : Nat} (h : l.length ≤ k) : Id.runN (l.drop k) = 0 := by
  rw [List.drop_eq_nil_of_le h]; rfl

theorem run_any (s : ByteArray) (hs : s.size ≤ 9223372036854775807) (w : World) :
    Calls Tryz.prog 52 #[.string s] w fun e w' => e = .returned (.int .i64 (Id.runN s.toList)) ∧ w = w' := by
  go_enter Tryz.func52, Tryz.ntmps52
  go_wp2_with fail
  go_loop [3] (fun i => ∃ k : Nat, k ≤ s.size ∧ i = .int .i64 k ∧ Id.runN s.toList = k + Id.runN (s.toList.drop k)) (fun i => s.size - (intOf i).toNat)
  case atStart => exact ⟨0, Nat.zero_le _, rfl, by simp⟩
  case round =>
    obtain ⟨k, hk, rfl, hr⟩ := hrel
    replace hr := Lib.hid hr
    by_cases hlt : k < s.size
    · have hd := Lib.hid (runN_drop (toList_get s k hlt))
      have hg := digI_dig s[k]
      rcases hc : Id.dig s[k] with _ | _
      · rw [hc] at hg
        go_wp2_with (first | (go_at_call 80; go_must (refine (digit_any _ _).mono ?_; rintro e w2 ⟨rfl, rfl⟩)))
        go_ret
        exact ⟨ret_int (by rw [hr.out, hd.out, hc]; simp), rfl⟩
      · rw [hc] at hg
        go_wp2_with (first | (go_at_call 80; go_must (refine (digit_any _ _).mono ?_; rintro e w2 ⟨rfl, rfl⟩)))
        go_round
        case rel => exact ⟨k + 1, by omega, by go_num, by rw [hr.out, hd.out, hc]; simp; omega⟩
        case measure => simp [intOf]; omega
    · go_wp2_with fail
      go_ret
      exact ⟨ret_int (by rw [hr.out, runN_end (by rw [toList_len]; omega)]; omega), rfl⟩
end Go.Proofs.YtdjepnilmgembaaGreatDoor
