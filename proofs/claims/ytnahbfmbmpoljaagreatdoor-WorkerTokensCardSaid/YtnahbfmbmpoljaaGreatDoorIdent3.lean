/-
  The walks of the reference's layer of names: runs of digits, their comparison, the natural order of strings.
-/
import Derived.Test.YtnahbfmbmpoljaaGreatDoorIdent2

namespace Go.Proofs.YtnahbfmbmpoljaaGreatDoor
open Go.RowKit

def ordB (l g : Bool) : Int := if l then -1 else if g then 1 else 0
theorem ordB_cmp (a b : Int) : ordB (decide (a < b)) (decide (b < a)) = Id.cmpI a b := by unfold ordB Id.cmpI; simp

theorem ordB_cmpN (a b : Nat) : ordB (decide (a < b)) (decide (b < a)) = Id.cmpI a b := by unfold ordB Id.cmpI; simp

theorem order_any (l g : Bool) (w : World) :
    Calls Tryz.prog 72 #[.bool l, .bool g] w fun e w' => e = .returned (.int .i64 (ordB l g)) ∧ w = w' := by
  rcases l with _ | _
  · rcases g with _ | _
    all_goals
      go_enter Tryz.func72, Tryz.ntmps72
      go_wp2
      go_ret
      exact ⟨rfl, rfl⟩
  · go_enter Tryz.func72, Tryz.ntmps72
    go_wp2
    go_ret
    exact ⟨rfl, rfl⟩

theorem rdigit_any (c : Int) (w : World) :
    Calls Tryz.prog 73 #[.int .u8 c] w fun e w' => e = .returned (.bool (digI c)) ∧ w = w' := by
  unfold digI
  by_cases h : 48 ≤ c
  · go_enter Tryz.func73, Tryz.ntmps73
    go_wp2
    go_ret
    exact ⟨ret_bool (by simp [h]), rfl⟩
  · go_enter Tryz.func73, Tryz.ntmps73
    go_wp2
    go_ret
    exact ⟨ret_bool (by simp; omega), rfl⟩

theorem rrun_any (s : ByteArray) (at_ : Nat) (hs : s.size ≤ 9223372036854775807) (h0 : at_ ≤ s.size) (w : World) :
    Calls Tryz.prog 74 #[.string s, .int .i64 (at_ : Int)] w fun e w' => e = .returned (.int .i64 ((at_ + Id.runN (s.toList.drop at_) : Nat) : Int)) ∧ w = w' := by
  go_enter Tryz.func74, Tryz.ntmps74
  go_wp2_with fail
  go_loop [1] (fun i => ∃ k : Nat, k ≤ s.size ∧ i = .int .i64 k ∧ at_ + Id.runN (s.toList.drop at_) = k + Id.runN (s.toList.drop k)) (fun i => s.size - (intOf i).toNat)
  case atStart => exact ⟨at_, h0, rfl, rfl⟩
  case round =>
    obtain ⟨k, hk, rfl, hr⟩ := hrel
    replace hr := Lib.hid hr
    by_cases hlt : k < s.size
    · have hd := Lib.hid (runN_drop (toList_get s k hlt))
      have hg := digI_dig s[k]
      rcases hc : Id.dig s[k] with _ | _
      · rw [hc] at hg
        go_wp2_with (first | (go_at_call 73; go_must (refine (rdigit_any _ _).mono ?_; rintro e w2 ⟨rfl, rfl⟩)))
        go_ret
        exact ⟨ret_int (by have h1 := hr.out; have h2 := hd.out; rw [hc] at h2; simp at h2; omega), rfl⟩
      · rw [hc] at hg
        go_wp2_with (first | (go_at_call 73; go_must (refine (rdigit_any _ _).mono ?_; rintro e w2 ⟨rfl, rfl⟩)))
        go_round
        case rel => exact ⟨k + 1, by omega, by go_num, by rw [hr.out, hd.out, hc]; simp; omega⟩
        case measure => simp [intOf]; omega
    · go_wp2_with fail
      go_ret
      exact ⟨ret_int (by have h1 := hr.out; have h2 := runN_end (l := s.toList) (k := k) (by rw [toList_len]; omega); omega), rfl⟩

theorem strip_drop {l : List UInt8} {k : Nat} {c : UInt8} (h : l[k]? = some c) : Id.strip (l.drop k) = if c = 48 then Id.strip (l.drop (k + 1)) else l.drop k := by
  obtain ⟨hk, he⟩ := List.getElem?_eq_some_iff.1 h
  rw [List.drop_eq_getElem_cons hk, he]
  rfl

theorem rstrip_any (s : ByteArray) (hs : s.size ≤ 9223372036854775807) (w : World) :
    Calls Tryz.prog 86 #[.string s] w fun e w' => ∃ x : ByteArray, e = .returned (.string x) ∧ w = w' ∧ x.toList = Id.strip s.toList := by
  go_enter Tryz.func86, Tryz.ntmps86
  go_wp2_with fail
  go_loop [3] (fun i => ∃ k : Nat, k ≤ s.size ∧ i = .int .i64 k ∧ Id.strip s.toList = Id.strip (s.toList.drop k)) (fun i => s.size - (intOf i).toNat)
  case atStart => exact ⟨0, Nat.zero_le _, rfl, by simp⟩
  case round =>
    obtain ⟨k, hk, rfl, hr⟩ := hrel
    replace hr := Lib.hid hr
    by_cases hlt : k < s.size
    · have hd := Lib.hid (strip_drop (toList_get s k hlt))
      by_cases hc : s[k] = 48
      · have h1 : ((s[k].toNat : Int) == 48) = true := by rw [hc]; rfl
        replace hc := Lib.hid hc
        go_wp2_with fail
        go_round
        case rel => exact ⟨k + 1, by omega, by go_num, by rw [hr.out, hd.out, hc.out]; simp⟩
        case measure => simp [intOf]; omega
      · have h1 : ((s[k].toNat : Int) == 48) = false := by rw [beq_eq_false_iff_ne]; intro e; exact hc (UInt8.toNat_inj.1 (by rw [show (48 : UInt8).toNat = 48 from rfl]; omega))
        replace hc := Lib.hid hc
        go_wp2_with fail
        go_ret
        exact ⟨_, rfl, rfl, by rw [ext_end, hr.out, hd.out, if_neg hc.out]⟩
    · obtain rfl : k = s.size := by omega
      go_wp2_with fail
      go_ret
      refine ⟨_, rfl, rfl, ?_⟩
      first
        | (rw [ext_end, hr.out, List.drop_eq_nil_of_le (by rw [toList_len]; omega)]; rfl)
        | (rw [hr.out, List.drop_eq_nil_of_le (by rw [toList_len]; omega), Lib.toList_data]; rfl)

theorem toList_ne {x y : ByteArray} (h : x.toList ≠ y.toList) : (x.toList == y.toList) = false := by simpa using h

theorem rruns_any (a b : ByteArray) (ha : a.size ≤ 9223372036854775807) (hb : b.size ≤ 9223372036854775807) (w : World) :
    Calls Tryz.prog 75 #[.string a, .string b] w fun e w' => e = .returned (.int .i64 (Id.nums a.toList b.toList)) ∧ w = w' := by
  go_enter Tryz.func75, Tryz.ntmps75
  go_wp2_with fail
  refine (rstrip_any a ha _).mono ?_
  rintro e w1 ⟨x, rfl, rfl, hx⟩
  replace hx := Lib.hid hx
  go_wp2_with fail
  refine (rstrip_any b hb _).mono ?_
  rintro e w1 ⟨y, rfl, rfl, hy⟩
  replace hy := Lib.hid hy
  have hn : Hid (Id.nums a.toList b.toList = Id.or3 (Id.cmpI x.size y.size) (Id.cmpB x.toList y.toList) (Id.cmpI a.size b.size)) := by
    apply Lib.hid
    unfold Id.nums
    rw [← hx.out, ← hy.out, toList_len, toList_len, toList_len, toList_len]
  by_cases hl : x.size = y.size
  · have h1 : ((x.size : Int) != (y.size : Int)) = false := by rw [hl]; simp
    replace hl := Lib.hid hl
    by_cases he : x.toList = y.toList
    · have h2 : (x.toList == y.toList) = true := by simpa using he
      replace he := Lib.hid he
      go_wp2_with (first | (go_at_call 72; go_must (refine (order_any _ _ _).mono ?_; rintro e w2 ⟨rfl, rfl⟩)))
      go_ret
      refine ⟨ret_int ?_, rfl⟩
      have e0 : Id.cmpB x.toList y.toList = 0 := by rw [he.out]; unfold Id.cmpB; rw [bytesLess_irrefl]; simp
      have e1 : Id.cmpI x.size y.size = 0 := by rw [hl.out]; exact cmpI_eq (by omega) (by omega)
      rw [hn.out, ordB_cmpN, e0, e1]
      simp [Id.or3]
    · have h2 : (x.toList == y.toList) = false := by simpa using he
      replace he := Lib.hid he
      go_wp2_with (first | (go_at_call 72; go_must (refine (order_any _ _ _).mono ?_; rintro e w2 ⟨rfl, rfl⟩)))
      go_ret
      refine ⟨ret_int ?_, rfl⟩
      have e1 : Id.cmpI x.size y.size = 0 := by rw [hl.out]; exact cmpI_eq (by omega) (by omega)
      rw [hn.out, e1]
      unfold Id.or3 Id.cmpB ordB
      rcases hB : Op.bytesLess x.toList y.toList with _ | _
      · simp [he.out]
      · simp
  · have h1 : ((x.size : Int) != (y.size : Int)) = true := by rw [bne_iff_ne]; omega
    go_wp2_with (first | (go_at_call 72; go_must (refine (order_any _ _ _).mono ?_; rintro e w2 ⟨rfl, rfl⟩)))
    go_ret
    refine ⟨ret_int ?_, rfl⟩
    rw [hn.out, ordB_cmpN]
    unfold Id.or3
    rw [if_pos]
    unfold Id.cmpI
    split
    · decide
    · split
      · decide
      · omega

theorem runN_ne {l : List UInt8} {k : Nat} {c : UInt8} (h : l[k]? = some c) : Id.runN (l.drop k) ≠ 0 ↔ Id.dig c = true := by
  rw [runN_drop h]; split <;> simp_all
theorem drop_ne {s : ByteArray} {k : Nat} (h : k < s.size) : s.toList.drop k ≠ [] := by
  intro e; have := List.drop_eq_nil_iff.1 e; rw [toList_len] at this; omega
theorem drop_head {l : List UInt8} {k : Nat} {c : UInt8} (h : l[k]? = some c) : (l.drop k).head? = some c ∧ (l.drop k).headD 0 = c ∧ (l.drop k).tail = l.drop (k + 1) := by
  obtain ⟨hk, he⟩ := List.getElem?_eq_some_iff.1 h
  rw [List.drop_eq_getElem_cons hk, he]
  exact ⟨rfl, rfl, rfl⟩

set_option maxHeartbeats 2000000 in
theorem rcompare_any (a b : ByteArray) (ha : a.size ≤ 9223372036854775807) (hb : b.size ≤ 9223372036854775807) (w : World) :
    Calls Tryz.prog 63 #[.string a, .string b] w fun e w' => e = .returned (.int .i64 (Id.cmpN a.toList b.toList)) ∧ ∃ n, w' = w.drewN n := by
  go_enter Tryz.func63, Tryz.ntmps63
  go_wp2_with fail
  go_loopw [5, 6, 7, 8, 9] (fun vi vk _ _ _ wr => ∃ i k n : Nat, vi = .int .i64 (i : Int) ∧ vk = .int .i64 (k : Int) ∧ i ≤ a.size ∧ k ≤ b.size ∧ Id.cmpN a.toList b.toList = Id.cmpN (a.toList.drop i) (b.toList.drop k) ∧ wr = w.drewN n) (fun vi _ _ _ _ _ => a.size - (intOf vi).toNat)
  case atStart => exact ⟨0, 0, 0, rfl, rfl, Nat.zero_le _, Nat.zero_le _, by simp, rfl⟩
  case round =>
    obtain ⟨i, k, n, rfl, rfl, hi, hk, hr, rfl⟩ := hrel
    replace hr := Lib.hid hr
    by_cases h1 : i < a.size
    · by_cases h2 : k < b.size
      · have gi := toList_get a i h1
        have gk := toList_get b k h2
        have ra := Id.runN_le (a.toList.drop i)
        have rb := Id.runN_le (b.toList.drop k)
        rw [List.length_drop, toList_len] at ra rb
        have s1 := Lib.hid (@Id.cmpN_run _ _ (drop_ne h1) (drop_ne h2))
        have s2 := Lib.hid (@Id.cmpN_byte _ _ (drop_ne h1) (drop_ne h2))
        have d1 := Lib.hid (runN_ne gi)
        have d2 := Lib.hid (runN_ne gk)
        have e1 := Lib.hid (drop_head gi)
        have e2 := Lib.hid (drop_head gk)
        have g1 := digI_dig a[i]
        have g2 := digI_dig b[k]
        clear gi gk
        obtain ⟨N, hN⟩ : ∃ N, Id.runN (a.toList.drop i) = N := ⟨_, rfl⟩
        obtain ⟨M, hM⟩ : ∃ M, Id.runN (b.toList.drop k) = M := ⟨_, rfl⟩
        rw [hN] at ra s1 s2 d1
        rw [hM] at rb s1 s2 d2
        replace hN := Lib.hid hN
        replace hM := Lib.hid hM
        by_cases hd : Id.dig a[i] = true ∧ Id.dig b[k] = true
        · obtain ⟨hd1, hd2⟩ := hd
          rw [hd1] at g1
          rw [hd2] at g2
          have n1 := d1.out.2 hd1
          have n2 := d2.out.2 hd2
          replace s1 := Lib.hid (s1.out n1 n2)
          go_wp2_with fail
          go_quiet ((first | (go_at_call 72; exact Calls.quiet_of_same ((order_any _ _ _).mono fun _ _ h => ⟨h.1, h.2.symm⟩)) | (go_at_call 72; exact quiet_add_same (order_any _ _ _))))
          go_wp2_with (first | (go_at_call 73; go_must (refine (rdigit_any _ _).mono ?_; rintro e w2 ⟨rfl, rfl⟩)))
          refine (rrun_any a i ha hi _).mono ?_
          rintro e w2 ⟨rfl, rfl⟩
          rw [hN.out]
          go_wp2_with fail
          refine (rrun_any b k hb hk _).mono ?_
          rintro e w2 ⟨rfl, rfl⟩
          rw [hM.out]
          go_wp2_with fail
          go_quiet ((go_at_call 75; exact quiet_add_same (rruns_any _ _ (by (try simp) <;> omega) (by (try simp) <;> omega) _)))
          have t1 := Lib.hid (ext_toList a i (i + N))
          have t2 := Lib.hid (ext_toList b k (k + M))
          obtain ⟨X, hX⟩ : ∃ X, (a.extract i (i + N)).toList = X := ⟨_, rfl⟩
          obtain ⟨Y, hY⟩ : ∃ Y, (b.extract k (k + M)).toList = Y := ⟨_, rfl⟩
          rw [hX] at t1
          rw [hY] at t2
          rw [hX, hY]
          replace hX := Lib.hid hX
          replace hY := Lib.hid hY
          by_cases hc : Id.nums X Y = 0
          · have hc1 : (Id.nums X Y != 0) = false := by rw [hc]; rfl
            replace hc := Lib.hid hc
            go_wp2_with fail
            go_roundw
            case rel => exact ⟨i + N, k + M, _, by go_num, by go_num, by omega, by omega, by rw [hr.out, s1.out, if_neg (by rw [← show X = List.take N (List.drop i a.toList) by rw [t1.out]; congr 1; omega, ← show Y = List.take M (List.drop k b.toList) by rw [t2.out]; congr 1; omega, hc.out]; simp), List.drop_drop, List.drop_drop], rfl⟩
            case measure => simp [intOf]; omega
          · have hc1 : (Id.nums X Y != 0) = true := by simpa using hc
            replace hc := Lib.hid hc
            go_wp2_with fail
            go_ret
            refine ⟨ret_int ?_, _, rfl⟩
            rw [hr.out, s1.out, ← show X = List.take N (List.drop i a.toList) by rw [t1.out]; congr 1; omega, ← show Y = List.take M (List.drop k b.toList) by rw [t2.out]; congr 1; omega, if_pos hc.out]
        · replace s2 := Lib.hid (s2.out (fun h => hd ⟨d1.out.1 h.1, d2.out.1 h.2⟩))
          rw [e1.out.1, e2.out.1, e1.out.2.1, e2.out.2.1, e1.out.2.2, e2.out.2.2] at s2
          rcases hda : Id.dig a[i] with _ | _
          · rw [hda] at g1
            by_cases hq : a[i] = b[k]
            · have hz : (ordB (decide (a[i].toNat < b[k].toNat)) (decide (b[k].toNat < a[i].toNat)) != 0) = false := by rw [hq]; simp [ordB]
              replace hq := Lib.hid hq
              go_wp2_with fail
              go_quiet ((first | (go_at_call 72; exact Calls.quiet_of_same ((order_any _ _ _).mono fun _ _ h => ⟨h.1, h.2.symm⟩)) | (go_at_call 72; exact quiet_add_same (order_any _ _ _))))
              go_wp2_with (first | (go_at_call 73; go_must (refine (rdigit_any _ _).mono ?_; rintro e w2 ⟨rfl, rfl⟩)))
              go_roundw
              case rel => exact ⟨i + 1, k + 1, _, by go_num, by go_num, by omega, by omega, by rw [hr.out, s2.out, if_neg (by rw [hq.out]; simp)], rfl⟩
              case measure => simp [intOf]; omega
            · have hz0 : ¬ a[i].toNat = b[k].toNat := fun e => hq (UInt8.toNat_inj.1 e)
              have hz : (ordB (decide (a[i].toNat < b[k].toNat)) (decide (b[k].toNat < a[i].toNat)) != 0) = true := by
                rw [bne_iff_ne]; unfold ordB
                by_cases hl : a[i].toNat < b[k].toNat
                · simp [hl]
                · simp [hl, show b[k].toNat < a[i].toNat by omega]
              replace hq := Lib.hid hq
              replace hz0 := Lib.hid hz0
              go_wp2_with fail
              go_quiet ((first | (go_at_call 72; exact Calls.quiet_of_same ((order_any _ _ _).mono fun _ _ h => ⟨h.1, h.2.symm⟩)) | (go_at_call 72; exact quiet_add_same (order_any _ _ _))))
              go_wp2_with (first | (go_at_call 73; go_must (refine (rdigit_any _ _).mono ?_; rintro e w2 ⟨rfl, rfl⟩)))
              go_ret
              refine ⟨ret_int ?_, _, rfl⟩
              rw [hr.out, s2.out, if_pos (by simpa using hq.out), ← ordB_cmpN]
          · rcases hdb : Id.dig b[k] with _ | _
            · rw [hda] at g1
              rw [hdb] at g2
              by_cases hq : a[i] = b[k]
              · have hz : (ordB (decide (a[i].toNat < b[k].toNat)) (decide (b[k].toNat < a[i].toNat)) != 0) = false := by rw [hq]; simp [ordB]
                replace hq := Lib.hid hq
                go_wp2_with fail
                go_quiet ((first | (go_at_call 72; exact Calls.quiet_of_same ((order_any _ _ _).mono fun _ _ h => ⟨h.1, h.2.symm⟩)) | (go_at_call 72; exact quiet_add_same (order_any _ _ _))))
                go_wp2_with (first | (go_at_call 73; go_must (refine (rdigit_any _ _).mono ?_; rintro e w2 ⟨rfl, rfl⟩)))
                go_roundw
                case rel => exact ⟨i + 1, k + 1, _, by go_num, by go_num, by omega, by omega, by rw [hr.out, s2.out, if_neg (by rw [hq.out]; simp)], rfl⟩
                case measure => simp [intOf]; omega
              · have hz0 : ¬ a[i].toNat = b[k].toNat := fun e => hq (UInt8.toNat_inj.1 e)
                have hz : (ordB (decide (a[i].toNat < b[k].toNat)) (decide (b[k].toNat < a[i].toNat)) != 0) = true := by
                  rw [bne_iff_ne]; unfold ordB
                  by_cases hl : a[i].toNat < b[k].toNat
                  · simp [hl]
                  · simp [hl, show b[k].toNat < a[i].toNat by omega]
                replace hq := Lib.hid hq
                replace hz0 := Lib.hid hz0
                go_wp2_with fail
                go_quiet ((first | (go_at_call 72; exact Calls.quiet_of_same ((order_any _ _ _).mono fun _ _ h => ⟨h.1, h.2.symm⟩)) | (go_at_call 72; exact quiet_add_same (order_any _ _ _))))
                go_wp2_with (first | (go_at_call 73; go_must (refine (rdigit_any _ _).mono ?_; rintro e w2 ⟨rfl, rfl⟩)))
                go_ret
                refine ⟨ret_int ?_, _, rfl⟩
                rw [hr.out, s2.out, if_pos (by simpa using hq.out), ← ordB_cmpN]
            · exact absurd ⟨hda, hdb⟩ hd
      · obtain rfl : k = b.size := by omega
        go_wp2_with (first | (go_at_call 72; go_must (refine (order_any _ _ _).mono ?_; rintro e w2 ⟨rfl, rfl⟩)))
        go_ret
        refine ⟨ret_int ?_, n, rfl⟩
        rw [hr.out, Id.cmpN_end (.inr (List.drop_eq_nil_of_le (by rw [toList_len]; omega))), List.length_drop, List.length_drop, toList_len, toList_len]
        rw [cmpI_gt (by omega)]; rfl
    · obtain rfl : i = a.size := by omega
      go_wp2_with (first | (go_at_call 72; go_must (refine (order_any _ _ _).mono ?_; rintro e w2 ⟨rfl, rfl⟩)))
      go_ret
      refine ⟨ret_int ?_, n, rfl⟩
      rw [hr.out, Id.cmpN_end (.inl (List.drop_eq_nil_of_le (by rw [toList_len]; omega))), List.length_drop, List.length_drop, toList_len, toList_len]
      by_cases hkb : k < b.size
      · rw [cmpI_lt (by omega)]; simp [ordB, hkb]
      · rw [cmpI_eq (by omega) (by omega)]; simp [ordB, hkb]
end Go.Proofs.YtnahbfmbmpoljaaGreatDoor
