/-
  The walks of the reference's layer of names: runs of digits, their comparison, the natural order of strings.
  Plain laws of strictly ascending lists: there is one of given elements; a sorted list without its repetitions; an element put into its place.
  The walks of the layer of names: lists of strings, sorted without repetitions, by the program.
  The walks of the layer of names: whether a string is a name, by the program and by the reference.
  The walks of the reference's lists of strings: whether two are equal, whether one has a string, whether one ascends, and the sorted list.
  The walk of the reference's sorted list of strings.
  Arguments opened, further: a slice within a struct; slices of structs whose readings say more than their cells.
-/
import Derived.Test.YtdjepnilmgembaaGreatDoorIdent2
import Derived.Sort.Statements
import Derived.Lib.SlicesCompact
import Derived.Shelf.SlSortCmp.NoneTotal
import Derived.Test.YtdjepnilmgembaaGreatDoorBase1
import Derived.Shelf.SlicesE.Equal

namespace Go.Proofs.YtdjepnilmgembaaGreatDoor
open Go.RowKit

def ordB (l g : Bool) : Int := if l then -1 else if g then 1 else 0
theorem ordB_cmp (a b : Int) : ordB (decide (a < b)) (decide (b < a)) = Id.cmpI a b := by unfold ordB Id.cmpI; simp

theorem ordB_cmpN (a b : Nat) : ordB (decide (a < b)) (decide (b < a)) = Id.cmpI a b := by unfold ordB Id.cmpI; simp

theorem order_any (l g : Bool) (w : World) :
    Calls Tryz.prog 85 #[.bool l, .bool g] w fun e w' => e = .returned (.int .i64 (ordB l g)) ∧ w = w' := by
  rcases l with _ | _
  · rcases g with _ | _
    all_goals
      go_enter Tryz.func85, Tryz.ntmps85
      go_wp2
      go_ret
      exact ⟨rfl, rfl⟩
  · go_enter Tryz.func85, Tryz.ntmps85
    go_wp2
    go_ret
    exact ⟨rfl, rfl⟩

theorem rdigit_any (c : Int) (w : World) :
    Calls Tryz.prog 86 #[.int .u8 c] w fun e w' => e = .returned (.bool (digI c)) ∧ w = w' := by
  unfold digI
  by_cases h : 48 ≤ c
  · go_enter Tryz.func86, Tryz.ntmps86
    go_wp2
    go_ret
    exact ⟨ret_bool (by simp [h]), rfl⟩
  · go_enter Tryz.func86, Tryz.ntmps86
    go_wp2
    go_ret
    exact ⟨ret_bool (by simp; omega), rfl⟩

theorem rrun_any (s : ByteArray) (at_ : Nat) (hs : s.size ≤ 9223372036854775807) (h0 : at_ ≤ s.size) (w : World) :
    Calls Tryz.prog 87 #[.string s, .int .i64 (at_ : Int)] w fun e w' => e = .returned (.int .i64 ((at_ + Id.runN (s.toList.drop at_) : Nat) : Int)) ∧ w = w' := by
  go_enter Tryz.func87, Tryz.ntmps87
  go_wp2_with fail
  go_loop [1] (fun i => ∃ k : Nat, k ≤ s.size ∧ i = .int .i64 k ∧ at_ + Id.runN (s.toList.drop at_) = k + Id.runN (s.toList.drop k)) (fun i => s.size - (intOf i).toNat)
  case atStart => exact ⟨at_, h0, rfl, rfl⟩
  case round =>
    obtain ⟨k, hk, rfl, hr⟩ := hrel
    replace hr := Lib.hid hr
    by_cases hlt : k < s.size
    · have hd := Lib.hid (runN_drop (toList_get s k hlt))
      have hg := digI_dig s[k]
      rcases hc : Id.dig s[k] with _ | _
      · rw [hc] at hg
        go_wp2_with (first | (go_at_call 86; go_must (refine (rdigit_any _ _).mono ?_; rintro e w2 ⟨rfl, rfl⟩)))
        go_ret
        exact ⟨ret_int (by have h1 := hr.out; have h2 := hd.out; rw [hc] at h2; simp at h2; omega), rfl⟩
      · rw [hc] at hg
        go_wp2_with (first | (go_at_call 86; go_must (refine (rdigit_any _ _).mono ?_; rintro e w2 ⟨rfl, rfl⟩)))
        go_round
        case rel => exact ⟨k + 1, by omega, by go_num, by rw [hr.out, hd.out, hc]; simp; omega⟩
        case measure => simp [intOf]; omega
    · go_wp2_with fail
      go_ret
      exact ⟨ret_int (by have h1 := hr.out; have h2 := runN_end (l := s.toList) (k := k) (by rw [toList_len]; omega); omega), rfl⟩

theorem strip_drop {l : List UInt8} {k : Nat} {c : UInt8} (h : l[k]? = some c) : Id.strip (l.drop k) = if c = 48 then Id.strip (l.drop (k + 1)) else l.drop k := by
  obtain ⟨hk, he⟩ := List.getElem?_eq_some_iff.1 h
  rw [List.drop_eq_getElem_cons hk, he]
  rfl

theorem rstrip_any (s : ByteArray) (hs : s.size ≤ 9223372036854775807) (w : World) :
    Calls Tryz.prog 108 #[.string s] w fun e w' => ∃ x : ByteArray, e = .returned (.string x) ∧ w = w' ∧ x.toList = Id.strip s.toList := by
  go_enter Tryz.func108, Tryz.ntmps108
  go_wp2_with fail
  go_loop [3] (fun i => ∃ k : Nat, k ≤ s.size ∧ i = .int .i64 k ∧ Id.strip s.toList = Id.strip (s.toList.drop k)) (fun i => s.size - (intOf i).toNat)
  case atStart => exact ⟨0, Nat.zero_le _, rfl, by simp⟩
  case round =>
    obtain ⟨k, hk, rfl, hr⟩ := hrel
    replace hr := Lib.hid hr
    by_cases hlt : k < s.size
    · have hd := Lib.hid (strip_drop (toList_get s k hlt))
      by_cases hc : s[k] = 48
      · have h1 : ((s[k].toNat : Int) == 48) = true := by rw [hc]; rfl
        replace hc := Lib.hid hc
        go_wp2_with fail
        go_round
        case rel => exact ⟨k + 1, by omega, by go_num, by rw [hr.out, hd.out, hc.out]; simp⟩
        case measure => simp [intOf]; omega
      · have h1 : ((s[k].toNat : Int) == 48) = false := by rw [beq_eq_false_iff_ne]; intro e; exact hc (UInt8.toNat_inj.1 (by rw [show (48 : UInt8).toNat = 48 from rfl]; omega))
        replace hc := Lib.hid hc
        go_wp2_with fail
        go_ret
        exact ⟨_, rfl, rfl, by rw [ext_end, hr.out, hd.out, if_neg hc.out]⟩
    · obtain rfl : k = s.size := by omega
      go_wp2_with fail
      go_ret
      refine ⟨_, rfl, rfl, ?_⟩
      first
        | (rw [ext_end, hr.out, List.drop_eq_nil_of_le (by rw [toList_len]; omega)]; rfl)
        | (rw [hr.out, List.drop_eq_nil_of_le (by rw [toList_len]; omega), Lib.toList_data]; rfl)

theorem toList_ne {x y : ByteArray} (h : x.toList ≠ y.toList) : (x.toList == y.toList) = false := by simpa using h

theorem rruns_any (a b : ByteArray) (ha : a.size ≤ 9223372036854775807) (hb : b.size ≤ 9223372036854775807) (w : World) :
    Calls Tryz.prog 88 #[.string a, .string b] w fun e w' => e = .returned (.int .i64 (Id.nums a.toList b.toList)) ∧ w = w' := by
  go_enter Tryz.func88, Tryz.ntmps88
  go_wp2_with fail
  refine (rstrip_any a ha _).mono ?_
  rintro e w1 ⟨x, rfl, rfl, hx⟩
  replace hx := Lib.hid hx
  go_wp2_with fail
  refine (rstrip_any b hb _).mono ?_
  rintro e w1 ⟨y, rfl, rfl, hy⟩
  replace hy := Lib.hid hy
  have hn : Hid (Id.nums a.toList b.toList = Id.or3 (Id.cmpI x.size y.size) (Id.cmpB x.toList y.toList) (Id.cmpI a.size b.size)) := by
    apply Lib.hid
    unfold Id.nums
    rw [← hx.out, ← hy.out, toList_len, toList_len, toList_len, toList_len]
  by_cases hl : x.size = y.size
  · have h1 : ((x.size : Int) != (y.size : Int)) = false := by rw [hl]; simp
    replace hl := Lib.hid hl
    by_cases he : x.toList = y.toList
    · have h2 : (x.toList == y.toList) = true := by simpa using he
      replace he := Lib.hid he
      go_wp2_with (first | (go_at_call 85; go_must (refine (order_any _ _ _).mono ?_; rintro e w2 ⟨rfl, rfl⟩)))
      go_ret
      refine ⟨ret_int ?_, rfl⟩
      have e0 : Id.cmpB x.toList y.toList = 0 := by rw [he.out]; unfold Id.cmpB; rw [bytesLess_irrefl]; simp
      have e1 : Id.cmpI x.size y.size = 0 := by rw [hl.out]; exact cmpI_eq (by omega) (by omega)
      rw [hn.out, ordB_cmpN, e0, e1]
      simp [Id.or3]
    · have h2 : (x.toList == y.toList) = false := by simpa using he
      replace he := Lib.hid he
      go_wp2_with (first | (go_at_call 85; go_must (refine (order_any _ _ _).mono ?_; rintro e w2 ⟨rfl, rfl⟩)))
      go_ret
      refine ⟨ret_int ?_, rfl⟩
      have e1 : Id.cmpI x.size y.size = 0 := by rw [hl.out]; exact cmpI_eq (by omega) (by omega)
      rw [hn.out, e1]
      unfold Id.or3 Id.cmpB ordB
      rcases hB : Op.bytesLess x.toList y.toList with _ | _
      · simp [he.out]
      · simp
  · have h1 : ((x.size : Int) != (y.size : Int)) = true := by rw [bne_iff_ne]; omega
    go_wp2_with (first | (go_at_call 85; go_must (refine (order_any _ _ _).mono ?_; rintro e w2 ⟨rfl, rfl⟩)))
    go_ret
    refine ⟨ret_int ?_, rfl⟩
    rw [hn.out, ordB_cmpN]
    unfold Id.or3
    rw [if_pos]
    unfold Id.cmpI
    split
    · decide
    · split
      · decide
      · omega

theorem runN_ne {l : List UInt8} {k : Nat} {c : UInt8} (h : l[k]? = some c) : Id.runN (l.drop k) ≠ 0 ↔ Id.dig c = true := by
  rw [runN_drop h]; split <;> simp_all
theorem drop_ne {s : ByteArray} {k : Nat} (h : k < s.size) : s.toList.drop k ≠ [] := by
  intro e; have := List.drop_eq_nil_iff.1 e; rw [toList_len] at this; omega
theorem drop_head {l : List UInt8} {k : Nat} {c : UInt8} (h : l[k]? = some c) : (l.drop k).head? = some c ∧ (l.drop k).headD 0 = c ∧ (l.drop k).tail = l.drop (k + 1) := by
  obtain ⟨hk, he⟩ := List.getElem?_eq_some_iff.1 h
  rw [List.drop_eq_getElem_cons hk, he]
  exact ⟨rfl, rfl, rfl⟩

set_option maxHeartbeats 2000000 in
theorem rcompare_any (a b : ByteArray) (ha : a.size ≤ 9223372036854775807) (hb : b.size ≤ 9223372036854775807) (w : World) :
    Calls Tryz.prog 58 #[.string a, .string b] w fun e w' => e = .returned (.int .i64 (Id.cmpN a.toList b.toList)) ∧ ∃ n, w' = w.drewN n := by
  go_enter Tryz.func58, Tryz.ntmps58
  go_wp2_with fail
  go_loopw [5, 6, 7, 8, 9] (fun vi vk _ _ _ wr => ∃ i k n : Nat, vi = .int .i64 (i : Int) ∧ vk = .int .i64 (k : Int) ∧ i ≤ a.size ∧ k ≤ b.size ∧ Id.cmpN a.toList b.toList = Id.cmpN (a.toList.drop i) (b.toList.drop k) ∧ wr = w.drewN n) (fun vi _ _ _ _ _ => a.size - (intOf vi).toNat)
  case atStart => exact ⟨0, 0, 0, rfl, rfl, Nat.zero_le _, Nat.zero_le _, by simp, rfl⟩
  case round =>
    obtain ⟨i, k, n, rfl, rfl, hi, hk, hr, rfl⟩ := hrel
    replace hr := Lib.hid hr
    by_cases h1 : i < a.size
    · by_cases h2 : k < b.size
      · have gi := toList_get a i h1
        have gk := toList_get b k h2
        have ra := Id.runN_le (a.toList.drop i)
        have rb := Id.runN_le (b.toList.drop k)
        rw [List.length_drop, toList_len] at ra rb
        have s1 := Lib.hid (@Id.cmpN_run _ _ (drop_ne h1) (drop_ne h2))
        have s2 := Lib.hid (@Id.cmpN_byte _ _ (drop_ne h1) (drop_ne h2))
        have d1 := Lib.hid (runN_ne gi)
        have d2 := Lib.hid (runN_ne gk)
        have e1 := Lib.hid (drop_head gi)
        have e2 := Lib.hid (drop_head gk)
        have g1 := digI_dig a[i]
        have g2 := digI_dig b[k]
        clear gi gk
        obtain ⟨N, hN⟩ : ∃ N, Id.runN (a.toList.drop i) = N := ⟨_, rfl⟩
        obtain ⟨M, hM⟩ : ∃ M, Id.runN (b.toList.drop k) = M := ⟨_, rfl⟩
        rw [hN] at ra s1 s2 d1
        rw [hM] at rb s1 s2 d2
        replace hN := Lib.hid hN
        replace hM := Lib.hid hM
        by_cases hd : Id.dig a[i] = true ∧ Id.dig b[k] = true
        · obtain ⟨hd1, hd2⟩ := hd
          rw [hd1] at g1
          rw [hd2] at g2
          have n1 := d1.out.2 hd1
          have n2 := d2.out.2 hd2
          replace s1 := Lib.hid (s1.out n1 n2)
          go_wp2_with fail
          go_quiet ((first | (go_at_call 85; exact Calls.quiet_of_same ((order_any _ _ _).mono fun _ _ h => ⟨h.1, h.2.symm⟩)) | (go_at_call 85; exact quiet_add_same (order_any _ _ _))))
          go_wp2_with (first | (go_at_call 86; go_must (refine (rdigit_any _ _).mono ?_; rintro e w2 ⟨rfl, rfl⟩)))
          refine (rrun_any a i ha hi _).mono ?_
          rintro e w2 ⟨rfl, rfl⟩
          rw [hN.out]
          go_wp2_with fail
          refine (rrun_any b k hb hk _).mono ?_
          rintro e w2 ⟨rfl, rfl⟩
          rw [hM.out]
          go_wp2_with fail
          go_quiet ((go_at_call 88; exact quiet_add_same (rruns_any _ _ (by (try simp) <;> omega) (by (try simp) <;> omega) _)))
          have t1 := Lib.hid (ext_toList a i (i + N))
          have t2 := Lib.hid (ext_toList b k (k + M))
          obtain ⟨X, hX⟩ : ∃ X, (a.extract i (i + N)).toList = X := ⟨_, rfl⟩
          obtain ⟨Y, hY⟩ : ∃ Y, (b.extract k (k + M)).toList = Y := ⟨_, rfl⟩
          rw [hX] at t1
          rw [hY] at t2
          rw [hX, hY]
          replace hX := Lib.hid hX
          replace hY := Lib.hid hY
          by_cases hc : Id.nums X Y = 0
          · have hc1 : (Id.nums X Y != 0) = false := by rw [hc]; rfl
            replace hc := Lib.hid hc
            go_wp2_with fail
            go_roundw
            case rel => exact ⟨i + N, k + M, _, by go_num, by go_num, by omega, by omega, by rw [hr.out, s1.out, if_neg (by rw [← show X = List.take N (List.drop i a.toList) by rw [t1.out]; congr 1; omega, ← show Y = List.take M (List.drop k b.toList) by rw [t2.out]; congr 1; omega, hc.out]; simp), List.drop_drop, List.drop_drop], rfl⟩
            case measure => simp [intOf]; omega
          · have hc1 : (Id.nums X Y != 0) = true := by simpa using hc
            replace hc := Lib.hid hc
            go_wp2_with fail
            go_ret
            refine ⟨ret_int ?_, _, rfl⟩
            rw [hr.out, s1.out, ← show X = List.take N (List.drop i a.toList) by rw [t1.out]; congr 1; omega, ← show Y = List.take M (List.drop k b.toList) by rw [t2.out]; congr 1; omega, if_pos hc.out]
        · replace s2 := Lib.hid (s2.out (fun h => hd ⟨d1.out.1 h.1, d2.out.1 h.2⟩))
          rw [e1.out.1, e2.out.1, e1.out.2.1, e2.out.2.1, e1.out.2.2, e2.out.2.2] at s2
          rcases hda : Id.dig a[i] with _ | _
          · rw [hda] at g1
            by_cases hq : a[i] = b[k]
            · have hz : (ordB (decide (a[i].toNat < b[k].toNat)) (decide (b[k].toNat < a[i].toNat)) != 0) = false := by rw [hq]; simp [ordB]
              replace hq := Lib.hid hq
              go_wp2_with fail
              go_quiet ((first | (go_at_call 85; exact Calls.quiet_of_same ((order_any _ _ _).mono fun _ _ h => ⟨h.1, h.2.symm⟩)) | (go_at_call 85; exact quiet_add_same (order_any _ _ _))))
              go_wp2_with (first | (go_at_call 86; go_must (refine (rdigit_any _ _).mono ?_; rintro e w2 ⟨rfl, rfl⟩)))
              go_roundw
              case rel => exact ⟨i + 1, k + 1, _, by go_num, by go_num, by omega, by omega, by rw [hr.out, s2.out, if_neg (by rw [hq.out]; simp)], rfl⟩
              case measure => simp [intOf]; omega
            · have hz0 : ¬ a[i].toNat = b[k].toNat := fun e => hq (UInt8.toNat_inj.1 e)
              have hz : (ordB (decide (a[i].toNat < b[k].toNat)) (decide (b[k].toNat < a[i].toNat)) != 0) = true := by
                rw [bne_iff_ne]; unfold ordB
                by_cases hl : a[i].toNat < b[k].toNat
                · simp [hl]
                · simp [hl, show b[k].toNat < a[i].toNat by omega]
              replace hq := Lib.hid hq
              replace hz0 := Lib.hid hz0
              go_wp2_with fail
              go_quiet ((first | (go_at_call 85; exact Calls.quiet_of_same ((order_any _ _ _).mono fun _ _ h => ⟨h.1, h.2.symm⟩)) | (go_at_call 85; exact quiet_add_same (order_any _ _ _))))
              go_wp2_with (first | (go_at_call 86; go_must (refine (rdigit_any _ _).mono ?_; rintro e w2 ⟨rfl, rfl⟩)))
              go_ret
              refine ⟨ret_int ?_, _, rfl⟩
              rw [hr.out, s2.out, if_pos (by simpa using hq.out), ← ordB_cmpN]
          · rcases hdb : Id.dig b[k] with _ | _
            · rw [hda] at g1
              rw [hdb] at g2
              by_cases hq : a[i] = b[k]
              · have hz : (ordB (decide (a[i].toNat < b[k].toNat)) (decide (b[k].toNat < a[i].toNat)) != 0) = false := by rw [hq]; simp [ordB]
                replace hq := Lib.hid hq
                go_wp2_with fail
                go_quiet ((first | (go_at_call 85; exact Calls.quiet_of_same ((order_any _ _ _).mono fun _ _ h => ⟨h.1, h.2.symm⟩)) | (go_at_call 85; exact quiet_add_same (order_any _ _ _))))
                go_wp2_with (first | (go_at_call 86; go_must (refine (rdigit_any _ _).mono ?_; rintro e w2 ⟨rfl, rfl⟩)))
                go_roundw
                case rel => exact ⟨i + 1, k + 1, _, by go_num, by go_num, by omega, by omega, by rw [hr.out, s2.out, if_neg (by rw [hq.out]; simp)], rfl⟩
                case measure => simp [intOf]; omega
              · have hz0 : ¬ a[i].toNat = b[k].toNat := fun e => hq (UInt8.toNat_inj.1 e)
                have hz : (ordB (decide (a[i].toNat < b[k].toNat)) (decide (b[k].toNat < a[i].toNat)) != 0) = true := by
                  rw [bne_iff_ne]; unfold ordB
                  by_cases hl : a[i].toNat < b[k].toNat
                  · simp [hl]
                  · simp [hl, show b[k].toNat < a[i].toNat by omega]
                replace hq := Lib.hid hq
                replace hz0 := Lib.hid hz0
                go_wp2_with fail
                go_quiet ((first | (go_at_call 85; exact Calls.quiet_of_same ((order_any _ _ _).mono fun _ _ h => ⟨h.1, h.2.symm⟩)) | (go_at_call 85; exact quiet_add_same (order_any _ _ _))))
                go_wp2_with (first | (go_at_call 86; go_must (refine (rdigit_any _ _).mono ?_; rintro e w2 ⟨rfl, rfl⟩)))
                go_ret
                refine ⟨ret_int ?_, _, rfl⟩
                rw [hr.out, s2.out, if_pos (by simpa using hq.out), ← ordB_cmpN]
            · exact absurd ⟨hda, hdb⟩ hd
      · obtain rfl : k = b.size := by omega
        go_wp2_with (first | (go_at_call 85; go_must (refine (order_any _ _ _).mono ?_; rintro e w2 ⟨rfl, rfl⟩)))
        go_ret
        refine ⟨ret_int ?_, n, rfl⟩
        rw [hr.out, Id.cmpN_end (.inr (List.drop_eq_nil_of_le (by rw [toList_len]; omega))), List.length_drop, List.length_drop, toList_len, toList_len]
        rw [cmpI_gt (by omega)]; rfl
    · obtain rfl : i = a.size := by omega
      go_wp2_with (first | (go_at_call 85; go_must (refine (order_any _ _ _).mono ?_; rintro e w2 ⟨rfl, rfl⟩)))
      go_ret
      refine ⟨ret_int ?_, n, rfl⟩
      rw [hr.out, Id.cmpN_end (.inl (List.drop_eq_nil_of_le (by rw [toList_len]; omega))), List.length_drop, List.length_drop, toList_len, toList_len]
      by_cases hkb : k < b.size
      · rw [cmpI_lt (by omega)]; simp [ordB, hkb]
      · rw [cmpI_eq (by omega) (by omega)]; simp [ordB, hkb]
end Go.Proofs.YtdjepnilmgembaaGreatDoor

namespace Go.Proofs.YtdjepnilmgembaaGreatDoor
open Go.Sort Go.Lib

structure Ord3 {α : Type} (cf : α → α → Int) : Prop where
  zero : ∀ a b, cf a b = 0 ↔ a = b
  neg : ∀ a b, cf b a = - cf a b
  trans : ∀ a b c, cf a b < 0 → cf b c < 0 → cf a c < 0

section
variable {α : Type} {cf : α → α → Int}

/-- Strictly ascending. -/
abbrev Asc (cf : α → α → Int) (l : List α) : Prop := l.Pairwise fun a b => cf a b < 0
/-- The strictly ascending list of the elements of l. -/
def IsSrt (cf : α → α → Int) (l out : List α) : Prop := Asc cf out ∧ ∀ x, x ∈ out ↔ x ∈ l

theorem Ord3.irrefl (h : Ord3 cf) (a : α) : ¬ cf a a < 0 := by rw [(h.zero a a).2 rfl]; omega
theorem Ord3.asymm (h : Ord3 cf) {a b : α} (h1 : cf a b < 0) : ¬ cf b a < 0 := by rw [h.neg a b]; omega
theorem Ord3.total (h : Ord3 cf) {a b : α} (h1 : ¬ cf a b < 0) (h2 : a ≠ b) : cf b a < 0 := by
  have := mt (h.zero a b).1 h2
  rw [h.neg a b]; omega

theorem asc_unique (hO : Ord3 cf) : ∀ {l m : List α}, Asc cf l → Asc cf m → (∀ x, x ∈ l ↔ x ∈ m) → l = m
  | [], [], _, _, _ => rfl
  | [], b :: m, _, _, h => by have := (h b).2 (by simp); simp at this
  | a :: l, [], _, _, h => by have := (h a).1 (by simp); simp at this
  | a :: l, b :: m, hl, hm, h => by
    rw [Asc, List.pairwise_cons] at hl hm
    have hab : a = b := by
      have ha := (h a).1 (by simp)
      have hb := (h b).2 (by simp)
      rcases List.mem_cons.1 ha with e | ha
      · exact e
      · rcases List.mem_cons.1 hb with e | hb
        · exact e.symm
        · exact absurd (hl.1 b hb) (hO.asymm (hm.1 a ha))
    subst hab
    congr 1
    refine asc_unique hO hl.2 hm.2 fun x => ⟨fun hx => ?_, fun hx => ?_⟩
    · rcases List.mem_cons.1 ((h x).1 (List.mem_cons_of_mem _ hx)) with e | h'
      · subst e; exact absurd (hl.1 _ hx) (hO.irrefl _)
      · exact h'
    · rcases List.mem_cons.1 ((h x).2 (List.mem_cons_of_mem _ hx)) with e | h'
      · subst e; exact absurd (hm.1 _ hx) (hO.irrefl _)
      · exact h'

theorem IsSrt.unique (hO : Ord3 cf) {l o1 o2 : List α} (h1 : IsSrt cf l o1) (h2 : IsSrt cf l o2) : o1 = o2 :=
  asc_unique hO h1.1 h2.1 fun x => (h1.2 x).trans (h2.2 x).symm

theorem swo_of (hO : Ord3 cf) : SWO (ltOf cf) where
  irrefl x := by unfold ltOf; simpa using Int.not_lt.1 (hO.irrefl x)
  trans x y z h1 h2 := by unfold ltOf at *; simp at *; exact hO.trans x y z h1 h2
  ntrans x y z h1 h2 := by
    unfold ltOf at *; simp at *
    rcases Int.lt_or_le (cf x z) 0 with h | h
    · exfalso
      have h3 : ¬ cf y x > 0 := by rw [hO.neg x y]; omega
      by_cases e : x = y
      · subst e; omega
      · have h4 : cf y x < 0 := hO.total (by omega) e
        have := hO.trans y x z h4 h
        omega
    · exact h
theorem tot_of (hO : Ord3 cf) (x y : α) (h1 : ltOf cf x y = false) (h2 : ltOf cf y x = false) : x = y := by
  unfold ltOf at *; simp at *
  rw [hO.neg x y] at h2
  exact (hO.zero x y).1 (by omega)

/-- An element put into its place. -/
theorem put_srt (hO : Ord3 cf) {l out : List α} {x : α} {at_ : Nat} (h : IsSrt cf l out) (hat : at_ ≤ out.length) (hhi : ∀ i y, at_ ≤ i → out[i]? = some y → cf x y < 0)
    (hlo : ∀ y, 0 < at_ → out[at_ - 1]? = some y → cf y x < 0) : IsSrt cf (l ++ [x]) ((out.take at_ ++ [x]) ++ out.drop at_) := by
  obtain ⟨ha, hm⟩ := h
  have hsplit : out.take at_ ++ out.drop at_ = out := List.take_append_drop _ _
  have ha2 := ha
  rw [← hsplit, Asc, List.pairwise_append] at ha2
  obtain ⟨p1, p2, p3⟩ := ha2
  have hdrop : ∀ y, y ∈ out.drop at_ → cf x y < 0 := by
    intro y hy
    obtain ⟨i, hi, he⟩ := List.mem_iff_getElem.1 hy
    refine hhi (at_ + i) y (by omega) ?_
    rw [List.getElem_drop] at he
    rw [List.length_drop] at hi
    rw [List.getElem?_eq_getElem (by omega), he]
  have htake : ∀ y, y ∈ out.take at_ → cf y x < 0 := by
    intro y hy
    obtain ⟨i, hi, he⟩ := List.mem_iff_getElem.1 hy
    rw [List.length_take] at hi
    rw [List.getElem_take] at he
    have hpos : 0 < at_ := by omega
    have hlast := hlo (out[at_ - 1]'(by omega)) hpos (List.getElem?_eq_getElem (by omega))
    by_cases hi2 : i = at_ - 1
    · subst hi2; rw [← he]; exact hlast
    · rw [← he]
      exact hO.trans _ _ _ ((List.pairwise_iff_getElem.1 ha) i (at_ - 1) (by omega) (by omega) (by omega)) hlast
  refine ⟨?_, fun y => ?_⟩
  · rw [Asc, List.append_assoc, List.pairwise_append]
    refine ⟨p1, ?_, ?_⟩
    · simp only [List.cons_append, List.nil_append, List.pairwise_cons]
      exact ⟨hdrop, p2⟩
    · intro a h1 b h2
      rcases List.mem_cons.1 (by simpa using h2) with e | h2
      · subst e; exact htake a h1
      · exact p3 a h1 b h2
  · rw [List.mem_append, List.mem_append, List.mem_append, ← hm y]
    conv => rhs; rw [← hsplit, List.mem_append]
    simp only [List.mem_cons, List.not_mem_nil, or_false]
    constructor
    · rintro ((h | h) | h)
      · exact .inl (.inl h)
      · exact .inr h
      · exact .inl (.inr h)
    · rintro ((h | h) | h)
      · exact .inl (.inl h)
      · exact .inr h
      · exact .inl (.inr h)

theorem IsSrt.again {l out : List α} {x : α} (h : IsSrt cf l out) (hx : x ∈ out) : IsSrt cf (l ++ [x]) out :=
  ⟨h.1, fun y => by
    rw [List.mem_append, ← h.2 y]
    constructor
    · exact .inl
    · rintro (h' | h')
      · exact h'
      · simp at h'; subst h'; exact hx⟩

variable [Inhabited α] [DecidableEq α]

/-- A sorted list without its repetitions is strictly ascending, of the same elements. -/
theorem compact_srt (hO : Ord3 cf) {l : List α} (hs : l.Pairwise fun a b => ¬ cf b a < 0) : IsSrt cf l (compact l) := by
  have hget : ∀ i, i < l.length → l.toArray[i]! = l[i]?.getD default := fun i hi => by
    rw [getElem!_def]; simp [hi]
  have hle : ∀ i j, i ≤ j → j < l.length → ¬ cf (l.toArray[j]!) (l.toArray[i]!) < 0 := by
    intro i j hij hj
    rw [hget i (by omega), hget j hj]
    rcases Nat.lt_or_ge i j with h | h
    · have := (List.pairwise_iff_getElem.1 hs) i j (by omega) hj h
      simpa [hj, show i < l.length by omega] using this
    · obtain rfl : i = j := by omega
      exact hO.irrefl _
  unfold compact compactUpTo
  refine ⟨?_, fun x => ?_⟩
  · rw [Asc, List.pairwise_map]
    refine List.Pairwise.imp_of_mem ?_ (List.Pairwise.filter _ List.pairwise_lt_range)
    intro i j hi hj hij
    have hj2 := List.mem_filter.1 hj
    have hjl : j < l.length := by simpa using hj2.1
    have hk := hj2.2
    simp only [keeps, decide_eq_true_eq] at hk
    have hne : l.toArray[j]! ≠ l.toArray[j - 1]! := by rcases hk with h | h; omega; exact h
    have h1 : cf (l.toArray[j - 1]!) (l.toArray[j]!) < 0 := hO.total (hle (j - 1) j (by omega) hjl) hne
    by_cases he : l.toArray[i]! = l.toArray[j - 1]!
    · rw [he]; exact h1
    · exact hO.trans _ _ _ (hO.total (hle i (j - 1) (by omega) (by omega)) (Ne.symm he)) h1
  · simp only [List.mem_map, List.mem_filter, List.mem_range]
    constructor
    · rintro ⟨i, ⟨hi, _⟩, rfl⟩
      rw [hget i hi]; simp [hi]
    · intro hx
      obtain ⟨i, hi, he⟩ := List.mem_iff_getElem.1 hx
      -- the first place of this element
      have : ∀ n i, i ≤ n → i < l.length → l.toArray[i]! = x → ∃ j, (j < l.length ∧ keeps l.toArray j = true) ∧ l.toArray[j]! = x := by
        intro n
        induction n with
        | zero =>
          intro i hi hl hx
          obtain rfl : i = 0 := by omega
          exact ⟨0, ⟨hl, by simp [keeps]⟩, hx⟩
        | succ n ih =>
          intro i hi hl hx
          by_cases hk : keeps l.toArray i = true
          · exact ⟨i, ⟨hl, hk⟩, hx⟩
          · simp only [keeps, decide_eq_true_eq, not_or, Decidable.not_not] at hk
            exact ih (i - 1) (by omega) (by omega) (by rw [← hk.2]; exact hx)
      exact this i i (Nat.le_refl _) hi (by rw [hget i hi]; simp [hi, he])

/-- The strictly ascending list of the elements of l, as a function. -/
def srtOf (cf : α → α → Int) (l : List α) : List α := compact (l.mergeSort fun x y => !ltOf cf y x)
theorem srtOf_is (hO : Ord3 cf) (l : List α) : IsSrt cf l (srtOf cf l) := by
  have hS := swo_of hO
  have hp := List.pairwise_mergeSort (le := fun x y => !ltOf cf y x) (fun a b c h1 h2 => by
    simp only [Bool.not_eq_true'] at *
    exact hS.ntrans c b a h2 h1) (fun a b => by
    simp only [Bool.or_eq_true, Bool.not_eq_true']
    rcases h : ltOf cf b a with _ | _
    · exact .inl rfl
    · refine .inr ?_
      rcases h2 : ltOf cf a b with _ | _
      · rfl
      · have := hS.trans b a b h h2; rw [hS.irrefl] at this; cases this) l
  have hp2 : (l.mergeSort fun x y => !ltOf cf y x).Pairwise fun a b => ¬ cf b a < 0 := hp.imp fun {a b} h => by
    simp only [Bool.not_eq_true', ltOf, decide_eq_false_iff_not] at h
    exact h
  have h := compact_srt hO hp2
  exact ⟨h.1, fun x => (h.2 x).trans List.mem_mergeSort⟩
theorem srtOf_eq (hO : Ord3 cf) {l out : List α} (h : IsSrt cf l out) : out = srtOf cf l := h.unique hO (srtOf_is hO l)
end
end Go.Proofs.YtdjepnilmgembaaGreatDoor

namespace Go.Proofs.YtdjepnilmgembaaGreatDoor
open Go.RowKit
open Go.Sort hiding Below

/-- A string, as Go has it. -/
abbrev Str : Type := { s : ByteArray // s.size ≤ 9223372036854775807 }
instance : Inhabited Str := ⟨⟨ByteArray.empty, by decide⟩⟩
theorem toList_inj {a b : ByteArray} (h : a.toList = b.toList) : a = b := by
  rw [Lib.toList_data, Lib.toList_data] at h
  rw [← Lib.mk_data a, ← Lib.mk_data b, h]
def cmpS (a b : Str) : Int := Id.cmpN a.1.toList b.1.toList
theorem ord_str : Ord3 cmpS where
  zero a b := by unfold cmpS; rw [Id.cmpN_zero]; exact ⟨fun h => Subtype.ext (toList_inj h), fun h => by rw [h]⟩
  neg a b := Id.cmpN_neg _ _
  trans a b c h1 h2 := Id.cmpN_trans h1 h2
/-- A list of strings, ascending, without repetitions. -/
def srt (l : List Str) : List Str := srtOf cmpS l
def sE (s : Str) : List Value := [.string s.1]
theorem sE_len (s : Str) : (sE s).length = 1 := rfl
theorem sE_one (s : Str) : ∀ u ∈ sE s, u.oneCell' = true := by intro u hu; simp [sE] at hu; subst hu; rfl
theorem flat_sE (l : List Str) : l.flatMap sE = l.map fun s => Value.string s.1 := by
  induction l with
  | nil => rfl
  | cons s l ih => rw [List.flatMap_cons, ih]; rfl
theorem Rw.str {w : World} {B : Nat} {A : Option Addr} {l : List Str} (h : Rw sE 1 w B A l) (hn : 0 < l.length) :
    ∃ g o, A = some ⟨g, o, none⟩ ∧ g < B ∧ ∀ i x, l[i]? = some x → w.cell? ⟨g, o + i, none⟩ = some (.string x.1) := by
  obtain ⟨g, o, e, hb, hc⟩ := h hn
  exact ⟨g, o, e, hb, fun i x hx => by have := hc i x hx 0 (.string x.1) rfl; rwa [Nat.mul_one, Nat.add_zero] at this⟩

/-- A row rewritten, and new blocks: nothing below it has turned. -/
theorem below_sorted {α : Type} [Inhabited α] (enc : α → Value) {w : World} {B g off n : Nat} {d : Array α} {os : Array Obj} (hg : B ≤ g) (hB : B ≤ w.heap.size) : Below B w (Sort.grow (putRow enc (Sort.ahead w n) g off d) os) :=
  ⟨rfl, rfl, rfl, by simp, fun k hk => by
    rw [heap_grow_old _ _ (by simp; omega)]
    have : g ≠ k := by omega
    simp [putRow, mapBlock, Sort.ahead, Array.getElem?_modify, this]⟩

theorem clip_any (A : Option Addr) (n c : Nat) (w : World) (hn : n ≤ c) (_hc : c ≤ 9223372036854775807) :
    Calls Tryz.prog 55 #[.slice A n c] w fun e w' => e = .returned (.slice A n n) ∧ w = w' := by
  go_enter Tryz.func55, Tryz.ntmps55
  go_wp2
  go_ret
  exact ⟨rfl, rfl⟩

theorem cloneS_any_info : (Tryz.prog.info? 9).map (fun i => (i.zero, i.size, i.bytes)) = some (some ((.string ByteArray.empty)), 1, 16) := by kernel_rfl
theorem cloneS_any_nil (n c : Nat) (w : World) :
    Calls Tryz.prog 30 #[.slice none n c] w fun e w' => e = .returned (.slice none 0 0) ∧ w = w' := by
  have hq := fun w => Lib.run_eql_slice_nil (P := Tryz.prog) w 22 9 none n c 0 0 Tryz.underlying22
  go_enter Tryz.func30, Tryz.ntmps30
  go_wp2
  go_ret
  exact ⟨rfl, rfl⟩
theorem cloneS_any_some (a : Addr) (c : Nat) (l : List Str) (w : World) (hr : Rw sE 1 w w.heap.size (some a) l) (hn : l.length * 16 ≤ 140737488355328) :
    Calls Tryz.prog 30 #[.slice (some a) l.length c] w fun e w' => ∃ v, e = .returned v ∧ Own sE 1 9 w' w.heap.size v l ∧ v ≠ .slice none 0 0 ∧ Below w.heap.size w w' := by
  have hq := fun w => Lib.run_eql_slice_nil (P := Tryz.prog) w 22 9 (some a) l.length c 0 0 Tryz.underlying22
  obtain ⟨i0, hi, hz0, hz1, hz2⟩ := info_parts cloneS_any_info
  go_enter Tryz.func30, Tryz.ntmps30
  go_wp2_with (first
    | (at_builtin
       refine wpList_append_rw _ rfl (.tmp 5) (.tmp 6) _ rfl sE_len sE_one w.heap.size 9 i0 _ 16 Tryz.underlying22 hi hz0 hz1 hz2 rfl (by omega) (.slice (some ⟨w.heap.size, 0, none⟩) 0 0) [] rfl
         ?_ w.heap.size (some a) l.length c l rfl rfl (hr.alloc (Nat.le_refl _) _) ?_ ?_ ?_ ?_
       · exact Own.lit (enc := sE) (l := []) #[] (Nat.le_refl _) (by simp) (by simp) sE_len
       · simp [maxLen]; omega
       · simpa using hn
       · simp
       intro v1 w1 hown1 hg1 hat1))
  go_ret
  refine ⟨v1, rfl, by simpa using hown1, ?_, ?_⟩
  · rintro rfl
    rcases hat1 with h | h <;> simp [Value.ownBlock] at h
  · exact ((Below.refl _ _).alloc (Nat.le_refl _) _).grown hg1 (by simp) (fun g hg => by simp [Value.ownBlock] at hg; omega)

theorem cmpS_lays (blk off size : Nat) (w : World) : Go.Proofs.CmpLays1 Tryz.prog 35 #[] (fun s : Str => Value.string s.1) cmpS blk off size w := by
  intro m os dk _ x y
  refine (compare_any x.1 y.1 x.2 y.2 _).mono fun e w' h => ⟨h.1, ?_⟩
  exact h.2.grow

theorem holds_own {w : World} {base : Nat} {g cap : Nat} {l : List Str} (h : Own sE 1 9 w base (.slice (some ⟨g, 0, none⟩) l.length cap) l) : Holds (fun s : Str => Value.string s.1) w g 0 l.toArray := by
  intro j hj
  have hj' : j < l.length := by simpa using hj
  refine ⟨?_, by rw [Nat.zero_add]; exact h.frozenAt j⟩
  rw [Nat.zero_add, h.cellAt j (by omega), flat_sE]
  simp [hj']

theorem eq_str (x y : Str) : (x.1.toList == y.1.toList) = decide (x = y) := by
  rw [Bool.eq_iff_iff]; simp
  exact ⟨fun h => Subtype.ext (toList_inj h), fun h => by rw [h]⟩
theorem eqS : Go.Proofs.EqlAt Tryz.prog 9 (fun s : Str => Value.string s.1) (fun x y => decide (x = y)) := by
  refine ⟨fun x y w => ?_, ?_⟩
  · show _ = Result.ok (Value.bool (decide (x = y))) w; rw [← eq_str]; exact (Go.Proofs.EqlAt.string Tryz.prog 9).1 x.1 y.1 w
  · exact fun op a b x y w => (Go.Proofs.EqlAt.string Tryz.prog 9).2 op a b x.1 y.1 w
theorem neS : Go.Proofs.NeqAt Tryz.prog 9 (fun s : Str => Value.string s.1) (fun x y => decide (x = y)) := by
  refine ⟨fun x y w => ?_, ?_⟩
  · show _ = Result.ok (Value.bool (!decide (x = y))) w; rw [← eq_str]; exact (Go.Proofs.NeqAt.string Tryz.prog 9).1 x.1 y.1 w
  · exact fun op a b x y w => (Go.Proofs.NeqAt.string Tryz.prog 9).2 op a b x.1 y.1 w

/-- A row that was sorted reads as what was laid. -/
theorem holds_grow' {α : Type} [Inhabited α] {enc : α → Value} {w : World} {g off : Nat} {d : Array α} (h : Holds enc w g off d) (os : Array Obj) : Holds enc (Sort.grow w os) g off d := fun j hj => by
  have h1 := (h j hj).1
  have hlt := World.block_lt_of_cell? _ _ h1
  rw [cell?_grow _ os _ hlt, frozen?_grow _ os _ hlt]
  exact h j hj
theorem holds_ahead' {α : Type} [Inhabited α] {enc : α → Value} {w : World} {g off : Nat} {d : Array α} (h : Holds enc w g off d) (n : Nat) : Holds enc (Sort.ahead w n) g off d := h

theorem sorted_any (A : Option Addr) (c : Nat) (l : List Str) (w : World) (hr : Rw sE 1 w w.heap.size A l) (hn : l.length * 16 ≤ 140737488355328) :
    Calls Tryz.prog 37 #[.slice A l.length c] w fun e w' => ∃ A' c', e = .returned (.slice A' (srt l).length c') ∧ Rw sE 1 w' w'.heap.size A' (srt l) ∧ Below w.heap.size w w' := by
  have eg : ∀ args w, (callFunc 35 args).run Tryz.prog w = .ok (.enter 35 args) w := enters_of Tryz.func35 (by kernel_rfl) rfl
  rcases Nat.eq_zero_or_pos l.length with h0 | h0
  · have hl : l = [] := List.eq_nil_of_length_eq_zero h0
    subst hl
    have e0 : srt [] = [] := by unfold srt srtOf; simp [Lib.compact, Lib.compactUpTo]
    rw [e0]
    rcases A with _ | a
    · go_enter Tryz.func37, Tryz.ntmps37
      go_wp2_with fail
      refine (cloneS_any_nil _ _ _).mono ?_
      rintro e w1 ⟨rfl, rfl⟩
      go_wp2_with fail
      refine (Tryz.slices_SortFunc_none (α := Str) none 0 _ _).mono ?_
      rintro e w2 ⟨rfl, hw⟩
      obtain rfl := hw.symm
      go_wp2_with fail
      refine (Tryz.slices_Compact_string_empty none 0 _).mono ?_
      rintro e w3 ⟨rfl, hw⟩
      obtain rfl := hw.symm
      go_wp2_with (first | (go_at_call 55; go_must (refine (clip_any _ _ _ _ (by omega) (by omega)).mono ?_; rintro e w4 ⟨rfl, rfl⟩)))
      go_ret
      exact ⟨_, _, rfl, Rw.nil, Below.refl _ _⟩
    · go_enter Tryz.func37, Tryz.ntmps37
      go_wp2_with fail
      refine (cloneS_any_some a c [] _ Rw.nil (by simp)).mono ?_
      rintro e w1 ⟨v, rfl, hown, hne, hb1⟩
      have hz1 := hb1.size
      obtain ⟨A1, c1, rfl, hc1, hm1, hblk⟩ := hown.form
      unfold maxLen at hm1
      go_wp2_with fail
      refine (Tryz.slices_SortFunc_none (α := Str) A1 c1 _ _).mono ?_
      rintro e w2 ⟨rfl, hw⟩
      obtain rfl := hw.symm
      go_wp2_with fail
      refine (Tryz.slices_Compact_string_empty A1 c1 _).mono ?_
      rintro e w3 ⟨rfl, hw⟩
      obtain rfl := hw.symm
      go_wp2_with (first | (go_at_call 55; go_must (refine (clip_any _ _ _ _ (by omega) (by omega)).mono ?_; rintro e w4 ⟨rfl, rfl⟩)))
      go_ret
      exact ⟨_, _, rfl, Rw.nil, hb1⟩
  · obtain ⟨g0, o0, rfl, _⟩ := hr h0
    go_enter Tryz.func37, Tryz.ntmps37
    go_wp2_with fail
    refine (cloneS_any_some _ c l _ hr (by omega)).mono ?_
    rintro e w1 ⟨v, rfl, hown, hne, hb1⟩
    have hz1 := hb1.size
    obtain ⟨A1, c1, rfl, hc1, hm1, hblk⟩ := hown.form
    obtain ⟨g, cap, hv, hg1, hg2⟩ := World.ownsRow.form hown h0
    obtain ⟨rfl, rfl⟩ : A1 = some ⟨g, 0, none⟩ ∧ c1 = cap := by simpa using hv
    clear hv hne
    unfold maxLen at hm1
    have hH := holds_own hown
    have hlen : l.toArray.size = l.length := by simp
    go_wp2_with fail
    have hs := Tryz.slices_SortFunc_total (fun s : Str => Value.string s.1) (fun _ => rfl) cmpS (swo_of ord_str) 35 #[] g 0 c1 l.toArray w1 eg (cmpS_lays g 0 _ w1) hH hg2 (by rw [hlen]; omega) (tot_of ord_str)
    rw [hlen] at hs
    refine hs.mono ?_
    rintro e w2 ⟨rfl, n, os, rfl⟩
    clear hs
    obtain ⟨L, hL⟩ : ∃ L, (l.toArray.toList.mergeSort fun x y => !ltOf cmpS y x) = L := ⟨_, rfl⟩
    rw [hL]
    have hLl : L.length = l.length := by rw [← hL]; simp
    have hsz : L.toArray.size = l.length := by simpa using hLl
    obtain ⟨W2, hW2⟩ : ∃ W, sortWorld (fun s : Str => Value.string s.1) w1 g 0 n L.toArray os = W := ⟨_, rfl⟩
    have hH2 : Holds (fun s : Str => Value.string s.1) W2 g 0 L.toArray := by
      rw [← hW2]; unfold sortWorld
      exact holds_grow' (holds_putRow _ _ _ _ _ _ (holds_ahead' hH n) (by simp [hLl])) os
    have hb2 : Below w.heap.size w1 W2 := by
      rw [← hW2]; unfold sortWorld
      exact below_sorted _ hg1 hb1.size
    have hz2 := hb2.size
    have hsrt := Lib.hid (show Lib.compactUpTo L.toArray L.toArray.size = srt l by
      unfold srt srtOf Lib.compact
      rw [← hL]; simp)
    rw [hW2]
    clear hW2 hL
    go_wp2_with fail
    have hcp := Tryz.slices_Compact (fun s : Str => Value.string s.1) (fun _ => rfl) eqS neS default (fun w => by kernel_rfl) g 0 c1 L.toArray W2 hH2 (by rw [hsz]; omega) (by rw [hsz]; omega)
    rw [hsz] at hcp
    refine hcp.mono ?_
    rintro e w3 ⟨rfl, q, rfl⟩
    clear hcp
    rw [← hsz, hsrt.out]
    have hm : (srt l).length ≤ l.length := by
      rw [← hsrt.out]; unfold Lib.compactUpTo
      rw [List.length_map]
      exact Nat.le_trans (List.length_filter_le _ _) (by simp [hLl])
    obtain ⟨W3, hW3⟩ : ∃ W, putRow (fun s : Str => Value.string s.1) (Sort.ahead W2 q) g 0 (srt l ++ List.replicate (L.toArray.size - (srt l).length) default).toArray = W := ⟨_, rfl⟩
    have hH3 : Holds (fun s : Str => Value.string s.1) W3 g 0 (srt l ++ List.replicate (L.toArray.size - (srt l).length) default).toArray := by
      rw [← hW3]
      exact holds_putRow _ _ _ _ _ _ (holds_ahead' hH2 q) (by simp; omega)
    have hb3 : Below w.heap.size W2 W3 := by
      rw [← hW3]
      have := below_sorted (fun s : Str => Value.string s.1) (w := W2) (B := w.heap.size) (g := g) (off := 0) (n := q) (d := (srt l ++ List.replicate (L.toArray.size - (srt l).length) default).toArray) (os := #[]) hg1 (by omega)
      rwa [grow_empty] at this
    have hz3 := hb3.size
    rw [hW3]
    clear hW3
    go_wp2_with (first | (go_at_call 55; go_must (refine (clip_any _ _ _ _ (by omega) (by omega)).mono ?_; rintro e w4 ⟨rfl, rfl⟩)))
    go_ret
    refine ⟨_, _, rfl, fun hn0 => ⟨g, 0, rfl, ?_, fun i x hx j u hu => ?_⟩, (hb1.trans hb2).trans hb3⟩
    · have := hH3 0 (by simp; omega)
      exact World.block_lt_of_cell? _ _ this.1
    · obtain ⟨hi, _⟩ := List.getElem?_eq_some_iff.1 hx
      have h1 := (hH3 i (by simp; omega)).1
      obtain rfl : j = 0 := by
        have := (List.getElem?_eq_some_iff.1 hu).1
        simp [sE] at this; exact this
      simp only [sE, List.getElem?_cons_zero, Option.some.injEq] at hu
      subst hu
      rw [Nat.mul_one, Nat.add_zero, h1]
      congr 2
      rw [getElem!_def]
      simp [List.getElem?_append_left hi, hx]
end Go.Proofs.YtdjepnilmgembaaGreatDoor

namespace Go.Proofs.YtdjepnilmgembaaGreatDoor
open Go.RowKit

/-- A letter or a digit; a byte of a name at a place. -/
def letB (c : UInt8) : Bool := (decide (97 ≤ c.toNat) && decide (c.toNat ≤ 122)) || (decide (48 ≤ c.toNat) && decide (c.toNat ≤ 57))
def nmB (i : Nat) (c : UInt8) : Bool := letB c || (decide (0 < i) && (decide (c.toNat = 95) || decide (c.toNat = 45) || decide (c.toNat = 46)))
/-- Whether a string is a name. -/
def nameB (s : ByteArray) : Bool := decide (0 < s.size) && decide (s.size ≤ 64) && (List.range s.size).all fun i => nmB i s[i]!

theorem letter_any (c : UInt8) (w : World) : Calls Tryz.prog 119 #[.int .u8 c.toNat] w fun e w' => e = .returned (.bool (letB c)) ∧ w = w' := by
  unfold letB
  go_enter Tryz.func119, Tryz.ntmps119
  go_wp2_with fail
  all_goals
    go_ret
    exact ⟨ret_bool (by rw [Bool.eq_iff_iff]; (try simp) <;> (try omega)), rfl⟩
theorem name1_any (i : Nat) (c : UInt8) (w : World) : Calls Tryz.prog 114 #[.int .i64 i, .int .u8 c.toNat] w fun e w' => e = .returned (.bool (nmB i c)) ∧ w = w' := by
  unfold nmB letB
  by_cases hA : 48 ≤ c.toNat ∧ c.toNat ≤ 57
  · have hd : digI (c.toNat : Int) = true := by unfold digI; simp; omega
    go_enter Tryz.func114, Tryz.ntmps114
    go_wp2_with (go_at_call 80; go_must (refine (digit_any _ _).mono ?_; rw [hd]; rintro e w2 ⟨rfl, rfl⟩))
    all_goals
      go_ret
      exact ⟨ret_bool (by rw [Bool.eq_iff_iff]; (try simp) <;> (try omega)), rfl⟩
  · have hd : digI (c.toNat : Int) = false := by unfold digI; simp; omega
    go_enter Tryz.func114, Tryz.ntmps114
    go_wp2_with (go_at_call 80; go_must (refine (digit_any _ _).mono ?_; rw [hd]; rintro e w2 ⟨rfl, rfl⟩))
    all_goals
      go_ret
      exact ⟨ret_bool (by rw [Bool.eq_iff_iff]; (try simp) <;> (try omega)), rfl⟩

theorem name_range {s : ByteArray} (h0 : 0 < s.size) (h64 : s.size ≤ 64) : nameB s = (List.range s.size).all fun i => nmB i s[i]! := by
  unfold nameB; rw [decide_eq_true h0, decide_eq_true h64]; rfl
theorem range_take {n k : Nat} (p : Nat → Bool) (_hk : k < n) (h : (List.range k).all p = true) : (List.range (k + 1)).all p = p k := by
  rw [List.range_succ, List.all_append, h]; simp
theorem range_false {n k : Nat} (p : Nat → Bool) (hk : k < n) (h : p k = false) : (List.range n).all p = false := by
  rw [List.all_eq_false]
  exact ⟨k, List.mem_range.2 hk, by rw [h]; decide⟩
theorem byte_at (s : ByteArray) (k : Nat) (h : k < s.size) : s[k]! = s[k] := getElem!_pos s k h

set_option maxHeartbeats 1000000 in
theorem rname_any (s : ByteArray) (w : World) (hs : s.size ≤ 9223372036854775807) : Calls Tryz.prog 107 #[.string s] w fun e w' => e = .returned (.bool (nameB s)) ∧ w = w' := by
  by_cases h0 : s.size < 1
  · have hf : nameB s = false := by unfold nameB; rw [decide_eq_false (by omega)]; rfl
    rw [hf]
    have h0z : (s.size : Int) < 1 := by omega
    go_enter Tryz.func107, Tryz.ntmps107
    go_wp2_with fail
    go_ret
    exact ⟨rfl, rfl⟩
  by_cases h64 : s.size > 64
  · have hf : nameB s = false := by unfold nameB; rw [decide_eq_true (by omega), decide_eq_false (by omega)]; rfl
    rw [hf]
    have h0z : ¬ (s.size : Int) < 1 := by omega
    have h1z : (s.size : Int) > 64 := by omega
    go_enter Tryz.func107, Tryz.ntmps107
    go_wp2_with fail
    go_ret
    exact ⟨rfl, rfl⟩
  have h0z : ¬ (s.size : Int) < 1 := by omega
  have h1z : ¬ (s.size : Int) > 64 := by omega
  have hp : 0 < s.size := by omega
  have hall : Hid (nameB s = (List.range s.size).all fun i => nmB i s[i]!) := Lib.hid (name_range (by omega) (by omega))
  rcases hl : letB s[0] with _ | _
  · have hf : Hid (nameB s = false) := Lib.hid (by
      rw [hall.out]
      refine range_false _ hp ?_
      rw [byte_at s 0 hp]; unfold nmB; rw [hl]; rfl)
    go_enter Tryz.func107, Tryz.ntmps107
    go_wp2_with (go_at_call 119; go_must (refine (letter_any _ _).mono ?_; rw [hl]; rintro e w2 ⟨rfl, rfl⟩))
    go_ret
    exact ⟨ret_bool hf.out.symm, rfl⟩
  · go_enter Tryz.func107, Tryz.ntmps107
    go_wp2_with (go_at_call 119; go_must (refine (letter_any _ _).mono ?_; rw [hl]; rintro e w2 ⟨rfl, rfl⟩))
    go_loop [3] (fun vi => ∃ k : Nat, k ≤ s.size ∧ vi = .int .i64 (k : Int) ∧ (List.range k).all (fun i => nmB i s[i]!) = true) (fun vi => s.size - (intOf vi).toNat)
    case atStart => exact ⟨0, Nat.zero_le _, rfl, rfl⟩
    case round =>
      obtain ⟨k, hk, rfl, ht⟩ := hrel
      replace ht := Lib.hid ht
      by_cases hks : k < s.size
      · have i0 : (0 : Int) ≤ (k : Int) := by omega
        have i1 : (k : Int) < (s.size : Int) := by omega
        have hnm : Hid (nmB k s[k]! = (letB s[k] || (decide (0 < k) && (decide (s[k].toNat = 95) || decide (s[k].toNat = 45) || decide (s[k].toNat = 46))))) := Lib.hid (by rw [byte_at s k hks]; rfl)
        rcases hlk : letB s[k] with _ | _
        · have hk0 : 0 < k := by
            rcases Nat.eq_zero_or_pos k with h | h
            · subst h; rw [hl] at hlk; cases hlk
            · exact h
          by_cases e1 : s[k].toNat = 95
          · have b1 : ((s[k].toNat : Int) != 95) = false := by rw [e1]; rfl
            have hn : Hid (nmB k s[k]! = true) := Lib.hid (by rw [hnm.out, hlk, e1]; simp [hk0])
            replace e1 := Lib.hid e1
            go_wp2_with (go_at_call 119; go_must (refine (letter_any _ _).mono ?_; rw [hlk]; rintro e w2 ⟨rfl, rfl⟩))
            go_round
            case rel => exact ⟨k + 1, by omega, by go_num, by rw [range_take _ hks ht.out]; exact hn.out⟩
            case measure => simp [intOf]; omega
          · have b1 : ((s[k].toNat : Int) != 95) = true := by rw [bne_iff_ne]; omega
            by_cases e2 : s[k].toNat = 45
            · have b2 : ((s[k].toNat : Int) != 45) = false := by rw [e2]; rfl
              have hn : Hid (nmB k s[k]! = true) := Lib.hid (by rw [hnm.out, hlk, e2]; simp [hk0])
              replace e1 := Lib.hid e1
              replace e2 := Lib.hid e2
              go_wp2_with (go_at_call 119; go_must (refine (letter_any _ _).mono ?_; rw [hlk]; rintro e w2 ⟨rfl, rfl⟩))
              go_round
              case rel => exact ⟨k + 1, by omega, by go_num, by rw [range_take _ hks ht.out]; exact hn.out⟩
              case measure => simp [intOf]; omega
            · have b2 : ((s[k].toNat : Int) != 45) = true := by rw [bne_iff_ne]; omega
              by_cases e3 : s[k].toNat = 46
              · have b3 : ((s[k].toNat : Int) != 46) = false := by rw [e3]; rfl
                have hn : Hid (nmB k s[k]! = true) := Lib.hid (by rw [hnm.out, hlk, e3]; simp [hk0])
                replace e1 := Lib.hid e1
                replace e2 := Lib.hid e2
                replace e3 := Lib.hid e3
                go_wp2_with (go_at_call 119; go_must (refine (letter_any _ _).mono ?_; rw [hlk]; rintro e w2 ⟨rfl, rfl⟩))
                go_round
                case rel => exact ⟨k + 1, by omega, by go_num, by rw [range_take _ hks ht.out]; exact hn.out⟩
                case measure => simp [intOf]; omega
              · have b3 : ((s[k].toNat : Int) != 46) = true := by rw [bne_iff_ne]; omega
                have hf : Hid (nameB s = false) := Lib.hid (by
                  rw [hall.out]
                  refine range_false _ hks ?_
                  show nmB k s[k]! = false
                  rw [hnm.out, hlk, decide_eq_false e1, decide_eq_false e2, decide_eq_false e3]; simp)
                replace e1 := Lib.hid e1
                replace e2 := Lib.hid e2
                replace e3 := Lib.hid e3
                go_wp2_with (go_at_call 119; go_must (refine (letter_any _ _).mono ?_; rw [hlk]; rintro e w2 ⟨rfl, rfl⟩))
                go_ret
                exact ⟨ret_bool hf.out.symm, rfl⟩
        · have hn : Hid (nmB k s[k]! = true) := Lib.hid (by rw [hnm.out, hlk]; rfl)
          go_wp2_with (go_at_call 119; go_must (refine (letter_any _ _).mono ?_; rw [hlk]; rintro e w2 ⟨rfl, rfl⟩))
          go_round
          case rel => exact ⟨k + 1, by omega, by go_num, by rw [range_take _ hks ht.out]; exact hn.out⟩
          case measure => simp [intOf]; omega
      · have i1 : ¬ (k : Int) < (s.size : Int) := by omega
        have hf : Hid (nameB s = true) := Lib.hid (by rw [hall.out, show s.size = k by omega]; exact ht.out)
        go_wp2_with fail
        go_ret
        exact ⟨ret_bool hf.out.symm, rfl⟩

set_option maxHeartbeats 1000000 in
theorem every_any (s : ByteArray) (g c : Nat) (w : World) (hc : ∀ k (h : k < s.size), w.cell? ⟨g, k, none⟩ = some (.int .u8 (s[k].toNat : Int))) (hs : s.size ≤ 9223372036854775807) :
    Calls Tryz.prog 113 #[.slice (some ⟨g, 0, none⟩) s.size c, .func (.func 114) #[] #[]] w fun e w' => e = .returned (.bool ((List.range s.size).all fun i => nmB i s[i]!)) ∧ w = w' := by
  have e45 : ∀ args w, (callFunc 114 args).run Tryz.prog w = .ok (.enter 114 args) w := enters_of Tryz.func114 (by kernel_rfl) rfl
  replace hc := Lib.hid hc
  obtain ⟨B, hB⟩ : ∃ B, ((List.range s.size).all fun i => nmB i s[i]!) = B := ⟨_, rfl⟩
  rw [hB]
  replace hB := Lib.hid hB
  go_enter Tryz.func113, Tryz.ntmps113
  go_wp2_with fail
  go_loop [9] (fun vi => ∃ k : Nat, k ≤ s.size ∧ vi = .int .i64 (k : Int) ∧ (List.range k).all (fun i => nmB i s[i]!) = true) (fun vi => s.size - (intOf vi).toNat)
  case atStart => exact ⟨0, Nat.zero_le _, rfl, rfl⟩
  case round =>
    obtain ⟨k, hk, rfl, ht⟩ := hrel
    replace ht := Lib.hid ht
    by_cases hks : k < s.size
    · have i0 : (0 : Int) ≤ (k : Int) := by omega
      have i1 : (k : Int) < (s.size : Int) := by omega
      have q := hc.out k hks
      have hnm : Hid (nmB k s[k]! = nmB k s[k]) := Lib.hid (by rw [byte_at s k hks])
      rcases hn : nmB k s[k] with _ | _
      · have hf : Hid (B = false) := Lib.hid (by
          rw [← hB.out]
          refine range_false _ hks ?_
          show nmB k s[k]! = false
          rw [hnm.out, hn])
        go_wp2_with (go_at_fn 114; go_must (refine (name1_any _ _ _).mono ?_; rw [hn]; rintro e w2 ⟨rfl, rfl⟩))
        go_ret
        exact ⟨ret_bool hf.out.symm, rfl⟩
      · go_wp2_with (go_at_fn 114; go_must (refine (name1_any _ _ _).mono ?_; rw [hn]; rintro e w2 ⟨rfl, rfl⟩))
        go_round
        case rel => exact ⟨k + 1, by omega, by go_num, by rw [range_take _ hks ht.out, hnm.out]; exact hn⟩
        case measure => simp [intOf]; omega
    · have i1 : ¬ (k : Int) < (s.size : Int) := by omega
      have hf : Hid (B = true) := Lib.hid (by rw [← hB.out, show s.size = k by omega]; exact ht.out)
      go_wp2_with fail
      go_ret
      exact ⟨ret_bool hf.out.symm, rfl⟩

set_option maxHeartbeats 1000000 in
theorem name_any (s : ByteArray) (w : World) (hs : s.size ≤ 9223372036854775807) : Calls Tryz.prog 97 #[.string s] w fun e w' => e = .returned (.bool (nameB s)) ∧ Bel w.heap.size w w' := by
  by_cases h0 : 0 < s.size
  · have h0z : (0 : Int) < (s.size : Int) := by omega
    by_cases h64 : s.size ≤ 64
    · have h1z : (s.size : Int) ≤ 64 := by omega
      have hall : Hid (nameB s = (List.range s.size).all fun i => nmB i s[i]!) := Lib.hid (name_range h0 h64)
      have hcv := run_bytes_of_string (P := Tryz.prog) w 9 132 5 s Tryz.underlying9 Tryz.underlying132 Tryz.underlying5
      go_enter Tryz.func97, Tryz.ntmps97
      have hcl : ∀ (C : Nat) (F : Nat × Nat) (k : Nat) (h : k < s.size), ((w.alloc (.cells (bytesRow s C) 5 F)).drew).cell? ⟨w.heap.size, k, none⟩ = some (.int .u8 (s[k].toNat : Int)) := fun C F k h => by
        show (w.alloc (.cells (bytesRow s C) 5 F)).cell? ⟨w.heap.size, k, none⟩ = _
        rw [cell_of_row _ _ _ (bytesRow s C) 5 F (heap_alloc_new w _), bytesRow_at s C k h]
        rfl
      replace hcl := Lib.hid hcl
      go_wp2_with (go_at_call 113; go_must (refine (every_any s w.heap.size _ _ (hcl.out _ _) hs).mono ?_; rw [← hall.out]; rintro e w2 ⟨rfl, rfl⟩))
      go_ret
      exact ⟨rfl, ((Bel.refl _ _).alloc (Nat.le_refl _) _).drew⟩
    · have h1z : ¬ (s.size : Int) ≤ 64 := by omega
      have hf : nameB s = false := by unfold nameB; rw [decide_eq_true h0, decide_eq_false h64]; rfl
      rw [hf]
      go_enter Tryz.func97, Tryz.ntmps97
      go_wp2_with fail
      go_ret
      exact ⟨rfl, Bel.refl _ _⟩
  · have h0z : ¬ (0 : Int) < (s.size : Int) := by omega
    have hf : nameB s = false := by unfold nameB; rw [decide_eq_false h0]; rfl
    rw [hf]
    go_enter Tryz.func97, Tryz.ntmps97
    go_wp2_with fail
    go_ret
    exact ⟨rfl, Bel.refl _ _⟩
end Go.Proofs.YtdjepnilmgembaaGreatDoor

namespace Go.Proofs.YtdjepnilmgembaaGreatDoor
open Go.RowKit

theorem str_neq {x y : Str} (h : x ≠ y) : (x.1.toList == y.1.toList) = false := by rw [eq_str]; simpa using h
theorem str_eqq {x y : Str} (h : x = y) : (x.1.toList == y.1.toList) = true := by rw [eq_str]; simpa using h
theorem get_some {α : Type} {l : List α} {k : Nat} (h : k < l.length) : ∃ x, l[k]? = some x := ⟨l[k], List.getElem?_eq_getElem h⟩
theorem take_eq_succ {α : Type} {a b : List α} {k : Nat} {x : α} (h : a.take k = b.take k) (ha : a[k]? = some x) (hb : b[k]? = some x) : a.take (k + 1) = b.take (k + 1) := by
  rw [List.take_add_one, List.take_add_one, h, ha, hb]

set_option maxHeartbeats 400000 in
theorem rsame_any (A B : Option Addr) (c d : Nat) (a b : List Str) (w : World) (ha : Rw sE 1 w w.heap.size A a) (hb : Rw sE 1 w w.heap.size B b) (hn : a.length ≤ 9223372036854775807) (hm : b.length ≤ 9223372036854775807) :
    Calls Tryz.prog 19 #[.slice A a.length c, .slice B b.length d] w fun e w' => e = .returned (.bool (decide (a = b))) ∧ ∃ n, w' = w.drewN n := by
  by_cases hl : a.length = b.length
  · rcases Nat.eq_zero_or_pos a.length with h0 | h0
    · have e1 : a = [] := List.eq_nil_of_length_eq_zero h0
      have e2 : b = [] := List.eq_nil_of_length_eq_zero (by omega)
      subst e1 e2
      go_enter Tryz.func19, Tryz.ntmps19
      go_wp2_with fail
      go_loopw [5] (fun vi wr => vi = .int .i64 0 ∧ wr = w) (fun _ _ => 0)
      case atStart => exact ⟨rfl, rfl⟩
      case round =>
        obtain ⟨rfl, rfl⟩ := hrel
        go_wp2_with fail
        go_ret
        exact ⟨rfl, 0, rfl⟩
    · obtain ⟨g1, o1, rfl, _, hc1⟩ := ha.str h0
      obtain ⟨g2, o2, rfl, _, hc2⟩ := hb.str (by omega)
      have hl1 : ((a.length : Int) != (b.length : Int)) = false := by rw [hl]; simp
      have hlb : a.length ≤ b.length := Nat.le_of_eq hl
      replace hl := Lib.hid hl
      replace hc1 := Lib.hid hc1
      replace hc2 := Lib.hid hc2
      clear ha hb
      go_enter Tryz.func19, Tryz.ntmps19
      go_wp2_with fail
      go_loopw [5] (fun vi wr => ∃ k n : Nat, k ≤ a.length ∧ vi = .int .i64 (k : Int) ∧ a.take k = b.take k ∧ wr = w.drewN n) (fun vi _ => a.length - (intOf vi).toNat)
      case atStart => exact ⟨0, 0, Nat.zero_le _, rfl, rfl, rfl⟩
      case round =>
        obtain ⟨k, n, hk, rfl, ht, rfl⟩ := hrel
        replace ht := Lib.hid ht
        by_cases hlt : k < a.length
        · obtain ⟨x, hx⟩ := get_some hlt
          obtain ⟨y, hy⟩ := get_some (show k < b.length by omega)
          have q1 := hc1.out k x hx
          have q2 := hc2.out k y hy
          have i0 : (0 : Int) ≤ (k : Int) := by omega
          have i1 : (k : Int) < (a.length : Int) := by omega
          have i2 : (k : Int) < (b.length : Int) := by omega
          by_cases hxy : x = y
          · have t1 := str_eqq hxy
            have ht2 := Lib.hid (take_eq_succ ht.out hx (hxy ▸ hy))
            replace hx := Lib.hid hx
            replace hy := Lib.hid hy
            replace hxy := Lib.hid hxy
            go_wp2_with fail
            go_quiet (fail)
            go_wp2_with fail
            go_roundw
            case rel => exact ⟨k + 1, _, by omega, by go_num, ht2.out, by first | rfl | exact World.drewN_drewN _ _ _⟩
            case measure => simp [intOf]; omega
          · have t1 := str_neq hxy
            have hne : a ≠ b := by rintro rfl; rw [hx] at hy; exact hxy (by simpa using hy)
            replace hne := Lib.hid hne
            replace hx := Lib.hid hx
            replace hy := Lib.hid hy
            replace hxy := Lib.hid hxy
            go_wp2_with fail
            go_quiet (fail)
            go_wp2_with fail
            go_ret
            exact ⟨ret_bool (by rw [decide_eq_false hne.out]), _, World.drewN_drewN _ _ _⟩
        · have he : a = b := by
            have h1 := ht.out
            have h2 := hl.out
            rwa [List.take_of_length_le (by omega), List.take_of_length_le (by omega)] at h1
          replace he := Lib.hid he
          go_wp2_with fail
          go_ret
          exact ⟨ret_bool (by rw [decide_eq_true he.out]), n, rfl⟩
  · have hl1 : ((a.length : Int) != (b.length : Int)) = true := by rw [bne_iff_ne]; omega
    have hne : decide (a = b) = false := decide_eq_false (fun e => hl (by rw [e]))
    rw [hne]
    go_enter Tryz.func19, Tryz.ntmps19
    go_wp2_with fail
    go_ret
    exact ⟨rfl, 0, rfl⟩

/-- Whether a list has a string. -/
def hasB (s : Str) (a : List Str) : Bool := a.any fun x => decide (x = s)
theorem hasB_iff {s : Str} {a : List Str} : hasB s a = true ↔ s ∈ a := by
  unfold hasB; rw [List.any_eq_true]
  exact ⟨fun ⟨x, hx, he⟩ => by rw [← of_decide_eq_true he]; exact hx, fun h => ⟨s, h, by simp⟩⟩
theorem hasB_true {s : Str} {a : List Str} (h : s ∈ a) : hasB s a = true := hasB_iff.2 h
theorem hasB_false {s : Str} {a : List Str} (h : s ∉ a) : hasB s a = false := by rw [← Bool.not_eq_true, hasB_iff]; exact h

set_option maxHeartbeats 400000 in
theorem rhas_any (A : Option Addr) (c : Nat) (a : List Str) (s : Str) (w : World) (ha : Rw sE 1 w w.heap.size A a) (hn : a.length ≤ 9223372036854775807) :
    Calls Tryz.prog 20 #[.slice A a.length c, .string s.1] w fun e w' => e = .returned (.bool (hasB s a)) ∧ w = w' := by
  have hc : Hid (∀ k, k < a.length → ∃ g o, A = some ⟨g, o, none⟩ ∧ ∀ x, a[k]? = some x → w.cell? ⟨g, o + k, none⟩ = some (.string x.1)) := Lib.hid (fun k hk => by
    obtain ⟨g, o, e, _, h⟩ := ha.str (by omega)
    exact ⟨g, o, e, h k⟩)
  clear ha
  go_enter Tryz.func20, Tryz.ntmps20
  go_wp2_with fail
  go_loop [5] (fun vi => ∃ k : Nat, k ≤ a.length ∧ vi = .int .i64 (k : Int) ∧ s ∉ a.take k) (fun vi => a.length - (intOf vi).toNat)
  case atStart => exact ⟨0, Nat.zero_le _, rfl, by simp⟩
  case round =>
    obtain ⟨k, hk, rfl, ht⟩ := hrel
    replace ht := Lib.hid ht
    by_cases hlt : k < a.length
    · obtain ⟨x, hx⟩ := get_some hlt
      obtain ⟨g, o, rfl, q⟩ := hc.out k hlt
      have q1 := q x hx
      clear q
      by_cases hxy : x = s
      · have t1 := str_eqq hxy
        have hm : s ∈ a := by rw [← hxy]; exact List.mem_of_getElem? hx
        replace hm := Lib.hid hm
        replace hx := Lib.hid hx
        replace hxy := Lib.hid hxy
        go_wp2_with fail
        go_ret
        exact ⟨ret_bool (hasB_true hm.out).symm, rfl⟩
      · have t1 := str_neq hxy
        have ht2 : s ∉ a.take (k + 1) := by
          rw [List.take_add_one, hx, List.mem_append]
          rintro (h | h)
          · exact ht.out h
          · simp at h; exact hxy h.symm
        replace ht2 := Lib.hid ht2
        replace hx := Lib.hid hx
        replace hxy := Lib.hid hxy
        go_wp2_with fail
        go_round
        case rel => exact ⟨k + 1, by omega, by go_num, ht2.out⟩
        case measure => simp [intOf]; omega
    · have hm : s ∉ a := by have := ht.out; rwa [List.take_of_length_le (by omega)] at this
      replace hm := Lib.hid hm
      go_wp2_with fail
      go_ret
      exact ⟨ret_bool (hasB_false hm.out).symm, rfl⟩

theorem quiet_add {P : Program} {f : FuncId} {args : Array Value} {w : World} {a n : Nat} {v : Value}
    (h : Calls P f args (w.drewN (a + n)) fun e w' => e = .returned v ∧ ∃ m, w' = (w.drewN (a + n)).drewN m) :
    Calls P f args (w.drewN (a + n)) fun e w'' => e = .returned v ∧ ∃ m, w'' = w.drewN (a + m) :=
  h.mono fun _ _ ⟨he, m, hm⟩ => ⟨he, n + m, by rw [hm, World.drewN_drewN, Nat.add_assoc]⟩
theorem quiet_first {P : Program} {f : FuncId} {args : Array Value} {w : World} {n : Nat} {v : Value}
    (h : Calls P f args (w.drewN n) fun e w' => e = .returned v ∧ ∃ m, w' = (w.drewN n).drewN m) :
    Calls P f args (w.drewN n) fun e w'' => e = .returned v ∧ ∃ m, w'' = w.drewN m :=
  h.mono fun _ _ ⟨he, m, hm⟩ => ⟨he, n + m, by rw [hm, World.drewN_drewN]⟩

theorem asc_of_adj {α : Type} {cf : α → α → Int} (hO : Ord3 cf) : ∀ {l : List α}, (∀ j x y, l[j]? = some x → l[j + 1]? = some y → cf x y < 0) → Asc cf l
  | [], _ => List.Pairwise.nil
  | [a], _ => by simp [Asc]
  | a :: b :: l, h => by
    have hab := h 0 a b rfl rfl
    have ih := asc_of_adj hO (l := b :: l) (fun j x y hx hy => h (j + 1) x y (by simpa using hx) (by simpa using hy))
    rw [Asc, List.pairwise_cons]
    refine ⟨fun y hy => ?_, ih⟩
    rcases List.mem_cons.1 hy with e | hy
    · rw [e]; exact hab
    · exact hO.trans _ _ _ hab ((List.pairwise_cons.1 ih).1 y hy)
theorem adj_of_asc {α : Type} {cf : α → α → Int} {l : List α} (h : Asc cf l) {j : Nat} {x y : α} (hx : l[j]? = some x) (hy : l[j + 1]? = some y) : cf x y < 0 := by
  obtain ⟨h1, rfl⟩ := List.getElem?_eq_some_iff.1 hx
  obtain ⟨h2, rfl⟩ := List.getElem?_eq_some_iff.1 hy
  exact (List.pairwise_iff_getElem.1 h) j (j + 1) h1 h2 (by omega)

end Go.Proofs.YtdjepnilmgembaaGreatDoor

namespace Go.Proofs.YtdjepnilmgembaaGreatDoor
open Go.RowKit

theorem own_ne {g' : Nat} {v : Value} (h : v.ownBlock = some g' ∨ v.ownBlock = some (g' + 1)) {g : Nat} (hg : g < g') : some g ≠ v.ownBlock := by
  rcases h with h | h <;> rw [h] <;> simp <;> omega
set_option maxRecDepth 100000 in
set_option maxHeartbeats 2000000 in
theorem rsorted_any (A : Option Addr) (c : Nat) (l : List Str) (w : World) (hr : Rw sE 1 w w.heap.size A l) (hn : l.length * 16 ≤ 140737488355328) :
    Calls Tryz.prog 41 #[.slice A l.length c] w fun e w' => ∃ A' c', e = .returned (.slice A' (srt l).length c') ∧ Rw sE 1 w' w'.heap.size A' (srt l) ∧ Below w.heap.size w w' := by
  obtain ⟨B, hB⟩ : ∃ B, w.heap.size = B := ⟨_, rfl⟩
  rw [hB]
  rw [hB] at hr
  have hB2 := Nat.le_of_eq hB
  have hB3 := Nat.le_of_eq hB.symm
  replace hB := Lib.hid hB
  obtain ⟨i0, hi0, iz0, iz1, iz2⟩ := info_parts cloneS_any_info
  go_enter Tryz.func41, Tryz.ntmps41
  go_wp2_with fail
  go_loopw [3, 4, 5, 6] (fun vo vi _ _ wr => ∃ (k : Nat) (out : List Str) (Ao : Option Addr) (co : Nat), vi = .int .i64 (k : Int) ∧ vo = .slice Ao out.length co ∧ k ≤ l.length ∧ out.length ≤ k ∧ out.length ≤ co ∧ IsSrt cmpS (l.take k) out ∧ Own sE 1 9 wr B vo out ∧ Below B w wr) (fun _ vi _ _ _ => l.length - (intOf vi).toNat)
  case atStart => exact ⟨0, [], none, 0, rfl, rfl, Nat.zero_le _, Nat.le_refl _, Nat.le_refl _, ⟨List.Pairwise.nil, by simp⟩, Own.nil _ _ _, by rw [← hB.out]; exact Below.refl _ _⟩
  case round =>
    obtain ⟨k, out, Ao, co, rfl, rfl, hk, hok, hoc, hsrt, hown, hbw⟩ := hrel
    have hzw := hbw.size
    have hlt := hown.lt
    obtain ⟨_, _, hform, _, hcm, _⟩ := hown.form
    obtain ⟨rfl, rfl⟩ : Ao = _ ∧ co = _ := by simpa using hform
    clear hform
    unfold maxLen at hcm
    replace hsrt := Lib.hid hsrt
    replace hlt := Lib.hid hlt
    by_cases hkl : k < l.length
    · obtain ⟨x, hx⟩ := get_some hkl
      have hx' := Lib.hid hx
      have hro := hown.reads sE_len
      obtain ⟨g, o, rfl, hgB, hq⟩ := hr.str (by omega)
      have hq0 := Lib.hid (hq k x hx)
      have q1 : wr.cell? ⟨g, o + k, none⟩ = some (.string x.1) := by rw [hbw.cell hgB]; exact hq0.out
      have hBw : B ≤ wr.heap.size := by omega
      clear hq hx
      have hq2 := Lib.hid (fun (h : 0 < out.length) => hro.str h)
      have i0' : (0 : Int) ≤ (k : Int) := by omega
      have i1' : (k : Int) < (l.length : Int) := by omega
      go_wp2_with fail
      go_loopw [5] (fun va wq => ∃ a n : Nat, va = .int .i64 (a : Int) ∧ a ≤ out.length ∧ (∀ i y, a ≤ i → out[i]? = some y → cmpS x y < 0) ∧ wq = wr.drewN n) (fun va _ => (intOf va).toNat)
      case atStart => exact ⟨out.length, 0, rfl, Nat.le_refl _, (fun i y hi hy => by rw [List.getElem?_eq_none hi] at hy; cases hy), rfl⟩
      case round =>
        obtain ⟨a, n, rfl, ha, hhi, rfl⟩ := hrel
        replace hhi := Lib.hid hhi
        rcases Nat.eq_zero_or_pos a with h0 | h0
        · subst h0
          go_wp2_with fail
          go_quiet (fail)
          go_wp2_with fail
          go_quiet (fail)
          go_wp2_with (first
            | (at_builtin
               refine wpList_append_rw _ rfl (.tmp 46) (.tmp 49) _ rfl sE_len sE_one B 9 i0 _ 16 Tryz.underlying22 hi0 iz0 iz1 iz2 rfl (by omega) (.slice (some ⟨wr.heap.size, 0, none⟩) 0 0) [] rfl
                 ?_ wr.heap.size Ao (0) co (out.take (0)) (by rw [List.length_take]; omega) rfl ?_ ?_ ?_ ?_ ?_
               · exact Own.lit (enc := sE) (l := []) #[] hBw (by simp) (by simp) sE_len
               · exact (hro.take.drewN _).alloc (Nat.le_refl _) _
               · (try simp [maxLen]) <;> omega
               · (try simp) <;> omega
               · (try simp) <;> omega
               intro v1 w1 hown1 hg1 hat1
               rw [List.nil_append] at hown1
               replace hat1 := Lib.hid (show v1.ownBlock = some wr.heap.size ∨ v1.ownBlock = some (wr.heap.size + 1) by simpa [Value.ownBlock] using hat1)
               have hz1 := hg1.size
               simp at hz1
               have hownA : Own sE 1 9 w1 B (.slice Ao out.length co) out := ((hown.drewN _).alloc _).grown hg1 (fun g hg => by have := (hlt.out g hg).2; simp [Value.ownBlock]; omega)
               have hbw1 : Below B w w1 := ((below_drewN hbw _).alloc (by simp; omega) _).grown hg1 (by simp; omega) (fun g hg => by simp [Value.ownBlock] at hg; omega)
               have q2 : w1.cell? ⟨g, o + k, none⟩ = some (.string x.1) := by rw [hbw1.cell hgB]; exact hq0.out)
            | (at_builtin
               refine (wpList_append_rw _ rfl (.tmp 51) (.tmp 56) _ rfl sE_len sE_one B 9 i0 _ 16 Tryz.underlying22 hi0 iz0 iz1 iz2 rfl (by omega) v1 (out.take (0)) rfl (hown1.alloc _) _ (some ⟨w1.heap.size, 0, none⟩) 1 1 [x] rfl rfl ((Own.lit (enc := sE) (l := [x]) (base := 0) #[.string x.1] (Nat.zero_le _) (by simp [maxLen]) (by simp [sE]) sE_len).reads sE_len) ?_ ?_ ?_ ?_)
               · (try simp [maxLen]) <;> omega
               · (try simp) <;> omega
               · (try simp) <;> omega
               intro v2 w2 hown2 hg2 hat2
               have hz2' := hg2.size
               simp at hz2'
               have hownB : Own sE 1 9 w2 B (.slice Ao out.length co) out := (hownA.alloc _).grown hg2 (fun g hg => own_ne hat1.out (hlt.out g hg).2)
               have hbw2 : Below B w w2 := (hbw1.alloc (by omega) _).grown hg2 (by simp; omega) (fun g hg => by rcases hat1.out with h | h <;> rw [h] at hg <;> simp at hg <;> omega)
               skip)
            | (at_builtin
               go_must (refine wpList_append_rw _ rfl (.tmp 58) (.tmp 61) _ rfl sE_len sE_one B 9 i0 _ 16 Tryz.underlying22 hi0 iz0 iz1 iz2 rfl (by omega) v2 (out.take (0) ++ [x]) rfl hown2 w2.heap.size _ (out.length - (0)) _ (out.drop (0)) (by rw [List.length_drop]) rfl ?_ ?_ ?_ ?_ ?_)
               · first
                   | exact (hownB.reads sE_len).drop hoc
                   | (rw [List.drop_zero]; exact hownB.reads sE_len)
                   | (have h := (hownB.reads sE_len).drop (a := 0) hoc; simp only [Option.map_some, addr_plain, Nat.mul_one] at h; exact h)
               · (try simp [maxLen]) <;> omega
               · (try simp) <;> omega
               · (try simp) <;> omega
               intro v3 w3 hown3 hg3 hat3
               have hz3' := hg3.size
               have hbw3 : Below B w w3 := hbw2.grown hg3 (by omega) (fun g hg => by
                 rcases hat2 with h | h
                 · rw [h] at hg; rcases hat1.out with h | h <;> rw [h] at hg <;> simp at hg <;> omega
                 · rw [h] at hg; simp at hg; omega)
               have hl3 : (out.take (0) ++ [x] ++ out.drop (0)).length = out.length + 1 := by simp <;> omega
               obtain ⟨A3, c3, hv3, hc3, _, _⟩ := hown3.form
               rw [hl3] at hv3 hc3
               subst hv3
               replace hl3 := Lib.hid hl3))
          go_roundw
          case rel => exact ⟨k + 1, out.take (0) ++ [x] ++ out.drop (0), A3, c3, by go_num, by rw [hl3.out], by omega, by rw [hl3.out]; omega, by rw [hl3.out]; exact hc3, by
            rw [List.take_add_one, hx'.out]
            exact put_srt ord_str hsrt.out ha hhi.out (fun y h => absurd h (by omega)), hown3, hbw3⟩
          case measure => simp [intOf]; omega
        · obtain ⟨b, rfl⟩ : ∃ b, a = b + 1 := ⟨a - 1, by omega⟩
          obtain ⟨y, hy⟩ := get_some (show b < out.length by omega)
          obtain ⟨g', o', rfl, _, hq3⟩ := hq2.out (by omega)
          have q3 : wr.cell? ⟨g', o' + b, none⟩ = some (.string y.1) := hq3 b y hy
          clear hq3
          have i2' : (0 : Int) ≤ (b : Int) := by omega
          have i3' : (b : Int) < (out.length : Int) := by omega
          have i4' : (0 : Int) < (b : Int) + 1 := by omega
          have i5' : 0 < b + 1 := by omega
          obtain ⟨C, hC⟩ : ∃ C, Id.cmpN x.1.toList y.1.toList = C := ⟨_, rfl⟩
          have hCx := Lib.hid (show cmpS x y = C from hC)
          have hcall := fun W => rcompare_any x.1 y.1 x.2 y.2 W
          rw [hC] at hcall
          replace hcall := Lib.hid hcall
          clear hC
          replace hy := Lib.hid hy
          by_cases hneg : C < 0
          · go_wp2_with fail
            go_quiet ((go_at_call 58; first | exact quiet_add (hcall.out _) | exact quiet_first (hcall.out _)))
            go_wp2_with fail
            go_roundw
            case rel =>
              refine ⟨b, _, rfl, by omega, fun i z hi hz => ?_, rfl⟩
              by_cases e : i = b
              · subst e
                have := hy.out
                rw [hz] at this
                cases this
                rw [hCx.out]
                exact hneg
              · exact hhi.out i z (by omega) hz
            case measure => simp [intOf] <;> omega
          · by_cases hyx : y = x
            · have t1 := str_eqq hyx
              have hmem : x ∈ out := by rw [← hyx]; exact List.mem_of_getElem? hy.out
              replace hmem := Lib.hid hmem
              replace hyx := Lib.hid hyx
              go_wp2_with fail
              go_quiet ((go_at_call 58; first | exact quiet_add (hcall.out _) | exact quiet_first (hcall.out _)))
              go_wp2_with fail
              go_quiet (fail)
              go_wp2_with fail
              go_roundw
              case rel => exact ⟨k + 1, out, _, co, by go_num, rfl, by omega, by omega, hoc, by
                rw [List.take_add_one, hx'.out]
                exact hsrt.out.again hmem.out, hown.drewN _, below_drewN hbw _⟩
              case measure => simp [intOf]; omega
            · have t1 := str_neq hyx
              have hlo : ∀ z, 0 < b + 1 → out[b + 1 - 1]? = some z → cmpS z x < 0 := fun z _ hz => by
                have := hy.out
                rw [Nat.add_sub_cancel] at hz
                rw [hz] at this; cases this
                exact ord_str.total (by rw [hCx.out]; exact hneg) (fun e => hyx e.symm)
              replace hlo := Lib.hid hlo
              replace hyx := Lib.hid hyx
              go_wp2_with fail
              go_quiet ((go_at_call 58; first | exact quiet_add (hcall.out _) | exact quiet_first (hcall.out _)))
              go_wp2_with fail
              go_quiet (fail)
              go_wp2_with (first
                | (at_builtin
                   refine wpList_append_rw _ rfl (.tmp 46) (.tmp 49) _ rfl sE_len sE_one B 9 i0 _ 16 Tryz.underlying22 hi0 iz0 iz1 iz2 rfl (by omega) (.slice (some ⟨wr.heap.size, 0, none⟩) 0 0) [] rfl
                     ?_ wr.heap.size (some ⟨g', o', none⟩) (b + 1) co (out.take (b + 1)) (by rw [List.length_take]; omega) rfl ?_ ?_ ?_ ?_ ?_
                   · exact Own.lit (enc := sE) (l := []) #[] hBw (by simp) (by simp) sE_len
                   · exact (hro.take.drewN _).alloc (Nat.le_refl _) _
                   · (try simp [maxLen]) <;> omega
                   · (try simp) <;> omega
                   · (try simp) <;> omega
                   intro v1 w1 hown1 hg1 hat1
                   rw [List.nil_append] at hown1
                   replace hat1 := Lib.hid (show v1.ownBlock = some wr.heap.size ∨ v1.ownBlock = some (wr.heap.size + 1) by simpa [Value.ownBlock] using hat1)
                   have hz1 := hg1.size
                   simp at hz1
                   have hownA : Own sE 1 9 w1 B (.slice (some ⟨g', o', none⟩) out.length co) out := ((hown.drewN _).alloc _).grown hg1 (fun g hg => by have := (hlt.out g hg).2; simp [Value.ownBlock]; omega)
                   have hbw1 : Below B w w1 := ((below_drewN hbw _).alloc (by simp; omega) _).grown hg1 (by simp; omega) (fun g hg => by simp [Value.ownBlock] at hg; omega)
                   have q2 : w1.cell? ⟨g, o + k, none⟩ = some (.string x.1) := by rw [hbw1.cell hgB]; exact hq0.out)
                | (at_builtin
                   refine (wpList_append_rw _ rfl (.tmp 51) (.tmp 56) _ rfl sE_len sE_one B 9 i0 _ 16 Tryz.underlying22 hi0 iz0 iz1 iz2 rfl (by omega) v1 (out.take (b + 1)) rfl (hown1.alloc _) _ (some ⟨w1.heap.size, 0, none⟩) 1 1 [x] rfl rfl ((Own.lit (enc := sE) (l := [x]) (base := 0) #[.string x.1] (Nat.zero_le _) (by simp [maxLen]) (by simp [sE]) sE_len).reads sE_len) ?_ ?_ ?_ ?_)
                   · (try simp [maxLen]) <;> omega
                   · (try simp) <;> omega
                   · (try simp) <;> omega
                   intro v2 w2 hown2 hg2 hat2
                   have hz2' := hg2.size
                   simp at hz2'
                   have hownB : Own sE 1 9 w2 B (.slice (some ⟨g', o', none⟩) out.length co) out := (hownA.alloc _).grown hg2 (fun g hg => own_ne hat1.out (hlt.out g hg).2)
                   have hbw2 : Below B w w2 := (hbw1.alloc (by omega) _).grown hg2 (by simp; omega) (fun g hg => by rcases hat1.out with h | h <;> rw [h] at hg <;> simp at hg <;> omega)
                   skip)
                | (at_builtin
                   go_must (refine wpList_append_rw _ rfl (.tmp 58) (.tmp 61) _ rfl sE_len sE_one B 9 i0 _ 16 Tryz.underlying22 hi0 iz0 iz1 iz2 rfl (by omega) v2 (out.take (b + 1) ++ [x]) rfl hown2 w2.heap.size _ (out.length - (b + 1)) _ (out.drop (b + 1)) (by rw [List.length_drop]) rfl ?_ ?_ ?_ ?_ ?_)
                   · first
                       | exact (hownB.reads sE_len).drop hoc
                       | (rw [List.drop_zero]; exact hownB.reads sE_len)
                       | (have h := (hownB.reads sE_len).drop (a := b + 1) hoc; simp only [Option.map_some, addr_plain, Nat.mul_one] at h; exact h)
                   · (try simp [maxLen]) <;> omega
                   · (try simp) <;> omega
                   · (try simp) <;> omega
                   intro v3 w3 hown3 hg3 hat3
                   have hz3' := hg3.size
                   have hbw3 : Below B w w3 := hbw2.grown hg3 (by omega) (fun g hg => by
                     rcases hat2 with h | h
                     · rw [h] at hg; rcases hat1.out with h | h <;> rw [h] at hg <;> simp at hg <;> omega
                     · rw [h] at hg; simp at hg; omega)
                   have hl3 : (out.take (b + 1) ++ [x] ++ out.drop (b + 1)).length = out.length + 1 := by simp <;> omega
                   obtain ⟨A3, c3, hv3, hc3, _, _⟩ := hown3.form
                   rw [hl3] at hv3 hc3
                   subst hv3
                   replace hl3 := Lib.hid hl3))
              go_roundw
              case rel => exact ⟨k + 1, out.take (b + 1) ++ [x] ++ out.drop (b + 1), A3, c3, by go_num, by rw [hl3.out], by omega, by rw [hl3.out]; omega, by rw [hl3.out]; exact hc3, by
                rw [List.take_add_one, hx'.out]
                exact put_srt ord_str hsrt.out ha hhi.out hlo.out, hown3, hbw3⟩
              case measure => simp [intOf]; omega
    · have he : k = l.length := by omega
      have hout : out = srt l := srtOf_eq ord_str (by have := hsrt.out; rwa [he, List.take_length] at this)
      replace hout := Lib.hid hout
      replace he := Lib.hid he
      go_wp2_with fail
      go_ret
      refine ⟨Ao, co, by rw [← hout.out]; rfl, ?_, hbw⟩
      rw [← hout.out]
      exact hown.reads sE_len
end Go.Proofs.YtdjepnilmgembaaGreatDoor

namespace Go.Proofs.YtdjepnilmgembaaGreatDoor
open Go.ChangeShapes Go.WideShapes Go.ChangeAt Go.RowKit

section
variable {H : Type} {enc : TypeId × Value → H} {P : Program} {w : World}

theorem cells_read {t e : TypeId} {fuel : Nat} {cs : List Value} {x : DataW H × List MemPlace} (ht : P.underlying t = some (.slice e)) (hs : 0 < P.cellsOf e)
    (h : DataW.trod enc P w 0 (fun _ => true) true fuel t cs = some x) :
    ∃ A n c, cs = [.slice A n c] ∧ n ≤ c ∧ c ≤ maxLen ∧ (0 < n → ∃ g o fuel, A = some ⟨g, o, none⟩ ∧ g < w.heap.size ∧
      ∀ i, i < n → ∃ cs x, cs.length = P.cellsOf e ∧ (∀ j, j < P.cellsOf e → w.cell? ⟨g, o + i * P.cellsOf e + j, none⟩ = cs[j]?) ∧ DataW.trod enc P w 0 (fun _ => true) true fuel e cs = some x) := by
  rcases Go.Deep.open_slice ht h with ⟨rfl, _⟩ | ⟨a, len, cap, m, k, D, Pl, rfl, _, hl, hm, hmm, _, hx⟩
  · exact ⟨none, 0, 0, rfl, Nat.le_refl _, Nat.zero_le _, fun h => absurd h (by omega)⟩
  · simp only [if_true] at hmm
    subst hmm
    refine ⟨some a, _, _, rfl, hl, hm, fun hn => ?_⟩
    obtain ⟨cs0, h0, _⟩ := hx 0 (by omega)
    obtain ⟨_, hlen0, hc0⟩ := World.cells?_some h0
    have hz := hc0 0 hs
    rw [List.getElem?_eq_getElem (by omega)] at hz
    have hsp := World.cell?_spot hz
    have hlt := World.block_lt_of_cell? w _ hz
    simp only [Nat.zero_mul, Go.Deep.add_add, Nat.zero_add] at hsp hlt
    simp [Addr.add] at hsp hlt
    obtain ⟨g, o, s⟩ := a
    simp at hsp hlt
    subst hsp
    refine ⟨g, o, k, rfl, hlt, fun i hi => ?_⟩
    obtain ⟨cs', h1, h2⟩ := hx i (by omega)
    obtain ⟨_, hlen, hc⟩ := World.cells?_some h1
    refine ⟨cs', _, hlen, fun j hj => ?_, h2⟩
    have := hc j hj
    rwa [Go.Deep.add_add, add_plain, ← Nat.add_assoc] at this

/-- A slice's cells as a list of values of a type, of which more is said. -/
theorem cells_rows {α : Type} [Inhabited α] {E : α → List Value} {Q : α → Prop} {k : Nat} (hk : ∀ x : α, (E x).length = k) (h0 : 0 < k) {t e : TypeId} {fuel : Nat} {cs : List Value} {x : DataW H × List MemPlace} (ht : P.underlying t = some (.slice e)) (hc : P.cellsOf e = k)
    (hel : ∀ fuel cs x, DataW.trod enc P w 0 (fun _ => true) true fuel e cs = some x → ∃ y : α, cs = E y ∧ Q y) (h : DataW.trod enc P w 0 (fun _ => true) true fuel t cs = some x) :
    ∃ (A : Option Addr) (l : List α) (c : Nat), cs = [.slice A l.length c] ∧ l.length ≤ c ∧ c ≤ maxLen ∧ Rw E k w w.heap.size A l ∧ ∀ y ∈ l, Q y := by
  obtain ⟨A, n, c, rfl, hn, hcm, hrd⟩ := cells_read ht (by omega) h
  rw [hc] at hrd
  by_cases hpos : 0 < n
  · obtain ⟨g, o, fuel, rfl, hg, hx⟩ := hrd hpos
    have hx2 : ∀ i, ∃ y : α, i < n → Q y ∧ ∀ j u, (E y)[j]? = some u → w.cell? ⟨g, o + i * k + j, none⟩ = some u := by
      intro i
      by_cases hi : i < n
      · obtain ⟨cs, x, hl, hcell, htr⟩ := hx i hi
        obtain ⟨y, e, q⟩ := hel _ _ _ htr
        refine ⟨y, fun _ => ⟨q, fun j u hu => ?_⟩⟩
        rw [hcell j (by rw [← hk y]; exact (List.getElem?_eq_some_iff.1 hu).1), e]
        exact hu
      · exact ⟨default, fun h => absurd h hi⟩
    refine ⟨_, (List.range n).map fun i => (hx2 i).choose, c, by simp, by simpa using hn, hcm, fun _ => ⟨g, o, rfl, hg, fun i x hxi j u hu => ?_⟩, fun y hy => ?_⟩
    · rw [List.getElem?_map] at hxi
      by_cases hi : i < n
      · rw [List.getElem?_range hi] at hxi
        simp only [Option.map_some, Option.some.injEq] at hxi
        rw [← hxi] at hu
        exact ((hx2 i).choose_spec hi).2 j u hu
      · rw [List.getElem?_eq_none (by simp; omega)] at hxi
        cases hxi
    · obtain ⟨i, hi, rfl⟩ := List.mem_map.1 hy
      exact ((hx2 i).choose_spec (List.mem_range.1 hi)).1
  · obtain rfl : n = 0 := by omega
    exact ⟨A, [], c, rfl, by simp, hcm, Rw.nil, fun _ h => absurd h (by simp)⟩

/-- A slice argument, of whose elements more is said. -/
theorem open_rowsq {α : Type} [Inhabited α] {E : α → List Value} {Q : α → Prop} {k : Nat} (hk : ∀ x : α, (E x).length = k) (h0 : 0 < k) {t e : TypeId} {r : Reach} {b0 : Nat} {v : Value} {d : DataW H} {p : List MemPlace} (ht : P.underlying t = some (.slice e)) (hc : P.cellsOf e = k)
    (hel : ∀ fuel cs x, DataW.trod enc P w 0 (fun _ => true) true fuel e cs = some x → ∃ y : α, cs = E y ∧ Q y) (hv : Value.okWide P w r b0 t v) (h : DataW.Trod enc P w 0 (fun _ => true) true t v d p) :
    ∃ (A : Option Addr) (l : List α) (c : Nat), v = .slice A l.length c ∧ l.length ≤ c ∧ c ≤ maxLen ∧ Rw E k w w.heap.size A l ∧ ∀ y ∈ l, Q y := by
  obtain ⟨A0, n, c0, rfl⟩ := okWide_slice ht hv
  obtain ⟨fuel, hf⟩ := h
  obtain ⟨A, l, c, e1, h1, h2, h3, h4⟩ := cells_rows hk h0 ht hc hel hf
  simp [Value.cells] at e1
  obtain ⟨rfl, rfl, rfl⟩ := e1
  exact ⟨_, l, _, rfl, h1, h2, h3, h4⟩

/-- A struct by value, of which more is said. -/
theorem open_valq {α : Type} {E : α → List Value} {Q : α → Prop} {t : TypeId} {fs : Array Field} {r : Reach} {b0 : Nat} {v : Value} {d : DataW H} {p : List MemPlace} (ht : P.underlying t = some (.struct fs))
    (hel : ∀ fuel cs x, DataW.trod enc P w 0 (fun _ => true) true fuel t cs = some x → ∃ y : α, cs = E y ∧ Q y) (hv : Value.okWide P w r b0 t v) (h : DataW.Trod enc P w 0 (fun _ => true) true t v d p) :
    ∃ y : α, v = .agg (E y).toArray ∧ Q y := by
  obtain ⟨cs, rfl, _⟩ := okWide_struct ht hv
  obtain ⟨fuel, hf⟩ := h
  obtain ⟨y, e, q⟩ := hel _ _ _ hf
  refine ⟨y, ?_, q⟩
  have e2 : cs.toList = E y := by simpa [Value.cells] using e
  rw [← e2]
end

/-- An int, as Go has it. -/
abbrev I64 : Type := { n : Int // -9223372036854775808 ≤ n ∧ n ≤ 9223372036854775807 }
instance : Inhabited I64 := ⟨⟨0, by omega⟩⟩
def iE (n : I64) : List Value := [.int .i64 n.1]
theorem iE_len (n : I64) : (iE n).length = 1 := rfl
theorem iE_one (n : I64) : ∀ u ∈ iE n, u.oneCell' = true := by intro u hu; simp [iE] at hu; subst hu; rfl

theorem leaf_strs {H : Type} {enc : TypeId × Value → H} {w : World} {fuel : Nat} {cs : List Value} {x : DataW H × List MemPlace} (h : DataW.trod enc Tryz.prog w 0 (fun _ => true) true fuel 22 cs = some x) :
    ∃ (A : Option Addr) (l : List Str) (c : Nat), cs = [.slice A l.length c] ∧ l.length ≤ c ∧ c ≤ maxLen ∧ Rw sE 1 w w.heap.size A l := by
  obtain ⟨A, l, c, e, h1, h2, h3, _⟩ := cells_rows (α := Str) (E := sE) (Q := fun _ => True) sE_len (by omega) Tryz.underlying22 (by kernel_rfl) (fun fuel cs x h => by
    obtain ⟨s, e⟩ := leaf_string Tryz.underlying9 h
    exact ⟨s, e, trivial⟩) h
  exact ⟨A, l, c, e, h1, h2, h3⟩
end Go.Proofs.YtdjepnilmgembaaGreatDoor
