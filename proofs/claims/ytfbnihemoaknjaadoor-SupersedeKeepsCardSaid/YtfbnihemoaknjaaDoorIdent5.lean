/-
  The walks of the reference's lists of strings: whether two are equal, whether one has a string, whether one ascends, and the sorted list.
-/
import Derived.Test.YtfbnihemoaknjaaDoorIdent4

namespace Go.Proofs.YtfbnihemoaknjaaDoor
open Go.RowKit

theorem str_neq {x y : Str} (h : x ≠ y) : (x.1.toList == y.1.toList) = false := by rw [eq_str]; simpa using h
theorem str_eqq {x y : Str} (h : x = y) : (x.1.toList == y.1.toList) = true := by rw [eq_str]; simpa using h
theorem get_some {α : Type} {l : List α} {k : Nat} (h : k < l.length) : ∃ x, l[k]? = some x := ⟨l[k], List.getElem?_eq_getElem h⟩
theorem take_eq_succ {α : Type} {a b : List α} {k : Nat} {x : α} (h : a.take k = b.take k) (ha : a[k]? = some x) (hb : b[k]? = some x) : a.take (k + 1) = b.take (k + 1) := by
  rw [List.take_add_one, List.take_add_one, h, ha, hb]

set_option maxHeartbeats 400000 in
theorem rsame_any (A B : Option Addr) (c d : Nat) (a b : List Str) (w : World) (ha : Rw sE 1 w w.heap.size A a) (hb : Rw sE 1 w w.heap.size B b) (hn : a.length ≤ 9223372036854775807) (hm : b.length ≤ 9223372036854775807) :
    Calls Tryd.prog 9 #[.slice A a.length c, .slice B b.length d] w fun e w' => e = .returned (.bool (decide (a = b))) ∧ ∃ n, w' = w.drewN n := by
  by_cases hl : a.length = b.length
  · rcases Nat.eq_zero_or_pos a.length with h0 | h0
    · have e1 : a = [] := List.eq_nil_of_length_eq_zero h0
      have e2 : b = [] := List.eq_nil_of_length_eq_zero (by omega)
      subst e1 e2
      go_enter Tryd.func9, Tryd.ntmps9
      go_wp2_with fail
      go_loopw [5] (fun vi wr => vi = .int .i64 0 ∧ wr = w) (fun _ _ => 0)
      case atStart => exact ⟨rfl, rfl⟩
      case round =>
        obtain ⟨rfl, rfl⟩ := hrel
        go_wp2_with fail
        go_ret
        exact ⟨rfl, 0, rfl⟩
    · obtain ⟨g1, o1, rfl, _, hc1⟩ := ha.str h0
      obtain ⟨g2, o2, rfl, _, hc2⟩ := hb.str (by omega)
      have hl1 : ((a.length : Int) != (b.length : Int)) = false := by rw [hl]; simp
      have hlb : a.length ≤ b.length := Nat.le_of_eq hl
      replace hl := Lib.hid hl
      replace hc1 := Lib.hid hc1
      replace hc2 := Lib.hid hc2
      clear ha hb
      go_enter Tryd.func9, Tryd.ntmps9
      go_wp2_with fail
      go_loopw [5] (fun vi wr => ∃ k n : Nat, k ≤ a.length ∧ vi = .int .i64 (k : Int) ∧ a.take k = b.take k ∧ wr = w.drewN n) (fun vi _ => a.length - (intOf vi).toNat)
      case atStart => exact ⟨0, 0, Nat.zero_le _, rfl, rfl, rfl⟩
      case round =>
        obtain ⟨k, n, hk, rfl, ht, rfl⟩ := hrel
        replace ht := Lib.hid ht
        by_cases hlt : k < a.length
        · obtain ⟨x, hx⟩ := get_some hlt
          obtain ⟨y, hy⟩ := get_some (show k < b.length by omega)
          have q1 := hc1.out k x hx
          have q2 := hc2.out k y hy
          have i0 : (0 : Int) ≤ (k : Int) := by omega
          have i1 : (k : Int) < (a.length : Int) := by omega
          have i2 : (k : Int) < (b.length : Int) := by omega
          by_cases hxy : x = y
          · have t1 := str_eqq hxy
            have ht2 := Lib.hid (take_eq_succ ht.out hx (hxy ▸ hy))
            replace hx := Lib.hid hx
            replace hy := Lib.hid hy
            replace hxy := Lib.hid hxy
            go_wp2_with fail
            go_quiet (fail)
            go_wp2_with fail
            go_roundw
            case rel => exact ⟨k + 1, _, by omega, by go_num, ht2.out, by first | rfl | exact World.drewN_drewN _ _ _⟩
            case measure => simp [intOf]; omega
          · have t1 := str_neq hxy
            have hne : a ≠ b := by rintro rfl; rw [hx] at hy; exact hxy (by simpa using hy)
            replace hne := Lib.hid hne
            replace hx := Lib.hid hx
            replace hy := Lib.hid hy
            replace hxy := Lib.hid hxy
            go_wp2_with fail
            go_quiet (fail)
            go_wp2_with fail
            go_ret
            exact ⟨ret_bool (by rw [decide_eq_false hne.out]), _, World.drewN_drewN _ _ _⟩
        · have he : a = b := by
            have h1 := ht.out
            have h2 := hl.out
            rwa [List.take_of_length_le (by omega), List.take_of_length_le (by omega)] at h1
          replace he := Lib.hid he
          go_wp2_with fail
          go_ret
          exact ⟨ret_bool (by rw [decide_eq_true he.out]), n, rfl⟩
  · have hl1 : ((a.length : Int) != (b.length : Int)) = true := by rw [bne_iff_ne]; omega
    have hne : decide (a = b) = false := decide_eq_false (fun e => hl (by rw [e]))
    rw [hne]
    go_enter Tryd.func9, Tryd.ntmps9
    go_wp2_with fail
    go_ret
    exact ⟨rfl, 0, rfl⟩

/-- Whether a list has a string. -/
def hasB (s : Str) (a : List Str) : Bool := a.any fun x => decide (x = s)
theorem hasB_iff {s : Str} {a : List Str} : hasB s a = true ↔ s ∈ a := by
  unfold hasB; rw [List.any_eq_true]
  exact ⟨fun ⟨x, hx, he⟩ => by rw [← of_decide_eq_true he]; exact hx, fun h => ⟨s, h, by simp⟩⟩
theorem hasB_true {s : Str} {a : List Str} (h : s ∈ a) : hasB s a = true := hasB_iff.2 h
theorem hasB_false {s : Str} {a : List Str} (h : s ∉ a) : hasB s a = false := by rw [← Bool.not_eq_true, hasB_iff]; exact h

set_option maxHeartbeats 400000 in
theorem rhas_any (A : Option Addr) (c : Nat) (a : List Str) (s : Str) (w : World) (ha : Rw sE 1 w w.heap.size A a) (hn : a.length ≤ 9223372036854775807) :
    Calls Tryd.prog 16 #[.slice A a.length c, .string s.1] w fun e w' => e = .returned (.bool (hasB s a)) ∧ w = w' := by
  have hc : Hid (∀ k, k < a.length → ∃ g o, A = some ⟨g, o, none⟩ ∧ ∀ x, a[k]? = some x → w.cell? ⟨g, o + k, none⟩ = some (.string x.1)) := Lib.hid (fun k hk => by
    obtain ⟨g, o, e, _, h⟩ := ha.str (by omega)
    exact ⟨g, o, e, h k⟩)
  clear ha
  go_enter Tryd.func16, Tryd.ntmps16
  go_wp2_with fail
  go_loop [5] (fun vi => ∃ k : Nat, k ≤ a.length ∧ vi = .int .i64 (k : Int) ∧ s ∉ a.take k) (fun vi => a.length - (intOf vi).toNat)
  case atStart => exact ⟨0, Nat.zero_le _, rfl, by simp⟩
  case round =>
    obtain ⟨k, hk, rfl, ht⟩ := hrel
    replace ht := Lib.hid ht
    by_cases hlt : k < a.length
    · obtain ⟨x, hx⟩ := get_some hlt
      obtain ⟨g, o, rfl, q⟩ := hc.out k hlt
      have q1 := q x hx
      clear q
      by_cases hxy : x = s
      · have t1 := str_eqq hxy
        have hm : s ∈ a := by rw [← hxy]; exact List.mem_of_getElem? hx
        replace hm := Lib.hid hm
        replace hx := Lib.hid hx
        replace hxy := Lib.hid hxy
        go_wp2_with fail
        go_ret
        exact ⟨ret_bool (hasB_true hm.out).symm, rfl⟩
      · have t1 := str_neq hxy
        have ht2 : s ∉ a.take (k + 1) := by
          rw [List.take_add_one, hx, List.mem_append]
          rintro (h | h)
          · exact ht.out h
          · simp at h; exact hxy h.symm
        replace ht2 := Lib.hid ht2
        replace hx := Lib.hid hx
        replace hxy := Lib.hid hxy
        go_wp2_with fail
        go_round
        case rel => exact ⟨k + 1, by omega, by go_num, ht2.out⟩
        case measure => simp [intOf]; omega
    · have hm : s ∉ a := by have := ht.out; rwa [List.take_of_length_le (by omega)] at this
      replace hm := Lib.hid hm
      go_wp2_with fail
      go_ret
      exact ⟨ret_bool (hasB_false hm.out).symm, rfl⟩

theorem quiet_add {P : Program} {f : FuncId} {args : Array Value} {w : World} {a n : Nat} {v : Value}
    (h : Calls P f args (w.drewN (a + n)) fun e w' => e = .returned v ∧ ∃ m, w' = (w.drewN (a + n)).drewN m) :
    Calls P f args (w.drewN (a + n)) fun e w'' => e = .returned v ∧ ∃ m, w'' = w.drewN (a + m) :=
  h.mono fun _ _ ⟨he, m, hm⟩ => ⟨he, n + m, by rw [hm, World.drewN_drewN, Nat.add_assoc]⟩
theorem quiet_first {P : Program} {f : FuncId} {args : Array Value} {w : World} {n : Nat} {v : Value}
    (h : Calls P f args (w.drewN n) fun e w' => e = .returned v ∧ ∃ m, w' = (w.drewN n).drewN m) :
    Calls P f args (w.drewN n) fun e w'' => e = .returned v ∧ ∃ m, w'' = w.drewN m :=
  h.mono fun _ _ ⟨he, m, hm⟩ => ⟨he, n + m, by rw [hm, World.drewN_drewN]⟩

theorem asc_of_adj {α : Type} {cf : α → α → Int} (hO : Ord3 cf) : ∀ {l : List α}, (∀ j x y, l[j]? = some x → l[j + 1]? = some y → cf x y < 0) → Asc cf l
  | [], _ => List.Pairwise.nil
  | [a], _ => by simp [Asc]
  | a :: b :: l, h => by
    have hab := h 0 a b rfl rfl
    have ih := asc_of_adj hO (l := b :: l) (fun j x y hx hy => h (j + 1) x y (by simpa using hx) (by simpa using hy))
    rw [Asc, List.pairwise_cons]
    refine ⟨fun y hy => ?_, ih⟩
    rcases List.mem_cons.1 hy with e | hy
    · rw [e]; exact hab
    · exact hO.trans _ _ _ hab ((List.pairwise_cons.1 ih).1 y hy)
theorem adj_of_asc {α : Type} {cf : α → α → Int} {l : List α} (h : Asc cf l) {j : Nat} {x y : α} (hx : l[j]? = some x) (hy : l[j + 1]? = some y) : cf x y < 0 := by
  obtain ⟨h1, rfl⟩ := List.getElem?_eq_some_iff.1 hx
  obtain ⟨h2, rfl⟩ := List.getElem?_eq_some_iff.1 hy
  exact (List.pairwise_iff_getElem.1 h) j (j + 1) h1 h2 (by omega)

set_option maxHeartbeats 400000 in
theorem rascending_any (A : Option Addr) (c : Nat) (a : List Str) (w : World) (ha : Rw sE 1 w w.heap.size A a) (hn : a.length ≤ 9223372036854775807) :
    Calls Tryd.prog 17 #[.slice A a.length c] w fun e w' => ∃ b, e = .returned (.bool b) ∧ (b = true ↔ Asc cmpS a) ∧ ∃ n, w' = w.drewN n := by
  have hc : Hid (∀ k, k < a.length → ∃ g o, A = some ⟨g, o, none⟩ ∧ ∀ i x, a[i]? = some x → w.cell? ⟨g, o + i, none⟩ = some (.string x.1)) := Lib.hid (fun k hk => by
    obtain ⟨g, o, e, _, h⟩ := ha.str (by omega)
    exact ⟨g, o, e, h⟩)
  clear ha
  go_enter Tryd.func17, Tryd.ntmps17
  go_wp2_with fail
  go_loopw [3] (fun vi wr => ∃ k n : Nat, vi = .int .i64 ((k : Int) + 1) ∧ (k = 0 ∨ k < a.length) ∧ (∀ j x y, j < k → a[j]? = some x → a[j + 1]? = some y → cmpS x y < 0) ∧ wr = w.drewN n) (fun vi _ => a.length - (intOf vi).toNat)
  case atStart => exact ⟨0, 0, rfl, .inl rfl, fun j _ _ h => absurd h (by omega), rfl⟩
  case round =>
    obtain ⟨k, n, rfl, hk, ht, rfl⟩ := hrel
    replace ht := Lib.hid ht
    replace hk := Lib.hid hk
    by_cases hlt : k + 1 < a.length
    · obtain ⟨x, hx⟩ := get_some (show k < a.length by omega)
      obtain ⟨y, hy⟩ := get_some hlt
      obtain ⟨g, o, rfl, q⟩ := hc.out k (by omega)
      have q1 := q k x hx
      have q2 := q (k + 1) y hy
      clear q
      have i0 : (0 : Int) ≤ (k : Int) := by omega
      have i1 : (k : Int) < (a.length : Int) := by omega
      have i2 : (k : Int) + 1 < (a.length : Int) := by omega
      obtain ⟨C, hC⟩ : ∃ C, Id.cmpN x.1.toList y.1.toList = C := ⟨_, rfl⟩
      have hCx := Lib.hid (show cmpS x y = C from hC)
      have hcall := fun W => rcompare_any x.1 y.1 x.2 y.2 W
      rw [hC] at hcall
      replace hcall := Lib.hid hcall
      clear hC
      by_cases hneg : C < 0
      · go_wp2_with fail
        go_quiet ((go_at_call 23; first | exact quiet_add (hcall.out _) | exact quiet_first (hcall.out _)))
        go_wp2_with fail
        go_roundw
        case rel => exact ⟨k + 1, _, by go_num, .inr hlt, fun j x' y' hj hx' hy' => by
          by_cases e : j = k
          · subst e
            rw [hx] at hx'; rw [hy] at hy'
            cases hx'; cases hy'
            rw [hCx.out]; exact hneg
          · exact ht.out j x' y' (by omega) hx' hy', by first | rfl | exact World.drewN_drewN _ _ _⟩
        case measure => simp [intOf]; omega
      · have hna : ¬ Asc cmpS a := fun h => hneg (by rw [← hCx.out]; exact adj_of_asc h hx hy)
        replace hna := Lib.hid hna
        go_wp2_with fail
        go_quiet ((go_at_call 23; first | exact quiet_add (hcall.out _) | exact quiet_first (hcall.out _)))
        go_wp2_with fail
        go_ret
        exact ⟨false, rfl, by simpa using hna.out, _, by first | rfl | exact World.drewN_drewN _ _ _⟩
    · have ha : Asc cmpS a := asc_of_adj ord_str fun j x y hx hy => ht.out j x y (by have := (List.getElem?_eq_some_iff.1 hy).1; have := hk.out; omega) hx hy
      replace ha := Lib.hid ha
      go_wp2_with fail
      go_ret
      exact ⟨true, rfl, by simpa using ha.out, n, rfl⟩
end Go.Proofs.YtfbnihemoaknjaaDoor
