/-
  The walks of shards: the shard that is being filled, which of two comes first, the heap's step down.
-/
import Derived.Test.YtdjepnilmgembaaGreatDoorShw5
import Derived.Test.YtdjepnilmgembaaGreatDoorShdP
import Derived.Test.YtdjepnilmgembaaGreatDoorCopyGr


namespace Go.Proofs.YtdjepnilmgembaaGreatDoor
open Go.RowKit

/-- A shard that is being filled, in its cells. -/
structure HR where
  no : Nat
  load : Int
  tA : Option Addr
  tC : Nat
  ts : List Str
deriving Inhabited
def hrE (x : HR) : List Value := [.int .i64 (x.no : Int), .int .i64 x.load, .slice x.tA x.ts.length x.tC]
theorem hrE_len (x : HR) : (hrE x).length = 3 := rfl
theorem hrE_one (x : HR) : ∀ u ∈ hrE x, u.oneCell' = true := by
  intro u hu
  simp only [hrE, List.mem_cons, List.not_mem_nil, or_false] at hu
  rcases hu with rfl | rfl | rfl <;> rfl
def HR.h (x : HR) : HB := ⟨x.no, x.load, x.ts⟩
def hrs (l : List HR) : List HB := l.map HR.h
theorem hrs_len (l : List HR) : (hrs l).length = l.length := List.length_map _
theorem hrs_at {l : List HR} {i : Nat} {x : HR} (h : l[i]? = some x) : (hrs l)[i]? = some x.h := by unfold hrs; rw [List.getElem?_map, h]; rfl
def swapR (l : List HR) (p q : Nat) : List HR := (l.set p l[q]!).set q l[p]!
theorem swapR_h {l : List HR} {p q : Nat} {a b : HR} (ha : l[p]? = some a) (hb : l[q]? = some b) : hrs (swapR l p q) = swapL (hrs l) p q := by
  unfold swapR swapL
  rw [get_bang ha, get_bang hb, get_bang (hrs_at ha), get_bang (hrs_at hb)]
  unfold hrs
  rw [List.map_set, List.map_set]
theorem swapR_perm {l : List HR} {p q : Nat} {a b : HR} (ha : l[p]? = some a) (hb : l[q]? = some b) (hpq : p < q) : (swapR l p q).Perm l := by
  obtain ⟨hp, e1⟩ := List.getElem?_eq_some_iff.1 ha
  obtain ⟨hq, e2⟩ := List.getElem?_eq_some_iff.1 hb
  have hl : l = l.take p ++ a :: l.drop (p + 1) := by rw [← e1, List.getElem_cons_drop hp, List.take_append_drop]
  have hq2 : (l.drop (p + 1))[q - (p + 1)]? = some b := by rw [List.getElem?_drop, show p + 1 + (q - (p + 1)) = q by omega]; exact hb
  obtain ⟨hq3, e3⟩ := List.getElem?_eq_some_iff.1 hq2
  obtain ⟨R, hR⟩ : ∃ R, l.drop (p + 1) = R := ⟨_, rfl⟩
  have hRs : R = R.take (q - (p + 1)) ++ b :: R.drop (q - (p + 1) + 1) := by
    subst hR
    rw [← e3, List.getElem_cons_drop hq3, List.take_append_drop]
  have hs : swapR l p q = l.take p ++ b :: R.set (q - (p + 1)) a := by
    unfold swapR
    rw [get_bang ha, get_bang hb, List.set_eq_take_append_cons_drop (l := l), if_pos hp, hR, List.set_append_right _ _ (by rw [List.length_take]; omega), List.length_take, Nat.min_eq_left (by omega)]
    congr 1
    rw [show q - p = (q - (p + 1)) + 1 by omega, List.set_cons_succ]
  rw [hs]
  have hRset : R.set (q - (p + 1)) a = R.take (q - (p + 1)) ++ a :: R.drop (q - (p + 1) + 1) := by
    rw [List.set_eq_take_append_cons_drop, if_pos (by rw [← hR]; exact hq3)]
  rw [hRset]
  conv => rhs; rw [hl, hR, hRs]
  refine List.Perm.append_left _ ?_
  refine (List.Perm.cons b List.perm_middle).trans ?_
  refine (List.Perm.swap a b _).trans ?_
  exact List.Perm.cons a List.perm_middle.symm
theorem befHB_lt {a b : HB} (h : a.load < b.load) : befHB a b = true := by unfold befHB; simp [h]
theorem befHB_gt {a b : HB} (h : b.load < a.load) : befHB a b = false := by unfold befHB; simp; omega
theorem befHB_eq {a b : HB} (h : a.load = b.load) : befHB a b = decide (a.no < b.no) := by unfold befHB; simp [h]
set_option maxHeartbeats 800000 in
theorem before_any (x y : HR) (w : World) : Calls Tryz.prog 149 #[.agg #[.int .i64 (x.no : Int), .int .i64 x.load, .slice x.tA x.ts.length x.tC], .agg #[.int .i64 (y.no : Int), .int .i64 y.load, .slice y.tA y.ts.length y.tC]] w fun e w' => e = .returned (.bool (befHB x.h y.h)) ∧ Below w.heap.size w w' := by
  rcases Int.lt_trichotomy x.load y.load with h | h | h
  · have hf := Lib.hid (befHB_lt (a := x.h) (b := y.h) h)
    go_enter Tryz.func149, Tryz.ntmps149
    go_wp2_with fail
    go_ret
    exact ⟨by rw [hf.out]; rfl, (by repeat (first | (with_reducible exact Below.refl _ _) | (with_reducible refine Below.drew ?_) | (with_reducible refine below_drewN ?_ _) | ((with_reducible refine Below.alloc ?_ ?_ _); rotate_left; focus ((try simp) <;> omega)) | ((with_reducible refine Below.setCell ?_ ?_ _); rotate_left; focus ((try simp) <;> omega)) | ((with_reducible refine Below.trans ?_ (Below.mono (by assumption) ?_)); rotate_left; focus ((try simp) <;> omega))))⟩
  · have hf := Lib.hid (befHB_eq (a := x.h) (b := y.h) h)
    obtain ⟨n1, l1, A1, C1, t1⟩ := x
    obtain ⟨n2, l2, A2, C2, t2⟩ := y
    change l1 = l2 at h
    subst h
    have h2 : decide (l1 < l1) = false := by simp
    have he : (l1 == l1) = true := by simp
    by_cases h3 : n1 < n2
    · have h4 : (n1 : Int) < (n2 : Int) := by omega
      have hg : Hid (befHB (HR.h ⟨n1, l1, A1, C1, t1⟩) (HR.h ⟨n2, l1, A2, C2, t2⟩) = true) := Lib.hid (by rw [hf.out]; exact decide_eq_true h3)
      go_enter Tryz.func149, Tryz.ntmps149
      go_wp2_with fail
      go_ret
      exact ⟨by rw [hg.out]; rfl, (by repeat (first | (with_reducible exact Below.refl _ _) | (with_reducible refine Below.drew ?_) | (with_reducible refine below_drewN ?_ _) | ((with_reducible refine Below.alloc ?_ ?_ _); rotate_left; focus ((try simp) <;> omega)) | ((with_reducible refine Below.setCell ?_ ?_ _); rotate_left; focus ((try simp) <;> omega)) | ((with_reducible refine Below.trans ?_ (Below.mono (by assumption) ?_)); rotate_left; focus ((try simp) <;> omega))))⟩
    · have h4 : ¬ (n1 : Int) < (n2 : Int) := by omega
      have hg : Hid (befHB (HR.h ⟨n1, l1, A1, C1, t1⟩) (HR.h ⟨n2, l1, A2, C2, t2⟩) = false) := Lib.hid (by rw [hf.out]; exact decide_eq_false h3)
      go_enter Tryz.func149, Tryz.ntmps149
      go_wp2_with fail
      go_ret
      exact ⟨by rw [hg.out]; rfl, (by repeat (first | (with_reducible exact Below.refl _ _) | (with_reducible refine Below.drew ?_) | (with_reducible refine below_drewN ?_ _) | ((with_reducible refine Below.alloc ?_ ?_ _); rotate_left; focus ((try simp) <;> omega)) | ((with_reducible refine Below.setCell ?_ ?_ _); rotate_left; focus ((try simp) <;> omega)) | ((with_reducible refine Below.trans ?_ (Below.mono (by assumption) ?_)); rotate_left; focus ((try simp) <;> omega))))⟩
  · have hf := Lib.hid (befHB_gt (a := x.h) (b := y.h) h)
    have h1 : ¬ x.load < y.load := by omega
    have h2 : ¬ x.load = y.load := by omega
    have he : (x.load == y.load) = false := by simp; omega
    go_enter Tryz.func149, Tryz.ntmps149
    go_wp2_with fail
    go_ret
    exact ⟨by rw [hf.out]; rfl, (by repeat (first | (with_reducible exact Below.refl _ _) | (with_reducible refine Below.drew ?_) | (with_reducible refine below_drewN ?_ _) | ((with_reducible refine Below.alloc ?_ ?_ _); rotate_left; focus ((try simp) <;> omega)) | ((with_reducible refine Below.setCell ?_ ?_ _); rotate_left; focus ((try simp) <;> omega)) | ((with_reducible refine Below.trans ?_ (Below.mono (by assumption) ?_)); rotate_left; focus ((try simp) <;> omega))))⟩
end Go.Proofs.YtdjepnilmgembaaGreatDoor
