/-
  The walks of histories: a history is looked up, by the reference.
-/
import Derived.Test.YtddepmelnemniaaGreatDoorHis11


namespace Go.Proofs.YtddepmelnemniaaGreatDoor
open Go.RowKit

/-- The history of a name as it is returned, and whether there is one. -/
def foundV (o : Option Hst) : Value := match o with | some x => .tuple #[.agg #[.string x.name.1, .slice x.lA x.l.length x.lC], .bool true] | none => .tuple #[.agg #[.string ByteArray.empty, .slice none 0 0], .bool false]
def atH (l : List Hst) (p : Str) : Option Hst := if findN p (l.map Hst.h) < 0 then none else l[(findN p (l.map Hst.h)).toNat]?
set_option maxRecDepth 100000 in
set_option maxHeartbeats 2000000 in
theorem rfindh_any (A : Option Addr) (c : Nat) (l : List Hst) (p : Str) (w : World) (hr : Rw hstE 2 w w.heap.size A l) (hn : l.length ≤ 9223372036854775807) :
    Calls Tryz.prog 19 #[.slice A l.length c, .string p.1] w fun e w' => e = .returned (foundV (atH l p)) ∧ Below w.heap.size w w' := by
  have hin : Hid (∀ W, Below w.heap.size w W → Calls Tryz.prog 42 #[.slice A l.length c, .string p.1] W fun e w' => e = .returned (.int .i64 (findN p (l.map Hst.h))) ∧ W = w') := Lib.hid fun W hb => rindex_any A c l p W ((hr.below hb (Nat.le_refl _)).more hb.size) hn
  by_cases h : findN p (l.map Hst.h) < 0
  · have hf : Hid (atH l p = none) := Lib.hid (by unfold atH; rw [if_pos h])
    generalize findN p (l.map Hst.h) = K at *
    clear hr
    go_enter Tryz.func19, Tryz.ntmps19
    go_wp2_with (go_at_call 42; go_must (refine (hin.out _ (by repeat (first | (with_reducible exact Below.refl _ _) | (with_reducible refine Below.drew ?_) | (with_reducible refine below_drewN ?_ _) | ((with_reducible refine Below.alloc ?_ ?_ _); rotate_left; focus ((try simp) <;> omega)) | ((with_reducible refine Below.setCell ?_ ?_ _); rotate_left; focus ((try simp) <;> omega)) | ((with_reducible refine Below.trans ?_ (Below.mono (by assumption) ?_)); rotate_left; focus ((try simp) <;> omega))))).mono ?_; rintro e w1 ⟨rfl, rfl⟩))
    rw [hf.out]
    exact bodyPost_ret (v := .tuple #[.agg #[.string ByteArray.empty, .slice none 0 0], .bool false]) (by simp [results, Tryz.results19, go_sem]; rfl) rfl ⟨rfl, (by repeat (first | (with_reducible exact Below.refl _ _) | (with_reducible refine Below.drew ?_) | (with_reducible refine below_drewN ?_ _) | ((with_reducible refine Below.alloc ?_ ?_ _); rotate_left; focus ((try simp) <;> omega)) | ((with_reducible refine Below.setCell ?_ ?_ _); rotate_left; focus ((try simp) <;> omega)) | ((with_reducible refine Below.trans ?_ (Below.mono (by assumption) ?_)); rotate_left; focus ((try simp) <;> omega))))⟩
  · have hlt : (findN p (l.map Hst.h)).toNat < l.length ∧ 0 ≤ findN p (l.map Hst.h) := by
      unfold findN at h ⊢
      split at h
      · rename_i h2
        rw [if_pos h2]
        rw [List.length_map] at h2
        omega
      · omega
    obtain ⟨x, hx⟩ := get_some hlt.1
    have hf : Hid (atH l p = some x) := Lib.hid (by unfold atH; rw [if_neg h, hx])
    obtain ⟨k, hk⟩ : ∃ k : Nat, findN p (l.map Hst.h) = (k : Int) := ⟨(findN p (l.map Hst.h)).toNat, by omega⟩
    rw [hk] at hin hx hlt
    rw [Int.toNat_natCast] at hx hlt
    replace hk := Lib.hid hk
    obtain ⟨g, o, rfl, hg, q⟩ := hr (by omega)
    have q0 := q k x hx 0 (.string x.name.1) rfl
    rw [Nat.add_zero] at q0
    have q1 := q k x hx 1 (.slice x.lA x.l.length x.lC) rfl
    have i0 : (0 : Int) ≤ (k : Int) := by omega
    have i1 : (k : Int) < (l.length : Int) := by omega
    have i2 : ¬ (k : Int) < 0 := by omega
    have ng1 : g ≠ w.heap.size := by omega
    have ng2 : w.heap.size ≠ g := by omega
    replace hx := Lib.hid hx
    clear hr q h
    go_enter Tryz.func19, Tryz.ntmps19
    go_wp2_with (go_at_call 42; go_must (refine (hin.out _ (by repeat (first | (with_reducible exact Below.refl _ _) | (with_reducible refine Below.drew ?_) | (with_reducible refine below_drewN ?_ _) | ((with_reducible refine Below.alloc ?_ ?_ _); rotate_left; focus ((try simp) <;> omega)) | ((with_reducible refine Below.setCell ?_ ?_ _); rotate_left; focus ((try simp) <;> omega)) | ((with_reducible refine Below.trans ?_ (Below.mono (by assumption) ?_)); rotate_left; focus ((try simp) <;> omega))))).mono ?_; rintro e w1 ⟨rfl, rfl⟩))
    rw [hf.out]
    exact bodyPost_ret (v := .tuple #[.agg #[.string x.name.1, .slice x.lA x.l.length x.lC], .bool true]) (by simp [results, Tryz.results19, go_sem]) rfl ⟨rfl, (by repeat (first | (with_reducible exact Below.refl _ _) | (with_reducible refine Below.drew ?_) | (with_reducible refine below_drewN ?_ _) | ((with_reducible refine Below.alloc ?_ ?_ _); rotate_left; focus ((try simp) <;> omega)) | ((with_reducible refine Below.setCell ?_ ?_ _); rotate_left; focus ((try simp) <;> omega)) | ((with_reducible refine Below.trans ?_ (Below.mono (by assumption) ?_)); rotate_left; focus ((try simp) <;> omega))))⟩
end Go.Proofs.YtddepmelnemniaaGreatDoor
