/-
  The walks of shards: times limited, ints sorted, the median by the program.
-/
import Derived.Test.YtdjepnilmgembaaGreatDoorShdP
import Derived.Test.YtdjepnilmgembaaGreatDoorComm0
import Derived.Test.YtdjepnilmgembaaGreatDoorPar2


namespace Go.Proofs.YtdjepnilmgembaaGreatDoor
open Go.RowKit
open Go.Sort hiding Below

set_option maxHeartbeats 400000 in
theorem limit_any (n lo hi : Int) (w : World) :
    Calls Tryz.prog 42 #[.int .i64 n, .int .i64 lo, .int .i64 hi] w fun e w' => e = .returned (.int .i64 (max lo (min n hi))) ∧ w = w' := by
  go_enter Tryz.func42, Tryz.ntmps42
  go_wp2
  all_goals
    go_ret
    refine ⟨ret_int ?_, rfl⟩
    omega
theorem int_info : (Tryz.prog.info? 3).map (fun i => (i.zero, i.size, i.bytes)) = some (some (.int .i64 0), 1, 8) := by kernel_rfl
def valI (l : List I64) : List Int := l.map (·.1)
theorem val_len (l : List I64) : (valI l).length = l.length := List.length_map _
theorem own_holdsI {w : World} {base g cap : Nat} {l : List I64} (h : Own iE 1 3 w base (.slice (some ⟨g, 0, none⟩) l.length cap) l) : Go.Sort.Holds (Value.int .i64) w g 0 (valI l).toArray := by
  intro j hj
  have hj' : j < l.length := by rw [← val_len]; simpa using hj
  rw [Nat.zero_add]
  refine ⟨?_, h.frozenAt _⟩
  obtain ⟨y, hy⟩ := get_some hj'
  obtain ⟨g', o', e, _, hc⟩ := h.reads iE_len (by omega)
  simp only [Option.some.injEq, Addr.mk.injEq] at e
  obtain ⟨rfl, rfl, _⟩ := e
  have := hc j y hy 0 (.int .i64 y.1) rfl
  rw [Nat.zero_add, Nat.mul_one, Nat.add_zero] at this
  rw [this, getElem!_def, List.getElem?_toArray, show (valI l)[j]? = some y.1 by unfold valI; rw [List.getElem?_map, hy]; rfl]
theorem sorti_any (g cap : Nat) (l : List I64) (H : Nat) (w : World) (hown : Own iE 1 3 w H (.slice (some ⟨g, 0, none⟩) l.length cap) l) (hH : H ≤ w.heap.size) (hn : l.length ≤ 1000000) :
    Calls Tryz.prog 22 #[.slice (some ⟨g, 0, none⟩) l.length cap] w fun e w' => e = .returned (.tuple #[]) ∧ (∀ j y, (srtI (valI l))[j]? = some y → w'.cell? ⟨g, j, none⟩ = some (.int .i64 y)) ∧ Below H w w' := by
  have hlt := hown.lt g rfl
  have hh := own_holdsI hown
  have hs := Tryz.slices_Sort_int g 0 cap (valI l) w hh hlt.2 (by rw [val_len]; omega)
  rw [val_len] at hs
  refine hs.mono ?_
  rintro e w' ⟨rfl, n, os, rfl⟩
  refine ⟨rfl, fun j y hy => ?_, below_sorted _ hlt.1 hH⟩
  have hjl := (List.getElem?_eq_some_iff.1 hy).1
  have hsz : (srtI (valI l)).length = l.length := by rw [(srt_perm _).length_eq, val_len]
  have h1 := cell?_putRow (Value.int .i64) (Sort.ahead w n) g 0 (valI l).toArray (srtI (valI l)).toArray (holds_ahead' hh n) (by simp [hsz, val_len]) j (by simp [hsz]; omega)
  rw [Nat.zero_add] at h1
  have h2 : (putRow (Value.int .i64) (Sort.ahead w n) g 0 (srtI (valI l)).toArray).cell? ⟨g, j, none⟩ = some (.int .i64 y) := by
    rw [h1, getElem!_def, List.getElem?_toArray, hy]
  have hlb := World.block_lt_of_cell? _ _ h2
  exact (cell?_grow _ os _ hlb).trans h2
theorem med_get {l : List Int} (h : l ≠ []) : (srtI l)[(l.length - 1) / 2]? = some (medI l) := med_of (srt_perm l) (srt_up l) h
theorem rw_int1 {w : World} {g B : Nat} {x : I64} (hg : g = w.heap.size) (hB : g < B) : Rw iE 1 (w.alloc (.cells #[.int .i64 x.1] 3)) B (some ⟨g, 0, none⟩) [x] := by
  subst hg
  refine fun _ => ⟨_, 0, rfl, hB, fun i y hy j u hu => ?_⟩
  match i, hy with
  | 0, hy =>
    obtain rfl : x = y := by simpa using hy
    match j, hu with
    | 0, hu => obtain rfl : Value.int .i64 x.1 = u := by simpa [iE] using hu
               exact box_cells w _ _ 0 _ rfl
    | j + 1, hu => simp [iE] at hu
  | i + 1, hy => simp at hy

def limI (n : I64) : I64 := ⟨limT n.1, by have := lim_in n.1; omega⟩
theorem limited_any (n : I64) (w : World) : Calls Tryz.prog 21 #[.int .i64 n.1] w fun e w' => e = .returned (.int .i64 (limI n).1) ∧ w = w' := by
  go_enter Tryz.func21, Tryz.ntmps21
  go_wp2_with (go_at_call 42; go_must (refine (limit_any _ _ _ _).mono ?_; rintro e w' ⟨rfl, rfl⟩))
  go_ret
  exact ⟨rfl, rfl⟩
/-- The times of timings, limited. -/
def limsT (l : List Tm) : List I64 := l.map fun t => limI t.time
theorem lims_val (l : List Tm) : l.map (fun t => limT t.time.1) = valI (limsT l) := by
  unfold valI limsT
  rw [List.map_map]
  rfl
theorem med_nil : medT [] = 1 := by decide
set_option maxRecDepth 100000 in
set_option maxHeartbeats 4000000 in
theorem median_any (A : Option Addr) (c : Nat) (l : List Tm) (w : World) (hr : Rw tmE 2 w w.heap.size A l) (hn : l.length ≤ 1000000) :
    Calls Tryz.prog 10 #[.slice A l.length c] w fun e w' => e = .returned (.int .i64 (medT l)) ∧ Below w.heap.size w w' := by
  obtain ⟨inf, hi0, iz0, iz1, iz2⟩ := info_parts int_info
  have hrd := Lib.hid hr
  clear hr
  rcases Nat.eq_zero_or_pos l.length with h0 | h0
  · obtain rfl := List.eq_nil_of_length_eq_zero h0
    clear h0
    have hmn := Lib.hid med_nil
    go_enter Tryz.func10, Tryz.ntmps10
    go_wp2_with fail
    go_ret
    exact ⟨by rw [hmn.out]; rfl, (by repeat (first | (with_reducible exact Below.refl _ _) | (with_reducible refine Below.drew ?_) | (with_reducible refine below_drewN ?_ _) | ((with_reducible refine Below.alloc ?_ ?_ _); rotate_left; focus ((try simp) <;> omega)) | ((with_reducible refine Below.setCell ?_ ?_ _); rotate_left; focus ((try simp) <;> omega)) | ((with_reducible refine Below.trans ?_ (Below.mono (by assumption) ?_)); rotate_left; focus ((try simp) <;> omega))))⟩
  have hne : ¬ (l.length : Int) = 0 := by omega
  have hneb : ((l.length : Int) == 0) = false := by rw [beq_eq_false_iff_ne]; exact hne
  have hlM : (limsT l).length = l.length := List.length_map _
  have hmed := med_get (l := valI (limsT l)) (fun e => by have := congrArg List.length e; rw [val_len, hlM, List.length_nil] at this; omega)
  rw [val_len, hlM] at hmed
  have hR0 : medT l = max 1 (medI (valI (limsT l))) := by unfold medT; rw [lims_val]
  obtain ⟨R, hR⟩ : ∃ R, medI (valI (limsT l)) = R := ⟨_, rfl⟩
  rw [hR] at hmed hR0
  rw [hR0]
  replace hR := Lib.hid hR
  replace hR0 := Lib.hid hR0
  replace hmed := Lib.hid hmed
  obtain ⟨md, hmd⟩ : ∃ md, (l.length - 1) / 2 = md := ⟨_, rfl⟩
  have hmd1 : md < l.length := by omega
  have hmd2 : ((l.length : Int) - 1) / 2 = (md : Int) := by omega
  rw [hmd] at hmed
  replace hmd := Lib.hid hmd
  replace hlM := Lib.hid hlM
  go_enter Tryz.func10, Tryz.ntmps10
  go_wp2_with fail
  go_loopw [3, 11] (fun vo vi wr => ∃ k : Nat, k ≤ l.length ∧ vi = .int .i64 (k : Int) ∧ Own iE 1 3 wr w.heap.size vo (limsT (l.take k)) ∧ Below w.heap.size w wr) (fun _ vi _ => l.length - (intOf vi).toNat)
  case atStart => exact ⟨0, Nat.zero_le _, rfl, Own.nil _ _ _, (by repeat (first | (with_reducible exact Below.refl _ _) | (with_reducible refine Below.drew ?_) | (with_reducible refine below_drewN ?_ _) | ((with_reducible refine Below.alloc ?_ ?_ _); rotate_left; focus ((try simp) <;> omega)) | ((with_reducible refine Below.setCell ?_ ?_ _); rotate_left; focus ((try simp) <;> omega)) | ((with_reducible refine Below.trans ?_ (Below.mono (by assumption) ?_)); rotate_left; focus ((try simp) <;> omega))))⟩
  case round =>
    obtain ⟨k, hk, rfl, hown, hbw⟩ := hrel
    have hz := hbw.size
    have hvlt := Lib.hid hown.lt
    have htl : (limsT (l.take k)).length = k := by unfold limsT; rw [List.length_map, List.length_take]; omega
    by_cases hkl : k < l.length
    · obtain ⟨s, hs⟩ := get_some hkl
      obtain ⟨g, o, rfl, hg, hq⟩ := hrd.out (by omega)
      have q := fun j u hu => (hbw.cell (p := ⟨g, o + k * 2 + j, none⟩) hg).trans (hq k s hs j u hu)
      have q0 := q 0 (.string s.name.1) rfl
      rw [Nat.add_zero] at q0
      have q1 := q 1 (.int .i64 s.time.1) rfl
      clear q hq
      have hgr : g < wr.heap.size := by omega
      have i0 : (0 : Int) ≤ (k : Int) := by omega
      have i1 : (k : Int) < (l.length : Int) := by omega
      have hnx : Hid (limsT (l.take (k + 1)) = limsT (l.take k) ++ [limI s.time]) := Lib.hid (by unfold limsT; rw [List.take_add_one, hs, List.map_append]; rfl)
      have htl1 := Nat.le_of_eq htl
      replace htl := Lib.hid htl
      replace hs := Lib.hid hs
      replace hown := Lib.hid hown
      go_wp2_with (first
        | (go_at_call 21; go_must (refine (limited_any _ _).mono ?_; rintro e w2 ⟨rfl, rfl⟩))
        | (at_builtin
           refine wpList_append_rw _ rfl (.tmp 15) (.tmp 19) _ rfl iE_len iE_one w.heap.size 3 inf _ 8 Tryz.underlying46 hi0 iz0 iz1 iz2 rfl (by omega) _ (limsT (l.take k)) rfl ((hown.out.alloc _).alloc _) _ (some ⟨wr.heap.size + 1, 0, none⟩) 1 1 [limI s.time] rfl rfl (rw_int1 (by simp) (Nat.lt_succ_self _)) ?_ ?_ ?_ ?_
           · (try simp [maxLen]) <;> omega
           · (try simp) <;> omega
           · (try simp) <;> omega
           intro v4 w4 hown4 hg4 hat4
           have hz4 := hg4.size))
      go_roundw
      case rel => exact ⟨k + 1, hkl, by go_num, by rw [hnx.out]; exact hown4, Below.grown (hbw.trans (Below.mono (B := wr.heap.size) (by repeat (first | (with_reducible exact Below.refl _ _) | (with_reducible refine Below.drew ?_) | (with_reducible refine below_drewN ?_ _) | ((with_reducible refine Below.alloc ?_ ?_ _); rotate_left; focus ((try simp) <;> omega)) | ((with_reducible refine Below.setCell ?_ ?_ _); rotate_left; focus ((try simp) <;> omega)) | ((with_reducible refine Below.trans ?_ (Below.mono (by assumption) ?_)); rotate_left; focus ((try simp) <;> omega)))) (by omega))) hg4 (by (try simp) <;> omega) (fun q hq => (hvlt.out q hq).1)⟩
      case measure => simp [intOf]; omega
    · have i1 : ¬ (k : Int) < (l.length : Int) := by omega
      obtain rfl : k = l.length := by omega
      rw [List.take_length] at hown htl
      obtain ⟨g, cap, hv, hbg, hgl⟩ := World.ownsRow.form hown (by omega)
      rw [hlM.out] at hv
      subst hv
      have m0 : (0 : Int) ≤ (md : Int) := by omega
      have m1 : (md : Int) < (l.length : Int) := by omega
      have hsr0 := fun (W : World) hown hH => sorti_any g cap (limsT l) w.heap.size W hown hH (by omega)
      have hown' : Own iE 1 3 wr w.heap.size (.slice (some ⟨g, 0, none⟩) (limsT l).length cap) (limsT l) := by rw [hlM.out]; exact hown
      rw [hlM.out] at hown' hsr0
      have hsr := Lib.hid (hsr0 wr hown' hz)
      clear hsr0 hown'
      replace hown := Lib.hid hown
      replace htl := Lib.hid htl
      clear hmd1 hneb hne
      go_wp2_with (go_at_call 22; go_must (with_reducible refine hsr.out.mono ?_; rintro e w5 ⟨rfl, hsc, hb5⟩; have hm5 := hsc md R hmed.out; clear hsc))
      go_ret
      exact ⟨rfl, hbw.trans hb5⟩
end Go.Proofs.YtdjepnilmgembaaGreatDoor
