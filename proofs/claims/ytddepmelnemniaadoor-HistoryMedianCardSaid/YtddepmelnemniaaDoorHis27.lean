/-
  The walks of histories: the time of a test, by the program: its median.
-/
import Derived.Test.YtddepmelnemniaaDoorHis26
import Derived.Test.YtddepmelnemniaaDoorShelf


namespace Go.Proofs.YtddepmelnemniaaDoor
open Go.RowKit
open Go.Sort hiding Below

/-- A row rewritten, and new blocks: nothing below it has turned. -/
theorem below_sorted {α : Type} [Inhabited α] (enc : α → Value) {w : World} {B g off n : Nat} {d : Array α} {os : Array Obj} (hg : B ≤ g) (hB : B ≤ w.heap.size) : Below B w (Sort.grow (putRow enc (Sort.ahead w n) g off d) os) :=
  ⟨rfl, rfl, rfl, by simp, fun k hk => by
    rw [heap_grow_old _ _ (by simp; omega)]
    have : g ≠ k := by omega
    simp [putRow, mapBlock, Sort.ahead, Array.getElem?_modify, this]⟩
theorem holds_ahead' {α : Type} [Inhabited α] {enc : α → Value} {w : World} {g off : Nat} {d : Array α} (h : Holds enc w g off d) (n : Nat) : Holds enc (Sort.ahead w n) g off d := h
theorem int_info : (Tryd.prog.info? 3).map (fun i => (i.zero, i.size, i.bytes)) = some (some (.int .i64 0), 1, 8) := by kernel_rfl
def valI (l : List I64) : List Int := l.map (·.1)
theorem val_len (l : List I64) : (valI l).length = l.length := List.length_map _
theorem own_holdsI {w : World} {base g cap : Nat} {l : List I64} (h : Own iE 1 3 w base (.slice (some ⟨g, 0, none⟩) l.length cap) l) : Holds (Value.int .i64) w g 0 (valI l).toArray := by
  intro j hj
  have hj' : j < l.length := by rw [← val_len]; simpa using hj
  rw [Nat.zero_add]
  refine ⟨?_, h.frozenAt _⟩
  obtain ⟨y, hy⟩ := get_some hj'
  obtain ⟨g', o', e, _, hc⟩ := h.reads iE_len (by omega)
  simp only [Option.some.injEq, Addr.mk.injEq] at e
  obtain ⟨rfl, rfl, _⟩ := e
  have := hc j y hy 0 (.int .i64 y.1) rfl
  rw [Nat.zero_add, Nat.mul_one, Nat.add_zero] at this
  rw [this, getElem!_def, List.getElem?_toArray, show (valI l)[j]? = some y.1 by unfold valI; rw [List.getElem?_map, hy]; rfl]
theorem sorti_any (g cap : Nat) (l : List I64) (H : Nat) (w : World) (hown : Own iE 1 3 w H (.slice (some ⟨g, 0, none⟩) l.length cap) l) (hH : H ≤ w.heap.size) (hn : l.length ≤ 1000000) :
    Calls Tryd.prog 12 #[.slice (some ⟨g, 0, none⟩) l.length cap] w fun e w' => e = .returned (.tuple #[]) ∧ (∀ j y, (srtI (valI l))[j]? = some y → w'.cell? ⟨g, j, none⟩ = some (.int .i64 y)) ∧ Below H w w' := by
  have hlt := hown.lt g rfl
  have hh := own_holdsI hown
  have hs := Tryd.slices_Sort_int g 0 cap (valI l) w hh hlt.2 (by rw [val_len]; omega)
  rw [val_len] at hs
  refine hs.mono ?_
  rintro e w' ⟨rfl, n, os, rfl⟩
  refine ⟨rfl, fun j y hy => ?_, below_sorted _ hlt.1 hH⟩
  have hjl := (List.getElem?_eq_some_iff.1 hy).1
  have hsz : (srtI (valI l)).length = l.length := by rw [(srt_perm _).length_eq, val_len]
  have h1 := cell?_putRow (Value.int .i64) (Sort.ahead w n) g 0 (valI l).toArray (srtI (valI l)).toArray (holds_ahead' hh n) (by simp [hsz, val_len]) j (by simp [hsz]; omega)
  rw [Nat.zero_add] at h1
  have h2 : (putRow (Value.int .i64) (Sort.ahead w n) g 0 (srtI (valI l)).toArray).cell? ⟨g, j, none⟩ = some (.int .i64 y) := by
    rw [h1, getElem!_def, List.getElem?_toArray, hy]
  have hlb := World.block_lt_of_cell? _ _ h2
  exact (cell?_grow _ os _ hlb).trans h2
theorem med_get {l : List Int} (h : l ≠ []) : (srtI l)[(l.length - 1) / 2]? = some (medI l) := med_of (srt_perm l) (srt_up l) h
/-- The times of samples, as they lie. -/
def timesS (l : List Samp) : List I64 := l.map Samp.time
theorem meas_val (l : List Samp) : measT l = valI (timesS (l.filter isM)) := by
  unfold measT valI timesS
  rw [List.map_map]
  rfl
theorem rw_int1 {w : World} {g B : Nat} {x : I64} (hg : g = w.heap.size) (hB : g < B) : Rw iE 1 (w.alloc (.cells #[.int .i64 x.1] 3)) B (some ⟨g, 0, none⟩) [x] := by
  subst hg
  refine fun _ => ⟨_, 0, rfl, hB, fun i y hy j u hu => ?_⟩
  match i, hy with
  | 0, hy =>
    obtain rfl : x = y := by simpa using hy
    match j, hu with
    | 0, hu => obtain rfl : Value.int .i64 x.1 = u := by simpa [iE] using hu
               exact box_cells w _ _ 0 _ rfl
    | j + 1, hu => simp [iE] at hu
  | i + 1, hy => simp at hy
set_option maxRecDepth 100000 in
set_option maxHeartbeats 4000000 in
theorem timeof_any (x : Hst) (w : World) (hx : LabHst w w.heap.size x) (hn : x.l.length ≤ 1000000) :
    Calls Tryd.prog 6 #[.agg #[.string x.name.1, .slice x.lA x.l.length x.lC]] w fun e w' => e = .returned (.int .i64 (timeI x.l)) ∧ Below w.heap.size w w' := by
  obtain ⟨inf, hi0, iz0, iz1, iz2⟩ := info_parts int_info
  have hms : Hid (∀ W, Below w.heap.size w W → Calls Tryd.prog 11 #[.agg #[.string x.name.1, .slice x.lA x.l.length x.lC]] W fun e w' => ∃ A c, e = .returned (.slice A (x.l.filter isM).length c) ∧ Own sampE 4 42 w' W.heap.size (.slice A (x.l.filter isM).length c) (x.l.filter isM) ∧ Below W.heap.size W w') := Lib.hid fun W hb => measured_any x W ((hx.below hb (Nat.le_refl _)).more hb.size) hn
  have hmv := meas_val x.l
  obtain ⟨M, hM⟩ : ∃ M, x.l.filter isM = M := ⟨_, rfl⟩
  have hMn : M.length ≤ 1000000 := by rw [← hM]; have := List.length_filter_le isM x.l; omega
  rw [hM] at hms hmv
  have htv : timeI x.l = medI (valI (timesS M)) := by unfold timeI; rw [hmv]
  rw [htv]
  clear hx htv
  replace hmv := Lib.hid hmv
  replace hM := Lib.hid hM
  rcases Nat.eq_zero_or_pos M.length with h0 | h0
  · obtain rfl := List.eq_nil_of_length_eq_zero h0
    clear h0
    go_enter Tryd.func6, Tryd.ntmps6
    go_wp2_with (go_at_call 11; go_must (refine (hms.out _ (by repeat (first | (with_reducible exact Below.refl _ _) | (with_reducible refine Below.drew ?_) | (with_reducible refine below_drewN ?_ _) | ((with_reducible refine Below.alloc ?_ ?_ _); rotate_left; focus ((try simp) <;> omega)) | ((with_reducible refine Below.setCell ?_ ?_ _); rotate_left; focus ((try simp) <;> omega)) | ((with_reducible refine Below.trans ?_ (Below.mono (by assumption) ?_)); rotate_left; focus ((try simp) <;> omega))))).mono ?_; rintro e w2 ⟨A2, c2, rfl, ho2, hb2⟩; have hz2 := hb2.size; (try simp at hz2)))
    go_ret
    exact ⟨rfl, (by repeat (first | (with_reducible exact Below.refl _ _) | (with_reducible refine Below.drew ?_) | (with_reducible refine below_drewN ?_ _) | ((with_reducible refine Below.alloc ?_ ?_ _); rotate_left; focus ((try simp) <;> omega)) | ((with_reducible refine Below.setCell ?_ ?_ _); rotate_left; focus ((try simp) <;> omega)) | ((with_reducible refine Below.trans ?_ (Below.mono (by assumption) ?_)); rotate_left; focus ((try simp) <;> omega))))⟩
  have hne : ¬ (M.length : Int) = 0 := by omega
  have hneb : ((M.length : Int) == 0) = false := by rw [beq_eq_false_iff_ne]; exact hne
  have hsrt := Lib.hid fun (g cap : Nat) (H : Nat) (W : World) => sorti_any g cap (timesS M) H W
  have hlM : (timesS M).length = M.length := List.length_map _
  have hmed := med_get (l := valI (timesS M)) (fun e => by have := congrArg List.length e; rw [val_len, hlM, List.length_nil] at this; omega)
  rw [val_len, hlM] at hmed
  obtain ⟨R, hR⟩ : ∃ R, medI (valI (timesS M)) = R := ⟨_, rfl⟩
  rw [hR] at hmed ⊢
  replace hR := Lib.hid hR
  replace hmed := Lib.hid hmed
  obtain ⟨md, hmd⟩ : ∃ md, (M.length - 1) / 2 = md := ⟨_, rfl⟩
  have hmd1 : md < M.length := by omega
  have hmd2 : ((M.length : Int) - 1) / 2 = (md : Int) := by omega
  rw [hmd] at hmed
  replace hmd := Lib.hid hmd
  go_enter Tryd.func6, Tryd.ntmps6
  go_wp2_with (go_at_call 11; go_must (refine (hms.out _ (by repeat (first | (with_reducible exact Below.refl _ _) | (with_reducible refine Below.drew ?_) | (with_reducible refine below_drewN ?_ _) | ((with_reducible refine Below.alloc ?_ ?_ _); rotate_left; focus ((try simp) <;> omega)) | ((with_reducible refine Below.setCell ?_ ?_ _); rotate_left; focus ((try simp) <;> omega)) | ((with_reducible refine Below.trans ?_ (Below.mono (by assumption) ?_)); rotate_left; focus ((try simp) <;> omega))))).mono ?_; rintro e w2 ⟨A2, c2, rfl, ho2, hb2⟩; have hz2 := hb2.size; (try simp at hz2)))
  have hrd := Lib.hid (ho2.reads sampE_len)
  go_loopw [4, 14] (fun vo vi wr => ∃ k : Nat, k ≤ M.length ∧ vi = .int .i64 (k : Int) ∧ Own iE 1 3 wr w2.heap.size vo (timesS (M.take k)) ∧ Below w2.heap.size w2 wr) (fun _ vi _ => M.length - (intOf vi).toNat)
  case atStart => exact ⟨0, Nat.zero_le _, rfl, Own.nil _ _ _, Below.refl _ _⟩
  case round =>
    obtain ⟨k, hk, rfl, hown, hbw⟩ := hrel
    have hz := hbw.size
    have hvlt := Lib.hid hown.lt
    have htl : (timesS (M.take k)).length = k := by unfold timesS; rw [List.length_map, List.length_take]; omega
    by_cases hkl : k < M.length
    · obtain ⟨s, hs⟩ := get_some hkl
      obtain ⟨g, o, rfl, hg, hq⟩ := hrd.out (by omega)
      have q := fun j u hu => (hbw.cell (p := ⟨g, o + k * 4 + j, none⟩) hg).trans (hq k s hs j u hu)
      have q0 := q 0 (.int .u64 s.code.1) rfl
      rw [Nat.add_zero] at q0
      have q1 := q 1 (.int .i64 s.status.1) rfl
      have q2 := q 2 (.int .i64 s.time.1) rfl
      have q3 := q 3 (.int .i64 s.stamp.1) rfl
      clear q hq
      have i0 : (0 : Int) ≤ (k : Int) := by omega
      have i1 : (k : Int) < (M.length : Int) := by omega
      have hnx : Hid (timesS (M.take (k + 1)) = timesS (M.take k) ++ [s.time]) := Lib.hid (by unfold timesS; rw [List.take_add_one, hs, List.map_append]; rfl)
      have htl1 := Nat.le_of_eq htl
      replace htl := Lib.hid htl
      replace hs := Lib.hid hs
      replace hown := Lib.hid hown
      go_wp2_with (at_builtin
                   refine wpList_append_rw _ rfl (.tmp 18) (.tmp 21) _ rfl iE_len iE_one w2.heap.size 3 inf _ 8 Tryd.underlying26 hi0 iz0 iz1 iz2 rfl (by omega) _ (timesS (M.take k)) rfl ((hown.out.alloc _).alloc _) _ (some ⟨wr.heap.size + 1, 0, none⟩) 1 1 [s.time] rfl rfl (rw_int1 (by simp) (Nat.lt_succ_self _)) ?_ ?_ ?_ ?_
                   · (try simp [maxLen]) <;> omega
                   · (try simp) <;> omega
                   · (try simp) <;> omega
                   intro v4 w4 hown4 hg4 hat4
                   have hz4 := hg4.size)
      go_roundw
      case rel => exact ⟨k + 1, hkl, by go_num, by rw [hnx.out]; exact hown4, Below.grown (hbw.trans (Below.mono (B := wr.heap.size) (by repeat (first | (with_reducible exact Below.refl _ _) | (with_reducible refine Below.drew ?_) | (with_reducible refine below_drewN ?_ _) | ((with_reducible refine Below.alloc ?_ ?_ _); rotate_left; focus ((try simp) <;> omega)) | ((with_reducible refine Below.setCell ?_ ?_ _); rotate_left; focus ((try simp) <;> omega)) | ((with_reducible refine Below.trans ?_ (Below.mono (by assumption) ?_)); rotate_left; focus ((try simp) <;> omega)))) (by omega))) hg4 (by (try simp) <;> omega) (fun q hq => (hvlt.out q hq).1)⟩
      case measure => simp [intOf]; omega
    · have i1 : ¬ (k : Int) < (M.length : Int) := by omega
      obtain rfl : k = M.length := by omega
      rw [List.take_length] at hown htl
      obtain ⟨g, cap, hv, hbg, hgl⟩ := World.ownsRow.form hown (by omega)
      subst hv
      have m0 : (0 : Int) ≤ (md : Int) := by omega
      have m1 : (md : Int) < (M.length : Int) := by omega
      have hsr0 := fun (W : World) hown hH => sorti_any g cap (timesS M) w2.heap.size W hown hH (by omega)
      have hown' : Own iE 1 3 wr w2.heap.size (.slice (some ⟨g, 0, none⟩) (timesS M).length cap) (timesS M) := hown
      rw [hlM] at hown' hsr0
      have hsr := Lib.hid (hsr0 wr hown' hz)
      clear hsr0 hown'
      replace hown := Lib.hid hown
      go_wp2_with (go_at_call 12; go_must (refine hsr.out.mono ?_; rintro e w5 ⟨rfl, hsc, hb5⟩; have hm5 := hsc md R hmed.out; clear hsc))
      go_ret
      exact ⟨rfl, (show Below w.heap.size w w2 from (by repeat (first | (with_reducible exact Below.refl _ _) | (with_reducible refine Below.drew ?_) | (with_reducible refine below_drewN ?_ _) | ((with_reducible refine Below.alloc ?_ ?_ _); rotate_left; focus ((try simp) <;> omega)) | ((with_reducible refine Below.setCell ?_ ?_ _); rotate_left; focus ((try simp) <;> omega)) | ((with_reducible refine Below.trans ?_ (Below.mono (by assumption) ?_)); rotate_left; focus ((try simp) <;> omega))))).trans (hb5.mono (by omega) |> fun h => (hbw.mono (by omega)).trans h)⟩
end Go.Proofs.YtddepmelnemniaaDoor
