/-
  The walks of histories: the measured samples, by the program: slices.DeleteFunc at samples.
-/
import Derived.Test.YtddepmelnemniaaDoorHis24


namespace Go.Proofs.YtddepmelnemniaaDoor
open Go.RowKit

def samp (x : Samp) : Value := .agg #[.int .u64 x.code.1, .int .i64 x.status.1, .int .i64 x.time.1, .int .i64 x.stamp.1]
theorem meas1_any (x : Samp) (w : World) : Calls Tryd.prog 24 #[.agg #[.int .u64 x.code.1, .int .i64 x.status.1, .int .i64 x.time.1, .int .i64 x.stamp.1]] w fun e w' => e = .returned (.bool (!isM x)) ∧ Below w.heap.size w w' := by
  unfold isM
  by_cases h1 : x.status.1 = 1
  · rw [decide_eq_true h1, Bool.true_or]
    have k1 : (x.status.1 != 1) = false := by rw [h1]; rfl
    go_enter Tryd.func24, Tryd.ntmps24
    go_wp2_with fail
    go_ret
    exact ⟨rfl, (by repeat (first | (with_reducible exact Below.refl _ _) | (with_reducible refine Below.drew ?_) | (with_reducible refine below_drewN ?_ _) | ((with_reducible refine Below.alloc ?_ ?_ _); rotate_left; focus ((try simp) <;> omega)) | ((with_reducible refine Below.setCell ?_ ?_ _); rotate_left; focus ((try simp) <;> omega)) | ((with_reducible refine Below.trans ?_ (Below.mono (by assumption) ?_)); rotate_left; focus ((try simp) <;> omega))))⟩
  · have k1 : (x.status.1 != 1) = true := by rw [bne_iff_ne]; exact h1
    rw [decide_eq_false h1, Bool.false_or]
    by_cases h2 : x.status.1 = 2
    · have k2 : (x.status.1 != 2) = false := by rw [h2]; rfl
      rw [decide_eq_true h2]
      go_enter Tryd.func24, Tryd.ntmps24
      go_wp2_with fail
      go_ret
      exact ⟨rfl, (by repeat (first | (with_reducible exact Below.refl _ _) | (with_reducible refine Below.drew ?_) | (with_reducible refine below_drewN ?_ _) | ((with_reducible refine Below.alloc ?_ ?_ _); rotate_left; focus ((try simp) <;> omega)) | ((with_reducible refine Below.setCell ?_ ?_ _); rotate_left; focus ((try simp) <;> omega)) | ((with_reducible refine Below.trans ?_ (Below.mono (by assumption) ?_)); rotate_left; focus ((try simp) <;> omega))))⟩
    · have k2 : (x.status.1 != 2) = true := by rw [bne_iff_ne]; exact h2
      rw [decide_eq_false h2]
      go_enter Tryd.func24, Tryd.ntmps24
      go_wp2_with fail
      go_ret
      exact ⟨rfl, (by repeat (first | (with_reducible exact Below.refl _ _) | (with_reducible refine Below.drew ?_) | (with_reducible refine below_drewN ?_ _) | ((with_reducible refine Below.alloc ?_ ?_ _); rotate_left; focus ((try simp) <;> omega)) | ((with_reducible refine Below.setCell ?_ ?_ _); rotate_left; focus ((try simp) <;> omega)) | ((with_reducible refine Below.trans ?_ (Below.mono (by assumption) ?_)); rotate_left; focus ((try simp) <;> omega))))⟩
/-- The place of the first sample that is not measured; -1 if there is none. -/
def skipI (l : List Samp) : Int := if l.findIdx (fun x => !isM x) < l.length then (l.findIdx (fun x => !isM x) : Int) else -1
theorem skip_at {l : List Samp} {k : Nat} {x : Samp} (h : ∀ j y, j < k → l[j]? = some y → isM y = true) (hx : l[k]? = some x) (hp : isM x = false) : skipI l = k := by
  obtain ⟨hk, e⟩ := List.getElem?_eq_some_iff.1 hx
  have : l.findIdx (fun x => !isM x) = k := (List.findIdx_eq hk).2 ⟨by simp [e, hp], fun j hj => by
    rw [h j _ hj (List.getElem?_eq_getElem (by omega))]; rfl⟩
  unfold skipI
  rw [this, if_pos hk]
theorem skip_no {l : List Samp} (h : ∀ j y, j < l.length → l[j]? = some y → isM y = true) : skipI l = -1 := by
  unfold skipI
  rw [if_neg]
  rw [List.findIdx_lt_length]
  rintro ⟨x, hx, hp⟩
  obtain ⟨j, hj⟩ := List.getElem?_of_mem hx
  rw [h j x (List.getElem?_eq_some_iff.1 hj).1 hj] at hp
  cases hp
theorem skip_cases (l : List Samp) : (skipI l = -1 ∧ l.filter isM = l) ∨ ∃ k x, k < l.length ∧ skipI l = (k : Int) ∧ l[k]? = some x ∧ isM x = false ∧ (l.take k).filter isM = l.take k := by
  by_cases h : l.findIdx (fun x => !isM x) < l.length
  · right
    have h1 := List.findIdx_getElem (w := h)
    refine ⟨_, _, h, by unfold skipI; rw [if_pos h], List.getElem?_eq_getElem h, by simpa using h1, ?_⟩
    rw [List.filter_eq_self]
    intro a ha
    obtain ⟨j, hj⟩ := List.getElem?_of_mem ha
    rw [List.getElem?_take] at hj
    split at hj
    · rename_i hlt
      have h3 := List.not_of_lt_findIdx hlt
      obtain ⟨_, e⟩ := List.getElem?_eq_some_iff.1 hj
      rw [e] at h3
      simpa using h3
    · cases hj
  · left
    refine ⟨by unfold skipI; rw [if_neg h], ?_⟩
    rw [List.filter_eq_self]
    intro a ha
    have h2 : ¬ ∃ x ∈ l, (!isM x) = true := fun e => h (List.findIdx_lt_length.2 e)
    rcases hm : isM a with _ | _
    · exact absurd ⟨a, ha, by rw [hm]; rfl⟩ h2
    · rfl
set_option maxRecDepth 100000 in
set_option maxHeartbeats 2000000 in
theorem idxs_any (A : Option Addr) (c : Nat) (l : List Samp) (w : World) (hr : Rw sampE 4 w w.heap.size A l) (hn : l.length ≤ 9223372036854775807) :
    Calls Tryd.prog 39 #[.slice A l.length c, .func (.func 24) #[] #[]] w fun e w' => e = .returned (.int .i64 (skipI l)) ∧ Below w.heap.size w w' := by
  have e45 : ∀ args w, (callFunc 24 args).run Tryd.prog w = .ok (.enter 24 args) w := enters_of Tryd.func24 (by kernel_rfl) rfl
  replace hr := Lib.hid hr
  obtain ⟨R, hR⟩ : ∃ R, skipI l = R := ⟨_, rfl⟩
  rw [hR]
  replace hR := Lib.hid hR
  go_enter Tryd.func39, Tryd.ntmps39
  go_wp2_with fail
  go_loopw [5, 8] (fun _ vi wr => ∃ k : Nat, k ≤ l.length ∧ vi = .int .i64 (k : Int) ∧ (∀ j y, j < k → l[j]? = some y → isM y = true) ∧ Below w.heap.size w wr) (fun _ vi _ => l.length - (intOf vi).toNat)
  case atStart => exact ⟨0, Nat.zero_le _, rfl, fun j y hj => absurd hj (by omega), Below.refl _ _⟩
  case round =>
    obtain ⟨k, hk, rfl, ht, hbw⟩ := hrel
    have hz := hbw.size
    replace ht := Lib.hid ht
    by_cases hkl : k < l.length
    · obtain ⟨x, hx⟩ := get_some hkl
      obtain ⟨g, o, rfl, hg, hq⟩ := hr.out (by omega)
      have q := fun j u hu => (hbw.cell (p := ⟨g, o + k * 4 + j, none⟩) hg).trans (hq k x hx j u hu)
      have q0 := q 0 (.int .u64 x.code.1) rfl
      rw [Nat.add_zero] at q0
      have q1 := q 1 (.int .i64 x.status.1) rfl
      have q2 := q 2 (.int .i64 x.time.1) rfl
      have q3 := q 3 (.int .i64 x.stamp.1) rfl
      clear q hq
      have i0 : (0 : Int) ≤ (k : Int) := by omega
      have i1 : (k : Int) < (l.length : Int) := by omega
      have hcx := meas1_any x
      rcases he : isM x with _ | _
      · have hf : Hid (R = (k : Int)) := Lib.hid (by rw [← hR.out]; exact skip_at ht.out hx he)
        rw [he] at hcx
        have hcl := Lib.hid hcx
        clear hcx
        replace hx := Lib.hid hx
        replace he := Lib.hid he
        go_wp2_with (go_at_fn 24; go_must (refine (hcl.out _).mono ?_; rintro e w2 ⟨rfl, hb2⟩; have hz2 := hb2.size; (try simp at hz2)))
        go_ret
        exact ⟨ret_int hf.out.symm, (by repeat (first | (with_reducible exact Below.refl _ _) | (with_reducible refine Below.drew ?_) | (with_reducible refine below_drewN ?_ _) | ((with_reducible refine Below.alloc ?_ ?_ _); rotate_left; focus ((try simp) <;> omega)) | ((with_reducible refine Below.setCell ?_ ?_ _); rotate_left; focus ((try simp) <;> omega)) | ((with_reducible refine Below.trans ?_ (Below.mono (by assumption) ?_)); rotate_left; focus ((try simp) <;> omega))))⟩
      · have hn2 : Hid (∀ j y, j < k + 1 → l[j]? = some y → isM y = true) := Lib.hid fun j y hj hy => by
          by_cases e : j = k
          · subst e
            rw [hx] at hy
            obtain rfl : x = y := by simpa using hy
            exact he
          · exact ht.out j y (by omega) hy
        rw [he] at hcx
        have hcl := Lib.hid hcx
        clear hcx
        replace hx := Lib.hid hx
        replace he := Lib.hid he
        go_wp2_with (go_at_fn 24; go_must (refine (hcl.out _).mono ?_; rintro e w2 ⟨rfl, hb2⟩; have hz2 := hb2.size; (try simp at hz2)))
        go_roundw
        case rel => exact ⟨k + 1, by omega, by go_num, hn2.out, (by repeat (first | (with_reducible exact Below.refl _ _) | (with_reducible refine Below.drew ?_) | (with_reducible refine below_drewN ?_ _) | ((with_reducible refine Below.alloc ?_ ?_ _); rotate_left; focus ((try simp) <;> omega)) | ((with_reducible refine Below.setCell ?_ ?_ _); rotate_left; focus ((try simp) <;> omega)) | ((with_reducible refine Below.trans ?_ (Below.mono (by assumption) ?_)); rotate_left; focus ((try simp) <;> omega))))⟩
        case measure => simp [intOf]; omega
    · have i1 : ¬ (k : Int) < (l.length : Int) := by omega
      have hf : Hid (R = -1) := Lib.hid (by rw [← hR.out]; exact skip_no fun j y hj hy => ht.out j y (by omega) hy)
      go_wp2_with fail
      go_ret
      exact ⟨ret_int hf.out.symm, hbw⟩

/-! The rest of the list is cleared. -/
theorem run_clear_samps (w : World) (b o n c : Nat) (hn : 0 < n) (hc : ∀ j, j < n * 4 → (w.cell? ⟨b, o + j, none⟩).isSome = true) (hf : ∀ j, j < n * 4 → w.frozen? ⟨b, o + j, none⟩ = false) :
    ∃ vs, ∀ ty, (Builtin.clear_ #[22] ty #[.slice (some ⟨b, o, none⟩) n c]).run Tryd.prog w = .ok (.tuple #[]) (w.setCells b o vs) := by
  have hlen : (Builtin.zeroCells (Value.agg #[.int .u64 0, .int .i64 0, .int .i64 0, .int .i64 0]).cells n).toList.length = n * 4 := by
    show (Builtin.zeroCells #[.int .u64 0, .int .i64 0, .int .i64 0, .int .i64 0] n).toList.length = n * 4
    simp [Builtin.zeroCells]
  have hst := run_storeCells_cells (P := Tryd.prog) b o (Builtin.zeroCells (Value.agg #[.int .u64 0, .int .i64 0, .int .i64 0, .int .i64 0]).cells n).toList 0 w (by rw [hlen]; simpa using hc) (by rw [hlen]; simpa using hf) (by
    intro v hv
    have hv2 : v ∈ (Builtin.zeroCells #[.int .u64 0, .int .i64 0, .int .i64 0, .int .i64 0] n).toList := hv
    simp only [Builtin.zeroCells] at hv2
    obtain ⟨i, hi, e⟩ := List.getElem_of_mem hv2
    simp at e
    have : i % 4 = 0 ∨ i % 4 = 1 ∨ i % 4 = 2 ∨ i % 4 = 3 := by omega
    rcases this with h | h | h | h <;> (simp [h] at e; subst e; rfl))
  simp only [Nat.add_zero] at hst
  refine ⟨(Builtin.zeroCells (Value.agg #[.int .u64 0, .int .i64 0, .int .i64 0, .int .i64 0]).cells n).toList, fun ty => ?_⟩
  obtain ⟨m, rfl⟩ : ∃ m, n = m + 1 := ⟨n - 1, by omega⟩
  simp [Builtin.clear_, run_underlying Tryd.underlying22, Tryd.zeroValue42, hst]
/-- A longer row cut to its beginning, the rest rewritten. -/
theorem own_cut {w : World} {H g cap : Nat} {l r : List Samp} (hown : Own sampE 4 42 w H (.slice (some ⟨g, 0, none⟩) l.length cap) l) (hr : l.take r.length = r) (vs : List Value) :
    Own sampE 4 42 (w.setCells g (r.length * 4) vs) H (.slice (some ⟨g, 0, none⟩) r.length cap) r := by
  obtain ⟨hH, hlc, hm, cur, hg, hs⟩ := own_block hown
  obtain ⟨c1, h1, s1⟩ := setCells_block (b := g) vs (r.length * 4) w cur hg
  have hle : r.length ≤ l.length := by rw [← hr, List.length_take]; omega
  refine own_of_cells sampE_len hH h1 (by omega) (by omega) hm ?_
  intro t u hu
  have ht := (List.getElem?_eq_some_iff.1 hu).1
  rw [flat_len sampE_len] at ht
  rw [World.cell?_setCells_out g _ _ _ _ (fun _ _ => by show t < _ ∨ _; omega)]
  have h2 : (l.flatMap sampE)[t]? = some u := by
    have : l = r ++ l.drop r.length := by rw [← hr, List.length_take, Nat.min_eq_left hle, List.take_append_drop]
    rw [this, List.flatMap_append, List.getElem?_append_left (by rw [flat_len sampE_len]; exact ht)]
    exact hu
  rw [hown.cellAt t (by omega)]
  exact h2
theorem own_cells4 {w : World} {H g cap n i : Nat} {l : List Samp} {x : Samp} (hown : Own sampE 4 42 w H (.slice (some ⟨g, 0, none⟩) n cap) l) (hx : l[i]? = some x) : w.cell? ⟨g, i * 4, none⟩ = some (.int .u64 x.code.1) ∧ w.cell? ⟨g, i * 4 + 1, none⟩ = some (.int .i64 x.status.1) ∧ w.cell? ⟨g, i * 4 + 2, none⟩ = some (.int .i64 x.time.1) ∧ w.cell? ⟨g, i * 4 + 3, none⟩ = some (.int .i64 x.stamp.1) := by
  have hil := (List.getElem?_eq_some_iff.1 hx).1
  obtain ⟨g', o', e', _, q⟩ := hown.reads sampE_len (by omega)
  simp only [Option.some.injEq, Addr.mk.injEq] at e'
  obtain ⟨rfl, rfl, _⟩ := e'
  have h0 := q i x hx 0 (.int .u64 x.code.1) rfl
  have h1 := q i x hx 1 (.int .i64 x.status.1) rfl
  have h2 := q i x hx 2 (.int .i64 x.time.1) rfl
  have h3 := q i x hx 3 (.int .i64 x.stamp.1) rfl
  rw [Nat.zero_add] at h0 h1 h2 h3
  exact ⟨h0, h1, h2, h3⟩
theorem take_set_succ {α : Type} {l : List α} {i : Nat} {y : α} (h : i < l.length) : (l.set i y).take (i + 1) = l.take i ++ [y] := by
  rw [List.take_add_one, List.getElem?_set_self h, List.take_set_of_le (Nat.le_refl _)]
  rfl
/-- A sample stored over another. -/
def put4 (w : World) (g i : Nat) (x : Samp) : World := (((w.setCell ⟨g, i * 4, none⟩ (.int .u64 x.code.1)).setCell ⟨g, i * 4 + 1, none⟩ (.int .i64 x.status.1)).setCell ⟨g, i * 4 + 2, none⟩ (.int .i64 x.time.1)).setCell ⟨g, i * 4 + 3, none⟩ (.int .i64 x.stamp.1)
theorem put4_row {w : World} {H g cap i n : Nat} {l : List Samp} {x : Samp} (hown : Own sampE 4 42 w H (.slice (some ⟨g, 0, none⟩) n cap) l) (hi : i < l.length) (hn : l.length = n) : Own sampE 4 42 (put4 w g i x) H (.slice (some ⟨g, 0, none⟩) n cap) (l.set i x) := by
  subst hn
  exact set_row sampE_len hown hi
theorem put4_below {w : World} {g i B : Nat} {x : Samp} (hg : B ≤ g) : Below B w (put4 w g i x) := (((((Below.refl _ _).setCell hg _).setCell hg _).setCell hg _).setCell hg _)
/-- While the samples are taken out. -/
structure MidF (w w' : World) (H g cap : Nat) (l cur : List Samp) (i j : Nat) : Prop where
  len : cur.length = l.length
  pos : i = ((l.take j).filter isM).length
  head : cur.take i = (l.take j).filter isM
  rest : ∀ t, j ≤ t → cur[t]? = l[t]?
  own : Own sampE 4 42 w' H (.slice (some ⟨g, 0, none⟩) l.length cap) cur
  bel : Below H w w'
theorem filter_take {l : List Samp} {j : Nat} {x : Samp} (hx : l[j]? = some x) : (l.take (j + 1)).filter isM = (l.take j).filter isM ++ if isM x = true then [x] else [] := by
  rw [List.take_add_one, hx, List.filter_append]
  cases h : isM x <;> simp [h]
theorem MidF.keep {w w' w2 : World} {H g cap i j : Nat} {l cur : List Samp} {x : Samp} (h : MidF w w' H g cap l cur i j) (hx : l[j]? = some x) (hij : i < j) (hxr : isM x = true) (hb : Below w'.heap.size w' w2) (hHg : H ≤ g) (hH : H ≤ w'.heap.size) :
    MidF w (put4 w2 g i x) H g cap l (cur.set i x) (i + 1) (j + 1) := by
  have hjl := (List.getElem?_eq_some_iff.1 hx).1
  have hs := filter_take hx
  rw [if_pos hxr] at hs
  have hil : i < cur.length := by rw [h.len]; omega
  refine ⟨by rw [List.length_set]; exact h.len, by rw [hs, List.length_append, ← h.pos]; rfl, ?_, fun t ht => ?_, put4_row (h.own.all hb) hil h.len, (h.bel.trans (hb.mono hH)).trans (put4_below hHg)⟩
  · rw [hs, take_set_succ hil, h.head]
  · rw [List.getElem?_set_ne (by omega)]
    exact h.rest t (by omega)
theorem MidF.skip {w w' w2 : World} {H g cap i j : Nat} {l cur : List Samp} {x : Samp} (h : MidF w w' H g cap l cur i j) (hx : l[j]? = some x) (hxr : isM x = false) (hb : Below w'.heap.size w' w2) (hH : H ≤ w'.heap.size) :
    MidF w w2 H g cap l cur i (j + 1) := by
  have hs := filter_take hx
  rw [if_neg (by rw [hxr]; decide), List.append_nil] at hs
  exact ⟨h.len, by rw [hs]; exact h.pos, by rw [hs]; exact h.head, fun t ht => h.rest t (by omega), h.own.all hb, h.bel.trans (hb.mono hH)⟩
end Go.Proofs.YtddepmelnemniaaDoor
