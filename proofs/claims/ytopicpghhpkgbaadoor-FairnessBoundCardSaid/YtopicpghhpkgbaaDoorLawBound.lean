/-
  FairnessBound: for every list of shares (at most 6, with short names) and every list of costs (at most 60), if the project that is picked is charged, again and again, the services of two projects differ by no more than at the beginning, or than the largest cost allows; the example holds. No condition.
-/
import Derived.Test.YtopicpghhpkgbaaDoorFa16
import Derived.Test.YtopicpghhpkgbaaDoorLayTab
import Derived.Laws.MakeOwn
import Derived.BigRegion
import Derived.Deep.DeepCutAuto





namespace Go.Proofs.YtopicpghhpkgbaaDoor.fairnessBound
open Go.ChangeShapes Go.WideShapes Go.ChangeAt Go.RowKit Go.Joins
theorem own : ownKnob Tryd.prog.godebug = none := by kernel_rfl
theorem laidOut : laidOutB Tryd.prog = true := by kernel_rfl

theorem int_info : (Tryd.prog.info? 3).map (fun i => (i.zero, i.size, i.bytes)) = some (some (.int .i64 0), 1, 8) := by kernel_rfl
/-- The row of the largest costs, in a block of its own. -/
def Costs (W : World) (g : Nat) (lg : List I64) : Prop := W.heap[g]? = some (.cells (lg.map fun n => Value.int .i64 n.1).toArray 3 (0, 0))
theorem Costs.cell {W : World} {g : Nat} {lg : List I64} (h : Costs W g lg) {k : Nat} {n : I64} (hn : lg[k]? = some n) : W.cell? ⟨g, k, none⟩ = some (.int .i64 n.1) := by
  rw [cell_of_row W _ _ _ _ (0, 0) h]; simp [hn]
theorem Costs.only {W : World} {g : Nat} {lg : List I64} (h : Costs W g lg) {o : Nat} {s : ByteArray} (hc : W.cell? ⟨g, o, none⟩ = some (.string s)) : False := by
  rw [cell_of_row W _ _ _ _ (0, 0) h] at hc
  simp at hc
theorem Costs.frozen {W : World} {g : Nat} {lg : List I64} (h : Costs W g lg) (k : Nat) : W.frozen? ⟨g, k, none⟩ = false := by
  unfold Costs at h
  simp [World.frozen?, h]
theorem Costs.keep {W W' : World} {g : Nat} {lg : List I64} (h : Costs W g lg) {B : Nat} (hb : Below B W W') (hg : g < B) : Costs W' g lg := (hb.block g hg).trans h
theorem Costs.set {W : World} {g k : Nat} {lg : List I64} {m : I64} (h : Costs W g lg) : Costs (W.setCell ⟨g, k, none⟩ (.int .i64 m.1)) g (lg.set k m) := by
  unfold Costs World.setCell at *
  rw [Array.getElem?_modify, if_pos rfl, h]
  simp [List.map_set]
theorem Costs.lt {W : World} {g : Nat} {lg : List I64} (h : Costs W g lg) : g < W.heap.size := by
  unfold Costs at h
  rcases Nat.lt_or_ge g W.heap.size with h1 | h1
  · exact h1
  · rw [Array.getElem?_eq_none h1] at h; cases h
theorem made_costs (z : Nat) : madeCells #[Value.int .i64 0] z = ((List.replicate z (⟨0, by omega⟩ : I64)).map fun n => Value.int .i64 n.1).toArray := by
  apply Array.ext
  · simp [madeCells]
  · intro i h1 h2
    simp [madeCells, Nat.mod_one]

/-- The shares as they stand, in a block that is not the costs'. -/
def Cur (W : World) (g : Nat) (A : Option Addr) (c : Nat) (cur : List Share) : Prop := Rw shareE 3 W W.heap.size A cur ∧ cur.length ≤ c ∧ (0 < cur.length → ∀ b o, A = some ⟨b, o, none⟩ → b ≠ g)
theorem Cur.of {W : World} {g : Nat} {A : Option Addr} {c : Nat} {cur : List Share} {lg : List I64} (h1 : Rw shareE 3 W W.heap.size A cur) (h2 : cur.length ≤ c) (h : Costs W g lg) : Cur W g A c cur := by
  refine ⟨h1, h2, fun h0 b o e hb => ?_⟩
  obtain ⟨b', o', e', _, hq⟩ := h1 h0
  rw [e] at e'
  obtain ⟨rfl, rfl⟩ : b = b' ∧ o = o' := by simpa using e'
  obtain ⟨x, hx⟩ := get_some h0
  have := hq 0 x hx 0 (.string x.proj.1) rfl
  subst hb
  exact h.only this
theorem Cur.below {W W' : World} {g : Nat} {A : Option Addr} {c : Nat} {cur : List Share} (h : Cur W g A c cur) (hb : Below W.heap.size W W') : Cur W' g A c cur := ⟨(h.1.below hb (Nat.le_refl _)).more hb.size, h.2⟩
theorem Cur.setCost {W : World} {g k : Nat} {A : Option Addr} {c : Nat} {cur : List Share} {v : Value} (h : Cur W g A c cur) : Cur (W.setCell ⟨g, k, none⟩ v) g A c cur := by
  refine ⟨fun h0 => ?_, h.2⟩
  obtain ⟨b, o, e, hb, hq⟩ := h.1 h0
  refine ⟨b, o, e, by rw [World.size_setCell]; exact hb, fun i x hx j u hu => ?_⟩
  rw [World.cell?_setCell_other _ _ _ _ (fun e2 => h.2.2 h0 b o e (by have := congrArg Addr.block e2; simpa using this.symm))]
  exact hq i x hx j u hu

set_option maxRecDepth 100000 in
set_option maxHeartbeats 16000000 in
theorem walk (A B : Option Addr) (c d : Nat) (l : List Share) (cs : List I64) (w : World) (hr : Rw shareE 3 w w.heap.size A l) (hc0 : Rw iE 1 w w.heap.size B cs) (hlc : l.length ≤ c) (hm : l.length ≤ 9223372036854775807) (hdm : cs.length ≤ 9223372036854775807) :
    Calls Tryd.prog 8 #[.slice A l.length c, .slice B cs.length d] w fun e w' => e = .returned (.bool true) ∧ Below w.heap.size w w' := by
  have hrd : Hid (∀ W, Below w.heap.size w W → Rw shareE 3 W W.heap.size A l) := Lib.hid fun W hb => (hr.below hb (Nat.le_refl _)).more hb.size
  have hxc : Hid (0 < l.length → ∃ g o, A = some ⟨g, o, none⟩ ∧ g < w.heap.size ∧ ∀ W, Below w.heap.size w W → ∀ k x, l[k]? = some x → ∀ j u, (shareE x)[j]? = some u → W.cell? ⟨g, o + k * 3 + j, none⟩ = some u) := Lib.hid fun h0 => by
    obtain ⟨g, o, e, hg, hq⟩ := hr h0
    exact ⟨g, o, e, hg, fun W hb k x hx j u hu => (hb.cell (p := ⟨g, o + k * 3 + j, none⟩) hg).trans (hq k x hx j u hu)⟩
  have hcc : Hid (∀ i n, cs[i]? = some n → ∃ g o, B = some ⟨g, o, none⟩ ∧ g < w.heap.size ∧ ∀ W, Below w.heap.size w W → W.cell? ⟨g, o + i, none⟩ = some (.int .i64 n.1)) := Lib.hid fun i n hn => by
    have hi := (List.getElem?_eq_some_iff.1 hn).1
    obtain ⟨g, o, e, hg, hc⟩ := hc0 (by omega)
    refine ⟨g, o, e, hg, fun W hb => (hb.cell (p := ⟨g, o + i, none⟩) hg).trans ?_⟩
    have := hc i n hn 0 (.int .i64 n.1) rfl
    simpa using this
  clear hr hc0
  have hva : Hid (∀ W, Below w.heap.size w W → Calls Tryd.prog 19 #[.slice A l.length c] W fun e w' => e = .returned (.bool (validS l)) ∧ Below W.heap.size W w') := Lib.hid fun W hb => rvalid_any A c l W (hrd.out W hb) (by omega)
  rcases hf : fewB l with _ | _
  · go_enter Tryd.func8, Tryd.ntmps8
    go_wp2_with (first | (go_at_call 9; go_must (refine (few_any A c l _ (hrd.out _ (by repeat (first | (with_reducible exact Below.refl _ _) | (with_reducible refine Below.drew ?_) | (with_reducible refine below_drewN ?_ _) | ((with_reducible refine Below.alloc ?_ ?_ _); rotate_left; focus ((try simp) <;> omega)) | ((with_reducible refine Below.setCell ?_ ?_ _); rotate_left; focus ((try simp) <;> omega)) | ((with_reducible refine Below.trans ?_ (Below.mono (by assumption) ?_)); rotate_left; focus ((try simp) <;> omega))))) hm).mono ?_; rw [hf]; rintro e w1 ⟨rfl, rfl⟩)) | (go_at_call 10; go_must (refine (awake_any _).mono ?_; rintro e w9 ⟨rfl, hb9⟩)))
    go_ret
    exact ⟨rfl, (by repeat (first | (with_reducible exact Below.refl _ _) | (with_reducible refine Below.drew ?_) | (with_reducible refine below_drewN ?_ _) | ((with_reducible refine Below.alloc ?_ ?_ _); rotate_left; focus ((try simp) <;> omega)) | ((with_reducible refine Below.setCell ?_ ?_ _); rotate_left; focus ((try simp) <;> omega)) | ((with_reducible refine Below.trans ?_ (Below.mono (by assumption) ?_)); rotate_left; focus ((try simp) <;> omega))))⟩
  have h66 := fewG_len hf
  by_cases h6 : (l.length : Int) > 6
  · go_enter Tryd.func8, Tryd.ntmps8
    go_wp2_with (first | (go_at_call 9; go_must (refine (few_any A c l _ (hrd.out _ (by repeat (first | (with_reducible exact Below.refl _ _) | (with_reducible refine Below.drew ?_) | (with_reducible refine below_drewN ?_ _) | ((with_reducible refine Below.alloc ?_ ?_ _); rotate_left; focus ((try simp) <;> omega)) | ((with_reducible refine Below.setCell ?_ ?_ _); rotate_left; focus ((try simp) <;> omega)) | ((with_reducible refine Below.trans ?_ (Below.mono (by assumption) ?_)); rotate_left; focus ((try simp) <;> omega))))) hm).mono ?_; rw [hf]; rintro e w1 ⟨rfl, rfl⟩)) | (go_at_call 10; go_must (refine (awake_any _).mono ?_; rintro e w9 ⟨rfl, hb9⟩)))
    go_ret
    exact ⟨rfl, (by repeat (first | (with_reducible exact Below.refl _ _) | (with_reducible refine Below.drew ?_) | (with_reducible refine below_drewN ?_ _) | ((with_reducible refine Below.alloc ?_ ?_ _); rotate_left; focus ((try simp) <;> omega)) | ((with_reducible refine Below.setCell ?_ ?_ _); rotate_left; focus ((try simp) <;> omega)) | ((with_reducible refine Below.trans ?_ (Below.mono (by assumption) ?_)); rotate_left; focus ((try simp) <;> omega))))⟩
  by_cases h60 : (cs.length : Int) > 60
  · go_enter Tryd.func8, Tryd.ntmps8
    go_wp2_with (first | (go_at_call 9; go_must (refine (few_any A c l _ (hrd.out _ (by repeat (first | (with_reducible exact Below.refl _ _) | (with_reducible refine Below.drew ?_) | (with_reducible refine below_drewN ?_ _) | ((with_reducible refine Below.alloc ?_ ?_ _); rotate_left; focus ((try simp) <;> omega)) | ((with_reducible refine Below.setCell ?_ ?_ _); rotate_left; focus ((try simp) <;> omega)) | ((with_reducible refine Below.trans ?_ (Below.mono (by assumption) ?_)); rotate_left; focus ((try simp) <;> omega))))) hm).mono ?_; rw [hf]; rintro e w1 ⟨rfl, rfl⟩)) | (go_at_call 10; go_must (refine (awake_any _).mono ?_; rintro e w9 ⟨rfl, hb9⟩)))
    go_ret
    exact ⟨rfl, (by repeat (first | (with_reducible exact Below.refl _ _) | (with_reducible refine Below.drew ?_) | (with_reducible refine below_drewN ?_ _) | ((with_reducible refine Below.alloc ?_ ?_ _); rotate_left; focus ((try simp) <;> omega)) | ((with_reducible refine Below.setCell ?_ ?_ _); rotate_left; focus ((try simp) <;> omega)) | ((with_reducible refine Below.trans ?_ (Below.mono (by assumption) ?_)); rotate_left; focus ((try simp) <;> omega))))⟩
  rcases hv : validS l with _ | _
  · rw [hv] at hva
    go_enter Tryd.func8, Tryd.ntmps8
    go_wp2_with (first | (go_at_call 9; go_must (refine (few_any A c l _ (hrd.out _ (by repeat (first | (with_reducible exact Below.refl _ _) | (with_reducible refine Below.drew ?_) | (with_reducible refine below_drewN ?_ _) | ((with_reducible refine Below.alloc ?_ ?_ _); rotate_left; focus ((try simp) <;> omega)) | ((with_reducible refine Below.setCell ?_ ?_ _); rotate_left; focus ((try simp) <;> omega)) | ((with_reducible refine Below.trans ?_ (Below.mono (by assumption) ?_)); rotate_left; focus ((try simp) <;> omega))))) hm).mono ?_; rw [hf]; rintro e w1 ⟨rfl, rfl⟩)) | (go_at_call 19; go_must (refine (hva.out _ (by repeat (first | (with_reducible exact Below.refl _ _) | (with_reducible refine Below.drew ?_) | (with_reducible refine below_drewN ?_ _) | ((with_reducible refine Below.alloc ?_ ?_ _); rotate_left; focus ((try simp) <;> omega)) | ((with_reducible refine Below.setCell ?_ ?_ _); rotate_left; focus ((try simp) <;> omega)) | ((with_reducible refine Below.trans ?_ (Below.mono (by assumption) ?_)); rotate_left; focus ((try simp) <;> omega))))).mono ?_; rintro e w1 ⟨rfl, hb1⟩; have hz1 := hb1.size)) | (go_at_call 10; go_must (refine (awake_any _).mono ?_; rintro e w9 ⟨rfl, hb9⟩)))
    go_ret
    exact ⟨rfl, (by repeat (first | (with_reducible exact Below.refl _ _) | (with_reducible refine Below.drew ?_) | (with_reducible refine below_drewN ?_ _) | ((with_reducible refine Below.alloc ?_ ?_ _); rotate_left; focus ((try simp) <;> omega)) | ((with_reducible refine Below.setCell ?_ ?_ _); rotate_left; focus ((try simp) <;> omega)) | ((with_reducible refine Below.trans ?_ (Below.mono (by assumption) ?_)); rotate_left; focus ((try simp) <;> omega))))⟩
  rw [hv] at hva
  have hor : Hid (∀ W, Below w.heap.size w W → Calls Tryd.prog 22 #[.slice A l.length c] W fun e w' => ∃ A' c', ∃ s : List Share, e = .returned (.slice A' s.length c') ∧ s.Perm l ∧ Rw sE 1 w' w'.heap.size A' (s.map (·.proj)) ∧ Below W.heap.size W w') := Lib.hid fun W hb => (ordS_any A c l W (hrd.out W hb) (by omega)).mono fun _ _ ⟨A', c', os, h1, h2, h3, _, h4⟩ => by
    obtain ⟨s, p1, _, rfl⟩ := h2.2 hv
    exact ⟨A', c', s, by rw [h1, List.length_map], p1, h3, h4⟩
  obtain ⟨iI, hI0, zI0, zI1, zI2⟩ := info_parts int_info
  have hmk : ∀ W : World, (Instr.makeSlice 42 (.int .i64 (l.length : Int)) (.int .i64 (l.length : Int))).run Tryd.prog W = .ok (.slice (some ⟨W.heap.size, 0, none⟩) l.length l.length) (W.alloc (.cells (madeCells #[Value.int .i64 0] l.length) 3)) := fun W => by
    have h := run_make (P := Tryd.prog) W 42 3 iI _ Tryd.underlying42 hI0 zI0 .i64 .i64 (l.length : Int) (l.length : Int) (by omega) (Int.le_refl _) (by rw [zI2]; omega) (by omega)
    simp only [Int.toNat_natCast] at h
    rw [zI1, Nat.mul_one] at h
    exact h
  have hfi0 : Hid (∀ W, Below w.heap.size w W → ∀ t : Str, Calls Tryd.prog 20 #[.slice A l.length c, .string t.1] W fun e w' => e = .returned (.int .i64 (findP t l)) ∧ W = w') := Lib.hid fun W hb t => rfind_any A c l t W (hrd.out W hb) (by omega)
  have hvl := Lib.hid hv
  replace hv := Lib.hid hv
  go_enter Tryd.func8, Tryd.ntmps8
  go_wp2_with (first
    | (go_at_call 9; go_must (refine (few_any A c l _ (hrd.out _ (by repeat (first | (with_reducible exact Below.refl _ _) | (with_reducible refine Below.drew ?_) | (with_reducible refine below_drewN ?_ _) | ((with_reducible refine Below.alloc ?_ ?_ _); rotate_left; focus ((try simp) <;> omega)) | ((with_reducible refine Below.setCell ?_ ?_ _); rotate_left; focus ((try simp) <;> omega)) | ((with_reducible refine Below.trans ?_ (Below.mono (by assumption) ?_)); rotate_left; focus ((try simp) <;> omega))))) hm).mono ?_; rw [hf]; rintro e w1 ⟨rfl, rfl⟩))
    | (go_at_call 19; go_must (refine (hva.out _ (by repeat (first | (with_reducible exact Below.refl _ _) | (with_reducible refine Below.drew ?_) | (with_reducible refine below_drewN ?_ _) | ((with_reducible refine Below.alloc ?_ ?_ _); rotate_left; focus ((try simp) <;> omega)) | ((with_reducible refine Below.setCell ?_ ?_ _); rotate_left; focus ((try simp) <;> omega)) | ((with_reducible refine Below.trans ?_ (Below.mono (by assumption) ?_)); rotate_left; focus ((try simp) <;> omega))))).mono ?_; rintro e w1 ⟨rfl, hb1⟩; have hz1 := hb1.size))
    | (go_at_call 22; go_must (refine (hor.out _ (by repeat (first | (with_reducible exact Below.refl _ _) | (with_reducible refine Below.drew ?_) | (with_reducible refine below_drewN ?_ _) | ((with_reducible refine Below.alloc ?_ ?_ _); rotate_left; focus ((try simp) <;> omega)) | ((with_reducible refine Below.setCell ?_ ?_ _); rotate_left; focus ((try simp) <;> omega)) | ((with_reducible refine Below.trans ?_ (Below.mono (by assumption) ?_)); rotate_left; focus ((try simp) <;> omega))))).mono ?_; rintro e w3 ⟨A3, c3, s, rfl, hpm, hr3, hb3⟩; have hz3 := hb3.size; replace hpm := Lib.hid hpm; have hsl : s.length = l.length := hpm.out.length_eq; rw [hsl]; replace hsl := Lib.hid hsl; replace hr3 := Lib.hid hr3)))
  obtain ⟨W4, hW4⟩ : ∃ W4, w3.alloc (.cells (madeCells #[Value.int .i64 0] l.length) 3) = W4 := ⟨_, rfl⟩
  have hco4 : Costs W4 w3.heap.size (List.replicate l.length ⟨0, by omega⟩) := by
    rw [← hW4, made_costs]; exact heap_alloc_new w3 _
  have hb34 : Below w3.heap.size w3 W4 := by rw [← hW4]; exact (Below.refl _ _).alloc (Nat.le_refl _) _
  have hb03 : Below w.heap.size w w3 := (by repeat (first | (with_reducible exact Below.refl _ _) | (with_reducible refine Below.drew ?_) | (with_reducible refine below_drewN ?_ _) | ((with_reducible refine Below.alloc ?_ ?_ _); rotate_left; focus ((try simp) <;> omega)) | ((with_reducible refine Below.setCell ?_ ?_ _); rotate_left; focus ((try simp) <;> omega)) | ((with_reducible refine Below.trans ?_ (Below.mono (by assumption) ?_)); rotate_left; focus ((try simp) <;> omega))))
  rw [hW4]
  clear hW4 hmk
  replace hco4 := Lib.hid hco4
  have hpk : Hid (∀ W Ac cc cur lg, Inv l cur lg → Below w3.heap.size w3 W → Rw shareE 3 W W.heap.size Ac cur → Calls Tryd.prog 17 #[.slice Ac l.length cc, .slice A3 l.length c3] W fun e w' => ∃ b f, (e = .returned (.tuple #[.string b.proj.1, .bool f]) ∧ Picked cur (s.map (·.proj)) b f) ∧ Below W.heap.size W w') := Lib.hid fun W Ac cc cur lg hi hb hrw => by
    have h := pick_any Ac A3 cc c3 cur (s.map (·.proj)) W hrw ((hr3.out.below hb (Nat.le_refl _)).more hb.size) (by rw [hi.len]; omega) (by rw [List.length_map, hsl.out]; omega)
    rw [hi.len, List.length_map, hsl.out] at h
    exact h.mono fun _ _ ⟨⟨b, f, h1, h2, _⟩, h3⟩ => ⟨b, f, ⟨h1, h2 hi.val⟩, h3⟩
  have hch : Hid (∀ W Ac cc cur lg (p : Str) (co : I64), Inv l cur lg → Rw shareE 3 W W.heap.size Ac cur → l.length ≤ cc → Calls Tryd.prog 14 #[.slice Ac l.length cc, .string p.1, .int .i64 co.1] W fun e w' => ∃ A' c', e = .returned (.tuple #[.slice A' l.length c', .int .i64 (chE cur p co.1)]) ∧ Rw shareE 3 w' w'.heap.size A' (chL cur p co.1) ∧ l.length ≤ c' ∧ Below W.heap.size W w') := Lib.hid fun W Ac cc cur lg p co hi hrw hcc => by
    have hl : (chL cur p co.1).length = cur.length := by
      unfold chL; split
      · rfl
      · simp
    have h := charge_any Ac cc cur p co W hrw (by rw [hi.len]; exact hcc) (by rw [hi.len]; omega)
    rw [hl, hi.len] at h
    exact h
  clear hor
  go_loopw [6, 8] (fun v6 vi wr => ∃ (i : Nat) (Ac : Option Addr) (cc : Nat) (cur : List Share) (lg : List I64), i ≤ cs.length ∧ v6 = .slice Ac l.length cc ∧ vi = .int .i64 (i : Int) ∧ Inv l cur lg ∧ Cur wr w3.heap.size Ac cc cur ∧ Costs wr w3.heap.size lg ∧ Below w3.heap.size w3 wr) (fun _ vi _ => cs.length - (intOf vi).toNat)
  case atStart => exact ⟨0, A, c, l, _, Nat.zero_le _, rfl, rfl, Inv.start hvl.out, Cur.of (hrd.out _ (hb03.trans (hb34.mono (by omega)))) hlc hco4.out, hco4.out, hb34⟩
  case round =>
    obtain ⟨i, Ac, cc, cur, lg, hi, rfl, rfl, hinv, hcur, hco, hbw⟩ := hrel
    have hz := hbw.size
    have hzL := hco.lt
    have hccl : l.length ≤ cc := by have := hcur.2.1; rw [hinv.len] at this; exact this
    replace hinv := Lib.hid hinv
    replace hcur := Lib.hid hcur
    replace hco := Lib.hid hco
    by_cases hil : i < cs.length
    · obtain ⟨n, hn⟩ := get_some hil
      obtain ⟨gc, oc, rfl, hgc, hnc⟩ := hcc.out i n hn
      replace hnc := Lib.hid hnc
      replace hn := Lib.hid hn
      have i0 : (0 : Int) ≤ (i : Int) := by omega
      have i1 : (i : Int) < (cs.length : Int) := by omega
      go_wp2_with (go_at_call 17; go_must (refine (hpk.out _ Ac cc cur lg hinv.out hbw hcur.out.1).mono ?_; rintro e w5 ⟨b, f, ⟨rfl, hP⟩, hb5⟩; have hz5 := hb5.size; have hff := (hinv.out.picked hpm.out hP).1; subst hff; replace hP := Lib.hid hP; have nc := hnc.out w5 (hb03.trans ((hbw.trans (hb5.mono (by omega))).mono (by omega)))))
      have hcur5 := Lib.hid (hcur.out.below hb5)
      have hco5 := Lib.hid (hco.out.keep hb5 hzL)
      have hbw5 : Below w3.heap.size w3 w5 := hbw.trans (hb5.mono (by omega))
      have hch5 := hch.out w5 Ac cc cur lg b.proj n hinv.out hcur5.out.1 hccl
      by_cases hE : chE cur b.proj n.1 = 0
      · obtain ⟨k, n0, m, hkl, hfk, hn0, hmx, hinv2⟩ := hinv.out.play hpm.out hP.out hE
        rw [hE] at hch5
        have hfk2 : Hid (∀ W, Below w.heap.size w W → Calls Tryd.prog 20 #[.slice A l.length c, .string b.proj.1] W fun e w' => e = .returned (.int .i64 (k : Int)) ∧ W = w') := Lib.hid fun W hb => by rw [← hfk]; exact hfi0.out W hb b.proj
        replace hE := Lib.hid hE
        replace hfk := Lib.hid hfk
        replace hinv2 := Lib.hid hinv2
        replace hch5 := Lib.hid hch5
        have hmx2 : max n0.1 n.1 = m.1 := hmx.symm
        replace hmx := Lib.hid hmx
        have k0 : (0 : Int) ≤ (k : Int) := by omega
        have k1 : (k : Int) < (l.length : Int) := by omega
        have k2 : ¬ (k : Int) < 0 := by omega
        clear nc
        go_wp2_with (first
          | (go_at_call 14; go_must (refine hch5.out.mono ?_; rintro e w6 ⟨A6, c6, rfl, hr6, hl6, hb6⟩; have hz6 := hb6.size; replace hr6 := Lib.hid hr6))
          | (go_at_call 20; go_must (refine (hfk2.out _ (by repeat (first | (with_reducible exact Below.refl _ _) | (with_reducible refine Below.drew ?_) | (with_reducible refine below_drewN ?_ _) | ((with_reducible refine Below.alloc ?_ ?_ _); rotate_left; focus ((try simp) <;> omega)) | ((with_reducible refine Below.setCell ?_ ?_ _); rotate_left; focus ((try simp) <;> omega)) | ((with_reducible refine Below.trans ?_ (Below.mono (by assumption) ?_)); rotate_left; focus ((try simp) <;> omega))))).mono ?_; rintro e w7 ⟨rfl, rfl⟩)))
        have hco6 := Lib.hid (hco5.out.keep hb6 hco5.out.lt)
        have c0 := hco6.out.cell hn0
        have f0 := hco6.out.frozen k
        have nc := hnc.out w6 (hb03.trans ((hbw5.trans (hb6.mono (by omega))).mono (by omega)))
        have hgne : gc ≠ w3.heap.size := by omega
        have hln : (cur.set k cur[k]!).length = l.length := by rw [List.length_set]; exact hinv.out.len
        replace hln := Lib.hid hln
        replace hn0 := Lib.hid hn0
        go_region
        go_wp2_with fail
        go_roundw
        case rel =>
          have hb := hbw5.trans (hb6.mono (by omega))
          refine ⟨i + 1, A6, c6, _, _, hil, rfl, by go_num, hinv2.out, ?_, ?_, ?_⟩
          · exact (Cur.of hr6.out (by rw [hinv2.out.len]; exact hl6) hco6.out).setCost
          · exact hco6.out.set
          · exact (hb.setCell (p := ⟨w3.heap.size, k, none⟩) (Nat.le_refl _) _).drew
        case measure => simp [intOf]; omega
      · obtain ⟨E, hEE⟩ : ∃ E, chE cur b.proj n.1 = E := ⟨_, rfl⟩
        rw [hEE] at hE hch5
        replace hEE := Lib.hid hEE
        replace hch5 := Lib.hid hch5
        go_wp2_with (go_at_call 14; go_must (refine hch5.out.mono ?_; rintro e w6 ⟨A6, c6, rfl, hr6, hl6, hb6⟩; have hz6 := hb6.size; clear hr6))
        go_roundw
        case rel => exact ⟨i + 1, Ac, cc, cur, lg, hil, rfl, by go_num, hinv.out, hcur5.out.below hb6, hco5.out.keep hb6 hco5.out.lt, hbw5.trans (hb6.mono (by omega))⟩
        case measure => simp [intOf]; omega
    · have i1 : ¬ (i : Int) < (cs.length : Int) := by omega
      go_wp2_with fail
      clear hil i1 hi
      obtain ⟨W5, hW5⟩ : ∃ W5, W5 = wr := ⟨_, rfl⟩
      subst hW5
      have hb05 : Below w.heap.size w W5 := hb03.trans (hbw.mono (by omega))
      clear hbw hz
      go_loopw [14] (fun vi wq => ∃ i : Nat, i ≤ l.length ∧ vi = .int .i64 (i : Int) ∧ Below W5.heap.size W5 wq) (fun vi _ => l.length - (intOf vi).toNat)
      case atStart => exact ⟨0, Nat.zero_le _, rfl, Below.refl _ _⟩
      case round =>
        obtain ⟨i, hi, rfl, hbq⟩ := hrel
        have hzq := hbq.size
        by_cases hil : i < l.length
        · have i1 : (i : Int) < (l.length : Int) := by omega
          go_wp2_with fail
          obtain ⟨W6, hW6⟩ : ∃ W6, W6 = wr := ⟨_, rfl⟩
          subst hW6
          go_loopw [15] (fun vi wq => ∃ k : Nat, k ≤ l.length ∧ vi = .int .i64 (k : Int) ∧ Below W5.heap.size W5 wq) (fun vi _ => l.length - (intOf vi).toNat)
          case atStart => exact ⟨0, Nat.zero_le _, rfl, hbq⟩
          case round =>
            clear hbq hzq
            obtain ⟨k, hk, rfl, hbq⟩ := hrel
            have hzq := hbq.size
            by_cases hkl : k < l.length
            · obtain ⟨x, hx⟩ := get_some hil
              obtain ⟨y, hy⟩ := get_some hkl
              have hcl := hinv.out.len
              obtain ⟨a, ha⟩ := get_some (show i < cur.length by omega)
              obtain ⟨b, hb⟩ := get_some (show k < cur.length by omega)
              obtain ⟨n, hn⟩ := get_some (show i < lg.length by rw [hinv.out.lln]; exact hil)
              obtain ⟨g, o, rfl, hg, hq⟩ := hxc.out (by omega)
              obtain ⟨g4, o4, rfl, hg4, hq4⟩ := hcur.out.1 (by omega)
              have i0 : (0 : Int) ≤ (i : Int) := by omega
              have k0 : (0 : Int) ≤ (k : Int) := by omega
              have k1 : (k : Int) < (l.length : Int) := by omega
              have hgap := hinv.out.gap i k x y a b n hx hy ha hb hn
              have hwx := hinv.out.weight hx ha
              obtain ⟨⟨p1, p2⟩, ⟨p3, p4⟩, ⟨p5, p6⟩, ⟨p7, p8⟩, ⟨p9, p10⟩⟩ := hinv.out.nums hv.out hx hy ha hb hn
              have hb0q : Below w.heap.size w wr := hb05.trans (hbq.mono hb05.size)
              have qx := hq wr hb0q i x hx
              have qy := hq wr hb0q k y hy
              have qa : ∀ j u, (shareE a)[j]? = some u → wr.cell? ⟨g4, o4 + i * 3 + j, none⟩ = some u := fun j u hu => (hbq.cell (p := ⟨g4, o4 + i * 3 + j, none⟩) hg4).trans (hq4 i a ha j u hu)
              have qb : ∀ j u, (shareE b)[j]? = some u → wr.cell? ⟨g4, o4 + k * 3 + j, none⟩ = some u := fun j u hu => (hbq.cell (p := ⟨g4, o4 + k * 3 + j, none⟩) hg4).trans (hq4 k b hb j u hu)
              have xw := qx 1 (.int .i64 x.weight.1) rfl
              have xs := qx 2 (.int .i64 x.served.1) rfl
              have yw := qy 1 (.int .i64 y.weight.1) rfl
              have ys := qy 2 (.int .i64 y.served.1) rfl
              have a0 := qa 0 (.string a.proj.1) rfl
              have a1 := qa 1 (.int .i64 a.weight.1) rfl
              have a2 := qa 2 (.int .i64 a.served.1) rfl
              have b0 := qb 0 (.string b.proj.1) rfl
              have b1 := qb 1 (.int .i64 b.weight.1) rfl
              have b2 := qb 2 (.int .i64 b.served.1) rfl
              rw [Nat.add_zero] at a0 b0
              have nc := (hco.out.keep hbq hco.out.lt).cell hn
              clear qx qy qa qb hq hq4
              obtain ⟨P1, hP1⟩ : ∃ P, a.served.1 * b.weight.1 = P := ⟨_, rfl⟩
              obtain ⟨P2, hP2⟩ : ∃ P, b.served.1 * a.weight.1 = P := ⟨_, rfl⟩
              obtain ⟨P3, hP3⟩ : ∃ P, x.served.1 * y.weight.1 = P := ⟨_, rfl⟩
              obtain ⟨P4, hP4⟩ : ∃ P, y.served.1 * x.weight.1 = P := ⟨_, rfl⟩
              obtain ⟨P5, hP5⟩ : ∃ P, n.1 * b.weight.1 = P := ⟨_, rfl⟩
              rw [hP1, hP2, hP3, hP4, hP5] at hgap
              rw [hP1] at p1 p2
              rw [hP2] at p3 p4
              rw [hP3] at p5 p6
              rw [hP4] at p7 p8
              rw [hP5] at p9 p10
              have w1' : IntKind.i64.wrap (a.served.1 * b.weight.1) = P1 := by rw [hP1]; exact IntWalk.i64_in _ (by omega)
              have w2' : IntKind.i64.wrap (b.served.1 * a.weight.1) = P2 := by rw [hP2]; exact IntWalk.i64_in _ (by omega)
              have w3' : IntKind.i64.wrap (x.served.1 * y.weight.1) = P3 := by rw [hP3]; exact IntWalk.i64_in _ (by omega)
              have w4' : IntKind.i64.wrap (y.served.1 * x.weight.1) = P4 := by rw [hP4]; exact IntWalk.i64_in _ (by omega)
              have w5' : IntKind.i64.wrap (n.1 * b.weight.1) = P5 := by rw [hP5]; exact IntWalk.i64_in _ (by omega)
              have w6' : IntKind.i64.wrap (P1 - P2) = P1 - P2 := IntWalk.i64_in _ (by omega)
              have w7' : IntKind.i64.wrap (P3 - P4) = P3 - P4 := IntWalk.i64_in _ (by omega)
              have w8' : decide (P1 - P2 > max (P3 - P4) P5) = false := decide_eq_false (by omega)
              have w9' : ¬ (max (P3 - P4) P5 < P1 - P2) := by omega
              have hwe : (a.weight.1 != x.weight.1) = false := by rw [hwx]; simp
              replace hP1 := Lib.hid hP1
              replace hP2 := Lib.hid hP2
              replace hP3 := Lib.hid hP3
              replace hP4 := Lib.hid hP4
              replace hP5 := Lib.hid hP5
              replace hgap := Lib.hid hgap
              replace hwx := Lib.hid hwx
              replace hx := Lib.hid hx
              replace hy := Lib.hid hy
              replace ha := Lib.hid ha
              replace hb := Lib.hid hb
              replace hn := Lib.hid hn
              replace hcl := Lib.hid hcl
              clear p1 p2 p3 p4 p5 p6 p7 p8 p9 p10
              have hg4r : g4 < wr.heap.size := by omega
              have hg4s : g4 < wr.heap.size + 1 := by omega
              have ne1 : g4 ≠ wr.heap.size := by omega
              have ne2 : g4 ≠ wr.heap.size + 1 := by omega
              have ne3 : wr.heap.size ≠ g4 := by omega
              have ne4 : wr.heap.size + 1 ≠ g4 := by omega
              go_upto_region 25 with fail
              go_cut [16, 17] (fun s16 s17 wx => ∃ ga gb : Nat, s16 = .pointer (some ⟨ga, 0, none⟩) ∧ s17 = .pointer (some ⟨gb, 0, none⟩) ∧ (wx.cell? ⟨ga, 0, none⟩ = some (.string a.proj.1) ∧ wx.cell? ⟨ga, 1, none⟩ = some (.int .i64 a.weight.1) ∧ wx.cell? ⟨ga, 2, none⟩ = some (.int .i64 a.served.1)) ∧ (wx.cell? ⟨gb, 0, none⟩ = some (.string b.proj.1) ∧ wx.cell? ⟨gb, 1, none⟩ = some (.int .i64 b.weight.1) ∧ wx.cell? ⟨gb, 2, none⟩ = some (.int .i64 b.served.1)) ∧ ga < wx.heap.size ∧ gb < wx.heap.size ∧ Below wr.heap.size wr wx)
              case first =>
                go_region
                · go_wp2_with fail
                  go_meet
                  refine ⟨wr.heap.size, wr.heap.size + 1, rfl, rfl, ⟨?_, ?_, ?_⟩, ⟨?_, ?_, ?_⟩, ?_, ?_, ?_⟩
                  · go_simp
                  · go_simp
                  · go_simp
                  · go_simp
                  · go_simp
                  · go_simp
                  · (try simp) <;> omega
                  · (try simp) <;> omega
                  · exact (((Below.refl _ _).alloc (Nat.le_refl _) _).alloc (by (try simp) <;> omega) _).drew
                · go_wp2_with fail
                  go_meet
                  refine ⟨wr.heap.size + 1, wr.heap.size, rfl, rfl, ⟨?_, ?_, ?_⟩, ⟨?_, ?_, ?_⟩, ?_, ?_, ?_⟩
                  · go_simp
                  · go_simp
                  · go_simp
                  · go_simp
                  · go_simp
                  · go_simp
                  · (try simp) <;> omega
                  · (try simp) <;> omega
                  · exact (((Below.refl _ _).alloc (Nat.le_refl _) _).alloc (by (try simp) <;> omega) _).drew
              case rest =>
                obtain ⟨ga, gb, rfl, rfl, ⟨d0, d1, d2⟩, ⟨e0, e1, e2⟩, hga, hgb, hbx⟩ := hcut
                have hzx := hbx.size
                clear a0 a1 a2 b0 b1 b2
                replace xw := Lib.hid ((hbx.cell (p := ⟨g, o + i * 3 + 1, none⟩) (by show g < _; omega)).trans xw)
                replace xs := Lib.hid ((hbx.cell (p := ⟨g, o + i * 3 + 2, none⟩) (by show g < _; omega)).trans xs)
                replace yw := Lib.hid ((hbx.cell (p := ⟨g, o + k * 3 + 1, none⟩) (by show g < _; omega)).trans yw)
                replace ys := Lib.hid ((hbx.cell (p := ⟨g, o + k * 3 + 2, none⟩) (by show g < _; omega)).trans ys)
                replace nc := Lib.hid ((hbx.cell (p := ⟨w3.heap.size, i, none⟩) (by have := hco.out.lt; show w3.heap.size < _; omega)).trans nc)
                go_wp2_with fail
                have q1 := fun d os => cell_regrown xw.out d os
                have q2 := fun d os => cell_regrown xs.out d os
                have q3 := fun d os => cell_regrown yw.out d os
                have q4 := fun d os => cell_regrown ys.out d os
                clear d0 d2 e0 e2
                refine wp_region_quiet_below (by kernel_rfl) (by kernel_rfl) ?_
                repeat (go_big_quiet_step (fail))
                refine wpQuiet_nil ?_
                intro w7 hw7
                have hb7 := below_of_regrown hw7
                clear hw7
                have hz7 := hb7.size
                clear q1 q2 q3 q4
                have r1 := fun d os => cell_regrown ((hb7.cell (p := ⟨g, o + i * 3 + 1, none⟩) (by show g < _; omega)).trans xw.out) d os
                have r2 := fun d os => cell_regrown ((hb7.cell (p := ⟨ga, 1, none⟩) hga).trans d1) d os
                have r3 := fun d os => cell_regrown ((hb7.cell (p := ⟨gb, 1, none⟩) hgb).trans e1) d os
                have r4 := fun d os => cell_regrown ((hb7.cell (p := ⟨w3.heap.size, i, none⟩) (by have := hco.out.lt; show w3.heap.size < _; omega)).trans nc.out) d os
                clear d1 e1
                go_wp2_with fail
                refine wp_region_quiet_below (by kernel_rfl) (by kernel_rfl) ?_
                repeat (go_big_quiet_step (fail))
                refine wpQuiet_nil ?_
                intro w8 hw8
                have hb8 := below_of_regrown hw8
                clear hw8
                have hz8 := hb8.size
                go_wp2_with fail
                go_roundw
                case rel => exact ⟨k + 1, hkl, by go_num, ((hbq.trans (hbx.mono (by omega))).trans (hb7.mono (by omega))).trans (hb8.mono (by omega))⟩
                case measure => simp [intOf]; omega
            · have k1 : ¬ (k : Int) < (l.length : Int) := by omega
              go_wp2_with fail
              go_roundw
              case rel => exact ⟨i + 1, hil, by go_num, hbq⟩
              case measure => simp [intOf]; omega
        · have i1 : ¬ (i : Int) < (l.length : Int) := by omega
          go_wp2_with (go_at_call 10; go_must (refine (awake_any _).mono ?_; rintro e w9 ⟨rfl, hb9⟩))
          go_ret
          exact ⟨rfl, (hb05.trans (hbq.mono hb05.size)).trans (hb9.mono (by have := hb05.size; omega))⟩

/-- A world for the witness: the settled one, the listed tables holding what their initialisers lay. -/
noncomputable def laidWorld (os : Os) : World :=
  { World.holding Tryd.prog os ⟨#[], #[], []⟩ with heap := layAll Tryd.prog Rows.fairnessBoundRow.laid (World.holding Tryd.prog os ⟨#[], #[], []⟩).heap }
theorem laid_met (os : Os) : laidMet Tryd.prog Rows.fairnessBoundRow.laid ((laidWorld os).forCall (fun _ _ => 0) ⟨#[], #[.slice none 0 0, .slice none 0 0], []⟩).memory :=
  laidMet_of_run' 8 (by kernel_rfl) (by kernel_rfl)
theorem reads (os : Os) {H : Type} (enc : TypeId × Value → H) : ∃ places, DataW.whole enc Tryd.prog ((laidWorld os).forCall (fun _ _ => 0) ⟨#[], #[.slice none 0 0, .slice none 0 0], []⟩).memory Tryd.f8.params.toList Rows.fairnessBoundSpec.vars false (#[.slice none 0 0, .slice none 0 0] : Array Value).toList 8 = some ([.nil, .nil], [], places) :=
  ⟨[], by kernel_rfl⟩

set_option maxRecDepth 100000 in
theorem contract (H : Type) (enc : TypeId × Value → H) (W : World) (base : Nat) (args : Array Value) (ds gs : List (DataW H)) (before : List MemPlace)
    (hval : ∀ (j : Nat) t v, Tryd.f8.params[j]? = some t → args[j]? = some v → Value.okWide Tryd.prog W .any base t v)
    (hW : DataW.Whole enc Tryd.prog Tryd.f8.params.toList Rows.fairnessBoundSpec.vars false W args.toList ds gs before) :
    Calls Tryd.prog 8 args W fun e W' => ∃ v, e = .returned v ∧ Rows.fairnessBoundSpec.post enc Tryd.prog Tryd.f8 false true false false W args v W' := by
  have hW' := hW
  obtain ⟨p, q, hA0, hV, rfl, hfz, hnd⟩ := hW
  have hA : DataW.TrodAll enc Tryd.prog W 0 (fun _ => true) true Tryd.f8.params.toList args.toList ds p := hA0
  have hA1 := hA
  rw [Tryd.params8] at hA hval
  obtain ⟨rfl, rfl⟩ := trodVars_none hV
  simp only [List.append_nil] at hW'
  have hcall : Calls Tryd.prog 8 args W fun e w' => e = .returned (.bool true) ∧ Below W.heap.size W w' := by
    clear hA0 hV hfz hnd
    obtain ⟨v0, vs0, d0, ds0, p0, q0, hargs, rfl, rfl, h0, r0⟩ := trodAll_cons hA
    obtain ⟨v1, vs1, d1, ds1, p1, q1, rfl, rfl, rfl, h1, r1⟩ := trodAll_cons r0
    obtain ⟨rfl, rfl, rfl⟩ := trodAll_nil r1
    obtain rfl : args = #[v0, v1] := by cases args; simp_all
    obtain ⟨A, l, c, rfl, hlc, hcm, hr⟩ := open_rows shareE_len (by omega) Tryd.underlying22 (by kernel_rfl) shareE_of (hval 0 22 v0 rfl rfl) h0
    unfold maxLen at hcm
    obtain ⟨B, cs, d, rfl, hld, hdm, hp⟩ := open_rows iE_len (by omega) Tryd.underlying42 (by kernel_rfl) (fun fuel cs x h => leaf_int Tryd.underlying3 h) (hval 1 42 v1 rfl rfl) h1
    unfold maxLen at hdm
    exact walk A B c d l cs W hr hp hlc (by omega) (by omega)
  have hds : ds.length = 2 := (trodAll_length hA).1
  refine hcall.mono fun e W' ⟨he, hb⟩ => ?_
  subst he
  refine ⟨_, rfl, law_post hW' rfl hA1 (by kernel_rfl) laidOut Tryd.underlying4 (by kernel_rfl) ?_ hb⟩
  match ds, hds with
  | [_, _], _ => rfl

set_option maxRecDepth 100000 in
theorem lifted (os : Os) (started : os.Started) (H : Type) (enc : TypeId × Value → H) (F : Stop.Interp) :
    ReturnsInHanded {} Tryd.checked os 8 .any ((OpenSpec.ofChange Rows.fairnessBoundSpec).preRow enc Tryd.prog Tryd.f8 Rows.fairnessBoundRow.domain false Rows.fairnessBoundRow.laid) (((OpenSpec.ofChange Rows.fairnessBoundSpec).at F).post enc Tryd.prog Tryd.f8 false true false false) := by
  obtain ⟨places, hx⟩ := reads os enc
  refine returnsInHanded_of_row (C := Tryd.checked) (s := OpenSpec.ofChange Rows.fairnessBoundSpec) own started (by kernel_rfl) Tryd.func8
    (witness_row_at (enc := enc) (C := Tryd.checked) false (laidWorld os) #[.slice none 0 0, .slice none 0 0] rfl (by kernel_rfl) (by kernel_rfl) (by kernel_rfl)
      (OpenSpec.preRow_of_cond 8 hx (by kernel_rfl) (fun k hk => by cases hk) (by kernel_rfl) (laid_met os))) ?_
  intro W base args ds gs before hval hW _ _ _ _ _ _
  exact contract H enc W base args ds gs before hval hW

theorem said : Rows.FairnessBoundSaid :=
  OpenClaim.holds_of_cond 8 Tryd.f8 rfl rfl rfl rfl rfl rfl rfl ⟨rfl, rfl, rfl, rfl, rfl⟩ rfl rfl rfl rfl rfl (by kernel_rfl) Tryd.func8 (by kernel_rfl)
    (of_decide_eq_true (by kernel_rfl)) (by unfold Func.isWrapper; first | (rw [if_pos (by decide +kernel)]; kernel_rfl) | (rw [if_neg (by decide +kernel)]; exact ⟨rfl, rfl⟩))
    (fun os started H enc _ F => by rw [OpenClaim.pre_eq_preRow]; exact lifted os started H enc F)

theorem plain (f : FuncId) (fn : Func) (hf : Tryd.pinned.checked.prog.funcNamed Rows.fairnessBoundRow.func = some f) (hfn : Tryd.pinned.checked.prog.funcs[f]? = some fn) :
    false = Tryd.pinned.checked.prog.looks [] ∧ ∀ (j : Nat) t, fn.params[j]? = some t → Tryd.pinned.checked.prog.wantsStandIn t = false := by
  obtain rfl : f = 8 := Option.some.inj ((show Tryd.prog.funcNamed Rows.fairnessBoundRow.func = some 8 by kernel_rfl).symm.trans hf) |>.symm
  obtain rfl : fn = Tryd.f8 := (Option.some.inj (Tryd.func8.symm.trans hfn)).symm
  refine ⟨by kernel_rfl, fun j t ht => ?_⟩
  have hall : (Tryd.f8.params.toList.all fun t => !(Tryd.pinned.checked.prog.wantsStandIn t)) = true := by kernel_rfl
  have hm : t ∈ Tryd.f8.params.toList := Array.mem_toList_iff.2 (Array.mem_of_getElem? ht)
  simpa using List.all_eq_true.1 hall t hm

theorem proved : Rows.FairnessBoundCardSaid :=
  Claim7.holds_tied_plain_at .later [] _ _ _ _ said (fun _ h => by cases h) (by kernel_rfl) (fun _ h => by cases h) fairnessBound_row_tie rfl ⟨rfl, rfl⟩ (by kernel_rfl) rfl plain (by kernel_rfl)
#print axioms proved
end Go.Proofs.YtopicpghhpkgbaaDoor.fairnessBound
