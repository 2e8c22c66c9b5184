/-
  WorkerMany: a list of MaxWorkers workers takes no more, and one of up to three fewer does; the example holds. No condition.
-/
import Derived.Test.YtnahbfmbmpoljaaDoorWk22
import Derived.Test.YtnahbfmbmpoljaaDoorLawKit
import Derived.Test.YtnahbfmbmpoljaaDoorLayTab
import Derived.Deep.RegionHeld3




namespace Go.Proofs.YtnahbfmbmpoljaaDoor.workerMany
open Go.ChangeShapes Go.WideShapes Go.ChangeAt Go.RowKit Go.Joins
theorem own : ownKnob Tryd.prog.godebug = none := by kernel_rfl
theorem laidOut : laidOutB Tryd.prog = true := by kernel_rfl

def D10 : ByteArray := ⟨#[48, 49, 50, 51, 52, 53, 54, 55, 56, 57]⟩
def digB (k : Nat) : ByteArray := ⟨#[119]⟩ ++ D10.extract (k / 100) (k / 100 + 1) ++ D10.extract (k / 10 % 10) (k / 10 % 10 + 1) ++ D10.extract (k % 10) (k % 10 + 1)
theorem dig_size (k : Nat) : (digB k).size ≤ 4 := by
  unfold digB
  simp only [ByteArray.size_append, ByteArray.size_extract]
  have : (⟨#[119]⟩ : ByteArray).size = 1 := rfl
  omega
/-- The workers of a great list. -/
def wm (k : Nat) : Work := ⟨⟨digB k, by have := dig_size k; omega⟩, none, 0, [], ⟨0, by omega⟩, ⟨1, by omega⟩, false, ⟨0, by omega⟩, ⟨0, by omega⟩, ⟨0, by omega⟩, none, 0, []⟩
abbrev xX : Work := ⟨⟨⟨#[120]⟩, by decide⟩, none, 0, [], ⟨0, by omega⟩, ⟨1, by omega⟩, false, ⟨0, by omega⟩, ⟨0, by omega⟩, ⟨0, by omega⟩, none, 0, []⟩
abbrev wl (k : Nat) : List Work := (List.range k).map wm
theorem ex_0 : joinE (wl 256) xX ⟨0, by omega⟩ = 21 := by decide +kernel
theorem ex_1 : joinE (wl 255) xX ⟨0, by omega⟩ = 0 := by decide +kernel
theorem ex_2 : joinE (wl 254) xX ⟨0, by omega⟩ = 0 := by decide +kernel
theorem ex_3 : joinE (wl 253) xX ⟨0, by omega⟩ = 0 := by decide +kernel
theorem ex_p1 : plN xX.id (wl 255) = 255 := by decide +kernel
theorem ex_p2 : plN xX.id (wl 254) = 254 := by decide +kernel
theorem ex_p3 : plN xX.id (wl 253) = 253 := by decide +kernel
theorem ex_all {n k : Nat} (h : k + n = 256) (h1 : 1 ≤ n) (h3 : n ≤ 3) : joinE (wl k) xX ⟨0, by omega⟩ = 0 ∧ plN xX.id (wl k) = k := by
  rcases (show k = 255 ∨ k = 254 ∨ k = 253 by omega) with rfl | rfl | rfl
  · exact ⟨ex_1, ex_p1⟩
  · exact ⟨ex_2, ex_p2⟩
  · exact ⟨ex_3, ex_p3⟩
theorem wl_len (k : Nat) : (wl k).length = k := by simp
theorem wl_mem {k : Nat} {y : Work} (h : y ∈ wl k) : ∃ j, y = wm j := by
  obtain ⟨j, _, e⟩ := List.mem_map.1 h
  exact ⟨j, e.symm⟩
theorem wm_ok (j : Nat) : LabOk (wm j) := ⟨fun s hs => absurd hs (by simp [wm]), by simp [wm], by simp [wm]⟩
theorem wm_lab (w : World) (B j : Nat) : LabWork w B (wm j) := ⟨Nat.le_refl _, Nat.zero_le _, Rw.nil, Nat.le_refl _, Nat.zero_le _, Rw.nil⟩
theorem join_wl (k : Nat) (hk : k ≤ 256) (A : Option Addr) (c : Nat) (w : World) (hr : Rw workE 9 w w.heap.size A (wl k)) (hG : Glob w) :
    Calls Tryd.prog 13 #[.slice A k c, .agg #[.string ⟨#[120]⟩, .slice none 0 0, .int .i64 0, .int .i64 1, .bool false, .int .i64 0, .int .i64 0, .int .i64 0, .slice none 0 0], .int .i64 0] w fun e w' => ∃ A' c' l', e = .returned (.tuple #[.slice A' l'.length c', .int .i64 (joinE (wl k) xX ⟨0, by omega⟩)]) ∧ RwW w' w'.heap.size A' l' ∧ l'.map core = (joinL (wl k) xX ⟨0, by omega⟩).map core ∧ Below w.heap.size w w' := by
  have h := join_any A c (wl k) xX ⟨0, by omega⟩ w ⟨hr, fun y hy => by obtain ⟨j, rfl⟩ := wl_mem hy; exact wm_lab _ _ j⟩ ⟨Nat.le_refl _, Nat.zero_le _, Rw.nil, Nat.le_refl _, Nat.zero_le _, Rw.nil⟩ (by rw [wl_len]; omega) (fun y hy => by obtain ⟨j, rfl⟩ := wl_mem hy; exact wm_ok j) (fun y hy => by obtain ⟨j, rfl⟩ := wl_mem hy; exact ⟨by simp [wm], by simp [wm]⟩) ⟨fun s hs => absurd hs (by simp), by simp, by simp⟩ (by simp) hG
  rw [wl_len] at h
  exact h
theorem join_full (A : Option Addr) (c : Nat) (w : World) (hr : Rw workE 9 w w.heap.size A (wl 256)) (hG : Glob w) :
    Calls Tryd.prog 13 #[.slice A 256 c, .agg #[.string ⟨#[120]⟩, .slice none 0 0, .int .i64 0, .int .i64 1, .bool false, .int .i64 0, .int .i64 0, .int .i64 0, .slice none 0 0], .int .i64 0] w fun e w' => ∃ A' c', e = .returned (.tuple #[.slice A' 256 c', .int .i64 21]) ∧ Below w.heap.size w w' := by
  refine (join_wl 256 (by omega) A c w hr hG).mono ?_
  rintro e w' ⟨A', c', l', rfl, _, hl, hb⟩
  rw [joinL_no ex_0 (by decide)] at hl
  have hlen : l'.length = 256 := by have := congrArg List.length hl; simpa using this
  exact ⟨A', c', by rw [hlen, ex_0], hb⟩
theorem join_one (n k : Nat) (h : k + n = 256) (h1 : 1 ≤ n) (h3 : n ≤ 3) (A : Option Addr) (c : Nat) (w : World) (hr : Rw workE 9 w w.heap.size A (wl k)) (hG : Glob w) :
    Calls Tryd.prog 13 #[.slice A k c, .agg #[.string ⟨#[120]⟩, .slice none 0 0, .int .i64 0, .int .i64 1, .bool false, .int .i64 0, .int .i64 0, .int .i64 0, .slice none 0 0], .int .i64 0] w fun e w' => ∃ g o c', e = .returned (.tuple #[.slice (some ⟨g, o, none⟩) (k + 1) c', .int .i64 0]) ∧ w'.cell? ⟨g, o + k * 9, none⟩ = some (.string ⟨#[120]⟩) ∧ Below w.heap.size w w' := by
  obtain ⟨hE, hP⟩ := ex_all h h1 h3
  refine (join_wl k (by omega) A c w hr hG).mono ?_
  rintro e w' ⟨A', c', l', rfl, hrw, hl, hb⟩
  rw [joinL_ok hE, hP, List.take_of_length_le (by rw [wl_len]; omega), List.drop_of_length_le (by rw [wl_len]; omega)] at hl
  have hlen : l'.length = k + 1 := by have := congrArg List.length hl; simpa using this
  obtain ⟨g, o, rfl, hg, hc⟩ := hrw.row (by omega)
  obtain ⟨y, hy⟩ := get_some (show k < l'.length by omega)
  have hyc : core y = core (newW xX ⟨0, by omega⟩) := by
    have := congrArg (fun z => z[k]?) hl
    simp only [List.getElem?_map, hy] at this
    rw [List.getElem?_append_right (by rw [wl_len]; omega), wl_len, Nat.sub_self] at this
    simpa using this
  have hid : y.id = xX.id := (congrArg Work.id hyc : (core y).id = (core (newW xX ⟨0, by omega⟩)).id)
  have hq := hc k y hy 0 (.string y.id.1) rfl
  rw [hid, Nat.add_zero] at hq
  exact ⟨g, o, c', by rw [hlen, hE], hq, hb⟩
section
variable {P : Program} {α : Type} {enc : α → List Value} {k : Nat}
theorem step_append_rw {ops : Array Oper} {o : Oper} {a : Act} {w : World} {K : Act → World → Prop} {Q : Exit → Act → World → Prop} {E : Prop} (hgd : o.guard = none) (s x : Operand) (t : TypeId)
    (ho : o.op = .call { callee := .builtin .append, args := #[s, x], argTypes := #[t, t] })
    (hk : ∀ x : α, (enc x).length = k) (h1 : ∀ x : α, ∀ u ∈ enc x, u.oneCell' = true) (base : Nat) (e : TypeId) (i : TypeInfo) (z : Value) (bytes : Nat) (ht : P.underlying t = some (.slice e)) (hi : P.info? e = some i) (hz : i.zero = some z)
    (hsize : i.size = k) (hby : i.bytes = bytes) (hzs : z.cells.size = k) (hsz : 0 < k)
    (v : Value) (xs : List α) (hs : a.eval s = v) (hown : Own enc k e w base v xs)
    (B : Nat) (A : Option Addr) (m c : Nat) (ys : List α) (hm : ys.length = m) (hx : a.eval x = .slice A m c) (hr : Rw enc k w B A ys)
    (h63 : xs.length + m ≤ maxLen) (hbytes : (xs.length + m) * bytes ≤ 140737488355328) (hbase : base ≤ w.heap.size)
    (h : ∀ v' w', Own enc k e w' base v' (xs ++ ys) → w.grownBy w' v.ownBlock → (v'.ownBlock = v.ownBlock ∨ v'.ownBlock = some w.heap.size) → K (a.put o.dst v') w') :
    if Region.wanted o (yielded ops a.tmps) = true then Oper.wp P o a w K Q else E := by
  have hw : Region.wanted o (yielded ops a.tmps) = true := by simp [Region.wanted, hgd]
  rw [if_pos hw]
  exact wp_append_rw w s x t ho hk h1 base e i z bytes ht hi hz hsize hby hzs hsz v xs hs hown B A m c ys hm hx hr h63 hbytes hbase h
end

set_option maxRecDepth 100000 in
set_option maxHeartbeats 4000000 in
theorem walkloop (n : Nat) (hn : n ≤ 3) (w : World) (hG : Glob w) :
    Calls Tryd.prog 5 #[.int .u8 (n : Int)] w fun e w' => e = .returned (.bool true) ∧ Below w.heap.size w w' := by
  obtain ⟨inf, hi0, iz0, iz1, iz2⟩ := info_parts work_info
  have n1 : ¬ (n : Int) > 3 := by omega
  have n2 : IntKind.i64.wrap (n : Int) = n := IntWalk.i64_in _ (by omega)
  have n3 : IntKind.i64.wrap (256 - (n : Int)) = 256 - n := IntWalk.i64_in _ (by omega)
  replace hG := Lib.hid hG
  go_enter Tryd.func5, Tryd.ntmps5
  go_wp2_with fail
  go_loopw [3, 4] (fun vo vi wr => ∃ k : Nat, k + n ≤ 256 ∧ vi = .int .i64 (k : Int) ∧ Own workE 9 25 wr w.heap.size vo ((List.range k).map wm) ∧ Below w.heap.size w wr) (fun _ vi _ => 256 - (intOf vi).toNat)
  case atStart => exact ⟨0, by omega, rfl, Own.nil _ _ _, Below.refl _ _⟩
  case round =>
    obtain ⟨k, hk, rfl, hown, hbw⟩ := hrel
    obtain ⟨l, hl⟩ : ∃ l, (List.range k).map wm = l := ⟨_, rfl⟩
    rw [hl] at hown
    have hll : l.length = k := by rw [← hl]; simp
    have hll2 := Nat.le_of_eq hll
    replace hll := Lib.hid hll
    have hz := hbw.size
    by_cases hlt : k + n < 256
    · have i1 : (k : Int) < 256 - (n : Int) := by omega
      have q1 : (k : Int).tdiv 100 = ((k / 100 : Nat) : Int) := by rw [Int.tdiv_eq_ediv_of_nonneg (by omega)]; omega
      have q2 : (k : Int).tdiv 10 = ((k / 10 : Nat) : Int) := by rw [Int.tdiv_eq_ediv_of_nonneg (by omega)]; omega
      have q3 : ((k / 10 : Nat) : Int).tmod 10 = ((k / 10 % 10 : Nat) : Int) := by rw [Int.tmod_eq_emod_of_nonneg (by omega)]; omega
      have q4 : (k : Int).tmod 10 = ((k % 10 : Nat) : Int) := by rw [Int.tmod_eq_emod_of_nonneg (by omega)]; omega
      obtain ⟨a, ha⟩ : ∃ a, k / 100 = a := ⟨_, rfl⟩
      obtain ⟨b10, hb10⟩ : ∃ a, k / 10 = a := ⟨_, rfl⟩
      obtain ⟨b, hb⟩ : ∃ b, b10 % 10 = b := ⟨_, rfl⟩
      obtain ⟨c, hc⟩ : ∃ c, k % 10 = c := ⟨_, rfl⟩
      rw [hb10] at q2 q3
      rw [ha] at q1
      rw [hb] at q3
      rw [hc] at q4
      have ha2 : a < 10 := by omega
      have hb2 : b < 10 := by omega
      have hc2 : c < 10 := by omega
      have hb3 : b10 < 100 := by omega
      replace ha := Lib.hid ha
      replace hb := Lib.hid hb
      replace hc := Lib.hid hc
      replace hb10 := Lib.hid hb10
      have w1 : IntKind.i64.wrap (a : Int) = a := IntWalk.i64_in _ (by omega)
      have w2 : IntKind.i64.wrap (b10 : Int) = b10 := IntWalk.i64_in _ (by omega)
      have w3 : IntKind.i64.wrap (b : Int) = b := IntWalk.i64_in _ (by omega)
      have w4 : IntKind.i64.wrap (c : Int) = c := IntWalk.i64_in _ (by omega)
      have w5 : IntKind.i64.wrap ((a : Int) + 1) = (a : Int) + 1 := IntWalk.i64_in _ (by omega)
      have w6 : IntKind.i64.wrap ((b : Int) + 1) = (b : Int) + 1 := IntWalk.i64_in _ (by omega)
      have w7 : IntKind.i64.wrap ((c : Int) + 1) = (c : Int) + 1 := IntWalk.i64_in _ (by omega)
      have ja0 : (0 : Int) ≤ (a : Int) := by omega
      have ja1 : (a : Int) ≤ (a : Int) + 1 := by omega
      have ja2 : (a : Int) + 1 ≤ 10 := by omega
      have ja3 : ((a : Int) + 1).toNat = a + 1 := by omega
      have ja4 : a + 1 ≤ 10 := by omega
      have ja5 : a ≤ a + 1 := by omega
      have ja6 : (0 : Int) ≤ (a : Int) + 1 := by omega
      have jb0 : (0 : Int) ≤ (b : Int) := by omega
      have jb1 : (b : Int) ≤ (b : Int) + 1 := by omega
      have jb2 : (b : Int) + 1 ≤ 10 := by omega
      have jb3 : ((b : Int) + 1).toNat = b + 1 := by omega
      have jb4 : b + 1 ≤ 10 := by omega
      have jb5 : b ≤ b + 1 := by omega
      have jb6 : (0 : Int) ≤ (b : Int) + 1 := by omega
      have jc0 : (0 : Int) ≤ (c : Int) := by omega
      have jc1 : (c : Int) ≤ (c : Int) + 1 := by omega
      have jc2 : (c : Int) + 1 ≤ 10 := by omega
      have jc3 : ((c : Int) + 1).toNat = c + 1 := by omega
      have jc4 : c + 1 ≤ 10 := by omega
      have jc5 : c ≤ c + 1 := by omega
      have jc6 : (0 : Int) ≤ (c : Int) + 1 := by omega
      replace hl := Lib.hid hl
      go_wp2_with fail
      have hwm : (wm k).id.1 = ⟨#[119]⟩ ++ (⟨#[48, 49, 50, 51, 52, 53, 54, 55, 56, 57]⟩ : ByteArray).extract a (a + 1) ++ (⟨#[48, 49, 50, 51, 52, 53, 54, 55, 56, 57]⟩ : ByteArray).extract b (b + 1) ++ (⟨#[48, 49, 50, 51, 52, 53, 54, 55, 56, 57]⟩ : ByteArray).extract c (c + 1) := by
        show digB k = _
        unfold digB D10
        rw [ha.out, hb10.out, hb.out, hc.out]
      replace hwm := hwm.symm
      have hrwk : ∀ W : World, Rw workE 9 (W.alloc (.cells #[.string (wm k).id.1, .slice none 0 0, .int .i64 0, .int .i64 1, .bool false, .int .i64 0, .int .i64 0, .int .i64 0, .slice none 0 0] 25)).drew (W.heap.size + 1) (some ⟨W.heap.size, 0, none⟩) [wm k] := fun W => ((Own.lit (w := W) (enc := workE) (e := 25) (l := [wm k]) (base := 0) (workE (wm k)).toArray (Nat.zero_le _) (by simp [maxLen]) (by simp) workE_len).drew.reads workE_len).more (by simp)
      replace hrwk := Lib.hid hrwk
      go_region_held3 (fun w' => w.heap.size ≤ w.heap.size) (exact Nat.le_refl _)
        (first
          | (refine step_append_rw rfl (.tmp 17) (.tmp 42) _ rfl workE_len workE_one w.heap.size 25 inf _ 112 Tryd.underlying31 hi0 iz0 iz1 iz2 rfl (by omega) u3 l rfl ((hown.alloc _).drew) _ (some ⟨wr.heap.size, 0, none⟩) 1 1 [wm k] rfl rfl (hrwk.out wr) (by (try simp [maxLen]) <;> omega) (by (try simp) <;> omega) (by (try simp) <;> omega) ?_
             intro v7 w7 hown7 hg7 hat7
             have hz7 := hg7.size
             simp at hz7
             have hbw7 : Below w.heap.size w w7 := ((hbw.alloc (by omega) _).drew).grown hg7 (by simp; omega) (fun g hg => (hown.lt g hg).1))
          | fail)
      all_goals go_wp2_with fail
      all_goals go_roundw
      case rel => exact ⟨k + 1, by omega, by go_num, by rw [List.range_succ, List.map_append, hl.out]; exact hown7, hbw7⟩
      case measure => simp [intOf]; omega
    · have i1 : ¬ (k : Int) < 256 - (n : Int) := by omega
      have hk2 : k + n = 256 := by omega
      obtain ⟨A, c, hv, _, _, _⟩ := hown.form
      have hlk : l.length = k := hll.out
      rw [hlk] at hv
      subst hv
      have hrw : Rw workE 9 wr wr.heap.size A (wl k) := by
        show Rw workE 9 wr wr.heap.size A ((List.range k).map wm)
        rw [hl]; exact hown.reads workE_len
      clear hown
      by_cases hn0 : n = 0
      · have hk256 : k = 256 := by omega
        subst hk256
        have hj := Lib.hid (join_full A c wr hrw (hG.out.keep hbw))
        have hz0 : ((n : Int) == 0) = true := by rw [hn0]; rfl
        have hnz : (n : Int) = 0 := by omega
        replace hn0 := Lib.hid hn0
        replace hl := Lib.hid hl
        go_wp2_with (first
          | (go_at_call 13; go_must (refine hj.out.mono ?_; rintro e w2 ⟨A2, c2, rfl, hb2⟩; have hz2 := hb2.size))
          | (go_at_call 12; go_must (refine (awake_any _ (hG.out.keep (by repeat (first | (with_reducible exact Below.refl _ _) | (with_reducible refine Below.drew ?_) | (with_reducible refine below_drewN ?_ _) | ((with_reducible refine Below.alloc ?_ ?_ _); rotate_left; focus ((try simp) <;> omega)) | ((with_reducible refine Below.setCell ?_ ?_ _); rotate_left; focus ((try simp) <;> omega)) | ((with_reducible refine Below.trans ?_ (Below.mono (by assumption) ?_)); rotate_left; focus ((try simp) <;> omega)))))).mono ?_; rintro e w9 ⟨rfl, hb9⟩)))
        go_ret
        exact ⟨rfl, (by repeat (first | (with_reducible exact Below.refl _ _) | (with_reducible refine Below.drew ?_) | (with_reducible refine below_drewN ?_ _) | ((with_reducible refine Below.alloc ?_ ?_ _); rotate_left; focus ((try simp) <;> omega)) | ((with_reducible refine Below.setCell ?_ ?_ _); rotate_left; focus ((try simp) <;> omega)) | ((with_reducible refine Below.trans ?_ (Below.mono (by assumption) ?_)); rotate_left; focus ((try simp) <;> omega))))⟩
      · have hj := Lib.hid (join_one n k hk2 (by omega) hn A c wr hrw (hG.out.keep hbw))
        have hz0 : ((n : Int) == 0) = false := by rw [beq_eq_false_iff_ne]; omega
        have hnz : ¬ (n : Int) = 0 := by omega
        have hk1 : IntKind.i64.wrap ((k : Int) + 1) = (k : Int) + 1 := IntWalk.i64_in _ (by omega)
        have j0 : (0 : Int) ≤ (k : Int) := by omega
        have j1 : (k : Int) < (k : Int) + 1 := by omega
        have j2 : (k : Int) < ((k + 1 : Nat) : Int) := by omega
        replace hl := Lib.hid hl
        go_wp2_with (first
          | (go_at_call 13; go_must (refine hj.out.mono ?_; rintro e w2 ⟨g2, o2, c2, rfl, hq2, hb2⟩; have hz2 := hb2.size))
          | (go_at_call 12; go_must (refine (awake_any _ (hG.out.keep (by repeat (first | (with_reducible exact Below.refl _ _) | (with_reducible refine Below.drew ?_) | (with_reducible refine below_drewN ?_ _) | ((with_reducible refine Below.alloc ?_ ?_ _); rotate_left; focus ((try simp) <;> omega)) | ((with_reducible refine Below.setCell ?_ ?_ _); rotate_left; focus ((try simp) <;> omega)) | ((with_reducible refine Below.trans ?_ (Below.mono (by assumption) ?_)); rotate_left; focus ((try simp) <;> omega)))))).mono ?_; rintro e w9 ⟨rfl, hb9⟩)))
        go_ret
        exact ⟨rfl, (by repeat (first | (with_reducible exact Below.refl _ _) | (with_reducible refine Below.drew ?_) | (with_reducible refine below_drewN ?_ _) | ((with_reducible refine Below.alloc ?_ ?_ _); rotate_left; focus ((try simp) <;> omega)) | ((with_reducible refine Below.setCell ?_ ?_ _); rotate_left; focus ((try simp) <;> omega)) | ((with_reducible refine Below.trans ?_ (Below.mono (by assumption) ?_)); rotate_left; focus ((try simp) <;> omega))))⟩
theorem walk (n : Int) (hn : 0 ≤ n ∧ n ≤ 255) (w : World) (hG : Glob w) :
    Calls Tryd.prog 5 #[.int .u8 n] w fun e w' => e = .returned (.bool true) ∧ Below w.heap.size w w' := by
  by_cases h3 : n ≤ 3
  · obtain ⟨m, rfl⟩ : ∃ m : Nat, n = m := ⟨n.toNat, by omega⟩
    exact walkloop m (by omega) w hG
  · have h4 : n > 3 := by omega
    replace hG := Lib.hid hG
    go_enter Tryd.func5, Tryd.ntmps5
    go_wp2_with (go_at_call 12; go_must (refine (awake_any _ (hG.out.keep (by repeat (first | (with_reducible exact Below.refl _ _) | (with_reducible refine Below.drew ?_) | (with_reducible refine below_drewN ?_ _) | ((with_reducible refine Below.alloc ?_ ?_ _); rotate_left; focus ((try simp) <;> omega)) | ((with_reducible refine Below.setCell ?_ ?_ _); rotate_left; focus ((try simp) <;> omega)) | ((with_reducible refine Below.trans ?_ (Below.mono (by assumption) ?_)); rotate_left; focus ((try simp) <;> omega)))))).mono ?_; rintro e w9 ⟨rfl, hb9⟩))
    go_ret
    exact ⟨rfl, (by repeat (first | (with_reducible exact Below.refl _ _) | (with_reducible refine Below.drew ?_) | (with_reducible refine below_drewN ?_ _) | ((with_reducible refine Below.alloc ?_ ?_ _); rotate_left; focus ((try simp) <;> omega)) | ((with_reducible refine Below.setCell ?_ ?_ _); rotate_left; focus ((try simp) <;> omega)) | ((with_reducible refine Below.trans ?_ (Below.mono (by assumption) ?_)); rotate_left; focus ((try simp) <;> omega))))⟩

/-- A world for the witness: the settled one, the listed tables holding what their initialisers lay. -/
noncomputable def laidWorld (os : Os) : World :=
  { World.holding Tryd.prog os ⟨#[], #[], []⟩ with heap := layAll Tryd.prog Rows.workerManyRow.laid (World.holding Tryd.prog os ⟨#[], #[], []⟩).heap }
theorem laid_met (os : Os) : laidMet Tryd.prog Rows.workerManyRow.laid ((laidWorld os).forCall (fun _ _ => 0) ⟨#[], #[.int .u8 0], []⟩).memory :=
  laidMet_of_run' 8 (by kernel_rfl) (by kernel_rfl)
theorem reads (os : Os) {H : Type} (enc : TypeId × Value → H) : ∃ places, DataW.whole enc Tryd.prog ((laidWorld os).forCall (fun _ _ => 0) ⟨#[], #[.int .u8 0], []⟩).memory Tryd.f5.params.toList Rows.workerManySpec.vars false (#[.int .u8 0] : Array Value).toList 8 = some ([.lit (.int .u8 0)], [], places) :=
  ⟨[], by kernel_rfl⟩

set_option maxRecDepth 100000 in
theorem contract (H : Type) (enc : TypeId × Value → H) (W : World) (base : Nat) (args : Array Value) (ds gs : List (DataW H)) (before : List MemPlace)
    (hval : ∀ (j : Nat) t v, Tryd.f5.params[j]? = some t → args[j]? = some v → Value.okWide Tryd.prog W .any base t v)
    (hW : DataW.Whole enc Tryd.prog Tryd.f5.params.toList Rows.workerManySpec.vars false W args.toList ds gs before) (hsh : W.ShapedOpen Tryd.prog) :
    Calls Tryd.prog 5 args W fun e W' => ∃ v, e = .returned v ∧ Rows.workerManySpec.post enc Tryd.prog Tryd.f5 false true false false W args v W' := by
  have hG : Glob W := cell_of_shapedOpen_int (P := Tryd.prog) (g := 2) (t := 3) (zero := #[.int .i64 0]) hsh (of_decide_eq_true (by kernel_rfl)) (by kernel_rfl) rfl (by kernel_rfl) (by kernel_rfl) Tryd.underlying3
  have hW' := hW
  obtain ⟨p, q, hA0, hV, rfl, hfz, hnd⟩ := hW
  have hA : DataW.TrodAll enc Tryd.prog W 0 (fun _ => true) true Tryd.f5.params.toList args.toList ds p := hA0
  have hA1 := hA
  rw [Tryd.params5] at hA hval
  obtain ⟨rfl, rfl⟩ := trodVars_none hV
  simp only [List.append_nil] at hW'
  have hcall : Calls Tryd.prog 5 args W fun e w' => e = .returned (.bool true) ∧ Below W.heap.size W w' := by
    clear hA0 hV hfz hnd
    obtain ⟨v0, vs0, d0, ds0, p0, q0, hargs, rfl, rfl, h0, r0⟩ := trodAll_cons hA
    obtain ⟨rfl, rfl, rfl⟩ := trodAll_nil r0
    obtain rfl : args = #[v0] := by cases args; simp_all
    obtain ⟨a1, rfl, rfl, rfl, w1⟩ := open_int Tryd.underlying5 (hval 0 5 v0 rfl rfl) h0
    have hb : 0 ≤ a1 ∧ a1 ≤ 255 := by simp [Lit.wf, IntKind.min, IntKind.max, IntKind.signed, IntKind.bits] at w1; omega
    exact walk a1 hb W hG
  have hds : ds.length = 1 := (trodAll_length hA).1
  refine hcall.mono fun e W' ⟨he, hb⟩ => ?_
  subst he
  refine ⟨_, rfl, law_post hW' rfl hA1 (by kernel_rfl) laidOut Tryd.underlying4 (by kernel_rfl) ?_ hb⟩
  match ds, hds with
  | [_], _ => rfl

set_option maxRecDepth 100000 in
theorem lifted (os : Os) (started : os.Started) (H : Type) (enc : TypeId × Value → H) (F : Stop.Interp) :
    ReturnsInHanded {} Tryd.checked os 5 .any ((OpenSpec.ofChange Rows.workerManySpec).preRow enc Tryd.prog Tryd.f5 Rows.workerManyRow.domain false Rows.workerManyRow.laid) (((OpenSpec.ofChange Rows.workerManySpec).at F).post enc Tryd.prog Tryd.f5 false true false false) := by
  obtain ⟨places, hx⟩ := reads os enc
  refine returnsInHanded_of_row (C := Tryd.checked) (s := OpenSpec.ofChange Rows.workerManySpec) own started (by kernel_rfl) Tryd.func5
    (witness_row_at (enc := enc) (C := Tryd.checked) false (laidWorld os) #[.int .u8 0] rfl (by kernel_rfl) (by kernel_rfl) (by kernel_rfl)
      (OpenSpec.preRow_of_cond 8 hx (by kernel_rfl) (fun k hk => by cases hk) (by kernel_rfl) (laid_met os))) ?_
  intro W base args ds gs before hval hW _ _ _ _ hsh _
  exact contract H enc W base args ds gs before hval hW hsh

theorem said : Rows.WorkerManySaid :=
  OpenClaim.holds_of_cond 5 Tryd.f5 rfl rfl rfl rfl rfl rfl rfl ⟨rfl, rfl, rfl, rfl, rfl⟩ rfl rfl rfl rfl rfl (by kernel_rfl) Tryd.func5 (by kernel_rfl)
    (of_decide_eq_true (by kernel_rfl)) (by unfold Func.isWrapper; first | (rw [if_pos (by decide +kernel)]; kernel_rfl) | (rw [if_neg (by decide +kernel)]; exact ⟨rfl, rfl⟩))
    (fun os started H enc _ F => by rw [OpenClaim.pre_eq_preRow]; exact lifted os started H enc F)

theorem plain (f : FuncId) (fn : Func) (hf : Tryd.pinned.checked.prog.funcNamed Rows.workerManyRow.func = some f) (hfn : Tryd.pinned.checked.prog.funcs[f]? = some fn) :
    false = Tryd.pinned.checked.prog.looks [] ∧ ∀ (j : Nat) t, fn.params[j]? = some t → Tryd.pinned.checked.prog.wantsStandIn t = false := by
  obtain rfl : f = 5 := Option.some.inj ((show Tryd.prog.funcNamed Rows.workerManyRow.func = some 5 by kernel_rfl).symm.trans hf) |>.symm
  obtain rfl : fn = Tryd.f5 := (Option.some.inj (Tryd.func5.symm.trans hfn)).symm
  refine ⟨by kernel_rfl, fun j t ht => ?_⟩
  have hall : (Tryd.f5.params.toList.all fun t => !(Tryd.pinned.checked.prog.wantsStandIn t)) = true := by kernel_rfl
  have hm : t ∈ Tryd.f5.params.toList := Array.mem_toList_iff.2 (Array.mem_of_getElem? ht)
  simpa using List.all_eq_true.1 hall t hm

theorem proved : Rows.WorkerManyCardSaid :=
  Claim7.holds_tied_plain_at .later [] _ _ _ _ said (fun _ h => by cases h) (by kernel_rfl) (fun _ h => by cases h) workerMany_row_tie rfl ⟨rfl, rfl⟩ (by kernel_rfl) rfl plain (by kernel_rfl)
#print axioms proved
end Go.Proofs.YtnahbfmbmpoljaaDoor.workerMany
