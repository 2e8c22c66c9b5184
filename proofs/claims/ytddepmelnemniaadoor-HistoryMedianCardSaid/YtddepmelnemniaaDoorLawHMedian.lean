/-
  HistoryMedian: at least half of a history's measured times are not greater than its median time, less than half are smaller, the rate lies in its bounds; the example holds. No condition.
-/
import Derived.Test.YtddepmelnemniaaDoorHis31
import Derived.Test.YtddepmelnemniaaDoorBase1
import Derived.Test.YtddepmelnemniaaDoorLayTab




namespace Go.Proofs.YtddepmelnemniaaDoor.historyMedian
open Go.ChangeShapes Go.WideShapes Go.ChangeAt Go.RowKit Go.Joins
theorem own : ownKnob Tryd.prog.godebug = none := by kernel_rfl
theorem laidOut : laidOutB Tryd.prog = true := by kernel_rfl

theorem vals_meas (l : List Samp) : valI (measS l) = measT l := by
  unfold valI measS timesS measT
  rw [List.map_map]
  rfl
def lo (T : Int) (l : List I64) : Nat := l.countP fun n => decide (n.1 < T)
def up (T : Int) (l : List I64) : Nat := l.countP fun n => decide (n.1 ≤ T)
theorem lo_succ {T : Int} {l : List I64} {k : Nat} {n : I64} (h : l[k]? = some n) : lo T (l.take (k + 1)) = lo T (l.take k) + if n.1 < T then 1 else 0 := by
  unfold lo
  rw [List.take_add_one, h, List.countP_append]
  by_cases h2 : n.1 < T <;> simp [h2]
theorem up_succ {T : Int} {l : List I64} {k : Nat} {n : I64} (h : l[k]? = some n) : up T (l.take (k + 1)) = up T (l.take k) + if n.1 ≤ T then 1 else 0 := by
  unfold up
  rw [List.take_add_one, h, List.countP_append]
  by_cases h2 : n.1 ≤ T <;> simp [h2]
theorem lo_le (T : Int) (l : List I64) (k : Nat) : lo T (l.take k) ≤ k := Nat.le_trans List.countP_le_length (by rw [List.length_take]; omega)
theorem up_le (T : Int) (l : List I64) (k : Nat) : up T (l.take k) ≤ k := Nat.le_trans List.countP_le_length (by rw [List.length_take]; omega)
theorem half {l : List Samp} (h : measS l ≠ []) : 2 * lo (timeI l) (measS l) < (measS l).length ∧ (measS l).length ≤ 2 * up (timeI l) (measS l) := by
  have h1 : measT l ≠ [] := fun e => h (by rw [← vals_meas] at e; exact List.map_eq_nil_iff.1 e)
  have hm := med_half h1
  have e1 : (measT l).countP (fun x => decide (x < medI (measT l))) = lo (timeI l) (measS l) := by
    rw [← vals_meas]
    unfold valI lo timeI
    rw [List.countP_map, ← vals_meas]
    rfl
  have e2 : (measT l).countP (fun x => decide (x ≤ medI (measT l))) = up (timeI l) (measS l) := by
    rw [← vals_meas]
    unfold valI up timeI
    rw [List.countP_map, ← vals_meas]
    rfl
  have e3 : (measT l).length = (measS l).length := by rw [← vals_meas]; unfold valI; rw [List.length_map]
  rw [e1, e2, e3] at hm
  exact hm
theorem no_meas {l : List Samp} (h : measS l = []) : timeI l = 0 ∧ rateI l = 0 := by
  have h1 : measT l = [] := by rw [← vals_meas, h]; rfl
  unfold timeI rateI medI
  rw [h1]
  exact ⟨rfl, rfl⟩
set_option maxRecDepth 100000 in
set_option maxHeartbeats 8000000 in
theorem walk (x : Hst) (w : World) (hx : LabHst w w.heap.size x) (hG : Glob w) :
    Calls Tryd.prog 3 #[.agg #[.string x.name.1, .slice x.lA x.l.length x.lC]] w fun e w' => e = .returned (.bool true) ∧ Below w.heap.size w w' := by
  by_cases h40 : 40 < x.l.length
  · have h40z : (40 : Int) < (x.l.length : Int) := by omega
    clear hx
    replace hG := Lib.hid hG
    go_enter Tryd.func3, Tryd.ntmps3
    go_wp2_with (go_at_call 4; go_must (refine (lives_any _ (hG.out.keep (by repeat (first | (with_reducible exact Below.refl _ _) | (with_reducible refine Below.drew ?_) | (with_reducible refine below_drewN ?_ _) | ((with_reducible refine Below.alloc ?_ ?_ _); rotate_left; focus ((try simp) <;> omega)) | ((with_reducible refine Below.setCell ?_ ?_ _); rotate_left; focus ((try simp) <;> omega)) | ((with_reducible refine Below.trans ?_ (Below.mono (by assumption) ?_)); rotate_left; focus ((try simp) <;> omega)))))).mono ?_; rintro e w9 ⟨rfl, hb9⟩; have hz9 := hb9.size; (try simp at hz9)))
    go_ret
    exact ⟨rfl, (by repeat (first | (with_reducible exact Below.refl _ _) | (with_reducible refine Below.drew ?_) | (with_reducible refine below_drewN ?_ _) | ((with_reducible refine Below.alloc ?_ ?_ _); rotate_left; focus ((try simp) <;> omega)) | ((with_reducible refine Below.setCell ?_ ?_ _); rotate_left; focus ((try simp) <;> omega)) | ((with_reducible refine Below.trans ?_ (Below.mono (by assumption) ?_)); rotate_left; focus ((try simp) <;> omega))))⟩
  have h40z : ¬ (40 : Int) < (x.l.length : Int) := by omega
  have hlx := fun W (hb : Below w.heap.size w W) => (hx.below hb (Nat.le_refl _)).more hb.size
  have hml : (measS x.l).length ≤ 40 := by
    have : (measS x.l).length ≤ x.l.length := by unfold measS timesS; rw [List.length_map]; exact List.length_filter_le _ _
    omega
  have hhalf := half (l := x.l)
  have hnone := no_meas (l := x.l)
  have hrin := rate_in x.l
  have hme0 : ∀ W, Below w.heap.size w W → Calls Tryd.prog 5 #[.agg #[.string x.name.1, .slice x.lA x.l.length x.lC]] W fun e w' => ∃ A c, e = .returned (.slice A (measS x.l).length c) ∧ Rw iE 1 w' w'.heap.size A (measS x.l) ∧ Below W.heap.size W w' := fun W hb => (rmeas_any x W (hlx W hb) (by omega)).mono fun e w' ⟨A, c, h1, h2, h3⟩ => ⟨A, c, h1, h2.reads iE_len, h3⟩
  have hti0 := fun W (hb : Below w.heap.size w W) => timeof_any x W (hlx W hb) (by omega)
  have hra0 := fun W (hb : Below w.heap.size w W) => rate_any x W (hlx W hb) (by omega)
  obtain ⟨ms, hms⟩ : ∃ ms, measS x.l = ms := ⟨_, rfl⟩
  obtain ⟨T, hT⟩ : ∃ T, timeI x.l = T := ⟨_, rfl⟩
  obtain ⟨R, hR⟩ : ∃ R, rateI x.l = R := ⟨_, rfl⟩
  rw [hms] at hml hme0 hhalf hnone
  rw [hT] at hti0 hhalf hnone
  rw [hR] at hra0 hnone hrin
  obtain ⟨hr0, hr1k⟩ := hrin
  have hme := Lib.hid hme0
  have hti := Lib.hid hti0
  have hra := Lib.hid hra0
  replace hms := Lib.hid hms
  replace hT := Lib.hid hT
  replace hR := Lib.hid hR
  replace hG := Lib.hid hG
  clear hme0 hti0 hra0 hx hlx
  by_cases h0 : ms = []
  · obtain ⟨rfl, rfl⟩ := hnone h0
    subst h0
    clear hhalf hnone
    go_enter Tryd.func3, Tryd.ntmps3
    go_wp2_with (first
      | (go_at_call 5; go_must (refine (hme.out _ (by repeat (first | (with_reducible exact Below.refl _ _) | (with_reducible refine Below.drew ?_) | (with_reducible refine below_drewN ?_ _) | ((with_reducible refine Below.alloc ?_ ?_ _); rotate_left; focus ((try simp) <;> omega)) | ((with_reducible refine Below.setCell ?_ ?_ _); rotate_left; focus ((try simp) <;> omega)) | ((with_reducible refine Below.trans ?_ (Below.mono (by assumption) ?_)); rotate_left; focus ((try simp) <;> omega))))).mono ?_; rintro e w1 ⟨A1, c1, rfl, hr1, hb1⟩; have hz1 := hb1.size; (try simp at hz1); have hk1 : w.heap.size < w1.heap.size := (by omega); replace hr1 := Lib.hid hr1; obtain ⟨d1, e1⟩ := blk_at hb1 w.heap.size (by (try simp) <;> omega)))
      | (go_at_call 6; go_must (refine (hti.out _ (by repeat (first | (with_reducible exact Below.refl _ _) | (with_reducible refine Below.drew ?_) | (with_reducible refine below_drewN ?_ _) | ((with_reducible refine Below.alloc ?_ ?_ _); rotate_left; focus ((try simp) <;> omega)) | ((with_reducible refine Below.setCell ?_ ?_ _); rotate_left; focus ((try simp) <;> omega)) | ((with_reducible refine Below.trans ?_ (Below.mono (by assumption) ?_)); rotate_left; focus ((try simp) <;> omega))))).mono ?_; rintro e w2 ⟨rfl, hb2⟩; have hz2 := hb2.size; (try simp at hz2); have hk2 : w.heap.size < w2.heap.size := (by omega); obtain ⟨d2, e2⟩ := blk_at hb2 w.heap.size (by (try simp) <;> omega)))
      | (go_at_call 7; go_must (refine (hra.out _ (by repeat (first | (with_reducible exact Below.refl _ _) | (with_reducible refine Below.drew ?_) | (with_reducible refine below_drewN ?_ _) | ((with_reducible refine Below.alloc ?_ ?_ _); rotate_left; focus ((try simp) <;> omega)) | ((with_reducible refine Below.setCell ?_ ?_ _); rotate_left; focus ((try simp) <;> omega)) | ((with_reducible refine Below.trans ?_ (Below.mono (by assumption) ?_)); rotate_left; focus ((try simp) <;> omega))))).mono ?_; rintro e w3 ⟨rfl, hb3⟩; have hz3 := hb3.size; (try simp at hz3); have hk3 : w.heap.size < w3.heap.size := (by omega); obtain ⟨d3, e3⟩ := blk_at hb3 w.heap.size (by (try simp) <;> omega)))
      | (go_at_call 4; go_must (refine (lives_any _ (hG.out.keep (by repeat (first | (with_reducible exact Below.refl _ _) | (with_reducible refine Below.drew ?_) | (with_reducible refine below_drewN ?_ _) | ((with_reducible refine Below.alloc ?_ ?_ _); rotate_left; focus ((try simp) <;> omega)) | ((with_reducible refine Below.setCell ?_ ?_ _); rotate_left; focus ((try simp) <;> omega)) | ((with_reducible refine Below.trans ?_ (Below.mono (by assumption) ?_)); rotate_left; focus ((try simp) <;> omega)))))).mono ?_; rintro e w9 ⟨rfl, hb9⟩; have hz9 := hb9.size; (try simp at hz9))))
    go_ret
    exact ⟨rfl, (by repeat (first | (with_reducible exact Below.refl _ _) | (with_reducible refine Below.drew ?_) | (with_reducible refine below_drewN ?_ _) | ((with_reducible refine Below.alloc ?_ ?_ _); rotate_left; focus ((try simp) <;> omega)) | ((with_reducible refine Below.setCell ?_ ?_ _); rotate_left; focus ((try simp) <;> omega)) | ((with_reducible refine Below.trans ?_ (Below.mono (by assumption) ?_)); rotate_left; focus ((try simp) <;> omega))))⟩
  obtain ⟨hlo, hup⟩ := hhalf h0
  have hpos : 0 < ms.length := List.length_pos_iff.2 h0
  have e0 : ((ms.length : Int) == 0) = false := by rw [beq_eq_false_iff_ne]; omega
  have e0n : ¬ (ms.length : Int) = 0 := by omega
  clear hnone
  have hlo1 := Lib.hid hlo
  have hup1 := Lib.hid hup
  clear hlo hup h0
  go_enter Tryd.func3, Tryd.ntmps3
  go_wp2_with (first
    | (go_at_call 5; go_must (refine (hme.out _ (by repeat (first | (with_reducible exact Below.refl _ _) | (with_reducible refine Below.drew ?_) | (with_reducible refine below_drewN ?_ _) | ((with_reducible refine Below.alloc ?_ ?_ _); rotate_left; focus ((try simp) <;> omega)) | ((with_reducible refine Below.setCell ?_ ?_ _); rotate_left; focus ((try simp) <;> omega)) | ((with_reducible refine Below.trans ?_ (Below.mono (by assumption) ?_)); rotate_left; focus ((try simp) <;> omega))))).mono ?_; rintro e w1 ⟨A1, c1, rfl, hr1, hb1⟩; have hz1 := hb1.size; (try simp at hz1); have hk1 : w.heap.size < w1.heap.size := (by omega); replace hr1 := Lib.hid hr1; obtain ⟨d1, e1⟩ := blk_at hb1 w.heap.size (by (try simp) <;> omega)))
    | (go_at_call 6; go_must (refine (hti.out _ (by repeat (first | (with_reducible exact Below.refl _ _) | (with_reducible refine Below.drew ?_) | (with_reducible refine below_drewN ?_ _) | ((with_reducible refine Below.alloc ?_ ?_ _); rotate_left; focus ((try simp) <;> omega)) | ((with_reducible refine Below.setCell ?_ ?_ _); rotate_left; focus ((try simp) <;> omega)) | ((with_reducible refine Below.trans ?_ (Below.mono (by assumption) ?_)); rotate_left; focus ((try simp) <;> omega))))).mono ?_; rintro e w2 ⟨rfl, hb2⟩; have hz2 := hb2.size; (try simp at hz2); have hk2 : w.heap.size < w2.heap.size := (by omega); obtain ⟨d2, e2⟩ := blk_at hb2 w.heap.size (by (try simp) <;> omega))))
  have k0 : w2.cell? ⟨w.heap.size, 0, none⟩ = some (.string x.name.1) := (d2 _).trans ((d1 _).trans (by go_simp))
  have k1 : w2.cell? ⟨w.heap.size, 1, none⟩ = some (.slice x.lA x.l.length x.lC) := (d2 _).trans ((d1 _).trans (by go_simp))
  have hB2 : Hid (Below w.heap.size w w2) := Lib.hid (by repeat (first | (with_reducible exact Below.refl _ _) | (with_reducible refine Below.drew ?_) | (with_reducible refine below_drewN ?_ _) | ((with_reducible refine Below.alloc ?_ ?_ _); rotate_left; focus ((try simp) <;> omega)) | ((with_reducible refine Below.setCell ?_ ?_ _); rotate_left; focus ((try simp) <;> omega)) | ((with_reducible refine Below.trans ?_ (Below.mono (by assumption) ?_)); rotate_left; focus ((try simp) <;> omega))))
  have hB12 : Hid (Below w1.heap.size w1 w2) := Lib.hid (by repeat (first | (with_reducible exact Below.refl _ _) | (with_reducible refine Below.drew ?_) | (with_reducible refine below_drewN ?_ _) | ((with_reducible refine Below.alloc ?_ ?_ _); rotate_left; focus ((try simp) <;> omega)) | ((with_reducible refine Below.setCell ?_ ?_ _); rotate_left; focus ((try simp) <;> omega)) | ((with_reducible refine Below.trans ?_ (Below.mono (by assumption) ?_)); rotate_left; focus ((try simp) <;> omega))))
  clear d1 d2 e1 e2
  go_loopw [5, 6, 7] (fun vb vu vi wr => ∃ k : Nat, k ≤ ms.length ∧ vi = .int .i64 (k : Int) ∧ vb = .int .i64 (lo T (ms.take k) : Int) ∧ vu = .int .i64 (up T (ms.take k) : Int) ∧ Below w2.heap.size w2 wr) (fun _ _ vi _ => ms.length - (intOf vi).toNat)
  case atStart => exact ⟨0, Nat.zero_le _, rfl, rfl, rfl, Below.refl _ _⟩
  case round =>
    obtain ⟨k, hk, rfl, rfl, rfl, hbw⟩ := hrel
    have hz := hbw.size
    have hbl := lo_le T ms k
    have hul := up_le T ms k
    obtain ⟨b, hb⟩ : ∃ b, lo T (ms.take k) = b := ⟨_, rfl⟩
    obtain ⟨u, hu⟩ : ∃ u, up T (ms.take k) = u := ⟨_, rfl⟩
    have hb0 := Lib.hid hb
    have hu0 := Lib.hid hu
    rw [hb] at hbl ⊢
    rw [hu] at hul ⊢
    by_cases hkl : k < ms.length
    · obtain ⟨n, hn⟩ := get_some hkl
      have hls := lo_succ (T := T) hn
      have hus := up_succ (T := T) hn
      rw [hb] at hls
      rw [hu] at hus
      obtain ⟨g, o, rfl, hg, hq⟩ := hr1.out (by omega)
      have q0 := ((hB12.out.trans (hbw.mono hB12.out.size)).cell (p := ⟨g, o + k * 1, none⟩) hg).trans (hq k n hn 0 (.int .i64 n.1) rfl)
      rw [Nat.mul_one] at q0
      clear hq hb hu
      have i0 : (0 : Int) ≤ (k : Int) := by omega
      have i1 : (k : Int) < (ms.length : Int) := by omega
      replace hn := Lib.hid hn
      by_cases h1 : n.1 < T
      · have h2 : n.1 ≤ T := by omega
        rw [if_pos h1] at hls
        rw [if_pos h2] at hus
        replace hls := Lib.hid hls
        replace hus := Lib.hid hus
        go_wp2_with fail
        go_roundw
        case rel => exact ⟨k + 1, hkl, by go_num, by rw [hls.out]; go_num, by rw [hus.out]; go_num, hbw⟩
        case measure => simp [intOf]; omega
      · rw [if_neg h1] at hls
        by_cases h2 : n.1 ≤ T
        · rw [if_pos h2] at hus
          replace hls := Lib.hid hls
          replace hus := Lib.hid hus
          go_wp2_with fail
          go_roundw
          case rel => exact ⟨k + 1, hkl, by go_num, by rw [hls.out]; rfl, by rw [hus.out]; go_num, hbw⟩
          case measure => simp [intOf]; omega
        · rw [if_neg h2] at hus
          replace hls := Lib.hid hls
          replace hus := Lib.hid hus
          go_wp2_with fail
          go_roundw
          case rel => exact ⟨k + 1, hkl, by go_num, by rw [hls.out]; rfl, by rw [hus.out]; rfl, hbw⟩
          case measure => simp [intOf]; omega
    · have i1 : ¬ (k : Int) < (ms.length : Int) := by omega
      obtain rfl : k = ms.length := by omega
      rw [List.take_length] at hb hu
      have hbb : 2 * b < ms.length := by rw [← hb]; exact hlo1.out
      have huu : ms.length ≤ 2 * u := by rw [← hu]; exact hup1.out
      clear hb hu
      have mb : IntKind.i64.wrap (2 * (b : Int)) = 2 * (b : Int) := IntWalk.i64_in _ (by omega)
      have mu : IntKind.i64.wrap (2 * (u : Int)) = 2 * (u : Int) := IntWalk.i64_in _ (by omega)
      have hbz : 2 * (b : Int) < (ms.length : Int) := by omega
      have huz : (ms.length : Int) ≤ 2 * (u : Int) := by omega
      have hkr : w.heap.size < wr.heap.size := by omega
      have j0 := (hbw.cell (p := ⟨w.heap.size, 0, none⟩) (by show w.heap.size < _; omega)).trans k0
      have j1 := (hbw.cell (p := ⟨w.heap.size, 1, none⟩) (by show w.heap.size < _; omega)).trans k1
      have hbr : Below w.heap.size w wr := hB2.out.trans (hbw.mono (by omega))
      go_wp2_with (first
        | (go_at_call 7; go_must (refine (hra.out _ (by repeat (first | (with_reducible exact Below.refl _ _) | (with_reducible refine Below.drew ?_) | (with_reducible refine below_drewN ?_ _) | ((with_reducible refine Below.alloc ?_ ?_ _); rotate_left; focus ((try simp) <;> omega)) | ((with_reducible refine Below.setCell ?_ ?_ _); rotate_left; focus ((try simp) <;> omega)) | ((with_reducible refine Below.trans ?_ (Below.mono (by assumption) ?_)); rotate_left; focus ((try simp) <;> omega))))).mono ?_; rintro e w3 ⟨rfl, hb3⟩; have hz3 := hb3.size; (try simp at hz3); have hk3 : w.heap.size < w3.heap.size := (by omega); obtain ⟨d3, e3⟩ := blk_at hb3 w.heap.size (by (try simp) <;> omega)))
        | (go_at_call 4; go_must (refine (lives_any _ (hG.out.keep (by repeat (first | (with_reducible exact Below.refl _ _) | (with_reducible refine Below.drew ?_) | (with_reducible refine below_drewN ?_ _) | ((with_reducible refine Below.alloc ?_ ?_ _); rotate_left; focus ((try simp) <;> omega)) | ((with_reducible refine Below.setCell ?_ ?_ _); rotate_left; focus ((try simp) <;> omega)) | ((with_reducible refine Below.trans ?_ (Below.mono (by assumption) ?_)); rotate_left; focus ((try simp) <;> omega)))))).mono ?_; rintro e w9 ⟨rfl, hb9⟩; have hz9 := hb9.size; (try simp at hz9))))
      go_ret
      exact ⟨rfl, (by repeat (first | (with_reducible exact Below.refl _ _) | (with_reducible refine Below.drew ?_) | (with_reducible refine below_drewN ?_ _) | ((with_reducible refine Below.alloc ?_ ?_ _); rotate_left; focus ((try simp) <;> omega)) | ((with_reducible refine Below.setCell ?_ ?_ _); rotate_left; focus ((try simp) <;> omega)) | ((with_reducible refine Below.trans ?_ (Below.mono (by assumption) ?_)); rotate_left; focus ((try simp) <;> omega))))⟩

/-- A world for the witness: the settled one, the listed tables holding what their initialisers lay. -/
noncomputable def laidWorld (os : Os) : World :=
  { World.holding Tryd.prog os ⟨#[], #[], []⟩ with heap := layAll Tryd.prog Rows.historyMedianRow.laid (World.holding Tryd.prog os ⟨#[], #[], []⟩).heap }
theorem laid_met (os : Os) : laidMet Tryd.prog Rows.historyMedianRow.laid ((laidWorld os).forCall (fun _ _ => 0) ⟨#[], #[.agg #[.string ByteArray.empty, .slice none 0 0]], []⟩).memory :=
  laidMet_of_run' 8 (by kernel_rfl) (by kernel_rfl)
theorem reads (os : Os) {H : Type} (enc : TypeId × Value → H) : ∃ places, DataW.whole enc Tryd.prog ((laidWorld os).forCall (fun _ _ => 0) ⟨#[], #[.agg #[.string ByteArray.empty, .slice none 0 0]], []⟩).memory Tryd.f3.params.toList Rows.historyMedianSpec.vars false (#[.agg #[.string ByteArray.empty, .slice none 0 0]] : Array Value).toList 8 = some ([.agg [.lit (.string []), .nil]], [], places) :=
  ⟨[], by kernel_rfl⟩

set_option maxRecDepth 100000 in
theorem contract (H : Type) (enc : TypeId × Value → H) (W : World) (base : Nat) (args : Array Value) (ds gs : List (DataW H)) (before : List MemPlace)
    (hval : ∀ (j : Nat) t v, Tryd.f3.params[j]? = some t → args[j]? = some v → Value.okWide Tryd.prog W .any base t v)
    (hW : DataW.Whole enc Tryd.prog Tryd.f3.params.toList Rows.historyMedianSpec.vars false W args.toList ds gs before) (hsh : W.ShapedOpen Tryd.prog) :
    Calls Tryd.prog 3 args W fun e W' => ∃ v, e = .returned v ∧ Rows.historyMedianSpec.post enc Tryd.prog Tryd.f3 false true false false W args v W' := by
  have hG : Glob W := cell_of_shapedOpen_int (P := Tryd.prog) (g := 0) (t := 3) (zero := #[.int .i64 0]) hsh (of_decide_eq_true (by kernel_rfl)) (by kernel_rfl) rfl (by kernel_rfl) (by kernel_rfl) Tryd.underlying3
  have hW' := hW
  obtain ⟨p, q, hA0, hV, rfl, hfz, hnd⟩ := hW
  have hA : DataW.TrodAll enc Tryd.prog W 0 (fun _ => true) true Tryd.f3.params.toList args.toList ds p := hA0
  have hA1 := hA
  rw [Tryd.params3] at hA hval
  obtain ⟨rfl, rfl⟩ := trodVars_none hV
  simp only [List.append_nil] at hW'
  have hcall : Calls Tryd.prog 3 args W fun e w' => e = .returned (.bool true) ∧ Below W.heap.size W w' := by
    clear hA0 hV hfz hnd
    obtain ⟨v0, vs0, d0, ds0, p0, q0, hargs, rfl, rfl, h0, r0⟩ := trodAll_cons hA
    obtain ⟨rfl, rfl, rfl⟩ := trodAll_nil r0
    obtain rfl : args = #[v0] := by cases args; simp_all
    obtain ⟨x, rfl, hx⟩ := open_valq Tryd.underlying24 hstE_of (hval 0 24 v0 rfl rfl) h0
    exact walk x W hx hG
  have hds : ds.length = 1 := (trodAll_length hA).1
  refine hcall.mono fun e W' ⟨he, hb⟩ => ?_
  subst he
  refine ⟨_, rfl, law_post hW' rfl hA1 (by kernel_rfl) laidOut Tryd.underlying4 (by kernel_rfl) ?_ hb⟩
  match ds, hds with
  | [_], _ => rfl

set_option maxRecDepth 100000 in
theorem lifted (os : Os) (started : os.Started) (H : Type) (enc : TypeId × Value → H) (F : Stop.Interp) :
    ReturnsInHanded {} Tryd.checked os 3 .any ((OpenSpec.ofChange Rows.historyMedianSpec).preRow enc Tryd.prog Tryd.f3 Rows.historyMedianRow.domain false Rows.historyMedianRow.laid) (((OpenSpec.ofChange Rows.historyMedianSpec).at F).post enc Tryd.prog Tryd.f3 false true false false) := by
  obtain ⟨places, hx⟩ := reads os enc
  refine returnsInHanded_of_row (C := Tryd.checked) (s := OpenSpec.ofChange Rows.historyMedianSpec) own started (by kernel_rfl) Tryd.func3
    (witness_row_at (enc := enc) (C := Tryd.checked) false (laidWorld os) #[.agg #[.string ByteArray.empty, .slice none 0 0]] rfl (by kernel_rfl) (by kernel_rfl) (by kernel_rfl)
      (OpenSpec.preRow_of_cond 8 hx (by kernel_rfl) (fun k hk => by cases hk) (by kernel_rfl) (laid_met os))) ?_
  intro W base args ds gs before hval hW _ _ _ _ hsh _
  exact contract H enc W base args ds gs before hval hW hsh

theorem said : Rows.HistoryMedianSaid :=
  OpenClaim.holds_of_cond 3 Tryd.f3 rfl rfl rfl rfl rfl rfl rfl ⟨rfl, rfl, rfl, rfl, rfl⟩ rfl rfl rfl rfl rfl (by kernel_rfl) Tryd.func3 (by kernel_rfl)
    (of_decide_eq_true (by kernel_rfl)) (by unfold Func.isWrapper; first | (rw [if_pos (by decide +kernel)]; kernel_rfl) | (rw [if_neg (by decide +kernel)]; exact ⟨rfl, rfl⟩))
    (fun os started H enc _ F => by rw [OpenClaim.pre_eq_preRow]; exact lifted os started H enc F)

theorem plain (f : FuncId) (fn : Func) (hf : Tryd.pinned.checked.prog.funcNamed Rows.historyMedianRow.func = some f) (hfn : Tryd.pinned.checked.prog.funcs[f]? = some fn) :
    false = Tryd.pinned.checked.prog.looks [] ∧ ∀ (j : Nat) t, fn.params[j]? = some t → Tryd.pinned.checked.prog.wantsStandIn t = false := by
  obtain rfl : f = 3 := Option.some.inj ((show Tryd.prog.funcNamed Rows.historyMedianRow.func = some 3 by kernel_rfl).symm.trans hf) |>.symm
  obtain rfl : fn = Tryd.f3 := (Option.some.inj (Tryd.func3.symm.trans hfn)).symm
  refine ⟨by kernel_rfl, fun j t ht => ?_⟩
  have hall : (Tryd.f3.params.toList.all fun t => !(Tryd.pinned.checked.prog.wantsStandIn t)) = true := by kernel_rfl
  have hm : t ∈ Tryd.f3.params.toList := Array.mem_toList_iff.2 (Array.mem_of_getElem? ht)
  simpa using List.all_eq_true.1 hall t hm

theorem proved : Rows.HistoryMedianCardSaid :=
  Claim7.holds_tied_plain_at .later [] _ _ _ _ said (fun _ h => by cases h) (by kernel_rfl) (fun _ h => by cases h) historyMedian_row_tie rfl ⟨rfl, rfl⟩ (by kernel_rfl) rfl plain (by kernel_rfl)
#print axioms proved
end Go.Proofs.YtddepmelnemniaaDoor.historyMedian
