/-
  QueueAges: for every queue (of at most 30 jobs, with short texts) and every time, a job that has waited for 190 minutes comes before every job that arrived later; the example holds. No condition.
-/
import Derived.Test.YtnhfbignnnicnaaDoorQue13
import Derived.Test.YtnhfbignnnicnaaDoorLayTab




namespace Go.Proofs.YtnhfbignnnicnaaDoor.queueAges
open Go.ChangeShapes Go.WideShapes Go.ChangeAt Go.RowKit Go.Joins
theorem own : ownKnob Tryd.prog.godebug = none := by kernel_rfl
theorem laidOut : laidOutB Tryd.prog = true := by kernel_rfl

def oldB (y : Pend) (now : Int) : Bool := decide (0 ≤ y.since.1 ∧ y.since.1 ≤ now ∧ now - y.since.1 ≥ 11400000)
theorem old_first {now : Int} {x y : Pend} (hc : cfP now x y ≤ 0) (ho : oldB y now = true) : x.since.1 ≤ y.since.1 := by
  unfold oldB at ho
  simp only [decide_eq_true_eq] at ho
  obtain ⟨h1, h2, h3⟩ := ho
  have hm : minI y.since.1 now = 190 ∨ y.since.1 = now := by
    unfold minI
    by_cases h : now ≤ y.since.1
    · exact Or.inr (by omega)
    · rw [if_neg h]; exact Or.inl (by omega)
  have hy : rankS y now = 190 := by
    unfold rankS limI
    rcases hm with h | h
    · rw [h]; omega
    · omega
  have hx := rankS_range x now
  unfold cfP at hc
  rw [hy] at hc
  by_cases e1 : rankS x now = 190
  · rw [e1] at hc
    have e0 : Id.cmpI 190 190 = 0 := by decide
    rw [e0] at hc
    simp only [orI, ne_eq, not_true_eq_false, if_false] at hc
    unfold Id.cmpI at hc
    by_cases h : y.since.1 < x.since.1
    · rw [if_neg (show ¬ x.since.1 < y.since.1 by omega), if_pos h] at hc
      simp at hc
    · omega
  · exfalso
    unfold orI Id.cmpI at hc
    rw [if_neg (show ¬ (190 : Int) < rankS x now by omega), if_pos (show rankS x now < 190 by omega)] at hc
    simp at hc
theorem pair_at {α : Type} {R : α → α → Prop} {l : List α} (h : l.Pairwise R) {k i : Nat} {x y : α} (hki : k < i) (hx : l[k]? = some x) (hy : l[i]? = some y) : R x y := by
  obtain ⟨h1, rfl⟩ := List.getElem?_eq_some_iff.1 hx
  obtain ⟨h2, rfl⟩ := List.getElem?_eq_some_iff.1 hy
  exact List.pairwise_iff_getElem.1 h k i h1 h2 hki

set_option maxRecDepth 100000 in
set_option maxHeartbeats 8000000 in
theorem walk (A : Option Addr) (c : Nat) (l : List Pend) (now : I64) (w : World) (hr : RwL w w.heap.size A l) (hm : l.length ≤ 9223372036854775807) :
    Calls Tryd.prog 8 #[.slice A l.length c, .int .i64 now.1] w fun e w' => e = .returned (.bool true) ∧ Below w.heap.size w w' := by
  rcases hf : fewB l with _ | _
  · go_enter Tryd.func8, Tryd.ntmps8
    go_wp2_with (first
      | (go_at_call 11; go_must (refine (few_any A c l _ ((hr.row.below (Below.refl _ _) (Nat.le_refl _)).more (by (try simp) <;> omega)) hm).mono ?_; rw [hf]; rintro e w1 ⟨rfl, hb1⟩; have hz1 := hb1.size; (try simp at hz1)))
      | (go_at_call 13; go_must (refine (awake_any _).mono ?_; rintro e w9 ⟨rfl, hb9⟩)))
    go_ret
    exact ⟨rfl, (by repeat (first | (with_reducible exact Below.refl _ _) | (with_reducible refine Below.drew ?_) | (with_reducible refine below_drewN ?_ _) | ((with_reducible refine Below.alloc ?_ ?_ _); rotate_left; focus ((try simp) <;> omega)) | ((with_reducible refine Below.setCell ?_ ?_ _); rotate_left; focus ((try simp) <;> omega)) | ((with_reducible refine Below.trans ?_ (Below.mono (by assumption) ?_)); rotate_left; focus ((try simp) <;> omega))))⟩
  · obtain ⟨h30, hl40⟩ := few_bounds hf
    have h1 : Hid (∀ W, Below w.heap.size w W → _) := Lib.hid fun W hb => orderq_any A c l now W ((hr.below hb (Nat.le_refl _)).more hb.size) (by omega) hl40
    by_cases n0 : now.1 < 0
    · go_enter Tryd.func8, Tryd.ntmps8
      go_wp2_with (first
        | (go_at_call 11; go_must (refine (few_any A c l _ ((hr.row.below (Below.refl _ _) (Nat.le_refl _)).more (by (try simp) <;> omega)) hm).mono ?_; rw [hf]; rintro e w1 ⟨rfl, hb1⟩; have hz1 := hb1.size; (try simp at hz1)))
        | (go_at_call 13; go_must (refine (awake_any _).mono ?_; rintro e w9 ⟨rfl, hb9⟩)))
      go_ret
      exact ⟨rfl, (by repeat (first | (with_reducible exact Below.refl _ _) | (with_reducible refine Below.drew ?_) | (with_reducible refine below_drewN ?_ _) | ((with_reducible refine Below.alloc ?_ ?_ _); rotate_left; focus ((try simp) <;> omega)) | ((with_reducible refine Below.setCell ?_ ?_ _); rotate_left; focus ((try simp) <;> omega)) | ((with_reducible refine Below.trans ?_ (Below.mono (by assumption) ?_)); rotate_left; focus ((try simp) <;> omega))))⟩
    by_cases n1 : now.1 > 1125899906842624
    · go_enter Tryd.func8, Tryd.ntmps8
      go_wp2_with (first
        | (go_at_call 11; go_must (refine (few_any A c l _ ((hr.row.below (Below.refl _ _) (Nat.le_refl _)).more (by (try simp) <;> omega)) hm).mono ?_; rw [hf]; rintro e w1 ⟨rfl, hb1⟩; have hz1 := hb1.size; (try simp at hz1)))
        | (go_at_call 13; go_must (refine (awake_any _).mono ?_; rintro e w9 ⟨rfl, hb9⟩)))
      go_ret
      exact ⟨rfl, (by repeat (first | (with_reducible exact Below.refl _ _) | (with_reducible refine Below.drew ?_) | (with_reducible refine below_drewN ?_ _) | ((with_reducible refine Below.alloc ?_ ?_ _); rotate_left; focus ((try simp) <;> omega)) | ((with_reducible refine Below.setCell ?_ ?_ _); rotate_left; focus ((try simp) <;> omega)) | ((with_reducible refine Below.trans ?_ (Below.mono (by assumption) ?_)); rotate_left; focus ((try simp) <;> omega))))⟩
    go_enter Tryd.func8, Tryd.ntmps8
    go_wp2_with (first
      | (go_at_call 11; go_must (refine (few_any A c l _ ((hr.row.below (Below.refl _ _) (Nat.le_refl _)).more (by (try simp) <;> omega)) hm).mono ?_; rw [hf]; rintro e w1 ⟨rfl, hb1⟩; have hz1 := hb1.size; (try simp at hz1)))
      | (go_at_call 20; go_must (refine (h1.out _ (by repeat (first | (with_reducible exact Below.refl _ _) | (with_reducible refine Below.drew ?_) | (with_reducible refine below_drewN ?_ _) | ((with_reducible refine Below.alloc ?_ ?_ _); rotate_left; focus ((try simp) <;> omega)) | ((with_reducible refine Below.setCell ?_ ?_ _); rotate_left; focus ((try simp) <;> omega)) | ((with_reducible refine Below.trans ?_ (Below.mono (by assumption) ?_)); rotate_left; focus ((try simp) <;> omega))))).mono ?_; rintro e w3 ⟨A3, l3, c3, rfl, hr3, hs3, hb3⟩; have hz3 := hb3.size; replace hs3 := Lib.hid hs3; replace hr3 := Lib.hid hr3)))
    have hbw3 : Below w.heap.size w w3 := (by repeat (first | (with_reducible exact Below.refl _ _) | (with_reducible refine Below.drew ?_) | (with_reducible refine below_drewN ?_ _) | ((with_reducible refine Below.alloc ?_ ?_ _); rotate_left; focus ((try simp) <;> omega)) | ((with_reducible refine Below.setCell ?_ ?_ _); rotate_left; focus ((try simp) <;> omega)) | ((with_reducible refine Below.trans ?_ (Below.mono (by assumption) ?_)); rotate_left; focus ((try simp) <;> omega))))
    have hlen : Hid (l3.length = l.length) := Lib.hid (by simpa using hs3.out.perm.length_eq)
    have hl30 : l3.length ≤ 30 := by have := hlen.out; omega
    have hle : ((l3.length : Int) == (l.length : Int)) = true := by rw [hlen.out]; simp
    have hsrt : Hid (l3.Pairwise fun x y => cfP now.1 x y ≤ 0) := Lib.hid (by
      have h := hs3.out.sorted
      rw [List.pairwise_map] at h
      exact h)
    have hcell : Hid (∀ k x, l3[k]? = some x → ∃ g o, A3 = some ⟨g, o, none⟩ ∧ w3.cell? ⟨g, o + k * 10 + 4, none⟩ = some (.int .i64 x.since.1)) := Lib.hid (fun k x hx => by
      have hk := (List.getElem?_eq_some_iff.1 hx).1
      obtain ⟨g, o, e, _, h⟩ := hr3.out.row (by omega)
      exact ⟨g, o, e, h k x hx 4 (.int .i64 x.since.1) rfl⟩)
    go_loopw [6, 7, 8] (fun va _ _ wq => ∃ i n : Nat, va = .int .i64 (i : Int) ∧ i ≤ l3.length ∧ wq = w3.drewN n) (fun va _ _ _ => l3.length - (intOf va).toNat)
    case atStart => exact ⟨0, 0, rfl, Nat.zero_le _, rfl⟩
    case round =>
      obtain ⟨i, n, rfl, hi, rfl⟩ := hrel
      by_cases hil : i < l3.length
      · have i0 : (0 : Int) ≤ (i : Int) := by omega
        have i1 : (i : Int) < (l3.length : Int) := by omega
        obtain ⟨y, hy⟩ := get_some hil
        obtain ⟨g, o, rfl, p⟩ := hcell.out i y hy
        replace hy := Lib.hid hy
        by_cases c1 : y.since.1 ≥ 0
        · by_cases c2 : y.since.1 ≤ now.1
          · by_cases c3 : now.1 - y.since.1 ≥ 11400000
            · have hold : Hid (oldB y now.1 = true) := Lib.hid (by unfold oldB; exact decide_eq_true ⟨by omega, by omega, by omega⟩)
              go_wp2_with fail
              go_loopw [7] (fun va wq => ∃ k n : Nat, va = .int .i64 (k : Int) ∧ k ≤ i ∧ wq = w3.drewN n) (fun va _ => i - (intOf va).toNat)
              case atStart => exact ⟨0, n, rfl, Nat.zero_le _, rfl⟩
              case round =>
                obtain ⟨k, n1, rfl, hk, rfl⟩ := hrel
                by_cases hki : k < i
                · have k1 : (k : Int) < (i : Int) := by omega
                  have k2 : (k : Int) < (l3.length : Int) := by omega
                  have k0 : (0 : Int) ≤ (k : Int) := by omega
                  obtain ⟨x, hx⟩ := get_some (show k < l3.length by omega)
                  obtain ⟨g', o', e, q⟩ := hcell.out k x hx
                  obtain ⟨rfl, rfl⟩ : g = g' ∧ o = o' := by simpa using e
                  clear e
                  have hxy : Hid (oldB y now.1 = true → x.since.1 ≤ y.since.1) := Lib.hid fun ho => old_first (pair_at hsrt.out hki hx hy.out) ho
                  replace hx := Lib.hid hx
                  (have hng : ¬ x.since.1 > y.since.1 := (by have := hxy.out hold.out; omega))
                  go_wp2_with fail
                  go_quiet (fail)
                  go_wp2_with fail
                  go_roundw
                  case rel => exact ⟨k + 1, _, by go_num, by omega, by first | rfl | exact World.drewN_drewN _ _ _⟩
                  case measure => simp [intOf]; omega
                · have k1 : ¬ (k : Int) < (i : Int) := by omega
                  go_wp2_with fail
                  go_roundw
                  case rel => exact ⟨i + 1, n1, by go_num, by omega, rfl⟩
                  case measure => simp [intOf]; omega
            · have c3d : decide (now.1 - y.since.1 ≥ 11400000) = false := decide_eq_false c3
              go_wp2_with fail
              go_loopw [7] (fun va wq => ∃ k n : Nat, va = .int .i64 (k : Int) ∧ k ≤ i ∧ wq = w3.drewN n) (fun va _ => i - (intOf va).toNat)
              case atStart => exact ⟨0, n, rfl, Nat.zero_le _, rfl⟩
              case round =>
                obtain ⟨k, n1, rfl, hk, rfl⟩ := hrel
                by_cases hki : k < i
                · have k1 : (k : Int) < (i : Int) := by omega
                  have k2 : (k : Int) < (l3.length : Int) := by omega
                  have k0 : (0 : Int) ≤ (k : Int) := by omega
                  obtain ⟨x, hx⟩ := get_some (show k < l3.length by omega)
                  obtain ⟨g', o', e, q⟩ := hcell.out k x hx
                  obtain ⟨rfl, rfl⟩ : g = g' ∧ o = o' := by simpa using e
                  clear e
                  have hxy : Hid (oldB y now.1 = true → x.since.1 ≤ y.since.1) := Lib.hid fun ho => old_first (pair_at hsrt.out hki hx hy.out) ho
                  replace hx := Lib.hid hx
                  (clear hxy)
                  go_wp2_with fail
                  go_quiet (fail)
                  go_wp2_with fail
                  go_roundw
                  case rel => exact ⟨k + 1, _, by go_num, by omega, by first | rfl | exact World.drewN_drewN _ _ _⟩
                  case measure => simp [intOf]; omega
                · have k1 : ¬ (k : Int) < (i : Int) := by omega
                  go_wp2_with fail
                  go_roundw
                  case rel => exact ⟨i + 1, n1, by go_num, by omega, rfl⟩
                  case measure => simp [intOf]; omega
          · have c2d : decide (y.since.1 ≤ now.1) = false := decide_eq_false c2
            go_wp2_with fail
            go_loopw [7] (fun va wq => ∃ k n : Nat, va = .int .i64 (k : Int) ∧ k ≤ i ∧ wq = w3.drewN n) (fun va _ => i - (intOf va).toNat)
            case atStart => exact ⟨0, n, rfl, Nat.zero_le _, rfl⟩
            case round =>
              obtain ⟨k, n1, rfl, hk, rfl⟩ := hrel
              by_cases hki : k < i
              · have k1 : (k : Int) < (i : Int) := by omega
                have k2 : (k : Int) < (l3.length : Int) := by omega
                have k0 : (0 : Int) ≤ (k : Int) := by omega
                obtain ⟨x, hx⟩ := get_some (show k < l3.length by omega)
                obtain ⟨g', o', e, q⟩ := hcell.out k x hx
                obtain ⟨rfl, rfl⟩ : g = g' ∧ o = o' := by simpa using e
                clear e
                have hxy : Hid (oldB y now.1 = true → x.since.1 ≤ y.since.1) := Lib.hid fun ho => old_first (pair_at hsrt.out hki hx hy.out) ho
                replace hx := Lib.hid hx
                (clear hxy)
                go_wp2_with fail
                go_quiet (fail)
                go_wp2_with fail
                go_roundw
                case rel => exact ⟨k + 1, _, by go_num, by omega, by first | rfl | exact World.drewN_drewN _ _ _⟩
                case measure => simp [intOf]; omega
              · have k1 : ¬ (k : Int) < (i : Int) := by omega
                go_wp2_with fail
                go_roundw
                case rel => exact ⟨i + 1, n1, by go_num, by omega, rfl⟩
                case measure => simp [intOf]; omega
        · have c1d : decide (y.since.1 ≥ 0) = false := decide_eq_false c1
          go_wp2_with fail
          go_loopw [7] (fun va wq => ∃ k n : Nat, va = .int .i64 (k : Int) ∧ k ≤ i ∧ wq = w3.drewN n) (fun va _ => i - (intOf va).toNat)
          case atStart => exact ⟨0, n, rfl, Nat.zero_le _, rfl⟩
          case round =>
            obtain ⟨k, n1, rfl, hk, rfl⟩ := hrel
            by_cases hki : k < i
            · have k1 : (k : Int) < (i : Int) := by omega
              have k2 : (k : Int) < (l3.length : Int) := by omega
              have k0 : (0 : Int) ≤ (k : Int) := by omega
              obtain ⟨x, hx⟩ := get_some (show k < l3.length by omega)
              obtain ⟨g', o', e, q⟩ := hcell.out k x hx
              obtain ⟨rfl, rfl⟩ : g = g' ∧ o = o' := by simpa using e
              clear e
              have hxy : Hid (oldB y now.1 = true → x.since.1 ≤ y.since.1) := Lib.hid fun ho => old_first (pair_at hsrt.out hki hx hy.out) ho
              replace hx := Lib.hid hx
              (clear hxy)
              go_wp2_with fail
              go_quiet (fail)
              go_wp2_with fail
              go_roundw
              case rel => exact ⟨k + 1, _, by go_num, by omega, by first | rfl | exact World.drewN_drewN _ _ _⟩
              case measure => simp [intOf]; omega
            · have k1 : ¬ (k : Int) < (i : Int) := by omega
              go_wp2_with fail
              go_roundw
              case rel => exact ⟨i + 1, n1, by go_num, by omega, rfl⟩
              case measure => simp [intOf]; omega
      · have i1 : ¬ (i : Int) < (l3.length : Int) := by omega
        go_wp2_with (first
          | (go_at_call 13; go_must (refine (awake_any _).mono ?_; rintro e w9 ⟨rfl, hb9⟩)))
        go_ret
        exact ⟨rfl, (below_drewN hbw3 _).trans (hb9.mono (by (try simp) <;> omega))⟩

/-- A world for the witness: the settled one, the listed tables holding what their initialisers lay. -/
noncomputable def laidWorld (os : Os) : World :=
  { World.holding Tryd.prog os ⟨#[], #[], []⟩ with heap := layAll Tryd.prog Rows.queueAgesRow.laid (World.holding Tryd.prog os ⟨#[], #[], []⟩).heap }
theorem laid_met (os : Os) : laidMet Tryd.prog Rows.queueAgesRow.laid ((laidWorld os).forCall (fun _ _ => 0) ⟨#[], #[.slice none 0 0, .int .i64 0], []⟩).memory :=
  laidMet_of_run' 8 (by kernel_rfl) (by kernel_rfl)
theorem reads (os : Os) {H : Type} (enc : TypeId × Value → H) : ∃ places, DataW.whole enc Tryd.prog ((laidWorld os).forCall (fun _ _ => 0) ⟨#[], #[.slice none 0 0, .int .i64 0], []⟩).memory Tryd.f8.params.toList Rows.queueAgesSpec.vars false (#[.slice none 0 0, .int .i64 0] : Array Value).toList 8 = some ([.nil, .lit (.int .i64 0)], [], places) :=
  ⟨[], by kernel_rfl⟩

set_option maxRecDepth 100000 in
theorem contract (H : Type) (enc : TypeId × Value → H) (W : World) (base : Nat) (args : Array Value) (ds gs : List (DataW H)) (before : List MemPlace)
    (hval : ∀ (j : Nat) t v, Tryd.f8.params[j]? = some t → args[j]? = some v → Value.okWide Tryd.prog W .any base t v)
    (hW : DataW.Whole enc Tryd.prog Tryd.f8.params.toList Rows.queueAgesSpec.vars false W args.toList ds gs before) :
    Calls Tryd.prog 8 args W fun e W' => ∃ v, e = .returned v ∧ Rows.queueAgesSpec.post enc Tryd.prog Tryd.f8 false true false false W args v W' := by
  have hW' := hW
  obtain ⟨p, q, hA0, hV, rfl, hfz, hnd⟩ := hW
  have hA : DataW.TrodAll enc Tryd.prog W 0 (fun _ => true) true Tryd.f8.params.toList args.toList ds p := hA0
  have hA1 := hA
  rw [Tryd.params8] at hA hval
  obtain ⟨rfl, rfl⟩ := trodVars_none hV
  simp only [List.append_nil] at hW'
  have hcall : Calls Tryd.prog 8 args W fun e w' => e = .returned (.bool true) ∧ Below W.heap.size W w' := by
    clear hA0 hV hfz hnd
    obtain ⟨v0, vs0, d0, ds0, p0, q0, hargs, rfl, rfl, h0, r0⟩ := trodAll_cons hA
    obtain ⟨v1, vs1, d1, ds1, p1, q1, rfl, rfl, rfl, h1, r1⟩ := trodAll_cons r0
    obtain ⟨rfl, rfl, rfl⟩ := trodAll_nil r1
    obtain rfl : args = #[v0, v1] := by cases args; simp_all
    obtain ⟨A, l, c, rfl, hlc, hcm, hr, hlb⟩ := open_rowsq pendE_len (by omega) Tryd.underlying22 (by kernel_rfl) pendE_of (hval 0 22 v0 rfl rfl) h0
    obtain ⟨a1, rfl, rfl, rfl, w1⟩ := open_int Tryd.underlying3 (hval 1 3 v1 rfl rfl) h1
    unfold maxLen at hcm
    exact walk A c l ⟨a1, bounds_i64 w1⟩ W ⟨hr, hlb⟩ (by omega)
  have hds : ds.length = 2 := (trodAll_length hA).1
  refine hcall.mono fun e W' ⟨he, hb⟩ => ?_
  subst he
  refine ⟨_, rfl, law_post hW' rfl hA1 (by kernel_rfl) laidOut Tryd.underlying4 (by kernel_rfl) ?_ hb⟩
  match ds, hds with
  | [_, _], _ => rfl

set_option maxRecDepth 100000 in
theorem lifted (os : Os) (started : os.Started) (H : Type) (enc : TypeId × Value → H) (F : Stop.Interp) :
    ReturnsInHanded {} Tryd.checked os 8 .any ((OpenSpec.ofChange Rows.queueAgesSpec).preRow enc Tryd.prog Tryd.f8 Rows.queueAgesRow.domain false Rows.queueAgesRow.laid) (((OpenSpec.ofChange Rows.queueAgesSpec).at F).post enc Tryd.prog Tryd.f8 false true false false) := by
  obtain ⟨places, hx⟩ := reads os enc
  refine returnsInHanded_of_row (C := Tryd.checked) (s := OpenSpec.ofChange Rows.queueAgesSpec) own started (by kernel_rfl) Tryd.func8
    (witness_row_at (enc := enc) (C := Tryd.checked) false (laidWorld os) #[.slice none 0 0, .int .i64 0] rfl (by kernel_rfl) (by kernel_rfl) (by kernel_rfl)
      (OpenSpec.preRow_of_cond 8 hx (by kernel_rfl) (fun k hk => by cases hk) (by kernel_rfl) (laid_met os))) ?_
  intro W base args ds gs before hval hW _ _ _ _ _ _
  exact contract H enc W base args ds gs before hval hW

theorem said : Rows.QueueAgesSaid :=
  OpenClaim.holds_of_cond 8 Tryd.f8 rfl rfl rfl rfl rfl rfl rfl ⟨rfl, rfl, rfl, rfl, rfl⟩ rfl rfl rfl rfl rfl (by kernel_rfl) Tryd.func8 (by kernel_rfl)
    (of_decide_eq_true (by kernel_rfl)) (by unfold Func.isWrapper; first | (rw [if_pos (by decide +kernel)]; kernel_rfl) | (rw [if_neg (by decide +kernel)]; exact ⟨rfl, rfl⟩))
    (fun os started H enc _ F => by rw [OpenClaim.pre_eq_preRow]; exact lifted os started H enc F)

theorem plain (f : FuncId) (fn : Func) (hf : Tryd.pinned.checked.prog.funcNamed Rows.queueAgesRow.func = some f) (hfn : Tryd.pinned.checked.prog.funcs[f]? = some fn) :
    false = Tryd.pinned.checked.prog.looks [] ∧ ∀ (j : Nat) t, fn.params[j]? = some t → Tryd.pinned.checked.prog.wantsStandIn t = false := by
  obtain rfl : f = 8 := Option.some.inj ((show Tryd.prog.funcNamed Rows.queueAgesRow.func = some 8 by kernel_rfl).symm.trans hf) |>.symm
  obtain rfl : fn = Tryd.f8 := (Option.some.inj (Tryd.func8.symm.trans hfn)).symm
  refine ⟨by kernel_rfl, fun j t ht => ?_⟩
  have hall : (Tryd.f8.params.toList.all fun t => !(Tryd.pinned.checked.prog.wantsStandIn t)) = true := by kernel_rfl
  have hm : t ∈ Tryd.f8.params.toList := Array.mem_toList_iff.2 (Array.mem_of_getElem? ht)
  simpa using List.all_eq_true.1 hall t hm

theorem proved : Rows.QueueAgesCardSaid :=
  Claim7.holds_tied_plain_at .later [] _ _ _ _ said (fun _ h => by cases h) (by kernel_rfl) (fun _ h => by cases h) queueAges_row_tie rfl ⟨rfl, rfl⟩ (by kernel_rfl) rfl plain (by kernel_rfl)
#print axioms proved
end Go.Proofs.YtnhfbignnnicnaaDoor.queueAges
