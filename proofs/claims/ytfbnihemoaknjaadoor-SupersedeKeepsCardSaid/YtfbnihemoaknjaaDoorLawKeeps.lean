/-
  SupersedeKeeps: the runs that a run supersedes are those of the list that go before it, each of them once and in order; the examples hold. No condition.
-/
import Derived.Test.YtfbnihemoaknjaaDoorSup4
import Derived.Test.YtfbnihemoaknjaaDoorLayTab
import Derived.Lib.QuietBelow



namespace Go.Proofs.YtfbnihemoaknjaaDoor.supersedeKeeps
open Go.ChangeShapes Go.WideShapes Go.ChangeAt Go.RowKit Go.Joins
theorem own : ownKnob Tryd.prog.godebug = none := by kernel_rfl
theorem laidOut : laidOutB Tryd.prog = true := by kernel_rfl

theorem srt_len (l : List Str) : (srt l).length ≤ l.length := by
  unfold srt srtOf
  exact Nat.le_trans (Lib.compact_length_le _) (by simp)
theorem older_len (s : Sum) (l : List Sum) : (olderS s l).length ≤ l.length := by
  unfold olderS
  refine Nat.le_trans (srt_len _) ?_
  rw [List.length_map]
  exact List.length_filter_le _ _
theorem older_asc (s : Sum) (l : List Sum) : Asc cmpS (olderS s l) := by
  unfold olderS srt
  exact (srtOf_is ord_str _).1
theorem older_mem {s : Sum} {l : List Sum} {y : Str} : y ∈ olderS s l ↔ ∃ x, x ∈ l ∧ goesB s x = true ∧ x.run = y := by
  unfold olderS srt
  rw [(srtOf_is ord_str ((l.filter (goesB s)).map (·.run))).2 y, List.mem_map]
  constructor
  · rintro ⟨x, hx, e⟩
    exact ⟨x, (List.mem_filter.1 hx).1, (List.mem_filter.1 hx).2, e⟩
  · rintro ⟨x, hx, hg, e⟩
    exact ⟨x, List.mem_filter.2 ⟨hx, hg⟩, e⟩
/-- Element x answers for name y. -/
def hitB (s : Sum) (y : Str) (x : Sum) : Bool := decide (x.run = y) && goesB s x
def foundB (s : Sum) (y : Str) (l : List Sum) (j : Nat) : Bool := (l.take j).any (hitB s y)
theorem found_snoc {s : Sum} {y : Str} {l : List Sum} {k : Nat} {x : Sum} (hx : l[k]? = some x) : foundB s y l (k + 1) = (foundB s y l k || hitB s y x) := by
  unfold foundB
  rw [List.take_add_one, hx, List.any_append]; simp
theorem found_all {s : Sum} {y : Str} {l : List Sum} (h : l.any (hitB s y) = true) : foundB s y l l.length = true := by
  unfold foundB
  rw [List.take_length, h]

set_option maxRecDepth 100000 in
set_option maxHeartbeats 16000000 in
theorem walk (A : Option Addr) (c : Nat) (l : List Sum) (s : Sum) (w : World) (hr : Rw sumE 8 w w.heap.size A l) (hm : l.length ≤ 9223372036854775807) :
    Calls Tryd.prog 6 #[.slice A l.length c, .agg #[.string s.run.1, .string s.proj.1, .string s.ref.1, .bool s.fork, .string s.pipe.1, .int .i64 s.number.1, .bool s.done, .bool s.keep]] w fun e w' => e = .returned (.bool true) ∧ Below w.heap.size w w' := by
  rcases hf : fewB l with _ | _
  · go_enter Tryd.func6, Tryd.ntmps6
    go_wp2_with (first | (go_at_call 7; go_must (refine (few_any A c l _ ?_ hm).mono ?_; (focus exact (hr.alloc (Nat.le_refl _) _).more (by simp)); rw [hf]; rintro e w1 ⟨rfl, rfl⟩)) | (go_at_call 8; go_must (refine (lives_any _).mono ?_; rintro e w9 ⟨rfl, hb9⟩)))
    go_ret
    exact ⟨rfl, ((Below.refl _ _).alloc (Nat.le_refl _) _).trans (hb9.mono (by simp))⟩
  · have h40 : l.length ≤ 40 := by
      unfold fewB at hf
      rw [Bool.and_eq_true] at hf
      simpa using hf.2
    have hlen := older_len s l
    have hasc := older_asc s l
    have hmem := fun y => older_mem (s := s) (l := l) (y := y)
    have h1 := fun W h => older_any A c l s W h (by omega)
    generalize olderS s l = L at hlen h1 hasc hmem
    replace h1 := Lib.hid h1
    replace hasc := Lib.hid hasc
    replace hmem := Lib.hid hmem
    go_enter Tryd.func6, Tryd.ntmps6
    go_wp2_with fail
    have hbox := fun j u hu => box_cells w (sumE s).toArray 26 j u hu
    have hb0 : Below w.heap.size w (w.alloc (.cells (sumE s).toArray 26)) := (Below.refl _ _).alloc (Nat.le_refl _) _
    have hz0 : (w.alloc (.cells (sumE s).toArray 26)).heap.size = w.heap.size + 1 := by simp
    simp only [sumE] at hbox hb0 hz0
    generalize w.alloc (.cells #[.string s.run.1, .string s.proj.1, .string s.ref.1, .bool s.fork, .string s.pipe.1, .int .i64 s.number.1, .bool s.done, .bool s.keep] 26) = W0 at *
    have hr0 := hr.below hb0 (Nat.le_refl _)
    have p0 := hbox 0 (.string s.run.1) rfl
    try rw [Nat.add_zero] at p0
    have p1 := hbox 1 (.string s.proj.1) rfl
    have p2 := hbox 2 (.string s.ref.1) rfl
    have p3 := hbox 3 (.bool s.fork) rfl
    have p4 := hbox 4 (.string s.pipe.1) rfl
    have p5 := hbox 5 (.int .i64 s.number.1) rfl
    have p6 := hbox 6 (.bool s.done) rfl
    have p7 := hbox 7 (.bool s.keep) rfl
    go_wp2_with (first
      | (go_at_call 7; go_must (refine (few_any A c l _ ?_ hm).mono ?_; (focus exact hr0.more (by omega)); rw [hf]; rintro e w1 ⟨rfl, rfl⟩))
      | (go_at_call 10; go_must (refine (h1.out _ ?_).mono ?_; (focus exact hr0.more (by omega)); rintro e w2 ⟨A1, k1, rfl, hr1, hb2⟩)))
    have hz2 := hb2.size
    have hb02 : Below w.heap.size w w2 := hb0.trans (hb2.mono (by omega))
    have hbox2 : Hid (∀ j u, (sumE s)[j]? = some u → w2.cell? ⟨w.heap.size, j, none⟩ = some u) := Lib.hid fun j u hu => by
      rw [hb2.cell (show w.heap.size < W0.heap.size by omega)]; exact hbox j u hu
    clear hbox p0 p1 p2 p3 p4 p5 p6 p7
    have hcell : Hid (∀ k y, L[k]? = some y → ∃ g o, A1 = some ⟨g, o, none⟩ ∧ g < w2.heap.size ∧ w2.cell? ⟨g, o + k, none⟩ = some (.string y.1)) := Lib.hid (fun k x hx => by
      have hk := (List.getElem?_eq_some_iff.1 hx).1
      obtain ⟨g, o, e, hB, h⟩ := hr1.str (by omega)
      exact ⟨g, o, e, hB, h k x hx⟩)
    go_wp2_with fail
    go_loopw [6, 7] (fun vi _ wr => ∃ k : Nat, vi = .int .i64 (k : Int) ∧ k ≤ l.length ∧ Below w2.heap.size w2 wr) (fun vi _ _ => l.length - (intOf vi).toNat)
    case atStart => exact ⟨0, rfl, Nat.zero_le _, Below.refl _ _⟩
    case round =>
      obtain ⟨k, rfl, hk, hbw⟩ := hrel
      have hzw := hbw.size
      by_cases hkl : k < l.length
      · obtain ⟨x, hx⟩ := get_some hkl
        have hx' := Lib.hid hx
        obtain ⟨g, o, rfl, hgB, hq⟩ := hr (by omega)
        have hq' : ∀ a u, (sumE x)[a]? = some u → wr.cell? ⟨g, o + k * 8 + a, none⟩ = some u := fun a u hu => by
          rw [hbw.cell (show g < w2.heap.size by omega), hb02.cell hgB]; exact hq k x hx a u hu
        have hp' : ∀ a u, (sumE s)[a]? = some u → wr.cell? ⟨w.heap.size, a, none⟩ = some u := fun a u hu => by
          rw [hbw.cell (show w.heap.size < w2.heap.size by omega)]; exact hbox2.out a u hu
        clear hq hx
        have q0 := hq' 0 (.string x.run.1) rfl
        try rw [Nat.add_zero] at q0
        have q1 := hq' 1 (.string x.proj.1) rfl
        have q2 := hq' 2 (.string x.ref.1) rfl
        have q3 := hq' 3 (.bool x.fork) rfl
        have q4 := hq' 4 (.string x.pipe.1) rfl
        have q5 := hq' 5 (.int .i64 x.number.1) rfl
        have q6 := hq' 6 (.bool x.done) rfl
        have q7 := hq' 7 (.bool x.keep) rfl
        have p0 := hp' 0 (.string s.run.1) rfl
        try rw [Nat.add_zero] at p0
        have p1 := hp' 1 (.string s.proj.1) rfl
        have p2 := hp' 2 (.string s.ref.1) rfl
        have p3 := hp' 3 (.bool s.fork) rfl
        have p4 := hp' 4 (.string s.pipe.1) rfl
        have p5 := hp' 5 (.int .i64 s.number.1) rfl
        have p6 := hp' 6 (.bool s.done) rfl
        have p7 := hp' 7 (.bool s.keep) rfl
        clear hq' hp'
        have i0' : (0 : Int) ≤ (k : Int) := by omega
        have i1' : (k : Int) < (l.length : Int) := by omega
        have hq0 := Lib.hid q0
        have hcall := fun W => same_any x s W
        rcases hsm : sameB x s with _ | _
        · simp only [hsm] at hcall
          replace hcall := Lib.hid hcall
          replace q0 := fun d os => cell_regrown q0 d os
          replace q1 := fun d os => cell_regrown q1 d os
          replace q2 := fun d os => cell_regrown q2 d os
          replace q3 := fun d os => cell_regrown q3 d os
          replace q4 := fun d os => cell_regrown q4 d os
          replace q5 := fun d os => cell_regrown q5 d os
          replace q6 := fun d os => cell_regrown q6 d os
          replace q7 := fun d os => cell_regrown q7 d os
          replace p0 := fun d os => cell_regrown p0 d os
          replace p1 := fun d os => cell_regrown p1 d os
          replace p2 := fun d os => cell_regrown p2 d os
          replace p3 := fun d os => cell_regrown p3 d os
          replace p4 := fun d os => cell_regrown p4 d os
          replace p5 := fun d os => cell_regrown p5 d os
          replace p6 := fun d os => cell_regrown p6 d os
          replace p7 := fun d os => cell_regrown p7 d os
          go_wp2_with fail
          refine wp_region_quiet_below (by kernel_rfl) (by kernel_rfl) ?_
          repeat (go_big_quiet_step ((go_at_call 14; exact Calls.regrown_of (hcall.out _))))
          refine wpQuiet_nil ?_
          intro w7 hw7
          have hb7 := below_of_regrown hw7
          clear hw7
          have hz7 := hb7.size
          go_wp2_with fail
          go_roundw
          case rel => exact ⟨k + 1, by go_num, by omega, hbw.trans (hb7.mono (by omega))⟩
          case measure => simp [intOf]; omega
        · simp only [hsm] at hcall
          by_cases hlt : x.number.1 < s.number.1
          · obtain ⟨dn, hdn⟩ : ∃ d, x.done = d := ⟨_, rfl⟩
            obtain ⟨kp, hkp⟩ : ∃ d, x.keep = d := ⟨_, rfl⟩
            have hp : goesB s x = (!dn && !kp) := by unfold goesB; rw [hsm, hdn, hkp]; simp [hlt]
            rw [hdn] at q6 hcall
            rw [hkp] at q7 hcall
            replace hdn := Lib.hid hdn
            replace hkp := Lib.hid hkp
            rcases dn with _ | _
            · rcases kp with _ | _
              · have hh : hasB x.run L = true := hasB_true ((hmem.out _).2 ⟨x, List.mem_of_getElem? hx'.out, hp, rfl⟩)
                replace hcall := Lib.hid hcall
                replace q0 := fun d os => cell_regrown q0 d os
                replace q1 := fun d os => cell_regrown q1 d os
                replace q2 := fun d os => cell_regrown q2 d os
                replace q3 := fun d os => cell_regrown q3 d os
                replace q4 := fun d os => cell_regrown q4 d os
                replace q5 := fun d os => cell_regrown q5 d os
                replace q6 := fun d os => cell_regrown q6 d os
                replace q7 := fun d os => cell_regrown q7 d os
                replace p0 := fun d os => cell_regrown p0 d os
                replace p1 := fun d os => cell_regrown p1 d os
                replace p2 := fun d os => cell_regrown p2 d os
                replace p3 := fun d os => cell_regrown p3 d os
                replace p4 := fun d os => cell_regrown p4 d os
                replace p5 := fun d os => cell_regrown p5 d os
                replace p6 := fun d os => cell_regrown p6 d os
                replace p7 := fun d os => cell_regrown p7 d os
                go_wp2_with fail
                refine wp_region_quiet_below (by kernel_rfl) (by kernel_rfl) ?_
                repeat (go_big_quiet_step ((go_at_call 14; exact Calls.regrown_of (hcall.out _))))
                refine wpQuiet_nil ?_
                intro w7 hw7
                have hb7 := below_of_regrown hw7
                clear hw7
                have hz7 := hb7.size
                have q2' : w7.cell? ⟨g, o + k * 8, none⟩ = some (.string x.run.1) := by rw [hb7.cell (p := ⟨g, o + k * 8, none⟩) (by show g < wr.heap.size; omega)]; exact hq0.out
                have hrd : Rw sE 1 w7 w7.heap.size A1 L := (hr1.below (hbw.trans (hb7.mono (by omega))) (Nat.le_refl _)).more (by omega)
                go_wp2_with (first | (go_at_call 16; go_must (refine (rhas_any A1 k1 L x.run _ hrd (by omega)).mono ?_; rw [hh]; rintro e w8 ⟨rfl, rfl⟩)))
                go_roundw
                case rel => exact ⟨k + 1, by go_num, by omega, hbw.trans (hb7.mono (by omega))⟩
                case measure => simp [intOf]; omega
              · replace hcall := Lib.hid hcall
                replace q0 := fun d os => cell_regrown q0 d os
                replace q1 := fun d os => cell_regrown q1 d os
                replace q2 := fun d os => cell_regrown q2 d os
                replace q3 := fun d os => cell_regrown q3 d os
                replace q4 := fun d os => cell_regrown q4 d os
                replace q5 := fun d os => cell_regrown q5 d os
                replace q6 := fun d os => cell_regrown q6 d os
                replace q7 := fun d os => cell_regrown q7 d os
                replace p0 := fun d os => cell_regrown p0 d os
                replace p1 := fun d os => cell_regrown p1 d os
                replace p2 := fun d os => cell_regrown p2 d os
                replace p3 := fun d os => cell_regrown p3 d os
                replace p4 := fun d os => cell_regrown p4 d os
                replace p5 := fun d os => cell_regrown p5 d os
                replace p6 := fun d os => cell_regrown p6 d os
                replace p7 := fun d os => cell_regrown p7 d os
                go_wp2_with fail
                refine wp_region_quiet_below (by kernel_rfl) (by kernel_rfl) ?_
                repeat (go_big_quiet_step ((go_at_call 14; exact Calls.regrown_of (hcall.out _))))
                refine wpQuiet_nil ?_
                intro w7 hw7
                have hb7 := below_of_regrown hw7
                clear hw7
                have hz7 := hb7.size
                go_wp2_with fail
                go_roundw
                case rel => exact ⟨k + 1, by go_num, by omega, hbw.trans (hb7.mono (by omega))⟩
                case measure => simp [intOf]; omega
            · replace hcall := Lib.hid hcall
              replace q0 := fun d os => cell_regrown q0 d os
              replace q1 := fun d os => cell_regrown q1 d os
              replace q2 := fun d os => cell_regrown q2 d os
              replace q3 := fun d os => cell_regrown q3 d os
              replace q4 := fun d os => cell_regrown q4 d os
              replace q5 := fun d os => cell_regrown q5 d os
              replace q6 := fun d os => cell_regrown q6 d os
              replace q7 := fun d os => cell_regrown q7 d os
              replace p0 := fun d os => cell_regrown p0 d os
              replace p1 := fun d os => cell_regrown p1 d os
              replace p2 := fun d os => cell_regrown p2 d os
              replace p3 := fun d os => cell_regrown p3 d os
              replace p4 := fun d os => cell_regrown p4 d os
              replace p5 := fun d os => cell_regrown p5 d os
              replace p6 := fun d os => cell_regrown p6 d os
              replace p7 := fun d os => cell_regrown p7 d os
              go_wp2_with fail
              refine wp_region_quiet_below (by kernel_rfl) (by kernel_rfl) ?_
              repeat (go_big_quiet_step ((go_at_call 14; exact Calls.regrown_of (hcall.out _))))
              refine wpQuiet_nil ?_
              intro w7 hw7
              have hb7 := below_of_regrown hw7
              clear hw7
              have hz7 := hb7.size
              go_wp2_with fail
              go_roundw
              case rel => exact ⟨k + 1, by go_num, by omega, hbw.trans (hb7.mono (by omega))⟩
              case measure => simp [intOf]; omega
          · have hdf : decide (x.number.1 < s.number.1) = false := by simp; omega
            replace hcall := Lib.hid hcall
            replace q0 := fun d os => cell_regrown q0 d os
            replace q1 := fun d os => cell_regrown q1 d os
            replace q2 := fun d os => cell_regrown q2 d os
            replace q3 := fun d os => cell_regrown q3 d os
            replace q4 := fun d os => cell_regrown q4 d os
            replace q5 := fun d os => cell_regrown q5 d os
            replace q6 := fun d os => cell_regrown q6 d os
            replace q7 := fun d os => cell_regrown q7 d os
            replace p0 := fun d os => cell_regrown p0 d os
            replace p1 := fun d os => cell_regrown p1 d os
            replace p2 := fun d os => cell_regrown p2 d os
            replace p3 := fun d os => cell_regrown p3 d os
            replace p4 := fun d os => cell_regrown p4 d os
            replace p5 := fun d os => cell_regrown p5 d os
            replace p6 := fun d os => cell_regrown p6 d os
            replace p7 := fun d os => cell_regrown p7 d os
            go_wp2_with fail
            refine wp_region_quiet_below (by kernel_rfl) (by kernel_rfl) ?_
            repeat (go_big_quiet_step ((go_at_call 14; exact Calls.regrown_of (hcall.out _))))
            refine wpQuiet_nil ?_
            intro w7 hw7
            have hb7 := below_of_regrown hw7
            clear hw7
            have hz7 := hb7.size
            go_wp2_with fail
            go_roundw
            case rel => exact ⟨k + 1, by go_num, by omega, hbw.trans (hb7.mono (by omega))⟩
            case measure => simp [intOf]; omega
      · go_wp2_with fail
        clear hk hkl
        obtain ⟨W3, hW3⟩ : ∃ W3, wr = W3 := ⟨_, rfl⟩
        subst hW3
        go_loopw [8, 9, 10] (fun vi _ _ wq => ∃ k : Nat, vi = .int .i64 (k : Int) ∧ k ≤ L.length ∧ Below w2.heap.size w2 wq) (fun vi _ _ _ => L.length - (intOf vi).toNat)
        case atStart => exact ⟨0, rfl, Nat.zero_le _, hbw⟩
        case round =>
          clear hbw hzw
          obtain ⟨k, rfl, hk, hbw⟩ := hrel
          have hzw := hbw.size
          by_cases hkl : k < L.length
          · obtain ⟨y, hy⟩ := get_some hkl
            obtain ⟨g1, o1, rfl, hg1, hy1⟩ := hcell.out k y hy
            have hin : Hid (l.any (hitB s y) = true) := Lib.hid (by
              obtain ⟨x, hx, hg, e⟩ := (hmem.out y).1 (List.mem_of_getElem? hy)
              rw [List.any_eq_true]
              exact ⟨x, hx, by unfold hitB; rw [hg]; simp [e]⟩)
            replace hy := Lib.hid hy
            replace hy1 := Lib.hid hy1
            have i2' : (0 : Int) ≤ (k : Int) := by omega
            have i3' : (k : Int) < (L.length : Int) := by omega
            go_wp2_with fail
            go_loopw [9, 10] (fun vf vj wq => ∃ j : Nat, vj = .int .i64 (j : Int) ∧ vf = .bool (foundB s y l j) ∧ j ≤ l.length ∧ Below w2.heap.size w2 wq) (fun _ vj _ => l.length - (intOf vj).toNat)
            case atStart => exact ⟨0, rfl, rfl, Nat.zero_le _, hbw⟩
            case round =>
              clear hbw hzw
              obtain ⟨j, rfl, rfl, hj, hbw⟩ := hrel
              have hzw := hbw.size
              by_cases hkl : j < l.length
              · obtain ⟨x, hx⟩ := get_some hkl
                have hx' := Lib.hid hx
                obtain ⟨g, o, rfl, hgB, hq⟩ := hr (by omega)
                have hq' : ∀ a u, (sumE x)[a]? = some u → wr.cell? ⟨g, o + j * 8 + a, none⟩ = some u := fun a u hu => by
                  rw [hbw.cell (show g < w2.heap.size by omega), hb02.cell hgB]; exact hq j x hx a u hu
                have hp' : ∀ a u, (sumE s)[a]? = some u → wr.cell? ⟨w.heap.size, a, none⟩ = some u := fun a u hu => by
                  rw [hbw.cell (show w.heap.size < w2.heap.size by omega)]; exact hbox2.out a u hu
                clear hq hx
                have q0 := hq' 0 (.string x.run.1) rfl
                try rw [Nat.add_zero] at q0
                have q1 := hq' 1 (.string x.proj.1) rfl
                have q2 := hq' 2 (.string x.ref.1) rfl
                have q3 := hq' 3 (.bool x.fork) rfl
                have q4 := hq' 4 (.string x.pipe.1) rfl
                have q5 := hq' 5 (.int .i64 x.number.1) rfl
                have q6 := hq' 6 (.bool x.done) rfl
                have q7 := hq' 7 (.bool x.keep) rfl
                have p0 := hp' 0 (.string s.run.1) rfl
                try rw [Nat.add_zero] at p0
                have p1 := hp' 1 (.string s.proj.1) rfl
                have p2 := hp' 2 (.string s.ref.1) rfl
                have p3 := hp' 3 (.bool s.fork) rfl
                have p4 := hp' 4 (.string s.pipe.1) rfl
                have p5 := hp' 5 (.int .i64 s.number.1) rfl
                have p6 := hp' 6 (.bool s.done) rfl
                have p7 := hp' 7 (.bool s.keep) rfl
                clear hq' hp'
                have i0' : (0 : Int) ≤ (j : Int) := by omega
                have i1' : (j : Int) < (l.length : Int) := by omega
                have hq0 := Lib.hid q0
                have hcall := fun W => same_any x s W
                have hy2 : wr.cell? ⟨g1, o1 + k, none⟩ = some (.string y.1) := by rw [hbw.cell (show g1 < w2.heap.size from hg1)]; exact hy1.out
                replace hy2 := fun d os => cell_regrown hy2 d os
                obtain ⟨f, hf⟩ : ∃ f, foundB s y l j = f := ⟨_, rfl⟩
                rw [hf]
                replace hf := Lib.hid hf
                rcases f with _ | _
                · by_cases hxy : x.run = y
                  · have t1 := str_eqq hxy
                    rcases hsm : sameB x s with _ | _
                    · have hp : hitB s y x = false := by unfold hitB goesB; rw [hsm]; simp
                      simp only [hsm] at hcall
                      replace hxy := Lib.hid hxy
                      replace hcall := Lib.hid hcall
                      replace q0 := fun d os => cell_regrown q0 d os
                      replace q1 := fun d os => cell_regrown q1 d os
                      replace q2 := fun d os => cell_regrown q2 d os
                      replace q3 := fun d os => cell_regrown q3 d os
                      replace q4 := fun d os => cell_regrown q4 d os
                      replace q5 := fun d os => cell_regrown q5 d os
                      replace q6 := fun d os => cell_regrown q6 d os
                      replace q7 := fun d os => cell_regrown q7 d os
                      replace p0 := fun d os => cell_regrown p0 d os
                      replace p1 := fun d os => cell_regrown p1 d os
                      replace p2 := fun d os => cell_regrown p2 d os
                      replace p3 := fun d os => cell_regrown p3 d os
                      replace p4 := fun d os => cell_regrown p4 d os
                      replace p5 := fun d os => cell_regrown p5 d os
                      replace p6 := fun d os => cell_regrown p6 d os
                      replace p7 := fun d os => cell_regrown p7 d os
                      go_wp2_with fail
                      refine wp_region_quiet_below (by kernel_rfl) (by kernel_rfl) ?_
                      repeat (go_big_quiet_step ((go_at_call 14; exact Calls.regrown_of (hcall.out _))))
                      refine wpQuiet_nil ?_
                      intro w7 hw7
                      have hb7 := below_of_regrown hw7
                      clear hw7
                      have hz7 := hb7.size
                      go_wp2_with fail
                      go_roundw
                      case rel => exact ⟨j + 1, by go_num, by first | (rw [found_snoc hx'.out, hf.out, hp]; done) | (rw [found_snoc hx'.out, hf.out, hp]; rfl), by omega, hbw.trans (hb7.mono (by omega))⟩
                      case measure => simp [intOf]; omega
                    · simp only [hsm] at hcall
                      by_cases hlt : x.number.1 < s.number.1
                      · obtain ⟨dn, hdn⟩ : ∃ d, x.done = d := ⟨_, rfl⟩
                        obtain ⟨kp, hkp⟩ : ∃ d, x.keep = d := ⟨_, rfl⟩
                        have hp : hitB s y x = (!dn && !kp) := by unfold hitB goesB; rw [hsm, hdn, hkp]; simp [hlt, hxy]
                        rw [hdn] at q6 hcall
                        rw [hkp] at q7 hcall
                        replace hdn := Lib.hid hdn
                        replace hkp := Lib.hid hkp
                        replace hxy := Lib.hid hxy
                        rcases dn with _ | _
                        · rcases kp with _ | _
                          · replace hp : hitB s y x = true := hp
                            replace hcall := Lib.hid hcall
                            replace q0 := fun d os => cell_regrown q0 d os
                            replace q1 := fun d os => cell_regrown q1 d os
                            replace q2 := fun d os => cell_regrown q2 d os
                            replace q3 := fun d os => cell_regrown q3 d os
                            replace q4 := fun d os => cell_regrown q4 d os
                            replace q5 := fun d os => cell_regrown q5 d os
                            replace q6 := fun d os => cell_regrown q6 d os
                            replace q7 := fun d os => cell_regrown q7 d os
                            replace p0 := fun d os => cell_regrown p0 d os
                            replace p1 := fun d os => cell_regrown p1 d os
                            replace p2 := fun d os => cell_regrown p2 d os
                            replace p3 := fun d os => cell_regrown p3 d os
                            replace p4 := fun d os => cell_regrown p4 d os
                            replace p5 := fun d os => cell_regrown p5 d os
                            replace p6 := fun d os => cell_regrown p6 d os
                            replace p7 := fun d os => cell_regrown p7 d os
                            go_wp2_with fail
                            refine wp_region_quiet_below (by kernel_rfl) (by kernel_rfl) ?_
                            repeat (go_big_quiet_step ((go_at_call 14; exact Calls.regrown_of (hcall.out _))))
                            refine wpQuiet_nil ?_
                            intro w7 hw7
                            have hb7 := below_of_regrown hw7
                            clear hw7
                            have hz7 := hb7.size
                            go_wp2_with fail
                            go_roundw
                            case rel => exact ⟨j + 1, by go_num, by first | (rw [found_snoc hx'.out, hf.out, hp]; done) | (rw [found_snoc hx'.out, hf.out, hp]; rfl), by omega, hbw.trans (hb7.mono (by omega))⟩
                            case measure => simp [intOf]; omega
                          · replace hp : hitB s y x = false := hp
                            replace hcall := Lib.hid hcall
                            replace q0 := fun d os => cell_regrown q0 d os
                            replace q1 := fun d os => cell_regrown q1 d os
                            replace q2 := fun d os => cell_regrown q2 d os
                            replace q3 := fun d os => cell_regrown q3 d os
                            replace q4 := fun d os => cell_regrown q4 d os
                            replace q5 := fun d os => cell_regrown q5 d os
                            replace q6 := fun d os => cell_regrown q6 d os
                            replace q7 := fun d os => cell_regrown q7 d os
                            replace p0 := fun d os => cell_regrown p0 d os
                            replace p1 := fun d os => cell_regrown p1 d os
                            replace p2 := fun d os => cell_regrown p2 d os
                            replace p3 := fun d os => cell_regrown p3 d os
                            replace p4 := fun d os => cell_regrown p4 d os
                            replace p5 := fun d os => cell_regrown p5 d os
                            replace p6 := fun d os => cell_regrown p6 d os
                            replace p7 := fun d os => cell_regrown p7 d os
                            go_wp2_with fail
                            refine wp_region_quiet_below (by kernel_rfl) (by kernel_rfl) ?_
                            repeat (go_big_quiet_step ((go_at_call 14; exact Calls.regrown_of (hcall.out _))))
                            refine wpQuiet_nil ?_
                            intro w7 hw7
                            have hb7 := below_of_regrown hw7
                            clear hw7
                            have hz7 := hb7.size
                            go_wp2_with fail
                            go_roundw
                            case rel => exact ⟨j + 1, by go_num, by first | (rw [found_snoc hx'.out, hf.out, hp]; done) | (rw [found_snoc hx'.out, hf.out, hp]; rfl), by omega, hbw.trans (hb7.mono (by omega))⟩
                            case measure => simp [intOf]; omega
                        · replace hp : hitB s y x = false := hp
                          replace hcall := Lib.hid hcall
                          replace q0 := fun d os => cell_regrown q0 d os
                          replace q1 := fun d os => cell_regrown q1 d os
                          replace q2 := fun d os => cell_regrown q2 d os
                          replace q3 := fun d os => cell_regrown q3 d os
                          replace q4 := fun d os => cell_regrown q4 d os
                          replace q5 := fun d os => cell_regrown q5 d os
                          replace q6 := fun d os => cell_regrown q6 d os
                          replace q7 := fun d os => cell_regrown q7 d os
                          replace p0 := fun d os => cell_regrown p0 d os
                          replace p1 := fun d os => cell_regrown p1 d os
                          replace p2 := fun d os => cell_regrown p2 d os
                          replace p3 := fun d os => cell_regrown p3 d os
                          replace p4 := fun d os => cell_regrown p4 d os
                          replace p5 := fun d os => cell_regrown p5 d os
                          replace p6 := fun d os => cell_regrown p6 d os
                          replace p7 := fun d os => cell_regrown p7 d os
                          go_wp2_with fail
                          refine wp_region_quiet_below (by kernel_rfl) (by kernel_rfl) ?_
                          repeat (go_big_quiet_step ((go_at_call 14; exact Calls.regrown_of (hcall.out _))))
                          refine wpQuiet_nil ?_
                          intro w7 hw7
                          have hb7 := below_of_regrown hw7
                          clear hw7
                          have hz7 := hb7.size
                          go_wp2_with fail
                          go_roundw
                          case rel => exact ⟨j + 1, by go_num, by first | (rw [found_snoc hx'.out, hf.out, hp]; done) | (rw [found_snoc hx'.out, hf.out, hp]; rfl), by omega, hbw.trans (hb7.mono (by omega))⟩
                          case measure => simp [intOf]; omega
                      · have hp : hitB s y x = false := by unfold hitB goesB; simp; omega
                        have hdf : decide (x.number.1 < s.number.1) = false := by simp; omega
                        replace hxy := Lib.hid hxy
                        replace hcall := Lib.hid hcall
                        replace q0 := fun d os => cell_regrown q0 d os
                        replace q1 := fun d os => cell_regrown q1 d os
                        replace q2 := fun d os => cell_regrown q2 d os
                        replace q3 := fun d os => cell_regrown q3 d os
                        replace q4 := fun d os => cell_regrown q4 d os
                        replace q5 := fun d os => cell_regrown q5 d os
                        replace q6 := fun d os => cell_regrown q6 d os
                        replace q7 := fun d os => cell_regrown q7 d os
                        replace p0 := fun d os => cell_regrown p0 d os
                        replace p1 := fun d os => cell_regrown p1 d os
                        replace p2 := fun d os => cell_regrown p2 d os
                        replace p3 := fun d os => cell_regrown p3 d os
                        replace p4 := fun d os => cell_regrown p4 d os
                        replace p5 := fun d os => cell_regrown p5 d os
                        replace p6 := fun d os => cell_regrown p6 d os
                        replace p7 := fun d os => cell_regrown p7 d os
                        go_wp2_with fail
                        refine wp_region_quiet_below (by kernel_rfl) (by kernel_rfl) ?_
                        repeat (go_big_quiet_step ((go_at_call 14; exact Calls.regrown_of (hcall.out _))))
                        refine wpQuiet_nil ?_
                        intro w7 hw7
                        have hb7 := below_of_regrown hw7
                        clear hw7
                        have hz7 := hb7.size
                        go_wp2_with fail
                        go_roundw
                        case rel => exact ⟨j + 1, by go_num, by first | (rw [found_snoc hx'.out, hf.out, hp]; done) | (rw [found_snoc hx'.out, hf.out, hp]; rfl), by omega, hbw.trans (hb7.mono (by omega))⟩
                        case measure => simp [intOf]; omega
                  · have t1 := str_neq hxy
                    have hp : hitB s y x = false := by unfold hitB; simp [hxy]
                    replace hxy := Lib.hid hxy
                    replace hcall := Lib.hid hcall
                    replace q0 := fun d os => cell_regrown q0 d os
                    replace q1 := fun d os => cell_regrown q1 d os
                    replace q2 := fun d os => cell_regrown q2 d os
                    replace q3 := fun d os => cell_regrown q3 d os
                    replace q4 := fun d os => cell_regrown q4 d os
                    replace q5 := fun d os => cell_regrown q5 d os
                    replace q6 := fun d os => cell_regrown q6 d os
                    replace q7 := fun d os => cell_regrown q7 d os
                    replace p0 := fun d os => cell_regrown p0 d os
                    replace p1 := fun d os => cell_regrown p1 d os
                    replace p2 := fun d os => cell_regrown p2 d os
                    replace p3 := fun d os => cell_regrown p3 d os
                    replace p4 := fun d os => cell_regrown p4 d os
                    replace p5 := fun d os => cell_regrown p5 d os
                    replace p6 := fun d os => cell_regrown p6 d os
                    replace p7 := fun d os => cell_regrown p7 d os
                    go_wp2_with fail
                    refine wp_region_quiet_below (by kernel_rfl) (by kernel_rfl) ?_
                    repeat (go_big_quiet_step ((go_at_call 14; exact Calls.regrown_of (hcall.out _))))
                    refine wpQuiet_nil ?_
                    intro w7 hw7
                    have hb7 := below_of_regrown hw7
                    clear hw7
                    have hz7 := hb7.size
                    go_wp2_with fail
                    go_roundw
                    case rel => exact ⟨j + 1, by go_num, by first | (rw [found_snoc hx'.out, hf.out, hp]; done) | (rw [found_snoc hx'.out, hf.out, hp]; rfl), by omega, hbw.trans (hb7.mono (by omega))⟩
                    case measure => simp [intOf]; omega
                · obtain ⟨b, hp⟩ : ∃ b, hitB s y x = b := ⟨_, rfl⟩
                  replace hcall := Lib.hid hcall
                  replace q0 := fun d os => cell_regrown q0 d os
                  replace q1 := fun d os => cell_regrown q1 d os
                  replace q2 := fun d os => cell_regrown q2 d os
                  replace q3 := fun d os => cell_regrown q3 d os
                  replace q4 := fun d os => cell_regrown q4 d os
                  replace q5 := fun d os => cell_regrown q5 d os
                  replace q6 := fun d os => cell_regrown q6 d os
                  replace q7 := fun d os => cell_regrown q7 d os
                  replace p0 := fun d os => cell_regrown p0 d os
                  replace p1 := fun d os => cell_regrown p1 d os
                  replace p2 := fun d os => cell_regrown p2 d os
                  replace p3 := fun d os => cell_regrown p3 d os
                  replace p4 := fun d os => cell_regrown p4 d os
                  replace p5 := fun d os => cell_regrown p5 d os
                  replace p6 := fun d os => cell_regrown p6 d os
                  replace p7 := fun d os => cell_regrown p7 d os
                  go_wp2_with fail
                  refine wp_region_quiet_below (by kernel_rfl) (by kernel_rfl) ?_
                  repeat (go_big_quiet_step ((go_at_call 14; exact Calls.regrown_of (hcall.out _))))
                  refine wpQuiet_nil ?_
                  intro w7 hw7
                  have hb7 := below_of_regrown hw7
                  clear hw7
                  have hz7 := hb7.size
                  go_wp2_with fail
                  go_roundw
                  case rel => exact ⟨j + 1, by go_num, by first | (rw [found_snoc hx'.out, hf.out, hp]; done) | (rw [found_snoc hx'.out, hf.out, hp]; rfl), by omega, hbw.trans (hb7.mono (by omega))⟩
                  case measure => simp [intOf]; omega
              · obtain rfl : j = l.length := by omega
                rw [found_all hin.out]
                go_wp2_with fail
                go_roundw
                case rel => exact ⟨k + 1, by go_num, by omega, hbw⟩
                case measure => simp [intOf]; omega
          · go_wp2_with (first
              | (go_at_call 17; go_must (refine (rascending_any A1 k1 L _ ((hr1.below hbw (Nat.le_refl _)).more (by omega)) (by omega)).mono ?_; rintro e w8 ⟨b, rfl, hbi, n8, rfl⟩; obtain rfl : b = true := hbi.2 hasc.out))
              | (go_at_call 8; go_must (refine (lives_any _).mono ?_; rintro e w9 ⟨rfl, hb9⟩)))
            go_ret
            exact ⟨rfl, (below_drewN (hb02.trans (hbw.mono (by omega))) _).trans (hb9.mono (by (try simp) <;> omega))⟩
/-- A world for the witness: the settled one, the listed tables holding what their initialisers lay. -/
noncomputable def laidWorld (os : Os) : World :=
  { World.holding Tryd.prog os ⟨#[], #[], []⟩ with heap := layAll Tryd.prog Rows.supersedeKeepsRow.laid (World.holding Tryd.prog os ⟨#[], #[], []⟩).heap }
theorem laid_met (os : Os) : laidMet Tryd.prog Rows.supersedeKeepsRow.laid ((laidWorld os).forCall (fun _ _ => 0) ⟨#[], #[.slice none 0 0, .agg #[.string ByteArray.empty, .string ByteArray.empty, .string ByteArray.empty, .bool false, .string ByteArray.empty, .int .i64 0, .bool false, .bool false]], []⟩).memory :=
  laidMet_of_run' 8 (by kernel_rfl) (by kernel_rfl)
theorem reads (os : Os) {H : Type} (enc : TypeId × Value → H) : ∃ places, DataW.whole enc Tryd.prog ((laidWorld os).forCall (fun _ _ => 0) ⟨#[], #[.slice none 0 0, .agg #[.string ByteArray.empty, .string ByteArray.empty, .string ByteArray.empty, .bool false, .string ByteArray.empty, .int .i64 0, .bool false, .bool false]], []⟩).memory Tryd.f6.params.toList Rows.supersedeKeepsSpec.vars false (#[.slice none 0 0, .agg #[.string ByteArray.empty, .string ByteArray.empty, .string ByteArray.empty, .bool false, .string ByteArray.empty, .int .i64 0, .bool false, .bool false]] : Array Value).toList 8 = some ([.nil, .agg [.lit (.string []), .agg [.lit (.string []), .lit (.string []), .lit (.bool false)], .lit (.string []), .lit (.int .i64 0), .lit (.bool false), .lit (.bool false)]], [], places) :=
  ⟨[], by kernel_rfl⟩

theorem contract (H : Type) (enc : TypeId × Value → H) (W : World) (base : Nat) (args : Array Value) (ds gs : List (DataW H)) (before : List MemPlace)
    (hval : ∀ (j : Nat) t v, Tryd.f6.params[j]? = some t → args[j]? = some v → Value.okWide Tryd.prog W .any base t v)
    (hW : DataW.Whole enc Tryd.prog Tryd.f6.params.toList Rows.supersedeKeepsSpec.vars false W args.toList ds gs before) :
    Calls Tryd.prog 6 args W fun e W' => ∃ v, e = .returned v ∧ Rows.supersedeKeepsSpec.post enc Tryd.prog Tryd.f6 false true false false W args v W' := by
  have hW' := hW
  obtain ⟨p, q, hA0, hV, rfl, hfz, hnd⟩ := hW
  have hA : DataW.TrodAll enc Tryd.prog W 0 (fun _ => true) true Tryd.f6.params.toList args.toList ds p := hA0
  have hA1 := hA
  rw [Tryd.params6] at hA hval
  obtain ⟨rfl, rfl⟩ := trodVars_none hV
  simp only [List.append_nil] at hW'
  have hcall : Calls Tryd.prog 6 args W fun e w' => e = .returned (.bool true) ∧ Below W.heap.size W w' := by
    clear hA0 hV hfz hnd
    obtain ⟨v0, vs0, d0, ds0, p0, q0, hargs, rfl, rfl, h0, r0⟩ := trodAll_cons hA
    obtain ⟨v1, vs1, d1, ds1, p1, q1, rfl, rfl, rfl, h1, r1⟩ := trodAll_cons r0
    obtain ⟨rfl, rfl, rfl⟩ := trodAll_nil r1
    obtain rfl : args = #[v0, v1] := by cases args; simp_all
    obtain ⟨A, l, c, rfl, hlc, hcm, hr⟩ := open_rows sumE_len (by omega) Tryd.underlying22 (by kernel_rfl) sumE_of (hval 0 22 v0 rfl rfl) h0
    obtain ⟨s, rfl⟩ := open_val Tryd.underlying26 sumE_of (hval 1 26 v1 rfl rfl) h1
    unfold maxLen at hcm
    exact walk A c l s W hr (by omega)
  have hds : ds.length = 2 := (trodAll_length hA).1
  refine hcall.mono fun e W' ⟨he, hb⟩ => ?_
  subst he
  refine ⟨_, rfl, law_post hW' rfl hA1 (by kernel_rfl) laidOut Tryd.underlying4 (by kernel_rfl) ?_ hb⟩
  match ds, hds with
  | [_, _], _ => rfl

set_option maxRecDepth 100000 in
theorem lifted (os : Os) (started : os.Started) (H : Type) (enc : TypeId × Value → H) (F : Stop.Interp) :
    ReturnsInHanded {} Tryd.checked os 6 .any ((OpenSpec.ofChange Rows.supersedeKeepsSpec).preRow enc Tryd.prog Tryd.f6 Rows.supersedeKeepsRow.domain false Rows.supersedeKeepsRow.laid) (((OpenSpec.ofChange Rows.supersedeKeepsSpec).at F).post enc Tryd.prog Tryd.f6 false true false false) := by
  obtain ⟨places, hx⟩ := reads os enc
  refine returnsInHanded_of_row (C := Tryd.checked) (s := OpenSpec.ofChange Rows.supersedeKeepsSpec) own started (by kernel_rfl) Tryd.func6
    (witness_row_at (enc := enc) (C := Tryd.checked) false (laidWorld os) #[.slice none 0 0, .agg #[.string ByteArray.empty, .string ByteArray.empty, .string ByteArray.empty, .bool false, .string ByteArray.empty, .int .i64 0, .bool false, .bool false]] rfl (by kernel_rfl) (by kernel_rfl) (by kernel_rfl)
      (OpenSpec.preRow_of_cond 8 hx (by kernel_rfl) (fun k hk => by cases hk) (by kernel_rfl) (laid_met os))) ?_
  intro W base args ds gs before hval hW _ _ _ _ _ _
  exact contract H enc W base args ds gs before hval hW

theorem said : Rows.SupersedeKeepsSaid :=
  OpenClaim.holds_of_cond 6 Tryd.f6 rfl rfl rfl rfl rfl rfl rfl ⟨rfl, rfl, rfl, rfl, rfl⟩ rfl rfl rfl rfl rfl (by kernel_rfl) Tryd.func6 (by kernel_rfl)
    (of_decide_eq_true (by kernel_rfl)) (by unfold Func.isWrapper; first | (rw [if_pos (by decide +kernel)]; kernel_rfl) | (rw [if_neg (by decide +kernel)]; exact ⟨rfl, rfl⟩))
    (fun os started H enc _ F => by rw [OpenClaim.pre_eq_preRow]; exact lifted os started H enc F)

theorem plain (f : FuncId) (fn : Func) (hf : Tryd.pinned.checked.prog.funcNamed Rows.supersedeKeepsRow.func = some f) (hfn : Tryd.pinned.checked.prog.funcs[f]? = some fn) :
    false = Tryd.pinned.checked.prog.looks [] ∧ ∀ (j : Nat) t, fn.params[j]? = some t → Tryd.pinned.checked.prog.wantsStandIn t = false := by
  obtain rfl : f = 6 := Option.some.inj ((show Tryd.prog.funcNamed Rows.supersedeKeepsRow.func = some 6 by kernel_rfl).symm.trans hf) |>.symm
  obtain rfl : fn = Tryd.f6 := (Option.some.inj (Tryd.func6.symm.trans hfn)).symm
  refine ⟨by kernel_rfl, fun j t ht => ?_⟩
  have hall : (Tryd.f6.params.toList.all fun t => !(Tryd.pinned.checked.prog.wantsStandIn t)) = true := by kernel_rfl
  have hm : t ∈ Tryd.f6.params.toList := Array.mem_toList_iff.2 (Array.mem_of_getElem? ht)
  simpa using List.all_eq_true.1 hall t hm

theorem proved : Rows.SupersedeKeepsCardSaid :=
  Claim7.holds_tied_plain_at .later [] _ _ _ _ said (fun _ h => by cases h) (by kernel_rfl) (fun _ h => by cases h) supersedeKeeps_row_tie rfl ⟨rfl, rfl⟩ (by kernel_rfl) rfl plain (by kernel_rfl)
#print axioms proved
end Go.Proofs.YtfbnihemoaknjaaDoor.supersedeKeeps
