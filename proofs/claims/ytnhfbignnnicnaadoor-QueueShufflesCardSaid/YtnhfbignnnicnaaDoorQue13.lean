/-
  The walk of the queue's laws' example.
-/
import Derived.Test.YtnhfbignnnicnaaDoorQue12



namespace Go.Proofs.YtnhfbignnnicnaaDoor
open Go.RowKit

theorem findI_core {r j : Str} {l m : List Pend} (h : l.map core = m.map core) : findI r j l = findI r j m := by
  have e : ∀ l : List Pend, l.findIdx (isRef r j) = (l.map core).findIdx (isRef r j) := fun l => by rw [List.findIdx_map]; rfl
  have hl : l.length = m.length := by simpa using congrArg List.length h
  unfold findI
  rw [e l, e m, h, hl]
theorem pushE_core {p : Pend} {l m : List Pend} (h : l.map core = m.map core) : pushE l p = pushE m p := by
  have hl : l.length = m.length := by simpa using congrArg List.length h
  unfold pushE
  rw [findI_core h, hl]

theorem short_labs {p : Pend} (h : shortB p = true) : p.labs.length ≤ 40 := by
  unfold shortB at h
  simp only [Bool.and_eq_true, decide_eq_true_eq] at h
  omega
theorem few_bounds {l : List Pend} (h : fewB l = true) : l.length ≤ 30 ∧ sumL l := by
  unfold fewB at h
  rw [Bool.and_eq_true, decide_eq_true_eq, List.all_eq_true] at h
  exact ⟨h.2, fun x hx => short_labs (h.1 x hx)⟩
abbrev jA : Pend := jobP ⟨⟨#[97]⟩, by decide⟩ ⟨9, by omega⟩ ⟨5400000, by omega⟩
abbrev jB : Pend := jobP ⟨⟨#[98]⟩, by decide⟩ ⟨0, by omega⟩ ⟨0, by omega⟩
abbrev jC : Pend := jobP ⟨⟨#[99]⟩, by decide⟩ ⟨2, by omega⟩ ⟨0, by omega⟩
theorem lab_job (s : Str) (a b : I64) (w : World) : LabPend w w.heap.size (jobP s a b) := ⟨Nat.le_refl _, Nat.zero_le _, Rw.nil⟩
theorem ex_push1 : pushE [] jA = 0 := by decide +kernel
theorem ex_push2 : pushE [jA] jB = 0 := by decide +kernel
theorem ex_order {l' : List Pend} (h : StableOf (cfP 5400000) [core jA, core jB] l') : l' = [core jB, core jA] := by
  refine h.unique (cfP_pre _) ⟨[(core jB, 1), (core jA, 0)], rfl, List.Perm.swap _ _ _, ?_⟩
  rw [List.pairwise_cons]
  refine ⟨fun a ha => ?_, List.pairwise_singleton _ _⟩
  obtain rfl : a = (core jA, 0) := by simpa using ha
  have : cfP 5400000 (core jB) (core jA) = -1 := by decide +kernel
  unfold lt2
  rw [this]; rfl
theorem ex_rank : rankS jC 119999 = 21 := by decide +kernel

theorem ex_job (c : UInt8) (p s : Int) (hp : 0 ≤ p ∧ p ≤ 9) (hs : 0 ≤ s ∧ s ≤ 9000000) (w : World) : Calls Tryd.prog 17 #[.string ⟨#[c]⟩, .int .i64 p, .int .i64 s] w fun e w' => e = .returned (.agg #[.string ⟨#[114]⟩, .string ⟨#[c]⟩, .string ⟨#[112]⟩, .int .i64 p, .int .i64 s, .int .i64 1, .slice none 0 0, .int .i64 0, .string ⟨#[]⟩, .int .i64 0]) ∧ Below w.heap.size w w' :=
  job_any ⟨⟨#[c]⟩, by show (1 : Nat) ≤ _; omega⟩ ⟨p, by omega⟩ ⟨s, by omega⟩ w
theorem ex_one {l : List Pend} {p : Pend} (h : l.map core = [core p]) : ∃ a, l = [a] ∧ core a = core p := by
  rcases l with _ | ⟨a, _ | ⟨b, l⟩⟩
  · simp at h
  · exact ⟨a, rfl, by simpa using h⟩
  · simp at h
theorem ex_two {l : List Pend} {p q : Pend} (h : l.map core = [core p, core q]) : ∃ a b, l = [a, b] ∧ core a = core p ∧ core b = core q := by
  rcases l with _ | ⟨a, _ | ⟨b, _ | ⟨d, l⟩⟩⟩
  · simp at h
  · simp at h
  · simp only [List.map_cons, List.map_nil, List.cons.injEq, and_true] at h
    exact ⟨a, b, rfl, h.1, h.2⟩
  · simp at h
set_option maxRecDepth 100000 in
set_option maxHeartbeats 4000000 in
theorem awake_any (w : World) :
    Calls Tryd.prog 13 #[] w fun e w' => e = .returned (.bool true) ∧ Below w.heap.size w w' := by
  have h1 : Hid (∀ W, Calls Tryd.prog 14 #[.slice none 0 0, .agg #[.string ⟨#[114]⟩, .string ⟨#[97]⟩, .string ⟨#[112]⟩, .int .i64 9, .int .i64 5400000, .int .i64 1, .slice none 0 0, .int .i64 0, .string ⟨#[]⟩, .int .i64 0]] W fun e w' => ∃ A a c, e = .returned (.tuple #[.slice A 1 c, .int .i64 0]) ∧ RwL w' w'.heap.size A [a] ∧ core a = core jA ∧ Below W.heap.size W w') := Lib.hid fun W => by
    refine (push_any none 0 [] jA W RwL.nil (lab_job _ _ _ W) (by simp) (fun x hx => absurd hx (by simp)) (by simp [jobP])).mono ?_
    rintro e w1 ⟨A, l, c, rfl, hr, hl, hb⟩
    rw [pushL_ok ex_push1] at hl
    obtain ⟨a, rfl, ha⟩ := ex_one hl
    exact ⟨A, a, c, by first | (rw [ex_push1]; done) | (rw [ex_push1]; rfl), hr, ha, hb⟩
  have h2 : Hid (∀ W A a c, RwL W W.heap.size A [a] → core a = core jA → Calls Tryd.prog 14 #[.slice A 1 c, .agg #[.string ⟨#[114]⟩, .string ⟨#[98]⟩, .string ⟨#[112]⟩, .int .i64 0, .int .i64 0, .int .i64 1, .slice none 0 0, .int .i64 0, .string ⟨#[]⟩, .int .i64 0]] W fun e w' => ∃ A a b c, e = .returned (.tuple #[.slice A 2 c, .int .i64 0]) ∧ RwL w' w'.heap.size A [a, b] ∧ core a = core jA ∧ core b = core jB ∧ Below W.heap.size W w') := Lib.hid fun W A a c hr ha => by
    have hc : [a].map core = [jA].map core := by simp [ha]
    refine (push_any A c [a] jB W hr (lab_job _ _ _ W) (by simp) (sumL_core hc (fun x hx => by obtain rfl : x = jA := (by simpa using hx); simp [jobP])) (by simp [jobP])).mono ?_
    rintro e w1 ⟨A, l, c, rfl, hr, hl, hb⟩
    have hp : pushE [a] jB = 0 := (pushE_core hc).trans ex_push2
    rw [pushL_ok hp] at hl
    obtain ⟨a', b', rfl, ha', hb'⟩ := ex_two (l := l) (p := a) (q := jB) hl
    exact ⟨A, a', b', c, by first | (rw [hp]; done) | (rw [hp]; rfl), hr, ha'.trans ha, hb', hb⟩
  have h3 : Hid (∀ W A a b c, RwL W W.heap.size A [a, b] → core a = core jA → core b = core jB → Calls Tryd.prog 20 #[.slice A 2 c, .int .i64 5400000] W fun e w' => ∃ g o c, e = .returned (.slice (some ⟨g, o, none⟩) 2 c) ∧ w'.cell? ⟨g, o + 1, none⟩ = some (.string ⟨#[98]⟩) ∧ g < w'.heap.size ∧ Below W.heap.size W w') := Lib.hid fun W A a b c hr ha hb => by
    have hc : [a, b].map core = [jA, jB].map core := by simp [ha, hb]
    refine (orderq_any A c [a, b] ⟨5400000, by omega⟩ W hr (by simp) (sumL_core hc (fun x hx => by
      rcases List.mem_cons.1 hx with rfl | hx
      · simp [jobP]
      · obtain rfl : x = jB := by simpa using hx
        simp [jobP]))).mono ?_
    rintro e w1 ⟨A, l, c, rfl, hr, hst, hb⟩
    rw [hc] at hst
    have hl := ex_order hst
    obtain ⟨x, y, rfl, hx, hy⟩ := ex_two (l := l) (p := jB) (q := jA) hl
    obtain ⟨g, o, rfl, hg, hcell⟩ := hr.row (by simp)
    refine ⟨g, o, c, rfl, ?_, hg, hb⟩
    have := hcell 0 x rfl 1 (.string x.job.1) rfl
    rw [Nat.zero_mul, Nat.add_zero] at this
    rw [this]
    have hj : (core x).job = (core jB).job := by rw [hx]
    rw [show x.job = jB.job from hj]
    rfl
  have h4 : Hid (∀ W, Calls Tryd.prog 18 #[.agg #[.string ⟨#[114]⟩, .string ⟨#[99]⟩, .string ⟨#[112]⟩, .int .i64 2, .int .i64 0, .int .i64 1, .slice none 0 0, .int .i64 0, .string ⟨#[]⟩, .int .i64 0], .int .i64 119999] W fun e w' => e = .returned (.int .i64 21) ∧ Below W.heap.size W w') := Lib.hid fun W => by
    refine (rank_any jC ⟨119999, by omega⟩ W).mono ?_
    rintro e w1 ⟨rfl, rfl⟩
    exact ⟨by rw [ex_rank], (Below.refl _ _).alloc (Nat.le_refl _) _⟩
  have j1 : Hid (∀ W, Calls Tryd.prog 17 #[.string ⟨#[97]⟩, .int .i64 9, .int .i64 5400000] W fun e w' => e = .returned (.agg #[.string ⟨#[114]⟩, .string ⟨#[97]⟩, .string ⟨#[112]⟩, .int .i64 9, .int .i64 5400000, .int .i64 1, .slice none 0 0, .int .i64 0, .string ⟨#[]⟩, .int .i64 0]) ∧ Below W.heap.size W w') := Lib.hid fun W => ex_job 97 9 5400000 (by omega) (by omega) W
  have j2 : Hid (∀ W, Calls Tryd.prog 17 #[.string ⟨#[98]⟩, .int .i64 0, .int .i64 0] W fun e w' => e = .returned (.agg #[.string ⟨#[114]⟩, .string ⟨#[98]⟩, .string ⟨#[112]⟩, .int .i64 0, .int .i64 0, .int .i64 1, .slice none 0 0, .int .i64 0, .string ⟨#[]⟩, .int .i64 0]) ∧ Below W.heap.size W w') := Lib.hid fun W => ex_job 98 0 0 (by omega) (by omega) W
  have j3 : Hid (∀ W, Calls Tryd.prog 17 #[.string ⟨#[99]⟩, .int .i64 2, .int .i64 0] W fun e w' => e = .returned (.agg #[.string ⟨#[114]⟩, .string ⟨#[99]⟩, .string ⟨#[112]⟩, .int .i64 2, .int .i64 0, .int .i64 1, .slice none 0 0, .int .i64 0, .string ⟨#[]⟩, .int .i64 0]) ∧ Below W.heap.size W w') := Lib.hid fun W => ex_job 99 2 0 (by omega) (by omega) W
  go_enter Tryd.func13, Tryd.ntmps13
  go_wp2_with (first
    | (go_at_call 17; with_reducible refine (j1.out _).mono ?_; rintro e w7 ⟨rfl, hb7⟩; have hz7 := hb7.size)
    | (go_at_call 17; with_reducible refine (j2.out _).mono ?_; rintro e w9 ⟨rfl, hb9⟩; have hz9 := hb9.size)
    | (go_at_call 17; with_reducible refine (j3.out _).mono ?_; rintro e w8 ⟨rfl, hb8⟩; have hz8 := hb8.size)
    | (go_at_call 14; with_reducible refine (h1.out _).mono ?_; rintro e w1 ⟨A1, a1, c1, rfl, hr1, ha1, hb1⟩; have hz1 := hb1.size)
    | (go_at_call 14; with_reducible refine (h2.out _ A1 a1 c1 ((hr1.below hb9 (Nat.le_refl _)).more hz9) ha1).mono ?_; rintro e w2 ⟨A2, a2, b2, c2, rfl, hr2, ha2, hbb2, hb2⟩; have hz2 := hb2.size)
    | (go_at_call 20; go_must (refine (h3.out _ A2 a2 b2 c2 hr2 ha2 hbb2).mono ?_; rintro e w3 ⟨g3, o3, c3, rfl, hq3, hg3, hb3⟩; have hz3 := hb3.size))
    | (go_at_call 18; go_must (refine (h4.out _).mono ?_; rintro e w4 ⟨rfl, hb4⟩; have hz4 := hb4.size)))
  go_ret
  exact ⟨rfl, (by repeat (first | (with_reducible exact Below.refl _ _) | (with_reducible refine Below.drew ?_) | (with_reducible refine below_drewN ?_ _) | ((with_reducible refine Below.alloc ?_ ?_ _); rotate_left; focus ((try simp) <;> omega)) | ((with_reducible refine Below.setCell ?_ ?_ _); rotate_left; focus ((try simp) <;> omega)) | ((with_reducible refine Below.trans ?_ (Below.mono (by assumption) ?_)); rotate_left; focus ((try simp) <;> omega))))⟩
end Go.Proofs.YtnhfbignnnicnaaDoor
