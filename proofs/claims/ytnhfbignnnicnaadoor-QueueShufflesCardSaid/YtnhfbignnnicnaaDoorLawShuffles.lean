/-
  QueueShuffles: for every queue (of at most 30 jobs, with short texts) without two jobs of the same reference, and every time, the jobs in order are the same for the queue in reverse, and each is one of the queue; the example holds. No condition.
-/
import Derived.Test.YtnhfbignnnicnaaDoorQue13
import Derived.Test.YtnhfbignnnicnaaDoorLayTab




namespace Go.Proofs.YtnhfbignnnicnaaDoor.queueShuffles
open Go.ChangeShapes Go.WideShapes Go.ChangeAt Go.RowKit Go.Joins
theorem own : ownKnob Tryd.prog.godebug = none := by kernel_rfl
theorem laidOut : laidOutB Tryd.prog = true := by kernel_rfl

/-! ### Plain laws -/
/-- No two jobs of the same reference: each is the first of its own. -/
def Uni (l : List Pend) : Prop := ∀ (s : Nat) (x : Pend), l[s]? = some x → findI x.run x.job l = (s : Int)
theorem refB_eq {a b : Pend} (h : isRef b.run b.job a = true) : a.run = b.run ∧ a.job = b.job := by
  unfold isRef refB at h
  rw [Bool.and_eq_true, beq_iff_eq, beq_iff_eq] at h
  exact ⟨Subtype.ext (toList_inj h.1), Subtype.ext (toList_inj h.2)⟩
theorem uni_cf {l : List Pend} (h : Uni l) (now : Int) : l.Pairwise fun x y => cfP now x y ≠ 0 := by
  rw [List.pairwise_iff_getElem]
  intro i j hi hj hij e
  have h1 := h i _ (List.getElem?_eq_getElem hi)
  have h2 := h j _ (List.getElem?_eq_getElem hj)
  have hz : cmpS l[i].run l[j].run = 0 ∧ cmpS l[i].job l[j].job = 0 := by
    unfold cfP at e
    simp only [orI] at e
    by_cases e1 : Id.cmpI (rankS l[j] now) (rankS l[i] now) = 0
    · rw [if_neg (by omega)] at e
      by_cases e2 : Id.cmpI l[i].since.1 l[j].since.1 = 0
      · rw [if_neg (by omega)] at e
        by_cases e3 : cmpS l[i].run l[j].run = 0
        · rw [if_neg (by omega)] at e
          by_cases e4 : cmpS l[i].job l[j].job = 0
          · exact ⟨e3, e4⟩
          · rw [if_pos e4] at e; exact absurd e e4
        · rw [if_pos e3] at e; exact absurd e e3
      · rw [if_pos e2] at e; exact absurd e e2
    · rw [if_pos e1] at e; exact absurd e e1
  rw [(ord_str.zero _ _).1 hz.1, (ord_str.zero _ _).1 hz.2, h2] at h1
  omega
theorem shuffle_same {now : Int} {l a b : List Pend} (h : Uni l) (ha : StableOf (cfP now) (l.map core) (a.map core)) (hb : StableOf (cfP now) (l.reverse.map core) (b.map core)) : a.map core = b.map core := by
  have hne : (l.map core).Pairwise fun x y => cfP now x y ≠ 0 := by rw [List.pairwise_map]; exact uni_cf h now
  have sym : ∀ {x y : Pend}, cfP now x y ≠ 0 → cfP now y x ≠ 0 := fun {x y} k => by rw [(cfP_pre now).neg x y]; omega
  have hp : (l.reverse.map core).Perm (l.map core) := (List.reverse_perm l).map core
  have st : ∀ {o : List Pend}, o.Perm (l.map core) → (o.Pairwise fun x y => cfP now x y ≤ 0) → o.Pairwise fun x y => cfP now x y < 0 := fun {o} p s => by
    have h2 := (p.pairwise_iff sym).2 hne
    exact (s.and h2).imp fun {x y} k => by omega
  refine strict_unique (R := fun x y => cfP now x y < 0) (fun x y h1 h2 => by rw [(cfP_pre now).neg x y] at h2; omega) (st ha.perm ha.sorted) (st (hb.perm.trans hp) hb.sorted) fun x => ?_
  rw [ha.perm.mem_iff, (hb.perm.trans hp).mem_iff]
/-- Each job of the queue is found in the order, as it was. -/
theorem shuffle_find {now : Int} {l a : List Pend} (h : Uni l) (ha : StableOf (cfP now) (l.map core) (a.map core)) {i : Nat} {x : Pend} (hx : l[i]? = some x) : ∃ (k : Nat) (z : Pend), findI x.run x.job a = k ∧ a[k]? = some z ∧ sameJ z x = true := by
  have hm : core x ∈ a.map core := (ha.perm.mem_iff).2 (List.mem_map_of_mem (List.mem_of_getElem? hx))
  obtain ⟨y, hy, hyx⟩ := List.mem_map.1 hm
  have hyr : isRef x.run x.job y = true := by
    have h1 : (core y).run = (core x).run := by rw [hyx]
    have h2 : (core y).job = (core x).job := by rw [hyx]
    have h1' : y.run = x.run := h1
    have h2' : y.job = x.job := h2
    unfold isRef refB
    rw [h1', h2']; simp
  have hlt : a.findIdx (isRef x.run x.job) < a.length := List.findIdx_lt_length.2 ⟨y, hy, hyr⟩
  obtain ⟨k, hk⟩ : ∃ k, a.findIdx (isRef x.run x.job) = k := ⟨_, rfl⟩
  rw [hk] at hlt
  have hz : isRef x.run x.job a[k] = true := by
    have := List.findIdx_getElem (xs := a) (p := isRef x.run x.job) (w := by rw [hk]; exact hlt)
    simpa only [hk] using this
  refine ⟨k, a[k], by unfold findI; rw [hk, if_pos hlt], List.getElem?_eq_getElem hlt, ?_⟩
  have hm2 : core a[k] ∈ l.map core := (ha.perm.mem_iff).1 (List.mem_map_of_mem (List.getElem_mem _))
  obtain ⟨u, hu, huz⟩ := List.mem_map.1 hm2
  obtain ⟨s, hs, rfl⟩ := List.mem_iff_getElem.1 hu
  obtain ⟨r1, r2⟩ := refB_eq hz
  have q1 : (core l[s]).run = (core a[k]).run := by rw [huz]
  have q2 : (core l[s]).job = (core a[k]).job := by rw [huz]
  have q1' : l[s].run = x.run := (show l[s].run = a[k].run from q1).trans r1
  have q2' : l[s].job = x.job := (show l[s].job = a[k].job from q2).trans r2
  have hs2 := h s _ (List.getElem?_eq_getElem hs)
  rw [q1', q2', h i x hx] at hs2
  have e : l[s] = x := by
    have hi := (List.getElem?_eq_some_iff.1 hx).1
    have : s = i := by omega
    subst this
    exact (List.getElem?_eq_some_iff.1 hx).2
  exact sameJ_core (by rw [← huz, e])

set_option maxRecDepth 100000 in
set_option maxHeartbeats 8000000 in
theorem walk (A : Option Addr) (c : Nat) (l : List Pend) (now : I64) (w : World) (hr : RwL w w.heap.size A l) (hm : l.length ≤ 9223372036854775807) :
    Calls Tryd.prog 7 #[.slice A l.length c, .int .i64 now.1] w fun e w' => e = .returned (.bool true) ∧ Below w.heap.size w w' := by
  rcases hf : fewB l with _ | _
  · go_enter Tryd.func7, Tryd.ntmps7
    go_wp2_with (first
      | (go_at_call 11; go_must (refine (few_any A c l _ ((hr.row.below (Below.refl _ _) (Nat.le_refl _)).more (by (try simp) <;> omega)) hm).mono ?_; rw [hf]; rintro e w1 ⟨rfl, hb1⟩; have hz1 := hb1.size; (try simp at hz1)))
      | (go_at_call 13; go_must (refine (awake_any _).mono ?_; rintro e w9 ⟨rfl, hb9⟩)))
    go_ret
    exact ⟨rfl, (by repeat (first | (with_reducible exact Below.refl _ _) | (with_reducible refine Below.drew ?_) | (with_reducible refine below_drewN ?_ _) | ((with_reducible refine Below.alloc ?_ ?_ _); rotate_left; focus ((try simp) <;> omega)) | ((with_reducible refine Below.setCell ?_ ?_ _); rotate_left; focus ((try simp) <;> omega)) | ((with_reducible refine Below.trans ?_ (Below.mono (by assumption) ?_)); rotate_left; focus ((try simp) <;> omega))))⟩
  · obtain ⟨h30, hl40⟩ := few_bounds hf
    obtain ⟨inf, hi0, iz0, iz1, iz2⟩ := info_parts pend_info
    go_enter Tryd.func7, Tryd.ntmps7
    go_wp2_with (first
      | (go_at_call 11; go_must (refine (few_any A c l _ ((hr.row.below (Below.refl _ _) (Nat.le_refl _)).more (by (try simp) <;> omega)) hm).mono ?_; rw [hf]; rintro e w1 ⟨rfl, hb1⟩; have hz1 := hb1.size; (try simp at hz1))))
    have hbw1 : Below w.heap.size w w1 := (by repeat (first | (with_reducible exact Below.refl _ _) | (with_reducible refine Below.drew ?_) | (with_reducible refine below_drewN ?_ _) | ((with_reducible refine Below.alloc ?_ ?_ _); rotate_left; focus ((try simp) <;> omega)) | ((with_reducible refine Below.setCell ?_ ?_ _); rotate_left; focus ((try simp) <;> omega)) | ((with_reducible refine Below.trans ?_ (Below.mono (by assumption) ?_)); rotate_left; focus ((try simp) <;> omega))))
    obtain ⟨B, hB⟩ : ∃ B, w.heap.size = B := ⟨_, rfl⟩
    rw [hB] at hr hbw1 hz1
    have hB2 := Nat.le_of_eq hB
    have hB3 := Nat.le_of_eq hB.symm
    replace hr := Lib.hid hr
    clear hb1
    go_loopw [5, 6] (fun vo vi wr => ∃ (t : Nat) (i : Int), vi = .int .i64 i ∧ i = (t : Int) - 1 ∧ t ≤ l.length ∧ Own pendE 10 27 wr B vo (l.drop t).reverse ∧ (∀ (s : Nat) (x : Pend), t ≤ s → l[s]? = some x → findI x.run x.job l = (s : Int)) ∧ Below B w wr) (fun _ vi _ => (intOf vi + 1).toNat)
    case atStart =>
      refine ⟨l.length, (l.length : Int) - 1, by first | rfl | go_num, rfl, Nat.le_refl _, ?_, ?_, hbw1⟩
      · rw [List.drop_length]; exact Own.nil _ _ _
      · intro s x hs hx
        rw [List.getElem?_eq_none hs] at hx; cases hx
    case round =>
      obtain ⟨t, i, rfl, hi, ht, hown, huni, hbw⟩ := hrel
      have hz := hbw.size
      replace huni := Lib.hid huni
      rcases Nat.eq_zero_or_pos t with h0 | h0
      · subst h0
        obtain rfl : i = -1 := by omega
        clear hi
        have hU : Hid (Uni l) := Lib.hid fun s x hx => huni.out s x (Nat.zero_le _) hx
        clear huni
        rw [List.drop_zero] at hown
        obtain ⟨A5, c5, rfl, _, _, _⟩ := hown.form
        have hrv : RwL wr wr.heap.size A5 l.reverse := ⟨hown.reads pendE_len, fun x hx => ((hr.out.labs x (List.mem_reverse.1 hx)).below hbw (Nat.le_refl _)).more (by omega)⟩
        have h1 : Hid (∀ W, Below wr.heap.size wr W → _) := Lib.hid fun W hb => orderq_any A c l now W (((hr.out.below hbw (Nat.le_refl _)).below hb (by omega)).more (by have := hb.size; omega)) (by omega) hl40
        have h2 := fun W (hb : Below wr.heap.size wr W) => orderq_any A5 c5 l.reverse now W ((hrv.below hb (Nat.le_refl _)).more hb.size) (by simp; omega) (fun x hx => hl40 x (List.mem_reverse.1 hx))
        simp only [List.length_reverse] at h2
        replace h2 := Lib.hid h2
        replace hrv := Lib.hid hrv
        clear hown
        have hplain : Hid (∀ a b : List Pend, StableOf (cfP now.1) (l.map core) (a.map core) → StableOf (cfP now.1) (l.reverse.map core) (b.map core) → sameQ a b = true ∧ ((a.length : Int) != (l.length : Int)) = false ∧ a.length ≤ 30 ∧ b.length ≤ 30) := Lib.hid fun a b ha hb => ⟨sameQ_core (shuffle_same hU.out ha hb), by have := ha.perm.length_eq; simp at this; rw [this]; simp, by have := ha.perm.length_eq; simp at this; omega, by have := hb.perm.length_eq; simp at this; omega⟩
        go_wp2_with (first
          | (go_at_call 20; with_reducible refine (h1.out _ (by repeat (first | (with_reducible exact Below.refl _ _) | (with_reducible refine Below.drew ?_) | (with_reducible refine below_drewN ?_ _) | ((with_reducible refine Below.alloc ?_ ?_ _); rotate_left; focus ((try simp) <;> omega)) | ((with_reducible refine Below.setCell ?_ ?_ _); rotate_left; focus ((try simp) <;> omega)) | ((with_reducible refine Below.trans ?_ (Below.mono (by assumption) ?_)); rotate_left; focus ((try simp) <;> omega))))).mono ?_; rintro e w3 ⟨A3, l3, c3, rfl, hr3, hs3, hb3⟩; have hz3 := hb3.size; replace hs3 := Lib.hid hs3; replace hr3 := Lib.hid hr3)
          | (go_at_call 20; with_reducible refine (h2.out _ (by repeat (first | (with_reducible exact Below.refl _ _) | (with_reducible refine Below.drew ?_) | (with_reducible refine below_drewN ?_ _) | ((with_reducible refine Below.alloc ?_ ?_ _); rotate_left; focus ((try simp) <;> omega)) | ((with_reducible refine Below.setCell ?_ ?_ _); rotate_left; focus ((try simp) <;> omega)) | ((with_reducible refine Below.trans ?_ (Below.mono (by assumption) ?_)); rotate_left; focus ((try simp) <;> omega))))).mono ?_; rintro e w4 ⟨A4, l4, c4, rfl, hr4, hs4, hb4⟩; have hz4 := hb4.size; obtain ⟨hsq, hne, hn3, hn4⟩ := hplain.out l3 l4 hs3.out hs4; clear hs4; replace hsq := Lib.hid hsq; replace hr4 := Lib.hid hr4)
          | (go_at_call 16; go_must (refine (samequeue_any A3 A4 c3 c4 l3 l4 _ ((hr3.out.below hb4 (Nat.le_refl _)).more hz4) hr4.out (by omega) (by omega)).mono ?_; rw [hsq.out]; rintro e w5 ⟨rfl, hb5⟩; have hz5 := hb5.size)))
        have hbw5 : Below B w w5 := (by repeat (first | (with_reducible exact Below.refl _ _) | (with_reducible refine Below.drew ?_) | (with_reducible refine below_drewN ?_ _) | ((with_reducible refine Below.alloc ?_ ?_ _); rotate_left; focus ((try simp) <;> omega)) | ((with_reducible refine Below.setCell ?_ ?_ _); rotate_left; focus ((try simp) <;> omega)) | ((with_reducible refine Below.trans ?_ (Below.mono (by assumption) ?_)); rotate_left; focus ((try simp) <;> omega))))
        have hz0 := hbw5.size
        have hr35 : Hid (RwL w5 w5.heap.size A3 l3) := Lib.hid (((hr3.out.below (hb4.mono (by omega)) (Nat.le_refl _)).below (hb5.mono (by omega)) (Nat.le_refl _)).more (by omega))
        clear hr3 hr4 hsq hne hplain h1 h2 hrv
        go_loopw [9, 10] (fun vi _ wq => ∃ i : Nat, vi = .int .i64 (i : Int) ∧ i ≤ l.length ∧ Below w5.heap.size w5 wq) (fun vi _ _ => l.length - (intOf vi).toNat)
        case atStart => exact ⟨0, rfl, Nat.zero_le _, Below.refl _ _⟩
        case round =>
          obtain ⟨i, rfl, hi, hb6⟩ := hrel
          have hz6 := hb6.size
          have hbw6 : Below B w wr := hbw5.trans (hb6.mono (by omega))
          by_cases hil : i < l.length
          · have i0 : (0 : Int) ≤ (i : Int) := by omega
            have i1 : (i : Int) < (l.length : Int) := by omega
            obtain ⟨x, hx⟩ := get_some hil
            obtain ⟨k, z, hk, hzk, hsame⟩ := shuffle_find hU.out hs3.out hx
            have hkl : k < l3.length := (List.getElem?_eq_some_iff.1 hzk).1
            have k0 : (0 : Int) ≤ (k : Int) := by omega
            have k1 : (k : Int) < (l3.length : Int) := by omega
            have kd : decide ((k : Int) < 0) = false := decide_eq_false (by omega)
            have kn : ¬ (k : Int) < 0 := by omega
            obtain ⟨g, o, rfl, hg, q⟩ := hr.out.row (by omega)
            obtain ⟨g3, o3, rfl, hg3, p⟩ := hr35.out.row (by omega)
            replace q := fun j u hu => (hbw6.cell (p := ⟨g, o + i * 10 + j, none⟩) hg).trans (q i x hx j u hu)
            replace p := fun j u hu => (hb6.cell (p := ⟨g3, o3 + k * 10 + j, none⟩) hg3).trans (p k z hzk j u hu)
            have Q : Hid (∀ j u, (pendE x)[j]? = some u → wr.cell? ⟨g, o + i * 10 + j, none⟩ = some u) := Lib.hid q
            have Pz : Hid (∀ j u, (pendE z)[j]? = some u → wr.cell? ⟨g3, o3 + k * 10 + j, none⟩ = some u) := Lib.hid p
            clear p
            have q0 := q 0 (.string x.run.1) rfl
            try rw [Nat.add_zero] at q0
            have q1 := q 1 (.string x.job.1) rfl
            clear q
            have lx : Hid (∀ W, Below wr.heap.size wr W → LabPend W W.heap.size x) := Lib.hid fun W hb => (((hr.out.labs x (List.mem_of_getElem? hx)).below hbw6 (Nat.le_refl _)).below hb (by omega)).more (by have := hb.size; omega)
            have lz : Hid (∀ W, Below wr.heap.size wr W → LabPend W W.heap.size z) := Lib.hid fun W hb => (((hr35.out.labs z (List.mem_of_getElem? hzk)).below hb6 (Nat.le_refl _)).below hb (by omega)).more (by have := hb.size; omega)
            have hfd : Hid (∀ W, W = wr → Calls Tryd.prog 22 #[.slice (some ⟨g3, o3, none⟩) l3.length c3, .agg #[.string x.run.1, .string x.job.1]] W fun e w' => e = .returned (.int .i64 (k : Int)) ∧ Below W.heap.size W w') := Lib.hid fun W e => by
              subst e
              rw [← hk]
              exact find_any _ c3 l3 x.run x.job W ((hr35.out.row.below hb6 (Nat.le_refl _)).more hz6) (by omega)
            have hsj : Hid (∀ W, Below wr.heap.size wr W → Calls Tryd.prog 23 #[.agg #[.string z.run.1, .string z.job.1, .string z.proj.1, .int .i64 z.prio.1, .int .i64 z.since.1, .int .i64 z.cost.1, .slice z.labsA z.labs.length z.labsC, .int .i64 z.trust.1, .string z.group.1, .int .i64 z.policy.1], .agg #[.string x.run.1, .string x.job.1, .string x.proj.1, .int .i64 x.prio.1, .int .i64 x.since.1, .int .i64 x.cost.1, .slice x.labsA x.labs.length x.labsC, .int .i64 x.trust.1, .string x.group.1, .int .i64 x.policy.1]] W fun e w' => e = .returned (.bool true) ∧ Below W.heap.size W w') := Lib.hid fun W hb => by
              rw [← hsame]
              exact samejob_any z x W (lz.out W hb) (lx.out W hb)
            clear hk hzk hsame hx
            go_wp2_with (first
              | (go_at_call 22; go_must (refine (hfd.out _ rfl).mono ?_; rintro e w7 ⟨rfl, hb7⟩; have hz7 := hb7.size)))
            clear q0 q1
            have q := fun j u hu => (hb7.cell (p := ⟨g, o + i * 10 + j, none⟩) (by show g < wr.heap.size; omega)).trans (Q.out j u hu)
            have p := fun j u hu => (hb7.cell (p := ⟨g3, o3 + k * 10 + j, none⟩) (by show g3 < wr.heap.size; omega)).trans (Pz.out j u hu)
            have q0 := q 0 (.string x.run.1) rfl
            try rw [Nat.add_zero] at q0
            have q1 := q 1 (.string x.job.1) rfl
            have q2 := q 2 (.string x.proj.1) rfl
            have q3 := q 3 (.int .i64 x.prio.1) rfl
            have q4 := q 4 (.int .i64 x.since.1) rfl
            have q5 := q 5 (.int .i64 x.cost.1) rfl
            have q6 := q 6 (.slice x.labsA x.labs.length x.labsC) rfl
            have q7 := q 7 (.int .i64 x.trust.1) rfl
            have q8 := q 8 (.string x.group.1) rfl
            have q9 := q 9 (.int .i64 x.policy.1) rfl
            have p0 := p 0 (.string z.run.1) rfl
            try rw [Nat.add_zero] at p0
            have p1 := p 1 (.string z.job.1) rfl
            have p2 := p 2 (.string z.proj.1) rfl
            have p3 := p 3 (.int .i64 z.prio.1) rfl
            have p4 := p 4 (.int .i64 z.since.1) rfl
            have p5 := p 5 (.int .i64 z.cost.1) rfl
            have p6 := p 6 (.slice z.labsA z.labs.length z.labsC) rfl
            have p7 := p 7 (.int .i64 z.trust.1) rfl
            have p8 := p 8 (.string z.group.1) rfl
            have p9 := p 9 (.int .i64 z.policy.1) rfl
            clear q p
            replace q0 := fun d os => cell_regrown q0 d os
            replace q1 := fun d os => cell_regrown q1 d os
            replace q2 := fun d os => cell_regrown q2 d os
            replace q3 := fun d os => cell_regrown q3 d os
            replace q4 := fun d os => cell_regrown q4 d os
            replace q5 := fun d os => cell_regrown q5 d os
            replace q6 := fun d os => cell_regrown q6 d os
            replace q7 := fun d os => cell_regrown q7 d os
            replace q8 := fun d os => cell_regrown q8 d os
            replace q9 := fun d os => cell_regrown q9 d os
            replace p0 := fun d os => cell_regrown p0 d os
            replace p1 := fun d os => cell_regrown p1 d os
            replace p2 := fun d os => cell_regrown p2 d os
            replace p3 := fun d os => cell_regrown p3 d os
            replace p4 := fun d os => cell_regrown p4 d os
            replace p5 := fun d os => cell_regrown p5 d os
            replace p6 := fun d os => cell_regrown p6 d os
            replace p7 := fun d os => cell_regrown p7 d os
            replace p8 := fun d os => cell_regrown p8 d os
            replace p9 := fun d os => cell_regrown p9 d os
            have hcall : Hid (∀ d os, Calls Tryd.prog 23 #[.agg #[.string z.run.1, .string z.job.1, .string z.proj.1, .int .i64 z.prio.1, .int .i64 z.since.1, .int .i64 z.cost.1, .slice z.labsA z.labs.length z.labsC, .int .i64 z.trust.1, .string z.group.1, .int .i64 z.policy.1], .agg #[.string x.run.1, .string x.job.1, .string x.proj.1, .int .i64 x.prio.1, .int .i64 x.since.1, .int .i64 x.cost.1, .slice x.labsA x.labs.length x.labsC, .int .i64 x.trust.1, .string x.group.1, .int .i64 x.policy.1]] (Sort.grow (redrawn w7 d) os) fun e w' => e = .returned (.bool true) ∧ Below (Sort.grow (redrawn w7 d) os).heap.size (Sort.grow (redrawn w7 d) os) w') := Lib.hid fun d os => hsj.out _ (hb7.trans ((below_regrown w7 d os).mono (by omega)))
            go_wp2_with fail
            refine wp_region_quiet_below (by kernel_rfl) (by kernel_rfl) ?_
            repeat (go_big_quiet_step ((go_at_call 23; exact Calls.regrown_of (hcall.out _ _))))
            refine wpQuiet_nil ?_
            intro w8 hw8
            have hb8 := below_of_regrown hw8
            clear hw8
            have hz8 := hb8.size
            clear q0 q1 q2 q3 q4 q5 q6 q7 q8 q9 p0 p1 p2 p3 p4 p5 p6 p7 p8 p9
            go_wp2_with fail
            go_roundw
            case rel => exact ⟨i + 1, by go_num, by omega, hb6.trans ((hb7.mono (by omega)).trans (hb8.mono (by omega)))⟩
            case measure => simp [intOf]; omega
          · have i1 : ¬ (i : Int) < (l.length : Int) := by omega
            go_wp2_with (first
              | (go_at_call 13; go_must (refine (awake_any _).mono ?_; rintro e w9 ⟨rfl, hb9⟩)))
            go_ret
            exact ⟨rfl, by rw [hB]; exact hbw6.trans (hb9.mono (by omega))⟩
      · obtain ⟨s, rfl⟩ : ∃ s, t = s + 1 := ⟨t - 1, by omega⟩
        obtain rfl : i = (s : Int) := by omega
        clear hi
        obtain ⟨x, hx⟩ := get_some (show s < l.length by omega)
        obtain ⟨g, o, rfl, hg, q⟩ := hr.out.row (by omega)
        replace q := fun j u hu => (hbw.cell (p := ⟨g, o + s * 10 + j, none⟩) hg).trans (q s x hx j u hu)
        have Q : Hid (∀ j u, (pendE x)[j]? = some u → wr.cell? ⟨g, o + s * 10 + j, none⟩ = some u) := Lib.hid q
        have q0 := q 0 (.string x.run.1) rfl
        try rw [Nat.add_zero] at q0
        have q1 := q 1 (.string x.job.1) rfl
        clear q
        have i0 : (0 : Int) ≤ (s : Int) := by omega
        have i1 : (s : Int) < (l.length : Int) := by omega
        have hfd : Hid (∀ W, W = wr → Calls Tryd.prog 22 #[.slice (some ⟨g, o, none⟩) l.length c, .agg #[.string x.run.1, .string x.job.1]] W fun e w' => e = .returned (.int .i64 (findI x.run x.job l)) ∧ Below W.heap.size W w') := Lib.hid fun W e => by
          subst e
          exact find_any _ c l x.run x.job W ((hr.out.row.below hbw (Nat.le_refl _)).more (by omega)) (by omega)
        by_cases hfs : findI x.run x.job l = (s : Int)
        · rw [hfs] at hfd
          have hlen : (l.drop (s + 1)).reverse.length = l.length - (s + 1) := by rw [List.length_reverse, List.length_drop]
          replace hx := Lib.hid hx
          replace hfs := Lib.hid hfs
          go_wp2_with (first
            | (go_at_call 22; go_must (refine (hfd.out _ rfl).mono ?_; rintro e w2 ⟨rfl, hb2⟩; have hz2 := hb2.size; have hown2 := hown.all hb2; have q := fun j u hu => (hb2.cell (p := ⟨g, o + s * 10 + j, none⟩) (by show g < wr.heap.size; omega)).trans (Q.out j u hu); have q0 := q 0 (.string x.run.1) rfl; (try rw [Nat.add_zero] at q0); have q1 := q 1 (.string x.job.1) rfl; have q2 := q 2 (.string x.proj.1) rfl; have q3 := q 3 (.int .i64 x.prio.1) rfl; have q4 := q 4 (.int .i64 x.since.1) rfl; have q5 := q 5 (.int .i64 x.cost.1) rfl; have q6 := q 6 (.slice x.labsA x.labs.length x.labsC) rfl; have q7 := q 7 (.int .i64 x.trust.1) rfl; have q8 := q 8 (.string x.group.1) rfl; have q9 := q 9 (.int .i64 x.policy.1) rfl; clear q))
            | (at_builtin
               go_must (refine wpList_append_rw _ rfl (.tmp 32) (.tmp 37) _ rfl pendE_len pendE_one B 27 inf _ 128 Tryd.underlying22 hi0 iz0 iz1 iz2 rfl (by omega) u5 _ rfl (hown2.alloc _) _ (some ⟨w2.heap.size, 0, none⟩) 1 1 [x] rfl rfl ((Own.lit (enc := pendE) (l := [x]) (base := 0) (pendE x).toArray (Nat.zero_le _) (by simp [maxLen]) (by simp) pendE_len).reads pendE_len) ?_ ?_ ?_ ?_)
               go_must (focus (rw [hlen]; simp only [maxLen]; omega))
               go_must (focus (rw [hlen]; omega))
               go_must (focus ((try simp) <;> omega))
               intro v3 w3 hown3 hg3 hat3
               have hz3 := hg3.size
               simp at hz3))
          go_roundw
          case rel =>
            refine ⟨s, (s : Int) - 1, by go_num, rfl, by omega, ?_, fun s' x' hs' hx' => ?_, ?_⟩
            · rw [show (l.drop s).reverse = (l.drop (s + 1)).reverse ++ [x] by
                obtain ⟨h, e⟩ := List.getElem?_eq_some_iff.1 hx.out
                rw [← List.getElem_cons_drop (h := h), e, List.reverse_cons]]
              exact hown3
            · rcases Nat.lt_or_ge s s' with h | h
              · exact huni.out s' x' h hx'
              · obtain rfl : s' = s := by omega
                rw [hx.out] at hx'
                obtain rfl : x = x' := by simpa using hx'
                exact hfs.out
            · exact ((hbw.trans (hb2.mono (by omega))).alloc (by omega) _).grown hg3 (by simp; omega) (fun g hg => (hown.lt g hg).1)
          case measure => simp [intOf] <;> omega
        · have hne : (findI x.run x.job l != (s : Int)) = true := by rw [bne_iff_ne]; exact hfs
          replace hfs := Lib.hid hfs
          replace hx := Lib.hid hx
          go_wp2_with (first
            | (go_at_call 22; go_must (refine (hfd.out _ rfl).mono ?_; rintro e w2 ⟨rfl, hb2⟩; have hz2 := hb2.size))
            | (go_at_call 13; go_must (refine (awake_any _).mono ?_; rintro e w9 ⟨rfl, hb9⟩)))
          go_ret
          exact ⟨rfl, by rw [hB]; exact hbw.trans ((hb2.mono (by omega)).trans (hb9.mono (by omega)))⟩

/-- A world for the witness: the settled one, the listed tables holding what their initialisers lay. -/
noncomputable def laidWorld (os : Os) : World :=
  { World.holding Tryd.prog os ⟨#[], #[], []⟩ with heap := layAll Tryd.prog Rows.queueShufflesRow.laid (World.holding Tryd.prog os ⟨#[], #[], []⟩).heap }
theorem laid_met (os : Os) : laidMet Tryd.prog Rows.queueShufflesRow.laid ((laidWorld os).forCall (fun _ _ => 0) ⟨#[], #[.slice none 0 0, .int .i64 0], []⟩).memory :=
  laidMet_of_run' 8 (by kernel_rfl) (by kernel_rfl)
theorem reads (os : Os) {H : Type} (enc : TypeId × Value → H) : ∃ places, DataW.whole enc Tryd.prog ((laidWorld os).forCall (fun _ _ => 0) ⟨#[], #[.slice none 0 0, .int .i64 0], []⟩).memory Tryd.f7.params.toList Rows.queueShufflesSpec.vars false (#[.slice none 0 0, .int .i64 0] : Array Value).toList 8 = some ([.nil, .lit (.int .i64 0)], [], places) :=
  ⟨[], by kernel_rfl⟩

set_option maxRecDepth 100000 in
theorem contract (H : Type) (enc : TypeId × Value → H) (W : World) (base : Nat) (args : Array Value) (ds gs : List (DataW H)) (before : List MemPlace)
    (hval : ∀ (j : Nat) t v, Tryd.f7.params[j]? = some t → args[j]? = some v → Value.okWide Tryd.prog W .any base t v)
    (hW : DataW.Whole enc Tryd.prog Tryd.f7.params.toList Rows.queueShufflesSpec.vars false W args.toList ds gs before) :
    Calls Tryd.prog 7 args W fun e W' => ∃ v, e = .returned v ∧ Rows.queueShufflesSpec.post enc Tryd.prog Tryd.f7 false true false false W args v W' := by
  have hW' := hW
  obtain ⟨p, q, hA0, hV, rfl, hfz, hnd⟩ := hW
  have hA : DataW.TrodAll enc Tryd.prog W 0 (fun _ => true) true Tryd.f7.params.toList args.toList ds p := hA0
  have hA1 := hA
  rw [Tryd.params7] at hA hval
  obtain ⟨rfl, rfl⟩ := trodVars_none hV
  simp only [List.append_nil] at hW'
  have hcall : Calls Tryd.prog 7 args W fun e w' => e = .returned (.bool true) ∧ Below W.heap.size W w' := by
    clear hA0 hV hfz hnd
    obtain ⟨v0, vs0, d0, ds0, p0, q0, hargs, rfl, rfl, h0, r0⟩ := trodAll_cons hA
    obtain ⟨v1, vs1, d1, ds1, p1, q1, rfl, rfl, rfl, h1, r1⟩ := trodAll_cons r0
    obtain ⟨rfl, rfl, rfl⟩ := trodAll_nil r1
    obtain rfl : args = #[v0, v1] := by cases args; simp_all
    obtain ⟨A, l, c, rfl, hlc, hcm, hr, hlb⟩ := open_rowsq pendE_len (by omega) Tryd.underlying22 (by kernel_rfl) pendE_of (hval 0 22 v0 rfl rfl) h0
    obtain ⟨a1, rfl, rfl, rfl, w1⟩ := open_int Tryd.underlying3 (hval 1 3 v1 rfl rfl) h1
    unfold maxLen at hcm
    exact walk A c l ⟨a1, bounds_i64 w1⟩ W ⟨hr, hlb⟩ (by omega)
  have hds : ds.length = 2 := (trodAll_length hA).1
  refine hcall.mono fun e W' ⟨he, hb⟩ => ?_
  subst he
  refine ⟨_, rfl, law_post hW' rfl hA1 (by kernel_rfl) laidOut Tryd.underlying4 (by kernel_rfl) ?_ hb⟩
  match ds, hds with
  | [_, _], _ => rfl

set_option maxRecDepth 100000 in
theorem lifted (os : Os) (started : os.Started) (H : Type) (enc : TypeId × Value → H) (F : Stop.Interp) :
    ReturnsInHanded {} Tryd.checked os 7 .any ((OpenSpec.ofChange Rows.queueShufflesSpec).preRow enc Tryd.prog Tryd.f7 Rows.queueShufflesRow.domain false Rows.queueShufflesRow.laid) (((OpenSpec.ofChange Rows.queueShufflesSpec).at F).post enc Tryd.prog Tryd.f7 false true false false) := by
  obtain ⟨places, hx⟩ := reads os enc
  refine returnsInHanded_of_row (C := Tryd.checked) (s := OpenSpec.ofChange Rows.queueShufflesSpec) own started (by kernel_rfl) Tryd.func7
    (witness_row_at (enc := enc) (C := Tryd.checked) false (laidWorld os) #[.slice none 0 0, .int .i64 0] rfl (by kernel_rfl) (by kernel_rfl) (by kernel_rfl)
      (OpenSpec.preRow_of_cond 8 hx (by kernel_rfl) (fun k hk => by cases hk) (by kernel_rfl) (laid_met os))) ?_
  intro W base args ds gs before hval hW _ _ _ _ _ _
  exact contract H enc W base args ds gs before hval hW

theorem said : Rows.QueueShufflesSaid :=
  OpenClaim.holds_of_cond 7 Tryd.f7 rfl rfl rfl rfl rfl rfl rfl ⟨rfl, rfl, rfl, rfl, rfl⟩ rfl rfl rfl rfl rfl (by kernel_rfl) Tryd.func7 (by kernel_rfl)
    (of_decide_eq_true (by kernel_rfl)) (by unfold Func.isWrapper; first | (rw [if_pos (by decide +kernel)]; kernel_rfl) | (rw [if_neg (by decide +kernel)]; exact ⟨rfl, rfl⟩))
    (fun os started H enc _ F => by rw [OpenClaim.pre_eq_preRow]; exact lifted os started H enc F)

theorem plain (f : FuncId) (fn : Func) (hf : Tryd.pinned.checked.prog.funcNamed Rows.queueShufflesRow.func = some f) (hfn : Tryd.pinned.checked.prog.funcs[f]? = some fn) :
    false = Tryd.pinned.checked.prog.looks [] ∧ ∀ (j : Nat) t, fn.params[j]? = some t → Tryd.pinned.checked.prog.wantsStandIn t = false := by
  obtain rfl : f = 7 := Option.some.inj ((show Tryd.prog.funcNamed Rows.queueShufflesRow.func = some 7 by kernel_rfl).symm.trans hf) |>.symm
  obtain rfl : fn = Tryd.f7 := (Option.some.inj (Tryd.func7.symm.trans hfn)).symm
  refine ⟨by kernel_rfl, fun j t ht => ?_⟩
  have hall : (Tryd.f7.params.toList.all fun t => !(Tryd.pinned.checked.prog.wantsStandIn t)) = true := by kernel_rfl
  have hm : t ∈ Tryd.f7.params.toList := Array.mem_toList_iff.2 (Array.mem_of_getElem? ht)
  simpa using List.all_eq_true.1 hall t hm

theorem proved : Rows.QueueShufflesCardSaid :=
  Claim7.holds_tied_plain_at .later [] _ _ _ _ said (fun _ h => by cases h) (by kernel_rfl) (fun _ h => by cases h) queueShuffles_row_tie rfl ⟨rfl, rfl⟩ (by kernel_rfl) rfl plain (by kernel_rfl)
#print axioms proved
end Go.Proofs.YtnhfbignnnicnaaDoor.queueShuffles
