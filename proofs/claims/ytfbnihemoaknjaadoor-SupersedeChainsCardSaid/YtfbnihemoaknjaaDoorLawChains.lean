/-
  SupersedeChains: what a run supersedes, a later run of the same pipeline and branch supersedes, too; the examples hold. No condition.
-/
import Derived.Test.YtfbnihemoaknjaaDoorSup4
import Derived.Test.YtfbnihemoaknjaaDoorLayTab



namespace Go.Proofs.YtfbnihemoaknjaaDoor.supersedeChains
open Go.ChangeShapes Go.WideShapes Go.ChangeAt Go.RowKit Go.Joins
theorem own : ownKnob Tryd.prog.godebug = none := by kernel_rfl
theorem laidOut : laidOutB Tryd.prog = true := by kernel_rfl

theorem srt_len (l : List Str) : (srt l).length ≤ l.length := by
  unfold srt srtOf
  exact Nat.le_trans (Lib.compact_length_le _) (by simp)
theorem older_len (s : Sum) (l : List Sum) : (olderS s l).length ≤ l.length := by
  unfold olderS
  refine Nat.le_trans (srt_len _) ?_
  rw [List.length_map]
  exact List.length_filter_le _ _
theorem sameB_iff (a b : Sum) : sameB a b = true ↔ a.proj.1.toList = b.proj.1.toList ∧ a.ref.1.toList = b.ref.1.toList ∧ a.fork = b.fork ∧ a.pipe.1.toList = b.pipe.1.toList := by
  unfold sameB orgB
  simp only [Bool.and_eq_true, beq_iff_eq]
  constructor
  · rintro ⟨⟨⟨h1, h2⟩, h3⟩, h4⟩; exact ⟨h1, h2, h3, h4⟩
  · rintro ⟨h1, h2, h3, h4⟩; exact ⟨⟨⟨h1, h2⟩, h3⟩, h4⟩
/-- What s supersedes, t supersedes. -/
theorem older_sub {s t : Sum} {l : List Sum} (hs : sameB s t = true) (hn : s.number.1 ≤ t.number.1) : ∀ x, x ∈ olderS s l → x ∈ olderS t l := by
  intro x hx
  unfold olderS srt at *
  have h1 := ((srtOf_is ord_str ((l.filter (goesB s)).map (·.run))).2 x).1 hx
  refine ((srtOf_is ord_str ((l.filter (goesB t)).map (·.run))).2 x).2 ?_
  obtain ⟨y, hy, rfl⟩ := List.mem_map.1 h1
  obtain ⟨hyl, hg⟩ := List.mem_filter.1 hy
  refine List.mem_map.2 ⟨y, List.mem_filter.2 ⟨hyl, ?_⟩, rfl⟩
  unfold goesB at *
  simp only [Bool.and_eq_true, decide_eq_true_eq] at hg ⊢
  obtain ⟨⟨⟨g1, g2⟩, g3⟩, g4⟩ := hg
  refine ⟨⟨⟨?_, by omega⟩, g3⟩, g4⟩
  rw [sameB_iff] at g1 hs ⊢
  exact ⟨g1.1.trans hs.1, g1.2.1.trans hs.2.1, g1.2.2.1.trans hs.2.2.1, g1.2.2.2.trans hs.2.2.2⟩

set_option maxRecDepth 100000 in
set_option maxHeartbeats 8000000 in
theorem walk (A : Option Addr) (c : Nat) (l : List Sum) (s t : Sum) (w : World) (hr : Rw sumE 8 w w.heap.size A l) (hm : l.length ≤ 9223372036854775807) :
    Calls Tryd.prog 5 #[.slice A l.length c, .agg #[.string s.run.1, .string s.proj.1, .string s.ref.1, .bool s.fork, .string s.pipe.1, .int .i64 s.number.1, .bool s.done, .bool s.keep], .agg #[.string t.run.1, .string t.proj.1, .string t.ref.1, .bool t.fork, .string t.pipe.1, .int .i64 t.number.1, .bool t.done, .bool t.keep]] w fun e w' => e = .returned (.bool true) ∧ Below w.heap.size w w' := by
  rcases hf : fewB l with _ | _
  · go_enter Tryd.func5, Tryd.ntmps5
    go_wp2_with fail
    have hb0 : Below w.heap.size w ((w.alloc (.cells (sumE s).toArray 26)).alloc (.cells (sumE t).toArray 26)) := ((Below.refl _ _).alloc (Nat.le_refl _) _).alloc (by simp) _
    have hz0 : ((w.alloc (.cells (sumE s).toArray 26)).alloc (.cells (sumE t).toArray 26)).heap.size = w.heap.size + 2 := by simp
    have hca : ∀ j u, (sumE s)[j]? = some u → ((w.alloc (.cells (sumE s).toArray 26)).alloc (.cells (sumE t).toArray 26)).cell? ⟨w.heap.size, j, none⟩ = some u := fun j u hu => by
      rw [World.cell?_alloc_lt _ _ _ (by simp)]
      exact box_cells w (sumE s).toArray 26 j u hu
    have hcb : ∀ j u, (sumE t)[j]? = some u → ((w.alloc (.cells (sumE s).toArray 26)).alloc (.cells (sumE t).toArray 26)).cell? ⟨w.heap.size + 1, j, none⟩ = some u := fun j u hu => by
      have := box_cells (w.alloc (.cells (sumE s).toArray 26)) (sumE t).toArray 26 j u hu
      simpa using this
    simp only [sumE] at hb0 hz0 hca hcb
    generalize (w.alloc (.cells #[.string s.run.1, .string s.proj.1, .string s.ref.1, .bool s.fork, .string s.pipe.1, .int .i64 s.number.1, .bool s.done, .bool s.keep] 26)).alloc (.cells #[.string t.run.1, .string t.proj.1, .string t.ref.1, .bool t.fork, .string t.pipe.1, .int .i64 t.number.1, .bool t.done, .bool t.keep] 26) = W0 at *
    have hr0 := hr.below hb0 (Nat.le_refl _)
    have q0 := hca 0 (.string s.run.1) rfl
    try rw [Nat.add_zero] at q0
    have q1 := hca 1 (.string s.proj.1) rfl
    have q2 := hca 2 (.string s.ref.1) rfl
    have q3 := hca 3 (.bool s.fork) rfl
    have q4 := hca 4 (.string s.pipe.1) rfl
    have q5 := hca 5 (.int .i64 s.number.1) rfl
    have q6 := hca 6 (.bool s.done) rfl
    have q7 := hca 7 (.bool s.keep) rfl
    have p0 := hcb 0 (.string t.run.1) rfl
    try rw [Nat.add_zero] at p0
    have p1 := hcb 1 (.string t.proj.1) rfl
    have p2 := hcb 2 (.string t.ref.1) rfl
    have p3 := hcb 3 (.bool t.fork) rfl
    have p4 := hcb 4 (.string t.pipe.1) rfl
    have p5 := hcb 5 (.int .i64 t.number.1) rfl
    have p6 := hcb 6 (.bool t.done) rfl
    have p7 := hcb 7 (.bool t.keep) rfl
    clear hca hcb
    go_wp2_with (first | (go_at_call 7; go_must (refine (few_any A c l _ ?_ hm).mono ?_; (focus exact hr0.more (by omega)); rw [hf]; rintro e w1 ⟨rfl, rfl⟩)) | (go_at_call 8; go_must (refine (lives_any _).mono ?_; rintro e w9 ⟨rfl, hb9⟩)))
    go_ret
    exact ⟨rfl, hb0.trans (hb9.mono (by omega))⟩
  · rcases hsm : sameB s t with _ | _
    · go_enter Tryd.func5, Tryd.ntmps5
      go_wp2_with fail
      have hb0 : Below w.heap.size w ((w.alloc (.cells (sumE s).toArray 26)).alloc (.cells (sumE t).toArray 26)) := ((Below.refl _ _).alloc (Nat.le_refl _) _).alloc (by simp) _
      have hz0 : ((w.alloc (.cells (sumE s).toArray 26)).alloc (.cells (sumE t).toArray 26)).heap.size = w.heap.size + 2 := by simp
      have hca : ∀ j u, (sumE s)[j]? = some u → ((w.alloc (.cells (sumE s).toArray 26)).alloc (.cells (sumE t).toArray 26)).cell? ⟨w.heap.size, j, none⟩ = some u := fun j u hu => by
        rw [World.cell?_alloc_lt _ _ _ (by simp)]
        exact box_cells w (sumE s).toArray 26 j u hu
      have hcb : ∀ j u, (sumE t)[j]? = some u → ((w.alloc (.cells (sumE s).toArray 26)).alloc (.cells (sumE t).toArray 26)).cell? ⟨w.heap.size + 1, j, none⟩ = some u := fun j u hu => by
        have := box_cells (w.alloc (.cells (sumE s).toArray 26)) (sumE t).toArray 26 j u hu
        simpa using this
      simp only [sumE] at hb0 hz0 hca hcb
      generalize (w.alloc (.cells #[.string s.run.1, .string s.proj.1, .string s.ref.1, .bool s.fork, .string s.pipe.1, .int .i64 s.number.1, .bool s.done, .bool s.keep] 26)).alloc (.cells #[.string t.run.1, .string t.proj.1, .string t.ref.1, .bool t.fork, .string t.pipe.1, .int .i64 t.number.1, .bool t.done, .bool t.keep] 26) = W0 at *
      have hr0 := hr.below hb0 (Nat.le_refl _)
      have q0 := hca 0 (.string s.run.1) rfl
      try rw [Nat.add_zero] at q0
      have q1 := hca 1 (.string s.proj.1) rfl
      have q2 := hca 2 (.string s.ref.1) rfl
      have q3 := hca 3 (.bool s.fork) rfl
      have q4 := hca 4 (.string s.pipe.1) rfl
      have q5 := hca 5 (.int .i64 s.number.1) rfl
      have q6 := hca 6 (.bool s.done) rfl
      have q7 := hca 7 (.bool s.keep) rfl
      have p0 := hcb 0 (.string t.run.1) rfl
      try rw [Nat.add_zero] at p0
      have p1 := hcb 1 (.string t.proj.1) rfl
      have p2 := hcb 2 (.string t.ref.1) rfl
      have p3 := hcb 3 (.bool t.fork) rfl
      have p4 := hcb 4 (.string t.pipe.1) rfl
      have p5 := hcb 5 (.int .i64 t.number.1) rfl
      have p6 := hcb 6 (.bool t.done) rfl
      have p7 := hcb 7 (.bool t.keep) rfl
      clear hca hcb
      go_wp2_with (first | (go_at_call 7; go_must (refine (few_any A c l _ ?_ hm).mono ?_; (focus exact hr0.more (by omega)); rw [hf]; rintro e w1 ⟨rfl, rfl⟩)) | (go_at_call 14; go_must (refine (same_any _ _ _).mono ?_; rintro e w2 ⟨rfl, hb2⟩; rw [hsm]; have hz2 := hb2.size; obtain ⟨hc2, hf2⟩ := blk_at hb2 w.heap.size (by omega); obtain ⟨hd2, he2⟩ := blk_at hb2 (w.heap.size + 1) (by omega))) | (go_at_call 8; go_must (refine (lives_any _).mono ?_; rintro e w9 ⟨rfl, hb9⟩)))
      go_ret
      exact ⟨rfl, hb0.trans ((hb2.mono (by omega)).trans (hb9.mono (by omega)))⟩
    · by_cases hlt : t.number.1 < s.number.1
      · have hdf : decide (t.number.1 < s.number.1) = true := by simp; omega
        go_enter Tryd.func5, Tryd.ntmps5
        go_wp2_with fail
        have hb0 : Below w.heap.size w ((w.alloc (.cells (sumE s).toArray 26)).alloc (.cells (sumE t).toArray 26)) := ((Below.refl _ _).alloc (Nat.le_refl _) _).alloc (by simp) _
        have hz0 : ((w.alloc (.cells (sumE s).toArray 26)).alloc (.cells (sumE t).toArray 26)).heap.size = w.heap.size + 2 := by simp
        have hca : ∀ j u, (sumE s)[j]? = some u → ((w.alloc (.cells (sumE s).toArray 26)).alloc (.cells (sumE t).toArray 26)).cell? ⟨w.heap.size, j, none⟩ = some u := fun j u hu => by
          rw [World.cell?_alloc_lt _ _ _ (by simp)]
          exact box_cells w (sumE s).toArray 26 j u hu
        have hcb : ∀ j u, (sumE t)[j]? = some u → ((w.alloc (.cells (sumE s).toArray 26)).alloc (.cells (sumE t).toArray 26)).cell? ⟨w.heap.size + 1, j, none⟩ = some u := fun j u hu => by
          have := box_cells (w.alloc (.cells (sumE s).toArray 26)) (sumE t).toArray 26 j u hu
          simpa using this
        simp only [sumE] at hb0 hz0 hca hcb
        generalize (w.alloc (.cells #[.string s.run.1, .string s.proj.1, .string s.ref.1, .bool s.fork, .string s.pipe.1, .int .i64 s.number.1, .bool s.done, .bool s.keep] 26)).alloc (.cells #[.string t.run.1, .string t.proj.1, .string t.ref.1, .bool t.fork, .string t.pipe.1, .int .i64 t.number.1, .bool t.done, .bool t.keep] 26) = W0 at *
        have hr0 := hr.below hb0 (Nat.le_refl _)
        have q0 := hca 0 (.string s.run.1) rfl
        try rw [Nat.add_zero] at q0
        have q1 := hca 1 (.string s.proj.1) rfl
        have q2 := hca 2 (.string s.ref.1) rfl
        have q3 := hca 3 (.bool s.fork) rfl
        have q4 := hca 4 (.string s.pipe.1) rfl
        have q5 := hca 5 (.int .i64 s.number.1) rfl
        have q6 := hca 6 (.bool s.done) rfl
        have q7 := hca 7 (.bool s.keep) rfl
        have p0 := hcb 0 (.string t.run.1) rfl
        try rw [Nat.add_zero] at p0
        have p1 := hcb 1 (.string t.proj.1) rfl
        have p2 := hcb 2 (.string t.ref.1) rfl
        have p3 := hcb 3 (.bool t.fork) rfl
        have p4 := hcb 4 (.string t.pipe.1) rfl
        have p5 := hcb 5 (.int .i64 t.number.1) rfl
        have p6 := hcb 6 (.bool t.done) rfl
        have p7 := hcb 7 (.bool t.keep) rfl
        clear hca hcb
        go_wp2_with (first | (go_at_call 7; go_must (refine (few_any A c l _ ?_ hm).mono ?_; (focus exact hr0.more (by omega)); rw [hf]; rintro e w1 ⟨rfl, rfl⟩)) | (go_at_call 14; go_must (refine (same_any _ _ _).mono ?_; rintro e w2 ⟨rfl, hb2⟩; rw [hsm]; have hz2 := hb2.size; obtain ⟨hc2, hf2⟩ := blk_at hb2 w.heap.size (by omega); obtain ⟨hd2, he2⟩ := blk_at hb2 (w.heap.size + 1) (by omega))) | (go_at_call 8; go_must (refine (lives_any _).mono ?_; rintro e w9 ⟨rfl, hb9⟩)))
        go_ret
        exact ⟨rfl, hb0.trans ((hb2.mono (by omega)).trans (hb9.mono (by omega)))⟩
      · have hdf : decide (t.number.1 < s.number.1) = false := by simp; omega
        have h40 : l.length ≤ 40 := by
          unfold fewB at hf
          rw [Bool.and_eq_true] at hf
          simpa using hf.2
        have hsub := older_sub (l := l) hsm (by omega)
        have hlen := older_len s l
        have hlen2 := older_len t l
        have h1 := fun W h => older_any A c l s W h (by omega)
        have h2 := fun W h => older_any A c l t W h (by omega)
        generalize olderS s l = L at hlen h1 hsub
        generalize olderS t l = M at hlen2 h2 hsub
        replace h1 := Lib.hid h1
        replace h2 := Lib.hid h2
        replace hsub := Lib.hid hsub
        go_enter Tryd.func5, Tryd.ntmps5
        go_wp2_with fail
        have hb0 : Below w.heap.size w ((w.alloc (.cells (sumE s).toArray 26)).alloc (.cells (sumE t).toArray 26)) := ((Below.refl _ _).alloc (Nat.le_refl _) _).alloc (by simp) _
        have hz0 : ((w.alloc (.cells (sumE s).toArray 26)).alloc (.cells (sumE t).toArray 26)).heap.size = w.heap.size + 2 := by simp
        have hca : ∀ j u, (sumE s)[j]? = some u → ((w.alloc (.cells (sumE s).toArray 26)).alloc (.cells (sumE t).toArray 26)).cell? ⟨w.heap.size, j, none⟩ = some u := fun j u hu => by
          rw [World.cell?_alloc_lt _ _ _ (by simp)]
          exact box_cells w (sumE s).toArray 26 j u hu
        have hcb : ∀ j u, (sumE t)[j]? = some u → ((w.alloc (.cells (sumE s).toArray 26)).alloc (.cells (sumE t).toArray 26)).cell? ⟨w.heap.size + 1, j, none⟩ = some u := fun j u hu => by
          have := box_cells (w.alloc (.cells (sumE s).toArray 26)) (sumE t).toArray 26 j u hu
          simpa using this
        simp only [sumE] at hb0 hz0 hca hcb
        generalize (w.alloc (.cells #[.string s.run.1, .string s.proj.1, .string s.ref.1, .bool s.fork, .string s.pipe.1, .int .i64 s.number.1, .bool s.done, .bool s.keep] 26)).alloc (.cells #[.string t.run.1, .string t.proj.1, .string t.ref.1, .bool t.fork, .string t.pipe.1, .int .i64 t.number.1, .bool t.done, .bool t.keep] 26) = W0 at *
        have hr0 := hr.below hb0 (Nat.le_refl _)
        have q0 := hca 0 (.string s.run.1) rfl
        try rw [Nat.add_zero] at q0
        have q1 := hca 1 (.string s.proj.1) rfl
        have q2 := hca 2 (.string s.ref.1) rfl
        have q3 := hca 3 (.bool s.fork) rfl
        have q4 := hca 4 (.string s.pipe.1) rfl
        have q5 := hca 5 (.int .i64 s.number.1) rfl
        have q6 := hca 6 (.bool s.done) rfl
        have q7 := hca 7 (.bool s.keep) rfl
        have p0 := hcb 0 (.string t.run.1) rfl
        try rw [Nat.add_zero] at p0
        have p1 := hcb 1 (.string t.proj.1) rfl
        have p2 := hcb 2 (.string t.ref.1) rfl
        have p3 := hcb 3 (.bool t.fork) rfl
        have p4 := hcb 4 (.string t.pipe.1) rfl
        have p5 := hcb 5 (.int .i64 t.number.1) rfl
        have p6 := hcb 6 (.bool t.done) rfl
        have p7 := hcb 7 (.bool t.keep) rfl
        clear hca hcb
        go_wp2_with (first | (go_at_call 7; go_must (refine (few_any A c l _ ?_ hm).mono ?_; (focus exact hr0.more (by omega)); rw [hf]; rintro e w1 ⟨rfl, rfl⟩)) | (go_at_call 14; go_must (refine (same_any _ _ _).mono ?_; rintro e w2 ⟨rfl, hb2⟩; rw [hsm]; have hz2 := hb2.size; obtain ⟨hc2, hf2⟩ := blk_at hb2 w.heap.size (by omega); obtain ⟨hd2, he2⟩ := blk_at hb2 (w.heap.size + 1) (by omega))))
        go_region_held3 (fun w' => (w'.cell? ⟨w.heap.size, 0, none⟩ = some (.string s.run.1) ∧ w'.cell? ⟨w.heap.size, 1, none⟩ = some (.string s.proj.1) ∧ w'.cell? ⟨w.heap.size, 2, none⟩ = some (.string s.ref.1) ∧ w'.cell? ⟨w.heap.size, 3, none⟩ = some (.bool s.fork) ∧ w'.cell? ⟨w.heap.size, 4, none⟩ = some (.string s.pipe.1) ∧ w'.cell? ⟨w.heap.size, 5, none⟩ = some (.int .i64 s.number.1) ∧ w'.cell? ⟨w.heap.size, 6, none⟩ = some (.bool s.done) ∧ w'.cell? ⟨w.heap.size, 7, none⟩ = some (.bool s.keep)) ∧ (w'.cell? ⟨w.heap.size + 1, 0, none⟩ = some (.string t.run.1) ∧ w'.cell? ⟨w.heap.size + 1, 1, none⟩ = some (.string t.proj.1) ∧ w'.cell? ⟨w.heap.size + 1, 2, none⟩ = some (.string t.ref.1) ∧ w'.cell? ⟨w.heap.size + 1, 3, none⟩ = some (.bool t.fork) ∧ w'.cell? ⟨w.heap.size + 1, 4, none⟩ = some (.string t.pipe.1) ∧ w'.cell? ⟨w.heap.size + 1, 5, none⟩ = some (.int .i64 t.number.1) ∧ w'.cell? ⟨w.heap.size + 1, 6, none⟩ = some (.bool t.done) ∧ w'.cell? ⟨w.heap.size + 1, 7, none⟩ = some (.bool t.keep))) (go_keep)
          (first
            | (go_at_call 10; with_reducible refine (h1.out _ ?_).mono ?_; (focus exact (hr0.below (C := W0.heap.size) (by repeat (first | (with_reducible exact Below.refl _ _) | (with_reducible refine Below.drew ?_) | (with_reducible refine below_drewN ?_ _) | ((with_reducible refine Below.alloc ?_ ?_ _); rotate_left; focus ((try simp) <;> omega)) | ((with_reducible refine Below.setCell ?_ ?_ _); rotate_left; focus ((try simp) <;> omega)) | ((with_reducible refine Below.trans ?_ (Below.mono (by assumption) ?_)); rotate_left; focus ((try simp) <;> omega)))) (by omega)).more (by (try simp) <;> omega)); rintro e w3 ⟨A1, k1, rfl, hr1, hb3⟩; have hz3 := hb3.size; (try simp at hz3); obtain ⟨hc3, hf3⟩ := blk_at hb3 w.heap.size (by (try simp) <;> omega); obtain ⟨hd3, he3⟩ := blk_at hb3 (w.heap.size + 1) (by (try simp) <;> omega))
            | (go_at_call 10; with_reducible refine (h2.out _ ?_).mono ?_; (focus exact (hr0.below (C := W0.heap.size) (by repeat (first | (with_reducible exact Below.refl _ _) | (with_reducible refine Below.drew ?_) | (with_reducible refine below_drewN ?_ _) | ((with_reducible refine Below.alloc ?_ ?_ _); rotate_left; focus ((try simp) <;> omega)) | ((with_reducible refine Below.setCell ?_ ?_ _); rotate_left; focus ((try simp) <;> omega)) | ((with_reducible refine Below.trans ?_ (Below.mono (by assumption) ?_)); rotate_left; focus ((try simp) <;> omega)))) (by omega)).more (by (try simp) <;> omega)); rintro e w4 ⟨A2, k2, rfl, hr2, hb4⟩; have hz4 := hb4.size; (try simp at hz4); obtain ⟨hc4, hf4⟩ := blk_at hb4 w.heap.size (by (try simp) <;> omega); obtain ⟨hd4, he4⟩ := blk_at hb4 (w.heap.size + 1) (by (try simp) <;> omega)))
        have hcell : Hid (∀ k x, L[k]? = some x → ∃ g o, A1 = some ⟨g, o, none⟩ ∧ w4.cell? ⟨g, o + k, none⟩ = some (.string x.1)) := Lib.hid (fun k x hx => by
          have hk := (List.getElem?_eq_some_iff.1 hx).1
          obtain ⟨g, o, e, _, h⟩ := (hr1.below hb4 (Nat.le_refl _)).str (by omega)
          exact ⟨g, o, e, h k x hx⟩)
        have hbw : Below w.heap.size w w4 := (by repeat (first | (with_reducible exact Below.refl _ _) | (with_reducible refine Below.drew ?_) | (with_reducible refine below_drewN ?_ _) | ((with_reducible refine Below.alloc ?_ ?_ _); rotate_left; focus ((try simp) <;> omega)) | ((with_reducible refine Below.setCell ?_ ?_ _); rotate_left; focus ((try simp) <;> omega)) | ((with_reducible refine Below.trans ?_ (Below.mono (by assumption) ?_)); rotate_left; focus ((try simp) <;> omega))))
        clear hc3 hf3 hd3 he3 hc4 hf4 hd4 he4
        go_wp2_with fail
        go_loopw [9] (fun vi wr => ∃ k : Nat, vi = .int .i64 (k : Int) ∧ k ≤ L.length ∧ wr = w4) (fun vi _ => L.length - (intOf vi).toNat)
        case atStart => exact ⟨0, rfl, Nat.zero_le _, rfl⟩
        case round =>
          obtain ⟨k, rfl, hk, rfl⟩ := hrel
          by_cases hkl : k < L.length
          · obtain ⟨x, hx⟩ := get_some hkl
            obtain ⟨g, o, rfl, q⟩ := hcell.out k x hx
            have hh : hasB x M = true := hasB_true (hsub.out x (List.mem_of_getElem? hx))
            replace hx := Lib.hid hx
            go_wp2_with (first | (go_at_call 16; go_must (refine (rhas_any A2 k2 M x _ hr2 (by omega)).mono ?_; rw [hh]; rintro e w5 ⟨rfl, rfl⟩)))
            go_roundw
            case rel => exact ⟨k + 1, by go_num, by omega, by first | exact trivial | rfl⟩
            case measure => simp [intOf]; omega
          · go_wp2_with (first | (go_at_call 8; go_must (refine (lives_any _).mono ?_; rintro e w9 ⟨rfl, hb9⟩)))
            go_ret
            exact ⟨rfl, hbw.trans (hb9.mono (by have := hbw.size; omega))⟩
/-- A world for the witness: the settled one, the listed tables holding what their initialisers lay. -/
noncomputable def laidWorld (os : Os) : World :=
  { World.holding Tryd.prog os ⟨#[], #[], []⟩ with heap := layAll Tryd.prog Rows.supersedeChainsRow.laid (World.holding Tryd.prog os ⟨#[], #[], []⟩).heap }
theorem laid_met (os : Os) : laidMet Tryd.prog Rows.supersedeChainsRow.laid ((laidWorld os).forCall (fun _ _ => 0) ⟨#[], #[.slice none 0 0, .agg #[.string ByteArray.empty, .string ByteArray.empty, .string ByteArray.empty, .bool false, .string ByteArray.empty, .int .i64 0, .bool false, .bool false], .agg #[.string ByteArray.empty, .string ByteArray.empty, .string ByteArray.empty, .bool false, .string ByteArray.empty, .int .i64 0, .bool false, .bool false]], []⟩).memory :=
  laidMet_of_run' 8 (by kernel_rfl) (by kernel_rfl)
theorem reads (os : Os) {H : Type} (enc : TypeId × Value → H) : ∃ places, DataW.whole enc Tryd.prog ((laidWorld os).forCall (fun _ _ => 0) ⟨#[], #[.slice none 0 0, .agg #[.string ByteArray.empty, .string ByteArray.empty, .string ByteArray.empty, .bool false, .string ByteArray.empty, .int .i64 0, .bool false, .bool false], .agg #[.string ByteArray.empty, .string ByteArray.empty, .string ByteArray.empty, .bool false, .string ByteArray.empty, .int .i64 0, .bool false, .bool false]], []⟩).memory Tryd.f5.params.toList Rows.supersedeChainsSpec.vars false (#[.slice none 0 0, .agg #[.string ByteArray.empty, .string ByteArray.empty, .string ByteArray.empty, .bool false, .string ByteArray.empty, .int .i64 0, .bool false, .bool false], .agg #[.string ByteArray.empty, .string ByteArray.empty, .string ByteArray.empty, .bool false, .string ByteArray.empty, .int .i64 0, .bool false, .bool false]] : Array Value).toList 8 = some ([.nil, .agg [.lit (.string []), .agg [.lit (.string []), .lit (.string []), .lit (.bool false)], .lit (.string []), .lit (.int .i64 0), .lit (.bool false), .lit (.bool false)], .agg [.lit (.string []), .agg [.lit (.string []), .lit (.string []), .lit (.bool false)], .lit (.string []), .lit (.int .i64 0), .lit (.bool false), .lit (.bool false)]], [], places) :=
  ⟨[], by kernel_rfl⟩

theorem contract (H : Type) (enc : TypeId × Value → H) (W : World) (base : Nat) (args : Array Value) (ds gs : List (DataW H)) (before : List MemPlace)
    (hval : ∀ (j : Nat) t v, Tryd.f5.params[j]? = some t → args[j]? = some v → Value.okWide Tryd.prog W .any base t v)
    (hW : DataW.Whole enc Tryd.prog Tryd.f5.params.toList Rows.supersedeChainsSpec.vars false W args.toList ds gs before) :
    Calls Tryd.prog 5 args W fun e W' => ∃ v, e = .returned v ∧ Rows.supersedeChainsSpec.post enc Tryd.prog Tryd.f5 false true false false W args v W' := by
  have hW' := hW
  obtain ⟨p, q, hA0, hV, rfl, hfz, hnd⟩ := hW
  have hA : DataW.TrodAll enc Tryd.prog W 0 (fun _ => true) true Tryd.f5.params.toList args.toList ds p := hA0
  have hA1 := hA
  rw [Tryd.params5] at hA hval
  obtain ⟨rfl, rfl⟩ := trodVars_none hV
  simp only [List.append_nil] at hW'
  have hcall : Calls Tryd.prog 5 args W fun e w' => e = .returned (.bool true) ∧ Below W.heap.size W w' := by
    clear hA0 hV hfz hnd
    obtain ⟨v0, vs0, d0, ds0, p0, q0, hargs, rfl, rfl, h0, r0⟩ := trodAll_cons hA
    obtain ⟨v1, vs1, d1, ds1, p1, q1, rfl, rfl, rfl, h1, r1⟩ := trodAll_cons r0
    obtain ⟨v2, vs2, d2, ds2, p2, q2, rfl, rfl, rfl, h2, r2⟩ := trodAll_cons r1
    obtain ⟨rfl, rfl, rfl⟩ := trodAll_nil r2
    obtain rfl : args = #[v0, v1, v2] := by cases args; simp_all
    obtain ⟨A, l, c, rfl, hlc, hcm, hr⟩ := open_rows sumE_len (by omega) Tryd.underlying22 (by kernel_rfl) sumE_of (hval 0 22 v0 rfl rfl) h0
    obtain ⟨s, rfl⟩ := open_val Tryd.underlying26 sumE_of (hval 1 26 v1 rfl rfl) h1
    obtain ⟨t, rfl⟩ := open_val Tryd.underlying26 sumE_of (hval 2 26 v2 rfl rfl) h2
    unfold maxLen at hcm
    exact walk A c l s t W hr (by omega)
  have hds : ds.length = 3 := (trodAll_length hA).1
  refine hcall.mono fun e W' ⟨he, hb⟩ => ?_
  subst he
  refine ⟨_, rfl, law_post hW' rfl hA1 (by kernel_rfl) laidOut Tryd.underlying4 (by kernel_rfl) ?_ hb⟩
  match ds, hds with
  | [_, _, _], _ => rfl

set_option maxRecDepth 100000 in
theorem lifted (os : Os) (started : os.Started) (H : Type) (enc : TypeId × Value → H) (F : Stop.Interp) :
    ReturnsInHanded {} Tryd.checked os 5 .any ((OpenSpec.ofChange Rows.supersedeChainsSpec).preRow enc Tryd.prog Tryd.f5 Rows.supersedeChainsRow.domain false Rows.supersedeChainsRow.laid) (((OpenSpec.ofChange Rows.supersedeChainsSpec).at F).post enc Tryd.prog Tryd.f5 false true false false) := by
  obtain ⟨places, hx⟩ := reads os enc
  refine returnsInHanded_of_row (C := Tryd.checked) (s := OpenSpec.ofChange Rows.supersedeChainsSpec) own started (by kernel_rfl) Tryd.func5
    (witness_row_at (enc := enc) (C := Tryd.checked) false (laidWorld os) #[.slice none 0 0, .agg #[.string ByteArray.empty, .string ByteArray.empty, .string ByteArray.empty, .bool false, .string ByteArray.empty, .int .i64 0, .bool false, .bool false], .agg #[.string ByteArray.empty, .string ByteArray.empty, .string ByteArray.empty, .bool false, .string ByteArray.empty, .int .i64 0, .bool false, .bool false]] rfl (by kernel_rfl) (by kernel_rfl) (by kernel_rfl)
      (OpenSpec.preRow_of_cond 8 hx (by kernel_rfl) (fun k hk => by cases hk) (by kernel_rfl) (laid_met os))) ?_
  intro W base args ds gs before hval hW _ _ _ _ _ _
  exact contract H enc W base args ds gs before hval hW

theorem said : Rows.SupersedeChainsSaid :=
  OpenClaim.holds_of_cond 5 Tryd.f5 rfl rfl rfl rfl rfl rfl rfl ⟨rfl, rfl, rfl, rfl, rfl⟩ rfl rfl rfl rfl rfl (by kernel_rfl) Tryd.func5 (by kernel_rfl)
    (of_decide_eq_true (by kernel_rfl)) (by unfold Func.isWrapper; first | (rw [if_pos (by decide +kernel)]; kernel_rfl) | (rw [if_neg (by decide +kernel)]; exact ⟨rfl, rfl⟩))
    (fun os started H enc _ F => by rw [OpenClaim.pre_eq_preRow]; exact lifted os started H enc F)

theorem plain (f : FuncId) (fn : Func) (hf : Tryd.pinned.checked.prog.funcNamed Rows.supersedeChainsRow.func = some f) (hfn : Tryd.pinned.checked.prog.funcs[f]? = some fn) :
    false = Tryd.pinned.checked.prog.looks [] ∧ ∀ (j : Nat) t, fn.params[j]? = some t → Tryd.pinned.checked.prog.wantsStandIn t = false := by
  obtain rfl : f = 5 := Option.some.inj ((show Tryd.prog.funcNamed Rows.supersedeChainsRow.func = some 5 by kernel_rfl).symm.trans hf) |>.symm
  obtain rfl : fn = Tryd.f5 := (Option.some.inj (Tryd.func5.symm.trans hfn)).symm
  refine ⟨by kernel_rfl, fun j t ht => ?_⟩
  have hall : (Tryd.f5.params.toList.all fun t => !(Tryd.pinned.checked.prog.wantsStandIn t)) = true := by kernel_rfl
  have hm : t ∈ Tryd.f5.params.toList := Array.mem_toList_iff.2 (Array.mem_of_getElem? ht)
  simpa using List.all_eq_true.1 hall t hm

theorem proved : Rows.SupersedeChainsCardSaid :=
  Claim7.holds_tied_plain_at .later [] _ _ _ _ said (fun _ h => by cases h) (by kernel_rfl) (fun _ h => by cases h) supersedeChains_row_tie rfl ⟨rfl, rfl⟩ (by kernel_rfl) rfl plain (by kernel_rfl)
#print axioms proved
end Go.Proofs.YtfbnihemoaknjaaDoor.supersedeChains
