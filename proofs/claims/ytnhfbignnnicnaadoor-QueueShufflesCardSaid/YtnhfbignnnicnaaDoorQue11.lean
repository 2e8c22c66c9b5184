/-
  The walks of the queue: the jobs in order, by the program.
-/
import Derived.Test.YtnhfbignnnicnaaDoorQue10
import Derived.Test.YtnhfbignnnicnaaDoorQsort4



namespace Go.Proofs.YtnhfbignnnicnaaDoor
open Go.RowKit
open Go.Sort hiding Below

/-! ### How two jobs are compared is a preorder -/
section
variable {α : Type}
theorem pre3_lex {f g : α → α → Int} (hf : Pre3 f) (hg : Pre3 g) : Pre3 fun a b => if f a b ≠ 0 then f a b else g a b where
  neg a b := by
    have h1 := hf.neg a b
    have h2 := hg.neg a b
    by_cases h : f a b = 0
    · rw [if_neg (by omega), if_neg (by omega)]; exact h2
    · rw [if_pos (by omega), if_pos h]; exact h1
  trans a b c h1 h2 := by
    by_cases e1 : f a b = 0
    · rw [if_neg (by omega)] at h1
      by_cases e2 : f b c = 0
      · rw [if_neg (by omega)] at h2
        have e3 : f a c = 0 := by
          have k1 := hf.trans a b c (by omega) (by omega)
          have k2 := hf.trans c b a (by rw [hf.neg b c]; omega) (by rw [hf.neg a b]; omega)
          rw [hf.neg a c] at k2
          omega
        rw [if_neg (by omega)]; exact hg.trans a b c h1 h2
      · rw [if_pos e2] at h2
        have := hf.lt_trans' (a := a) (b := b) (c := c) (by omega) (by omega)
        rw [if_pos (by omega)]; omega
    · rw [if_pos e1] at h1
      have hbc : f b c ≤ 0 := by
        by_cases e2 : f b c = 0
        · omega
        · rw [if_pos e2] at h2; exact h2
      have := hf.lt_trans (a := a) (b := b) (c := c) (by omega) hbc
      rw [if_pos (by omega)]; omega
theorem pre3_key (k : α → Int) : Pre3 fun a b => Id.cmpI (k a) (k b) where
  neg a b := by unfold Id.cmpI; split <;> split <;> omega
  trans a b c h1 h2 := by unfold Id.cmpI at *; split at h1 <;> split at h2 <;> split <;> omega
theorem pre3_swap {f : α → α → Int} (hf : Pre3 f) : Pre3 fun a b => f b a where
  neg a b := hf.neg b a
  trans a b c h1 h2 := hf.trans c b a h2 h1
theorem pre3_str (k : α → Str) : Pre3 fun a b => cmpS (k a) (k b) where
  neg a b := ord_str.neg _ _
  trans a b c h1 h2 := by
    by_cases e1 : cmpS (k a) (k b) = 0
    · rw [(ord_str.zero _ _).1 e1]; exact h2
    · by_cases e2 : cmpS (k b) (k c) = 0
      · rw [← (ord_str.zero _ _).1 e2]; exact h1
      · have := ord_str.trans (k a) (k b) (k c) (by omega) (by omega); omega
end
theorem cfP_pre (now : Int) : Pre3 (cfP now) := by
  have h := pre3_lex (pre3_swap (pre3_key fun p : Pend => rankS p now)) (pre3_lex (pre3_key fun p : Pend => p.since.1) (pre3_lex (pre3_str fun p : Pend => p.run) (pre3_str fun p : Pend => p.job)))
  have e : cfP now = fun a b => if (fun p q : Pend => Id.cmpI (rankS q now) (rankS p now)) a b ≠ 0 then (fun p q : Pend => Id.cmpI (rankS q now) (rankS p now)) a b else (if Id.cmpI a.since.1 b.since.1 ≠ 0 then Id.cmpI a.since.1 b.since.1 else (if cmpS a.run b.run ≠ 0 then cmpS a.run b.run else cmpS a.job b.job)) := by
    funext p q
    unfold cfP orI orI orI orI orI
    simp only
    by_cases h : cmpS p.job q.job = 0
    · rw [h]; simp
    · simp [h]
  rw [e]; exact h
theorem cfP_core (now : Int) (p q : Pend) : cfP now (core p) (core q) = cfP now p q := rfl
theorem StableOf.map {α β : Type} {cf : α → α → Int} {cg : β → β → Int} {f : α → β} (hf : ∀ x y, cg (f x) (f y) = cf x y) {l out : List α} (h : StableOf cf l out) : StableOf cg (l.map f) (out.map f) := by
  obtain ⟨L, rfl, p, s⟩ := h
  refine ⟨L.map fun z => (f z.1, z.2), by simp, ?_, ?_⟩
  · have := p.map fun z : α × Nat => (f z.1, z.2)
    rw [List.zipIdx_map]
    exact this
  · rw [List.pairwise_map]
    refine s.imp fun {x y} k => ?_
    unfold lt2 at k ⊢
    rw [hf]; exact k

/-! ### The row that is sorted -/
def pendE2 (x : Pend × Nat) : List Value := pendE x.1
theorem holdsK_own {w : World} {base g cap : Nat} {l : List Pend} (h : Own pendE 10 27 w base (.slice (some ⟨g, 0, none⟩) l.length cap) l) : HoldsK pendE2 10 w g 0 l.zipIdx.toArray := by
  intro j hj
  have hj' : j < l.length * 10 := by simpa using hj
  refine ⟨?_, by rw [Nat.zero_add]; exact h.frozenAt j⟩
  rw [Nat.zero_add, h.cellAt j hj', get_flatK _ _ _ _ (by simpa using hj')]
  have h1 : j / 10 < l.length := by omega
  obtain ⟨x, hx⟩ := get_some h1
  have h2 : j % 10 < (pendE x).length := by rw [pendE_len]; omega
  have := flat_at pendE_len (u := (pendE x)[j % 10]) hx (List.getElem?_eq_getElem h2)
  rw [show j / 10 * 10 + j % 10 = j by omega] at this
  rw [this]
  obtain ⟨_, rfl⟩ := List.getElem?_eq_some_iff.1 hx
  have e : l.zipIdx.toArray[j / 10]! = (l[j / 10], j / 10) := by rw [getElem!_pos _ _ (by simpa using h1)]; simp
  rw [e]
  show some _ = some ((pendE l[j / 10])[j % 10]!)
  rw [getElem!_def, List.getElem?_eq_getElem h2]
theorem below_sortedK {α : Type} [Inhabited α] (enc : α → List Value) (k : Nat) {w : World} {B g off n : Nat} {d : Array α} {os : Array Obj} (hg : B ≤ g) (hB : B ≤ w.heap.size) : Below B w (sortWorldK enc k w g off n d os) :=
  ⟨rfl, rfl, rfl, by unfold sortWorldK; rw [size_grow, size_putRowK]; show w.heap.size ≤ w.heap.size + _; omega, fun b hb => by
    unfold sortWorldK
    rw [heap_grow_old _ _ (by rw [size_putRowK]; show b < w.heap.size; omega)]
    have : g ≠ b := by omega
    simp [putRowK, putRow, mapBlock, Sort.ahead, Array.getElem?_modify, this]⟩
theorem heap_sortedK {α : Type} [Inhabited α] (enc : α → List Value) (k : Nat) {w : World} {g off n b : Nat} {d : Array α} {os : Array Obj} (hb : b < w.heap.size) (hne : b ≠ g) : (sortWorldK enc k w g off n d os).heap[b]? = w.heap[b]? := by
  unfold sortWorldK
  rw [heap_grow_old _ _ (by rw [size_putRowK]; exact hb)]
  have : g ≠ b := fun e => hne e.symm
  simp [putRowK, putRow, mapBlock, Sort.ahead, Array.getElem?_modify, this]
theorem cell_sortedK {α : Type} [Inhabited α] (enc : α → List Value) (k : Nat) {w : World} {g off n : Nat} {d : Array α} {os : Array Obj} {a : Addr} (hb : a.block < w.heap.size) (hne : a.block ≠ g) : (sortWorldK enc k w g off n d os).cell? a = w.cell? a := by
  unfold sortWorldK
  rw [cell?_grow _ _ _ (by rw [size_putRowK]; exact hb), cell?_putRowK_other _ _ _ _ _ _ _ hne]
  rfl
theorem Own.at_same {α : Type} {enc : α → List Value} {k : Nat} {e : TypeId} {w w' : World} {b : Nat} {v : Value} {l : List α} (h : Own enc k e w b v l) (hs : ∀ g, v.ownBlock = some g → w'.heap[g]? = w.heap[g]?) : Own enc k e w' b v l := by
  refine ⟨h.1, ?_⟩
  rcases h.2 with hn | ⟨g, cap, cur, rfl, hb1, hg, r⟩
  · exact .inl hn
  · exact .inr ⟨g, cap, cur, rfl, hb1, (hs g rfl).trans hg, r⟩

theorem cmp_lays (now : I64) (b g off size : Nat) (w : World) (hb : w.cell? ⟨b, 0, none⟩ = some (.int .i64 now.1)) (hne : b ≠ g) : CmpLays Tryd.prog 38 #[.pointer (some ⟨b, 0, none⟩)] pendE2 10 (fun x y : Pend × Nat => cfP now.1 x.1 y.1) g off size w := by
  intro m os dk _ x y
  have hl := World.block_lt_of_cell? _ _ hb
  refine (order1_any x.1 y.1 now b _ ((cell_sortedK pendE2 10 hl hne).trans hb)).mono fun e w' h => ⟨h.1, h.2.grow⟩

theorem ins_none (A : Option Addr) (c : Nat) (f : Value) (w : World) : Calls Tryd.prog 59 #[.slice A 0 c, .int .i64 0, .int .i64 0, f] w fun e w' => e = .returned (.tuple #[]) ∧ w' = w := by
  go_enter Tryd.func59, Tryd.ntmps59
  go_wp2_with fail
  refine wp_loop_rounds 1 ?_
  rw [rounds_succ]
  go_wp2_with fail
  go_end0
  exact ⟨rfl, rfl⟩
theorem stable_none (A : Option Addr) (c : Nat) (f : Value) (w : World) : Calls Tryd.prog 50 #[.slice A 0 c, .int .i64 0, f] w fun e w' => e = .returned (.tuple #[]) ∧ w' = w := by
  go_enter Tryd.func50, Tryd.ntmps50
  go_wp2_with fail
  refine wp_loop_rounds 1 ?_
  rw [rounds_succ]
  go_wp2_with (go_at_call 59; go_must (refine (ins_none A c f _).mono ?_; rintro e w5 ⟨rfl, rfl⟩))
  refine wp_loop_rounds 1 ?_
  rw [rounds_succ]
  go_wp2_with fail
  go_end0
  exact ⟨rfl, rfl⟩
theorem sortStable_none (A : Option Addr) (c : Nat) (f : Value) (w : World) : Calls Tryd.prog 37 #[.slice A 0 c, f] w fun e w' => e = .returned (.tuple #[]) ∧ w' = w := by
  go_enter Tryd.func37, Tryd.ntmps37
  go_wp2_with (go_at_call 50; go_must (refine (stable_none A c f _).mono ?_; rintro e w5 ⟨rfl, rfl⟩))
  go_end0
  exact ⟨rfl, rfl⟩
end Go.Proofs.YtnhfbignnnicnaaDoor
