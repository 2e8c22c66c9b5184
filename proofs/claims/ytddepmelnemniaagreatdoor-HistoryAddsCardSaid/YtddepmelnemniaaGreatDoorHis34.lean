/-
  Histories with one more sample, as the reference makes them (plain); what lies in new memory.
-/
import Derived.Test.YtddepmelnemniaaGreatDoorHis30

namespace Go.Proofs.YtddepmelnemniaaGreatDoor
open Go.RowKit

def cut1 (l : List Samp) : List Samp := if 32 < l.length then l.drop 1 else l
theorem cut1_cut {l : List Samp} (h : l.length ≤ 33) : cut1 l = cutS l := by
  unfold cut1 cutS
  split
  · rw [show l.length - 32 = 1 by omega]
  · rw [show l.length - 32 = 0 by omega, List.drop_zero]
/-- The rest of the histories with one more sample, that has been put already or not. -/
def wR (nm : Str) (s : Samp) : Bool → List Hs → List Hs
  | d, [] => if d = true then [] else [⟨nm, [s]⟩]
  | d, h :: t => (if d = false ∧ cmpS nm h.name < 0 then [⟨nm, [s]⟩] else []) ++ (if nm = h.name then ⟨h.name, cut1 (h.l ++ [s])⟩ else h) :: wR nm s (d || decide (cmpS nm h.name < 0) || decide (nm = h.name)) t
theorem wR_cons (nm : Str) (s : Samp) (d : Bool) (h : Hs) (t : List Hs) : wR nm s d (h :: t) = (if d = false ∧ cmpS nm h.name < 0 then [⟨nm, [s]⟩] else []) ++ (if nm = h.name then ⟨h.name, cut1 (h.l ++ [s])⟩ else h) :: wR nm s (d || decide (cmpS nm h.name < 0) || decide (nm = h.name)) t := rfl
theorem wR_done {nm : Str} {s : Samp} : ∀ {t : List Hs}, (∀ x ∈ t, nm ≠ x.name) → wR nm s true t = t
  | [], _ => by unfold wR; rw [if_pos rfl]
  | x :: t, h => by
    rw [wR_cons, if_neg (fun e => by cases e.1), if_neg (h x List.mem_cons_self), Bool.true_or, Bool.true_or, wR_done fun y hy => h y (List.mem_cons_of_mem _ hy), List.nil_append]
theorem wR_rest {nm : Str} {s : Samp} {t : List Hs} (h : ∀ x ∈ t, cmpS nm x.name < 0) : wR nm s false t = ⟨nm, [s]⟩ :: t := by
  cases t with
  | nil => unfold wR; rw [if_neg (by decide)]
  | cons x t =>
    have h1 := h x List.mem_cons_self
    rw [wR_cons, if_pos ⟨rfl, h1⟩, if_neg (cmp_ne h1), decide_eq_true h1, Bool.or_true, Bool.true_or, wR_done fun y hy => cmp_ne (h y (List.mem_cons_of_mem _ hy))]
    rfl
theorem wR_pre {nm : Str} {s : Samp} {t : List Hs} : ∀ {A : List Hs}, (∀ x ∈ A, cmpS x.name nm < 0) → wR nm s false (A ++ t) = A ++ wR nm s false t
  | [], _ => rfl
  | x :: A, h => by
    have h1 := h x List.mem_cons_self
    have h2 : ¬ cmpS nm x.name < 0 := by rw [ord_str.neg]; omega
    have h3 : nm ≠ x.name := fun e => cmp_ne h1 e.symm
    rw [List.cons_append, wR_cons, if_neg (fun e => h2 e.2), if_neg h3, decide_eq_false h2, decide_eq_false h3, Bool.or_false, Bool.or_false, wR_pre fun y hy => h y (List.mem_cons_of_mem _ hy)]
    rfl
theorem wR_with {l : List Hs} (ha : AscN l) (nm : Str) (s : Samp) (hl : ∀ x ∈ l, x.l.length ≤ 32) : wR nm s false l = withL l nm s := by
  obtain ⟨A, m, B, e, ew, _, h⟩ := with_split ha nm s
  rcases h with ⟨rfl, _, ho, _, hA, hB⟩ | ⟨x, rfl, hx, ho, _⟩
  · rw [ew, ho, e, List.append_nil, wR_pre hA, wR_rest hB]
    rfl
  · have hp := asc_pair.1 ha
    rw [e, List.append_assoc, List.singleton_append, List.pairwise_append, List.pairwise_cons] at hp
    have hA : ∀ y ∈ A, cmpS y.name nm < 0 := fun y hy => by rw [← hx]; exact hp.2.2 y hy x List.mem_cons_self
    have hB : ∀ y ∈ B, nm ≠ y.name := fun y hy => by rw [← hx]; exact cmp_ne (hp.2.1.1 y hy)
    have hxl := hl x (by rw [e]; simp)
    have h0 : ¬ cmpS nm x.name < 0 := fun h => cmp_ne h hx.symm
    rw [ew, ho, e, List.append_assoc, List.singleton_append, wR_pre hA, wR_cons, if_neg (fun e => h0 e.2), if_pos hx.symm, decide_eq_true hx.symm, Bool.or_true, wR_done hB, cut1_cut (by rw [List.length_append, List.length_singleton]; omega), hx]
    rfl
theorem wR_step {nm : Str} {s : Samp} {d : Bool} {L : List Hs} {k : Nat} {h : Hs} (hx : L[k]? = some h) : wR nm s d (L.drop k) = (if d = false ∧ cmpS nm h.name < 0 then [⟨nm, [s]⟩] else []) ++ (if nm = h.name then ⟨h.name, cut1 (h.l ++ [s])⟩ else h) :: wR nm s (d || decide (cmpS nm h.name < 0) || decide (nm = h.name)) (L.drop (k + 1)) := by
  rw [drop_at hx, wR_cons]
/-- What lies in new memory reads as a history's samples. -/
theorem labs_own {w : World} {H n c : Nat} {A : Option Addr} {l : List Samp} (h : Own sampE 4 47 w H (.slice A n c) l) (hn : n = l.length) (nm : Str) : LabS w ⟨nm, A, c, l⟩ := by
  subst hn
  rcases A with _ | A
  · have h0 := rw_none (h.reads sampE_len)
    subst h0
    exact ⟨⟨Nat.zero_le _, (by obtain ⟨A', c', e, _, h3, _⟩ := h.form; simp only [Value.slice.injEq] at e; obtain ⟨-, -, rfl⟩ := e; exact h3), Rw.nil⟩, fun p hp => by cases hp⟩
  · exact own_labs h nm
theorem labs_drop {w : World} {H g c a : Nat} {l : List Samp} (h : Own sampE 4 47 w H (.slice (some ⟨g, 0, none⟩) l.length c) l) (ha : a ≤ l.length) (nm : Str) : LabS w ⟨nm, some ⟨g, a * 4, none⟩, c - a, l.drop a⟩ := by
  obtain ⟨_, h1, h2, h3⟩ := own_form h
  refine ⟨⟨?_, by show c - a ≤ maxLen; omega, ?_⟩, fun p hp => by cases hp; exact h3⟩
  · show (l.drop a).length ≤ c - a
    rw [List.length_drop]
    omega
  · show Rw sampE 4 w w.heap.size (some ⟨g, a * 4, none⟩) (l.drop a)
    have h5 := (h.reads sampE_len).cut (a := a) (b := l.length)
    rwa [List.take_length, Nat.zero_add] at h5
theorem labs_new {w : World} {g : Nat} (hg : g = w.heap.size) (nm : Str) (x : Samp) : LabS (w.alloc (.cells #[.int .u64 x.code.1, .int .i64 x.status.1, .int .i64 x.time.1, .int .i64 x.stamp.1] 47)) ⟨nm, some ⟨g, 0, none⟩, 1, [x]⟩ :=
  ⟨⟨Nat.le_refl _, (show 1 ≤ maxLen by decide), rw_samp hg (by rw [hg, World.size_alloc]; exact Nat.lt_succ_self _)⟩, fun p hp => by cases hp; subst hg; exact ⟨_, _, heap_alloc_new _ _⟩⟩
theorem samp_cells {w : World} {B g : Nat} {s : Samp} (h : Rw sampE 4 w B (some ⟨g, 0, none⟩) [s]) : w.cell? ⟨g, 0, none⟩ = some (.int .u64 s.code.1) ∧ w.cell? ⟨g, 1, none⟩ = some (.int .i64 s.status.1) ∧ w.cell? ⟨g, 2, none⟩ = some (.int .i64 s.time.1) ∧ w.cell? ⟨g, 3, none⟩ = some (.int .i64 s.stamp.1) := by
  obtain ⟨g', o', e, _, q⟩ := h (Nat.zero_lt_one)
  simp only [Option.some.injEq, Addr.mk.injEq] at e
  obtain ⟨rfl, rfl, _⟩ := e
  have q0 := q 0 s rfl 0 _ rfl
  have q1 := q 0 s rfl 1 _ rfl
  have q2 := q 0 s rfl 2 _ rfl
  have q3 := q 0 s rfl 3 _ rfl
  simp only [Nat.zero_mul, Nat.zero_add] at q0 q1 q2 q3
  exact ⟨q0, q1, q2, q3⟩
end Go.Proofs.YtddepmelnemniaaGreatDoor
