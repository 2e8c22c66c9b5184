/-
  The walks of provenance: equal lists of links; whether links are few and short; the laws' own link.
-/
import Derived.Test.YtjkijknjngiieaaDoorPrx7


namespace Go.Proofs.YtjkijknjngiieaaDoor
open Go.RowKit

def inS (y : OutR) : Bool := decide (y.name.1.size ≤ 600)
def shortB (x : Lkr) : Bool := (x.ins.take 12).all inS && (decide (x.run.1.size ≤ 600) && (decide (x.job.1.size ≤ 600) && (decide (x.name.1.size ≤ 600) && decide (x.ins.length ≤ 12))))
def fewB (l : List Lkr) : Bool := (l.take 14).all shortB && decide (l.length ≤ 14)
theorem short_mild {x : Lkr} (h : shortB x = true) : MildK x ∧ x.ins.length ≤ 12 := by
  unfold shortB at h
  simp only [Bool.and_eq_true, decide_eq_true_eq] at h
  obtain ⟨h1, h2, h3, h4, h5⟩ := h
  rw [List.take_of_length_le h5, List.all_eq_true] at h1
  exact ⟨⟨by omega, by omega, by omega, by omega, fun y hy => by have := h1 y hy; unfold inS at this; rw [decide_eq_true_eq] at this; omega⟩, h5⟩
theorem few_mildL {l : List Lkr} (h : fewB l = true) : MildL l ∧ l.length ≤ 14 := by
  unfold fewB at h
  rw [Bool.and_eq_true, decide_eq_true_eq] at h
  obtain ⟨h1, h2⟩ := h
  rw [List.take_of_length_le h2, List.all_eq_true] at h1
  exact ⟨⟨by omega, fun x hx => (short_mild (h1 x hx)).1⟩, h2⟩
theorem take_min {α : Type} (l : List α) {k n : Nat} (h : k ≤ n) : l.take k = (l.take n).take k := by rw [List.take_take, Nat.min_eq_left h]
/-- The laws' own link. -/
def rS : Str := ⟨⟨#[114]⟩, by decide⟩
def madeL (job nm : Str) (A : Option Addr) (C : Nat) (ins : List OutR) : Lkr := ⟨rS, job, ⟨1, by omega⟩, ⟨0, by omega⟩, A, C, ins, nm, ⟨5, by omega⟩, ⟨0, by omega⟩⟩
theorem made_any (job nm : Str) (A : Option Addr) (n C : Nat) (w : World) :
    Calls Tryd.prog 6 #[.string job.1, .string nm.1, .slice A n C] w fun e w' => e = .returned (.agg #[.string ⟨#[114]⟩, .string job.1, .int .i64 1, .int .u64 0, .slice A n C, .string nm.1, .int .u64 5, .int .i64 0]) ∧ Below w.heap.size w w' := by
  go_enter Tryd.func6, Tryd.ntmps6
  go_wp2_with fail
  exact bodyPost_ret (v := .agg #[.string ⟨#[114]⟩, .string job.1, .int .i64 1, .int .u64 0, .slice A n C, .string nm.1, .int .u64 5, .int .i64 0]) (by simp [results, Tryd.results6, go_sem]) rfl ⟨rfl, (by repeat (first | (with_reducible exact Below.refl _ _) | (with_reducible refine Below.drew ?_) | (with_reducible refine below_drewN ?_ _) | ((with_reducible refine Below.alloc ?_ ?_ _); rotate_left; focus ((try simp) <;> omega)) | ((with_reducible refine Below.setCell ?_ ?_ _); rotate_left; focus ((try simp) <;> omega)) | ((with_reducible refine Below.trans ?_ (Below.mono (by assumption) ?_)); rotate_left; focus ((try simp) <;> omega))))⟩
end Go.Proofs.YtjkijknjngiieaaDoor
