/-
  The walks of provenance: equal links, by the reference.
-/
import Derived.Test.YtjkijknjngiieaaGreatDoorPrx6


namespace Go.Proofs.YtjkijknjngiieaaGreatDoor
open Go.RowKit

def outI (a : ByteArray) (d s : Int) (a2 : ByteArray) (d2 s2 : Int) : Bool := a.toList == a2.toList && d == d2 && s == s2
theorem outI_self (a : ByteArray) (d s : Int) : outI a d s a d s = true := by unfold outI; simp
theorem eq_out (w : World) (a : ByteArray) (d s : Int) (a2 : ByteArray) (d2 s2 : Int) : (binOp .eql 29 (.agg #[.string a, .int .u64 d, .int .i64 s]) (.agg #[.string a2, .int .u64 d2, .int .i64 s2])).run Tryz.prog w = .ok (.bool (outI a d s a2 d2 s2)) w := by
  have hp : Tryz.prog.stoodInHeld 29 = false := by kernel_rfl
  unfold outI
  go_simp
  by_cases h1 : a.toList = a2.toList <;> by_cases h2 : d = d2 <;> by_cases h3 : s = s2 <;> simp [h1, h2, h3]
theorem ne_out (w : World) (a : ByteArray) (d s : Int) (a2 : ByteArray) (d2 s2 : Int) : (binOp .neq 29 (.agg #[.string a, .int .u64 d, .int .i64 s]) (.agg #[.string a2, .int .u64 d2, .int .i64 s2])).run Tryz.prog w = .ok (.bool (!outI a d s a2 d2 s2)) w := by
  have hp : Tryz.prog.stoodInHeld 29 = false := by kernel_rfl
  unfold outI
  go_simp
  by_cases h1 : a.toList = a2.toList <;> by_cases h2 : d = d2 <;> by_cases h3 : s = s2 <;> simp [h1, h2, h3]
def refI (a b a2 b2 : ByteArray) : Bool := a.toList == a2.toList && b.toList == b2.toList
theorem refI_self (a b : ByteArray) : refI a b a b = true := by unfold refI; simp
theorem eq_refK (w : World) (a b a2 b2 : ByteArray) : (binOp .eql 24 (.agg #[.string a, .string b]) (.agg #[.string a2, .string b2])).run Tryz.prog w = .ok (.bool (refI a b a2 b2)) w := by
  have hp : Tryz.prog.stoodInHeld 24 = false := by kernel_rfl
  unfold refI
  go_simp
  by_cases h1 : a.toList = a2.toList <;> by_cases h2 : b.toList = b2.toList <;> simp [h1, h2]
attribute [local go_sem ↓] eq_out ne_out eq_refK
set_option maxRecDepth 100000 in
set_option maxHeartbeats 4000000 in
theorem sameouts_eq (A A2 : Option Addr) (c c2 : Nat) (l : List OutR) (w : World) (h1 : Rw outRE 3 w w.heap.size A l) (h2 : Rw outRE 3 w w.heap.size A2 l) (hn : l.length ≤ 1000000) :
    Calls Tryz.prog 44 #[.slice A l.length c, .slice A2 l.length c2] w fun e w' => e = .returned (.bool true) ∧ Below w.heap.size w w' := by
  replace h1 := Lib.hid h1
  replace h2 := Lib.hid h2
  go_enter Tryz.func44, Tryz.ntmps44
  go_wp2_with fail
  go_loopw [5] (fun vi wr => ∃ k : Nat, k ≤ l.length ∧ vi = .int .i64 (k : Int) ∧ Below w.heap.size w wr) (fun vi _ => l.length - (intOf vi).toNat)
  case atStart => exact ⟨0, Nat.zero_le _, rfl, Below.refl _ _⟩
  case round =>
    obtain ⟨k, hk, rfl, hbw⟩ := hrel
    have hz := hbw.size
    by_cases hkl : k < l.length
    · obtain ⟨x, hx⟩ := get_some hkl
      obtain ⟨g, o, rfl, hg, q⟩ := h1.out (by omega)
      obtain ⟨g2, o2, rfl, hg2, q2⟩ := h2.out (by omega)
      have e0 := (hbw.cell (p := ⟨g, o + k * 3 + 0, none⟩) hg).trans (q k x hx 0 (.string x.name.1) rfl)
      have e1 := (hbw.cell (p := ⟨g, o + k * 3 + 1, none⟩) hg).trans (q k x hx 1 (.int .u64 x.digest.1) rfl)
      have e2 := (hbw.cell (p := ⟨g, o + k * 3 + 2, none⟩) hg).trans (q k x hx 2 (.int .i64 x.size.1) rfl)
      have f0 := (hbw.cell (p := ⟨g2, o2 + k * 3 + 0, none⟩) hg2).trans (q2 k x hx 0 (.string x.name.1) rfl)
      have f1 := (hbw.cell (p := ⟨g2, o2 + k * 3 + 1, none⟩) hg2).trans (q2 k x hx 1 (.int .u64 x.digest.1) rfl)
      have f2 := (hbw.cell (p := ⟨g2, o2 + k * 3 + 2, none⟩) hg2).trans (q2 k x hx 2 (.int .i64 x.size.1) rfl)
      rw [Nat.add_zero] at e0 f0
      clear q q2
      have i0 : (0 : Int) ≤ (k : Int) := by omega
      have i1 : (k : Int) < (l.length : Int) := by omega
      have hs := outI_self x.name.1 x.digest.1 x.size.1
      replace hx := Lib.hid hx
      go_wp2_with fail
      go_quiet (fail)
      go_wp2_with fail
      go_roundw
      case rel => exact ⟨k + 1, by omega, by go_num, (by repeat (first | (with_reducible exact Below.refl _ _) | (with_reducible refine Below.drew ?_) | (with_reducible refine below_drewN ?_ _) | ((with_reducible refine Below.alloc ?_ ?_ _); rotate_left; focus ((try simp) <;> omega)) | ((with_reducible refine Below.setCell ?_ ?_ _); rotate_left; focus ((try simp) <;> omega)) | ((with_reducible refine Below.trans ?_ (Below.mono (by assumption) ?_)); rotate_left; focus ((try simp) <;> omega))))⟩
      case measure => simp [intOf]; omega
    · have i1 : ¬ (k : Int) < (l.length : Int) := by omega
      go_wp2_with fail
      go_ret
      exact ⟨rfl, hbw⟩
set_option maxRecDepth 100000 in
set_option maxHeartbeats 4000000 in
theorem samelink_eqA (x : Lkr) (A A2 : Option Addr) (C C2 : Nat) (w : World) (h1 : Rw outRE 3 w w.heap.size A x.ins) (h2 : Rw outRE 3 w w.heap.size A2 x.ins) (hn : x.ins.length ≤ 1000000) :
    Calls Tryz.prog 18 #[.agg #[.string x.run.1, .string x.job.1, .int .i64 x.attempt.1, .int .u64 x.spec.1, .slice A x.ins.length C, .string x.name.1, .int .u64 x.digest.1, .int .i64 x.size.1], .agg #[.string x.run.1, .string x.job.1, .int .i64 x.attempt.1, .int .u64 x.spec.1, .slice A2 x.ins.length C2, .string x.name.1, .int .u64 x.digest.1, .int .i64 x.size.1]] w fun e w' => e = .returned (.bool true) ∧ Below w.heap.size w w' := by
  have ho := Lib.hid (fun W (hb : Below w.heap.size w W) => sameouts_eq A A2 C C2 x.ins W ((h1.below hb (Nat.le_refl _)).more hb.size) ((h2.below hb (Nat.le_refl _)).more hb.size) hn)
  have hs := outI_self x.name.1 x.digest.1 x.size.1
  have ht := refI_self x.run.1 x.job.1
  clear h1 h2
  go_enter Tryz.func18, Tryz.ntmps18
  go_wp2_with (go_at_call 44; go_must (refine (ho.out _ (by repeat (first | (with_reducible exact Below.refl _ _) | (with_reducible refine Below.drew ?_) | (with_reducible refine below_drewN ?_ _) | ((with_reducible refine Below.alloc ?_ ?_ _); rotate_left; focus ((try simp) <;> omega)) | ((with_reducible refine Below.setCell ?_ ?_ _); rotate_left; focus ((try simp) <;> omega)) | ((with_reducible refine Below.trans ?_ (Below.mono (by assumption) ?_)); rotate_left; focus ((try simp) <;> omega))))).mono ?_; rintro e w2 ⟨rfl, hb2⟩; have hz2 := hb2.size; (try simp at hz2); obtain ⟨hc2, hf2⟩ := blk_at hb2 w.heap.size (by (try simp) <;> omega); obtain ⟨hd2, he2⟩ := blk_at hb2 (w.heap.size + 1) (by (try simp) <;> omega)))
  go_ret
  exact ⟨rfl, (by repeat (first | (with_reducible exact Below.refl _ _) | (with_reducible refine Below.drew ?_) | (with_reducible refine below_drewN ?_ _) | ((with_reducible refine Below.alloc ?_ ?_ _); rotate_left; focus ((try simp) <;> omega)) | ((with_reducible refine Below.setCell ?_ ?_ _); rotate_left; focus ((try simp) <;> omega)) | ((with_reducible refine Below.trans ?_ (Below.mono (by assumption) ?_)); rotate_left; focus ((try simp) <;> omega))))⟩
theorem samelink_eq (x y : Lkr) (w : World) (hx : LabLkr w w.heap.size x) (hy : LabLkr w w.heap.size y) (h : x.h = y.h) (hn : x.ins.length ≤ 1000000) :
    Calls Tryz.prog 18 #[.agg #[.string x.run.1, .string x.job.1, .int .i64 x.attempt.1, .int .u64 x.spec.1, .slice x.insA x.ins.length x.insC, .string x.name.1, .int .u64 x.digest.1, .int .i64 x.size.1], .agg #[.string y.run.1, .string y.job.1, .int .i64 y.attempt.1, .int .u64 y.spec.1, .slice y.insA y.ins.length y.insC, .string y.name.1, .int .u64 y.digest.1, .int .i64 y.size.1]] w fun e w' => e = .returned (.bool true) ∧ Below w.heap.size w w' := by
  obtain ⟨run, job, attempt, spec, A2, C2, ins, name, digest, size⟩ := y
  have e1 : x.run = run := congrArg Lnk.run h
  have e2 : x.job = job := congrArg Lnk.job h
  have e3 : x.attempt = attempt := congrArg Lnk.attempt h
  have e4 : x.spec = spec := congrArg Lnk.spec h
  have e5 : x.ins = ins := congrArg Lnk.ins h
  have e6 : x.name = name := congrArg (fun l : Lnk => l.out.name) h
  have e7 : x.digest = digest := congrArg (fun l : Lnk => l.out.digest) h
  have e8 : x.size = size := congrArg (fun l : Lnk => l.out.size) h
  subst e1 e2 e3 e4 e5 e6 e7 e8
  exact samelink_eqA x x.insA A2 x.insC C2 w hx.2.2 hy.2.2 hn
end Go.Proofs.YtjkijknjngiieaaGreatDoor
