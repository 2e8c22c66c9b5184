/-
  The walks of histories: whether histories and timings are equal, by the reference; whether arguments are small.
-/
import Derived.Test.YtddepmelnemniaaGreatDoorHis28



namespace Go.Proofs.YtddepmelnemniaaGreatDoor
open Go.RowKit

def sampB (a b : Samp) : Bool := a.code.1 == b.code.1 && a.status.1 == b.status.1 && a.time.1 == b.time.1 && a.stamp.1 == b.stamp.1
theorem sampB_self (a : Samp) : sampB a a = true := by unfold sampB; simp
def sampI (a b c d a2 b2 c2 d2 : Int) : Bool := a == a2 && b == b2 && c == c2 && d == d2
theorem eq_samp (w : World) (a b c d a2 b2 c2 d2 : Int) : (binOp .eql 47 (.agg #[.int .u64 a, .int .i64 b, .int .i64 c, .int .i64 d]) (.agg #[.int .u64 a2, .int .i64 b2, .int .i64 c2, .int .i64 d2])).run Tryz.prog w = .ok (.bool (sampI a b c d a2 b2 c2 d2)) w := by
  have hp : Tryz.prog.stoodInHeld 47 = false := by kernel_rfl
  unfold sampI
  go_simp
  by_cases h1 : a = a2 <;> by_cases h2 : b = b2 <;> by_cases h3 : c = c2 <;> by_cases h4 : d = d2 <;> simp [h1, h2, h3, h4]
theorem ne_samp (w : World) (a b c d a2 b2 c2 d2 : Int) : (binOp .neq 47 (.agg #[.int .u64 a, .int .i64 b, .int .i64 c, .int .i64 d]) (.agg #[.int .u64 a2, .int .i64 b2, .int .i64 c2, .int .i64 d2])).run Tryz.prog w = .ok (.bool (!sampI a b c d a2 b2 c2 d2)) w := by
  have hp : Tryz.prog.stoodInHeld 47 = false := by kernel_rfl
  unfold sampI
  go_simp
  by_cases h1 : a = a2 <;> by_cases h2 : b = b2 <;> by_cases h3 : c = c2 <;> by_cases h4 : d = d2 <;> simp [h1, h2, h3, h4]
theorem sampI_self (a b c d : Int) : sampI a b c d a b c d = true := by unfold sampI; simp
def timB (a : ByteArray) (b : Int) (a2 : ByteArray) (b2 : Int) : Bool := a.toList == a2.toList && b == b2
theorem ne_tim (w : World) (a : ByteArray) (b : Int) (a2 : ByteArray) (b2 : Int) : (binOp .neq 75 (.agg #[.string a, .int .i64 b]) (.agg #[.string a2, .int .i64 b2])).run Tryz.prog w = .ok (.bool (!timB a b a2 b2)) w := by
  have hp : Tryz.prog.stoodInHeld 75 = false := by kernel_rfl
  unfold timB
  go_simp
  by_cases h1 : a.toList = a2.toList <;> by_cases h2 : b = b2 <;> simp [h1, h2]
theorem timB_self (a : ByteArray) (b : Int) : timB a b a b = true := by unfold timB; simp
attribute [local go_sem ↓] eq_samp ne_samp ne_tim
set_option maxRecDepth 100000 in
set_option maxHeartbeats 4000000 in
theorem equal_eq (nm : Str) (A A2 : Option Addr) (c c2 : Nat) (l : List Samp) (w : World) (h1 : Rw sampE 4 w w.heap.size A l) (h2 : Rw sampE 4 w w.heap.size A2 l) (hn : l.length ≤ 9223372036854775807) :
    Calls Tryz.prog 18 #[.agg #[.string nm.1, .slice A l.length c], .agg #[.string nm.1, .slice A2 l.length c2]] w fun e w' => e = .returned (.bool true) ∧ Below w.heap.size w w' := by
  replace h1 := Lib.hid h1
  replace h2 := Lib.hid h2
  obtain ⟨W1, hW1, hb1, hz1, a0, a1, b0, b1⟩ : ∃ W, (w.alloc (.cells #[.string nm.1, .slice A l.length c] 41)).alloc (.cells #[.string nm.1, .slice A2 l.length c2] 41) = W ∧ Below w.heap.size w W ∧ W.heap.size = w.heap.size + 2 ∧ W.cell? ⟨w.heap.size, 0, none⟩ = some (.string nm.1) ∧ W.cell? ⟨w.heap.size, 1, none⟩ = some (.slice A l.length c) ∧ W.cell? ⟨w.heap.size + 1, 0, none⟩ = some (.string nm.1) ∧ W.cell? ⟨w.heap.size + 1, 1, none⟩ = some (.slice A2 l.length c2) := ⟨_, rfl, (by repeat (first | (with_reducible exact Below.refl _ _) | (with_reducible refine Below.drew ?_) | (with_reducible refine below_drewN ?_ _) | ((with_reducible refine Below.alloc ?_ ?_ _); rotate_left; focus ((try simp) <;> omega)) | ((with_reducible refine Below.setCell ?_ ?_ _); rotate_left; focus ((try simp) <;> omega)) | ((with_reducible refine Below.trans ?_ (Below.mono (by assumption) ?_)); rotate_left; focus ((try simp) <;> omega)))), by simp, by go_simp, by go_simp, by go_simp, by go_simp⟩
  have hz1a := Nat.le_of_eq hz1
  have hz1b := Nat.le_of_eq hz1.symm
  replace hz1 := Lib.hid hz1
  go_enter Tryz.func18, Tryz.ntmps18
  go_wp2_with fail
  clear hW1
  go_loopw [5] (fun vi wr => ∃ k : Nat, k ≤ l.length ∧ vi = .int .i64 (k : Int) ∧ Below W1.heap.size W1 wr) (fun vi _ => l.length - (intOf vi).toNat)
  case atStart => exact ⟨0, Nat.zero_le _, rfl, Below.refl _ _⟩
  case round =>
    obtain ⟨k, hk, rfl, hbw⟩ := hrel
    have hz := hbw.size
    have q1 := (hbw.cell (p := ⟨w.heap.size, 1, none⟩) (show w.heap.size < W1.heap.size by omega)).trans a1
    have r1 := (hbw.cell (p := ⟨w.heap.size + 1, 1, none⟩) (show w.heap.size + 1 < W1.heap.size by omega)).trans b1
    clear a0 a1 b0 b1
    have hbw0 : Hid (Below w.heap.size w wr) := Lib.hid (hb1.trans (hbw.mono (by omega)))
    by_cases hkl : k < l.length
    · obtain ⟨x, hx⟩ := get_some hkl
      obtain ⟨g, o, hA, hg, q⟩ := h1.out (by omega)
      obtain ⟨g2, o2, hA2, hg2, q2⟩ := h2.out (by omega)
      have e0 := (hbw0.out.cell (p := ⟨g, o + k * 4, none⟩) hg).trans (q k x hx 0 (.int .u64 x.code.1) rfl)
      have e1 := (hbw0.out.cell (p := ⟨g, o + k * 4 + 1, none⟩) hg).trans (q k x hx 1 (.int .i64 x.status.1) rfl)
      have e2 := (hbw0.out.cell (p := ⟨g, o + k * 4 + 2, none⟩) hg).trans (q k x hx 2 (.int .i64 x.time.1) rfl)
      have e3 := (hbw0.out.cell (p := ⟨g, o + k * 4 + 3, none⟩) hg).trans (q k x hx 3 (.int .i64 x.stamp.1) rfl)
      have f0 := (hbw0.out.cell (p := ⟨g2, o2 + k * 4, none⟩) hg2).trans (q2 k x hx 0 (.int .u64 x.code.1) rfl)
      have f1 := (hbw0.out.cell (p := ⟨g2, o2 + k * 4 + 1, none⟩) hg2).trans (q2 k x hx 1 (.int .i64 x.status.1) rfl)
      have f2 := (hbw0.out.cell (p := ⟨g2, o2 + k * 4 + 2, none⟩) hg2).trans (q2 k x hx 2 (.int .i64 x.time.1) rfl)
      have f3 := (hbw0.out.cell (p := ⟨g2, o2 + k * 4 + 3, none⟩) hg2).trans (q2 k x hx 3 (.int .i64 x.stamp.1) rfl)
      rw [hA] at q1
      rw [hA2] at r1
      clear q q2
      replace hA := Lib.hid hA
      replace hA2 := Lib.hid hA2
      have i0 : (0 : Int) ≤ (k : Int) := by omega
      have i1 : (k : Int) < (l.length : Int) := by omega
      have hs := sampI_self x.code.1 x.status.1 x.time.1 x.stamp.1
      replace hx := Lib.hid hx
      go_wp2_with fail
      go_quiet (fail)
      go_wp2_with fail
      go_roundw
      case rel => exact ⟨k + 1, by omega, by go_num, (by repeat (first | (with_reducible exact Below.refl _ _) | (with_reducible refine Below.drew ?_) | (with_reducible refine below_drewN ?_ _) | ((with_reducible refine Below.alloc ?_ ?_ _); rotate_left; focus ((try simp) <;> omega)) | ((with_reducible refine Below.setCell ?_ ?_ _); rotate_left; focus ((try simp) <;> omega)) | ((with_reducible refine Below.trans ?_ (Below.mono (by assumption) ?_)); rotate_left; focus ((try simp) <;> omega))))⟩
      case measure => simp [intOf]; omega
    · have i1 : ¬ (k : Int) < (l.length : Int) := by omega
      go_wp2_with fail
      go_ret
      exact ⟨rfl, hbw0.out⟩
set_option maxRecDepth 100000 in
set_option maxHeartbeats 8000000 in
theorem same_eq (A A2 : Option Addr) (c c2 : Nat) (l l2 : List Hst) (w : World) (h1 : RwH w w.heap.size A l) (h2 : RwH w w.heap.size A2 l2) (he : l.map Hst.h = l2.map Hst.h) (hn : l.length ≤ 9223372036854775807) (hm : ∀ x ∈ l, x.l.length ≤ 1000000) :
    Calls Tryz.prog 15 #[.slice A l.length c, .slice A2 l2.length c2] w fun e w' => e = .returned (.bool true) ∧ Below w.heap.size w w' := by
  have hlen : l2.length = l.length := by simpa using (congrArg List.length he).symm
  rw [hlen]
  replace hlen := Lib.hid hlen
  replace h1 := Lib.hid h1
  replace h2 := Lib.hid h2
  replace he := Lib.hid he
  replace hm := Lib.hid hm
  go_enter Tryz.func15, Tryz.ntmps15
  go_wp2_with fail
  go_loopw [5] (fun vi wr => ∃ k : Nat, k ≤ l.length ∧ vi = .int .i64 (k : Int) ∧ Below w.heap.size w wr) (fun vi _ => l.length - (intOf vi).toNat)
  case atStart => exact ⟨0, Nat.zero_le _, rfl, Below.refl _ _⟩
  case round =>
    obtain ⟨k, hk, rfl, hbw⟩ := hrel
    have hz := hbw.size
    by_cases hkl : k < l.length
    · obtain ⟨x, hx⟩ := get_some hkl
      obtain ⟨y, hy⟩ := get_some (show k < l2.length by rw [hlen.out]; exact hkl)
      have hxy : x.h = y.h := by
        have h3 : (l.map Hst.h)[k]? = some x.h := by rw [List.getElem?_map, hx]; rfl
        rw [he.out, List.getElem?_map, hy] at h3
        simpa using h3.symm
      have hlx := (h1.out.labs x (List.mem_of_getElem? hx)).2.2
      have hly := (h2.out.labs y (List.mem_of_getElem? hy)).2.2
      have hxs := hm.out x (List.mem_of_getElem? hx)
      obtain ⟨g, o, rfl, hg, q⟩ := h1.out.row (by omega)
      obtain ⟨g2, o2, rfl, hg2, q2⟩ := h2.out.row (by rw [hlen.out]; omega)
      have e0 := (hbw.cell (p := ⟨g, o + k * 2, none⟩) hg).trans (q k x hx 0 (.string x.name.1) rfl)
      have e1 := (hbw.cell (p := ⟨g, o + k * 2 + 1, none⟩) hg).trans (q k x hx 1 (.slice x.lA x.l.length x.lC) rfl)
      have f0 := (hbw.cell (p := ⟨g2, o2 + k * 2, none⟩) hg2).trans (q2 k y hy 0 (.string y.name.1) rfl)
      have f1 := (hbw.cell (p := ⟨g2, o2 + k * 2 + 1, none⟩) hg2).trans (q2 k y hy 1 (.slice y.lA y.l.length y.lC) rfl)
      have hn1 : y.name = x.name := (congrArg Hs.name hxy).symm
      have hl1 : y.l = x.l := (congrArg Hs.l hxy).symm
      rw [hl1] at hly f1
      rw [hn1] at f0
      clear q q2 hl1 hn1 hxy
      have i0 : (0 : Int) ≤ (k : Int) := by omega
      have i1 : (k : Int) < (l.length : Int) := by omega
      have heq : Hid (∀ W, Below w.heap.size w W → Calls Tryz.prog 18 #[.agg #[.string x.name.1, .slice x.lA x.l.length x.lC], .agg #[.string x.name.1, .slice y.lA x.l.length y.lC]] W fun e w' => e = .returned (.bool true) ∧ Below W.heap.size W w') := Lib.hid fun W hb => equal_eq x.name x.lA y.lA x.lC y.lC x.l W ((hlx.below hb (Nat.le_refl _)).more hb.size) ((hly.below hb (Nat.le_refl _)).more hb.size) (by omega)
      replace hx := Lib.hid hx
      replace hy := Lib.hid hy
      replace hlx := Lib.hid hlx
      replace hly := Lib.hid hly
      go_wp2_with fail
      refine wp_region_held_drew (S := fun w' => w'.cell? ⟨g, o + k * 2, none⟩ = some (.string x.name.1) ∧ w'.cell? ⟨g, o + k * 2 + 1, none⟩ = some (.slice x.lA x.l.length x.lC) ∧ w'.cell? ⟨g2, o2 + k * 2, none⟩ = some (.string x.name.1) ∧ w'.cell? ⟨g2, o2 + k * 2 + 1, none⟩ = some (.slice y.lA x.l.length y.lC)) (by kernel_rfl) ?_ (fun hHeld => ?_)
      · first | (dsimp only; go_keep; done) | (go_keep; done) | (go_simp; done)
      rw [show (Array.replicate _ false : Array Bool) = #[false, false, false, false, false, false, false, false, false, false] from rfl]
      (refine wpAnyH_take (i := 0) (oi := Oper.mk _ _ _ _ _ _) (v := ?_) rfl (by kernel_rfl) (by kernel_rfl) (by kernel_rfl) (fun _ _ _ h => h) ?_ (by assumption) ?_; rotate_left; (focus (refine Or.inl ⟨by rfl, ?_⟩; intro wS hSw; (try dsimp only at hSw); go_simp; first | done | with_reducible rfl)); simp only [Act.put, List.setIfInBounds_toArray, List.set_cons_zero, List.set_cons_succ])
      (refine wpAnyH_take (i := 1) (oi := Oper.mk _ _ _ _ _ _) (v := ?_) rfl (by kernel_rfl) (by kernel_rfl) (by kernel_rfl) (fun _ _ _ h => h) ?_ (by assumption) ?_; rotate_left; (focus (refine Or.inl ⟨by rfl, ?_⟩; intro wS hSw; (try dsimp only at hSw); go_simp; first | done | with_reducible rfl)); simp only [Act.put, List.setIfInBounds_toArray, List.set_cons_zero, List.set_cons_succ])
      (refine wpAnyH_take (i := 2) (oi := Oper.mk _ _ _ _ _ _) (v := ?_) rfl (by kernel_rfl) (by kernel_rfl) (by kernel_rfl) (fun _ _ _ h => h) ?_ (by assumption) ?_; rotate_left; (focus (refine Or.inl ⟨by rfl, ?_⟩; intro wS hSw; (try dsimp only at hSw); go_simp; first | done | with_reducible rfl)); simp only [Act.put, List.setIfInBounds_toArray, List.set_cons_zero, List.set_cons_succ])
      (refine wpAnyH_take (i := 3) (oi := Oper.mk _ _ _ _ _ _) (v := ?_) rfl (by kernel_rfl) (by kernel_rfl) (by kernel_rfl) (fun _ _ _ h => h) ?_ (by assumption) ?_; rotate_left; (focus (refine Or.inl ⟨by rfl, ?_⟩; intro wS hSw; (try dsimp only at hSw); go_simp; first | done | with_reducible rfl)); simp only [Act.put, List.setIfInBounds_toArray, List.set_cons_zero, List.set_cons_succ])
      (refine wpAnyH_take (i := 4) (oi := Oper.mk _ _ _ _ _ _) (v := ?_) rfl (by kernel_rfl) (by kernel_rfl) (by kernel_rfl) (fun _ _ _ h => h) ?_ (by assumption) ?_; rotate_left; (focus (refine Or.inl ⟨by rfl, ?_⟩; intro wS hSw; (try dsimp only at hSw); go_simp; first | done | with_reducible rfl)); simp only [Act.put, List.setIfInBounds_toArray, List.set_cons_zero, List.set_cons_succ])
      (refine wpAnyH_take (i := 5) (oi := Oper.mk _ _ _ _ _ _) (v := ?_) rfl (by kernel_rfl) (by kernel_rfl) (by kernel_rfl) (fun _ _ _ h => h) ?_ (by assumption) ?_; rotate_left; (focus (refine Or.inl ⟨by rfl, ?_⟩; intro wS hSw; (try dsimp only at hSw); go_simp; first | done | with_reducible rfl)); simp only [Act.put, List.setIfInBounds_toArray, List.set_cons_zero, List.set_cons_succ])
      (refine wpAnyH_take (i := 6) (oi := Oper.mk _ _ _ _ _ _) (v := ?_) rfl (by kernel_rfl) (by kernel_rfl) (by kernel_rfl) (fun _ _ _ h => h) ?_ (by assumption) ?_; rotate_left; (focus (refine Or.inl ⟨by rfl, ?_⟩; intro wS hSw; (try dsimp only at hSw); go_simp; first | done | with_reducible rfl)); simp only [Act.put, List.setIfInBounds_toArray, List.set_cons_zero, List.set_cons_succ])
      (refine wpAnyH_take (i := 7) (oi := Oper.mk _ _ _ _ _ _) (v := ?_) rfl (by kernel_rfl) (by kernel_rfl) (by kernel_rfl) (fun _ _ _ h => h) ?_ (by assumption) ?_; rotate_left; (focus (refine Or.inl ⟨by rfl, ?_⟩; intro wS hSw; (try dsimp only at hSw); go_simp; first | done | with_reducible rfl)); simp only [Act.put, List.setIfInBounds_toArray, List.set_cons_zero, List.set_cons_succ])
      (refine wpAnyH_ready (rs := [8]) (by kernel_rfl) (by simp) ?_
       refine AllReadyH.cons (o := Oper.mk _ _ _ _ _ _) rfl (fun K hK => ?_) AllReadyH.nil
       go_simp
       (go_at_call 18; go_must (refine (heq.out _ (by repeat (first | (with_reducible exact Below.refl _ _) | (with_reducible refine Below.drew ?_) | (with_reducible refine below_drewN ?_ _) | ((with_reducible refine Below.alloc ?_ ?_ _); rotate_left; focus ((try simp) <;> omega)) | ((with_reducible refine Below.setCell ?_ ?_ _); rotate_left; focus ((try simp) <;> omega)) | ((with_reducible refine Below.trans ?_ (Below.mono (by assumption) ?_)); rotate_left; focus ((try simp) <;> omega))))).mono ?_; rintro e w3 ⟨rfl, hb3⟩; have hz3 := hb3.size; (try simp at hz3)))
       refine hK.out _ _ ?_ (fun hHeld => ?_)
       · have hg3 : g < w3.heap.size := (by omega)
         obtain ⟨hc3, hf3⟩ := blk_at hb3 g (by (try simp) <;> omega)
         obtain ⟨hd3, he3⟩ := blk_at hb3 g2 (by (try simp) <;> omega)
         first | (dsimp only; go_keep; done) | (go_keep; done)
       clear hK K
       (try simp only [List.setIfInBounds_toArray, List.set_cons_zero, List.set_cons_succ]))
      (refine wpAnyH_take (i := 9) (oi := Oper.mk _ _ _ _ _ _) (v := ?_) rfl (by kernel_rfl) (by kernel_rfl) (by kernel_rfl) (fun _ _ _ h => h) ?_ (by assumption) ?_; rotate_left; (focus (refine Or.inl ⟨by rfl, ?_⟩; intro wS hSw; (try dsimp only at hSw); go_simp; first | done | with_reducible rfl)); simp only [Act.put, List.setIfInBounds_toArray, List.set_cons_zero, List.set_cons_succ])
      refine wpAnyH_done (by kernel_rfl) ?_ _
      go_wp2_with fail
      go_roundw
      case rel => exact ⟨k + 1, by omega, by go_num, (by repeat (first | (with_reducible exact Below.refl _ _) | (with_reducible refine Below.drew ?_) | (with_reducible refine below_drewN ?_ _) | ((with_reducible refine Below.alloc ?_ ?_ _); rotate_left; focus ((try simp) <;> omega)) | ((with_reducible refine Below.setCell ?_ ?_ _); rotate_left; focus ((try simp) <;> omega)) | ((with_reducible refine Below.trans ?_ (Below.mono (by assumption) ?_)); rotate_left; focus ((try simp) <;> omega))))⟩
      case measure => simp [intOf]; omega
    · have i1 : ¬ (k : Int) < (l.length : Int) := by omega
      go_wp2_with fail
      go_ret
      exact ⟨rfl, hbw⟩
set_option maxRecDepth 100000 in
set_option maxHeartbeats 4000000 in
theorem timings_eq (A A2 : Option Addr) (c c2 : Nat) (l : List Tim) (w : World) (h1 : Rw timE 2 w w.heap.size A l) (h2 : Rw timE 2 w w.heap.size A2 l) (hn : l.length ≤ 9223372036854775807) :
    Calls Tryz.prog 20 #[.slice A l.length c, .slice A2 l.length c2] w fun e w' => e = .returned (.bool true) ∧ Below w.heap.size w w' := by
  replace h1 := Lib.hid h1
  replace h2 := Lib.hid h2
  go_enter Tryz.func20, Tryz.ntmps20
  go_wp2_with fail
  go_loopw [5] (fun vi wr => ∃ k : Nat, k ≤ l.length ∧ vi = .int .i64 (k : Int) ∧ Below w.heap.size w wr) (fun vi _ => l.length - (intOf vi).toNat)
  case atStart => exact ⟨0, Nat.zero_le _, rfl, Below.refl _ _⟩
  case round =>
    obtain ⟨k, hk, rfl, hbw⟩ := hrel
    have hz := hbw.size
    by_cases hkl : k < l.length
    · obtain ⟨x, hx⟩ := get_some hkl
      obtain ⟨g, o, rfl, hg, q⟩ := h1.out (by omega)
      obtain ⟨g2, o2, rfl, hg2, q2⟩ := h2.out (by omega)
      have e0 := (hbw.cell (p := ⟨g, o + k * 2, none⟩) hg).trans (q k x hx 0 (.string x.name.1) rfl)
      have e1 := (hbw.cell (p := ⟨g, o + k * 2 + 1, none⟩) hg).trans (q k x hx 1 (.int .i64 x.time.1) rfl)
      have f0 := (hbw.cell (p := ⟨g2, o2 + k * 2, none⟩) hg2).trans (q2 k x hx 0 (.string x.name.1) rfl)
      have f1 := (hbw.cell (p := ⟨g2, o2 + k * 2 + 1, none⟩) hg2).trans (q2 k x hx 1 (.int .i64 x.time.1) rfl)
      clear q q2
      have i0 : (0 : Int) ≤ (k : Int) := by omega
      have i1 : (k : Int) < (l.length : Int) := by omega
      have hs := timB_self x.name.1 x.time.1
      replace hx := Lib.hid hx
      go_wp2_with fail
      go_quiet (fail)
      go_wp2_with fail
      go_roundw
      case rel => exact ⟨k + 1, by omega, by go_num, (by repeat (first | (with_reducible exact Below.refl _ _) | (with_reducible refine Below.drew ?_) | (with_reducible refine below_drewN ?_ _) | ((with_reducible refine Below.alloc ?_ ?_ _); rotate_left; focus ((try simp) <;> omega)) | ((with_reducible refine Below.setCell ?_ ?_ _); rotate_left; focus ((try simp) <;> omega)) | ((with_reducible refine Below.trans ?_ (Below.mono (by assumption) ?_)); rotate_left; focus ((try simp) <;> omega))))⟩
      case measure => simp [intOf]; omega
    · have i1 : ¬ (k : Int) < (l.length : Int) := by omega
      go_wp2_with fail
      go_ret
      exact ⟨rfl, hbw⟩
end Go.Proofs.YtddepmelnemniaaGreatDoor
