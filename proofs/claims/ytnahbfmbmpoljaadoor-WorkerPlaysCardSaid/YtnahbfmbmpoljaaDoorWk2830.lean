/-
  The walks of workers: a lease removed, by the program.
  The walks of workers: a lease removed, by the program.
-/
import Derived.Test.YtnahbfmbmpoljaaDoorWk26
import Derived.Test.YtnahbfmbmpoljaaDoorShelf

namespace Go.Proofs.YtnahbfmbmpoljaaDoor
open Go.RowKit Go.Sort

def eI (x : I64) : Value := .int .i64 x.1
theorem heap_put {w : World} {g q : Nat} {cur : Array Value} {e : TypeId} {d : Array I64} (hg : w.heap[g]? = some (.cells cur e (0, 0))) : (putRow eI (Sort.ahead w q) g 0 d).heap[g]? = some (.cells (putCells eI 0 d cur) e (0, 0)) := by
  simp [putRow, mapBlock, Sort.ahead, Array.getElem?_modify, hg, onCells]
theorem grown_put (w : World) (g q : Nat) (d : Array I64) : w.grownBy (putRow eI (Sort.ahead w q) g 0 d) (some g) :=
  ⟨rfl, rfl, rfl, by simp, fun k hk hne => by
    have : g ≠ k := fun h => hne (by rw [h])
    simp [putRow, mapBlock, Sort.ahead, Array.getElem?_modify, this]⟩
theorem own_holds {w : World} {base g cap : Nat} {l : List I64} (h : Own iE 1 3 w base (.slice (some ⟨g, 0, none⟩) l.length cap) l) : Holds eI w g 0 l.toArray := by
  intro j hj
  have hj' : j < l.length := by simpa using hj
  rw [Nat.zero_add]
  refine ⟨?_, h.frozenAt _⟩
  obtain ⟨y, hy⟩ := get_some hj'
  obtain ⟨g', o', e, _, hc⟩ := (h.reads iE_len).int (by omega)
  simp only [Option.some.injEq, Addr.mk.injEq] at e
  obtain ⟨rfl, rfl, _⟩ := e
  have := hc j y hy
  rw [Nat.zero_add] at this
  rw [this, getElem!_def, List.getElem?_toArray, hy]
  rfl
theorem own_put {w : World} {H g cap q : Nat} {l r : List I64} {d : Array I64} (hown : Own iE 1 3 w H (.slice (some ⟨g, 0, none⟩) l.length cap) l) (hd : d.size = l.length) (hr : r.length ≤ l.length) (hdr : ∀ (j : Nat) (y : I64), r[j]? = some y → d[j]! = y) :
    Own iE 1 3 (putRow eI (Sort.ahead w q) g 0 d) H (.slice (some ⟨g, 0, none⟩) r.length cap) r := by
  have hh := own_holds hown
  obtain ⟨hH, hlc, hm, cur, hg, hs⟩ := own_block hown
  refine own_of_cells iE_len hH (heap_put hg) (by unfold putCells; rw [Array.size_mapIdx]; exact hs) (by omega) hm ?_
  intro t u hu
  have ht : t < r.length := by have := (List.getElem?_eq_some_iff.1 hu).1; rw [flat_len iE_len] at this; omega
  obtain ⟨y, hy⟩ := get_some ht
  have hu2 : u = .int .i64 y.1 := by
    have e : r.flatMap iE = r.map eI := by
      clear hu hy ht hdr hr hd
      induction r with
      | nil => rfl
      | cons s r ih => rw [List.flatMap_cons, ih]; rfl
    rw [e, List.getElem?_map, hy] at hu
    simpa [eI] using hu.symm
  have h1 := cell?_putRow eI (Sort.ahead w q) g 0 l.toArray d hh (by simpa using hd) t (by omega)
  rw [Nat.zero_add] at h1
  rw [h1, hdr t y hy, hu2]
  rfl

theorem detach1_any (n t : Int) (g : Nat) (W : World) (hc : W.cell? ⟨g, 0, none⟩ = some (.int .i64 t)) : Calls Tryd.prog 51 #[.int .i64 n, .pointer (some ⟨g, 0, none⟩)] W fun e w' => e = .returned (.bool (n == t)) ∧ ∃ q, w' = W.drewN q := by
  go_enter Tryd.func51, Tryd.ntmps51
  go_wp2_with fail
  go_ret
  exact ⟨rfl, 0, rfl⟩
theorem detach1_at (t : I64) (tb g : Nat) (off : Nat) (d : Array I64) (w : World) (hc : w.cell? ⟨tb, 0, none⟩ = some (.int .i64 t.1)) (hne : tb ≠ g) :
    PredAt Tryd.prog 51 #[.pointer (some ⟨tb, 0, none⟩)] eI (fun x => x.1 == t.1) w ∧ PredOver Tryd.prog 51 #[.pointer (some ⟨tb, 0, none⟩)] eI (fun x => x.1 == t.1) g off d.size w := by
  have hlt := World.block_lt_of_cell? _ _ hc
  refine ⟨fun W x hb => detach1_any x.1 t.1 tb W ((hb.cell (p := ⟨tb, 0, none⟩) hlt).trans hc), fun n os dk x _ => detach1_any x.1 t.1 tb _ ?_⟩
  unfold sortWorld
  rw [cell?_grow _ _ _ (by rw [size_putRow]; exact hlt), cell?_putRow_other _ _ _ _ _ _ (Or.inl hne)]
  exact hc
set_option maxRecDepth 100000 in
theorem idx_nil (n c : Nat) (h0 : n = 0) (fv : Value) (w : World) : Calls Tryd.prog 75 #[.slice none n c, fv] w fun e w' => e = .returned (.int .i64 (-1)) ∧ w = w' := by
  subst h0
  go_enter Tryd.func75, Tryd.ntmps75
  go_wp2_with fail
  go_loopw [8] (fun vi wr => vi = .int .i64 0 ∧ wr = w) (fun _ _ => 0)
  case atStart => exact ⟨rfl, rfl⟩
  case round =>
    obtain ⟨rfl, rfl⟩ := hrel
    go_wp2_with fail
    go_ret
    exact ⟨rfl, rfl⟩
set_option maxRecDepth 100000 in
set_option maxHeartbeats 2000000 in
theorem del_nil (n c : Nat) (h0 : n = 0) (fv : Value) (w : World) : Calls Tryd.prog 50 #[.slice none n c, fv] w fun e w' => e = .returned (.slice none n c) ∧ w = w' := by
  subst h0
  have hi := Lib.hid fun W => idx_nil 0 c rfl fv W
  go_enter Tryd.func50, Tryd.ntmps50
  go_wp2_with (go_at_call 75; go_must (refine (hi.out _).mono ?_; rintro e w2 ⟨rfl, rfl⟩))
  go_ret
  exact ⟨rfl, rfl⟩
theorem det_filter (l : List I64) (t : I64) : (l.toArray.toList.filter fun x => !(x.1 == t.1)) = detL l t := by
  unfold detL
  show l.filter _ = _
  refine List.filter_congr fun x _ => ?_
  by_cases h : x.1 = t.1 <;> simp [h]
theorem det_len (l : List I64) (t : I64) : (detL l t).length ≤ l.length := List.length_filter_le _ _
set_option maxRecDepth 100000 in
set_option maxHeartbeats 2000000 in
/-- The tokens of the call's own without one. -/
theorem del_any (A : Option Addr) (c : Nat) (l : List I64) (t : I64) (tb H : Nat) (w : World) (hown : Own iE 1 3 w H (.slice A l.length c) l) (hn : l.length ≤ 1000000) (hc : w.cell? ⟨tb, 0, none⟩ = some (.int .i64 t.1)) (hne : (Value.slice A l.length c).ownBlock ≠ some tb) :
    Calls Tryd.prog 50 #[.slice A l.length c, .func (.func 51) #[] #[.pointer (some ⟨tb, 0, none⟩)]] w fun e w' => e = .returned (.slice A (detL l t).length c) ∧ Own iE 1 3 w' H (.slice A (detL l t).length c) (detL l t) ∧ w.grownBy w' (Value.slice A l.length c).ownBlock := by
  rcases hown.2 with ⟨hv, h0⟩ | ⟨g, cap, cur, hv, _⟩
  · have hl : l = [] := List.eq_nil_of_length_eq_zero (by simpa using h0)
    subst hl
    have e1 : A = none ∧ c = 0 := by
      simp at hv
      exact ⟨hv.1, hv.2⟩
    obtain ⟨rfl, rfl⟩ := e1
    refine (del_nil 0 0 rfl _ w).mono ?_
    rintro e w' ⟨rfl, rfl⟩
    exact ⟨rfl, hown, World.grownBy.refl _ _⟩
  · have e1 : A = some ⟨g, 0, none⟩ ∧ c = cap := by
      simp at hv
      exact ⟨hv.1, hv.2⟩
    obtain ⟨rfl, rfl⟩ := e1
    have hne2 : tb ≠ g := fun h => hne (by rw [h]; rfl)
    obtain ⟨hp, hpo⟩ := detach1_at t tb g 0 l.toArray w hc hne2
    obtain ⟨_, hlc, _, _⟩ := own_block hown
    have h := Tryd.slices_DeleteFunc eI (fun x => rfl) (fun x => x.1 == t.1) 51 #[.pointer (some ⟨tb, 0, none⟩)] (enters_of Tryd.func51 (by kernel_rfl) rfl) ⟨0, by omega⟩ (fun w => by kernel_rfl) g 0 c l.toArray w hp hpo (own_holds hown) (by simp; omega) (by simpa using hlc)
    have hsz : l.toArray.size = l.length := by simp
    rw [hsz, det_filter] at h
    refine h.mono ?_
    rintro e w' ⟨rfl, q, rfl⟩
    refine ⟨rfl, own_put hown (by simp; have := det_len l t; omega) (det_len l t) (fun j y hy => ?_), grown_put _ _ _ _⟩
    rw [getElem!_def, List.getElem?_toArray, List.getElem?_append_left (List.getElem?_eq_some_iff.1 hy).1, hy]
end Go.Proofs.YtnahbfmbmpoljaaDoor

namespace Go.Proofs.YtnahbfmbmpoljaaDoor
open Go.RowKit


theorem own_same (A : Option Addr) (n m c : Nat) : (Value.slice A n c).ownBlock = (Value.slice A m c).ownBlock := by cases A <;> rfl
set_option maxRecDepth 100000 in
set_option maxHeartbeats 8000000 in
theorem detach_any (x : Work) (t : I64) (w : World) (hx : LabWork w w.heap.size x) (hn : x.labs.length ≤ 1000000 ∧ x.toks.length ≤ 1000000) :
    Calls Tryd.prog 24 #[(.agg #[.string x.id.1, .slice x.labsA x.labs.length x.labsC, .int .i64 x.trust.1, .int .i64 x.slots.1, .bool x.pre, .int .i64 x.phase.1, .int .i64 x.beat.1, .int .i64 x.till.1, .slice x.toksA x.toks.length x.toksC]), .int .i64 t.1] w fun e w' => ∃ A C A2 C2, e = .returned (.agg (workE (atW (detW x t) A C A2 C2)).toArray) ∧ OwnW w' w.heap.size (atW (detW x t) A C A2 C2) ∧ Below w.heap.size w w' := by
  have hcp : Hid (∀ W, Below w.heap.size w W → Calls Tryd.prog 34 #[(.agg #[.string x.id.1, .slice x.labsA x.labs.length x.labsC, .int .i64 x.trust.1, .int .i64 x.slots.1, .bool x.pre, .int .i64 x.phase.1, .int .i64 x.beat.1, .int .i64 x.till.1, .slice x.toksA x.toks.length x.toksC])] W fun e w' => ∃ A C A2 C2, e = .returned (.agg #[.string x.id.1, .slice A x.labs.length C, .int .i64 x.trust.1, .int .i64 x.slots.1, .bool x.pre, .int .i64 x.phase.1, .int .i64 x.beat.1, .int .i64 x.till.1, .slice A2 x.toks.length C2]) ∧ OwnW w' W.heap.size (atW x A C A2 C2) ∧ (∀ g, (Value.slice A x.labs.length C).ownBlock = some g → (Value.slice A2 x.toks.length C2).ownBlock ≠ some g) ∧ Below W.heap.size W w') := Lib.hid fun W hb => copied_dis x W ((hx.below hb (Nat.le_refl _)).more hb.size) hn
  replace hn := Lib.hid hn
  clear hx
  obtain ⟨L, hL⟩ : ∃ L, detL x.toks t = L := ⟨_, rfl⟩
  have hY : Hid (detW x t = { x with toks := L }) := Lib.hid (by unfold detW; rw [hL])
  replace hL := Lib.hid hL
  go_enter Tryd.func24, Tryd.ntmps24
  go_wp2_with (first
    | (go_at_call 34; go_must (refine (hcp.out _ (by repeat (first | (with_reducible exact Below.refl _ _) | (with_reducible refine Below.drew ?_) | (with_reducible refine below_drewN ?_ _) | ((with_reducible refine Below.alloc ?_ ?_ _); rotate_left; focus ((try simp) <;> omega)) | ((with_reducible refine Below.setCell ?_ ?_ _); rotate_left; focus ((try simp) <;> omega)) | ((with_reducible refine Below.trans ?_ (Below.mono (by assumption) ?_)); rotate_left; focus ((try simp) <;> omega))))).mono ?_; rintro e w1 ⟨A1, C1, A2, C2, rfl, ho1, hdis, hb1⟩; have hz1 := hb1.size; (try simp at hz1); have hz1a : w.heap.size < w1.heap.size := (by omega); have hz1b : w.heap.size + 1 < w1.heap.size := (by omega); have hz1c : w.heap.size + 1 + 1 < w1.heap.size := (by omega); obtain ⟨hc1, hf1⟩ := blk_at hb1 w.heap.size (by (try simp) <;> omega); obtain ⟨hd1, hg1⟩ := blk_at hb1 (w.heap.size + 1) (by (try simp) <;> omega); obtain ⟨he1, hi1⟩ := blk_at hb1 (w.heap.size + 1 + 1) (by (try simp) <;> omega)))
    | (go_at_call 50; go_must (have hoT : Own iE 1 3 w1 w.heap.size (.slice A2 x.toks.length C2) x.toks := ho1.2.base (b' := w.heap.size) (by (try simp) <;> omega); have hoL : Own sE 1 9 w1 w.heap.size (.slice A1 x.labs.length C1) x.labs := ho1.1.base (b' := w.heap.size) (by (try simp) <;> omega); have hlL := ho1.1.lt; have hlT := ho1.2.lt; (try simp at hlL); (try simp at hlT); have n0 : (Value.slice A2 x.toks.length C2).ownBlock ≠ some (w.heap.size + 1) := (fun e => by have := (hlT _ e).1; omega); have n1 : some (w.heap.size + 1 + 1) ≠ (Value.slice A2 x.toks.length C2).ownBlock := (fun e => by have := (hlT _ e.symm).1; omega); have n2 : some w1.heap.size ≠ (Value.slice A2 x.toks.length C2).ownBlock := (fun e => by have := (hlT _ e.symm).2; omega); have hbW1 : Below w1.heap.size w1 (w1.alloc (.cells (workE (atW x A1 C1 A2 C2)).toArray 25)) := (by repeat (first | (with_reducible exact Below.refl _ _) | (with_reducible refine Below.drew ?_) | (with_reducible refine below_drewN ?_ _) | ((with_reducible refine Below.alloc ?_ ?_ _); rotate_left; focus ((try simp) <;> omega)) | ((with_reducible refine Below.setCell ?_ ?_ _); rotate_left; focus ((try simp) <;> omega)) | ((with_reducible refine Below.trans ?_ (Below.mono (by assumption) ?_)); rotate_left; focus ((try simp) <;> omega)))); refine (del_any A2 C2 x.toks t (w.heap.size + 1) w.heap.size _ (hoT.all hbW1) hn.out.2 (by go_simp) n0).mono ?_; rintro e w2 ⟨rfl, ho2, hg2⟩; have hz2 := hg2.size; (try simp at hz2); have hoL2 := (hoL.all hbW1).grown hg2 (fun g h1 e => hdis g h1 e.symm); have hz2a : w.heap.size + 1 + 1 < w2.heap.size := (by omega); have hz2b : w1.heap.size < w2.heap.size := (by omega); have hc2 : ∀ o, w2.cell? ⟨w.heap.size + 1 + 1, o, none⟩ = (w1.alloc (.cells (workE (atW x A1 C1 A2 C2)).toArray 25)).cell? ⟨w.heap.size + 1 + 1, o, none⟩ := (fun o => World.cell?_of_block (hg2.block _ (by (try simp) <;> omega) n1)); have hf2 : ∀ o, w2.frozen? ⟨w.heap.size + 1 + 1, o, none⟩ = (w1.alloc (.cells (workE (atW x A1 C1 A2 C2)).toArray 25)).frozen? ⟨w.heap.size + 1 + 1, o, none⟩ := (fun o => World.frozen?_of_block (hg2.block _ (by (try simp) <;> omega) n1)); have hd2 : ∀ o, w2.cell? ⟨w1.heap.size, o, none⟩ = (w1.alloc (.cells (workE (atW x A1 C1 A2 C2)).toArray 25)).cell? ⟨w1.heap.size, o, none⟩ := (fun o => World.cell?_of_block (hg2.block _ (by (try simp) <;> omega) n2)); have hg2f : ∀ o, w2.frozen? ⟨w1.heap.size, o, none⟩ = (w1.alloc (.cells (workE (atW x A1 C1 A2 C2)).toArray 25)).frozen? ⟨w1.heap.size, o, none⟩ := (fun o => World.frozen?_of_block (hg2.block _ (by (try simp) <;> omega) n2)); have hb2 : Below w.heap.size w w2 := (by have h0 : Below w.heap.size w (w1.alloc (.cells (workE (atW x A1 C1 A2 C2)).toArray 25)) := (by repeat (first | (with_reducible exact Below.refl _ _) | (with_reducible refine Below.drew ?_) | (with_reducible refine below_drewN ?_ _) | ((with_reducible refine Below.alloc ?_ ?_ _); rotate_left; focus ((try simp) <;> omega)) | ((with_reducible refine Below.setCell ?_ ?_ _); rotate_left; focus ((try simp) <;> omega)) | ((with_reducible refine Below.trans ?_ (Below.mono (by assumption) ?_)); rotate_left; focus ((try simp) <;> omega)))); exact h0.grown hg2 (by (try simp) <;> omega) (fun g hg => by have := (hlT g hg).1; omega)); rw [hL.out] at ho2; simp only [workE, atW] at hc2 hd2 hf2 hg2f)))
  refine bodyPost_ret (v := .agg (workE (atW { x with toks := L } A1 C1 A2 C2)).toArray) (by simp [results, Tryd.results24, go_sem, workE, atW, he1, hc2, hz1c, hL.out]) rfl ⟨A1, C1, A2, C2, by rw [hY.out], ⟨?_, ?_⟩, (by repeat (first | (with_reducible exact Below.refl _ _) | (with_reducible refine Below.drew ?_) | (with_reducible refine below_drewN ?_ _) | ((with_reducible refine Below.alloc ?_ ?_ _); rotate_left; focus ((try simp) <;> omega)) | ((with_reducible refine Below.setCell ?_ ?_ _); rotate_left; focus ((try simp) <;> omega)) | ((with_reducible refine Below.trans ?_ (Below.mono (by assumption) ?_)); rotate_left; focus ((try simp) <;> omega))))⟩
  · have hlt := hlL
    rw [hY.out]
    show Own sE 1 _ _ _ (.slice A1 x.labs.length C1) x.labs
    (repeat (first
      | (with_reducible exact hoL2)
      | (refine Own.setCell ?_ (fun g hg => by have := (hlt g hg).1; have := (hlt g hg).2; show g ≠ _; (try simp) <;> omega) _)
      | (with_reducible refine Own.alloc ?_ _)
      | (with_reducible refine Own.drew ?_)
      | (with_reducible refine Own.all ?_ (by assumption))))
  · have hlt := hlT
    rw [hY.out]
    show Own iE 1 _ _ _ (.slice A2 L.length C2) L
    repeat (first | (with_reducible exact ho2) | (refine Own.setCell ?_ (fun g hg => by have hq : (Value.slice A2 x.toks.length C2).ownBlock = some g := ((own_same A2 x.toks.length L.length C2).trans hg); have := (hlt g hq).1; have := (hlt g hq).2; show g ≠ _; (try simp) <;> omega) _))
end Go.Proofs.YtnahbfmbmpoljaaDoor
