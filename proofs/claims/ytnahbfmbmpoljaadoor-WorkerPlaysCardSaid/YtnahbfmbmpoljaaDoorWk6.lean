/-
  The walks of workers: a worker in new memory; a worker after an event, by the program and by the reference.
-/
import Derived.Test.YtnahbfmbmpoljaaDoorWk1
import Derived.Test.YtnahbfmbmpoljaaDoorCopyGr
import Derived.Deep.RegionHeld3




namespace Go.Proofs.YtnahbfmbmpoljaaDoor
open Go.RowKit

theorem Own.base {α : Type} {enc : α → List Value} {k : Nat} {e : TypeId} {w : World} {b b' : Nat} {v : Value} {l : List α} (h : Own enc k e w b v l) (hb : b' ≤ b) : Own enc k e w b' v l := by
  refine ⟨h.1, ?_⟩
  rcases h.2 with hn | ⟨g, cap, cur, rfl, hb1, r⟩
  · exact .inl hn
  · exact .inr ⟨g, cap, cur, rfl, by omega, r⟩
theorem cloneS_any_info : (Tryd.prog.info? 9).map (fun i => (i.zero, i.size, i.bytes)) = some (some ((.string ByteArray.empty)), 1, 16) := by kernel_rfl
theorem cloneS_any_nil (n c : Nat) (w : World) :
    Calls Tryd.prog 59 #[.slice none n c] w fun e w' => e = .returned (.slice none 0 0) ∧ w = w' := by
  have hq := fun w => Lib.run_eql_slice_nil (P := Tryd.prog) w 22 9 none n c 0 0 Tryd.underlying22
  go_enter Tryd.func59, Tryd.ntmps59
  go_wp2
  go_ret
  exact ⟨rfl, rfl⟩
theorem cloneS_any_some (a : Addr) (c : Nat) (l : List Str) (w : World) (hr : Rw sE 1 w w.heap.size (some a) l) (hn : l.length * 16 ≤ 140737488355328) :
    Calls Tryd.prog 59 #[.slice (some a) l.length c] w fun e w' => ∃ v, e = .returned v ∧ Own sE 1 9 w' w.heap.size v l ∧ v ≠ .slice none 0 0 ∧ Below w.heap.size w w' := by
  have hq := fun w => Lib.run_eql_slice_nil (P := Tryd.prog) w 22 9 (some a) l.length c 0 0 Tryd.underlying22
  obtain ⟨i0, hi, hz0, hz1, hz2⟩ := info_parts cloneS_any_info
  go_enter Tryd.func59, Tryd.ntmps59
  go_wp2_with (first
    | (at_builtin
       refine wpList_append_rw _ rfl (.tmp 5) (.tmp 6) _ rfl sE_len sE_one w.heap.size 9 i0 _ 16 Tryd.underlying22 hi hz0 hz1 hz2 rfl (by omega) (.slice (some ⟨w.heap.size, 0, none⟩) 0 0) [] rfl
         ?_ w.heap.size (some a) l.length c l rfl rfl (hr.alloc (Nat.le_refl _) _) ?_ ?_ ?_ ?_
       · exact Own.lit (enc := sE) (l := []) #[] (Nat.le_refl _) (by simp) (by simp) sE_len
       · simp [maxLen]; omega
       · simpa using hn
       · simp
       intro v1 w1 hown1 hg1 hat1))
  go_ret
  refine ⟨v1, rfl, by simpa using hown1, ?_, ?_⟩
  · rintro rfl
    rcases hat1 with h | h <;> simp [Value.ownBlock] at h
  · exact ((Below.refl _ _).alloc (Nat.le_refl _) _).grown hg1 (by simp) (fun g hg => by simp [Value.ownBlock] at hg; omega)
theorem cloneI_any_info : (Tryd.prog.info? 3).map (fun i => (i.zero, i.size, i.bytes)) = some (some (.int .i64 0), 1, 8) := by kernel_rfl
theorem cloneI_any_nil (n c : Nat) (w : World) :
    Calls Tryd.prog 60 #[.slice none n c] w fun e w' => e = .returned (.slice none 0 0) ∧ w = w' := by
  have hq := fun w => Lib.run_eql_slice_nil (P := Tryd.prog) w 23 3 none n c 0 0 Tryd.underlying23
  go_enter Tryd.func60, Tryd.ntmps60
  go_wp2
  go_ret
  exact ⟨rfl, rfl⟩
theorem cloneI_any_some (a : Addr) (c : Nat) (l : List I64) (w : World) (hr : Rw iE 1 w w.heap.size (some a) l) (hn : l.length * 8 ≤ 140737488355328) :
    Calls Tryd.prog 60 #[.slice (some a) l.length c] w fun e w' => ∃ v, e = .returned v ∧ Own iE 1 3 w' w.heap.size v l ∧ v ≠ .slice none 0 0 ∧ Below w.heap.size w w' := by
  have hq := fun w => Lib.run_eql_slice_nil (P := Tryd.prog) w 23 3 (some a) l.length c 0 0 Tryd.underlying23
  obtain ⟨i0, hi, hz0, hz1, hz2⟩ := info_parts cloneI_any_info
  go_enter Tryd.func60, Tryd.ntmps60
  go_wp2_with (first
    | (at_builtin
       refine wpList_append_rw _ rfl (.tmp 5) (.tmp 6) _ rfl iE_len iE_one w.heap.size 3 i0 _ 8 Tryd.underlying23 hi hz0 hz1 hz2 rfl (by omega) (.slice (some ⟨w.heap.size, 0, none⟩) 0 0) [] rfl
         ?_ w.heap.size (some a) l.length c l rfl rfl (hr.alloc (Nat.le_refl _) _) ?_ ?_ ?_ ?_
       · exact Own.lit (enc := iE) (l := []) #[] (Nat.le_refl _) (by simp) (by simp) iE_len
       · simp [maxLen]; omega
       · simpa using hn
       · simp
       intro v1 w1 hown1 hg1 hat1))
  go_ret
  refine ⟨v1, rfl, by simpa using hown1, ?_, ?_⟩
  · rintro rfl
    rcases hat1 with h | h <;> simp [Value.ownBlock] at h
  · exact ((Below.refl _ _).alloc (Nat.le_refl _) _).grown hg1 (by simp) (fun g hg => by simp [Value.ownBlock] at hg; omega)
theorem rw_none {α : Type} {enc : α → List Value} {k : Nat} {w : World} {B : Nat} {l : List α} (hr : Rw enc k w B none l) : l = [] := by
  rcases Nat.eq_zero_or_pos l.length with h0 | h0
  · exact List.eq_nil_of_length_eq_zero h0
  · obtain ⟨g, o, e, _⟩ := hr h0
    cases e
theorem clones_any (A : Option Addr) (c : Nat) (l : List Str) (w : World) (hr : Rw sE 1 w w.heap.size A l) (hn : l.length ≤ 1000000) :
    Calls Tryd.prog 59 #[.slice A l.length c] w fun e w' => ∃ A' C', e = .returned (.slice A' l.length C') ∧ Own sE 1 9 w' w.heap.size (.slice A' l.length C') l ∧ Below w.heap.size w w' := by
  rcases A with _ | a
  · obtain rfl := rw_none hr
    refine (cloneS_any_nil _ _ w).mono ?_
    rintro e w1 ⟨rfl, rfl⟩
    exact ⟨none, 0, rfl, Own.nil _ _ _, Below.refl _ _⟩
  · refine (cloneS_any_some a c l w hr (by omega)).mono ?_
    rintro e w1 ⟨v, rfl, hown, _, hb1⟩
    obtain ⟨A1, c1, rfl, _, _, _⟩ := hown.form
    exact ⟨A1, c1, rfl, hown, hb1⟩
theorem clonei_any (A : Option Addr) (c : Nat) (l : List I64) (w : World) (hr : Rw iE 1 w w.heap.size A l) (hn : l.length ≤ 1000000) :
    Calls Tryd.prog 60 #[.slice A l.length c] w fun e w' => ∃ A' C', e = .returned (.slice A' l.length C') ∧ Own iE 1 3 w' w.heap.size (.slice A' l.length C') l ∧ Below w.heap.size w w' := by
  rcases A with _ | a
  · obtain rfl := rw_none hr
    refine (cloneI_any_nil _ _ w).mono ?_
    rintro e w1 ⟨rfl, rfl⟩
    exact ⟨none, 0, rfl, Own.nil _ _ _, Below.refl _ _⟩
  · refine (cloneI_any_some a c l w hr (by omega)).mono ?_
    rintro e w1 ⟨v, rfl, hown, _, hb1⟩
    obtain ⟨A1, c1, rfl, _, _, _⟩ := hown.form
    exact ⟨A1, c1, rfl, hown, hb1⟩

def atW (x : Work) (A : Option Addr) (C : Nat) (A2 : Option Addr) (C2 : Nat) : Work := { x with labsA := A, labsC := C, toksA := A2, toksC := C2 }
/-- A worker without the places of its lists. -/
def core (x : Work) : Work := atW x none 0 none 0
theorem core_atW (x : Work) (A : Option Addr) (C : Nat) (A2 : Option Addr) (C2 : Nat) : core (atW x A C A2 C2) = core x := rfl
def OwnW (w : World) (B : Nat) (x : Work) : Prop := Own sE 1 9 w B (.slice x.labsA x.labs.length x.labsC) x.labs ∧ Own iE 1 3 w B (.slice x.toksA x.toks.length x.toksC) x.toks
theorem OwnW.lab {w : World} {B : Nat} {x : Work} (h : OwnW w B x) : LabWork w w.heap.size x := by
  obtain ⟨A, C, e, h1, h2, _⟩ := h.1.form
  obtain ⟨A', C', e', h1', h2', _⟩ := h.2.form
  simp only [Value.slice.injEq] at e e'
  obtain ⟨rfl, _, rfl⟩ := e
  obtain ⟨rfl, _, rfl⟩ := e'
  exact ⟨h1, h2, h.1.reads sE_len, h1', h2', h.2.reads iE_len⟩
set_option maxRecDepth 100000 in
set_option maxHeartbeats 4000000 in
theorem copied_any (x : Work) (w : World) (hx : LabWork w w.heap.size x) (hn : x.labs.length ≤ 1000000 ∧ x.toks.length ≤ 1000000) :
    Calls Tryd.prog 34 #[(.agg #[.string x.id.1, .slice x.labsA x.labs.length x.labsC, .int .i64 x.trust.1, .int .i64 x.slots.1, .bool x.pre, .int .i64 x.phase.1, .int .i64 x.beat.1, .int .i64 x.till.1, .slice x.toksA x.toks.length x.toksC])] w fun e w' => ∃ A C A2 C2, e = .returned (.agg (workE (atW x A C A2 C2)).toArray) ∧ OwnW w' w.heap.size (atW x A C A2 C2) ∧ Below w.heap.size w w' := by
  have hcs := Lib.hid fun W (hb : Below w.heap.size w W) => clones_any x.labsA x.labsC x.labs W ((hx.2.2.1.below hb (Nat.le_refl _)).more hb.size) hn.1
  have hci := Lib.hid fun W (hb : Below w.heap.size w W) => clonei_any x.toksA x.toksC x.toks W ((hx.2.2.2.2.2.below hb (Nat.le_refl _)).more hb.size) hn.2
  clear hx hn
  go_enter Tryd.func34, Tryd.ntmps34
  go_wp2_with fail
  go_region_with ((first
    | (go_at_call 59; go_must (refine (hcs.out _ (by repeat (first | (with_reducible exact Below.refl _ _) | (with_reducible refine Below.drew ?_) | (with_reducible refine below_drewN ?_ _) | ((with_reducible refine Below.alloc ?_ ?_ _); rotate_left; focus ((try simp) <;> omega)) | ((with_reducible refine Below.setCell ?_ ?_ _); rotate_left; focus ((try simp) <;> omega)) | ((with_reducible refine Below.trans ?_ (Below.mono (by assumption) ?_)); rotate_left; focus ((try simp) <;> omega))))).mono ?_; rintro e w1 ⟨A1, C1, rfl, ho1, hb1⟩; have hz1 := hb1.size; (try simp at hz1); obtain ⟨hc1, hf1⟩ := blk_at hb1 w.heap.size (by (try simp) <;> omega); obtain ⟨hc1b, hf1b⟩ := blk_at hb1 (w.heap.size + 1) (by (try simp) <;> omega); obtain ⟨hc1c, hf1c⟩ := blk_at hb1 (w.heap.size + 1 + 1) (by (try simp) <;> omega)))
    | (go_at_call 60; go_must (refine (hci.out _ (by repeat (first | (with_reducible exact Below.refl _ _) | (with_reducible refine Below.drew ?_) | (with_reducible refine below_drewN ?_ _) | ((with_reducible refine Below.alloc ?_ ?_ _); rotate_left; focus ((try simp) <;> omega)) | ((with_reducible refine Below.setCell ?_ ?_ _); rotate_left; focus ((try simp) <;> omega)) | ((with_reducible refine Below.trans ?_ (Below.mono (by assumption) ?_)); rotate_left; focus ((try simp) <;> omega))))).mono ?_; rintro e w2 ⟨A2, C2, rfl, ho2, hb2⟩; have hz2 := hb2.size; (try simp at hz2); obtain ⟨hc2, hf2⟩ := blk_at hb2 w.heap.size (by (try simp) <;> omega); obtain ⟨hc2b, hf2b⟩ := blk_at hb2 (w.heap.size + 1) (by (try simp) <;> omega); obtain ⟨hc2c, hf2c⟩ := blk_at hb2 (w.heap.size + 1 + 1) (by (try simp) <;> omega)))))
  all_goals go_wp2_with fail
  all_goals
    refine bodyPost_ret (v := .agg (workE (atW x A1 C1 A2 C2)).toArray) (by simp [results, Tryd.results34, go_sem, workE, atW, hc1b, hc2b]) rfl ⟨A1, C1, A2, C2, rfl, ⟨?_, ?_⟩, (by repeat (first | (with_reducible exact Below.refl _ _) | (with_reducible refine Below.drew ?_) | (with_reducible refine below_drewN ?_ _) | ((with_reducible refine Below.alloc ?_ ?_ _); rotate_left; focus ((try simp) <;> omega)) | ((with_reducible refine Below.setCell ?_ ?_ _); rotate_left; focus ((try simp) <;> omega)) | ((with_reducible refine Below.trans ?_ (Below.mono (by assumption) ?_)); rotate_left; focus ((try simp) <;> omega))))⟩
    · have hlt := ho1.lt
      (try simp at hlt)
      have ho := ho1.base (b' := w.heap.size) (by (try simp) <;> omega)
      show Own sE 1 _ _ _ (.slice A1 x.labs.length C1) x.labs
      (repeat (first
        | (with_reducible exact ho)
        | (refine Own.setCell ?_ (fun g hg => by have := (hlt g hg).1; show g ≠ _; (try simp) <;> omega) _)
        | (with_reducible refine Own.alloc ?_ _)
        | (with_reducible refine Own.drew ?_)
        | (with_reducible refine Own.all ?_ (by assumption))))
    · have hlt := ho2.lt
      (try simp at hlt)
      have ho := ho2.base (b' := w.heap.size) (by (try simp) <;> omega)
      show Own iE 1 _ _ _ (.slice A2 x.toks.length C2) x.toks
      (repeat (first
        | (with_reducible exact ho)
        | (refine Own.setCell ?_ (fun g hg => by have := (hlt g hg).1; show g ≠ _; (try simp) <;> omega) _)
        | (with_reducible refine Own.alloc ?_ _)
        | (with_reducible refine Own.drew ?_)
        | (with_reducible refine Own.all ?_ (by assumption))))
end Go.Proofs.YtnahbfmbmpoljaaDoor
