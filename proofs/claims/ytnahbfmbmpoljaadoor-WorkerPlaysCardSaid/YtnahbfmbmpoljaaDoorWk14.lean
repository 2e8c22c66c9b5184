/-
  The walks of workers: workers in new memory.
-/
import Derived.Test.YtnahbfmbmpoljaaDoorWk12



namespace Go.Proofs.YtnahbfmbmpoljaaDoor
open Go.RowKit

theorem work_info : (Tryd.prog.info? 25).map (fun i => (i.zero, i.size, i.bytes)) = some (some (.agg #[.string ByteArray.empty, .slice none 0 0, .int .i64 0, .int .i64 0, .bool false, .int .i64 0, .int .i64 0, .int .i64 0, .slice none 0 0]), 9, 112) := by kernel_rfl
/-- A worker's lists lie in memory of the call's own, apart from a row. -/
def LabO (w : World) (H : Nat) (row : Option Nat) (x : Work) : Prop := OwnW w H x ∧ (∀ g, (Value.slice x.labsA x.labs.length x.labsC).ownBlock = some g → row ≠ some g) ∧ ∀ g, (Value.slice x.toksA x.toks.length x.toksC).ownBlock = some g → row ≠ some g
theorem OwnW.all {w w' : World} {H : Nat} {x : Work} (h : OwnW w H x) (hb : Below w.heap.size w w') : OwnW w' H x := ⟨h.1.all hb, h.2.all hb⟩
theorem OwnW.base {w : World} {H H' : Nat} {x : Work} (h : OwnW w H x) (hb : H' ≤ H) : OwnW w H' x := ⟨h.1.base hb, h.2.base hb⟩
theorem LabO.grown {w w' : World} {H : Nat} {row : Option Nat} {x : Work} (h : LabO w H row x) (hg : w.grownBy w' row) : OwnW w' H x :=
  ⟨h.1.1.grown hg (fun g hg => fun e => h.2.1 g hg e.symm), h.1.2.grown hg (fun g hg => fun e => h.2.2 g hg e.symm)⟩
/-- A list of workers of the call's own. -/
structure OwnL (w : World) (H : Nat) (v : Value) (l : List Work) : Prop where
  row : Own workE 9 25 w H v l
  labs : ∀ x ∈ l, LabO w H v.ownBlock x
theorem OwnL.nil (w : World) (H : Nat) : OwnL w H (.slice none 0 0) [] := ⟨Own.nil _ _ _, fun _ h => absurd h (by simp)⟩
theorem OwnL.all {w w' : World} {H : Nat} {v : Value} {l : List Work} (h : OwnL w H v l) (hb : Below w.heap.size w w') : OwnL w' H v l := ⟨h.row.all hb, fun x hx => ⟨(h.labs x hx).1.all hb, (h.labs x hx).2⟩⟩
theorem OwnL.reads {w : World} {H : Nat} {A : Option Addr} {n c : Nat} {l : List Work} (h : OwnL w H (.slice A n c) l) : RwW w w.heap.size A l := ⟨h.row.reads workE_len, fun x hx => (h.labs x hx).1.lab⟩
/-- A worker more, behind an append. -/
theorem OwnL.put {w w' : World} {H : Nat} {v v' : Value} {l : List Work} {x : Work} (h : OwnL w H v l) (hx : LabO w H v.ownBlock x) (ho : Own workE 9 25 w' H v' (l ++ [x])) (hg : w.grownBy w' v.ownBlock) (hat : v'.ownBlock = v.ownBlock ∨ v'.ownBlock = some w.heap.size) : OwnL w' H v' (l ++ [x]) := by
  refine ⟨ho, fun y hy => ?_⟩
  have hy2 : LabO w H v.ownBlock y := by
    rcases List.mem_append.1 hy with h1 | h1
    · exact h.labs y h1
    · obtain rfl : y = x := by simpa using h1
      exact hx
  refine ⟨hy2.grown hg, fun g hg => ?_, fun g hg => ?_⟩
  · rcases hat with e | e
    · rw [e]; exact hy2.2.1 g hg
    · rw [e]
      intro e2
      have := (hy2.1.1.lt g hg).2
      simp at e2; omega
  · rcases hat with e | e
    · rw [e]; exact hy2.2.2 g hg
    · rw [e]
      intro e2
      have := (hy2.1.2.lt g hg).2
      simp at e2; omega

def sumL (l : List Work) : Prop := ∀ x ∈ l, x.labs.length ≤ 1000000 ∧ x.toks.length ≤ 1000000
set_option maxRecDepth 100000 in
set_option maxHeartbeats 4000000 in
theorem list_any (A : Option Addr) (c : Nat) (l : List Work) (w : World) (hr : RwW w w.heap.size A l) (hn : l.length ≤ 5000) (h40 : sumL l) :
    Calls Tryd.prog 33 #[.slice A l.length c] w fun e w' => ∃ v l', e = .returned v ∧ OwnL w' w.heap.size v l' ∧ l'.map core = l.map core ∧ Below w.heap.size w w' := by
  obtain ⟨inf, hi0, iz0, iz1, iz2⟩ := info_parts work_info
  obtain ⟨H, hH⟩ : ∃ H, w.heap.size = H := ⟨_, rfl⟩
  rw [hH] at hr ⊢
  have hH2 := Nat.le_of_eq hH
  have hH3 := Nat.le_of_eq hH.symm
  replace hH := Lib.hid hH
  replace hr := Lib.hid hr
  go_enter Tryd.func33, Tryd.ntmps33
  go_wp2_with fail
  go_loopw [3, 8] (fun vo vi wr => ∃ (k : Nat) (out : List Work), vi = .int .i64 (k : Int) ∧ k ≤ l.length ∧ out.length = k ∧ out.map core = (l.take k).map core ∧ OwnL wr H vo out ∧ Below H w wr) (fun _ vi _ => l.length - (intOf vi).toNat)
  case atStart => exact ⟨0, [], rfl, Nat.zero_le _, rfl, rfl, OwnL.nil _ _, Below.refl _ _⟩
  case round =>
    obtain ⟨k, out, rfl, hk, hol, hoc, hown, hbw⟩ := hrel
    have hz := hbw.size
    by_cases hlt : k < l.length
    · obtain ⟨x, hx⟩ := get_some hlt
      obtain ⟨g, o, rfl, hg, q⟩ := hr.out.row (by omega)
      replace q := fun j u hu => (hbw.cell (p := ⟨g, o + k * 9 + j, none⟩) hg).trans (q k x hx j u hu)
      have q0 := q 0 (.string x.id.1) rfl
      try rw [Nat.add_zero] at q0
      have q1 := q 1 (.slice x.labsA x.labs.length x.labsC) rfl
      have q2 := q 2 (.int .i64 x.trust.1) rfl
      have q3 := q 3 (.int .i64 x.slots.1) rfl
      have q4 := q 4 (.bool x.pre) rfl
      have q5 := q 5 (.int .i64 x.phase.1) rfl
      have q6 := q 6 (.int .i64 x.beat.1) rfl
      have q7 := q 7 (.int .i64 x.till.1) rfl
      have q8 := q 8 (.slice x.toksA x.toks.length x.toksC) rfl
      clear q
      have hn40 := Lib.hid (h40 x (List.mem_of_getElem? hx))
      have lx : Hid (∀ W, Below wr.heap.size wr W → LabWork W W.heap.size x) := Lib.hid fun W hb => (((hr.out.labs x (List.mem_of_getElem? hx)).below hbw (Nat.le_refl _)).below (hb.mono (B' := H) (by omega)) (Nat.le_refl _)).more (by have := hb.size; omega)
      have i0 : (0 : Int) ≤ (k : Int) := by omega
      have i1 : (k : Int) < (l.length : Int) := by omega
      replace hx := Lib.hid hx
      replace hoc := Lib.hid hoc
      go_wp2_with (first
        | (go_at_call 34; go_must (refine (copied_any x _ (lx.out _ (by repeat (first | (with_reducible exact Below.refl _ _) | (with_reducible refine Below.drew ?_) | (with_reducible refine below_drewN ?_ _) | ((with_reducible refine Below.alloc ?_ ?_ _); rotate_left; focus ((try simp) <;> omega)) | ((with_reducible refine Below.setCell ?_ ?_ _); rotate_left; focus ((try simp) <;> omega)) | ((with_reducible refine Below.trans ?_ (Below.mono (by assumption) ?_)); rotate_left; focus ((try simp) <;> omega))))) hn40.out).mono ?_; rintro e w2 ⟨A2, C2, A3, C3, rfl, ho2, hb2⟩; have hz2 := hb2.size; (try simp at hz2); have hbA : Below wr.heap.size wr w2 := (by repeat (first | (with_reducible exact Below.refl _ _) | (with_reducible refine Below.drew ?_) | (with_reducible refine below_drewN ?_ _) | ((with_reducible refine Below.alloc ?_ ?_ _); rotate_left; focus ((try simp) <;> omega)) | ((with_reducible refine Below.setCell ?_ ?_ _); rotate_left; focus ((try simp) <;> omega)) | ((with_reducible refine Below.trans ?_ (Below.mono (by assumption) ?_)); rotate_left; focus ((try simp) <;> omega)))); have hlt2 := ho2.1.lt; have hlt3 := ho2.2.lt; (try simp at hlt2 hlt3); replace ho2 := ho2.base (H' := H) (by (try simp) <;> omega); clear hb2; simp only [workE, atW]))
        | (at_builtin
           have hA3 : Below wr.heap.size wr (w2.alloc (.cells (workE (atW x A2 C2 A3 C3)).toArray 25)) := hbA.alloc (by omega) _
           have hownA := hown.all hA3
           have hnew : LabO (w2.alloc (.cells (workE (atW x A2 C2 A3 C3)).toArray 25)) H u3.ownBlock (atW x A2 C2 A3 C3) := ⟨⟨ho2.1.alloc _, ho2.2.alloc _⟩, fun g hg e => by
             have h1 := (hlt2 g hg).1
             have h2 := (hown.row.lt g e).2
             omega, fun g hg e => by
             have h1 := (hlt3 g hg).1
             have h2 := (hown.row.lt g e).2
             omega⟩
           go_must (refine wpList_append_rw _ rfl (.tmp 12) (.tmp 15) _ rfl workE_len workE_one H 25 inf _ 112 Tryd.underlying31 hi0 iz0 iz1 iz2 rfl (by omega) u3 _ rfl hownA.row _ (some ⟨w2.heap.size, 0, none⟩) 1 1 [atW x A2 C2 A3 C3] rfl rfl ((Own.lit (enc := workE) (l := [atW x A2 C2 A3 C3]) (base := 0) (workE (atW x A2 C2 A3 C3)).toArray (Nat.zero_le _) (by simp [maxLen]) (by simp) workE_len).reads workE_len) ?_ ?_ ?_ ?_)
           · (try simp [maxLen]) <;> omega
           · (try simp) <;> omega
           · (try simp) <;> omega
           intro v3 w3 hown3 hg3 hat3
           have hz3 := hg3.size
           have hput := hownA.put hnew hown3 hg3 hat3
           have hbw3 : Below H w w3 := (hbw.trans (hA3.mono (by omega))).grown hg3 (by simp; omega) (fun g hg => by have := (hown.row.lt g hg).1; omega)))
      go_roundw
      case rel => exact ⟨k + 1, out ++ [atW x A2 C2 A3 C3], by go_num, by omega, by simp [hol], by rw [List.map_append, hoc.out, List.take_add_one, hx.out]; simp [core_atW], hput, hbw3⟩
      case measure => simp [intOf]; omega
    · have i1 : ¬ (k : Int) < (l.length : Int) := by omega
      have he : out.map core = l.map core := by rw [hoc, List.take_of_length_le (by omega)]
      go_wp2_with fail
      go_ret
      exact ⟨_, rfl, out, hown, he, hbw⟩
end Go.Proofs.YtnahbfmbmpoljaaDoor
