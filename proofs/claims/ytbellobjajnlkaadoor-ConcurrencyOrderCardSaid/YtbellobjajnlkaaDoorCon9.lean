/-
  The walks of groups: groups in new memory.
-/
import Derived.Test.YtbellobjajnlkaaDoorCon8



namespace Go.Proofs.YtbellobjajnlkaaDoor
open Go.RowKit

/-- Where a group's waiting jobs lie. -/
def blkG (x : Grp) : Option Nat := (Value.slice x.waitA x.wait.length x.waitC).ownBlock
theorem OwnG.all {w w' : World} {H : Nat} {x : Grp} (h : OwnG w H x) (hb : Below w.heap.size w w') : OwnG w' H x := Own.all h hb
theorem OwnG.base {w : World} {H H' : Nat} {x : Grp} (h : OwnG w H x) (hb : H' ≤ H) : OwnG w H' x := Own.base h hb
theorem OwnG.lt {w : World} {H : Nat} {x : Grp} (h : OwnG w H x) {g : Nat} (hg : blkG x = some g) : H ≤ g ∧ g < w.heap.size := World.ownsRow.lt h g hg
/-- A list of groups of the call's own: their waiting jobs lie apart from the row and from one another. -/
structure OwnGL (w : World) (H : Nat) (v : Value) (l : List Grp) : Prop where
  row : Own grpE 4 45 w H v l
  labs : ∀ x ∈ l, OwnG w H x ∧ ∀ g, blkG x = some g → v.ownBlock ≠ some g
  apart : l.Pairwise fun x y => ∀ g, blkG x = some g → blkG y ≠ some g
theorem OwnGL.all {w w' : World} {H : Nat} {v : Value} {l : List Grp} (h : OwnGL w H v l) (hb : Below w.heap.size w w') : OwnGL w' H v l := ⟨h.row.all hb, fun x hx => ⟨(h.labs x hx).1.all hb, (h.labs x hx).2⟩, h.apart⟩
theorem OwnGL.reads {w : World} {H : Nat} {A : Option Addr} {n c : Nat} {l : List Grp} (h : OwnGL w H (.slice A n c) l) : RwG w w.heap.size A l := ⟨h.row.reads grpE_len, fun x hx => (h.labs x hx).1.lab⟩
theorem OwnGL.base {w : World} {H H' : Nat} {v : Value} {l : List Grp} (h : OwnGL w H v l) (hb : H' ≤ H) : OwnGL w H' v l := ⟨h.row.base hb, fun x hx => ⟨(h.labs x hx).1.base hb, (h.labs x hx).2⟩, h.apart⟩
/-- While the groups are copied: the first ones have their waiting jobs in new memory already. -/
structure MidG (w : World) (H : Nat) (v : Value) (l cur : List Grp) (i : Nat) : Prop where
  row : Own grpE 4 45 w H v cur
  len : cur.length = l.length
  same : cur.map Grp.g = l.map Grp.g
  rest : ∀ j, i ≤ j → cur[j]? = l[j]?
  labs : ∀ x ∈ cur.take i, OwnG w H x ∧ ∀ g, blkG x = some g → v.ownBlock ≠ some g
  apart : (cur.take i).Pairwise fun x y => ∀ g, blkG x = some g → blkG y ≠ some g
theorem take_set_succ {α : Type} {l : List α} {i : Nat} {y : α} (h : i < l.length) : (l.set i y).take (i + 1) = l.take i ++ [y] := by
  rw [List.take_add_one, List.getElem?_set_self h, List.take_set_of_le (Nat.le_refl _)]
  rfl
theorem MidG.next {w w' : World} {H g i C2 : Nat} {A2 : Option Addr} {cap n : Nat} {l cur : List Grp} {x : Grp} (h : MidG w H (.slice (some ⟨g, 0, none⟩) n cap) l cur i) (hx : l[i]? = some x)
    (hb : Below w.heap.size w w') (hH : H ≤ w.heap.size) (ho : Own jRefE 2 29 w' w.heap.size (.slice A2 x.wait.length C2) x.wait) :
    MidG (w'.setCell ⟨g, i * 4 + 3, none⟩ (.slice A2 x.wait.length C2)) H (.slice (some ⟨g, 0, none⟩) n cap) l (cur.set i (atG x A2 C2)) (i + 1) := by
  have hil := (List.getElem?_eq_some_iff.1 hx).1
  have hic : i < cur.length := by rw [h.len]; exact hil
  have hxc : cur[i]? = some x := by rw [h.rest i (Nat.le_refl _)]; exact hx
  have hn : n = cur.length := by
    obtain ⟨A, c, e, _⟩ := h.row.form
    simp at e
    exact e.2.1
  have hrow := h.row.all hb
  subst hn
  have hgw : g < w.heap.size := (h.row.lt g rfl).2
  have hset := set_cell grpE_len (y := atG x A2 C2) (j := 3) (u := .slice A2 x.wait.length C2) hrow hxc (by omega) rfl
  have hne : ∀ (y : Grp) (W : World) (B : Nat), OwnG W B y → (∀ q, blkG y = some q → q ≠ g) → OwnG (W.setCell ⟨g, i * 4 + 3, none⟩ (.slice A2 x.wait.length C2)) B y := fun y W B hy hq => Own.setCell hy (fun q hq2 => hq q hq2) _
  have hnew : OwnG (w'.setCell ⟨g, i * 4 + 3, none⟩ (.slice A2 x.wait.length C2)) H (atG x A2 C2) := hne _ _ _ (Own.base ho hH) fun q hq e => by
    have := (ho.lt q hq).1
    omega
  have hnewb : ∀ q, blkG (atG x A2 C2) = some q → w.heap.size ≤ q := fun q hq => (ho.lt q hq).1
  refine ⟨by have e : (cur.set i (atG x A2 C2)).length = cur.length := List.length_set; exact hset, by rw [List.length_set]; exact h.len, ?_, fun j hj => ?_, ?_, ?_⟩
  · rw [List.map_set, atG_g, ← h.same]
    refine List.ext_getElem? fun j => ?_
    rw [List.getElem?_set]
    split
    · rename_i e
      subst e
      rw [List.getElem?_map, hxc]
      simp [hic]
    · rfl
  · rw [List.getElem?_set_ne (by omega)]
    exact h.rest j (by omega)
  · intro y hy
    rw [take_set_succ hic] at hy
    rcases List.mem_append.1 hy with h1 | h1
    · obtain ⟨h2, h3⟩ := h.labs y h1
      exact ⟨hne _ _ _ (h2.all hb) fun q hq e => h3 q hq (by rw [e]; rfl), h3⟩
    · obtain rfl : y = atG x A2 C2 := by simpa using h1
      exact ⟨hnew, fun q hq e => by
        have h4 := hnewb q hq
        have : g = q := by simpa [Value.ownBlock] using e
        omega⟩
  · rw [take_set_succ hic, List.pairwise_append]
    refine ⟨h.apart, List.pairwise_singleton _ _, fun a ha b hb2 q hq e => ?_⟩
    obtain rfl : b = atG x A2 C2 := by simpa using hb2
    have h5 := ((h.labs a ha).1.lt hq).2
    have h6 := hnewb q e
    omega
theorem MidG.done {w : World} {H : Nat} {v : Value} {l cur : List Grp} {i : Nat} (h : MidG w H v l cur i) (hi : l.length ≤ i) : OwnGL w H v cur := by
  have e : cur.take i = cur := List.take_of_length_le (by rw [h.len]; exact hi)
  exact ⟨h.row, fun x hx => h.labs x (by rw [e]; exact hx), by have := h.apart; rwa [e] at this⟩
set_option maxRecDepth 100000 in
set_option maxHeartbeats 4000000 in
theorem copied_any (A : Option Addr) (c : Nat) (l : List Grp) (w : World) (hr : RwG w w.heap.size A l) (hm : Mild l) :
    Calls Tryd.prog 42 #[.slice A l.length c] w fun e w' => ∃ A' c' l', e = .returned (.slice A' l'.length c') ∧ OwnGL w' w.heap.size (.slice A' l'.length c') l' ∧ l'.map Grp.g = l.map Grp.g ∧ Below w.heap.size w w' := by
  have hln := hm.len
  have hcl := Lib.hid (cloneg_any A c l w hr.row hm.len)
  have hrl : Hid (∀ x ∈ l, ∀ W, Below w.heap.size w W → Calls Tryd.prog 61 #[.slice x.waitA x.wait.length x.waitC] W fun e w' => ∃ A' C', e = .returned (.slice A' x.wait.length C') ∧ Own jRefE 2 29 w' W.heap.size (.slice A' x.wait.length C') x.wait ∧ Below W.heap.size W w') := Lib.hid fun x hx W hb => cloner_any x.waitA x.waitC x.wait W (((hr.labs x hx).2.2.below hb (Nat.le_refl _)).more hb.size) (hm.wait x hx)
  clear hr hm
  go_enter Tryd.func42, Tryd.ntmps42
  go_wp2_with (go_at_call 60; go_must (refine hcl.out.mono ?_; rintro e w1 ⟨A1, C1, rfl, hown1, hb1⟩; have hz1 := hb1.size))
  go_loopw [4, 9] (fun _ vi wr => ∃ (i : Nat) (cur : List Grp), i ≤ l.length ∧ vi = .int .i64 (i : Int) ∧ MidG wr w.heap.size (.slice A1 l.length C1) l cur i ∧ Below w.heap.size w wr) (fun _ vi _ => l.length - (intOf vi).toNat)
  case atStart => exact ⟨0, l, Nat.zero_le _, rfl, ⟨hown1, rfl, rfl, fun _ _ => rfl, by simp, by simp⟩, hb1⟩
  case round =>
    obtain ⟨i, cur, hi, rfl, hmid, hbw⟩ := hrel
    have hz := hbw.size
    replace hmid := Lib.hid hmid
    by_cases hil : i < l.length
    · obtain ⟨x, hx⟩ := get_some hil
      have hpos : 0 < cur.length := by rw [hmid.out.len]; omega
      obtain ⟨g, cap, hv, hHg, hgl⟩ := World.ownsRow.form hmid.out.row hpos
      simp only [Value.slice.injEq] at hv
      obtain ⟨rfl, -, rfl⟩ := hv
      have hxc : cur[i]? = some x := by rw [hmid.out.rest i (Nat.le_refl _)]; exact hx
      have hrd := hmid.out.row.reads (A := some ⟨g, 0, none⟩) (n := l.length) (c := C1) grpE_len
      obtain ⟨g', o', e', _, q⟩ := hrd hpos
      simp only [Option.some.injEq, Addr.mk.injEq] at e'
      obtain ⟨rfl, rfl, _⟩ := e'
      have q3 : wr.cell? ⟨g, i * 4 + 3, none⟩ = some (.slice x.waitA x.wait.length x.waitC) := by
        have := q i x hxc 3 (.slice x.waitA x.wait.length x.waitC) rfl
        rwa [Nat.zero_add] at this
      have hrow := hmid.out.row
      rw [← hmid.out.len] at hrow
      have hfz : ∀ j, wr.frozen? ⟨g, j, none⟩ = false := fun j => World.ownsRow.frozenAt hrow j
      clear hrow
      clear q hrd
      have i0 : (0 : Int) ≤ (i : Int) := by omega
      have i1 : (i : Int) < (l.length : Int) := by omega
      have hc2 := Lib.hid fun W hb => hrl.out x (List.mem_of_getElem? hx) W hb
      have hgo := Lib.hid fun (w2 : World) (A2 : Option Addr) (C2 : Nat) (hb2 : Below wr.heap.size wr w2) (ho : Own jRefE 2 29 w2 wr.heap.size (.slice A2 x.wait.length C2) x.wait) => hmid.out.next hx hb2 (by omega) ho
      replace hx := Lib.hid hx
      replace hxc := Lib.hid hxc
      go_wp2_with (go_at_call 61; go_must (refine (hc2.out _ hbw).mono ?_; rintro e w2 ⟨A2, C2, rfl, ho2, hb2⟩; have hz2 := hb2.size; have hg2 : g < w2.heap.size := (by omega); obtain ⟨hc3, hf3⟩ := blk_at hb2 g (by omega); have hnx := Lib.hid (hgo.out w2 A2 C2 hb2 ho2)))
      go_roundw
      case rel => exact ⟨i + 1, _, by omega, by go_num, hnx.out, (by repeat (first | (with_reducible exact Below.refl _ _) | (with_reducible refine Below.drew ?_) | (with_reducible refine below_drewN ?_ _) | ((with_reducible refine Below.alloc ?_ ?_ _); rotate_left; focus ((try simp) <;> omega)) | ((with_reducible refine Below.setCell ?_ ?_ _); rotate_left; focus ((try simp) <;> omega)) | ((with_reducible refine Below.trans ?_ (Below.mono (by assumption) ?_)); rotate_left; focus ((try simp) <;> omega))))⟩
      case measure => simp [intOf]; omega
    · have i1 : ¬ (i : Int) < (l.length : Int) := by omega
      go_wp2_with fail
      go_ret
      exact ⟨A1, C1, cur, by rw [hmid.out.len]; rfl, by have h := hmid.out.done (by omega); rwa [← hmid.out.len] at h, hmid.out.same, hbw⟩
end Go.Proofs.YtbellobjajnlkaaDoor
