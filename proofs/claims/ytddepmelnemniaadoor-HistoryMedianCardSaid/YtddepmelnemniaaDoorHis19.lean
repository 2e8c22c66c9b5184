/-
  The walks of histories: histories in new memory.
-/
import Derived.Test.YtddepmelnemniaaDoorHis18


namespace Go.Proofs.YtddepmelnemniaaDoor
open Go.RowKit

/-- A block of samples. -/
def SB (w : World) (g : Nat) : Prop := ∃ (cs : Array Value) (fz : Nat × Nat), w.heap[g]? = some (.cells cs 42 fz)
theorem SB.lt {w : World} {g : Nat} (h : SB w g) : g < w.heap.size := by
  obtain ⟨cs, fz, h⟩ := h
  rcases Nat.lt_or_ge g w.heap.size with h1 | h1
  · exact h1
  · rw [Array.getElem?_eq_none h1] at h; cases h
/-- A history's samples read as what they are, and lie in a block of samples. -/
def LabS (w : World) (x : Hst) : Prop := LabHst w w.heap.size x ∧ ∀ p, x.lA = some p → SB w p.block
theorem LabS.keep {w w' : World} {x : Hst} (h : LabS w x) (hb : ∀ g, SB w g → w'.heap[g]? = w.heap[g]?) (hz : w.heap.size ≤ w'.heap.size) : LabS w' x := by
  refine ⟨⟨h.1.1, h.1.2.1, fun hn => ?_⟩, fun p hp => ?_⟩
  · obtain ⟨g, o, e, hg, hc⟩ := h.1.2.2 hn
    have hs := hb g (h.2 _ e)
    exact ⟨g, o, e, by omega, fun i y hy j u hu => (World.cell?_of_block hs).trans (hc i y hy j u hu)⟩
  · obtain ⟨cs, fz, h1⟩ := h.2 p hp
    exact ⟨cs, fz, (hb _ (h.2 p hp)).trans h1⟩
theorem LabS.all {w w' : World} {x : Hst} (h : LabS w x) (hb : Below w.heap.size w w') : LabS w' x := h.keep (fun g hg => hb.block g hg.lt) hb.size
theorem own_sb {w : World} {H : Nat} {g n c : Nat} {l : List Samp} (h : Own sampE 4 42 w H (.slice (some ⟨g, 0, none⟩) n c) l) : SB w g := by
  obtain ⟨_, _, _, cur, hg, _⟩ := own_block h
  exact ⟨cur, _, hg⟩
theorem own_form {w : World} {H n c : Nat} {A : Addr} {l : List Samp} (h : Own sampE 4 42 w H (.slice (some A) n c) l) : n = l.length ∧ l.length ≤ c ∧ c ≤ maxLen ∧ SB w A.block := by
  rcases h.2 with ⟨e0, _⟩ | ⟨g, cap, cur, e0, hb, hg, hn, hm, hs, _⟩
  · cases e0
  · simp only [Value.slice.injEq, Option.some.injEq] at e0
    obtain ⟨rfl, rfl, rfl⟩ := e0
    exact ⟨rfl, hn, hm, cur, _, hg⟩
theorem own_labs {w : World} {H c : Nat} {A : Addr} {l : List Samp} (h : Own sampE 4 42 w H (.slice (some A) l.length c) l) (nm : Str) : LabS w ⟨nm, some A, c, l⟩ := by
  obtain ⟨_, h1, h2, h3⟩ := own_form h
  exact ⟨⟨h1, h2, h.reads sampE_len⟩, fun p hp => by cases hp; exact h3⟩
theorem row_sb {w : World} {H : Nat} {v : Value} {l : List Hst} (h : Own hstE 2 24 w H v l) {g : Nat} (hs : SB w g) : v.ownBlock ≠ some g := by
  intro e
  obtain ⟨cs, fz, hg⟩ := hs
  rcases h.2 with ⟨rfl, _⟩ | ⟨b, cap, cur, rfl, _, hb, _⟩
  · cases e
  · simp only [Value.ownBlock, Option.some.injEq] at e
    subst e
    rw [hb] at hg
    simp at hg
/-- A list of histories of the call's own. -/
structure OwnH (w : World) (H : Nat) (v : Value) (l : List Hst) : Prop where
  row : Own hstE 2 24 w H v l
  labs : ∀ x ∈ l, LabS w x
theorem OwnH.all {w w' : World} {H : Nat} {v : Value} {l : List Hst} (h : OwnH w H v l) (hb : Below w.heap.size w w') : OwnH w' H v l := ⟨h.row.all hb, fun x hx => (h.labs x hx).all hb⟩
theorem OwnH.reads {w : World} {H : Nat} {A : Option Addr} {n c : Nat} {l : List Hst} (h : OwnH w H (.slice A n c) l) : RwH w w.heap.size A l := ⟨h.row.reads hstE_len, fun x hx => (h.labs x hx).1⟩
theorem OwnH.nil (w : World) (H : Nat) : OwnH w H (.slice none 0 0) [] := ⟨Own.nil _ _ _, fun _ h => absurd h List.not_mem_nil⟩
theorem OwnH.grown {w w' : World} {H : Nat} {v v' : Value} {l m : List Hst} (h : OwnH w H v l) (ho : Own hstE 2 24 w' H v' m) (hg : w.grownBy w' v.ownBlock) (hm : ∀ x ∈ m, x ∈ l ∨ LabS w x) : OwnH w' H v' m := by
  refine ⟨ho, fun x hx => ?_⟩
  have hx2 : LabS w x := (hm x hx).elim (h.labs x) id
  exact hx2.keep (fun g hs => hg.block g hs.lt (fun e => row_sb h.row hs e.symm)) hg.size
theorem rw_hst {w : World} {g B : Nat} {x : Hst} (hg : g = w.heap.size) (hB : g < B) : Rw hstE 2 (w.alloc (.cells #[.string x.name.1, .slice x.lA x.l.length x.lC] 24)) B (some ⟨g, 0, none⟩) [x] := by
  subst hg
  refine fun _ => ⟨_, 0, rfl, hB, fun i y hy j u hu => ?_⟩
  match i, hy with
  | 0, hy =>
    obtain rfl : x = y := by simpa using hy
    match j, hu with
    | 0, hu => obtain rfl : Value.string x.name.1 = u := by simpa [hstE] using hu
               exact box_cells w _ _ 0 _ rfl
    | 1, hu => obtain rfl : Value.slice x.lA x.l.length x.lC = u := by simpa [hstE] using hu
               exact box_cells w _ _ 1 _ rfl
    | j + 2, hu => simp [hstE] at hu
  | i + 1, hy => simp at hy
set_option maxRecDepth 100000 in
set_option maxHeartbeats 4000000 in
theorem all_any (A : Option Addr) (c : Nat) (l : List Hst) (w : World) (hr : RwH w w.heap.size A l) (hn : l.length ≤ 1000000) (hm : ∀ x ∈ l, x.l.length ≤ 1000000) :
    Calls Tryd.prog 14 #[.slice A l.length c] w fun e w' => ∃ A' c' l', e = .returned (.slice A' l'.length c') ∧ OwnH w' w.heap.size (.slice A' l'.length c') l' ∧ l'.map Hst.h = l.map Hst.h ∧ (∀ x ∈ l', x.lC = x.l.length) ∧ Below w.heap.size w w' := by
  obtain ⟨inf, hi0, iz0, iz1, iz2⟩ := info_parts hst_info
  have hcp : Hid (∀ x ∈ l, ∀ W, Below w.heap.size w W → Calls Tryd.prog 22 #[.agg #[.string x.name.1, .slice x.lA x.l.length x.lC]] W fun e w' => ∃ A, e = .returned (.agg #[.string x.name.1, .slice (some A) x.l.length x.l.length]) ∧ Own sampE 4 42 w' W.heap.size (.slice (some A) x.l.length x.l.length) x.l ∧ Below W.heap.size W w') := Lib.hid fun x hx W hb => copied_any x W (((hr.labs x hx).below hb (Nat.le_refl _)).more hb.size) (hm x hx)
  have hrow := Lib.hid hr.row
  clear hr hm
  go_enter Tryd.func14, Tryd.ntmps14
  go_wp2_with fail
  go_loopw [3, 8] (fun vo vi wr => ∃ (k : Nat) (cur : List Hst), k ≤ l.length ∧ vi = .int .i64 (k : Int) ∧ OwnH wr w.heap.size vo cur ∧ cur.length = k ∧ cur.map Hst.h = (l.take k).map Hst.h ∧ (∀ x ∈ cur, x.lC = x.l.length) ∧ Below w.heap.size w wr) (fun _ vi _ => l.length - (intOf vi).toNat)
  case atStart => exact ⟨0, [], Nat.zero_le _, rfl, OwnH.nil _ _, rfl, rfl, (fun _ h => absurd h List.not_mem_nil), Below.refl _ _⟩
  case round =>
    obtain ⟨k, cur, hk, rfl, hown, hcl, hcm, hcc, hbw⟩ := hrel
    have hz := hbw.size
    by_cases hkl : k < l.length
    · obtain ⟨x, hx⟩ := get_some hkl
      obtain ⟨g, o, rfl, hg, hq⟩ := hrow.out (by omega)
      have q := fun j u hu => (hbw.cell (p := ⟨g, o + k * 2 + j, none⟩) hg).trans (hq k x hx j u hu)
      have q0 := q 0 (.string x.name.1) rfl
      rw [Nat.add_zero] at q0
      have q1 := q 1 (.slice x.lA x.l.length x.lC) rfl
      clear q hq
      have i0 : (0 : Int) ≤ (k : Int) := by omega
      have i1 : (k : Int) < (l.length : Int) := by omega
      have hc2 := Lib.hid fun W hb => hcp.out x (List.mem_of_getElem? hx) W hb
      have hnx : Hid (∀ y : Hst, y.h = x.h → (cur ++ [y]).map Hst.h = (l.take (k + 1)).map Hst.h) := Lib.hid fun y hy => by
        rw [List.map_append, hcm, List.take_add_one, hx, List.map_append]
        simp [hy]
      have hcl1 := Nat.le_of_eq hcl
      replace hx := Lib.hid hx
      replace hcl := Lib.hid hcl
      replace hcm := Lib.hid hcm
      replace hcc := Lib.hid hcc
      replace hown := Lib.hid hown
      have hvlt := Lib.hid hown.out.row.lt
      go_wp2_with (first
        | (go_at_call 22; go_must (refine (hc2.out _ (by repeat (first | (with_reducible exact Below.refl _ _) | (with_reducible refine Below.drew ?_) | (with_reducible refine below_drewN ?_ _) | ((with_reducible refine Below.alloc ?_ ?_ _); rotate_left; focus ((try simp) <;> omega)) | ((with_reducible refine Below.setCell ?_ ?_ _); rotate_left; focus ((try simp) <;> omega)) | ((with_reducible refine Below.trans ?_ (Below.mono (by assumption) ?_)); rotate_left; focus ((try simp) <;> omega))))).mono ?_; rintro e w2 ⟨A2, rfl, ho2, hb2⟩; have hz2 := hb2.size; (try simp at hz2)))
        | (at_builtin
           refine wpList_append_rw _ rfl (.tmp 12) (.tmp 15) _ rfl hstE_len hstE_one w.heap.size 24 inf _ 40 Tryd.underlying30 hi0 iz0 iz1 iz2 rfl (by omega) _ cur rfl ((hown.out.row.all (show Below wr.heap.size wr w2 from (by repeat (first | (with_reducible exact Below.refl _ _) | (with_reducible refine Below.drew ?_) | (with_reducible refine below_drewN ?_ _) | ((with_reducible refine Below.alloc ?_ ?_ _); rotate_left; focus ((try simp) <;> omega)) | ((with_reducible refine Below.setCell ?_ ?_ _); rotate_left; focus ((try simp) <;> omega)) | ((with_reducible refine Below.trans ?_ (Below.mono (by assumption) ?_)); rotate_left; focus ((try simp) <;> omega)))))).alloc _) (w2.heap.size + 1) (some ⟨w2.heap.size, 0, none⟩) 1 1 [⟨x.name, some A2, x.l.length, x.l⟩] rfl rfl (rw_hst rfl (by omega)) ?_ ?_ ?_ ?_
           · (try simp [maxLen]) <;> omega
           · (try simp) <;> omega
           · (try simp) <;> omega
           intro v4 w4 hown4 hg4 hat4
           have hz4 := hg4.size))
      go_roundw
      case rel =>
        have hO : OwnH w4 w.heap.size v4 (cur ++ [⟨x.name, some A2, x.l.length, x.l⟩]) := by
          refine OwnH.grown ((hown.out.all (show Below wr.heap.size wr w2 from (by repeat (first | (with_reducible exact Below.refl _ _) | (with_reducible refine Below.drew ?_) | (with_reducible refine below_drewN ?_ _) | ((with_reducible refine Below.alloc ?_ ?_ _); rotate_left; focus ((try simp) <;> omega)) | ((with_reducible refine Below.setCell ?_ ?_ _); rotate_left; focus ((try simp) <;> omega)) | ((with_reducible refine Below.trans ?_ (Below.mono (by assumption) ?_)); rotate_left; focus ((try simp) <;> omega)))))).all (show Below w2.heap.size w2 _ from (Below.refl _ _).alloc (Nat.le_refl _) _)) hown4 hg4 fun z hz => ?_
          rcases List.mem_append.1 hz with h | h
          · exact .inl h
          · obtain rfl := List.mem_singleton.1 h
            exact .inr ((own_labs ho2 x.name).all ((Below.refl _ _).alloc (Nat.le_refl _) _))
        refine ⟨k + 1, _, hkl, by go_num, hO, by rw [List.length_append, hcl.out]; rfl, hnx.out _ rfl, ?_, ?_⟩
        · intro z hz
          rcases List.mem_append.1 hz with h | h
          · exact hcc.out z h
          · obtain rfl := List.mem_singleton.1 h
            rfl
        · exact Below.grown (hbw.trans (Below.mono (B := wr.heap.size) (by repeat (first | (with_reducible exact Below.refl _ _) | (with_reducible refine Below.drew ?_) | (with_reducible refine below_drewN ?_ _) | ((with_reducible refine Below.alloc ?_ ?_ _); rotate_left; focus ((try simp) <;> omega)) | ((with_reducible refine Below.setCell ?_ ?_ _); rotate_left; focus ((try simp) <;> omega)) | ((with_reducible refine Below.trans ?_ (Below.mono (by assumption) ?_)); rotate_left; focus ((try simp) <;> omega)))) (by omega))) hg4 (by (try simp) <;> omega) (fun q hq => (hvlt.out q hq).1)
      case measure => simp [intOf]; omega
    · have i1 : ¬ (k : Int) < (l.length : Int) := by omega
      have hkk : k = l.length := by omega
      rw [hkk, List.take_length] at hcm
      obtain ⟨A4, c4, e4, h1, _, _⟩ := hown.row.form
      subst e4
      replace hcl := Lib.hid hcl
      go_wp2_with fail
      go_ret
      exact ⟨A4, c4, cur, rfl, hown, hcm, hcc, hbw⟩
end Go.Proofs.YtddepmelnemniaaDoor
