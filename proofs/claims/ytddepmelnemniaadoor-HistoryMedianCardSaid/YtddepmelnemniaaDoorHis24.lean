/-
  The walks of histories: results added; a history is looked up, by the program.
-/
import Derived.Test.YtddepmelnemniaaDoorHis23



namespace Go.Proofs.YtddepmelnemniaaDoor
open Go.RowKit

theorem add_any (A : Option Addr) (c : Nat) (l : List Hst) (Ar : Option Addr) (cr : Nat) (rs : List Res) (code : U64) (now : I64) (w : World) (hr : RwH w w.heap.size A l) (hrr : Rw resE 3 w w.heap.size Ar rs) (hm : MildH l) (hrn : rs.length ≤ 1000000) (hrs : ∀ x ∈ rs, x.name.1.size < 4294967281) (hG : Glob w) :
    Calls Tryd.prog 8 #[.slice A l.length c, .slice Ar rs.length cr, .int .u64 code.1, .int .i64 now.1] w (fun e w' => ∃ (A' : Option Addr) (c' : Nat) (l' : List Hst), e = .returned (.tuple #[.slice A' l'.length c', .int .i64 (addErr (l.map Hst.h) rs now.1)]) ∧ RwH w' w'.heap.size A' l' ∧ l'.length ≤ c' ∧ l'.map Hst.h = addL (l.map Hst.h) rs code now ∧ Below w.heap.size w w') := by
  by_cases h1 : valErr (l.map Hst.h) = 0
  · by_cases h2 : repErr rs = 0
    · rcases h3 : timeB now.1 with _ | _
      · exact add_first A c l Ar cr rs code now w hr hrr hm hrn hrs hG (.inr (.inr h3))
      · exact add_rest A c l Ar cr rs code now w hr hrr hm hrn hrs hG h1 h2 h3
    · exact add_first A c l Ar cr rs code now w hr hrr hm hrn hrs hG (.inr (.inl h2))
  · exact add_first A c l Ar cr rs code now w hr hrr hm hrn hrs hG (.inl h1)
theorem find1_any (x : Hst) (p : Str) (b : Nat) (w : World) (b0 : w.cell? ⟨b, 0, none⟩ = some (.string p.1)) :
    Calls Tryd.prog 21 #[.agg #[.string x.name.1, .slice x.lA x.l.length x.lC], .pointer (some ⟨b, 0, none⟩)] w fun e w' => e = .returned (.bool (isName p x.h)) ∧ Below w.heap.size w w' := by
  have hlt := World.block_lt_of_cell? _ _ b0
  simp only at hlt
  have ne1 : b ≠ w.heap.size := by omega
  have ne2 : w.heap.size ≠ b := by omega
  have hD : isName p x.h = (x.name.1.toList == p.1.toList) := rfl
  rw [hD]
  clear hD
  go_enter Tryd.func21, Tryd.ntmps21
  go_wp2_with fail
  go_ret
  exact ⟨rfl, (by repeat (first | (with_reducible exact Below.refl _ _) | (with_reducible refine Below.drew ?_) | (with_reducible refine below_drewN ?_ _) | ((with_reducible refine Below.alloc ?_ ?_ _); rotate_left; focus ((try simp) <;> omega)) | ((with_reducible refine Below.setCell ?_ ?_ _); rotate_left; focus ((try simp) <;> omega)) | ((with_reducible refine Below.trans ?_ (Below.mono (by assumption) ?_)); rotate_left; focus ((try simp) <;> omega))))⟩
set_option maxRecDepth 100000 in
set_option maxHeartbeats 2000000 in
theorem idxh_any (A : Option Addr) (c : Nat) (l : List Hst) (p : Str) (b : Nat) (w : World) (hr : Rw hstE 2 w w.heap.size A l) (hn : l.length ≤ 9223372036854775807) (hb0 : w.cell? ⟨b, 0, none⟩ = some (.string p.1)) :
    Calls Tryd.prog 20 #[.slice A l.length c, .func (.func 21) #[] #[.pointer (some ⟨b, 0, none⟩)]] w fun e w' => e = .returned (.int .i64 (findN p (l.map Hst.h))) ∧ Below w.heap.size w w' := by
  have e45 : ∀ args w, (callFunc 21 args).run Tryd.prog w = .ok (.enter 21 args) w := enters_of Tryd.func21 (by kernel_rfl) rfl
  have hlt := World.block_lt_of_cell? _ _ hb0
  simp only at hlt
  have hcl0 : ∀ (x : Hst) W, Below w.heap.size w W → Calls Tryd.prog 21 #[.agg #[.string x.name.1, .slice x.lA x.l.length x.lC], .pointer (some ⟨b, 0, none⟩)] W fun e w' => e = .returned (.bool (isName p x.h)) ∧ Below W.heap.size W w' := fun x W hb => find1_any x p b W ((hb.cell (p := ⟨b, 0, none⟩) hlt).trans hb0)
  replace hr := Lib.hid hr
  obtain ⟨R, hR⟩ : ∃ R, findN p (l.map Hst.h) = R := ⟨_, rfl⟩
  rw [hR]
  replace hR := Lib.hid hR
  clear hb0
  go_enter Tryd.func20, Tryd.ntmps20
  go_wp2_with fail
  go_loopw [5, 8] (fun _ vi wr => ∃ k : Nat, k ≤ l.length ∧ vi = .int .i64 (k : Int) ∧ ((l.map Hst.h).take k).all (fun y => !isName p y) = true ∧ Below w.heap.size w wr) (fun _ vi _ => l.length - (intOf vi).toNat)
  case atStart => exact ⟨0, Nat.zero_le _, rfl, rfl, Below.refl _ _⟩
  case round =>
    obtain ⟨k, hk, rfl, ht, hbw⟩ := hrel
    have hz := hbw.size
    replace ht := Lib.hid ht
    by_cases hkl : k < l.length
    · obtain ⟨x, hx⟩ := get_some hkl
      have hxm : (l.map Hst.h)[k]? = some x.h := by rw [List.getElem?_map, hx]; rfl
      obtain ⟨g, o, rfl, hg, q⟩ := hr.out (by omega)
      have q0 : wr.cell? ⟨g, o + k * 2, none⟩ = some (.string x.name.1) := (hbw.cell (p := ⟨g, o + k * 2, none⟩) hg).trans (q k x hx 0 (.string x.name.1) rfl)
      have q1 : wr.cell? ⟨g, o + k * 2 + 1, none⟩ = some (.slice x.lA x.l.length x.lC) := (hbw.cell (p := ⟨g, o + k * 2 + 1, none⟩) hg).trans (q k x hx 1 (.slice x.lA x.l.length x.lC) rfl)
      clear q
      have i0 : (0 : Int) ≤ (k : Int) := by omega
      have i1 : (k : Int) < (l.length : Int) := by omega
      have hcx := hcl0 x
      rcases he : isName p x.h with _ | _
      · rw [he] at hcx
        have hcl := Lib.hid hcx
        clear hcx
        replace hx := Lib.hid hx
        replace hxm := Lib.hid hxm
        replace he := Lib.hid he
        go_wp2_with (go_at_fn 21; go_must (refine (hcl.out _ (by repeat (first | (with_reducible exact Below.refl _ _) | (with_reducible refine Below.drew ?_) | (with_reducible refine below_drewN ?_ _) | ((with_reducible refine Below.alloc ?_ ?_ _); rotate_left; focus ((try simp) <;> omega)) | ((with_reducible refine Below.setCell ?_ ?_ _); rotate_left; focus ((try simp) <;> omega)) | ((with_reducible refine Below.trans ?_ (Below.mono (by assumption) ?_)); rotate_left; focus ((try simp) <;> omega))))).mono ?_; rintro e w2 ⟨rfl, hb2⟩; have hz2 := hb2.size; (try simp at hz2)))
        go_roundw
        case rel => exact ⟨k + 1, by omega, by go_num, by rw [List.take_add_one, hxm.out, List.all_append, ht.out]; simp [he.out], (by repeat (first | (with_reducible exact Below.refl _ _) | (with_reducible refine Below.drew ?_) | (with_reducible refine below_drewN ?_ _) | ((with_reducible refine Below.alloc ?_ ?_ _); rotate_left; focus ((try simp) <;> omega)) | ((with_reducible refine Below.setCell ?_ ?_ _); rotate_left; focus ((try simp) <;> omega)) | ((with_reducible refine Below.trans ?_ (Below.mono (by assumption) ?_)); rotate_left; focus ((try simp) <;> omega))))⟩
        case measure => simp [intOf]; omega
      · have hf : Hid (R = (k : Int)) := Lib.hid (by rw [← hR.out]; exact findN_at ht.out hxm he)
        rw [he] at hcx
        have hcl := Lib.hid hcx
        clear hcx
        replace hx := Lib.hid hx
        replace hxm := Lib.hid hxm
        replace he := Lib.hid he
        go_wp2_with (go_at_fn 21; go_must (refine (hcl.out _ (by repeat (first | (with_reducible exact Below.refl _ _) | (with_reducible refine Below.drew ?_) | (with_reducible refine below_drewN ?_ _) | ((with_reducible refine Below.alloc ?_ ?_ _); rotate_left; focus ((try simp) <;> omega)) | ((with_reducible refine Below.setCell ?_ ?_ _); rotate_left; focus ((try simp) <;> omega)) | ((with_reducible refine Below.trans ?_ (Below.mono (by assumption) ?_)); rotate_left; focus ((try simp) <;> omega))))).mono ?_; rintro e w2 ⟨rfl, hb2⟩; have hz2 := hb2.size; (try simp at hz2)))
        go_ret
        exact ⟨ret_int hf.out.symm, (by repeat (first | (with_reducible exact Below.refl _ _) | (with_reducible refine Below.drew ?_) | (with_reducible refine below_drewN ?_ _) | ((with_reducible refine Below.alloc ?_ ?_ _); rotate_left; focus ((try simp) <;> omega)) | ((with_reducible refine Below.setCell ?_ ?_ _); rotate_left; focus ((try simp) <;> omega)) | ((with_reducible refine Below.trans ?_ (Below.mono (by assumption) ?_)); rotate_left; focus ((try simp) <;> omega))))⟩
    · have i1 : ¬ (k : Int) < (l.length : Int) := by omega
      have hf : Hid (R = -1) := Lib.hid (by rw [← hR.out]; exact findN_none (by have h := ht.out; rwa [List.take_of_length_le (by simp; omega)] at h))
      go_wp2_with fail
      go_ret
      exact ⟨ret_int hf.out.symm, hbw⟩
/-- What is looked up is the first history of the name. -/
theorem at_find (l : List Hst) (p : Str) : (atH l p).map Hst.h = findH (l.map Hst.h) p := by
  unfold atH findN findH
  have hP : ∀ h : Hs, isName p h = decide (h.name = p) := fun h => eq_str h.name p
  have hPf : isName p = fun h : Hs => decide (h.name = p) := funext hP
  by_cases h : (l.map Hst.h).findIdx (isName p) < (l.map Hst.h).length
  · rw [if_pos h, if_neg (by omega), Int.toNat_natCast]
    have h1 := List.findIdx_getElem (w := h)
    have hx : (l.map Hst.h).find? (fun h => decide (h.name = p)) = some (l.map Hst.h)[(l.map Hst.h).findIdx (isName p)] := by
      rw [List.find?_eq_some_iff_getElem]
      refine ⟨by rw [← hP]; exact h1, _, h, rfl, fun j hj => ?_⟩
      have := List.not_of_lt_findIdx hj
      rw [← hP]
      simpa using this
    rw [hx, ← List.getElem?_map, List.getElem?_eq_getElem h]
  · rw [if_neg h, if_pos (by omega)]
    symm
    show List.find? _ _ = none
    rw [List.find?_eq_none]
    intro x hx
    rw [← hP]
    have h2 : ¬ ∃ x ∈ l.map Hst.h, isName p x = true := fun e => h (List.findIdx_lt_length.2 e)
    exact fun e => h2 ⟨x, hx, e⟩
set_option maxRecDepth 100000 in
set_option maxHeartbeats 2000000 in
theorem findh_any (A : Option Addr) (c : Nat) (l : List Hst) (p : Str) (w : World) (hr : RwH w w.heap.size A l) (hn : l.length ≤ 9223372036854775807) (hm : ∀ x ∈ l, x.l.length ≤ 1000000) :
    Calls Tryd.prog 9 #[.slice A l.length c, .string p.1] w fun e w' => ∃ o : Option Hst, e = .returned (foundV o) ∧ o.map Hst.h = findH (l.map Hst.h) p ∧ (∀ y ∈ o, LabHst w' w'.heap.size y) ∧ Below w.heap.size w w' := by
  have hin : Hid (∀ b W, Below w.heap.size w W → W.cell? ⟨b, 0, none⟩ = some (.string p.1) → Calls Tryd.prog 20 #[.slice A l.length c, .func (.func 21) #[] #[.pointer (some ⟨b, 0, none⟩)]] W fun e w' => e = .returned (.int .i64 (findN p (l.map Hst.h))) ∧ Below W.heap.size W w') := Lib.hid fun b W hb h0 => idxh_any A c l p b W ((hr.row.below hb (Nat.le_refl _)).more hb.size) hn h0
  have haf := at_find l p
  by_cases h : findN p (l.map Hst.h) < 0
  · have hf : Hid (findH (l.map Hst.h) p = none) := Lib.hid (by rw [← haf]; unfold atH; rw [if_pos h]; rfl)
    generalize findN p (l.map Hst.h) = K at *
    clear hr haf
    go_enter Tryd.func9, Tryd.ntmps9
    go_wp2_with (go_at_call 20; go_must (refine (hin.out _ _ (by repeat (first | (with_reducible exact Below.refl _ _) | (with_reducible refine Below.drew ?_) | (with_reducible refine below_drewN ?_ _) | ((with_reducible refine Below.alloc ?_ ?_ _); rotate_left; focus ((try simp) <;> omega)) | ((with_reducible refine Below.setCell ?_ ?_ _); rotate_left; focus ((try simp) <;> omega)) | ((with_reducible refine Below.trans ?_ (Below.mono (by assumption) ?_)); rotate_left; focus ((try simp) <;> omega)))) (by go_simp)).mono ?_; rintro e w1 ⟨rfl, hb1⟩; have hz1 := hb1.size; (try simp at hz1); obtain ⟨hd1, he1⟩ := blk_at hb1 (w.heap.size + 1) (by (try simp) <;> omega)))
    exact bodyPost_ret (v := .tuple #[.agg #[.string ByteArray.empty, .slice none 0 0], .bool false]) (by simp [results, Tryd.results9, go_sem, hd1] <;> rfl) rfl ⟨none, rfl, by rw [hf.out]; rfl, (fun _ h => by cases h), (by repeat (first | (with_reducible exact Below.refl _ _) | (with_reducible refine Below.drew ?_) | (with_reducible refine below_drewN ?_ _) | ((with_reducible refine Below.alloc ?_ ?_ _); rotate_left; focus ((try simp) <;> omega)) | ((with_reducible refine Below.setCell ?_ ?_ _); rotate_left; focus ((try simp) <;> omega)) | ((with_reducible refine Below.trans ?_ (Below.mono (by assumption) ?_)); rotate_left; focus ((try simp) <;> omega))))⟩
  · have hlt : (findN p (l.map Hst.h)).toNat < l.length ∧ 0 ≤ findN p (l.map Hst.h) := by
      unfold findN at h ⊢
      split at h
      · rename_i h2
        rw [if_pos h2]
        rw [List.length_map] at h2
        omega
      · omega
    obtain ⟨x, hx⟩ := get_some hlt.1
    have hf : Hid (findH (l.map Hst.h) p = some x.h) := Lib.hid (by rw [← haf]; unfold atH; rw [if_neg h, hx]; rfl)
    obtain ⟨k, hk⟩ : ∃ k : Nat, findN p (l.map Hst.h) = (k : Int) := ⟨(findN p (l.map Hst.h)).toNat, by omega⟩
    rw [hk] at hin hx hlt
    rw [Int.toNat_natCast] at hx hlt
    replace hk := Lib.hid hk
    have hxm := List.mem_of_getElem? hx
    have hcp : Hid (∀ W, Below w.heap.size w W → Calls Tryd.prog 22 #[.agg #[.string x.name.1, .slice x.lA x.l.length x.lC]] W fun e w' => ∃ A, e = .returned (.agg #[.string x.name.1, .slice (some A) x.l.length x.l.length]) ∧ Own sampE 4 42 w' W.heap.size (.slice (some A) x.l.length x.l.length) x.l ∧ Below W.heap.size W w') := Lib.hid fun W hb => copied_any x W (((hr.labs x hxm).below hb (Nat.le_refl _)).more hb.size) (hm x hxm)
    obtain ⟨g, o, rfl, hg, q⟩ := hr.row (by omega)
    have q0 := q k x hx 0 (.string x.name.1) rfl
    rw [Nat.add_zero] at q0
    have q1 := q k x hx 1 (.slice x.lA x.l.length x.lC) rfl
    have i0 : (0 : Int) ≤ (k : Int) := by omega
    have i1 : (k : Int) < (l.length : Int) := by omega
    have i2 : ¬ (k : Int) < 0 := by omega
    have ng1 : g ≠ w.heap.size := by omega
    have ng2 : w.heap.size ≠ g := by omega
    replace hx := Lib.hid hx
    clear hr q h haf
    go_enter Tryd.func9, Tryd.ntmps9
    go_wp2_with (first
      | (go_at_call 20; go_must (refine (hin.out _ _ (by repeat (first | (with_reducible exact Below.refl _ _) | (with_reducible refine Below.drew ?_) | (with_reducible refine below_drewN ?_ _) | ((with_reducible refine Below.alloc ?_ ?_ _); rotate_left; focus ((try simp) <;> omega)) | ((with_reducible refine Below.setCell ?_ ?_ _); rotate_left; focus ((try simp) <;> omega)) | ((with_reducible refine Below.trans ?_ (Below.mono (by assumption) ?_)); rotate_left; focus ((try simp) <;> omega)))) (by go_simp)).mono ?_; rintro e w1 ⟨rfl, hb1⟩; have hz1 := hb1.size; (try simp at hz1); obtain ⟨hd1, he1⟩ := blk_at hb1 (w.heap.size + 1) (by (try simp) <;> omega); obtain ⟨hc1, hf1⟩ := blk_at hb1 g (by (try simp) <;> omega)))
      | (go_at_call 22; go_must (refine (hcp.out _ (by repeat (first | (with_reducible exact Below.refl _ _) | (with_reducible refine Below.drew ?_) | (with_reducible refine below_drewN ?_ _) | ((with_reducible refine Below.alloc ?_ ?_ _); rotate_left; focus ((try simp) <;> omega)) | ((with_reducible refine Below.setCell ?_ ?_ _); rotate_left; focus ((try simp) <;> omega)) | ((with_reducible refine Below.trans ?_ (Below.mono (by assumption) ?_)); rotate_left; focus ((try simp) <;> omega))))).mono ?_; rintro e w2 ⟨A2, rfl, ho2, hb2⟩; have hz2 := hb2.size; (try simp at hz2); obtain ⟨hd2, he2⟩ := blk_at hb2 (w.heap.size + 1) (by (try simp) <;> omega))))
    have hl2 := own_labs ho2 x.name
    have hlt2 := (own_form ho2).2.2.2
    refine bodyPost_ret (v := .tuple #[.agg #[.string x.name.1, .slice (some A2) x.l.length x.l.length], .bool true]) (by simp [results, Tryd.results9, go_sem, hd2, hd1]) rfl ⟨some ⟨x.name, some A2, x.l.length, x.l⟩, rfl, by rw [hf.out]; rfl, ?_, (by repeat (first | (with_reducible exact Below.refl _ _) | (with_reducible refine Below.drew ?_) | (with_reducible refine below_drewN ?_ _) | ((with_reducible refine Below.alloc ?_ ?_ _); rotate_left; focus ((try simp) <;> omega)) | ((with_reducible refine Below.setCell ?_ ?_ _); rotate_left; focus ((try simp) <;> omega)) | ((with_reducible refine Below.trans ?_ (Below.mono (by assumption) ?_)); rotate_left; focus ((try simp) <;> omega))))⟩
    intro y hy
    obtain rfl : (⟨x.name, some A2, x.l.length, x.l⟩ : Hst) = y := by simpa using hy
    refine (own_labs (H := 0) ?_ x.name).1
    have ho3 := Own.base ho2 (Nat.zero_le _)
    repeat (first | (with_reducible exact ho3) | ((with_reducible refine Own.setCell ?_ ?_ _); rotate_left; focus (intro q hq e; have h2 := (ho2.lt q hq).1; (try simp at h2); (try simp at e); omega)) | (with_reducible refine Own.drew ?_))
end Go.Proofs.YtddepmelnemniaaDoor
