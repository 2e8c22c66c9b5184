/-
  Paths: the parts of a path, by the program.
-/
import Derived.Test.YtdjepnilmgembaaGreatDoorComm0
import Derived.Test.YtdjepnilmgembaaGreatDoorNames4
import Derived.Test.YtdjepnilmgembaaGreatDoorShelf


namespace Go.Proofs.YtdjepnilmgembaaGreatDoor
open Go.RowKit

/-- The variable that strings.Split reads holds a number. -/
def Glob (w : World) : Prop := ∃ m, w.cell? ⟨0, 0, none⟩ = some (.int .i64 m)
theorem Glob.keep {w w' : World} (h : Glob w) (hb : Below w.heap.size w w') : Glob w' := by
  obtain ⟨m, h⟩ := h
  have hlt := World.block_lt_of_cell? _ _ h
  exact ⟨m, (hb.cell (p := ⟨0, 0, none⟩) hlt).trans h⟩
theorem names1_any (i : Int) (s : Str) (w : World) : Calls Tryz.prog 96 #[.int .i64 i, .string s.1] w fun e w' => e = .returned (.bool (nameB s.1)) ∧ Below w.heap.size w w' := by
  have hc := Lib.hid fun W => name_any s.1 W s.2
  go_enter Tryz.func96, Tryz.ntmps96
  go_wp2_with (go_at_call 97; go_must (refine (hc.out _).mono ?_; rintro e w2 ⟨rfl, hb2⟩))
  go_ret
  exact ⟨rfl, hb2.toBelow⟩
set_option maxHeartbeats 1000000 in
theorem everys_any (A : Option Addr) (c : Nat) (l : List Str) (w : World) (hr : Rw sE 1 w w.heap.size A l) (hn : l.length ≤ 9223372036854775807) :
    Calls Tryz.prog 95 #[.slice A l.length c, .func (.func 96) #[] #[]] w fun e w' => e = .returned (.bool (namesB l)) ∧ Below w.heap.size w w' := by
  have e45 : ∀ args w, (callFunc 96 args).run Tryz.prog w = .ok (.enter 96 args) w := enters_of Tryz.func96 (by kernel_rfl) rfl
  replace hr := Lib.hid hr
  obtain ⟨B, hB⟩ : ∃ B, namesB l = B := ⟨_, rfl⟩
  rw [hB]
  replace hB := Lib.hid hB
  go_enter Tryz.func95, Tryz.ntmps95
  go_wp2_with fail
  go_loopw [9] (fun vi wr => ∃ k : Nat, k ≤ l.length ∧ vi = .int .i64 (k : Int) ∧ namesB (l.take k) = true ∧ Below w.heap.size w wr) (fun vi _ => l.length - (intOf vi).toNat)
  case atStart => exact ⟨0, Nat.zero_le _, rfl, rfl, Below.refl _ _⟩
  case round =>
    obtain ⟨k, hk, rfl, ht, hbw⟩ := hrel
    have hz := hbw.size
    replace ht := Lib.hid ht
    by_cases hks : k < l.length
    · obtain ⟨y, hy⟩ := get_some hks
      obtain ⟨g, o, rfl, hg, hq⟩ := hr.out.str (by omega)
      have q : wr.cell? ⟨g, o + k, none⟩ = some (.string y.1) := (hbw.cell (p := ⟨g, o + k, none⟩) hg).trans (hq k y hy)
      have i0 : (0 : Int) ≤ (k : Int) := by omega
      have i1 : (k : Int) < (l.length : Int) := by omega
      obtain ⟨b, hb⟩ : ∃ b, nameB y.1 = b := ⟨_, rfl⟩
      have hcl0 := fun (i : Int) W => names1_any i y W
      rw [hb] at hcl0
      have hcl := Lib.hid hcl0
      clear hcl0 hq
      rcases b with _ | _
      · have hf : Hid (B = false) := Lib.hid (by
          rw [← hB.out]
          unfold namesB
          rw [List.all_eq_false]
          exact ⟨y, List.mem_of_getElem? hy, by rw [hb]; decide⟩)
        replace hy := Lib.hid hy
        replace hb := Lib.hid hb
        go_wp2_with (go_at_fn 96; go_must (refine (hcl.out _ _).mono ?_; rintro e w2 ⟨rfl, hb2⟩; have hz2 := hb2.size))
        go_ret
        exact ⟨ret_bool hf.out.symm, (by repeat (first | (with_reducible exact Below.refl _ _) | (with_reducible refine Below.drew ?_) | (with_reducible refine below_drewN ?_ _) | ((with_reducible refine Below.alloc ?_ ?_ _); rotate_left; focus ((try simp) <;> omega)) | ((with_reducible refine Below.setCell ?_ ?_ _); rotate_left; focus ((try simp) <;> omega)) | ((with_reducible refine Below.trans ?_ (Below.mono (by assumption) ?_)); rotate_left; focus ((try simp) <;> omega))))⟩
      · have hn2 : Hid (namesB (l.take (k + 1)) = true) := Lib.hid (by
          have h := ht.out
          unfold namesB at h ⊢
          rw [List.take_add_one, hy, List.all_append, h]
          simp [hb])
        replace hy := Lib.hid hy
        replace hb := Lib.hid hb
        go_wp2_with (go_at_fn 96; go_must (refine (hcl.out _ _).mono ?_; rintro e w2 ⟨rfl, hb2⟩; have hz2 := hb2.size))
        go_roundw
        case rel => exact ⟨k + 1, by omega, by go_num, hn2.out, (by repeat (first | (with_reducible exact Below.refl _ _) | (with_reducible refine Below.drew ?_) | (with_reducible refine below_drewN ?_ _) | ((with_reducible refine Below.alloc ?_ ?_ _); rotate_left; focus ((try simp) <;> omega)) | ((with_reducible refine Below.setCell ?_ ?_ _); rotate_left; focus ((try simp) <;> omega)) | ((with_reducible refine Below.trans ?_ (Below.mono (by assumption) ?_)); rotate_left; focus ((try simp) <;> omega))))⟩
        case measure => simp [intOf]; omega
    · have i1 : ¬ (k : Int) < (l.length : Int) := by omega
      have hf : Hid (B = true) := Lib.hid (by rw [← hB.out]; have h := ht.out; rwa [List.take_of_length_le (by omega)] at h)
      go_wp2_with fail
      go_ret
      exact ⟨ret_bool hf.out.symm, hbw⟩
theorem namesl_any (A : Option Addr) (c : Nat) (l : List Str) (w : World) (hr : Rw sE 1 w w.heap.size A l) (hn : l.length ≤ 9223372036854775807) (h0 : 0 < l.length) :
    Calls Tryz.prog 71 #[.slice A l.length c] w fun e w' => e = .returned (.bool (namesB l)) ∧ Below w.heap.size w w' := by
  have hc := Lib.hid (everys_any A c l w hr hn)
  have h0z : (l.length : Int) > 0 := by omega
  clear hr
  go_enter Tryz.func71, Tryz.ntmps71
  go_wp2_with (go_at_call 95; go_must (refine hc.out.mono ?_; rintro e w2 ⟨rfl, hb2⟩))
  go_ret
  exact ⟨rfl, hb2⟩
theorem slash_bytes : (⟨#[47]⟩ : ByteArray).size = 1 := rfl
set_option maxRecDepth 100000 in
set_option maxHeartbeats 2000000 in
/-- What ident.Parts returns. -/
theorem parts_any (s : Str) (w : World) (hG : Glob w) (hs : s.1.size < 4294967281) :
    Calls Tryz.prog 49 #[.string s.1] w fun e w' => ∃ A c, e = .returned (.tuple #[.slice A (partsR s).length c, .int .i64 (pathE s)]) ∧ Rw sE 1 w' w'.heap.size A (partsR s) ∧ (partsR s).length ≤ c ∧ Below w.heap.size w w' := by
  by_cases h5 : 512 < s.1.size
  · have hp := pathE_big h5
    have hr : partsR s = [] := by unfold partsR; rw [if_neg (by rw [hp]; decide)]
    rw [hp, hr]
    have h5z : (s.1.size : Int) > 512 := by omega
    go_enter Tryz.func49, Tryz.ntmps49
    go_wp2_with fail
    exact bodyPost_ret (v := .tuple #[.slice none 0 0, .int .i64 3]) (by simp [results, Tryz.results49, go_sem]) rfl ⟨none, 0, rfl, Rw.nil, by simp, Below.refl _ _⟩
  · have h5z : ¬ (s.1.size : Int) > 512 := by omega
    obtain ⟨m, hm⟩ := hG
    have hsp := Tryz.strings_Split s.1 ⟨#[47]⟩ m w hs hm (by decide)
    rw [parts_lib, ← parts_len] at hsp
    have hlen := parts_le s
    have hpos : 0 < (parts s).length := by have := parts_len s; omega
    obtain ⟨W1, hW1⟩ : ∃ W, w.alloc (.cells (((parts s).map (·.1)).map Value.string).toArray 9) = W := ⟨_, rfl⟩
    rw [hW1] at hsp
    have hb1 : Below w.heap.size w W1 := by rw [← hW1]; exact (Below.refl _ _).alloc (Nat.le_refl _) _
    have hr1 : Rw sE 1 W1 W1.heap.size (some ⟨w.heap.size, 0, none⟩) (parts s) := by
      rw [← hW1]
      refine (Own.lit (enc := sE) (l := parts s) (base := 0) (((parts s).map (·.1)).map Value.string).toArray (Nat.zero_le _) (by unfold maxLen; omega) ?_ sE_len).reads sE_len
      rw [flat_sE, List.map_map]
      rfl
    have hspc := Lib.hid hsp
    have hnm := namesl_any (some ⟨w.heap.size, 0, none⟩) (parts s).length (parts s) W1 hr1 (by omega) hpos
    have hr1h := Lib.hid hr1
    clear hsp hr1 hm hW1
    obtain ⟨b, hb⟩ : ∃ b, namesB (parts s) = b := ⟨_, rfl⟩
    rw [hb] at hnm
    have hnmc := Lib.hid hnm
    clear hnm
    have hp : pathE s = if b then 0 else 1 := by
      rcases b with _ | _
      · exact pathE_no h5 hb
      · exact pathE_yes h5 hb
    replace hb := Lib.hid hb
    rcases b with _ | _
    · have hr : partsR s = [] := by unfold partsR; rw [if_neg (by rw [hp]; decide)]
      replace hp := Lib.hid hp
      replace hr := Lib.hid hr
      go_enter Tryz.func49, Tryz.ntmps49
      go_wp2_with (first
        | (go_at_call 70; go_must (refine hspc.out.mono ?_; rintro e w2 ⟨rfl, rfl⟩))
        | (go_at_call 71; go_must (refine hnmc.out.mono ?_; rintro e w3 ⟨rfl, hb3⟩)))
      exact bodyPost_ret (v := .tuple #[.slice none 0 0, .int .i64 1]) (by simp [results, Tryz.results49, go_sem]) rfl ⟨none, 0, by rw [hp.out, hr.out]; rfl, by rw [hr.out]; exact Rw.nil, by rw [hr.out]; simp, hb1.trans (hb3.mono hb1.size)⟩
    · have hr : partsR s = parts s := by unfold partsR; rw [if_pos (by rw [hp]; rfl)]
      replace hp := Lib.hid hp
      replace hr := Lib.hid hr
      go_enter Tryz.func49, Tryz.ntmps49
      go_wp2_with (first
        | (go_at_call 70; go_must (refine hspc.out.mono ?_; rintro e w2 ⟨rfl, rfl⟩))
        | (go_at_call 71; go_must (refine hnmc.out.mono ?_; rintro e w3 ⟨rfl, hb3⟩)))
      exact bodyPost_ret (v := .tuple #[.slice (some ⟨w.heap.size, 0, none⟩) (parts s).length (parts s).length, .int .i64 0]) (by simp [results, Tryz.results49, go_sem]) rfl ⟨some ⟨w.heap.size, 0, none⟩, (parts s).length, by rw [hp.out, hr.out]; rfl, by rw [hr.out]; exact (hr1h.out.below hb3 (Nat.le_refl _)).more hb3.size, by rw [hr.out]; exact Nat.le_refl _, hb1.trans (hb3.mono hb1.size)⟩
end Go.Proofs.YtdjepnilmgembaaGreatDoor
