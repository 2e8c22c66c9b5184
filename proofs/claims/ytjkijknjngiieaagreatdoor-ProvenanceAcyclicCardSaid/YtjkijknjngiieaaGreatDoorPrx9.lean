/-
  The walks of provenance: the laws' example.
-/
import Derived.Test.YtjkijknjngiieaaGreatDoorPrx8


namespace Go.Proofs.YtjkijknjngiieaaGreatDoor
open Go.RowKit

def sFsrc : Str := ⟨⟨#[102, 105, 108, 101, 58, 115, 114, 99, 47, 97]⟩, by decide⟩
def sFtst : Str := ⟨⟨#[102, 105, 108, 101, 58, 116, 101, 115, 116, 47, 98]⟩, by decide⟩
def sBB : Str := ⟨⟨#[98, 117, 105, 108, 100, 47, 98, 105, 110]⟩, by decide⟩
def sTR : Str := ⟨⟨#[116, 101, 115, 116, 47, 114, 101, 112, 111, 114, 116]⟩, by decide⟩
def sBuild : Str := ⟨⟨#[98, 117, 105, 108, 100]⟩, by decide⟩
def sBin : Str := ⟨⟨#[98, 105, 110]⟩, by decide⟩
def sTest : Str := ⟨⟨#[116, 101, 115, 116]⟩, by decide⟩
def sReport : Str := ⟨⟨#[114, 101, 112, 111, 114, 116]⟩, by decide⟩
def sSrcA : Str := ⟨⟨#[115, 114, 99, 47, 97]⟩, by decide⟩
def sTestB : Str := ⟨⟨#[116, 101, 115, 116, 47, 98]⟩, by decide⟩
def i1o : OutR := ⟨sFsrc, ⟨1, by omega⟩, ⟨0, by omega⟩⟩
def i2o : OutR := ⟨sBB, ⟨5, by omega⟩, ⟨0, by omega⟩⟩
def i3o : OutR := ⟨sFtst, ⟨2, by omega⟩, ⟨0, by omega⟩⟩
def oo (s : Str) : OutR := ⟨s, ⟨5, by omega⟩, ⟨0, by omega⟩⟩
def aL1 : Lnk := ⟨rS, sBuild, ⟨1, by omega⟩, ⟨0, by omega⟩, [i1o], oo sBin⟩
def aL2 : Lnk := ⟨rS, sTest, ⟨1, by omega⟩, ⟨0, by omega⟩, [i2o, i3o], oo sReport⟩
def aL3 : Lnk := ⟨rS, sTest, ⟨1, by omega⟩, ⟨0, by omega⟩, [i2o], oo sReport⟩
theorem aw1 : lnkErr [] aL1 = 0 := by decide +kernel
theorem aw2 : lnkErr [aL1] aL2 = 0 := by decide +kernel
theorem aw3 : lnkErr [] aL3 = 8 := by decide +kernel
theorem awh : hasL [aL1, aL2] rS sTR = true := by decide +kernel
theorem awi : idxL [aL1, aL2] rS sTR = 1 := by decide +kernel
theorem awe : Edge [aL1, aL2] rS 1 0 := ⟨aL2, i2o, rfl, by simp [aL2], by decide +kernel, by decide +kernel, by decide +kernel⟩
theorem awm : Marks [aL1, aL2] rS sTR [true, true] := by
  have h01 : ∀ k, k < 2 → ([true, true] : List Bool)[k]? = some true := fun k hk => by
    rcases k with _ | _ | k
    · rfl
    · rfl
    · omega
  refine marks_of rfl awh (h01 _ (by rw [awi]; omega)) (fun j k _ he => h01 k (edge_lt he).1) (fun k hk => ?_)
  rw [awi]
  have h2 : k < 2 := (List.getElem?_eq_some_iff.1 hk).1
  rcases k with _ | _ | k
  · exact .step .base awe
  · exact .base
  · omega
theorem awc : chainL [aL1, aL2] rS sTR = [aL1, aL2] := by
  unfold chainL
  rw [← marks_chain awm]
  rfl
theorem awf : [aL1, aL2].flatMap flsL = [sSrcA, sTestB] := by decide +kernel
theorem awlt : cmpS sSrcA sTestB < 0 := by decide +kernel
theorem aws : srt (srcL [aL1, aL2] rS sTR) = [sSrcA, sTestB] := by
  unfold srcL
  rw [awc, awf]
  refine (srtOf_eq ord_str ⟨?_, fun _ => Iff.rfl⟩).symm
  exact List.pairwise_cons.2 ⟨fun y hy => by obtain rfl := List.mem_singleton.1 hy; exact awlt, List.pairwise_singleton _ _⟩
/-- A link, its inputs in a slice of its own. -/
def lk1 (A : Option Addr) (C : Nat) : Lkr := madeL sBuild sBin A C [i1o]
def lk2 (A : Option Addr) (C : Nat) : Lkr := madeL sTest sReport A C [i2o, i3o]
def lk3 (A : Option Addr) (C : Nat) : Lkr := madeL sTest sReport A C [i2o]
theorem mild_made {j n : Str} {A : Option Addr} {C : Nat} {ins : List OutR} (h1 : j.1.size ≤ 100) (h2 : n.1.size ≤ 100) (h3 : ins.length ≤ 100) (h4 : ∀ y ∈ ins, y.name.1.size ≤ 100) : MildK (madeL j n A C ins) :=
  ⟨by show (1 : Nat) < _; omega, by show j.1.size < _; omega, by show n.1.size < _; omega, by show ins.length ≤ _; omega, fun y hy => by have := h4 y hy; omega⟩
theorem lab_made {w w1 : World} {j n : Str} {ins : List OutR} {cs : Array Value} (hs : cs.toList = ins.flatMap outRE) (hm : ins.length ≤ 100) (hb : Below (w.alloc (.cells cs 29)).heap.size (w.alloc (.cells cs 29)) w1) : LabLkr w1 w1.heap.size (madeL j n (some ⟨w.heap.size, 0, none⟩) ins.length ins) := by
  have h := (Own.lit (enc := outRE) (k := 3) (e := 29) (w := w) (base := w.heap.size) (l := ins) cs (Nat.le_refl _) (by unfold maxLen; omega) hs outRE_len).all hb
  exact ⟨Nat.le_refl _, by show ins.length ≤ _; unfold maxLen; omega, h.reads outRE_len⟩
theorem mild_nil : MildL [] := ⟨Nat.zero_le _, fun _ h => absurd h List.not_mem_nil⟩
set_option maxRecDepth 100000 in
set_option maxHeartbeats 8000000 in
theorem awake_any (w : World) (hG : Glob w) :
    Calls Tryz.prog 10 #[] w fun e w' => e = .returned (.bool true) ∧ Below w.heap.size w w' := by
  have hGl := Lib.hid hG
  have ha1 : Hid (∀ W W1, Below w.heap.size w W → Below (W.alloc (.cells #[.string ⟨#[102, 105, 108, 101, 58, 115, 114, 99, 47, 97]⟩, .int .u64 1, .int .i64 0] 29)).heap.size (W.alloc (.cells #[.string ⟨#[102, 105, 108, 101, 58, 115, 114, 99, 47, 97]⟩, .int .u64 1, .int .i64 0] 29)) W1 → Calls Tryz.prog 11 #[.slice none 0 0, .agg #[.string ⟨#[114]⟩, .string ⟨#[98, 117, 105, 108, 100]⟩, .int .i64 1, .int .u64 0, .slice (some ⟨W.heap.size, 0, none⟩) 1 1, .string ⟨#[98, 105, 110]⟩, .int .u64 5, .int .i64 0]] W1 fun e w' => ∃ (A' : Option Addr) (c' : Nat) (z : Lkr), e = .returned (.tuple #[.slice A' 1 c', .int .i64 0]) ∧ RwL w' w'.heap.size A' [z] ∧ z.h = aL1 ∧ Below W1.heap.size W1 w') := Lib.hid fun W W1 hb hb1 => by
    have hW : Below w.heap.size w W1 := (hb.alloc hb.size _).trans (hb1.mono (by have := hb.size; simp; omega))
    have h := add_any none 0 [] (lk1 (some ⟨W.heap.size, 0, none⟩) 1) W1 RwL.nil (lab_made (ins := [i1o]) rfl (by simp) hb1) mild_nil (mild_made (by decide) (by decide) (by simp) (by decide)) (hGl.out.keep hW)
    refine h.mono ?_
    rintro e w' ⟨A', c', l', rfl, h1, h2, h3⟩
    have h2' : l'.map Lkr.h = [aL1] := by
      rw [h2]
      show lnkAdd [] aL1 = _
      unfold lnkAdd
      rw [aw1]; rfl
    obtain ⟨z, rfl, hz⟩ := List.map_eq_singleton_iff.1 h2'
    refine ⟨A', c', z, ?_, h1.reads, hz, h3⟩
    show Ending.returned (.tuple #[.slice A' 1 c', .int .i64 (lnkErr [] aL1)]) = _
    rw [aw1]
  have ha3 : Hid (∀ W W1, Below w.heap.size w W → Below (W.alloc (.cells #[.string ⟨#[98, 117, 105, 108, 100, 47, 98, 105, 110]⟩, .int .u64 5, .int .i64 0] 29)).heap.size (W.alloc (.cells #[.string ⟨#[98, 117, 105, 108, 100, 47, 98, 105, 110]⟩, .int .u64 5, .int .i64 0] 29)) W1 → Calls Tryz.prog 11 #[.slice none 0 0, .agg #[.string ⟨#[114]⟩, .string ⟨#[116, 101, 115, 116]⟩, .int .i64 1, .int .u64 0, .slice (some ⟨W.heap.size, 0, none⟩) 1 1, .string ⟨#[114, 101, 112, 111, 114, 116]⟩, .int .u64 5, .int .i64 0]] W1 fun e w' => ∃ (A' : Option Addr) (c' : Nat), e = .returned (.tuple #[.slice A' 0 c', .int .i64 8]) ∧ Below W1.heap.size W1 w') := Lib.hid fun W W1 hb hb1 => by
    have hW : Below w.heap.size w W1 := (hb.alloc hb.size _).trans (hb1.mono (by have := hb.size; simp; omega))
    have h := add_any none 0 [] (lk3 (some ⟨W.heap.size, 0, none⟩) 1) W1 RwL.nil (lab_made (ins := [i2o]) rfl (by simp) hb1) mild_nil (mild_made (by decide) (by decide) (by simp) (by decide)) (hGl.out.keep hW)
    refine h.mono ?_
    rintro e w' ⟨A', c', l', rfl, h1, h2, h3⟩
    have h2' : l'.map Lkr.h = [] := by
      rw [h2]
      show lnkAdd [] aL3 = _
      unfold lnkAdd
      rw [aw3]; rfl
    obtain rfl := List.map_eq_nil_iff.1 h2'
    refine ⟨A', c', ?_, h3⟩
    show Ending.returned (.tuple #[.slice A' 0 c', .int .i64 (lnkErr [] aL3)]) = _
    rw [aw3]
  have ha2 : Hid (∀ W0 W W1 (A : Option Addr) (c : Nat) (z : Lkr), Below w.heap.size w W0 → RwL W0 W0.heap.size A [z] → z.h = aL1 → Below W0.heap.size W0 W → Below (W.alloc (.cells #[.string ⟨#[98, 117, 105, 108, 100, 47, 98, 105, 110]⟩, .int .u64 5, .int .i64 0, .string ⟨#[102, 105, 108, 101, 58, 116, 101, 115, 116, 47, 98]⟩, .int .u64 2, .int .i64 0] 29)).heap.size (W.alloc (.cells #[.string ⟨#[98, 117, 105, 108, 100, 47, 98, 105, 110]⟩, .int .u64 5, .int .i64 0, .string ⟨#[102, 105, 108, 101, 58, 116, 101, 115, 116, 47, 98]⟩, .int .u64 2, .int .i64 0] 29)) W1 → Calls Tryz.prog 11 #[.slice A 1 c, .agg #[.string ⟨#[114]⟩, .string ⟨#[116, 101, 115, 116]⟩, .int .i64 1, .int .u64 0, .slice (some ⟨W.heap.size, 0, none⟩) 2 2, .string ⟨#[114, 101, 112, 111, 114, 116]⟩, .int .u64 5, .int .i64 0]] W1 fun e w' => ∃ (A' : Option Addr) (c' : Nat) (z1 z2 : Lkr), e = .returned (.tuple #[.slice A' 2 c', .int .i64 0]) ∧ RwL w' w'.heap.size A' [z1, z2] ∧ [z1, z2].map Lkr.h = [aL1, aL2] ∧ Below W1.heap.size W1 w') := Lib.hid fun W0 W W1 A c z hb0 hrz hz hb hb1 => by
    have hW1 : Below W0.heap.size W0 W1 := (hb.alloc hb.size _).trans (hb1.mono (by have := hb.size; simp; omega))
    have hW : Below w.heap.size w W1 := hb0.trans (hW1.mono hb0.size)
    have hmz : MildL [z] := ⟨by simp, fun x hx => by
      obtain rfl := List.mem_singleton.1 hx
      exact mild_h (y := lk1 none 0) hz (mild_made (by decide) (by decide) (by simp) (by decide))⟩
    have h := add_any A c [z] (lk2 (some ⟨W.heap.size, 0, none⟩) 2) W1 ((hrz.below hW1 (Nat.le_refl _)).more hW1.size) (lab_made (ins := [i2o, i3o]) rfl (by simp) hb1) hmz (mild_made (by decide) (by decide) (by simp) (by decide)) (hGl.out.keep hW)
    refine h.mono ?_
    rintro e w' ⟨A', c', l', rfl, h1, h2, h3⟩
    have he : [z].map Lkr.h = [aL1] := by rw [List.map_cons, hz]; rfl
    rw [he] at h2
    have h2' : l'.map Lkr.h = [aL1, aL2] := by
      rw [h2]
      show lnkAdd [aL1] aL2 = _
      unfold lnkAdd
      rw [aw2]; rfl
    have hl2 := congrArg List.length h2'
    rw [List.length_map] at hl2
    have hl3 : l'.length = 2 := hl2
    rcases l' with _ | ⟨z1, _ | ⟨z2, _ | ⟨z3, t⟩⟩⟩
    · cases hl3
    · cases hl3
    · refine ⟨A', c', z1, z2, ?_, h1.reads, h2', h3⟩
      rw [he]
      show Ending.returned (.tuple #[.slice A' 2 c', .int .i64 (lnkErr [aL1] aL2)]) = _
      rw [aw2]
    · simp at hl3
  have hmz2 : ∀ z1 z2 : Lkr, [z1, z2].map Lkr.h = [aL1, aL2] → MildL [z1, z2] := fun z1 z2 h => by
    have e1 : z1.h = aL1 := by simpa using congrArg (fun l : List Lnk => l[0]!) h
    have e2 : z2.h = aL2 := by simpa using congrArg (fun l : List Lnk => l[1]!) h
    refine ⟨by simp, fun x hx => ?_⟩
    rcases List.mem_cons.1 hx with rfl | hx
    · exact mild_h (y := lk1 none 0) e1 (mild_made (by decide) (by decide) (by simp) (by decide))
    · obtain rfl := List.mem_singleton.1 hx
      exact mild_h (y := lk2 none 0) e2 (mild_made (by decide) (by decide) (by simp) (by decide))
  have hso : Hid (∀ W0 W (A : Option Addr) (c : Nat) (z1 z2 : Lkr), Below w.heap.size w W0 → RwL W0 W0.heap.size A [z1, z2] → [z1, z2].map Lkr.h = [aL1, aL2] → Below W0.heap.size W0 W → Calls Tryz.prog 16 #[.slice A 2 c, .string ⟨#[114]⟩, .string ⟨#[116, 101, 115, 116, 47, 114, 101, 112, 111, 114, 116]⟩] W fun e w' => ∃ (g o c' : Nat), e = .returned (.slice (some ⟨g, o, none⟩) 2 c') ∧ g < w'.heap.size ∧ w'.cell? ⟨g, o, none⟩ = some (.string ⟨#[115, 114, 99, 47, 97]⟩) ∧ w'.cell? ⟨g, o + 1, none⟩ = some (.string ⟨#[116, 101, 115, 116, 47, 98]⟩) ∧ Below W.heap.size W w') := Lib.hid fun W0 W A c z1 z2 hb0 hrz hz hb => by
    have h := sources_any A c [z1, z2] rS sTR W ((hrz.below hb (Nat.le_refl _)).more hb.size) (hmz2 z1 z2 hz) (hGl.out.keep (hb0.trans (hb.mono hb0.size)))
    refine h.mono ?_
    rintro e w' ⟨A', c', rfl, h1, h2⟩
    rw [hz, aws] at h1
    obtain ⟨g, o, e1, hg, hq⟩ := h1 (by simp)
    refine ⟨g, o, c', ?_, hg, ?_, ?_, h2⟩
    · rw [hz, aws, e1]; rfl
    · have h0 := hq 0 sSrcA rfl 0 _ rfl
      simp only [Nat.zero_mul, Nat.add_zero] at h0
      exact h0
    · have h0 := hq 1 sTestB rfl 0 _ rfl
      simp only [Nat.mul_one, Nat.add_zero] at h0
      exact h0
  have hch : Hid (∀ W0 W (A : Option Addr) (c : Nat) (z1 z2 : Lkr), Below w.heap.size w W0 → RwL W0 W0.heap.size A [z1, z2] → [z1, z2].map Lkr.h = [aL1, aL2] → Below W0.heap.size W0 W → Calls Tryz.prog 19 #[.slice A 2 c, .string ⟨#[114]⟩, .string ⟨#[116, 101, 115, 116, 47, 114, 101, 112, 111, 114, 116]⟩] W fun e w' => ∃ (A' : Option Addr) (c' : Nat), e = .returned (.slice A' 2 c') ∧ Below W.heap.size W w') := Lib.hid fun W0 W A c z1 z2 hb0 hrz hz hb => by
    have h := chain_any A c [z1, z2] rS sTR W ((hrz.below hb (Nat.le_refl _)).more hb.size) (hmz2 z1 z2 hz) (hGl.out.keep (hb0.trans (hb.mono hb0.size)))
    refine h.mono ?_
    rintro e w' ⟨A', c', l', rfl, h1, h2, h3⟩
    rw [hz, awc] at h2
    have hl2 := congrArg List.length h2
    rw [List.length_map] at hl2
    exact ⟨A', c', by rw [hl2]; rfl, h3⟩
  clear hG hmz2
  go_enter Tryz.func10, Tryz.ntmps10
  go_upto_region 2 with (first
    | (go_at_call 31; go_must (refine (made_any sBuild sBin _ _ _ _).mono ?_; rintro e w1 ⟨rfl, hb1⟩; have hz1 := hb1.size; (try simp at hz1)))
    | (go_at_call 11; go_must (refine (ha1.out _ _ (Below.refl _ _) hb1).mono ?_; rintro e w2 ⟨A2, c2, z, rfl, hr2, hz2h, hb2⟩; have hz2 := hb2.size; replace hr2 := Lib.hid hr2; replace hz2h := Lib.hid hz2h)))
  have hB2 : Hid (Below w.heap.size w w2) := Lib.hid (by repeat (first | (with_reducible exact Below.refl _ _) | (with_reducible refine Below.drew ?_) | (with_reducible refine below_drewN ?_ _) | ((with_reducible refine Below.alloc ?_ ?_ _); rotate_left; focus ((try simp) <;> omega)) | ((with_reducible refine Below.setCell ?_ ?_ _); rotate_left; focus ((try simp) <;> omega)) | ((with_reducible refine Below.trans ?_ (Below.mono (by assumption) ?_)); rotate_left; focus ((try simp) <;> omega))))
  go_upto_region 3 with (first
    | (go_at_call 31; go_must (refine (made_any sTest sReport _ _ _ _).mono ?_; rintro e w3 ⟨rfl, hb3⟩; have hz3 := hb3.size; (try simp at hz3)))
    | (go_at_call 11; go_must (refine (ha2.out w2 _ _ A2 c2 z hB2.out hr2.out hz2h.out (Below.refl _ _) hb3).mono ?_; rintro e w4 ⟨A4, c4, z1, z2, rfl, hr4, hz4h, hb4⟩; have hz4 := hb4.size; replace hr4 := Lib.hid hr4; replace hz4h := Lib.hid hz4h)))
  have hB4 : Hid (Below w.heap.size w w4) := Lib.hid (hB2.out.trans (Below.mono (B := w2.heap.size) (show Below w2.heap.size w2 w4 from (by repeat (first | (with_reducible exact Below.refl _ _) | (with_reducible refine Below.drew ?_) | (with_reducible refine below_drewN ?_ _) | ((with_reducible refine Below.alloc ?_ ?_ _); rotate_left; focus ((try simp) <;> omega)) | ((with_reducible refine Below.setCell ?_ ?_ _); rotate_left; focus ((try simp) <;> omega)) | ((with_reducible refine Below.trans ?_ (Below.mono (by assumption) ?_)); rotate_left; focus ((try simp) <;> omega))))) hB2.out.size))
  go_upto_region 4 with (go_at_call 16; go_must (refine (hso.out w4 _ A4 c4 z1 z2 hB4.out hr4.out hz4h.out (Below.refl _ _)).mono ?_; rintro e w5 ⟨g5, o5, c5, rfl, hg5, k1, k2, hb5⟩; have hz5 := hb5.size))
  have hB5 : Hid (Below w.heap.size w w5) := Lib.hid (hB4.out.trans (hb5.mono hB4.out.size))
  go_upto_region 5 with (first
    | (go_at_call 31; go_must (refine (made_any sTest sReport _ _ _ _).mono ?_; rintro e w6 ⟨rfl, hb6⟩; have hz6 := hb6.size; (try simp at hz6)))
    | (go_at_call 11; go_must (refine (ha3.out w5 _ hB5.out hb6).mono ?_; rintro e w7 ⟨A7, c7, rfl, hb7⟩; have hz7 := hb7.size)))
  have hB7 : Hid (Below w5.heap.size w5 w7) := Lib.hid (by repeat (first | (with_reducible exact Below.refl _ _) | (with_reducible refine Below.drew ?_) | (with_reducible refine below_drewN ?_ _) | ((with_reducible refine Below.alloc ?_ ?_ _); rotate_left; focus ((try simp) <;> omega)) | ((with_reducible refine Below.setCell ?_ ?_ _); rotate_left; focus ((try simp) <;> omega)) | ((with_reducible refine Below.trans ?_ (Below.mono (by assumption) ?_)); rotate_left; focus ((try simp) <;> omega))))
  have k3 := (hB7.out.cell (p := ⟨g5, o5, none⟩) hg5).trans k1
  have k4 := (hB7.out.cell (p := ⟨g5, o5 + 1, none⟩) hg5).trans k2
  go_wp2_with (go_at_call 19; go_must (refine (hch.out w4 _ A4 c4 z1 z2 hB4.out hr4.out hz4h.out (hb5.trans (hB7.out.mono hz5))).mono ?_; rintro e w8 ⟨A8, c8, rfl, hb8⟩))
  go_ret
  exact ⟨rfl, hB5.out.trans ((hB7.out.trans (hb8.mono hB7.out.size)).mono hB5.out.size)⟩
end Go.Proofs.YtjkijknjngiieaaGreatDoor
