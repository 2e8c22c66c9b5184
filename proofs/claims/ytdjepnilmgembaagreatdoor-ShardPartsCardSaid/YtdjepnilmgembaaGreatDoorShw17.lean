/-
  The walks of shards: one of the shards, by the reference.
-/
import Derived.Test.YtdjepnilmgembaaGreatDoorShw12
import Derived.Test.YtdjepnilmgembaaGreatDoorShw16


namespace Go.Proofs.YtdjepnilmgembaaGreatDoor
open Go.RowKit
attribute [local go_sem ↓] Go.wp_at_zero Go.wp_at_succ

set_option maxRecDepth 100000 in
set_option maxHeartbeats 2000000 in
theorem rpart_any (A B : Option Addr) (c d : Nat) (l : List Str) (ts : List Tm) (k n : Int) (hk1 : -9223372036854775808 ≤ k) (hk2 : k ≤ 9223372036854775807) (w : World) (hr : Rw sE 1 w w.heap.size A l) (hlc : l.length ≤ c) (hn : l.length ≤ 1000) (hs : ∀ x ∈ l, x.1.size < 4294967281) (ht : Rw tmE 2 w w.heap.size B ts) (htn : ts.length ≤ 1000000) :
    Calls Tryz.prog 18 #[.slice A l.length c, .slice B ts.length d, .int .i64 k, .int .i64 n] w fun e w' => ∃ A' c' P, e = .returned (.tuple #[.slice A' P.length c', .int .i64 (prtE l k n)]) ∧ Rw sE 1 w' w'.heap.size A' P ∧ P = prtL ts l k n ∧ Below w.heap.size w w' := by
  have hsp0 : ∀ W, Below w.heap.size w W → Calls Tryz.prog 15 #[.slice A l.length c, .slice B ts.length d, .int .i64 n] W fun e w' => ∃ A' c' L, e = .returned (.tuple #[.slice A' L.length c', .int .i64 (splErr l n)]) ∧ RwS w' w'.heap.size A' L ∧ L.map SlR.l = shdL ts l n ∧ Below W.heap.size W w' := fun W hb => rshsplit_any A B c d l ts n W ((hr.below hb (Nat.le_refl _)).more hb.size) hlc hn hs ((ht.below hb (Nat.le_refl _)).more hb.size) htn
  clear hr hs ht
  obtain ⟨E, hE⟩ : ∃ E, splErr l n = E := ⟨_, rfl⟩
  rw [hE] at hsp0
  have hsp := Lib.hid hsp0
  clear hsp0
  by_cases hE0 : E = 0
  · subst hE0
    by_cases hkn : k < 1 ∨ n < k
    · obtain ⟨e1, e2⟩ := prt_2 (ts := ts) hE hkn
      have hf := Lib.hid e1
      have hg := Lib.hid e2
      clear e1 e2
      replace hE := Lib.hid hE
      by_cases h1 : k < 1
      · clear hkn
        go_enter Tryz.func18, Tryz.ntmps18
        go_wp2_with (go_at_call 15; go_must (refine (hsp.out _ (Below.refl _ _)).mono ?_; rintro e w1 ⟨A1, c1, L, rfl, hS, hL, hb1⟩; have hz1 := hb1.size; replace hS := Lib.hid hS; replace hL := Lib.hid hL))
        go_ret2
        exact ⟨none, 0, [], by rw [hf.out]; rfl, Rw.nil, hg.out.symm, hb1⟩
      · have h2 : n < k := hkn.resolve_left h1
        clear hkn
        go_enter Tryz.func18, Tryz.ntmps18
        go_wp2_with (go_at_call 15; go_must (refine (hsp.out _ (Below.refl _ _)).mono ?_; rintro e w1 ⟨A1, c1, L, rfl, hS, hL, hb1⟩; have hz1 := hb1.size; replace hS := Lib.hid hS; replace hL := Lib.hid hL))
        go_ret2
        exact ⟨none, 0, [], by rw [hf.out]; rfl, Rw.nil, hg.out.symm, hb1⟩
    · obtain ⟨e1, e2⟩ := prt_ok (ts := ts) hE hkn
      have hf := Lib.hid e1
      have hg := Lib.hid e2
      clear e1 e2
      have hnn := splErr_ok hE
      have hlen : Hid ((shdL ts l n).length = n.toNat) := Lib.hid (by rw [shdL_ok hE, outT_len])
      replace hE := Lib.hid hE
      have h1 : ¬ k < 1 := by omega
      have h2 : ¬ n < k := by omega
      obtain ⟨h3, h4, _⟩ := hnn
      obtain ⟨j, hj⟩ : ∃ j : Nat, k = (j : Int) + 1 := ⟨(k - 1).toNat, by omega⟩
      have h5 : k - 1 = (j : Int) := by omega
      have hjn : j < n.toNat := by omega
      have hj2 : Hid ((k - 1).toNat = j) := Lib.hid (by omega)
      replace hj := Lib.hid hj
      clear hkn
      have h6 : (0 : Int) ≤ (j : Int) := by omega
      go_enter Tryz.func18, Tryz.ntmps18
      go_upto_region 6 with (go_at_call 15; go_must (refine (hsp.out _ (Below.refl _ _)).mono ?_; rintro e w1 ⟨A1, c1, L, rfl, hS, hL, hb1⟩; have hz1 := hb1.size; replace hS := Lib.hid hS; replace hL := Lib.hid hL))
      have hLl : L.length = n.toNat := by rw [← hlen.out, ← hL.out, List.length_map]
      obtain ⟨x, hx⟩ := get_some (show j < L.length by rw [hLl]; exact hjn)
      have h7 : (j : Int) < (L.length : Int) := by have := (List.getElem?_eq_some_iff.1 hx).1; omega
      obtain ⟨g, o, rfl, hgl, hq⟩ := hS.out.row (by omega)
      have q0 := hq j x hx 0 (.slice x.A x.l.length x.c) rfl
      rw [Nat.mul_one, Nat.add_zero] at q0
      have hxr := Lib.hid (hS.out.labs x (List.mem_of_getElem? hx))
      have hxe : Hid (x.l = prtL ts l k n) := Lib.hid (by
        rw [hg.out, ← hL.out, hj2.out]
        exact (get_bang (by rw [List.getElem?_map, hx]; rfl)).symm)
      clear hq
      replace hLl := Lib.hid hLl
      replace hx := Lib.hid hx
      go_wp2_with fail
      go_ret2
      exact ⟨x.A, x.c, x.l, by rw [hf.out]; rfl, hxr.out, hxe.out, hb1⟩
  · have hEb : (E != 0) = true := by rw [bne_iff_ne]; exact hE0
    obtain ⟨e1, e2⟩ := prt_err (ts := ts) (k := k) (by rw [hE]; exact hE0)
    rw [hE] at e1
    have hf := Lib.hid e1
    have hg := Lib.hid e2
    clear e1 e2
    replace hE := Lib.hid hE
    replace hE0 := Lib.hid hE0
    go_enter Tryz.func18, Tryz.ntmps18
    go_wp2_with (go_at_call 15; go_must (refine (hsp.out _ (Below.refl _ _)).mono ?_; rintro e w1 ⟨A1, c1, L, rfl, hS, hL, hb1⟩; have hz1 := hb1.size; replace hS := Lib.hid hS; replace hL := Lib.hid hL))
    go_ret2
    exact ⟨none, 0, [], by rw [hf.out]; rfl, Rw.nil, hg.out.symm, hb1⟩
end Go.Proofs.YtdjepnilmgembaaGreatDoor
