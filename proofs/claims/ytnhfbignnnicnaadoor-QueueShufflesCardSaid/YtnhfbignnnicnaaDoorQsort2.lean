/-
  The walk of the library's merge, where the second block is of one element.
-/
import Derived.Test.YtnhfbignnnicnaaDoorQsort

namespace Go.Proofs.YtnhfbignnnicnaaDoor
open Go.Shelf Go.RowKit Go.Lib Go.Sort
variable {P : Program} {α : Type} [Inhabited α] {cf : α → α → Int}

set_option maxHeartbeats 8000000 in
set_option maxRecDepth 1000000 in
theorem sym_two {k : Nat} (L : Bare P k) (enc : α → List Value) (g : Nat) (cb : Array Value) (blk off cap a m b f : Nat) (d0 d : Array α) (w0 w : World)
    (eg : ∀ args w, (callFunc g args).run P w = .ok (.enter g args) w) (hcmp : CmpLays P g cb enc k cf blk off d0.size w0) (R : RowK enc k w0 blk off d0) (hs : d0.size = d.size) (S : SWK enc k w0 blk off d w) (ham : a < m) (hmb : m < b) (hb : b ≤ d.size) (hsz : d.size < 4611686018427387904) (h1 : ¬ m - a = 1) (h2 : b - m = 1) :
    Calls P 60 #[.slice (some ⟨blk, off, none⟩) d.size cap, .int .i64 a, .int .i64 m, .int .i64 b, .func (.func g) #[] cb] w fun e w' => e = .returned (.tuple #[]) ∧ SWK enc k w0 blk off (symF (ltOf cf) (f + 1) a m b d) w' := by
  have mixed := L.mixed; have t0 := L.t0; have a0 := L.a0; have z0 := L.z0; have v0 := L.v0; have t3 := L.t3; have a3 := L.a3; have z3 := L.z3; have v3 := L.v3; have t4 := L.t4; have a4 := L.a4; have z4 := L.z4; have v4 := L.v4; have t22 := L.t22; have a22 := L.a22; have z22 := L.z22; have v22 := L.v22; have t61 := L.t61; have a61 := L.a61; have z61 := L.z61; have v61 := L.v61; have t79 := L.t79; have a79 := L.a79; have z79 := L.z79; have v79 := L.v79; have aE := L.aE; have zE := L.zE
  have S0 : Aside (SWK enc k w0 blk off d w) := S
  have HC : Aside _ := hcmp
  clear S hcmp
  have h1z : ((m : Int) - (a : Int) == 1) = false := by rw [beq_eq_false_iff_ne]; omega
  have h2z : ((b : Int) - (m : Int) == 1) = true := by rw [beq_iff_eq]; omega
  go_enter L.f60, Tryd.ntmps60
  go_wp2
  go_loopg [14, 15] (m - a) (fun kx s10 s11 wr => ∃ (i j : Nat), s10 = .int .i64 i ∧ s11 = .int .i64 j ∧ a ≤ i ∧ i ≤ j ∧ j ≤ m ∧ j - i ≤ kx ∧ Aside (SWK enc k w0 blk off d wr) ∧ Hid (bsr (fun h => !ltOf cf d[m]! d[h]!) i j = bsr (fun h => !ltOf cf d[m]! d[h]!) a m))
  case atStart => exact ⟨a, m, rfl, rfl, Nat.le_refl _, by omega, Nat.le_refl _, Nat.le_refl _, S0, rfl⟩
  case round =>
    clear S0
    obtain ⟨i, j, rfl, rfl, hai, hij, hjb, hkx, S1, HE⟩ := hrel
    by_cases hlt : i < j
    · have hlz : (i : Int) < (j : Int) := by omega
      have emid : ((i : Int) + (j : Int)) / 2 = (((i + j) / 2 : Nat) : Int) := by omega
      obtain ⟨h, hh⟩ : ∃ h, (i + j) / 2 = h := ⟨_, rfl⟩
      rw [hh] at emid
      cases hL : ltOf cf d[m]! d[h]! with
      | true =>
        have ea1 : ((m : Int)).toNat = m := by omega
        have pa1 : (0 : Int) ≤ (m : Int) := by omega
        have ba1 : (m : Int) < (d.size : Int) := by omega
        have ra1 : IntKind.i64.wrap ((m : Int)) = (m : Int) := by rw [IntKind.wrap_i64]; omega
        have ec1 : ((h : Int)).toNat = h := by omega
        have pc1 : (0 : Int) ≤ (h : Int) := by omega
        have bc1 : (h : Int) < (d.size : Int) := by omega
        have rc1 : IntKind.i64.wrap ((h : Int)) = (h : Int) := by rw [IntKind.wrap_i64]; omega
        obtain ⟨x1, hx1⟩ : ∃ x, x = d[m]! := ⟨_, rfl⟩
        obtain ⟨y1, hy1⟩ : ∃ x, x = d[h]! := ⟨_, rfl⟩
        have la1 := S1.out.ld R (by omega) P (m) (by omega)
        have lb1 := S1.out.ld R (by omega) P (h) (by omega)
        rw [← hx1] at la1
        rw [← hy1] at lb1
        have hc1 := S1.out.cmp HC.out (by omega) x1 y1
        have hv1 :  cf x1 y1 < 0 := by rw [hx1, hy1]; exact of_decide_eq_true hL
        have hd1 : decide (cf x1 y1 < 0) = true := decide_eq_true hv1
        clear hx1 hy1
        go_wp2_with fail
        go_quiet_grown (first | (go_at_fn g; refine Calls.grown_of (hc1 _ _)))
        have S2 : Aside (SWK enc k w0 blk off d (grow (wr.drewN nq) osq)) := S1.out.grown nq osq
        clear la1 lb1 hc1 S1
        generalize grow (wr.drewN nq) osq = w2 at S2 ⊢
        clear nq osq
        go_wp2
        go_roundg (h - i)
        case measure => omega
        case rel => exact ⟨i, h, rfl, rfl, by omega, by omega, by omega, Nat.le_refl _, S2, (show Hid _ from by rw [← HE.out, bsr_no hlt (by rw [hh, hL]; rfl), hh]; exact rfl)⟩
      | false =>
        have ea2 : ((m : Int)).toNat = m := by omega
        have pa2 : (0 : Int) ≤ (m : Int) := by omega
        have ba2 : (m : Int) < (d.size : Int) := by omega
        have ra2 : IntKind.i64.wrap ((m : Int)) = (m : Int) := by rw [IntKind.wrap_i64]; omega
        have ec2 : ((h : Int)).toNat = h := by omega
        have pc2 : (0 : Int) ≤ (h : Int) := by omega
        have bc2 : (h : Int) < (d.size : Int) := by omega
        have rc2 : IntKind.i64.wrap ((h : Int)) = (h : Int) := by rw [IntKind.wrap_i64]; omega
        obtain ⟨x2, hx2⟩ : ∃ x, x = d[m]! := ⟨_, rfl⟩
        obtain ⟨y2, hy2⟩ : ∃ x, x = d[h]! := ⟨_, rfl⟩
        have la2 := S1.out.ld R (by omega) P (m) (by omega)
        have lb2 := S1.out.ld R (by omega) P (h) (by omega)
        rw [← hx2] at la2
        rw [← hy2] at lb2
        have hc2 := S1.out.cmp HC.out (by omega) x2 y2
        have hv2 : ¬ cf x2 y2 < 0 := by rw [hx2, hy2]; exact of_decide_eq_false hL
        have hd2 : decide (cf x2 y2 < 0) = false := decide_eq_false hv2
        clear hx2 hy2
        go_wp2_with fail
        go_quiet_grown (first | (go_at_fn g; refine Calls.grown_of (hc2 _ _)))
        have S2 : Aside (SWK enc k w0 blk off d (grow (wr.drewN nq) osq)) := S1.out.grown nq osq
        clear la2 lb2 hc2 S1
        generalize grow (wr.drewN nq) osq = w2 at S2 ⊢
        clear nq osq
        go_wp2
        go_roundg (j - (h + 1))
        case measure => omega
        case rel => exact ⟨h + 1, j, by go_num, rfl, by omega, by omega, hjb, Nat.le_refl _, S2, (show Hid _ from by rw [← HE.out, bsr_yes hlt (by rw [hh, hL]; rfl), hh]; exact rfl)⟩
    · have hlz : ¬ (i : Int) < (j : Int) := by omega
      have hi : Hid (bsr (fun h => !ltOf cf d[m]! d[h]!) a m = i) := by show _ = _; rw [← HE.out, bsr_end hlt]
      go_wp2
      go_loopg [17] (m - i) (fun kx s13 wq => ∃ (c : Nat) (dk : Array α), s13 = .int .i64 c ∧ i ≤ c ∧ c ≤ m ∧ c - i ≤ kx ∧ dk.size = d.size ∧ Aside (SWK enc k w0 blk off dk wq) ∧ Hid (mvDn c i dk = mvDn m i d))
      case atStart => exact ⟨m, d, rfl, by omega, Nat.le_refl _, Nat.le_refl _, rfl, S1, rfl⟩
      case round =>
        clear S1
        obtain ⟨c, dk, rfl, hac, hci, hkx2, hds, S1, HM⟩ := hrel
        by_cases hlt2 : i < c
        · have hl2 : (i : Int) < (c : Int) := by omega
          obtain ⟨c1, rfl⟩ : ∃ c1, c = c1 + 1 := ⟨c - 1, by omega⟩
          go_wp2_with fail
          have ea3 : ((c1 : Int) + 1).toNat = c1 + 1 := by omega
          have pa3 : (0 : Int) ≤ (c1 : Int) + 1 := by omega
          have ba3 : (c1 : Int) + 1 < (d.size : Int) := by omega
          have ra3 : IntKind.i64.wrap ((c1 : Int) + 1) = (c1 : Int) + 1 := by rw [IntKind.wrap_i64]; omega
          have ec3 : ((c1 : Int)).toNat = c1 := by omega
          have pc3 : (0 : Int) ≤ (c1 : Int) := by omega
          have bc3 : (c1 : Int) < (d.size : Int) := by omega
          have rc3 : IntKind.i64.wrap ((c1 : Int)) = (c1 : Int) := by rw [IntKind.wrap_i64]; omega
          have S2 : Aside (SWK enc k w0 blk off (swp dk (c1 + 1) (c1)) ((wr.drew.setCells blk (off + (c1 + 1) * k) (enc dk[c1]!)).setCells blk (off + (c1) * k) (enc dk[c1 + 1]!))) := S1.out.swapped R (c1 + 1) (c1) (by omega) (by omega)
          have la3 := S1.out.ld1 R (by omega) P (c1 + 1) (by omega)
          have lb3 := S1.out.ld1 R (by omega) P (c1) (by omega)
          have sa3 := S1.out.st1 R (by omega) P (c1 + 1) (by omega) dk[c1]!
          have sb3 := S1.out.st2 R (by omega) P (c1 + 1) (c1) (by omega) (by omega) dk[c1]! dk[c1 + 1]!
          have na3 : (enc dk[c1 + 1]!).length = k := R.hk _
          have nb3 : (enc dk[c1]!).length = k := R.hk _
          generalize enc dk[c1 + 1]! = cI3 at S2 la3 sb3 na3
          generalize enc dk[c1]! = cJ3 at S2 lb3 sa3 sb3 nb3
          clear S1
          go_wp2_with fail
          go_big_region_o
          clear la3 lb3 sa3 sb3
          generalize (wr.drew.setCells blk (off + (c1 + 1) * k) cJ3).setCells blk (off + (c1) * k) cI3 = w2 at S2 ⊢
          go_wp2
          go_roundg (c1 - i)
          case measure => omega
          case rel => exact ⟨c1, swp dk (c1 + 1) c1, by first | go_num | (congr 1; omega), by omega, by omega, Nat.le_refl _, by rw [size_swp]; exact hds, S2, (show Hid _ from by rw [← HM.out, mvDn.eq_def (c1 + 1), if_pos hlt2, Nat.add_sub_cancel]; exact rfl)⟩
        · have hl2 : ¬ (i : Int) < (c : Int) := by omega
          go_wp2
          (try simp only [Exit.inBlock, Exit.then])
          refine bodyPost_ret (results_none rfl _ _ _) rfl ?_
          refine ⟨rfl, ?_⟩
          unfold symF
          rw [if_neg h1, if_pos h2, hi.out, ← HM.out, mvDn.eq_def, if_neg hlt2]
          exact S1.out
end Go.Proofs.YtnhfbignnnicnaaDoor
