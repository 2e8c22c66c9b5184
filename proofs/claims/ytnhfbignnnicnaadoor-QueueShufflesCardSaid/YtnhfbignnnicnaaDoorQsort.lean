/-
  The walks of the library's stable sort at pending jobs, at fewer than forty of them: blocks exchanged, blocks rotated, the merge, the sort; the comparison may lay blocks of its own.
-/
import Derived.Test.YtnhfbignnnicnaaDoorProg
import Derived.Test.YtnhfbignnnicnaaDoorStab3
import Derived.Shelf.SlSortCmp.KitK
import Derived.Shelf.SlSortCmp.InsertionK
import Derived.Sort.WalkB2
import Derived.Sort.WalkB12
import Derived.Deep.LoopGhost
import Derived.WalkKit
import Derived.WalkSpells

namespace Go.Proofs.YtnhfbignnnicnaaDoor
open Go.Shelf Go.RowKit Go.Lib Go.Sort
variable {P : Program} {α : Type} [Inhabited α]

/-- What the walks ask of a program: these functions' bodies, these types; an element of k cells. (At a program of its own the tactics would spell out an element's cells.) -/
structure Bare (P : Program) (k : Nat) : Prop where
  mixed : P.follows .mixedOrders = true
  f88 : P.funcs[88]? = some Tryd.f88
  f71 : P.funcs[71]? = some Tryd.f71
  f60 : P.funcs[60]? = some Tryd.f60
  f59 : P.funcs[59]? = some Tryd.f59
  f50 : P.funcs[50]? = some Tryd.f50
  f37 : P.funcs[37]? = some Tryd.f37
  t0 : P.underlying 0 = some (TypeDesc.tuple #[])
  a0 : ∀ w, (isAgg 0).run P w = .ok false w
  z0 : ∀ w, (Go.sizeOf 0).run P w = .ok 1 w
  v0 : ∀ w, (zeroValue 0).run P w = .ok (Value.tuple #[]) w
  t3 : P.underlying 3 = some (TypeDesc.int IntKind.i64)
  a3 : ∀ w, (isAgg 3).run P w = .ok false w
  z3 : ∀ w, (Go.sizeOf 3).run P w = .ok 1 w
  v3 : ∀ w, (zeroValue 3).run P w = .ok (Value.int IntKind.i64 0) w
  t4 : P.underlying 4 = some (TypeDesc.bool)
  a4 : ∀ w, (isAgg 4).run P w = .ok false w
  z4 : ∀ w, (Go.sizeOf 4).run P w = .ok 1 w
  v4 : ∀ w, (zeroValue 4).run P w = .ok (Value.bool false) w
  t22 : P.underlying 22 = some (TypeDesc.slice 27)
  a22 : ∀ w, (isAgg 22).run P w = .ok false w
  z22 : ∀ w, (Go.sizeOf 22).run P w = .ok 1 w
  v22 : ∀ w, (zeroValue 22).run P w = .ok (Value.slice none 0 0) w
  t61 : P.underlying 61 = some (TypeDesc.func #[27, 27] #[3] false)
  a61 : ∀ w, (isAgg 61).run P w = .ok false w
  z61 : ∀ w, (Go.sizeOf 61).run P w = .ok 1 w
  v61 : ∀ w, (zeroValue 61).run P w = .ok (Value.nilFunc) w
  t79 : P.underlying 79 = some (TypeDesc.int IntKind.u64)
  a79 : ∀ w, (isAgg 79).run P w = .ok false w
  z79 : ∀ w, (Go.sizeOf 79).run P w = .ok 1 w
  v79 : ∀ w, (zeroValue 79).run P w = .ok (Value.int IntKind.u64 0) w
  aE : ∀ w, (isAgg 27).run P w = .ok true w
  zE : ∀ w, (Go.sizeOf 27).run P w = .ok k w
theorem bare : Bare Tryd.prog 10 where
  mixed := by kernel_rfl
  f88 := Tryd.func88
  f71 := Tryd.func71
  f60 := Tryd.func60
  f59 := Tryd.func59
  f50 := Tryd.func50
  f37 := Tryd.func37
  t0 := Tryd.underlying0
  a0 := Tryd.isAgg0
  z0 := Tryd.sizeOf0
  v0 := Tryd.zeroValue0
  t3 := Tryd.underlying3
  a3 := Tryd.isAgg3
  z3 := Tryd.sizeOf3
  v3 := Tryd.zeroValue3
  t4 := Tryd.underlying4
  a4 := Tryd.isAgg4
  z4 := Tryd.sizeOf4
  v4 := Tryd.zeroValue4
  t22 := Tryd.underlying22
  a22 := Tryd.isAgg22
  z22 := Tryd.sizeOf22
  v22 := Tryd.zeroValue22
  t61 := Tryd.underlying61
  a61 := Tryd.isAgg61
  z61 := Tryd.sizeOf61
  v61 := Tryd.zeroValue61
  t79 := Tryd.underlying79
  a79 := Tryd.isAgg79
  z79 := Tryd.sizeOf79
  v79 := Tryd.zeroValue79
  aE := Tryd.isAgg27
  zE := Tryd.sizeOf27


set_option maxHeartbeats 4000000 in
set_option maxRecDepth 1000000 in
/-- Two blocks of n exchanged. -/
theorem swapRange_any {k : Nat} (L : Bare P k) (enc : α → List Value) (g : Nat) (cb : Array Value) (blk off cap a b n : Nat) (d0 d : Array α) (w0 w : World)
    (R : RowK enc k w0 blk off d0) (hs : d0.size = d.size) (S : SWK enc k w0 blk off d w) (hab : a + n ≤ b) (hb : b + n ≤ d.size) (hsz : d.size < 4611686018427387904) :
    Calls P 88 #[.slice (some ⟨blk, off, none⟩) d.size cap, .int .i64 a, .int .i64 b, .int .i64 n, .func (.func g) #[] cb] w fun e w' => e = .returned (.tuple #[]) ∧ SWK enc k w0 blk off (swR a b n 0 d) w' := by
  have mixed := L.mixed; have t0 := L.t0; have a0 := L.a0; have z0 := L.z0; have v0 := L.v0; have t3 := L.t3; have a3 := L.a3; have z3 := L.z3; have v3 := L.v3; have t4 := L.t4; have a4 := L.a4; have z4 := L.z4; have v4 := L.v4; have t22 := L.t22; have a22 := L.a22; have z22 := L.z22; have v22 := L.v22; have t61 := L.t61; have a61 := L.a61; have z61 := L.z61; have v61 := L.v61; have t79 := L.t79; have a79 := L.a79; have z79 := L.z79; have v79 := L.v79; have aE := L.aE; have zE := L.zE
  have S0 : Aside (SWK enc k w0 blk off d w) := S
  clear S
  go_enter L.f88, Tryd.ntmps88
  go_wp2
  go_loopg [10] n (fun kx s10 wr => ∃ (i : Nat) (dk : Array α), s10 = .int .i64 i ∧ i ≤ n ∧ n - i ≤ kx ∧ dk.size = d.size ∧ Aside (SWK enc k w0 blk off dk wr) ∧ Hid (swR a b n i dk = swR a b n 0 d))
  case atStart => exact ⟨0, d, rfl, Nat.zero_le _, Nat.le_refl _, rfl, S0, rfl⟩
  case round =>
    clear S0
    obtain ⟨i, dk, rfl, hin, hkx, hds, S1, HE⟩ := hrel
    by_cases hlt : i < n
    · have hlz : (i : Int) < (n : Int) := by omega
      go_wp2_with fail
      have ea1 : ((a : Int) + (i : Int)).toNat = a + i := by omega
      have pa1 : (0 : Int) ≤ (a : Int) + (i : Int) := by omega
      have ba1 : (a : Int) + (i : Int) < (d.size : Int) := by omega
      have ra1 : IntKind.i64.wrap ((a : Int) + (i : Int)) = (a : Int) + (i : Int) := by rw [IntKind.wrap_i64]; omega
      have ec1 : ((b : Int) + (i : Int)).toNat = b + i := by omega
      have pc1 : (0 : Int) ≤ (b : Int) + (i : Int) := by omega
      have bc1 : (b : Int) + (i : Int) < (d.size : Int) := by omega
      have rc1 : IntKind.i64.wrap ((b : Int) + (i : Int)) = (b : Int) + (i : Int) := by rw [IntKind.wrap_i64]; omega
      have S2 : Aside (SWK enc k w0 blk off (swp dk (a + i) (b + i)) ((wr.drew.setCells blk (off + (a + i) * k) (enc dk[b + i]!)).setCells blk (off + (b + i) * k) (enc dk[a + i]!))) := S1.out.swapped R (a + i) (b + i) (by omega) (by omega)
      have la1 := S1.out.ld1 R (by omega) P (a + i) (by omega)
      have lb1 := S1.out.ld1 R (by omega) P (b + i) (by omega)
      have sa1 := S1.out.st1 R (by omega) P (a + i) (by omega) dk[b + i]!
      have sb1 := S1.out.st2 R (by omega) P (a + i) (b + i) (by omega) (by omega) dk[b + i]! dk[a + i]!
      have na1 : (enc dk[a + i]!).length = k := R.hk _
      have nb1 : (enc dk[b + i]!).length = k := R.hk _
      generalize enc dk[a + i]! = cI1 at S2 la1 sb1 na1
      generalize enc dk[b + i]! = cJ1 at S2 lb1 sa1 sb1 nb1
      clear S1
      go_wp2_with fail
      go_big_region_o
      clear la1 lb1 sa1 sb1
      generalize (wr.drew.setCells blk (off + (a + i) * k) cJ1).setCells blk (off + (b + i) * k) cI1 = w2 at S2 ⊢
      go_wp2
      go_roundg (n - (i + 1))
      case measure => omega
      case rel => exact ⟨i + 1, swp dk (a + i) (b + i), by go_num, by omega, Nat.le_refl _, by rw [size_swp]; exact hds, S2, (show Hid _ from by rw [← HE.out, swR.eq_def a b n i, if_pos hlt]; exact rfl)⟩
    · have hlz : ¬ (i : Int) < (n : Int) := by omega
      go_wp2
      go_end0
      refine ⟨rfl, ?_⟩
      rw [← HE.out, swR.eq_def, if_neg hlt]
      exact S1.out

set_option maxHeartbeats 4000000 in
set_option maxRecDepth 1000000 in
/-- Two blocks rotated. -/
theorem rotate_any {k : Nat} (L : Bare P k) (enc : α → List Value) (g : Nat) (cb : Array Value) (blk off cap a m b : Nat) (d0 d : Array α) (w0 w : World)
    (R : RowK enc k w0 blk off d0) (hs : d0.size = d.size) (S : SWK enc k w0 blk off d w) (ham : a < m) (hmb : m < b) (hb : b ≤ d.size) (hsz : d.size < 4611686018427387904) :
    Calls P 71 #[.slice (some ⟨blk, off, none⟩) d.size cap, .int .i64 a, .int .i64 m, .int .i64 b, .func (.func g) #[] cb] w fun e w' => e = .returned (.tuple #[]) ∧ SWK enc k w0 blk off (rot m (m - a) (b - m) d) w' := by
  have mixed := L.mixed; have t0 := L.t0; have a0 := L.a0; have z0 := L.z0; have v0 := L.v0; have t3 := L.t3; have a3 := L.a3; have z3 := L.z3; have v3 := L.v3; have t4 := L.t4; have a4 := L.a4; have z4 := L.z4; have v4 := L.v4; have t22 := L.t22; have a22 := L.a22; have z22 := L.z22; have v22 := L.v22; have t61 := L.t61; have a61 := L.a61; have z61 := L.z61; have v61 := L.v61; have t79 := L.t79; have a79 := L.a79; have z79 := L.z79; have v79 := L.v79; have aE := L.aE; have zE := L.zE
  have S0 : Aside (SWK enc k w0 blk off d w) := S
  clear S
  have hi0 : (m : Int) - (a : Int) = ((m - a : Nat) : Int) := by omega
  have hj0 : (b : Int) - (m : Int) = ((b - m : Nat) : Int) := by omega
  have e88 : ∀ args w, (callFunc 88 args).run P w = .ok (.enter 88 args) w := enters_of L.f88 (by kernel_rfl) rfl
  go_enter L.f71, Tryd.ntmps71
  go_wp2
  go_loopg [10, 11] ((m - a) + (b - m)) (fun kx s10 s11 wr => ∃ (i j : Nat) (dk : Array α), s10 = .int .i64 i ∧ s11 = .int .i64 j ∧ 0 < i ∧ 0 < j ∧ a + i ≤ m ∧ m + j ≤ b ∧ i + j ≤ kx ∧ dk.size = d.size ∧ Aside (SWK enc k w0 blk off dk wr) ∧ Hid (rot m i j dk = rot m (m - a) (b - m) d))
  case atStart => exact ⟨m - a, b - m, d, by first | go_num | (congr 1), by first | go_num | (congr 1), by omega, by omega, by omega, by omega, Nat.le_refl _, rfl, S0, rfl⟩
  case round =>
    clear S0
    obtain ⟨i, j, dk, rfl, rfl, hi, hj, hai, hmj, hkx, hds, S1, HE⟩ := hrel
    by_cases he : i = j
    · subst he
      have e1 : (m : Int) - (i : Int) = ((m - i : Nat) : Int) := by omega
      go_wp2_with (go_at_fn 88; go_must (rw [← hds]; refine (swapRange_any L enc g cb blk off cap (m - i) m i d0 dk w0 _ R (by omega) S1.out (by omega) (by omega) (by omega)).mono ?_; rintro e w2 ⟨rfl, S2⟩))
      go_end0
      refine ⟨rfl, ?_⟩
      rw [← HE.out, rot.eq_def, if_pos rfl]
      exact S2
    · have hez : ¬ ((i : Int) = (j : Int)) := by omega
      by_cases hji : j < i
      · have hjz : (j : Int) < (i : Int) := by omega
        have e1 : (m : Int) - (i : Int) = ((m - i : Nat) : Int) := by omega
        go_wp2_with (go_at_fn 88; go_must (rw [← hds]; refine (swapRange_any L enc g cb blk off cap (m - i) m j d0 dk w0 _ R (by omega) S1.out (by omega) (by omega) (by omega)).mono ?_; rintro e w2 ⟨rfl, S2⟩))
        go_roundg (i - j + j)
        case measure => omega
        case rel => exact ⟨i - j, j, swR (m - i) m j 0 dk, by first | go_num | (congr 1; omega), rfl, by omega, by omega, by omega, by omega, Nat.le_refl _, by rw [swR_size _ _ _ _ _ _ rfl]; exact hds, S2, (show Hid _ from by rw [← HE.out, rot.eq_def m i j, if_neg he, if_pos hji, if_neg (by omega)]; exact rfl)⟩
      · have hjz : ¬ (j : Int) < (i : Int) := by omega
        have e1 : (m : Int) - (i : Int) = ((m - i : Nat) : Int) := by omega
        have e2 : (m : Int) + (j : Int) - (i : Int) = ((m + j - i : Nat) : Int) := by omega
        go_wp2_with (go_at_fn 88; go_must (rw [← hds]; refine (swapRange_any L enc g cb blk off cap (m - i) (m + j - i) i d0 dk w0 _ R (by omega) S1.out (by omega) (by omega) (by omega)).mono ?_; rintro e w2 ⟨rfl, S2⟩))
        go_roundg (i + (j - i))
        case measure => omega
        case rel => exact ⟨i, j - i, swR (m - i) (m + j - i) i 0 dk, rfl, by first | go_num | (congr 1; omega), by omega, by omega, by omega, by omega, Nat.le_refl _, by rw [swR_size _ _ _ _ _ _ rfl]; exact hds, S2, (show Hid _ from by rw [← HE.out, rot.eq_def m i j, if_neg he, if_neg hji, if_neg (by omega)]; exact rfl)⟩
section
variable {cf : α → α → Int}
theorem bsr_yes {q : Nat → Bool} {i j : Nat} (h : i < j) (hq : q ((i + j) / 2) = true) : bsr q i j = bsr q ((i + j) / 2 + 1) j := by rw [bsr, dif_pos h, if_pos hq]
theorem bsr_no {q : Nat → Bool} {i j : Nat} (h : i < j) (hq : q ((i + j) / 2) = false) : bsr q i j = bsr q i ((i + j) / 2) := by rw [bsr, dif_pos h, if_neg (by rw [hq]; decide)]
theorem bsr_end {q : Nat → Bool} {i j : Nat} (h : ¬ i < j) : bsr q i j = i := by rw [bsr, dif_neg h]

set_option maxHeartbeats 8000000 in
set_option maxRecDepth 1000000 in
theorem sym_one {k : Nat} (L : Bare P k) (enc : α → List Value) (g : Nat) (cb : Array Value) (blk off cap a m b f : Nat) (d0 d : Array α) (w0 w : World)
    (eg : ∀ args w, (callFunc g args).run P w = .ok (.enter g args) w) (hcmp : CmpLays P g cb enc k cf blk off d0.size w0) (R : RowK enc k w0 blk off d0) (hs : d0.size = d.size) (S : SWK enc k w0 blk off d w) (ham : a < m) (hmb : m < b) (hb : b ≤ d.size) (hsz : d.size < 4611686018427387904) (h1 : m - a = 1) :
    Calls P 60 #[.slice (some ⟨blk, off, none⟩) d.size cap, .int .i64 a, .int .i64 m, .int .i64 b, .func (.func g) #[] cb] w fun e w' => e = .returned (.tuple #[]) ∧ SWK enc k w0 blk off (symF (ltOf cf) (f + 1) a m b d) w' := by
  have mixed := L.mixed; have t0 := L.t0; have a0 := L.a0; have z0 := L.z0; have v0 := L.v0; have t3 := L.t3; have a3 := L.a3; have z3 := L.z3; have v3 := L.v3; have t4 := L.t4; have a4 := L.a4; have z4 := L.z4; have v4 := L.v4; have t22 := L.t22; have a22 := L.a22; have z22 := L.z22; have v22 := L.v22; have t61 := L.t61; have a61 := L.a61; have z61 := L.z61; have v61 := L.v61; have t79 := L.t79; have a79 := L.a79; have z79 := L.z79; have v79 := L.v79; have aE := L.aE; have zE := L.zE
  have S0 : Aside (SWK enc k w0 blk off d w) := S
  have HC : Aside _ := hcmp
  clear S hcmp
  obtain rfl : m = a + 1 := by omega
  have h1z : ((a : Int) + 1) - (a : Int) = 1 := by omega
  go_enter L.f60, Tryd.ntmps60
  go_wp2
  go_loopg [10, 11] (b - (a + 1)) (fun kx s10 s11 wr => ∃ (i j : Nat), s10 = .int .i64 i ∧ s11 = .int .i64 j ∧ a + 1 ≤ i ∧ i ≤ j ∧ j ≤ b ∧ j - i ≤ kx ∧ Aside (SWK enc k w0 blk off d wr) ∧ Hid (bsr (fun h => ltOf cf d[h]! d[a]!) i j = bsr (fun h => ltOf cf d[h]! d[a]!) (a + 1) b))
  case atStart => exact ⟨a + 1, b, by go_num, rfl, Nat.le_refl _, by omega, Nat.le_refl _, Nat.le_refl _, S0, rfl⟩
  case round =>
    clear S0
    obtain ⟨i, j, rfl, rfl, hai, hij, hjb, hkx, S1, HE⟩ := hrel
    by_cases hlt : i < j
    · have hlz : (i : Int) < (j : Int) := by omega
      have emid : ((i : Int) + (j : Int)) / 2 = (((i + j) / 2 : Nat) : Int) := by omega
      obtain ⟨h, hh⟩ : ∃ h, (i + j) / 2 = h := ⟨_, rfl⟩
      rw [hh] at emid
      cases hL : ltOf cf d[h]! d[a]! with
      | true =>
        have ea1 : ((h : Int)).toNat = h := by omega
        have pa1 : (0 : Int) ≤ (h : Int) := by omega
        have ba1 : (h : Int) < (d.size : Int) := by omega
        have ra1 : IntKind.i64.wrap ((h : Int)) = (h : Int) := by rw [IntKind.wrap_i64]; omega
        have ec1 : ((a : Int)).toNat = a := by omega
        have pc1 : (0 : Int) ≤ (a : Int) := by omega
        have bc1 : (a : Int) < (d.size : Int) := by omega
        have rc1 : IntKind.i64.wrap ((a : Int)) = (a : Int) := by rw [IntKind.wrap_i64]; omega
        obtain ⟨x1, hx1⟩ : ∃ x, x = d[h]! := ⟨_, rfl⟩
        obtain ⟨y1, hy1⟩ : ∃ x, x = d[a]! := ⟨_, rfl⟩
        have la1 := S1.out.ld R (by omega) P (h) (by omega)
        have lb1 := S1.out.ld R (by omega) P (a) (by omega)
        rw [← hx1] at la1
        rw [← hy1] at lb1
        have hc1 := S1.out.cmp HC.out (by omega) x1 y1
        have hv1 :  cf x1 y1 < 0 := by rw [hx1, hy1]; exact of_decide_eq_true hL
        have hd1 : decide (cf x1 y1 < 0) = true := decide_eq_true hv1
        clear hx1 hy1
        go_wp2_with fail
        go_quiet_grown (first | (go_at_fn g; refine Calls.grown_of (hc1 _ _)))
        have S2 : Aside (SWK enc k w0 blk off d (grow (wr.drewN nq) osq)) := S1.out.grown nq osq
        clear la1 lb1 hc1 S1
        generalize grow (wr.drewN nq) osq = w2 at S2 ⊢
        clear nq osq
        go_wp2
        go_roundg (j - (h + 1))
        case measure => omega
        case rel => exact ⟨h + 1, j, by go_num, rfl, by omega, by omega, hjb, Nat.le_refl _, S2, (show Hid _ from by rw [← HE.out, bsr_yes hlt (by rw [hh]; exact hL), hh]; exact rfl)⟩
      | false =>
        have ea2 : ((h : Int)).toNat = h := by omega
        have pa2 : (0 : Int) ≤ (h : Int) := by omega
        have ba2 : (h : Int) < (d.size : Int) := by omega
        have ra2 : IntKind.i64.wrap ((h : Int)) = (h : Int) := by rw [IntKind.wrap_i64]; omega
        have ec2 : ((a : Int)).toNat = a := by omega
        have pc2 : (0 : Int) ≤ (a : Int) := by omega
        have bc2 : (a : Int) < (d.size : Int) := by omega
        have rc2 : IntKind.i64.wrap ((a : Int)) = (a : Int) := by rw [IntKind.wrap_i64]; omega
        obtain ⟨x2, hx2⟩ : ∃ x, x = d[h]! := ⟨_, rfl⟩
        obtain ⟨y2, hy2⟩ : ∃ x, x = d[a]! := ⟨_, rfl⟩
        have la2 := S1.out.ld R (by omega) P (h) (by omega)
        have lb2 := S1.out.ld R (by omega) P (a) (by omega)
        rw [← hx2] at la2
        rw [← hy2] at lb2
        have hc2 := S1.out.cmp HC.out (by omega) x2 y2
        have hv2 : ¬ cf x2 y2 < 0 := by rw [hx2, hy2]; exact of_decide_eq_false hL
        have hd2 : decide (cf x2 y2 < 0) = false := decide_eq_false hv2
        clear hx2 hy2
        go_wp2_with fail
        go_quiet_grown (first | (go_at_fn g; refine Calls.grown_of (hc2 _ _)))
        have S2 : Aside (SWK enc k w0 blk off d (grow (wr.drewN nq) osq)) := S1.out.grown nq osq
        clear la2 lb2 hc2 S1
        generalize grow (wr.drewN nq) osq = w2 at S2 ⊢
        clear nq osq
        go_wp2
        go_roundg (h - i)
        case measure => omega
        case rel => exact ⟨i, h, rfl, rfl, by omega, by omega, by omega, Nat.le_refl _, S2, (show Hid _ from by rw [← HE.out, bsr_no hlt (by rw [hh]; exact hL), hh]; exact rfl)⟩
    · have hlz : ¬ (i : Int) < (j : Int) := by omega
      have hi : Hid (bsr (fun h => ltOf cf d[h]! d[a]!) (a + 1) b = i) := by show _ = _; rw [← HE.out, bsr_end hlt]
      go_wp2
      go_loopg [13] (i - 1 - a) (fun kx s13 wq => ∃ (c : Nat) (dk : Array α), s13 = .int .i64 c ∧ a ≤ c ∧ c ≤ i - 1 ∧ i - 1 - c ≤ kx ∧ dk.size = d.size ∧ Aside (SWK enc k w0 blk off dk wq) ∧ Hid (mvUp c (i - 1) dk = mvUp a (i - 1) d))
      case atStart => exact ⟨a, d, rfl, Nat.le_refl _, by omega, Nat.le_refl _, rfl, S1, rfl⟩
      case round =>
        clear S1
        obtain ⟨c, dk, rfl, hac, hci, hkx2, hds, S1, HM⟩ := hrel
        by_cases hlt2 : c < i - 1
        · have hl2 : (c : Int) < (i : Int) - 1 := by omega
          go_wp2_with fail
          have ea3 : ((c : Int)).toNat = c := by omega
          have pa3 : (0 : Int) ≤ (c : Int) := by omega
          have ba3 : (c : Int) < (d.size : Int) := by omega
          have ra3 : IntKind.i64.wrap ((c : Int)) = (c : Int) := by rw [IntKind.wrap_i64]; omega
          have ec3 : ((c : Int) + 1).toNat = c + 1 := by omega
          have pc3 : (0 : Int) ≤ (c : Int) + 1 := by omega
          have bc3 : (c : Int) + 1 < (d.size : Int) := by omega
          have rc3 : IntKind.i64.wrap ((c : Int) + 1) = (c : Int) + 1 := by rw [IntKind.wrap_i64]; omega
          have S2 : Aside (SWK enc k w0 blk off (swp dk (c) (c + 1)) ((wr.drew.setCells blk (off + (c) * k) (enc dk[c + 1]!)).setCells blk (off + (c + 1) * k) (enc dk[c]!))) := S1.out.swapped R (c) (c + 1) (by omega) (by omega)
          have la3 := S1.out.ld1 R (by omega) P (c) (by omega)
          have lb3 := S1.out.ld1 R (by omega) P (c + 1) (by omega)
          have sa3 := S1.out.st1 R (by omega) P (c) (by omega) dk[c + 1]!
          have sb3 := S1.out.st2 R (by omega) P (c) (c + 1) (by omega) (by omega) dk[c + 1]! dk[c]!
          have na3 : (enc dk[c]!).length = k := R.hk _
          have nb3 : (enc dk[c + 1]!).length = k := R.hk _
          generalize enc dk[c]! = cI3 at S2 la3 sb3 na3
          generalize enc dk[c + 1]! = cJ3 at S2 lb3 sa3 sb3 nb3
          clear S1
          go_wp2_with fail
          go_big_region_o
          clear la3 lb3 sa3 sb3
          generalize (wr.drew.setCells blk (off + (c) * k) cJ3).setCells blk (off + (c + 1) * k) cI3 = w2 at S2 ⊢
          go_wp2
          go_roundg (i - 1 - (c + 1))
          case measure => omega
          case rel => exact ⟨c + 1, swp dk c (c + 1), by go_num, by omega, by omega, Nat.le_refl _, by rw [size_swp]; exact hds, S2, (show Hid _ from by rw [← HM.out, mvUp.eq_def c, if_pos hlt2]; exact rfl)⟩
        · have hl2 : ¬ (c : Int) < (i : Int) - 1 := by omega
          go_wp2
          (try simp only [Exit.inBlock, Exit.then])
          refine bodyPost_ret (results_none rfl _ _ _) rfl ?_
          refine ⟨rfl, ?_⟩
          unfold symF
          rw [if_pos h1, hi.out, ← HM.out, mvUp.eq_def, if_neg hlt2]
          exact S1.out
end
end Go.Proofs.YtnhfbignnnicnaaDoor
