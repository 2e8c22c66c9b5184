/-
  The walk of the library's merge, where both blocks are of more than one element.
-/
import Derived.Test.YtnhfbignnnicnaaDoorQsort

namespace Go.Proofs.YtnhfbignnnicnaaDoor
open Go.Shelf Go.RowKit Go.Lib Go.Sort
variable {P : Program} {α : Type} [Inhabited α] {cf : α → α → Int}

set_option maxHeartbeats 8000000 in
set_option maxRecDepth 1000000 in
theorem sym_many {k : Nat} (L : Bare P k) (enc : α → List Value) (g : Nat) (cb : Array Value) (blk off cap a m b f : Nat) (d0 d : Array α) (w0 w : World)
    (eg : ∀ args w, (callFunc g args).run P w = .ok (.enter g args) w) (hcmp : CmpLays P g cb enc k cf blk off d0.size w0) (R : RowK enc k w0 blk off d0) (hs : d0.size = d.size) (S : SWK enc k w0 blk off d w) (ham : a < m) (hmb : m < b) (hb : b ≤ d.size) (hsz : d.size < 4611686018427387904) (h1 : ¬ m - a = 1) (h2 : ¬ b - m = 1) (hf : b - a ≤ f + 1) (ih : ∀ (a m b : Nat) (d : Array α) (w : World), b - a ≤ f → d0.size = d.size → a < m → m < b → b ≤ d.size → d.size < 4611686018427387904 → SWK enc k w0 blk off d w → Calls P 60 #[.slice (some ⟨blk, off, none⟩) d.size cap, .int .i64 a, .int .i64 m, .int .i64 b, .func (.func g) #[] cb] w fun e w' => e = .returned (.tuple #[]) ∧ SWK enc k w0 blk off (symF (ltOf cf) f a m b d) w') :
    Calls P 60 #[.slice (some ⟨blk, off, none⟩) d.size cap, .int .i64 a, .int .i64 m, .int .i64 b, .func (.func g) #[] cb] w fun e w' => e = .returned (.tuple #[]) ∧ SWK enc k w0 blk off (symF (ltOf cf) (f + 1) a m b d) w' := by
  have mixed := L.mixed; have t0 := L.t0; have a0 := L.a0; have z0 := L.z0; have v0 := L.v0; have t3 := L.t3; have a3 := L.a3; have z3 := L.z3; have v3 := L.v3; have t4 := L.t4; have a4 := L.a4; have z4 := L.z4; have v4 := L.v4; have t22 := L.t22; have a22 := L.a22; have z22 := L.z22; have v22 := L.v22; have t61 := L.t61; have a61 := L.a61; have z61 := L.z61; have v61 := L.v61; have t79 := L.t79; have a79 := L.a79; have z79 := L.z79; have v79 := L.v79; have aE := L.aE; have zE := L.zE
  have S0 : Aside (SWK enc k w0 blk off d w) := S
  have HC : Aside _ := hcmp
  clear S hcmp
  have hr := sm_range ham hmb
  have h1z : ((m : Int) - (a : Int) == 1) = false := by rw [beq_eq_false_iff_ne]; omega
  have h2z : ((b : Int) - (m : Int) == 1) = false := by rw [beq_eq_false_iff_ne]; omega
  obtain ⟨md, hmd⟩ : ∃ md, mid2 a b = md := ⟨_, rfl⟩
  have hm2 : ((a : Int) + (b : Int)) / 2 = (md : Int) := by rw [← hmd]; unfold mid2; omega
  obtain ⟨nn, hnv⟩ : ∃ nn, md + m = nn := ⟨_, rfl⟩
  have hnn : (md : Int) + (m : Int) = (nn : Int) := by omega
  obtain ⟨p, hp⟩ : ∃ p, mid2 a b + m - 1 = p := ⟨_, rfl⟩
  rw [hmd] at hr
  have hmdb : md < b := hr.2.2.2.2.2.2
  have hamd2 : a < md := by have hu : md = (a + b) / 2 := by { rw [← hmd]; rfl }; omega
  have hamd : a ≤ md := hr.2.2.2.2.2.1
  have hpp : (nn : Int) - 1 = (p : Int) := by rw [← hp, hmd]; omega
  have e00 : sm0 a m b = if md < m then md + m - b else a := by unfold sm0; rw [hmd]
  have e11 : sm1 a m b = if md < m then md else m := by unfold sm1; rw [hmd]
  have hmb2 : md < m → b ≤ md + m := by intro h; have hu : md = (a + b) / 2 := by { rw [← hmd]; rfl }; omega
  have hp1 : p + 1 = md + m := by rw [← hp, hmd]; omega
  have e71 : ∀ args w, (callFunc 71 args).run P w = .ok (.enter 71 args) w := enters_of L.f71 (by kernel_rfl) rfl
  have e60 : ∀ args w, (callFunc 60 args).run P w = .ok (.enter 60 args) w := enters_of L.f60 (by kernel_rfl) rfl
  have HP : Hid _ := hp
  have HMD : Hid _ := hmd
  have hnle : nn ≤ md + m := Nat.le_of_eq hnv.symm
  have hnge : md + m ≤ nn := Nat.le_of_eq hnv
  clear hp hmd hnv
  by_cases hmm : md < m
  · have hmz : (md : Int) < (m : Int) := by omega
    have e0 := e00
    have e1 := e11
    rw [if_pos hmm] at e0 e1
    obtain ⟨s00, hs00⟩ : ∃ s00, md + m - b = s00 := ⟨_, rfl⟩
    rw [hs00] at e0
    have hsb : (nn : Int) - (b : Int) = (s00 : Int) := by have := hmb2 hmm; omega
    have HS00 : Hid _ := hs00
    clear hs00
    have E0 : Hid _ := e0
    have E1 : Hid _ := e1
    clear e00 e11 e0 e1
    go_enter L.f60, Tryd.ntmps60
    go_wp2
    go_loopg [20, 21] (sm1 a m b - sm0 a m b) (fun kx s20 s21 wr => ∃ (s r : Nat), s20 = .int .i64 s ∧ s21 = .int .i64 r ∧ sm0 a m b ≤ s ∧ s ≤ r ∧ r ≤ sm1 a m b ∧ r - s ≤ kx ∧ Aside (SWK enc k w0 blk off d wr) ∧ Hid (bsr (smq (ltOf cf) d p) s r = smS (ltOf cf) d a m b))
    case atStart => exact ⟨sm0 a m b, sm1 a m b, by (rw [E0.out]) <;> go_num, by (rw [E1.out]) <;> go_num, Nat.le_refl _, hr.2.1, Nat.le_refl _, Nat.le_refl _, S0, (show _ = _ by unfold smS; rw [HP.out])⟩
    case round =>
      clear S0
      obtain ⟨s, r, rfl, rfl, hs0, hsr, hr1, hkx, S1, HE⟩ := hrel
      by_cases hlt : s < r
      · have hlz : (s : Int) < (r : Int) := by omega
        have emid : ((s : Int) + (r : Int)) / 2 = (((s + r) / 2 : Nat) : Int) := by omega
        obtain ⟨c, hc⟩ : ∃ c, (s + r) / 2 = c := ⟨_, rfl⟩
        rw [hc] at emid
        have epc : (p : Int) - (c : Int) = ((p - c : Nat) : Int) := by omega
        obtain ⟨px, hpx⟩ : ∃ x, p - c = x := ⟨_, rfl⟩
        rw [hpx] at epc
        have HPX : Hid _ := hpx
        have hpl : px + c = p := by omega
        clear hpx
        have rpc : IntKind.i64.wrap ((p : Int) - (c : Int)) = (px : Int) := by rw [epc, IntKind.wrap_i64]; omega
        cases hL : ltOf cf d[px]! d[c]! with
        | true =>
          have ea1 : ((px : Int)).toNat = px := by omega
          have pa1 : (0 : Int) ≤ (px : Int) := by omega
          have ba1 : (px : Int) < (d.size : Int) := by omega
          have ra1 : IntKind.i64.wrap ((px : Int)) = (px : Int) := by rw [IntKind.wrap_i64]; omega
          have ec1 : ((c : Int)).toNat = c := by omega
          have pc1 : (0 : Int) ≤ (c : Int) := by omega
          have bc1 : (c : Int) < (d.size : Int) := by omega
          have rc1 : IntKind.i64.wrap ((c : Int)) = (c : Int) := by rw [IntKind.wrap_i64]; omega
          obtain ⟨x1, hx1⟩ : ∃ x, x = d[px]! := ⟨_, rfl⟩
          obtain ⟨y1, hy1⟩ : ∃ x, x = d[c]! := ⟨_, rfl⟩
          have la1 := S1.out.ld R (by omega) P (px) (by omega)
          have lb1 := S1.out.ld R (by omega) P (c) (by omega)
          rw [← hx1] at la1
          rw [← hy1] at lb1
          have hc1 := S1.out.cmp HC.out (by omega) x1 y1
          have hv1 :  cf x1 y1 < 0 := by rw [hx1, hy1]; exact of_decide_eq_true hL
          have hd1 : decide (cf x1 y1 < 0) = true := decide_eq_true hv1
          clear hx1 hy1
          go_wp2_with fail
          go_quiet_grown (first | (go_at_fn g; refine Calls.grown_of (hc1 _ _)))
          have S2 : Aside (SWK enc k w0 blk off d (grow (wr.drewN nq) osq)) := S1.out.grown nq osq
          clear la1 lb1 hc1 S1
          generalize grow (wr.drewN nq) osq = w2 at S2 ⊢
          clear nq osq
          go_wp2
          go_roundg (c - s)
          case measure => omega
          case rel => exact ⟨s, c, rfl, rfl, by omega, by omega, by omega, Nat.le_refl _, S2, (show Hid _ from by rw [← HE.out, bsr_no hlt (by rw [hc]; unfold smq; rw [HPX.out, hL]; rfl), hc]; exact rfl)⟩
        | false =>
          have ea2 : ((px : Int)).toNat = px := by omega
          have pa2 : (0 : Int) ≤ (px : Int) := by omega
          have ba2 : (px : Int) < (d.size : Int) := by omega
          have ra2 : IntKind.i64.wrap ((px : Int)) = (px : Int) := by rw [IntKind.wrap_i64]; omega
          have ec2 : ((c : Int)).toNat = c := by omega
          have pc2 : (0 : Int) ≤ (c : Int) := by omega
          have bc2 : (c : Int) < (d.size : Int) := by omega
          have rc2 : IntKind.i64.wrap ((c : Int)) = (c : Int) := by rw [IntKind.wrap_i64]; omega
          obtain ⟨x2, hx2⟩ : ∃ x, x = d[px]! := ⟨_, rfl⟩
          obtain ⟨y2, hy2⟩ : ∃ x, x = d[c]! := ⟨_, rfl⟩
          have la2 := S1.out.ld R (by omega) P (px) (by omega)
          have lb2 := S1.out.ld R (by omega) P (c) (by omega)
          rw [← hx2] at la2
          rw [← hy2] at lb2
          have hc2 := S1.out.cmp HC.out (by omega) x2 y2
          have hv2 : ¬ cf x2 y2 < 0 := by rw [hx2, hy2]; exact of_decide_eq_false hL
          have hd2 : decide (cf x2 y2 < 0) = false := decide_eq_false hv2
          clear hx2 hy2
          go_wp2_with fail
          go_quiet_grown (first | (go_at_fn g; refine Calls.grown_of (hc2 _ _)))
          have S2 : Aside (SWK enc k w0 blk off d (grow (wr.drewN nq) osq)) := S1.out.grown nq osq
          clear la2 lb2 hc2 S1
          generalize grow (wr.drewN nq) osq = w2 at S2 ⊢
          clear nq osq
          go_wp2
          go_roundg (r - (c + 1))
          case measure => omega
          case rel => exact ⟨c + 1, r, by go_num, rfl, by omega, by omega, by omega, Nat.le_refl _, S2, (show Hid _ from by rw [← HE.out, bsr_yes hlt (by rw [hc]; unfold smq; rw [HPX.out, hL]; rfl), hc]; exact rfl)⟩
      · have hlz : ¬ (s : Int) < (r : Int) := by omega
        have hss : smS (ltOf cf) d a m b = s := by rw [← HE.out, bsr_end hlt]
        have HSS : Hid (symF (ltOf cf) (f + 1) a m b d = (let d1 := if s < m ∧ m < md + m - s then rot m (m - s) (md + m - s - m) d else d; let d2 := if a < s ∧ s < md then symF (ltOf cf) f a s md d1 else d1; if md < md + m - s ∧ md + m - s < b then symF (ltOf cf) f md (md + m - s) b d2 else d2)) := by
          show _ = _
          rw [symF, if_neg h1, if_neg h2, hss, HMD.out]
        clear hss HE
        obtain ⟨e, he⟩ : ∃ e, md + m - s = e := ⟨_, rfl⟩
        have een : (nn : Int) - (s : Int) = (e : Int) := by omega
        have hev : Hid (md + m - s = e) := he
        have hme : m ≤ e := by omega
        have hmde : md ≤ e := by omega
        have heb : e ≤ b := by omega
        have hsm : s ≤ m := by omega
        have hsmd : s ≤ md := by omega
        have has : a ≤ s := by omega
        rw [show md + m - s = e from he] at HSS
        clear he
        have q1 : ∃ d1, (if s < m ∧ m < e then rot m (m - s) (e - m) d else d) = d1 ∧ d1.size = d.size := ⟨_, rfl, by split; exact rot_size _ _ _ _ _ rfl; rfl⟩
        obtain ⟨d1, hd1, hz1⟩ := q1
        rw [hd1] at HSS
        have q2 : ∃ d2, (if a < s ∧ s < md then symF (ltOf cf) f a s md d1 else d1) = d2 ∧ d2.size = d.size := ⟨_, rfl, by
          split
          · rename_i h
            rw [symF_size _ h.1 h.2 (by omega)]; exact hz1
          · exact hz1⟩
        obtain ⟨d2, hd2, hz2⟩ := q2
        simp only [hd2] at HSS
        have D1 : Hid _ := hd1
        have D2 : Hid _ := hd2
        clear hd1 hd2
        have IH : Hid (∀ (a m b : Nat) (d : Array α) (w : World), b - a ≤ f → d0.size = d.size → a < m → m < b → b ≤ d.size → d.size < 4611686018427387904 → SWK enc k w0 blk off d w → Calls P 60 #[.slice (some ⟨blk, off, none⟩) d.size cap, .int .i64 a, .int .i64 m, .int .i64 b, .func (.func g) #[] cb] w fun e w' => e = .returned (.tuple #[]) ∧ SWK enc k w0 blk off (symF (ltOf cf) f a m b d) w') := ih
        clear ih
        by_cases t1 : s < m <;> by_cases t2 : m < e <;> by_cases t3 : a < s <;> by_cases t4 : s < md <;> by_cases t5 : md < e <;> by_cases t6 : e < b <;> (first
          | (exfalso; omega)
          | (have z1 : decide ((s : Int) < (m : Int)) = decide (s < m) := decide_eq_decide.2 (by omega)
             have z2 : decide ((m : Int) < (e : Int)) = decide (m < e) := decide_eq_decide.2 (by omega)
             have z3 : decide ((a : Int) < (s : Int)) = decide (a < s) := decide_eq_decide.2 (by omega)
             have z4 : decide ((s : Int) < (md : Int)) = decide (s < md) := decide_eq_decide.2 (by omega)
             have z5 : decide ((md : Int) < (e : Int)) = decide (md < e) := decide_eq_decide.2 (by omega)
             have z6 : decide ((e : Int) < (b : Int)) = decide (e < b) := decide_eq_decide.2 (by omega)
             simp only [t1, t2, t3, t4, t5, t6, decide_true, decide_false] at z1 z2 z3 z4 z5 z6
             go_wp2_with (first
               | (go_at_fn 71; go_must (refine (rotate_any L enc g cb blk off cap s m e d0 d w0 _ R hs S1.out t1 t2 (by omega) hsz).mono ?_; rintro ee w5 ⟨rfl, S5⟩; have T1 : SWK enc k w0 blk off d1 w5 := by (rw [← D1.out, if_pos ⟨t1, t2⟩]; exact S5)))
               | (go_at_fn 60; (rw [← hz1]); refine (IH.out a s md d1 _ (by omega) (by omega) t3 t4 (by omega) (by omega) (by first | exact T1 | (rw [← D1.out, if_neg (by omega)]; exact S1.out))).mono ?_; rintro ee w6 ⟨rfl, S6⟩; have T2 : SWK enc k w0 blk off d2 w6 := by (rw [← D2.out, if_pos ⟨t3, t4⟩]; exact S6))
               | (go_at_fn 60; (rw [← hz2]); refine (IH.out md e b d2 _ (by omega) (by omega) t5 t6 (by omega) (by omega) (by first | exact T2 | (rw [← D2.out, if_neg (by omega)]; first | exact T1 | (rw [← D1.out, if_neg (by omega)]; exact S1.out)))).mono ?_; rintro ee w7 ⟨rfl, S7⟩))
             go_end0
             refine ⟨rfl, ?_⟩
             rw [HSS.out]
             first
               | (rw [if_pos ⟨t5, t6⟩]; exact S7)
               | (rw [if_neg (by omega)]; first | exact T2 | (rw [← D2.out, if_neg (by omega)]; first | exact T1 | (rw [← D1.out, if_neg (by omega)]; exact S1.out)))))
  · have hmz : ¬ (md : Int) < (m : Int) := by omega
    have e0 := e00
    have e1 := e11
    rw [if_neg hmm] at e0 e1
    have E0 : Hid _ := e0
    have E1 : Hid _ := e1
    clear e00 e11 e0 e1
    go_enter L.f60, Tryd.ntmps60
    go_wp2
    go_loopg [20, 21] (sm1 a m b - sm0 a m b) (fun kx s20 s21 wr => ∃ (s r : Nat), s20 = .int .i64 s ∧ s21 = .int .i64 r ∧ sm0 a m b ≤ s ∧ s ≤ r ∧ r ≤ sm1 a m b ∧ r - s ≤ kx ∧ Aside (SWK enc k w0 blk off d wr) ∧ Hid (bsr (smq (ltOf cf) d p) s r = smS (ltOf cf) d a m b))
    case atStart => exact ⟨sm0 a m b, sm1 a m b, by (rw [E0.out]) <;> go_num, by (rw [E1.out]) <;> go_num, Nat.le_refl _, hr.2.1, Nat.le_refl _, Nat.le_refl _, S0, (show _ = _ by unfold smS; rw [HP.out])⟩
    case round =>
      clear S0
      obtain ⟨s, r, rfl, rfl, hs0, hsr, hr1, hkx, S1, HE⟩ := hrel
      by_cases hlt : s < r
      · have hlz : (s : Int) < (r : Int) := by omega
        have emid : ((s : Int) + (r : Int)) / 2 = (((s + r) / 2 : Nat) : Int) := by omega
        obtain ⟨c, hc⟩ : ∃ c, (s + r) / 2 = c := ⟨_, rfl⟩
        rw [hc] at emid
        have epc : (p : Int) - (c : Int) = ((p - c : Nat) : Int) := by omega
        obtain ⟨px, hpx⟩ : ∃ x, p - c = x := ⟨_, rfl⟩
        rw [hpx] at epc
        have HPX : Hid _ := hpx
        have hpl : px + c = p := by omega
        clear hpx
        have rpc : IntKind.i64.wrap ((p : Int) - (c : Int)) = (px : Int) := by rw [epc, IntKind.wrap_i64]; omega
        cases hL : ltOf cf d[px]! d[c]! with
        | true =>
          have ea1 : ((px : Int)).toNat = px := by omega
          have pa1 : (0 : Int) ≤ (px : Int) := by omega
          have ba1 : (px : Int) < (d.size : Int) := by omega
          have ra1 : IntKind.i64.wrap ((px : Int)) = (px : Int) := by rw [IntKind.wrap_i64]; omega
          have ec1 : ((c : Int)).toNat = c := by omega
          have pc1 : (0 : Int) ≤ (c : Int) := by omega
          have bc1 : (c : Int) < (d.size : Int) := by omega
          have rc1 : IntKind.i64.wrap ((c : Int)) = (c : Int) := by rw [IntKind.wrap_i64]; omega
          obtain ⟨x1, hx1⟩ : ∃ x, x = d[px]! := ⟨_, rfl⟩
          obtain ⟨y1, hy1⟩ : ∃ x, x = d[c]! := ⟨_, rfl⟩
          have la1 := S1.out.ld R (by omega) P (px) (by omega)
          have lb1 := S1.out.ld R (by omega) P (c) (by omega)
          rw [← hx1] at la1
          rw [← hy1] at lb1
          have hc1 := S1.out.cmp HC.out (by omega) x1 y1
          have hv1 :  cf x1 y1 < 0 := by rw [hx1, hy1]; exact of_decide_eq_true hL
          have hd1 : decide (cf x1 y1 < 0) = true := decide_eq_true hv1
          clear hx1 hy1
          go_wp2_with fail
          go_quiet_grown (first | (go_at_fn g; refine Calls.grown_of (hc1 _ _)))
          have S2 : Aside (SWK enc k w0 blk off d (grow (wr.drewN nq) osq)) := S1.out.grown nq osq
          clear la1 lb1 hc1 S1
          generalize grow (wr.drewN nq) osq = w2 at S2 ⊢
          clear nq osq
          go_wp2
          go_roundg (c - s)
          case measure => omega
          case rel => exact ⟨s, c, rfl, rfl, by omega, by omega, by omega, Nat.le_refl _, S2, (show Hid _ from by rw [← HE.out, bsr_no hlt (by rw [hc]; unfold smq; rw [HPX.out, hL]; rfl), hc]; exact rfl)⟩
        | false =>
          have ea2 : ((px : Int)).toNat = px := by omega
          have pa2 : (0 : Int) ≤ (px : Int) := by omega
          have ba2 : (px : Int) < (d.size : Int) := by omega
          have ra2 : IntKind.i64.wrap ((px : Int)) = (px : Int) := by rw [IntKind.wrap_i64]; omega
          have ec2 : ((c : Int)).toNat = c := by omega
          have pc2 : (0 : Int) ≤ (c : Int) := by omega
          have bc2 : (c : Int) < (d.size : Int) := by omega
          have rc2 : IntKind.i64.wrap ((c : Int)) = (c : Int) := by rw [IntKind.wrap_i64]; omega
          obtain ⟨x2, hx2⟩ : ∃ x, x = d[px]! := ⟨_, rfl⟩
          obtain ⟨y2, hy2⟩ : ∃ x, x = d[c]! := ⟨_, rfl⟩
          have la2 := S1.out.ld R (by omega) P (px) (by omega)
          have lb2 := S1.out.ld R (by omega) P (c) (by omega)
          rw [← hx2] at la2
          rw [← hy2] at lb2
          have hc2 := S1.out.cmp HC.out (by omega) x2 y2
          have hv2 : ¬ cf x2 y2 < 0 := by rw [hx2, hy2]; exact of_decide_eq_false hL
          have hd2 : decide (cf x2 y2 < 0) = false := decide_eq_false hv2
          clear hx2 hy2
          go_wp2_with fail
          go_quiet_grown (first | (go_at_fn g; refine Calls.grown_of (hc2 _ _)))
          have S2 : Aside (SWK enc k w0 blk off d (grow (wr.drewN nq) osq)) := S1.out.grown nq osq
          clear la2 lb2 hc2 S1
          generalize grow (wr.drewN nq) osq = w2 at S2 ⊢
          clear nq osq
          go_wp2
          go_roundg (r - (c + 1))
          case measure => omega
          case rel => exact ⟨c + 1, r, by go_num, rfl, by omega, by omega, by omega, Nat.le_refl _, S2, (show Hid _ from by rw [← HE.out, bsr_yes hlt (by rw [hc]; unfold smq; rw [HPX.out, hL]; rfl), hc]; exact rfl)⟩
      · have hlz : ¬ (s : Int) < (r : Int) := by omega
        have hss : smS (ltOf cf) d a m b = s := by rw [← HE.out, bsr_end hlt]
        have HSS : Hid (symF (ltOf cf) (f + 1) a m b d = (let d1 := if s < m ∧ m < md + m - s then rot m (m - s) (md + m - s - m) d else d; let d2 := if a < s ∧ s < md then symF (ltOf cf) f a s md d1 else d1; if md < md + m - s ∧ md + m - s < b then symF (ltOf cf) f md (md + m - s) b d2 else d2)) := by
          show _ = _
          rw [symF, if_neg h1, if_neg h2, hss, HMD.out]
        clear hss HE
        obtain ⟨e, he⟩ : ∃ e, md + m - s = e := ⟨_, rfl⟩
        have een : (nn : Int) - (s : Int) = (e : Int) := by omega
        have hev : Hid (md + m - s = e) := he
        have hme : m ≤ e := by omega
        have hmde : md ≤ e := by omega
        have heb : e ≤ b := by omega
        have hsm : s ≤ m := by omega
        have hsmd : s ≤ md := by omega
        have has : a ≤ s := by omega
        rw [show md + m - s = e from he] at HSS
        clear he
        have q1 : ∃ d1, (if s < m ∧ m < e then rot m (m - s) (e - m) d else d) = d1 ∧ d1.size = d.size := ⟨_, rfl, by split; exact rot_size _ _ _ _ _ rfl; rfl⟩
        obtain ⟨d1, hd1, hz1⟩ := q1
        rw [hd1] at HSS
        have q2 : ∃ d2, (if a < s ∧ s < md then symF (ltOf cf) f a s md d1 else d1) = d2 ∧ d2.size = d.size := ⟨_, rfl, by
          split
          · rename_i h
            rw [symF_size _ h.1 h.2 (by omega)]; exact hz1
          · exact hz1⟩
        obtain ⟨d2, hd2, hz2⟩ := q2
        simp only [hd2] at HSS
        have D1 : Hid _ := hd1
        have D2 : Hid _ := hd2
        clear hd1 hd2
        have IH : Hid (∀ (a m b : Nat) (d : Array α) (w : World), b - a ≤ f → d0.size = d.size → a < m → m < b → b ≤ d.size → d.size < 4611686018427387904 → SWK enc k w0 blk off d w → Calls P 60 #[.slice (some ⟨blk, off, none⟩) d.size cap, .int .i64 a, .int .i64 m, .int .i64 b, .func (.func g) #[] cb] w fun e w' => e = .returned (.tuple #[]) ∧ SWK enc k w0 blk off (symF (ltOf cf) f a m b d) w') := ih
        clear ih
        by_cases t1 : s < m <;> by_cases t2 : m < e <;> by_cases t3 : a < s <;> by_cases t4 : s < md <;> by_cases t5 : md < e <;> by_cases t6 : e < b <;> (first
          | (exfalso; omega)
          | (have z1 : decide ((s : Int) < (m : Int)) = decide (s < m) := decide_eq_decide.2 (by omega)
             have z2 : decide ((m : Int) < (e : Int)) = decide (m < e) := decide_eq_decide.2 (by omega)
             have z3 : decide ((a : Int) < (s : Int)) = decide (a < s) := decide_eq_decide.2 (by omega)
             have z4 : decide ((s : Int) < (md : Int)) = decide (s < md) := decide_eq_decide.2 (by omega)
             have z5 : decide ((md : Int) < (e : Int)) = decide (md < e) := decide_eq_decide.2 (by omega)
             have z6 : decide ((e : Int) < (b : Int)) = decide (e < b) := decide_eq_decide.2 (by omega)
             simp only [t1, t2, t3, t4, t5, t6, decide_true, decide_false] at z1 z2 z3 z4 z5 z6
             go_wp2_with (first
               | (go_at_fn 71; go_must (refine (rotate_any L enc g cb blk off cap s m e d0 d w0 _ R hs S1.out t1 t2 (by omega) hsz).mono ?_; rintro ee w5 ⟨rfl, S5⟩; have T1 : SWK enc k w0 blk off d1 w5 := by (rw [← D1.out, if_pos ⟨t1, t2⟩]; exact S5)))
               | (go_at_fn 60; (rw [← hz1]); refine (IH.out a s md d1 _ (by omega) (by omega) t3 t4 (by omega) (by omega) (by first | exact T1 | (rw [← D1.out, if_neg (by omega)]; exact S1.out))).mono ?_; rintro ee w6 ⟨rfl, S6⟩; have T2 : SWK enc k w0 blk off d2 w6 := by (rw [← D2.out, if_pos ⟨t3, t4⟩]; exact S6))
               | (go_at_fn 60; (rw [← hz2]); refine (IH.out md e b d2 _ (by omega) (by omega) t5 t6 (by omega) (by omega) (by first | exact T2 | (rw [← D2.out, if_neg (by omega)]; first | exact T1 | (rw [← D1.out, if_neg (by omega)]; exact S1.out)))).mono ?_; rintro ee w7 ⟨rfl, S7⟩))
             go_end0
             refine ⟨rfl, ?_⟩
             rw [HSS.out]
             first
               | (rw [if_pos ⟨t5, t6⟩]; exact S7)
               | (rw [if_neg (by omega)]; first | exact T2 | (rw [← D2.out, if_neg (by omega)]; first | exact T1 | (rw [← D1.out, if_neg (by omega)]; exact S1.out)))))
end Go.Proofs.YtnhfbignnnicnaaDoor
