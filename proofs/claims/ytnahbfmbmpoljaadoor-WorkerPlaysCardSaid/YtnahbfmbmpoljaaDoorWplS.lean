/-
  WorkerPlays: a round of the law's loop (an event).
-/
import Derived.Test.YtnahbfmbmpoljaaDoorWpl0




namespace Go.Proofs.YtnahbfmbmpoljaaDoor.workerPlays
open Go.ChangeShapes Go.WideShapes Go.ChangeAt Go.RowKit Go.Joins

set_option maxRecDepth 1000000 in
set_option maxHeartbeats 16000000 in
theorem round_step (x : Work) (A : Option Addr) (c : Nat) (l : List Mov) (w : World) (hr : Rw movE 4 w w.heap.size A l) (hG : Glob w) (hok : LabOk x) (hnl : x.labs.length ≤ 1000000 ∧ x.toks.length ≤ 1000000) (hl : l.length ≤ 60) (k : Nat) (n : I64) (y : Work) (wr : World) (hkl : k < l.length) (hn0 : 0 ≤ n.1) (hn1 : n.1 ≤ 1125899906842624) (hgo : Good x y) (hse : Sep w.heap.size wr y) (hc9 : (wr.cell? ⟨w.heap.size, 0, none⟩ = some (.string y.id.1) ∧ wr.cell? ⟨w.heap.size, 1, none⟩ = some (.slice y.labsA y.labs.length y.labsC) ∧ wr.cell? ⟨w.heap.size, 2, none⟩ = some (.int .i64 y.trust.1) ∧ wr.cell? ⟨w.heap.size, 3, none⟩ = some (.int .i64 y.slots.1) ∧ wr.cell? ⟨w.heap.size, 4, none⟩ = some (.bool y.pre) ∧ wr.cell? ⟨w.heap.size, 5, none⟩ = some (.int .i64 y.phase.1) ∧ wr.cell? ⟨w.heap.size, 6, none⟩ = some (.int .i64 y.beat.1) ∧ wr.cell? ⟨w.heap.size, 7, none⟩ = some (.int .i64 y.till.1) ∧ wr.cell? ⟨w.heap.size, 8, none⟩ = some (.slice y.toksA y.toks.length y.toksC))) (cf : ∀ j, wr.frozen? ⟨w.heap.size, j, none⟩ = false) (hsz : w.heap.size < wr.heap.size) (hbw : Below w.heap.size w wr) (a : Mov) (ha : l[k]? = some a) (w1' : 0 ≤ a.wait.1) (w2' : a.wait.1 ≤ 1000000) (w3' : n.1 ≤ 1125899906842624 - a.wait.1) (hk0 : a.kind.1 = 0) (z0 z3 z11 z12 z13 z14 z15 z16 z17 z18 z19 z20 z21 z22 z23 z24 z25 z26 z195 : Value) (u4 u7 u8 u9 u10 u27 u28 u29 u30 u31 u32 u33 u34 u35 u36 u37 u38 u39 u40 u41 u42 u43 u44 u45 u46 u47 u48 u49 u50 u51 u52 u53 u54 u55 u56 u57 u58 u59 u60 u61 u62 u63 u64 u65 u66 u67 u68 u69 u70 u71 u72 u73 u74 u75 u76 u77 u78 u79 u80 u81 u82 u83 u84 u85 u86 u87 u88 u89 u90 u91 u92 u93 u94 u95 u96 u97 u98 u99 u100 u101 u102 u103 u104 u105 u106 u107 u108 u109 u110 u111 u112 u113 u114 u115 u116 u117 u118 u119 u120 u121 u122 u123 u124 u125 u126 u127 u128 u129 u130 u131 u132 u133 u134 u135 u136 u137 u138 u139 u140 u141 u142 u143 u144 u145 u146 u147 u148 u149 u150 u151 u152 u153 u154 u155 u156 u157 u158 u159 u160 u161 u162 u163 u164 u165 u166 u167 u168 u169 u170 u171 u172 u173 u174 u175 u176 u177 u178 u179 u180 u181 u182 u183 u184 u185 u186 u187 u188 u189 u190 u191 u192 u193 u194 : Value) (Q0 : Exit → Act → World → Prop) :
    Code.wp Tryd.prog body (Exit.then (fun a' w'' => WI x l w A c z0 z3 z11 z12 z13 z14 z15 z16 z17 z18 z19 z20 z21 z22 z23 z24 z25 z26 z195 a' w'' ∧ Wmu l a' w'' < Wmu l (⟨#[z0, (.slice A l.length c), (.pointer (some ⟨w.heap.size, 0, none⟩)), z3, u4, (.int .i64 n.1), (.int .i64 (k : Int)), u7, u8, u9, u10, z11, z12, z13, z14, z15, z16, z17, z18, z19, z20, z21, z22, z23, z24, z25, z26, u27, u28, u29, u30, u31, u32, u33, u34, u35, u36, u37, u38, u39, u40, u41, u42, u43, u44, u45, u46, u47, u48, u49, u50, u51, u52, u53, u54, u55, u56, u57, u58, u59, u60, u61, u62, u63, u64, u65, u66, u67, u68, u69, u70, u71, u72, u73, u74, u75, u76, u77, u78, u79, u80, u81, u82, u83, u84, u85, u86, u87, u88, u89, u90, u91, u92, u93, u94, u95, u96, u97, u98, u99, u100, u101, u102, u103, u104, u105, u106, u107, u108, u109, u110, u111, u112, u113, u114, u115, u116, u117, u118, u119, u120, u121, u122, u123, u124, u125, u126, u127, u128, u129, u130, u131, u132, u133, u134, u135, u136, u137, u138, u139, u140, u141, u142, u143, u144, u145, u146, u147, u148, u149, u150, u151, u152, u153, u154, u155, u156, u157, u158, u159, u160, u161, u162, u163, u164, u165, u166, u167, u168, u169, u170, u171, u172, u173, u174, u175, u176, u177, u178, u179, u180, u181, u182, u183, u184, u185, u186, u187, u188, u189, u190, u191, u192, u193, u194, z195], []⟩ : Act) wr) Q0) (⟨#[z0, (.slice A l.length c), (.pointer (some ⟨w.heap.size, 0, none⟩)), z3, u4, (.int .i64 n.1), (.int .i64 (k : Int)), u7, u8, u9, u10, z11, z12, z13, z14, z15, z16, z17, z18, z19, z20, z21, z22, z23, z24, z25, z26, u27, u28, u29, u30, u31, u32, u33, u34, u35, u36, u37, u38, u39, u40, u41, u42, u43, u44, u45, u46, u47, u48, u49, u50, u51, u52, u53, u54, u55, u56, u57, u58, u59, u60, u61, u62, u63, u64, u65, u66, u67, u68, u69, u70, u71, u72, u73, u74, u75, u76, u77, u78, u79, u80, u81, u82, u83, u84, u85, u86, u87, u88, u89, u90, u91, u92, u93, u94, u95, u96, u97, u98, u99, u100, u101, u102, u103, u104, u105, u106, u107, u108, u109, u110, u111, u112, u113, u114, u115, u116, u117, u118, u119, u120, u121, u122, u123, u124, u125, u126, u127, u128, u129, u130, u131, u132, u133, u134, u135, u136, u137, u138, u139, u140, u141, u142, u143, u144, u145, u146, u147, u148, u149, u150, u151, u152, u153, u154, u155, u156, u157, u158, u159, u160, u161, u162, u163, u164, u165, u166, u167, u168, u169, u170, u171, u172, u173, u174, u175, u176, u177, u178, u179, u180, u181, u182, u183, u184, u185, u186, u187, u188, u189, u190, u191, u192, u193, u194, z195], []⟩ : Act) wr := by
  conv => arg 2; whnf
  obtain ⟨c0, c1, c2, c3, c4, c5, c6, c7, c8⟩ := hc9
  obtain ⟨g, o, rfl, hg, hq⟩ := hr (by omega)
  have q := fun j u hu => (hbw.cell (p := ⟨g, o + k * 4 + j, none⟩) hg).trans (hq k a ha j u hu)
  have a0 := q 0 (.int .i64 a.kind.1) rfl
  have a1 := q 1 (.int .i64 a.wait.1) rfl
  have a2 := q 2 (.int .i64 a.event.1) rfl
  have a3 := q 3 (.int .i64 a.token.1) rfl
  rw [Nat.add_zero] at a0
  clear q hq
  have i0 : (0 : Int) ≤ (k : Int) := by omega
  have i1 : (k : Int) < (l.length : Int) := by omega
  replace ha := Lib.hid ha
  have hgr : g < wr.heap.size := by omega
  have hno : decide (1125899906842624 - a.wait.1 < n.1) = false := by simp; omega
  replace hok := Lib.hid hok
  replace hnl := Lib.hid hnl
  replace hG := Lib.hid hG
  obtain ⟨m, hm⟩ : ∃ m : I64, n.1 + a.wait.1 = m.1 := ⟨⟨n.1 + a.wait.1, by omega⟩, rfl⟩
  have hm0 : 0 ≤ m.1 := by omega
  have hm1 : m.1 ≤ 1125899906842624 := by omega
  have hgoy := hgo.lab hok.out hnl.out.1
  have hlk : Hid (∀ W, Below wr.heap.size wr W → LabWork W W.heap.size y) := Lib.hid fun W hb => (hse.below hb).lab
  have hgk : Hid (∀ W, Below wr.heap.size wr W → Glob W) := Lib.hid fun W hb => hG.out.keep (hbw.trans (hb.mono (by omega)))
  have hsk := Lib.hid hse
  replace hgoy := Lib.hid hgoy
  have hgk2 := Lib.hid hgo
  clear hse hgo
  have hbwk := Lib.hid hbw
  clear hbw
  have nec1 : w.heap.size ≠ wr.heap.size := by omega
  have nec2 : wr.heap.size ≠ w.heap.size := by omega
  have neg1 : g ≠ wr.heap.size := by omega
  have neg2 : wr.heap.size ≠ g := by omega
  have nec3 : w.heap.size ≠ wr.heap.size + 1 := by omega
  have nec4 : wr.heap.size + 1 ≠ w.heap.size := by omega
  have neg3 : g ≠ wr.heap.size + 1 := by omega
  have neg4 : wr.heap.size + 1 ≠ g := by omega
  go_upto_block 2 with fail
  go_cut [7] from 27 to 194 (fun s7 wx => ∃ (gn : Nat) (Y : Work), s7 = .pointer (some ⟨gn, 0, none⟩) ∧ wr.heap.size ≤ gn ∧ gn < wx.heap.size ∧ Keeps y Y ∧ Sep w.heap.size wx Y ∧ (wx.cell? ⟨gn, 0, none⟩ = some (.string Y.id.1) ∧ wx.cell? ⟨gn, 1, none⟩ = some (.slice Y.labsA Y.labs.length Y.labsC) ∧ wx.cell? ⟨gn, 2, none⟩ = some (.int .i64 Y.trust.1) ∧ wx.cell? ⟨gn, 3, none⟩ = some (.int .i64 Y.slots.1) ∧ wx.cell? ⟨gn, 4, none⟩ = some (.bool Y.pre) ∧ wx.cell? ⟨gn, 5, none⟩ = some (.int .i64 Y.phase.1) ∧ wx.cell? ⟨gn, 6, none⟩ = some (.int .i64 Y.beat.1) ∧ wx.cell? ⟨gn, 7, none⟩ = some (.int .i64 Y.till.1) ∧ wx.cell? ⟨gn, 8, none⟩ = some (.slice Y.toksA Y.toks.length Y.toksC)) ∧ (∀ j, wx.frozen? ⟨gn, j, none⟩ = false) ∧ Below wr.heap.size wr wx)
  case first =>
    have kb0 : (a.kind.1 == 0) = true := by rw [beq_iff_eq]; exact hk0
    obtain ⟨Y, hY⟩ : ∃ Y, stepW y a.event.1 m = Y := ⟨_, rfl⟩
    obtain ⟨E, hE⟩ : ∃ E, stepE y a.event.1 m.1 = E := ⟨_, rfl⟩
    have hkY : Hid (Keeps y Y) := Lib.hid (by rw [← hY]; exact keeps_step hgk2.out.ok (by unfold timeB; simp; omega))
    have hst : Hid (∀ W, Below wr.heap.size wr W → Calls Tryd.prog 16 #[(.agg #[.string y.id.1, .slice y.labsA y.labs.length y.labsC, .int .i64 y.trust.1, .int .i64 y.slots.1, .bool y.pre, .int .i64 y.phase.1, .int .i64 y.beat.1, .int .i64 y.till.1, .slice y.toksA y.toks.length y.toksC]), .int .i64 a.event.1, .int .i64 m.1] W fun e w' => ∃ A C A2 C2, e = .returned (.tuple #[(.agg #[.string Y.id.1, .slice A Y.labs.length C, .int .i64 Y.trust.1, .int .i64 Y.slots.1, .bool Y.pre, .int .i64 Y.phase.1, .int .i64 Y.beat.1, .int .i64 Y.till.1, .slice A2 Y.toks.length C2]), .int .i64 E]) ∧ OwnW w' W.heap.size (atW Y A C A2 C2) ∧ Below W.heap.size W w') := Lib.hid fun W hb => (step_any y a.event.1 m W (hlk.out W hb) hgoy.out.1 hgoy.out.2 (hgk.out W hb)).mono fun e w' ⟨A, C, A2, C2, h1, h2, h3⟩ => by
      rw [hY] at h1 h2
      rw [hE] at h1
      exact ⟨A, C, A2, C2, h1, h2, h3⟩
    replace hY := Lib.hid hY
    replace hE := Lib.hid hE
    replace hk0 := Lib.hid hk0
    go_wp2_with fail
    go_region_held3 (fun w' => (w'.cell? ⟨w.heap.size, 0, none⟩ = some (.string y.id.1) ∧ w'.cell? ⟨w.heap.size, 1, none⟩ = some (.slice y.labsA y.labs.length y.labsC) ∧ w'.cell? ⟨w.heap.size, 2, none⟩ = some (.int .i64 y.trust.1) ∧ w'.cell? ⟨w.heap.size, 3, none⟩ = some (.int .i64 y.slots.1) ∧ w'.cell? ⟨w.heap.size, 4, none⟩ = some (.bool y.pre) ∧ w'.cell? ⟨w.heap.size, 5, none⟩ = some (.int .i64 y.phase.1) ∧ w'.cell? ⟨w.heap.size, 6, none⟩ = some (.int .i64 y.beat.1) ∧ w'.cell? ⟨w.heap.size, 7, none⟩ = some (.int .i64 y.till.1) ∧ w'.cell? ⟨w.heap.size, 8, none⟩ = some (.slice y.toksA y.toks.length y.toksC)) ∧ w'.cell? ⟨g, o + k * 4 + 2, none⟩ = some (.int .i64 a.event.1)) (go_keep)
      (first
        | (go_at_call 16; go_must (refine (hst.out _ (by repeat (first | (with_reducible exact Below.refl _ _) | (with_reducible refine Below.drew ?_) | (with_reducible refine below_drewN ?_ _) | ((with_reducible refine Below.alloc ?_ ?_ _); rotate_left; focus ((try simp) <;> omega)) | ((with_reducible refine Below.setCell ?_ ?_ _); rotate_left; focus ((try simp) <;> omega)) | ((with_reducible refine Below.trans ?_ (Below.mono (by assumption) ?_)); rotate_left; focus ((try simp) <;> omega))))).mono ?_; rintro e w3 ⟨A1, C1, A2, C2, rfl, ho3, hb3⟩; have hz3 := hb3.size; (try simp at hz3); have hz3a : wr.heap.size < w3.heap.size := (by omega); have hz3b : w.heap.size < w3.heap.size := (by omega); have hz3c : g < w3.heap.size := (by omega); obtain ⟨hc3, hf3⟩ := blk_at hb3 w.heap.size (by (try simp) <;> omega); obtain ⟨hd3, hg3⟩ := blk_at hb3 g (by (try simp) <;> omega); obtain ⟨he3, hh3⟩ := blk_at hb3 wr.heap.size (by (try simp) <;> omega); obtain ⟨hu3, hv3⟩ := bcell hb3; have nh1 : w.heap.size ≠ w3.heap.size := (by omega); have nh2 : w3.heap.size ≠ w.heap.size := (by omega); have nh3 : g ≠ w3.heap.size := (by omega); have nh4 : w3.heap.size ≠ g := (by omega))))
    all_goals go_wp2_with fail
    all_goals go_meet
    all_goals
      refine ⟨wr.heap.size, atW Y A1 C1 A2 C2, rfl, Nat.le_refl _, by (try simp) <;> omega, hkY.out.at A1 C1 A2 C2, ?_, ⟨(by (try simp only [atW]); go_simp), (by (try simp only [atW]); go_simp), (by (try simp only [atW]); go_simp), (by (try simp only [atW]); go_simp), (by (try simp only [atW]); go_simp), (by (try simp only [atW]); go_simp), (by (try simp only [atW]); go_simp), (by (try simp only [atW]); go_simp), (by (try simp only [atW]); go_simp)⟩, by go_simp, (by repeat (first | (with_reducible exact Below.refl _ _) | (with_reducible refine Below.drew ?_) | (with_reducible refine below_drewN ?_ _) | ((with_reducible refine Below.alloc ?_ ?_ _); rotate_left; focus ((try simp) <;> omega)) | ((with_reducible refine Below.setCell ?_ ?_ _); rotate_left; focus ((try simp) <;> omega)) | ((with_reducible refine Below.trans ?_ (Below.mono (by assumption) ?_)); rotate_left; focus ((try simp) <;> omega))))⟩
      (refine Sep.own (B := wr.heap.size + 1) ⟨?_, ?_⟩ (by omega)
       · have hlt := ho3.1.lt
         (try simp at hlt)
         have hoo : Own sE 1 9 w3 (wr.heap.size + 1) (.slice A1 Y.labs.length C1) Y.labs := ho3.1.base (b' := wr.heap.size + 1) (by (try simp) <;> omega)
         show Own sE 1 _ _ _ (.slice A1 Y.labs.length C1) Y.labs
         (repeat (first
           | (with_reducible exact hoo)
           | (refine Own.setCell ?_ (fun g hg => by have := (hlt g hg).1; have := (hlt g hg).2; show g ≠ _; (try simp) <;> omega) _)
           | (with_reducible refine Own.alloc ?_ _)
           | (with_reducible refine Own.drew ?_)
           | (with_reducible refine Own.all ?_ (by assumption))))
       · have hlt := ho3.2.lt
         (try simp at hlt)
         have hoo : Own iE 1 3 w3 (wr.heap.size + 1) (.slice A2 Y.toks.length C2) Y.toks := ho3.2.base (b' := wr.heap.size + 1) (by (try simp) <;> omega)
         show Own iE 1 _ _ _ (.slice A2 Y.toks.length C2) Y.toks
         (repeat (first
           | (with_reducible exact hoo)
           | (refine Own.setCell ?_ (fun g hg => by have := (hlt g hg).1; have := (hlt g hg).2; show g ≠ _; (try simp) <;> omega) _)
           | (with_reducible refine Own.alloc ?_ _)
           | (with_reducible refine Own.drew ?_)
           | (with_reducible refine Own.all ?_ (by assumption)))))
  case rest =>
    obtain ⟨gn, Y, rfl, hgn, hgl, hkp, hsY, ⟨y0, y1, y2, y3, y4, y5, y6, y7, y8⟩, yf, hbx⟩ := hcut
    have hzx := hbx.size
    have hsz' : w.heap.size < wc.heap.size := by omega
    have neq1 : w.heap.size ≠ gn := by omega
    have neq2 : gn ≠ w.heap.size := by omega
    obtain ⟨p0, q0⟩ := blk_at hbx w.heap.size (by omega)
    have hgoY := hkp.good hgk2.out
    have hlY := hgoY.lab hok.out hnl.out.1
    have hbw' := Lib.hid (hbwk.out.trans (hbx.mono (by omega)))
    have hvY : Hid (∀ W, Below wc.heap.size wc W → Calls Tryd.prog 10 #[(.agg #[.string Y.id.1, .slice Y.labsA Y.labs.length Y.labsC, .int .i64 Y.trust.1, .int .i64 Y.slots.1, .bool Y.pre, .int .i64 Y.phase.1, .int .i64 Y.beat.1, .int .i64 Y.till.1, .slice Y.toksA Y.toks.length Y.toksC])] W fun e w' => e = .returned (.int .i64 0) ∧ Below W.heap.size W w') := Lib.hid fun W hb => by
      have h := wvalid_any Y W (hsY.below hb).lab hlY.1 (hG.out.keep (hbw'.out.trans (hb.mono (by omega))))
      rw [hkp.ok] at h
      exact h
    obtain ⟨F, hF⟩ : ∃ F, freeI Y m.1 = F := ⟨_, rfl⟩
    obtain ⟨fF0, fF1, fF2⟩ := free_in (now := m.1) hkp.ok
    rw [hF] at fF0 fF1 fF2
    have hfY : Hid (∀ W, Below wc.heap.size wc W → Calls Tryd.prog 21 #[(.agg #[.string Y.id.1, .slice Y.labsA Y.labs.length Y.labsC, .int .i64 Y.trust.1, .int .i64 Y.slots.1, .bool Y.pre, .int .i64 Y.phase.1, .int .i64 Y.beat.1, .int .i64 Y.till.1, .slice Y.toksA Y.toks.length Y.toksC]), .int .i64 m.1] W fun e w' => e = .returned (.int .i64 F) ∧ Below W.heap.size W w') := Lib.hid fun W hb => by
      have h := free_any Y m W (hsY.below hb).lab hlY.1 (hG.out.keep (hbw'.out.trans (hb.mono (by omega))))
      rw [hF] at h
      exact h
    have hlo0 : ∀ W, Calls Tryd.prog 19 #[(.agg #[.string Y.id.1, .slice Y.labsA Y.labs.length Y.labsC, .int .i64 Y.trust.1, .int .i64 Y.slots.1, .bool Y.pre, .int .i64 Y.phase.1, .int .i64 Y.beat.1, .int .i64 Y.till.1, .slice Y.toksA Y.toks.length Y.toksC]), .int .i64 m.1] W fun e w' => e = .returned (.bool (lostB Y m.1)) ∧ Below W.heap.size W w' := fun W => lost_any Y m W
    have rY := range_ok (wErr_ok hkp.ok).2.2.1
    have s1 : Y.slots.1 ≤ 64 := rY.2.2.2.1
    have k1 : ¬ Y.phase.1 < y.phase.1 := by have := hkp.phase; omega
    have k2 : (Y.id.1.toList == y.id.1.toList) = true := by rw [hkp.id]; simp
    have k3 : (Y.slots.1 != y.slots.1) = false := by rw [hkp.slots]; simp
    have k4 : ¬ Y.beat.1 < y.beat.1 := by have := hkp.beat; omega
    have k5 : ¬ F < 0 := by omega
    have k6 : ¬ F + (Y.toks.length : Int) > Y.slots.1 := by omega
    have hkp' := Lib.hid hkp
    have hsY' := Lib.hid hsY
    have hgoY' := Lib.hid hgoY
    clear hkp hsY hgoY hlY rY
    replace hF := Lib.hid hF
    rcases hlb : lostB Y m.1 with _ | _
    · skip
      rw [hlb] at hlo0
      have hlo := Lib.hid hlo0
      clear hlo0 fF2
      replace hlb := Lib.hid hlb
      go_wp2_with (first
        | (go_at_call 10; go_must (refine (hvY.out _ (by repeat (first | (with_reducible exact Below.refl _ _) | (with_reducible refine Below.drew ?_) | (with_reducible refine below_drewN ?_ _) | ((with_reducible refine Below.alloc ?_ ?_ _); rotate_left; focus ((try simp) <;> omega)) | ((with_reducible refine Below.setCell ?_ ?_ _); rotate_left; focus ((try simp) <;> omega)) | ((with_reducible refine Below.trans ?_ (Below.mono (by assumption) ?_)); rotate_left; focus ((try simp) <;> omega))))).mono ?_; rintro e w4 ⟨rfl, hb4⟩; have hz4 := hb4.size; (try simp at hz4); have hz4a : w.heap.size < w4.heap.size := (by omega); have hz4b : gn < w4.heap.size := (by omega); obtain ⟨hc4, hf4⟩ := blk_at hb4 w.heap.size (by (try simp) <;> omega); obtain ⟨hd4, hg4⟩ := blk_at hb4 gn (by (try simp) <;> omega)))
        | (go_at_call 21; go_must (refine (hfY.out _ (by repeat (first | (with_reducible exact Below.refl _ _) | (with_reducible refine Below.drew ?_) | (with_reducible refine below_drewN ?_ _) | ((with_reducible refine Below.alloc ?_ ?_ _); rotate_left; focus ((try simp) <;> omega)) | ((with_reducible refine Below.setCell ?_ ?_ _); rotate_left; focus ((try simp) <;> omega)) | ((with_reducible refine Below.trans ?_ (Below.mono (by assumption) ?_)); rotate_left; focus ((try simp) <;> omega))))).mono ?_; rintro e w5 ⟨rfl, hb5⟩; have hz5 := hb5.size; (try simp at hz5); have hz5a : w.heap.size < w5.heap.size := (by omega); have hz5b : gn < w5.heap.size := (by omega); obtain ⟨hc5, hf5⟩ := blk_at hb5 w.heap.size (by (try simp) <;> omega); obtain ⟨hd5, hg5⟩ := blk_at hb5 gn (by (try simp) <;> omega)))
        | (go_at_call 19; go_must (refine (hlo.out _).mono ?_; rintro e w6 ⟨rfl, hb6⟩; have hz6 := hb6.size; (try simp at hz6); have hz6a : w.heap.size < w6.heap.size := (by omega); have hz6b : gn < w6.heap.size := (by omega); obtain ⟨hc6, hf6⟩ := blk_at hb6 w.heap.size (by (try simp) <;> omega); obtain ⟨hd6, hg6⟩ := blk_at hb6 gn (by (try simp) <;> omega))))
      refine ⟨?_, by simp [Wmu, intOf]; omega⟩
      unfold WI
      (repeat apply Exists.intro)
      refine ⟨?rel, rfl⟩
      case rel =>
        have hbb := hbw'.out
        refine ⟨k + 1, m, Y, rfl, by go_num, by omega, hm0, hm1, hgoY'.out, ?_, ⟨(by (try simp only [atW]); go_simp), (by (try simp only [atW]); go_simp), (by (try simp only [atW]); go_simp), (by (try simp only [atW]); go_simp), (by (try simp only [atW]); go_simp), (by (try simp only [atW]); go_simp), (by (try simp only [atW]); go_simp), (by (try simp only [atW]); go_simp), (by (try simp only [atW]); go_simp)⟩, by go_simp, by (try simp) <;> omega, (by repeat (first | (with_reducible exact Below.refl _ _) | (with_reducible refine Below.drew ?_) | (with_reducible refine below_drewN ?_ _) | ((with_reducible refine Below.alloc ?_ ?_ _); rotate_left; focus ((try simp) <;> omega)) | ((with_reducible refine Below.setCell ?_ ?_ _); rotate_left; focus ((try simp) <;> omega)) | ((with_reducible refine Below.trans ?_ (Below.mono (by assumption) ?_)); rotate_left; focus ((try simp) <;> omega))))⟩
        repeat (with_reducible refine Sep.put ?_ _)
        exact hsY'.out.below (by repeat (first | (with_reducible exact Below.refl _ _) | (with_reducible refine Below.drew ?_) | (with_reducible refine below_drewN ?_ _) | ((with_reducible refine Below.alloc ?_ ?_ _); rotate_left; focus ((try simp) <;> omega)) | ((with_reducible refine Below.setCell ?_ ?_ _); rotate_left; focus ((try simp) <;> omega)) | ((with_reducible refine Below.trans ?_ (Below.mono (by assumption) ?_)); rotate_left; focus ((try simp) <;> omega))))
    · skip
      rw [hlb] at hlo0
      have hlo := Lib.hid hlo0
      clear hlo0
      obtain rfl : F = 0 := fF2 hlb
      clear fF2
      replace hlb := Lib.hid hlb
      go_wp2_with (first
        | (go_at_call 10; go_must (refine (hvY.out _ (by repeat (first | (with_reducible exact Below.refl _ _) | (with_reducible refine Below.drew ?_) | (with_reducible refine below_drewN ?_ _) | ((with_reducible refine Below.alloc ?_ ?_ _); rotate_left; focus ((try simp) <;> omega)) | ((with_reducible refine Below.setCell ?_ ?_ _); rotate_left; focus ((try simp) <;> omega)) | ((with_reducible refine Below.trans ?_ (Below.mono (by assumption) ?_)); rotate_left; focus ((try simp) <;> omega))))).mono ?_; rintro e w4 ⟨rfl, hb4⟩; have hz4 := hb4.size; (try simp at hz4); have hz4a : w.heap.size < w4.heap.size := (by omega); have hz4b : gn < w4.heap.size := (by omega); obtain ⟨hc4, hf4⟩ := blk_at hb4 w.heap.size (by (try simp) <;> omega); obtain ⟨hd4, hg4⟩ := blk_at hb4 gn (by (try simp) <;> omega)))
        | (go_at_call 21; go_must (refine (hfY.out _ (by repeat (first | (with_reducible exact Below.refl _ _) | (with_reducible refine Below.drew ?_) | (with_reducible refine below_drewN ?_ _) | ((with_reducible refine Below.alloc ?_ ?_ _); rotate_left; focus ((try simp) <;> omega)) | ((with_reducible refine Below.setCell ?_ ?_ _); rotate_left; focus ((try simp) <;> omega)) | ((with_reducible refine Below.trans ?_ (Below.mono (by assumption) ?_)); rotate_left; focus ((try simp) <;> omega))))).mono ?_; rintro e w5 ⟨rfl, hb5⟩; have hz5 := hb5.size; (try simp at hz5); have hz5a : w.heap.size < w5.heap.size := (by omega); have hz5b : gn < w5.heap.size := (by omega); obtain ⟨hc5, hf5⟩ := blk_at hb5 w.heap.size (by (try simp) <;> omega); obtain ⟨hd5, hg5⟩ := blk_at hb5 gn (by (try simp) <;> omega)))
        | (go_at_call 19; go_must (refine (hlo.out _).mono ?_; rintro e w6 ⟨rfl, hb6⟩; have hz6 := hb6.size; (try simp at hz6); have hz6a : w.heap.size < w6.heap.size := (by omega); have hz6b : gn < w6.heap.size := (by omega); obtain ⟨hc6, hf6⟩ := blk_at hb6 w.heap.size (by (try simp) <;> omega); obtain ⟨hd6, hg6⟩ := blk_at hb6 gn (by (try simp) <;> omega))))
      refine ⟨?_, by simp [Wmu, intOf]; omega⟩
      unfold WI
      (repeat apply Exists.intro)
      refine ⟨?rel, rfl⟩
      case rel =>
        have hbb := hbw'.out
        refine ⟨k + 1, m, Y, rfl, by go_num, by omega, hm0, hm1, hgoY'.out, ?_, ⟨(by (try simp only [atW]); go_simp), (by (try simp only [atW]); go_simp), (by (try simp only [atW]); go_simp), (by (try simp only [atW]); go_simp), (by (try simp only [atW]); go_simp), (by (try simp only [atW]); go_simp), (by (try simp only [atW]); go_simp), (by (try simp only [atW]); go_simp), (by (try simp only [atW]); go_simp)⟩, by go_simp, by (try simp) <;> omega, (by repeat (first | (with_reducible exact Below.refl _ _) | (with_reducible refine Below.drew ?_) | (with_reducible refine below_drewN ?_ _) | ((with_reducible refine Below.alloc ?_ ?_ _); rotate_left; focus ((try simp) <;> omega)) | ((with_reducible refine Below.setCell ?_ ?_ _); rotate_left; focus ((try simp) <;> omega)) | ((with_reducible refine Below.trans ?_ (Below.mono (by assumption) ?_)); rotate_left; focus ((try simp) <;> omega))))⟩
        repeat (with_reducible refine Sep.put ?_ _)
        exact hsY'.out.below (by repeat (first | (with_reducible exact Below.refl _ _) | (with_reducible refine Below.drew ?_) | (with_reducible refine below_drewN ?_ _) | ((with_reducible refine Below.alloc ?_ ?_ _); rotate_left; focus ((try simp) <;> omega)) | ((with_reducible refine Below.setCell ?_ ?_ _); rotate_left; focus ((try simp) <;> omega)) | ((with_reducible refine Below.trans ?_ (Below.mono (by assumption) ?_)); rotate_left; focus ((try simp) <;> omega))))
end Go.Proofs.YtnahbfmbmpoljaaDoor.workerPlays
